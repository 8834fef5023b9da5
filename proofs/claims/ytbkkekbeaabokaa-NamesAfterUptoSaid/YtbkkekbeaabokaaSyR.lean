/- Sy, part R: a loop over a function. -/
import Derived.Test.YtbkkekbeaabokaaSyO
set_option linter.unusedVariables false
set_option linter.unusedSimpArgs false
namespace Go.Proofs.Ytbkkekbeaabokaa.Sx
open Go Go.RowKit

variable {P : Program} {pr : Pr} {β : Bs} {w w' : World} {ι ι' : Nat → Loc} {s s' s2 : S} {a : Act} {N : Nat}

abbrev Hl := Nat → Option Obj
/-- A piece of the heap after a round: what was there, and what is new. -/
def nextF (l : Nat) (FI : Hl) (W W3 : World) : Hl := fun B => open Classical in if B ≠ l ∧ (FI B ≠ none ∨ W.heap.size ≤ B) then W3.heap[B]? else none
theorem nextF_some {l : Nat} {FI : Hl} {W W3 : World} {B : Nat} {o : Obj} (h : nextF l FI W W3 B = some o) : B ≠ l ∧ (FI B ≠ none ∨ W.heap.size ≤ B) ∧ W3.heap[B]? = some o := by
  unfold nextF at h
  split at h
  · rename_i hc; exact ⟨hc.1, hc.2, h⟩
  · cases h
theorem nextF_eq {l : Nat} {FI : Hl} {W W3 : World} {B : Nat} (h1 : B ≠ l) (h2 : FI B ≠ none ∨ W.heap.size ≤ B) : nextF l FI W W3 B = W3.heap[B]? := by
  unfold nextF
  rw [if_pos ⟨h1, h2⟩]

/-- What has been kept since W1, but for the piece F0 and the record l. -/
structure Since (l : Nat) (F0 : Hl) (W1 W : World) : Prop where
  os : W.os = W1.os
  tape : W.tape = W1.tape
  output : W.output = W1.output
  size : W1.heap.size ≤ W.heap.size
  same : ∀ B, B < W1.heap.size → B ≠ l → F0 B = none → W.heap[B]? = W1.heap[B]?
def recOf (fn : FuncId) (tmps : Array Value) (ps : Array Tmp) (assign body : Code) (dd : Nat) (st : LoopState) (pe : Option Code) : Loop := { state := st, pending := pe, fn := fn, tmps := tmps, params := ps, assign := assign, body := body, defers := dd }

/-- How a round may end. -/
structure RPost (l : Nat) (r : Loop) (FI : Hl) (W : World) (W3 : World) : Prop where
  os : W3.os = W.os
  tape : W3.tape = W.tape
  output : W3.output = W.output
  size : W.heap.size ≤ W3.heap.size
  same : ∀ B, B < W.heap.size → B ≠ l → FI B = none → W3.heap[B]? = W.heap[B]?
  rec_ : W3.heap[l]? = some (.loop r)
def rpost (l : Nat) (r : Loop) (FI : Hl) (W : World) (J : Hl → Prop) (Jx : Code → Hl → Prop) : Exit → Act → World → Prop
  | .normal, _, W3 => RPost l r FI W W3 ∧ J (nextF l FI W W3)
  | .ret, _, W3 => RPost l r FI W W3 ∧ Jx .ret (nextF l FI W W3)
  | .exit id, _, W3 => RPost l r FI W W3 ∧ Jx (.exit id) (nextF l FI W W3)
  | _, _, _ => False

theorem range_core {g : FuncId} {caps : List Dat} {xs : List (List Dat)} (hIt : Iter P g caps xs) {ok : Nat → Prop} {cvs : List Value} {W1 : World} {l fn : Nat} {tmps : Array Value} {ps : Array Tmp} {assign body : Code} {dd : Nat}
    (hl1 : W1.heap[l]? = some (.loop (recOf fn tmps ps assign body dd .ready none))) (F0 : Hl) (hF0 : ∀ B o, F0 B = some o → W1.heap[B]? = some o) (hFl : F0 l = none) (hok : ∀ B, ok B → B < W1.heap.size ∧ F0 B = none ∧ B ≠ l)
    (hcl : cvs.length = caps.length) (hcv : ∀ j e, caps[j]? = some e → DatR ok W1 e (cvs.getD j undef)) (hps : ∀ (i : Nat) (x : List Dat), xs[i]? = some x → x.length = ps.size)
    (J : Nat → Hl → Prop) (Jx : Code → Hl → Prop) (hJ0 : J 0 F0) (hJF : ∀ i F, J i F → F l = none)
    (hround : ∀ (i : Nat) (x : List Dat) (FI : Hl) (W : World) (vs : List Value), J i FI → (∀ B o, FI B = some o → W.heap[B]? = some o) → (∀ B, F0 B ≠ none → FI B ≠ none) → (∀ B, FI B ≠ none → F0 B ≠ none ∨ W1.heap.size ≤ B) → Since l F0 W1 W → W.heap[l]? = some (.loop (recOf fn tmps ps assign body dd .ready none)) → xs[i]? = some x → vs.length = x.length →
      (∀ j e, x[j]? = some e → DatR (fun B => B < W.heap.size ∧ FI B = none ∧ B ≠ l) W e (vs.getD j undef)) →
      assign.wpIn (FW (some l)) 0 P (Exit.then (fun a1 w1 => w1.heap[l]? = some (.loop (recOf fn tmps ps assign body dd .ready none)) ∧ body.wpIn (FW (some l)) 0 P (rpost l (recOf fn tmps ps assign body dd .busy none) FI W (J (i + 1)) Jx) a1 (w1.putObj l (.loop (recOf fn tmps ps assign body dd .busy none)))) (fun _ _ _ => False))
        { tmps := (ps.zip vs.toArray).foldl (fun t (p, v) => t.setIfInBounds p v) tmps, defers := [] } W) :
    Calls P g (.func (.yield l) #[] #[] :: cvs).toArray W1 fun e W' => (∃ v, e = .returned v) ∧ ∃ F' jump, Since l F0 W1 W' ∧ (∀ B o, F' B = some o → W'.heap[B]? = some o) ∧ (∀ B, F0 B ≠ none → F' B ≠ none) ∧ (∀ B, F' B ≠ none → F0 B ≠ none ∨ W1.heap.size ≤ B) ∧
      ((jump = none ∧ J xs.length F' ∧ W'.heap[l]? = some (.loop (recOf fn tmps ps assign body dd .ready none))) ∨ ∃ c, jump = some c ∧ Jx c F' ∧ W'.heap[l]? = some (.loop (recOf fn tmps ps assign body dd .done (some c)))) := by
  obtain ⟨rec, hrec⟩ : ∃ rec, rec = recOf fn tmps ps assign body dd := ⟨_, rfl⟩
  rw [← hrec] at hl1 hround ⊢
  have hll : l < W1.heap.size := getElem?_lt hl1
  -- the piece with the record
  obtain ⟨F0l, hF0l⟩ : ∃ F0l : Hl, F0l = fun B => if B = l then some (.loop (rec .ready none)) else F0 B := ⟨_, rfl⟩
  have without : ∀ {X : Hl} {o : Obj} {B : Nat}, (fun B => if B = l then some o else X B) B = if B = l then some o else X B := rfl
  obtain ⟨σ, hσ⟩ : ∃ σ : Sit, σ = { Θ := fun i FL => ∃ F, (∀ B, B ≠ l → FL B = F B) ∧ (∀ B, F0 B ≠ none → F B ≠ none) ∧ (∀ B, F B ≠ none → F0 B ≠ none ∨ W1.heap.size ≤ B) ∧ ((i ≤ xs.length ∧ FL l = some (.loop (rec .ready none)) ∧ J i F) ∨ (i = xs.length + 1 ∧ ∃ c, FL l = some (.loop (rec .done (some c))) ∧ F l = none ∧ Jx c F)), V := fun _ => True, Z := fun B => if (F0l B).isSome then none else W1.heap[B]?, e := W1, gv := fun _ => undef, dfs := [] } := ⟨_, rfl⟩
  have hF0lB : ∀ B, B ≠ l → F0l B = F0 B := fun B hB => by rw [hF0l]; simp [hB]
  have hF0ll : F0l l = some (.loop (rec .ready none)) := by rw [hF0l]; simp
  have hZ : ∀ {B : Nat} {o : Obj}, B < W1.heap.size → B ≠ l → F0 B = none → W1.heap[B]? = some o → σ.Z B = some o := by
    intro B o h1 h2 h3 h4
    rw [hσ]
    simp only [hF0lB B h2, h3, Option.isSome_none, Bool.false_eq_true, if_false]
    exact h4
  have sinceOf : ∀ {W : World}, (∀ B o, σ.Z B = some o → W.heap[B]? = some o) → W.os = W1.os → W.tape = W1.tape → W.output = W1.output → W1.heap.size ≤ W.heap.size → Since l F0 W1 W := by
    intro W hk h1 h2 h3 h4
    refine ⟨h1, h2, h3, h4, fun B hB hne h0 => ?_⟩
    obtain ⟨o, ho⟩ : ∃ o, W1.heap[B]? = some o := ⟨_, Array.getElem?_eq_getElem hB⟩
    rw [ho]
    exact hk B o (hZ hB hne h0 ho)
  have hY : YR P σ l xs := by
    intro i x FL W vs hΘ hkept henv hx hvl hv
    have hΘ' := hΘ
    rw [hσ] at hΘ' henv
    obtain ⟨FI, hFL, h01, h02, hcase⟩ := hΘ'
    have hin : i < xs.length := (List.getElem?_eq_some_iff.1 hx).1
    rcases hcase with ⟨_, hrl, hJ⟩ | ⟨hi, _⟩
    · have hFIl := hJF i FI hJ
      have hWl : W.heap[l]? = some (.loop (rec .ready none)) := hkept l _ (.inr hrl)
      have hlW : l < W.heap.size := getElem?_lt hWl
      have hS : Since l F0 W1 W := sinceOf (fun B o hz => hkept B o (.inl hz)) henv.1 henv.2.1 henv.2.2.1 henv.2.2.2
      have hFIW : ∀ B o, FI B = some o → W.heap[B]? = some o := fun B o hB => by
        by_cases e : B = l
        · subst e; rw [hFIl] at hB; cases hB
        · exact hkept B o (.inr (by rw [hFL B e]; exact hB))
      have hy : (Instr.yield l vs.toArray).run P W = .ok (.round l fn ((ps.zip vs.toArray).foldl (fun t (p, v) => t.setIfInBounds p v) tmps) assign body) W := by
        have := run_yield (P := P) (args := vs.toArray) hWl (by rw [hrec]; simp [recOf, hvl, hps i x hx])
        rw [hrec] at this
        exact this
      refine ⟨fn, _, assign, body, hy, roundIn_of_wpIn (F := Fence.wide) trivial ?_⟩
      refine wpIn_mono (hround i x FI W vs hJ hFIW h01 h02 hS hWl hx hvl (fun j e hj => (hv j e hj).mono (fun B hB => ⟨hB.1, by
        by_cases e : B = l
        · subst e; have := hB.2; rw [hrl] at this; cases this
        · exact ⟨by rw [← hFL B e]; exact hB.2, e⟩⟩) (fun _ _ => rfl))) ?_
      intro e a1 w1 hq
      cases e with
      | normal =>
        obtain ⟨hw1, hb⟩ := hq
        refine ⟨_, run_beginRound hw1 (by rw [hrec]; rfl), ?_⟩
        have hb' : body.wpIn (FW (some l)) 0 P (rpost l (rec .busy none) FI W (J (i + 1)) Jx) a1 (w1.putObj l (.loop { rec .ready none with state := .busy })) := by
          have e1 : ({ rec .ready none with state := .busy } : Loop) = rec .busy none := by rw [hrec]; rfl
          rw [e1]; exact hb
        refine wpIn_mono hb' ?_
        intro e a3 W3 hq
        -- what comes behind the record's last turn
        have fin : ∀ (jump : Option Code), RPost l (rec .busy none) FI W W3 → ∃ W4, (Instr.endRound l jump).run P W3 = .ok (.bool jump.isNone) W4 ∧ ∃ F', Turn FL F' W W4 ∧ F' l = some (.loop (rec (if jump.isNone then .ready else .done) jump)) ∧ (∀ B, B ≠ l → F' B = nextF l FI W W3 B) ∧ (∀ B, F0 B ≠ none → nextF l FI W W3 B ≠ none) ∧ (∀ B, nextF l FI W W3 B ≠ none → F0 B ≠ none ∨ W1.heap.size ≤ B) := by
          intro jump hp
          have h3 : W3.heap[l]? = some (.loop (rec .busy none)) := hp.rec_
          have hl3 : l < W3.heap.size := getElem?_lt h3
          have e1 : ({ rec .busy none with state := if jump.isNone then .ready else .done, pending := jump } : Loop) = rec (if jump.isNone then .ready else .done) jump := by rw [hrec]; rfl
          have hr := run_endRound (P := P) jump h3
          rw [e1] at hr
          refine ⟨_, hr, fun B => if B = l then some (.loop (rec (if jump.isNone then .ready else .done) jump)) else nextF l FI W W3 B, ⟨hp.os, hp.tape, hp.output, by rw [World.putObj_size]; exact hp.size, fun B hB h0 => ?_, fun B o hB => ?_, fun B hB => ?_⟩, by simp, fun B hB => by simp [hB], fun B hB => ?_, fun B hB => ?_⟩
          · have hne : B ≠ l := fun e => by subst e; rw [hrl] at h0; cases h0
            rw [World.putObj_heap_other hne]
            exact hp.same B hB hne (by rw [← hFL B hne]; exact h0)
          · by_cases e : B = l
            · subst e
              simp only [if_true] at hB
              rw [World.putObj_heap_same hl3]
              exact hB
            · simp only [e, if_false] at hB
              rw [World.putObj_heap_other e]
              exact (nextF_some hB).2.2
          · by_cases e : B = l
            · subst e; exact .inl (by rw [hrl]; simp)
            · simp only [e, if_false] at hB
              cases hn : nextF l FI W W3 B with
              | none => exact absurd hn hB
              | some o => rw [hFL B e]; exact (nextF_some hn).2.1
          · have hFI := h01 B hB
            have hne : B ≠ l := fun e => by subst e; exact hFI hFIl
            rw [nextF_eq hne (.inl hFI)]
            obtain ⟨o, ho⟩ : ∃ o, FI B = some o := Option.ne_none_iff_exists'.1 hFI
            have : B < W.heap.size := getElem?_lt (hFIW B o ho)
            have : B < W3.heap.size := Nat.lt_of_lt_of_le this hp.size
            rw [Array.getElem?_eq_getElem this]; simp
          · cases hn : nextF l FI W W3 B with
            | none => exact absurd hn hB
            | some o =>
              rcases (nextF_some hn).2.1 with k | k
              · exact h02 B k
              · exact .inr (Nat.le_trans hS.size k)
        have nl : nextF l FI W W3 l = none := by unfold nextF; rw [if_neg]; exact fun h => h.1 rfl
        cases e with
        | normal =>
          obtain ⟨hp, hJ'⟩ := hq
          obtain ⟨W4, hr, F', hT, k1, k2, k3, k4⟩ := fin none hp
          exact ⟨_, W4, hr, F', hT, .inl ⟨rfl, by rw [hσ]; exact ⟨_, k2, k3, k4, .inl ⟨by omega, k1, hJ'⟩⟩⟩⟩
        | ret =>
          obtain ⟨hp, hJ'⟩ := hq
          obtain ⟨W4, hr, F', hT, k1, k2, k3, k4⟩ := fin (some .ret) hp
          exact ⟨_, W4, hr, F', hT, .inr ⟨rfl, by rw [hσ]; exact ⟨_, k2, k3, k4, .inr ⟨rfl, .ret, k1, nl, hJ'⟩⟩⟩⟩
        | exit id =>
          obtain ⟨hp, hJ'⟩ := hq
          obtain ⟨W4, hr, F', hT, k1, k2, k3, k4⟩ := fin (some (.exit id)) hp
          exact ⟨_, W4, hr, F', hT, .inr ⟨rfl, by rw [hσ]; exact ⟨_, k2, k3, k4, .inr ⟨rfl, .exit id, k1, nl, hJ'⟩⟩⟩⟩
        | goto t => exact hq.elim
        | panic ch => exact hq.elim
        | outgrown => exact hq.elim
      | exit id => exact hq.elim
      | goto t => exact hq.elim
      | ret => exact hq.elim
      | panic ch => exact hq.elim
      | outgrown => exact hq.elim
    · omega
  refine Calls.mono (hIt.calls ok σ F0l l W1 cvs (fun B hB => ⟨(hok B hB).1, by rw [hF0lB B (hok B hB).2.2]; exact (hok B hB).2.1⟩) ?_ (fun B o hB => ?_) (by rw [hσ]) (by rw [hσ]) hY hcl hcv) ?_
  · rw [hσ]
    exact ⟨F0, hF0lB, fun B h => h, fun B h => .inl h, .inl ⟨Nat.zero_le _, hF0ll, hJ0⟩⟩
  · by_cases e : B = l
    · subst e; rw [hF0ll] at hB; rw [← hB]; exact hl1
    · rw [hF0lB B e] at hB; exact hF0 B o hB
  · rintro e W' ⟨hv, FL, hΘ, hT⟩
    have hS : Since l F0 W1 W' := ⟨hT.os, hT.tape, hT.output, hT.size, fun B hB hne h0 => hT.same B hB (by rw [hF0lB B hne]; exact h0)⟩
    refine ⟨hv, ?_⟩
    rw [hσ] at hΘ
    rcases hΘ with ⟨F, k1, k2, k3, hc⟩ | ⟨F, k1, k2, k3, hc⟩
    · rcases hc with ⟨_, hr, hJ⟩ | ⟨hc, _⟩
      · have hFl' := hJF _ _ hJ
        exact ⟨F, none, hS, fun B o hB => hT.has B o (by
          have : B ≠ l := fun e => by subst e; rw [hFl'] at hB; cases hB
          rw [k1 B this]; exact hB), k2, k3, .inl ⟨rfl, hJ, hT.has l _ hr⟩⟩
      · omega
    · rcases hc with ⟨hc, _⟩ | ⟨_, c, hr, hFl', hJ⟩
      · omega
      · exact ⟨F, some c, hS, fun B o hB => hT.has B o (by
          have : B ≠ l := fun e => by subst e; rw [hFl'] at hB; cases hB
          rw [k1 B this]; exact hB), k2, k3, .inr ⟨c, rfl, hJ, hT.has l _ hr⟩⟩

/-! ### A state, seen from another ground -/
theorem carry {G G' : Nat → Prop} {nx : Nat} (hok : ∀ B, okB G ι w B → okB G' ι w' B ∧ w'.heap[B]? = w.heap[B]?) (hown : ∀ b B, ι b = .at B → w'.heap[B]? = w.heap[B]?) :
    (∀ d v, RelD G ι nx w d v → RelD G' ι nx w' d v) ∧ (∀ b o, RelO G ι nx w b o → RelO G' ι nx w' b o) := by
  have r1 : Ren some G ι nx (fun B => okB G ι w B) ι nx w := ⟨fun B hB => ⟨⟨hB.1.1, hB⟩, hB.2⟩, fun b b' hb e => by injection e with e; subst e; exact ⟨hb, rfl⟩⟩
  have f : Fr (fun B => okB G ι w B) ι nx w ι nx w' := ⟨Nat.le_refl _, fun B hB => ⟨⟨⟨(hok B hB.1.2).1.1.1, hB.1.2⟩, hB.2⟩, (hok B hB.1.2).2⟩, fun b _ => .inr ⟨rfl, fun B hB C t hC => ⟨C, (hown b B hB).trans hC, rfl⟩⟩⟩
  have r2 : Ren some (fun B => okB G ι w B) ι nx G' ι nx w' := ⟨fun B hB => (hok B hB.1.2).1, fun b b' hb e => by injection e with e; subst e; exact ⟨hb, rfl⟩⟩
  exact ⟨fun d v h => r2.relD (f.relD (r1.relD h (mp_id _))) (mp_id _), fun b o h => r2.relO (f.relO (r1.relO h rfl (mpO_id _)) rfl (fun B hB => hown b B hB)) rfl (mpO_id _)⟩

theorem Rel.rb (h : Rel β ι s a w N) {β' : Bs} {a' : Act} (hok : ∀ B, okB β.G ι w B → okB β'.G ι w' B ∧ w'.heap[B]? = w.heap[B]?) (hown : ∀ b B, ι b = .at B → w'.heap[B]? = w.heap[B]?) (hhp : s'.hp = s.hp) (hnx : s'.nx = s.nx)
    (env : w'.os = β'.e.os ∧ w'.tape = β'.e.tape ∧ w'.output = β'.e.output ∧ β'.e.heap.size ≤ w'.heap.size) (kept : ∀ B o, (β'.Z B = some o ∨ β'.F B = some o) → w'.heap[B]? = some o) (apart : ∀ B, β'.Z B ≠ none → β'.F B = none ∧ B ∉ β'.Ds) (size : a'.tmps.size = N)
    (marks : a'.defers = β'.Ds.map mark ++ β'.dfs ∧ β'.Ds.Nodup ∧ ∀ D ∈ β'.Ds, w'.heap[D]? = some (.deferred (some [])) ∧ β'.F D = none)
    (slots : (∀ d v, RelD β.G ι s.nx w d v → RelD β'.G ι s.nx w' d v) → ∀ t d, lk t s'.sl = some d → t < N ∧ RelD β'.G ι s.nx w' d (a'.tmps.getD t undef)) (ghosts : (∀ d v, RelD β.G ι s.nx w d v → RelD β'.G ι s.nx w' d v) → ∀ t d, lk t s'.gh = some d → RelD β'.G ι s.nx w' d (β'.gv t))
    (inside : ∀ b B, ι b = .at B → β'.Q B) (gr : ∀ B, ((∃ b, ι b = .at B) ∨ w'.heap.size ≤ B) → β'.S B) : Rel β' ι s' a' w' N := by
  obtain ⟨c1, c2⟩ := carry (nx := s.nx) hok hown
  refine ⟨env, kept, apart, size, marks, by rw [hnx]; exact slots c1, by rw [hnx]; exact ghosts c1, fun b o hb => by rw [hnx]; exact c2 b o (h.heap b o (by rw [← hhp]; exact hb)), fun b B hb => ⟨getElem?_lt ((hown b B hb).trans (Array.getElem?_eq_getElem (h.inside b B hb).1)), inside b B hb⟩, h.inj, fun b hb => h.dead b (by rw [← hhp]; exact hb), fun b hb => by rw [hhp]; exact h.fresh b (by rw [← hnx]; exact hb), gr⟩

/-- The loop is entered: its record lies, and at an outermost loop the block for deferred calls. -/
theorem enter_ok {σ : Sit} (hσ : pr.Ok P σ) {F : Hl} {Ds : List Nat} (hR : Rel (σ.at F Ds) ι s a w N) (fn : FuncId) (ps : Array Tmp) (assign body : Code) :
    ∃ (l : Nat) (mk : List Deferred) (W1 : World) (Ds1 : List Nat) (dd : Nat), (Instr.enterLoop fn a.tmps ps assign body pr.round).run P w = .ok (l, mk) W1 ∧ Rel (σ.at F Ds1) ι s { a with defers := mk ++ a.defers } W1 N ∧
      W1.heap[l]? = some (.loop (recOf fn a.tmps ps assign body dd .ready none)) ∧ w.heap.size ≤ l ∧ l ∉ Ds1 ∧ Below w.heap.size w W1 ∧ ∀ D ∈ Ds1, D ∈ Ds ∨ w.heap.size ≤ D := by
  cases hro : pr.round with
  | none =>
    obtain ⟨W1, hW1⟩ : ∃ W1, (w.alloc (.deferred (some []))).alloc (.loop (recOf fn a.tmps ps assign body w.heap.size .ready none)) = W1 := ⟨_, rfl⟩
    have hb : Below w.heap.size w W1 := by rw [← hW1]; exact ((Below.refl _ w).alloc (Nat.le_refl _) _).alloc (by simp) _
    have hsz : W1.heap.size = w.heap.size + 2 := by rw [← hW1]; simp [World.size_alloc]
    have hL : W1.heap[w.heap.size + 1]? = some (.loop (recOf fn a.tmps ps assign body w.heap.size .ready none)) := by
      rw [← hW1]; have := World.alloc_heap_new (w.alloc (.deferred (some []))) (.loop (recOf fn a.tmps ps assign body w.heap.size .ready none)); rwa [World.size_alloc] at this
    have hK : W1.heap[w.heap.size]? = some (.deferred (some [])) := by
      rw [← hW1]; exact (Below.heap_alloc _ _ _ (by simp)).trans (World.alloc_heap_new w _)
    have hDlt : ∀ D ∈ Ds, D < w.heap.size := fun D hD => getElem?_lt (hR.marks.2.2 D hD).1
    refine ⟨w.heap.size + 1, [mark w.heap.size], W1, w.heap.size :: Ds, w.heap.size, by rw [← hW1]; exact run_enterLoop_outer _ _ _ _ _, ?_, hL, by omega, ?_, hb, fun D hD => by simp only [List.mem_cons] at hD; rcases hD with rfl | hD; exact .inr (Nat.le_refl _); exact .inl hD⟩
    · have hout := hR.out (Nat.le_refl w.heap.size)
      refine hR.rb (β' := σ.at F (w.heap.size :: Ds)) (fun B hB => ⟨⟨⟨Nat.lt_of_lt_of_le hB.1.1 hb.size, hB.1.2.1, hB.1.2.2.1, by
          have h1 := hB.1.1
          have h2 := hB.1.2.2.2
          simp only [Sit.at, List.mem_cons, not_or] at h2 ⊢
          exact ⟨by omega, h2⟩⟩, hB.2⟩, hb.block B hB.1.1⟩) (fun b B hB => hb.block B (hR.inside b B hB).1) rfl rfl
        ⟨hb.os.trans hR.env.1, hb.tape.trans hR.env.2.1, hb.output.trans hR.env.2.2.1, Nat.le_trans hR.env.2.2.2 hb.size⟩ (fun B o hz => ?_) (fun B hz => ?_) hR.size ?_ (fun c t d ht => ⟨(hR.slots t d ht).1, c _ _ (hR.slots t d ht).2⟩) (fun c t d ht => c _ _ (hR.ghosts t d ht)) (fun b B hB => ?_) (fun B hB => ?_)
      · have := hR.kept B o hz
        exact (hb.block B (getElem?_lt this)).trans this
      · obtain ⟨h1, h2⟩ := hR.apart B hz
        refine ⟨h1, fun hm => ?_⟩
        simp only [Sit.at, List.mem_cons] at hm
        rcases hm with rfl | hm
        · exact hz hout.1
        · exact h2 hm
      · refine ⟨by simp [Sit.at, hR.marks.1], ?_, fun D hD => ?_⟩
        · simp only [Sit.at, List.nodup_cons]
          exact ⟨fun hm => by have := hDlt _ hm; omega, hR.marks.2.1⟩
        · simp only [Sit.at, List.mem_cons] at hD
          rcases hD with rfl | hD
          · exact ⟨hK, hout.2.1⟩
          · obtain ⟨h1, h2⟩ := hR.marks.2.2 D hD
            exact ⟨(hb.block D (getElem?_lt h1)).trans h1, h2⟩
      · obtain ⟨h1, h2, h3, h4⟩ := hR.inside b B hB
        refine ⟨h2, h3, fun hm => ?_⟩
        simp only [Sit.at, List.mem_cons] at hm
        rcases hm with rfl | hm
        · omega
        · exact h4 hm
      · rcases hB with hB | hB
        · exact hR.gr B (.inl hB)
        · exact hR.gr B (.inr (by omega))
    · simp only [List.mem_cons, not_or]
      exact ⟨by omega, fun hm => by have := hDlt _ hm; omega⟩
  | some l0 =>
    obtain ⟨r0, hr0⟩ := hσ.loop l0 hro
    have hl0 : w.heap[l0]? = some (.loop r0) := hR.kept l0 _ (.inl hr0)
    obtain ⟨W1, hW1⟩ : ∃ W1, w.alloc (.loop (recOf fn a.tmps ps assign body r0.defers .ready none)) = W1 := ⟨_, rfl⟩
    have hb : Below w.heap.size w W1 := by rw [← hW1]; exact (Below.refl _ w).alloc (Nat.le_refl _) _
    have hL : W1.heap[w.heap.size]? = some (.loop (recOf fn a.tmps ps assign body r0.defers .ready none)) := by rw [← hW1]; exact World.alloc_heap_new w _
    refine ⟨w.heap.size, [], W1, Ds, r0.defers, by rw [← hW1]; exact run_enterLoop_inner hl0 _ _ _ _ _, hR.below hb, hL, Nat.le_refl _, fun hm => by have := getElem?_lt (hR.marks.2.2 _ hm).1; omega, hb, fun D hD => .inl hD⟩

/-! ### The variables of a round -/
def parSl : List Tmp → List Dat → List (Nat × D) → List (Nat × D)
  | q :: ps, d :: ds, l => parSl ps ds (up q (.dat d) l)
  | _, _, l => l
theorem par_slots {R : D → Value → Prop} : ∀ (ps : List Tmp) (x : List Dat) (vs : List Value) (tm : Array Value) (sl : List (Nat × D)), (∀ q ∈ ps, q < N) → tm.size = N → vs.length = x.length → ps.length = x.length →
    (∀ j e, x[j]? = some e → R (.dat e) (vs.getD j undef)) → (∀ t d, lk t sl = some d → t < N ∧ R d (tm.getD t undef)) → ((ps.zip vs).foldl (fun t (p, v) => t.setIfInBounds p v) tm).size = N ∧ ∀ t d, lk t (parSl ps x sl) = some d → t < N ∧ R d (((ps.zip vs).foldl (fun t (p, v) => t.setIfInBounds p v) tm).getD t undef)
  | [], x, vs, tm, sl, _, hs, _, hl, _, h => by
    have : x = [] := by cases x with | nil => rfl | cons => simp at hl
    subst this
    exact ⟨hs, h⟩
  | q :: ps, [], vs, tm, sl, _, _, _, hl, _, _ => by simp at hl
  | q :: ps, d :: x, [], tm, sl, _, _, hv, _, _, _ => by simp at hv
  | q :: ps, d :: x, v :: vs, tm, sl, hq, hs, hv, hl, hx, h => by
    simp only [List.zip_cons_cons, List.foldl_cons, parSl]
    refine par_slots ps x vs _ _ (fun q' hq' => hq q' (by simp [hq'])) (by simp [hs]) (by simpa using hv) (by simpa using hl) (fun j e hj => by simpa using hx (j + 1) e (by simpa using hj)) (fun t d' ht => ?_)
    rw [lk_up] at ht
    have hqN := hq q (by simp)
    rw [Array.getD_eq_getD_getElem?, Array.getElem?_setIfInBounds]
    by_cases e : t = q
    · subst e
      rw [if_pos rfl] at ht
      injection ht with ht
      subst ht
      refine ⟨hqN, ?_⟩
      rw [if_pos rfl, if_pos (by rw [hs]; exact hqN)]
      simpa using hx 0 d rfl
    · rw [if_neg e] at ht
      rw [if_neg (Ne.symm e), ← Array.getD_eq_getD_getElem?]
      exact h t d' ht
def shiftG (M : Nat) : List (Nat × D) → List (Nat × D)
  | [] => []
  | (t, d) :: r => (t + M, d) :: shiftG M r
theorem lk_shift {M : Nat} : ∀ {l : List (Nat × D)} {k : Nat}, lk k (shiftG M l) = if M ≤ k then lk (k - M) l else none
  | [], k => by simp [shiftG, lk]
  | (t, d) :: r, k => by
    simp only [shiftG, lk, lk_shift (l := r)]
    by_cases h : M ≤ k
    · rw [if_pos h, if_pos h]
      by_cases e : k = t + M
      · rw [if_pos e, if_pos (by omega)]
      · rw [if_neg e, if_neg (by omega)]
    · rw [if_neg h, if_neg h, if_neg (by omega)]
/-- A round begins: the loop's variables hold the element; what the slots held is kept as ghosts. -/
def rst (M : Nat) (s : S) (ps : Array Tmp) (x : List Dat) : S := { s with sl := parSl ps.toList x s.sl, gh := shiftG M s.sl ++ s.gh }
/-- A round ends: what the slots held stands as t says. -/
def REnd (M N : Nat) (s3 t : S) : Prop := ∃ s4, Ent s3 s4 ∧ s4.hp = t.hp ∧ s4.nx = t.nx ∧ s4.st = t.st ∧ Has s4.gh (shiftG M t.sl) ∧ Has s4.gh t.gh ∧ t.sl.all (fun q => decide (q.1 < N)) = true ∧ t.gh.all (fun q => decide (q.1 < M)) = true
def roundK {α : Type} (st : Nat → α → S) (I : Nat → α → Prop) (M N i : Nat) (K : Ex → S → Prop) : Ex → S → Prop
  | .normal, s => ∃ z, I (i + 1) z ∧ REnd M N s (st (i + 1) z)
  | .ret, s => ∃ t, REnd M N s t ∧ K .ret t
  | .exit id, s => ∃ t, REnd M N s t ∧ K (.exit id) t
  | .panic _, _ => False
/-- What is said of x holds wherever it stands. -/
def Weak (x y : List Dat) : Prop := y.length = x.length ∧ ∀ (ok ok' : Nat → Prop) (w w' : World) (j : Nat) (d e : Dat) (v : Value), x[j]? = some d → y[j]? = some e → DatR ok w d v → DatR ok' w' e v
theorem lk_all {α : Type} {l : List (Nat × α)} {p : Nat → Bool} (h : l.all (fun q => p q.1) = true) {k : Nat} {d : α} (hk : lk k l = some d) : p k = true := by
  induction l with
  | nil => simp [lk] at hk
  | cons q r ih =>
    obtain ⟨t, e⟩ := q
    simp only [List.all_cons, Bool.and_eq_true] at h
    simp only [lk] at hk
    split at hk
    · rename_i e'; subst e'; exact h.1
    · exact ih h.2 hk

/-- What stands between two rounds: on the piece FI of the heap the state s, as the loop began with a1. -/
structure Inv (σ : Sit) (l : Nat) (Ds1 : List Nat) (F0 : Hl) (W1 : World) (a1 : Act) (N : Nat) (ι : Nat → Loc) (F : Hl) (s : S) (FI : Hl) : Prop where
  th : σ.Θ s.st F
  sub : ∀ B o, F B = some o → FI B = some o
  own : ∀ b B, ι b = .at B → FI B ≠ none
  no : FI l = none
  at_ : ∀ W, Since l F0 W1 W → (∀ B o, FI B = some o → W.heap[B]? = some o) → Rel ({ σ with V := fun B => σ.V B ∧ B ≠ l ∧ (B < W1.heap.size ∨ FI B ≠ none ∨ W.heap.size ≤ B) }.at F Ds1) ι s a1 W N

/-- From a round's begin: what it may go by. -/
theorem YR.up {σ σ' : Sit} {l1 : Nat} {xs1 : List (List Dat)} (h : YR P σ l1 xs1) {F : Hl} {n : Nat} (hΘ : ∀ i F', σ'.Θ i F' ↔ σ.Θ i F' ∧ ∀ B, F' B ≠ none → F B ≠ none ∨ n ≤ B) (hZ : ∀ B o, σ.Z B = some o → σ'.Z B = some o) (he : σ'.e.os = σ.e.os ∧ σ'.e.tape = σ.e.tape ∧ σ'.e.output = σ.e.output ∧ σ.e.heap.size ≤ σ'.e.heap.size) (hn : n ≤ σ'.e.heap.size) : YR P σ' l1 xs1 := by
  intro i x F1 W vs h1 h2 h3 h4 h5 h6
  rw [hΘ] at h1
  obtain ⟨fn', tmps, assign, body, hy, hR⟩ := h i x F1 W vs h1.1 (fun B o hz => by
    rcases hz with hz | hz
    · exact h2 B o (.inl (hZ B o hz))
    · exact h2 B o (.inr hz)) ⟨h3.1.trans he.1, h3.2.1.trans he.2.1, h3.2.2.1.trans he.2.2.1, Nat.le_trans he.2.2.2 h3.2.2.2⟩ h4 h5 h6
  refine ⟨fn', tmps, assign, body, hy, RoundIn.mono hR ?_⟩
  rintro e W' ⟨F', ht, hq⟩
  have hnew : ∀ B, F' B ≠ none → F B ≠ none ∨ n ≤ B := fun B hB => by
    rcases ht.new B hB with k | k
    · exact h1.2 B k
    · exact .inr (Nat.le_trans hn (Nat.le_trans h3.2.2.2 k))
  rcases hq with ⟨e1, hq⟩ | ⟨e1, hq⟩
  · exact ⟨F', ht, .inl ⟨e1, (hΘ _ _).2 ⟨hq, hnew⟩⟩⟩
  · exact ⟨F', ht, .inr ⟨e1, (hΘ _ _).2 ⟨hq, hnew⟩⟩⟩

/-- A record turns that nobody looks at. -/
theorem At.reZ {σ : Sit} {l : Nat} {o o' : Obj} (hA : At σ s a w N) (hz : σ.Z l = some o) (hV : ¬ σ.V l) : At { σ with Z := fun B => if B = l then some o' else σ.Z B } s a (w.putObj l o') N := by
  obtain ⟨ι, F, Ds, hΘ, h⟩ := hA
  have hl : l < w.heap.size := getElem?_lt (h.kept l o (.inl hz))
  have hap := h.apart l (by simp only [Sit.at]; rw [hz]; simp)
  have hown : ∀ b, ι b ≠ .at l := fun b hb => by have := (h.inside b l hb).2.1; simp only [Sit.at] at this; rw [hz] at this; cases this
  refine ⟨ι, F, Ds, hΘ, ?_⟩
  refine h.rb (fun B hB => ?_) (fun b B hb => World.putObj_heap_other (fun e => hown b (e ▸ hb))) rfl rfl ⟨h.env.1, h.env.2.1, h.env.2.2.1, by rw [World.putObj_size]; exact h.env.2.2.2⟩ (fun B o1 hq => ?_) (fun B hq => ?_) h.size ⟨h.marks.1, h.marks.2.1, fun D hD => ?_⟩ (fun c t d ht => ⟨(h.slots t d ht).1, c _ _ (h.slots t d ht).2⟩) (fun c t d ht => c _ _ (h.ghosts t d ht)) (fun b B hb => ?_) (fun B hB => h.gr B (by rw [World.putObj_size] at hB; exact hB))
  · have hne : B ≠ l := fun e => by subst e; exact hV hB.1.2.1
    exact ⟨⟨⟨by rw [World.putObj_size]; exact hB.1.1, hB.1.2⟩, hB.2⟩, World.putObj_heap_other hne⟩
  · by_cases e : B = l
    · subst e
      simp only [Sit.at, if_true] at hq
      rcases hq with hq | hq
      · rw [World.putObj_heap_same hl]; exact hq
      · rw [show F B = none from hap.1] at hq; cases hq
    · simp only [Sit.at, e, if_false] at hq
      rw [World.putObj_heap_other e]
      exact h.kept B o1 hq
  · by_cases e : B = l
    · subst e; exact hap
    · simp only [Sit.at, e, if_false] at hq
      exact h.apart B hq
  · have hne : D ≠ l := fun e => hap.2 (e ▸ hD)
    rw [World.putObj_heap_other hne]
    exact h.marks.2.2 D hD
  · have hne : B ≠ l := fun e => hown b (e ▸ hb)
    have := (h.inside b B hb).2
    exact ⟨by simp only [Sit.at, hne, if_false]; exact this.1, this.2⟩

/-- What holds where the loop begins. -/
structure LBase (σ : Sit) (l : Nat) (Ds1 : List Nat) (F0 : Hl) (W1 : World) (a1 : Act) (N : Nat) : Prop where
  env : W1.os = σ.e.os ∧ W1.tape = σ.e.tape ∧ W1.output = σ.e.output ∧ σ.e.heap.size ≤ W1.heap.size
  z : ∀ B o, σ.Z B = some o → B ≠ l ∧ F0 B = none ∧ B ∉ Ds1 ∧ W1.heap[B]? = some o
  d : ∀ D ∈ Ds1, D ≠ l ∧ F0 D = none ∧ W1.heap[D]? = some (.deferred (some []))
  size : a1.tmps.size = N
  marks : a1.defers = Ds1.map mark ++ σ.dfs ∧ Ds1.Nodup
  v : ∀ B, W1.heap.size ≤ B → σ.V B
  no : F0 l = none
  ll : l < W1.heap.size

/-- Where a round stands; own: the blocks that are the state's own. -/
def sitR (σ : Sit) (l : Nat) (Ds1 : List Nat) (W1 : World) (a1 : Act) (M : Nat) (own : Nat → Bool) (F FI : Hl) (W : World) (rec : Loop) : Sit := { Θ := fun k F' => σ.Θ k F' ∧ ∀ B, F' B ≠ none → F B ≠ none ∨ W.heap.size ≤ B, V := fun B => σ.V B ∧ B ≠ l ∧ B ∉ Ds1 ∧ (B < W1.heap.size ∨ FI B ≠ none ∨ W.heap.size ≤ B), Z := fun B => if B = l then some (.loop rec) else if own B || (F B).isSome then none else W.heap[B]?, e := W, gv := fun k => if M ≤ k then a1.tmps.getD (k - M) undef else σ.gv k, dfs := [] }
theorem own_ex (ι : Nat → Loc) : ∃ own : Nat → Bool, ∀ B, own B = true ↔ ∃ b, ι b = .at B := ⟨fun B => open Classical in decide (∃ b, ι b = .at B), fun B => by simp⟩
theorem sitR_Z {σ : Sit} {l : Nat} {Ds1 : List Nat} {W1 : World} {a1 : Act} {M : Nat} {own : Nat → Bool} {F FI : Hl} {W : World} {rec : Loop} (ho : ∀ B, own B = true ↔ ∃ b, ι b = .at B) {B : Nat} (h1 : B ≠ l) : ((∃ b, ι b = .at B) ∨ F B ≠ none → (sitR σ l Ds1 W1 a1 M own F FI W rec).Z B = none) ∧ (¬ ((∃ b, ι b = .at B) ∨ F B ≠ none) → (sitR σ l Ds1 W1 a1 M own F FI W rec).Z B = W.heap[B]?) := by
  simp only [sitR, h1, if_false]
  constructor
  · intro h
    rw [if_pos]
    rcases h with h | h
    · simp [(ho B).2 h]
    · obtain ⟨o, ho'⟩ := Option.ne_none_iff_exists'.1 h
      simp [ho']
  · intro h
    rw [if_neg]
    intro hc
    rw [Bool.or_eq_true] at hc
    rcases hc with hc | hc
    · exact h (.inl ((ho B).1 hc))
    · exact h (.inr fun e => by rw [e] at hc; cases hc)
theorem sitR_Zl {σ : Sit} {l : Nat} {Ds1 : List Nat} {W1 : World} {a1 : Act} {M : Nat} {own : Nat → Bool} {F FI : Hl} {W : World} {rec : Loop} : (sitR σ l Ds1 W1 a1 M own F FI W rec).Z l = some (.loop rec) := by simp [sitR]

/-- The state that Inv speaks of, behind a round. -/
theorem inv_next {σ : Sit} {l : Nat} {Ds1 : List Nat} {F0 : Hl} {W1 : World} {a1 : Act} {M : Nat} {F FI : Hl} {W W3 : World} {a3 : Act} {s3 t : S} {st : S} {rec : Loop} (hB : LBase σ l Ds1 F0 W1 a1 N) (hi : Inv σ l Ds1 F0 W1 a1 N ι F st FI) (hS : Since l F0 W1 W) (hFI : ∀ B o, FI B = some o → W.heap[B]? = some o) (h0 : ∀ B, F0 B ≠ none → FI B ≠ none) (h02 : ∀ B, FI B ≠ none → F0 B ≠ none ∨ W1.heap.size ≤ B) (hlW : l < W.heap.size)
    {own : Nat → Bool} (ho : ∀ B, own B = true ↔ ∃ b, ι b = .at B)
    (hA : At (sitR σ l Ds1 W1 a1 M own F FI W rec) s3 a3 W3 N) (hR : REnd M N s3 t) : RPost l rec FI W W3 ∧ ∃ ι4 F4, Inv σ l Ds1 F0 W1 a1 N ι4 F4 t (nextF l FI W W3) := by
  have hRi := hi.at_ W hS hFI
  obtain ⟨s4, hE, e1, e2, e3, e4, e5, e6, e7⟩ := hR
  obtain ⟨ι4, F4, Ds4, hΘ4, hR4⟩ := hE.at hA
  obtain ⟨hθ, hnew⟩ := hΘ4
  have zl : (sitR σ l Ds1 W1 a1 M own F FI W rec).Z l = some (.loop rec) := sitR_Zl
  have Fl : F l = none := by
    cases h : F l with
    | none => rfl
    | some o => have := hi.sub l o h; rw [hi.no] at this; cases this
  have ownl : ∀ b, ι b ≠ .at l := fun b hb => hi.own b l hb hi.no
  -- what is frozen in the round
  have hZ : ∀ {B : Nat} {o : Obj}, B ≠ l → (∀ b, ι b ≠ .at B) → F B = none → W.heap[B]? = some o → W3.heap[B]? = some o := by
    intro B o h1 h2 h3 h4
    refine hR4.kept B o (.inl ?_)
    refine ((sitR_Z (σ := σ) (Ds1 := Ds1) (W1 := W1) (a1 := a1) (M := M) (FI := FI) (W := W) (rec := rec) ho h1).2 ?_).trans h4
    rintro (⟨b, hb⟩ | hf)
    · exact h2 b hb
    · exact hf h3
  have hZn : ∀ {B : Nat}, ((sitR σ l Ds1 W1 a1 M own F FI W rec).at F4 Ds4).Z B = none → B ≠ l ∧ ((∃ b, ι b = .at B) ∨ F B ≠ none ∨ W.heap.size ≤ B) := by
    intro B h
    have hne : B ≠ l := fun e => by subst e; have h' : (sitR σ B Ds1 W1 a1 M own F FI W rec).Z B = none := h; rw [zl] at h'; cases h'
    refine ⟨hne, ?_⟩
    by_cases hc : (∃ b, ι b = .at B) ∨ F B ≠ none
    · rcases hc with hc | hc
      · exact .inl hc
      · exact .inr (.inl hc)
    · have := (sitR_Z (σ := σ) (Ds1 := Ds1) (W1 := W1) (a1 := a1) (M := M) (FI := FI) (W := W) (rec := rec) ho hne).2 hc
      have h' : (sitR σ l Ds1 W1 a1 M own F FI W rec).Z B = none := h
      rw [this] at h'
      rcases Nat.lt_or_ge B W.heap.size with hlt | hge
      · rw [Array.getElem?_eq_getElem hlt] at h'; cases h'
      · exact .inr (.inr hge)
  have hFIdom : ∀ {B : Nat}, (∃ b, ι b = .at B) ∨ F B ≠ none → FI B ≠ none := by
    rintro B (⟨b, hb⟩ | hf)
    · exact hi.own b B hb
    · obtain ⟨o, ho⟩ := Option.ne_none_iff_exists'.1 hf
      rw [hi.sub B o ho]; simp
  have hlt3 : W.heap.size ≤ W3.heap.size := hR4.env.2.2.2
  have hl3 : W3.heap[l]? = some (.loop rec) := hR4.kept l _ (.inl zl)
  have hsame : ∀ B, B < W.heap.size → B ≠ l → FI B = none → W3.heap[B]? = W.heap[B]? := by
    intro B hB hne hf
    obtain ⟨o, ho⟩ : ∃ o, W.heap[B]? = some o := ⟨_, Array.getElem?_eq_getElem hB⟩
    rw [ho]
    refine hZ hne (fun b hb => hi.own b B hb hf) ?_ ho
    cases h : F B with
    | none => rfl
    | some o' => have := hi.sub B o' h; rw [hf] at this; cases this
  refine ⟨⟨hR4.env.1, hR4.env.2.1, hR4.env.2.2.1, hlt3, hsame, hl3⟩, ι4, F4, ?_⟩
  have F4l : F4 l = none := (hR4.apart l (by rw [show ((sitR σ l Ds1 W1 a1 M own F FI W rec).at F4 Ds4).Z l = _ from zl]; simp)).1
  have own4l : ∀ b, ι4 b ≠ .at l := fun b hb => (hZn (hR4.inside b l hb).2.1).1 rfl
  have dom3 : ∀ {B : Nat}, B ≠ l → (FI B ≠ none ∨ W.heap.size ≤ B) → B < W3.heap.size → nextF l FI W W3 B = some (W3.heap[B]?.getD default) ∧ nextF l FI W W3 B = W3.heap[B]? := by
    intro B h1 h2 h3
    rw [nextF_eq h1 h2, Array.getElem?_eq_getElem h3]
    exact ⟨rfl, rfl⟩
  have F4dom : ∀ {B : Nat}, F4 B ≠ none → B ≠ l ∧ (FI B ≠ none ∨ W.heap.size ≤ B) := by
    intro B h
    refine ⟨fun e => h (e ▸ F4l), ?_⟩
    rcases hnew B h with k | k
    · exact .inl (hFIdom (.inr k))
    · exact .inr k
  have own4 : ∀ b B, ι4 b = .at B → B ≠ l ∧ (FI B ≠ none ∨ W.heap.size ≤ B) ∧ B < W3.heap.size := by
    intro b B hb
    have h1 := hR4.inside b B hb
    obtain ⟨k1, k2⟩ := hZn h1.2.1
    refine ⟨k1, ?_, h1.1⟩
    rcases k2 with k2 | k2 | k2
    · exact .inl (hFIdom (.inl k2))
    · exact .inl (hFIdom (.inr k2))
    · exact .inr k2
  refine ⟨by rw [← e3]; exact hθ, fun B o hB => ?_, fun b B hb => ?_, by unfold nextF; rw [if_neg]; exact fun h => h.1 rfl, fun W5 hS5 hF5 => ?_⟩
  · obtain ⟨k1, k2⟩ := F4dom (B := B) (by rw [hB]; simp)
    rw [nextF_eq k1 k2]
    exact hR4.kept B o (.inr hB)
  · obtain ⟨k1, k2, k3⟩ := own4 b B hb
    rw [(dom3 k1 k2 k3).1]; simp
  · -- the state anew, in W5
    have next5 : ∀ {B : Nat}, B ≠ l → (FI B ≠ none ∨ W.heap.size ≤ B) → B < W3.heap.size → W5.heap[B]? = W3.heap[B]? := by
      intro B h1 h2 h3
      obtain ⟨k1, k2⟩ := dom3 h1 h2 h3
      rw [hF5 B _ k1, ← k1, k2]
    have old5 : ∀ {B : Nat}, B < W1.heap.size → B ≠ l → F0 B = none → W5.heap[B]? = W1.heap[B]? ∧ W.heap[B]? = W1.heap[B]? := fun h1 h2 h3 => ⟨hS5.same _ h1 h2 h3, hS.same _ h1 h2 h3⟩
    have nF0 : ∀ {B : Nat}, FI B = none → F0 B = none := by
      intro B h
      cases h' : F0 B with
      | none => rfl
      | some o => exact absurd h (h0 B (by rw [h']; simp))
    have old : ∀ {B : Nat} {o : Obj}, W1.heap[B]? = some o → B ≠ l → F0 B = none → FI B = none ∧ F B = none ∧ (∀ b, ι b ≠ .at B) ∧ F4 B = none ∧ W.heap[B]? = some o ∧ W3.heap[B]? = some o ∧ W5.heap[B]? = some o ∧ ¬ (FI B ≠ none ∨ W.heap.size ≤ B) := by
      intro B o h1 h2 h3
      have hlt1 := getElem?_lt h1
      have hfi : FI B = none := by
        cases h : FI B with
        | none => rfl
        | some o' => rcases h02 B (by rw [h]; simp) with k | k
                     · exact absurd h3 k
                     · omega
      have hf : F B = none := by
        cases h : F B with
        | none => rfl
        | some o' => have := hi.sub B o' h; rw [hfi] at this; cases this
      have hown : ∀ b, ι b ≠ .at B := fun b hb => hi.own b B hb hfi
      have hw := (old5 hlt1 h2 h3).2.trans h1
      have hno : ¬ (FI B ≠ none ∨ W.heap.size ≤ B) := by
        rintro (k | k)
        · exact k hfi
        · have := getElem?_lt hw; omega
      refine ⟨hfi, hf, hown, ?_, hw, hZ h2 hown hf hw, (old5 hlt1 h2 h3).1.trans h1, hno⟩
      cases h : F4 B with
      | none => rfl
      | some o' => exact absurd (F4dom (by rw [h]; simp)).2 hno
    refine hR4.rb (β' := { σ with V := fun B => σ.V B ∧ B ≠ l ∧ (B < W1.heap.size ∨ nextF l FI W W3 B ≠ none ∨ W5.heap.size ≤ B) }.at F4 Ds1) (a' := a1) (fun B hB4 => ?_) (fun b B hb => ?_) e1.symm e2.symm ⟨hS5.os.trans hB.env.1, hS5.tape.trans hB.env.2.1, hS5.output.trans hB.env.2.2.1, Nat.le_trans hB.env.2.2.2 hS5.size⟩ (fun B o hz => ?_) (fun B hz => ?_) hB.size ⟨hB.marks.1, hB.marks.2, fun D hD => ?_⟩ (fun c k d hk => ?_) (fun c k d hk => ?_) (fun b B hb => ?_) (fun B hB5 => ?_)
    · obtain ⟨⟨k1, ⟨k2, k3, k4, k5⟩, k6, k7⟩, k8⟩ := hB4
      by_cases hc : FI B ≠ none ∨ W.heap.size ≤ B
      · have h5 := next5 k3 hc k1
        have hn : nextF l FI W W3 B ≠ none := by rw [(dom3 k3 hc k1).1]; simp
        refine ⟨⟨⟨?_, ⟨k2, k3, .inr (.inl hn)⟩, k6, k4⟩, k8⟩, h5⟩
        have : W5.heap[B]? = some W3.heap[B] := by rw [h5, Array.getElem?_eq_getElem k1]
        exact getElem?_lt this
      · have hb1 : B < W1.heap.size := by
          rcases k5 with k5 | k5 | k5
          · exact k5
          · exact absurd (.inl k5) hc
          · exact absurd (.inr k5) hc
        have hfi : FI B = none := by
          cases h : FI B with
          | none => rfl
          | some o => exact absurd (.inl (by rw [h]; simp)) hc
        obtain ⟨o, ho⟩ : ∃ o, W1.heap[B]? = some o := ⟨_, Array.getElem?_eq_getElem hb1⟩
        obtain ⟨_, _, _, _, _, m3, m5, _⟩ := old ho k3 (nF0 hfi)
        exact ⟨⟨⟨Nat.lt_of_lt_of_le hb1 hS5.size, ⟨k2, k3, .inl hb1⟩, k6, k4⟩, k8⟩, m5.trans m3.symm⟩
    · obtain ⟨k1, k2, k3⟩ := own4 b B hb
      exact next5 k1 k2 k3
    · rcases hz with hz | hz
      · obtain ⟨m1, m2, m3, m4⟩ := hB.z B o hz
        exact (old m4 m1 m2).2.2.2.2.2.2.1
      · obtain ⟨k1, k2⟩ := F4dom (B := B) (by simp only [Sit.at] at hz; rw [hz]; simp)
        have := hR4.kept B o (.inr hz)
        exact hF5 B o (by rw [nextF_eq k1 k2]; exact this)
    · cases hq : σ.Z B with
      | none => exact absurd hq hz
      | some o =>
        obtain ⟨m1, m2, m3, m4⟩ := hB.z B o hq
        exact ⟨(old m4 m1 m2).2.2.2.1, m3⟩
    · obtain ⟨m1, m2, m3⟩ := hB.d D hD
      have := old m3 m1 m2
      exact ⟨this.2.2.2.2.2.2.1, this.2.2.2.1⟩
    · have h1 : k < N := by simpa using lk_all (p := fun q => decide (q < N)) e6 hk
      refine ⟨h1, c _ _ ?_⟩
      have h2 : lk (k + M) (shiftG M t.sl) = some d := by rw [lk_shift, if_pos (by omega), show k + M - M = k by omega]; exact hk
      have := hR4.ghosts (k + M) d (e4.lk _ _ h2)
      simp only [Sit.at, sitR] at this
      rw [if_pos (by omega), show k + M - M = k by omega] at this
      exact this
    · have h1 : k < M := by simpa using lk_all (p := fun q => decide (q < M)) e7 hk
      refine c _ _ ?_
      have := hR4.ghosts k d (e5.lk _ _ hk)
      simp only [Sit.at, sitR] at this
      rw [if_neg (by omega)] at this
      exact this
    · obtain ⟨k1, k2, k3⟩ := own4 b B hb
      refine ⟨?_, (hR4.inside b B hb).2.2.1, fun hm => ?_⟩
      · cases hq : σ.Z B with
        | none => exact hq
        | some o =>
          obtain ⟨m1, m2, m3, m4⟩ := hB.z B o hq
          exact absurd k2 (old m4 m1 m2).2.2.2.2.2.2.2
      · obtain ⟨m1, m2, m3⟩ := hB.d B hm
        exact absurd k2 (old m3 m1 m2).2.2.2.2.2.2.2
    · rcases hB5 with ⟨b, hb⟩ | hB5
      · obtain ⟨k1, k2, k3⟩ := own4 b B hb
        have := hR4.gr B (.inl ⟨b, hb⟩)
        exact ⟨this.1, k1, .inr (.inl (by rw [(dom3 k1 k2 k3).1]; simp))⟩
      · have : W1.heap.size ≤ B := Nat.le_trans hS5.size hB5
        refine ⟨hB.v B this, fun e => ?_, .inr (.inr hB5)⟩
        subst e
        have h1 := hB.ll
        omega

theorem inv_end {σ : Sit} {l : Nat} {Ds1 : List Nat} {F0 : Hl} {W1 : World} {a1 : Act} {F FI : Hl} {W : World} {t : S} {o o' : Obj} (hB : LBase σ l Ds1 F0 W1 a1 N) (hi : Inv σ l Ds1 F0 W1 a1 N ι F t FI) (hS : Since l F0 W1 W) (hFI : ∀ B o, FI B = some o → W.heap[B]? = some o) (hl : W.heap[l]? = some o) : At σ t a1 (W.putObj l o') N := by
  have hR := hi.at_ W hS hFI
  have ownl : ∀ b, ι b ≠ .at l := fun b hb => hi.own b l hb hi.no
  have Fl : F l = none := by
    cases h : F l with
    | none => rfl
    | some o => have := hi.sub l o h; rw [hi.no] at this; cases this
  refine ⟨ι, F, Ds1, hi.th, ?_⟩
  refine hR.rb (fun B hB' => ?_) (fun b B hb => World.putObj_heap_other (fun e => ownl b (e ▸ hb))) rfl rfl ⟨hR.env.1, hR.env.2.1, hR.env.2.2.1, by rw [World.putObj_size]; exact hR.env.2.2.2⟩ (fun B o1 hq => ?_) hR.apart hR.size ⟨hR.marks.1, hR.marks.2.1, fun D hD => ?_⟩ (fun c t d ht => ⟨(hR.slots t d ht).1, c _ _ (hR.slots t d ht).2⟩) (fun c t d ht => c _ _ (hR.ghosts t d ht)) (fun b B hb => (hR.inside b B hb).2) (fun B hB' => (hR.gr B (by rw [World.putObj_size] at hB'; exact hB')).1)
  · have hne : B ≠ l := hB'.1.2.1.2.1
    exact ⟨⟨⟨by rw [World.putObj_size]; exact hB'.1.1, hB'.1.2.1.1, hB'.1.2.2⟩, hB'.2⟩, World.putObj_heap_other hne⟩
  · have hne : B ≠ l := fun e => by
      subst e
      rcases hq with hq | hq
      · exact (hB.z B o1 hq).1 rfl
      · rw [show (σ.at F Ds1).F B = none from Fl] at hq; cases hq
    rw [World.putObj_heap_other hne]
    exact hR.kept B o1 hq
  · rw [World.putObj_heap_other (hB.d D hD).1]
    exact hR.marks.2.2 D hD

theorem zip_fold (ps : Array Tmp) (vs : List Value) (t : Array Value) : (ps.zip vs.toArray).foldl (fun t (p, v) => t.setIfInBounds p v) t = (ps.toList.zip vs).foldl (fun t (p, v) => t.setIfInBounds p v) t := by
  rw [← Array.foldl_toList, Array.toList_zip]

section
variable {σ : Sit} {l : Nat} {Ds1 : List Nat} {F0 : Hl} {W1 : World} {a1 : Act} {M : Nat} {F FI : Hl} {W : World} {st : S} (hB : LBase σ l Ds1 F0 W1 a1 N) (hi : Inv σ l Ds1 F0 W1 a1 N ι F st FI) (hS : Since l F0 W1 W) (hFI : ∀ B o, FI B = some o → W.heap[B]? = some o) (h02 : ∀ B, FI B ≠ none → F0 B ≠ none ∨ W1.heap.size ≤ B)
set_option linter.unusedSectionVars false
include hB hi hS hFI h02
theorem round_old {B : Nat} {o : Obj} (h1 : W1.heap[B]? = some o) (h2 : B ≠ l) (h3 : F0 B = none) : FI B = none ∧ F B = none ∧ (∀ b, ι b ≠ .at B) ∧ W.heap[B]? = some o := by
  have hlt1 := getElem?_lt h1
  have hfi : FI B = none := by
    cases h : FI B with
    | none => rfl
    | some o' => rcases h02 B (by rw [h]; simp) with k | k
                 · exact absurd h3 k
                 · omega
  have hf : F B = none := by
    cases h : F B with
    | none => rfl
    | some o' => have := hi.sub B o' h; rw [hfi] at this; cases this
  exact ⟨hfi, hf, fun b hb => hi.own b B hb hfi, (hS.same B hlt1 h2 h3).trans h1⟩
theorem round_okR {own : Nat → Bool} (ho : ∀ B, own B = true ↔ ∃ b, ι b = .at B) (hσ : pr.Ok P σ) (rec : Loop) : ({ round := some l, y := pr.y } : Pr).Ok P (sitR σ l Ds1 W1 a1 M own F FI W rec) := by
  refine ⟨fun l' e => ?_, fun l1 xs1 e => YR.up (hσ.yield l1 xs1 e) (F := F) (n := W.heap.size) (fun _ _ => Iff.rfl) (fun B o hz => ?_) ⟨hS.os.trans hB.env.1, hS.tape.trans hB.env.2.1, hS.output.trans hB.env.2.2.1, Nat.le_trans hB.env.2.2.2 hS.size⟩ (Nat.le_refl _)⟩
  · simp only [Option.some.injEq] at e
    subst e
    exact ⟨rec, sitR_Zl⟩
  · obtain ⟨m1, m2, m3, m4⟩ := hB.z B o hz
    obtain ⟨k1, k2, k3, k4⟩ := round_old hB hi hS hFI h02 m4 m1 m2
    refine ((sitR_Z (σ := σ) (Ds1 := Ds1) (W1 := W1) (a1 := a1) (M := M) (FI := FI) (W := W) (rec := rec) ho m1).2 ?_).trans k4
    rintro (⟨b, hb⟩ | hf)
    · exact k3 b hb
    · exact hf k2
theorem round_at {own : Nat → Bool} (ho : ∀ B, own B = true ↔ ∃ b, ι b = .at B) {rec : Loop} (hl : W.heap[l]? = some (.loop rec)) {ps : Array Tmp} {x : List Dat} {vs : List Value} (hps : ∀ q ∈ ps.toList, q < N) (hxl : x.length = ps.size) (hvl : vs.length = x.length) (hgh : ∀ k d, lk k st.gh = some d → k < M)
    (hv : ∀ (ok' : Nat → Prop) (j : Nat) (e : Dat), x[j]? = some e → DatR ok' W e (vs.getD j undef)) : At (sitR σ l Ds1 W1 a1 M own F FI W rec) (rst M st ps x) { tmps := (ps.zip vs.toArray).foldl (fun t (p, v) => t.setIfInBounds p v) a1.tmps, defers := [] } W N := by
  have hR := hi.at_ W hS hFI
  have ownl : ∀ b, ι b ≠ .at l := fun b hb => hi.own b l hb hi.no
  have Fl : F l = none := by
    cases h : F l with
    | none => rfl
    | some o => have := hi.sub l o h; rw [hi.no] at this; cases this
  refine ⟨ι, F, [], ⟨hi.th, fun B h => .inl h⟩, ?_⟩
  have par := fun (c : ∀ d v, RelD ({ σ with V := fun B => σ.V B ∧ B ≠ l ∧ (B < W1.heap.size ∨ FI B ≠ none ∨ W.heap.size ≤ B) }.at F Ds1).G ι st.nx W d v → RelD ((sitR σ l Ds1 W1 a1 M own F FI W rec).at F []).G ι st.nx W d v) => par_slots (N := N) (R := fun d v => RelD ((sitR σ l Ds1 W1 a1 M own F FI W rec).at F []).G ι st.nx W d v) ps.toList x vs a1.tmps st.sl hps hR.size hvl (by rw [hxl]; simp) (fun j e hj => .dat (hv _ j e hj)) (fun t d ht => ⟨(hR.slots t d ht).1, c _ _ (hR.slots t d ht).2⟩)
  have hok : ∀ B, okB ({ σ with V := fun B => σ.V B ∧ B ≠ l ∧ (B < W1.heap.size ∨ FI B ≠ none ∨ W.heap.size ≤ B) }.at F Ds1).G ι W B → okB ((sitR σ l Ds1 W1 a1 M own F FI W rec).at F []).G ι W B ∧ W.heap[B]? = W.heap[B]? := fun B hB' => ⟨⟨⟨hB'.1.1, ⟨hB'.1.2.1.1, hB'.1.2.1.2.1, hB'.1.2.2.2, hB'.1.2.1.2.2⟩, hB'.1.2.2.1, by simp [Sit.at]⟩, hB'.2⟩, rfl⟩
  rw [zip_fold]
  refine hR.rb hok (fun _ _ _ => rfl) rfl rfl ⟨rfl, rfl, rfl, Nat.le_refl _⟩ (fun B o hq => ?_) (fun B hq => ?_) ((par (carry (nx := st.nx) hok (fun _ _ _ => rfl)).1).1) ⟨rfl, by simp [Sit.at], fun D hD => by simp [Sit.at] at hD⟩ (fun c => (par c).2) (fun c t d ht => ?_) (fun b B hb => ?_) (fun B hB' => ?_)
  · rcases hq with hq | hq
    · have hq' : (sitR σ l Ds1 W1 a1 M own F FI W rec).Z B = some o := hq
      by_cases e : B = l
      · subst e; rw [sitR_Zl] at hq'; rw [hl]; exact hq'
      · by_cases hc : (∃ b, ι b = .at B) ∨ F B ≠ none
        · rw [(sitR_Z ho e).1 hc] at hq'; cases hq'
        · rw [(sitR_Z ho e).2 hc] at hq'; exact hq'
    · exact hR.kept B o (.inr hq)
  · refine ⟨?_, by simp [Sit.at]⟩
    have hq' : (sitR σ l Ds1 W1 a1 M own F FI W rec).Z B ≠ none := hq
    by_cases e : B = l
    · subst e; exact Fl
    · by_cases hc : (∃ b, ι b = .at B) ∨ F B ≠ none
      · exact absurd ((sitR_Z ho e).1 hc) hq'
      · cases h : F B with
        | none => exact h
        | some o => exact absurd (.inr (by rw [h]; simp)) hc
  · simp only [rst] at ht
    rw [lk_app, lk_shift] at ht
    by_cases hM : M ≤ t
    · rw [if_pos hM] at ht
      cases hk : lk (t - M) st.sl with
      | none =>
        rw [hk] at ht
        have := hgh t d ht
        omega
      | some d' =>
        rw [hk] at ht
        simp only [Option.some.injEq] at ht
        subst ht
        simp only [Sit.at, sitR, hM, if_true]
        exact c _ _ (hR.slots _ _ hk).2
    · rw [if_neg hM] at ht
      simp only at ht
      simp only [Sit.at, sitR, hM, if_false]
      exact c _ _ (hR.ghosts _ _ ht)
  · have hne : B ≠ l := fun e => ownl b (e ▸ hb)
    refine ⟨?_, (hR.inside b B hb).2.2.1, by simp [Sit.at]⟩
    exact (sitR_Z (σ := σ) (Ds1 := Ds1) (W1 := W1) (a1 := a1) (M := M) (FI := FI) (W := W) (rec := rec) ho hne).1 (.inl ⟨b, hb⟩)
  · have h1 := hR.gr B hB'
    refine ⟨h1.1, h1.2.1, fun hm => ?_, h1.2.2⟩
    rcases hB' with ⟨b, hb⟩ | hB'
    · exact (hR.inside b B hb).2.2.2 hm
    · have := getElem?_lt (hB.d B hm).2.2
      have := hS.size
      omega
end

/-- What a round owes: its code, from whatever stands between two rounds. -/
def RoundOk (P : Program) (pr : Pr) (N : Nat) (ps : Array Tmp) (assign body : Code) (xs : List (List Dat)) (Jt : Nat → S → Prop) (Jxt : Code → S → Prop) : Prop :=
  ∀ (σ : Sit) (l : Nat) (Ds1 : List Nat) (F0 : Hl) (W1 : World) (a1 : Act) (ι : Nat → Loc) (F : Hl) (i : Nat) (t : S) (x : List Dat) (FI : Hl) (W : World) (vs : List Value) (fn : FuncId) (dd : Nat), pr.Ok P σ → LBase σ l Ds1 F0 W1 a1 N → Jt i t → Inv σ l Ds1 F0 W1 a1 N ι F t FI →
    (∀ B o, FI B = some o → W.heap[B]? = some o) → (∀ B, F0 B ≠ none → FI B ≠ none) → (∀ B, FI B ≠ none → F0 B ≠ none ∨ W1.heap.size ≤ B) → Since l F0 W1 W → W.heap[l]? = some (.loop (recOf fn a1.tmps ps assign body dd .ready none)) → xs[i]? = some x → vs.length = x.length →
    (∀ j e, x[j]? = some e → DatR (fun B => B < W.heap.size ∧ FI B = none ∧ B ≠ l) W e (vs.getD j undef)) →
    assign.wpIn (FW (some l)) 0 P (Exit.then (fun a1' w1 => w1.heap[l]? = some (.loop (recOf fn a1.tmps ps assign body dd .ready none)) ∧ body.wpIn (FW (some l)) 0 P (rpost l (recOf fn a1.tmps ps assign body dd .busy none) FI W (fun FI => i + 1 ≤ xs.length ∧ ∃ ι F t, Jt (i + 1) t ∧ Inv σ l Ds1 F0 W1 a1 N ι F t FI) (fun c FI => ∃ ι F t, Inv σ l Ds1 F0 W1 a1 N ι F t FI ∧ Jxt c t)) a1' (w1.putObj l (.loop (recOf fn a1.tmps ps assign body dd .busy none)))) (fun _ _ _ => False))
      { tmps := (ps.zip vs.toArray).foldl (fun t (p, v) => t.setIfInBounds p v) a1.tmps, defers := [] } W

theorem range_gen {f : Operand} {ps : Array Tmp} {assign body : Code} {K : Ex → S → Prop} {g : FuncId} {caps : List Dat} {xs : List (List Dat)} (hIt : Iter P g caps xs) (s0 : S) (h0 : Ent s s0) (hf : ev s0 f = .dat (.fn g caps)) (hxl : ∀ (i : Nat) (x : List Dat), xs[i]? = some x → x.length = ps.size)
    (Jt : Nat → S → Prop) (Jxt : Code → S → Prop) (hJ0 : Jt 0 s0) (hr : RoundOk P pr N ps assign body xs Jt Jxt) (hK : ∀ t, Jt xs.length t → K .normal t) (hX : ∀ c t, Jxt c t → (c = .ret ∧ K .ret t) ∨ ∃ id, c = .exit id ∧ K (.exit id) t) : TCode P pr N (.rangeFunc f ps assign body) s K := by
  intro σ a w hσ hA
  obtain ⟨ι, F, Ds, hΘ, hR⟩ := h0.at hA
  have hfv := ev_rel hR f
  rw [hf] at hfv
  obtain ⟨hfv⟩ := hfv
  generalize hfe : a.eval f = fv at hfv
  cases hfv with
  | fn _ _ cvs hcl hcU =>
  refine wpIn_rangeFunc (F := FW pr.round) (n := 0) fun fn _ => ?_
  obtain ⟨l, mk, W1, Ds1, dd, hrun, hR1, hl1, hlw, hlD, hbel, hDs⟩ := enter_ok hσ hR fn ps assign body
  have hll : l < W1.heap.size := getElem?_lt hl1
  have eg := run_callFunc hIt.body
  refine ⟨l, mk, W1, { target := .fn (.func g) cvs.toArray, args := #[.func (.yield l) #[] #[]] }, W1, g, #[.func (.yield l) #[] #[]] ++ cvs.toArray, W1, hrun, ?_, fun _ _ => trivial, ?_, depth_FW _, ?_⟩
  · simp only [resolve, hfe]
    simp [go_sem]
  · simp [invoke, go_sem, eg]
  obtain ⟨a1, ha1⟩ : ∃ a1 : Act, a1 = { a with defers := mk ++ a.defers } := ⟨_, rfl⟩
  rw [← ha1] at hR1 ⊢
  have ht1 : a1.tmps = a.tmps := by rw [ha1]
  rw [← ht1] at hl1
  obtain ⟨F0, hF0⟩ : ∃ F0 : Hl, F0 = fun B => open Classical in if ((∃ b, ι b = .at B) ∨ F B ≠ none) ∧ B ≠ l then W1.heap[B]? else none := ⟨_, rfl⟩
  have F0some : ∀ {B o}, F0 B = some o → W1.heap[B]? = some o := by
    intro B o h
    rw [hF0] at h
    simp only at h
    split at h
    · exact h
    · cases h
  have F0l : F0 l = none := by rw [hF0]; simp
  have F0none : ∀ {B}, (∀ b, ι b ≠ .at B) → F B = none → F0 B = none := by
    intro B h1 h2
    rw [hF0]
    simp only
    rw [if_neg]
    rintro ⟨⟨b, hb⟩ | hf, _⟩
    · exact h1 b hb
    · exact hf h2
  have outl := hR.out hlw
  have hB : LBase σ l Ds1 F0 W1 a1 N := by
    refine ⟨hR1.env, fun B o hz => ?_, fun D hD => ?_, hR1.size, ⟨hR1.marks.1, hR1.marks.2.1⟩, fun B hB => hR1.gr B (.inr hB), F0l, hll⟩
    · have hk := hR1.kept B o (.inl hz)
      obtain ⟨k1, k2⟩ := hR1.apart B (by simp only [Sit.at]; rw [hz]; simp)
      refine ⟨fun e => ?_, F0none (fun b hb => ?_) k1, k2, hk⟩
      · subst e; have := outl.1; simp only [Sit.at] at this; rw [hz] at this; cases this
      · have := (hR1.inside b B hb).2.1; simp only [Sit.at] at this; rw [hz] at this; cases this
    · obtain ⟨k1, k2⟩ := hR1.marks.2.2 D hD
      exact ⟨fun e => hlD (e ▸ hD), F0none (fun b hb => (hR1.inside b D hb).2.2.2 hD) k2, k1⟩
  have ownW1 : ∀ b B, ι b = .at B → F0 B = W1.heap[B]? ∧ B < w.heap.size ∧ B ≠ l := by
    intro b B hb
    have h1 := (hR.inside b B hb).1
    have hne : B ≠ l := by omega
    refine ⟨?_, h1, hne⟩
    rw [hF0]
    simp only
    rw [if_pos ⟨.inl ⟨b, hb⟩, hne⟩]
  have hI0 : Inv σ l Ds1 F0 W1 a1 N ι F s0 F0 := by
    refine ⟨hΘ, fun B o h => ?_, fun b B hb => ?_, F0l, fun W hS hFW => ?_⟩
    · have hne : B ≠ l := fun e => by subst e; have := outl.2.1; simp only [Sit.at] at this; rw [h] at this; cases this
      rw [hF0]
      simp only
      rw [if_pos ⟨.inr (by rw [h]; simp), hne⟩]
      exact hR1.kept B o (.inr h)
    · obtain ⟨k1, k2, k3⟩ := ownW1 b B hb
      rw [k1, Array.getElem?_eq_getElem (Nat.lt_of_lt_of_le k2 hbel.size)]
      simp
    · have sameW : ∀ B, B < w.heap.size → (∀ b, ι b ≠ .at B) → F B = none → W.heap[B]? = w.heap[B]? := fun B h1 h2 h3 => (hS.same B (Nat.lt_of_lt_of_le h1 hbel.size) (by omega) (F0none h2 h3)).trans (hbel.block B h1)
      refine hR.rb (fun B hB' => ?_) (fun b B hb => ?_) rfl rfl ⟨hS.os.trans hB.env.1, hS.tape.trans hB.env.2.1, hS.output.trans hB.env.2.2.1, Nat.le_trans hB.env.2.2.2 hS.size⟩ (fun B o hz => ?_) (fun B hz => ?_) hB.size ⟨hB.marks.1, hB.marks.2, fun D hD => ?_⟩ (fun c t d ht => ⟨(hR.slots t d ht).1, by rw [ht1]; exact c _ _ (hR.slots t d ht).2⟩) (fun c t d ht => c _ _ (hR.ghosts t d ht)) (fun b B hb => ?_) (fun B hB' => ?_)
      · have hs := sameW B hB'.1.1 hB'.2 hB'.1.2.2.1
        refine ⟨⟨⟨getElem?_lt (hs.trans (Array.getElem?_eq_getElem hB'.1.1)), ⟨hB'.1.2.1, by have := hB'.1.1; omega, .inl (Nat.lt_of_lt_of_le hB'.1.1 hbel.size)⟩, hB'.1.2.2.1, fun hm => ?_⟩, hB'.2⟩, hs⟩
        rcases hDs B hm with k | k
        · exact hB'.1.2.2.2 k
        · have := hB'.1.1; omega
      · obtain ⟨k1, k2, k3⟩ := ownW1 b B hb
        have h1 := Array.getElem?_eq_getElem (Nat.lt_of_lt_of_le k2 hbel.size)
        rw [hFW B _ (k1.trans h1), ← h1]
        exact hbel.block B k2
      · rcases hz with hz | hz
        · obtain ⟨m1, m2, m3, m4⟩ := hB.z B o hz
          exact (hS.same B (getElem?_lt m4) m1 m2).trans m4
        · have hne : B ≠ l := fun e => by subst e; have := outl.2.1; simp only [Sit.at] at this hz; rw [hz] at this; cases this
          refine hFW B o ?_
          rw [hF0]
          simp only
          rw [if_pos ⟨.inr (by simp only [Sit.at] at hz; rw [hz]; simp), hne⟩]
          exact hR1.kept B o (.inr hz)
      · cases hq : σ.Z B with
        | none => exact absurd hq hz
        | some o => exact hR1.apart B (by simp only [Sit.at]; rw [hq]; simp)
      · obtain ⟨m1, m2, m3⟩ := hB.d D hD
        exact ⟨(hS.same D (getElem?_lt m3) m1 m2).trans m3, (hR1.marks.2.2 D hD).2⟩
      · exact (hR1.inside b B hb).2
      · rcases hB' with ⟨b, hb⟩ | hB'
        · obtain ⟨k1, k2, k3⟩ := ownW1 b B hb
          exact ⟨hR.gr B (.inl ⟨b, hb⟩), k3, .inl (Nat.lt_of_lt_of_le k2 hbel.size)⟩
        · have := hS.size
          exact ⟨hB.v B (by omega), by omega, .inr (.inr hB')⟩
  have hcore := range_core (P := P) hIt (ok := okB (σ.at F Ds).G ι w) (cvs := cvs) hl1 F0 (fun B o h => F0some h) F0l (fun B hB' => ⟨Nat.lt_of_lt_of_le hB'.1.1 hbel.size, F0none hB'.2 hB'.1.2.2.1, by have := hB'.1.1; omega⟩) hcl
    (fun j e hj => (hcU j e hj).mono (fun B h => h) (fun B hB' => hbel.block B hB'.1.1)) hxl
    (fun i FI => i ≤ xs.length ∧ ∃ ι F t, Jt i t ∧ Inv σ l Ds1 F0 W1 a1 N ι F t FI) (fun c FI => ∃ ι F t, Inv σ l Ds1 F0 W1 a1 N ι F t FI ∧ Jxt c t)
    ⟨Nat.zero_le _, ι, F, s0, hJ0, hI0⟩ (fun i FI h => by obtain ⟨_, _, _, _, _, h⟩ := h; exact h.no) ?_
  · refine callsFW ?_
    have e1 : (#[.func (.yield l) #[] #[]] ++ cvs.toArray : Array Value) = (.func (.yield l) #[] #[] :: cvs).toArray := by simp
    rw [e1]
    refine Calls.mono hcore ?_
    rintro e W' ⟨⟨v, rfl⟩, F', jump, hS, hF', _, _, hc⟩
    rcases hc with ⟨rfl, ⟨_, ι', Fx, t, ht, hI⟩, hr'⟩ | ⟨c, rfl, ⟨ι', Fx, t, hI, hk⟩, hr'⟩
    · refine ⟨none, _, run_endLoop (P := P) hr' (by simp [recOf]), ?_⟩
      exact ⟨t, hK t ht, inv_end hB hI hS hF' hr'⟩
    · refine ⟨some c, _, run_endLoop (P := P) hr' (by simp [recOf]), ?_⟩
      rcases hX c t hk with ⟨rfl, hk'⟩ | ⟨id, rfl, hk'⟩
      · exact wpIn_ret ⟨t, hk', inv_end hB hI hS hF' hr'⟩
      · exact wpIn_exit ⟨t, hk', inv_end hB hI hS hF' hr'⟩
  · rintro i x FI W vs ⟨hin, ι', Fx, t, ht, hI⟩ hFW h01 h02 hS hWl hx hvl hv
    exact hr σ l Ds1 F0 W1 a1 ι' Fx i t x FI W vs fn dd hσ hB ht hI hFW h01 h02 hS hWl hx hvl hv

/-- A LOOP OVER A FUNCTION whose body may write: what is handed over holds no memory that the state keeps. -/
theorem T_rangeA {f : Operand} {ps : Array Tmp} {assign body : Code} {K : Ex → S → Prop} {g : FuncId} {caps : List Dat} {xs : List (List Dat)} {α : Type} (hIt : Iter P g caps xs) (M : Nat) (st : Nat → α → S) (I : Nat → α → Prop) (z0 : α) (hI0 : I 0 z0) (h0 : Ent s (st 0 z0)) (hf : ev (st 0 z0) f = .dat (.fn g caps)) (hxl : ∀ (i : Nat) (x : List Dat), xs[i]? = some x → x.length = ps.size) (hpN : ps.toList.all (fun q => decide (q < N)) = true)
    (fx : Nat → List Dat) (hfx : ∀ (i : Nat) (x : List Dat), xs[i]? = some x → Weak x (fx i)) (hgh : ∀ i z, (st i z).gh.all (fun q => decide (q.1 < M)) = true)
    (hr : ∀ (i : Nat) (x : List Dat), xs[i]? = some x → ∀ z, I i z → ∀ l, TCode P { round := some l, y := pr.y } N assign (rst M (st i z) ps (fx i)) (thenK (fun s' => TCode P { round := some l, y := pr.y } N body s' (roundK st I M N i K)) (fun _ _ => False)))
    (hK : ∀ z, I xs.length z → K .normal (st xs.length z)) : TCode P pr N (.rangeFunc f ps assign body) s K := by
  refine range_gen hIt (st 0 z0) h0 hf hxl (fun i t => ∃ z, I i z ∧ t = st i z) (fun c t => (c = .ret ∧ K .ret t) ∨ ∃ id, c = .exit id ∧ K (.exit id) t) ⟨z0, hI0, rfl⟩ ?_ (fun t ⟨z, hz, e⟩ => by rw [e]; exact hK z hz) (fun c t h => h)
  rintro σ l Ds1 F0 W1 a1 ι' Fx i t x FI W vs fn dd hσ hB ⟨z, hIz, rfl⟩ hI hFW h01 h02 hS hWl hx hvl hv
  obtain ⟨own, ho⟩ := own_ex ι'
  obtain ⟨hw1, hw2⟩ := hfx i x hx
  have hA1 := round_at (M := M) hB hI hS hFW h02 ho hWl (ps := ps) (x := fx i) (vs := vs) (fun q hq => by simpa using List.all_eq_true.1 hpN q hq) (hw1.trans (hxl i x hx)) (hvl.trans hw1.symm) (fun k d hk => by simpa using lk_all (p := fun q => decide (q < M)) (hgh i z) hk)
    (fun ok' j e hj => by
      have hj' : j < x.length := by rw [← hw1]; exact (List.getElem?_eq_some_iff.1 hj).1
      exact hw2 _ ok' W W j x[j] e _ (List.getElem?_eq_getElem hj') hj (hv j _ (List.getElem?_eq_getElem hj')))
  have hok1 := round_okR (M := M) hB hI hS hFW h02 ho hσ (recOf fn a1.tmps ps assign body dd .ready none)
  refine wpIn_mono (hr i x hx z hIz l _ _ W hok1 hA1) ?_
  intro e a1' w1 hq
  cases e with
  | normal =>
    obtain ⟨s', hTC, hA'⟩ := hq
    have hz : (sitR σ l Ds1 W1 a1 M own Fx FI W (recOf fn a1.tmps ps assign body dd .ready none)).Z l = some (.loop (recOf fn a1.tmps ps assign body dd .ready none)) := sitR_Zl
    have hw1l : w1.heap[l]? = some (.loop (recOf fn a1.tmps ps assign body dd .ready none)) := by
      obtain ⟨_, _, _, _, hR'⟩ := hA'
      exact hR'.kept l _ (.inl hz)
    refine ⟨hw1l, ?_⟩
    have hA2 := hA'.reZ (o' := .loop (recOf fn a1.tmps ps assign body dd .busy none)) hz (fun h => h.2.1 rfl)
    have eσ : ({ sitR σ l Ds1 W1 a1 M own Fx FI W (recOf fn a1.tmps ps assign body dd .ready none) with Z := fun B => if B = l then some (.loop (recOf fn a1.tmps ps assign body dd .busy none)) else (sitR σ l Ds1 W1 a1 M own Fx FI W (recOf fn a1.tmps ps assign body dd .ready none)).Z B } : Sit) = sitR σ l Ds1 W1 a1 M own Fx FI W (recOf fn a1.tmps ps assign body dd .busy none) := by
      simp only [sitR, Sit.mk.injEq, true_and, and_true]
      funext B
      by_cases e : B = l
      · simp [e]
      · simp [e]
    rw [eσ] at hA2
    have hok2 := round_okR (M := M) hB hI hS hFW h02 ho hσ (recOf fn a1.tmps ps assign body dd .busy none)
    refine wpIn_mono (hTC _ a1' _ hok2 hA2) ?_
    intro e a3 W3 hq
    have hlW : l < W.heap.size := getElem?_lt hWl
    cases e with
    | normal =>
      obtain ⟨s3, ⟨z', hz', hRE⟩, hA3⟩ := hq
      obtain ⟨k1, ι4, F4, k2⟩ := inv_next hB hI hS hFW h01 h02 hlW ho hA3 hRE
      have := (List.getElem?_eq_some_iff.1 hx).1
      exact ⟨k1, by omega, ι4, F4, _, ⟨z', hz', rfl⟩, k2⟩
    | ret =>
      obtain ⟨s3, ⟨t, hRE, hk⟩, hA3⟩ := hq
      obtain ⟨k1, ι4, F4, k2⟩ := inv_next hB hI hS hFW h01 h02 hlW ho hA3 hRE
      exact ⟨k1, ι4, F4, t, k2, .inl ⟨rfl, hk⟩⟩
    | exit id =>
      obtain ⟨s3, ⟨t, hRE, hk⟩, hA3⟩ := hq
      obtain ⟨k1, ι4, F4, k2⟩ := inv_next hB hI hS hFW h01 h02 hlW ho hA3 hRE
      exact ⟨k1, ι4, F4, t, k2, .inr ⟨id, rfl, hk⟩⟩
    | goto t => exact hq.elim
    | panic ch => obtain ⟨_, _, _, hq, _⟩ := hq; exact hq.elim
    | outgrown => exact hq.elim
  | ret => obtain ⟨_, hq, _⟩ := hq; exact hq.elim
  | exit id => obtain ⟨_, hq, _⟩ := hq; exact hq.elim
  | goto t => exact hq.elim
  | panic ch => obtain ⟨_, _, _, hq, _⟩ := hq; exact hq.elim
  | outgrown => exact hq.elim

/-! ### A loop whose body only looks -/
def sitB (σ : Sit) (l : Nat) (F : Hl) (W : World) (rec : Loop) : Sit := { Θ := fun k F' => σ.Θ k F' ∧ ∀ B, F' B ≠ none → F B ≠ none ∨ W.heap.size ≤ B, V := fun B => B ≠ l, Z := fun B => if B = l then some (.loop rec) else if (F B).isSome then none else W.heap[B]?, e := W, gv := fun _ => undef, dfs := [] }
theorem sitB_Z {σ : Sit} {l : Nat} {F : Hl} {W : World} {rec : Loop} {B : Nat} (h1 : B ≠ l) (h : F B = none) : (sitB σ l F W rec).Z B = W.heap[B]? := by simp [sitB, h1, h]
theorem inv_nextB {σ : Sit} {l : Nat} {Ds1 : List Nat} {F0 : Hl} {W1 : World} {a1 : Act} {F FI : Hl} {W W3 : World} {a3 : Act} {s3 t : S} {rec : Loop} (hB : LBase σ l Ds1 F0 W1 a1 N) (hi : Inv σ l Ds1 F0 W1 a1 N ι F t FI) (hS : Since l F0 W1 W) (hFI : ∀ B o, FI B = some o → W.heap[B]? = some o) (h0 : ∀ B, F0 B ≠ none → FI B ≠ none) (h02 : ∀ B, FI B ≠ none → F0 B ≠ none ∨ W1.heap.size ≤ B)
    (hA : At (sitB σ l F W rec) s3 a3 W3 N) : RPost l rec FI W W3 ∧ ∃ F4, Inv σ l Ds1 F0 W1 a1 N ι F4 { t with st := s3.st } (nextF l FI W W3) := by
  have hRi := hi.at_ W hS hFI
  obtain ⟨ι4, F4, Ds4, ⟨hθ, hnew⟩, hR4⟩ := hA
  have ownl : ∀ b, ι b ≠ .at l := fun b hb => hi.own b l hb hi.no
  have hZ : ∀ {B : Nat} {o : Obj}, B ≠ l → F B = none → W.heap[B]? = some o → W3.heap[B]? = some o := fun h1 h3 h4 => hR4.kept _ _ (.inl ((sitB_Z (σ := σ) (rec := rec) h1 h3).trans h4))
  have hFIn : ∀ {B : Nat}, FI B = none → F B = none := by
    intro B h
    cases h' : F B with
    | none => rfl
    | some o' => have := hi.sub B o' h'; rw [h] at this; cases this
  have hlt3 : W.heap.size ≤ W3.heap.size := hR4.env.2.2.2
  have hl3 : W3.heap[l]? = some (.loop rec) := hR4.kept l _ (.inl (show (sitB σ l F W rec).Z l = _ by simp [sitB]))
  have hsame : ∀ B, B < W.heap.size → B ≠ l → F B = none → W3.heap[B]? = W.heap[B]? := by
    intro B hB hne hf
    obtain ⟨o, ho⟩ : ∃ o, W.heap[B]? = some o := ⟨_, Array.getElem?_eq_getElem hB⟩
    rw [ho]
    exact hZ hne hf ho
  refine ⟨⟨hR4.env.1, hR4.env.2.1, hR4.env.2.2.1, hlt3, fun B hB hne hf => hsame B hB hne (hFIn hf), hl3⟩, F4, ?_⟩
  have F4l : F4 l = none := (hR4.apart l (by rw [show ((sitB σ l F W rec).at F4 Ds4).Z l = some (.loop rec) by simp [sitB, Sit.at]]; simp)).1
  have F4dom : ∀ {B : Nat}, F4 B ≠ none → B ≠ l ∧ (FI B ≠ none ∨ W.heap.size ≤ B) := by
    intro B h
    refine ⟨fun e => h (e ▸ F4l), ?_⟩
    rcases hnew B h with k | k
    · obtain ⟨o, ho⟩ := Option.ne_none_iff_exists'.1 k
      exact .inl (by rw [hi.sub B o ho]; simp)
    · exact .inr k
  have F4old : ∀ {B : Nat}, B < W.heap.size → F B = none → F4 B = none := by
    intro B h1 h2
    cases h : F4 B with
    | none => rfl
    | some o => rcases hnew B (by rw [h]; simp) with k | k
                · exact absurd h2 k
                · omega
  have dom : ∀ {B : Nat}, B ≠ l → FI B ≠ none → F B = none → nextF l FI W W3 B = W.heap[B]? := by
    intro B h1 h2 h3
    obtain ⟨o, ho⟩ := Option.ne_none_iff_exists'.1 h2
    rw [nextF_eq h1 (.inl h2)]
    exact hsame B (getElem?_lt (hFI B o ho)) h1 h3
  refine ⟨hθ, fun B o hB => ?_, fun b B hb => ?_, by unfold nextF; rw [if_neg]; exact fun h => h.1 rfl, fun W5 hS5 hF5 => ?_⟩
  · obtain ⟨k1, k2⟩ := F4dom (B := B) (by rw [hB]; simp)
    rw [nextF_eq k1 k2]
    exact hR4.kept B o (.inr hB)
  · have hne : B ≠ l := fun e => ownl b (e ▸ hb)
    have h1 := hi.own b B hb
    rw [dom hne h1 (hRi.inside b B hb).2.2.1]
    obtain ⟨o, ho⟩ := Option.ne_none_iff_exists'.1 h1
    rw [hFI B o ho]; simp
  · have in5 : ∀ {B : Nat}, B ≠ l → FI B ≠ none → F B = none → W5.heap[B]? = W.heap[B]? := by
      intro B h1 h2 h3
      obtain ⟨o, ho⟩ := Option.ne_none_iff_exists'.1 h2
      have h4 := hFI B o ho
      rw [h4]
      exact hF5 B o ((dom h1 h2 h3).trans h4)
    have old : ∀ {B : Nat} {o : Obj}, W1.heap[B]? = some o → B ≠ l → F0 B = none → FI B = none ∧ F B = none ∧ W.heap[B]? = some o ∧ W5.heap[B]? = some o ∧ F4 B = none := by
      intro B o h1 h2 h3
      have hlt1 := getElem?_lt h1
      have hfi : FI B = none := by
        cases h : FI B with
        | none => rfl
        | some o' => rcases h02 B (by rw [h]; simp) with k | k
                     · exact absurd h3 k
                     · omega
      have hw := (hS.same B hlt1 h2 h3).trans h1
      exact ⟨hfi, hFIn hfi, hw, (hS5.same B hlt1 h2 h3).trans h1, F4old (getElem?_lt hw) (hFIn hfi)⟩
    refine hRi.rb (β' := { σ with V := fun B => σ.V B ∧ B ≠ l ∧ (B < W1.heap.size ∨ nextF l FI W W3 B ≠ none ∨ W5.heap.size ≤ B) }.at F4 Ds1) (a' := a1) (s' := { t with st := s3.st }) (fun B hB4 => ?_) (fun b B hb => ?_) rfl rfl ⟨hS5.os.trans hB.env.1, hS5.tape.trans hB.env.2.1, hS5.output.trans hB.env.2.2.1, Nat.le_trans hB.env.2.2.2 hS5.size⟩ (fun B o hz => ?_) (fun B hz => ?_) hB.size ⟨hB.marks.1, hB.marks.2, fun D hD => ?_⟩ (fun c k d hk => ⟨(hRi.slots k d hk).1, c _ _ (hRi.slots k d hk).2⟩) (fun c k d hk => c _ _ (hRi.ghosts k d hk)) (fun b B hb => ?_) (fun B hB5 => ?_)
    · obtain ⟨⟨k1, ⟨k2, k3, k5⟩, k6, k7⟩, k8⟩ := hB4
      by_cases hc : FI B = none
      · have hb1 : B < W1.heap.size := by
          rcases k5 with k5 | k5 | k5
          · exact k5
          · exact absurd hc k5
          · omega
        have hf0 : F0 B = none := by
          cases h : F0 B with
          | none => rfl
          | some o => exact absurd hc (h0 B (by rw [h]; simp))
        obtain ⟨o, ho⟩ : ∃ o, W1.heap[B]? = some o := ⟨_, Array.getElem?_eq_getElem hb1⟩
        obtain ⟨_, _, m3, m4, m5⟩ := old ho k3 hf0
        exact ⟨⟨⟨getElem?_lt m4, ⟨k2, k3, .inl hb1⟩, m5, k7⟩, k8⟩, m4.trans m3.symm⟩
      · have h5 := in5 k3 hc k6
        refine ⟨⟨⟨getElem?_lt (h5.trans (Array.getElem?_eq_getElem k1)), ⟨k2, k3, .inr (.inl (by rw [dom k3 hc k6, Array.getElem?_eq_getElem k1]; simp))⟩, F4old k1 k6, k7⟩, k8⟩, h5⟩
    · exact in5 (fun e => ownl b (e ▸ hb)) (hi.own b B hb) (hRi.inside b B hb).2.2.1
    · rcases hz with hz | hz
      · obtain ⟨m1, m2, m3, m4⟩ := hB.z B o hz
        exact (old m4 m1 m2).2.2.2.1
      · obtain ⟨k1, k2⟩ := F4dom (B := B) (by simp only [Sit.at] at hz; rw [hz]; simp)
        have := hR4.kept B o (.inr hz)
        exact hF5 B o (by rw [nextF_eq k1 k2]; exact this)
    · cases hq : σ.Z B with
      | none => exact absurd hq hz
      | some o =>
        obtain ⟨m1, m2, m3, m4⟩ := hB.z B o hq
        exact ⟨(old m4 m1 m2).2.2.2.2, m3⟩
    · obtain ⟨m1, m2, m3⟩ := hB.d D hD
      have := old m3 m1 m2
      exact ⟨this.2.2.2.1, this.2.2.2.2⟩
    · have := hRi.inside b B hb
      exact ⟨this.2.1, F4old this.1 this.2.2.1, this.2.2.2⟩
    · rcases hB5 with ⟨b, hb⟩ | hB5
      · have := hRi.gr B (.inl ⟨b, hb⟩)
        have hne := this.2.1
        obtain ⟨o, ho⟩ := Option.ne_none_iff_exists'.1 (hi.own b B hb)
        exact ⟨this.1, hne, .inr (.inl (by rw [dom hne (hi.own b B hb) (hRi.inside b B hb).2.2.1, hFI B o ho]; simp))⟩
      · have h1 := hB.ll
        have h2 := hS5.size
        exact ⟨hB.v B (by omega), by omega, .inr (.inr hB5)⟩

theorem lend_relS (h : Rel β ι s a w N) {d : D} {v : Value} {e : Dat} (hd : RelD β.G ι s.nx w d v) (he : lend s d = some e) : DatR (fun B => B < w.heap.size ∧ β.F B = none ∧ β.S B) w e v := by
  simp only [lend, Option.map_eq_some_iff] at he
  obtain ⟨⟨e', hp'⟩, hg, rfl⟩ := he
  obtain ⟨ι', _, _, hD⟩ := h.give hd hg
  exact hD.mono (fun B hB => ⟨hB.1.1, hB.1.2.2.1, hB.1.2.1⟩) (fun _ _ => rfl)
/-- Slots, lent: seen as data for the time of a round. -/
def lendS (s : S) : List Nat → Option (List (Nat × D))
  | [] => some []
  | t :: r => match lk t s.sl, lendS s r with
    | some d, some l => (lend s d).map fun e => (t, .dat e) :: l
    | _, _ => none
theorem lendS_rel (h : Rel β ι s a w N) : ∀ {ts : List Nat} {l : List (Nat × D)}, lendS s ts = some l → ∀ t d, lk t l = some d → t < N ∧ ∃ e, d = .dat e ∧ DatR (fun B => B < w.heap.size ∧ β.F B = none ∧ β.S B) w e (a.tmps.getD t undef)
  | [], l, h1, t, d, hk => by simp only [lendS, Option.some.injEq] at h1; subst h1; simp [lk] at hk
  | u :: r, l, h1, t, d, hk => by
    simp only [lendS] at h1
    split at h1
    · rename_i d0 l0 e1 e2
      simp only [Option.map_eq_some_iff] at h1
      obtain ⟨e, he, rfl⟩ := h1
      simp only [lk] at hk
      split at hk
      · rename_i eq
        subst eq
        injection hk with hk
        subst hk
        obtain ⟨k1, k2⟩ := h.slots _ _ e1
        exact ⟨k1, e, rfl, lend_relS h k2 he⟩
      · exact lendS_rel h e2 t d hk
    · cases h1
theorem lendS_st (s : S) (k : Nat) : ∀ ts : List Nat, lendS { s with st := k } ts = lendS s ts
  | [] => rfl
  | u :: r => by simp only [lendS, lendS_st s k r]; rfl
/-- A round begins that only looks. -/
def rstB (l : List (Nat × D)) (ps : Array Tmp) (x : List Dat) (k : Nat) : S := { sl := parSl ps.toList x l, hp := [], nx := 0, st := k }
def roundKB (s0 : S) (cnt : Nat → Nat) (i : Nat) (K : Ex → S → Prop) : Ex → S → Prop
  | .normal, s => s.st = cnt (i + 1)
  | .ret, s => K .ret { s0 with st := s.st }
  | .exit id, s => K (.exit id) { s0 with st := s.st }
  | .panic _, _ => False

/-- A LOOP OVER A FUNCTION whose body only looks at what there is (and hands over itself). -/
theorem T_rangeB {f : Operand} {ps : Array Tmp} {assign body : Code} {K : Ex → S → Prop} {g : FuncId} {caps : List Dat} {xs : List (List Dat)} (hIt : Iter P g caps xs) (s0 : S) (cnt : Nat → Nat) (h0 : Ent s { s0 with st := cnt 0 }) (hf : ev s0 f = .dat (.fn g caps)) (hxl : ∀ (i : Nat) (x : List Dat), xs[i]? = some x → x.length = ps.size) (hpN : ps.toList.all (fun q => decide (q < N)) = true)
    (ts : List Nat) {sl : List (Nat × D)} (hsl : lendS s0 ts = some sl)
    (hr : ∀ (i : Nat) (x : List Dat), xs[i]? = some x → ∀ l, TCode P { round := some l, y := pr.y } N assign (rstB sl ps x (cnt i)) (thenK (fun s' => TCode P { round := some l, y := pr.y } N body s' (roundKB s0 cnt i K)) (fun _ _ => False)))
    (hK : K .normal { s0 with st := cnt xs.length }) : TCode P pr N (.rangeFunc f ps assign body) s K := by
  refine range_gen hIt { s0 with st := cnt 0 } h0 hf hxl (fun i t => t = { s0 with st := cnt i }) (fun c t => (c = .ret ∧ K .ret t) ∨ ∃ id, c = .exit id ∧ K (.exit id) t) rfl ?_ (fun t e => by rw [e]; exact hK) (fun c t h => h)
  rintro σ l Ds1 F0 W1 a1 ι F i t x FI W vs fn dd hσ hB rfl hI hFW h01 h02 hS hWl hx hvl hv
  have hR := hI.at_ W hS hFW
  have Fl : F l = none := by
    cases h : F l with
    | none => rfl
    | some o => have := hI.sub l o h; rw [hI.no] at this; cases this
  have hin : ∀ {B}, FI B = none → F B = none := by
    intro B h
    cases h' : F B with
    | none => rfl
    | some o' => have := hI.sub B o' h'; rw [h] at this; cases this
  have hlW : l < W.heap.size := getElem?_lt hWl
  have hA1 : At (sitB σ l F W (recOf fn a1.tmps ps assign body dd .ready none)) (rstB sl ps x (cnt i)) { tmps := (ps.zip vs.toArray).foldl (fun t (p, v) => t.setIfInBounds p v) a1.tmps, defers := [] } W N := by
    refine ⟨fun _ => .dead, F, [], ⟨hI.th, fun B h => .inl h⟩, ?_⟩
    have par := par_slots (N := N) (R := fun d v => RelD ((sitB σ l F W (recOf fn a1.tmps ps assign body dd .ready none)).at F []).G (fun _ => .dead) 0 W d v) ps.toList x vs a1.tmps sl (fun q hq => by simpa using List.all_eq_true.1 hpN q hq) hR.size hvl (by simpa using (hxl i x hx).symm)
      (fun j e hj => .dat ((hv j e hj).mono (fun B hB' => ⟨⟨hB'.1, hB'.2.2, hin hB'.2.1, by simp [Sit.at]⟩, fun b hb => by cases hb⟩) (fun _ _ => rfl)))
      (fun t d ht => by
        obtain ⟨k1, e, rfl, k2⟩ := lendS_rel hR ((lendS_st s0 (cnt i) ts).trans hsl) t d ht
        exact ⟨k1, .dat (k2.mono (fun B hB' => ⟨⟨hB'.1, hB'.2.2.2.1, hB'.2.1, by simp [Sit.at]⟩, fun b hb => by cases hb⟩) (fun _ _ => rfl))⟩)
    rw [zip_fold]
    refine { env := ⟨rfl, rfl, rfl, Nat.le_refl _⟩, kept := fun B o hq => ?_, apart := fun B hq => ?_, size := par.1, marks := ⟨rfl, by simp [Sit.at], fun D hD => by simp [Sit.at] at hD⟩, slots := par.2, ghosts := fun t d ht => (by simp [rstB, lk] at ht), heap := fun b h hb => (by simp [rstB, lk] at hb), inside := fun b B hb => (by cases hb), inj := fun b1 b2 B hb => (by cases hb), dead := fun b hb => rfl, fresh := fun b hb => rfl, gr := fun B hB' => ?_ }
    · rcases hq with hq | hq
      · have hq' : (if B = l then some (.loop (recOf fn a1.tmps ps assign body dd .ready none)) else if (F B).isSome then none else W.heap[B]?) = some o := hq
        split at hq'
        · rename_i e; subst e; rw [hWl]; exact hq'
        · split at hq'
          · cases hq'
          · exact hq'
      · exact hR.kept B o (.inr hq)
    · refine ⟨?_, by simp [Sit.at]⟩
      have hq' : (if B = l then some (.loop (recOf fn a1.tmps ps assign body dd .ready none)) else if (F B).isSome then none else W.heap[B]?) ≠ none := hq
      split at hq'
      · rename_i e; subst e; exact Fl
      · split at hq'
        · exact absurd rfl hq'
        · rename_i h1
          have h2 : F B = none := by simpa using h1
          exact h2
    · rcases hB' with ⟨b, hb⟩ | hB'
      · cases hb
      · show B ≠ l
        omega
  have okB : ∀ rec, ({ round := some l, y := pr.y } : Pr).Ok P (sitB σ l F W rec) := by
    intro rec
    refine ⟨fun l' e => ?_, fun l1 xs1 e => YR.up (hσ.yield l1 xs1 e) (F := F) (n := W.heap.size) (fun _ _ => Iff.rfl) (fun B o hz => ?_) ⟨hS.os.trans hB.env.1, hS.tape.trans hB.env.2.1, hS.output.trans hB.env.2.2.1, Nat.le_trans hB.env.2.2.2 hS.size⟩ (Nat.le_refl _)⟩
    · simp only [Option.some.injEq] at e
      subst e
      exact ⟨rec, by simp [sitB]⟩
    · obtain ⟨m1, m2, m3, m4⟩ := hB.z B o hz
      obtain ⟨k1, k2, k3, k4⟩ := round_old hB hI hS hFW h02 m4 m1 m2
      exact (sitB_Z m1 k2).trans k4
  have hz : ∀ rec, (sitB σ l F W rec).Z l = some (.loop rec) := fun rec => by simp [sitB]
  refine wpIn_mono (hr i x hx l _ _ W (okB _) hA1) ?_
  intro e a1' w1 hq
  cases e with
  | normal =>
    obtain ⟨s', hTC, hA'⟩ := hq
    have hw1l : w1.heap[l]? = some (.loop (recOf fn a1.tmps ps assign body dd .ready none)) := by
      obtain ⟨_, _, _, _, hR'⟩ := hA'
      exact hR'.kept l _ (.inl (hz _))
    refine ⟨hw1l, ?_⟩
    have hA2 := hA'.reZ (o' := .loop (recOf fn a1.tmps ps assign body dd .busy none)) (hz _) (fun h => h rfl)
    have eσ : ({ sitB σ l F W (recOf fn a1.tmps ps assign body dd .ready none) with Z := fun B => if B = l then some (.loop (recOf fn a1.tmps ps assign body dd .busy none)) else (sitB σ l F W (recOf fn a1.tmps ps assign body dd .ready none)).Z B } : Sit) = sitB σ l F W (recOf fn a1.tmps ps assign body dd .busy none) := by
      simp only [sitB, Sit.mk.injEq, true_and, and_true]
      funext B
      by_cases e : B = l
      · simp [e]
      · simp [e]
    rw [eσ] at hA2
    refine wpIn_mono (hTC _ a1' _ (okB _) hA2) ?_
    intro e a3 W3 hq
    cases e with
    | normal =>
      obtain ⟨s3, hRE, hA3⟩ := hq
      obtain ⟨k1, F4, k2⟩ := inv_nextB hB hI hS hFW h01 h02 hA3
      have := (List.getElem?_eq_some_iff.1 hx).1
      have hRE' : s3.st = cnt (i + 1) := hRE
      rw [hRE'] at k2
      exact ⟨k1, by omega, ι, F4, _, rfl, k2⟩
    | ret =>
      obtain ⟨s3, hk, hA3⟩ := hq
      obtain ⟨k1, F4, k2⟩ := inv_nextB hB hI hS hFW h01 h02 hA3
      exact ⟨k1, ι, F4, _, k2, .inl ⟨rfl, hk⟩⟩
    | exit id =>
      obtain ⟨s3, hk, hA3⟩ := hq
      obtain ⟨k1, F4, k2⟩ := inv_nextB hB hI hS hFW h01 h02 hA3
      exact ⟨k1, ι, F4, _, k2, .inr ⟨id, rfl, hk⟩⟩
    | goto t => exact hq.elim
    | panic ch => obtain ⟨_, _, _, hq, _⟩ := hq; exact hq.elim
    | outgrown => exact hq.elim
  | ret => obtain ⟨_, hq, _⟩ := hq; exact hq.elim
  | exit id => obtain ⟨_, hq, _⟩ := hq; exact hq.elim
  | goto t => exact hq.elim
  | panic ch => obtain ⟨_, _, _, hq, _⟩ := hq; exact hq.elim
  | outgrown => exact hq.elim

end Go.Proofs.Ytbkkekbeaabokaa.Sx
