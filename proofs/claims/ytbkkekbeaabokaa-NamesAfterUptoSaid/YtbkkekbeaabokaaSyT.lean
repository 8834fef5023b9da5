/- Sy, part T: a function that defers a call which recovers. -/
import Derived.Test.YtbkkekbeaabokaaSyP
import Derived.Test.YtbkkekbeaabokaaSyR
import Derived.RecoverIn
set_option linter.unusedVariables false
set_option linter.unusedSimpArgs false
namespace Go.Proofs.Ytbkkekbeaabokaa.Sx
open Go Go.RowKit

section
variable {F : Fence} {n : Nat} {P : Program} {Q : Exit → Act → List Frame → World → Prop} {a : Act} {cs : List Frame} {w w' : World}
/-- A region that begins with recover; behind it nothing recovers. -/
theorem wpS_recover {id : Nat} {ops : Array Oper} {rest : List Nat} {o : Oper} (hi : List.range ops.size = 0 :: rest) (ho : ops[0]? = some o) (hg : o.guard = none) (hab : ∀ f, o.about P w a.eval = some f → F.fn f) (hr : (execOp a.eval o).run P w = .ok .recover w') (hro : F.round = none)
    (h : ∀ v cs', (recoverD cs = some (v, cs') ∨ (recoverD cs = none ∧ v = .nilIface ∧ cs' = cs)) → wpOpsIn F n P ops (fun e a' w' => Q e a' cs' w') rest (a.put o.dst v) w') : (Code.region id ops false).wpSIn F n P Q a cs w := by
  intro b k hb hrb hF hroom
  have i0 := fenced_calm (F := F) (P := P) (n := n) (fr := b.atR a (.code (.region id ops false) :: k)) (cs := cs) (w := w) hF hroom rfl
  have h0 : (lone (b.atR a (.inRegion ops (0 :: rest) :: k)) cs w).fenced P F := fenced_oper hF hroom ho hab
  have hw : Region.wanted o (yielded ops a.tmps) = true := by simp [Region.wanted, hg]
  have hgo := stepGR_op (P := P) (b := b) (k := k) (cs := cs) (w := w) (rest := rest) ho hw
  rw [hrb, Oper.semAt_none] at hgo
  have hfin : ∀ v, (b.atR a (.inRegion ops (0 :: rest) :: k)).finish v = b.atR (a.put o.dst v) (.inRegion ops rest :: k) := by
    intro v; rw [Frame.finish_atR, ho]; rfl
  have hk : (b.atR a (.inRegion ops (0 :: rest) :: k)).kind = .deferred := hb
  have htr := tryRecover_deferred hk cs
  have hreg := stepR_region (P := P) (b := b) (a := a) (k := k) (cs := cs) (w := w) (id := id) (ops := ops)
  rw [hi] at hreg
  cases hrec : recoverD cs with
  | none =>
    obtain ⟨e, a', w'', hq, harr⟩ := wp_opsIn rest _ _ (h .nilIface cs (.inr ⟨hrec, rfl, rfl⟩)) b k cs (hrb.trans hro.symm) hF hroom
    refine ⟨e, a', cs, w'', rfl, hq, .of_steps (.one i0 hreg) (.of_steps (.one h0 (step_lone_go ?_)) harr)⟩
    rw [hgo, ← hfin]
    simp only [Frame.atR, hrb] at htr ⊢
    simp [stepG.apply, hr, htr, hrec]
  | some q =>
    obtain ⟨v, cs'⟩ := q
    have hlen := recoverD_length hrec
    obtain ⟨e, a', w'', hq, harr⟩ := wp_opsIn rest _ _ (h v cs' (.inl hrec)) b k cs' (hrb.trans hro.symm) hF (hlen ▸ hroom)
    refine ⟨e, a', cs', w'', hlen, hq, .of_steps (.one i0 hreg) (.of_steps (.one h0 (step_lone_go ?_)) harr)⟩
    rw [hgo, ← hfin]
    simp only [Frame.atR, hrb] at htr ⊢
    simp [stepG.apply, hr, htr, hrec]
end

/-- What caught does to the world: the error's cell is n, all else as it was. -/
structure Caught (w w' : World) (B : Nat) (t : TypeId) (n : Int) : Prop where
  os : w'.os = w.os
  tape : w'.tape = w.tape
  output : w'.output = w.output
  size : w.heap.size ≤ w'.heap.size
  at_ : w'.heap[B]? = some (.cells #[.int .i64 n] t (0, 0))
  same : ∀ k, k < w.heap.size → k ≠ B → w'.heap[k]? = w.heap[k]?
/-- What a deferred call gd does: where nothing has been thrown, nothing; where the error n has, it stops it, and keeps it. -/
structure Recov (P : Program) (gd : FuncId) (thr : Int → Value) : Prop where
  body : Body P gd
  nil_ : ∀ {m : Nat} {p : Value} {w : World} {R : Ending → FrameMode → World → Prop}, (∀ v, R (.returned v) .returning w) → CallsDIn Fence.wide m P gd #[p] .returning w R
  err : ∀ {m : Nat} {n : Int} {B : Nat} {u : Value} {t : TypeId} {w : World} {R : Ending → FrameMode → World → Prop}, w.heap[B]? = some (.cells #[u] t (0, 0)) → (∀ v w', Caught w w' B t n → R (.returned v) (.panicking [{ v := thr n, recovered := true }]) w') →
    CallsDIn Fence.wide m P gd #[.pointer (some ⟨B, 0, none⟩)] (.panicking [{ v := thr n, recovered := false }]) w R

variable {P : Program} {w w' : World} {ι ι' : Nat → Loc} {s s' : S} {a : Act} {N : Nat}
/-- Blocks of loops that have gone by stay as they are; a call is deferred above their marks. -/
def sitD (ok : Nat → Prop) (w0 : World) (Ds : List Nat) (p : Value) (dd : Deferred) : Sit := { sit0 ok w0 with V := fun B => (ok B ∨ w0.heap.size ≤ B) ∧ B ∉ Ds, Z := fun B => if B ∈ Ds then some (.deferred (some [])) else w0.heap[B]?, gv := fun _ => p, dfs := dd :: Ds.map mark }
/-- The marks have been taken up. -/
def sitE (ok : Nat → Prop) (w0 : World) (Ds : List Nat) (p : Value) : Sit := { sit0 ok w0 with V := fun B => (ok B ∨ w0.heap.size ≤ B) ∧ B ∉ Ds, gv := fun _ => p, dfs := [] }
abbrev noF : Nat → Option Obj := fun _ => none
theorem rel_sitD {ok : Nat → Prop} {w0 : World} {Ds : List Nat} {p : Value} {dd : Deferred} {x : D} {s' : S} (h : Rel ((sit0 ok w0).at noF Ds) ι s a w N) (hs : s' = { s with gh := [(0, x)] }) (hx : RelD ((sit0 ok w0).at noF Ds).G ι s.nx w x p) :
    Rel ((sitD ok w0 Ds p dd).at noF []) ι s' { a with defers := dd :: a.defers } w N := by
  subst hs
  refine h.rb (fun B hB => ⟨⟨⟨hB.1.1, ⟨hB.1.2.1, hB.1.2.2.2⟩, rfl, by simp [Sit.at]⟩, hB.2⟩, rfl⟩) (fun _ _ _ => rfl) rfl rfl h.env (fun B o hz => ?_) (fun B hB => ⟨rfl, by simp [Sit.at]⟩) h.size ⟨?_, by simp [Sit.at], fun D hD => (by simp [Sit.at] at hD)⟩ (fun c t d ht => ⟨(h.slots t d ht).1, c _ _ (h.slots t d ht).2⟩) (fun c t d ht => ?_) (fun b B hb => ?_) (fun B hB => ⟨h.gr B hB, fun hm => ?_⟩)
  · rcases hz with hz | hz
    · simp only [Sit.at, sitD] at hz
      split at hz
      · rename_i hm
        injection hz with hz
        rw [← hz]
        exact (h.marks.2.2 B hm).1
      · exact h.kept B o (.inl hz)
    · cases hz
  · have := h.marks.1
    simp only [Sit.at, sit0, List.append_nil] at this
    simp [Sit.at, sitD, this]
  · simp only [lk] at ht
    split at ht
    · injection ht with ht; subst ht; exact c _ _ hx
    · cases ht
  · obtain ⟨h1, h2, h3, h4⟩ := h.inside b B hb
    refine ⟨?_, h3, by simp [Sit.at]⟩
    have h4' : B ∉ Ds := h4
    simp only [Sit.at, sitD]
    rw [if_neg h4']
    exact h2
  · rcases hB with ⟨b, hb⟩ | hB
    · exact (h.inside b B hb).2.2.2 hm
    · have := getElem?_lt (h.marks.2.2 B hm).1
      omega
theorem rel_sitE {ok : Nat → Prop} {w0 : World} {Ds : List Nat} {p : Value} {dd : Deferred} (hnew : ∀ D ∈ Ds, w0.heap.size ≤ D) (h : Rel ((sitD ok w0 Ds p dd).at noF []) ι s a w N) (e1 : w'.os = w.os) (e2 : w'.tape = w.tape) (e3 : w'.output = w.output) (e4 : w'.heap.size = w.heap.size) (e5 : ∀ B, B ∉ Ds → w'.heap[B]? = w.heap[B]?) :
    Rel ((sitE ok w0 Ds p).at noF []) ι s { a with defers := [] } w' N := by
  have own : ∀ b B, ι b = .at B → B ∉ Ds := fun b B hb => (h.gr B (.inl ⟨b, hb⟩)).2
  refine h.rb (fun B hB => ⟨⟨⟨by rw [e4]; exact hB.1.1, hB.1.2.1, rfl, by simp [Sit.at]⟩, hB.2⟩, e5 B hB.1.2.1.2⟩) (fun b B hb => e5 B (own b B hb)) rfl rfl ⟨e1.trans h.env.1, e2.trans h.env.2.1, e3.trans h.env.2.2.1, by rw [e4]; exact h.env.2.2.2⟩ (fun B o hz => ?_) (fun B hB => ⟨rfl, by simp [Sit.at]⟩) h.size ⟨rfl, by simp [Sit.at], fun D hD => (by simp [Sit.at] at hD)⟩ (fun c t d ht => ⟨(h.slots t d ht).1, c _ _ (h.slots t d ht).2⟩) (fun c t d ht => c _ _ (h.ghosts t d ht)) (fun b B hb => ?_) (fun B hB => h.gr B (by rw [← e4]; exact hB))
  · rcases hz with hz | hz
    · have hz' : w0.heap[B]? = some o := hz
      have hB : B ∉ Ds := fun hm => by have := hnew B hm; have := getElem?_lt hz'; omega
      rw [e5 B hB]
      refine h.kept B o (.inl ?_)
      simp only [Sit.at, sitD]
      rw [if_neg hB]
      exact hz'
    · cases hz
  · obtain ⟨h1, h2, h3, h4⟩ := h.inside b B hb
    refine ⟨?_, rfl, by simp [Sit.at]⟩
    simp only [Sit.at, sitD] at h2
    rw [if_neg (own b B hb)] at h2
    exact h2

/-- What one comes back with, at the end of a body: d, over the new blocks hs. -/
theorem ret_at {ok : Nat → Prop} {w0 : World} {σ : Sit} {F : Nat → Option Obj} {fn : Func} {rs : List ResultVar} {d : D} {hs : List HO} (hr : fn.results = rs.toArray) (hV : ∀ B, σ.V B → ok B ∨ w0.heap.size ≤ B) (hZ : ∀ B o, w0.heap[B]? = some o → σ.Z B = some o ∨ w.heap[B]? = some o ∧ σ.Z B ≠ none) (he : σ.e = w0)
    (hR : Rel (σ.at F []) ι s a w N) (hfin : Fin P rs d hs s) : ∃ v, (results fn a.tmps).run P w = .ok v w ∧ Ret (fun B => ok B ∨ w0.heap.size ≤ B) w0 d hs (.returned v) w := by
  obtain ⟨s1, d1, s2, hE, h3, hE2, h1, h2, h4⟩ := hfin
  obtain ⟨ι1, hR1⟩ := hE.go _ _ _ _ _ hR
  obtain ⟨v, hv, hD1⟩ := results_ok (P := P) hr hR1 h3
  have hG1 : Rel { σ.at F [] with gv := fun _ => v } ι1 { s1 with gh := [(0, d1)] } a w N := ⟨hR1.env, hR1.kept, hR1.apart, hR1.size, hR1.marks, hR1.slots, fun t d ht => (by
    simp only [lk] at ht
    split at ht
    · injection ht with ht; subst ht; exact hD1
    · cases ht), hR1.heap, hR1.inside, hR1.inj, hR1.dead, hR1.fresh, hR1.gr⟩
  obtain ⟨ι2, hR2⟩ := hE2.go _ ι1 _ _ _ hG1
  have hD := hR2.ghosts 0 d h4
  have r : Ren some (σ.at F []).G ι2 s2.nx (fun B => ok B ∨ w0.heap.size ≤ B) ι2 s2.nx w := ⟨fun B hB => ⟨⟨hB.1.1, hV B hB.1.2.1⟩, hB.2⟩, fun b b' hb e => by injection e with e; subst e; exact ⟨hb, rfl⟩⟩
  have hbel : Below w0.heap.size w0 w := ⟨by have := hR.env.1; simpa [Sit.at, he] using this, by have := hR.env.2.1; simpa [Sit.at, he] using this, by have := hR.env.2.2.1; simpa [Sit.at, he] using this, by have := hR.env.2.2.2; simpa [Sit.at, he] using this, fun B hB => by
    obtain ⟨o, ho⟩ : ∃ o, w0.heap[B]? = some o := ⟨_, Array.getElem?_eq_getElem hB⟩
    rw [ho]
    rcases hZ B o ho with h | ⟨h, _⟩
    · exact hR.kept B o (.inl h)
    · exact h⟩
  refine ⟨v, hv, v, ι2, rfl, hbel, ⟨fun b o hb => ?_, fun b B hb => ⟨?_, (hR2.inside b B hb).1⟩, hR2.inj, fun b hb => hR2.dead b (by rw [h1]; exact hb), fun b hb => by rw [← h1]; exact hR2.fresh b (by rw [h2]; exact hb), fun b B hb => ?_⟩, by rw [← h2]; exact r.relD hD (mp_id _)⟩
  · rw [← h2]
    exact r.relO (hR2.heap b o (by rw [h1]; exact hb)) rfl (mpO_id _)
  · rcases Nat.lt_or_ge B w0.heap.size with hlt | hge
    · exfalso
      have h5 := (hR2.inside b B hb).2.1
      simp only [Sit.at] at h5
      rcases hZ B _ (Array.getElem?_eq_getElem hlt) with h | ⟨_, h⟩
      · rw [h] at h5; cases h5
      · exact h h5
    · exact hge
  · exact hV B (hR2.gr B (.inl ⟨b, hb⟩))

/-- A FUNCTION THAT DEFERS A CALL WHICH RECOVERS: A makes the cells of the results, then the call is deferred; behind it R, which comes to its end, or throws an error. -/
theorem Does.introR {g gd : FuncId} {thr : Int → Value} {fn : Func} {A R : Code} {id t b : Nat} {ops : Array Oper} {o : Oper} {ts : Array TypeId} {args : List Dat} {d : D} {hs : List HO} {sA sB : S} (rs : List ResultVar) (hv : Recov P gd thr) (hf : P.funcs[g]? = some fn) (hb : fn.body = some (.seq A (.seq (.region id ops false) R))) (hn : (fn.name == "runtime.NumGoroutine") = false) (hN : fn.ntmps = N) (hr : fn.results = rs.toArray) (ha : args.length ≤ N)
    (hops : List.range ops.size = [0, 1]) (ho : ops[1]? = some o) (hg : o.guard = none) (hdst : o.dst = none) (hop : o.op = .defer { callee := .value (.tmp t), args := #[], argTypes := ts })
    (hA : TCode P {} N A (start args) (fun e s => match e with | .normal => Ent s sA | _ => False)) (hB : ∀ n : S → Prop, (∀ s, Ent s sB → n s) → TOps P {} N ops [0] sA n (fun _ _ => False)) (hsB : lk t sB.sl = some (.fn gd [.ptr b 0])) (hgB : sB.gh = []) (hbn : ∃ x, lk b sB.hp = some (.var [x]))
    (h : TCode P {} N R { sB with gh := [(0, .ptr b 0)] } (fun e s => match e with
      | .normal => Fin P rs d hs s
      | .ret => Fin P rs d hs s
      | .panic v => ∃ n b2 x, v = thr n ∧ lk 0 s.gh = some (.ptr b2 0) ∧ lk b2 s.hp = some (.var [x]) ∧ Fin P rs d hs { s with hp := up b2 (.var [.dat (.val (.int .i64 n))]) s.hp }
      | _ => False)) : Does P g args d hs := by
  refine ⟨⟨fn, _, hf, hb, hn⟩, fun ok w vs hok hl hU => (callsIn_wide (n := 0)).1 (callsIn_of_wp_marks hf hb trivial ?_)⟩
  rw [hN]
  have hA0 : At (sit0 ok w) (start args) { tmps := vs.toArray ++ Array.replicate (N - vs.toArray.size) undef, defers := [] } w N :=
    ⟨_, fun _ => none, [], ⟨rfl, rfl⟩, start_rel (fun B hB => hB) (fun B o hz => by rcases hz with hz | hz; exact hz; cases hz) (fun _ _ => rfl) (fun _ _ => rfl) ⟨rfl, rfl, rfl, Nat.le_refl _⟩ rfl hok hl hU ha⟩
  have hok0 : ({} : Pr).Ok P (sit0 ok w) := ⟨fun l h => (by cases h), fun l xs h => (by cases h)⟩
  refine wpIn_seq (wpIn_mono (hA (sit0 ok w) _ w hok0 hA0) ?_)
  intro e a1 w1 hq
  cases e with
  | normal =>
    obtain ⟨s1, hE1, hA1⟩ := hq
    refine wpIn_seq (wpIn_region ?_)
    rw [hops]
    refine hB (fun s => Ent s sB) (fun _ h => h) (sit0 ok w) _ [1] hok0 ?_ ?_ a1 w1 (hE1.at hA1)
    · rintro a2 w2 ⟨s2, hE2, hA2⟩
      obtain ⟨ι, F, Ds, ⟨hst, rfl⟩, hR⟩ := hE2.at hA2
      -- the call is deferred
      obtain ⟨htN, hfv⟩ := hR.slots t _ hsB
      generalize hfe : a2.tmps.getD t undef = fv at hfv
      cases hfv with
      | fn _ _ cvs hcl hcU =>
      match cvs, hcl, hcU with
      | [p], _, hcU =>
      have hp := hcU 0 _ rfl
      simp only [List.getD_cons_zero] at hp
      have hrun : (execOp a2.eval o).run P w2 = .ok (.defer { target := .fn (.func gd) #[p], args := #[] }) w2 := by
        have hfe' : a2.eval (.tmp t) = .func (.func gd) #[] #[p] := hfe
        unfold execOp
        simp only [hop, resolve, hfe']
        simp [go_sem]
      have hw : Region.wanted o (yielded ops a2.tmps) = true := by simp [Region.wanted, hg]
      simp only [wpOpsIn, ho, hw, if_true]
      refine ⟨fun _ _ => trivial, ?_⟩
      rw [show (FW ({} : Pr).round).round = none from rfl, Oper.semAt_none, hrun]
      simp only [Oper.uponIn, hdst, Act.put, wpOpsIn]
      obtain ⟨dd, hdd⟩ : ∃ dd : Deferred, dd = { target := .fn (.func gd) #[p], args := #[] } := ⟨_, rfl⟩
      rw [← hdd]
      have hnew : ∀ D ∈ Ds, w.heap.size ≤ D := fun D hD => by
        rcases Nat.lt_or_ge D w.heap.size with hlt | hge
        · exfalso
          refine (hR.apart D ?_).2 hD
          simp only [Sit.at, sit0]
          rw [Array.getElem?_eq_getElem hlt]
          simp
        · exact hge
      have hR' := rel_sitD (dd := dd) (s' := { sB with gh := [(0, .ptr b 0)] }) hR rfl hp
      have hAt : At (sitD ok w Ds p dd) { sB with gh := [(0, .ptr b 0)] } { a2 with defers := dd :: a2.defers } w2 N := ⟨ι, noF, [], ⟨hst, rfl⟩, hR'⟩
      have hok1 : ({} : Pr).Ok P (sitD ok w Ds p dd) := ⟨fun l h => (by cases h), fun l xs h => (by cases h)⟩
      refine wpIn_mono (h (sitD ok w Ds p dd) _ w2 hok1 hAt) ?_
      intro e a3 w3 hq
      have hinv : ∀ w', (invoke dd.target dd.args).run P w' = .ok (.enter gd #[p]) w' := fun w' => by
        have eg := run_callFunc hv.body #[p] w'
        rw [hdd]
        simp [invoke, go_sem, eg]
      have nd : Ds.Nodup := hR.marks.2.1
      -- the end, once the deferred call has come back
      have last : ∀ (s : S) (ι : Nat → Loc) (a4 : Act) (w4 : World), Fin P rs d hs s → Rel ((sitD ok w Ds p dd).at noF []) ι s a4 w4 N → LeavesInM Fence.wide 0 P fn a4.tmps (Ret (fun B => ok B ∨ w.heap.size ≤ B) w d hs) (Ds.map mark) .returning w4 := by
        intro s ι a4 w4 hfin hR4
        rw [← List.append_nil (Ds.map mark)]
        refine leave_marks (by simp) Ds w4 nd (fun D hD => hR4.kept D _ (.inl (by simp only [Sit.at, sitD]; rw [if_pos hD]))) fun w5 e1 e2 e3 e4 e5 => ?_
        have hR5 := rel_sitE hnew hR4 e1 e2 e3 e4 e5
        obtain ⟨v, hv1, hv2⟩ := ret_at (fn := fn) (σ := sitE ok w Ds p) (w0 := w) (ok := ok) hr (fun B hB => hB.1) (fun B o hB => .inl hB) rfl hR5 hfin
        exact ⟨v, hv1, hv2⟩
      have fin : ∀ s, Fin P rs d hs s → At (sitD ok w Ds p dd) s a3 w3 N → bodyPostM Fence.wide 0 P fn (Ret (fun B => ok B ∨ w.heap.size ≤ B) w d hs) .normal a3 w3 := by
        intro s hfin hA3
        refine leaves_at (by simp) hA3 fun ι3 F3 w4 hΘ hR4 => ?_
        obtain ⟨_, rfl⟩ := hΘ
        refine ⟨by simp, .inr ⟨fun hd => by simp [Fence.wide] at hd, .func gd, #[p], gd, #[p], by rw [hdd], hinv w4, fun _ _ => trivial, hv.nil_ fun v => ?_⟩⟩
        exact last s ι3 { a3 with defers := (sitD ok w Ds p dd).dfs } w4 hfin hR4
      cases e with
      | normal => obtain ⟨s, hk, hR⟩ := hq; exact fin s hk hR
      | ret => obtain ⟨s, hk, hR⟩ := hq; exact fin s hk hR
      | exit i => obtain ⟨s, hk, hR⟩ := hq; exact hk.elim
      | panic chain =>
        obtain ⟨v, s, rfl, ⟨n, b2, x, rfl, hgh, hbx, hfin⟩, hA3⟩ := hq
        refine leaves_at (by simp) hA3 fun ι3 F3 w4 hΘ hR4 => ?_
        obtain ⟨_, rfl⟩ := hΘ
        have hg0 := hR4.ghosts 0 _ hgh
        have hO := hR4.heap b2 _ hbx
        cases hO with
        | var _ B C ty hι hC hlen h1 hUU =>
        have hpv : p = .pointer (some ⟨B, 0, none⟩) := by
          have hg1 : RelD ((sitD ok w Ds p dd).at noF []).G ι3 s.nx w4 (.ptr b2 0) p := hg0
          cases hg1 with
          | ptr_dead _ _ _ _ _ he => simp [he] at hι
          | ptr_nil _ _ _ _ _ he => simp [he] at hι
          | ptr_at _ _ B' _ he =>
            rw [hι] at he
            injection he with he
            subst he
            rfl
        have hbn2 : b2 < s.nx := by
          rcases Nat.lt_or_ge b2 s.nx with h1 | h1
          · exact h1
          · rw [hR4.fresh b2 h1] at hbx; cases hbx
        obtain ⟨u, hCu⟩ : ∃ u, C = #[u] := by
          have : C.size = 1 := hlen
          match C, this with
          | ⟨[u]⟩, _ => exact ⟨u, rfl⟩
        subst hCu
        refine ⟨by simp, .inr ⟨fun hd => by simp [Fence.wide] at hd, .func gd, #[p], gd, #[p], by rw [hdd], hinv w4, fun _ _ => trivial, ?_⟩⟩
        rw [hpv]
        refine hv.err hC fun v w5 hc => ?_
        have hR5 := hR4.write (w' := w5) (o := .var [.dat (.val (.int .i64 n))]) hι hC hc.at_ (by simp) (fun k hk hne => hc.same k hk hne) hc.os hc.tape hc.output hc.size fun f => by
          refine .var _ B _ ty hι hc.at_ rfl (fun v hv => by simp at hv; subst hv; rfl) fun j d' hj => ?_
          cases j with
          | succ j => simp at hj
          | zero => simp at hj; subst hj; exact .dat (.val _)
        exact last _ ι3 { a3 with defers := (sitD ok w Ds p dd).dfs } w5 hfin hR5
      | goto l => exact hq.elim
      | outgrown => exact hq.elim
    · rintro chain a2 w2 ⟨_, _, _, hf, _⟩
      exact hf.elim
  | ret => obtain ⟨s, hk, hR⟩ := hq; exact hk.elim
  | exit i => obtain ⟨s, hk, hR⟩ := hq; exact hk.elim
  | panic chain => obtain ⟨v, s, _, hk, hR⟩ := hq; exact hk.elim
  | goto l => exact hq.elim
  | outgrown => exact hq.elim

end Go.Proofs.Ytbkkekbeaabokaa.Sx
