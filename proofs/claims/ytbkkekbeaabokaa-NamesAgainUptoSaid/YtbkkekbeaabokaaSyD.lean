/- Sy, part D: stores, addresses, new variables and rows, aggregates. -/
import Derived.Test.YtbkkekbeaabokaaSyC
set_option linter.unusedVariables false
set_option linter.unusedSimpArgs false
namespace Go.Proofs.Ytbkkekbeaabokaa.Sx
open Go Go.RowKit

variable {P : Program} {β : Bs} {G Q : Nat → Prop} {w w' : World} {ι ι' : Nat → Loc} {s s' : S} {a : Act} {N : Nat}

/-! ### lists -/
def splice {α : Type} (off : Nat) (new : List α) (old : List α) : List α := old.take off ++ new ++ old.drop (off + new.length)
theorem splice_length {α : Type} {off : Nat} {new old : List α} (h : off + new.length ≤ old.length) : (splice off new old).length = old.length := by
  simp [splice]; omega
theorem splice_get {α : Type} {off : Nat} {new old : List α} (h : off + new.length ≤ old.length) (j : Nat) : (splice off new old)[j]? = if off ≤ j ∧ j < off + new.length then new[j - off]? else old[j]? := by
  unfold splice
  by_cases h1 : j < off
  · rw [if_neg (by omega), List.getElem?_append_left (by simp; omega), List.getElem?_append_left (by simp; omega), List.getElem?_take, if_pos h1]
  · by_cases h2 : j < off + new.length
    · rw [if_pos ⟨by omega, h2⟩, List.getElem?_append_left (by simp; omega), List.getElem?_append_right (by simp; omega)]
      congr 1
      simp
      omega
    · rw [if_neg (by omega), List.getElem?_append_right (by simp; omega), List.getElem?_drop]
      congr 1
      simp
      omega
theorem getD_get? {α : Type} (l : List α) (j : Nat) (d : α) : l.getD j d = (l[j]?).getD d := List.getD_eq_getElem?_getD ..

/-- Cells are stored one behind the other into a block of one's own. -/
theorem run_storeVar_at {t : TypeId} {i : TI} (hi : infoOf P t = some i) (B o : Nat) {C : Array Value} {ty : TypeId} (hC : w.heap[B]? = some (.cells C ty (0, 0))) (v : Value) (hsz : v.cells.size = i.size) (hl : o + v.cells.size ≤ C.size) (h1 : ∀ u ∈ v.cells.toList, u.oneCell' = true) :
    (storeVar t ⟨B, o, none⟩ v).run P w = .ok () (w.setRow B (splice o v.cells.toList C.toList).toArray) := by
  unfold storeVar
  have hst := run_storeCells_at (P := P) B o ty v.cells.toList 0 C w hC (by simpa using hl) h1
  rw [Sem.run_bind, run_sizeOf' hi]
  simp only [Result.andThen_ok, hsz, ne_eq, not_true_eq_false, if_false, Sem.run_bind, Sem.run_pure, hst, Nat.add_zero]
  rfl

/-! ### A value is given up for data: what it owns is its own no more -/
mutual
def give : Nat → D → List (Nat × HO) → Option (Dat × List (Nat × HO))
  | 0, _, _ => none
  | n + 1, d, hp => match d with
    | .dat d => some (d, hp)
    | .own b size len => match lk b hp with
      | some (.row _ size' es) => if size' = size ∧ len ≤ es.length ∧ len ≤ big then some (.sl size (es.take len), dl b hp) else none
      | _ => none
    | .ptr b off => match lk b hp with
      | some (.var cs) => match giveL n cs (dl b hp) with
        | some (ds, hp') => some (.ref (ds.drop off), hp')
        | none => none
      | _ => none
    | .fn g cs => match giveL n cs hp with
      | some (ds, hp') => some (.fn g ds, hp')
      | none => none
    | .agg cs => match giveL n cs hp with
      | some (ds, hp') => some (.agg ds, hp')
      | none => none
    | .tup cs => match giveL n cs hp with
      | some (ds, hp') => some (.tup ds, hp')
      | none => none
    | .mapb b => match lk b hp with
      | some (.map es) => some (.map es, dl b hp)
      | _ => none
    | _ => none
def giveL : Nat → List D → List (Nat × HO) → Option (List Dat × List (Nat × HO))
  | 0, _, _ => none
  | n + 1, l, hp => match l with
    | [] => some ([], hp)
    | d :: r => match give n d hp with
      | some (e, hp') => match giveL n r hp' with
        | some (es, hp'') => some (e :: es, hp'')
        | none => none
      | none => none
end

/-- Fewer blocks of one's own, the others where they were. -/
structure Less (ι ι' : Nat → Loc) : Prop where
  loc : ∀ b, ι' b = .dead ∨ ι' b = ι b
theorem Less.refl (ι : Nat → Loc) : Less ι ι := ⟨fun _ => .inr rfl⟩
theorem Less.trans {a b c : Nat → Loc} (h : Less a b) (k : Less b c) : Less a c := ⟨fun x => by
  rcases k.loc x with e | e
  · exact .inl e
  · rcases h.loc x with e' | e'
    · exact .inl (e.trans e')
    · exact .inr (e.trans e')⟩
theorem Less.fr (G : Nat → Prop) {ι ι' : Nat → Loc} (h : Less ι ι') (nx : Nat) (w : World) : Fr G ι nx w ι' nx w := by
  refine ⟨Nat.le_refl _, fun B hB => ⟨⟨hB.1, fun b hb => ?_⟩, rfl⟩, fun b _ => ?_⟩
  · rcases h.loc b with e | e
    · rw [e] at hb; cases hb
    · exact hB.2 b (e ▸ hb)
  · rcases h.loc b with e | e
    · exact .inl e
    · exact .inr ⟨e, fun B _ C t hC => ⟨C, hC, rfl⟩⟩

/-- What is to be known of a heap alone. -/
structure RelH (G Q : Nat → Prop) (ι : Nat → Loc) (hp : List (Nat × HO)) (nx : Nat) (w : World) : Prop where
  heap : ∀ b o, lk b hp = some o → RelO G ι nx w b o
  inside : ∀ b B, ι b = .at B → Q B ∧ B < w.heap.size
  inj : ∀ b b' B, ι b = .at B → ι b' = .at B → b = b'
  dead : ∀ b, lk b hp = none → ι b = .dead
  fresh : ∀ b, nx ≤ b → lk b hp = none
  gr : ∀ b B, ι b = .at B → G B
theorem Rel.toH (h : Rel β ι s a w N) : RelH β.G β.Q ι s.hp s.nx w := ⟨h.heap, fun b B hb => ⟨(h.inside b B hb).2, (h.inside b B hb).1⟩, h.inj, h.dead, h.fresh, fun b B hb => ⟨h.gr B (.inl ⟨b, hb⟩), (h.inside b B hb).2.2⟩⟩
theorem Rel.ofH (h : Rel β ι s a w N) {hp : List (Nat × HO)} (hl : Less ι ι') (k : RelH β.G β.Q ι' hp s.nx w) : Rel β ι' { s with hp := hp } a w N :=
  h.go (hl.fr β.G s.nx w) (Go.refl _ _) k.heap (fun b B hb => ⟨(k.inside b B hb).2, .inl (by
    rcases hl.loc b with e | e
    · rw [e] at hb; cases hb
    · exact ⟨b, e ▸ hb⟩)⟩) k.inj k.dead k.fresh

theorem RelH.kill {hp : List (Nat × HO)} {nx : Nat} (h : RelH G Q ι hp nx w) (b : Nat) : RelH G Q (Sx.kill ι b) (dl b hp) nx w := by
  refine ⟨fun x o hx => ?_, fun x B hx => ?_, fun x y B hx hy => ?_, fun x hx => ?_, fun x hx => ?_, fun x B hx => ?_⟩
  · rw [lk_dl] at hx
    by_cases e : x = b
    · simp [e] at hx
    · simp only [if_neg e] at hx
      exact (Fr.kill G ι nx w b).relO (h.heap x o hx) (by simp [Sx.kill, e]) (fun _ _ => rfl)
  · by_cases e : x = b
    · simp [Sx.kill, e] at hx
    · simp only [Sx.kill, if_neg e] at hx
      exact h.inside x B hx
  · by_cases e : x = b
    · simp [Sx.kill, e] at hx
    · by_cases e' : y = b
      · simp [Sx.kill, e'] at hy
      · simp only [Sx.kill, if_neg e] at hx
        simp only [Sx.kill, if_neg e'] at hy
        exact h.inj x y B hx hy
  · rw [lk_dl] at hx
    by_cases e : x = b
    · simp [Sx.kill, e]
    · simp only [if_neg e] at hx
      simpa [Sx.kill, e] using h.dead x hx
  · rw [lk_dl]
    split
    · rfl
    · exact h.fresh x hx
  · by_cases e : x = b
    · simp [Sx.kill, e] at hx
    · simp only [Sx.kill, if_neg e] at hx
      exact h.gr x B hx
theorem kill_less (ι : Nat → Loc) (b : Nat) : Less ι (Sx.kill ι b) := ⟨fun x => by
  by_cases e : x = b
  · exact .inl (by simp [Sx.kill, e])
  · exact .inr (by simp [Sx.kill, e])⟩
/-- A block that is given up is ok. -/
theorem kill_ok {hp : List (Nat × HO)} {nx b B : Nat} (h : RelH G Q ι hp nx w) (hb : ι b = .at B) : okB G (Sx.kill ι b) w B := by
  refine ⟨⟨(h.inside b B hb).2, h.gr b B hb⟩, fun x hx => ?_⟩
  by_cases e : x = b
  · simp [Sx.kill, e] at hx
  · simp only [Sx.kill, if_neg e] at hx
    exact e (h.inj x b B hx hb)

theorem give_ok (G Q : Nat → Prop) (w : World) (nx : Nat) : ∀ n : Nat,
    (∀ (d : D) (hp hp' : List (Nat × HO)) (ι : Nat → Loc) (v : Value) (e : Dat), RelH G Q ι hp nx w → RelD G ι nx w d v → give n d hp = some (e, hp') → ∃ ι', Less ι ι' ∧ RelH G Q ι' hp' nx w ∧ DatR (okB G ι' w) w e v) ∧
    (∀ (l : List D) (hp hp' : List (Nat × HO)) (ι : Nat → Loc) (vs : List Value) (es : List Dat), RelH G Q ι hp nx w → vs.length = l.length → (∀ j d, l[j]? = some d → RelD G ι nx w d (vs.getD j undef)) → giveL n l hp = some (es, hp') →
      ∃ ι', Less ι ι' ∧ RelH G Q ι' hp' nx w ∧ es.length = l.length ∧ ∀ j e, es[j]? = some e → DatR (okB G ι' w) w e (vs.getD j undef)) := by
  intro n
  induction n with
  | zero => exact ⟨fun _ _ _ _ _ _ _ _ h => by simp [give] at h, fun _ _ _ _ _ _ _ _ _ h => by simp [giveL] at h⟩
  | succ n ih =>
    obtain ⟨ih1, ih2⟩ := ih
    refine ⟨fun d hp hp' ι v e hH hd hg => ?_, fun l hp hp' ι vs es hH hl hU hg => ?_⟩
    · cases d with
      | dat d =>
        simp only [give, Option.some.injEq, Prod.mk.injEq] at hg
        obtain ⟨rfl, rfl⟩ := hg
        obtain ⟨hd⟩ := hd
        exact ⟨ι, .refl ι, hH, hd⟩
      | own b size len =>
        simp only [give] at hg
        split at hg
        · rename_i ty size' ess hb
          split at hg
          · rename_i hc
            obtain ⟨rfl, hlen, hbig⟩ := hc
            simp only [Option.some.injEq, Prod.mk.injEq] at hg
            obtain ⟨rfl, rfl⟩ := hg
            refine ⟨Sx.kill ι b, kill_less ι b, hH.kill b, ?_⟩
            have hO := hH.heap b _ hb
            cases hO with
            | nil _ _ hι =>
              cases hd with
              | own_dead _ _ _ _ _ _ he => simp [he] at hι
              | own_nil => simpa using DatR.slnil size' none 0
              | own_at _ _ _ _ _ _ he => simp [he] at hι
            | row _ _ _ B C hι hC hlens hs hl h1 hU =>
              cases hd with
              | own_dead _ _ _ _ _ _ he => simp [he] at hι
              | own_nil _ _ _ he => simp [he] at hι
              | own_at _ _ _ B' c _ he C' t' hC' hlc hcm hsz =>
                rw [hι] at he
                injection he with he
                subst he
                rw [hC] at hC'
                injection hC' with hC'
                injection hC' with e1 e2
                subst e1; subst e2
                have htl : (ess.take len).length = len := by simp; omega
                rcases Nat.eq_zero_or_pos len with h0 | h0
                · subst h0
                  simpa using DatR.slnil size' (some ⟨B, 0, none⟩) c
                · have := DatR.sl (ok := okB G (Sx.kill ι b) w) (w := w) size' (ess.take len) B 0 c (fun i j => C.toList.getD (i * size' + j) undef) (fun cs hcs => hlens cs (List.mem_of_mem_take hcs)) (by omega) (by have hbb : big = 140737488355328 := rfl; omega) (kill_ok hH hι)
                    (fun i cs hi j d' hj => ?_) (fun i cs hi j d' hj => ?_)
                  · rwa [htl] at this
                  · rw [List.getElem?_take] at hi
                    split at hi
                    · rename_i hlt
                      have hcl : cs.length = size' := hlens cs (List.mem_of_getElem? hi)
                      have hj' : j < size' := by rw [← hcl]; exact (List.getElem?_eq_some_iff.1 hj).1
                      have hil : i < ess.length := (List.getElem?_eq_some_iff.1 hi).1
                      have : i * size' + size' ≤ C.size := Nat.le_trans (by rw [← Nat.succ_mul]; exact Nat.mul_le_mul_right _ hil) hl
                      refine ⟨?_, h1 i cs hi j d' hj⟩
                      have : i * size' + j < C.size := by omega
                      simp [World.cell?, hC, this]
                    · cases hi
                  · rw [List.getElem?_take] at hi
                    split at hi
                    · exact (Less.fr G (kill_less ι b) nx w).datR (hU i cs hi j d' hj)
                    · cases hi
          · cases hg
        · cases hg
      | vw b size off len => simp [give] at hg
      | ptr b off =>
        simp only [give] at hg
        split at hg
        · rename_i cs hb
          split at hg
          · rename_i ds hp1 hgl
            simp only [Option.some.injEq, Prod.mk.injEq] at hg
            obtain ⟨rfl, rfl⟩ := hg
            have hO := hH.heap b _ hb
            cases hO with
            | var _ B C ty hι hC hl h1 hU =>
              cases hd with
              | ptr_dead _ _ _ _ _ he => simp [he] at hι
              | ptr_nil _ _ _ _ _ he => simp [he] at hι
              | ptr_at _ _ B' _ he =>
                rw [hι] at he
                injection he with he
                subst he
                obtain ⟨ι', hl', hH', hlen, hds⟩ := ih2 cs (dl b hp) hp1 (Sx.kill ι b) C.toList ds (hH.kill b) (by simpa using hl) (fun j d' hj => ((kill_less ι b).fr G nx w).relD (hU j d' hj)) hgl
                refine ⟨ι', (kill_less ι b).trans hl', hH', ?_⟩
                have hokB : okB G ι' w B := ((hl'.fr G nx w).ok B (kill_ok hH hι)).1
                refine .ref _ B off (fun j => C.toList.getD (off + j) undef) hokB (fun j d' hj => ?_) (fun j d' hj => ?_)
                · rw [List.getElem?_drop] at hj
                  have hlt : off + j < C.size := by have := (List.getElem?_eq_some_iff.1 hj).1; omega
                  have hm : C.toList.getD (off + j) undef ∈ C.toList := by rw [getD_get?, Array.getElem?_toList, Array.getElem?_eq_getElem hlt]; simp
                  exact ⟨by simp [World.cell?, hC, hlt], h1 _ hm⟩
                · rw [List.getElem?_drop] at hj
                  exact hds _ _ hj
          · cases hg
        · cases hg
      | ept b size i j => simp [give] at hg
      | fn g cs =>
        simp only [give] at hg
        split at hg
        · rename_i ds hp1 hgl
          simp only [Option.some.injEq, Prod.mk.injEq] at hg
          obtain ⟨rfl, rfl⟩ := hg
          cases hd with
          | fn _ _ vs hl hU =>
            obtain ⟨ι', hl', hH', hlen, hds⟩ := ih2 cs hp hp1 ι vs ds hH hl hU hgl
            exact ⟨ι', hl', hH', .fn g ds vs (by omega) hds⟩
        · cases hg
      | agg cs =>
        simp only [give] at hg
        split at hg
        · rename_i ds hp1 hgl
          simp only [Option.some.injEq, Prod.mk.injEq] at hg
          obtain ⟨rfl, rfl⟩ := hg
          cases hd with
          | agg _ vs hl h1 hU =>
            obtain ⟨ι', hl', hH', hlen, hds⟩ := ih2 cs hp hp1 ι vs ds hH hl hU hgl
            exact ⟨ι', hl', hH', .agg ds vs (by omega) h1 hds⟩
        · cases hg
      | tup cs =>
        simp only [give] at hg
        split at hg
        · rename_i ds hp1 hgl
          simp only [Option.some.injEq, Prod.mk.injEq] at hg
          obtain ⟨rfl, rfl⟩ := hg
          cases hd with
          | tup _ vs hl hU =>
            obtain ⟨ι', hl', hH', hlen, hds⟩ := ih2 cs hp hp1 ι vs ds hH hl hU hgl
            exact ⟨ι', hl', hH', .tup ds vs (by omega) hds⟩
        · cases hg
      | mapb b =>
        simp only [give] at hg
        split at hg
        · rename_i es hb
          simp only [Option.some.injEq, Prod.mk.injEq] at hg
          obtain ⟨rfl, rfl⟩ := hg
          have hO := hH.heap b _ hb
          cases hO with
          | map _ B E k hι hE he =>
            cases hd with
            | map_dead _ _ _ _ h0 => simp [h0] at hι
            | map_nil _ _ _ _ h0 => simp [h0] at hι
            | map_at _ B' _ h0 =>
              rw [hι] at h0
              injection h0 with h0
              subst h0
              exact ⟨Sx.kill ι b, kill_less ι b, hH.kill b, .map _ B E k (kill_ok hH hι) hE he⟩
        · cases hg
      | bad => simp [give] at hg
    · cases l with
      | nil =>
        simp only [giveL, Option.some.injEq, Prod.mk.injEq] at hg
        obtain ⟨rfl, rfl⟩ := hg
        exact ⟨ι, .refl ι, hH, rfl, fun j e h => by simp at h⟩
      | cons d r =>
        simp only [giveL] at hg
        split at hg
        · rename_i e1 hp1 h1
          split at hg
          · rename_i es1 hp2 h2
            simp only [Option.some.injEq, Prod.mk.injEq] at hg
            obtain ⟨rfl, rfl⟩ := hg
            cases vs with
            | nil => simp at hl
            | cons v vs =>
              obtain ⟨ι1, hl1, hH1, hd1⟩ := ih1 d hp hp1 ι v e1 hH (by simpa using hU 0 d rfl) h1
              obtain ⟨ι2, hl2, hH2, hlen, hds⟩ := ih2 r hp1 hp2 ι1 vs es1 hH1 (by simpa using hl) (fun j d' hj => (hl1.fr G nx w).relD (by simpa using hU (j + 1) d' (by simpa using hj))) h2
              refine ⟨ι2, hl1.trans hl2, hH2, by simp [hlen], fun j e hj => ?_⟩
              cases j with
              | zero =>
                simp only [List.getElem?_cons_zero, Option.some.injEq] at hj
                subst hj
                simpa using (hl2.fr G nx w).datR hd1
              | succ j => simpa using hds j e (by simpa using hj)
          · cases hg
        · cases hg

theorem Rel.give (h : Rel β ι s a w N) {n : Nat} {d : D} {v : Value} {e : Dat} {hp' : List (Nat × HO)} (hd : RelD β.G ι s.nx w d v) (hg : give n d s.hp = some (e, hp')) : ∃ ι', Less ι ι' ∧ Rel β ι' { s with hp := hp' } a w N ∧ DatR (okB β.G ι' w) w e v := by
  obtain ⟨ι', hl, hH, hr⟩ := (give_ok β.G β.Q w s.nx n).1 d s.hp hp' ι v e h.toH hd hg
  exact ⟨ι', hl, h.ofH hl hH, hr⟩
theorem Rel.giveL (h : Rel β ι s a w N) {n : Nat} {l : List D} {vs : List Value} {es : List Dat} {hp' : List (Nat × HO)} (hl : vs.length = l.length) (hU : ∀ j d, l[j]? = some d → RelD β.G ι s.nx w d (vs.getD j undef)) (hg : giveL n l s.hp = some (es, hp')) :
    ∃ ι', Less ι ι' ∧ Rel β ι' { s with hp := hp' } a w N ∧ es.length = l.length ∧ ∀ j e, es[j]? = some e → DatR (okB β.G ι' w) w e (vs.getD j undef) := by
  obtain ⟨ι', hl', hH, hr⟩ := (give_ok β.G β.Q w s.nx n).2 l s.hp hp' ι vs es h.toH hl hU hg
  exact ⟨ι', hl', h.ofH hl' hH, hr⟩
/-- Cells given up: where they are data already nothing is looked at. -/
def giveC (cs : List D) (hp : List (Nat × HO)) : Option (List Dat × List (Nat × HO)) := match allDat cs with
  | some ds => some (ds, hp)
  | none => Sx.giveL (cs.length + 9) cs hp
theorem Rel.giveC (h : Rel β ι s a w N) {l : List D} {vs : List Value} {es : List Dat} {hp' : List (Nat × HO)} (hl : vs.length = l.length) (hU : ∀ j d, l[j]? = some d → RelD β.G ι s.nx w d (vs.getD j undef)) (hg : Sx.giveC l s.hp = some (es, hp')) :
    ∃ ι', Less ι ι' ∧ Rel β ι' { s with hp := hp' } a w N ∧ es.length = l.length ∧ ∀ j e, es[j]? = some e → DatR (okB β.G ι' w) w e (vs.getD j undef) := by
  unfold Sx.giveC at hg
  split at hg
  · rename_i ds hds
    simp only [Option.some.injEq, Prod.mk.injEq] at hg
    obtain ⟨rfl, rfl⟩ := hg
    have := allDat_spec hds
    subst this
    refine ⟨ι, Less.refl ι, h, by simp, fun j e he => ?_⟩
    have := hU j (.dat e) (by simp [he])
    cases this with
    | dat h => exact h
  · exact h.giveL hl hU hg
theorem allDat_replicate (n : Nat) (d : Dat) : allDat (List.replicate n (.dat d)) = some (List.replicate n d) := by
  rw [show List.replicate n (D.dat d) = (List.replicate n d).map .dat by simp]
  exact allDat_map _
theorem flat_one : ∀ {es : List (List Dat)}, (∀ cs ∈ es, cs.length = 1) → es.flatten.length = es.length ∧ ∀ (p : Nat) (d : Dat), es.flatten[p]? = some d → ∃ cs : List Dat, es[p]? = some cs ∧ cs[0]? = some d
  | [], _ => by simp
  | cs :: r, h => by
    obtain ⟨i1, i2⟩ := flat_one (es := r) (fun c hc => h c (List.mem_cons_of_mem _ hc))
    have h1 := h cs (by simp)
    match cs, h1 with
    | [x], _ =>
      refine ⟨by simp [List.flatten] at i1 ⊢; omega, fun p d hp => ?_⟩
      cases p with
      | zero => exact ⟨[x], rfl, by simpa using hp⟩
      | succ p => simpa using i2 p d (by simpa using hp)
end Go.Proofs.Ytbkkekbeaabokaa.Sx
