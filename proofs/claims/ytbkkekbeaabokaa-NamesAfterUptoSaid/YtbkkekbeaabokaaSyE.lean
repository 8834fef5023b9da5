/- Sy, part E: the other operations: stores, addresses, new variables, aggregates, rows, integers. -/
import Derived.Test.YtbkkekbeaabokaaSyD
set_option linter.unusedVariables false
set_option linter.unusedSimpArgs false
namespace Go.Proofs.Ytbkkekbeaabokaa.Sx
open Go Go.RowKit

variable {P : Program} {β : Bs} {G : Nat → Prop} {w w' : World} {ι ι' : Nat → Loc} {s s' : S} {a : Act} {N : Nat}

theorem Rel.kd (h : Rel β ι s a w N) {b : Nat} {cs : List D} (hb : lk b s.hp = some (.var cs)) : ∃ B, ι b = .at B := by
  have := h.heap b _ hb
  cases this with
  | var _ B C t hι => exact ⟨B, hι⟩

/-! ### store -/
def aStore0 (P : Program) (s : S) (t : TypeId) (x y : D) : Option S :=
  match infoOf P t, cellsOf y with
  | some i, some cs' => if cs'.length = i.size then (match x with
    | .ptr b off => match lk b s.hp with
      | some (.var cs) => if off + cs'.length ≤ cs.length then some { s with hp := up b (.var (splice off cs' cs)) s.hp } else none
      | _ => none
    | .ept b n k j => match lk b s.hp with
      | some (.rowD ty n' es) => if n = n' then (match es[k]? with
        | some cs => if j + cs'.length ≤ cs.length then some { s with hp := up b (.rowD ty n' (es.set k (splice j cs' cs))) s.hp } else none
        | none => none) else none
      | _ => match giveC cs' s.hp with
        | some (ds, hp') => match lk b hp' with
          | some (.row ty n' es) => if n = n' then (match es[k]? with
            | some cs => if j + ds.length ≤ cs.length then some { s with hp := up b (.row ty n' (es.set k (splice j ds cs))) hp' } else none
            | none => none) else none
          | _ => none
        | none => none
    | _ => none) else none
  | _, _ => none

theorem setRow_facts (w : World) (B : Nat) (C C' : Array Value) (t : TypeId) (hC : w.heap[B]? = some (.cells C t (0, 0))) :
    (w.setRow B C').heap[B]? = some (.cells C' t (0, 0)) ∧ (∀ k, k ≠ B → (w.setRow B C').heap[k]? = w.heap[k]?) ∧ w.heap.size ≤ (w.setRow B C').heap.size :=
  ⟨setRow_heap w B C C' t _ hC, fun k hk => setRow_other w B k C' hk, by simp [World.setRow]⟩

theorem ok_store0 (h : Rel β ι s a w N) {o : Oper} {t : TypeId} {x y : Operand} (ho : o.op = .store t x y) (hs : aStore0 P s t (ev s x) (ev s y) = some s') : Good β P o a w N .bad s' := by
  have hx := ev_rel h x
  have hy := ev_rel h y
  have fin : ∀ w' ι', (Instr.storeAt t (a.eval x) (a.eval y)).run P w = .ok () w' → Rel β ι' s' a w' N → Good β P o a w N .bad s' :=
    fun w' ι' hr hR => ⟨undef, w', ι', .inr ⟨by unfold execOp; simp only [ho]; exact run_unit hr, rfl⟩, hR, .bad _⟩
  have st : ∀ B off C ty i, a.eval x = .pointer (some ⟨B, off, none⟩) → infoOf P t = some i → w.heap[B]? = some (.cells C ty (0, 0)) → (a.eval y).cells.size = i.size → off + (a.eval y).cells.size ≤ C.size → (∀ u ∈ (a.eval y).cells.toList, u.oneCell' = true) →
      (Instr.storeAt t (a.eval x) (a.eval y)).run P w = .ok () (w.setRow B (splice off (a.eval y).cells.toList C.toList).toArray) := by
    intro B off C ty i hp hi hC hsz hl h1
    rw [hp]
    unfold Instr.storeAt
    simp only [Instr.sureAddr, Sem.run_bind, Sem.run_pure, Result.andThen_ok]
    exact run_storeVar_at hi B off hC _ hsz hl h1
  generalize ev s x = dx at hx hs
  generalize ev s y = dy at hy hs
  unfold aStore0 at hs
  split at hs
  · rename_i i cs' hi hc
    obtain ⟨hsz, h1y, hUy⟩ := cells_rel hy hc
    split at hs
    · rename_i hlen
      cases dx with
      | ptr b off =>
        simp only at hs
        split at hs
        · rename_i cs hb
          split at hs
          · rename_i hfit
            injection hs with hs
            subst hs
            have hO := h.heap b _ hb
            cases hO with
            | var _ B C ty hι hC hl h1 hU =>
              generalize hvx : a.eval x = vx at hx st fin
              cases hx with
              | ptr_dead _ _ _ _ _ he => simp [he] at hι
              | ptr_nil _ _ _ _ _ he => simp [he] at hι
              | ptr_at _ _ B' _ he =>
                rw [hι] at he
                injection he with he
                subst he
                have hfit' : off + (a.eval y).cells.toList.length ≤ C.toList.length := by simp; omega
                have hr := st B off C ty i rfl hi hC (by omega) (by omega) h1y
                obtain ⟨f1, f2, f3⟩ := setRow_facts w B C (splice off (a.eval y).cells.toList C.toList).toArray ty hC
                refine fin _ ι hr (h.write hι hC f1 (by simpa using splice_length hfit') (fun k _ hk => f2 k hk) rfl rfl rfl f3 (fun f => ?_))
                refine .var _ B _ ty hι f1 (by rw [List.size_toArray, splice_length hfit', splice_length hfit]; simpa using hl) (fun v hv => ?_) (fun j d hj => ?_)
                · simp only [List.toList_toArray, splice, List.mem_append] at hv
                  rcases hv with (hv | hv) | hv
                  · exact h1 v (List.mem_of_mem_take hv)
                  · exact h1y v hv
                  · exact h1 v (List.mem_of_mem_drop hv)
                · rw [splice_get hfit] at hj
                  rw [List.toList_toArray, getD_get?, splice_get hfit']
                  have hlen2 : (a.eval y).cells.toList.length = cs'.length := by simpa using hsz
                  rw [hlen2]
                  split at hj
                  · rename_i hin
                    rw [if_pos hin, ← getD_get?]
                    exact f.relD (hUy _ d hj)
                  · rename_i hin
                    rw [if_neg hin, ← getD_get?]
                    exact f.relD (hU _ d hj)
          · cases hs
        · cases hs
      | ept b n k j =>
        simp only at hs
        split at hs
        · rename_i ty n' es hb
          split at hs
          · rename_i hn
            subst hn
            split at hs
            · rename_i cs hk
              split at hs
              · rename_i hfit
                injection hs with hs
                subst hs
                have hO := h.heap b _ hb
                cases hO with
                | rowD _ _ _ B C hι hC hlens hs0 hl h1 hU =>
                  generalize hvx : a.eval x = vx at hx st fin
                  cases hx with
                  | ept_dead _ _ _ _ _ _ _ he => simp [he] at hι
                  | ept_nil _ _ _ _ _ _ _ he => simp [he] at hι
                  | ept_at _ _ _ _ B' _ he =>
                    rw [hι] at he
                    injection he with he
                    subst he
                    have hcl : cs.length = n := hlens cs (List.mem_of_getElem? hk)
                    have hkl : k < es.length := (List.getElem?_eq_some_iff.1 hk).1
                    have hbig : k * n + n ≤ C.size := Nat.le_trans (by rw [← Nat.succ_mul]; exact Nat.mul_le_mul_right _ hkl) hl
                    have hvl : (a.eval y).cells.toList.length = cs'.length := by simpa using hsz
                    have hfit' : k * n + j + (a.eval y).cells.toList.length ≤ C.toList.length := by simp at hvl ⊢; omega
                    have hr := st B (k * n + j) C ty i rfl hi hC (by omega) (by simpa using hfit') h1y
                    obtain ⟨f1, f2, f3⟩ := setRow_facts w B C (splice (k * n + j) (a.eval y).cells.toList C.toList).toArray ty hC
                    refine fin _ ι hr (h.write hι hC f1 (by simpa using splice_length hfit') (fun k _ hk => f2 k hk) rfl rfl rfl f3 (fun f => ?_))
                    have key : ∀ i' cs1, (es.set k (splice j cs' cs))[i']? = some cs1 → ∀ q d, cs1[q]? = some d →
                        ((splice (k * n + j) (a.eval y).cells.toList C.toList).getD (i' * n + q) undef).oneCell' = true ∧ RelD β.G ι s.nx (w.setRow B (splice (k * n + j) (a.eval y).cells.toList C.toList).toArray) d ((splice (k * n + j) (a.eval y).cells.toList C.toList).getD (i' * n + q) undef) := by
                      intro i' cs1 hi' q d hq
                      rw [getD_get?, splice_get hfit']
                      rw [List.getElem?_set] at hi'
                      by_cases e : k = i'
                      · subst e
                        simp only [if_true, hkl] at hi'
                        injection hi' with hi'
                        subst hi'
                        rw [splice_get hfit] at hq
                        split at hq
                        · rename_i hin
                          rw [if_pos (by omega), show k * n + q - (k * n + j) = q - j by omega, ← getD_get?]
                          have hlt : q - j < (a.eval y).cells.toList.length := by rw [hvl]; exact (List.getElem?_eq_some_iff.1 hq).1
                          refine ⟨h1y _ ?_, f.relD (hUy _ d hq)⟩
                          rw [getD_get?, List.getElem?_eq_getElem hlt]
                          simp
                        · rename_i hin
                          have hql : q < cs.length := (List.getElem?_eq_some_iff.1 hq).1
                          rw [if_neg (by omega), ← getD_get?]
                          exact ⟨h1 k cs hk q d hq, f.relD (hU k cs hk q d hq)⟩
                      · simp only [if_neg e] at hi'
                        have hcl' : cs1.length = n := hlens cs1 (List.mem_of_getElem? hi')
                        have hql : q < cs1.length := (List.getElem?_eq_some_iff.1 hq).1
                        have hout : ¬ (k * n + j ≤ i' * n + q ∧ i' * n + q < k * n + j + (a.eval y).cells.toList.length) := by
                          rw [hvl]
                          rintro ⟨g1, g2⟩
                          rcases Nat.lt_or_gt_of_ne e with g | g
                          · have : (k + 1) * n ≤ i' * n := Nat.mul_le_mul_right _ g
                            rw [Nat.succ_mul] at this
                            omega
                          · have : (i' + 1) * n ≤ k * n := Nat.mul_le_mul_right _ g
                            rw [Nat.succ_mul] at this
                            omega
                        rw [if_neg hout, ← getD_get?]
                        exact ⟨h1 i' cs1 hi' q d hq, f.relD (hU i' cs1 hi' q d hq)⟩
                    refine .rowD ty n _ B _ hι f1 (fun c hc => ?_) hs0 (by rw [List.length_set, List.size_toArray, splice_length hfit']; simpa using hl) (fun i' c hi' q d hq => (key i' c hi' q d hq).1) (fun i' c hi' q d hq => (key i' c hi' q d hq).2)
                    obtain ⟨i', hi'⟩ := List.mem_iff_getElem?.1 hc
                    rw [List.getElem?_set] at hi'
                    by_cases e : k = i'
                    · subst e
                      simp only [if_true, hkl] at hi'
                      injection hi' with hi'
                      subst hi'
                      rw [splice_length hfit]
                      exact hcl
                    · simp only [if_neg e] at hi'
                      exact hlens c (List.mem_of_getElem? hi')
              · cases hs
            · cases hs
          · cases hs
        · split at hs
          · rename_i ds hp' hg
            split at hs
            · rename_i ty n' es hb
              split at hs
              · rename_i hn
                subst hn
                split at hs
                · rename_i cs hk
                  split at hs
                  · rename_i hfit
                    injection hs with hs
                    subst hs
                    obtain ⟨ι1, hl1, hR1, hdl, hds⟩ := h.giveC (by simpa using hsz) hUy hg
                    have hx1 := (hl1.fr β.G s.nx w).relD hx
                    have hO := hR1.heap b _ hb
                    cases hO with
                    | nil _ _ hι => simp at hk
                    | row _ _ _ B C hι hC hlens hs0 hl h1 hU =>
                      generalize hvx : a.eval x = vx at hx1 st fin
                      cases hx1 with
                      | ept_dead _ _ _ _ _ _ _ he => simp [he] at hι
                      | ept_nil _ _ _ _ _ _ _ he => simp [he] at hι
                      | ept_at _ _ _ _ B' _ he =>
                        rw [hι] at he
                        injection he with he
                        subst he
                        have hcl : cs.length = n := hlens cs (List.mem_of_getElem? hk)
                        have hkl : k < es.length := (List.getElem?_eq_some_iff.1 hk).1
                        have hbig : k * n + n ≤ C.size := Nat.le_trans (by rw [← Nat.succ_mul]; exact Nat.mul_le_mul_right _ hkl) hl
                        have hvl : (a.eval y).cells.toList.length = ds.length := by rw [hdl]; simpa using hsz
                        have hfit' : k * n + j + (a.eval y).cells.toList.length ≤ C.toList.length := by simp at hvl ⊢; omega
                        have hr := st B (k * n + j) C ty i rfl hi hC (by omega) (by simpa using hfit') h1y
                        obtain ⟨f1, f2, f3⟩ := setRow_facts w B C (splice (k * n + j) (a.eval y).cells.toList C.toList).toArray ty hC
                        refine fin _ ι1 hr (hR1.write hι hC f1 (by simpa using splice_length hfit') (fun k _ hk => f2 k hk) rfl rfl rfl f3 (fun f => ?_))
                        -- each element of the new row, cell by cell
                        have key : ∀ i' cs', (es.set k (splice j ds cs))[i']? = some cs' → ∀ q d, cs'[q]? = some d →
                            ((splice (k * n + j) (a.eval y).cells.toList C.toList).getD (i' * n + q) undef).oneCell' = true ∧ DatR (okB β.G ι1 (w.setRow B (splice (k * n + j) (a.eval y).cells.toList C.toList).toArray)) (w.setRow B (splice (k * n + j) (a.eval y).cells.toList C.toList).toArray) d ((splice (k * n + j) (a.eval y).cells.toList C.toList).getD (i' * n + q) undef) := by
                          intro i' cs1 hi' q d hq
                          rw [getD_get?, splice_get hfit']
                          rw [List.getElem?_set] at hi'
                          by_cases e : k = i'
                          · subst e
                            simp only [if_true, hkl] at hi'
                            injection hi' with hi'
                            subst hi'
                            rw [splice_get hfit] at hq
                            split at hq
                            · rename_i hin
                              rw [if_pos (by omega), show k * n + q - (k * n + j) = q - j by omega, ← getD_get?]
                              have hlt : q - j < (a.eval y).cells.toList.length := by rw [hvl]; exact (List.getElem?_eq_some_iff.1 hq).1
                              refine ⟨h1y _ ?_, f.datR (hds _ d hq)⟩
                              rw [getD_get?, List.getElem?_eq_getElem hlt]
                              simp
                            · rename_i hin
                              have hql : q < cs.length := (List.getElem?_eq_some_iff.1 hq).1
                              rw [if_neg (by omega), ← getD_get?]
                              exact ⟨h1 k cs hk q d hq, f.datR (hU k cs hk q d hq)⟩
                          · simp only [if_neg e] at hi'
                            have hcl' : cs1.length = n := hlens cs1 (List.mem_of_getElem? hi')
                            have hql : q < cs1.length := (List.getElem?_eq_some_iff.1 hq).1
                            have hout : ¬ (k * n + j ≤ i' * n + q ∧ i' * n + q < k * n + j + (a.eval y).cells.toList.length) := by
                              rw [hvl]
                              rintro ⟨g1, g2⟩
                              rcases Nat.lt_or_gt_of_ne e with g | g
                              · have := Nat.mul_le_mul_right n (show k + 1 ≤ i' by omega)
                                rw [Nat.succ_mul] at this
                                omega
                              · have := Nat.mul_le_mul_right n (show i' + 1 ≤ k by omega)
                                rw [Nat.succ_mul] at this
                                omega
                            rw [if_neg hout, ← getD_get?]
                            exact ⟨h1 i' cs1 hi' q d hq, f.datR (hU i' cs1 hi' q d hq)⟩
                        refine .row ty n _ B _ hι f1 (fun c hc => ?_) hs0 (by rw [List.length_set, List.size_toArray, splice_length hfit']; simpa using hl) (fun i' cs' hi' q d hq => by rw [List.toList_toArray]; exact (key i' cs' hi' q d hq).1) (fun i' cs' hi' q d hq => by rw [List.toList_toArray]; exact (key i' cs' hi' q d hq).2)
                        rcases List.mem_or_eq_of_mem_set hc with hc | hc
                        · exact hlens c hc
                        · rw [hc, splice_length hfit]
                          exact hcl
                  · cases hs
                · cases hs
              · cases hs
            · cases hs
          · cases hs
      | _ => simp at hs
    · cases hs
  · cases hs

/-- A whole array is stored. -/
def aStoreArr (P : Program) (s : S) (t : TypeId) (x y : D) : Option S :=
  match infoOf P t, cellsOf y, x with
  | some i, some cs', .ept b 1 0 0 => match i.kd with
    | .array m _ 1 => if cs'.length = i.size ∧ i.size = m then (match giveC cs' s.hp with
      | some (ds, hp') => match lk b hp' with
        | some (.row ty 1 es) => if es.length = m ∧ es ≠ [] then some { s with hp := up b (.row ty 1 (ds.map ([·]))) hp' } else none
        | _ => none
      | none => none) else none
    | _ => none
  | _, _, _ => none
theorem ok_storeArr (h : Rel β ι s a w N) {o : Oper} {t : TypeId} {x y : Operand} (ho : o.op = .store t x y) (hs : aStoreArr P s t (ev s x) (ev s y) = some s') : Good β P o a w N .bad s' := by
  have hx := ev_rel h x
  have hy := ev_rel h y
  have fin : ∀ w' ι', (Instr.storeAt t (a.eval x) (a.eval y)).run P w = .ok () w' → Rel β ι' s' a w' N → Good β P o a w N .bad s' :=
    fun w' ι' hr hR => ⟨undef, w', ι', .inr ⟨by unfold execOp; simp only [ho]; exact run_unit hr, rfl⟩, hR, .bad _⟩
  generalize ev s x = dx at hx hs
  generalize ev s y = dy at hy hs
  unfold aStoreArr at hs
  split at hs
  · rename_i i cs' b hi hc
    obtain ⟨hsz, h1y, hUy⟩ := cells_rel hy hc
    split at hs
    · rename_i m e hk
      split at hs
      · rename_i hcond
        obtain ⟨hlen, him⟩ := hcond
        split at hs
        · rename_i ds hp' hg
          split at hs
          · rename_i ty es hb
            split at hs
            · rename_i hel'
              obtain ⟨hel, hne⟩ := hel'
              injection hs with hs
              subst hs
              obtain ⟨ι1, hl1, hR1, hdl, hds⟩ := h.giveC (by simpa using hsz) hUy hg
              have hx1 := (hl1.fr β.G s.nx w).relD hx
              have hO := hR1.heap b _ hb
              generalize hvx : a.eval x = vx at hx1
              have hB : ∃ B C, ι1 b = .at B ∧ w.heap[B]? = some (.cells C ty (0, 0)) ∧ es.length ≤ C.size ∧ vx = .pointer (some ⟨B, 0, none⟩) := by
                cases hO with
                | nil _ _ hι => exact absurd rfl hne
                | row _ _ _ B C hι hC hlens hs0 hl h1 hU =>
                  cases hx1 with
                  | ept_dead _ _ _ _ _ _ _ he => simp [he] at hι
                  | ept_nil _ _ _ _ _ _ _ he => simp [he] at hι
                  | ept_at _ _ _ _ B' _ he =>
                    rw [hι] at he
                    injection he with he
                    subst he
                    exact ⟨B, C, hι, hC, by simpa using hl, rfl⟩
              obtain ⟨B, C, hι, hC, hl, rfl⟩ := hB
              have hvl : (a.eval y).cells.toList.length = ds.length := by rw [hdl]; simpa using hsz
              have hfit : 0 + (a.eval y).cells.toList.length ≤ C.toList.length := by simp at hvl ⊢; omega
              have hr : (Instr.storeAt t (a.eval x) (a.eval y)).run P w = .ok () (w.setRow B (splice 0 (a.eval y).cells.toList C.toList).toArray) := by
                rw [hvx]
                unfold Instr.storeAt
                simp only [Instr.sureAddr, Sem.run_bind, Sem.run_pure, Result.andThen_ok]
                exact run_storeVar_at hi B 0 hC _ (by omega) (by simpa using hfit) h1y
              obtain ⟨f1, f2, f3⟩ := setRow_facts w B C (splice 0 (a.eval y).cells.toList C.toList).toArray ty hC
              refine fin _ ι1 hr (hR1.write hι hC f1 (by simpa using splice_length hfit) (fun k _ hk => f2 k hk) rfl rfl rfl f3 (fun f => ?_))
              have key : ∀ (p : Nat) (cs : List Dat), (ds.map ([·]))[p]? = some cs → ∀ (q : Nat) (d : Dat), cs[q]? = some d → q = 0 ∧ ds[p]? = some d := by
                intro p cs hp q d hq
                simp only [List.getElem?_map, Option.map_eq_some_iff] at hp
                obtain ⟨e', he', rfl⟩ := hp
                cases q with
                | zero => simp at hq; subst hq; exact ⟨rfl, he'⟩
                | succ q => simp at hq
              have hat : ∀ (p : Nat) (d : Dat), ds[p]? = some d → (splice 0 (a.eval y).cells.toList C.toList).getD (p * 1 + 0) undef = (a.eval y).cells.toList.getD p undef ∧ p < (a.eval y).cells.toList.length := by
                intro p d hp
                have hlt : p < (a.eval y).cells.toList.length := by rw [hvl]; exact (List.getElem?_eq_some_iff.1 hp).1
                refine ⟨?_, hlt⟩
                rw [getD_get?, splice_get hfit, if_pos (by omega), show p * 1 + 0 - 0 = p by omega, ← getD_get?]
              refine .row ty 1 _ B _ hι f1 (fun c hc => ?_) (by omega) (by rw [List.length_map, List.size_toArray, splice_length hfit]; simp at hfit ⊢; omega) (fun p cs hp q d hq => ?_) (fun p cs hp q d hq => ?_)
              · simp only [List.mem_map] at hc
                obtain ⟨_, _, rfl⟩ := hc
                rfl
              · obtain ⟨rfl, hd⟩ := key p cs hp q d hq
                obtain ⟨e1, hlt⟩ := hat p d hd
                rw [List.toList_toArray, e1]
                refine h1y _ ?_
                rw [getD_get?, List.getElem?_eq_getElem hlt]
                simp
              · obtain ⟨rfl, hd⟩ := key p cs hp q d hq
                rw [List.toList_toArray, (hat p d hd).1]
                exact f.datR (hds p d hd)
            · cases hs
          · cases hs
        · cases hs
      · cases hs
    · cases hs
  · cases hs
def aStore (P : Program) (s : S) (t : TypeId) (x y : D) : Option S := match aStore0 P s t x y with
  | some s' => some s'
  | none => aStoreArr P s t x y
theorem ok_store (h : Rel β ι s a w N) {o : Oper} {t : TypeId} {x y : Operand} (ho : o.op = .store t x y) (hs : aStore P s t (ev s x) (ev s y) = some s') : Good β P o a w N .bad s' := by
  unfold aStore at hs
  split at hs
  · rename_i s1 h1
    injection hs with hs
    subst hs
    exact ok_store0 h ho h1
  · exact ok_storeArr h ho hs

/-- A whole array is loaded. -/
def aLoadArr (P : Program) (s : S) (t : TypeId) (x : D) : Option D :=
  match infoOf P t, x with
  | some i, .ept b 1 0 0 => match i.kd with
    | .array m _ 1 => match lk b s.hp with
      | some (.row _ 1 es) => if es.length = m ∧ i.size = m ∧ es ≠ [] then some (.dat (.agg es.flatten)) else none
      | _ => none
    | _ => none
  | _, _ => none
theorem ok_loadArr (h : Rel β ι s a w N) {o : Oper} {t : TypeId} {x : Operand} (ho : o.op = .load t x) {d : D} (hd : aLoadArr P s t (ev s x) = some d) : Good β P o a w N d s := by
  have hx := ev_rel h x
  have fin : ∀ v, (Instr.loadAt t (a.eval x)).run P w = .ok v w → RelD β.G ι s.nx w d v → Good β P o a w N d s := fun v hr hd => ⟨v, w, ι, .inl (by unfold execOp; simp only [ho]; exact run_value hr), h, hd⟩
  generalize ev s x = dx at hx hd
  unfold aLoadArr at hd
  split at hd
  · rename_i i b hi
    split at hd
    · rename_i m e hk
      split at hd
      · rename_i ty es hb
        split at hd
        · rename_i hcond
          obtain ⟨hel, him, hne⟩ := hcond
          injection hd with hd
          subst hd
          generalize hvx : a.eval x = vx at hx fin
          cases h.heap b _ hb with
          | nil => exact absurd rfl hne
          | row _ _ _ B C hι hC hlens hs0 hl h1 hU =>
            cases hx with
            | ept_dead _ _ _ _ _ _ _ he => simp [he] at hι
            | ept_nil _ _ _ _ _ _ _ he => simp [he] at hι
            | ept_at _ _ _ _ B' _ he =>
              rw [hι] at he
              injection he with he
              subst he
              obtain ⟨fl, fat⟩ := flat_one hlens
              have hag : i.kd.agg = true := by rw [hk]; rfl
              have hls : es.length ≤ C.size := by simpa using hl
              have hrun := run_loadVar_at (P := P) (w := w) hi B 0 ((List.range m).map fun p => C.toList.getD p undef) (fun j u hj => by
                simp only [List.getElem?_map, Option.map_eq_some_iff] at hj
                obtain ⟨k, hk', rfl⟩ := hj
                obtain ⟨hlt, rfl⟩ := List.getElem?_eq_some_iff.1 hk'
                have hj2 : j < C.size := by simp at hlt; omega
                simp [World.cell?, hC, hj2]) (by simp [hag, him])
              simp only [hag, if_true] at hrun
              refine fin _ ?_ (.dat (.agg es.flatten ((List.range m).map fun p => C.toList.getD p undef) (by rw [fl, hel]; simp) (fun v hv => ?_) (fun p d hp => ?_)))
              · unfold Instr.loadAt
                simp only [Instr.sureAddr, Sem.run_bind, Sem.run_pure, Result.andThen_ok]
                exact hrun
              · simp only [List.mem_map, List.mem_range] at hv
                obtain ⟨p, hp, rfl⟩ := hv
                have hpl : p < es.length := by omega
                have hc1 : es[p].length = 1 := hlens _ (List.getElem_mem hpl)
                have := h1 p es[p] (List.getElem?_eq_getElem hpl) 0 es[p][0] (List.getElem?_eq_getElem (by omega))
                simpa using this
              · obtain ⟨cs, hcs, h0⟩ := fat p d hp
                have hpl : p < m := by rw [← hel]; exact (List.getElem?_eq_some_iff.1 hcs).1
                have := hU p cs hcs 0 d h0
                rw [getD_get?, List.getElem?_map, List.getElem?_range hpl]
                simpa using this
        · cases hd
      · cases hd
    · cases hd
  · cases hd

def aLoad (P : Program) (s : S) (t : TypeId) (x : D) : Option D := match aLoad0 P s t x with
  | some d => some d
  | none => aLoadArr P s t x
theorem ok_load (h : Rel β ι s a w N) {o : Oper} {t : TypeId} {x : Operand} (ho : o.op = .load t x) {d : D} (hd : aLoad P s t (ev s x) = some d) : Good β P o a w N d s := by
  unfold aLoad at hd
  split at hd
  · rename_i d1 h1
    injection hd with hd
    subst hd
    exact ok_load0 h ho h1
  · exact ok_loadArr h ho hd

/-! ### Addresses -/
def aField (P : Program) (s : S) (t : TypeId) (f : Nat) (x : D) : Option D :=
  match infoOf P t with
  | some i => match i.kd with
    | .struct fs => match fs[f]? with
      | some (off, _, sz) => if sz = 0 then none else (match x with
        | .dat (.ref cs) => some (.dat (.ref (cs.drop off)))
        | .ptr b o => match lk b s.hp with
          | some (.var _) => some (.ptr b (o + off))
          | _ => none
        | .ept b n k j => match lk b s.hp with
          | some (.row _ _ es) => if k < es.length then some (.ept b n k (j + off)) else none
          | some (.rowD _ _ es) => if k < es.length then some (.ept b n k (j + off)) else none
          | _ => none
        | _ => none)
      | none => none
    | _ => none
  | none => none

theorem kd_struct {t : TypeId} {i : TI} (hi : infoOf P t = some i) {fs : List (Nat × TypeId × Nat)} (hk : i.kd = .struct fs) : ∃ F, P.underlying t = some (.struct F) ∧ fs = F.toList.map fun f => (f.offset, f.type, szOf P f.type) := by
  obtain ⟨ti, d, z, _, h2, _, hk', _⟩ := infoOf_spec hi
  rw [hk'] at hk
  cases d <;> simp [kdOf] at hk
  exact ⟨_, h2, hk.symm⟩
theorem kd_slice {t : TypeId} {i : TI} (hi : infoOf P t = some i) {e : TypeId} {n : Nat} (hk : i.kd = .slice e n) : P.underlying t = some (.slice e) ∧ n = szOf P e := by
  obtain ⟨ti, d, z, _, h2, _, hk', _⟩ := infoOf_spec hi
  rw [hk'] at hk
  cases d <;> simp [kdOf] at hk
  obtain ⟨rfl, rfl⟩ := hk
  exact ⟨h2, rfl⟩
theorem kd_array {t : TypeId} {i : TI} (hi : infoOf P t = some i) {m n : Nat} {e : TypeId} (hk : i.kd = .array m e n) : P.underlying t = some (.array m e) ∧ n = szOf P e := by
  obtain ⟨ti, d, z, _, h2, _, hk', _⟩ := infoOf_spec hi
  rw [hk'] at hk
  cases d <;> simp [kdOf] at hk
  obtain ⟨rfl, rfl, rfl⟩ := hk
  exact ⟨h2, rfl⟩
theorem run_sizeOf_sz {t : TypeId} (h : szOf P t ≠ 0) (w : World) : (sizeOf t).run P w = .ok (szOf P t) w := by
  unfold szOf at h ⊢
  cases hi : P.info? t with
  | none => simp [hi] at h
  | some i => simp [sizeOf, typeInfo, hi]

theorem ok_field (h : Rel β ι s a w N) {o : Oper} {t : TypeId} {x : Operand} {f : Nat} (ho : o.op = .fieldAddr t x f) {d : D} (hd : aField P s t f (ev s x) = some d) : Good β P o a w N d s := by
  have hx := ev_rel h x
  generalize ev s x = dx at hx hd
  unfold aField at hd
  split at hd
  · rename_i i hi
    split at hd
    · rename_i fs hk
      split at hd
      · rename_i off ft sz hf
        split at hd
        · cases hd
        · rename_i hsz
          obtain ⟨F, hu, rfl⟩ := kd_struct hi hk
          simp only [List.getElem?_map, Option.map_eq_some_iff, Prod.mk.injEq, Array.getElem?_toList] at hf
          obtain ⟨q, hq, rfl, rfl, rfl⟩ := hf
          have run : ∀ B j, a.eval x = .pointer (some ⟨B, j, none⟩) → RelD β.G ι s.nx w d (.pointer (some ⟨B, j + q.offset, none⟩)) → Good β P o a w N d s := by
            intro B j hp hr
            refine ⟨_, w, ι, .inl ?_, h, hr⟩
            unfold execOp
            simp only [ho, hp]
            refine run_value ?_
            have h1 := run_underlying hu w
            simp only [Instr.fieldAt, Sem.run_bind, h1, Result.andThen_ok, hq, Instr.sureAddr, Sem.run_pure, fieldPlace, run_sizeOf_sz hsz, hsz, if_false, Addr.add_mid]
          cases dx with
          | dat dd =>
            cases dd with
            | ref cs =>
              simp only [Option.some.injEq] at hd
              subst hd
              obtain ⟨hx⟩ := hx
              generalize hvx : a.eval x = vx at hx run
              cases hx with
              | ref _ B j U hok hcell hU =>
                refine run B j rfl (.dat (.ref _ B _ (fun m => U (q.offset + m)) hok (fun m d hm => ?_) (fun m d hm => ?_)))
                · rw [List.getElem?_drop] at hm
                  have := hcell _ d hm
                  rwa [← Nat.add_assoc] at this
                · rw [List.getElem?_drop] at hm
                  exact hU _ d hm
            | _ => simp at hd
          | ptr b off' =>
            simp only at hd
            split at hd
            · rename_i cs hb
              simp only [Option.some.injEq] at hd
              subst hd
              obtain ⟨B, hι⟩ := h.kd hb
              generalize hvx : a.eval x = vx at hx run
              cases hx with
              | ptr_dead _ _ _ _ _ he => simp [he] at hι
              | ptr_nil _ _ _ _ _ he => simp [he] at hι
              | ptr_at _ _ B' hlt he => exact run B' off' rfl (.ptr_at b _ B' hlt he)
            · cases hd
          | ept b n k j =>
            simp only at hd
            split at hd
            · rename_i hb
              split at hd
              · rename_i hkl
                simp only [Option.some.injEq] at hd
                subst hd
                have hO := h.heap b _ hb
                cases hO with
                | nil => simp at hkl
                | row _ _ _ B C hι hC =>
                  generalize hvx : a.eval x = vx at hx run
                  cases hx with
                  | ept_dead _ _ _ _ _ _ _ he => simp [he] at hι
                  | ept_nil _ _ _ _ _ _ _ he => simp [he] at hι
                  | ept_at _ _ _ _ B' hlt he => exact run B' (k * n + j) rfl (by rw [Nat.add_assoc]; exact .ept_at b n k _ B' hlt he)
              · cases hd
            · rename_i hb
              split at hd
              · rename_i hkl
                simp only [Option.some.injEq] at hd
                subst hd
                have hO := h.heap b _ hb
                cases hO with
                | rowD _ _ _ B C hι hC =>
                  generalize hvx : a.eval x = vx at hx run
                  cases hx with
                  | ept_dead _ _ _ _ _ _ _ he => simp [he] at hι
                  | ept_nil _ _ _ _ _ _ _ he => simp [he] at hι
                  | ept_at _ _ _ _ B' hlt he => exact run B' (k * n + j) rfl (by rw [Nat.add_assoc]; exact .ept_at b n k _ B' hlt he)
              · cases hd
            · cases hd
          | _ => simp at hd
      · cases hd
    · cases hd
  · cases hd

def aIndex (P : Program) (s : S) (t : TypeId) (x i : D) : Option D :=
  match infoOf P t, i with
  | some ti, .dat (.val (.int _ n)) => match ti.kd with
    | .slice e esz => match x with
      | .dat (.sl size es) => if size = esz ∧ 0 < size ∧ 0 ≤ n then (match es[n.toNat]? with
        | some cs => some (.dat (.ref cs))
        | none => none) else none
      | .own b size len => match lk b s.hp with
        | some (.row _ size' es) => if size = esz ∧ size' = size ∧ 0 < size ∧ 0 ≤ n ∧ n < len ∧ len ≤ es.length then some (.ept b size n.toNat 0) else none
        | some (.rowD _ size' es) => if size = esz ∧ size' = size ∧ 0 < size ∧ 0 ≤ n ∧ n < len ∧ len ≤ es.length then some (.ept b size n.toNat 0) else none
        | _ => none
      | .vw b size off len => match lk b s.hp with
        | some (.row _ size' es) => if size = esz ∧ size' = size ∧ 0 < size ∧ 0 ≤ n ∧ n < len ∧ off + len ≤ es.length then some (.ept b size (off + n.toNat) 0) else none
        | _ => none
      | _ => none
    | .array m e esz => match x with
      | .ept b size 0 0 => match lk b s.hp with
        | some (.row _ size' es) => if size = esz ∧ size' = size ∧ 0 < size ∧ 0 ≤ n ∧ n < m ∧ es ≠ [] then some (.ept b size n.toNat 0) else none
        | _ => none
      | _ => none
    | _ => none
  | _, _ => none

theorem ok_index (h : Rel β ι s a w N) {o : Oper} {t : TypeId} {x y : Operand} (ho : o.op = .indexAddr t x y) {d : D} (hd : aIndex P s t (ev s x) (ev s y) = some d) : Good β P o a w N d s := by
  have hx := ev_rel h x
  have hy := ev_rel h y
  generalize ev s x = dx at hx hd
  generalize ev s y = dy at hy hd
  unfold aIndex at hd
  split at hd
  · rename_i ti k n hi
    have hyv : a.eval y = .int k n := by obtain ⟨hy⟩ := hy; generalize a.eval y = vy at hy; cases hy; rfl
    have run : ∀ v, (Instr.indexAt t (a.eval x) (.int k n)).run P w = .ok v w → RelD β.G ι s.nx w d v → Good β P o a w N d s := fun v hr hd => ⟨v, w, ι, .inl (by unfold execOp; simp only [ho, hyv]; exact run_value hr), h, hd⟩
    split at hd
    · rename_i e esz hk
      obtain ⟨hu, hez⟩ := kd_slice hi hk
      have sl : ∀ B q len c, a.eval x = .slice (some ⟨B, q, none⟩) len c → szOf P e ≠ 0 → 0 ≤ n → n < len → (Instr.indexAt t (a.eval x) (.int k n)).run P w = .ok (.pointer (some ⟨B, q + n.toNat * szOf P e, none⟩)) w := by
        intro B q len c hv hne h0 hlt
        have h1 := run_underlying hu w
        simp only [hv, Instr.indexAt, asIntOf, Sem.run_bind, Sem.run_pure, Result.andThen_ok, h1]
        rw [if_pos ⟨h0, hlt⟩]
        simp only [Sem.run_bind, run_sizeOf_sz hne, Result.andThen_ok, Sem.run_pure, Addr.add_mid]
      cases dx with
      | dat dd =>
        cases dd with
        | sl size es =>
          simp only at hd
          split at hd
          · rename_i hc
            obtain ⟨rfl, hpos, h0⟩ := hc
            split at hd
            · rename_i cs hcs
              simp only [Option.some.injEq] at hd
              subst hd
              obtain ⟨hx⟩ := hx
              have hlt : n.toNat < es.length := (List.getElem?_eq_some_iff.1 hcs).1
              generalize hvx : a.eval x = vx at hx run sl
              cases hx with
              | slnil => simp at hcs
              | sl _ _ B q c U hlen hc' hm hok hcell hU =>
                refine run _ (sl B q es.length c rfl (by omega) h0 (by omega)) (.dat (.ref _ B _ (fun j => U n.toNat j) hok (fun j d hj => ?_) (fun j d hj => hU _ cs hcs j d hj)))
                have := hcell _ cs hcs j d hj
                rw [← hez, Nat.add_assoc]
                exact this
            · cases hd
          · cases hd
        | _ => simp at hd
      | own b size len =>
        simp only at hd
        split at hd
        · rename_i ty size' es hb
          split at hd
          · rename_i hc
            obtain ⟨rfl, rfl, hpos, h0, hlt, hle⟩ := hc
            simp only [Option.some.injEq] at hd
            subst hd
            have hO := h.heap b _ hb
            cases hO with
            | nil _ _ hι => simp at hle; omega
            | row _ _ _ B C hι hC =>
              generalize hvx : a.eval x = vx at hx run sl
              cases hx with
              | own_dead _ _ _ _ _ _ he => simp [he] at hι
              | own_nil _ _ _ he => simp [he] at hι
              | own_at _ _ _ B' c hbl he =>
                refine run _ (sl B' 0 len c rfl (by omega) h0 hlt) ?_
                rw [← hez, Nat.zero_add]
                exact .ept_at b _ _ 0 B' hbl he
          · cases hd
        · rename_i ty size' es hb
          split at hd
          · rename_i hc
            obtain ⟨rfl, rfl, hpos, h0, hlt, hle⟩ := hc
            simp only [Option.some.injEq] at hd
            subst hd
            have hO := h.heap b _ hb
            cases hO with
            | rowD _ _ _ B C hι hC =>
              generalize hvx : a.eval x = vx at hx run sl
              cases hx with
              | own_dead _ _ _ _ _ _ he => simp [he] at hι
              | own_nil _ _ _ he => simp [he] at hι
              | own_at _ _ _ B' c hbl he =>
                refine run _ (sl B' 0 len c rfl (by omega) h0 hlt) ?_
                rw [← hez, Nat.zero_add]
                exact .ept_at b _ _ 0 B' hbl he
          · cases hd
        · cases hd
      | vw b size off len =>
        simp only at hd
        split at hd
        · rename_i ty size' es hb
          split at hd
          · rename_i hc
            obtain ⟨rfl, rfl, hpos, h0, hlt, hle⟩ := hc
            simp only [Option.some.injEq] at hd
            subst hd
            have hO := h.heap b _ hb
            cases hO with
            | nil _ _ hι => simp at hle; omega
            | row _ _ _ B C hι hC =>
              generalize hvx : a.eval x = vx at hx run sl
              cases hx with
              | vw_dead _ _ _ _ _ _ _ he => simp [he] at hι
              | vw_nil _ _ _ _ he => simp [he] at hι
              | vw_at _ _ _ _ B' c A hbl he hA =>
                have hA' := hA (by omega)
                subst hA'
                refine run _ (sl B' _ len c rfl (by omega) h0 hlt) ?_
                rw [← hez, ← Nat.add_mul]
                exact .ept_at b _ _ 0 B' hbl he
          · cases hd
        · cases hd
      | _ => simp at hd
    · rename_i m e esz hk
      obtain ⟨hu, hez⟩ := kd_array hi hk
      split at hd
      · rename_i b size
        split at hd
        · rename_i ty size' es hb
          split at hd
          · rename_i hc
            obtain ⟨rfl, rfl, hpos, h0, hlt, hne⟩ := hc
            simp only [Option.some.injEq] at hd
            subst hd
            have hO := h.heap b _ hb
            cases hO with
            | nil _ _ hι => simp at hne
            | row _ _ _ B C hι hC =>
              generalize hvx : a.eval x = vx at hx run
              cases hx with
              | ept_dead _ _ _ _ _ _ _ he => simp [he] at hι
              | ept_nil _ _ _ _ _ _ _ he => simp [he] at hι
              | ept_at _ _ _ _ B' hbl he =>
                refine run (.pointer (some ⟨B', n.toNat * szOf P e, none⟩)) ?_ ?_
                · have h1 := run_underlying hu w
                  simp only [Instr.indexAt, asIntOf, Sem.run_bind, Sem.run_pure, Result.andThen_ok, h1, Instr.sureAddr]
                  rw [if_pos ⟨h0, hlt⟩]
                  simp only [Sem.run_bind, run_sizeOf_sz (show szOf P e ≠ 0 by omega), Result.andThen_ok, Sem.run_pure, Addr.add_mid]
                  simp
                · rw [← hez]
                  exact .ept_at b _ _ 0 B' hbl he
          · cases hd
        · cases hd
      · cases hd
    · cases hd
  · cases hd

end Go.Proofs.Ytbkkekbeaabokaa.Sx
