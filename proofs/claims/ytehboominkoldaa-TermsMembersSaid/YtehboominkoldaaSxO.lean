/- Sx, part O: a region of operations that only look may draw its order: it comes out as in the order of its text. -/
import Derived.Test.YtehboominkoldaaSxN
set_option linter.unusedVariables false
set_option linter.unusedSimpArgs false
namespace Go.Proofs.Ytehboominkoldaa.Sx
open Go Go.RowKit

variable {P : Program} {G : Nat → Prop} {w0 w w' : World} {ι ι' : Nat → Loc} {s s' : S} {a : Act} {N : Nat} {ops : Array Oper} {o : Oper} {i : Nat} {r : List Nat} {n : S → Prop} {p : Value → S → Prop}

def tblGo : List Oper → List (List Nat) → List (List Nat)
  | [], T => T
  | o :: r, T => tblGo r (T ++ [((o.after.toList.filter fun e => Region.binds .any e).flatMap fun e => e.on :: T.getD e.on []).eraseDups])
def opAt (ops : Array Oper) (T : List (List Nat)) (i : Nat) (o : Oper) : Bool :=
  o.after.toList.all (fun e => !Region.binds .any e || decide (e.on < i)) &&
  (T.getD i []).all (fun j => o.after.toList.any fun e => Region.binds .any e && (e.on == j || (T.getD e.on []).contains j)) &&
  (o.looksAt ops).all (fun t => (List.range ops.size).all fun j => match ops[j]? with
    | none => true
    | some oj => if oj.dst == some t then (if j < i then (T.getD i []).contains j else (j == i || (T.getD j []).contains i)) else true) &&
  (List.range ops.size).all (fun j => j == i || o.dst == none || match ops[j]? with
    | none => true
    | some oj => oj.dst != o.dst)
def drawOk (ops : Array Oper) (T : List (List Nat)) : Bool := (List.range ops.size).all fun i => match ops[i]? with
  | none => false
  | some o => opAt ops T i o

section
variable {T : List (List Nat)} (hD : drawOk ops T = true)
include hD
theorem drawOk_at (ho : ops[i]? = some o) : opAt ops T i o = true := by
  have hlt := (Array.getElem?_eq_some_iff.1 ho).1
  have := List.all_eq_true.1 hD i (List.mem_range.2 hlt)
  simpa [ho] using this
theorem draw_lt (ho : ops[i]? = some o) {e : Edge} (he : e ∈ o.after) (hb : Region.binds .any e = true) : e.on < i := by
  have := drawOk_at hD ho
  simp only [opAt, Bool.and_eq_true] at this
  have := List.all_eq_true.1 this.1.1.1 e (Array.mem_toList_iff.2 he)
  simpa [hb] using this
/-- What is laid down for i's sake stands in every set that holds i's own grounds. -/
theorem draw_tbl (L : Nat → Prop) (hL : ∀ i o, ops[i]? = some o → L i → ∀ e ∈ o.after, Region.binds .any e = true → L e.on) : ∀ (i : Nat) (o : Oper), ops[i]? = some o → (∀ e ∈ o.after, Region.binds .any e = true → L e.on) → ∀ j, (T.getD i []).contains j = true → L j := by
  intro i
  induction i using Nat.strongRecOn with
  | _ i ih =>
    intro o ho hE j hj
    have := drawOk_at hD ho
    simp only [opAt, Bool.and_eq_true] at this
    have := List.all_eq_true.1 this.1.1.2 j (List.contains_iff_mem.1 hj)
    obtain ⟨e, he, h⟩ := List.any_eq_true.1 this
    simp only [Bool.and_eq_true, Bool.or_eq_true, beq_iff_eq] at h
    have he' := Array.mem_toList_iff.1 he
    rcases h.2 with rfl | h2
    · exact hE e he' h.1
    · have hlt := draw_lt hD ho he' h.1
      have hs : e.on < ops.size := Nat.lt_trans hlt (Array.getElem?_eq_some_iff.1 ho).1
      exact ih e.on hlt ops[e.on] (Array.getElem?_eq_getElem hs) (hL e.on _ (Array.getElem?_eq_getElem hs) (hE e he' h.1)) j h2
theorem draw_look {t j : Nat} {oj : Oper} (ho : ops[i]? = some o) (ht : t ∈ o.looksAt ops) (hj : ops[j]? = some oj) (hd : oj.dst = some t) : if j < i then (T.getD i []).contains j = true else j = i ∨ (T.getD j []).contains i = true := by
  have := drawOk_at hD ho
  simp only [opAt, Bool.and_eq_true] at this
  have := List.all_eq_true.1 this.1.2 t ht
  have := List.all_eq_true.1 this j (List.mem_range.2 (Array.getElem?_eq_some_iff.1 hj).1)
  simp only [hj, hd, beq_self_eq_true, if_true] at this
  split
  · rename_i h
    rw [if_pos h] at this
    exact this
  · rename_i h
    rw [if_neg h] at this
    simpa using this
theorem draw_dst {t j : Nat} {oj : Oper} (ho : ops[i]? = some o) (ht : o.dst = some t) (hj : ops[j]? = some oj) (hd : oj.dst = some t) : j = i := by
  have := drawOk_at hD ho
  simp only [opAt, Bool.and_eq_true] at this
  have := List.all_eq_true.1 this.2 j (List.mem_range.2 (Array.getElem?_eq_some_iff.1 hj).1)
  simp only [hj, hd, ht, Bool.or_eq_true, beq_iff_eq] at this
  rcases this with (h | h) | h
  · exact h
  · simp at h
  · simp at h
end

/-- The slots, when the operations of L are done. -/
structure Vw (ops : Array Oper) (F : Nat → D) (sl0 : List (Nat × D)) (L : Nat → Prop) (sl : List (Nat × D)) : Prop where
  done : ∀ j o t, ops[j]? = some o → L j → o.dst = some t → lk t sl = some (F j)
  rest : ∀ t, (∀ j o, ops[j]? = some o → o.dst = some t → ¬ L j) → lk t sl = lk t sl0
def upO (dst : Option Nat) (d : D) (sl : List (Nat × D)) : List (Nat × D) := match dst with
  | none => sl
  | some t => up t d sl
theorem put_upO (s : S) (dst : Option Nat) (d : D) : s.put dst d = s.at (upO dst d s.sl) := by cases dst <;> rfl
theorem Vw.put {T : List (List Nat)} (hD : drawOk ops T = true) {F : Nat → D} {sl0 sl : List (Nat × D)} {L : Nat → Prop} (h : Vw ops F sl0 L sl) (ho : ops[i]? = some o) : Vw ops F sl0 (fun j => j = i ∨ L j) (upO o.dst (F i) sl) := by
  refine ⟨fun j oj t hj hL ht => ?_, fun t hn => ?_⟩
  · cases hd : o.dst with
    | none =>
      simp only [upO]
      rcases hL with rfl | hL
      · rw [ho] at hj; injection hj with hj; subst hj; rw [hd] at ht; cases ht
      · exact h.done j oj t hj hL ht
    | some k =>
      simp only [upO, lk_up]
      by_cases e : t = k
      · subst e
        rw [if_pos rfl, draw_dst hD ho hd hj ht]
      · rw [if_neg e]
        rcases hL with rfl | hL
        · rw [ho] at hj; injection hj with hj; subst hj; rw [hd] at ht; injection ht with ht; exact absurd ht.symm e
        · exact h.done j oj t hj hL ht
  · cases hd : o.dst with
    | none => exact h.rest t fun j oj hj ht hL => hn j oj hj ht (.inr hL)
    | some k =>
      simp only [upO, lk_up]
      by_cases e : t = k
      · subst e; exact absurd (.inl rfl) (hn i o ho hd)
      · rw [if_neg e]; exact h.rest t fun j oj hj ht hL => hn j oj hj ht (.inr hL)
theorem Vw.agree {F : Nat → D} {sl0 sl sl' : List (Nat × D)} {L L' : Nat → Prop} (h : Vw ops F sl0 L sl) (h' : Vw ops F sl0 L' sl') {t : Nat} (hE : ∀ j oj, ops[j]? = some oj → oj.dst = some t → (L j ↔ L' j)) : lk t sl = lk t sl' := by
  by_cases hx : ∃ j oj, ops[j]? = some oj ∧ oj.dst = some t ∧ L j
  · obtain ⟨j, oj, hj, ht, hL⟩ := hx
    rw [h.done j oj t hj hL ht, h'.done j oj t hj ((hE j oj hj ht).1 hL) ht]
  · have h1 : ∀ j oj, ops[j]? = some oj → oj.dst = some t → ¬ L j := fun j oj hj ht hL => hx ⟨j, oj, hj, ht, hL⟩
    rw [h.rest t h1, h'.rest t fun j oj hj ht hL => h1 j oj hj ht ((hE j oj hj ht).2 hL)]
theorem Vw.iff {F : Nat → D} {sl0 sl : List (Nat × D)} {L L' : Nat → Prop} (h : Vw ops F sl0 L sl) (hE : ∀ j, j < ops.size → (L j ↔ L' j)) : Vw ops F sl0 L' sl :=
  ⟨fun j o t hj hL ht => h.done j o t hj ((hE j (Array.getElem?_eq_some_iff.1 hj).1).2 hL) ht, fun t hn => h.rest t fun j o hj ht hL => hn j o hj ht ((hE j (Array.getElem?_eq_some_iff.1 hj).1).1 hL)⟩

/-- The run in the order of the text, told place by place. -/
theorem RunP.get {T : List (List Nat)} (hD : drawOk ops T = true) {s0 : S} : ∀ {m k : Nat} {s s1 : S} {F : Nat → D}, k + m = ops.size → RunP P N ops ((List.range m).map (k + ·)) s s1 → (∃ sl, s = s0.at sl ∧ Vw ops F s0.sl (· < k) sl) →
    ∃ F' : Nat → D, (∀ j, j < k → F' j = F j) ∧ (∀ j, k ≤ j → j < ops.size → ∃ o sl, ops[j]? = some o ∧ Vw ops F' s0.sl (· < j) sl ∧ PStep P N ops o (s0.at sl) (F' j)) ∧ ∃ sl, s1 = s0.at sl ∧ Vw ops F' s0.sl (· < ops.size) sl
  | 0, k, s, s1, F, hk, h, ⟨sl, e, hV⟩ => by
    simp only [List.range_zero, List.map_nil] at h
    cases h
    refine ⟨F, fun _ _ => rfl, fun j h1 h2 => by omega, sl, e, ?_⟩
    have : ops.size = k := by omega
    rw [this]; exact hV
  | m + 1, k, s, s1, F, hk, h, ⟨sl, e, hV⟩ => by
    have e2 : (List.range (m + 1)).map (k + ·) = k :: (List.range m).map (k + 1 + ·) := by
      rw [List.range_succ_eq_map, List.map_cons, List.map_map]
      simp only [Nat.add_zero, List.cons.injEq, true_and]
      congr 1
      funext j
      simp only [Function.comp]
      omega
    rw [e2] at h
    cases h with
    | cons ho hs hr =>
      rename_i o d
      subst e
      have hlt := (Array.getElem?_eq_some_iff.1 ho).1
      let F1 : Nat → D := fun j => if j = k then d else F j
      have hV1 : Vw ops F1 s0.sl (· < k) sl := ⟨fun j oj t hj hL ht => by
        have : F1 j = F j := if_neg (by omega)
        rw [this]; exact hV.done j oj t hj hL ht, hV.rest⟩
      have hV2 := hV1.put hD ho
      have hd : F1 k = d := if_pos rfl
      rw [hd] at hV2
      have hV3 : Vw ops F1 s0.sl (· < k + 1) (upO o.dst d sl) := hV2.iff fun j _ => by omega
      rw [put_upO, show ((s0.at sl).at (upO o.dst d (s0.at sl).sl)) = s0.at (upO o.dst d sl) from rfl] at hr
      obtain ⟨F', h1, h2, h3⟩ := RunP.get (s0 := s0) (k := k + 1) (F := F1) hD (by omega) hr ⟨_, rfl, hV3⟩
      refine ⟨F', fun j hj => (h1 j (by omega)).trans (if_neg (by omega)), fun j hj hjn => ?_, h3⟩
      by_cases ej : j = k
      · subst ej
        have hFk : F' j = d := (h1 j (by omega)).trans hd
        refine ⟨o, sl, ho, ⟨fun j' oj t hj' hL ht => ?_, hV1.rest⟩, by rw [hFk]; exact hs⟩
        rw [h1 j' (by omega)]; exact hV1.done j' oj t hj' hL ht
      · exact h2 j (by omega) hjn

theorem ready_nil {T : List (List Nat)} (hD : drawOk ops T = true) {listed : Array Bool} (hsz : listed.size = ops.size) (h : Region.ready .any ops listed = []) : ∀ i, i < ops.size → listed.getD i false = true := by
  intro i
  induction i using Nat.strongRecOn with
  | _ i ih =>
    intro hi
    cases hl : listed.getD i false with
    | true => rfl
    | false =>
      exfalso
      have : i ∈ Region.ready .any ops listed := mem_ready.2 ⟨by
        rw [Array.getD_eq_getD_getElem?, Array.getElem?_eq_getElem (by omega)] at hl ⊢
        simpa using hl, ops[i], Array.getElem?_eq_getElem hi, fun e he hb => by
        have := draw_lt hD (Array.getElem?_eq_getElem hi) he hb
        exact ih e.on this (by omega)⟩
      rw [h] at this
      cases this

theorem any_ok {T : List (List Nat)} (hD : drawOk ops T = true) {F : Nat → D} {Q : Exit → Act → World → Prop}
    (hF : ∀ j, j < ops.size → ∃ o sl, ops[j]? = some o ∧ Vw ops F s.sl (· < j) sl ∧ PStep P N ops o (s.at sl) (F j))
    (hQ : ∀ (sl : List (Nat × D)) (ι : Nat → Loc) (a : Act) (w : World), Vw ops F s.sl (· < ops.size) sl → Rel G w0 ι (s.at sl) a w N → Q .normal a w) :
    ∀ (fuel : Nat) (listed : Array Bool) (sl : List (Nat × D)) (ι : Nat → Loc) (a : Act) (w : World), listed.size = ops.size → listed.toList.count false ≤ fuel → (∀ i o, ops[i]? = some o → listed.getD i false = true → ∀ e ∈ o.after, Region.binds .any e = true → listed.getD e.on false = true) →
      Vw ops F s.sl (fun j => listed.getD j false = true) sl → Rel G w0 ι (s.at sl) a w N → wpAny P .any ops Q fuel listed a w := by
  have fin : ∀ (listed : Array Bool) (sl : List (Nat × D)) (ι : Nat → Loc) (a : Act) (w : World), listed.size = ops.size → Vw ops F s.sl (fun j => listed.getD j false = true) sl → Rel G w0 ι (s.at sl) a w N → Region.ready .any ops listed = [] → Q .normal a w := by
    intro listed sl ι a w hsz hV hR h0
    have := ready_nil hD hsz h0
    exact hQ sl ι a w (hV.iff fun j hj => ⟨fun _ => hj, fun _ => this j hj⟩) hR
  intro fuel
  induction fuel with
  | zero =>
    intro listed sl ι a w hsz hc hdown hV hR
    have h0 : Region.ready .any ops listed = [] := by
      refine List.eq_nil_iff_forall_not_mem.2 fun i hi => ?_
      obtain ⟨h1, o, ho, _⟩ := mem_ready.1 hi
      have hlt : i < listed.size := by have := (Array.getElem?_eq_some_iff.1 ho).1; omega
      rw [Array.getD_eq_getD_getElem?, Array.getElem?_eq_getElem hlt] at h1
      simp only [Option.getD_some] at h1
      have : false ∈ listed.toList := by rw [← h1]; simp
      have := List.count_pos_iff.2 this
      omega
    exact ⟨h0, fin listed sl ι a w hsz hV hR h0⟩
  | succ fuel ih =>
    intro listed sl ι a w hsz hc hdown hV hR
    refine ⟨fin listed sl ι a w hsz hV hR, fun i hi => ?_⟩
    obtain ⟨h1, o, ho, hafter⟩ := mem_ready.1 hi
    have hlt : i < ops.size := (Array.getElem?_eq_some_iff.1 ho).1
    have hlt' : i < listed.size := by omega
    have hun : listed.getD i false = false := by
      rw [Array.getD_eq_getD_getElem?, Array.getElem?_eq_getElem hlt'] at h1 ⊢
      simpa using h1
    obtain ⟨o', sli, ho', hVi, hs⟩ := hF i hlt
    rw [ho] at ho'
    injection ho' with ho'
    subst ho'
    have hagree : ∀ t ∈ o.looksAt ops, lk t sl = lk t (s.at sli).sl := by
      intro t ht
      refine hV.agree hVi fun j oj hj hd => ?_
      have := draw_look hD ho ht hj hd
      by_cases hji : j < i
      · rw [if_pos hji] at this
        refine ⟨fun _ => hji, fun _ => ?_⟩
        exact draw_tbl hD (fun j => listed.getD j false = true) hdown i o ho hafter j this
      · rw [if_neg hji] at this
        refine ⟨fun hL => ?_, fun h => absurd h hji⟩
        rcases this with rfl | this
        · rw [hun] at hL; cases hL
        · have := draw_tbl hD (fun j => listed.getD j false = true) hdown j oj hj (hdown j oj hj hL) i this
          rw [hun] at this; cases this
    have hs' : PStep P N ops o (s.at sl) (F i) := (hs.congr (sl' := sl) hagree)
    have hset : ∀ j, (listed.setIfInBounds i true).getD j false = true ↔ j = i ∨ listed.getD j false = true := by
      intro j
      by_cases e : i = j
      · subst e; simp [hlt']
      · rw [getD_set_ne false e]
        exact ⟨.inr, fun h => h.resolve_left fun e' => e e'.symm⟩
    refine hs'.ok hR ho fun ι' a' w' hR' => ?_
    rw [put_upO] at hR'
    refine ih _ _ ι' a' w' (by simp [hsz]) ?_ (fun j oj hj hL e he hb => ?_) ((hV.put hD ho).iff fun j _ => (hset j).symm) hR'
    · rw [Array.toList_setIfInBounds]
      have h2 : listed.toList[i]? = some false := by
        rw [Array.getD_eq_getD_getElem?, Array.getElem?_eq_getElem hlt'] at hun
        simp only [Option.getD_some] at hun
        rw [Array.getElem?_toList, Array.getElem?_eq_getElem hlt', hun]
      have hl3 : i < listed.toList.length := by simpa using hlt'
      have h3 : listed.toList[i] = false := by
        rw [List.getElem?_eq_getElem hl3] at h2
        injection h2
      have h4 : 0 < listed.toList.count false := List.count_pos_iff.2 (h3 ▸ List.getElem_mem hl3)
      have h5 : (listed.toList.set i true).count false = listed.toList.count false - 1 := by
        rw [List.count_set hl3, h3]
        simp
      omega
    · rw [hset] at hL ⊢
      rcases hL with rfl | hL
      · rw [ho] at hj; injection hj with hj; subst hj
        exact .inr (hafter e he hb)
      · exact .inr (hdown j oj hj hL e he hb)

theorem draw_ok (hm : P.follows .mixedOrders = true) {T : List (List Nat)} (hD : drawOk ops T = true) {s1 : S} (h : RunP P N ops (List.range ops.size) s s1) {id : Nat} {K : Ex → S → Prop} (hK : ∀ s', Ent s' s1 → K .normal s') : TCode P N (.region id ops true) s K := by
  intro G w0 ι a w hR
  have h' : RunP P N ops ((List.range ops.size).map (0 + ·)) s s1 := by simpa using h
  obtain ⟨F, _, hF, sl1, rfl, hV1⟩ := RunP.get (s0 := s) (F := fun _ => .bad) hD (by omega) h' ⟨s.sl, rfl, ⟨fun j o t _ hL _ => by simp at hL, fun t _ => rfl⟩⟩
  refine wp_region_any hm ?_
  refine any_ok (G := G) (w0 := w0) hD (fun j hj => hF j (Nat.zero_le _) hj) (fun sl ι a w hV hR => ?_) ops.size _ s.sl ι a _ (by simp) (by simp) (fun i o ho hL => ?_) ⟨fun j o t hj hL _ => ?_, fun t _ => rfl⟩ hR.drew
  · refine ⟨s.at sl, ι, hK _ ?_, hR⟩
    intro G' w0' ι' a' w' N' hR'
    exact ⟨ι', hR'.fewer (sl := sl1) fun t d ht => by rw [← ht]; exact hV.agree hV1 fun j oj _ _ => Iff.rfl⟩
  · have hlt := (Array.getElem?_eq_some_iff.1 ho).1
    simp [Array.getD_eq_getD_getElem?, hlt] at hL
  · have hlt := (Array.getElem?_eq_some_iff.1 hj).1
    simp [Array.getD_eq_getD_getElem?, hlt] at hL

/-- A drawn region, and what comes behind it. -/
theorem T_seqDraw {is : List Nat} {id : Nat} {y : Code} {K : Ex → S → Prop} (hi : List.range ops.size = is) (hm : P.follows .mixedOrders = true) (hD : drawOk ops (tblGo ops.toList []) = true) (h : ∀ n : S → Prop, (∀ s1, TCode P N y s1 K → n s1) → TRun P N ops is s n) : TCode P N (.seq (.region id ops true) y) s K := by
  obtain ⟨s1, h1, h2⟩ := h _ (fun _ h => h)
  refine T_seqM (fun s' => Ent s' s1) ?_ fun s' hE => T_ent hE h2
  refine draw_ok hm hD (by rw [hi]; exact h1) fun s' hE => hE
theorem T_draw' {is : List Nat} {id : Nat} {K : Ex → S → Prop} (hi : List.range ops.size = is) (hm : P.follows .mixedOrders = true) (hD : drawOk ops (tblGo ops.toList []) = true) (hK : ∀ s' s1, Ent s' s1 → K .normal s1 → K .normal s') (h : ∀ n : S → Prop, (∀ s1, K .normal s1 → n s1) → TRun P N ops is s n) : TCode P N (.region id ops true) s K := by
  obtain ⟨s1, h1, h2⟩ := h _ (fun _ h => h)
  exact draw_ok hm hD (by rw [hi]; exact h1) fun s' hE => hK s' s1 hE h2

theorem D_call {d1 : D} (ho : ops[i]? = some o) (hg : o.guard = none) (hd : dstOk o.dst N = true) (h : Pure1 P o.op s d1) (k : ∀ c : S → Prop, (∀ s', TRun P N ops r s' n → c s') → c (s.put o.dst d1)) : TRun P N ops (i :: r) s n :=
  D_pure ho ⟨true, d1, by simp only [wantedD, hg], fun _ => h, rfl, hd⟩ k

end Go.Proofs.Ytehboominkoldaa.Sx
