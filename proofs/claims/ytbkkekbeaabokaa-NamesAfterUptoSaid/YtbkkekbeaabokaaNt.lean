/- The names: plain laws of the order, the circle, and of turned catalogues. No program in sight. -/
import Derived.Test.YtbkkekbeaabokaaNs
set_option linter.unusedVariables false
set_option linter.unusedSimpArgs false
namespace Go.Proofs.Ytbkkekbeaabokaa
open Go Go.Proofs.Ytbkkekbeaabokaa.Sx

/-! ### The listing -/
/-- Each one stands behind all that it needs. -/
def Bef (c : Cat) (out : List Int) : Prop := ∀ (p : Nat) (x : Int), out[p]? = some x → allH (out.take p) (needsAt c x.toNat) = true
theorem listGo_bef (c : Cat) : ∀ (k : Nat) (out : List Int), Bef c out → Bef c (listGo c k out)
  | 0, out, h => h
  | k + 1, out, h => by
    simp only [listGo]
    split
    · rename_i i hi
      refine listGo_bef c k _ fun p x hp => ?_
      rcases Nat.lt_trichotomy p out.length with hlt | heq | hgt
      · rw [List.getElem?_append_left hlt] at hp
        rw [List.take_append_of_le_length (by omega)]
        exact h p x hp
      · subst heq
        simp at hp
        subst hp
        have hr := (nextR_some hi).2.1
        simp only [readyB, Bool.and_eq_true] at hr
        simpa using hr.1
      · rw [List.getElem?_eq_none (by simp; omega)] at hp
        cases hp
    · exact h
theorem listOf_bef (c : Cat) : Bef c (listOf c) := listGo_bef c _ [] fun p x h => by simp at h
theorem nodup_ge : ∀ (n : Nat) (l : List Int), l.Nodup → (∀ k : Nat, k < n → (k : Int) ∈ l) → n ≤ l.length
  | 0, l, _, _ => Nat.zero_le _
  | n + 1, l, hn, h => by
    have hm := h n (by omega)
    have h1 := nodup_ge n (l.erase (n : Int)) (hn.erase _) (fun k hk => (List.Nodup.mem_erase_iff hn).2 ⟨by omega, h k (by omega)⟩)
    rw [List.length_erase_of_mem hm] at h1
    have := List.length_pos_of_mem hm
    omega
theorem all_listed {c : Cat} (h : ¬ (listOf c).length < c.courses.length) {k : Nat} (hk : k < c.courses.length) : has (listOf c) k = true := by
  cases hb : has (listOf c) (k : Int) with
  | true => rfl
  | false =>
    have hi := listOf_inv c
    have hni : (k : Int) ∉ listOf c := fun hm => by rw [has_mem.2 hm] at hb; cases hb
    have := nodup_le c.courses.length ((k : Int) :: listOf c) (List.nodup_cons.2 ⟨hni, hi.nodup⟩) (fun x hx => by
      rcases List.mem_cons.1 hx with rfl | hx
      · exact ⟨k, rfl, hk⟩
      · exact hi.range x hx)
    simp at this
    omega
theorem listed_all {c : Cat} (h : ∀ k : Nat, k < c.courses.length → has (listOf c) k = true) : ¬ (listOf c).length < c.courses.length := by
  have := nodup_ge c.courses.length (listOf c) (listOf_inv c).nodup fun k hk => has_mem.1 (h k hk)
  omega
theorem order_ok {c : Cat} (h : (orderOf c).2 = 0) : ¬ (listOf c).length < c.courses.length ∧ orderOf c = ((listOf c).map (numAt c), 0) ∧ (listOf c).length = c.courses.length := by
  have hl := listOf_len c
  unfold orderOf at h ⊢
  split
  · rename_i hlt; rw [if_pos hlt] at h; simp at h
  · rename_i hlt; exact ⟨hlt, rfl, by omega⟩
theorem order_bad {c : Cat} (h : (orderOf c).2 ≠ 0) : orderOf c = ([], 112) ∧ (listOf c).length < c.courses.length := by
  unfold orderOf at h ⊢
  split
  · rename_i hlt; exact ⟨rfl, hlt⟩
  · rename_i hlt; rw [if_neg hlt] at h; simp at h
theorem num_inj {c : Cat} (hT : twiceC c = false) {k j : Nat} (hk : k < c.courses.length) (hj : j < c.courses.length) (h : numAt c k = numAt c j) : k = j := by
  have h1 := List.getElem?_eq_getElem hk
  have h2 := List.getElem?_eq_getElem hj
  rw [numAt_get h1, numAt_get h2] at h
  exact nodup_at (names_nodup hT).2 h1 h2 h
theorem order_at {c : Cat} (hT : twiceC c = false) {k p : Nat} {y : Course} (hy : c.courses[k]? = some y) (hp : (listOf c)[p]? = some (k : Int)) : idx (fun x => x == y.number) ((listOf c).map (numAt c)) 0 = (p : Int) := by
  rw [idx_map]
  have hk := (List.getElem?_eq_some_iff.1 hy).1
  have := idx_of (p := fun x => numAt c x == y.number) (l := listOf c) (k := 0) hp (by simp [numAt_get hy]) (fun j z hj hz => by
    obtain ⟨q, hq, hql⟩ := (listOf_inv c).range z (List.mem_of_getElem? hz)
    subst hq
    cases hb : numAt c q == y.number with
    | false => rfl
    | true =>
      have e : q = k := num_inj hT hql hk (by rw [numAt_get hy]; exact eq_of_beq hb)
      subst e
      have := nodup_at (f := id) (by simpa using (listOf_inv c).nodup) hz hp rfl
      omega)
  simpa using this
/-- Where the order stands: each course, and what it needs before it. -/
theorem order_law {c : Cat} (hT : twiceC c = false) (h : (orderOf c).2 = 0) {k : Nat} {y : Course} (hy : c.courses[k]? = some y) : ∃ p : Nat, idx (fun x => x == y.number) (orderOf c).1 0 = (p : Int) ∧
    ∀ m ∈ needsAt c k, ∃ (j : Nat) (u : Course) (q : Nat), m = (j : Int) ∧ j < c.courses.length ∧ c.courses[j]? = some u ∧ idx (fun x => x == u.number) (orderOf c).1 0 = (q : Int) ∧ q < p := by
  obtain ⟨h1, h2, h3⟩ := order_ok h
  have hk := (List.getElem?_eq_some_iff.1 hy).1
  obtain ⟨p, hp⟩ := List.mem_iff_getElem?.1 (has_mem.1 (all_listed h1 hk))
  rw [h2]
  refine ⟨p, order_at hT hy hp, fun m hm => ?_⟩
  have hb := listOf_bef c p k hp
  simp only [allH, Int.toNat_natCast, List.all_eq_true] at hb
  have hh := has_mem.1 (hb m hm)
  obtain ⟨q, hq⟩ := List.mem_iff_getElem?.1 hh
  rw [List.getElem?_take] at hq
  split at hq
  · rename_i hlt
    obtain ⟨j, rfl, hj⟩ := (listOf_inv c).range m (List.mem_of_getElem? hq)
    exact ⟨j, c.courses[j], q, rfl, hj, List.getElem?_eq_getElem hj, order_at hT (List.getElem?_eq_getElem hj) hq, hlt⟩
  · cases hq

/-! ### The circle -/
def Path (c : Cat) (way : List Int) (a : Int) : Prop := ∀ (j : Nat) (x : Int), way[j]? = some x → (way ++ [a])[j + 1]? = some (stepC c x)
theorem wayGo_law {c : Cat} {a0 : Int} : ∀ (k : Nat) (way : List Int) (a : Int), WayI c a0 way a → way.length + k = c.courses.length + 1 → Path c way a → (∀ x ∈ way, has (listOf c) x = false) →
    has (wayGo c k way a).1 (wayGo c k way a).2 = true ∧ Path c (wayGo c k way a).1 (wayGo c k way a).2 ∧ (wayGo c k way a).1.Nodup ∧ (∀ x ∈ (wayGo c k way a).1, has (listOf c) x = false ∧ ∃ q : Nat, x = (q : Int) ∧ q < c.courses.length)
  | 0, way, a, hw, hl, _, _ => by
    have := hw.len
    omega
  | k + 1, way, a, hw, hl, hp, ho => by
    simp only [wayGo]
    split
    · rename_i hh
      exact ⟨hh, hp, hw.nodup, fun x hx => ⟨ho x hx, hw.range x hx⟩⟩
    · rename_i hh
      have hh' : has way a = false := by simpa using hh
      obtain ⟨q, hq, hql⟩ := hw.at_
      have hoff : has (listOf c) (q : Int) = false := by rw [← hq]; exact hw.off
      obtain ⟨n, hn⟩ := unlisted hql hoff
      have hs : stepC c a = n := by rw [hq]; exact stepC_eq hn
      obtain ⟨hw', _⟩ := hw.next hq hn hh'
      rw [hs]
      refine wayGo_law k (way ++ [a]) n hw' (by simp; omega) (fun j x hj => ?_) (fun x hx => ?_)
      · rcases Nat.lt_trichotomy j way.length with hlt | heq | hgt
        · rw [List.getElem?_append_left hlt] at hj
          have := hp j x hj
          rw [List.getElem?_append_left (by simp; omega)]
          exact this
        · subst heq
          simp at hj
          subst hj
          rw [List.getElem?_append_right (by simp)]
          simp [hs]
        · rw [List.getElem?_eq_none (by simp; omega)] at hj
          cases hj
      · rcases List.mem_append.1 hx with hx | hx
        · exact ho x hx
        · simp at hx
          rw [hx]; exact hw.off
theorem stepC_need {c : Cat} {q : Nat} (hq : q < c.courses.length) (h : has (listOf c) (q : Int) = false) : stepC c q ∈ needsAt c q := by
  obtain ⟨n, hn⟩ := unlisted hq h
  rw [stepC_eq hn]
  exact List.mem_of_find?_eq_some hn
/-- A course of this number needs one of that number, among the first ones. -/
def fnd (c : Cat) (a nx : Int) (z : Nat) : Bool := (List.range z).any fun k => numAt c k == a && (needsAt c k).any fun m => numAt c m == nx
theorem fnd_next (c : Cat) (a nx : Int) (z : Nat) : fnd c a nx (z + 1) = (fnd c a nx z || (numAt c z == a && (needsAt c z).any fun m => numAt c m == nx)) := by
  simp [fnd, List.range_succ]
theorem cyc_none {c : Cat} (h : ¬ (listOf c).length < c.courses.length) : cycOf c = [] := by
  have := firstC_none (c := c) fun k hk => all_listed h hk
  simp [cycOf, this]
theorem cyc_law {c : Cat} (hT : twiceC c = false) (h : (listOf c).length < c.courses.length) : 0 < (cycOf c).length ∧
    ∀ (i : Nat) (x : Int), (cycOf c)[i]? = some x → idx (fun y => y == x) (cycOf c) 0 = (i : Int) ∧ ∃ nx, (cycOf c)[(i + 1) % (cycOf c).length]? = some nx ∧ fnd c x nx c.courses.length = true := by
  rcases firstC_range c with hf | ⟨k, hf, hk, hoff⟩
  · exfalso
    refine listed_all (c := c) (fun k hk => ?_) h
    cases hb : has (listOf c) (k : Int) with
    | true => rfl
    | false =>
      exfalso
      have : ∃ x ∈ isOf c (listOf c), (fun x => false == x) x = true := ⟨false, List.mem_iff_getElem?.2 ⟨k, by rw [isOf_get hk, hb]⟩, rfl⟩
      obtain ⟨i, _, hi, _⟩ := idx_some this
      unfold firstC at hf
      rw [hf] at hi
      omega
  · obtain ⟨l1, l2, l3, l4⟩ := wayGo_law (c := c) (c.courses.length + 1) [] k (WayI.start hk hoff) (by simp) (fun j x hj => by simp at hj) (fun x hx => by simp at hx)
    have hw : wayOf c k = wayGo c (c.courses.length + 1) [] k := rfl
    rw [← hw] at l1 l2 l3 l4
    generalize hwa : wayOf c k = wa at l1 l2 l3 l4
    obtain ⟨way, a⟩ := wa
    simp only at l1 l2 l3 l4
    have hc := cycOf_eq hf (by omega) hwa
    obtain ⟨i0, x0, e0, g0, b0⟩ := idx_some (p := fun x => a == x) (l := way) ⟨a, has_mem.1 l1, by simp⟩
    have hx0 : a = x0 := eq_of_beq b0
    subst hx0
    have hfa : fromA a way = way.drop i0 := by simp [fromA, e0]
    rw [hfa] at hc
    have hi0 := (List.getElem?_eq_some_iff.1 g0).1
    have hlen : (cycOf c).length = way.length - i0 := by rw [hc]; simp
    have hnd : (way.drop i0).Nodup := l3.sublist (List.drop_sublist _ _)
    have hrange : ∀ x ∈ way.drop i0, ∃ q : Nat, x = (q : Int) ∧ q < c.courses.length := fun x hx => (l4 x (List.mem_of_mem_drop hx)).2
    refine ⟨by omega, fun i x hi => ?_⟩
    rw [hc, List.getElem?_map, Option.map_eq_some_iff] at hi
    obtain ⟨wx, hwx, rfl⟩ := hi
    have hwx' : way[i0 + i]? = some wx := by rwa [List.getElem?_drop] at hwx
    have hil : i < (cycOf c).length := by rw [hlen]; have := (List.getElem?_eq_some_iff.1 hwx').1; omega
    obtain ⟨ho, q, rfl, hql⟩ := l4 wx (List.mem_of_getElem? hwx')
    constructor
    · rw [hc, idx_map]
      have := idx_of (p := fun y => numAt c y == numAt c q) (l := way.drop i0) (k := 0) hwx (by simp) (fun j z hj hz => by
        obtain ⟨r, rfl, hr⟩ := hrange z (List.mem_of_getElem? hz)
        cases hb : numAt c r == numAt c q with
        | false => rfl
        | true =>
          have e : r = q := num_inj hT hr hql (eq_of_beq hb)
          subst e
          have := nodup_at (f := id) (by simpa using hnd) hz hwx rfl
          omega)
      simpa using this
    · have hnext := l2 (i0 + i) q hwx'
      refine ⟨numAt c (stepC c q), ?_, ?_⟩
      · rw [hlen]
        by_cases hlast : i0 + i + 1 < way.length
        · rw [List.getElem?_append_left hlast] at hnext
          rw [Nat.mod_eq_of_lt (by omega), hc, List.getElem?_map, List.getElem?_drop, ← Nat.add_assoc, hnext]
          rfl
        · have hil' := (List.getElem?_eq_some_iff.1 hwx').1
          have e1 : i0 + i + 1 = way.length := by omega
          rw [e1] at hnext
          simp at hnext
          have e2 : i + 1 = way.length - i0 := by omega
          rw [e2, Nat.mod_self, hc, List.getElem?_map, List.getElem?_drop, Nat.add_zero, g0, ← hnext]
          rfl
      · refine List.any_eq_true.2 ⟨q, by simpa using hql, ?_⟩
        rw [Bool.and_eq_true]
        exact ⟨by simp, List.any_eq_true.2 ⟨_, stepC_need hql ho, by simp⟩⟩

/-! ### Turned catalogues -/
theorem any_perm {α : Type} {p : α → Bool} {l l' : List α} (h : l.Perm l') : l.any p = l'.any p := by
  rw [Bool.eq_iff_iff, List.any_eq_true, List.any_eq_true]
  constructor
  · rintro ⟨x, hx, hp⟩; exact ⟨x, h.mem_iff.1 hx, hp⟩
  · rintro ⟨x, hx, hp⟩; exact ⟨x, h.mem_iff.2 hx, hp⟩
theorem all_perm {α : Type} {p : α → Bool} {l l' : List α} (h : l.Perm l') : l.all p = l'.all p := by
  rw [Bool.eq_iff_iff, List.all_eq_true, List.all_eq_true]
  exact ⟨fun g x hx => g x (h.mem_iff.2 hx), fun g x hx => g x (h.mem_iff.1 hx)⟩
theorem twice_perm {α : Type} [BEq α] [LawfulBEq α] {l l' : List α} (h : l.Perm l') : twiceB l = twiceB l' := by
  have : twiceB l = false ↔ twiceB l' = false := by rw [twice_nodup, twice_nodup, h.nodup_iff]
  cases h1 : twiceB l <;> cases h2 : twiceB l' <;> simp_all
structure Turned (c x : Cat) : Prop where
  cs : c.courses.Perm x.courses
  same : x.same = c.same
  ps : c.progs.Perm x.progs
  cl : c.classes.Perm x.classes
  fees : x.fees = c.fees
  hon : x.honours = c.honours
theorem Turned.symm {c x : Cat} (t : Turned c x) : Turned x c := ⟨t.cs.symm, t.same.symm, t.ps.symm, t.cl.symm, t.fees.symm, t.hon.symm⟩
theorem Turned.twice {c x : Cat} (t : Turned c x) : twiceC x = twiceC c := by
  simp only [twiceC]
  rw [twice_perm (t.cs.map (·.name)), twice_perm (t.cs.map (·.number)), any_perm t.ps, twice_perm (t.ps.map (·.name)), twice_perm (t.ps.map (·.number)), twice_perm (t.cl.map (·.name)), t.fees, t.hon]
theorem nodup_mem {α β : Type} {f : α → β} {l : List α} (h : (l.map f).Nodup) {x y : α} (hx : x ∈ l) (hy : y ∈ l) (e : f x = f y) : x = y := by
  obtain ⟨i, hi⟩ := List.mem_iff_getElem?.1 hx
  obtain ⟨j, hj⟩ := List.mem_iff_getElem?.1 hy
  have := nodup_at h hi hj e
  subst this
  rw [hi] at hj
  injection hj
theorem means_one {c : Cat} (hT : twiceC c = false) {name : ByteArray} {number : Int} {x y : Course} (hx : x ∈ c.courses) (hy : y ∈ c.courses) (h1 : meansB name number x = true) (h2 : meansB name number y = true) : x = y := by
  obtain ⟨k1, k2⟩ := names_nodup hT
  unfold meansB at h1 h2
  split at h1
  · rename_i hn
    rw [if_pos hn] at h2
    exact nodup_mem k2 hx hy (by rw [eq_of_beq h1, eq_of_beq h2])
  · rename_i hn
    rw [if_neg hn] at h2
    exact nodup_mem k1 hx hy (by rw [eq_of_beq h1, eq_of_beq h2])
theorem meant_of {c : Cat} {name : ByteArray} {number : Int} {y : Course} (hy : y ∈ c.courses) (h : meansB name number y = true) : ∃ (k : Nat) (z : Course), meant c name number = (k : Int) ∧ c.courses[k]? = some z ∧ meansB name number z = true :=
  idx_some ⟨y, hy, h⟩
theorem meant_no {c : Cat} {name : ByteArray} {number : Int} (h : ∀ y ∈ c.courses, meansB name number y = false) : meant c name number = -1 := idx_none h
theorem Turned.number {c x : Cat} (t : Turned c x) (hT : twiceC c = false) (name : ByteArray) (old : Int) : numberR x name old = numberR c name old := by
  unfold numberR
  cases hn : name == eS with
  | true => rfl
  | false =>
    simp only [Bool.false_eq_true, if_false]
    by_cases hex : ∃ y ∈ c.courses, meansB name old y = true
    · obtain ⟨y, hy, hm⟩ := hex
      obtain ⟨k, z, e1, hz, hmz⟩ := meant_of hy hm
      obtain ⟨k', z', e2, hz', hmz'⟩ := meant_of (c := x) (t.cs.mem_iff.1 hy) hm
      have e : z' = z := means_one hT (t.cs.mem_iff.2 (List.mem_of_getElem? hz')) (List.mem_of_getElem? hz) hmz' hmz
      rw [e1, e2, if_neg (by omega), if_neg (by omega), numAt_get hz, numAt_get hz', e]
    · have h1 : ∀ y ∈ c.courses, meansB name old y = false := fun y hy => by
        cases hb : meansB name old y with
        | false => rfl
        | true => exact absurd ⟨y, hy, hb⟩ hex
      rw [meant_no h1, meant_no (c := x) fun y hy => h1 y (t.cs.mem_iff.2 hy)]
      rfl
mutual
theorem ruleR_turn {c x : Cat} (h : ∀ name old, numberR x name old = numberR c name old) : ∀ r : Rule, ruleR x r = ruleR c r
  | .mk op course name n d kids => by simp only [ruleR, courseR, h, rulesR_turn h kids]
theorem rulesR_turn {c x : Cat} (h : ∀ name old, numberR x name old = numberR c name old) : ∀ l : List Rule, rulesR x l = rulesR c l
  | [] => rfl
  | r :: rs => by simp only [rulesR, ruleR_turn h r, rulesR_turn h rs]
end
theorem numsR_turn {c x : Cat} (h : ∀ name old, numberR x name old = numberR c name old) : ∀ (ns : List ByteArray) (fs : List Int), numsR x ns fs = numsR c ns fs
  | [], _ => by simp [numsR]
  | _ :: _, [] => by simp [numsR]
  | n :: ns, f :: fs => by simp only [numsR, h, numsR_turn h ns fs]
theorem Turned.good {c x : Cat} (t : Turned c x) (hT : twiceC c = false) : goodB x = goodB c ∧ (resR x).same = (resR c).same := by
  have h := t.number hT
  have e1 : courseX x = courseX c := by funext y; simp only [courseX, ruleR_turn h]
  have e2 : pairX x = pairX c := by funext y; simp only [pairX, h]
  have e3 : reqX x = reqX c := by funext y; simp only [reqX, numsR_turn h]
  have e4 : progX x = progX c := by funext y; simp only [progX, e3]
  constructor
  · simp only [goodB, e1, e2, e4, t.same]
    congr 1
    · congr 1
      exact (all_perm t.cs).symm
    · exact (all_perm t.ps).symm
  · simp only [resR, e2, t.same]
theorem Turned.listed {c x : Cat} (t : Turned c x) (hT : twiceC c = false) : ∀ (p i : Nat), (listOf c)[p]? = some (i : Int) → ∀ (y : Course) (j : Nat), c.courses[i]? = some y → x.courses[j]? = some y → has (listOf x) j = true := by
  intro p
  induction p using Nat.strongRecOn with
  | ind p ih =>
    intro i hp y j hy hj
    cases hb : has (listOf x) (j : Int) with
    | true => rfl
    | false =>
      exfalso
      have hjl := (List.getElem?_eq_some_iff.1 hj).1
      have hr := (listOf_inv x).off j hjl
      simp only [readyB, hb, Bool.not_false, Bool.and_true] at hr
      have hbef := listOf_bef c p i hp
      simp only [allH, Int.toNat_natCast, List.all_eq_true] at hbef
      have : allH (listOf x) (needsAt x j) = true := by
        rw [allH, List.all_eq_true]
        intro m hm
        have hm0 : m ∈ needsL x (partsOf y.need) := by simpa [needsAt, hj] using hm
        simp only [needsL, List.mem_filterMap] at hm0
        obtain ⟨q, hq, hn⟩ := hm0
        unfold need1 at hn
        split at hn
        · rename_i hop
          split at hn
          · rename_i hge
            injection hn with hn
            obtain ⟨k', z', e', hz', hmz'⟩ := meant_range hge
            obtain ⟨k, z, e, hz, hmz⟩ := meant_of (c := c) (t.cs.mem_iff.2 (List.mem_of_getElem? hz')) hmz'
            have ez : z = z' := means_one hT (List.mem_of_getElem? hz) (t.cs.mem_iff.2 (List.mem_of_getElem? hz')) hmz hmz'
            subst ez
            have hin : (k : Int) ∈ needsAt c i := by
              simp only [needsAt, hy, needsL, List.mem_filterMap]
              refine ⟨q, hq, ?_⟩
              unfold need1
              rw [if_pos hop, e, if_pos (by omega)]
            have hh := has_mem.1 (hbef _ hin)
            obtain ⟨p', hp'⟩ := List.mem_iff_getElem?.1 hh
            rw [List.getElem?_take] at hp'
            split at hp'
            · rename_i hlt
              rw [← hn, e']
              exact ih p' hlt k hp' z k' hz hz'
            · cases hp'
          · cases hn
        · cases hn
      rw [this] at hr
      cases hr
theorem Turned.full {c x : Cat} (t : Turned c x) (hT : twiceC c = false) (h : ¬ (listOf c).length < c.courses.length) : ¬ (listOf x).length < x.courses.length := by
  refine listed_all fun j hj => ?_
  have hm := t.cs.mem_iff.2 (List.getElem_mem hj)
  obtain ⟨i, hi⟩ := List.mem_iff_getElem?.1 hm
  have hil := (List.getElem?_eq_some_iff.1 hi).1
  obtain ⟨p, hp⟩ := List.mem_iff_getElem?.1 (has_mem.1 (all_listed h hil))
  exact t.listed hT p i hp _ j hi (List.getElem?_eq_getElem hj)
theorem Turned.order {c x : Cat} (t : Turned c x) (hT : twiceC c = false) : (orderOf x).2 = (orderOf c).2 := by
  have h1 := t.full hT
  have h2 := t.symm.full (by rw [t.twice]; exact hT)
  unfold orderOf
  by_cases h : (listOf c).length < c.courses.length
  · have h' : (listOf x).length < x.courses.length := by
      by_cases g : (listOf x).length < x.courses.length
      · exact g
      · exact absurd h (h2 g)
    rw [if_pos h, if_pos h']
  · rw [if_neg h, if_neg (h1 h)]
theorem Turned.arg {c x : Cat} (t : Turned c x) : argB x = argB c := (any_perm t.ps).symm
/-- Turned catalogues are resolved alike. -/
theorem Turned.resolve {c x : Cat} (t : Turned c x) : (resolveOf x).2 = (resolveOf c).2 ∧ (resolveOf x).1.same = (resolveOf c).1.same := by
  cases hA : argB c with
  | true => rw [res_arg hA, res_arg (by rw [t.arg]; exact hA)]; exact ⟨rfl, rfl⟩
  | false =>
    have hA' : argB x = false := by rw [t.arg]; exact hA
    cases hT : twiceC c with
    | true => rw [res_twice hA hT, res_twice hA' (by rw [t.twice]; exact hT)]; exact ⟨rfl, rfl⟩
    | false =>
      have hT' : twiceC x = false := by rw [t.twice]; exact hT
      obtain ⟨g1, g2⟩ := t.good hT
      cases hG : goodB c with
      | false => rw [res_name hA hT hG, res_name hA' hT' (by rw [g1]; exact hG)]; exact ⟨rfl, rfl⟩
      | true =>
        have hG' : goodB x = true := by rw [g1]; exact hG
        have ho := t.order hT
        by_cases hO : (orderOf c).2 = 0
        · rw [res_ok hA hT hG hO, res_ok hA' hT' hG' (by rw [ho]; exact hO)]; exact ⟨rfl, g2⟩
        · rw [res_order hA hT hG hO, res_order hA' hT' hG' (by rw [ho]; exact hO)]; exact ⟨ho, rfl⟩
end Go.Proofs.Ytbkkekbeaabokaa
