/- The names: orders and circles. -/
import Derived.Test.YtbkkekbeaabokaaNe
set_option linter.unusedVariables false
set_option linter.unusedSimpArgs false
namespace Go.Proofs.Ytbkkekbeaabokaa
open Go Go.Proofs.Ytbkkekbeaabokaa.Sx

theorem nextR_some {c : Cat} {out : List Int} {i : Nat} (h : nextR c out = some i) : i < c.courses.length ∧ readyB c out i = true ∧ ∀ k, k < i → readyB c out k = false := by
  unfold nextR at h
  rw [List.find?_range_eq_some] at h
  refine ⟨by simpa using h.2.1, h.1, fun k hk => by simpa using h.2.2 k hk⟩
theorem nextR_none {c : Cat} {out : List Int} (h : nextR c out = none) : ∀ k, k < c.courses.length → readyB c out k = false := by
  intro k hk
  simp only [nextR, List.find?_eq_none, List.mem_range, Bool.not_eq_true] at h
  exact h k hk
theorem list_inv (c : Cat) : ∀ (m : Nat) (out : List Int), c.courses.length - out.length = m → ListI c out 0 → ListI c (listOf c) c.courses.length
  | m, out, hm, h => by
    cases hn : nextR c out with
    | none =>
      have h1 : ListI c out c.courses.length := ⟨Nat.le_refl _, h.nodup, h.range, h.go, nextR_none hn⟩
      rw [h1.done]
      exact h1
    | some i =>
      obtain ⟨hi, hr, hoff⟩ := nextR_some hn
      have h1 : ListI c out i := ⟨by omega, h.nodup, h.range, h.go, hoff⟩
      have hlt := h1.lt hi hr
      match m, hm with
      | 0, hm => omega
      | m + 1, hm => exact list_inv c m _ (by simp; omega) (h1.yes hi hr)
theorem listOf_inv (c : Cat) : ListI c (listOf c) c.courses.length := list_inv c _ [] rfl (ListI.start c)
theorem listOf_len (c : Cat) : (listOf c).length ≤ c.courses.length := nodup_le _ _ (listOf_inv c).nodup (listOf_inv c).range
theorem listOf_at {c : Cat} {z : Nat} {x : Int} (h : (listOf c)[z]? = some x) : ∃ (k : Nat) (y : Course), x = (k : Int) ∧ k < c.courses.length ∧ c.courses[k]? = some y := by
  obtain ⟨k, hk, hlt⟩ := (listOf_inv c).range x (List.mem_of_getElem? h)
  exact ⟨k, c.courses[k], hk, hlt, List.getElem?_eq_getElem hlt⟩
/-- Where a course is not listed, one is that it needs and that is not listed. -/
theorem unlisted {c : Cat} {k : Nat} (hk : k < c.courses.length) (h : has (listOf c) k = false) : ∃ n, (needsAt c k).find? (fun n => !has (listOf c) n) = some n := by
  have h1 := (listOf_inv c).off k hk
  simp only [readyB, h, Bool.not_false, Bool.and_true] at h1
  cases hf : (needsAt c k).find? (fun n => !has (listOf c) n) with
  | some n => exact ⟨n, rfl⟩
  | none =>
    exfalso
    rw [List.find?_eq_none] at hf
    have : allH (listOf c) (needsAt c k) = true := by
      rw [allH, List.all_eq_true]
      intro x hx
      simpa using hf x hx
    rw [this] at h1
    cases h1
def orderOf (c : Cat) : List Int × Int := if (listOf c).length < c.courses.length then ([], 112) else ((listOf c).map (numAt c), 0)
def stepC (c : Cat) (at_ : Int) : Int := ((needsAt c at_.toNat).find? (fun n => !has (listOf c) n)).getD at_
def wayGo (c : Cat) : Nat → List Int → Int → List Int × Int
  | 0, way, a => (way, a)
  | k + 1, way, a => if has way a then (way, a) else wayGo c k (way ++ [a]) (stepC c a)
def wayOf (c : Cat) (a : Int) : List Int × Int := wayGo c (c.courses.length + 1) [] a
/-- The first that is not listed, or -1. -/
def firstC (c : Cat) : Int := idx (fun x => false == x) (isOf c (listOf c)) 0
def cycOf (c : Cat) : List Int := if firstC c < 0 then [] else ((wayOf c (firstC c)).1.drop (idx (fun x => (wayOf c (firstC c)).2 == x) (wayOf c (firstC c)).1 0).toNat).map (numAt c)
structure WayI (c : Cat) (a0 : Int) (way : List Int) (a : Int) : Prop where
  nodup : way.Nodup
  range : ∀ x ∈ way, ∃ k : Nat, x = (k : Int) ∧ k < c.courses.length
  at_ : ∃ k : Nat, a = (k : Int) ∧ k < c.courses.length
  off : has (listOf c) a = false
  go : wayOf c a0 = wayGo c (c.courses.length + 1 - way.length) way a
theorem WayI.start {c : Cat} {k : Nat} (hk : k < c.courses.length) (h : has (listOf c) k = false) : WayI c k [] k :=
  ⟨List.nodup_nil, fun x hx => by simp at hx, ⟨k, rfl, hk⟩, h, rfl⟩
theorem stepC_eq {c : Cat} {k : Nat} {n : Int} (h : (needsAt c k).find? (fun n => !has (listOf c) n) = some n) : stepC c k = n := by simp [stepC, h]
theorem WayI.next {c : Cat} {a0 : Int} {way : List Int} {a n : Int} {k : Nat} (h : WayI c a0 way a) (hk : a = (k : Int)) (hn : (needsAt c k).find? (fun n => !has (listOf c) n) = some n) (hw : has way a = false) : WayI c a0 (way ++ [a]) n ∧ way.length < c.courses.length := by
  have hni : a ∉ way := fun hm => by rw [has_mem.2 hm] at hw; cases hw
  have hlt : way.length < c.courses.length := by
    have := nodup_le c.courses.length (a :: way) (List.nodup_cons.2 ⟨hni, h.nodup⟩) (fun x hx => by
      rcases List.mem_cons.1 hx with rfl | hx
      · exact h.at_
      · exact h.range x hx)
    simp at this
    omega
  refine ⟨⟨?_, fun x hx => ?_, ?_, ?_, ?_⟩, hlt⟩
  · rw [List.nodup_append]
    exact ⟨h.nodup, by simp, fun x hx b hb => by simp at hb; subst hb; exact fun e => hni (e ▸ hx)⟩
  · rcases List.mem_append.1 hx with hx | hx
    · exact h.range x hx
    · simp at hx; subst hx; exact h.at_
  · have hm := List.mem_of_find?_eq_some hn
    unfold needsAt at hm
    split at hm
    · exact needsL_range hm
    · simp at hm
  · have := List.find?_some hn
    simpa using this
  · rw [h.go, show c.courses.length + 1 - way.length = (c.courses.length + 1 - (way ++ [a]).length) + 1 by simp; omega]
    simp only [wayGo, hw]
    subst hk
    rw [stepC_eq hn]
    simp
theorem WayI.len {c : Cat} {a0 : Int} {way : List Int} {a : Int} (h : WayI c a0 way a) : way.length ≤ c.courses.length := nodup_le _ _ h.nodup h.range
theorem WayI.done {c : Cat} {a0 : Int} {way : List Int} {a : Int} (h : WayI c a0 way a) (hw : has way a = true) : wayOf c a0 = (way, a) := by
  rw [h.go, show c.courses.length + 1 - way.length = (c.courses.length - way.length) + 1 by have := h.len; omega]
  simp only [wayGo, hw, if_true]
theorem has_any (l : List Int) (n : Int) : (l.any fun x => n == x) = has l n := by
  simp only [has]
  congr 1
  funext x
  exact BEq.comm
theorem find_at {out L : List Int} {j : Nat} {n : Int} (hu : allH out (L.take j) = true) (hn : L[j]? = some n) (hb : has out n = false) : L.find? (fun n => !has out n) = some n := by
  have : L = L.take j ++ (n :: L.drop (j + 1)) := by rw [← drop_next hn, List.take_append_drop]
  rw [this, List.find?_append]
  have h1 : (L.take j).find? (fun n => !has out n) = none := by
    rw [List.find?_eq_none]
    intro x hx
    rw [allH, List.all_eq_true] at hu
    simp [hu x hx]
  rw [h1]
  simp [hb]
theorem find_none {out L : List Int} (hu : allH out L = true) : L.find? (fun n => !has out n) = none := by
  rw [List.find?_eq_none]
  intro x hx
  rw [allH, List.all_eq_true] at hu
  simp [hu x hx]
theorem firstC_at {c : Cat} {z : Nat} (hz : z < c.courses.length) (h : ∀ k, k < z → has (listOf c) (k : Int) = true) (hb : has (listOf c) z = false) : firstC c = z := by
  have key : ∀ j, j ≤ z → firstC c = idx (fun x => false == x) ((isOf c (listOf c)).drop j) j := by
    intro j
    induction j with
    | zero => intro _; rfl
    | succ j ih =>
      intro hj
      rw [ih (by omega), idx_at (isOf_get (by omega)), h j (by omega)]
      rfl
  rw [key z (Nat.le_refl _), idx_at (isOf_get hz), hb]
  rfl
theorem firstC_none {c : Cat} (h : ∀ k, k < c.courses.length → has (listOf c) (k : Int) = true) : firstC c = -1 := by
  have key : ∀ j, j ≤ c.courses.length → firstC c = idx (fun x => false == x) ((isOf c (listOf c)).drop j) j := by
    intro j
    induction j with
    | zero => intro _; rfl
    | succ j ih =>
      intro hj
      rw [ih (by omega), idx_at (isOf_get (by omega)), h j (by omega)]
      rfl
  rw [key _ (Nat.le_refl _)]
  exact idx_end (by rw [isOf_len]; omega)
theorem firstC_range (c : Cat) : firstC c = -1 ∨ ∃ k : Nat, firstC c = (k : Int) ∧ k < c.courses.length ∧ has (listOf c) k = false := by
  rcases idx_range (p := fun x => false == x) (l := isOf c (listOf c)) (k := 0) with h | ⟨i, x, h1, h2, h3⟩
  · exact .inl h
  · right
    have hi : i < c.courses.length := by have := (List.getElem?_eq_some_iff.1 h2).1; rwa [isOf_len] at this
    refine ⟨i, by simpa [firstC] using h1, hi, ?_⟩
    rw [isOf_get hi] at h2
    injection h2 with h2
    rw [h2]
    simpa using h3

/-- What is left from the first a on. -/
def fromA (a : Int) (l : List Int) : List Int := l.drop (idx (fun x => a == x) l 0).toNat
theorem idx_pos {α : Type} {p : α → Bool} : ∀ {l : List α} {k : Nat}, l.any p = true → ∃ i : Nat, i < l.length ∧ idx p l k = ((k + i : Nat) : Int)
  | [], k, h => by simp at h
  | x :: r, k, h => by
    simp only [idx]
    by_cases hp : p x = true
    · exact ⟨0, by simp, by simp [hp]⟩
    · simp only [List.any_cons, hp, Bool.false_or] at h
      obtain ⟨i, h1, h2⟩ := idx_pos (p := p) (k := k + 1) h
      refine ⟨i + 1, by simpa using h1, ?_⟩
      rw [if_neg hp]
      have : ((k + 1 : Nat) : Int) = (k : Int) + 1 := by omega
      rw [this] at h2
      rw [h2]; omega
theorem idx_app {α : Type} {p : α → Bool} : ∀ {l r : List α} {k : Int}, l.any p = true → idx p (l ++ r) k = idx p l k
  | [], r, k, h => by simp at h
  | x :: l, r, k, h => by
    simp only [List.cons_append, idx]
    by_cases hp : p x = true
    · simp [hp]
    · rw [if_neg hp, if_neg hp]
      simp only [List.any_cons, hp, Bool.false_or] at h
      exact idx_app h
theorem idx_skip {α : Type} {p : α → Bool} : ∀ {l r : List α} {k : Nat}, l.any p = false → idx p (l ++ r) k = idx p r ((k + l.length : Nat) : Int)
  | [], r, k, h => by simp
  | x :: l, r, k, h => by
    simp only [List.any_cons, Bool.or_eq_false_iff] at h
    simp only [List.cons_append, idx, h.1]
    have := idx_skip (p := p) (r := r) (k := k + 1) h.2
    rw [show ((k + 1 : Nat) : Int) = (k : Int) + 1 by omega] at this
    simp only [Bool.false_eq_true, if_false, this, List.length_cons]
    congr 1
    omega
/-- The list, from the first a on, up to the place z. -/
def fromT (a : Int) (l : List Int) (z : Nat) : List Int := if has (l.take z) a then fromA a (l.take z) else []
theorem fromT_next {a : Int} {l : List Int} {z : Nat} {x : Int} (h : l[z]? = some x) : fromT a l (z + 1) = if has (l.take z) a || x == a then fromT a l z ++ [x] else fromT a l z := by
  have hz := (List.getElem?_eq_some_iff.1 h).1
  have hxa : (x == a) = (a == x) := BEq.comm
  simp only [fromT, has_next h]
  by_cases h1 : has (l.take z) a = true
  · simp only [h1, Bool.true_or, if_true, fromA, take_next h]
    rw [← has_any] at h1
    obtain ⟨i, hi, he⟩ := idx_pos (k := 0) h1
    have he' : idx (fun x => a == x) (l.take z) 0 = ((0 + i : Nat) : Int) := he
    rw [idx_app h1, he', List.drop_append_of_le_length (by rw [Int.toNat_natCast]; omega)]
  · have h1' : has (l.take z) a = false := by simpa using h1
    simp only [h1', Bool.false_or]
    by_cases h2 : (x == a) = true
    · have h1a : (l.take z).any (fun x => a == x) = false := by rw [has_any]; exact h1'
      have := idx_skip (p := fun x => a == x) (r := [x]) (k := 0) h1a
      simp only [h2, if_true, fromA, take_next h, Bool.false_eq_true, if_false, List.nil_append]
      rw [show (0 : Int) = ((0 : Nat) : Int) from rfl, this]
      rw [hxa] at h2
      simp [idx, h2]
    · simp [h2]
theorem fromT_end {a : Int} {l : List Int} (h : has l a = true) : fromT a l l.length = fromA a l := by
  simp [fromT, h]
theorem cycOf_eq {c : Cat} {a0 : Int} {way : List Int} {a : Int} (h0 : firstC c = a0) (hp : ¬ a0 < 0) (h : wayOf c a0 = (way, a)) : cycOf c = (fromA a way).map (numAt c) := by
  simp only [cycOf, h0, if_neg hp, h, fromA]

-- WALK 17 18
-- sizar/names.Order
theorem walk17 (c : Cat) (hf : c.fit) : Does Try.prog 17 [.agg (catD c)] (.tup [.dat (ints (orderOf c).1), .dat (iD (orderOf c).2)]) [] := by
  have hn := hf.courses
  have hll := listOf_len c
  have hoo : orderOf c = if (listOf c).length < c.courses.length then ([], 112) else ((listOf c).map (numAt c), 0) := rfl
  have hat : ∀ (z : Nat) (x : Int), (listOf c)[z]? = some x → ∃ (k : Nat) (y : Course), x = (k : Int) ∧ k < c.courses.length ∧ c.courses[k]? = some y := fun z x h => listOf_at h
  have w68 := walk68 c hf
  generalize listOf c = L at *
  refine Does.intro [.tmp 2, .tmp 3] Try.func17 rfl (by kernel_rfl) Try.ntmps17 rfl (Nat.le_of_ble_eq_true rfl) ?_
  refine T_seq ?_
  refine T_region (is := [0, 1, 2]) rfl fun kn kp hn hp => ?_
  refine T_op rfl rfl fun kc hc => ?_
  simp; refine hc _ ?_; clear hc kc
  refine T_op rfl rfl fun kc hc => ?_
  simp; refine hc _ ?_; clear hc kc
  refine T_op rfl rfl fun kc hc => ?_
  simp; refine hc _ ?_; clear hc kc
  refine T_end (hn _ ?_); clear hn hp kn kp
  refine T_then ?_
  refine T_seq ?_
  refine T_region (is := [0, 1, 2, 3, 4, 5, 6]) rfl fun kn kp hn hp => ?_
  refine T_op rfl rfl fun kc hc => ?_
  simp; refine hc _ ?_; clear hc kc
  refine T_op rfl rfl fun kc hc => ?_
  simp
  refine CallS.dat (w68) (rfl) rfl rfl rfl ?_
  simp [enum]; refine hc _ ?_; clear hc kc
  refine T_op rfl rfl fun kc hc => ?_
  simp; refine hc _ ?_; clear hc kc
  refine T_op rfl rfl fun kc hc => ?_
  simp; refine hc _ ?_; clear hc kc
  refine T_op rfl rfl fun kc hc => ?_
  simp; refine hc _ ?_; clear hc kc
  refine T_op rfl rfl fun kc hc => ?_
  simp; refine hc _ ?_; clear hc kc
  refine T_op rfl rfl fun kc hc => ?_
  simp; refine hc _ ?_; clear hc kc
  refine T_end (hn _ ?_); clear hn hp kn kp
  refine T_then ?_
  refine T_seq ?_
  refine T_seq ?_
  refine T_region (is := [0, 1, 2, 3, 4, 5]) rfl fun kn kp hn hp => ?_
  refine T_op rfl rfl fun kc hc => ?_
  simp; refine hc _ ?_; clear hc kc
  refine T_op rfl rfl fun kc hc => ?_
  simp; refine hc _ ?_; clear hc kc
  refine T_op rfl rfl fun kc hc => ?_
  simp; refine hc _ ?_; clear hc kc
  refine T_op rfl rfl fun kc hc => ?_
  simp; refine hc _ ?_; clear hc kc
  refine T_op rfl rfl fun kc hc => ?_
  simp; refine hc _ ?_; clear hc kc
  refine T_op rfl rfl fun kc hc => ?_
  simp; refine hc _ ?_; clear hc kc
  refine T_end (hn _ ?_); clear hn hp kn kp
  refine T_then ?_
  refine T_cond rfl (fun b1 => ?_) (fun b1 => ?_)
  · skip
    have hb : L.length < c.courses.length := by simpa using b1
    rw [if_pos hb] at hoo
    refine T_seq ?_
    refine T_region (is := [0, 1]) rfl fun kn kp hn hp => ?_
    refine T_op rfl rfl fun kc hc => ?_
    simp; refine hc _ ?_; clear hc kc
    refine T_op rfl rfl fun kc hc => ?_
    simp; refine hc _ ?_; clear hc kc
    refine T_end (hn _ ?_); clear hn hp kn kp
    refine T_then ?_
    refine T_ret ?_
    refine X_thenR ?_
    exact finI (Ent.nilDat (t := 2) 1 rfl) (by simp [resD, resL, resV]; rfl) (Ent.sub [] [] (by simp [sub, subSl, subHp, place, mp, mpL, mpO, mpG]; rfl)) rfl rfl (by simp [hoo])
  · skip
    have hb : ¬ L.length < c.courses.length := by simpa using b1
    rw [if_neg hb] at hoo
    refine T_skip ?_
    refine T_then ?_
    refine T_seq ?_
    refine T_seq ?_
    refine T_region (is := [0, 1, 2]) rfl fun kn kp hn hp => ?_
    refine T_op rfl rfl fun kc hc => ?_
    simp; refine hc _ ?_; clear hc kc
    refine T_op rfl rfl fun kc hc => ?_
    simp; refine hc _ ?_; clear hc kc
    refine T_op rfl rfl fun kc hc => ?_
    simp; refine hc _ ?_; clear hc kc
    refine T_end (hn _ ?_); clear hn hp kn kp
    refine T_then ?_
    refine T_block ?_
    refine T_loop (fun z : Nat => { sl := [(1, .ptr 0 0), (2, .own 1 1 z), (19, .dat (ints L)), (20, .dat (iD L.length)), (21, .dat (iD z))], hp := [(0, .var ((catD c).map .dat)), (1, .row 3 1 ((L.take z).map fun x => [iD (numAt c x)]))], nx := 2 }) (fun z => z ≤ L.length) (fun z => L.length - z) 0 (Ent.trans (Ent.nil (t := 2) 3 1 rfl) (Ent.sub [1, 2, 19, 20, 21] [0, 1] (by simp [sub, subSl, subHp, place, mp, mpL, mpO, mpG]))) (Nat.zero_le _) fun z hz => ?_
    refine T_seq ?_
    refine T_region (is := [0]) rfl fun kn kp hn hp => ?_
    refine T_op rfl rfl fun kc hc => ?_
    simp; refine hc _ ?_; clear hc kc
    refine T_end (hn _ ?_); clear hn hp kn kp
    refine T_then ?_
    refine T_seq ?_
    refine T_cond rfl (fun b2 => ?_) (fun b2 => ?_)
    · skip
      have hz' : z < L.length := by simpa using b2
      obtain ⟨x, hx⟩ : ∃ x, L[z]? = some x := ⟨_, List.getElem?_eq_getElem hz'⟩
      obtain ⟨k, y, rfl, hk, hy⟩ := hat z x hx
      have hny := numAt_get hy
      have e1 : IntKind.i64.wrap ((z : Int) + 1) = (z : Int) + 1 := wr1 hz' (by omega)
      have e7 : (z + 1) * 8 ≤ big := by simp only [big]; omega
      have hml := Nat.min_eq_left hz
      refine T_skip ?_
      refine T_then ?_
      refine T_seq ?_
      refine T_block ?_
      refine T_seq ?_
      refine T_region (is := [0, 1, 2]) rfl fun kn kp hn hp => ?_
      refine T_op rfl rfl fun kc hc => ?_
      simp [hx]; refine hc _ ?_; clear hc kc
      refine T_op rfl rfl fun kc hc => ?_
      simp [hx]; refine hc _ ?_; clear hc kc
      refine T_op rfl rfl fun kc hc => ?_
      simp; refine hc _ ?_; clear hc kc
      refine T_end (hn _ ?_); clear hn hp kn kp
      refine T_then ?_
      refine T_region (is := [0, 1, 2, 3, 4, 5, 6, 7, 8, 9]) rfl fun kn kp hn hp => ?_
      refine T_op rfl rfl fun kc hc => ?_
      simp; refine hc _ ?_; clear hc kc
      refine T_op rfl rfl fun kc hc => ?_
      simp; refine hc _ ?_; clear hc kc
      refine T_op rfl rfl fun kc hc => ?_
      simp; refine hc _ ?_; clear hc kc
      refine T_op rfl rfl fun kc hc => ?_
      simp; refine hc _ ?_; clear hc kc
      refine T_op rfl rfl fun kc hc => ?_
      simp [hy]; refine hc _ ?_; clear hc kc
      refine T_op rfl rfl fun kc hc => ?_
      simp; refine hc _ ?_; clear hc kc
      refine T_op rfl rfl fun kc hc => ?_
      simp; refine hc _ ?_; clear hc kc
      refine T_op rfl rfl fun kc hc => ?_
      simp; refine hc _ ?_; clear hc kc
      refine T_op rfl rfl fun kc hc => ?_
      simp [e7, hml]; refine hc _ ?_; clear hc kc
      refine T_op rfl rfl fun kc hc => ?_
      simp; refine hc _ ?_; clear hc kc
      refine T_end (hn _ ?_); clear hn hp kn kp
      refine X_blockN ?_
      refine T_then ?_
      refine T_region (is := [0, 1]) rfl fun kn kp hn hp => ?_
      refine T_op rfl rfl fun kc hc => ?_
      simp [e1]; refine hc _ ?_; clear hc kc
      refine T_op rfl rfl fun kc hc => ?_
      simp; refine hc _ ?_; clear hc kc
      refine T_end (hn _ ?_); clear hn hp kn kp
      exact X_loopN (z + 1) (Ent.sub [1, 2, 19, 20, 21] [0, 3] (by simp [sub, subSl, subHp, place, mp, mpL, mpO, mpG, e1, take_next hx, hny])) hz' (by omega)
    · skip
      have hz' : z = L.length := by simp at b2; omega
      subst hz'
      have hlb : L.length ≤ big := by simp only [big]; omega
      refine T_exit ?_
      refine X_thenE ?_
      refine X_loopE ?_
      refine X_hit ?_
      refine T_then ?_
      refine T_seq ?_
      refine T_region (is := [0, 1, 2]) rfl fun kn kp hn hp => ?_
      refine T_op rfl rfl fun kc hc => ?_
      simp; refine hc _ ?_; clear hc kc
      refine T_op rfl rfl fun kc hc => ?_
      simp; refine hc _ ?_; clear hc kc
      refine T_op rfl rfl fun kc hc => ?_
      simp; refine hc _ ?_; clear hc kc
      refine T_end (hn _ ?_); clear hn hp kn kp
      refine T_then ?_
      refine T_ret ?_
      exact finI (Ent.give (t := 2) (n := 9) (e := ints (L.map (numAt c))) (hp' := [(0, .var ((catD c).map .dat))]) rfl (by simp [Sx.give, hlb])) (by simp [resD, resL, resV]; rfl) (Ent.sub [] [] (by simp [sub, subSl, subHp, place, mp, mpL, mpO, mpG]; rfl)) rfl rfl (by simp [hoo])
-- sizar/sizarref11.Order
theorem walk18 (c : Cat) (hf : c.fit) : Does Try.prog 18 [.agg (catD c)] (.tup [.dat (ints (orderOf c).1), .dat (iD (orderOf c).2)]) [] := by
  have hn := hf.courses
  have hll := listOf_len c
  have hoo : orderOf c = if (listOf c).length < c.courses.length then ([], 112) else ((listOf c).map (numAt c), 0) := rfl
  have hat : ∀ (z : Nat) (x : Int), (listOf c)[z]? = some x → ∃ (k : Nat) (y : Course), x = (k : Int) ∧ k < c.courses.length ∧ c.courses[k]? = some y := fun z x h => listOf_at h
  have w69 := walk69 c hf
  generalize listOf c = L at *
  refine Does.intro [.tmp 2, .tmp 3] Try.func18 rfl (by kernel_rfl) Try.ntmps18 rfl (Nat.le_of_ble_eq_true rfl) ?_
  refine T_seq ?_
  refine T_region (is := [0, 1, 2]) rfl fun kn kp hn hp => ?_
  refine T_op rfl rfl fun kc hc => ?_
  simp; refine hc _ ?_; clear hc kc
  refine T_op rfl rfl fun kc hc => ?_
  simp; refine hc _ ?_; clear hc kc
  refine T_op rfl rfl fun kc hc => ?_
  simp; refine hc _ ?_; clear hc kc
  refine T_end (hn _ ?_); clear hn hp kn kp
  refine T_then ?_
  refine T_seq ?_
  refine T_region (is := [0, 1, 2]) rfl fun kn kp hn hp => ?_
  refine T_op rfl rfl fun kc hc => ?_
  simp; refine hc _ ?_; clear hc kc
  refine T_op rfl rfl fun kc hc => ?_
  simp
  refine CallS.dat (w69) (rfl) rfl rfl rfl ?_
  simp [enum]; refine hc _ ?_; clear hc kc
  refine T_op rfl rfl fun kc hc => ?_
  simp; refine hc _ ?_; clear hc kc
  refine T_end (hn _ ?_); clear hn hp kn kp
  refine T_then ?_
  refine T_seq ?_
  refine T_seq ?_
  refine T_region (is := [0, 1, 2, 3, 4, 5]) rfl fun kn kp hn hp => ?_
  refine T_op rfl rfl fun kc hc => ?_
  simp; refine hc _ ?_; clear hc kc
  refine T_op rfl rfl fun kc hc => ?_
  simp; refine hc _ ?_; clear hc kc
  refine T_op rfl rfl fun kc hc => ?_
  simp; refine hc _ ?_; clear hc kc
  refine T_op rfl rfl fun kc hc => ?_
  simp; refine hc _ ?_; clear hc kc
  refine T_op rfl rfl fun kc hc => ?_
  simp; refine hc _ ?_; clear hc kc
  refine T_op rfl rfl fun kc hc => ?_
  simp; refine hc _ ?_; clear hc kc
  refine T_end (hn _ ?_); clear hn hp kn kp
  refine T_then ?_
  refine T_cond rfl (fun b1 => ?_) (fun b1 => ?_)
  · skip
    have hb : L.length < c.courses.length := by simpa using b1
    rw [if_pos hb] at hoo
    refine T_seq ?_
    refine T_region (is := [0, 1]) rfl fun kn kp hn hp => ?_
    refine T_op rfl rfl fun kc hc => ?_
    simp; refine hc _ ?_; clear hc kc
    refine T_op rfl rfl fun kc hc => ?_
    simp; refine hc _ ?_; clear hc kc
    refine T_end (hn _ ?_); clear hn hp kn kp
    refine T_then ?_
    refine T_ret ?_
    refine X_thenR ?_
    exact finI (Ent.nilDat (t := 2) 1 rfl) (by simp [resD, resL, resV]; rfl) (Ent.sub [] [] (by simp [sub, subSl, subHp, place, mp, mpL, mpO, mpG]; rfl)) rfl rfl (by simp [hoo])
  · skip
    have hb : ¬ L.length < c.courses.length := by simpa using b1
    rw [if_neg hb] at hoo
    refine T_skip ?_
    refine T_then ?_
    refine T_seq ?_
    refine T_region (is := [0, 1]) rfl fun kn kp hn hp => ?_
    refine T_op rfl rfl fun kc hc => ?_
    simp; refine hc _ ?_; clear hc kc
    refine T_op rfl rfl fun kc hc => ?_
    simp; refine hc _ ?_; clear hc kc
    refine T_end (hn _ ?_); clear hn hp kn kp
    refine T_then ?_
    refine T_seq ?_
    refine T_seq ?_
    refine T_region (is := [0]) rfl fun kn kp hn hp => ?_
    refine T_op rfl rfl fun kc hc => ?_
    simp; refine hc _ ?_; clear hc kc
    refine T_end (hn _ ?_); clear hn hp kn kp
    refine T_then ?_
    refine T_block ?_
    refine T_loop (fun z : Nat => { sl := [(1, .ptr 0 0), (4, .dat (ints L)), (5, .own 1 1 z), (6, .dat (iD z))], hp := [(0, .var ((catD c).map .dat)), (1, .row 3 1 ((L.take z).map fun x => [iD (numAt c x)]))], nx := 2 }) (fun z => z ≤ L.length) (fun z => L.length - z) 0 (Ent.sub [1, 4, 5, 6] [0, 1] (by simp [sub, subSl, subHp, place, mp, mpL, mpO, mpG])) (Nat.zero_le _) fun z hz => ?_
    refine T_seq ?_
    refine T_seq ?_
    refine T_region (is := [0, 1, 2, 3]) rfl fun kn kp hn hp => ?_
    refine T_op rfl rfl fun kc hc => ?_
    simp; refine hc _ ?_; clear hc kc
    refine T_op rfl rfl fun kc hc => ?_
    simp; refine hc _ ?_; clear hc kc
    refine T_op rfl rfl fun kc hc => ?_
    simp; refine hc _ ?_; clear hc kc
    refine T_op rfl rfl fun kc hc => ?_
    simp; refine hc _ ?_; clear hc kc
    refine T_end (hn _ ?_); clear hn hp kn kp
    refine T_then ?_
    refine T_cond rfl (fun b2 => ?_) (fun b2 => ?_)
    · skip
      have hz' : z < L.length := by simpa using b2
      obtain ⟨x, hx⟩ : ∃ x, L[z]? = some x := ⟨_, List.getElem?_eq_getElem hz'⟩
      obtain ⟨k, y, rfl, hk, hy⟩ := hat z x hx
      have hny := numAt_get hy
      have e1 : IntKind.i64.wrap ((z : Int) + 1) = (z : Int) + 1 := wr1 hz' (by omega)
      have e7 : (z + 1) * 8 ≤ big := by simp only [big]; omega
      have hml := Nat.min_eq_left hz
      refine T_skip ?_
      refine T_then ?_
      refine T_seq ?_
      refine T_block ?_
      refine T_draw' (is := [0, 1, 2, 3, 4, 5, 6, 7, 8, 9, 10, 11, 12]) rfl (by kernel_rfl) (fun _ _ hE h => T_ent hE h) fun kn hn => ?_
      refine D_op rfl rfl rfl rfl fun kc hc => ?_
      simp; refine hc _ ?_; clear hc kc
      refine D_op rfl rfl rfl rfl fun kc hc => ?_
      simp; refine hc _ ?_; clear hc kc
      refine D_op rfl rfl rfl rfl fun kc hc => ?_
      simp; refine hc _ ?_; clear hc kc
      refine D_op rfl rfl rfl rfl fun kc hc => ?_
      simp; refine hc _ ?_; clear hc kc
      refine D_op rfl rfl rfl rfl fun kc hc => ?_
      simp; refine hc _ ?_; clear hc kc
      refine D_op rfl rfl rfl rfl fun kc hc => ?_
      simp [hx]; refine hc _ ?_; clear hc kc
      refine D_op rfl rfl rfl rfl fun kc hc => ?_
      simp [hx]; refine hc _ ?_; clear hc kc
      refine D_op rfl rfl rfl rfl fun kc hc => ?_
      simp [hy]; refine hc _ ?_; clear hc kc
      refine D_op rfl rfl rfl rfl fun kc hc => ?_
      simp; refine hc _ ?_; clear hc kc
      refine D_op rfl rfl rfl rfl fun kc hc => ?_
      simp; refine hc _ ?_; clear hc kc
      refine D_eff [2] rfl rfl rfl fun kc hc => ?_
      simp
      refine hc _ (fun b hb => by simp at hb; simp [lk, hb]) ?_; clear hc kc
      refine D_eff [1, 3] rfl rfl rfl fun kc hc => ?_
      simp [e7, hml]
      refine hc _ (fun b hb => by simp at hb; simp [lk, hb]) ?_; clear hc kc
      refine D_op rfl rfl rfl rfl fun kc hc => ?_
      simp; refine hc _ ?_; clear hc kc
      refine D_end rfl (by kernel_rfl) (hn _ ?_); clear hn kn
      refine X_blockN ?_
      refine T_then ?_
      refine T_region (is := [0, 1, 2]) rfl fun kn kp hn hp => ?_
      refine T_op rfl rfl fun kc hc => ?_
      simp; refine hc _ ?_; clear hc kc
      refine T_op rfl rfl fun kc hc => ?_
      simp [e1]; refine hc _ ?_; clear hc kc
      refine T_op rfl rfl fun kc hc => ?_
      simp; refine hc _ ?_; clear hc kc
      refine T_end (hn _ ?_); clear hn hp kn kp
      exact X_loopN (z + 1) (Ent.sub [1, 4, 5, 6] [0, 3] (by simp [sub, subSl, subHp, place, mp, mpL, mpO, mpG, e1, take_next hx, hny])) hz' (by omega)
    · skip
      have hz' : z = L.length := by simp at b2; omega
      subst hz'
      have hlb : L.length ≤ big := by simp only [big]; omega
      refine T_exit ?_
      refine X_thenE ?_
      refine X_loopE ?_
      refine X_hit ?_
      refine T_then ?_
      refine T_seq ?_
      refine T_region (is := [0, 1, 2]) rfl fun kn kp hn hp => ?_
      refine T_op rfl rfl fun kc hc => ?_
      simp; refine hc _ ?_; clear hc kc
      refine T_op rfl rfl fun kc hc => ?_
      simp; refine hc _ ?_; clear hc kc
      refine T_op rfl rfl fun kc hc => ?_
      simp; refine hc _ ?_; clear hc kc
      refine T_end (hn _ ?_); clear hn hp kn kp
      refine T_then ?_
      refine T_ret ?_
      exact finI (Ent.give (t := 2) (n := 9) (e := ints (L.map (numAt c))) (hp' := [(0, .var ((catD c).map .dat))]) rfl (by simp [Sx.give, hlb])) (by simp [resD, resL, resV]; rfl) (Ent.sub [] [] (by simp [sub, subSl, subHp, place, mp, mpL, mpO, mpG]; rfl)) rfl rfl (by simp [hoo])
-- END
-- WALK 20 21
-- sizar/names.Cycle
theorem walk20 (c : Cat) (hf : c.fit) : Does Try.prog 20 [.agg (catD c)] (.dat (ints (cycOf c))) [] := by
  have hn := hf.courses
  have w68 := walk68 c hf
  have w70 := walk70 (isOf c (listOf c)) false (by rw [isOf_len]; omega)
  rw [show idx (fun x => false == x) (isOf c (listOf c)) 0 = firstC c from rfl] at w70
  obtain ⟨a0, ha0⟩ : ∃ a0, firstC c = a0 := ⟨_, rfl⟩
  rw [ha0] at w70
  refine Does.intro [.tmp 2] Try.func20 rfl (by kernel_rfl) Try.ntmps20 rfl (Nat.le_of_ble_eq_true rfl) ?_
  refine T_seq ?_
  refine T_region (is := [0, 1]) rfl fun kn kp hn hp => ?_
  refine T_op rfl rfl fun kc hc => ?_
  simp; refine hc _ ?_; clear hc kc
  refine T_op rfl rfl fun kc hc => ?_
  simp; refine hc _ ?_; clear hc kc
  refine T_end (hn _ ?_); clear hn hp kn kp
  refine T_then ?_
  refine T_seq ?_
  refine T_region (is := [0, 1, 2, 3, 4, 5, 6, 7]) rfl fun kn kp hn hp => ?_
  refine T_op rfl rfl fun kc hc => ?_
  simp; refine hc _ ?_; clear hc kc
  refine T_op rfl rfl fun kc hc => ?_
  simp
  refine CallS.dat (w68) (rfl) rfl rfl rfl ?_
  simp [enum]; refine hc _ ?_; clear hc kc
  refine T_op rfl rfl fun kc hc => ?_
  simp; refine hc _ ?_; clear hc kc
  refine T_op rfl rfl fun kc hc => ?_
  simp; refine hc _ ?_; clear hc kc
  refine T_op rfl rfl fun kc hc => ?_
  simp; refine hc _ ?_; clear hc kc
  refine T_op rfl rfl fun kc hc => ?_
  simp; refine hc _ ?_; clear hc kc
  refine T_op rfl rfl fun kc hc => ?_
  simp; refine hc _ ?_; clear hc kc
  refine T_op rfl rfl fun kc hc => ?_
  simp; refine hc _ ?_; clear hc kc
  refine T_end (hn _ ?_); clear hn hp kn kp
  refine T_then ?_
  refine T_seq ?_
  refine T_region (is := [0, 1, 2, 3]) rfl fun kn kp hn hp => ?_
  refine T_op rfl rfl fun kc hc => ?_
  simp; refine hc _ ?_; clear hc kc
  refine T_op rfl rfl fun kc hc => ?_
  simp
  refine CallS.dat (w70) (rfl) rfl rfl rfl ?_
  simp [enum]; refine hc _ ?_; clear hc kc
  refine T_op rfl rfl fun kc hc => ?_
  simp; refine hc _ ?_; clear hc kc
  refine T_op rfl rfl fun kc hc => ?_
  simp; refine hc _ ?_; clear hc kc
  refine T_end (hn _ ?_); clear hn hp kn kp
  refine T_then ?_
  refine T_seq ?_
  refine T_seq ?_
  refine T_region (is := [0, 1]) rfl fun kn kp hn hp => ?_
  refine T_op rfl rfl fun kc hc => ?_
  simp; refine hc _ ?_; clear hc kc
  refine T_op rfl rfl fun kc hc => ?_
  simp; refine hc _ ?_; clear hc kc
  refine T_end (hn _ ?_); clear hn hp kn kp
  refine T_then ?_
  refine T_cond rfl (fun b1 => ?_) (fun b1 => ?_)
  · skip
    have hneg : a0 < 0 := by simpa using b1
    have hcy : cycOf c = [] := by simp only [cycOf, ha0, if_pos hneg]
    refine T_seq ?_
    refine T_region (is := [0]) rfl fun kn kp hn hp => ?_
    refine T_op rfl rfl fun kc hc => ?_
    simp; refine hc _ ?_; clear hc kc
    refine T_end (hn _ ?_); clear hn hp kn kp
    refine T_then ?_
    refine T_ret ?_
    refine X_thenR ?_
    exact finI (Ent.nilDat (t := 2) 1 rfl) (by simp [resD, resL, resV]; rfl) (Ent.sub [] [] (by simp [sub, subSl, subHp, place, mp, mpL, mpO, mpG]; rfl)) rfl rfl (by simp [hcy])
  · skip
    have hneg : ¬ a0 < 0 := by simpa using b1
    obtain ⟨k0, hk0, hkl0, hoff0⟩ : ∃ k : Nat, a0 = (k : Int) ∧ k < c.courses.length ∧ has (listOf c) k = false := by
      rcases firstC_range c with h | ⟨k, h1, h2, h3⟩
      · exact absurd (by omega) hneg
      · exact ⟨k, by omega, h2, h3⟩
    have hw0 : WayI c a0 [] a0 := by rw [hk0]; exact WayI.start hkl0 hoff0
    refine T_skip ?_
    refine T_then ?_
    refine T_seq ?_
    refine T_region (is := [0]) rfl fun kn kp hn hp => ?_
    refine T_op rfl rfl fun kc hc => ?_
    simp; refine hc _ ?_; clear hc kc
    refine T_end (hn _ ?_); clear hn hp kn kp
    refine T_then ?_
    refine T_seq ?_
    refine T_block ?_
    refine T_loop (fun z : List Int × Int => { sl := [(1, .ptr 0 0), (2, .dat (.val (.slice none 0 0))), (4, .ptr 1 0), (5, .ptr 2 0), (6, .own 3 1 z.1.length)], hp := [(0, .var ((catD c).map .dat)), (1, .var [.dat (bools (isOf c (listOf c)))]), (2, .var [.dat (iD z.2)]), (3, .row 3 1 (z.1.map fun n => [iD n]))], nx := 4 }) (fun z => WayI c a0 z.1 z.2) (fun z => c.courses.length - z.1.length) ([], a0) (Ent.trans (Ent.nil (t := 6) 3 1 rfl) (Ent.sub [1, 2, 4, 5, 6] [0, 1, 2, 3] (by simp [sub, subSl, subHp, place, mp, mpL, mpO, mpG]))) hw0 fun z hz => ?_
    obtain ⟨way, at_⟩ := z
    have hw : WayI c a0 way at_ := hz
    have hwl := hw.len
    have hob : way.length ≤ big := by simp only [big]; omega
    have e7 : (way.length + 1) * 8 ≤ big := by simp only [big]; omega
    refine T_seq ?_
    refine T_seq ?_
    refine T_region (is := [0, 1, 2, 3]) rfl fun kn kp hn hp => ?_
    refine T_op rfl rfl fun kc hc => ?_
    simp; refine hc _ ?_; clear hc kc
    refine T_op rfl rfl fun kc hc => ?_
    simp; refine hc _ ?_; clear hc kc
    refine T_op rfl rfl fun kc hc => ?_
    simp
    refine CallS.lend (walk71 way at_ (by omega)) (by simp [lendL, lend, Sx.give, giveL, hob]) rfl rfl ?_
    simp [enum]; refine hc _ ?_; clear hc kc
    refine T_op rfl rfl fun kc hc => ?_
    simp; refine hc _ ?_; clear hc kc
    refine T_end (hn _ ?_); clear hn hp kn kp
    refine T_then ?_
    refine T_cond rfl (fun b2 => ?_) (fun b2 => ?_)
    · skip
      have hhas : has way at_ = false := by rw [← has_any]; simpa using b2
      obtain ⟨k, rfl, hk⟩ := hw.at_
      obtain ⟨y, hy⟩ : ∃ y, c.courses[k]? = some y := ⟨_, List.getElem?_eq_getElem hk⟩
      have hnd : needsAt c k = needsL c (partsOf y.need) := by simp [needsAt, hy]
      have w84 := walk84 c k y hy (hf.need y (List.mem_of_getElem? hy)).1 hf.courses
      obtain ⟨L, hL⟩ : ∃ L, L = needsL c (partsOf y.need) := ⟨_, rfl⟩
      rw [← hL] at w84 hnd
      obtain ⟨nn, hnn⟩ := unlisted hk hw.off
      refine T_skip ?_
      refine T_then ?_
      refine T_block ?_
      refine T_seq ?_
      refine T_region (is := [0, 1, 2, 3, 4]) rfl fun kn kp hn hp => ?_
      refine T_op rfl rfl fun kc hc => ?_
      simp; refine hc _ ?_; clear hc kc
      refine T_op rfl rfl fun kc hc => ?_
      simp; refine hc _ ?_; clear hc kc
      refine T_op rfl rfl fun kc hc => ?_
      simp; refine hc _ ?_; clear hc kc
      refine T_op rfl rfl fun kc hc => ?_
      simp [e7]; refine hc _ ?_; clear hc kc
      refine T_op rfl rfl fun kc hc => ?_
      simp; refine hc _ ?_; clear hc kc
      refine T_end (hn _ ?_); clear hn hp kn kp
      refine T_then ?_
      refine T_seq ?_
      refine T_region (is := [0, 1, 2]) rfl fun kn kp hn hp => ?_
      refine T_op rfl rfl fun kc hc => ?_
      simp; refine hc _ ?_; clear hc kc
      refine T_op rfl rfl fun kc hc => ?_
      simp; refine hc _ ?_; clear hc kc
      refine T_op rfl rfl fun kc hc => ?_
      simp
      refine CallS.dat (walk72 c k) (rfl) rfl rfl rfl ?_
      simp [enum]; refine hc _ ?_; clear hc kc
      refine T_end (hn _ ?_); clear hn hp kn kp
      refine T_then ?_
      refine T_block ?_
      refine T_rangeA (w84) 0 (fun _ _ => { sl := [(1, .ptr 0 0), (2, .dat (.val (.slice none 0 0))), (4, .ptr 1 0), (5, .ptr 2 0), (6, .own 3 1 (way.length + 1)), (29, .dat (.fn 84 [.ref (catD c), .ref [iD (k : Int)]]))], hp := [(0, .var ((catD c).map .dat)), (1, .var [.dat (bools (isOf c (listOf c)))]), (2, .var [.dat (iD (k : Int))]), (3, .row 3 1 ((way.map fun n => [iD n]) ++ [[iD (k : Int)]]))], nx := 4 }) (fun j (_ : Unit) => allH (listOf c) (L.take j) = true) () (rfl) (Ent.sub [1, 2, 4, 5, 6, 29] [0, 1, 2, 5] (by simp [sub, subSl, subHp, place, mp, mpL, mpO, mpG])) rfl (by intro i x h; simp at h; obtain ⟨p, _, rfl⟩ := h; rfl) (by decide) (fun j => [iD (L.getD j 0)]) (weak_ints L) (fun _ _ => rfl) (fun j xe hxe u hu l => ?_) fun u hu => ?_
      · skip
        obtain ⟨n, hn1, rfl⟩ : ∃ n, L[j]? = some n ∧ xe = [iD n] := by simp at hxe; obtain ⟨p, h1, h2⟩ := hxe; exact ⟨p, h1, h2.symm⟩
        obtain ⟨m, rfl, hm⟩ : ∃ k : Nat, n = (k : Int) ∧ k < c.courses.length := needsL_range (hL ▸ List.mem_of_getElem? hn1)
        have hkg := isOf_get (out := listOf c) hm
        simp [rst, parSl, shiftG, hn1]
        refine T_region (is := [0]) rfl fun kn kp hn hp => ?_
        refine T_op rfl rfl fun kc hc => ?_
        simp; refine hc _ ?_; clear hc kc
        refine T_end (hn _ ?_); clear hn hp kn kp
        refine T_then ?_
        refine T_block ?_
        refine T_seq ?_
        refine T_region (is := [0, 1, 2, 3, 4]) rfl fun kn kp hn hp => ?_
        refine T_op rfl rfl fun kc hc => ?_
        simp; refine hc _ ?_; clear hc kc
        refine T_op rfl rfl fun kc hc => ?_
        simp; refine hc _ ?_; clear hc kc
        refine T_op rfl rfl fun kc hc => ?_
        simp [hkg]; refine hc _ ?_; clear hc kc
        refine T_op rfl rfl fun kc hc => ?_
        simp [hkg]; refine hc _ ?_; clear hc kc
        refine T_op rfl rfl fun kc hc => ?_
        simp; refine hc _ ?_; clear hc kc
        refine T_end (hn _ ?_); clear hn hp kn kp
        refine T_then ?_
        refine T_cond rfl (fun b3 => ?_) (fun b3 => ?_)
        · skip
          have hb : has (listOf c) (m : Int) = false := by simpa using b3
          have hfi := find_at hu hn1 hb
          rw [← hnd] at hfi
          have hwn := hw.next rfl hfi hhas
          refine T_seq ?_
          refine T_region (is := [0, 1]) rfl fun kn kp hn hp => ?_
          refine T_op rfl rfl fun kc hc => ?_
          simp; refine hc _ ?_; clear hc kc
          refine T_op rfl rfl fun kc hc => ?_
          simp; refine hc _ ?_; clear hc kc
          refine T_end (hn _ ?_); clear hn hp kn kp
          refine T_then ?_
          refine T_exit ?_
          refine X_miss (by decide) ?_
          refine ⟨{ sl := [(1, .ptr 0 0), (2, .dat (.val (.slice none 0 0))), (4, .ptr 1 0), (5, .ptr 2 0), (6, .own 3 1 (way.length + 1)), (29, .dat (.fn 84 [.ref (catD c), .ref [iD (k : Int)]]))], hp := [(0, .var ((catD c).map .dat)), (1, .var [.dat (bools (isOf c (listOf c)))]), (2, .var [.dat (iD (m : Int))]), (3, .row 3 1 ((way.map fun n => [iD n]) ++ [[iD (k : Int)]]))], nx := 4 }, ⟨_, Ent.sub [1, 2, 4, 5, 6] [0, 1, 2, 3] (by simp [sub, subSl, subHp, place, mp, mpL, mpO, mpG]; rfl), ?_⟩, ?_⟩
          · exact ⟨rfl, rfl, rfl, by simp [Has, shiftG, lk], by simp [Has, shiftG, lk], rfl, rfl⟩
          refine X_hit ?_
          refine X_blockN ?_
          exact X_loopN (way ++ [(k : Int)], (m : Int)) (Ent.sub [1, 2, 4, 5, 6] [0, 1, 2, 3] (by simp [sub, subSl, subHp, place, mp, mpL, mpO, mpG])) hwn.1 (by have := hwn.2; simp; omega)
        · skip
          have hb : has (listOf c) (m : Int) = true := by simpa using b3
          refine T_skip ?_
          refine X_blockN ?_
          refine ⟨(), (by show allH (listOf c) (L.take (j + 1)) = true; rw [allH_next hn1, hu, hb]; rfl), _, Ent.sub [1, 2, 4, 5, 6] [0, 1, 2, 3] (by simp [sub, subSl, subHp, place, mp, mpL, mpO, mpG]; rfl), ?_⟩
          exact ⟨rfl, rfl, rfl, by simp [Has, shiftG, lk], by simp [Has, shiftG, lk], rfl, rfl⟩
      · skip
        exfalso
        have hall : allH (listOf c) L = true := by simpa using hu
        rw [hnd, find_none hall] at hnn
        exact nomatch hnn
    · skip
      have hhas : has way at_ = true := by rw [← has_any]; simpa using b2
      have hdone := hw.done hhas
      have hcy := cycOf_eq ha0 hneg hdone
      obtain ⟨D, hD⟩ : ∃ D, D = fromA at_ way := ⟨_, rfl⟩
      have hDl : D.length ≤ way.length := by rw [hD, fromA, List.length_drop]; omega
      obtain ⟨q, hq⟩ : ∃ q : Nat, idx (fun x => at_ == x) way 0 = (q : Int) ∧ q < way.length := by obtain ⟨q, h1, h2⟩ := idx_pos (p := fun x => at_ == x) (k := 0) (by rw [has_any]; exact hhas); exact ⟨q, by simpa using h2, h1⟩
      have hDq : way.drop q = D := by rw [hD, fromA, hq.1]; rfl
      have hDm : List.drop q (way.map fun n => [iD n]) = D.map fun n => [iD n] := by rw [← List.map_drop, hDq]
      have hDn : way.length - q = D.length := by rw [← hDq, List.length_drop]
      have hat : ∀ (z : Nat) (x : Int), D[z]? = some x → ∃ (k : Nat) (y : Course), x = (k : Int) ∧ k < c.courses.length ∧ c.courses[k]? = some y := by
        intro z x h
        have hm : x ∈ way := by rw [← hDq] at h; exact List.mem_of_mem_drop (List.mem_of_getElem? h)
        obtain ⟨k, hk, hlt⟩ := hw.range x hm
        exact ⟨k, _, hk, hlt, List.getElem?_eq_getElem hlt⟩
      refine T_exit ?_
      refine X_thenE ?_
      refine X_loopE ?_
      refine X_hit ?_
      refine T_then ?_
      refine T_seq ?_
      refine T_seq ?_
      refine T_region (is := [0, 1, 2, 3, 4, 5, 6]) rfl fun kn kp hn hp => ?_
      refine T_opsEnt (Ent.give (t := 6) (n := 9) (e := ints way) (hp' := [(0, .var ((catD c).map .dat)), (1, .var [.dat (bools (isOf c (listOf c)))]), (2, .var [.dat (iD at_)])]) rfl (by simp [Sx.give, hob])) ?_
      refine T_op rfl rfl fun kc hc => ?_
      simp; refine hc _ ?_; clear hc kc
      refine T_op rfl rfl fun kc hc => ?_
      simp; refine hc _ ?_; clear hc kc
      refine T_op rfl rfl fun kc hc => ?_
      simp; refine hc _ ?_; clear hc kc
      refine T_op rfl rfl fun kc hc => ?_
      simp
      refine CallS.dat (walk73 way at_ (by omega)) (rfl) rfl rfl rfl ?_
      simp [enum]; refine hc _ ?_; clear hc kc
      refine T_op rfl rfl fun kc hc => ?_
      simp [hq.1, hDm, hDn, (show q ≤ way.length by omega)]; refine hc _ ?_; clear hc kc
      refine T_op rfl rfl fun kc hc => ?_
      simp [hDn]; refine hc _ ?_; clear hc kc
      refine T_op rfl rfl fun kc hc => ?_
      simp; refine hc _ ?_; clear hc kc
      refine T_end (hn _ ?_); clear hn hp kn kp
      refine T_then ?_
      refine T_block ?_
      refine T_loop (fun z : Nat => { sl := [(1, .ptr 0 0), (2, .own 1 1 z), (41, .dat (ints D)), (42, .dat (iD D.length)), (43, .dat (iD z))], hp := [(0, .var ((catD c).map .dat)), (1, .row 3 1 ((D.take z).map fun x => [iD (numAt c x)]))], nx := 2 }) (fun z => z ≤ D.length) (fun z => D.length - z) 0 (Ent.trans (Ent.nil (t := 2) 3 1 rfl) (Ent.sub [1, 2, 41, 42, 43] [0, 4] (by simp [sub, subSl, subHp, place, mp, mpL, mpO, mpG]))) (Nat.zero_le _) fun z hz => ?_
      refine T_seq ?_
      refine T_region (is := [0]) rfl fun kn kp hn hp => ?_
      refine T_op rfl rfl fun kc hc => ?_
      simp; refine hc _ ?_; clear hc kc
      refine T_end (hn _ ?_); clear hn hp kn kp
      refine T_then ?_
      refine T_seq ?_
      refine T_cond rfl (fun b4 => ?_) (fun b4 => ?_)
      · skip
        have hz' : z < D.length := by simpa using b4
        obtain ⟨x, hx⟩ : ∃ x, D[z]? = some x := ⟨_, List.getElem?_eq_getElem hz'⟩
        obtain ⟨k, y, rfl, hk, hy⟩ := hat z x hx
        have hny := numAt_get hy
        have e1 : IntKind.i64.wrap ((z : Int) + 1) = (z : Int) + 1 := wr1 hz' (by omega)
        have e7 : (z + 1) * 8 ≤ big := by simp only [big]; omega
        have hml := Nat.min_eq_left hz
        refine T_skip ?_
        refine T_then ?_
        refine T_seq ?_
        refine T_block ?_
        refine T_seq ?_
        refine T_region (is := [0, 1, 2]) rfl fun kn kp hn hp => ?_
        refine T_op rfl rfl fun kc hc => ?_
        simp [hx]; refine hc _ ?_; clear hc kc
        refine T_op rfl rfl fun kc hc => ?_
        simp [hx]; refine hc _ ?_; clear hc kc
        refine T_op rfl rfl fun kc hc => ?_
        simp; refine hc _ ?_; clear hc kc
        refine T_end (hn _ ?_); clear hn hp kn kp
        refine T_then ?_
        refine T_region (is := [0, 1, 2, 3, 4, 5, 6, 7, 8, 9]) rfl fun kn kp hn hp => ?_
        refine T_op rfl rfl fun kc hc => ?_
        simp; refine hc _ ?_; clear hc kc
        refine T_op rfl rfl fun kc hc => ?_
        simp; refine hc _ ?_; clear hc kc
        refine T_op rfl rfl fun kc hc => ?_
        simp; refine hc _ ?_; clear hc kc
        refine T_op rfl rfl fun kc hc => ?_
        simp; refine hc _ ?_; clear hc kc
        refine T_op rfl rfl fun kc hc => ?_
        simp [hy]; refine hc _ ?_; clear hc kc
        refine T_op rfl rfl fun kc hc => ?_
        simp; refine hc _ ?_; clear hc kc
        refine T_op rfl rfl fun kc hc => ?_
        simp; refine hc _ ?_; clear hc kc
        refine T_op rfl rfl fun kc hc => ?_
        simp; refine hc _ ?_; clear hc kc
        refine T_op rfl rfl fun kc hc => ?_
        simp [e7, hml]; refine hc _ ?_; clear hc kc
        refine T_op rfl rfl fun kc hc => ?_
        simp; refine hc _ ?_; clear hc kc
        refine T_end (hn _ ?_); clear hn hp kn kp
        refine X_blockN ?_
        refine T_then ?_
        refine T_region (is := [0, 1]) rfl fun kn kp hn hp => ?_
        refine T_op rfl rfl fun kc hc => ?_
        simp [e1]; refine hc _ ?_; clear hc kc
        refine T_op rfl rfl fun kc hc => ?_
        simp; refine hc _ ?_; clear hc kc
        refine T_end (hn _ ?_); clear hn hp kn kp
        exact X_loopN (z + 1) (Ent.sub [1, 2, 41, 42, 43] [0, 3] (by simp [sub, subSl, subHp, place, mp, mpL, mpO, mpG, e1, take_next hx, hny])) hz' (by omega)
      · skip
        have hz' : z = D.length := by simp at b4; omega
        subst hz'
        have hlb : D.length ≤ big := by simp only [big]; omega
        refine T_exit ?_
        refine X_thenE ?_
        refine X_loopE ?_
        refine X_hit ?_
        refine T_then ?_
        refine T_seq ?_
        refine T_region (is := [0, 1]) rfl fun kn kp hn hp => ?_
        refine T_op rfl rfl fun kc hc => ?_
        simp; refine hc _ ?_; clear hc kc
        refine T_op rfl rfl fun kc hc => ?_
        simp; refine hc _ ?_; clear hc kc
        refine T_end (hn _ ?_); clear hn hp kn kp
        refine T_then ?_
        refine T_ret ?_
        exact finI (Ent.give (t := 2) (n := 9) (e := ints (D.map (numAt c))) (hp' := [(0, .var ((catD c).map .dat))]) rfl (by simp [Sx.give, hlb])) (by simp [resD, resL, resV]; rfl) (Ent.sub [] [] (by simp [sub, subSl, subHp, place, mp, mpL, mpO, mpG]; rfl)) rfl rfl (by simp [hcy, ← hD])
-- sizar/sizarref11.Cycle
theorem walk21 (c : Cat) (hf : c.fit) : Does Try.prog 21 [.agg (catD c)] (.dat (ints (cycOf c))) [] := by
  have hn := hf.courses
  have w69 := walk69 c hf
  have hll := listOf_len c
  refine Does.intro [.tmp 2] Try.func21 rfl (by kernel_rfl) Try.ntmps21 rfl (Nat.le_of_ble_eq_true rfl) ?_
  refine T_seq ?_
  refine T_region (is := [0, 1]) rfl fun kn kp hn hp => ?_
  refine T_op rfl rfl fun kc hc => ?_
  simp; refine hc _ ?_; clear hc kc
  refine T_op rfl rfl fun kc hc => ?_
  simp; refine hc _ ?_; clear hc kc
  refine T_end (hn _ ?_); clear hn hp kn kp
  refine T_then ?_
  refine T_seq ?_
  refine T_region (is := [0, 1, 2]) rfl fun kn kp hn hp => ?_
  refine T_op rfl rfl fun kc hc => ?_
  simp; refine hc _ ?_; clear hc kc
  refine T_op rfl rfl fun kc hc => ?_
  simp
  refine CallS.dat (w69) (rfl) rfl rfl rfl ?_
  simp [enum]; refine hc _ ?_; clear hc kc
  refine T_op rfl rfl fun kc hc => ?_
  simp; refine hc _ ?_; clear hc kc
  refine T_end (hn _ ?_); clear hn hp kn kp
  refine T_then ?_
  refine T_seq ?_
  refine T_region (is := [0]) rfl fun kn kp hn hp => ?_
  refine T_op rfl rfl fun kc hc => ?_
  simp; refine hc _ ?_; clear hc kc
  refine T_end (hn _ ?_); clear hn hp kn kp
  refine T_then ?_
  refine T_seq ?_
  refine T_block ?_
  refine T_loop (fun z : Nat => { sl := [(1, .ptr 0 0), (2, .dat (.val (.slice none 0 0))), (3, .dat (ints (listOf c))), (4, .dat (iD z))], hp := [(0, .var ((catD c).map .dat))], nx := 1 }) (fun z => z ≤ c.courses.length ∧ ∀ k, k < z → has (listOf c) (k : Int) = true) (fun z => c.courses.length - z) 0 (Ent.sub [1, 2, 3, 4] [0] (by simp [sub, subSl, subHp, place, mp, mpL, mpO, mpG])) ⟨Nat.zero_le _, fun k h => absurd h (Nat.not_lt_zero k)⟩ fun z hz => ?_
  obtain ⟨hz, hza⟩ := hz
  refine T_seq ?_
  refine T_seq ?_
  refine T_region (is := [0, 1, 2, 3, 4, 5, 6, 7, 8, 9]) rfl fun kn kp hn hp => ?_
  refine T_op rfl rfl fun kc hc => ?_
  simp; refine hc _ ?_; clear hc kc
  refine T_op rfl rfl fun kc hc => ?_
  simp; refine hc _ ?_; clear hc kc
  refine T_op rfl rfl fun kc hc => ?_
  simp; refine hc _ ?_; clear hc kc
  refine T_op rfl rfl fun kc hc => ?_
  simp; refine hc _ ?_; clear hc kc
  refine T_op rfl rfl fun kc hc => ?_
  simp; refine hc _ ?_; clear hc kc
  refine T_op rfl rfl fun kc hc => ?_
  simp; refine hc _ ?_; clear hc kc
  refine T_pure rfl (pstep_one rfl rfl rfl rfl fun g0 => .op rfl (by simp [g0]; rfl)) fun kc hc => ?_
  simp; refine hc _ ?_; clear hc kc
  refine T_pure rfl (pstep_one rfl rfl rfl rfl fun g0 => .op rfl (by simp [g0]; rfl)) fun kc hc => ?_
  simp; refine hc _ ?_; clear hc kc
  refine T_pure rfl (pstep_one rfl rfl rfl rfl fun g0 => .dat (by simp [g0] <;> first | exact ⟨rfl, rfl⟩ | rfl) (by exact walk74 (listOf c) z (by omega)) (by rfl)) fun kc hc => ?_
  simp; refine hc _ ?_; clear hc kc
  refine T_op rfl rfl fun kc hc => ?_
  simp; refine hc _ ?_; clear hc kc
  refine T_end (hn _ ?_); clear hn hp kn kp
  refine T_then ?_
  refine T_cond rfl (fun b1 => ?_) (fun b1 => ?_)
  · skip
    have hb : z < c.courses.length ∧ has (listOf c) (z : Int) = true := by simpa using b1
    have e1 : IntKind.i64.wrap ((z : Int) + 1) = (z : Int) + 1 := wr1 hb.1 (by omega)
    refine T_skip ?_
    refine T_then ?_
    refine T_block ?_
    refine T_region (is := [0, 1, 2]) rfl fun kn kp hn hp => ?_
    refine T_op rfl rfl fun kc hc => ?_
    simp; refine hc _ ?_; clear hc kc
    refine T_op rfl rfl fun kc hc => ?_
    simp [e1]; refine hc _ ?_; clear hc kc
    refine T_op rfl rfl fun kc hc => ?_
    simp; refine hc _ ?_; clear hc kc
    refine T_end (hn _ ?_); clear hn hp kn kp
    refine X_blockN ?_
    exact X_loopN (z + 1) (Ent.sub [1, 2, 3, 4] [0] (by simp [sub, subSl, subHp, place, mp, mpL, mpO, mpG, e1])) ⟨hb.1, fun k hk => by rcases Nat.lt_or_ge k z with h | h; exact hza k h; rw [show k = z by omega]; exact hb.2⟩ (by have := hb.1; omega)
  · skip
    have hb : z < c.courses.length → has (listOf c) (z : Int) = false := by simpa using b1
    refine T_exit ?_
    refine X_thenE ?_
    refine X_loopE ?_
    refine X_hit ?_
    refine T_then ?_
    refine T_seq ?_
    refine T_seq ?_
    refine T_region (is := [0, 1, 2, 3, 4]) rfl fun kn kp hn hp => ?_
    refine T_op rfl rfl fun kc hc => ?_
    simp; refine hc _ ?_; clear hc kc
    refine T_op rfl rfl fun kc hc => ?_
    simp; refine hc _ ?_; clear hc kc
    refine T_op rfl rfl fun kc hc => ?_
    simp; refine hc _ ?_; clear hc kc
    refine T_op rfl rfl fun kc hc => ?_
    simp; refine hc _ ?_; clear hc kc
    refine T_op rfl rfl fun kc hc => ?_
    simp; refine hc _ ?_; clear hc kc
    refine T_end (hn _ ?_); clear hn hp kn kp
    refine T_then ?_
    refine T_cond rfl (fun b2 => ?_) (fun b2 => ?_)
    · skip
      have hze : z = c.courses.length := by simp at b2; omega
      have hcy : cycOf c = [] := by simp [cycOf, firstC_none (fun k hk => hza k (by omega))]
      refine T_seq ?_
      refine T_region (is := [0]) rfl fun kn kp hn hp => ?_
      refine T_op rfl rfl fun kc hc => ?_
      simp; refine hc _ ?_; clear hc kc
      refine T_end (hn _ ?_); clear hn hp kn kp
      refine T_then ?_
      refine T_ret ?_
      refine X_thenR ?_
      exact finI (Ent.nilDat (t := 2) 1 rfl) (by simp [resD, resL, resV]; rfl) (Ent.sub [] [] (by simp [sub, subSl, subHp, place, mp, mpL, mpO, mpG]; rfl)) rfl rfl (by simp [hcy])
    · skip
      have hzn : z < c.courses.length := by simp at b2; omega
      have ha0 := firstC_at hzn hza (hb hzn)
      have hw0 : WayI c z [] z := WayI.start hzn (hb hzn)
      refine T_skip ?_
      refine T_then ?_
      refine T_seq ?_
      refine T_region (is := [0, 1]) rfl fun kn kp hn hp => ?_
      refine T_op rfl rfl fun kc hc => ?_
      simp; refine hc _ ?_; clear hc kc
      refine T_op rfl rfl fun kc hc => ?_
      simp; refine hc _ ?_; clear hc kc
      refine T_end (hn _ ?_); clear hn hp kn kp
      refine T_then ?_
      refine T_seq ?_
      refine T_block ?_
      refine T_loop (fun q : List Int × Int => { sl := [(1, .ptr 0 0), (3, .dat (ints (listOf c))), (4, .dat (iD q.2)), (5, .own 1 1 q.1.length)], hp := [(0, .var ((catD c).map .dat)), (1, .row 3 1 (q.1.map fun n => [iD n]))], nx := 2 }) (fun q => WayI c z q.1 q.2) (fun q => c.courses.length - q.1.length) ([], (z : Int)) (Ent.sub [1, 3, 4, 5] [0, 1] (by simp [sub, subSl, subHp, place, mp, mpL, mpO, mpG])) hw0 fun q hq => ?_
      obtain ⟨way, at_⟩ := q
      have hw : WayI c z way at_ := hq
      have hwl := hw.len
      have hob : way.length ≤ big := by simp only [big]; omega
      have e7 : (way.length + 1) * 8 ≤ big := by simp only [big]; omega
      refine T_seq ?_
      refine T_seq ?_
      refine T_region (is := [0, 1, 2, 3]) rfl fun kn kp hn hp => ?_
      refine T_op rfl rfl fun kc hc => ?_
      simp; refine hc _ ?_; clear hc kc
      refine T_op rfl rfl fun kc hc => ?_
      simp; refine hc _ ?_; clear hc kc
      refine T_op rfl rfl fun kc hc => ?_
      simp
      refine CallS.lend (walk74 way at_ (by omega)) (by simp [lendL, lend, Sx.give, giveL, hob]) rfl rfl ?_
      simp [enum]; refine hc _ ?_; clear hc kc
      refine T_op rfl rfl fun kc hc => ?_
      simp; refine hc _ ?_; clear hc kc
      refine T_end (hn _ ?_); clear hn hp kn kp
      refine T_then ?_
      refine T_cond rfl (fun b3 => ?_) (fun b3 => ?_)
      · skip
        have hhas : has way at_ = false := by simpa using b3
        obtain ⟨k, rfl, hk⟩ := hw.at_
        obtain ⟨y, hy⟩ : ∃ y, c.courses[k]? = some y := ⟨_, List.getElem?_eq_getElem hk⟩
        have hnd : needsAt c k = needsL c (partsOf y.need) := by simp [needsAt, hy]
        obtain ⟨nn, hnn⟩ := unlisted hk hw.off
        have hnl := needsL_len c (partsOf y.need)
        have hym := (hf.need y (List.mem_of_getElem? hy)).1
        refine T_skip ?_
        refine T_then ?_
        refine T_block ?_
        refine T_seq ?_
        refine T_region (is := [0, 1, 2, 3, 4]) rfl fun kn kp hn hp => ?_
        refine T_op rfl rfl fun kc hc => ?_
        simp; refine hc _ ?_; clear hc kc
        refine T_op rfl rfl fun kc hc => ?_
        simp; refine hc _ ?_; clear hc kc
        refine T_op rfl rfl fun kc hc => ?_
        simp; refine hc _ ?_; clear hc kc
        refine T_op rfl rfl fun kc hc => ?_
        simp [e7]; refine hc _ ?_; clear hc kc
        refine T_op rfl rfl fun kc hc => ?_
        simp; refine hc _ ?_; clear hc kc
        refine T_end (hn _ ?_); clear hn hp kn kp
        refine T_then ?_
        refine T_seq ?_
        refine T_region (is := [0, 1, 2, 3]) rfl fun kn kp hn hp => ?_
        refine T_op rfl rfl fun kc hc => ?_
        simp; refine hc _ ?_; clear hc kc
        refine T_op rfl rfl fun kc hc => ?_
        simp; refine hc _ ?_; clear hc kc
        refine T_op rfl rfl fun kc hc => ?_
        simp
        refine CallS.dat (walk24 c k y hy (hf.need y (List.mem_of_getElem? hy)).1 hf.courses) (rfl) rfl rfl rfl ?_
        simp [enum]; refine hc _ ?_; clear hc kc
        refine T_op rfl rfl fun kc hc => ?_
        simp; refine hc _ ?_; clear hc kc
        refine T_end (hn _ ?_); clear hn hp kn kp
        refine T_then ?_
        refine T_seq ?_
        refine T_region (is := [0]) rfl fun kn kp hn hp => ?_
        refine T_op rfl rfl fun kc hc => ?_
        simp; refine hc _ ?_; clear hc kc
        refine T_end (hn _ ?_); clear hn hp kn kp
        refine T_then ?_
        refine T_seq ?_
        refine T_block ?_
        refine T_loop (fun j : Nat => { sl := [(1, .ptr 0 0), (3, .dat (ints (listOf c))), (4, .dat (iD (k : Int))), (5, .own 1 1 (way ++ [(k : Int)]).length), (6, .dat (ints (needsL c (partsOf y.need)))), (7, .dat (iD j))], hp := [(0, .var ((catD c).map .dat)), (1, .row 3 1 ((way ++ [(k : Int)]).map fun n => [iD n]))], nx := 2 }) (fun j => j ≤ (needsL c (partsOf y.need)).length ∧ allH (listOf c) ((needsL c (partsOf y.need)).take j) = true) (fun j => (needsL c (partsOf y.need)).length - j) 0 (Ent.sub [1, 3, 4, 5, 6, 7] [0, 3] (by simp [sub, subSl, subHp, place, mp, mpL, mpO, mpG])) ⟨Nat.zero_le _, rfl⟩ fun j hj => ?_
        obtain ⟨hjl, hja⟩ := hj
        have hjl : j < (needsL c (partsOf y.need)).length := by
          rcases Nat.lt_or_ge j (needsL c (partsOf y.need)).length with h | h
          · exact h
          · exfalso
            rw [List.take_of_length_le h] at hja
            rw [hnd, find_none hja] at hnn
            cases hnn
        obtain ⟨x, hx⟩ : ∃ x, (needsL c (partsOf y.need))[j]? = some x := ⟨_, List.getElem?_eq_getElem hjl⟩
        refine T_seq ?_
        refine T_seq ?_
        refine T_region (is := [0, 1, 2, 3, 4, 5]) rfl fun kn kp hn hp => ?_
        refine T_op rfl rfl fun kc hc => ?_
        simp; refine hc _ ?_; clear hc kc
        refine T_op rfl rfl fun kc hc => ?_
        simp; refine hc _ ?_; clear hc kc
        refine T_op rfl rfl fun kc hc => ?_
        simp; refine hc _ ?_; clear hc kc
        refine T_op rfl rfl fun kc hc => ?_
        simp [hx]; refine hc _ ?_; clear hc kc
        refine T_op rfl rfl fun kc hc => ?_
        simp [hx]; refine hc _ ?_; clear hc kc
        refine T_op rfl rfl fun kc hc => ?_
        simp
        refine CallS.dat (walk74 (listOf c) x (by omega)) (rfl) rfl rfl rfl ?_
        simp [enum]; refine hc _ ?_; clear hc kc
        refine T_end (hn _ ?_); clear hn hp kn kp
        refine T_then ?_
        refine T_cond rfl (fun b4 => ?_) (fun b4 => ?_)
        · skip
          have hb2 : has (listOf c) x = true := by simpa using b4
          have e2 : IntKind.i64.wrap ((j : Int) + 1) = (j : Int) + 1 := wr1 hjl (by omega)
          refine T_skip ?_
          refine T_then ?_
          refine T_block ?_
          refine T_region (is := [0, 1, 2]) rfl fun kn kp hn hp => ?_
          refine T_op rfl rfl fun kc hc => ?_
          simp; refine hc _ ?_; clear hc kc
          refine T_op rfl rfl fun kc hc => ?_
          simp [e2]; refine hc _ ?_; clear hc kc
          refine T_op rfl rfl fun kc hc => ?_
          simp; refine hc _ ?_; clear hc kc
          refine T_end (hn _ ?_); clear hn hp kn kp
          refine X_blockN ?_
          exact X_loopN (j + 1) (Ent.sub [1, 3, 4, 5, 6, 7] [0, 1] (by simp [sub, subSl, subHp, place, mp, mpL, mpO, mpG, e2])) ⟨hjl, by rw [allH_next hx, hja, hb2]; rfl⟩ (by omega)
        · skip
          have hb2 : has (listOf c) x = false := by simpa using b4
          have hfi := find_at hja hx hb2
          rw [← hnd] at hfi
          have hwn := hw.next rfl hfi hhas
          refine T_exit ?_
          refine X_thenE ?_
          refine X_loopE ?_
          refine X_hit ?_
          refine T_then ?_
          refine T_region (is := [0, 1, 2, 3, 4]) rfl fun kn kp hn hp => ?_
          refine T_op rfl rfl fun kc hc => ?_
          simp; refine hc _ ?_; clear hc kc
          refine T_op rfl rfl fun kc hc => ?_
          simp; refine hc _ ?_; clear hc kc
          refine T_op rfl rfl fun kc hc => ?_
          simp [hx]; refine hc _ ?_; clear hc kc
          refine T_op rfl rfl fun kc hc => ?_
          simp [hx]; refine hc _ ?_; clear hc kc
          refine T_op rfl rfl fun kc hc => ?_
          simp; refine hc _ ?_; clear hc kc
          refine T_end (hn _ ?_); clear hn hp kn kp
          refine X_blockN ?_
          exact X_loopN (way ++ [(k : Int)], x) (Ent.sub [1, 3, 4, 5] [0, 1] (by simp [sub, subSl, subHp, place, mp, mpL, mpO, mpG])) hwn.1 (by have := hwn.2; simp; omega)
      · skip
        have hhas : has way at_ = true := by simpa using b3
        have hdone := hw.done hhas
        have hcy := cycOf_eq ha0 (by omega) hdone
        refine T_exit ?_
        refine X_thenE ?_
        refine X_loopE ?_
        refine X_hit ?_
        refine T_then ?_
        refine T_seq ?_
        refine T_region (is := [0, 1]) rfl fun kn kp hn hp => ?_
        refine T_op rfl rfl fun kc hc => ?_
        simp; refine hc _ ?_; clear hc kc
        refine T_op rfl rfl fun kc hc => ?_
        simp; refine hc _ ?_; clear hc kc
        refine T_end (hn _ ?_); clear hn hp kn kp
        refine T_then ?_
        refine T_seq ?_
        refine T_region (is := [0]) rfl fun kn kp hn hp => ?_
        refine T_op rfl rfl fun kc hc => ?_
        simp; refine hc _ ?_; clear hc kc
        refine T_end (hn _ ?_); clear hn hp kn kp
        refine T_then ?_
        refine T_seq ?_
        refine T_seq ?_
        refine T_region (is := [0]) rfl fun kn kp hn hp => ?_
        refine T_op rfl rfl fun kc hc => ?_
        simp; refine hc _ ?_; clear hc kc
        refine T_end (hn _ ?_); clear hn hp kn kp
        refine T_then ?_
        refine T_block ?_
        refine T_loop (fun z_ : Nat => { sl := [(1, .ptr 0 0), (4, .dat (iD at_)), (5, .dat (ints way)), (8, .own 1 1 (fromT at_ way z_).length), (9, .dat (bV (has (way.take z_) at_))), (10, .dat (iD z_))], hp := [(0, .var ((catD c).map .dat)), (1, .row 3 1 ((fromT at_ way z_).map fun x => [iD (numAt c x)]))], nx := 2 }) (fun z_ => z_ ≤ way.length) (fun z_ => way.length - z_) 0 (Ent.trans (Ent.give (t := 5) (n := 9) (e := ints way) (hp' := _) rfl (by simp [Sx.give, hob]; rfl)) (Ent.sub [1, 4, 5, 8, 9, 10] [0, 2] (by simp [sub, subSl, subHp, place, mp, mpL, mpO, mpG, fromT, has]))) (Nat.zero_le _) fun z_ hz_ => ?_
        refine T_seq ?_
        refine T_seq ?_
        refine T_region (is := [0, 1, 2, 3]) rfl fun kn kp hn hp => ?_
        refine T_op rfl rfl fun kc hc => ?_
        simp; refine hc _ ?_; clear hc kc
        refine T_op rfl rfl fun kc hc => ?_
        simp; refine hc _ ?_; clear hc kc
        refine T_op rfl rfl fun kc hc => ?_
        simp; refine hc _ ?_; clear hc kc
        refine T_op rfl rfl fun kc hc => ?_
        simp; refine hc _ ?_; clear hc kc
        refine T_end (hn _ ?_); clear hn hp kn kp
        refine T_then ?_
        refine T_cond rfl (fun b5 => ?_) (fun b5 => ?_)
        · skip
          have hz' : z_ < way.length := by simpa using b5
          obtain ⟨x, hx⟩ : ∃ x, way[z_]? = some x := ⟨_, List.getElem?_eq_getElem hz'⟩
          obtain ⟨k, rfl, hk⟩ := hw.range x (List.mem_of_getElem? hx)
          obtain ⟨y, hy⟩ : ∃ y, c.courses[k]? = some y := ⟨_, List.getElem?_eq_getElem hk⟩
          have hny := numAt_get hy
          have e1 : IntKind.i64.wrap ((z_ : Int) + 1) = (z_ : Int) + 1 := wr1 hz' (by omega)
          have hfl : (fromT at_ way z_).length ≤ way.length := by unfold fromT; split <;> simp [fromA]; omega
          have e7 : ((fromT at_ way z_).length + 1) * 8 ≤ big := by simp only [big]; omega
          have hfn := fromT_next (a := at_) hx
          have hhn := has_next (n := at_) hx
          refine T_skip ?_
          refine T_then ?_
          refine T_seq ?_
          refine T_block ?_
          refine T_seq ?_
          refine T_region (is := [0, 1, 2, 3, 4, 5, 6, 7, 8, 9]) rfl fun kn kp hn hp => ?_
          refine T_op rfl rfl fun kc hc => ?_
          simp; refine hc _ ?_; clear hc kc
          refine T_op rfl rfl fun kc hc => ?_
          simp; refine hc _ ?_; clear hc kc
          refine T_pure rfl (pstep_one rfl rfl rfl rfl fun g0 => .op rfl (by simp [g0]; rfl)) fun kc hc => ?_
          simp; refine hc _ ?_; clear hc kc
          refine T_pure rfl (pstep_one rfl rfl rfl rfl fun g0 => .op rfl (by simp [g0]; rfl)) fun kc hc => ?_
          simp; refine hc _ ?_; clear hc kc
          refine T_pure rfl (pstep_one rfl rfl rfl rfl fun g0 => .op rfl (by simp [g0, hx]; rfl)) fun kc hc => ?_
          simp; refine hc _ ?_; clear hc kc
          refine T_pure rfl (pstep_one rfl rfl rfl rfl fun g0 => .op rfl (by simp [g0, hx]; rfl)) fun kc hc => ?_
          simp; refine hc _ ?_; clear hc kc
          refine T_pure rfl (pstep_one rfl rfl rfl rfl fun g0 => .op rfl (by simp [g0]; rfl)) fun kc hc => ?_
          simp; refine hc _ ?_; clear hc kc
          refine T_pure rfl (pstep_one rfl rfl rfl rfl fun g0 => .op rfl (by simp [g0]; rfl)) fun kc hc => ?_
          simp; refine hc _ ?_; clear hc kc
          refine T_op rfl rfl fun kc hc => ?_
          simp; refine hc _ ?_; clear hc kc
          refine T_op rfl rfl fun kc hc => ?_
          simp; refine hc _ ?_; clear hc kc
          refine T_end (hn _ ?_); clear hn hp kn kp
          refine T_then ?_
          refine T_seq ?_
          refine T_region (is := [0]) rfl fun kn kp hn hp => ?_
          refine T_op rfl rfl fun kc hc => ?_
          simp; refine hc _ ?_; clear hc kc
          refine T_end (hn _ ?_); clear hn hp kn kp
          refine T_then ?_
          refine T_cond rfl (fun b6 => ?_) (fun b6 => ?_)
          · skip
            have hq : (has (way.take z_) at_ || (k : Int) == at_) = true := by simpa using b6
            rw [if_pos hq] at hfn
            refine T_draw' (is := [0, 1, 2, 3, 4, 5, 6, 7, 8, 9, 10, 11, 12]) rfl (by kernel_rfl) (fun _ _ hE h => T_ent hE h) fun kn hn => ?_
            refine D_op rfl rfl rfl rfl fun kc hc => ?_
            simp; refine hc _ ?_; clear hc kc
            refine D_op rfl rfl rfl rfl fun kc hc => ?_
            simp; refine hc _ ?_; clear hc kc
            refine D_op rfl rfl rfl rfl fun kc hc => ?_
            simp; refine hc _ ?_; clear hc kc
            refine D_op rfl rfl rfl rfl fun kc hc => ?_
            simp; refine hc _ ?_; clear hc kc
            refine D_op rfl rfl rfl rfl fun kc hc => ?_
            simp; refine hc _ ?_; clear hc kc
            refine D_op rfl rfl rfl rfl fun kc hc => ?_
            simp [hx]; refine hc _ ?_; clear hc kc
            refine D_op rfl rfl rfl rfl fun kc hc => ?_
            simp [hx]; refine hc _ ?_; clear hc kc
            refine D_op rfl rfl rfl rfl fun kc hc => ?_
            simp [hy]; refine hc _ ?_; clear hc kc
            refine D_op rfl rfl rfl rfl fun kc hc => ?_
            simp; refine hc _ ?_; clear hc kc
            refine D_op rfl rfl rfl rfl fun kc hc => ?_
            simp; refine hc _ ?_; clear hc kc
            refine D_eff [2] rfl rfl rfl fun kc hc => ?_
            simp
            refine hc _ (fun b hb => by simp at hb; simp [lk, hb]) ?_; clear hc kc
            refine D_eff [1, 3] rfl rfl rfl fun kc hc => ?_
            simp [e7]
            refine hc _ (fun b hb => by simp at hb; simp [lk, hb]) ?_; clear hc kc
            refine D_op rfl rfl rfl rfl fun kc hc => ?_
            simp; refine hc _ ?_; clear hc kc
            refine D_end rfl (by kernel_rfl) (hn _ ?_); clear hn kn
            refine X_blockN ?_
            refine T_then ?_
            refine T_region (is := [0, 1, 2]) rfl fun kn kp hn hp => ?_
            refine T_op rfl rfl fun kc hc => ?_
            simp; refine hc _ ?_; clear hc kc
            refine T_op rfl rfl fun kc hc => ?_
            simp [e1]; refine hc _ ?_; clear hc kc
            refine T_op rfl rfl fun kc hc => ?_
            simp; refine hc _ ?_; clear hc kc
            refine T_end (hn _ ?_); clear hn hp kn kp
            exact X_loopN (z_ + 1) (Ent.sub [1, 4, 5, 8, 9, 10] [0, 3] (by simp [sub, subSl, subHp, place, mp, mpL, mpO, mpG, e1, hfn, hhn, hny])) hz' (by omega)
          · skip
            have hq : (has (way.take z_) at_ || (k : Int) == at_) = false := by simpa using b6
            rw [if_neg (by rw [hq]; simp)] at hfn
            refine T_skip ?_
            refine X_blockN ?_
            refine T_then ?_
            refine T_region (is := [0, 1, 2]) rfl fun kn kp hn hp => ?_
            refine T_op rfl rfl fun kc hc => ?_
            simp; refine hc _ ?_; clear hc kc
            refine T_op rfl rfl fun kc hc => ?_
            simp [e1]; refine hc _ ?_; clear hc kc
            refine T_op rfl rfl fun kc hc => ?_
            simp; refine hc _ ?_; clear hc kc
            refine T_end (hn _ ?_); clear hn hp kn kp
            exact X_loopN (z_ + 1) (Ent.sub [1, 4, 5, 8, 9, 10] [0, 1] (by simp [sub, subSl, subHp, place, mp, mpL, mpO, mpG, e1, hfn, hhn])) hz' (by omega)
        · skip
          have hz' : z_ = way.length := by simp at b5; omega
          subst hz'
          have hfe := fromT_end hhas
          have hfl : (fromA at_ way).length ≤ way.length := by simp [fromA]
          have hlb : (fromA at_ way).length ≤ big := by simp only [big]; omega
          refine T_exit ?_
          refine X_thenE ?_
          refine X_loopE ?_
          refine X_hit ?_
          refine T_then ?_
          refine T_seq ?_
          refine T_region (is := [0, 1]) rfl fun kn kp hn hp => ?_
          refine T_op rfl rfl fun kc hc => ?_
          simp; refine hc _ ?_; clear hc kc
          refine T_op rfl rfl fun kc hc => ?_
          simp; refine hc _ ?_; clear hc kc
          refine T_end (hn _ ?_); clear hn hp kn kp
          refine T_then ?_
          refine T_ret ?_
          exact finI (Ent.give (t := 2) (n := 9) (e := ints ((fromA at_ way).map (numAt c))) (hp' := [(0, .var ((catD c).map .dat))]) rfl (by simp [Sx.give, hlb, hfe])) (by simp [resD, resL, resV]; rfl) (Ent.sub [] [] (by simp [sub, subSl, subHp, place, mp, mpL, mpO, mpG]; rfl)) rfl rfl (by simp [hcy])
-- END

end Go.Proofs.Ytbkkekbeaabokaa
