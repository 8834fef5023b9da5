/- The terms: what the functions of the two packages do. Part a: the small ones. -/
import Derived.Test.YtehboominkoldaaInfo
import Derived.Test.YtehboominkoldaaSxO
import Derived.IntWalk
set_option linter.unusedVariables false
set_option linter.unusedSimpArgs false
namespace Go.Proofs.Ytehboominkoldaa
open Go Go.Proofs.Ytehboominkoldaa.Sx

abbrev iD (n : Int) : Dat := .val (.int .i64 n)
abbrev bV (b : Bool) : Dat := .val (.bool b)
abbrev Sp := Int × Int
abbrev spD (p : Sp) : List Dat := [iD p.1, iD p.2]
abbrev spans (l : List Sp) : Dat := .sl 2 (l.map spD)
def bnd : List Sp → List Int
  | [] => []
  | p :: r => p.1 :: p.2 :: bnd r
theorem bnd_len : ∀ l, (bnd l).length = 2 * l.length
  | [] => rfl
  | _ :: r => by simp [bnd, bnd_len r]; omega
theorem bnd_append : ∀ l m, bnd (l ++ m) = bnd l ++ bnd m
  | [], _ => rfl
  | _ :: r, m => by simp [bnd, bnd_append r m]
theorem take_next {α : Type} {l : List α} {z : Nat} {x : α} (h : l[z]? = some x) : l.take (z + 1) = l.take z ++ [x] := by
  rw [List.take_add_one, h]; rfl
theorem drop_next {α : Type} {l : List α} {z : Nat} {x : α} (h : l[z]? = some x) : l.drop z = x :: l.drop (z + 1) := by
  obtain ⟨hz, rfl⟩ := List.getElem?_eq_some_iff.1 h
  exact List.drop_eq_getElem_cons hz
/-- A span that may not follow one that ended at 'last'. -/
def badSp (last : Int) (p : Sp) : Bool := decide (p.1 ≤ last) || decide (p.1 < 0) || decide (p.2 ≤ p.1) || decide (1024 < p.2)
def chk (last : Int) : List Sp → Bool
  | [] => true
  | p :: r => !badSp last p && chk p.2 r
def errOf (l : List Sp) : Int := if chk (-1) l then 0 else 60
def idxAt (q : Sp → Bool) (z : Nat) : List Sp → Int
  | [] => -1
  | p :: r => if q p then z else idxAt q (z + 1) r
def idx (q : Sp → Bool) (l : List Sp) : Int := idxAt q 0 l
theorem idxAt_any (q : Sp → Bool) : ∀ (l : List Sp) (z : Nat), decide (0 ≤ idxAt q z l) = l.any q
  | [], z => by simp [idxAt]
  | p :: r, z => by
    by_cases h : q p = true
    · simp [idxAt, h]
    · simp [idxAt, h, idxAt_any q r (z + 1)]
theorem idx_any (q : Sp → Bool) (l : List Sp) : decide (0 ≤ idx q l) = l.any q := idxAt_any q l 0
def inSp (t : Int) (p : Sp) : Bool := decide (p.1 ≤ t) && decide (t < p.2)
/-- The sum of the sizes. -/
def sumOf : List Sp → Int
  | [] => 0
  | p :: r => (p.2 - p.1) + sumOf r
def cntOf (l : List Sp) : Int := if chk (-1) l then sumOf l else 0
/-- A valid list, summed up to its z-th span. -/
structure Part (l : List Sp) (z : Nat) (acc last : Int) : Prop where
  sum : sumOf l = acc + sumOf (l.drop z)
  valid : chk last (l.drop z) = true
  b : 0 ≤ acc ∧ acc ≤ last + 1 ∧ last ≤ 1024
theorem Part.start {l : List Sp} (h : chk (-1) l = true) : Part l 0 0 (-1) := ⟨by simp, h, by omega⟩
theorem Part.step {l : List Sp} {z : Nat} {acc last : Int} {x : Sp} (h : Part l z acc last) (hx : l[z]? = some x) : 0 ≤ acc ∧ acc ≤ last + 1 ∧ last < x.1 ∧ 0 ≤ x.1 ∧ x.1 < x.2 ∧ x.2 ≤ 1024 := by
  have := h.valid
  rw [drop_next hx] at this
  simp [chk, badSp] at this
  have := h.b
  omega
theorem Part.next {l : List Sp} {z : Nat} {acc last : Int} {x : Sp} (h : Part l z acc last) (hx : l[z]? = some x) : Part l (z + 1) (acc + (x.2 - x.1)) x.2 := by
  have hb := h.step hx
  have hv := h.valid
  have hs := h.sum
  rw [drop_next hx] at hv hs
  simp only [chk, Bool.and_eq_true] at hv
  simp only [sumOf] at hs
  exact ⟨by omega, hv.2, by omega⟩
theorem Part.end {l : List Sp} {acc last : Int} (h : Part l l.length acc last) : sumOf l = acc := by
  have := h.sum
  simpa [sumOf] using this
theorem bad_ref {z : Nat} {last : Int} {x y : Sp} (h0 : z = 0 → last = -1) (h1 : 0 < z → last = y.2) : (!decide (0 ≤ x.1) || !decide (x.1 < x.2) || !decide (x.2 ≤ 1024) || decide (0 < z) && decide (x.1 ≤ y.2)) = badSp last x := by
  rw [Bool.eq_iff_iff]
  simp only [badSp, Bool.or_eq_true, Bool.and_eq_true, Bool.not_eq_true', decide_eq_true_eq, Bool.and_eq_false_iff, decide_eq_false_iff_not]
  by_cases h : z = 0
  · have := h0 h; omega
  · have := h1 (by omega); omega
abbrev ints (l : List Int) : List (List Dat) := l.map fun n => [iD n]

-- WALKS (printed by skel.py)
-- sizar/terms.Has$1
theorem walk28 (f t term : Int) : Does Try.prog 28 [.agg [iD f, iD t], .ref [iD term]] (.dat (bV (decide (f ≤ term) && decide (term < t)))) [] := by
  refine Does.intro [3] Try.func28 rfl (by kernel_rfl) Try.ntmps28 rfl (by decide) (Nat.le_of_ble_eq_true rfl) ?_
  refine T_seq ?_
  -- region 0
  refine T_region (is := [0, 1]) rfl fun n p hn hp => ?_
  refine T_op rfl rfl fun c hc => ?_  -- 2 := box 35 t0
  simp; refine hc _ ?_; clear hc c
  refine T_op rfl rfl fun c hc => ?_  -- 3 := assign false
  simp; refine hc _ ?_; clear hc c
  refine T_end (hn _ ?_); clear hn hp n p
  refine T_then ?_
  refine T_seq ?_
  -- region 1
  refine T_region (is := [0, 1, 2, 3, 4, 5, 6, 7, 8, 9, 10]) rfl fun n p hn hp => ?_
  refine T_op rfl rfl fun c hc => ?_  -- 4 := fieldAddr 35 t2 0
  simp; refine hc _ ?_; clear hc c
  refine T_op rfl rfl fun c hc => ?_  -- 5 := load 3 t4
  simp; refine hc _ ?_; clear hc c
  refine T_op rfl rfl fun c hc => ?_  -- 6 := load 3 t1
  simp; refine hc _ ?_; clear hc c
  refine T_op rfl rfl fun c hc => ?_  -- 7 := binOp 3 t5 <= t6
  simp; refine hc _ ?_; clear hc c
  refine T_op rfl rfl fun c hc => ?_  -- 8 := move t7
  simp; refine hc _ ?_; clear hc c
  refine T_pure rfl (pstep_one rfl rfl rfl rfl fun g0 => .op rfl (by simp [g0]; rfl)) fun c hc => ?_  -- 9 := load 3 t1
  simp; refine hc _ ?_; clear hc c
  refine T_pure rfl (pstep_one rfl rfl rfl rfl fun g0 => .op rfl (by simp [g0]; rfl)) fun c hc => ?_  -- 10 := fieldAddr 35 t2 1
  simp; refine hc _ ?_; clear hc c
  refine T_pure rfl (pstep_one rfl rfl rfl rfl fun g0 => .op rfl (by simp [g0]; rfl)) fun c hc => ?_  -- 11 := load 3 t10
  simp; refine hc _ ?_; clear hc c
  refine T_pure rfl (pstep_one rfl rfl rfl rfl fun g0 => .op rfl (by simp [g0]; rfl)) fun c hc => ?_  -- 12 := binOp 3 t9 < t11
  simp; refine hc _ ?_; clear hc c
  refine T_op rfl rfl fun c hc => ?_  -- 13 := pick t8 t12 false
  simp; refine hc _ ?_; clear hc c
  refine T_op rfl rfl fun c hc => ?_  -- 3 := assign t13
  simp; refine hc _ ?_; clear hc c
  refine T_end (hn _ ?_); clear hn hp n p
  refine T_then ?_
  refine T_ret ?_
  exact ⟨_, Ent.sub [3] [] (by simp [sub, subSl, subHp, place, mp, mpL, mpO]; rfl), rfl, rfl, by simp [resD, resL]; try omega⟩
-- sizar/sizarref06.IsSpan
theorem walk26 (f t : Int) : Does Try.prog 26 [.agg [iD f, iD t]] (.dat (bV (decide (0 ≤ f) && decide (f < t) && decide (t ≤ 1024)))) [] := by
  refine Does.intro [2] Try.func26 rfl (by kernel_rfl) Try.ntmps26 rfl (by decide) (Nat.le_of_ble_eq_true rfl) ?_
  refine T_seq ?_
  -- region 0
  refine T_region (is := [0, 1]) rfl fun n p hn hp => ?_
  refine T_op rfl rfl fun c hc => ?_  -- 1 := box 35 t0
  simp; refine hc _ ?_; clear hc c
  refine T_op rfl rfl fun c hc => ?_  -- 2 := assign false
  simp; refine hc _ ?_; clear hc c
  refine T_end (hn _ ?_); clear hn hp n p
  refine T_then ?_
  refine T_seq ?_
  -- region 1
  refine T_region (is := [0, 1, 2, 3, 4, 5, 6, 7, 8, 9, 10, 11, 12, 13, 14, 15]) rfl fun n p hn hp => ?_
  refine T_op rfl rfl fun c hc => ?_  -- 3 := fieldAddr 35 t1 0
  simp; refine hc _ ?_; clear hc c
  refine T_op rfl rfl fun c hc => ?_  -- 4 := load 3 t3
  simp; refine hc _ ?_; clear hc c
  refine T_op rfl rfl fun c hc => ?_  -- 5 := binOp 3 t4 >= 0
  simp; refine hc _ ?_; clear hc c
  refine T_op rfl rfl fun c hc => ?_  -- 6 := move t5
  simp; refine hc _ ?_; clear hc c
  refine T_pure rfl (pstep_one rfl rfl rfl rfl fun g0 => .op rfl (by simp [g0]; rfl)) fun c hc => ?_  -- 7 := fieldAddr 35 t1 0
  simp; refine hc _ ?_; clear hc c
  refine T_pure rfl (pstep_one rfl rfl rfl rfl fun g0 => .op rfl (by simp [g0]; rfl)) fun c hc => ?_  -- 8 := load 3 t7
  simp; refine hc _ ?_; clear hc c
  refine T_pure rfl (pstep_one rfl rfl rfl rfl fun g0 => .op rfl (by simp [g0]; rfl)) fun c hc => ?_  -- 9 := fieldAddr 35 t1 1
  simp; refine hc _ ?_; clear hc c
  refine T_pure rfl (pstep_one rfl rfl rfl rfl fun g0 => .op rfl (by simp [g0]; rfl)) fun c hc => ?_  -- 10 := load 3 t9
  simp; refine hc _ ?_; clear hc c
  refine T_pure rfl (pstep_one rfl rfl rfl rfl fun g0 => .op rfl (by simp [g0]; rfl)) fun c hc => ?_  -- 11 := binOp 3 t8 < t10
  simp; refine hc _ ?_; clear hc c
  refine T_op rfl rfl fun c hc => ?_  -- 12 := pick t6 t11 false
  simp; refine hc _ ?_; clear hc c
  refine T_op rfl rfl fun c hc => ?_  -- 13 := move t12
  simp; refine hc _ ?_; clear hc c
  refine T_pure rfl (pstep_one rfl rfl rfl rfl fun g0 => .op rfl (by simp [g0]; rfl)) fun c hc => ?_  -- 14 := fieldAddr 35 t1 1
  simp; refine hc _ ?_; clear hc c
  refine T_pure rfl (pstep_one rfl rfl rfl rfl fun g0 => .op rfl (by simp [g0]; rfl)) fun c hc => ?_  -- 15 := load 3 t14
  simp; refine hc _ ?_; clear hc c
  refine T_pure rfl (pstep_one rfl rfl rfl rfl fun g0 => .op rfl (by simp [g0]; rfl)) fun c hc => ?_  -- 16 := binOp 3 t15 <= 1024
  simp; refine hc _ ?_; clear hc c
  refine T_op rfl rfl fun c hc => ?_  -- 17 := pick t13 t16 false
  simp; refine hc _ ?_; clear hc c
  refine T_op rfl rfl fun c hc => ?_  -- 2 := assign t17
  simp; refine hc _ ?_; clear hc c
  refine T_end (hn _ ?_); clear hn hp n p
  refine T_then ?_
  refine T_ret ?_
  exact ⟨_, Ent.sub [2] [] (by simp [sub, subSl, subHp, place, mp, mpL, mpO]; rfl), rfl, rfl, by simp [resD, resL]; try omega⟩
-- sizar/terms.boundaries
theorem walk36 (l : List Sp) (hl : l.length ≤ 4096) : Does Try.prog 36 [spans l] (.dat (.sl 1 (ints (bnd l)))) [] := by
  refine Does.intro [2] Try.func36 rfl (by kernel_rfl) Try.ntmps36 rfl (by decide) (Nat.le_of_ble_eq_true rfl) ?_
  refine T_seq ?_
  -- region 0
  refine T_region (is := [0]) rfl fun n p hn hp => ?_
  refine T_op rfl rfl fun c hc => ?_  -- 2 := assign nil
  simp; refine hc _ ?_; clear hc c
  refine T_end (hn _ ?_); clear hn hp n p
  refine T_then ?_
  refine T_seq ?_
  refine T_seq ?_
  -- region 1
  refine T_region (is := [0, 1, 2]) rfl fun n p hn hp => ?_
  refine T_op rfl rfl fun c hc => ?_  -- 5 := move t0
  simp; refine hc _ ?_; clear hc c
  refine T_op rfl rfl fun c hc => ?_  -- 6 := call len (t5) [22]
  simp; refine hc _ ?_; clear hc c
  refine T_op rfl rfl fun c hc => ?_  -- 7 := move 0
  simp; refine hc _ ?_; clear hc c
  refine T_end (hn _ ?_); clear hn hp n p
  refine T_then ?_
  refine T_block ?_  -- block 0
  refine T_loop (fun z : Nat => { sl := [(5, .dat (spans l)), (6, .dat (iD l.length)), (7, .dat (iD z)), (2, .own 0 1 (2 * z))], hp := [(0, .row 3 1 (ints (bnd (l.take z))))], nx := 1 }) (fun z => z ≤ l.length) (fun z => l.length - z) 0 (Ent.trans (Ent.nil (t := 2) 3 1 rfl) (Ent.sub [5, 6, 7, 2] [0] (by simp [sub, subSl, subHp, place, mp, mpO, bnd]))) (Nat.zero_le _) fun z hz => ?_  -- loop 0
  refine T_seq ?_
  -- region 2
  refine T_region (is := [0]) rfl fun n p hn hp => ?_
  refine T_op rfl rfl fun c hc => ?_  -- 8 := binOp 3 t7 < t6
  simp; refine hc _ ?_; clear hc c
  refine T_end (hn _ ?_); clear hn hp n p
  refine T_then ?_
  refine T_seq ?_
  refine T_cond rfl (fun b1 => ?_) (fun b1 => ?_)  -- t8
  · skip
    have hz' : z < l.length := by simpa using b1
    obtain ⟨x, hx⟩ : ∃ x, l[z]? = some x := ⟨_, List.getElem?_eq_getElem hz'⟩
    have e1 : IntKind.i64.wrap ((z : Int) + 1) = ((z + 1 : Nat) : Int) := by rw [wr (by omega)]; rfl
    have e2 : (bnd (l.take z)).length = 2 * z := by rw [bnd_len, List.length_take]; omega
    have e3 : (2 * z + 2) * 8 ≤ big := by simp only [big]; omega
    refine T_skip ?_
    refine T_then ?_
    refine T_seq ?_
    refine T_block ?_  -- block 1
    refine T_seq ?_
    -- region 3
    refine T_region (is := [0, 1, 2, 3]) rfl fun n p hn hp => ?_
    refine T_op rfl rfl fun c hc => ?_  -- 9 := indexAddr 22 t5 t7
    simp [hx]; refine hc _ ?_; clear hc c
    refine T_op rfl rfl fun c hc => ?_  -- 10 := load 35 t9
    simp; refine hc _ ?_; clear hc c
    refine T_op rfl rfl fun c hc => ?_  -- 4 := alloc 35
    simp; refine hc _ ?_; clear hc c
    refine T_op rfl rfl fun c hc => ?_  -- None := store 35 t4 t10
    simp; refine hc _ ?_; clear hc c
    refine T_end (hn _ ?_); clear hn hp n p
    refine T_then ?_
    -- region 4
    refine T_region (is := [0, 1, 2, 3, 4, 5, 6, 7]) rfl fun n p hn hp => ?_
    refine T_op rfl rfl fun c hc => ?_  -- 11 := move t2
    simp; refine hc _ ?_; clear hc c
    refine T_op rfl rfl fun c hc => ?_  -- 12 := fieldAddr 35 t4 0
    simp; refine hc _ ?_; clear hc c
    refine T_op rfl rfl fun c hc => ?_  -- 13 := load 3 t12
    simp; refine hc _ ?_; clear hc c
    refine T_op rfl rfl fun c hc => ?_  -- 14 := fieldAddr 35 t4 1
    simp; refine hc _ ?_; clear hc c
    refine T_op rfl rfl fun c hc => ?_  -- 15 := load 3 t14
    simp; refine hc _ ?_; clear hc c
    refine T_op rfl rfl fun c hc => ?_  -- 16 := buildSlice 43 2 [(0, t13), (1, t15)]
    simp; refine hc _ ?_; clear hc c
    refine T_op rfl rfl fun c hc => ?_  -- 17 := call append (t11 t16) [43, 43]
    simp [e2, e3]; refine hc _ ?_; clear hc c
    refine T_op rfl rfl fun c hc => ?_  -- 2 := assign t17
    simp; refine hc _ ?_; clear hc c
    refine T_end (hn _ ?_); clear hn hp n p
    refine X_blockN ?_
    refine T_then ?_
    -- region 5
    refine T_region (is := [0, 1]) rfl fun n p hn hp => ?_
    refine T_op rfl rfl fun c hc => ?_  -- 18 := binOp 3 t7 + 1
    simp; refine hc _ ?_; clear hc c
    refine T_op rfl rfl fun c hc => ?_  -- 7 := move t18
    simp; refine hc _ ?_; clear hc c
    refine T_end (hn _ ?_); clear hn hp n p
    exact X_loopN (z + 1) (Ent.sub [5, 6, 7, 2] [3] (by simp [sub, subSl, subHp, place, mp, mpL, mpO, e1, take_next hx, bnd_append, bnd, Nat.mul_add])) hz' (by omega)
  · skip
    have hz' : z = l.length := by simp at b1; omega
    subst hz'
    refine T_exit ?_
    refine X_thenE ?_
    refine X_loopE ?_
    refine X_hit ?_
    refine T_then ?_
    refine T_seq ?_
    -- region 6
    refine T_region (is := [0, 1]) rfl fun n p hn hp => ?_
    refine T_op rfl rfl fun c hc => ?_  -- 19 := move t2
    simp; refine hc _ ?_; clear hc c
    refine T_op rfl rfl fun c hc => ?_  -- 2 := assign t19
    simp; refine hc _ ?_; clear hc c
    refine T_end (hn _ ?_); clear hn hp n p
    refine T_then ?_
    refine T_ret ?_
    have e2 : (bnd l).length = 2 * l.length := bnd_len l
    have e3 : 2 * l.length ≤ big := by simp only [big]; omega
    exact ⟨_, Ent.trans (Ent.give (t := 2) (n := 9) (e := .sl 1 (ints (bnd l))) (hp' := []) rfl (by simp [Sx.give, e2, e3]; exact List.take_of_length_le (by simp [e2]))) (Ent.sub [2] [] (by simp [sub, subSl, subHp, place, mp, mpO]; rfl)), rfl, rfl, by simp [resD]⟩
-- sizar/terms.Check
theorem walk14 (l : List Sp) (hl : l.length ≤ 1000000) : Does Try.prog 14 [spans l] (.dat (iD (errOf l))) [] := by
  refine Does.intro [2] Try.func14 rfl (by kernel_rfl) Try.ntmps14 rfl (by decide) (Nat.le_of_ble_eq_true rfl) ?_
  refine T_seq ?_
  -- region 0
  refine T_region (is := [0]) rfl fun n p hn hp => ?_
  refine T_op rfl rfl fun c hc => ?_  -- 2 := assign 0
  simp; refine hc _ ?_; clear hc c
  refine T_end (hn _ ?_); clear hn hp n p
  refine T_then ?_
  refine T_seq ?_
  -- region 1
  refine T_region (is := [0]) rfl fun n p hn hp => ?_
  refine T_op rfl rfl fun c hc => ?_  -- 3 := assign -1
  simp; refine hc _ ?_; clear hc c
  refine T_end (hn _ ?_); clear hn hp n p
  refine T_then ?_
  refine T_seq ?_
  refine T_seq ?_
  -- region 2
  refine T_region (is := [0, 1, 2]) rfl fun n p hn hp => ?_
  refine T_op rfl rfl fun c hc => ?_  -- 6 := move t0
  simp; refine hc _ ?_; clear hc c
  refine T_op rfl rfl fun c hc => ?_  -- 7 := call len (t6) [22]
  simp; refine hc _ ?_; clear hc c
  refine T_op rfl rfl fun c hc => ?_  -- 8 := move 0
  simp; refine hc _ ?_; clear hc c
  refine T_end (hn _ ?_); clear hn hp n p
  refine T_then ?_
  refine T_block ?_  -- block 0
  refine T_loop (fun z : Nat × Int => { sl := [(6, .dat (spans l)), (7, .dat (iD l.length)), (8, .dat (iD z.1)), (3, .dat (iD z.2))], hp := [], nx := 0 }) (fun z => z.1 ≤ l.length ∧ chk (-1) l = chk z.2 (l.drop z.1)) (fun z => l.length - z.1) (0, -1) (Ent.sub [6, 7, 8, 3] [] (by simp [sub, subSl, subHp, place, mp, mpL, mpO])) ⟨Nat.zero_le _, rfl⟩ fun z hz => ?_  -- loop 0
  obtain ⟨z, last⟩ := z
  obtain ⟨hz, hk⟩ := hz
  simp only at hz hk
  refine T_seq ?_
  -- region 3
  refine T_region (is := [0]) rfl fun n p hn hp => ?_
  refine T_op rfl rfl fun c hc => ?_  -- 9 := binOp 3 t8 < t7
  simp; refine hc _ ?_; clear hc c
  refine T_end (hn _ ?_); clear hn hp n p
  refine T_then ?_
  refine T_seq ?_
  refine T_cond rfl (fun b1 => ?_) (fun b1 => ?_)  -- t9
  · skip
    have hz' : z < l.length := by simpa using b1
    obtain ⟨x, hx⟩ : ∃ x, l[z]? = some x := ⟨_, List.getElem?_eq_getElem hz'⟩
    have e1 : IntKind.i64.wrap ((z : Int) + 1) = ((z + 1 : Nat) : Int) := by rw [wr (by omega)]; rfl
    refine T_skip ?_
    refine T_then ?_
    refine T_seq ?_
    refine T_block ?_  -- block 1
    refine T_seq ?_
    -- region 4
    refine T_region (is := [0, 1, 2, 3]) rfl fun n p hn hp => ?_
    refine T_op rfl rfl fun c hc => ?_  -- 10 := indexAddr 22 t6 t8
    simp [hx]; refine hc _ ?_; clear hc c
    refine T_op rfl rfl fun c hc => ?_  -- 11 := load 35 t10
    simp; refine hc _ ?_; clear hc c
    refine T_op rfl rfl fun c hc => ?_  -- 5 := alloc 35
    simp; refine hc _ ?_; clear hc c
    refine T_op rfl rfl fun c hc => ?_  -- None := store 35 t5 t11
    simp; refine hc _ ?_; clear hc c
    refine T_end (hn _ ?_); clear hn hp n p
    refine T_then ?_
    refine T_seq ?_
    refine T_seq ?_
    -- region 5
    refine T_region (is := [0, 1, 2, 3, 4, 5, 6, 7, 8, 9, 10, 11, 12, 13, 14, 15, 16, 17, 18, 19, 20]) rfl fun n p hn hp => ?_
    refine T_op rfl rfl fun c hc => ?_  -- 12 := fieldAddr 35 t5 0
    simp; refine hc _ ?_; clear hc c
    refine T_op rfl rfl fun c hc => ?_  -- 13 := load 3 t12
    simp; refine hc _ ?_; clear hc c
    refine T_op rfl rfl fun c hc => ?_  -- 14 := move t3
    simp; refine hc _ ?_; clear hc c
    refine T_op rfl rfl fun c hc => ?_  -- 15 := binOp 3 t13 <= t14
    simp; refine hc _ ?_; clear hc c
    refine T_op rfl rfl fun c hc => ?_  -- 16 := move t15
    simp; refine hc _ ?_; clear hc c
    refine T_pure rfl (pstep_one rfl rfl rfl rfl fun g0 => .op rfl (by simp [g0]; rfl)) fun c hc => ?_  -- 17 := fieldAddr 35 t5 0
    simp; refine hc _ ?_; clear hc c
    refine T_pure rfl (pstep_one rfl rfl rfl rfl fun g0 => .op rfl (by simp [g0]; rfl)) fun c hc => ?_  -- 18 := load 3 t17
    simp; refine hc _ ?_; clear hc c
    refine T_pure rfl (pstep_one rfl rfl rfl rfl fun g0 => .op rfl (by simp [g0]; rfl)) fun c hc => ?_  -- 19 := binOp 3 t18 < 0
    simp; refine hc _ ?_; clear hc c
    refine T_op rfl rfl fun c hc => ?_  -- 20 := pick t16 true t19
    simp; refine hc _ ?_; clear hc c
    refine T_op rfl rfl fun c hc => ?_  -- 21 := move t20
    simp; refine hc _ ?_; clear hc c
    refine T_pure rfl (pstep_one rfl rfl rfl rfl fun g0 => .op rfl (by simp [g0]; rfl)) fun c hc => ?_  -- 22 := fieldAddr 35 t5 0
    simp; refine hc _ ?_; clear hc c
    refine T_pure rfl (pstep_one rfl rfl rfl rfl fun g0 => .op rfl (by simp [g0]; rfl)) fun c hc => ?_  -- 23 := load 3 t22
    simp; refine hc _ ?_; clear hc c
    refine T_pure rfl (pstep_one rfl rfl rfl rfl fun g0 => .op rfl (by simp [g0]; rfl)) fun c hc => ?_  -- 24 := fieldAddr 35 t5 1
    simp; refine hc _ ?_; clear hc c
    refine T_pure rfl (pstep_one rfl rfl rfl rfl fun g0 => .op rfl (by simp [g0]; rfl)) fun c hc => ?_  -- 25 := load 3 t24
    simp; refine hc _ ?_; clear hc c
    refine T_pure rfl (pstep_one rfl rfl rfl rfl fun g0 => .op rfl (by simp [g0]; rfl)) fun c hc => ?_  -- 26 := binOp 3 t23 >= t25
    simp; refine hc _ ?_; clear hc c
    refine T_op rfl rfl fun c hc => ?_  -- 27 := pick t21 true t26
    simp; refine hc _ ?_; clear hc c
    refine T_op rfl rfl fun c hc => ?_  -- 28 := move t27
    simp; refine hc _ ?_; clear hc c
    refine T_pure rfl (pstep_one rfl rfl rfl rfl fun g0 => .op rfl (by simp [g0]; rfl)) fun c hc => ?_  -- 29 := fieldAddr 35 t5 1
    simp; refine hc _ ?_; clear hc c
    refine T_pure rfl (pstep_one rfl rfl rfl rfl fun g0 => .op rfl (by simp [g0]; rfl)) fun c hc => ?_  -- 30 := load 3 t29
    simp; refine hc _ ?_; clear hc c
    refine T_pure rfl (pstep_one rfl rfl rfl rfl fun g0 => .op rfl (by simp [g0]; rfl)) fun c hc => ?_  -- 31 := binOp 3 t30 > 1024
    simp; refine hc _ ?_; clear hc c
    refine T_op rfl rfl fun c hc => ?_  -- 32 := pick t28 true t31
    simp; refine hc _ ?_; clear hc c
    refine T_end (hn _ ?_); clear hn hp n p
    refine T_then ?_
    refine T_cond rfl (fun b2 => ?_) (fun b2 => ?_)  -- t32
    · skip
      have hbad : chk (-1) l = false := by rw [hk, drop_next hx]; simp [chk, show badSp last x = true from b2]
      refine T_seq ?_
      -- region 6
      refine T_region (is := [0]) rfl fun n p hn hp => ?_
      refine T_op rfl rfl fun c hc => ?_  -- 2 := assign 60
      simp; refine hc _ ?_; clear hc c
      refine T_end (hn _ ?_); clear hn hp n p
      refine T_then ?_
      refine T_ret ?_
      refine X_thenR ?_
      refine X_blockR ?_
      refine X_thenR ?_
      refine X_loopR ?_
      refine X_blockR ?_
      refine X_thenR ?_
      exact ⟨_, Ent.sub [2] [] (by simp [sub, subSl, subHp, place, mp, mpL, mpO]; rfl), rfl, rfl, by simp [resD, resL, errOf, hbad]; try omega⟩
    · skip
      have hnext : chk (-1) l = chk x.2 (l.drop (z + 1)) := by rw [hk, drop_next hx]; simp [chk, show badSp last x = false from b2]
      refine T_skip ?_
      refine T_then ?_
      -- region 7
      refine T_region (is := [0, 1, 2]) rfl fun n p hn hp => ?_
      refine T_op rfl rfl fun c hc => ?_  -- 33 := fieldAddr 35 t5 1
      simp; refine hc _ ?_; clear hc c
      refine T_op rfl rfl fun c hc => ?_  -- 34 := load 3 t33
      simp; refine hc _ ?_; clear hc c
      refine T_op rfl rfl fun c hc => ?_  -- 3 := assign t34
      simp; refine hc _ ?_; clear hc c
      refine T_end (hn _ ?_); clear hn hp n p
      refine X_blockN ?_
      refine T_then ?_
      -- region 8
      refine T_region (is := [0, 1]) rfl fun n p hn hp => ?_
      refine T_op rfl rfl fun c hc => ?_  -- 35 := binOp 3 t8 + 1
      simp; refine hc _ ?_; clear hc c
      refine T_op rfl rfl fun c hc => ?_  -- 8 := move t35
      simp; refine hc _ ?_; clear hc c
      refine T_end (hn _ ?_); clear hn hp n p
      exact X_loopN (z + 1, x.2) (Ent.sub [6, 7, 8, 3] [] (by simp [sub, subSl, subHp, place, mp, mpL, mpO, e1])) ⟨hz', hnext⟩ (by omega)
  · skip
    have hz' : z = l.length := by simp at b1; omega
    subst hz'
    have hend : chk (-1) l = true := by rw [hk]; simp [chk]
    refine T_exit ?_
    refine X_thenE ?_
    refine X_loopE ?_
    refine X_hit ?_
    refine T_then ?_
    refine T_seq ?_
    -- region 9
    refine T_region (is := [0]) rfl fun n p hn hp => ?_
    refine T_op rfl rfl fun c hc => ?_  -- 2 := assign 0
    simp; refine hc _ ?_; clear hc c
    refine T_end (hn _ ?_); clear hn hp n p
    refine T_then ?_
    refine T_ret ?_
    exact ⟨_, Ent.sub [2] [] (by simp [sub, subSl, subHp, place, mp, mpL, mpO]; rfl), rfl, rfl, by simp [resD, resL, errOf, hend]; try omega⟩
-- slices.IndexFunc[[]sizar/api.Span,sizar/api.Span]
theorem walk34 (l : List Sp) (hl : l.length ≤ 1000000) (g : FuncId) (cs : List Dat) (q : Sp → Bool) (hq : ∀ x ∈ l, Does Try.prog g (.agg (spD x) :: cs) (.dat (bV (q x))) []) : Does Try.prog 34 [spans l, .fn g cs] (.dat (iD (idx q l))) [] := by
  refine Does.intro [4] Try.func34 rfl (by kernel_rfl) Try.ntmps34 rfl (by decide) (Nat.le_of_ble_eq_true rfl) ?_
  refine T_seq ?_
  -- region 0
  refine T_region (is := [0]) rfl fun n p hn hp => ?_
  refine T_op rfl rfl fun c hc => ?_  -- 4 := assign 0
  simp; refine hc _ ?_; clear hc c
  refine T_end (hn _ ?_); clear hn hp n p
  refine T_then ?_
  refine T_seq ?_
  refine T_seq ?_
  -- region 1
  refine T_region (is := [0, 1, 2]) rfl fun n p hn hp => ?_
  refine T_op rfl rfl fun c hc => ?_  -- 6 := move t0
  simp; refine hc _ ?_; clear hc c
  refine T_op rfl rfl fun c hc => ?_  -- 7 := call len (t6) [22]
  simp; refine hc _ ?_; clear hc c
  refine T_op rfl rfl fun c hc => ?_  -- 8 := move 0
  simp; refine hc _ ?_; clear hc c
  refine T_end (hn _ ?_); clear hn hp n p
  refine T_then ?_
  refine T_block ?_  -- block 0
  refine T_loop (fun z : Nat => { sl := [(0, .dat (spans l)), (1, .dat (.fn g cs)), (6, .dat (spans l)), (7, .dat (iD l.length)), (8, .dat (iD z))], hp := [], nx := 0 }) (fun z => z ≤ l.length ∧ idx q l = idxAt q z (l.drop z)) (fun z => l.length - z) 0 (Ent.sub [0, 1, 6, 7, 8] [] (by simp [sub, subSl, subHp, place, mp, mpL, mpO])) ⟨Nat.zero_le _, rfl⟩ fun z hz => ?_  -- loop 0
  obtain ⟨hz, hk⟩ := hz
  refine T_seq ?_
  -- region 2
  refine T_region (is := [0]) rfl fun n p hn hp => ?_
  refine T_op rfl rfl fun c hc => ?_  -- 9 := binOp 3 t8 < t7
  simp; refine hc _ ?_; clear hc c
  refine T_end (hn _ ?_); clear hn hp n p
  refine T_then ?_
  refine T_seq ?_
  refine T_cond rfl (fun b1 => ?_) (fun b1 => ?_)  -- t9
  · skip
    have hz' : z < l.length := by simpa using b1
    obtain ⟨x, hx⟩ : ∃ x, l[z]? = some x := ⟨_, List.getElem?_eq_getElem hz'⟩
    have e1 : IntKind.i64.wrap ((z : Int) + 1) = ((z + 1 : Nat) : Int) := by rw [wr (by omega)]; rfl
    refine T_skip ?_
    refine T_then ?_
    refine T_seq ?_
    refine T_block ?_  -- block 1
    refine T_seq ?_
    -- region 3
    refine T_region (is := [0, 1]) rfl fun n p hn hp => ?_
    refine T_op rfl rfl fun c hc => ?_  -- 10 := move t8
    simp; refine hc _ ?_; clear hc c
    refine T_op rfl rfl fun c hc => ?_  -- 5 := assign t10
    simp; refine hc _ ?_; clear hc c
    refine T_end (hn _ ?_); clear hn hp n p
    refine T_then ?_
    refine T_seq ?_
    -- region 4
    refine T_region (is := [0, 1, 2, 3, 4, 5]) rfl fun n p hn hp => ?_
    refine T_op rfl rfl fun c hc => ?_  -- 11 := move t1
    simp; refine hc _ ?_; clear hc c
    refine T_op rfl rfl fun c hc => ?_  -- 12 := move t0
    simp; refine hc _ ?_; clear hc c
    refine T_op rfl rfl fun c hc => ?_  -- 13 := move t5
    simp; refine hc _ ?_; clear hc c
    refine T_op rfl rfl fun c hc => ?_  -- 14 := indexAddr 22 t12 t13
    simp [hx]; refine hc _ ?_; clear hc c
    refine T_op rfl rfl fun c hc => ?_  -- 15 := load 35 t14
    simp; refine hc _ ?_; clear hc c
    refine T_op rfl rfl fun c hc => ?_  -- 16 := call value t11 (t15) [35]
    simp
    refine CallS.dat (hq x (List.mem_of_getElem? hx)) (by simp [datL, datOf, datL_map]) rfl rfl rfl ?_
    simp [enum]; refine hc _ ?_; clear hc c
    refine T_end (hn _ ?_); clear hn hp n p
    refine T_then ?_
    refine T_cond rfl (fun b2 => ?_) (fun b2 => ?_)  -- t16
    · skip
      have hat : idx q l = z := by rw [hk, drop_next hx]; simp [idxAt, show q x = true from b2]
      refine T_seq ?_
      -- region 5
      refine T_region (is := [0, 1]) rfl fun n p hn hp => ?_
      refine T_op rfl rfl fun c hc => ?_  -- 17 := move t5
      simp; refine hc _ ?_; clear hc c
      refine T_op rfl rfl fun c hc => ?_  -- 4 := assign t17
      simp; refine hc _ ?_; clear hc c
      refine T_end (hn _ ?_); clear hn hp n p
      refine T_then ?_
      refine T_ret ?_
      refine X_blockR ?_
      refine X_thenR ?_
      refine X_loopR ?_
      refine X_blockR ?_
      refine X_thenR ?_
      exact ⟨_, Ent.sub [4] [] (by simp [sub, subSl, subHp, place, mp, mpL, mpO]; rfl), rfl, rfl, by simp [resD, resL, hat]; try omega⟩
    · skip
      have B2 : q x = false := b2
      refine T_skip ?_
      refine X_blockN ?_
      refine T_then ?_
      -- region 6
      refine T_region (is := [0, 1]) rfl fun n p hn hp => ?_
      refine T_op rfl rfl fun c hc => ?_  -- 18 := binOp 3 t8 + 1
      simp; refine hc _ ?_; clear hc c
      refine T_op rfl rfl fun c hc => ?_  -- 8 := move t18
      simp; refine hc _ ?_; clear hc c
      refine T_end (hn _ ?_); clear hn hp n p
      exact X_loopN (z + 1) (Ent.sub [0, 1, 6, 7, 8] [] (by simp [sub, subSl, subHp, place, mp, mpL, mpO, e1])) ⟨hz', by rw [hk, drop_next hx]; simp [idxAt, B2]⟩ (by omega)
  · skip
    have hz' : z = l.length := by simp at b1; omega
    subst hz'
    have hend : idx q l = -1 := by rw [hk]; simp [idxAt]
    refine T_exit ?_
    refine X_thenE ?_
    refine X_loopE ?_
    refine X_hit ?_
    refine T_then ?_
    refine T_seq ?_
    -- region 7
    refine T_region (is := [0]) rfl fun n p hn hp => ?_
    refine T_op rfl rfl fun c hc => ?_  -- 4 := assign -1
    simp; refine hc _ ?_; clear hc c
    refine T_end (hn _ ?_); clear hn hp n p
    refine T_then ?_
    refine T_ret ?_
    exact ⟨_, Ent.sub [4] [] (by simp [sub, subSl, subHp, place, mp, mpL, mpO]; rfl), rfl, rfl, by simp [resD, resL, hend]; try omega⟩
-- slices.ContainsFunc[[]sizar/api.Span,sizar/api.Span]
theorem walk27 (l : List Sp) (hl : l.length ≤ 1000000) (g : FuncId) (cs : List Dat) (q : Sp → Bool) (hq : ∀ x ∈ l, Does Try.prog g (.agg (spD x) :: cs) (.dat (bV (q x))) []) : Does Try.prog 27 [spans l, .fn g cs] (.dat (bV (l.any q))) [] := by
  refine Does.intro [4] Try.func27 rfl (by kernel_rfl) Try.ntmps27 rfl (by decide) (Nat.le_of_ble_eq_true rfl) ?_
  refine T_seq ?_
  -- region 0
  refine T_region (is := [0]) rfl fun n p hn hp => ?_
  refine T_op rfl rfl fun c hc => ?_  -- 4 := assign false
  simp; refine hc _ ?_; clear hc c
  refine T_end (hn _ ?_); clear hn hp n p
  refine T_then ?_
  refine T_seq ?_
  -- region 1
  refine T_region (is := [0, 1, 2, 3, 4]) rfl fun n p hn hp => ?_
  refine T_op rfl rfl fun c hc => ?_  -- 5 := move t0
  simp; refine hc _ ?_; clear hc c
  refine T_op rfl rfl fun c hc => ?_  -- 6 := move t1
  simp; refine hc _ ?_; clear hc c
  refine T_op rfl rfl fun c hc => ?_  -- 7 := call value F34 (t5 t6) [22, 37]
  simp
  refine CallS.dat (walk34 l hl g cs q hq) rfl rfl rfl rfl ?_
  simp [enum]; refine hc _ ?_; clear hc c
  refine T_op rfl rfl fun c hc => ?_  -- 8 := binOp 3 t7 >= 0
  simp; refine hc _ ?_; clear hc c
  refine T_op rfl rfl fun c hc => ?_  -- 4 := assign t8
  simp; refine hc _ ?_; clear hc c
  refine T_end (hn _ ?_); clear hn hp n p
  refine T_then ?_
  refine T_ret ?_
  exact ⟨_, Ent.sub [4] [] (by simp [sub, subSl, subHp, place, mp, mpL, mpO]; rfl), rfl, rfl, by simp [resD, resL, idx_any]; try omega⟩
-- sizar/terms.Has
theorem walk16 (l : List Sp) (hl : l.length ≤ 1000000) (t : Int) : Does Try.prog 16 [spans l, iD t] (.dat (bV (l.any (inSp t)))) [] := by
  refine Does.intro [4] Try.func16 rfl (by kernel_rfl) Try.ntmps16 rfl (by decide) (Nat.le_of_ble_eq_true rfl) ?_
  refine T_seq ?_
  -- region 0
  refine T_region (is := [0, 1]) rfl fun n p hn hp => ?_
  refine T_op rfl rfl fun c hc => ?_  -- 3 := box 3 t1
  simp; refine hc _ ?_; clear hc c
  refine T_op rfl rfl fun c hc => ?_  -- 4 := assign false
  simp; refine hc _ ?_; clear hc c
  refine T_end (hn _ ?_); clear hn hp n p
  refine T_then ?_
  refine T_seq ?_
  -- region 1
  refine T_region (is := [0, 1, 2, 3]) rfl fun n p hn hp => ?_
  refine T_op rfl rfl fun c hc => ?_  -- 5 := move t0
  simp; refine hc _ ?_; clear hc c
  refine T_op rfl rfl fun c hc => ?_  -- 6 := makeFunc F28 first  caps t3
  simp; refine hc _ ?_; clear hc c
  refine T_op rfl rfl fun c hc => ?_  -- 7 := call value F27 (t5 t6) [22, 37]
  simp
  refine CallS.lend (walk27 l hl 28 [.ref [iD t]] (inSp t) fun x _ => walk28 x.1 x.2 t) rfl rfl rfl ?_
  simp [enum]; refine hc _ ?_; clear hc c
  refine T_op rfl rfl fun c hc => ?_  -- 4 := assign t7
  simp; refine hc _ ?_; clear hc c
  refine T_end (hn _ ?_); clear hn hp n p
  refine T_then ?_
  refine T_ret ?_
  exact ⟨_, Ent.sub [4] [] (by simp [sub, subSl, subHp, place, mp, mpL, mpO]; rfl), rfl, rfl, by simp [resD, resL]; try omega⟩
-- sizar/terms.Count
theorem walk12 (l : List Sp) (hl : l.length ≤ 1000000) : Does Try.prog 12 [spans l] (.tup [.dat (iD (cntOf l)), .dat (iD (errOf l))]) [] := by
  refine Does.intro [2, 3] Try.func12 rfl (by kernel_rfl) Try.ntmps12 rfl (by decide) (Nat.le_of_ble_eq_true rfl) ?_
  refine T_seq ?_
  -- region 0
  refine T_region (is := [0, 1]) rfl fun n p hn hp => ?_
  refine T_op rfl rfl fun c hc => ?_  -- 2 := assign 0
  simp; refine hc _ ?_; clear hc c
  refine T_op rfl rfl fun c hc => ?_  -- 3 := assign 0
  simp; refine hc _ ?_; clear hc c
  refine T_end (hn _ ?_); clear hn hp n p
  refine T_then ?_
  refine T_seq ?_
  refine T_seq ?_
  -- region 1
  refine T_region (is := [0, 1, 2]) rfl fun n p hn hp => ?_
  refine T_op rfl rfl fun c hc => ?_  -- 7 := move t0
  simp; refine hc _ ?_; clear hc c
  refine T_op rfl rfl fun c hc => ?_  -- 8 := call value F14 (t7) [22]
  simp
  refine CallS.dat (walk14 l hl) rfl rfl rfl rfl ?_
  simp [enum]; refine hc _ ?_; clear hc c
  refine T_op rfl rfl fun c hc => ?_  -- 4 := assign t8
  simp; refine hc _ ?_; clear hc c
  refine T_end (hn _ ?_); clear hn hp n p
  refine T_then ?_
  refine T_seq ?_
  -- region 2
  refine T_region (is := [0, 1]) rfl fun n p hn hp => ?_
  refine T_op rfl rfl fun c hc => ?_  -- 9 := move t4
  simp; refine hc _ ?_; clear hc c
  refine T_op rfl rfl fun c hc => ?_  -- 10 := binOp 25 t9 != 0
  simp; refine hc _ ?_; clear hc c
  refine T_end (hn _ ?_); clear hn hp n p
  refine T_then ?_
  refine T_cond rfl (fun b1 => ?_) (fun b1 => ?_)  -- t10
  · skip
    have hk : chk (-1) l = false := by simpa [errOf] using b1
    refine T_seq ?_
    -- region 3
    refine T_region (is := [0, 1, 2]) rfl fun n p hn hp => ?_
    refine T_op rfl rfl fun c hc => ?_  -- 11 := move t4
    simp; refine hc _ ?_; clear hc c
    refine T_op rfl rfl fun c hc => ?_  -- 2 := assign 0
    simp; refine hc _ ?_; clear hc c
    refine T_op rfl rfl fun c hc => ?_  -- 3 := assign t11
    simp; refine hc _ ?_; clear hc c
    refine T_end (hn _ ?_); clear hn hp n p
    refine T_then ?_
    refine T_ret ?_
    refine X_thenR ?_
    exact ⟨_, Ent.sub [2, 3] [] (by simp [sub, subSl, subHp, place, mp, mpL, mpO]; rfl), rfl, rfl, by simp [resD, resL, cntOf, errOf, hk]; try omega⟩
  · skip
    have hk : chk (-1) l = true := by simpa [errOf] using b1
    refine T_skip ?_
    refine T_then ?_
    refine T_seq ?_
    refine T_seq ?_
    -- region 4
    refine T_region (is := [0, 1, 2]) rfl fun n p hn hp => ?_
    refine T_op rfl rfl fun c hc => ?_  -- 12 := move t0
    simp; refine hc _ ?_; clear hc c
    refine T_op rfl rfl fun c hc => ?_  -- 13 := call len (t12) [22]
    simp; refine hc _ ?_; clear hc c
    refine T_op rfl rfl fun c hc => ?_  -- 14 := move 0
    simp; refine hc _ ?_; clear hc c
    refine T_end (hn _ ?_); clear hn hp n p
    refine T_then ?_
    refine T_block ?_  -- block 0
    refine T_loop (fun z : Nat × Int × Int => { sl := [(12, .dat (spans l)), (13, .dat (iD l.length)), (14, .dat (iD z.1)), (2, .dat (iD z.2.1))], hp := [], nx := 0 }) (fun z => z.1 ≤ l.length ∧ Part l z.1 z.2.1 z.2.2) (fun z => l.length - z.1) (0, 0, -1) (Ent.sub [12, 13, 14, 2] [] (by simp [sub, subSl, subHp, place, mp, mpL, mpO])) ⟨Nat.zero_le _, Part.start hk⟩ fun z hz => ?_  -- loop 0
    obtain ⟨z, acc, last⟩ := z
    obtain ⟨hz, hP⟩ := hz
    simp only at hz hP
    refine T_seq ?_
    -- region 5
    refine T_region (is := [0]) rfl fun n p hn hp => ?_
    refine T_op rfl rfl fun c hc => ?_  -- 15 := binOp 3 t14 < t13
    simp; refine hc _ ?_; clear hc c
    refine T_end (hn _ ?_); clear hn hp n p
    refine T_then ?_
    refine T_seq ?_
    refine T_cond rfl (fun b2 => ?_) (fun b2 => ?_)  -- t15
    · skip
      have hz' : z < l.length := by simpa using b2
      obtain ⟨x, hx⟩ : ∃ x, l[z]? = some x := ⟨_, List.getElem?_eq_getElem hz'⟩
      have e1 : IntKind.i64.wrap ((z : Int) + 1) = ((z + 1 : Nat) : Int) := by rw [wr (by omega)]; rfl
      have hb := hP.step hx
      have e2 : IntKind.i64.wrap (x.2 - x.1) = x.2 - x.1 := wr (by omega)
      have e3 : IntKind.i64.wrap (acc + (x.2 - x.1)) = acc + (x.2 - x.1) := wr (by omega)
      refine T_skip ?_
      refine T_then ?_
      refine T_seq ?_
      refine T_block ?_  -- block 1
      refine T_seq ?_
      -- region 6
      refine T_region (is := [0, 1, 2, 3]) rfl fun n p hn hp => ?_
      refine T_op rfl rfl fun c hc => ?_  -- 16 := indexAddr 22 t12 t14
      simp [hx]; refine hc _ ?_; clear hc c
      refine T_op rfl rfl fun c hc => ?_  -- 17 := load 35 t16
      simp; refine hc _ ?_; clear hc c
      refine T_op rfl rfl fun c hc => ?_  -- 6 := alloc 35
      simp; refine hc _ ?_; clear hc c
      refine T_op rfl rfl fun c hc => ?_  -- None := store 35 t6 t17
      simp; refine hc _ ?_; clear hc c
      refine T_end (hn _ ?_); clear hn hp n p
      refine T_then ?_
      -- region 7
      refine T_region (is := [0, 1, 2, 3, 4, 5, 6, 7]) rfl fun n p hn hp => ?_
      refine T_op rfl rfl fun c hc => ?_  -- 18 := move t2
      simp; refine hc _ ?_; clear hc c
      refine T_op rfl rfl fun c hc => ?_  -- 19 := fieldAddr 35 t6 1
      simp; refine hc _ ?_; clear hc c
      refine T_op rfl rfl fun c hc => ?_  -- 20 := load 3 t19
      simp; refine hc _ ?_; clear hc c
      refine T_op rfl rfl fun c hc => ?_  -- 21 := fieldAddr 35 t6 0
      simp; refine hc _ ?_; clear hc c
      refine T_op rfl rfl fun c hc => ?_  -- 22 := load 3 t21
      simp; refine hc _ ?_; clear hc c
      refine T_op rfl rfl fun c hc => ?_  -- 23 := binOp 3 t20 - t22
      simp [e2]; refine hc _ ?_; clear hc c
      refine T_op rfl rfl fun c hc => ?_  -- 24 := binOp 3 t18 + t23
      simp [e3]; refine hc _ ?_; clear hc c
      refine T_op rfl rfl fun c hc => ?_  -- 2 := assign t24
      simp; refine hc _ ?_; clear hc c
      refine T_end (hn _ ?_); clear hn hp n p
      refine X_blockN ?_
      refine T_then ?_
      -- region 8
      refine T_region (is := [0, 1]) rfl fun n p hn hp => ?_
      refine T_op rfl rfl fun c hc => ?_  -- 25 := binOp 3 t14 + 1
      simp; refine hc _ ?_; clear hc c
      refine T_op rfl rfl fun c hc => ?_  -- 14 := move t25
      simp; refine hc _ ?_; clear hc c
      refine T_end (hn _ ?_); clear hn hp n p
      exact X_loopN (z + 1, acc + (x.2 - x.1), x.2) (Ent.sub [12, 13, 14, 2] [] (by simp [sub, subSl, subHp, place, mp, mpL, mpO, e1, e2, e3])) ⟨hz', hP.next hx⟩ (by omega)
    · skip
      have hz' : z = l.length := by simp at b2; omega
      subst hz'
      refine T_exit ?_
      refine X_thenE ?_
      refine X_loopE ?_
      refine X_hit ?_
      refine T_then ?_
      refine T_seq ?_
      -- region 9
      refine T_region (is := [0, 1, 2]) rfl fun n p hn hp => ?_
      refine T_op rfl rfl fun c hc => ?_  -- 26 := move t2
      simp; refine hc _ ?_; clear hc c
      refine T_op rfl rfl fun c hc => ?_  -- 2 := assign t26
      simp; refine hc _ ?_; clear hc c
      refine T_op rfl rfl fun c hc => ?_  -- 3 := assign 0
      simp; refine hc _ ?_; clear hc c
      refine T_end (hn _ ?_); clear hn hp n p
      refine T_then ?_
      refine T_ret ?_
      exact ⟨_, Ent.sub [2, 3] [] (by simp [sub, subSl, subHp, place, mp, mpL, mpO]; rfl), rfl, rfl, by simp [resD, resL, cntOf, errOf, hk, hP.end]; try omega⟩
-- sizar/sizarref06.Check
theorem walk15 (l : List Sp) (hl : l.length ≤ 1000000) : Does Try.prog 15 [spans l] (.dat (iD (errOf l))) [] := by
  refine Does.intro [2] Try.func15 rfl (by kernel_rfl) Try.ntmps15 rfl (by decide) (Nat.le_of_ble_eq_true rfl) ?_
  refine T_seq ?_
  -- region 0
  refine T_region (is := [0]) rfl fun n p hn hp => ?_
  refine T_op rfl rfl fun c hc => ?_  -- 2 := assign 0
  simp; refine hc _ ?_; clear hc c
  refine T_end (hn _ ?_); clear hn hp n p
  refine T_then ?_
  refine T_seq ?_
  refine T_seq ?_
  -- region 1
  refine T_region (is := [0]) rfl fun n p hn hp => ?_
  refine T_op rfl rfl fun c hc => ?_  -- 3 := assign 0
  simp; refine hc _ ?_; clear hc c
  refine T_end (hn _ ?_); clear hn hp n p
  refine T_then ?_
  refine T_block ?_  -- block 0
  refine T_loop (fun z : Nat × Int => { sl := [(0, .dat (spans l)), (3, .dat (iD z.1))], hp := [], nx := 0 }) (fun z => z.1 ≤ l.length ∧ chk (-1) l = chk z.2 (l.drop z.1) ∧ (z.1 = 0 → z.2 = -1) ∧ (0 < z.1 → ∀ y, l[z.1 - 1]? = some y → z.2 = y.2)) (fun z => l.length - z.1) (0, -1) (Ent.sub [0, 3] [] (by simp [sub, subSl, subHp, place, mp, mpL, mpO])) ⟨Nat.zero_le _, rfl, fun _ => rfl, fun h => absurd h (Nat.lt_irrefl _)⟩ fun z hz => ?_  -- loop 0
  obtain ⟨z, last⟩ := z
  obtain ⟨hz, hk, hz0, hz1⟩ := hz
  simp only at hz hk hz0 hz1
  refine T_seq ?_
  refine T_seq ?_
  -- region 2
  refine T_region (is := [0, 1, 2, 3]) rfl fun n p hn hp => ?_
  refine T_op rfl rfl fun c hc => ?_  -- 4 := move t3
  simp; refine hc _ ?_; clear hc c
  refine T_op rfl rfl fun c hc => ?_  -- 5 := move t0
  simp; refine hc _ ?_; clear hc c
  refine T_op rfl rfl fun c hc => ?_  -- 6 := call len (t5) [22]
  simp; refine hc _ ?_; clear hc c
  refine T_op rfl rfl fun c hc => ?_  -- 7 := binOp 3 t4 < t6
  simp; refine hc _ ?_; clear hc c
  refine T_end (hn _ ?_); clear hn hp n p
  refine T_then ?_
  refine T_cond rfl (fun b1 => ?_) (fun b1 => ?_)  -- t7
  · skip
    have hz' : z < l.length := by simpa using b1
    obtain ⟨x, hx⟩ : ∃ x, l[z]? = some x := ⟨_, List.getElem?_eq_getElem hz'⟩
    have e1 : IntKind.i64.wrap ((z : Int) + 1) = ((z + 1 : Nat) : Int) := by rw [wr (by omega)]; rfl
    obtain ⟨y, hy⟩ : ∃ y, 0 < z → l[z - 1]? = some y ∧ last = y.2 := by
      by_cases h0 : 0 < z
      · have hlt : z - 1 < l.length := by omega
        exact ⟨l[z - 1], fun _ => ⟨List.getElem?_eq_getElem hlt, hz1 h0 _ (List.getElem?_eq_getElem hlt)⟩⟩
      · exact ⟨(0, 0), fun h => absurd h h0⟩
    have e2 : IntKind.i64.wrap ((z : Int) - 1) = (z : Int) - 1 := wr (by omega)
    refine T_skip ?_
    refine T_then ?_
    refine T_seq ?_
    refine T_block ?_  -- block 1
    -- region 4, drawn
    refine T_seqDraw (is := [0, 1, 2, 3, 4, 5, 6, 7, 8, 9, 10, 11, 12, 13, 14, 15, 16, 17, 18, 19, 20, 21, 22, 23]) rfl (by kernel_rfl) (by kernel_rfl) fun n hn => ?_
    refine D_op rfl rfl rfl fun c hc => ?_  -- 10 := move t0
    simp; refine hc _ ?_; clear hc c
    refine D_op rfl rfl rfl fun c hc => ?_  -- 11 := move t3
    simp; refine hc _ ?_; clear hc c
    refine D_op rfl rfl rfl fun c hc => ?_  -- 12 := indexAddr 22 t10 t11
    simp [hx]; refine hc _ ?_; clear hc c
    refine D_op rfl rfl rfl fun c hc => ?_  -- 13 := load 35 t12
    simp; refine hc _ ?_; clear hc c
    refine D_call rfl rfl rfl (.dat (by simp; exact ⟨rfl, rfl⟩) (by exact walk26 x.1 x.2) (by rfl)) fun c hc => ?_  -- 14 := call value F26 (t13) [35]
    simp; refine hc _ ?_; clear hc c
    refine D_op rfl rfl rfl fun c hc => ?_  -- 15 := unOp 4 t14
    simp; refine hc _ ?_; clear hc c
    refine D_op rfl rfl rfl fun c hc => ?_  -- 16 := move t15
    simp; refine hc _ ?_; clear hc c
    refine D_pure rfl (pstep_one rfl rfl rfl rfl fun g0 => .op rfl (by simp [g0]; rfl)) fun c hc => ?_  -- 17 := move t3
    simp; refine hc _ ?_; clear hc c
    refine D_pure rfl (pstep_one rfl rfl rfl rfl fun g0 => .op rfl (by simp [g0]; rfl)) fun c hc => ?_  -- 18 := binOp 3 t17 > 0
    simp; refine hc _ ?_; clear hc c
    refine D_pure rfl (pstep_one rfl rfl rfl rfl fun g0 => .op rfl (by simp [g0]; rfl)) fun c hc => ?_  -- 19 := move t18
    simp; refine hc _ ?_; clear hc c
    refine D_pure rfl (pstep_two rfl rfl rfl rfl fun g0 g1 => .op rfl (by simp [g0, g1]; rfl)) fun c hc => ?_  -- 20 := move t0
    simp; refine hc _ ?_; clear hc c
    refine D_pure rfl (pstep_two rfl rfl rfl rfl fun g0 g1 => .op rfl (by simp [g0, g1]; rfl)) fun c hc => ?_  -- 21 := move t3
    simp; refine hc _ ?_; clear hc c
    refine D_pure rfl (pstep_two rfl rfl rfl rfl fun g0 g1 => .op rfl (by simp [g0, g1, e2]; rfl)) fun c hc => ?_  -- 22 := binOp 3 t21 - 1
    simp; refine hc _ ?_; clear hc c
    refine D_pure rfl (pstep_two rfl rfl rfl rfl fun g0 g1 => .op rfl (by simp [g0, g1, (hy (by simpa using g1)).1, show (1 : Int) ≤ z by simp at g1; omega]; rfl)) fun c hc => ?_  -- 23 := indexAddr 22 t20 t22
    simp; refine hc _ ?_; clear hc c
    refine D_pure rfl (pstep_two rfl rfl rfl rfl fun g0 g1 => .op rfl (by simp [g0, g1]; rfl)) fun c hc => ?_  -- 24 := fieldAddr 35 t23 1
    simp; refine hc _ ?_; clear hc c
    refine D_pure rfl (pstep_two rfl rfl rfl rfl fun g0 g1 => .op rfl (by simp [g0, g1]; rfl)) fun c hc => ?_  -- 25 := load 3 t24
    simp; refine hc _ ?_; clear hc c
    refine D_pure rfl (pstep_two rfl rfl rfl rfl fun g0 g1 => .op rfl (by simp [g0, g1]; rfl)) fun c hc => ?_  -- 26 := move t0
    simp; refine hc _ ?_; clear hc c
    refine D_pure rfl (pstep_two rfl rfl rfl rfl fun g0 g1 => .op rfl (by simp [g0, g1]; rfl)) fun c hc => ?_  -- 27 := move t3
    simp; refine hc _ ?_; clear hc c
    refine D_pure rfl (pstep_two rfl rfl rfl rfl fun g0 g1 => .op rfl (by simp [g0, g1, hx]; rfl)) fun c hc => ?_  -- 28 := indexAddr 22 t26 t27
    simp; refine hc _ ?_; clear hc c
    refine D_pure rfl (pstep_two rfl rfl rfl rfl fun g0 g1 => .op rfl (by simp [g0, g1]; rfl)) fun c hc => ?_  -- 29 := fieldAddr 35 t28 0
    simp; refine hc _ ?_; clear hc c
    refine D_pure rfl (pstep_two rfl rfl rfl rfl fun g0 g1 => .op rfl (by simp [g0, g1]; rfl)) fun c hc => ?_  -- 30 := load 3 t29
    simp; refine hc _ ?_; clear hc c
    refine D_pure rfl (pstep_two rfl rfl rfl rfl fun g0 g1 => .op rfl (by simp [g0, g1]; rfl)) fun c hc => ?_  -- 31 := binOp 3 t25 >= t30
    simp; refine hc _ ?_; clear hc c
    refine D_pure rfl (pstep_one rfl rfl rfl rfl fun g0 => .op rfl (by simp [g0]; rfl)) fun c hc => ?_  -- 32 := pick t19 t31 false
    simp; refine hc _ ?_; clear hc c
    refine D_op rfl rfl rfl fun c hc => ?_  -- 33 := pick t16 true t32
    simp; refine hc _ ?_; clear hc c
    refine D_end (hn _ ?_); clear hn n
    refine T_cond rfl (fun b2 => ?_) (fun b2 => ?_)  -- t33
    · skip
      have hb : badSp last x = true := by rw [← bad_ref hz0 (fun h => (hy h).2)]; exact b2
      have hbad : chk (-1) l = false := by rw [hk, drop_next hx]; simp [chk, hb]
      refine T_seq ?_
      -- region 5
      refine T_region (is := [0]) rfl fun n p hn hp => ?_
      refine T_op rfl rfl fun c hc => ?_  -- 2 := assign 60
      simp; refine hc _ ?_; clear hc c
      refine T_end (hn _ ?_); clear hn hp n p
      refine T_then ?_
      refine T_ret ?_
      refine X_blockR ?_
      refine X_thenR ?_
      refine X_loopR ?_
      refine X_blockR ?_
      refine X_thenR ?_
      exact ⟨_, Ent.sub [2] [] (by simp [sub, subSl, subHp, place, mp, mpL, mpO]; rfl), rfl, rfl, by simp [resD, resL, errOf, hbad]; try omega⟩
    · skip
      have hb : badSp last x = false := by rw [← bad_ref hz0 (fun h => (hy h).2)]; exact b2
      have hnext : chk (-1) l = chk x.2 (l.drop (z + 1)) := by rw [hk, drop_next hx]; simp [chk, hb]
      refine T_skip ?_
      refine X_blockN ?_
      refine T_then ?_
      -- region 3
      refine T_region (is := [0, 1, 2]) rfl fun n p hn hp => ?_
      refine T_op rfl rfl fun c hc => ?_  -- 8 := move t3
      simp; refine hc _ ?_; clear hc c
      refine T_op rfl rfl fun c hc => ?_  -- 9 := binOp 3 t8 + 1
      simp; refine hc _ ?_; clear hc c
      refine T_op rfl rfl fun c hc => ?_  -- 3 := assign t9
      simp; refine hc _ ?_; clear hc c
      refine T_end (hn _ ?_); clear hn hp n p
      exact X_loopN (z + 1, x.2) (Ent.sub [0, 3] [] (by simp [sub, subSl, subHp, place, mp, mpL, mpO, e1])) ⟨hz', hnext, fun h => absurd h (Nat.succ_ne_zero _), fun _ y hy => by simp only [Nat.add_sub_cancel] at hy; rw [hx] at hy; injection hy with hy; rw [hy]⟩ (by omega)
  · skip
    have hz' : z = l.length := by simp at b1; omega
    subst hz'
    have hend : chk (-1) l = true := by rw [hk]; simp [chk]
    refine T_exit ?_
    refine X_thenE ?_
    refine X_loopE ?_
    refine X_hit ?_
    refine T_then ?_
    refine T_seq ?_
    -- region 6
    refine T_region (is := [0]) rfl fun n p hn hp => ?_
    refine T_op rfl rfl fun c hc => ?_  -- 2 := assign 0
    simp; refine hc _ ?_; clear hc c
    refine T_end (hn _ ?_); clear hn hp n p
    refine T_then ?_
    refine T_ret ?_
    exact ⟨_, Ent.sub [2] [] (by simp [sub, subSl, subHp, place, mp, mpL, mpO]; rfl), rfl, rfl, by simp [resD, resL, errOf, hend]; try omega⟩
-- sizar/sizarref06.Count
theorem walk13 (l : List Sp) (hl : l.length ≤ 1000000) : Does Try.prog 13 [spans l] (.tup [.dat (iD (cntOf l)), .dat (iD (errOf l))]) [] := by
  refine Does.intro [2, 3] Try.func13 rfl (by kernel_rfl) Try.ntmps13 rfl (by decide) (Nat.le_of_ble_eq_true rfl) ?_
  refine T_seq ?_
  -- region 0
  refine T_region (is := [0, 1]) rfl fun n p hn hp => ?_
  refine T_op rfl rfl fun c hc => ?_  -- 2 := assign 0
  simp; refine hc _ ?_; clear hc c
  refine T_op rfl rfl fun c hc => ?_  -- 3 := assign 0
  simp; refine hc _ ?_; clear hc c
  refine T_end (hn _ ?_); clear hn hp n p
  refine T_then ?_
  refine T_seq ?_
  -- region 1
  refine T_region (is := [0, 1, 2]) rfl fun n p hn hp => ?_
  refine T_op rfl rfl fun c hc => ?_  -- 7 := move t0
  simp; refine hc _ ?_; clear hc c
  refine T_op rfl rfl fun c hc => ?_  -- 8 := call value F15 (t7) [22]
  simp
  refine CallS.dat (walk15 l hl) rfl rfl rfl rfl ?_
  simp [enum]; refine hc _ ?_; clear hc c
  refine T_op rfl rfl fun c hc => ?_  -- 4 := assign t8
  simp; refine hc _ ?_; clear hc c
  refine T_end (hn _ ?_); clear hn hp n p
  refine T_then ?_
  refine T_seq ?_
  refine T_seq ?_
  -- region 2
  refine T_region (is := [0, 1]) rfl fun n p hn hp => ?_
  refine T_op rfl rfl fun c hc => ?_  -- 9 := move t4
  simp; refine hc _ ?_; clear hc c
  refine T_op rfl rfl fun c hc => ?_  -- 10 := binOp 25 t9 != 0
  simp; refine hc _ ?_; clear hc c
  refine T_end (hn _ ?_); clear hn hp n p
  refine T_then ?_
  refine T_cond rfl (fun b1 => ?_) (fun b1 => ?_)  -- t10
  · skip
    have hk : chk (-1) l = false := by simpa [errOf] using b1
    refine T_seq ?_
    -- region 3
    refine T_region (is := [0, 1, 2]) rfl fun n p hn hp => ?_
    refine T_op rfl rfl fun c hc => ?_  -- 11 := move t4
    simp; refine hc _ ?_; clear hc c
    refine T_op rfl rfl fun c hc => ?_  -- 2 := assign 0
    simp; refine hc _ ?_; clear hc c
    refine T_op rfl rfl fun c hc => ?_  -- 3 := assign t11
    simp; refine hc _ ?_; clear hc c
    refine T_end (hn _ ?_); clear hn hp n p
    refine T_then ?_
    refine T_ret ?_
    refine X_thenR ?_
    exact ⟨_, Ent.sub [2, 3] [] (by simp [sub, subSl, subHp, place, mp, mpL, mpO]; rfl), rfl, rfl, by simp [resD, resL, cntOf, errOf, hk]; try omega⟩
  · skip
    have hk : chk (-1) l = true := by simpa [errOf] using b1
    refine T_skip ?_
    refine T_then ?_
    refine T_seq ?_
    -- region 4
    refine T_region (is := [0]) rfl fun n p hn hp => ?_
    refine T_op rfl rfl fun c hc => ?_  -- 5 := assign 0
    simp; refine hc _ ?_; clear hc c
    refine T_end (hn _ ?_); clear hn hp n p
    refine T_then ?_
    refine T_seq ?_
    refine T_seq ?_
    -- region 5
    refine T_region (is := [0]) rfl fun n p hn hp => ?_
    refine T_op rfl rfl fun c hc => ?_  -- 6 := assign 0
    simp; refine hc _ ?_; clear hc c
    refine T_end (hn _ ?_); clear hn hp n p
    refine T_then ?_
    refine T_block ?_  -- block 0
    refine T_loop (fun z : Nat × Int × Int => { sl := [(0, .dat (spans l)), (6, .dat (iD z.1)), (5, .dat (iD z.2.1))], hp := [], nx := 0 }) (fun z => z.1 ≤ l.length ∧ Part l z.1 z.2.1 z.2.2) (fun z => l.length - z.1) (0, 0, -1) (Ent.sub [0, 6, 5] [] (by simp [sub, subSl, subHp, place, mp, mpL, mpO])) ⟨Nat.zero_le _, Part.start hk⟩ fun z hz => ?_  -- loop 0
    obtain ⟨z, acc, last⟩ := z
    obtain ⟨hz, hP⟩ := hz
    simp only at hz hP
    refine T_seq ?_
    refine T_seq ?_
    -- region 6
    refine T_region (is := [0, 1, 2, 3]) rfl fun n p hn hp => ?_
    refine T_op rfl rfl fun c hc => ?_  -- 12 := move t6
    simp; refine hc _ ?_; clear hc c
    refine T_op rfl rfl fun c hc => ?_  -- 13 := move t0
    simp; refine hc _ ?_; clear hc c
    refine T_op rfl rfl fun c hc => ?_  -- 14 := call len (t13) [22]
    simp; refine hc _ ?_; clear hc c
    refine T_op rfl rfl fun c hc => ?_  -- 15 := binOp 3 t12 < t14
    simp; refine hc _ ?_; clear hc c
    refine T_end (hn _ ?_); clear hn hp n p
    refine T_then ?_
    refine T_cond rfl (fun b2 => ?_) (fun b2 => ?_)  -- t15
    · skip
      have hz' : z < l.length := by simpa using b2
      obtain ⟨x, hx⟩ : ∃ x, l[z]? = some x := ⟨_, List.getElem?_eq_getElem hz'⟩
      have e1 : IntKind.i64.wrap ((z : Int) + 1) = ((z + 1 : Nat) : Int) := by rw [wr (by omega)]; rfl
      have hb := hP.step hx
      have e2 : IntKind.i64.wrap (acc + x.2) = acc + x.2 := wr (by omega)
      have e3 : IntKind.i64.wrap (acc + x.2 - x.1) = acc + x.2 - x.1 := wr (by omega)
      have e4 : acc + x.2 - x.1 = acc + (x.2 - x.1) := by omega
      refine T_skip ?_
      refine T_then ?_
      refine T_seq ?_
      refine T_block ?_  -- block 1
      -- region 8, drawn, last
      refine T_draw' (is := [0, 1, 2, 3, 4, 5, 6, 7, 8, 9, 10, 11, 12, 13]) rfl (by kernel_rfl) (by kernel_rfl) (fun _ _ hE h => T_ent hE h) fun n hn => ?_
      refine D_op rfl rfl rfl fun c hc => ?_  -- 18 := move t5
      simp; refine hc _ ?_; clear hc c
      refine D_op rfl rfl rfl fun c hc => ?_  -- 19 := move t0
      simp; refine hc _ ?_; clear hc c
      refine D_op rfl rfl rfl fun c hc => ?_  -- 20 := move t6
      simp; refine hc _ ?_; clear hc c
      refine D_op rfl rfl rfl fun c hc => ?_  -- 21 := indexAddr 22 t19 t20
      simp [hx]; refine hc _ ?_; clear hc c
      refine D_op rfl rfl rfl fun c hc => ?_  -- 22 := fieldAddr 35 t21 1
      simp; refine hc _ ?_; clear hc c
      refine D_op rfl rfl rfl fun c hc => ?_  -- 23 := load 3 t22
      simp; refine hc _ ?_; clear hc c
      refine D_op rfl rfl rfl fun c hc => ?_  -- 24 := binOp 3 t18 + t23
      simp [e2]; refine hc _ ?_; clear hc c
      refine D_op rfl rfl rfl fun c hc => ?_  -- 25 := move t0
      simp; refine hc _ ?_; clear hc c
      refine D_op rfl rfl rfl fun c hc => ?_  -- 26 := move t6
      simp; refine hc _ ?_; clear hc c
      refine D_op rfl rfl rfl fun c hc => ?_  -- 27 := indexAddr 22 t25 t26
      simp [hx]; refine hc _ ?_; clear hc c
      refine D_op rfl rfl rfl fun c hc => ?_  -- 28 := fieldAddr 35 t27 0
      simp; refine hc _ ?_; clear hc c
      refine D_op rfl rfl rfl fun c hc => ?_  -- 29 := load 3 t28
      simp; refine hc _ ?_; clear hc c
      refine D_op rfl rfl rfl fun c hc => ?_  -- 30 := binOp 3 t24 - t29
      simp [e3]; refine hc _ ?_; clear hc c
      refine D_op rfl rfl rfl fun c hc => ?_  -- 5 := assign t30
      simp; refine hc _ ?_; clear hc c
      refine D_end (hn _ ?_); clear hn n
      refine X_blockN ?_
      refine T_then ?_
      -- region 7
      refine T_region (is := [0, 1, 2]) rfl fun n p hn hp => ?_
      refine T_op rfl rfl fun c hc => ?_  -- 16 := move t6
      simp; refine hc _ ?_; clear hc c
      refine T_op rfl rfl fun c hc => ?_  -- 17 := binOp 3 t16 + 1
      simp; refine hc _ ?_; clear hc c
      refine T_op rfl rfl fun c hc => ?_  -- 6 := assign t17
      simp; refine hc _ ?_; clear hc c
      refine T_end (hn _ ?_); clear hn hp n p
      exact X_loopN (z + 1, acc + (x.2 - x.1), x.2) (Ent.sub [0, 6, 5] [] (by simp [sub, subSl, subHp, place, mp, mpL, mpO, e1, e4])) ⟨hz', hP.next hx⟩ (by omega)
    · skip
      have hz' : z = l.length := by simp at b2; omega
      subst hz'
      refine T_exit ?_
      refine X_thenE ?_
      refine X_loopE ?_
      refine X_hit ?_
      refine T_then ?_
      refine T_seq ?_
      -- region 9
      refine T_region (is := [0, 1, 2]) rfl fun n p hn hp => ?_
      refine T_op rfl rfl fun c hc => ?_  -- 31 := move t5
      simp; refine hc _ ?_; clear hc c
      refine T_op rfl rfl fun c hc => ?_  -- 2 := assign t31
      simp; refine hc _ ?_; clear hc c
      refine T_op rfl rfl fun c hc => ?_  -- 3 := assign 0
      simp; refine hc _ ?_; clear hc c
      refine T_end (hn _ ?_); clear hn hp n p
      refine T_then ?_
      refine T_ret ?_
      exact ⟨_, Ent.sub [2, 3] [] (by simp [sub, subSl, subHp, place, mp, mpL, mpO]; rfl), rfl, rfl, by simp [resD, resL, cntOf, errOf, hk, hP.end]; try omega⟩
-- sizar/sizarref06.Has
theorem walk17 (l : List Sp) (hl : l.length ≤ 1000000) (t : Int) : Does Try.prog 17 [spans l, iD t] (.dat (bV (l.any (inSp t)))) [] := by
  refine Does.intro [4] Try.func17 rfl (by kernel_rfl) Try.ntmps17 rfl (by decide) (Nat.le_of_ble_eq_true rfl) ?_
  refine T_seq ?_
  -- region 0
  refine T_region (is := [0]) rfl fun n p hn hp => ?_
  refine T_op rfl rfl fun c hc => ?_  -- 4 := assign false
  simp; refine hc _ ?_; clear hc c
  refine T_end (hn _ ?_); clear hn hp n p
  refine T_then ?_
  refine T_seq ?_
  refine T_seq ?_
  -- region 1
  refine T_region (is := [0]) rfl fun n p hn hp => ?_
  refine T_op rfl rfl fun c hc => ?_  -- 5 := assign 0
  simp; refine hc _ ?_; clear hc c
  refine T_end (hn _ ?_); clear hn hp n p
  refine T_then ?_
  refine T_block ?_  -- block 0
  refine T_loop (fun z : Nat => { sl := [(0, .dat (spans l)), (1, .dat (iD t)), (5, .dat (iD z))], hp := [], nx := 0 }) (fun z => z ≤ l.length ∧ l.any (inSp t) = (l.drop z).any (inSp t)) (fun z => l.length - z) 0 (Ent.sub [0, 1, 5] [] (by simp [sub, subSl, subHp, place, mp, mpL, mpO])) ⟨Nat.zero_le _, rfl⟩ fun z hz => ?_  -- loop 0
  obtain ⟨hz, hk⟩ := hz
  refine T_seq ?_
  refine T_seq ?_
  -- region 2
  refine T_region (is := [0, 1, 2, 3]) rfl fun n p hn hp => ?_
  refine T_op rfl rfl fun c hc => ?_  -- 6 := move t5
  simp; refine hc _ ?_; clear hc c
  refine T_op rfl rfl fun c hc => ?_  -- 7 := move t0
  simp; refine hc _ ?_; clear hc c
  refine T_op rfl rfl fun c hc => ?_  -- 8 := call len (t7) [22]
  simp; refine hc _ ?_; clear hc c
  refine T_op rfl rfl fun c hc => ?_  -- 9 := binOp 3 t6 < t8
  simp; refine hc _ ?_; clear hc c
  refine T_end (hn _ ?_); clear hn hp n p
  refine T_then ?_
  refine T_cond rfl (fun b1 => ?_) (fun b1 => ?_)  -- t9
  · skip
    have hz' : z < l.length := by simpa using b1
    obtain ⟨x, hx⟩ : ∃ x, l[z]? = some x := ⟨_, List.getElem?_eq_getElem hz'⟩
    have e1 : IntKind.i64.wrap ((z : Int) + 1) = ((z + 1 : Nat) : Int) := by rw [wr (by omega)]; rfl
    refine T_skip ?_
    refine T_then ?_
    refine T_seq ?_
    refine T_block ?_  -- block 1
    refine T_seq ?_
    -- region 4
    refine T_region (is := [0, 1, 2, 3, 4, 5, 6, 7, 8, 9, 10, 11, 12, 13, 14, 15]) rfl fun n p hn hp => ?_
    refine T_op rfl rfl fun c hc => ?_  -- 12 := move t0
    simp; refine hc _ ?_; clear hc c
    refine T_op rfl rfl fun c hc => ?_  -- 13 := move t5
    simp; refine hc _ ?_; clear hc c
    refine T_op rfl rfl fun c hc => ?_  -- 14 := indexAddr 22 t12 t13
    simp [hx]; refine hc _ ?_; clear hc c
    refine T_op rfl rfl fun c hc => ?_  -- 15 := fieldAddr 35 t14 0
    simp; refine hc _ ?_; clear hc c
    refine T_op rfl rfl fun c hc => ?_  -- 16 := load 3 t15
    simp; refine hc _ ?_; clear hc c
    refine T_op rfl rfl fun c hc => ?_  -- 17 := move t1
    simp; refine hc _ ?_; clear hc c
    refine T_op rfl rfl fun c hc => ?_  -- 18 := binOp 3 t16 <= t17
    simp; refine hc _ ?_; clear hc c
    refine T_op rfl rfl fun c hc => ?_  -- 19 := move t18
    simp; refine hc _ ?_; clear hc c
    refine T_pure rfl (pstep_one rfl rfl rfl rfl fun g0 => .op rfl (by simp [g0]; rfl)) fun c hc => ?_  -- 20 := move t1
    simp; refine hc _ ?_; clear hc c
    refine T_pure rfl (pstep_one rfl rfl rfl rfl fun g0 => .op rfl (by simp [g0]; rfl)) fun c hc => ?_  -- 21 := move t0
    simp; refine hc _ ?_; clear hc c
    refine T_pure rfl (pstep_one rfl rfl rfl rfl fun g0 => .op rfl (by simp [g0]; rfl)) fun c hc => ?_  -- 22 := move t5
    simp; refine hc _ ?_; clear hc c
    refine T_pure rfl (pstep_one rfl rfl rfl rfl fun g0 => .op rfl (by simp [g0, hx]; rfl)) fun c hc => ?_  -- 23 := indexAddr 22 t21 t22
    simp; refine hc _ ?_; clear hc c
    refine T_pure rfl (pstep_one rfl rfl rfl rfl fun g0 => .op rfl (by simp [g0]; rfl)) fun c hc => ?_  -- 24 := fieldAddr 35 t23 1
    simp; refine hc _ ?_; clear hc c
    refine T_pure rfl (pstep_one rfl rfl rfl rfl fun g0 => .op rfl (by simp [g0]; rfl)) fun c hc => ?_  -- 25 := load 3 t24
    simp; refine hc _ ?_; clear hc c
    refine T_pure rfl (pstep_one rfl rfl rfl rfl fun g0 => .op rfl (by simp [g0]; rfl)) fun c hc => ?_  -- 26 := binOp 3 t20 < t25
    simp; refine hc _ ?_; clear hc c
    refine T_op rfl rfl fun c hc => ?_  -- 27 := pick t19 t26 false
    simp; refine hc _ ?_; clear hc c
    refine T_end (hn _ ?_); clear hn hp n p
    refine T_then ?_
    refine T_cond rfl (fun b2 => ?_) (fun b2 => ?_)  -- t27
    · skip
      have hb : inSp t x = true := b2
      have hat : l.any (inSp t) = true := by rw [hk, drop_next hx, List.any_cons, hb]; rfl
      refine T_seq ?_
      -- region 5
      refine T_region (is := [0]) rfl fun n p hn hp => ?_
      refine T_op rfl rfl fun c hc => ?_  -- 4 := assign true
      simp; refine hc _ ?_; clear hc c
      refine T_end (hn _ ?_); clear hn hp n p
      refine T_then ?_
      refine T_ret ?_
      refine X_blockR ?_
      refine X_thenR ?_
      refine X_loopR ?_
      refine X_blockR ?_
      refine X_thenR ?_
      exact ⟨_, Ent.sub [4] [] (by simp [sub, subSl, subHp, place, mp, mpL, mpO]; rfl), rfl, rfl, by simp [resD, resL, hat]; try omega⟩
    · skip
      have hb : inSp t x = false := b2
      have hnext : l.any (inSp t) = (l.drop (z + 1)).any (inSp t) := by rw [hk, drop_next hx, List.any_cons, hb]; rfl
      refine T_skip ?_
      refine X_blockN ?_
      refine T_then ?_
      -- region 3
      refine T_region (is := [0, 1, 2]) rfl fun n p hn hp => ?_
      refine T_op rfl rfl fun c hc => ?_  -- 10 := move t5
      simp; refine hc _ ?_; clear hc c
      refine T_op rfl rfl fun c hc => ?_  -- 11 := binOp 3 t10 + 1
      simp; refine hc _ ?_; clear hc c
      refine T_op rfl rfl fun c hc => ?_  -- 5 := assign t11
      simp; refine hc _ ?_; clear hc c
      refine T_end (hn _ ?_); clear hn hp n p
      exact X_loopN (z + 1) (Ent.sub [0, 1, 5] [] (by simp [sub, subSl, subHp, place, mp, mpL, mpO, e1])) ⟨hz', hnext⟩ (by omega)
  · skip
    have hz' : z = l.length := by simp at b1; omega
    subst hz'
    have hend : l.any (inSp t) = false := by rw [hk]; simp
    refine T_exit ?_
    refine X_thenE ?_
    refine X_loopE ?_
    refine X_hit ?_
    refine T_then ?_
    refine T_seq ?_
    -- region 6
    refine T_region (is := [0]) rfl fun n p hn hp => ?_
    refine T_op rfl rfl fun c hc => ?_  -- 4 := assign false
    simp; refine hc _ ?_; clear hc c
    refine T_end (hn _ ?_); clear hn hp n p
    refine T_then ?_
    refine T_ret ?_
    exact ⟨_, Ent.sub [4] [] (by simp [sub, subSl, subHp, place, mp, mpL, mpO]; rfl), rfl, rfl, by simp [resD, resL, hend]; try omega⟩
-- sizar/sizarref06.Same
theorem walk25 (l m : List Sp) (hl : l.length ≤ 1000000) (hm : m.length ≤ 1000000) : Does Try.prog 25 [spans l, spans m] (.dat (bV (decide (l = m)))) [] := by
  refine Does.intro [4] Try.func25 rfl (by kernel_rfl) Try.ntmps25 rfl (by decide) (Nat.le_of_ble_eq_true rfl) ?_
  refine T_seq ?_
  -- region 0
  refine T_region (is := [0]) rfl fun n p hn hp => ?_
  refine T_op rfl rfl fun c hc => ?_  -- 4 := assign false
  simp; refine hc _ ?_; clear hc c
  refine T_end (hn _ ?_); clear hn hp n p
  refine T_then ?_
  refine T_seq ?_
  refine T_seq ?_
  -- region 1
  refine T_region (is := [0, 1, 2, 3, 4]) rfl fun n p hn hp => ?_
  refine T_op rfl rfl fun c hc => ?_  -- 6 := move t0
  simp; refine hc _ ?_; clear hc c
  refine T_op rfl rfl fun c hc => ?_  -- 7 := call len (t6) [22]
  simp; refine hc _ ?_; clear hc c
  refine T_op rfl rfl fun c hc => ?_  -- 8 := move t1
  simp; refine hc _ ?_; clear hc c
  refine T_op rfl rfl fun c hc => ?_  -- 9 := call len (t8) [22]
  simp; refine hc _ ?_; clear hc c
  refine T_op rfl rfl fun c hc => ?_  -- 10 := binOp 3 t7 != t9
  simp; refine hc _ ?_; clear hc c
  refine T_end (hn _ ?_); clear hn hp n p
  refine T_then ?_
  refine T_cond rfl (fun b1 => ?_) (fun b1 => ?_)  -- t10
  · skip
    have hne : ¬ l = m := fun h => by subst h; simp at b1
    refine T_seq ?_
    -- region 2
    refine T_region (is := [0]) rfl fun n p hn hp => ?_
    refine T_op rfl rfl fun c hc => ?_  -- 4 := assign false
    simp; refine hc _ ?_; clear hc c
    refine T_end (hn _ ?_); clear hn hp n p
    refine T_then ?_
    refine T_ret ?_
    refine X_thenR ?_
    exact ⟨_, Ent.sub [4] [] (by simp [sub, subSl, subHp, place, mp, mpL, mpO]; rfl), rfl, rfl, by simp [resD, resL, hne]; try omega⟩
  · skip
    have hlen : l.length = m.length := by simp at b1; omega
    refine T_skip ?_
    refine T_then ?_
    refine T_seq ?_
    refine T_seq ?_
    -- region 3
    refine T_region (is := [0]) rfl fun n p hn hp => ?_
    refine T_op rfl rfl fun c hc => ?_  -- 5 := assign 0
    simp; refine hc _ ?_; clear hc c
    refine T_end (hn _ ?_); clear hn hp n p
    refine T_then ?_
    refine T_block ?_  -- block 0
    refine T_loop (fun z : Nat => { sl := [(0, .dat (spans l)), (1, .dat (spans m)), (5, .dat (iD z))], hp := [], nx := 0 }) (fun z => z ≤ l.length ∧ (l = m ↔ l.drop z = m.drop z)) (fun z => l.length - z) 0 (Ent.sub [0, 1, 5] [] (by simp [sub, subSl, subHp, place, mp, mpL, mpO])) ⟨Nat.zero_le _, Iff.rfl⟩ fun z hz => ?_  -- loop 0
    obtain ⟨hz, hk⟩ := hz
    refine T_seq ?_
    refine T_seq ?_
    -- region 4
    refine T_region (is := [0, 1, 2, 3]) rfl fun n p hn hp => ?_
    refine T_op rfl rfl fun c hc => ?_  -- 11 := move t5
    simp; refine hc _ ?_; clear hc c
    refine T_op rfl rfl fun c hc => ?_  -- 12 := move t0
    simp; refine hc _ ?_; clear hc c
    refine T_op rfl rfl fun c hc => ?_  -- 13 := call len (t12) [22]
    simp; refine hc _ ?_; clear hc c
    refine T_op rfl rfl fun c hc => ?_  -- 14 := binOp 3 t11 < t13
    simp; refine hc _ ?_; clear hc c
    refine T_end (hn _ ?_); clear hn hp n p
    refine T_then ?_
    refine T_cond rfl (fun b2 => ?_) (fun b2 => ?_)  -- t14
    · skip
      have hz' : z < l.length := by simpa using b2
      obtain ⟨x, hx⟩ : ∃ x, l[z]? = some x := ⟨_, List.getElem?_eq_getElem hz'⟩
      have e1 : IntKind.i64.wrap ((z : Int) + 1) = ((z + 1 : Nat) : Int) := by rw [wr (by omega)]; rfl
      obtain ⟨y, hy⟩ : ∃ y, m[z]? = some y := ⟨_, List.getElem?_eq_getElem (by omega)⟩
      refine T_skip ?_
      refine T_then ?_
      refine T_seq ?_
      refine T_block ?_  -- block 1
      -- region 6, drawn
      refine T_seqDraw (is := [0, 1, 2, 3, 4, 5, 6, 7, 8]) rfl (by kernel_rfl) (by kernel_rfl) fun n hn => ?_
      refine D_op rfl rfl rfl fun c hc => ?_  -- 17 := move t0
      simp; refine hc _ ?_; clear hc c
      refine D_op rfl rfl rfl fun c hc => ?_  -- 18 := move t5
      simp; refine hc _ ?_; clear hc c
      refine D_op rfl rfl rfl fun c hc => ?_  -- 19 := indexAddr 22 t17 t18
      simp [hx]; refine hc _ ?_; clear hc c
      refine D_op rfl rfl rfl fun c hc => ?_  -- 20 := load 35 t19
      simp; refine hc _ ?_; clear hc c
      refine D_op rfl rfl rfl fun c hc => ?_  -- 21 := move t1
      simp; refine hc _ ?_; clear hc c
      refine D_op rfl rfl rfl fun c hc => ?_  -- 22 := move t5
      simp; refine hc _ ?_; clear hc c
      refine D_op rfl rfl rfl fun c hc => ?_  -- 23 := indexAddr 22 t21 t22
      simp [hy]; refine hc _ ?_; clear hc c
      refine D_op rfl rfl rfl fun c hc => ?_  -- 24 := load 35 t23
      simp; refine hc _ ?_; clear hc c
      refine D_op rfl rfl rfl fun c hc => ?_  -- 25 := binOp 35 t20 != t24
      simp; refine hc _ ?_; clear hc c
      refine D_end (hn _ ?_); clear hn n
      refine T_cond rfl (fun b3 => ?_) (fun b3 => ?_)  -- t25
      · skip
        have hne : ¬ l = m := by rw [hk, drop_next hx, drop_next hy, List.cons.injEq]; intro h; rw [h.1] at b3; simp at b3
        refine T_seq ?_
        -- region 7
        refine T_region (is := [0]) rfl fun n p hn hp => ?_
        refine T_op rfl rfl fun c hc => ?_  -- 4 := assign false
        simp; refine hc _ ?_; clear hc c
        refine T_end (hn _ ?_); clear hn hp n p
        refine T_then ?_
        refine T_ret ?_
        refine X_blockR ?_
        refine X_thenR ?_
        refine X_loopR ?_
        refine X_blockR ?_
        refine X_thenR ?_
        exact ⟨_, Ent.sub [4] [] (by simp [sub, subSl, subHp, place, mp, mpL, mpO]; rfl), rfl, rfl, by simp [resD, resL, hne]; try omega⟩
      · skip
        have heq : x = y := by obtain ⟨x1, x2⟩ := x; obtain ⟨y1, y2⟩ := y; simp at b3; simp [b3]
        refine T_skip ?_
        refine X_blockN ?_
        refine T_then ?_
        -- region 5
        refine T_region (is := [0, 1, 2]) rfl fun n p hn hp => ?_
        refine T_op rfl rfl fun c hc => ?_  -- 15 := move t5
        simp; refine hc _ ?_; clear hc c
        refine T_op rfl rfl fun c hc => ?_  -- 16 := binOp 3 t15 + 1
        simp; refine hc _ ?_; clear hc c
        refine T_op rfl rfl fun c hc => ?_  -- 5 := assign t16
        simp; refine hc _ ?_; clear hc c
        refine T_end (hn _ ?_); clear hn hp n p
        exact X_loopN (z + 1) (Ent.sub [0, 1, 5] [] (by simp [sub, subSl, subHp, place, mp, mpL, mpO, e1])) ⟨hz', by rw [hk, drop_next hx, drop_next hy, heq, List.cons.injEq]; simp⟩ (by omega)
    · skip
      have hz' : z = l.length := by simp at b2; omega
      subst hz'
      have hend : l = m := by rw [hk, hlen]; simp [hlen]
      refine T_exit ?_
      refine X_thenE ?_
      refine X_loopE ?_
      refine X_hit ?_
      refine T_then ?_
      refine T_seq ?_
      -- region 8
      refine T_region (is := [0]) rfl fun n p hn hp => ?_
      refine T_op rfl rfl fun c hc => ?_  -- 4 := assign true
      simp; refine hc _ ?_; clear hc c
      refine T_end (hn _ ?_); clear hn hp n p
      refine T_then ?_
      refine T_ret ?_
      exact ⟨_, Ent.sub [4] [] (by simp [sub, subSl, subHp, place, mp, mpL, mpO]; rfl), rfl, rfl, by simp [resD, resL, hend]; try omega⟩
-- sizar/sizarref06.Few
theorem walk11 (l : List Sp) : Does Try.prog 11 [spans l] (.dat (bV (decide (l.length ≤ 40)))) [] := by
  refine Does.intro [2] Try.func11 rfl (by kernel_rfl) Try.ntmps11 rfl (by decide) (Nat.le_of_ble_eq_true rfl) ?_
  refine T_seq ?_
  -- region 0
  refine T_region (is := [0]) rfl fun n p hn hp => ?_
  refine T_op rfl rfl fun c hc => ?_  -- 2 := assign false
  simp; refine hc _ ?_; clear hc c
  refine T_end (hn _ ?_); clear hn hp n p
  refine T_then ?_
  refine T_seq ?_
  -- region 1
  refine T_region (is := [0, 1, 2, 3]) rfl fun n p hn hp => ?_
  refine T_op rfl rfl fun c hc => ?_  -- 3 := move t0
  simp; refine hc _ ?_; clear hc c
  refine T_op rfl rfl fun c hc => ?_  -- 4 := call len (t3) [22]
  simp; refine hc _ ?_; clear hc c
  refine T_op rfl rfl fun c hc => ?_  -- 5 := binOp 3 t4 <= 40
  simp; refine hc _ ?_; clear hc c
  refine T_op rfl rfl fun c hc => ?_  -- 2 := assign t5
  simp; refine hc _ ?_; clear hc c
  refine T_end (hn _ ?_); clear hn hp n p
  refine T_then ?_
  refine T_ret ?_
  exact ⟨_, Ent.sub [2] [] (by simp [sub, subSl, subHp, place, mp, mpL, mpO]; rfl), rfl, rfl, by simp [resD, resL]; try omega⟩
-- sizar/sizarlaw06.few
theorem walk18 (l m : List Sp) : Does Try.prog 18 [spans l, spans m] (.dat (bV (decide (l.length ≤ 40) && decide (m.length ≤ 40)))) [] := by
  refine Does.intro [4] Try.func18 rfl (by kernel_rfl) Try.ntmps18 rfl (by decide) (Nat.le_of_ble_eq_true rfl) ?_
  refine T_seq ?_
  -- region 0
  refine T_region (is := [0]) rfl fun n p hn hp => ?_
  refine T_op rfl rfl fun c hc => ?_  -- 4 := assign false
  simp; refine hc _ ?_; clear hc c
  refine T_end (hn _ ?_); clear hn hp n p
  refine T_then ?_
  refine T_seq ?_
  -- region 1
  refine T_region (is := [0, 1, 2, 3, 4, 5, 6]) rfl fun n p hn hp => ?_
  refine T_op rfl rfl fun c hc => ?_  -- 5 := move t0
  simp; refine hc _ ?_; clear hc c
  refine T_op rfl rfl fun c hc => ?_  -- 6 := call value F11 (t5) [22]
  simp
  refine CallS.dat (walk11 l) rfl rfl rfl rfl ?_
  simp [enum]; refine hc _ ?_; clear hc c
  refine T_op rfl rfl fun c hc => ?_  -- 7 := move t6
  simp; refine hc _ ?_; clear hc c
  refine T_pure rfl (pstep_one rfl rfl rfl rfl fun g0 => .op rfl (by simp [g0]; rfl)) fun c hc => ?_  -- 8 := move t1
  simp; refine hc _ ?_; clear hc c
  refine T_pure rfl (pstep_one rfl rfl rfl rfl fun g0 => .dat (by simp [g0]; exact ⟨rfl, rfl⟩) (by exact walk11 m) (by rfl)) fun c hc => ?_  -- 9 := call value F11 (t8) [22]
  simp; refine hc _ ?_; clear hc c
  refine T_op rfl rfl fun c hc => ?_  -- 10 := pick t7 t9 false
  simp; refine hc _ ?_; clear hc c
  refine T_op rfl rfl fun c hc => ?_  -- 4 := assign t10
  simp; refine hc _ ?_; clear hc c
  refine T_end (hn _ ?_); clear hn hp n p
  refine T_then ?_
  refine T_ret ?_
  exact ⟨_, Ent.sub [4] [] (by simp [sub, subSl, subHp, place, mp, mpL, mpO]; rfl), rfl, rfl, by simp [resD, resL]; try omega⟩
end Go.Proofs.Ytehboominkoldaa
