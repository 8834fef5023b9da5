/- The terms, part h: the contracts of the three operations in one word each; the statement about Union, Meet and Minus. -/
import Derived.Test.YtehboominkoldaaTf
set_option linter.unusedVariables false
set_option linter.unusedSimpArgs false
namespace Go.Proofs.Ytehboominkoldaa
open Go Go.Proofs.Ytehboominkoldaa.Sx

def setU (a b : List Sp) : List Sp := combOf (· || ·) a b
def setM (a b : List Sp) : List Sp := combOf (· && ·) a b
def setD (a b : List Sp) : List Sp := combOf (fun x y => x && !y) a b
theorem combOf_len (k : Bool → Bool → Bool) (a b : List Sp) : (combOf k a b).length ≤ 2 * (a.length + b.length) := by
  unfold combOf
  split
  · have h1 := comb_len (uniq (cat [bnd a, bnd b])) (fun t => k (a.any (inSp t)) (b.any (inSp t))) ((uniq (cat [bnd a, bnd b])).length - 1)
    have h2 := uniq_len (cat [bnd a, bnd b])
    simp only [cat, List.length_append, bnd_len, List.append_nil] at h2
    have h3 : (uniq (cat [bnd a, bnd b])).length = (uniq (bnd a ++ bnd b)).length := by simp [cat]
    simp only [h3] at h1
    simp only [h3]
    omega
  · simp
theorem setU_len (a b : List Sp) : (setU a b).length ≤ 2 * (a.length + b.length) := combOf_len _ a b
theorem setM_len (a b : List Sp) : (setM a b).length ≤ 2 * (a.length + b.length) := combOf_len _ a b
theorem setD_len (a b : List Sp) : (setD a b).length ≤ 2 * (a.length + b.length) := combOf_len _ a b
theorem c19 (a b : List Sp) (ha : a.length ≤ 4096) (hb : b.length ≤ 4096) : Does Try.prog 19 [spans a, spans b] (.tup [.dat (spans (setU a b)), .dat (iD (combErr a b))]) [] := walk19 a b ha hb
theorem c21 (a b : List Sp) (ha : a.length ≤ 4096) (hb : b.length ≤ 4096) : Does Try.prog 21 [spans a, spans b] (.tup [.dat (spans (setM a b)), .dat (iD (combErr a b))]) [] := walk21 a b ha hb
theorem c23 (a b : List Sp) (ha : a.length ≤ 4096) (hb : b.length ≤ 4096) : Does Try.prog 23 [spans a, spans b] (.tup [.dat (spans (setD a b)), .dat (iD (combErr a b))]) [] := walk23 a b ha hb
theorem c20 (a b : List Sp) (ha : a.length ≤ 4096) (hb : b.length ≤ 4096) : Does Try.prog 20 [spans a, spans b] (.tup [.dat (spans (setU a b)), .dat (iD (combErr a b))]) [] := by
  have := walk20 a b ha hb
  rwa [refOf_eq (k := (· || ·)) (fun x y => rfl) rfl] at this
theorem c22 (a b : List Sp) (ha : a.length ≤ 4096) (hb : b.length ≤ 4096) : Does Try.prog 22 [spans a, spans b] (.tup [.dat (spans (setM a b)), .dat (iD (combErr a b))]) [] := by
  have := walk22 a b ha hb
  rwa [refOf_eq (k := (· && ·)) (fun x y => rfl) rfl] at this
theorem c24 (a b : List Sp) (ha : a.length ≤ 4096) (hb : b.length ≤ 4096) : Does Try.prog 24 [spans a, spans b] (.tup [.dat (spans (setD a b)), .dat (iD (combErr a b))]) [] := by
  have := walk24 a b ha hb
  rwa [refOf_eq (k := fun x y => x && !y) (fun x y => rfl) rfl] at this
/-- What the operations give, on valid lists. -/
theorem err_ok {a b : List Sp} (ha : chk (-1) a = true) (hb : chk (-1) b = true) : combErr a b = 0 := by simp [combErr, ha, hb]
theorem setU_law {a b : List Sp} (ha : chk (-1) a = true) (hb : chk (-1) b = true) : chk (-1) (setU a b) = true ∧ ∀ x, mem (setU a b) x = (mem a x || mem b x) := combOf_law rfl ha hb
theorem setM_law {a b : List Sp} (ha : chk (-1) a = true) (hb : chk (-1) b = true) : chk (-1) (setM a b) = true ∧ ∀ x, mem (setM a b) x = (mem a x && mem b x) := combOf_law rfl ha hb
theorem setD_law {a b : List Sp} (ha : chk (-1) a = true) (hb : chk (-1) b = true) : chk (-1) (setD a b) = true ∧ ∀ x, mem (setD a b) x = (mem a x && !mem b x) := combOf_law rfl ha hb
-- WALKS (printed by skel.py)
-- sizar/sizarlaw06.TermsUnionSpec
theorem walk4 (a b : List Sp) : Does Try.prog 4 [spans a, spans b] (.dat (bV true)) [] := by
  refine Does.intro [4] Try.func4 rfl (by kernel_rfl) Try.ntmps4 rfl (by decide) (Nat.le_of_ble_eq_true rfl) ?_
  refine T_seq ?_
  -- region 0
  refine T_region (is := [0]) rfl fun n p hn hp => ?_
  refine T_op rfl rfl fun c hc => ?_  -- 4 := assign false
  simp; refine hc _ ?_; clear hc c
  refine T_end (hn _ ?_); clear hn hp n p
  refine T_then ?_
  refine T_seq ?_
  refine T_seq ?_
  -- region 1
  refine T_region (is := [0, 1]) rfl fun n p hn hp => ?_
  refine T_op rfl rfl fun c hc => ?_  -- 17 := call value F10 () []
  simp
  refine CallS.dat (walk10) rfl rfl rfl rfl ?_
  simp [enum]; refine hc _ ?_; clear hc c
  refine T_op rfl rfl fun c hc => ?_  -- 18 := unOp 4 t17
  simp; refine hc _ ?_; clear hc c
  refine T_end (hn _ ?_); clear hn hp n p
  refine T_then ?_
  refine T_false (by simp) ?_  -- t18
  refine T_skip ?_
  refine T_then ?_
  refine T_seq ?_
  refine T_seq ?_
  -- region 3
  refine T_region (is := [0, 1, 2, 3]) rfl fun n p hn hp => ?_
  refine T_op rfl rfl fun c hc => ?_  -- 19 := move t0
  simp; refine hc _ ?_; clear hc c
  refine T_op rfl rfl fun c hc => ?_  -- 20 := move t1
  simp; refine hc _ ?_; clear hc c
  refine T_op rfl rfl fun c hc => ?_  -- 21 := call value F18 (t19 t20) [22, 22]
  simp
  refine CallS.dat (walk18 a b) rfl rfl rfl rfl ?_
  simp [enum]; refine hc _ ?_; clear hc c
  refine T_op rfl rfl fun c hc => ?_  -- 22 := unOp 4 t21
  simp; refine hc _ ?_; clear hc c
  refine T_end (hn _ ?_); clear hn hp n p
  refine T_then ?_
  refine T_cond rfl (fun b2 => ?_) (fun b2 => ?_)  -- t22
  · skip
    refine T_seq ?_
    -- region 4
    refine T_region (is := [0]) rfl fun n p hn hp => ?_
    refine T_op rfl rfl fun c hc => ?_  -- 4 := assign true
    simp; refine hc _ ?_; clear hc c
    refine T_end (hn _ ?_); clear hn hp n p
    refine T_then ?_
    refine T_ret ?_
    refine X_thenR ?_
    exact ⟨_, Ent.sub [4] [] (by simp [sub, subSl, subHp, place, mp, mpL, mpO]; rfl), rfl, rfl, by simp [resD, resL]; try omega⟩
  · skip
    have hab : a.length ≤ 40 ∧ b.length ≤ 40 := by simpa using b2
    have hU := setU_len a b
    have hM := setM_len a b
    have hD := setD_len a b
    obtain ⟨ha, hb⟩ := hab
    refine T_skip ?_
    refine T_then ?_
    refine T_seq ?_
    -- region 5
    refine T_region (is := [0, 1, 2, 3, 4, 5, 6, 7]) rfl fun n p hn hp => ?_
    refine T_op rfl rfl fun c hc => ?_  -- 24 := move t0
    simp; refine hc _ ?_; clear hc c
    refine T_op rfl rfl fun c hc => ?_  -- 25 := move t1
    simp; refine hc _ ?_; clear hc c
    refine T_op rfl rfl fun c hc => ?_  -- 26 := call value F19 (t24 t25) [22, 22]
    simp
    refine CallS.dat (c19 a b (by omega) (by omega)) rfl rfl rfl rfl ?_
    simp [enum]; refine hc _ ?_; clear hc c
    refine T_op rfl rfl fun c hc => ?_  -- 23 := move t26
    simp; refine hc _ ?_; clear hc c
    refine T_op rfl rfl fun c hc => ?_  -- 27 := extract t23 0
    simp; refine hc _ ?_; clear hc c
    refine T_op rfl rfl fun c hc => ?_  -- 28 := extract t23 1
    simp; refine hc _ ?_; clear hc c
    refine T_op rfl rfl fun c hc => ?_  -- 5 := assign t27
    simp; refine hc _ ?_; clear hc c
    refine T_op rfl rfl fun c hc => ?_  -- 6 := assign t28
    simp; refine hc _ ?_; clear hc c
    refine T_end (hn _ ?_); clear hn hp n p
    refine T_then ?_
    refine T_seq ?_
    -- region 6
    refine T_region (is := [0, 1, 2, 3, 4, 5, 6, 7]) rfl fun n p hn hp => ?_
    refine T_op rfl rfl fun c hc => ?_  -- 30 := move t0
    simp; refine hc _ ?_; clear hc c
    refine T_op rfl rfl fun c hc => ?_  -- 31 := move t1
    simp; refine hc _ ?_; clear hc c
    refine T_op rfl rfl fun c hc => ?_  -- 32 := call value F20 (t30 t31) [22, 22]
    simp
    refine CallS.dat (c20 a b (by omega) (by omega)) rfl rfl rfl rfl ?_
    simp [enum]; refine hc _ ?_; clear hc c
    refine T_op rfl rfl fun c hc => ?_  -- 29 := move t32
    simp; refine hc _ ?_; clear hc c
    refine T_op rfl rfl fun c hc => ?_  -- 33 := extract t29 0
    simp; refine hc _ ?_; clear hc c
    refine T_op rfl rfl fun c hc => ?_  -- 34 := extract t29 1
    simp; refine hc _ ?_; clear hc c
    refine T_op rfl rfl fun c hc => ?_  -- 7 := assign t33
    simp; refine hc _ ?_; clear hc c
    refine T_op rfl rfl fun c hc => ?_  -- 8 := assign t34
    simp; refine hc _ ?_; clear hc c
    refine T_end (hn _ ?_); clear hn hp n p
    refine T_then ?_
    refine T_seq ?_
    -- region 7
    refine T_region (is := [0, 1, 2, 3, 4, 5, 6, 7]) rfl fun n p hn hp => ?_
    refine T_op rfl rfl fun c hc => ?_  -- 36 := move t0
    simp; refine hc _ ?_; clear hc c
    refine T_op rfl rfl fun c hc => ?_  -- 37 := move t1
    simp; refine hc _ ?_; clear hc c
    refine T_op rfl rfl fun c hc => ?_  -- 38 := call value F21 (t36 t37) [22, 22]
    simp
    refine CallS.dat (c21 a b (by omega) (by omega)) rfl rfl rfl rfl ?_
    simp [enum]; refine hc _ ?_; clear hc c
    refine T_op rfl rfl fun c hc => ?_  -- 35 := move t38
    simp; refine hc _ ?_; clear hc c
    refine T_op rfl rfl fun c hc => ?_  -- 39 := extract t35 0
    simp; refine hc _ ?_; clear hc c
    refine T_op rfl rfl fun c hc => ?_  -- 40 := extract t35 1
    simp; refine hc _ ?_; clear hc c
    refine T_op rfl rfl fun c hc => ?_  -- 9 := assign t39
    simp; refine hc _ ?_; clear hc c
    refine T_op rfl rfl fun c hc => ?_  -- 10 := assign t40
    simp; refine hc _ ?_; clear hc c
    refine T_end (hn _ ?_); clear hn hp n p
    refine T_then ?_
    refine T_seq ?_
    -- region 8
    refine T_region (is := [0, 1, 2, 3, 4, 5, 6, 7]) rfl fun n p hn hp => ?_
    refine T_op rfl rfl fun c hc => ?_  -- 42 := move t0
    simp; refine hc _ ?_; clear hc c
    refine T_op rfl rfl fun c hc => ?_  -- 43 := move t1
    simp; refine hc _ ?_; clear hc c
    refine T_op rfl rfl fun c hc => ?_  -- 44 := call value F22 (t42 t43) [22, 22]
    simp
    refine CallS.dat (c22 a b (by omega) (by omega)) rfl rfl rfl rfl ?_
    simp [enum]; refine hc _ ?_; clear hc c
    refine T_op rfl rfl fun c hc => ?_  -- 41 := move t44
    simp; refine hc _ ?_; clear hc c
    refine T_op rfl rfl fun c hc => ?_  -- 45 := extract t41 0
    simp; refine hc _ ?_; clear hc c
    refine T_op rfl rfl fun c hc => ?_  -- 46 := extract t41 1
    simp; refine hc _ ?_; clear hc c
    refine T_op rfl rfl fun c hc => ?_  -- 11 := assign t45
    simp; refine hc _ ?_; clear hc c
    refine T_op rfl rfl fun c hc => ?_  -- 12 := assign t46
    simp; refine hc _ ?_; clear hc c
    refine T_end (hn _ ?_); clear hn hp n p
    refine T_then ?_
    refine T_seq ?_
    -- region 9
    refine T_region (is := [0, 1, 2, 3, 4, 5, 6, 7]) rfl fun n p hn hp => ?_
    refine T_op rfl rfl fun c hc => ?_  -- 48 := move t0
    simp; refine hc _ ?_; clear hc c
    refine T_op rfl rfl fun c hc => ?_  -- 49 := move t1
    simp; refine hc _ ?_; clear hc c
    refine T_op rfl rfl fun c hc => ?_  -- 50 := call value F23 (t48 t49) [22, 22]
    simp
    refine CallS.dat (c23 a b (by omega) (by omega)) rfl rfl rfl rfl ?_
    simp [enum]; refine hc _ ?_; clear hc c
    refine T_op rfl rfl fun c hc => ?_  -- 47 := move t50
    simp; refine hc _ ?_; clear hc c
    refine T_op rfl rfl fun c hc => ?_  -- 51 := extract t47 0
    simp; refine hc _ ?_; clear hc c
    refine T_op rfl rfl fun c hc => ?_  -- 52 := extract t47 1
    simp; refine hc _ ?_; clear hc c
    refine T_op rfl rfl fun c hc => ?_  -- 13 := assign t51
    simp; refine hc _ ?_; clear hc c
    refine T_op rfl rfl fun c hc => ?_  -- 14 := assign t52
    simp; refine hc _ ?_; clear hc c
    refine T_end (hn _ ?_); clear hn hp n p
    refine T_then ?_
    refine T_seq ?_
    -- region 10
    refine T_region (is := [0, 1, 2, 3, 4, 5, 6, 7]) rfl fun n p hn hp => ?_
    refine T_op rfl rfl fun c hc => ?_  -- 54 := move t0
    simp; refine hc _ ?_; clear hc c
    refine T_op rfl rfl fun c hc => ?_  -- 55 := move t1
    simp; refine hc _ ?_; clear hc c
    refine T_op rfl rfl fun c hc => ?_  -- 56 := call value F24 (t54 t55) [22, 22]
    simp
    refine CallS.dat (c24 a b (by omega) (by omega)) rfl rfl rfl rfl ?_
    simp [enum]; refine hc _ ?_; clear hc c
    refine T_op rfl rfl fun c hc => ?_  -- 53 := move t56
    simp; refine hc _ ?_; clear hc c
    refine T_op rfl rfl fun c hc => ?_  -- 57 := extract t53 0
    simp; refine hc _ ?_; clear hc c
    refine T_op rfl rfl fun c hc => ?_  -- 58 := extract t53 1
    simp; refine hc _ ?_; clear hc c
    refine T_op rfl rfl fun c hc => ?_  -- 15 := assign t57
    simp; refine hc _ ?_; clear hc c
    refine T_op rfl rfl fun c hc => ?_  -- 16 := assign t58
    simp; refine hc _ ?_; clear hc c
    refine T_end (hn _ ?_); clear hn hp n p
    refine T_then ?_
    refine T_seq ?_
    -- region 11
    refine T_region (is := [0, 1, 2, 3, 4, 5, 6, 7, 8, 9, 10, 11, 12, 13, 14, 15, 16, 17, 18, 19, 20, 21, 22, 23, 24, 25, 26, 27, 28]) rfl fun n p hn hp => ?_
    refine T_op rfl rfl fun c hc => ?_  -- 59 := move t5
    simp; refine hc _ ?_; clear hc c
    refine T_op rfl rfl fun c hc => ?_  -- 60 := move t7
    simp; refine hc _ ?_; clear hc c
    refine T_op rfl rfl fun c hc => ?_  -- 61 := call value F25 (t59 t60) [22, 22]
    simp
    refine CallS.dat (u25 (setU a b) (by omega)) rfl rfl rfl rfl ?_
    simp [enum]; refine hc _ ?_; clear hc c
    refine T_op rfl rfl fun c hc => ?_  -- 62 := move t61
    simp; refine hc _ ?_; clear hc c
    refine T_pure rfl (pstep_one rfl rfl rfl rfl fun g0 => .op rfl (by simp [g0]; rfl)) fun c hc => ?_  -- 63 := move t6
    simp; refine hc _ ?_; clear hc c
    refine T_pure rfl (pstep_one rfl rfl rfl rfl fun g0 => .op rfl (by simp [g0]; rfl)) fun c hc => ?_  -- 64 := move t8
    simp; refine hc _ ?_; clear hc c
    refine T_pure rfl (pstep_one rfl rfl rfl rfl fun g0 => .op rfl (by simp [g0]; rfl)) fun c hc => ?_  -- 65 := binOp 25 t63 == t64
    simp; refine hc _ ?_; clear hc c
    refine T_op rfl rfl fun c hc => ?_  -- 66 := pick t62 t65 false
    simp; refine hc _ ?_; clear hc c
    refine T_op rfl rfl fun c hc => ?_  -- 67 := move t66
    simp; refine hc _ ?_; clear hc c
    refine T_pure rfl (pstep_one rfl rfl rfl rfl fun g0 => .op rfl (by simp [g0]; rfl)) fun c hc => ?_  -- 68 := move t9
    simp; refine hc _ ?_; clear hc c
    refine T_pure rfl (pstep_one rfl rfl rfl rfl fun g0 => .op rfl (by simp [g0]; rfl)) fun c hc => ?_  -- 69 := move t11
    simp; refine hc _ ?_; clear hc c
    refine T_pure rfl (pstep_one rfl rfl rfl rfl fun g0 => .dat (by simp [g0]; exact ⟨rfl, rfl⟩) (by exact u25 (setM a b) (by omega)) (by rfl)) fun c hc => ?_  -- 70 := call value F25 (t68 t69) [22, 22]
    simp; refine hc _ ?_; clear hc c
    refine T_op rfl rfl fun c hc => ?_  -- 71 := pick t67 t70 false
    simp; refine hc _ ?_; clear hc c
    refine T_op rfl rfl fun c hc => ?_  -- 72 := move t71
    simp; refine hc _ ?_; clear hc c
    refine T_pure rfl (pstep_one rfl rfl rfl rfl fun g0 => .op rfl (by simp [g0]; rfl)) fun c hc => ?_  -- 73 := move t10
    simp; refine hc _ ?_; clear hc c
    refine T_pure rfl (pstep_one rfl rfl rfl rfl fun g0 => .op rfl (by simp [g0]; rfl)) fun c hc => ?_  -- 74 := move t12
    simp; refine hc _ ?_; clear hc c
    refine T_pure rfl (pstep_one rfl rfl rfl rfl fun g0 => .op rfl (by simp [g0]; rfl)) fun c hc => ?_  -- 75 := binOp 25 t73 == t74
    simp; refine hc _ ?_; clear hc c
    refine T_op rfl rfl fun c hc => ?_  -- 76 := pick t72 t75 false
    simp; refine hc _ ?_; clear hc c
    refine T_op rfl rfl fun c hc => ?_  -- 77 := move t76
    simp; refine hc _ ?_; clear hc c
    refine T_pure rfl (pstep_one rfl rfl rfl rfl fun g0 => .op rfl (by simp [g0]; rfl)) fun c hc => ?_  -- 78 := move t13
    simp; refine hc _ ?_; clear hc c
    refine T_pure rfl (pstep_one rfl rfl rfl rfl fun g0 => .op rfl (by simp [g0]; rfl)) fun c hc => ?_  -- 79 := move t15
    simp; refine hc _ ?_; clear hc c
    refine T_pure rfl (pstep_one rfl rfl rfl rfl fun g0 => .dat (by simp [g0]; exact ⟨rfl, rfl⟩) (by exact u25 (setD a b) (by omega)) (by rfl)) fun c hc => ?_  -- 80 := call value F25 (t78 t79) [22, 22]
    simp; refine hc _ ?_; clear hc c
    refine T_op rfl rfl fun c hc => ?_  -- 81 := pick t77 t80 false
    simp; refine hc _ ?_; clear hc c
    refine T_op rfl rfl fun c hc => ?_  -- 82 := move t81
    simp; refine hc _ ?_; clear hc c
    refine T_pure rfl (pstep_one rfl rfl rfl rfl fun g0 => .op rfl (by simp [g0]; rfl)) fun c hc => ?_  -- 83 := move t14
    simp; refine hc _ ?_; clear hc c
    refine T_pure rfl (pstep_one rfl rfl rfl rfl fun g0 => .op rfl (by simp [g0]; rfl)) fun c hc => ?_  -- 84 := move t16
    simp; refine hc _ ?_; clear hc c
    refine T_pure rfl (pstep_one rfl rfl rfl rfl fun g0 => .op rfl (by simp [g0]; rfl)) fun c hc => ?_  -- 85 := binOp 25 t83 == t84
    simp; refine hc _ ?_; clear hc c
    refine T_op rfl rfl fun c hc => ?_  -- 86 := pick t82 t85 false
    simp; refine hc _ ?_; clear hc c
    refine T_op rfl rfl fun c hc => ?_  -- 4 := assign t86
    simp; refine hc _ ?_; clear hc c
    refine T_end (hn _ ?_); clear hn hp n p
    refine T_then ?_
    refine T_ret ?_
    exact ⟨_, Ent.sub [4] [] (by simp [sub, subSl, subHp, place, mp, mpL, mpO]; rfl), rfl, rfl, by simp [resD, resL]; try omega⟩
end Go.Proofs.Ytehboominkoldaa
