/- The terms, part i: what the statement about intersection and difference runs. -/
import Derived.Test.YtehboominkoldaaTh2
set_option linter.unusedVariables false
set_option linter.unusedSimpArgs false
namespace Go.Proofs.Ytehboominkoldaa
open Go Go.Proofs.Ytehboominkoldaa.Sx
-- WALKS (printed by skel.py)
-- sizar/sizarlaw06.TermsParts
theorem walk7 (a b : List Sp) : Does Try.prog 7 [spans a, spans b] (.dat (bV true)) [] := by
  refine Does.intro [4] Try.func7 rfl (by kernel_rfl) Try.ntmps7 rfl (by decide) (Nat.le_of_ble_eq_true rfl) ?_
  refine T_seq ?_
  -- region 0
  refine T_region (is := [0]) rfl fun n p hn hp => ?_
  refine T_op rfl rfl fun c hc => ?_  -- 4 := assign false
  simp; refine hc _ ?_; clear hc c
  refine T_end (hn _ ?_); clear hn hp n p
  refine T_then ?_
  refine T_seq ?_
  refine T_seq ?_
  -- region 1
  refine T_region (is := [0, 1]) rfl fun n p hn hp => ?_
  refine T_op rfl rfl fun c hc => ?_  -- 15 := call value F10 () []
  simp
  refine CallS.dat (walk10) rfl rfl rfl rfl ?_
  simp [enum]; refine hc _ ?_; clear hc c
  refine T_op rfl rfl fun c hc => ?_  -- 16 := unOp 4 t15
  simp; refine hc _ ?_; clear hc c
  refine T_end (hn _ ?_); clear hn hp n p
  refine T_then ?_
  refine T_false (by simp) ?_  -- t16
  refine T_skip ?_
  refine T_then ?_
  refine T_seq ?_
  refine T_seq ?_
  -- region 3
  refine T_region (is := [0, 1, 2, 3, 4, 5, 6, 7, 8, 9, 10, 11, 12, 13]) rfl fun n p hn hp => ?_
  refine T_op rfl rfl fun c hc => ?_  -- 17 := move t0
  simp; refine hc _ ?_; clear hc c
  refine T_op rfl rfl fun c hc => ?_  -- 18 := move t1
  simp; refine hc _ ?_; clear hc c
  refine T_op rfl rfl fun c hc => ?_  -- 19 := call value F18 (t17 t18) [22, 22]
  simp
  refine CallS.dat (walk18 a b) rfl rfl rfl rfl ?_
  simp [enum]; refine hc _ ?_; clear hc c
  refine T_op rfl rfl fun c hc => ?_  -- 20 := unOp 4 t19
  simp; refine hc _ ?_; clear hc c
  refine T_op rfl rfl fun c hc => ?_  -- 21 := move t20
  simp; refine hc _ ?_; clear hc c
  refine T_pure rfl (pstep_one rfl rfl rfl rfl fun g0 => .op rfl (by simp [g0]; rfl)) fun c hc => ?_  -- 22 := move t0
  simp; refine hc _ ?_; clear hc c
  refine T_pure rfl (pstep_one rfl rfl rfl rfl fun g0 => .dat (by simp [g0]; exact ⟨rfl, rfl⟩) (by exact walk14 a (by simp at g0; omega)) (by rfl)) fun c hc => ?_  -- 23 := call value F14 (t22) [22]
  simp; refine hc _ ?_; clear hc c
  refine T_pure rfl (pstep_one rfl rfl rfl rfl fun g0 => .op rfl (by simp [g0]; rfl)) fun c hc => ?_  -- 24 := binOp 25 t23 != 0
  simp; refine hc _ ?_; clear hc c
  refine T_op rfl rfl fun c hc => ?_  -- 25 := pick t21 true t24
  simp; refine hc _ ?_; clear hc c
  refine T_op rfl rfl fun c hc => ?_  -- 26 := move t25
  simp; refine hc _ ?_; clear hc c
  refine T_pure rfl (pstep_one rfl rfl rfl rfl fun g0 => .op rfl (by simp [g0]; rfl)) fun c hc => ?_  -- 27 := move t1
  simp; refine hc _ ?_; clear hc c
  refine T_pure rfl (pstep_one rfl rfl rfl rfl fun g0 => .dat (by simp [g0]; exact ⟨rfl, rfl⟩) (by exact walk14 b (by simp at g0; omega)) (by rfl)) fun c hc => ?_  -- 28 := call value F14 (t27) [22]
  simp; refine hc _ ?_; clear hc c
  refine T_pure rfl (pstep_one rfl rfl rfl rfl fun g0 => .op rfl (by simp [g0]; rfl)) fun c hc => ?_  -- 29 := binOp 25 t28 != 0
  simp; refine hc _ ?_; clear hc c
  refine T_op rfl rfl fun c hc => ?_  -- 30 := pick t26 true t29
  simp; refine hc _ ?_; clear hc c
  refine T_end (hn _ ?_); clear hn hp n p
  refine T_then ?_
  refine T_cond rfl (fun b2 => ?_) (fun b2 => ?_)  -- t30
  · skip
    refine T_seq ?_
    -- region 4
    refine T_region (is := [0]) rfl fun n p hn hp => ?_
    refine T_op rfl rfl fun c hc => ?_  -- 4 := assign true
    simp; refine hc _ ?_; clear hc c
    refine T_end (hn _ ?_); clear hn hp n p
    refine T_then ?_
    refine T_ret ?_
    refine X_thenR ?_
    exact ⟨_, Ent.sub [4] [] (by simp [sub, subSl, subHp, place, mp, mpL, mpO]; rfl), rfl, rfl, by simp [resD, resL]; try omega⟩
  · skip
    have hF := b2
    simp at hF
    have hla : a.length ≤ 40 := by omega
    have hlb : b.length ≤ 40 := by omega
    have hka : chk (-1) a = true := errOf_zero.1 (by omega)
    have hkb : chk (-1) b = true := errOf_zero.1 (by omega)
    have hU := setU_len a b
    have hM := setM_len a b
    have hD := setD_len a b
    obtain ⟨kU, mU⟩ := setU_law hka hkb
    obtain ⟨kM, mM⟩ := setM_law hka hkb
    obtain ⟨kD, mD⟩ := setD_law hka hkb
    have h1 : setM (setM a b) (setD a b) = [] := chk_unique (setM_law kM kD).1 rfl fun t => by rw [(setM_law kM kD).2, mM, mD]; cases mem a t <;> cases mem b t <;> rfl
    have h2 : setU (setM a b) (setD a b) = a := chk_unique (setU_law kM kD).1 hka fun t => by rw [(setU_law kM kD).2, mM, mD]; cases mem a t <;> cases mem b t <;> rfl
    have h3 : setD a (setD a b) = setM a b := chk_unique (setD_law hka kD).1 kM fun t => by rw [(setD_law hka kD).2, mM, mD]; cases mem a t <;> cases mem b t <;> rfl
    have d46 := d21 (a := setM a b) (b := setD a b) (by omega) (by omega) kM kD
    have d52 := d19 (a := setM a b) (b := setD a b) (by omega) (by omega) kM kD
    have d58 := d23 (a := a) (b := setD a b) (by omega) (by omega) hka kD
    rw [h1] at d46
    rw [h2] at d52
    rw [h3] at d58
    refine T_skip ?_
    refine T_then ?_
    refine T_seq ?_
    -- region 5
    refine T_region (is := [0, 1, 2, 3, 4, 5, 6, 7]) rfl fun n p hn hp => ?_
    refine T_op rfl rfl fun c hc => ?_  -- 32 := move t0
    simp; refine hc _ ?_; clear hc c
    refine T_op rfl rfl fun c hc => ?_  -- 33 := move t1
    simp; refine hc _ ?_; clear hc c
    refine T_op rfl rfl fun c hc => ?_  -- 34 := call value F21 (t32 t33) [22, 22]
    simp
    refine CallS.dat (d21 (by omega) (by omega) hka hkb) rfl rfl rfl rfl ?_
    simp [enum]; refine hc _ ?_; clear hc c
    refine T_op rfl rfl fun c hc => ?_  -- 31 := move t34
    simp; refine hc _ ?_; clear hc c
    refine T_op rfl rfl fun c hc => ?_  -- 35 := extract t31 0
    simp; refine hc _ ?_; clear hc c
    refine T_op rfl rfl fun c hc => ?_  -- 36 := extract t31 1
    simp; refine hc _ ?_; clear hc c
    refine T_op rfl rfl fun c hc => ?_  -- 5 := assign t35
    simp; refine hc _ ?_; clear hc c
    refine T_op rfl rfl fun c hc => ?_  -- 6 := assign t36
    simp; refine hc _ ?_; clear hc c
    refine T_end (hn _ ?_); clear hn hp n p
    refine T_then ?_
    refine T_seq ?_
    -- region 6
    refine T_region (is := [0, 1, 2, 3, 4, 5, 6, 7]) rfl fun n p hn hp => ?_
    refine T_op rfl rfl fun c hc => ?_  -- 38 := move t0
    simp; refine hc _ ?_; clear hc c
    refine T_op rfl rfl fun c hc => ?_  -- 39 := move t1
    simp; refine hc _ ?_; clear hc c
    refine T_op rfl rfl fun c hc => ?_  -- 40 := call value F23 (t38 t39) [22, 22]
    simp
    refine CallS.dat (d23 (by omega) (by omega) hka hkb) rfl rfl rfl rfl ?_
    simp [enum]; refine hc _ ?_; clear hc c
    refine T_op rfl rfl fun c hc => ?_  -- 37 := move t40
    simp; refine hc _ ?_; clear hc c
    refine T_op rfl rfl fun c hc => ?_  -- 41 := extract t37 0
    simp; refine hc _ ?_; clear hc c
    refine T_op rfl rfl fun c hc => ?_  -- 42 := extract t37 1
    simp; refine hc _ ?_; clear hc c
    refine T_op rfl rfl fun c hc => ?_  -- 7 := assign t41
    simp; refine hc _ ?_; clear hc c
    refine T_op rfl rfl fun c hc => ?_  -- 8 := assign t42
    simp; refine hc _ ?_; clear hc c
    refine T_end (hn _ ?_); clear hn hp n p
    refine T_then ?_
    refine T_seq ?_
    -- region 7
    refine T_region (is := [0, 1, 2, 3, 4, 5, 6, 7]) rfl fun n p hn hp => ?_
    refine T_op rfl rfl fun c hc => ?_  -- 44 := move t5
    simp; refine hc _ ?_; clear hc c
    refine T_op rfl rfl fun c hc => ?_  -- 45 := move t7
    simp; refine hc _ ?_; clear hc c
    refine T_op rfl rfl fun c hc => ?_  -- 46 := call value F21 (t44 t45) [22, 22]
    simp
    refine CallS.dat (d46) rfl rfl rfl rfl ?_
    simp [enum]; refine hc _ ?_; clear hc c
    refine T_op rfl rfl fun c hc => ?_  -- 43 := move t46
    simp; refine hc _ ?_; clear hc c
    refine T_op rfl rfl fun c hc => ?_  -- 47 := extract t43 0
    simp; refine hc _ ?_; clear hc c
    refine T_op rfl rfl fun c hc => ?_  -- 48 := extract t43 1
    simp; refine hc _ ?_; clear hc c
    refine T_op rfl rfl fun c hc => ?_  -- 9 := assign t47
    simp; refine hc _ ?_; clear hc c
    refine T_op rfl rfl fun c hc => ?_  -- 10 := assign t48
    simp; refine hc _ ?_; clear hc c
    refine T_end (hn _ ?_); clear hn hp n p
    refine T_then ?_
    refine T_seq ?_
    -- region 8
    refine T_region (is := [0, 1, 2, 3, 4, 5, 6, 7]) rfl fun n p hn hp => ?_
    refine T_op rfl rfl fun c hc => ?_  -- 50 := move t5
    simp; refine hc _ ?_; clear hc c
    refine T_op rfl rfl fun c hc => ?_  -- 51 := move t7
    simp; refine hc _ ?_; clear hc c
    refine T_op rfl rfl fun c hc => ?_  -- 52 := call value F19 (t50 t51) [22, 22]
    simp
    refine CallS.dat (d52) rfl rfl rfl rfl ?_
    simp [enum]; refine hc _ ?_; clear hc c
    refine T_op rfl rfl fun c hc => ?_  -- 49 := move t52
    simp; refine hc _ ?_; clear hc c
    refine T_op rfl rfl fun c hc => ?_  -- 53 := extract t49 0
    simp; refine hc _ ?_; clear hc c
    refine T_op rfl rfl fun c hc => ?_  -- 54 := extract t49 1
    simp; refine hc _ ?_; clear hc c
    refine T_op rfl rfl fun c hc => ?_  -- 11 := assign t53
    simp; refine hc _ ?_; clear hc c
    refine T_op rfl rfl fun c hc => ?_  -- 12 := assign t54
    simp; refine hc _ ?_; clear hc c
    refine T_end (hn _ ?_); clear hn hp n p
    refine T_then ?_
    refine T_seq ?_
    -- region 9
    refine T_region (is := [0, 1, 2, 3, 4, 5, 6, 7]) rfl fun n p hn hp => ?_
    refine T_op rfl rfl fun c hc => ?_  -- 56 := move t0
    simp; refine hc _ ?_; clear hc c
    refine T_op rfl rfl fun c hc => ?_  -- 57 := move t7
    simp; refine hc _ ?_; clear hc c
    refine T_op rfl rfl fun c hc => ?_  -- 58 := call value F23 (t56 t57) [22, 22]
    simp
    refine CallS.dat (d58) rfl rfl rfl rfl ?_
    simp [enum]; refine hc _ ?_; clear hc c
    refine T_op rfl rfl fun c hc => ?_  -- 55 := move t58
    simp; refine hc _ ?_; clear hc c
    refine T_op rfl rfl fun c hc => ?_  -- 59 := extract t55 0
    simp; refine hc _ ?_; clear hc c
    refine T_op rfl rfl fun c hc => ?_  -- 60 := extract t55 1
    simp; refine hc _ ?_; clear hc c
    refine T_op rfl rfl fun c hc => ?_  -- 13 := assign t59
    simp; refine hc _ ?_; clear hc c
    refine T_op rfl rfl fun c hc => ?_  -- 14 := assign t60
    simp; refine hc _ ?_; clear hc c
    refine T_end (hn _ ?_); clear hn hp n p
    refine T_then ?_
    refine T_seq ?_
    -- region 10
    refine T_region (is := [0, 1, 2, 3, 4, 5, 6, 7, 8, 9, 10, 11, 12, 13, 14, 15, 16, 17, 18, 19, 20, 21, 22, 23, 24, 25, 26, 27, 28, 29, 30, 31, 32, 33]) rfl fun n p hn hp => ?_
    refine T_op rfl rfl fun c hc => ?_  -- 61 := move t6
    simp; refine hc _ ?_; clear hc c
    refine T_op rfl rfl fun c hc => ?_  -- 62 := binOp 25 t61 == 0
    simp; refine hc _ ?_; clear hc c
    refine T_op rfl rfl fun c hc => ?_  -- 63 := move t62
    simp; refine hc _ ?_; clear hc c
    refine T_pure rfl (pstep_one rfl rfl rfl rfl fun g0 => .op rfl (by simp [g0]; rfl)) fun c hc => ?_  -- 64 := move t8
    simp; refine hc _ ?_; clear hc c
    refine T_pure rfl (pstep_one rfl rfl rfl rfl fun g0 => .op rfl (by simp [g0]; rfl)) fun c hc => ?_  -- 65 := binOp 25 t64 == 0
    simp; refine hc _ ?_; clear hc c
    refine T_op rfl rfl fun c hc => ?_  -- 66 := pick t63 t65 false
    simp; refine hc _ ?_; clear hc c
    refine T_op rfl rfl fun c hc => ?_  -- 67 := move t66
    simp; refine hc _ ?_; clear hc c
    refine T_pure rfl (pstep_one rfl rfl rfl rfl fun g0 => .op rfl (by simp [g0]; rfl)) fun c hc => ?_  -- 68 := move t10
    simp; refine hc _ ?_; clear hc c
    refine T_pure rfl (pstep_one rfl rfl rfl rfl fun g0 => .op rfl (by simp [g0]; rfl)) fun c hc => ?_  -- 69 := binOp 25 t68 == 0
    simp; refine hc _ ?_; clear hc c
    refine T_op rfl rfl fun c hc => ?_  -- 70 := pick t67 t69 false
    simp; refine hc _ ?_; clear hc c
    refine T_op rfl rfl fun c hc => ?_  -- 71 := move t70
    simp; refine hc _ ?_; clear hc c
    refine T_pure rfl (pstep_one rfl rfl rfl rfl fun g0 => .op rfl (by simp [g0]; rfl)) fun c hc => ?_  -- 72 := move t12
    simp; refine hc _ ?_; clear hc c
    refine T_pure rfl (pstep_one rfl rfl rfl rfl fun g0 => .op rfl (by simp [g0]; rfl)) fun c hc => ?_  -- 73 := binOp 25 t72 == 0
    simp; refine hc _ ?_; clear hc c
    refine T_op rfl rfl fun c hc => ?_  -- 74 := pick t71 t73 false
    simp; refine hc _ ?_; clear hc c
    refine T_op rfl rfl fun c hc => ?_  -- 75 := move t74
    simp; refine hc _ ?_; clear hc c
    refine T_pure rfl (pstep_one rfl rfl rfl rfl fun g0 => .op rfl (by simp [g0]; rfl)) fun c hc => ?_  -- 76 := move t14
    simp; refine hc _ ?_; clear hc c
    refine T_pure rfl (pstep_one rfl rfl rfl rfl fun g0 => .op rfl (by simp [g0]; rfl)) fun c hc => ?_  -- 77 := binOp 25 t76 == 0
    simp; refine hc _ ?_; clear hc c
    refine T_op rfl rfl fun c hc => ?_  -- 78 := pick t75 t77 false
    simp; refine hc _ ?_; clear hc c
    refine T_op rfl rfl fun c hc => ?_  -- 79 := move t78
    simp; refine hc _ ?_; clear hc c
    refine T_pure rfl (pstep_one rfl rfl rfl rfl fun g0 => .op rfl (by simp [g0]; rfl)) fun c hc => ?_  -- 80 := move t9
    simp; refine hc _ ?_; clear hc c
    refine T_pure rfl (pstep_one rfl rfl rfl rfl fun g0 => .op rfl (by simp [g0]; rfl)) fun c hc => ?_  -- 81 := call len (t80) [22]
    simp; refine hc _ ?_; clear hc c
    refine T_pure rfl (pstep_one rfl rfl rfl rfl fun g0 => .op rfl (by simp [g0]; rfl)) fun c hc => ?_  -- 82 := binOp 3 t81 == 0
    simp; refine hc _ ?_; clear hc c
    refine T_op rfl rfl fun c hc => ?_  -- 83 := pick t79 t82 false
    simp; refine hc _ ?_; clear hc c
    refine T_op rfl rfl fun c hc => ?_  -- 84 := move t83
    simp; refine hc _ ?_; clear hc c
    refine T_pure rfl (pstep_one rfl rfl rfl rfl fun g0 => .op rfl (by simp [g0]; rfl)) fun c hc => ?_  -- 85 := move t11
    simp; refine hc _ ?_; clear hc c
    refine T_pure rfl (pstep_one rfl rfl rfl rfl fun g0 => .op rfl (by simp [g0]; rfl)) fun c hc => ?_  -- 86 := move t0
    simp; refine hc _ ?_; clear hc c
    refine T_pure rfl (pstep_one rfl rfl rfl rfl fun g0 => .dat (by simp [g0]; exact ⟨rfl, rfl⟩) (by exact u25 a (by omega)) (by rfl)) fun c hc => ?_  -- 87 := call value F25 (t85 t86) [22, 22]
    simp; refine hc _ ?_; clear hc c
    refine T_op rfl rfl fun c hc => ?_  -- 88 := pick t84 t87 false
    simp; refine hc _ ?_; clear hc c
    refine T_op rfl rfl fun c hc => ?_  -- 89 := move t88
    simp; refine hc _ ?_; clear hc c
    refine T_pure rfl (pstep_one rfl rfl rfl rfl fun g0 => .op rfl (by simp [g0]; rfl)) fun c hc => ?_  -- 90 := move t13
    simp; refine hc _ ?_; clear hc c
    refine T_pure rfl (pstep_one rfl rfl rfl rfl fun g0 => .op rfl (by simp [g0]; rfl)) fun c hc => ?_  -- 91 := move t5
    simp; refine hc _ ?_; clear hc c
    refine T_pure rfl (pstep_one rfl rfl rfl rfl fun g0 => .dat (by simp [g0]; exact ⟨rfl, rfl⟩) (by exact u25 (setM a b) (by omega)) (by rfl)) fun c hc => ?_  -- 92 := call value F25 (t90 t91) [22, 22]
    simp; refine hc _ ?_; clear hc c
    refine T_op rfl rfl fun c hc => ?_  -- 93 := pick t89 t92 false
    simp; refine hc _ ?_; clear hc c
    refine T_op rfl rfl fun c hc => ?_  -- 4 := assign t93
    simp; refine hc _ ?_; clear hc c
    refine T_end (hn _ ?_); clear hn hp n p
    refine T_then ?_
    refine T_ret ?_
    exact ⟨_, Ent.sub [4] [] (by simp [sub, subSl, subHp, place, mp, mpL, mpO]; rfl), rfl, rfl, by simp [resD, resL]; try omega⟩
end Go.Proofs.Ytehboominkoldaa
