/- The terms, part k: what the statement about sizes runs. -/
import Derived.Test.YtehboominkoldaaTh2
set_option linter.unusedVariables false
set_option linter.unusedSimpArgs false
namespace Go.Proofs.Ytehboominkoldaa
open Go Go.Proofs.Ytehboominkoldaa.Sx
theorem d12 {l : List Sp} (hl : l.length ≤ 1000000) (k : chk (-1) l = true) : Does Try.prog 12 [spans l] (.tup [.dat (iD (sumOf l)), .dat (iD 0)]) [] := by
  have := walk12 l hl
  simpa [cntOf, errOf, k] using this
theorem cnt_le (f : Int → Bool) : ∀ n : Nat, 0 ≤ cnt f n ∧ cnt f n ≤ n
  | 0 => by simp [cnt]
  | n + 1 => by
    have := cnt_le f n
    simp only [cnt]
    split <;> push_cast <;> omega
-- WALKS (printed by skel.py)
-- sizar/sizarlaw06.TermsSizes
theorem walk8 (a b : List Sp) : Does Try.prog 8 [spans a, spans b] (.dat (bV true)) [] := by
  refine Does.intro [4] Try.func8 rfl (by kernel_rfl) Try.ntmps8 rfl (by decide) (Nat.le_of_ble_eq_true rfl) ?_
  refine T_seq ?_
  -- region 0
  refine T_region (is := [0]) rfl fun n p hn hp => ?_
  refine T_op rfl rfl fun c hc => ?_  -- 4 := assign false
  simp; refine hc _ ?_; clear hc c
  refine T_end (hn _ ?_); clear hn hp n p
  refine T_then ?_
  refine T_seq ?_
  refine T_seq ?_
  -- region 1
  refine T_region (is := [0, 1]) rfl fun n p hn hp => ?_
  refine T_op rfl rfl fun c hc => ?_  -- 19 := call value F10 () []
  simp
  refine CallS.dat (walk10) rfl rfl rfl rfl ?_
  simp [enum]; refine hc _ ?_; clear hc c
  refine T_op rfl rfl fun c hc => ?_  -- 20 := unOp 4 t19
  simp; refine hc _ ?_; clear hc c
  refine T_end (hn _ ?_); clear hn hp n p
  refine T_then ?_
  refine T_false (by simp) ?_  -- t20
  refine T_skip ?_
  refine T_then ?_
  refine T_seq ?_
  refine T_seq ?_
  -- region 3
  refine T_region (is := [0, 1, 2, 3, 4, 5, 6, 7, 8, 9, 10, 11, 12, 13]) rfl fun n p hn hp => ?_
  refine T_op rfl rfl fun c hc => ?_  -- 21 := move t0
  simp; refine hc _ ?_; clear hc c
  refine T_op rfl rfl fun c hc => ?_  -- 22 := move t1
  simp; refine hc _ ?_; clear hc c
  refine T_op rfl rfl fun c hc => ?_  -- 23 := call value F18 (t21 t22) [22, 22]
  simp
  refine CallS.dat (walk18 a b) rfl rfl rfl rfl ?_
  simp [enum]; refine hc _ ?_; clear hc c
  refine T_op rfl rfl fun c hc => ?_  -- 24 := unOp 4 t23
  simp; refine hc _ ?_; clear hc c
  refine T_op rfl rfl fun c hc => ?_  -- 25 := move t24
  simp; refine hc _ ?_; clear hc c
  refine T_pure rfl (pstep_one rfl rfl rfl rfl fun g0 => .op rfl (by simp [g0]; rfl)) fun c hc => ?_  -- 26 := move t0
  simp; refine hc _ ?_; clear hc c
  refine T_pure rfl (pstep_one rfl rfl rfl rfl fun g0 => .dat (by simp [g0]; exact ⟨rfl, rfl⟩) (by exact walk14 a (by simp at g0; omega)) (by rfl)) fun c hc => ?_  -- 27 := call value F14 (t26) [22]
  simp; refine hc _ ?_; clear hc c
  refine T_pure rfl (pstep_one rfl rfl rfl rfl fun g0 => .op rfl (by simp [g0]; rfl)) fun c hc => ?_  -- 28 := binOp 25 t27 != 0
  simp; refine hc _ ?_; clear hc c
  refine T_op rfl rfl fun c hc => ?_  -- 29 := pick t25 true t28
  simp; refine hc _ ?_; clear hc c
  refine T_op rfl rfl fun c hc => ?_  -- 30 := move t29
  simp; refine hc _ ?_; clear hc c
  refine T_pure rfl (pstep_one rfl rfl rfl rfl fun g0 => .op rfl (by simp [g0]; rfl)) fun c hc => ?_  -- 31 := move t1
  simp; refine hc _ ?_; clear hc c
  refine T_pure rfl (pstep_one rfl rfl rfl rfl fun g0 => .dat (by simp [g0]; exact ⟨rfl, rfl⟩) (by exact walk14 b (by simp at g0; omega)) (by rfl)) fun c hc => ?_  -- 32 := call value F14 (t31) [22]
  simp; refine hc _ ?_; clear hc c
  refine T_pure rfl (pstep_one rfl rfl rfl rfl fun g0 => .op rfl (by simp [g0]; rfl)) fun c hc => ?_  -- 33 := binOp 25 t32 != 0
  simp; refine hc _ ?_; clear hc c
  refine T_op rfl rfl fun c hc => ?_  -- 34 := pick t30 true t33
  simp; refine hc _ ?_; clear hc c
  refine T_end (hn _ ?_); clear hn hp n p
  refine T_then ?_
  refine T_cond rfl (fun b2 => ?_) (fun b2 => ?_)  -- t34
  · skip
    refine T_seq ?_
    -- region 4
    refine T_region (is := [0]) rfl fun n p hn hp => ?_
    refine T_op rfl rfl fun c hc => ?_  -- 4 := assign true
    simp; refine hc _ ?_; clear hc c
    refine T_end (hn _ ?_); clear hn hp n p
    refine T_then ?_
    refine T_ret ?_
    refine X_thenR ?_
    exact ⟨_, Ent.sub [4] [] (by simp [sub, subSl, subHp, place, mp, mpL, mpO]; rfl), rfl, rfl, by simp [resD, resL]; try omega⟩
  · skip
    have hF := b2
    simp at hF
    have hla : a.length ≤ 40 := by omega
    have hlb : b.length ≤ 40 := by omega
    have hka : chk (-1) a = true := errOf_zero.1 (by omega)
    have hkb : chk (-1) b = true := errOf_zero.1 (by omega)
    have hU := setU_len a b
    have hM := setM_len a b
    have hD := setD_len a b
    obtain ⟨kU, mU⟩ := setU_law hka hkb
    obtain ⟨kM, mM⟩ := setM_law hka hkb
    obtain ⟨kD, mD⟩ := setD_law hka hkb
    have sA := sumOf_cnt hka
    have sB := sumOf_cnt hkb
    have sU := sumOf_cnt kU
    have sM := sumOf_cnt kM
    rw [show mem (setU a b) = fun x => mem a x || mem b x from funext mU] at sU
    rw [show mem (setM a b) = fun x => mem a x && mem b x from funext mM] at sM
    have hcnt := cnt_or_and (mem a) (mem b) 1024
    have hsum : sumOf (setU a b) + sumOf (setM a b) = sumOf a + sumOf b := by omega
    have bA := cnt_le (mem a) 1024
    have bB := cnt_le (mem b) 1024
    have w1 : IntKind.i64.wrap (sumOf (setU a b) + sumOf (setM a b)) = sumOf a + sumOf b := by rw [hsum]; exact wr (by omega)
    have w2 : IntKind.i64.wrap (sumOf a + sumOf b) = sumOf a + sumOf b := wr (by omega)
    refine T_skip ?_
    refine T_then ?_
    refine T_seq ?_
    -- region 5
    refine T_region (is := [0, 1, 2, 3, 4, 5, 6, 7]) rfl fun n p hn hp => ?_
    refine T_op rfl rfl fun c hc => ?_  -- 36 := move t0
    simp; refine hc _ ?_; clear hc c
    refine T_op rfl rfl fun c hc => ?_  -- 37 := move t1
    simp; refine hc _ ?_; clear hc c
    refine T_op rfl rfl fun c hc => ?_  -- 38 := call value F19 (t36 t37) [22, 22]
    simp
    refine CallS.dat (d19 (by omega) (by omega) hka hkb) rfl rfl rfl rfl ?_
    simp [enum]; refine hc _ ?_; clear hc c
    refine T_op rfl rfl fun c hc => ?_  -- 35 := move t38
    simp; refine hc _ ?_; clear hc c
    refine T_op rfl rfl fun c hc => ?_  -- 39 := extract t35 0
    simp; refine hc _ ?_; clear hc c
    refine T_op rfl rfl fun c hc => ?_  -- 40 := extract t35 1
    simp; refine hc _ ?_; clear hc c
    refine T_op rfl rfl fun c hc => ?_  -- 5 := assign t39
    simp; refine hc _ ?_; clear hc c
    refine T_op rfl rfl fun c hc => ?_  -- 6 := assign t40
    simp; refine hc _ ?_; clear hc c
    refine T_end (hn _ ?_); clear hn hp n p
    refine T_then ?_
    refine T_seq ?_
    -- region 6
    refine T_region (is := [0, 1, 2, 3, 4, 5, 6, 7]) rfl fun n p hn hp => ?_
    refine T_op rfl rfl fun c hc => ?_  -- 42 := move t0
    simp; refine hc _ ?_; clear hc c
    refine T_op rfl rfl fun c hc => ?_  -- 43 := move t1
    simp; refine hc _ ?_; clear hc c
    refine T_op rfl rfl fun c hc => ?_  -- 44 := call value F21 (t42 t43) [22, 22]
    simp
    refine CallS.dat (d21 (by omega) (by omega) hka hkb) rfl rfl rfl rfl ?_
    simp [enum]; refine hc _ ?_; clear hc c
    refine T_op rfl rfl fun c hc => ?_  -- 41 := move t44
    simp; refine hc _ ?_; clear hc c
    refine T_op rfl rfl fun c hc => ?_  -- 45 := extract t41 0
    simp; refine hc _ ?_; clear hc c
    refine T_op rfl rfl fun c hc => ?_  -- 46 := extract t41 1
    simp; refine hc _ ?_; clear hc c
    refine T_op rfl rfl fun c hc => ?_  -- 7 := assign t45
    simp; refine hc _ ?_; clear hc c
    refine T_op rfl rfl fun c hc => ?_  -- 8 := assign t46
    simp; refine hc _ ?_; clear hc c
    refine T_end (hn _ ?_); clear hn hp n p
    refine T_then ?_
    refine T_seq ?_
    -- region 7
    refine T_region (is := [0, 1, 2, 3, 4, 5, 6]) rfl fun n p hn hp => ?_
    refine T_op rfl rfl fun c hc => ?_  -- 48 := move t0
    simp; refine hc _ ?_; clear hc c
    refine T_op rfl rfl fun c hc => ?_  -- 49 := call value F12 (t48) [22]
    simp
    refine CallS.dat (d12 (by omega) hka) rfl rfl rfl rfl ?_
    simp [enum]; refine hc _ ?_; clear hc c
    refine T_op rfl rfl fun c hc => ?_  -- 47 := move t49
    simp; refine hc _ ?_; clear hc c
    refine T_op rfl rfl fun c hc => ?_  -- 50 := extract t47 0
    simp; refine hc _ ?_; clear hc c
    refine T_op rfl rfl fun c hc => ?_  -- 51 := extract t47 1
    simp; refine hc _ ?_; clear hc c
    refine T_op rfl rfl fun c hc => ?_  -- 9 := assign t50
    simp; refine hc _ ?_; clear hc c
    refine T_op rfl rfl fun c hc => ?_  -- 10 := assign t51
    simp; refine hc _ ?_; clear hc c
    refine T_end (hn _ ?_); clear hn hp n p
    refine T_then ?_
    refine T_seq ?_
    -- region 8
    refine T_region (is := [0, 1, 2, 3, 4, 5, 6]) rfl fun n p hn hp => ?_
    refine T_op rfl rfl fun c hc => ?_  -- 53 := move t1
    simp; refine hc _ ?_; clear hc c
    refine T_op rfl rfl fun c hc => ?_  -- 54 := call value F12 (t53) [22]
    simp
    refine CallS.dat (d12 (by omega) hkb) rfl rfl rfl rfl ?_
    simp [enum]; refine hc _ ?_; clear hc c
    refine T_op rfl rfl fun c hc => ?_  -- 52 := move t54
    simp; refine hc _ ?_; clear hc c
    refine T_op rfl rfl fun c hc => ?_  -- 55 := extract t52 0
    simp; refine hc _ ?_; clear hc c
    refine T_op rfl rfl fun c hc => ?_  -- 56 := extract t52 1
    simp; refine hc _ ?_; clear hc c
    refine T_op rfl rfl fun c hc => ?_  -- 11 := assign t55
    simp; refine hc _ ?_; clear hc c
    refine T_op rfl rfl fun c hc => ?_  -- 12 := assign t56
    simp; refine hc _ ?_; clear hc c
    refine T_end (hn _ ?_); clear hn hp n p
    refine T_then ?_
    refine T_seq ?_
    -- region 9
    refine T_region (is := [0, 1, 2, 3, 4, 5, 6]) rfl fun n p hn hp => ?_
    refine T_op rfl rfl fun c hc => ?_  -- 58 := move t5
    simp; refine hc _ ?_; clear hc c
    refine T_op rfl rfl fun c hc => ?_  -- 59 := call value F12 (t58) [22]
    simp
    refine CallS.dat (d12 (by omega) kU) rfl rfl rfl rfl ?_
    simp [enum]; refine hc _ ?_; clear hc c
    refine T_op rfl rfl fun c hc => ?_  -- 57 := move t59
    simp; refine hc _ ?_; clear hc c
    refine T_op rfl rfl fun c hc => ?_  -- 60 := extract t57 0
    simp; refine hc _ ?_; clear hc c
    refine T_op rfl rfl fun c hc => ?_  -- 61 := extract t57 1
    simp; refine hc _ ?_; clear hc c
    refine T_op rfl rfl fun c hc => ?_  -- 13 := assign t60
    simp; refine hc _ ?_; clear hc c
    refine T_op rfl rfl fun c hc => ?_  -- 14 := assign t61
    simp; refine hc _ ?_; clear hc c
    refine T_end (hn _ ?_); clear hn hp n p
    refine T_then ?_
    refine T_seq ?_
    -- region 10
    refine T_region (is := [0, 1, 2, 3, 4, 5, 6]) rfl fun n p hn hp => ?_
    refine T_op rfl rfl fun c hc => ?_  -- 63 := move t7
    simp; refine hc _ ?_; clear hc c
    refine T_op rfl rfl fun c hc => ?_  -- 64 := call value F12 (t63) [22]
    simp
    refine CallS.dat (d12 (by omega) kM) rfl rfl rfl rfl ?_
    simp [enum]; refine hc _ ?_; clear hc c
    refine T_op rfl rfl fun c hc => ?_  -- 62 := move t64
    simp; refine hc _ ?_; clear hc c
    refine T_op rfl rfl fun c hc => ?_  -- 65 := extract t62 0
    simp; refine hc _ ?_; clear hc c
    refine T_op rfl rfl fun c hc => ?_  -- 66 := extract t62 1
    simp; refine hc _ ?_; clear hc c
    refine T_op rfl rfl fun c hc => ?_  -- 15 := assign t65
    simp; refine hc _ ?_; clear hc c
    refine T_op rfl rfl fun c hc => ?_  -- 16 := assign t66
    simp; refine hc _ ?_; clear hc c
    refine T_end (hn _ ?_); clear hn hp n p
    refine T_then ?_
    refine T_seq ?_
    refine T_seq ?_
    -- region 11
    refine T_region (is := [0, 1, 2, 3, 4, 5, 6, 7, 8, 9, 10, 11, 12, 13, 14, 15, 16, 17, 18, 19, 20, 21, 22, 23, 24, 25, 26, 27, 28, 29, 30]) rfl fun n p hn hp => ?_
    refine T_op rfl rfl fun c hc => ?_  -- 67 := move t6
    simp; refine hc _ ?_; clear hc c
    refine T_op rfl rfl fun c hc => ?_  -- 68 := binOp 25 t67 != 0
    simp; refine hc _ ?_; clear hc c
    refine T_op rfl rfl fun c hc => ?_  -- 69 := move t68
    simp; refine hc _ ?_; clear hc c
    refine T_pure rfl (pstep_one rfl rfl rfl rfl fun g0 => .op rfl (by simp [g0]; rfl)) fun c hc => ?_  -- 70 := move t8
    simp; refine hc _ ?_; clear hc c
    refine T_pure rfl (pstep_one rfl rfl rfl rfl fun g0 => .op rfl (by simp [g0]; rfl)) fun c hc => ?_  -- 71 := binOp 25 t70 != 0
    simp; refine hc _ ?_; clear hc c
    refine T_op rfl rfl fun c hc => ?_  -- 72 := pick t69 true t71
    simp; refine hc _ ?_; clear hc c
    refine T_op rfl rfl fun c hc => ?_  -- 73 := move t72
    simp; refine hc _ ?_; clear hc c
    refine T_pure rfl (pstep_one rfl rfl rfl rfl fun g0 => .op rfl (by simp [g0]; rfl)) fun c hc => ?_  -- 74 := move t10
    simp; refine hc _ ?_; clear hc c
    refine T_pure rfl (pstep_one rfl rfl rfl rfl fun g0 => .op rfl (by simp [g0]; rfl)) fun c hc => ?_  -- 75 := binOp 25 t74 != 0
    simp; refine hc _ ?_; clear hc c
    refine T_op rfl rfl fun c hc => ?_  -- 76 := pick t73 true t75
    simp; refine hc _ ?_; clear hc c
    refine T_op rfl rfl fun c hc => ?_  -- 77 := move t76
    simp; refine hc _ ?_; clear hc c
    refine T_pure rfl (pstep_one rfl rfl rfl rfl fun g0 => .op rfl (by simp [g0]; rfl)) fun c hc => ?_  -- 78 := move t12
    simp; refine hc _ ?_; clear hc c
    refine T_pure rfl (pstep_one rfl rfl rfl rfl fun g0 => .op rfl (by simp [g0]; rfl)) fun c hc => ?_  -- 79 := binOp 25 t78 != 0
    simp; refine hc _ ?_; clear hc c
    refine T_op rfl rfl fun c hc => ?_  -- 80 := pick t77 true t79
    simp; refine hc _ ?_; clear hc c
    refine T_op rfl rfl fun c hc => ?_  -- 81 := move t80
    simp; refine hc _ ?_; clear hc c
    refine T_pure rfl (pstep_one rfl rfl rfl rfl fun g0 => .op rfl (by simp [g0]; rfl)) fun c hc => ?_  -- 82 := move t14
    simp; refine hc _ ?_; clear hc c
    refine T_pure rfl (pstep_one rfl rfl rfl rfl fun g0 => .op rfl (by simp [g0]; rfl)) fun c hc => ?_  -- 83 := binOp 25 t82 != 0
    simp; refine hc _ ?_; clear hc c
    refine T_op rfl rfl fun c hc => ?_  -- 84 := pick t81 true t83
    simp; refine hc _ ?_; clear hc c
    refine T_op rfl rfl fun c hc => ?_  -- 85 := move t84
    simp; refine hc _ ?_; clear hc c
    refine T_pure rfl (pstep_one rfl rfl rfl rfl fun g0 => .op rfl (by simp [g0]; rfl)) fun c hc => ?_  -- 86 := move t16
    simp; refine hc _ ?_; clear hc c
    refine T_pure rfl (pstep_one rfl rfl rfl rfl fun g0 => .op rfl (by simp [g0]; rfl)) fun c hc => ?_  -- 87 := binOp 25 t86 != 0
    simp; refine hc _ ?_; clear hc c
    refine T_op rfl rfl fun c hc => ?_  -- 88 := pick t85 true t87
    simp; refine hc _ ?_; clear hc c
    refine T_op rfl rfl fun c hc => ?_  -- 89 := move t88
    simp; refine hc _ ?_; clear hc c
    refine T_pure rfl (pstep_one rfl rfl rfl rfl fun g0 => .op rfl (by simp [g0]; rfl)) fun c hc => ?_  -- 90 := move t13
    simp; refine hc _ ?_; clear hc c
    refine T_pure rfl (pstep_one rfl rfl rfl rfl fun g0 => .op rfl (by simp [g0]; rfl)) fun c hc => ?_  -- 91 := move t15
    simp; refine hc _ ?_; clear hc c
    refine T_pure rfl (pstep_one rfl rfl rfl rfl fun g0 => .op rfl (by simp [g0, w1]; rfl)) fun c hc => ?_  -- 92 := binOp 3 t90 + t91
    simp; refine hc _ ?_; clear hc c
    refine T_pure rfl (pstep_one rfl rfl rfl rfl fun g0 => .op rfl (by simp [g0]; rfl)) fun c hc => ?_  -- 93 := move t9
    simp; refine hc _ ?_; clear hc c
    refine T_pure rfl (pstep_one rfl rfl rfl rfl fun g0 => .op rfl (by simp [g0]; rfl)) fun c hc => ?_  -- 94 := move t11
    simp; refine hc _ ?_; clear hc c
    refine T_pure rfl (pstep_one rfl rfl rfl rfl fun g0 => .op rfl (by simp [g0, w2]; rfl)) fun c hc => ?_  -- 95 := binOp 3 t93 + t94
    simp; refine hc _ ?_; clear hc c
    refine T_pure rfl (pstep_one rfl rfl rfl rfl fun g0 => .op rfl (by simp [g0]; rfl)) fun c hc => ?_  -- 96 := binOp 3 t92 != t95
    simp; refine hc _ ?_; clear hc c
    refine T_op rfl rfl fun c hc => ?_  -- 97 := pick t89 true t96
    simp; refine hc _ ?_; clear hc c
    refine T_end (hn _ ?_); clear hn hp n p
    refine T_then ?_
    refine T_false (by simp) ?_  -- t97
    refine T_skip ?_
    refine T_then ?_
    refine T_seq ?_
    -- region 13
    refine T_region (is := [0]) rfl fun n p hn hp => ?_
    refine T_op rfl rfl fun c hc => ?_  -- 17 := assign 0
    simp; refine hc _ ?_; clear hc c
    refine T_end (hn _ ?_); clear hn hp n p
    refine T_then ?_
    refine T_seq ?_
    refine T_seq ?_
    -- region 14
    refine T_region (is := [0]) rfl fun n p hn hp => ?_
    refine T_op rfl rfl fun c hc => ?_  -- 98 := move 0
    simp; refine hc _ ?_; clear hc c
    refine T_end (hn _ ?_); clear hn hp n p
    refine T_then ?_
    refine T_block ?_  -- block 0
    refine T_loop (fun z : Nat => { sl := [(0, .dat (spans a)), (9, .dat (iD (sumOf a))), (98, .dat (iD z)), (17, .dat (iD (cnt (mem a) z)))], hp := [], nx := 0 }) (fun z => z ≤ 1024) (fun z => 1024 - z) 0 (Ent.sub [0, 9, 98, 17] [] (by simp [sub, subSl, subHp, place, mp, mpL, mpO, cnt])) (Nat.zero_le _) fun z hz => ?_  -- loop 0
    refine T_seq ?_
    -- region 15
    refine T_region (is := [0]) rfl fun n p hn hp => ?_
    refine T_op rfl rfl fun c hc => ?_  -- 99 := binOp 3 t98 < 1024
    simp; refine hc _ ?_; clear hc c
    refine T_end (hn _ ?_); clear hn hp n p
    refine T_then ?_
    refine T_seq ?_
    refine T_cond rfl (fun b4 => ?_) (fun b4 => ?_)  -- t99
    · skip
      have hlt : z < 1024 := by simp at b4; omega
      have e1 : IntKind.i64.wrap ((z : Int) + 1) = (z : Int) + 1 := wr (by omega)
      have bk := cnt_le (mem a) z
      have w3 : IntKind.i64.wrap (cnt (mem a) z + 1) = cnt (mem a) z + 1 := wr (by omega)
      refine T_skip ?_
      refine T_then ?_
      refine T_cut { sl := [(0, .dat (spans a)), (9, .dat (iD (sumOf a))), (98, .dat (iD z)), (17, .dat (iD (cnt (mem a) (z + 1))))], hp := [], nx := 0 } ?_ ?_  -- cut 0
      · skip
        refine T_block ?_  -- block 1
        refine T_seq ?_
        -- region 16
        refine T_region (is := [0, 1]) rfl fun n p hn hp => ?_
        refine T_op rfl rfl fun c hc => ?_  -- 100 := move t98
        simp; refine hc _ ?_; clear hc c
        refine T_op rfl rfl fun c hc => ?_  -- 18 := assign t100
        simp; refine hc _ ?_; clear hc c
        refine T_end (hn _ ?_); clear hn hp n p
        refine T_then ?_
        refine T_seq ?_
        -- region 17
        refine T_region (is := [0, 1, 2]) rfl fun n p hn hp => ?_
        refine T_op rfl rfl fun c hc => ?_  -- 101 := move t0
        simp; refine hc _ ?_; clear hc c
        refine T_op rfl rfl fun c hc => ?_  -- 102 := move t18
        simp; refine hc _ ?_; clear hc c
        refine T_op rfl rfl fun c hc => ?_  -- 103 := call value F16 (t101 t102) [22, 3]
        simp
        refine CallS.dat (walk16 a (by omega) z) rfl rfl rfl rfl ?_
        simp [enum]; refine hc _ ?_; clear hc c
        refine T_end (hn _ ?_); clear hn hp n p
        refine T_then ?_
        refine T_cond rfl (fun b5 => ?_) (fun b5 => ?_)  -- t103
        · skip
          have hc : cnt (mem a) (z + 1) = cnt (mem a) z + 1 := by simp only [cnt, mem]; rw [if_pos b5]
          -- region 18
          refine T_region (is := [0, 1, 2]) rfl fun n p hn hp => ?_
          refine T_op rfl rfl fun c hc => ?_  -- 104 := move t17
          simp; refine hc _ ?_; clear hc c
          refine T_op rfl rfl fun c hc => ?_  -- 105 := binOp 3 t104 + 1
          simp [w3]; refine hc _ ?_; clear hc c
          refine T_op rfl rfl fun c hc => ?_  -- 17 := assign t105
          simp; refine hc _ ?_; clear hc c
          refine T_end (hn _ ?_); clear hn hp n p
          refine X_blockN ?_
          refine T_then ?_
          exact Ent.sub [0, 9, 98, 17] [] (by simp [sub, subSl, subHp, place, mp, mpL, mpO, hc])
        · skip
          have hc : cnt (mem a) (z + 1) = cnt (mem a) z := by simp only [cnt, mem]; rw [if_neg (by rw [b5]; decide)]; omega
          refine T_skip ?_
          refine X_blockN ?_
          refine T_then ?_
          exact Ent.sub [0, 9, 98, 17] [] (by simp [sub, subSl, subHp, place, mp, mpL, mpO, hc])
      -- region 19
      refine T_region (is := [0, 1]) rfl fun n p hn hp => ?_
      refine T_op rfl rfl fun c hc => ?_  -- 106 := binOp 3 t98 + 1
      simp [e1]; refine hc _ ?_; clear hc c
      refine T_op rfl rfl fun c hc => ?_  -- 98 := move t106
      simp; refine hc _ ?_; clear hc c
      refine T_end (hn _ ?_); clear hn hp n p
      exact X_loopN (z + 1) (Ent.sub [0, 9, 98, 17] [] (by simp [sub, subSl, subHp, place, mp, mpL, mpO])) hlt (by omega)
    · skip
      have hend : z = 1024 := by simp at b4; omega
      subst hend
      refine T_exit ?_
      refine X_thenE ?_
      refine X_loopE ?_
      refine X_hit ?_
      refine T_then ?_
      refine T_seq ?_
      -- region 20
      refine T_region (is := [0, 1, 2, 3]) rfl fun n p hn hp => ?_
      refine T_op rfl rfl fun c hc => ?_  -- 107 := move t17
      simp; refine hc _ ?_; clear hc c
      refine T_op rfl rfl fun c hc => ?_  -- 108 := move t9
      simp; refine hc _ ?_; clear hc c
      refine T_op rfl rfl fun c hc => ?_  -- 109 := binOp 3 t107 == t108
      simp [sA]; refine hc _ ?_; clear hc c
      refine T_op rfl rfl fun c hc => ?_  -- 4 := assign t109
      simp; refine hc _ ?_; clear hc c
      refine T_end (hn _ ?_); clear hn hp n p
      refine T_then ?_
      refine T_ret ?_
      exact ⟨_, Ent.sub [4] [] (by simp [sub, subSl, subHp, place, mp, mpL, mpO]; rfl), rfl, rfl, by simp [resD, resL]; try omega⟩
end Go.Proofs.Ytehboominkoldaa
