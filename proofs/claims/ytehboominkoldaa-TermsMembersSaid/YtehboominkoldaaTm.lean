/- The terms, part m: what the statement about members runs. -/
import Derived.Test.YtehboominkoldaaTh2
set_option linter.unusedVariables false
set_option linter.unusedSimpArgs false
namespace Go.Proofs.Ytehboominkoldaa
open Go Go.Proofs.Ytehboominkoldaa.Sx
theorem v14 {l : List Sp} (k : chk (-1) l = true) (hl : l.length ≤ 1000000) : Does Try.prog 14 [spans l] (.dat (iD 0)) [] := by
  have := walk14 l hl
  rwa [errOf_zero.2 k] at this
theorem m16 {l : List Sp} {f : Int → Bool} (h : ∀ x, mem l x = f x) (hl : l.length ≤ 1000000) (t : Int) : Does Try.prog 16 [spans l, iD t] (.dat (bV (f t))) [] := by
  have := walk16 l hl t
  rwa [show l.any (inSp t) = f t from h t] at this
theorem n16 {l : List Sp} {t : Int} (hl : l.length ≤ 1000000) (h : mem l t = false) : Does Try.prog 16 [spans l, iD t] (.dat (bV false)) [] := by
  have := walk16 l hl t
  rwa [show l.any (inSp t) = false from h] at this
theorem bad_comb {k : Bool → Bool → Bool} {a b : List Sp} (h : ¬ (chk (-1) a = true ∧ chk (-1) b = true)) : combErr a b = 60 ∧ combOf k a b = [] := by
  have : (chk (-1) a && chk (-1) b) = false := by
    cases h1 : chk (-1) a <;> cases h2 : chk (-1) b <;> simp_all
  simp [combErr, combOf, this]
-- WALKS (printed by skel.py)
-- sizar/sizarlaw06.TermsMembers
set_option maxRecDepth 100000 in
theorem walk5 (a b : List Sp) (term : Int) : Does Try.prog 5 [spans a, spans b, iD term] (.dat (bV true)) [] := by
  have e0 : IntKind.i64.wrap 0 = 0 := wr (by decide)
  refine Does.intro [6] Try.func5 rfl (by kernel_rfl) Try.ntmps5 rfl (by decide) (Nat.le_of_ble_eq_true rfl) ?_
  refine T_seq ?_
  -- region 0
  refine T_region (is := [0]) rfl fun n p hn hp => ?_
  refine T_op rfl rfl fun c hc => ?_  -- 6 := assign false
  simp; refine hc _ ?_; clear hc c
  refine T_end (hn _ ?_); clear hn hp n p
  refine T_then ?_
  refine T_seq ?_
  refine T_seq ?_
  -- region 1
  refine T_region (is := [0, 1]) rfl fun n p hn hp => ?_
  refine T_op rfl rfl fun c hc => ?_  -- 18 := call value F10 () []
  simp
  refine CallS.dat (walk10) rfl rfl rfl rfl ?_
  simp [enum]; refine hc _ ?_; clear hc c
  refine T_op rfl rfl fun c hc => ?_  -- 19 := unOp 4 t18
  simp; refine hc _ ?_; clear hc c
  refine T_end (hn _ ?_); clear hn hp n p
  refine T_then ?_
  refine T_false (by simp) ?_  -- t19
  refine T_skip ?_
  refine T_then ?_
  refine T_seq ?_
  refine T_seq ?_
  -- region 3
  refine T_region (is := [0, 1, 2, 3]) rfl fun n p hn hp => ?_
  refine T_op rfl rfl fun c hc => ?_  -- 20 := move t0
  simp; refine hc _ ?_; clear hc c
  refine T_op rfl rfl fun c hc => ?_  -- 21 := move t1
  simp; refine hc _ ?_; clear hc c
  refine T_op rfl rfl fun c hc => ?_  -- 22 := call value F18 (t20 t21) [22, 22]
  simp
  refine CallS.dat (walk18 a b) rfl rfl rfl rfl ?_
  simp [enum]; refine hc _ ?_; clear hc c
  refine T_op rfl rfl fun c hc => ?_  -- 23 := unOp 4 t22
  simp; refine hc _ ?_; clear hc c
  refine T_end (hn _ ?_); clear hn hp n p
  refine T_then ?_
  refine T_cond rfl (fun b2 => ?_) (fun b2 => ?_)  -- t23
  · skip
    refine T_seq ?_
    -- region 4
    refine T_region (is := [0]) rfl fun n p hn hp => ?_
    refine T_op rfl rfl fun c hc => ?_  -- 6 := assign true
    simp; refine hc _ ?_; clear hc c
    refine T_end (hn _ ?_); clear hn hp n p
    refine T_then ?_
    refine T_ret ?_
    refine X_thenR ?_
    exact ⟨_, Ent.sub [6] [] (by simp [sub, subSl, subHp, place, mp, mpL, mpO]; rfl), rfl, rfl, by simp [resD, resL]; try omega⟩
  · skip
    have hab : a.length ≤ 40 ∧ b.length ≤ 40 := by simpa using b2
    have hU := setU_len a b
    have hM := setM_len a b
    have hD := setD_len a b
    obtain ⟨ha, hb⟩ := hab
    refine T_skip ?_
    refine T_then ?_
    refine T_seq ?_
    -- region 5
    refine T_region (is := [0, 1, 2, 3, 4, 5, 6, 7]) rfl fun n p hn hp => ?_
    refine T_op rfl rfl fun c hc => ?_  -- 25 := move t0
    simp; refine hc _ ?_; clear hc c
    refine T_op rfl rfl fun c hc => ?_  -- 26 := move t1
    simp; refine hc _ ?_; clear hc c
    refine T_op rfl rfl fun c hc => ?_  -- 27 := call value F19 (t25 t26) [22, 22]
    simp
    refine CallS.dat (c19 a b (by omega) (by omega)) rfl rfl rfl rfl ?_
    simp [enum]; refine hc _ ?_; clear hc c
    refine T_op rfl rfl fun c hc => ?_  -- 24 := move t27
    simp; refine hc _ ?_; clear hc c
    refine T_op rfl rfl fun c hc => ?_  -- 28 := extract t24 0
    simp; refine hc _ ?_; clear hc c
    refine T_op rfl rfl fun c hc => ?_  -- 29 := extract t24 1
    simp; refine hc _ ?_; clear hc c
    refine T_op rfl rfl fun c hc => ?_  -- 7 := assign t28
    simp; refine hc _ ?_; clear hc c
    refine T_op rfl rfl fun c hc => ?_  -- 8 := assign t29
    simp; refine hc _ ?_; clear hc c
    refine T_end (hn _ ?_); clear hn hp n p
    refine T_then ?_
    refine T_seq ?_
    -- region 6
    refine T_region (is := [0, 1, 2, 3, 4, 5, 6, 7]) rfl fun n p hn hp => ?_
    refine T_op rfl rfl fun c hc => ?_  -- 31 := move t0
    simp; refine hc _ ?_; clear hc c
    refine T_op rfl rfl fun c hc => ?_  -- 32 := move t1
    simp; refine hc _ ?_; clear hc c
    refine T_op rfl rfl fun c hc => ?_  -- 33 := call value F21 (t31 t32) [22, 22]
    simp
    refine CallS.dat (c21 a b (by omega) (by omega)) rfl rfl rfl rfl ?_
    simp [enum]; refine hc _ ?_; clear hc c
    refine T_op rfl rfl fun c hc => ?_  -- 30 := move t33
    simp; refine hc _ ?_; clear hc c
    refine T_op rfl rfl fun c hc => ?_  -- 34 := extract t30 0
    simp; refine hc _ ?_; clear hc c
    refine T_op rfl rfl fun c hc => ?_  -- 35 := extract t30 1
    simp; refine hc _ ?_; clear hc c
    refine T_op rfl rfl fun c hc => ?_  -- 9 := assign t34
    simp; refine hc _ ?_; clear hc c
    refine T_op rfl rfl fun c hc => ?_  -- 10 := assign t35
    simp; refine hc _ ?_; clear hc c
    refine T_end (hn _ ?_); clear hn hp n p
    refine T_then ?_
    refine T_seq ?_
    -- region 7
    refine T_region (is := [0, 1, 2, 3, 4, 5, 6, 7]) rfl fun n p hn hp => ?_
    refine T_op rfl rfl fun c hc => ?_  -- 37 := move t0
    simp; refine hc _ ?_; clear hc c
    refine T_op rfl rfl fun c hc => ?_  -- 38 := move t1
    simp; refine hc _ ?_; clear hc c
    refine T_op rfl rfl fun c hc => ?_  -- 39 := call value F23 (t37 t38) [22, 22]
    simp
    refine CallS.dat (c23 a b (by omega) (by omega)) rfl rfl rfl rfl ?_
    simp [enum]; refine hc _ ?_; clear hc c
    refine T_op rfl rfl fun c hc => ?_  -- 36 := move t39
    simp; refine hc _ ?_; clear hc c
    refine T_op rfl rfl fun c hc => ?_  -- 40 := extract t36 0
    simp; refine hc _ ?_; clear hc c
    refine T_op rfl rfl fun c hc => ?_  -- 41 := extract t36 1
    simp; refine hc _ ?_; clear hc c
    refine T_op rfl rfl fun c hc => ?_  -- 11 := assign t40
    simp; refine hc _ ?_; clear hc c
    refine T_op rfl rfl fun c hc => ?_  -- 12 := assign t41
    simp; refine hc _ ?_; clear hc c
    refine T_end (hn _ ?_); clear hn hp n p
    refine T_then ?_
    refine T_seq ?_
    -- region 8
    refine T_region (is := [0, 1, 2, 3, 4, 5, 6, 7, 8]) rfl fun n p hn hp => ?_
    refine T_op rfl rfl fun c hc => ?_  -- 42 := move t0
    simp; refine hc _ ?_; clear hc c
    refine T_op rfl rfl fun c hc => ?_  -- 43 := call value F14 (t42) [22]
    simp
    refine CallS.dat (walk14 a (by omega)) rfl rfl rfl rfl ?_
    simp [enum]; refine hc _ ?_; clear hc c
    refine T_op rfl rfl fun c hc => ?_  -- 44 := binOp 25 t43 == 0
    simp; refine hc _ ?_; clear hc c
    refine T_op rfl rfl fun c hc => ?_  -- 45 := move t44
    simp; refine hc _ ?_; clear hc c
    refine T_pure rfl (pstep_one rfl rfl rfl rfl fun g0 => .op rfl (by simp [g0]; rfl)) fun c hc => ?_  -- 46 := move t1
    simp; refine hc _ ?_; clear hc c
    refine T_pure rfl (pstep_one rfl rfl rfl rfl fun g0 => .dat (by simp [g0]; exact ⟨rfl, rfl⟩) (by exact walk14 b (by omega)) (by rfl)) fun c hc => ?_  -- 47 := call value F14 (t46) [22]
    simp; refine hc _ ?_; clear hc c
    refine T_pure rfl (pstep_one rfl rfl rfl rfl fun g0 => .op rfl (by simp [g0]; rfl)) fun c hc => ?_  -- 48 := binOp 25 t47 == 0
    simp; refine hc _ ?_; clear hc c
    refine T_op rfl rfl fun c hc => ?_  -- 49 := pick t45 t48 false
    simp; refine hc _ ?_; clear hc c
    refine T_op rfl rfl fun c hc => ?_  -- 13 := assign t49
    simp; refine hc _ ?_; clear hc c
    refine T_end (hn _ ?_); clear hn hp n p
    refine T_then ?_
    refine T_seq ?_
    refine T_seq ?_
    -- region 9
    refine T_region (is := [0, 1]) rfl fun n p hn hp => ?_
    refine T_op rfl rfl fun c hc => ?_  -- 50 := move t13
    simp; refine hc _ ?_; clear hc c
    refine T_op rfl rfl fun c hc => ?_  -- 51 := unOp 4 t50
    simp; refine hc _ ?_; clear hc c
    refine T_end (hn _ ?_); clear hn hp n p
    refine T_then ?_
    refine T_cond rfl (fun b3 => ?_) (fun b3 => ?_)  -- t51
    · skip
      have hbad : ¬ (chk (-1) a = true ∧ chk (-1) b = true) := by
        rw [← errOf_zero, ← errOf_zero]
        rintro ⟨h1, h2⟩
        have h3 := b3
        simp [h1, h2] at h3
      have herr : combErr a b = 60 := (bad_comb (k := (· || ·)) hbad).1
      have zU : setU a b = [] := (bad_comb hbad).2
      have zM : setM a b = [] := (bad_comb hbad).2
      have zD : setD a b = [] := (bad_comb hbad).2
      refine T_seq ?_
      -- region 10
      refine T_region (is := [0, 1, 2, 3, 4, 5, 6, 7, 8, 9, 10, 11, 12, 13, 14, 15, 16, 17, 18, 19, 20, 21, 22, 23]) rfl fun n p hn hp => ?_
      refine T_op rfl rfl fun c hc => ?_  -- 52 := move t8
      simp; refine hc _ ?_; clear hc c
      refine T_op rfl rfl fun c hc => ?_  -- 53 := binOp 25 t52 == 60
      simp [herr]; refine hc _ ?_; clear hc c
      refine T_op rfl rfl fun c hc => ?_  -- 54 := move t53
      simp; refine hc _ ?_; clear hc c
      refine T_pure rfl (pstep_one rfl rfl rfl rfl fun g0 => .op rfl (by simp [g0]; rfl)) fun c hc => ?_  -- 55 := move t10
      simp; refine hc _ ?_; clear hc c
      refine T_pure rfl (pstep_one rfl rfl rfl rfl fun g0 => .op rfl (by simp [g0]; rfl)) fun c hc => ?_  -- 56 := move t8
      simp; refine hc _ ?_; clear hc c
      refine T_pure rfl (pstep_one rfl rfl rfl rfl fun g0 => .op rfl (by simp [g0, herr]; rfl)) fun c hc => ?_  -- 57 := binOp 25 t55 == t56
      simp; refine hc _ ?_; clear hc c
      refine T_op rfl rfl fun c hc => ?_  -- 58 := pick t54 t57 false
      simp; refine hc _ ?_; clear hc c
      refine T_op rfl rfl fun c hc => ?_  -- 59 := move t58
      simp; refine hc _ ?_; clear hc c
      refine T_pure rfl (pstep_one rfl rfl rfl rfl fun g0 => .op rfl (by simp [g0]; rfl)) fun c hc => ?_  -- 60 := move t12
      simp; refine hc _ ?_; clear hc c
      refine T_pure rfl (pstep_one rfl rfl rfl rfl fun g0 => .op rfl (by simp [g0]; rfl)) fun c hc => ?_  -- 61 := move t8
      simp; refine hc _ ?_; clear hc c
      refine T_pure rfl (pstep_one rfl rfl rfl rfl fun g0 => .op rfl (by simp [g0, herr]; rfl)) fun c hc => ?_  -- 62 := binOp 25 t60 == t61
      simp; refine hc _ ?_; clear hc c
      refine T_op rfl rfl fun c hc => ?_  -- 63 := pick t59 t62 false
      simp; refine hc _ ?_; clear hc c
      refine T_op rfl rfl fun c hc => ?_  -- 64 := move t63
      simp; refine hc _ ?_; clear hc c
      refine T_pure rfl (pstep_one rfl rfl rfl rfl fun g0 => .op rfl (by simp [g0]; rfl)) fun c hc => ?_  -- 65 := move t7
      simp; refine hc _ ?_; clear hc c
      refine T_pure rfl (pstep_one rfl rfl rfl rfl fun g0 => .op rfl (by simp [g0, zU]; rfl)) fun c hc => ?_  -- 66 := call len (t65) [22]
      simp; refine hc _ ?_; clear hc c
      refine T_pure rfl (pstep_one rfl rfl rfl rfl fun g0 => .op rfl (by simp [g0]; rfl)) fun c hc => ?_  -- 67 := move t9
      simp; refine hc _ ?_; clear hc c
      refine T_pure rfl (pstep_one rfl rfl rfl rfl fun g0 => .op rfl (by simp [g0, zM]; rfl)) fun c hc => ?_  -- 68 := call len (t67) [22]
      simp; refine hc _ ?_; clear hc c
      refine T_pure rfl (pstep_one rfl rfl rfl rfl fun g0 => .op rfl (by simp [g0, e0]; rfl)) fun c hc => ?_  -- 69 := binOp 3 t66 + t68
      simp; refine hc _ ?_; clear hc c
      refine T_pure rfl (pstep_one rfl rfl rfl rfl fun g0 => .op rfl (by simp [g0]; rfl)) fun c hc => ?_  -- 70 := move t11
      simp; refine hc _ ?_; clear hc c
      refine T_pure rfl (pstep_one rfl rfl rfl rfl fun g0 => .op rfl (by simp [g0, zD]; rfl)) fun c hc => ?_  -- 71 := call len (t70) [22]
      simp; refine hc _ ?_; clear hc c
      refine T_pure rfl (pstep_one rfl rfl rfl rfl fun g0 => .op rfl (by simp [g0, e0]; rfl)) fun c hc => ?_  -- 72 := binOp 3 t69 + t71
      simp; refine hc _ ?_; clear hc c
      refine T_pure rfl (pstep_one rfl rfl rfl rfl fun g0 => .op rfl (by simp [g0]; rfl)) fun c hc => ?_  -- 73 := binOp 3 t72 == 0
      simp; refine hc _ ?_; clear hc c
      refine T_op rfl rfl fun c hc => ?_  -- 74 := pick t64 t73 false
      simp; refine hc _ ?_; clear hc c
      refine T_op rfl rfl fun c hc => ?_  -- 6 := assign t74
      simp; refine hc _ ?_; clear hc c
      refine T_end (hn _ ?_); clear hn hp n p
      refine T_then ?_
      refine T_ret ?_
      refine X_thenR ?_
      exact ⟨_, Ent.sub [6] [] (by simp [sub, subSl, subHp, place, mp, mpL, mpO]; rfl), rfl, rfl, by simp [resD, resL]; try omega⟩
    · skip
      have hg := b3
      simp at hg
      have hka : chk (-1) a = true := errOf_zero.1 (by omega)
      have hkb : chk (-1) b = true := errOf_zero.1 (by omega)
      have herr : combErr a b = 0 := err_ok hka hkb
      obtain ⟨kU, mU⟩ := setU_law hka hkb
      obtain ⟨kM, mM⟩ := setM_law hka hkb
      obtain ⟨kD, mD⟩ := setD_law hka hkb
      have hout : (decide (0 ≤ term) && decide (term < 1024)) = false → mem a term = false ∧ mem b term = false := by
        intro h
        have h1 : ¬ (0 ≤ term ∧ term < 1024) := by simpa using h
        constructor
        · cases hm : mem a term with
          | false => rfl
          | true => exact absurd (chk_mem hka hm) (by omega)
        · cases hm : mem b term with
          | false => rfl
          | true => exact absurd (chk_mem hkb hm) (by omega)
      refine T_skip ?_
      refine T_then ?_
      refine T_seq ?_
      refine T_seq ?_
      -- region 11
      refine T_region (is := [0, 1, 2, 3, 4, 5, 6, 7, 8, 9, 10, 11, 12, 13, 14, 15, 16, 17, 18, 19, 20, 21, 22, 23, 24]) rfl fun n p hn hp => ?_
      refine T_op rfl rfl fun c hc => ?_  -- 75 := move t8
      simp; refine hc _ ?_; clear hc c
      refine T_op rfl rfl fun c hc => ?_  -- 76 := binOp 25 t75 != 0
      simp [herr]; refine hc _ ?_; clear hc c
      refine T_op rfl rfl fun c hc => ?_  -- 77 := move t76
      simp; refine hc _ ?_; clear hc c
      refine T_pure rfl (pstep_one rfl rfl rfl rfl fun g0 => .op rfl (by simp [g0]; rfl)) fun c hc => ?_  -- 78 := move t10
      simp; refine hc _ ?_; clear hc c
      refine T_pure rfl (pstep_one rfl rfl rfl rfl fun g0 => .op rfl (by simp [g0, herr]; rfl)) fun c hc => ?_  -- 79 := binOp 25 t78 != 0
      simp; refine hc _ ?_; clear hc c
      refine T_op rfl rfl fun c hc => ?_  -- 80 := pick t77 true t79
      simp; refine hc _ ?_; clear hc c
      refine T_op rfl rfl fun c hc => ?_  -- 81 := move t80
      simp; refine hc _ ?_; clear hc c
      refine T_pure rfl (pstep_one rfl rfl rfl rfl fun g0 => .op rfl (by simp [g0]; rfl)) fun c hc => ?_  -- 82 := move t12
      simp; refine hc _ ?_; clear hc c
      refine T_pure rfl (pstep_one rfl rfl rfl rfl fun g0 => .op rfl (by simp [g0, herr]; rfl)) fun c hc => ?_  -- 83 := binOp 25 t82 != 0
      simp; refine hc _ ?_; clear hc c
      refine T_op rfl rfl fun c hc => ?_  -- 84 := pick t81 true t83
      simp; refine hc _ ?_; clear hc c
      refine T_op rfl rfl fun c hc => ?_  -- 85 := move t84
      simp; refine hc _ ?_; clear hc c
      refine T_pure rfl (pstep_one rfl rfl rfl rfl fun g0 => .op rfl (by simp [g0]; rfl)) fun c hc => ?_  -- 86 := move t7
      simp; refine hc _ ?_; clear hc c
      refine T_pure rfl (pstep_one rfl rfl rfl rfl fun g0 => .dat (by simp [g0]; exact ⟨rfl, rfl⟩) (by exact v14 kU (by omega)) (by rfl)) fun c hc => ?_  -- 87 := call value F14 (t86) [22]
      simp; refine hc _ ?_; clear hc c
      refine T_pure rfl (pstep_one rfl rfl rfl rfl fun g0 => .op rfl (by simp [g0]; rfl)) fun c hc => ?_  -- 88 := binOp 25 t87 != 0
      simp; refine hc _ ?_; clear hc c
      refine T_op rfl rfl fun c hc => ?_  -- 89 := pick t85 true t88
      simp; refine hc _ ?_; clear hc c
      refine T_op rfl rfl fun c hc => ?_  -- 90 := move t89
      simp; refine hc _ ?_; clear hc c
      refine T_pure rfl (pstep_one rfl rfl rfl rfl fun g0 => .op rfl (by simp [g0]; rfl)) fun c hc => ?_  -- 91 := move t9
      simp; refine hc _ ?_; clear hc c
      refine T_pure rfl (pstep_one rfl rfl rfl rfl fun g0 => .dat (by simp [g0]; exact ⟨rfl, rfl⟩) (by exact v14 kM (by omega)) (by rfl)) fun c hc => ?_  -- 92 := call value F14 (t91) [22]
      simp; refine hc _ ?_; clear hc c
      refine T_pure rfl (pstep_one rfl rfl rfl rfl fun g0 => .op rfl (by simp [g0]; rfl)) fun c hc => ?_  -- 93 := binOp 25 t92 != 0
      simp; refine hc _ ?_; clear hc c
      refine T_op rfl rfl fun c hc => ?_  -- 94 := pick t90 true t93
      simp; refine hc _ ?_; clear hc c
      refine T_op rfl rfl fun c hc => ?_  -- 95 := move t94
      simp; refine hc _ ?_; clear hc c
      refine T_pure rfl (pstep_one rfl rfl rfl rfl fun g0 => .op rfl (by simp [g0]; rfl)) fun c hc => ?_  -- 96 := move t11
      simp; refine hc _ ?_; clear hc c
      refine T_pure rfl (pstep_one rfl rfl rfl rfl fun g0 => .dat (by simp [g0]; exact ⟨rfl, rfl⟩) (by exact v14 kD (by omega)) (by rfl)) fun c hc => ?_  -- 97 := call value F14 (t96) [22]
      simp; refine hc _ ?_; clear hc c
      refine T_pure rfl (pstep_one rfl rfl rfl rfl fun g0 => .op rfl (by simp [g0]; rfl)) fun c hc => ?_  -- 98 := binOp 25 t97 != 0
      simp; refine hc _ ?_; clear hc c
      refine T_op rfl rfl fun c hc => ?_  -- 99 := pick t95 true t98
      simp; refine hc _ ?_; clear hc c
      refine T_end (hn _ ?_); clear hn hp n p
      refine T_then ?_
      refine T_false (by simp) ?_  -- t99
      refine T_skip ?_
      refine T_then ?_
      refine T_seq ?_
      refine T_seq ?_
      -- region 13
      refine T_region (is := [0]) rfl fun n p hn hp => ?_
      refine T_op rfl rfl fun c hc => ?_  -- 14 := assign -1
      simp; refine hc _ ?_; clear hc c
      refine T_end (hn _ ?_); clear hn hp n p
      refine T_then ?_
      refine T_block ?_  -- block 0
      refine T_loop (fun z : Int => { sl := [(0, .dat (spans a)), (1, .dat (spans b)), (2, .dat (iD term)), (7, .dat (spans (setU a b))), (9, .dat (spans (setM a b))), (11, .dat (spans (setD a b))), (14, .dat (iD z))], hp := [], nx := 0 }) (fun z => -1 ≤ z ∧ z ≤ 1025) (fun z => (1025 - z).toNat) (-1) (Ent.sub [0, 1, 2, 7, 9, 11, 14] [] (by simp [sub, subSl, subHp, place, mp, mpL, mpO])) ⟨by decide, by decide⟩ fun z hz => ?_  -- loop 0
      refine T_seq ?_
      refine T_seq ?_
      -- region 14
      refine T_region (is := [0, 1]) rfl fun n p hn hp => ?_
      refine T_op rfl rfl fun c hc => ?_  -- 100 := move t14
      simp; refine hc _ ?_; clear hc c
      refine T_op rfl rfl fun c hc => ?_  -- 101 := binOp 3 t100 <= 1024
      simp; refine hc _ ?_; clear hc c
      refine T_end (hn _ ?_); clear hn hp n p
      refine T_then ?_
      refine T_cond rfl (fun b5 => ?_) (fun b5 => ?_)  -- t101
      · skip
        have hlt : z ≤ 1024 := by simpa using b5
        have e1 : IntKind.i64.wrap (z + 1) = z + 1 := wr (by omega)
        refine T_skip ?_
        refine T_then ?_
        refine T_seq ?_
        refine T_block ?_  -- block 1
        refine T_seq ?_
        -- region 16
        refine T_region (is := [0, 1, 2, 3, 4, 5, 6, 7]) rfl fun n p hn hp => ?_
        refine T_op rfl rfl fun c hc => ?_  -- 104 := move t0
        simp; refine hc _ ?_; clear hc c
        refine T_op rfl rfl fun c hc => ?_  -- 105 := move t14
        simp; refine hc _ ?_; clear hc c
        refine T_op rfl rfl fun c hc => ?_  -- 106 := call value F16 (t104 t105) [22, 3]
        simp
        refine CallS.dat (walk16 a (by omega) z) rfl rfl rfl rfl ?_
        simp [enum]; refine hc _ ?_; clear hc c
        refine T_op rfl rfl fun c hc => ?_  -- 107 := move t1
        simp; refine hc _ ?_; clear hc c
        refine T_op rfl rfl fun c hc => ?_  -- 108 := move t14
        simp; refine hc _ ?_; clear hc c
        refine T_op rfl rfl fun c hc => ?_  -- 109 := call value F16 (t107 t108) [22, 3]
        simp
        refine CallS.dat (walk16 b (by omega) z) rfl rfl rfl rfl ?_
        simp [enum]; refine hc _ ?_; clear hc c
        refine T_op rfl rfl fun c hc => ?_  -- 15 := assign t106
        simp; refine hc _ ?_; clear hc c
        refine T_op rfl rfl fun c hc => ?_  -- 16 := assign t109
        simp; refine hc _ ?_; clear hc c
        refine T_end (hn _ ?_); clear hn hp n p
        refine T_then ?_
        refine T_seq ?_
        -- region 17
        refine T_region (is := [0, 1, 2, 3, 4, 5, 6, 7, 8, 9, 10, 11, 12, 13, 14, 15, 16, 17, 18, 19, 20, 21, 22, 23, 24, 25, 26, 27, 28]) rfl fun n p hn hp => ?_
        refine T_op rfl rfl fun c hc => ?_  -- 110 := move t7
        simp; refine hc _ ?_; clear hc c
        refine T_op rfl rfl fun c hc => ?_  -- 111 := move t14
        simp; refine hc _ ?_; clear hc c
        refine T_op rfl rfl fun c hc => ?_  -- 112 := call value F16 (t110 t111) [22, 3]
        simp
        refine CallS.dat (m16 mU (by omega) z) rfl rfl rfl rfl ?_
        simp [enum]; refine hc _ ?_; clear hc c
        refine T_op rfl rfl fun c hc => ?_  -- 113 := move t15
        simp; refine hc _ ?_; clear hc c
        refine T_op rfl rfl fun c hc => ?_  -- 114 := move t113
        simp; refine hc _ ?_; clear hc c
        refine T_pure rfl (pstep_one rfl rfl rfl rfl fun g0 => .op rfl (by simp [g0]; rfl)) fun c hc => ?_  -- 115 := move t16
        simp; refine hc _ ?_; clear hc c
        refine T_op rfl rfl fun c hc => ?_  -- 116 := pick t114 true t115
        simp; refine hc _ ?_; clear hc c
        refine T_op rfl rfl fun c hc => ?_  -- 117 := binOp 4 t112 != t116
        simp; refine hc _ ?_; clear hc c
        refine T_op rfl rfl fun c hc => ?_  -- 118 := move t117
        simp; refine hc _ ?_; clear hc c
        refine T_pure rfl (pstep_one rfl rfl rfl rfl fun g0 => .op rfl (by simp [g0]; rfl)) fun c hc => ?_  -- 119 := move t9
        simp; refine hc _ ?_; clear hc c
        refine T_pure rfl (pstep_one rfl rfl rfl rfl fun g0 => .op rfl (by simp [g0]; rfl)) fun c hc => ?_  -- 120 := move t14
        simp; refine hc _ ?_; clear hc c
        refine T_pure rfl (pstep_one rfl rfl rfl rfl fun g0 => .dat (by simp [g0]; exact ⟨rfl, rfl⟩) (by exact m16 mM (by omega) z) (by rfl)) fun c hc => ?_  -- 121 := call value F16 (t119 t120) [22, 3]
        simp; refine hc _ ?_; clear hc c
        refine T_pure rfl (pstep_one rfl rfl rfl rfl fun g0 => .op rfl (by simp [g0]; rfl)) fun c hc => ?_  -- 122 := move t15
        simp; refine hc _ ?_; clear hc c
        refine T_pure rfl (pstep_one rfl rfl rfl rfl fun g0 => .op rfl (by simp [g0]; rfl)) fun c hc => ?_  -- 123 := move t122
        simp; refine hc _ ?_; clear hc c
        refine T_pure rfl (pstep_one rfl rfl rfl rfl fun g1 => .op rfl (by simp [g1]; rfl)) fun c hc => ?_  -- 124 := move t16
        simp; refine hc _ ?_; clear hc c
        refine T_pure rfl (pstep_one rfl rfl rfl rfl fun g0 => .op rfl (by simp [g0]; rfl)) fun c hc => ?_  -- 125 := pick t123 t124 false
        simp; refine hc _ ?_; clear hc c
        refine T_pure rfl (pstep_one rfl rfl rfl rfl fun g0 => .op rfl (by simp [g0]; rfl)) fun c hc => ?_  -- 126 := binOp 4 t121 != t125
        simp; refine hc _ ?_; clear hc c
        refine T_op rfl rfl fun c hc => ?_  -- 127 := pick t118 true t126
        simp; refine hc _ ?_; clear hc c
        refine T_op rfl rfl fun c hc => ?_  -- 128 := move t127
        simp; refine hc _ ?_; clear hc c
        refine T_pure rfl (pstep_one rfl rfl rfl rfl fun g0 => .op rfl (by simp [g0]; rfl)) fun c hc => ?_  -- 129 := move t11
        simp; refine hc _ ?_; clear hc c
        refine T_pure rfl (pstep_one rfl rfl rfl rfl fun g0 => .op rfl (by simp [g0]; rfl)) fun c hc => ?_  -- 130 := move t14
        simp; refine hc _ ?_; clear hc c
        refine T_pure rfl (pstep_one rfl rfl rfl rfl fun g0 => .dat (by simp [g0]; exact ⟨rfl, rfl⟩) (by exact m16 mD (by omega) z) (by rfl)) fun c hc => ?_  -- 131 := call value F16 (t129 t130) [22, 3]
        simp; refine hc _ ?_; clear hc c
        refine T_pure rfl (pstep_one rfl rfl rfl rfl fun g0 => .op rfl (by simp [g0]; rfl)) fun c hc => ?_  -- 132 := move t15
        simp; refine hc _ ?_; clear hc c
        refine T_pure rfl (pstep_one rfl rfl rfl rfl fun g0 => .op rfl (by simp [g0]; rfl)) fun c hc => ?_  -- 133 := move t132
        simp; refine hc _ ?_; clear hc c
        refine T_pure rfl (pstep_one rfl rfl rfl rfl fun g1 => .op rfl (by simp [g1]; rfl)) fun c hc => ?_  -- 134 := move t16
        simp; refine hc _ ?_; clear hc c
        refine T_pure rfl (pstep_one rfl rfl rfl rfl fun g1 => .op rfl (by simp [g1]; rfl)) fun c hc => ?_  -- 135 := unOp 4 t134
        simp; refine hc _ ?_; clear hc c
        refine T_pure rfl (pstep_one rfl rfl rfl rfl fun g0 => .op rfl (by simp [g0]; rfl)) fun c hc => ?_  -- 136 := pick t133 t135 false
        simp; refine hc _ ?_; clear hc c
        refine T_pure rfl (pstep_one rfl rfl rfl rfl fun g0 => .op rfl (by simp [g0]; rfl)) fun c hc => ?_  -- 137 := binOp 4 t131 != t136
        simp; refine hc _ ?_; clear hc c
        refine T_op rfl rfl fun c hc => ?_  -- 138 := pick t128 true t137
        simp; refine hc _ ?_; clear hc c
        refine T_end (hn _ ?_); clear hn hp n p
        refine T_then ?_
        refine T_false (by simp) ?_  -- t138
        refine T_skip ?_
        refine X_blockN ?_
        refine T_then ?_
        -- region 15
        refine T_region (is := [0, 1, 2]) rfl fun n p hn hp => ?_
        refine T_op rfl rfl fun c hc => ?_  -- 102 := move t14
        simp; refine hc _ ?_; clear hc c
        refine T_op rfl rfl fun c hc => ?_  -- 103 := binOp 3 t102 + 1
        simp [e1]; refine hc _ ?_; clear hc c
        refine T_op rfl rfl fun c hc => ?_  -- 14 := assign t103
        simp; refine hc _ ?_; clear hc c
        refine T_end (hn _ ?_); clear hn hp n p
        exact X_loopN (z + 1) (Ent.sub [0, 1, 2, 7, 9, 11, 14] [] (by simp [sub, subSl, subHp, place, mp, mpL, mpO])) ⟨by omega, by omega⟩ (by omega)
      · skip
        refine T_exit ?_
        refine X_thenE ?_
        refine X_loopE ?_
        refine X_hit ?_
        refine T_then ?_
        refine T_seq ?_
        -- region 19
        refine T_region (is := [0, 1, 2, 3, 4, 5, 6]) rfl fun n p hn hp => ?_
        refine T_op rfl rfl fun c hc => ?_  -- 139 := move t2
        simp; refine hc _ ?_; clear hc c
        refine T_op rfl rfl fun c hc => ?_  -- 140 := binOp 3 t139 >= 0
        simp; refine hc _ ?_; clear hc c
        refine T_op rfl rfl fun c hc => ?_  -- 141 := move t140
        simp; refine hc _ ?_; clear hc c
        refine T_pure rfl (pstep_one rfl rfl rfl rfl fun g0 => .op rfl (by simp [g0]; rfl)) fun c hc => ?_  -- 142 := move t2
        simp; refine hc _ ?_; clear hc c
        refine T_pure rfl (pstep_one rfl rfl rfl rfl fun g0 => .op rfl (by simp [g0]; rfl)) fun c hc => ?_  -- 143 := binOp 3 t142 < 1024
        simp; refine hc _ ?_; clear hc c
        refine T_op rfl rfl fun c hc => ?_  -- 144 := pick t141 t143 false
        simp; refine hc _ ?_; clear hc c
        refine T_op rfl rfl fun c hc => ?_  -- 17 := assign t144
        simp; refine hc _ ?_; clear hc c
        refine T_end (hn _ ?_); clear hn hp n p
        refine T_then ?_
        refine T_seq ?_
        -- region 20
        refine T_region (is := [0, 1, 2, 3, 4, 5, 6, 7, 8, 9, 10, 11, 12, 13, 14, 15, 16, 17, 18, 19]) rfl fun n p hn hp => ?_
        refine T_op rfl rfl fun c hc => ?_  -- 145 := move t17
        simp; refine hc _ ?_; clear hc c
        refine T_op rfl rfl fun c hc => ?_  -- 146 := move t145
        simp; refine hc _ ?_; clear hc c
        refine T_pure rfl (pstep_one rfl rfl rfl rfl fun g0 => .op rfl (by simp [g0]; rfl)) fun c hc => ?_  -- 147 := move t7
        simp; refine hc _ ?_; clear hc c
        refine T_pure rfl (pstep_one rfl rfl rfl rfl fun g0 => .op rfl (by simp [g0]; rfl)) fun c hc => ?_  -- 148 := move t2
        simp; refine hc _ ?_; clear hc c
        refine T_pure rfl (pstep_one rfl rfl rfl rfl fun g0 => .dat (by simp [g0]; exact ⟨rfl, rfl⟩) (by exact n16 (l := setU a b) (by omega) (by rw [mU, (hout g0).1, (hout g0).2]; rfl)) (by rfl)) fun c hc => ?_  -- 149 := call value F16 (t147 t148) [22, 3]
        simp; refine hc _ ?_; clear hc c
        refine T_pure rfl (pstep_one rfl rfl rfl rfl fun g0 => .op rfl (by simp [g0]; rfl)) fun c hc => ?_  -- 150 := unOp 4 t149
        simp; refine hc _ ?_; clear hc c
        refine T_pure rfl (pstep_one rfl rfl rfl rfl fun g0 => .op rfl (by simp [g0]; rfl)) fun c hc => ?_  -- 151 := move t150
        simp; refine hc _ ?_; clear hc c
        refine T_pure rfl (pstep_two rfl rfl rfl rfl fun g0 g1 => .op rfl (by simp [g0, g1]; rfl)) fun c hc => ?_  -- 152 := move t9
        simp; refine hc _ ?_; clear hc c
        refine T_pure rfl (pstep_two rfl rfl rfl rfl fun g0 g1 => .op rfl (by simp [g0, g1]; rfl)) fun c hc => ?_  -- 153 := move t2
        simp; refine hc _ ?_; clear hc c
        refine T_pure rfl (pstep_two rfl rfl rfl rfl fun g0 g1 => .dat (by simp [g0, g1]; exact ⟨rfl, rfl⟩) (by exact n16 (l := setM a b) (by omega) (by rw [mM, (hout g0).1, (hout g0).2]; rfl)) (by rfl)) fun c hc => ?_  -- 154 := call value F16 (t152 t153) [22, 3]
        simp; refine hc _ ?_; clear hc c
        refine T_pure rfl (pstep_two rfl rfl rfl rfl fun g0 g1 => .op rfl (by simp [g0, g1]; rfl)) fun c hc => ?_  -- 155 := unOp 4 t154
        simp; refine hc _ ?_; clear hc c
        refine T_pure rfl (pstep_one rfl rfl rfl rfl fun g0 => .op rfl (by simp [g0]; rfl)) fun c hc => ?_  -- 156 := pick t151 t155 false
        simp; refine hc _ ?_; clear hc c
        refine T_pure rfl (pstep_one rfl rfl rfl rfl fun g0 => .op rfl (by simp [g0]; rfl)) fun c hc => ?_  -- 157 := move t156
        simp; refine hc _ ?_; clear hc c
        refine T_pure rfl (pstep_two rfl rfl rfl rfl fun g0 g1 => .op rfl (by simp [g0, g1]; rfl)) fun c hc => ?_  -- 158 := move t11
        simp; refine hc _ ?_; clear hc c
        refine T_pure rfl (pstep_two rfl rfl rfl rfl fun g0 g1 => .op rfl (by simp [g0, g1]; rfl)) fun c hc => ?_  -- 159 := move t2
        simp; refine hc _ ?_; clear hc c
        refine T_pure rfl (pstep_two rfl rfl rfl rfl fun g0 g1 => .dat (by simp [g0, g1]; exact ⟨rfl, rfl⟩) (by exact n16 (l := setD a b) (by omega) (by rw [mD, (hout g0).1, (hout g0).2]; rfl)) (by rfl)) fun c hc => ?_  -- 160 := call value F16 (t158 t159) [22, 3]
        simp; refine hc _ ?_; clear hc c
        refine T_pure rfl (pstep_two rfl rfl rfl rfl fun g0 g1 => .op rfl (by simp [g0, g1]; rfl)) fun c hc => ?_  -- 161 := unOp 4 t160
        simp; refine hc _ ?_; clear hc c
        refine T_pure rfl (pstep_one rfl rfl rfl rfl fun g0 => .op rfl (by simp [g0]; rfl)) fun c hc => ?_  -- 162 := pick t157 t161 false
        simp; refine hc _ ?_; clear hc c
        refine T_op rfl rfl fun c hc => ?_  -- 163 := pick t146 true t162
        simp; refine hc _ ?_; clear hc c
        refine T_op rfl rfl fun c hc => ?_  -- 6 := assign t163
        simp; refine hc _ ?_; clear hc c
        refine T_end (hn _ ?_); clear hn hp n p
        refine T_then ?_
        refine T_ret ?_
        exact ⟨_, Ent.sub [6] [] (by simp [sub, subSl, subHp, place, mp, mpL, mpO]; rfl), rfl, rfl, by simp [resD, resL]; try omega⟩
end Go.Proofs.Ytehboominkoldaa
