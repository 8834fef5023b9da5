/- The terms, part f: the chapter's examples, and the statement about Count. -/
import Derived.Test.YtehboominkoldaaTe
set_option linter.unusedVariables false
set_option linter.unusedSimpArgs false
namespace Go.Proofs.Ytehboominkoldaa
open Go Go.Proofs.Ytehboominkoldaa.Sx

theorem ex_law {k : Bool → Bool → Bool} (hk : k false false = false) {l : List Sp} (hl : chk (-1) l = true) (h : ∀ t, k (mem [(1, 5)] t) (mem [(3, 8)] t) = mem l t) : combOf k [(1, 5)] [(3, 8)] = l := by
  obtain ⟨c1, c2⟩ := combOf_law (k := k) hk (a := [(1, 5)]) (b := [(3, 8)]) (by decide) (by decide)
  exact chk_unique c1 hl fun t => (c2 t).trans (h t)
theorem ex_union : combOf (· || ·) [(1, 5)] [(3, 8)] = [(1, 8)] := ex_law rfl (by decide) fun t => by
  rw [Bool.eq_iff_iff]; simp [mem, inSp]; omega
theorem ex_meet : combOf (· && ·) [(1, 5)] [(3, 8)] = [(3, 5)] := ex_law rfl (by decide) fun t => by
  rw [Bool.eq_iff_iff]; simp [mem, inSp]; omega
theorem ex_minus : combOf (fun x y => x && !y) [(1, 5)] [(3, 8)] = [(1, 3)] := ex_law rfl (by decide) fun t => by
  rw [Bool.eq_iff_iff]; simp [mem, inSp]; omega
theorem u19 : Does Try.prog 19 [spans [(1, 5)], spans [(3, 8)]] (.tup [.dat (spans [(1, 8)]), .dat (iD 0)]) [] := by
  have := walk19 [(1, 5)] [(3, 8)] (by decide) (by decide)
  rwa [ex_union] at this
theorem u21 : Does Try.prog 21 [spans [(1, 5)], spans [(3, 8)]] (.tup [.dat (spans [(3, 5)]), .dat (iD 0)]) [] := by
  have := walk21 [(1, 5)] [(3, 8)] (by decide) (by decide)
  rwa [ex_meet] at this
theorem u23 : Does Try.prog 23 [spans [(1, 5)], spans [(3, 8)]] (.tup [.dat (spans [(1, 3)]), .dat (iD 0)]) [] := by
  have := walk23 [(1, 5)] [(3, 8)] (by decide) (by decide)
  rwa [ex_minus] at this
theorem u12 : Does Try.prog 12 [spans [(3, 8)]] (.tup [.dat (iD 5), .dat (iD 0)]) [] := walk12 [(3, 8)] (by decide)
theorem u16a : Does Try.prog 16 [spans [(1, 5)], iD 4] (.dat (bV true)) [] := walk16 [(1, 5)] (by decide) 4
theorem u16b : Does Try.prog 16 [spans [(1, 5)], iD 5] (.dat (bV false)) [] := walk16 [(1, 5)] (by decide) 5
theorem u14a : Does Try.prog 14 [.val (.slice none 0 0)] (.dat (iD 0)) [] := Does.nil1 (walk14 [] (by decide))
theorem u14b : Does Try.prog 14 [spans [(0, 1025)]] (.dat (iD 60)) [] := walk14 [(0, 1025)] (by decide)
theorem u14c : Does Try.prog 14 [spans [(1, 3), (3, 5)]] (.dat (iD 60)) [] := walk14 [(1, 3), (3, 5)] (by decide)
theorem u25 (l : List Sp) (hl : l.length ≤ 1000000) : Does Try.prog 25 [spans l, spans l] (.dat (bV true)) [] := by
  have := walk25 l l hl hl
  simpa using this
-- WALKS (printed by skel.py)
-- sizar/sizarlaw06.sane
theorem walk10 : Does Try.prog 10 [] (.dat (bV true)) [] := by
  refine Does.intro [0] Try.func10 rfl (by kernel_rfl) Try.ntmps10 rfl (by decide) (Nat.le_of_ble_eq_true rfl) ?_
  refine T_seq ?_
  -- region 0
  refine T_region (is := [0]) rfl fun n p hn hp => ?_
  refine T_op rfl rfl fun c hc => ?_  -- 0 := assign false
  simp; refine hc _ ?_; clear hc c
  refine T_end (hn _ ?_); clear hn hp n p
  refine T_then ?_
  refine T_seq ?_
  -- region 1
  refine T_region (is := [0, 1, 2, 3, 4, 5]) rfl fun n p hn hp => ?_
  refine T_op rfl rfl fun c hc => ?_  -- 11 := build 35 [(0, 1), (1, 5)]
  simp; refine hc _ ?_; clear hc c
  refine T_op rfl rfl fun c hc => ?_  -- 12 := buildSlice 22 1 [(0, t11)]
  simp; refine hc _ ?_; clear hc c
  refine T_op rfl rfl fun c hc => ?_  -- 13 := build 35 [(0, 3), (1, 8)]
  simp; refine hc _ ?_; clear hc c
  refine T_op rfl rfl fun c hc => ?_  -- 14 := buildSlice 22 1 [(0, t13)]
  simp; refine hc _ ?_; clear hc c
  refine T_op rfl rfl fun c hc => ?_  -- 1 := assign t12
  simp; refine hc _ ?_; clear hc c
  refine T_op rfl rfl fun c hc => ?_  -- 2 := assign t14
  simp; refine hc _ ?_; clear hc c
  refine T_end (hn _ ?_); clear hn hp n p
  refine T_then ?_
  refine T_seq ?_
  -- region 2
  refine T_region (is := [0, 1, 2, 3, 4, 5, 6, 7]) rfl fun n p hn hp => ?_
  refine T_opsEnt (Ent.give (t := 1) (n := 9) rfl (by simp [Sx.give, big]; exact ⟨rfl, rfl⟩)) ?_
  refine T_opsEnt (Ent.give (t := 2) (n := 9) rfl (by simp [Sx.give, big]; exact ⟨rfl, rfl⟩)) ?_
  refine T_op rfl rfl fun c hc => ?_  -- 16 := move t1
  simp; refine hc _ ?_; clear hc c
  refine T_op rfl rfl fun c hc => ?_  -- 17 := move t2
  simp; refine hc _ ?_; clear hc c
  refine T_op rfl rfl fun c hc => ?_  -- 18 := call value F19 (t16 t17) [22, 22]
  simp
  refine CallS.dat (u19) rfl rfl rfl rfl ?_
  simp [enum]; refine hc _ ?_; clear hc c
  refine T_op rfl rfl fun c hc => ?_  -- 15 := move t18
  simp; refine hc _ ?_; clear hc c
  refine T_op rfl rfl fun c hc => ?_  -- 19 := extract t15 0
  simp; refine hc _ ?_; clear hc c
  refine T_op rfl rfl fun c hc => ?_  -- 20 := extract t15 1
  simp; refine hc _ ?_; clear hc c
  refine T_op rfl rfl fun c hc => ?_  -- 3 := assign t19
  simp; refine hc _ ?_; clear hc c
  refine T_op rfl rfl fun c hc => ?_  -- 4 := assign t20
  simp; refine hc _ ?_; clear hc c
  refine T_end (hn _ ?_); clear hn hp n p
  refine T_then ?_
  refine T_seq ?_
  -- region 3
  refine T_region (is := [0, 1, 2, 3, 4, 5, 6, 7]) rfl fun n p hn hp => ?_
  refine T_op rfl rfl fun c hc => ?_  -- 22 := move t1
  simp; refine hc _ ?_; clear hc c
  refine T_op rfl rfl fun c hc => ?_  -- 23 := move t2
  simp; refine hc _ ?_; clear hc c
  refine T_op rfl rfl fun c hc => ?_  -- 24 := call value F21 (t22 t23) [22, 22]
  simp
  refine CallS.dat (u21) rfl rfl rfl rfl ?_
  simp [enum]; refine hc _ ?_; clear hc c
  refine T_op rfl rfl fun c hc => ?_  -- 21 := move t24
  simp; refine hc _ ?_; clear hc c
  refine T_op rfl rfl fun c hc => ?_  -- 25 := extract t21 0
  simp; refine hc _ ?_; clear hc c
  refine T_op rfl rfl fun c hc => ?_  -- 26 := extract t21 1
  simp; refine hc _ ?_; clear hc c
  refine T_op rfl rfl fun c hc => ?_  -- 5 := assign t25
  simp; refine hc _ ?_; clear hc c
  refine T_op rfl rfl fun c hc => ?_  -- 6 := assign t26
  simp; refine hc _ ?_; clear hc c
  refine T_end (hn _ ?_); clear hn hp n p
  refine T_then ?_
  refine T_seq ?_
  -- region 4
  refine T_region (is := [0, 1, 2, 3, 4, 5, 6, 7]) rfl fun n p hn hp => ?_
  refine T_op rfl rfl fun c hc => ?_  -- 28 := move t1
  simp; refine hc _ ?_; clear hc c
  refine T_op rfl rfl fun c hc => ?_  -- 29 := move t2
  simp; refine hc _ ?_; clear hc c
  refine T_op rfl rfl fun c hc => ?_  -- 30 := call value F23 (t28 t29) [22, 22]
  simp
  refine CallS.dat (u23) rfl rfl rfl rfl ?_
  simp [enum]; refine hc _ ?_; clear hc c
  refine T_op rfl rfl fun c hc => ?_  -- 27 := move t30
  simp; refine hc _ ?_; clear hc c
  refine T_op rfl rfl fun c hc => ?_  -- 31 := extract t27 0
  simp; refine hc _ ?_; clear hc c
  refine T_op rfl rfl fun c hc => ?_  -- 32 := extract t27 1
  simp; refine hc _ ?_; clear hc c
  refine T_op rfl rfl fun c hc => ?_  -- 7 := assign t31
  simp; refine hc _ ?_; clear hc c
  refine T_op rfl rfl fun c hc => ?_  -- 8 := assign t32
  simp; refine hc _ ?_; clear hc c
  refine T_end (hn _ ?_); clear hn hp n p
  refine T_then ?_
  refine T_seq ?_
  -- region 5
  refine T_region (is := [0, 1, 2, 3, 4, 5, 6]) rfl fun n p hn hp => ?_
  refine T_op rfl rfl fun c hc => ?_  -- 34 := move t2
  simp; refine hc _ ?_; clear hc c
  refine T_op rfl rfl fun c hc => ?_  -- 35 := call value F12 (t34) [22]
  simp
  refine CallS.dat (u12) rfl rfl rfl rfl ?_
  simp [enum]; refine hc _ ?_; clear hc c
  refine T_op rfl rfl fun c hc => ?_  -- 33 := move t35
  simp; refine hc _ ?_; clear hc c
  refine T_op rfl rfl fun c hc => ?_  -- 36 := extract t33 0
  simp; refine hc _ ?_; clear hc c
  refine T_op rfl rfl fun c hc => ?_  -- 37 := extract t33 1
  simp; refine hc _ ?_; clear hc c
  refine T_op rfl rfl fun c hc => ?_  -- 9 := assign t36
  simp; refine hc _ ?_; clear hc c
  refine T_op rfl rfl fun c hc => ?_  -- 10 := assign t37
  simp; refine hc _ ?_; clear hc c
  refine T_end (hn _ ?_); clear hn hp n p
  refine T_then ?_
  refine T_seq ?_
  -- region 6
  refine T_region (is := [0, 1, 2, 3, 4, 5, 6, 7, 8, 9, 10, 11, 12, 13, 14, 15, 16, 17, 18, 19, 20, 21, 22, 23, 24, 25, 26, 27, 28, 29, 30, 31, 32, 33, 34, 35, 36, 37, 38, 39, 40, 41, 42, 43, 44, 45, 46, 47, 48, 49, 50, 51, 52, 53, 54, 55, 56, 57, 58, 59, 60, 61, 62]) rfl fun n p hn hp => ?_
  refine T_op rfl rfl fun c hc => ?_  -- 38 := move t4
  simp; refine hc _ ?_; clear hc c
  refine T_op rfl rfl fun c hc => ?_  -- 39 := binOp 25 t38 == 0
  simp; refine hc _ ?_; clear hc c
  refine T_op rfl rfl fun c hc => ?_  -- 40 := move t39
  simp; refine hc _ ?_; clear hc c
  refine T_on rfl rfl rfl rfl rfl fun c hc => ?_  -- 41 := move t3
  simp; refine hc _ ?_; clear hc c
  refine T_on rfl rfl rfl rfl rfl fun c hc => ?_  -- 42 := build 35 [(0, 1), (1, 8)]
  simp; refine hc _ ?_; clear hc c
  refine T_on rfl rfl rfl rfl rfl fun c hc => ?_  -- 43 := buildSlice 22 1 [(0, t42)]
  simp; refine hc _ ?_; clear hc c
  refine T_on rfl rfl rfl rfl rfl fun c hc => ?_  -- 44 := call value F25 (t41 t43) [22, 22]
  simp
  refine CallS.lend (u25 [(1, 8)] (by decide)) rfl rfl rfl ?_
  simp [enum]; refine hc _ ?_; clear hc c
  refine T_op rfl rfl fun c hc => ?_  -- 45 := pick t40 t44 false
  simp; refine hc _ ?_; clear hc c
  refine T_op rfl rfl fun c hc => ?_  -- 46 := move t45
  simp; refine hc _ ?_; clear hc c
  refine T_on rfl rfl rfl rfl rfl fun c hc => ?_  -- 47 := move t6
  simp; refine hc _ ?_; clear hc c
  refine T_on rfl rfl rfl rfl rfl fun c hc => ?_  -- 48 := binOp 25 t47 == 0
  simp; refine hc _ ?_; clear hc c
  refine T_op rfl rfl fun c hc => ?_  -- 49 := pick t46 t48 false
  simp; refine hc _ ?_; clear hc c
  refine T_op rfl rfl fun c hc => ?_  -- 50 := move t49
  simp; refine hc _ ?_; clear hc c
  refine T_on rfl rfl rfl rfl rfl fun c hc => ?_  -- 51 := move t5
  simp; refine hc _ ?_; clear hc c
  refine T_on rfl rfl rfl rfl rfl fun c hc => ?_  -- 52 := build 35 [(0, 3), (1, 5)]
  simp; refine hc _ ?_; clear hc c
  refine T_on rfl rfl rfl rfl rfl fun c hc => ?_  -- 53 := buildSlice 22 1 [(0, t52)]
  simp; refine hc _ ?_; clear hc c
  refine T_on rfl rfl rfl rfl rfl fun c hc => ?_  -- 54 := call value F25 (t51 t53) [22, 22]
  simp
  refine CallS.lend (u25 [(3, 5)] (by decide)) rfl rfl rfl ?_
  simp [enum]; refine hc _ ?_; clear hc c
  refine T_op rfl rfl fun c hc => ?_  -- 55 := pick t50 t54 false
  simp; refine hc _ ?_; clear hc c
  refine T_op rfl rfl fun c hc => ?_  -- 56 := move t55
  simp; refine hc _ ?_; clear hc c
  refine T_on rfl rfl rfl rfl rfl fun c hc => ?_  -- 57 := move t8
  simp; refine hc _ ?_; clear hc c
  refine T_on rfl rfl rfl rfl rfl fun c hc => ?_  -- 58 := binOp 25 t57 == 0
  simp; refine hc _ ?_; clear hc c
  refine T_op rfl rfl fun c hc => ?_  -- 59 := pick t56 t58 false
  simp; refine hc _ ?_; clear hc c
  refine T_op rfl rfl fun c hc => ?_  -- 60 := move t59
  simp; refine hc _ ?_; clear hc c
  refine T_on rfl rfl rfl rfl rfl fun c hc => ?_  -- 61 := move t7
  simp; refine hc _ ?_; clear hc c
  refine T_on rfl rfl rfl rfl rfl fun c hc => ?_  -- 62 := build 35 [(0, 1), (1, 3)]
  simp; refine hc _ ?_; clear hc c
  refine T_on rfl rfl rfl rfl rfl fun c hc => ?_  -- 63 := buildSlice 22 1 [(0, t62)]
  simp; refine hc _ ?_; clear hc c
  refine T_on rfl rfl rfl rfl rfl fun c hc => ?_  -- 64 := call value F25 (t61 t63) [22, 22]
  simp
  refine CallS.lend (u25 [(1, 3)] (by decide)) rfl rfl rfl ?_
  simp [enum]; refine hc _ ?_; clear hc c
  refine T_op rfl rfl fun c hc => ?_  -- 65 := pick t60 t64 false
  simp; refine hc _ ?_; clear hc c
  refine T_op rfl rfl fun c hc => ?_  -- 66 := move t65
  simp; refine hc _ ?_; clear hc c
  refine T_on rfl rfl rfl rfl rfl fun c hc => ?_  -- 67 := move t10
  simp; refine hc _ ?_; clear hc c
  refine T_on rfl rfl rfl rfl rfl fun c hc => ?_  -- 68 := binOp 25 t67 == 0
  simp; refine hc _ ?_; clear hc c
  refine T_op rfl rfl fun c hc => ?_  -- 69 := pick t66 t68 false
  simp; refine hc _ ?_; clear hc c
  refine T_op rfl rfl fun c hc => ?_  -- 70 := move t69
  simp; refine hc _ ?_; clear hc c
  refine T_on rfl rfl rfl rfl rfl fun c hc => ?_  -- 71 := move t9
  simp; refine hc _ ?_; clear hc c
  refine T_on rfl rfl rfl rfl rfl fun c hc => ?_  -- 72 := binOp 3 t71 == 5
  simp; refine hc _ ?_; clear hc c
  refine T_op rfl rfl fun c hc => ?_  -- 73 := pick t70 t72 false
  simp; refine hc _ ?_; clear hc c
  refine T_op rfl rfl fun c hc => ?_  -- 74 := move t73
  simp; refine hc _ ?_; clear hc c
  refine T_on rfl rfl rfl rfl rfl fun c hc => ?_  -- 75 := move t1
  simp; refine hc _ ?_; clear hc c
  refine T_on rfl rfl rfl rfl rfl fun c hc => ?_  -- 76 := call value F16 (t75 4) [22, 3]
  simp
  refine CallS.dat (u16a) rfl rfl rfl rfl ?_
  simp [enum]; refine hc _ ?_; clear hc c
  refine T_op rfl rfl fun c hc => ?_  -- 77 := pick t74 t76 false
  simp; refine hc _ ?_; clear hc c
  refine T_op rfl rfl fun c hc => ?_  -- 78 := move t77
  simp; refine hc _ ?_; clear hc c
  refine T_on rfl rfl rfl rfl rfl fun c hc => ?_  -- 79 := move t1
  simp; refine hc _ ?_; clear hc c
  refine T_on rfl rfl rfl rfl rfl fun c hc => ?_  -- 80 := call value F16 (t79 5) [22, 3]
  simp
  refine CallS.dat (u16b) rfl rfl rfl rfl ?_
  simp [enum]; refine hc _ ?_; clear hc c
  refine T_on rfl rfl rfl rfl rfl fun c hc => ?_  -- 81 := unOp 4 t80
  simp; refine hc _ ?_; clear hc c
  refine T_op rfl rfl fun c hc => ?_  -- 82 := pick t78 t81 false
  simp; refine hc _ ?_; clear hc c
  refine T_op rfl rfl fun c hc => ?_  -- 83 := move t82
  simp; refine hc _ ?_; clear hc c
  refine T_on rfl rfl rfl rfl rfl fun c hc => ?_  -- 84 := call value F14 (nil) [22]
  simp
  refine CallS.dat (u14a) rfl rfl rfl rfl ?_
  simp [enum]; refine hc _ ?_; clear hc c
  refine T_on rfl rfl rfl rfl rfl fun c hc => ?_  -- 85 := binOp 25 t84 == 0
  simp; refine hc _ ?_; clear hc c
  refine T_op rfl rfl fun c hc => ?_  -- 86 := pick t83 t85 false
  simp; refine hc _ ?_; clear hc c
  refine T_op rfl rfl fun c hc => ?_  -- 87 := move t86
  simp; refine hc _ ?_; clear hc c
  refine T_on rfl rfl rfl rfl rfl fun c hc => ?_  -- 88 := build 35 [(0, 0), (1, 1025)]
  simp; refine hc _ ?_; clear hc c
  refine T_on rfl rfl rfl rfl rfl fun c hc => ?_  -- 89 := buildSlice 22 1 [(0, t88)]
  simp; refine hc _ ?_; clear hc c
  refine T_on rfl rfl rfl rfl rfl fun c hc => ?_  -- 90 := call value F14 (t89) [22]
  simp
  refine CallS.lend (u14b) rfl rfl rfl ?_
  simp [enum]; refine hc _ ?_; clear hc c
  refine T_on rfl rfl rfl rfl rfl fun c hc => ?_  -- 91 := binOp 25 t90 == 60
  simp; refine hc _ ?_; clear hc c
  refine T_op rfl rfl fun c hc => ?_  -- 92 := pick t87 t91 false
  simp; refine hc _ ?_; clear hc c
  refine T_op rfl rfl fun c hc => ?_  -- 93 := move t92
  simp; refine hc _ ?_; clear hc c
  refine T_on rfl rfl rfl rfl rfl fun c hc => ?_  -- 94 := build 35 [(0, 1), (1, 3)]
  simp; refine hc _ ?_; clear hc c
  refine T_on rfl rfl rfl rfl rfl fun c hc => ?_  -- 95 := build 35 [(0, 3), (1, 5)]
  simp; refine hc _ ?_; clear hc c
  refine T_on rfl rfl rfl rfl rfl fun c hc => ?_  -- 96 := buildSlice 22 2 [(0, t94), (1, t95)]
  simp; refine hc _ ?_; clear hc c
  refine T_on rfl rfl rfl rfl rfl fun c hc => ?_  -- 97 := call value F14 (t96) [22]
  simp
  refine CallS.lend (u14c) rfl rfl rfl ?_
  simp [enum]; refine hc _ ?_; clear hc c
  refine T_on rfl rfl rfl rfl rfl fun c hc => ?_  -- 98 := binOp 25 t97 == 60
  simp; refine hc _ ?_; clear hc c
  refine T_op rfl rfl fun c hc => ?_  -- 99 := pick t93 t98 false
  simp; refine hc _ ?_; clear hc c
  refine T_op rfl rfl fun c hc => ?_  -- 0 := assign t99
  simp; refine hc _ ?_; clear hc c
  refine T_end (hn _ ?_); clear hn hp n p
  refine T_then ?_
  refine T_ret ?_
  exact ⟨_, Ent.sub [0] [] (by simp [sub, subSl, subHp, place, mp, mpL, mpO]; rfl), rfl, rfl, by simp [resD, resL]; try omega⟩
-- sizar/sizarlaw06.TermsCountSpec
theorem walk3 (l : List Sp) (term : Int) : Does Try.prog 3 [spans l, iD term] (.dat (bV true)) [] := by
  refine Does.intro [4] Try.func3 rfl (by kernel_rfl) Try.ntmps3 rfl (by decide) (Nat.le_of_ble_eq_true rfl) ?_
  refine T_seq ?_
  -- region 0
  refine T_region (is := [0]) rfl fun n p hn hp => ?_
  refine T_op rfl rfl fun c hc => ?_  -- 4 := assign false
  simp; refine hc _ ?_; clear hc c
  refine T_end (hn _ ?_); clear hn hp n p
  refine T_then ?_
  refine T_seq ?_
  refine T_seq ?_
  -- region 1
  refine T_region (is := [0, 1]) rfl fun n p hn hp => ?_
  refine T_op rfl rfl fun c hc => ?_  -- 9 := call value F10 () []
  simp
  refine CallS.dat (walk10) rfl rfl rfl rfl ?_
  simp [enum]; refine hc _ ?_; clear hc c
  refine T_op rfl rfl fun c hc => ?_  -- 10 := unOp 4 t9
  simp; refine hc _ ?_; clear hc c
  refine T_end (hn _ ?_); clear hn hp n p
  refine T_then ?_
  refine T_false (by simp) ?_  -- t10
  refine T_skip ?_
  refine T_then ?_
  refine T_seq ?_
  refine T_seq ?_
  -- region 3
  refine T_region (is := [0, 1, 2]) rfl fun n p hn hp => ?_
  refine T_op rfl rfl fun c hc => ?_  -- 11 := move t0
  simp; refine hc _ ?_; clear hc c
  refine T_op rfl rfl fun c hc => ?_  -- 12 := call value F11 (t11) [22]
  simp
  refine CallS.dat (walk11 l) rfl rfl rfl rfl ?_
  simp [enum]; refine hc _ ?_; clear hc c
  refine T_op rfl rfl fun c hc => ?_  -- 13 := unOp 4 t12
  simp; refine hc _ ?_; clear hc c
  refine T_end (hn _ ?_); clear hn hp n p
  refine T_then ?_
  refine T_cond rfl (fun b2 => ?_) (fun b2 => ?_)  -- t13
  · skip
    refine T_seq ?_
    -- region 4
    refine T_region (is := [0]) rfl fun n p hn hp => ?_
    refine T_op rfl rfl fun c hc => ?_  -- 4 := assign true
    simp; refine hc _ ?_; clear hc c
    refine T_end (hn _ ?_); clear hn hp n p
    refine T_then ?_
    refine T_ret ?_
    refine X_thenR ?_
    exact ⟨_, Ent.sub [4] [] (by simp [sub, subSl, subHp, place, mp, mpL, mpO]; rfl), rfl, rfl, by simp [resD, resL]; try omega⟩
  · skip
    have hl : l.length ≤ 40 := by simpa using b2
    refine T_skip ?_
    refine T_then ?_
    refine T_seq ?_
    -- region 5
    refine T_region (is := [0, 1, 2, 3, 4, 5, 6]) rfl fun n p hn hp => ?_
    refine T_op rfl rfl fun c hc => ?_  -- 15 := move t0
    simp; refine hc _ ?_; clear hc c
    refine T_op rfl rfl fun c hc => ?_  -- 16 := call value F12 (t15) [22]
    simp
    refine CallS.dat (walk12 l (by omega)) rfl rfl rfl rfl ?_
    simp [enum]; refine hc _ ?_; clear hc c
    refine T_op rfl rfl fun c hc => ?_  -- 14 := move t16
    simp; refine hc _ ?_; clear hc c
    refine T_op rfl rfl fun c hc => ?_  -- 17 := extract t14 0
    simp; refine hc _ ?_; clear hc c
    refine T_op rfl rfl fun c hc => ?_  -- 18 := extract t14 1
    simp; refine hc _ ?_; clear hc c
    refine T_op rfl rfl fun c hc => ?_  -- 5 := assign t17
    simp; refine hc _ ?_; clear hc c
    refine T_op rfl rfl fun c hc => ?_  -- 6 := assign t18
    simp; refine hc _ ?_; clear hc c
    refine T_end (hn _ ?_); clear hn hp n p
    refine T_then ?_
    refine T_seq ?_
    -- region 6
    refine T_region (is := [0, 1, 2, 3, 4, 5, 6]) rfl fun n p hn hp => ?_
    refine T_op rfl rfl fun c hc => ?_  -- 20 := move t0
    simp; refine hc _ ?_; clear hc c
    refine T_op rfl rfl fun c hc => ?_  -- 21 := call value F13 (t20) [22]
    simp
    refine CallS.dat (walk13 l (by omega)) rfl rfl rfl rfl ?_
    simp [enum]; refine hc _ ?_; clear hc c
    refine T_op rfl rfl fun c hc => ?_  -- 19 := move t21
    simp; refine hc _ ?_; clear hc c
    refine T_op rfl rfl fun c hc => ?_  -- 22 := extract t19 0
    simp; refine hc _ ?_; clear hc c
    refine T_op rfl rfl fun c hc => ?_  -- 23 := extract t19 1
    simp; refine hc _ ?_; clear hc c
    refine T_op rfl rfl fun c hc => ?_  -- 7 := assign t22
    simp; refine hc _ ?_; clear hc c
    refine T_op rfl rfl fun c hc => ?_  -- 8 := assign t23
    simp; refine hc _ ?_; clear hc c
    refine T_end (hn _ ?_); clear hn hp n p
    refine T_then ?_
    refine T_seq ?_
    -- region 7
    refine T_region (is := [0, 1, 2, 3, 4, 5, 6, 7, 8, 9, 10, 11, 12, 13, 14, 15, 16, 17, 18, 19, 20, 21, 22, 23, 24]) rfl fun n p hn hp => ?_
    refine T_op rfl rfl fun c hc => ?_  -- 24 := move t5
    simp; refine hc _ ?_; clear hc c
    refine T_op rfl rfl fun c hc => ?_  -- 25 := move t7
    simp; refine hc _ ?_; clear hc c
    refine T_op rfl rfl fun c hc => ?_  -- 26 := binOp 3 t24 == t25
    simp; refine hc _ ?_; clear hc c
    refine T_op rfl rfl fun c hc => ?_  -- 27 := move t26
    simp; refine hc _ ?_; clear hc c
    refine T_pure rfl (pstep_one rfl rfl rfl rfl fun g0 => .op rfl (by simp [g0]; rfl)) fun c hc => ?_  -- 28 := move t6
    simp; refine hc _ ?_; clear hc c
    refine T_pure rfl (pstep_one rfl rfl rfl rfl fun g0 => .op rfl (by simp [g0]; rfl)) fun c hc => ?_  -- 29 := move t8
    simp; refine hc _ ?_; clear hc c
    refine T_pure rfl (pstep_one rfl rfl rfl rfl fun g0 => .op rfl (by simp [g0]; rfl)) fun c hc => ?_  -- 30 := binOp 25 t28 == t29
    simp; refine hc _ ?_; clear hc c
    refine T_op rfl rfl fun c hc => ?_  -- 31 := pick t27 t30 false
    simp; refine hc _ ?_; clear hc c
    refine T_op rfl rfl fun c hc => ?_  -- 32 := move t31
    simp; refine hc _ ?_; clear hc c
    refine T_pure rfl (pstep_one rfl rfl rfl rfl fun g0 => .op rfl (by simp [g0]; rfl)) fun c hc => ?_  -- 33 := move t0
    simp; refine hc _ ?_; clear hc c
    refine T_pure rfl (pstep_one rfl rfl rfl rfl fun g0 => .dat (by simp [g0]; exact ⟨rfl, rfl⟩) (by exact walk14 l (by omega)) (by rfl)) fun c hc => ?_  -- 34 := call value F14 (t33) [22]
    simp; refine hc _ ?_; clear hc c
    refine T_pure rfl (pstep_one rfl rfl rfl rfl fun g0 => .op rfl (by simp [g0]; rfl)) fun c hc => ?_  -- 35 := move t0
    simp; refine hc _ ?_; clear hc c
    refine T_pure rfl (pstep_one rfl rfl rfl rfl fun g0 => .dat (by simp [g0]; exact ⟨rfl, rfl⟩) (by exact walk15 l (by omega)) (by rfl)) fun c hc => ?_  -- 36 := call value F15 (t35) [22]
    simp; refine hc _ ?_; clear hc c
    refine T_pure rfl (pstep_one rfl rfl rfl rfl fun g0 => .op rfl (by simp [g0]; rfl)) fun c hc => ?_  -- 37 := binOp 25 t34 == t36
    simp; refine hc _ ?_; clear hc c
    refine T_op rfl rfl fun c hc => ?_  -- 38 := pick t32 t37 false
    simp; refine hc _ ?_; clear hc c
    refine T_op rfl rfl fun c hc => ?_  -- 39 := move t38
    simp; refine hc _ ?_; clear hc c
    refine T_pure rfl (pstep_one rfl rfl rfl rfl fun g0 => .op rfl (by simp [g0]; rfl)) fun c hc => ?_  -- 40 := move t0
    simp; refine hc _ ?_; clear hc c
    refine T_pure rfl (pstep_one rfl rfl rfl rfl fun g0 => .op rfl (by simp [g0]; rfl)) fun c hc => ?_  -- 41 := move t1
    simp; refine hc _ ?_; clear hc c
    refine T_pure rfl (pstep_one rfl rfl rfl rfl fun g0 => .dat (by simp [g0]; exact ⟨rfl, rfl⟩) (by exact walk16 l (by omega) term) (by rfl)) fun c hc => ?_  -- 42 := call value F16 (t40 t41) [22, 3]
    simp; refine hc _ ?_; clear hc c
    refine T_pure rfl (pstep_one rfl rfl rfl rfl fun g0 => .op rfl (by simp [g0]; rfl)) fun c hc => ?_  -- 43 := move t0
    simp; refine hc _ ?_; clear hc c
    refine T_pure rfl (pstep_one rfl rfl rfl rfl fun g0 => .op rfl (by simp [g0]; rfl)) fun c hc => ?_  -- 44 := move t1
    simp; refine hc _ ?_; clear hc c
    refine T_pure rfl (pstep_one rfl rfl rfl rfl fun g0 => .dat (by simp [g0]; exact ⟨rfl, rfl⟩) (by exact walk17 l (by omega) term) (by rfl)) fun c hc => ?_  -- 45 := call value F17 (t43 t44) [22, 3]
    simp; refine hc _ ?_; clear hc c
    refine T_pure rfl (pstep_one rfl rfl rfl rfl fun g0 => .op rfl (by simp [g0]; rfl)) fun c hc => ?_  -- 46 := binOp 4 t42 == t45
    simp; refine hc _ ?_; clear hc c
    refine T_op rfl rfl fun c hc => ?_  -- 47 := pick t39 t46 false
    simp; refine hc _ ?_; clear hc c
    refine T_op rfl rfl fun c hc => ?_  -- 4 := assign t47
    simp; refine hc _ ?_; clear hc c
    refine T_end (hn _ ?_); clear hn hp n p
    refine T_then ?_
    refine T_ret ?_
    exact ⟨_, Ent.sub [4] [] (by simp [sub, subSl, subHp, place, mp, mpL, mpO]; rfl), rfl, rfl, by simp [resD, resL]; try omega⟩
end Go.Proofs.Ytehboominkoldaa
