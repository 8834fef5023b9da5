/- The names: the parts of a rule, and what a course needs. -/
import Derived.Test.YtbkkekbeaabokaaNb
set_option linter.unusedVariables false
set_option linter.unusedSimpArgs false
namespace Go.Proofs.Ytbkkekbeaabokaa
open Go Go.Proofs.Ytbkkekbeaabokaa.Sx

-- WALK 26
-- sizar/sizarref11.parts
theorem step26 (r : Rule) (hr : (partsOf r).length ≤ 1048576) (ih : ∀ x : Rule, (partsOf x).length < (partsOf r).length → Does Try.prog 26 [.agg (ruleD x)] (.dat (.sl 6 ((partsOf x).map ruleD))) []) : Does Try.prog 26 [.agg (ruleD r)] (.dat (.sl 6 ((partsOf r).map ruleD))) [] := by
  have hre : (partsOf r).length = (partsL r.kids).length + 1 := by rw [partsOf_eq]; rfl
  refine Does.intro [.tmp 2] Try.func26 rfl (by kernel_rfl) Try.ntmps26 rfl (Nat.le_of_ble_eq_true rfl) ?_
  refine T_seq ?_
  -- region 0
  refine T_region (is := [0, 1]) rfl fun kn kp hn hp => ?_
  refine T_op rfl rfl fun kc hc => ?_  -- 1 := box 39 t0
  simp; refine hc _ ?_; clear hc kc
  refine T_op rfl rfl fun kc hc => ?_  -- 2 := assign nil
  simp; refine hc _ ?_; clear hc kc
  refine T_end (hn _ ?_); clear hn hp kn kp
  refine T_then ?_
  refine T_seq ?_
  -- region 1
  refine T_region (is := [0, 1, 2]) rfl fun kn kp hn hp => ?_
  refine T_op rfl rfl fun kc hc => ?_  -- 5 := load 39 t1
  simp; refine hc _ ?_; clear hc kc
  refine T_op rfl rfl fun kc hc => ?_  -- 6 := buildSlice 37 1 [(0, t5)]
  simp; refine hc _ ?_; clear hc kc
  refine T_op rfl rfl fun kc hc => ?_  -- 3 := assign t6
  simp; refine hc _ ?_; clear hc kc
  refine T_end (hn _ ?_); clear hn hp kn kp
  refine T_then ?_
  refine T_seq ?_
  refine T_seq ?_
  -- region 2
  refine T_region (is := [0]) rfl fun kn kp hn hp => ?_
  refine T_op rfl rfl fun kc hc => ?_  -- 4 := assign 0
  simp; refine hc _ ?_; clear hc kc
  refine T_end (hn _ ?_); clear hn hp kn kp
  refine T_then ?_
  refine T_block ?_  -- block 0
  refine T_loop (fun z : Nat => { sl := [(1, .ptr 0 0), (3, .own 1 6 ((partsL (r.kids.take z)).length + 1)), (4, .dat (iD z))], hp := [(0, .var ((ruleD r).map .dat)), (1, .row 39 6 ((r :: partsL (r.kids.take z)).map ruleD))], nx := 2 }) (fun z => z ≤ r.kids.length) (fun z => r.kids.length - z) 0 (Ent.sub [1, 3, 4] [0, 1] (by simp [sub, subSl, subHp, place, mp, mpL, mpO, mpG, partsL])) (Nat.zero_le _) fun z hz => ?_  -- loop 0
  refine T_seq ?_
  refine T_seq ?_
  -- region 3
  refine T_region (is := [0, 1, 2, 3, 4]) rfl fun kn kp hn hp => ?_
  refine T_op rfl rfl fun kc hc => ?_  -- 7 := move t4
  simp; refine hc _ ?_; clear hc kc
  refine T_op rfl rfl fun kc hc => ?_  -- 8 := fieldAddr 39 t1 5
  simp; refine hc _ ?_; clear hc kc
  refine T_op rfl rfl fun kc hc => ?_  -- 9 := load 37 t8
  simp; refine hc _ ?_; clear hc kc
  refine T_op rfl rfl fun kc hc => ?_  -- 10 := call len (t9) [37]
  simp; refine hc _ ?_; clear hc kc
  refine T_op rfl rfl fun kc hc => ?_  -- 11 := binOp 3 t7 < t10
  simp; refine hc _ ?_; clear hc kc
  refine T_end (hn _ ?_); clear hn hp kn kp
  refine T_then ?_
  refine T_cond rfl (fun b1 => ?_) (fun b1 => ?_)  -- t11
  · skip
    have hz' : z < r.kids.length := by simpa using b1
    obtain ⟨x, hx⟩ : ∃ x, r.kids[z]? = some x := ⟨_, List.getElem?_eq_getElem hz'⟩
    have hkx := kids_get hx
    have hpl := partsL_len hx
    have hkl := kids_le r.kids
    have e1 : IntKind.i64.wrap ((z : Int) + 1) = (z : Int) + 1 := wr1 hz' (by omega)
    have hpn := partsL_next hx
    have e7 : ((partsL (r.kids.take z)).length + 1 + (partsOf x).length) * 72 ≤ big := by simp only [big]; omega
    have hlt : (partsOf x).length < (partsOf r).length := by omega
    refine T_skip ?_
    refine T_then ?_
    refine T_seq ?_
    refine T_block ?_  -- block 1
    -- region 5
    refine T_region (is := [0, 1, 2, 3, 4, 5, 6, 7, 8]) rfl fun kn kp hn hp => ?_
    refine T_op rfl rfl fun kc hc => ?_  -- 14 := move t3
    simp; refine hc _ ?_; clear hc kc
    refine T_op rfl rfl fun kc hc => ?_  -- 15 := fieldAddr 39 t1 5
    simp; refine hc _ ?_; clear hc kc
    refine T_op rfl rfl fun kc hc => ?_  -- 16 := load 37 t15
    simp; refine hc _ ?_; clear hc kc
    refine T_op rfl rfl fun kc hc => ?_  -- 17 := move t4
    simp; refine hc _ ?_; clear hc kc
    refine T_op rfl rfl fun kc hc => ?_  -- 18 := indexAddr 37 t16 t17
    simp [hkx]; refine hc _ ?_; clear hc kc
    refine T_op rfl rfl fun kc hc => ?_  -- 19 := load 39 t18
    simp; refine hc _ ?_; clear hc kc
    refine T_op rfl rfl fun kc hc => ?_  -- 20 := call value F26 (t19) [39]
    simp
    refine CallS.dat (ih x hlt) (rfl) rfl rfl rfl ?_
    simp [enum]; refine hc _ ?_; clear hc kc
    refine T_op rfl rfl fun kc hc => ?_  -- 21 := call append (t14 t20) [37, 37]
    simp [e7]; refine hc _ ?_; clear hc kc
    refine T_op rfl rfl fun kc hc => ?_  -- 3 := assign t21
    simp; refine hc _ ?_; clear hc kc
    refine T_end (hn _ ?_); clear hn hp kn kp
    refine X_blockN ?_
    refine T_then ?_
    -- region 4
    refine T_region (is := [0, 1, 2]) rfl fun kn kp hn hp => ?_
    refine T_op rfl rfl fun kc hc => ?_  -- 12 := move t4
    simp; refine hc _ ?_; clear hc kc
    refine T_op rfl rfl fun kc hc => ?_  -- 13 := binOp 3 t12 + 1
    simp [e1]; refine hc _ ?_; clear hc kc
    refine T_op rfl rfl fun kc hc => ?_  -- 4 := assign t13
    simp; refine hc _ ?_; clear hc kc
    refine T_end (hn _ ?_); clear hn hp kn kp
    exact X_loopN (z + 1) (Ent.sub [1, 3, 4] [0, 2] (by simp [sub, subSl, subHp, place, mp, mpL, mpO, mpG, e1, hpn, List.length_append]; omega)) hz' (by omega)
  · skip
    have hz' : z = r.kids.length := by simp at b1; omega
    subst hz'
    have hb : (partsL r.kids).length + 1 ≤ big := by simp only [big]; omega
    refine T_exit ?_
    refine X_thenE ?_
    refine X_loopE ?_
    refine X_hit ?_
    refine T_then ?_
    refine T_seq ?_
    -- region 6
    refine T_region (is := [0, 1]) rfl fun kn kp hn hp => ?_
    refine T_op rfl rfl fun kc hc => ?_  -- 22 := move t3
    simp; refine hc _ ?_; clear hc kc
    refine T_op rfl rfl fun kc hc => ?_  -- 2 := assign t22
    simp; refine hc _ ?_; clear hc kc
    refine T_end (hn _ ?_); clear hn hp kn kp
    refine T_then ?_
    refine T_ret ?_
    exact finI (Ent.give (t := 2) (n := 9) (e := .sl 6 ((partsOf r).map ruleD)) (hp' := [(0, .var ((ruleD r).map .dat))]) rfl (by simp [Sx.give, hb, partsOf_eq])) (by simp [resD, resL, resV]; rfl) (Ent.sub [] [] (by simp [sub, subSl, subHp, place, mp, mpL, mpO, mpG]; rfl)) rfl rfl (by simp)
-- END
theorem walk26 (r : Rule) (hr : (partsOf r).length ≤ 1048576) : Does Try.prog 26 [.agg (ruleD r)] (.dat (.sl 6 ((partsOf r).map ruleD))) [] := by
  obtain ⟨n, hn⟩ : ∃ n, (partsOf r).length = n := ⟨_, rfl⟩
  induction n using Nat.strongRecOn generalizing r with
  | ind n ih => exact step26 r hr fun x hx => ih _ (by omega) x (by omega) rfl
-- WALK 24
-- sizar/sizarref11.Needs
theorem walk24 (c : Cat) (i : Nat) (y : Course) (hy : c.courses[i]? = some y) (hp : (partsOf y.need).length ≤ 1048576) (hl : c.courses.length ≤ 1048576) : Does Try.prog 24 [.agg (catD c), iD i] (.dat (ints (needsL c (partsOf y.need)))) [] := by
  have w26 := walk26 y.need hp
  generalize partsOf y.need = l at *
  refine Does.intro [.tmp 4] Try.func24 rfl (by kernel_rfl) Try.ntmps24 rfl (Nat.le_of_ble_eq_true rfl) ?_
  refine T_seq ?_
  -- region 0
  refine T_region (is := [0, 1]) rfl fun kn kp hn hp => ?_
  refine T_op rfl rfl fun kc hc => ?_  -- 2 := box 29 t0
  simp; refine hc _ ?_; clear hc kc
  refine T_op rfl rfl fun kc hc => ?_  -- 4 := assign nil
  simp; refine hc _ ?_; clear hc kc
  refine T_end (hn _ ?_); clear hn hp kn kp
  refine T_then ?_
  refine T_seq ?_
  -- region 1
  refine T_region (is := [0, 1]) rfl fun kn kp hn hp => ?_
  refine T_op rfl rfl fun kc hc => ?_  -- 9 := buildSlice 45 0 []
  simp; refine hc _ ?_; clear hc kc
  refine T_op rfl rfl fun kc hc => ?_  -- 5 := assign t9
  simp; refine hc _ ?_; clear hc kc
  refine T_end (hn _ ?_); clear hn hp kn kp
  refine T_then ?_
  refine T_seq ?_
  -- region 2
  refine T_region (is := [0, 1, 2, 3, 4, 5, 6, 7]) rfl fun kn kp hn hp => ?_
  refine T_op rfl rfl fun kc hc => ?_  -- 10 := fieldAddr 29 t2 0
  simp; refine hc _ ?_; clear hc kc
  refine T_op rfl rfl fun kc hc => ?_  -- 11 := load 22 t10
  simp; refine hc _ ?_; clear hc kc
  refine T_op rfl rfl fun kc hc => ?_  -- 12 := move t1
  simp; refine hc _ ?_; clear hc kc
  refine T_op rfl rfl fun kc hc => ?_  -- 13 := indexAddr 22 t11 t12
  simp [hy]; refine hc _ ?_; clear hc kc
  refine T_op rfl rfl fun kc hc => ?_  -- 14 := fieldAddr 41 t13 4
  simp; refine hc _ ?_; clear hc kc
  refine T_op rfl rfl fun kc hc => ?_  -- 15 := load 39 t14
  simp; refine hc _ ?_; clear hc kc
  refine T_op rfl rfl fun kc hc => ?_  -- 16 := call value F26 (t15) [39]
  simp
  refine CallS.dat (w26) (rfl) rfl rfl rfl ?_
  simp [enum]; refine hc _ ?_; clear hc kc
  refine T_op rfl rfl fun kc hc => ?_  -- 6 := assign t16
  simp; refine hc _ ?_; clear hc kc
  refine T_end (hn _ ?_); clear hn hp kn kp
  refine T_then ?_
  refine T_seq ?_
  refine T_seq ?_
  -- region 3
  refine T_region (is := [0]) rfl fun kn kp hn hp => ?_
  refine T_op rfl rfl fun kc hc => ?_  -- 7 := assign 0
  simp; refine hc _ ?_; clear hc kc
  refine T_end (hn _ ?_); clear hn hp kn kp
  refine T_then ?_
  refine T_block ?_  -- block 0
  refine T_loop (fun z : Nat => { sl := [(2, .ptr 0 0), (5, .own 1 1 (needsL c (l.take z)).length), (6, .dat (.sl 6 (l.map ruleD))), (7, .dat (iD z))], hp := [(0, .var ((catD c).map .dat)), (1, .row 3 1 ((needsL c (l.take z)).map fun n => [iD n]))], nx := 2 }) (fun z => z ≤ l.length) (fun z => l.length - z) 0 (Ent.sub [2, 5, 6, 7] [0, 1] (by simp [sub, subSl, subHp, place, mp, mpL, mpO, mpG, needsL])) (Nat.zero_le _) fun z hz => ?_  -- loop 0
  refine T_seq ?_
  refine T_seq ?_
  -- region 4
  refine T_region (is := [0, 1, 2, 3]) rfl fun kn kp hn hp => ?_
  refine T_op rfl rfl fun kc hc => ?_  -- 17 := move t7
  simp; refine hc _ ?_; clear hc kc
  refine T_op rfl rfl fun kc hc => ?_  -- 18 := move t6
  simp; refine hc _ ?_; clear hc kc
  refine T_op rfl rfl fun kc hc => ?_  -- 19 := call len (t18) [37]
  simp; refine hc _ ?_; clear hc kc
  refine T_op rfl rfl fun kc hc => ?_  -- 20 := binOp 3 t17 < t19
  simp; refine hc _ ?_; clear hc kc
  refine T_end (hn _ ?_); clear hn hp kn kp
  refine T_then ?_
  refine T_cond rfl (fun b1 => ?_) (fun b1 => ?_)  -- t20
  · skip
    have hz' : z < l.length := by simpa using b1
    obtain ⟨x, hx⟩ : ∃ x, l[z]? = some x := ⟨_, List.getElem?_eq_getElem hz'⟩
    have e1 : IntKind.i64.wrap ((z : Int) + 1) = (z : Int) + 1 := wr1 hz' (by omega)
    have hnl := needsL_len c (l.take z)
    simp at hnl
    have hnx := needsL_next (c := c) hx
    have e7 : ((needsL c (l.take z)).length + 1) * 8 ≤ big := by simp only [big]; omega
    refine T_skip ?_
    refine T_then ?_
    refine T_cut { sl := [(2, .ptr 0 0), (5, .own 1 1 (needsL c (l.take (z + 1))).length), (6, .dat (.sl 6 (l.map ruleD))), (7, .dat (iD z))], hp := [(0, .var ((catD c).map .dat)), (1, .row 3 1 ((needsL c (l.take (z + 1))).map fun n => [iD n]))], nx := 2 } ?_ ?_  -- cut 0
    · skip
      refine T_block ?_  -- block 1
      refine T_seq ?_
      -- region 6
      refine T_region (is := [0, 1, 2, 3, 4, 5, 6, 7, 8, 9, 10, 11, 12, 13]) rfl fun kn kp hn hp => ?_
      refine T_op rfl rfl fun kc hc => ?_  -- 23 := move t6
      simp; refine hc _ ?_; clear hc kc
      refine T_op rfl rfl fun kc hc => ?_  -- 24 := move t7
      simp; refine hc _ ?_; clear hc kc
      refine T_op rfl rfl fun kc hc => ?_  -- 25 := indexAddr 37 t23 t24
      simp [hx]; refine hc _ ?_; clear hc kc
      refine T_op rfl rfl fun kc hc => ?_  -- 26 := fieldAddr 39 t25 0
      simp; refine hc _ ?_; clear hc kc
      refine T_op rfl rfl fun kc hc => ?_  -- 27 := load 3 t26
      simp; refine hc _ ?_; clear hc kc
      refine T_op rfl rfl fun kc hc => ?_  -- 28 := binOp 3 t27 == 5
      simp; refine hc _ ?_; clear hc kc
      refine T_op rfl rfl fun kc hc => ?_  -- 29 := move t28
      simp; refine hc _ ?_; clear hc kc
      refine T_pure rfl (pstep_one rfl rfl rfl rfl fun g0 => .op rfl (by simp [g0]; rfl)) fun kc hc => ?_  -- 30 := move t6
      simp; refine hc _ ?_; clear hc kc
      refine T_pure rfl (pstep_one rfl rfl rfl rfl fun g0 => .op rfl (by simp [g0]; rfl)) fun kc hc => ?_  -- 31 := move t7
      simp; refine hc _ ?_; clear hc kc
      refine T_pure rfl (pstep_one rfl rfl rfl rfl fun g0 => .op rfl (by simp [g0, hx]; rfl)) fun kc hc => ?_  -- 32 := indexAddr 37 t30 t31
      simp; refine hc _ ?_; clear hc kc
      refine T_pure rfl (pstep_one rfl rfl rfl rfl fun g0 => .op rfl (by simp [g0]; rfl)) fun kc hc => ?_  -- 33 := fieldAddr 39 t32 0
      simp; refine hc _ ?_; clear hc kc
      refine T_pure rfl (pstep_one rfl rfl rfl rfl fun g0 => .op rfl (by simp [g0]; rfl)) fun kc hc => ?_  -- 34 := load 3 t33
      simp; refine hc _ ?_; clear hc kc
      refine T_pure rfl (pstep_one rfl rfl rfl rfl fun g0 => .op rfl (by simp [g0]; rfl)) fun kc hc => ?_  -- 35 := binOp 3 t34 == 6
      simp; refine hc _ ?_; clear hc kc
      refine T_op rfl rfl fun kc hc => ?_  -- 36 := pick t29 true t35
      simp; refine hc _ ?_; clear hc kc
      refine T_end (hn _ ?_); clear hn hp kn kp
      refine T_then ?_
      refine T_cond rfl (fun b2 => ?_) (fun b2 => ?_)  -- t36
      · skip
        have ho : (x.op == 5 || x.op == 6) = true := by simpa using b2
        -- region 7, drawn
        refine T_seqDraw (is := [0, 1, 2, 3, 4, 5, 6, 7, 8, 9, 10, 11, 12]) rfl (by kernel_rfl) fun kn hn => ?_
        refine D_op rfl rfl rfl rfl fun kc hc => ?_  -- 37 := load 29 t2
        simp; refine hc _ ?_; clear hc kc
        refine D_op rfl rfl rfl rfl fun kc hc => ?_  -- 38 := move t6
        simp; refine hc _ ?_; clear hc kc
        refine D_op rfl rfl rfl rfl fun kc hc => ?_  -- 39 := move t7
        simp; refine hc _ ?_; clear hc kc
        refine D_op rfl rfl rfl rfl fun kc hc => ?_  -- 40 := indexAddr 37 t38 t39
        simp [hx]; refine hc _ ?_; clear hc kc
        refine D_op rfl rfl rfl rfl fun kc hc => ?_  -- 41 := fieldAddr 39 t40 2
        simp; refine hc _ ?_; clear hc kc
        refine D_op rfl rfl rfl rfl fun kc hc => ?_  -- 42 := load 9 t41
        simp; refine hc _ ?_; clear hc kc
        refine D_op rfl rfl rfl rfl fun kc hc => ?_  -- 43 := move t6
        simp; refine hc _ ?_; clear hc kc
        refine D_op rfl rfl rfl rfl fun kc hc => ?_  -- 44 := move t7
        simp; refine hc _ ?_; clear hc kc
        refine D_op rfl rfl rfl rfl fun kc hc => ?_  -- 45 := indexAddr 37 t43 t44
        simp [hx]; refine hc _ ?_; clear hc kc
        refine D_op rfl rfl rfl rfl fun kc hc => ?_  -- 46 := fieldAddr 39 t45 1
        simp; refine hc _ ?_; clear hc kc
        refine D_op rfl rfl rfl rfl fun kc hc => ?_  -- 47 := load 3 t46
        simp; refine hc _ ?_; clear hc kc
        refine D_call rfl rfl rfl (by simp <;> first | exact ⟨rfl, rfl⟩ | rfl) (walk78 c x.name x.course (by omega)) (by rfl) rfl fun kc hc => ?_  -- 48 := call value F78 (t37 t42 t47) [29, 9, 3]
        simp [enum]; refine hc _ ?_; clear hc kc
        refine D_op rfl rfl rfl rfl fun kc hc => ?_  -- 8 := assign t48
        simp; refine hc _ ?_; clear hc kc
        refine D_end rfl (by kernel_rfl) (hn _ ?_); clear hn kn
        refine T_seq ?_
        -- region 8
        refine T_region (is := [0, 1]) rfl fun kn kp hn hp => ?_
        refine T_op rfl rfl fun kc hc => ?_  -- 49 := move t8
        simp; refine hc _ ?_; clear hc kc
        refine T_op rfl rfl fun kc hc => ?_  -- 50 := binOp 3 t49 >= 0
        simp; refine hc _ ?_; clear hc kc
        refine T_end (hn _ ?_); clear hn hp kn kp
        refine T_then ?_
        refine T_cond rfl (fun b3 => ?_) (fun b3 => ?_)  -- t50
        · skip
          have hm : 0 ≤ meant c x.name x.course := by simpa using b3
          rw [show need1 c x = some (meant c x.name x.course) by simp only [need1, ho, hm]; rfl, Option.toList_some] at hnx
          -- region 9
          refine T_region (is := [0, 1, 2, 3, 4]) rfl fun kn kp hn hp => ?_
          refine T_op rfl rfl fun kc hc => ?_  -- 51 := move t5
          simp; refine hc _ ?_; clear hc kc
          refine T_op rfl rfl fun kc hc => ?_  -- 52 := move t8
          simp; refine hc _ ?_; clear hc kc
          refine T_op rfl rfl fun kc hc => ?_  -- 53 := buildSlice 45 1 [(0, t52)]
          simp; refine hc _ ?_; clear hc kc
          refine T_op rfl rfl fun kc hc => ?_  -- 54 := call append (t51 t53) [45, 45]
          simp [e7]; refine hc _ ?_; clear hc kc
          refine T_op rfl rfl fun kc hc => ?_  -- 5 := assign t54
          simp; refine hc _ ?_; clear hc kc
          refine T_end (hn _ ?_); clear hn hp kn kp
          refine X_blockN ?_
          refine T_then ?_
          exact Ent.sub [2, 5, 6, 7] [0, 3] (by simp [sub, subSl, subHp, place, mp, mpL, mpO, mpG, hnx])
        · skip
          have hm : ¬ 0 ≤ meant c x.name x.course := by simpa using b3
          rw [show need1 c x = none by simp only [need1, ho, hm]; rfl, Option.toList_none, List.append_nil] at hnx
          refine T_skip ?_
          refine X_blockN ?_
          refine T_then ?_
          exact Ent.sub [2, 5, 6, 7] [0, 1] (by simp [sub, subSl, subHp, place, mp, mpL, mpO, mpG, hnx])
      · skip
        have ho : (x.op == 5 || x.op == 6) = false := by simpa using b2
        rw [show need1 c x = none by simp only [need1, ho]; rfl, Option.toList_none, List.append_nil] at hnx
        refine T_skip ?_
        refine X_blockN ?_
        refine T_then ?_
        exact Ent.sub [2, 5, 6, 7] [0, 1] (by simp [sub, subSl, subHp, place, mp, mpL, mpO, mpG, hnx])
    -- region 5
    refine T_region (is := [0, 1, 2]) rfl fun kn kp hn hp => ?_
    refine T_op rfl rfl fun kc hc => ?_  -- 21 := move t7
    simp; refine hc _ ?_; clear hc kc
    refine T_op rfl rfl fun kc hc => ?_  -- 22 := binOp 3 t21 + 1
    simp [e1]; refine hc _ ?_; clear hc kc
    refine T_op rfl rfl fun kc hc => ?_  -- 7 := assign t22
    simp; refine hc _ ?_; clear hc kc
    refine T_end (hn _ ?_); clear hn hp kn kp
    exact X_loopN (z + 1) (Ent.sub [2, 5, 6, 7] [0, 1] (by simp [sub, subSl, subHp, place, mp, mpL, mpO, mpG, e1])) hz' (by omega)
  · skip
    have hz' : z = l.length := by simp at b1; omega
    subst hz'
    have hnl := needsL_len c l
    have hb : (needsL c l).length ≤ big := by simp only [big]; omega
    refine T_exit ?_
    refine X_thenE ?_
    refine X_loopE ?_
    refine X_hit ?_
    refine T_then ?_
    refine T_seq ?_
    -- region 10
    refine T_region (is := [0, 1]) rfl fun kn kp hn hp => ?_
    refine T_op rfl rfl fun kc hc => ?_  -- 55 := move t5
    simp; refine hc _ ?_; clear hc kc
    refine T_op rfl rfl fun kc hc => ?_  -- 4 := assign t55
    simp; refine hc _ ?_; clear hc kc
    refine T_end (hn _ ?_); clear hn hp kn kp
    refine T_then ?_
    refine T_ret ?_
    exact finI (Ent.give (t := 4) (n := 9) (e := ints (needsL c l)) (hp' := [(0, .var ((catD c).map .dat))]) rfl (by simp [Sx.give, hb])) (by simp [resD, resL, resV]; rfl) (Ent.sub [] [] (by simp [sub, subSl, subHp, place, mp, mpL, mpO, mpG]; rfl)) rfl rfl (by simp)
-- END
-- WALK 85
-- sizar/names.parts
theorem walk85 (r : Rule) : Does Try.prog 85 [.agg (ruleD r)] (.dat (.fn 87 [.ref (ruleD r)])) [] := by
  refine Does.intro [.tmp 2] Try.func85 rfl (by kernel_rfl) Try.ntmps85 rfl (Nat.le_of_ble_eq_true rfl) ?_
  refine T_seq ?_
  -- region 0
  refine T_region (is := [0, 1]) rfl fun kn kp hn hp => ?_
  refine T_op rfl rfl fun kc hc => ?_  -- 1 := box 39 t0
  simp; refine hc _ ?_; clear hc kc
  refine T_op rfl rfl fun kc hc => ?_  -- 2 := assign const
  simp; refine hc _ ?_; clear hc kc
  refine T_end (hn _ ?_); clear hn hp kn kp
  refine T_then ?_
  refine T_seq ?_
  -- region 1
  refine T_region (is := [0, 1]) rfl fun kn kp hn hp => ?_
  refine T_op rfl rfl fun kc hc => ?_  -- 3 := makeFunc F87 first  caps t1
  simp; refine hc _ ?_; clear hc kc
  refine T_op rfl rfl fun kc hc => ?_  -- 2 := assign t3
  simp; refine hc _ ?_; clear hc kc
  refine T_end (hn _ ?_); clear hn hp kn kp
  refine T_then ?_
  refine T_ret ?_
  exact finI (Ent.give (t := 2) (n := 40) (e := .fn 87 [.ref (ruleD r)]) (hp' := []) rfl rfl) (by simp [resD, resL, resV]; rfl) (Ent.sub [] [] (by simp [sub, subSl, subHp, place, mp, mpL, mpO, mpG]; rfl)) rfl rfl (by simp)
-- END
-- WALK 87
-- sizar/names.parts$1
theorem step87 (r : Rule) (hr : (partsOf r).length ≤ 1048576) (ih : ∀ x : Rule, (partsOf x).length < (partsOf r).length → Iter Try.prog 87 [.ref (ruleD x)] ((partsOf x).map fun p => [.agg (ruleD p)])) : Iter Try.prog 87 [.ref (ruleD r)] ((partsOf r).map fun p => [.agg (ruleD p)]) := by
  have hre : (partsOf r).length = (partsL r.kids).length + 1 := by rw [partsOf_eq]; rfl
  refine Iter.intro Try.func87 rfl (by kernel_rfl) Try.ntmps87 rfl (Nat.le_of_ble_eq_true rfl) fun l0 => ?_
  refine T_seq ?_
  -- region 0
  refine T_region (is := [0]) rfl fun kn kp hn hp => ?_
  refine T_op rfl rfl fun kc hc => ?_  -- 2 := box 133 t0
  simp; refine hc _ ?_; clear hc kc
  refine T_end (hn _ ?_); clear hn hp kn kp
  refine T_then ?_
  refine T_seq ?_
  refine T_seq ?_
  -- region 1
  refine T_region (is := [0, 1, 2, 3]) rfl fun kn kp hn hp => ?_
  refine T_op rfl rfl fun kc hc => ?_  -- 6 := load 133 t2
  simp; refine hc _ ?_; clear hc kc
  refine T_op rfl rfl fun kc hc => ?_  -- 7 := load 39 t1
  simp; refine hc _ ?_; clear hc kc
  refine T_op rfl rfl fun kc hc => ?_  -- 8 := call value t6 (t7) [39]
  simp
  refine YieldS.mk rfl ((show ((partsOf r).map fun p => [Dat.agg (ruleD p)])[0]? = some [.agg (ruleD r)] by simp [partsOf_eq])) (rfl) rfl ?_ ?_
  · simp; refine hc _ ?_; clear hc kc
    refine T_op rfl rfl fun kc hc => ?_  -- 9 := unOp 4 t8
    simp; refine hc _ ?_; clear hc kc
    refine T_end (hn _ ?_); clear hn hp kn kp
    refine T_then ?_
    refine T_false (by simp) ?_  -- t9
    refine T_skip ?_
    refine T_then ?_
    refine T_seq ?_
    -- region 2
    refine T_region (is := [0, 1, 2, 3]) rfl fun kn kp hn hp => ?_
    refine T_op rfl rfl fun kc hc => ?_  -- 10 := fieldAddr 39 t1 5
    simp; refine hc _ ?_; clear hc kc
    refine T_op rfl rfl fun kc hc => ?_  -- 11 := load 37 t10
    simp; refine hc _ ?_; clear hc kc
    refine T_op rfl rfl fun kc hc => ?_  -- 12 := call len (t11) [37]
    simp; refine hc _ ?_; clear hc kc
    refine T_op rfl rfl fun kc hc => ?_  -- 13 := move 0
    simp; refine hc _ ?_; clear hc kc
    refine T_end (hn _ ?_); clear hn hp kn kp
    refine T_then ?_
    refine T_block ?_  -- block 0
    refine T_loop (fun z : Nat => { sl := [(2, .ptr 0 0), (11, .dat (.sl 6 (kidsD r))), (12, .dat (iD r.kids.length)), (13, .dat (iD z))], hp := [(0, .var [.dat (.val (.func (.yield l0) #[] #[]))])], nx := 1, st := 1 + (partsL (r.kids.take z)).length }) (fun z => z ≤ r.kids.length) (fun z => r.kids.length - z) 0 (Ent.sub [2, 11, 12, 13] [0] (by simp [sub, subSl, subHp, place, mp, mpL, mpO, mpG, partsL])) (Nat.zero_le _) fun z hz => ?_  -- loop 0
    refine T_seq ?_
    -- region 3
    refine T_region (is := [0]) rfl fun kn kp hn hp => ?_
    refine T_op rfl rfl fun kc hc => ?_  -- 14 := binOp 3 t13 < t12
    simp; refine hc _ ?_; clear hc kc
    refine T_end (hn _ ?_); clear hn hp kn kp
    refine T_then ?_
    refine T_seq ?_
    refine T_cond rfl (fun b2 => ?_) (fun b2 => ?_)  -- t14
    · skip
      have hz' : z < r.kids.length := by simpa using b2
      obtain ⟨x, hx⟩ : ∃ x, r.kids[z]? = some x := ⟨_, List.getElem?_eq_getElem hz'⟩
      have hkx := kids_get hx
      have hpl := partsL_len hx
      have hkl := kids_le r.kids
      have e1 : IntKind.i64.wrap ((z : Int) + 1) = (z : Int) + 1 := wr1 hz' (by omega)
      have hpn := partsL_next hx
      have hlt : (partsOf x).length < (partsOf r).length := by omega
      refine T_skip ?_
      refine T_then ?_
      refine T_seq ?_
      refine T_block ?_  -- block 1
      refine T_seq ?_
      -- region 4
      refine T_region (is := [0, 1, 2, 3]) rfl fun kn kp hn hp => ?_
      refine T_op rfl rfl fun kc hc => ?_  -- 15 := indexAddr 37 t11 t13
      simp [hkx]; refine hc _ ?_; clear hc kc
      refine T_op rfl rfl fun kc hc => ?_  -- 16 := load 39 t15
      simp; refine hc _ ?_; clear hc kc
      refine T_op rfl rfl fun kc hc => ?_  -- 4 := alloc 39
      simp; refine hc _ ?_; clear hc kc
      refine T_op rfl rfl fun kc hc => ?_  -- None := store 39 t4 t16
      simp; refine hc _ ?_; clear hc kc
      refine T_end (hn _ ?_); clear hn hp kn kp
      refine T_then ?_
      refine T_seq ?_
      -- region 5
      refine T_region (is := [0, 1]) rfl fun kn kp hn hp => ?_
      refine T_op rfl rfl fun kc hc => ?_  -- 17 := load 39 t4
      simp; refine hc _ ?_; clear hc kc
      refine T_op rfl rfl fun kc hc => ?_  -- 18 := call value F85 (t17) [39]
      simp
      refine CallS.dat (walk85 x) (rfl) rfl rfl rfl ?_
      simp [enum]; refine hc _ ?_; clear hc kc
      refine T_end (hn _ ?_); clear hn hp kn kp
      refine T_then ?_
      refine T_block ?_  -- block 2
      refine T_rangeB (ih x hlt) ({ sl := [(2, .ptr 0 0), (11, .dat (.sl 6 (kidsD r))), (12, .dat (iD r.kids.length)), (13, .dat (iD z)), (18, .dat (.fn 87 [.ref (ruleD x)]))], hp := [(0, .var [.dat (.val (.func (.yield l0) #[] #[]))])], nx := 1 }) (fun j => 1 + (partsL (r.kids.take z)).length + j) (Ent.sub [2, 11, 12, 13, 18] [0] (by simp [sub, subSl, subHp, place, mp, mpL, mpO, mpG])) rfl (by intro i x h; simp at h; obtain ⟨p, _, rfl⟩ := h; rfl) (by decide) [2] rfl (fun i xe hxe l => ?_) ?_
      · skip
        obtain ⟨p, hpi, rfl⟩ : ∃ p, (partsOf x)[i]? = some p ∧ xe = [.agg (ruleD p)] := by simp at hxe; obtain ⟨p, h1, h2⟩ := hxe; exact ⟨p, h1, h2.symm⟩
        simp [rstB, parSl]
        -- region 6
        refine T_region (is := [0, 1]) rfl fun kn kp hn hp => ?_
        refine T_op rfl rfl fun kc hc => ?_  -- 5 := alloc 39
        simp; refine hc _ ?_; clear hc kc
        refine T_op rfl rfl fun kc hc => ?_  -- None := store 39 t5 t19
        simp; refine hc _ ?_; clear hc kc
        refine T_end (hn _ ?_); clear hn hp kn kp
        refine T_then ?_
        refine T_block ?_  -- block 3
        refine T_seq ?_
        -- region 7
        refine T_region (is := [0, 1, 2, 3]) rfl fun kn kp hn hp => ?_
        refine T_op rfl rfl fun kc hc => ?_  -- 20 := load 133 t2
        simp; refine hc _ ?_; clear hc kc
        refine T_op rfl rfl fun kc hc => ?_  -- 21 := load 39 t5
        simp; refine hc _ ?_; clear hc kc
        refine T_op rfl rfl fun kc hc => ?_  -- 22 := call value t20 (t21) [39]
        simp
        refine YieldS.mk rfl ((show ((partsOf r).map fun p => [Dat.agg (ruleD p)])[1 + (partsL (r.kids.take z)).length + i]? = some [.agg (ruleD p)] by rw [List.getElem?_map, parts_at hx hpi]; rfl)) (rfl) rfl ?_ ?_
        · simp; refine hc _ ?_; clear hc kc
          refine T_op rfl rfl fun kc hc => ?_  -- 23 := unOp 4 t22
          simp; refine hc _ ?_; clear hc kc
          refine T_end (hn _ ?_); clear hn hp kn kp
          refine T_then ?_
          refine T_false (by simp) ?_  -- t23
          refine T_skip ?_
          refine X_blockN ?_
          exact RBN (by simp; omega)
        · simp; refine hc _ ?_; clear hc kc
          refine T_op rfl rfl fun kc hc => ?_  -- 23 := unOp 4 t22
          simp; refine hc _ ?_; clear hc kc
          refine T_end (hn _ ?_); clear hn hp kn kp
          refine T_then ?_
          refine T_true (by simp) ?_  -- t23
          refine T_ret ?_
          refine X_blockR ?_
          refine RBR ?_
          refine X_blockR ?_
          refine X_blockR ?_
          refine X_thenR ?_
          refine X_loopR ?_
          refine X_blockR ?_
          right; simp
      · skip
        refine X_blockN ?_
        refine X_blockN ?_
        refine T_then ?_
        -- region 8
        refine T_region (is := [0, 1]) rfl fun kn kp hn hp => ?_
        refine T_op rfl rfl fun kc hc => ?_  -- 24 := binOp 3 t13 + 1
        simp [e1]; refine hc _ ?_; clear hc kc
        refine T_op rfl rfl fun kc hc => ?_  -- 13 := move t24
        simp; refine hc _ ?_; clear hc kc
        refine T_end (hn _ ?_); clear hn hp kn kp
        exact X_loopN (z + 1) (Ent.sub [2, 11, 12, 13] [0] (by simp [sub, subSl, subHp, place, mp, mpL, mpO, mpG, e1, hpn]; omega)) hz' (by omega)
    · skip
      have hz' : z = r.kids.length := by simp at b2; omega
      subst hz'
      refine T_exit ?_
      refine X_thenE ?_
      refine X_loopE ?_
      refine X_hit ?_
      left; simp [partsOf_eq]; omega
  · simp; refine hc _ ?_; clear hc kc
    refine T_op rfl rfl fun kc hc => ?_  -- 9 := unOp 4 t8
    simp; refine hc _ ?_; clear hc kc
    refine T_end (hn _ ?_); clear hn hp kn kp
    refine T_then ?_
    refine T_true (by simp) ?_  -- t9
    refine T_ret ?_
    refine X_thenR ?_
    right; simp
-- END
theorem walk87 (r : Rule) (hr : (partsOf r).length ≤ 1048576) : Iter Try.prog 87 [.ref (ruleD r)] ((partsOf r).map fun p => [.agg (ruleD p)]) := by
  obtain ⟨n, hn⟩ : ∃ n, (partsOf r).length = n := ⟨_, rfl⟩
  induction n using Nat.strongRecOn generalizing r with
  | ind n ih => exact step87 r hr fun x hx => ih _ (by omega) x (by omega) rfl
-- WALK 72
-- sizar/names.needs
theorem walk72 (c : Cat) (i : Nat) : Does Try.prog 72 [.agg (catD c), iD i] (.dat (.fn 84 [.ref (catD c), .ref [iD i]])) [] := by
  refine Does.intro [.tmp 4] Try.func72 rfl (by kernel_rfl) Try.ntmps72 rfl (Nat.le_of_ble_eq_true rfl) ?_
  refine T_seq ?_
  -- region 0
  refine T_region (is := [0, 1, 2]) rfl fun kn kp hn hp => ?_
  refine T_op rfl rfl fun kc hc => ?_  -- 2 := box 29 t0
  simp; refine hc _ ?_; clear hc kc
  refine T_op rfl rfl fun kc hc => ?_  -- 3 := box 3 t1
  simp; refine hc _ ?_; clear hc kc
  refine T_op rfl rfl fun kc hc => ?_  -- 4 := assign const
  simp; refine hc _ ?_; clear hc kc
  refine T_end (hn _ ?_); clear hn hp kn kp
  refine T_then ?_
  refine T_seq ?_
  -- region 1
  refine T_region (is := [0, 1]) rfl fun kn kp hn hp => ?_
  refine T_op rfl rfl fun kc hc => ?_  -- 5 := makeFunc F84 first  caps t2 t3
  simp; refine hc _ ?_; clear hc kc
  refine T_op rfl rfl fun kc hc => ?_  -- 4 := assign t5
  simp; refine hc _ ?_; clear hc kc
  refine T_end (hn _ ?_); clear hn hp kn kp
  refine T_then ?_
  refine T_ret ?_
  exact finI (Ent.give (t := 4) (n := 40) (e := .fn 84 [.ref (catD c), .ref [iD i]]) (hp' := []) rfl rfl) (by simp [resD, resL, resV]; rfl) (Ent.sub [] [] (by simp [sub, subSl, subHp, place, mp, mpL, mpO, mpG]; rfl)) rfl rfl (by simp)
-- END
-- WALK 84
-- sizar/names.needs$1
theorem walk84 (c : Cat) (i : Nat) (y : Course) (hy : c.courses[i]? = some y) (hp : (partsOf y.need).length ≤ 1048576) (hl : c.courses.length ≤ 1048576) : Iter Try.prog 84 [.ref (catD c), .ref [iD i]] ((needsL c (partsOf y.need)).map fun n => [iD n]) := by
  have w87 := walk87 y.need hp
  have w85 := walk85 y.need
  generalize hL : partsOf y.need = L at *
  refine Iter.intro Try.func84 rfl (by kernel_rfl) Try.ntmps84 rfl (Nat.le_of_ble_eq_true rfl) fun l0 => ?_
  refine T_seq ?_
  -- region 0
  refine T_region (is := [0]) rfl fun kn kp hn hp => ?_
  refine T_op rfl rfl fun kc hc => ?_  -- 3 := box 128 t0
  simp; refine hc _ ?_; clear hc kc
  refine T_end (hn _ ?_); clear hn hp kn kp
  refine T_then ?_
  refine T_seq ?_
  -- region 1
  refine T_region (is := [0, 1, 2, 3, 4, 5, 6]) rfl fun kn kp hn hp => ?_
  refine T_op rfl rfl fun kc hc => ?_  -- 6 := fieldAddr 29 t1 0
  simp; refine hc _ ?_; clear hc kc
  refine T_op rfl rfl fun kc hc => ?_  -- 7 := load 22 t6
  simp; refine hc _ ?_; clear hc kc
  refine T_op rfl rfl fun kc hc => ?_  -- 8 := load 3 t2
  simp; refine hc _ ?_; clear hc kc
  refine T_op rfl rfl fun kc hc => ?_  -- 9 := indexAddr 22 t7 t8
  simp [hy]; refine hc _ ?_; clear hc kc
  refine T_op rfl rfl fun kc hc => ?_  -- 10 := fieldAddr 41 t9 4
  simp; refine hc _ ?_; clear hc kc
  refine T_op rfl rfl fun kc hc => ?_  -- 11 := load 39 t10
  simp; refine hc _ ?_; clear hc kc
  refine T_op rfl rfl fun kc hc => ?_  -- 12 := call value F85 (t11) [39]
  simp
  refine CallS.dat (w85) (rfl) rfl rfl rfl ?_
  simp [enum]; refine hc _ ?_; clear hc kc
  refine T_end (hn _ ?_); clear hn hp kn kp
  refine T_then ?_
  refine T_block ?_  -- block 0
  refine T_rangeB (w87) ({ sl := [(1, .dat (.ref (catD c))), (2, .dat (.ref [iD i])), (3, .ptr 0 0), (12, .dat (.fn 87 [.ref (ruleD y.need)]))], hp := [(0, .var [.dat (.val (.func (.yield l0) #[] #[]))])], nx := 1 }) (fun j => (needsL c (L.take j)).length) (Ent.sub [1, 2, 3, 12] [0] (by simp [sub, subSl, subHp, place, mp, mpL, mpO, mpG, needsL])) rfl (by intro i x h; simp at h; obtain ⟨p, _, rfl⟩ := h; rfl) (by decide) [1, 3] rfl (fun j xe hxe l => ?_) ?_
  · skip
    obtain ⟨p, hpi, rfl⟩ : ∃ p, L[j]? = some p ∧ xe = [.agg (ruleD p)] := by simp at hxe; obtain ⟨p, h1, h2⟩ := hxe; exact ⟨p, h1, h2.symm⟩
    have hnx := needsL_next (c := c) hpi
    simp [rstB, parSl]
    -- region 2
    refine T_region (is := [0, 1]) rfl fun kn kp hn hp => ?_
    refine T_op rfl rfl fun kc hc => ?_  -- 4 := alloc 39
    simp; refine hc _ ?_; clear hc kc
    refine T_op rfl rfl fun kc hc => ?_  -- None := store 39 t4 t13
    simp; refine hc _ ?_; clear hc kc
    refine T_end (hn _ ?_); clear hn hp kn kp
    refine T_then ?_
    refine T_block ?_  -- block 1
    refine T_seq ?_
    refine T_seq ?_
    -- region 3
    refine T_region (is := [0, 1, 2, 3, 4, 5, 6, 7]) rfl fun kn kp hn hp => ?_
    refine T_op rfl rfl fun kc hc => ?_  -- 14 := fieldAddr 39 t4 0
    simp; refine hc _ ?_; clear hc kc
    refine T_op rfl rfl fun kc hc => ?_  -- 15 := load 3 t14
    simp; refine hc _ ?_; clear hc kc
    refine T_op rfl rfl fun kc hc => ?_  -- 16 := binOp 3 t15 != 5
    simp; refine hc _ ?_; clear hc kc
    refine T_op rfl rfl fun kc hc => ?_  -- 17 := move t16
    simp; refine hc _ ?_; clear hc kc
    refine T_pure rfl (pstep_one rfl rfl rfl rfl fun g0 => .op rfl (by simp [g0]; rfl)) fun kc hc => ?_  -- 18 := fieldAddr 39 t4 0
    simp; refine hc _ ?_; clear hc kc
    refine T_pure rfl (pstep_one rfl rfl rfl rfl fun g0 => .op rfl (by simp [g0]; rfl)) fun kc hc => ?_  -- 19 := load 3 t18
    simp; refine hc _ ?_; clear hc kc
    refine T_pure rfl (pstep_one rfl rfl rfl rfl fun g0 => .op rfl (by simp [g0]; rfl)) fun kc hc => ?_  -- 20 := binOp 3 t19 != 6
    simp; refine hc _ ?_; clear hc kc
    refine T_op rfl rfl fun kc hc => ?_  -- 21 := pick t17 t20 false
    simp; refine hc _ ?_; clear hc kc
    refine T_end (hn _ ?_); clear hn hp kn kp
    refine T_then ?_
    refine T_cond rfl (fun b1 => ?_) (fun b1 => ?_)  -- t21
    · skip
      have ho : (p.op == 5 || p.op == 6) = false := by cases h5 : p.op == 5 <;> cases h6 : p.op == 6 <;> simp [bne, h5, h6] at b1 ⊢
      have hn1 : need1 c p = none := by simp only [need1, ho]; rfl
      refine T_exit ?_
      refine X_thenE ?_
      refine X_hit ?_
      exact RBN (by simp [hnx, hn1])
    · skip
      have ho : (p.op == 5 || p.op == 6) = true := by cases h5 : p.op == 5 <;> cases h6 : p.op == 6 <;> simp [bne, h5, h6] at b1 ⊢
      refine T_skip ?_
      refine T_then ?_
      refine T_seq ?_
      -- region 4
      refine T_region (is := [0, 1, 2, 3, 4, 5, 6]) rfl fun kn kp hn hp => ?_
      refine T_op rfl rfl fun kc hc => ?_  -- 22 := load 29 t1
      simp; refine hc _ ?_; clear hc kc
      refine T_op rfl rfl fun kc hc => ?_  -- 23 := fieldAddr 39 t4 2
      simp; refine hc _ ?_; clear hc kc
      refine T_op rfl rfl fun kc hc => ?_  -- 24 := load 9 t23
      simp; refine hc _ ?_; clear hc kc
      refine T_op rfl rfl fun kc hc => ?_  -- 25 := fieldAddr 39 t4 1
      simp; refine hc _ ?_; clear hc kc
      refine T_op rfl rfl fun kc hc => ?_  -- 26 := load 3 t25
      simp; refine hc _ ?_; clear hc kc
      refine T_op rfl rfl fun kc hc => ?_  -- 27 := call value F80 (t22 t24 t26) [29, 9, 3]
      simp
      refine CallS.dat (walk80 c p.name p.course (by omega)) (rfl) rfl rfl rfl ?_
      simp [enum]; refine hc _ ?_; clear hc kc
      refine T_op rfl rfl fun kc hc => ?_  -- 5 := assign t27
      simp; refine hc _ ?_; clear hc kc
      refine T_end (hn _ ?_); clear hn hp kn kp
      refine T_then ?_
      refine T_seq ?_
      -- region 5
      refine T_region (is := [0, 1, 2, 3, 4, 5, 6, 7]) rfl fun kn kp hn hp => ?_
      refine T_op rfl rfl fun kc hc => ?_  -- 28 := move t5
      simp; refine hc _ ?_; clear hc kc
      by_cases hge : 0 ≤ meant c p.name p.course
      · skip
        have hn1 : need1 c p = some (meant c p.name p.course) := by simp only [need1, ho, hge]; rfl
        refine T_op rfl rfl fun kc hc => ?_  -- 29 := binOp 3 t28 >= 0
        simp [hge]; refine hc _ ?_; clear hc kc
        refine T_op rfl rfl fun kc hc => ?_  -- 30 := move t29
        simp; refine hc _ ?_; clear hc kc
        refine T_on rfl rfl rfl rfl rfl fun kc hc => ?_  -- 31 := load 128 t3
        simp; refine hc _ ?_; clear hc kc
        refine T_on rfl rfl rfl rfl rfl fun kc hc => ?_  -- 32 := move t5
        simp; refine hc _ ?_; clear hc kc
        refine T_on rfl rfl rfl rfl rfl fun kc hc => ?_  -- 33 := call value t31 (t32) [3]
        simp
        refine YieldS.mk rfl ((show ((needsL c L).map fun n => [Dat.val (.int .i64 n)])[(needsL c (L.take j)).length]? = some [.val (.int .i64 (meant c p.name p.course))] by rw [List.getElem?_map, needsL_at hpi hn1]; rfl)) (rfl) rfl ?_ ?_
        · simp; refine hc _ ?_; clear hc kc
          refine T_on rfl rfl rfl rfl rfl fun kc hc => ?_  -- 34 := unOp 4 t33
          simp; refine hc _ ?_; clear hc kc
          refine T_op rfl rfl fun kc hc => ?_  -- 35 := pick t30 t34 false
          simp [aPick]; refine hc _ ?_; clear hc kc
          refine T_end (hn _ ?_); clear hn hp kn kp
          refine T_then ?_
          refine T_false (by simp) ?_  -- t35
          refine T_skip ?_
          refine X_blockN ?_
          exact RBN (by simp [hnx, hn1])
        · simp; refine hc _ ?_; clear hc kc
          refine T_on rfl rfl rfl rfl rfl fun kc hc => ?_  -- 34 := unOp 4 t33
          simp; refine hc _ ?_; clear hc kc
          refine T_op rfl rfl fun kc hc => ?_  -- 35 := pick t30 t34 false
          simp [aPick]; refine hc _ ?_; clear hc kc
          refine T_end (hn _ ?_); clear hn hp kn kp
          refine T_then ?_
          refine T_true (by simp) ?_  -- t35
          refine T_ret ?_
          refine X_blockR ?_
          refine RBR ?_
          refine X_blockR ?_
          right; simp
      · skip
        have hn1 : need1 c p = none := by simp only [need1, ho, hge]; rfl
        refine T_op rfl rfl fun kc hc => ?_  -- 29 := binOp 3 t28 >= 0
        simp [hge]; refine hc _ ?_; clear hc kc
        refine T_op rfl rfl fun kc hc => ?_  -- 30 := move t29
        simp; refine hc _ ?_; clear hc kc
        refine T_off rfl rfl rfl rfl rfl rfl ?_  -- 31 := load 128 t3
        simp
        refine T_off rfl rfl rfl rfl rfl rfl ?_  -- 32 := move t5
        simp
        refine T_off rfl rfl rfl rfl rfl rfl ?_  -- 33 := call value t31 (t32) [3]
        simp
        refine T_off rfl rfl rfl rfl rfl rfl ?_  -- 34 := unOp 4 t33
        simp
        refine T_op rfl rfl fun kc hc => ?_  -- 35 := pick t30 t34 false
        simp [aPick]; refine hc _ ?_; clear hc kc
        refine T_end (hn _ ?_); clear hn hp kn kp
        refine T_then ?_
        refine T_false (by simp) ?_  -- t35
        refine T_skip ?_
        refine X_blockN ?_
        exact RBN (by simp [hnx, hn1])
  · skip
    refine X_blockN ?_
    left; simp
-- END

end Go.Proofs.Ytbkkekbeaabokaa
