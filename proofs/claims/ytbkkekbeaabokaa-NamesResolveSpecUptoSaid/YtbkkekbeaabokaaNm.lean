/- The names: the reference's Resolve. -/
import Derived.Test.YtbkkekbeaabokaaNl
set_option linter.unusedVariables false
set_option linter.unusedSimpArgs false
namespace Go.Proofs.Ytbkkekbeaabokaa
open Go Go.Proofs.Ytbkkekbeaabokaa.Sx

-- WALK 13
-- sizar/sizarref11.Resolve
theorem walk13 (c : Cat) (hf : c.fit) : Does Try.prog 13 [.agg (catD c)] (.dat (.tup [.agg (catD (resolveOf c).1), iD (resolveOf c).2])) [] := by
  have h1 := hf.courses
  have h2 := hf.progs
  have h7 := hf.same
  refine Does.intro [.cell 2 29, .tmp 3] Try.func13 rfl (by kernel_rfl) Try.ntmps13 rfl (Nat.le_of_ble_eq_true rfl) ?_
  refine T_seq ?_
  -- region 0
  refine T_region (is := [0, 1, 2]) rfl fun kn kp hn hp => ?_
  refine T_op rfl rfl fun kc hc => ?_  -- 1 := box 29 t0
  simp; refine hc _ ?_; clear hc kc
  refine T_op rfl rfl fun kc hc => ?_  -- 2 := alloc 29
  simp; refine hc _ ?_; clear hc kc
  refine T_op rfl rfl fun kc hc => ?_  -- 3 := assign 0
  simp; refine hc _ ?_; clear hc kc
  refine T_end (hn _ ?_); clear hn hp kn kp
  refine T_then ?_
  refine T_seq ?_
  refine T_seq ?_
  -- region 1
  refine T_region (is := [0]) rfl fun kn kp hn hp => ?_
  refine T_op rfl rfl fun kc hc => ?_  -- 4 := assign 0
  simp; refine hc _ ?_; clear hc kc
  refine T_end (hn _ ?_); clear hn hp kn kp
  refine T_then ?_
  refine T_block ?_  -- block 0
  refine T_loop (fun z : Nat => { sl := [(1, .ptr 0 0), (2, .ptr 1 0), (4, .dat (iD z))], hp := [(0, .var ((catD c).map .dat)), (1, .var [.dat nilS, .dat nilS, .dat nilS, .dat nilS, .dat nilS, .dat nilS, .dat nilS])], nx := 2 }) (fun z => z ≤ c.progs.length ∧ (c.progs.take z).any argP = false) (fun z => c.progs.length - z) 0 (Ent.sub [1, 2, 4] [0, 1] (by simp [sub, subSl, subHp, place, mp, mpL, mpO, mpG])) ⟨Nat.zero_le _, rfl⟩ fun z hz => ?_  -- loop 0
  obtain ⟨hz, hza⟩ := hz
  refine T_seq ?_
  refine T_seq ?_
  -- region 2
  refine T_region (is := [0, 1, 2, 3, 4]) rfl fun kn kp hn hp => ?_
  refine T_op rfl rfl fun kc hc => ?_  -- 30 := move t4
  simp; refine hc _ ?_; clear hc kc
  refine T_op rfl rfl fun kc hc => ?_  -- 31 := fieldAddr 29 t1 2
  simp; refine hc _ ?_; clear hc kc
  refine T_op rfl rfl fun kc hc => ?_  -- 32 := load 24 t31
  simp; refine hc _ ?_; clear hc kc
  refine T_op rfl rfl fun kc hc => ?_  -- 33 := call len (t32) [24]
  simp; refine hc _ ?_; clear hc kc
  refine T_op rfl rfl fun kc hc => ?_  -- 34 := binOp 3 t30 < t33
  simp; refine hc _ ?_; clear hc kc
  refine T_end (hn _ ?_); clear hn hp kn kp
  refine T_then ?_
  refine T_cond rfl (fun b1 => ?_) (fun b1 => ?_)  -- t34
  · skip
    have hz' : z < c.progs.length := by simpa using b1
    obtain ⟨p, hxp⟩ : ∃ x, c.progs[z]? = some x := ⟨_, List.getElem?_eq_getElem hz'⟩
    have ez : IntKind.i64.wrap ((z : Int) + 1) = (z : Int) + 1 := wr1 hz' (by omega)
    have hzl := hz'
    have hpr := (hf.reqs p (List.mem_of_getElem? hxp)).1
    clear hz'
    refine T_skip ?_
    refine T_then ?_
    refine T_seq ?_
    refine T_block ?_  -- block 1
    refine T_seq ?_
    -- region 4
    refine T_region (is := [0]) rfl fun kn kp hn hp => ?_
    refine T_op rfl rfl fun kc hc => ?_  -- 5 := assign 0
    simp; refine hc _ ?_; clear hc kc
    refine T_end (hn _ ?_); clear hn hp kn kp
    refine T_then ?_
    refine T_block ?_  -- block 2
    refine T_loop (fun v : Nat => { sl := [(1, .ptr 0 0), (2, .ptr 1 0), (4, .dat (iD z)), (5, .dat (iD v))], hp := [(0, .var ((catD c).map .dat)), (1, .var [.dat nilS, .dat nilS, .dat nilS, .dat nilS, .dat nilS, .dat nilS, .dat nilS])], nx := 2 }) (fun v => v ≤ p.reqs.length ∧ (p.reqs.take v).any argQ = false) (fun v => p.reqs.length - v) 0 (Ent.sub [1, 2, 4, 5] [0, 1] (by simp [sub, subSl, subHp, place, mp, mpL, mpO, mpG])) ⟨Nat.zero_le _, rfl⟩ fun v hv => ?_  -- loop 1
    obtain ⟨hv, hva⟩ := hv
    refine T_seq ?_
    refine T_seq ?_
    -- region 5
    refine T_region (is := [0, 1, 2, 3, 4, 5, 6, 7, 8]) rfl fun kn kp hn hp => ?_
    refine T_op rfl rfl fun kc hc => ?_  -- 37 := move t5
    simp; refine hc _ ?_; clear hc kc
    refine T_op rfl rfl fun kc hc => ?_  -- 38 := fieldAddr 29 t1 2
    simp; refine hc _ ?_; clear hc kc
    refine T_op rfl rfl fun kc hc => ?_  -- 39 := load 24 t38
    simp; refine hc _ ?_; clear hc kc
    refine T_op rfl rfl fun kc hc => ?_  -- 40 := move t4
    simp; refine hc _ ?_; clear hc kc
    refine T_op rfl rfl fun kc hc => ?_  -- 41 := indexAddr 24 t39 t40
    simp [hxp]; refine hc _ ?_; clear hc kc
    refine T_op rfl rfl fun kc hc => ?_  -- 42 := fieldAddr 62 t41 5
    simp; refine hc _ ?_; clear hc kc
    refine T_op rfl rfl fun kc hc => ?_  -- 43 := load 60 t42
    simp; refine hc _ ?_; clear hc kc
    refine T_op rfl rfl fun kc hc => ?_  -- 44 := call len (t43) [60]
    simp; refine hc _ ?_; clear hc kc
    refine T_op rfl rfl fun kc hc => ?_  -- 45 := binOp 3 t37 < t44
    simp; refine hc _ ?_; clear hc kc
    refine T_end (hn _ ?_); clear hn hp kn kp
    refine T_then ?_
    refine T_cond rfl (fun b2 => ?_) (fun b2 => ?_)  -- t45
    · skip
      have hz' : v < p.reqs.length := by simpa using b2
      obtain ⟨q, hxq⟩ : ∃ x, p.reqs[v]? = some x := ⟨_, List.getElem?_eq_getElem hz'⟩
      have ev : IntKind.i64.wrap ((v : Int) + 1) = (v : Int) + 1 := wr1 hz' (by omega)
      refine T_skip ?_
      refine T_then ?_
      refine T_seq ?_
      refine T_block ?_  -- block 3
      -- region 7, drawn
      refine T_seqDraw (is := [0, 1, 2, 3, 4, 5, 6, 7, 8, 9, 10, 11, 12, 13, 14, 15, 16, 17, 18, 19, 20, 21, 22]) rfl (by kernel_rfl) fun kn hn => ?_
      refine D_op rfl rfl rfl rfl fun kc hc => ?_  -- 48 := fieldAddr 29 t1 2
      simp; refine hc _ ?_; clear hc kc
      refine D_op rfl rfl rfl rfl fun kc hc => ?_  -- 49 := load 24 t48
      simp; refine hc _ ?_; clear hc kc
      refine D_op rfl rfl rfl rfl fun kc hc => ?_  -- 50 := move t4
      simp; refine hc _ ?_; clear hc kc
      refine D_op rfl rfl rfl rfl fun kc hc => ?_  -- 51 := indexAddr 24 t49 t50
      simp [hxp]; refine hc _ ?_; clear hc kc
      refine D_op rfl rfl rfl rfl fun kc hc => ?_  -- 52 := fieldAddr 62 t51 5
      simp; refine hc _ ?_; clear hc kc
      refine D_op rfl rfl rfl rfl fun kc hc => ?_  -- 53 := load 60 t52
      simp; refine hc _ ?_; clear hc kc
      refine D_op rfl rfl rfl rfl fun kc hc => ?_  -- 54 := move t5
      simp; refine hc _ ?_; clear hc kc
      refine D_op rfl rfl rfl rfl fun kc hc => ?_  -- 55 := indexAddr 60 t53 t54
      simp [hxq]; refine hc _ ?_; clear hc kc
      refine D_op rfl rfl rfl rfl fun kc hc => ?_  -- 56 := fieldAddr 64 t55 4
      simp; refine hc _ ?_; clear hc kc
      refine D_op rfl rfl rfl rfl fun kc hc => ?_  -- 57 := load 36 t56
      simp; refine hc _ ?_; clear hc kc
      refine D_op rfl rfl rfl rfl fun kc hc => ?_  -- 58 := call len (t57) [36]
      simp; refine hc _ ?_; clear hc kc
      refine D_op rfl rfl rfl rfl fun kc hc => ?_  -- 59 := fieldAddr 29 t1 2
      simp; refine hc _ ?_; clear hc kc
      refine D_op rfl rfl rfl rfl fun kc hc => ?_  -- 60 := load 24 t59
      simp; refine hc _ ?_; clear hc kc
      refine D_op rfl rfl rfl rfl fun kc hc => ?_  -- 61 := move t4
      simp; refine hc _ ?_; clear hc kc
      refine D_op rfl rfl rfl rfl fun kc hc => ?_  -- 62 := indexAddr 24 t60 t61
      simp [hxp]; refine hc _ ?_; clear hc kc
      refine D_op rfl rfl rfl rfl fun kc hc => ?_  -- 63 := fieldAddr 62 t62 5
      simp; refine hc _ ?_; clear hc kc
      refine D_op rfl rfl rfl rfl fun kc hc => ?_  -- 64 := load 60 t63
      simp; refine hc _ ?_; clear hc kc
      refine D_op rfl rfl rfl rfl fun kc hc => ?_  -- 65 := move t5
      simp; refine hc _ ?_; clear hc kc
      refine D_op rfl rfl rfl rfl fun kc hc => ?_  -- 66 := indexAddr 60 t64 t65
      simp [hxq]; refine hc _ ?_; clear hc kc
      refine D_op rfl rfl rfl rfl fun kc hc => ?_  -- 67 := fieldAddr 64 t66 5
      simp; refine hc _ ?_; clear hc kc
      refine D_op rfl rfl rfl rfl fun kc hc => ?_  -- 68 := load 45 t67
      simp; refine hc _ ?_; clear hc kc
      refine D_op rfl rfl rfl rfl fun kc hc => ?_  -- 69 := call len (t68) [45]
      simp; refine hc _ ?_; clear hc kc
      refine D_op rfl rfl rfl rfl fun kc hc => ?_  -- 70 := binOp 3 t58 != t69
      simp; refine hc _ ?_; clear hc kc
      refine D_end rfl (by kernel_rfl) (hn _ ?_); clear hn kn
      refine T_cond rfl (fun b3 => ?_) (fun b3 => ?_)  -- t70
      · skip
        have haq : argQ q = true := by simp [bne] at b3; simp [argQ]; omega
        have hres := res_arg (c := c) (any_yes hxp (any_yes hxq haq))
        refine T_seq ?_
        -- region 8
        refine T_region (is := [0, 1, 2]) rfl fun kn kp hn hp => ?_
        refine T_op rfl rfl fun kc hc => ?_  -- 71 := build 29 []
        simp; refine hc _ ?_; clear hc kc
        refine T_op rfl rfl fun kc hc => ?_  -- None := store 29 t2 t71
        simp; refine hc _ ?_; clear hc kc
        refine T_op rfl rfl fun kc hc => ?_  -- 3 := assign 1
        simp; refine hc _ ?_; clear hc kc
        refine T_end (hn _ ?_); clear hn hp kn kp
        refine T_then ?_
        refine T_ret ?_
        refine X_blockR ?_
        refine X_thenR ?_
        refine X_loopR ?_
        refine X_blockR ?_
        refine X_blockR ?_
        refine X_thenR ?_
        refine X_loopR ?_
        refine X_blockR ?_
        refine X_thenR ?_
        exact finI (Ent.refl _) (by simp [resD, resL, resV]; rfl) (Ent.trans (Ent.giveG (t := 0) (n := 40) (e := .tup [.agg [nilS, nilS, nilS, nilS, nilS, nilS, nilS], iD (1)]) (hp' := _) rfl (by simp [Sx.give, giveL]; rfl)) (Ent.trans (Ent.datG (t := 0) rfl (zeroImp (1))) (Ent.sub [] [] (by simp [sub, subSl, subHp, place, mp, mpL, mpO, mpG]; rfl)))) rfl rfl (by simp [hres])
      · skip
        have haq : argQ q = false := by simp [bne] at b3; simp [argQ]; omega
        refine T_skip ?_
        refine X_blockN ?_
        refine T_then ?_
        -- region 6
        refine T_region (is := [0, 1, 2]) rfl fun kn kp hn hp => ?_
        refine T_op rfl rfl fun kc hc => ?_  -- 46 := move t5
        simp; refine hc _ ?_; clear hc kc
        refine T_op rfl rfl fun kc hc => ?_  -- 47 := binOp 3 t46 + 1
        simp [ev]; refine hc _ ?_; clear hc kc
        refine T_op rfl rfl fun kc hc => ?_  -- 5 := assign t47
        simp; refine hc _ ?_; clear hc kc
        refine T_end (hn _ ?_); clear hn hp kn kp
        exact X_loopN (v + 1) (Ent.sub [1, 2, 4, 5] [0, 1] (by simp [sub, subSl, subHp, place, mp, mpL, mpO, mpG, ev])) ⟨hz', by rw [any_next hxq, hva, haq]; rfl⟩ (by omega)
    · skip
      have hz' : v = p.reqs.length := by simp at b2; omega
      have hap : argP p = false := by rw [hz', List.take_length] at hva; exact hva
      refine T_exit ?_
      refine X_thenE ?_
      refine X_loopE ?_
      refine X_hit ?_
      refine X_blockN ?_
      refine T_then ?_
      -- region 3
      refine T_region (is := [0, 1, 2]) rfl fun kn kp hn hp => ?_
      refine T_op rfl rfl fun kc hc => ?_  -- 35 := move t4
      simp; refine hc _ ?_; clear hc kc
      refine T_op rfl rfl fun kc hc => ?_  -- 36 := binOp 3 t35 + 1
      simp [ez]; refine hc _ ?_; clear hc kc
      refine T_op rfl rfl fun kc hc => ?_  -- 4 := assign t36
      simp; refine hc _ ?_; clear hc kc
      refine T_end (hn _ ?_); clear hn hp kn kp
      exact X_loopN (z + 1) (Ent.sub [1, 2, 4] [0, 1] (by simp [sub, subSl, subHp, place, mp, mpL, mpO, mpG, ez])) ⟨hzl, by rw [any_next hxp, hza, hap]; rfl⟩ (by omega)
  · skip
    have hz' : z = c.progs.length := by simp at b1; omega
    have hA : argB c = false := by rw [hz', List.take_length] at hza; exact hza
    clear hz hza hz'
    refine T_exit ?_
    refine X_thenE ?_
    refine X_loopE ?_
    refine X_hit ?_
    refine T_then ?_
    refine T_seq ?_
    refine T_seq ?_
    -- region 9
    refine T_region (is := [0, 1]) rfl fun kn kp hn hp => ?_
    refine T_op rfl rfl fun kc hc => ?_  -- 72 := load 29 t1
    simp; refine hc _ ?_; clear hc kc
    refine T_op rfl rfl fun kc hc => ?_  -- 73 := call value F22 (t72) [29]
    simp
    refine CallS.dat (walk22 c hf) (rfl) rfl rfl rfl ?_
    simp [enum]; refine hc _ ?_; clear hc kc
    refine T_end (hn _ ?_); clear hn hp kn kp
    refine T_then ?_
    refine T_cond rfl (fun b4 => ?_) (fun b4 => ?_)  -- t73
    · skip
      have hT : twiceC c = true := by simpa using b4
      have hres := res_twice hA hT
      refine T_seq ?_
      -- region 10
      refine T_region (is := [0, 1, 2]) rfl fun kn kp hn hp => ?_
      refine T_op rfl rfl fun kc hc => ?_  -- 74 := build 29 []
      simp; refine hc _ ?_; clear hc kc
      refine T_op rfl rfl fun kc hc => ?_  -- None := store 29 t2 t74
      simp; refine hc _ ?_; clear hc kc
      refine T_op rfl rfl fun kc hc => ?_  -- 3 := assign 111
      simp; refine hc _ ?_; clear hc kc
      refine T_end (hn _ ?_); clear hn hp kn kp
      refine T_then ?_
      refine T_ret ?_
      refine X_thenR ?_
      exact finI (Ent.refl _) (by simp [resD, resL, resV]; rfl) (Ent.trans (Ent.giveG (t := 0) (n := 40) (e := .tup [.agg [nilS, nilS, nilS, nilS, nilS, nilS, nilS], iD (111)]) (hp' := _) rfl (by simp [Sx.give, giveL]; rfl)) (Ent.trans (Ent.datG (t := 0) rfl (zeroImp (111))) (Ent.sub [] [] (by simp [sub, subSl, subHp, place, mp, mpL, mpO, mpG]; rfl)))) rfl rfl (by simp [hres])
    · skip
      have hT : twiceC c = false := by simpa using b4
      refine T_skip ?_
      refine T_then ?_
      refine T_seq ?_
      -- region 11
      refine T_region (is := [0, 1, 2]) rfl fun kn kp hn hp => ?_
      refine T_op rfl rfl fun kc hc => ?_  -- 75 := load 29 t1
      simp; refine hc _ ?_; clear hc kc
      refine T_op rfl rfl fun kc hc => ?_  -- 6 := alloc 29
      simp; refine hc _ ?_; clear hc kc
      refine T_op rfl rfl fun kc hc => ?_  -- None := store 29 t6 t75
      simp; refine hc _ ?_; clear hc kc
      refine T_end (hn _ ?_); clear hn hp kn kp
      refine T_then ?_
      refine T_seq ?_
      -- region 12
      refine T_region (is := [0]) rfl fun kn kp hn hp => ?_
      refine T_op rfl rfl fun kc hc => ?_  -- 7 := assign true
      simp; refine hc _ ?_; clear hc kc
      refine T_end (hn _ ?_); clear hn hp kn kp
      refine T_then ?_
      refine T_seq ?_
      -- region 13
      refine T_region (is := [0, 1, 2]) rfl fun kn kp hn hp => ?_
      refine T_op rfl rfl fun kc hc => ?_  -- 76 := buildSlice 22 0 []
      simp; refine hc _ ?_; clear hc kc
      refine T_op rfl rfl fun kc hc => ?_  -- 77 := fieldAddr 29 t6 0
      simp; refine hc _ ?_; clear hc kc
      refine T_op rfl rfl fun kc hc => ?_  -- None := store 22 t77 t76
      simp; refine hc _ ?_; clear hc kc
      refine T_end (hn _ ?_); clear hn hp kn kp
      refine T_then ?_
      refine T_seq ?_
      refine T_seq ?_
      -- region 14
      refine T_region (is := [0]) rfl fun kn kp hn hp => ?_
      refine T_op rfl rfl fun kc hc => ?_  -- 8 := assign 0
      simp; refine hc _ ?_; clear hc kc
      refine T_end (hn _ ?_); clear hn hp kn kp
      refine T_then ?_
      refine T_block ?_  -- block 4
      refine T_loop (fun z : Nat => { sl := [(1, .ptr 0 0), (2, .ptr 1 0), (6, .ptr 2 0), (7, .dat (bV (mapX (courseX c) (c.courses.take z)).2)), (8, .dat (iD z))], hp := [(0, .var ((catD c).map .dat)), (1, .var [.dat nilS, .dat nilS, .dat nilS, .dat nilS, .dat nilS, .dat nilS, .dat nilS]), (2, .var [.own 3 16 z, .dat (.sl 4 (c.same.map pairD)), .dat (.sl 7 (c.progs.map progD)), .dat (.sl 4 (c.classes.map classD)), .dat (.sl 2 (c.fees.map feeD)), .dat (.sl 4 (c.honours.map classD)), .dat (.sl 4 (c.clauses.map clauseD))]), (3, .row 41 16 ((mapX (courseX c) (c.courses.take z)).1.map courseD))], nx := 4 }) (fun z => z ≤ c.courses.length) (fun z => c.courses.length - z) 0 (Ent.sub [1, 2, 6, 7, 8] [0, 1, 2, 3] (by simp [sub, subSl, subHp, place, mp, mpL, mpO, mpG, mapX_nil])) (Nat.zero_le _) fun z hz => ?_  -- loop 2
      refine T_seq ?_
      refine T_seq ?_
      -- region 15
      refine T_region (is := [0, 1, 2, 3, 4]) rfl fun kn kp hn hp => ?_
      refine T_op rfl rfl fun kc hc => ?_  -- 78 := move t8
      simp; refine hc _ ?_; clear hc kc
      refine T_op rfl rfl fun kc hc => ?_  -- 79 := fieldAddr 29 t1 0
      simp; refine hc _ ?_; clear hc kc
      refine T_op rfl rfl fun kc hc => ?_  -- 80 := load 22 t79
      simp; refine hc _ ?_; clear hc kc
      refine T_op rfl rfl fun kc hc => ?_  -- 81 := call len (t80) [22]
      simp; refine hc _ ?_; clear hc kc
      refine T_op rfl rfl fun kc hc => ?_  -- 82 := binOp 3 t78 < t81
      simp; refine hc _ ?_; clear hc kc
      refine T_end (hn _ ?_); clear hn hp kn kp
      refine T_then ?_
      refine T_cond rfl (fun b5 => ?_) (fun b5 => ?_)  -- t82
      · skip
        have hz' : z < c.courses.length := by simpa using b5
        obtain ⟨y, hxy⟩ : ∃ x, c.courses[z]? = some x := ⟨_, List.getElem?_eq_getElem hz'⟩
        have ez : IntKind.i64.wrap ((z : Int) + 1) = (z : Int) + 1 := wr1 hz' (by omega)
        have hyn := hf.need y (List.mem_of_getElem? hxy)
        have hml : (mapX (courseX c) (c.courses.take z)).1.length = z := by rw [mapX_len]; simp; omega
        have e7 : (z + 1) * 184 ≤ big := by simp only [big]; omega
        refine T_skip ?_
        refine T_then ?_
        refine T_seq ?_
        refine T_block ?_  -- block 5
        refine T_seq ?_
        -- region 17
        refine T_region (is := [0, 1, 2, 3, 4, 5, 6]) rfl fun kn kp hn hp => ?_
        refine T_op rfl rfl fun kc hc => ?_  -- 85 := fieldAddr 29 t1 0
        simp; refine hc _ ?_; clear hc kc
        refine T_op rfl rfl fun kc hc => ?_  -- 86 := load 22 t85
        simp; refine hc _ ?_; clear hc kc
        refine T_op rfl rfl fun kc hc => ?_  -- 87 := move t8
        simp; refine hc _ ?_; clear hc kc
        refine T_op rfl rfl fun kc hc => ?_  -- 88 := indexAddr 22 t86 t87
        simp [hxy]; refine hc _ ?_; clear hc kc
        refine T_op rfl rfl fun kc hc => ?_  -- 89 := load 41 t88
        simp [hxy]; refine hc _ ?_; clear hc kc
        refine T_op rfl rfl fun kc hc => ?_  -- 9 := alloc 41
        simp; refine hc _ ?_; clear hc kc
        refine T_op rfl rfl fun kc hc => ?_  -- None := store 41 t9 t89
        simp; refine hc _ ?_; clear hc kc
        refine T_end (hn _ ?_); clear hn hp kn kp
        refine T_then ?_
        refine T_seq ?_
        -- region 18
        refine T_region (is := [0, 1, 2, 3, 4, 5, 6, 7, 8, 9]) rfl fun kn kp hn hp => ?_
        refine T_op rfl rfl fun kc hc => ?_  -- 91 := load 29 t1
        simp; refine hc _ ?_; clear hc kc
        refine T_op rfl rfl fun kc hc => ?_  -- 92 := fieldAddr 41 t9 4
        simp; refine hc _ ?_; clear hc kc
        refine T_op rfl rfl fun kc hc => ?_  -- 93 := load 39 t92
        simp; refine hc _ ?_; clear hc kc
        refine T_op rfl rfl fun kc hc => ?_  -- 94 := call value F51 (t91 t93) [29, 39]
        simp
        refine CallS.dat (walk51 c h1 y.need hyn.1) (rfl) rfl rfl rfl ?_
        simp [enum]; refine hc _ ?_; clear hc kc
        refine T_op rfl rfl fun kc hc => ?_  -- 90 := move t94
        simp; refine hc _ ?_; clear hc kc
        refine T_op rfl rfl fun kc hc => ?_  -- 95 := extract t90 0
        simp; refine hc _ ?_; clear hc kc
        refine T_op rfl rfl fun kc hc => ?_  -- 96 := extract t90 1
        simp; refine hc _ ?_; clear hc kc
        refine T_op rfl rfl fun kc hc => ?_  -- 10 := alloc 39
        simp; refine hc _ ?_; clear hc kc
        refine T_op rfl rfl fun kc hc => ?_  -- None := store 39 t10 t95
        simp; refine hc _ ?_; clear hc kc
        refine T_op rfl rfl fun kc hc => ?_  -- 11 := assign t96
        simp; refine hc _ ?_; clear hc kc
        refine T_end (hn _ ?_); clear hn hp kn kp
        refine T_then ?_
        refine T_seq ?_
        -- region 19
        refine T_region (is := [0, 1, 2, 3, 4, 5, 6, 7, 8, 9]) rfl fun kn kp hn hp => ?_
        refine T_op rfl rfl fun kc hc => ?_  -- 98 := load 29 t1
        simp; refine hc _ ?_; clear hc kc
        refine T_op rfl rfl fun kc hc => ?_  -- 99 := fieldAddr 41 t9 5
        simp; refine hc _ ?_; clear hc kc
        refine T_op rfl rfl fun kc hc => ?_  -- 100 := load 39 t99
        simp; refine hc _ ?_; clear hc kc
        refine T_op rfl rfl fun kc hc => ?_  -- 101 := call value F51 (t98 t100) [29, 39]
        simp
        refine CallS.dat (walk51 c h1 y.bar hyn.2) (rfl) rfl rfl rfl ?_
        simp [enum]; refine hc _ ?_; clear hc kc
        refine T_op rfl rfl fun kc hc => ?_  -- 97 := move t101
        simp; refine hc _ ?_; clear hc kc
        refine T_op rfl rfl fun kc hc => ?_  -- 102 := extract t97 0
        simp; refine hc _ ?_; clear hc kc
        refine T_op rfl rfl fun kc hc => ?_  -- 103 := extract t97 1
        simp; refine hc _ ?_; clear hc kc
        refine T_op rfl rfl fun kc hc => ?_  -- 12 := alloc 39
        simp; refine hc _ ?_; clear hc kc
        refine T_op rfl rfl fun kc hc => ?_  -- None := store 39 t12 t102
        simp; refine hc _ ?_; clear hc kc
        refine T_op rfl rfl fun kc hc => ?_  -- 13 := assign t103
        simp; refine hc _ ?_; clear hc kc
        refine T_end (hn _ ?_); clear hn hp kn kp
        refine T_then ?_
        refine T_seq ?_
        -- region 20
        refine T_region (is := [0, 1, 2, 3, 4, 5, 6, 7]) rfl fun kn kp hn hp => ?_
        refine T_op rfl rfl fun kc hc => ?_  -- 104 := move t7
        simp; refine hc _ ?_; clear hc kc
        refine T_op rfl rfl fun kc hc => ?_  -- 105 := move t104
        simp; refine hc _ ?_; clear hc kc
        refine T_pure rfl (pstep_one rfl rfl rfl rfl fun g0 => .op rfl (by simp [g0]; rfl)) fun kc hc => ?_  -- 106 := move t11
        simp; refine hc _ ?_; clear hc kc
        refine T_op rfl rfl fun kc hc => ?_  -- 107 := pick t105 t106 false
        simp; refine hc _ ?_; clear hc kc
        refine T_op rfl rfl fun kc hc => ?_  -- 108 := move t107
        simp; refine hc _ ?_; clear hc kc
        refine T_pure rfl (pstep_one rfl rfl rfl rfl fun g0 => .op rfl (by simp [g0]; rfl)) fun kc hc => ?_  -- 109 := move t13
        simp; refine hc _ ?_; clear hc kc
        refine T_op rfl rfl fun kc hc => ?_  -- 110 := pick t108 t109 false
        simp; refine hc _ ?_; clear hc kc
        refine T_op rfl rfl fun kc hc => ?_  -- 7 := assign t110
        simp; refine hc _ ?_; clear hc kc
        refine T_end (hn _ ?_); clear hn hp kn kp
        refine T_then ?_
        refine T_seq ?_
        -- region 21
        refine T_region (is := [0, 1, 2]) rfl fun kn kp hn hp => ?_
        refine T_op rfl rfl fun kc hc => ?_  -- 111 := load 39 t10
        simp; refine hc _ ?_; clear hc kc
        refine T_op rfl rfl fun kc hc => ?_  -- 112 := fieldAddr 41 t9 4
        simp; refine hc _ ?_; clear hc kc
        refine T_op rfl rfl fun kc hc => ?_  -- None := store 39 t112 t111
        simp; refine hc _ ?_; clear hc kc
        refine T_end (hn _ ?_); clear hn hp kn kp
        refine T_then ?_
        refine T_seq ?_
        -- region 22
        refine T_region (is := [0, 1, 2]) rfl fun kn kp hn hp => ?_
        refine T_op rfl rfl fun kc hc => ?_  -- 113 := load 39 t12
        simp; refine hc _ ?_; clear hc kc
        refine T_op rfl rfl fun kc hc => ?_  -- 114 := fieldAddr 41 t9 5
        simp; refine hc _ ?_; clear hc kc
        refine T_op rfl rfl fun kc hc => ?_  -- None := store 39 t114 t113
        simp; refine hc _ ?_; clear hc kc
        refine T_end (hn _ ?_); clear hn hp kn kp
        refine T_then ?_
        -- region 23
        refine T_region (is := [0, 1, 2, 3, 4, 5, 6]) rfl fun kn kp hn hp => ?_
        refine T_op rfl rfl fun kc hc => ?_  -- 115 := fieldAddr 29 t6 0
        simp; refine hc _ ?_; clear hc kc
        refine T_op rfl rfl fun kc hc => ?_  -- 116 := load 22 t115
        simp; refine hc _ ?_; clear hc kc
        refine T_op rfl rfl fun kc hc => ?_  -- 117 := load 41 t9
        simp; refine hc _ ?_; clear hc kc
        refine T_op rfl rfl fun kc hc => ?_  -- 118 := buildSlice 22 1 [(0, t117)]
        simp; refine hc _ ?_; clear hc kc
        refine T_op rfl rfl fun kc hc => ?_  -- 119 := call append (t116 t118) [22, 22]
        simp [e7, hml]; refine hc _ ?_; clear hc kc
        refine T_op rfl rfl fun kc hc => ?_  -- 120 := fieldAddr 29 t6 0
        simp; refine hc _ ?_; clear hc kc
        refine T_op rfl rfl fun kc hc => ?_  -- None := store 22 t120 t119
        simp; refine hc _ ?_; clear hc kc
        refine T_end (hn _ ?_); clear hn hp kn kp
        refine X_blockN ?_
        refine T_then ?_
        -- region 16
        refine T_region (is := [0, 1, 2]) rfl fun kn kp hn hp => ?_
        refine T_op rfl rfl fun kc hc => ?_  -- 83 := move t8
        simp; refine hc _ ?_; clear hc kc
        refine T_op rfl rfl fun kc hc => ?_  -- 84 := binOp 3 t83 + 1
        simp [ez]; refine hc _ ?_; clear hc kc
        refine T_op rfl rfl fun kc hc => ?_  -- 8 := assign t84
        simp; refine hc _ ?_; clear hc kc
        refine T_end (hn _ ?_); clear hn hp kn kp
        exact X_loopN (z + 1) (Ent.sub [1, 2, 6, 7, 8] [0, 1, 2, 8] (by simp [sub, subSl, subHp, place, mp, mpL, mpO, mpG, ez, mapX_next hxy, courseX, Bool.and_assoc])) hz' (by omega)
      · skip
        have hz' : z = c.courses.length := by simp at b5; omega
        subst hz'
        refine T_exit ?_
        refine X_thenE ?_
        refine X_loopE ?_
        refine X_hit ?_
        refine T_then ?_
        refine T_seq ?_
        -- region 24
        refine T_region (is := [0, 1, 2]) rfl fun kn kp hn hp => ?_
        refine T_op rfl rfl fun kc hc => ?_  -- 121 := buildSlice 23 0 []
        simp; refine hc _ ?_; clear hc kc
        refine T_op rfl rfl fun kc hc => ?_  -- 122 := fieldAddr 29 t6 1
        simp; refine hc _ ?_; clear hc kc
        refine T_op rfl rfl fun kc hc => ?_  -- None := store 23 t122 t121
        simp; refine hc _ ?_; clear hc kc
        refine T_end (hn _ ?_); clear hn hp kn kp
        refine T_then ?_
        refine T_seq ?_
        refine T_seq ?_
        -- region 25
        refine T_region (is := [0]) rfl fun kn kp hn hp => ?_
        refine T_op rfl rfl fun kc hc => ?_  -- 14 := assign 0
        simp; refine hc _ ?_; clear hc kc
        refine T_end (hn _ ?_); clear hn hp kn kp
        refine T_then ?_
        refine T_block ?_  -- block 6
        refine T_loop (fun z : Nat => { sl := [(1, .ptr 0 0), (2, .ptr 1 0), (6, .ptr 2 0), (7, .dat (bV ((mapX (courseX c) c.courses).2 && (mapX (pairX c) (c.same.take z)).2))), (14, .dat (iD z))], hp := [(0, .var ((catD c).map .dat)), (1, .var [.dat nilS, .dat nilS, .dat nilS, .dat nilS, .dat nilS, .dat nilS, .dat nilS]), (2, .var [.own 3 16 c.courses.length, .own 4 4 z, .dat (.sl 7 (c.progs.map progD)), .dat (.sl 4 (c.classes.map classD)), .dat (.sl 2 (c.fees.map feeD)), .dat (.sl 4 (c.honours.map classD)), .dat (.sl 4 (c.clauses.map clauseD))]), (3, .row 41 16 ((mapX (courseX c) c.courses).1.map courseD)), (4, .row 51 4 ((mapX (pairX c) (c.same.take z)).1.map pairD))], nx := 5 }) (fun z => z ≤ c.same.length) (fun z => c.same.length - z) 0 (Ent.sub [1, 2, 6, 7, 14] [0, 1, 2, 3, 4] (by simp [sub, subSl, subHp, place, mp, mpL, mpO, mpG, mapX_nil])) (Nat.zero_le _) fun z hz => ?_  -- loop 3
        refine T_seq ?_
        refine T_seq ?_
        -- region 26
        refine T_region (is := [0, 1, 2, 3, 4]) rfl fun kn kp hn hp => ?_
        refine T_op rfl rfl fun kc hc => ?_  -- 123 := move t14
        simp; refine hc _ ?_; clear hc kc
        refine T_op rfl rfl fun kc hc => ?_  -- 124 := fieldAddr 29 t1 1
        simp; refine hc _ ?_; clear hc kc
        refine T_op rfl rfl fun kc hc => ?_  -- 125 := load 23 t124
        simp; refine hc _ ?_; clear hc kc
        refine T_op rfl rfl fun kc hc => ?_  -- 126 := call len (t125) [23]
        simp; refine hc _ ?_; clear hc kc
        refine T_op rfl rfl fun kc hc => ?_  -- 127 := binOp 3 t123 < t126
        simp; refine hc _ ?_; clear hc kc
        refine T_end (hn _ ?_); clear hn hp kn kp
        refine T_then ?_
        refine T_cond rfl (fun b6 => ?_) (fun b6 => ?_)  -- t127
        · skip
          have hz' : z < c.same.length := by simpa using b6
          obtain ⟨s, hxs⟩ : ∃ x, c.same[z]? = some x := ⟨_, List.getElem?_eq_getElem hz'⟩
          have ez : IntKind.i64.wrap ((z : Int) + 1) = (z : Int) + 1 := wr1 hz' (by omega)
          have hml : (mapX (pairX c) (c.same.take z)).1.length = z := by rw [mapX_len]; simp; omega
          have e7 : (z + 1) * 48 ≤ big := by simp only [big]; omega
          refine T_skip ?_
          refine T_then ?_
          refine T_seq ?_
          refine T_block ?_  -- block 7
          refine T_seq ?_
          -- region 28
          refine T_region (is := [0, 1, 2, 3, 4, 5, 6]) rfl fun kn kp hn hp => ?_
          refine T_op rfl rfl fun kc hc => ?_  -- 130 := fieldAddr 29 t1 1
          simp; refine hc _ ?_; clear hc kc
          refine T_op rfl rfl fun kc hc => ?_  -- 131 := load 23 t130
          simp; refine hc _ ?_; clear hc kc
          refine T_op rfl rfl fun kc hc => ?_  -- 132 := move t14
          simp; refine hc _ ?_; clear hc kc
          refine T_op rfl rfl fun kc hc => ?_  -- 133 := indexAddr 23 t131 t132
          simp [hxs]; refine hc _ ?_; clear hc kc
          refine T_op rfl rfl fun kc hc => ?_  -- 134 := load 51 t133
          simp [hxs]; refine hc _ ?_; clear hc kc
          refine T_op rfl rfl fun kc hc => ?_  -- 15 := alloc 51
          simp; refine hc _ ?_; clear hc kc
          refine T_op rfl rfl fun kc hc => ?_  -- None := store 51 t15 t134
          simp; refine hc _ ?_; clear hc kc
          refine T_end (hn _ ?_); clear hn hp kn kp
          refine T_then ?_
          refine T_seq ?_
          -- region 29
          refine T_region (is := [0, 1, 2, 3, 4, 5, 6, 7, 8, 9, 10]) rfl fun kn kp hn hp => ?_
          refine T_op rfl rfl fun kc hc => ?_  -- 136 := load 29 t1
          simp; refine hc _ ?_; clear hc kc
          refine T_op rfl rfl fun kc hc => ?_  -- 137 := fieldAddr 51 t15 0
          simp; refine hc _ ?_; clear hc kc
          refine T_op rfl rfl fun kc hc => ?_  -- 138 := load 9 t137
          simp; refine hc _ ?_; clear hc kc
          refine T_op rfl rfl fun kc hc => ?_  -- 139 := fieldAddr 51 t15 2
          simp; refine hc _ ?_; clear hc kc
          refine T_op rfl rfl fun kc hc => ?_  -- 140 := load 3 t139
          simp; refine hc _ ?_; clear hc kc
          refine T_op rfl rfl fun kc hc => ?_  -- 141 := call value F52 (t136 t138 t140) [29, 9, 3]
          simp
          refine CallS.dat (walk52 c s.a s.x h1) (rfl) rfl rfl rfl ?_
          simp [enum]; refine hc _ ?_; clear hc kc
          refine T_op rfl rfl fun kc hc => ?_  -- 135 := move t141
          simp; refine hc _ ?_; clear hc kc
          refine T_op rfl rfl fun kc hc => ?_  -- 142 := extract t135 0
          simp; refine hc _ ?_; clear hc kc
          refine T_op rfl rfl fun kc hc => ?_  -- 143 := extract t135 1
          simp; refine hc _ ?_; clear hc kc
          refine T_op rfl rfl fun kc hc => ?_  -- 16 := assign t142
          simp; refine hc _ ?_; clear hc kc
          refine T_op rfl rfl fun kc hc => ?_  -- 17 := assign t143
          simp; refine hc _ ?_; clear hc kc
          refine T_end (hn _ ?_); clear hn hp kn kp
          refine T_then ?_
          refine T_seq ?_
          -- region 30
          refine T_region (is := [0, 1, 2, 3, 4, 5, 6, 7, 8, 9, 10]) rfl fun kn kp hn hp => ?_
          refine T_op rfl rfl fun kc hc => ?_  -- 145 := load 29 t1
          simp; refine hc _ ?_; clear hc kc
          refine T_op rfl rfl fun kc hc => ?_  -- 146 := fieldAddr 51 t15 1
          simp; refine hc _ ?_; clear hc kc
          refine T_op rfl rfl fun kc hc => ?_  -- 147 := load 9 t146
          simp; refine hc _ ?_; clear hc kc
          refine T_op rfl rfl fun kc hc => ?_  -- 148 := fieldAddr 51 t15 3
          simp; refine hc _ ?_; clear hc kc
          refine T_op rfl rfl fun kc hc => ?_  -- 149 := load 3 t148
          simp; refine hc _ ?_; clear hc kc
          refine T_op rfl rfl fun kc hc => ?_  -- 150 := call value F52 (t145 t147 t149) [29, 9, 3]
          simp
          refine CallS.dat (walk52 c s.b s.y h1) (rfl) rfl rfl rfl ?_
          simp [enum]; refine hc _ ?_; clear hc kc
          refine T_op rfl rfl fun kc hc => ?_  -- 144 := move t150
          simp; refine hc _ ?_; clear hc kc
          refine T_op rfl rfl fun kc hc => ?_  -- 151 := extract t144 0
          simp; refine hc _ ?_; clear hc kc
          refine T_op rfl rfl fun kc hc => ?_  -- 152 := extract t144 1
          simp; refine hc _ ?_; clear hc kc
          refine T_op rfl rfl fun kc hc => ?_  -- 18 := assign t151
          simp; refine hc _ ?_; clear hc kc
          refine T_op rfl rfl fun kc hc => ?_  -- 19 := assign t152
          simp; refine hc _ ?_; clear hc kc
          refine T_end (hn _ ?_); clear hn hp kn kp
          refine T_then ?_
          refine T_seq ?_
          -- region 31
          refine T_region (is := [0, 1, 2, 3, 4, 5, 6, 7]) rfl fun kn kp hn hp => ?_
          refine T_op rfl rfl fun kc hc => ?_  -- 153 := move t7
          simp; refine hc _ ?_; clear hc kc
          refine T_op rfl rfl fun kc hc => ?_  -- 154 := move t153
          simp; refine hc _ ?_; clear hc kc
          refine T_pure rfl (pstep_one rfl rfl rfl rfl fun g0 => .op rfl (by simp [g0]; rfl)) fun kc hc => ?_  -- 155 := move t17
          simp; refine hc _ ?_; clear hc kc
          refine T_op rfl rfl fun kc hc => ?_  -- 156 := pick t154 t155 false
          simp; refine hc _ ?_; clear hc kc
          refine T_op rfl rfl fun kc hc => ?_  -- 157 := move t156
          simp; refine hc _ ?_; clear hc kc
          refine T_pure rfl (pstep_one rfl rfl rfl rfl fun g0 => .op rfl (by simp [g0]; rfl)) fun kc hc => ?_  -- 158 := move t19
          simp; refine hc _ ?_; clear hc kc
          refine T_op rfl rfl fun kc hc => ?_  -- 159 := pick t157 t158 false
          simp; refine hc _ ?_; clear hc kc
          refine T_op rfl rfl fun kc hc => ?_  -- 7 := assign t159
          simp; refine hc _ ?_; clear hc kc
          refine T_end (hn _ ?_); clear hn hp kn kp
          refine T_then ?_
          refine T_seq ?_
          -- region 32
          refine T_region (is := [0, 1, 2]) rfl fun kn kp hn hp => ?_
          refine T_op rfl rfl fun kc hc => ?_  -- 160 := move t16
          simp; refine hc _ ?_; clear hc kc
          refine T_op rfl rfl fun kc hc => ?_  -- 161 := fieldAddr 51 t15 2
          simp; refine hc _ ?_; clear hc kc
          refine T_op rfl rfl fun kc hc => ?_  -- None := store 3 t161 t160
          simp; refine hc _ ?_; clear hc kc
          refine T_end (hn _ ?_); clear hn hp kn kp
          refine T_then ?_
          refine T_seq ?_
          -- region 33
          refine T_region (is := [0, 1, 2]) rfl fun kn kp hn hp => ?_
          refine T_op rfl rfl fun kc hc => ?_  -- 162 := move t18
          simp; refine hc _ ?_; clear hc kc
          refine T_op rfl rfl fun kc hc => ?_  -- 163 := fieldAddr 51 t15 3
          simp; refine hc _ ?_; clear hc kc
          refine T_op rfl rfl fun kc hc => ?_  -- None := store 3 t163 t162
          simp; refine hc _ ?_; clear hc kc
          refine T_end (hn _ ?_); clear hn hp kn kp
          refine T_then ?_
          -- region 34
          refine T_region (is := [0, 1, 2, 3, 4, 5, 6]) rfl fun kn kp hn hp => ?_
          refine T_op rfl rfl fun kc hc => ?_  -- 164 := fieldAddr 29 t6 1
          simp; refine hc _ ?_; clear hc kc
          refine T_op rfl rfl fun kc hc => ?_  -- 165 := load 23 t164
          simp; refine hc _ ?_; clear hc kc
          refine T_op rfl rfl fun kc hc => ?_  -- 166 := load 51 t15
          simp; refine hc _ ?_; clear hc kc
          refine T_op rfl rfl fun kc hc => ?_  -- 167 := buildSlice 23 1 [(0, t166)]
          simp; refine hc _ ?_; clear hc kc
          refine T_op rfl rfl fun kc hc => ?_  -- 168 := call append (t165 t167) [23, 23]
          simp [e7, hml]; refine hc _ ?_; clear hc kc
          refine T_op rfl rfl fun kc hc => ?_  -- 169 := fieldAddr 29 t6 1
          simp; refine hc _ ?_; clear hc kc
          refine T_op rfl rfl fun kc hc => ?_  -- None := store 23 t169 t168
          simp; refine hc _ ?_; clear hc kc
          refine T_end (hn _ ?_); clear hn hp kn kp
          refine X_blockN ?_
          refine T_then ?_
          -- region 27
          refine T_region (is := [0, 1, 2]) rfl fun kn kp hn hp => ?_
          refine T_op rfl rfl fun kc hc => ?_  -- 128 := move t14
          simp; refine hc _ ?_; clear hc kc
          refine T_op rfl rfl fun kc hc => ?_  -- 129 := binOp 3 t128 + 1
          simp [ez]; refine hc _ ?_; clear hc kc
          refine T_op rfl rfl fun kc hc => ?_  -- 14 := assign t129
          simp; refine hc _ ?_; clear hc kc
          refine T_end (hn _ ?_); clear hn hp kn kp
          exact X_loopN (z + 1) (Ent.sub [1, 2, 6, 7, 14] [0, 1, 2, 3, 7] (by simp [sub, subSl, subHp, place, mp, mpL, mpO, mpG, ez, mapX_next hxs, pairX, Bool.and_assoc])) hz' (by omega)
        · skip
          have hz' : z = c.same.length := by simp at b6; omega
          subst hz'
          refine T_exit ?_
          refine X_thenE ?_
          refine X_loopE ?_
          refine X_hit ?_
          refine T_then ?_
          refine T_seq ?_
          -- region 35
          refine T_region (is := [0, 1, 2]) rfl fun kn kp hn hp => ?_
          refine T_op rfl rfl fun kc hc => ?_  -- 170 := buildSlice 24 0 []
          simp; refine hc _ ?_; clear hc kc
          refine T_op rfl rfl fun kc hc => ?_  -- 171 := fieldAddr 29 t6 2
          simp; refine hc _ ?_; clear hc kc
          refine T_op rfl rfl fun kc hc => ?_  -- None := store 24 t171 t170
          simp; refine hc _ ?_; clear hc kc
          refine T_end (hn _ ?_); clear hn hp kn kp
          refine T_then ?_
          refine T_seq ?_
          refine T_seq ?_
          -- region 36
          refine T_region (is := [0]) rfl fun kn kp hn hp => ?_
          refine T_op rfl rfl fun kc hc => ?_  -- 20 := assign 0
          simp; refine hc _ ?_; clear hc kc
          refine T_end (hn _ ?_); clear hn hp kn kp
          refine T_then ?_
          refine T_block ?_  -- block 8
          refine T_loop (fun u : Nat => { sl := [(1, .ptr 0 0), (2, .ptr 1 0), (6, .ptr 2 0), (7, .dat (bV (((mapX (courseX c) c.courses).2 && (mapX (pairX c) c.same).2) && (mapX (progX c) (c.progs.take u)).2))), (20, .dat (iD u))], hp := [(0, .var ((catD c).map .dat)), (1, .var [.dat nilS, .dat nilS, .dat nilS, .dat nilS, .dat nilS, .dat nilS, .dat nilS]), (2, .var [.own 3 16 c.courses.length, .own 4 4 c.same.length, .own 5 7 u, .dat (.sl 4 (c.classes.map classD)), .dat (.sl 2 (c.fees.map feeD)), .dat (.sl 4 (c.honours.map classD)), .dat (.sl 4 (c.clauses.map clauseD))]), (3, .row 41 16 ((mapX (courseX c) c.courses).1.map courseD)), (4, .row 51 4 ((mapX (pairX c) c.same).1.map pairD)), (5, .row 62 7 ((mapX (progX c) (c.progs.take u)).1.map progD))], nx := 6 }) (fun u => u ≤ c.progs.length) (fun u => c.progs.length - u) 0 (Ent.sub [1, 2, 6, 7, 20] [0, 1, 2, 3, 4, 5] (by simp [sub, subSl, subHp, place, mp, mpL, mpO, mpG, mapX_nil])) (Nat.zero_le _) fun u hu => ?_  -- loop 4
          refine T_seq ?_
          refine T_seq ?_
          -- region 37
          refine T_region (is := [0, 1, 2, 3, 4]) rfl fun kn kp hn hp => ?_
          refine T_op rfl rfl fun kc hc => ?_  -- 172 := move t20
          simp; refine hc _ ?_; clear hc kc
          refine T_op rfl rfl fun kc hc => ?_  -- 173 := fieldAddr 29 t1 2
          simp; refine hc _ ?_; clear hc kc
          refine T_op rfl rfl fun kc hc => ?_  -- 174 := load 24 t173
          simp; refine hc _ ?_; clear hc kc
          refine T_op rfl rfl fun kc hc => ?_  -- 175 := call len (t174) [24]
          simp; refine hc _ ?_; clear hc kc
          refine T_op rfl rfl fun kc hc => ?_  -- 176 := binOp 3 t172 < t175
          simp; refine hc _ ?_; clear hc kc
          refine T_end (hn _ ?_); clear hn hp kn kp
          refine T_then ?_
          refine T_cond rfl (fun b7 => ?_) (fun b7 => ?_)  -- t176
          · skip
            have hz' : u < c.progs.length := by simpa using b7
            obtain ⟨p, hxp⟩ : ∃ x, c.progs[u]? = some x := ⟨_, List.getElem?_eq_getElem hz'⟩
            have eu : IntKind.i64.wrap ((u : Int) + 1) = (u : Int) + 1 := wr1 hz' (by omega)
            have hul := hz'
            have hpr := hf.reqs p (List.mem_of_getElem? hxp)
            have hml : (mapX (progX c) (c.progs.take u)).1.length = u := by rw [mapX_len]; simp; omega
            have e7 : (u + 1) * 80 ≤ big := by simp only [big]; omega
            clear hz'
            refine T_skip ?_
            refine T_then ?_
            refine T_seq ?_
            refine T_block ?_  -- block 9
            refine T_seq ?_
            -- region 39
            refine T_region (is := [0, 1, 2, 3, 4, 5, 6]) rfl fun kn kp hn hp => ?_
            refine T_op rfl rfl fun kc hc => ?_  -- 179 := fieldAddr 29 t1 2
            simp; refine hc _ ?_; clear hc kc
            refine T_op rfl rfl fun kc hc => ?_  -- 180 := load 24 t179
            simp; refine hc _ ?_; clear hc kc
            refine T_op rfl rfl fun kc hc => ?_  -- 181 := move t20
            simp; refine hc _ ?_; clear hc kc
            refine T_op rfl rfl fun kc hc => ?_  -- 182 := indexAddr 24 t180 t181
            simp [hxp]; refine hc _ ?_; clear hc kc
            refine T_op rfl rfl fun kc hc => ?_  -- 183 := load 62 t182
            simp; refine hc _ ?_; clear hc kc
            refine T_op rfl rfl fun kc hc => ?_  -- 21 := alloc 62
            simp; refine hc _ ?_; clear hc kc
            refine T_op rfl rfl fun kc hc => ?_  -- None := store 62 t21 t183
            simp; refine hc _ ?_; clear hc kc
            refine T_end (hn _ ?_); clear hn hp kn kp
            refine T_then ?_
            refine T_seq ?_
            -- region 40
            refine T_region (is := [0, 1, 2]) rfl fun kn kp hn hp => ?_
            refine T_op rfl rfl fun kc hc => ?_  -- 184 := buildSlice 60 0 []
            simp; refine hc _ ?_; clear hc kc
            refine T_op rfl rfl fun kc hc => ?_  -- 185 := fieldAddr 62 t21 5
            simp; refine hc _ ?_; clear hc kc
            refine T_op rfl rfl fun kc hc => ?_  -- None := store 60 t185 t184
            simp; refine hc _ ?_; clear hc kc
            refine T_end (hn _ ?_); clear hn hp kn kp
            refine T_then ?_
            refine T_seq ?_
            refine T_seq ?_
            -- region 41
            refine T_region (is := [0]) rfl fun kn kp hn hp => ?_
            refine T_op rfl rfl fun kc hc => ?_  -- 22 := assign 0
            simp; refine hc _ ?_; clear hc kc
            refine T_end (hn _ ?_); clear hn hp kn kp
            refine T_then ?_
            refine T_block ?_  -- block 10
            refine T_loop (fun v : Nat => { sl := [(1, .ptr 0 0), (2, .ptr 1 0), (6, .ptr 2 0), (7, .dat (bV ((((mapX (courseX c) c.courses).2 && (mapX (pairX c) c.same).2) && (mapX (progX c) (c.progs.take u)).2) && (mapX (reqX c) (p.reqs.take v)).2))), (20, .dat (iD u)), (21, .ptr 6 0), (22, .dat (iD v))], hp := [(0, .var ((catD c).map .dat)), (1, .var [.dat nilS, .dat nilS, .dat nilS, .dat nilS, .dat nilS, .dat nilS, .dat nilS]), (2, .var [.own 3 16 c.courses.length, .own 4 4 c.same.length, .own 5 7 u, .dat (.sl 4 (c.classes.map classD)), .dat (.sl 2 (c.fees.map feeD)), .dat (.sl 4 (c.honours.map classD)), .dat (.sl 4 (c.clauses.map clauseD))]), (3, .row 41 16 ((mapX (courseX c) c.courses).1.map courseD)), (4, .row 51 4 ((mapX (pairX c) c.same).1.map pairD)), (5, .row 62 7 ((mapX (progX c) (c.progs.take u)).1.map progD)), (6, .var [.dat (sD p.name), .dat (iD p.number), .dat (iD p.uses), .dat (iD p.earn), .dat (iD p.num), .dat (iD p.den), .own 7 6 v]), (7, .row 64 6 ((mapX (reqX c) (p.reqs.take v)).1.map reqD))], nx := 8 }) (fun v => v ≤ p.reqs.length) (fun v => p.reqs.length - v) 0 (Ent.sub [1, 2, 6, 7, 20, 21, 22] [0, 1, 2, 3, 4, 5, 6, 7] (by simp [sub, subSl, subHp, place, mp, mpL, mpO, mpG, mapX_nil])) (Nat.zero_le _) fun v hv => ?_  -- loop 5
            refine T_seq ?_
            refine T_seq ?_
            -- region 42
            refine T_region (is := [0, 1, 2, 3, 4, 5, 6, 7, 8]) rfl fun kn kp hn hp => ?_
            refine T_op rfl rfl fun kc hc => ?_  -- 186 := move t22
            simp; refine hc _ ?_; clear hc kc
            refine T_op rfl rfl fun kc hc => ?_  -- 187 := fieldAddr 29 t1 2
            simp; refine hc _ ?_; clear hc kc
            refine T_op rfl rfl fun kc hc => ?_  -- 188 := load 24 t187
            simp; refine hc _ ?_; clear hc kc
            refine T_op rfl rfl fun kc hc => ?_  -- 189 := move t20
            simp; refine hc _ ?_; clear hc kc
            refine T_op rfl rfl fun kc hc => ?_  -- 190 := indexAddr 24 t188 t189
            simp [hxp]; refine hc _ ?_; clear hc kc
            refine T_op rfl rfl fun kc hc => ?_  -- 191 := fieldAddr 62 t190 5
            simp; refine hc _ ?_; clear hc kc
            refine T_op rfl rfl fun kc hc => ?_  -- 192 := load 60 t191
            simp; refine hc _ ?_; clear hc kc
            refine T_op rfl rfl fun kc hc => ?_  -- 193 := call len (t192) [60]
            simp; refine hc _ ?_; clear hc kc
            refine T_op rfl rfl fun kc hc => ?_  -- 194 := binOp 3 t186 < t193
            simp; refine hc _ ?_; clear hc kc
            refine T_end (hn _ ?_); clear hn hp kn kp
            refine T_then ?_
            refine T_cond rfl (fun b8 => ?_) (fun b8 => ?_)  -- t194
            · skip
              have hz' : v < p.reqs.length := by simpa using b8
              obtain ⟨q, hxq⟩ : ∃ x, p.reqs[v]? = some x := ⟨_, List.getElem?_eq_getElem hz'⟩
              have ev : IntKind.i64.wrap ((v : Int) + 1) = (v : Int) + 1 := wr1 hz' (by omega)
              have hvl := hz'
              have hpq := hpr.2 q (List.mem_of_getElem? hxq)
              have hqa := arg_no hA hxp hxq
              have hmq : (mapX (reqX c) (p.reqs.take v)).1.length = v := by rw [mapX_len]; simp; omega
              have e8 : (v + 1) * 88 ≤ big := by simp only [big]; omega
              clear hz'
              refine T_skip ?_
              refine T_then ?_
              refine T_seq ?_
              refine T_block ?_  -- block 11
              refine T_seq ?_
              -- region 44
              refine T_region (is := [0, 1, 2, 3, 4, 5, 6, 7, 8, 9, 10]) rfl fun kn kp hn hp => ?_
              refine T_op rfl rfl fun kc hc => ?_  -- 197 := fieldAddr 29 t1 2
              simp; refine hc _ ?_; clear hc kc
              refine T_op rfl rfl fun kc hc => ?_  -- 198 := load 24 t197
              simp; refine hc _ ?_; clear hc kc
              refine T_op rfl rfl fun kc hc => ?_  -- 199 := move t20
              simp; refine hc _ ?_; clear hc kc
              refine T_op rfl rfl fun kc hc => ?_  -- 200 := indexAddr 24 t198 t199
              simp [hxp]; refine hc _ ?_; clear hc kc
              refine T_op rfl rfl fun kc hc => ?_  -- 201 := fieldAddr 62 t200 5
              simp; refine hc _ ?_; clear hc kc
              refine T_op rfl rfl fun kc hc => ?_  -- 202 := load 60 t201
              simp; refine hc _ ?_; clear hc kc
              refine T_op rfl rfl fun kc hc => ?_  -- 203 := move t22
              simp; refine hc _ ?_; clear hc kc
              refine T_op rfl rfl fun kc hc => ?_  -- 204 := indexAddr 60 t202 t203
              simp [hxq]; refine hc _ ?_; clear hc kc
              refine T_op rfl rfl fun kc hc => ?_  -- 205 := load 64 t204
              simp; refine hc _ ?_; clear hc kc
              refine T_op rfl rfl fun kc hc => ?_  -- 23 := alloc 64
              simp; refine hc _ ?_; clear hc kc
              refine T_op rfl rfl fun kc hc => ?_  -- None := store 64 t23 t205
              simp; refine hc _ ?_; clear hc kc
              refine T_end (hn _ ?_); clear hn hp kn kp
              refine T_then ?_
              refine T_seq ?_
              -- region 45
              refine T_region (is := [0, 1]) rfl fun kn kp hn hp => ?_
              refine T_op rfl rfl fun kc hc => ?_  -- 206 := buildSlice 45 0 []
              simp; refine hc _ ?_; clear hc kc
              refine T_op rfl rfl fun kc hc => ?_  -- 24 := assign t206
              simp; refine hc _ ?_; clear hc kc
              refine T_end (hn _ ?_); clear hn hp kn kp
              refine T_then ?_
              refine T_seq ?_
              refine T_seq ?_
              -- region 46
              refine T_region (is := [0]) rfl fun kn kp hn hp => ?_
              refine T_op rfl rfl fun kc hc => ?_  -- 25 := assign 0
              simp; refine hc _ ?_; clear hc kc
              refine T_end (hn _ ?_); clear hn hp kn kp
              refine T_then ?_
              refine T_block ?_  -- block 12
              refine T_loop (fun j : Nat => { sl := [(1, .ptr 0 0), (2, .ptr 1 0), (6, .ptr 2 0), (7, .dat (bV (((((mapX (courseX c) c.courses).2 && (mapX (pairX c) c.same).2) && (mapX (progX c) (c.progs.take u)).2) && (mapX (reqX c) (p.reqs.take v)).2) && (numsR c (q.names.take j) (q.frm.take j)).2))), (20, .dat (iD u)), (21, .ptr 6 0), (22, .dat (iD v)), (23, .ptr 8 0), (24, .own 9 1 j), (25, .dat (iD j))], hp := [(0, .var ((catD c).map .dat)), (1, .var [.dat nilS, .dat nilS, .dat nilS, .dat nilS, .dat nilS, .dat nilS, .dat nilS]), (2, .var [.own 3 16 c.courses.length, .own 4 4 c.same.length, .own 5 7 u, .dat (.sl 4 (c.classes.map classD)), .dat (.sl 2 (c.fees.map feeD)), .dat (.sl 4 (c.honours.map classD)), .dat (.sl 4 (c.clauses.map clauseD))]), (3, .row 41 16 ((mapX (courseX c) c.courses).1.map courseD)), (4, .row 51 4 ((mapX (pairX c) c.same).1.map pairD)), (5, .row 62 7 ((mapX (progX c) (c.progs.take u)).1.map progD)), (6, .var [.dat (sD p.name), .dat (iD p.number), .dat (iD p.uses), .dat (iD p.earn), .dat (iD p.num), .dat (iD p.den), .own 7 6 v]), (7, .row 64 6 ((mapX (reqX c) (p.reqs.take v)).1.map reqD)), (8, .var ((reqD q).map .dat)), (9, .row 3 1 ((numsR c (q.names.take j) (q.frm.take j)).1.map fun n => [iD n]))], nx := 10 }) (fun j => j ≤ q.frm.length) (fun j => q.frm.length - j) 0 (Ent.sub [1, 2, 6, 7, 20, 21, 22, 23, 24, 25] [0, 1, 2, 3, 4, 5, 6, 7, 8, 9] (by simp [sub, subSl, subHp, place, mp, mpL, mpO, mpG, numsR])) (Nat.zero_le _) fun j hj => ?_  -- loop 6
              refine T_seq ?_
              refine T_seq ?_
              -- region 47
              refine T_region (is := [0, 1, 2, 3, 4]) rfl fun kn kp hn hp => ?_
              refine T_op rfl rfl fun kc hc => ?_  -- 207 := move t25
              simp; refine hc _ ?_; clear hc kc
              refine T_op rfl rfl fun kc hc => ?_  -- 208 := fieldAddr 64 t23 5
              simp; refine hc _ ?_; clear hc kc
              refine T_op rfl rfl fun kc hc => ?_  -- 209 := load 45 t208
              simp; refine hc _ ?_; clear hc kc
              refine T_op rfl rfl fun kc hc => ?_  -- 210 := call len (t209) [45]
              simp; refine hc _ ?_; clear hc kc
              refine T_op rfl rfl fun kc hc => ?_  -- 211 := binOp 3 t207 < t210
              simp; refine hc _ ?_; clear hc kc
              refine T_end (hn _ ?_); clear hn hp kn kp
              refine T_then ?_
              refine T_cond rfl (fun b9 => ?_) (fun b9 => ?_)  -- t211
              · skip
                have hz' : j < q.frm.length := by simpa using b9
                obtain ⟨f, hxf⟩ : ∃ x, q.frm[j]? = some x := ⟨_, List.getElem?_eq_getElem hz'⟩
                have ej : IntKind.i64.wrap ((j : Int) + 1) = (j : Int) + 1 := wr1 hz' (by omega)
                obtain ⟨n, hxn⟩ : ∃ n, q.names[j]? = some n := ⟨_, List.getElem?_eq_getElem (by omega)⟩
                have hmn : (numsR c (q.names.take j) (q.frm.take j)).1.length = j := by rw [numsR_len _ _ _ (by simp; omega)]; simp; omega
                have e9 : (j + 1) * 8 ≤ big := by simp only [big]; omega
                refine T_skip ?_
                refine T_then ?_
                refine T_seq ?_
                refine T_block ?_  -- block 13
                -- region 49, drawn
                refine T_seqDraw (is := [0, 1, 2, 3, 4, 5, 6, 7, 8, 9, 10, 11, 12, 13, 14, 15, 16]) rfl (by kernel_rfl) fun kn hn => ?_
                refine D_op rfl rfl rfl rfl fun kc hc => ?_  -- 215 := load 29 t1
                simp; refine hc _ ?_; clear hc kc
                refine D_op rfl rfl rfl rfl fun kc hc => ?_  -- 216 := fieldAddr 64 t23 4
                simp; refine hc _ ?_; clear hc kc
                refine D_op rfl rfl rfl rfl fun kc hc => ?_  -- 217 := load 36 t216
                simp; refine hc _ ?_; clear hc kc
                refine D_op rfl rfl rfl rfl fun kc hc => ?_  -- 218 := move t25
                simp; refine hc _ ?_; clear hc kc
                refine D_op rfl rfl rfl rfl fun kc hc => ?_  -- 219 := indexAddr 36 t217 t218
                simp [hxn]; refine hc _ ?_; clear hc kc
                refine D_op rfl rfl rfl rfl fun kc hc => ?_  -- 220 := load 9 t219
                simp; refine hc _ ?_; clear hc kc
                refine D_op rfl rfl rfl rfl fun kc hc => ?_  -- 221 := fieldAddr 64 t23 5
                simp; refine hc _ ?_; clear hc kc
                refine D_op rfl rfl rfl rfl fun kc hc => ?_  -- 222 := load 45 t221
                simp; refine hc _ ?_; clear hc kc
                refine D_op rfl rfl rfl rfl fun kc hc => ?_  -- 223 := move t25
                simp; refine hc _ ?_; clear hc kc
                refine D_op rfl rfl rfl rfl fun kc hc => ?_  -- 224 := indexAddr 45 t222 t223
                simp [hxf]; refine hc _ ?_; clear hc kc
                refine D_op rfl rfl rfl rfl fun kc hc => ?_  -- 225 := load 3 t224
                simp; refine hc _ ?_; clear hc kc
                refine D_call rfl rfl rfl (by simp <;> first | exact ⟨rfl, rfl⟩ | rfl) (Does.datTup (ds := [iD _, bV _]) (walk52 c n f h1)) (by rfl) rfl fun kc hc => ?_  -- 226 := call value F52 (t215 t220 t225) [29, 9, 3]
                simp [enum]; refine hc _ ?_; clear hc kc
                refine D_op rfl rfl rfl rfl fun kc hc => ?_  -- 214 := move t226
                simp; refine hc _ ?_; clear hc kc
                refine D_op rfl rfl rfl rfl fun kc hc => ?_  -- 227 := extract t214 0
                simp; refine hc _ ?_; clear hc kc
                refine D_op rfl rfl rfl rfl fun kc hc => ?_  -- 228 := extract t214 1
                simp; refine hc _ ?_; clear hc kc
                refine D_op rfl rfl rfl rfl fun kc hc => ?_  -- 26 := assign t227
                simp; refine hc _ ?_; clear hc kc
                refine D_op rfl rfl rfl rfl fun kc hc => ?_  -- 27 := assign t228
                simp; refine hc _ ?_; clear hc kc
                refine D_end rfl (by kernel_rfl) (hn _ ?_); clear hn kn
                refine T_seq ?_
                -- region 50
                refine T_region (is := [0, 1, 2, 3, 4]) rfl fun kn kp hn hp => ?_
                refine T_op rfl rfl fun kc hc => ?_  -- 229 := move t7
                simp; refine hc _ ?_; clear hc kc
                refine T_op rfl rfl fun kc hc => ?_  -- 230 := move t229
                simp; refine hc _ ?_; clear hc kc
                refine T_pure rfl (pstep_one rfl rfl rfl rfl fun g0 => .op rfl (by simp [g0]; rfl)) fun kc hc => ?_  -- 231 := move t27
                simp; refine hc _ ?_; clear hc kc
                refine T_op rfl rfl fun kc hc => ?_  -- 232 := pick t230 t231 false
                simp; refine hc _ ?_; clear hc kc
                refine T_op rfl rfl fun kc hc => ?_  -- 7 := assign t232
                simp; refine hc _ ?_; clear hc kc
                refine T_end (hn _ ?_); clear hn hp kn kp
                refine T_then ?_
                -- region 51
                refine T_region (is := [0, 1, 2, 3, 4]) rfl fun kn kp hn hp => ?_
                refine T_op rfl rfl fun kc hc => ?_  -- 233 := move t24
                simp; refine hc _ ?_; clear hc kc
                refine T_op rfl rfl fun kc hc => ?_  -- 234 := move t26
                simp; refine hc _ ?_; clear hc kc
                refine T_op rfl rfl fun kc hc => ?_  -- 235 := buildSlice 45 1 [(0, t234)]
                simp; refine hc _ ?_; clear hc kc
                refine T_op rfl rfl fun kc hc => ?_  -- 236 := call append (t233 t235) [45, 45]
                simp [e9, hmn]; refine hc _ ?_; clear hc kc
                refine T_op rfl rfl fun kc hc => ?_  -- 24 := assign t236
                simp; refine hc _ ?_; clear hc kc
                refine T_end (hn _ ?_); clear hn hp kn kp
                refine X_blockN ?_
                refine T_then ?_
                -- region 48
                refine T_region (is := [0, 1, 2]) rfl fun kn kp hn hp => ?_
                refine T_op rfl rfl fun kc hc => ?_  -- 212 := move t25
                simp; refine hc _ ?_; clear hc kc
                refine T_op rfl rfl fun kc hc => ?_  -- 213 := binOp 3 t212 + 1
                simp [ej]; refine hc _ ?_; clear hc kc
                refine T_op rfl rfl fun kc hc => ?_  -- 25 := assign t213
                simp; refine hc _ ?_; clear hc kc
                refine T_end (hn _ ?_); clear hn hp kn kp
                exact X_loopN (j + 1) (Ent.sub [1, 2, 6, 7, 20, 21, 22, 23, 24, 25] [0, 1, 2, 3, 4, 5, 6, 7, 8, 11] (by simp [sub, subSl, subHp, place, mp, mpL, mpO, mpG, ej, numsR_next hxn hxf, Bool.and_assoc])) hz' (by omega)
              · skip
                have hz' : j = q.frm.length := by simp at b9; omega
                subst hz'
                have hbf : q.frm.length ≤ big := by simp only [big]; omega
                have hmf := numsR_len c q.names q.frm hqa
                have hnt : q.names.take q.frm.length = q.names := by rw [← hqa, List.take_length]
                have htf : ∀ f : Int → List Dat, List.take q.frm.length ((numsR c q.names q.frm).1.map f) = (numsR c q.names q.frm).1.map f := fun f => List.take_of_length_le (by simp [hmf])
                refine T_exit ?_
                refine X_thenE ?_
                refine X_loopE ?_
                refine X_hit ?_
                refine T_then ?_
                refine T_seq ?_
                -- region 52
                refine T_region (is := [0, 1, 2]) rfl fun kn kp hn hp => ?_
                refine T_op rfl rfl fun kc hc => ?_  -- 237 := move t24
                simp [hnt]; refine hc _ ?_; clear hc kc
                refine T_op rfl rfl fun kc hc => ?_  -- 238 := fieldAddr 64 t23 5
                simp; refine hc _ ?_; clear hc kc
                refine T_op rfl rfl fun kc hc => ?_  -- None := store 45 t238 t237
                simp; refine hc _ ?_; clear hc kc
                refine T_end (hn _ ?_); clear hn hp kn kp
                refine T_then ?_
                -- region 53
                refine T_region (is := [0, 1, 2, 3, 4, 5, 6]) rfl fun kn kp hn hp => ?_
                refine T_op rfl rfl fun kc hc => ?_  -- 239 := fieldAddr 62 t21 5
                simp; refine hc _ ?_; clear hc kc
                refine T_op rfl rfl fun kc hc => ?_  -- 240 := load 60 t239
                simp; refine hc _ ?_; clear hc kc
                refine T_op rfl rfl fun kc hc => ?_  -- 241 := load 64 t23
                simp; refine hc _ ?_; clear hc kc
                refine T_op rfl rfl fun kc hc => ?_  -- 242 := buildSlice 60 1 [(0, t241)]
                simp [giveL, Sx.give, hbf, hmf, htf]; refine hc _ ?_; clear hc kc
                refine T_op rfl rfl fun kc hc => ?_  -- 243 := call append (t240 t242) [60, 60]
                simp [e8, hmq]; refine hc _ ?_; clear hc kc
                refine T_op rfl rfl fun kc hc => ?_  -- 244 := fieldAddr 62 t21 5
                simp; refine hc _ ?_; clear hc kc
                refine T_op rfl rfl fun kc hc => ?_  -- None := store 60 t244 t243
                simp; refine hc _ ?_; clear hc kc
                refine T_end (hn _ ?_); clear hn hp kn kp
                refine X_blockN ?_
                refine T_then ?_
                -- region 43
                refine T_region (is := [0, 1, 2]) rfl fun kn kp hn hp => ?_
                refine T_op rfl rfl fun kc hc => ?_  -- 195 := move t22
                simp; refine hc _ ?_; clear hc kc
                refine T_op rfl rfl fun kc hc => ?_  -- 196 := binOp 3 t195 + 1
                simp [ev]; refine hc _ ?_; clear hc kc
                refine T_op rfl rfl fun kc hc => ?_  -- 22 := assign t196
                simp; refine hc _ ?_; clear hc kc
                refine T_end (hn _ ?_); clear hn hp kn kp
                exact X_loopN (v + 1) (Ent.sub [1, 2, 6, 7, 20, 21, 22] [0, 1, 2, 3, 4, 5, 6, 11] (by simp [sub, subSl, subHp, place, mp, mpL, mpO, mpG, ev, mapX_next hxq, reqX, Bool.and_assoc])) hvl (by omega)
            · skip
              have hz' : v = p.reqs.length := by simp at b8; omega
              subst hz'
              have hbr : p.reqs.length ≤ big := by simp only [big]; omega
              have hmr := mapX_len (reqX c) p.reqs
              have htr : ∀ f : Req → List Dat, List.take p.reqs.length ((mapX (reqX c) p.reqs).1.map f) = (mapX (reqX c) p.reqs).1.map f := fun f => List.take_of_length_le (by simp [hmr])
              refine T_exit ?_
              refine X_thenE ?_
              refine X_loopE ?_
              refine X_hit ?_
              refine T_then ?_
              -- region 54
              refine T_region (is := [0, 1, 2, 3, 4, 5, 6]) rfl fun kn kp hn hp => ?_
              refine T_op rfl rfl fun kc hc => ?_  -- 245 := fieldAddr 29 t6 2
              simp; refine hc _ ?_; clear hc kc
              refine T_op rfl rfl fun kc hc => ?_  -- 246 := load 24 t245
              simp; refine hc _ ?_; clear hc kc
              refine T_op rfl rfl fun kc hc => ?_  -- 247 := load 62 t21
              simp; refine hc _ ?_; clear hc kc
              refine T_op rfl rfl fun kc hc => ?_  -- 248 := buildSlice 24 1 [(0, t247)]
              simp [giveL, Sx.give, hbr, hmr, htr]; refine hc _ ?_; clear hc kc
              refine T_op rfl rfl fun kc hc => ?_  -- 249 := call append (t246 t248) [24, 24]
              simp [e7, hml]; refine hc _ ?_; clear hc kc
              refine T_op rfl rfl fun kc hc => ?_  -- 250 := fieldAddr 29 t6 2
              simp; refine hc _ ?_; clear hc kc
              refine T_op rfl rfl fun kc hc => ?_  -- None := store 24 t250 t249
              simp; refine hc _ ?_; clear hc kc
              refine T_end (hn _ ?_); clear hn hp kn kp
              refine X_blockN ?_
              refine T_then ?_
              -- region 38
              refine T_region (is := [0, 1, 2]) rfl fun kn kp hn hp => ?_
              refine T_op rfl rfl fun kc hc => ?_  -- 177 := move t20
              simp; refine hc _ ?_; clear hc kc
              refine T_op rfl rfl fun kc hc => ?_  -- 178 := binOp 3 t177 + 1
              simp [eu]; refine hc _ ?_; clear hc kc
              refine T_op rfl rfl fun kc hc => ?_  -- 20 := assign t178
              simp; refine hc _ ?_; clear hc kc
              refine T_end (hn _ ?_); clear hn hp kn kp
              exact X_loopN (u + 1) (Ent.sub [1, 2, 6, 7, 20] [0, 1, 2, 3, 4, 9] (by simp [sub, subSl, subHp, place, mp, mpL, mpO, mpG, eu, mapX_next hxp, progX, Bool.and_assoc])) hul (by omega)
          · skip
            have hz' : u = c.progs.length := by simp at b7; omega
            subst hz'
            have hbc : c.courses.length ≤ big := by simp only [big]; omega
            have hbs : c.same.length ≤ big := by simp only [big]; omega
            have hbp : c.progs.length ≤ big := by simp only [big]; omega
            have hmc := mapX_len (courseX c) c.courses
            have hms := mapX_len (pairX c) c.same
            have hmp := mapX_len (progX c) c.progs
            have htc : ∀ f : Course → List Dat, List.take c.courses.length ((mapX (courseX c) c.courses).1.map f) = (mapX (courseX c) c.courses).1.map f := fun f => List.take_of_length_le (by simp [hmc])
            have hts : ∀ f : Pair → List Dat, List.take c.same.length ((mapX (pairX c) c.same).1.map f) = (mapX (pairX c) c.same).1.map f := fun f => List.take_of_length_le (by simp [hms])
            have htp : ∀ f : Prog → List Dat, List.take c.progs.length ((mapX (progX c) c.progs).1.map f) = (mapX (progX c) c.progs).1.map f := fun f => List.take_of_length_le (by simp [hmp])
            refine T_exit ?_
            refine X_thenE ?_
            refine X_loopE ?_
            refine X_hit ?_
            refine T_then ?_
            refine T_seq ?_
            refine T_seq ?_
            -- region 55
            refine T_region (is := [0, 1]) rfl fun kn kp hn hp => ?_
            refine T_op rfl rfl fun kc hc => ?_  -- 251 := move t7
            simp; refine hc _ ?_; clear hc kc
            refine T_op rfl rfl fun kc hc => ?_  -- 252 := unOp 4 t251
            simp; refine hc _ ?_; clear hc kc
            refine T_end (hn _ ?_); clear hn hp kn kp
            refine T_then ?_
            refine T_cond rfl (fun b10 => ?_) (fun b10 => ?_)  -- t252
            · skip
              have hG : goodB c = false := by simp at b10; simp only [goodB]; rcases b10 with (h | h) | h <;> simp [h]
              have hres := res_name hA hT hG
              refine T_seq ?_
              -- region 56
              refine T_region (is := [0, 1, 2]) rfl fun kn kp hn hp => ?_
              refine T_op rfl rfl fun kc hc => ?_  -- 253 := build 29 []
              simp; refine hc _ ?_; clear hc kc
              refine T_op rfl rfl fun kc hc => ?_  -- None := store 29 t2 t253
              simp; refine hc _ ?_; clear hc kc
              refine T_op rfl rfl fun kc hc => ?_  -- 3 := assign 110
              simp; refine hc _ ?_; clear hc kc
              refine T_end (hn _ ?_); clear hn hp kn kp
              refine T_then ?_
              refine T_ret ?_
              refine X_thenR ?_
              exact finI (Ent.refl _) (by simp [resD, resL, resV]; rfl) (Ent.trans (Ent.giveG (t := 0) (n := 40) (e := .tup [.agg [nilS, nilS, nilS, nilS, nilS, nilS, nilS], iD (110)]) (hp' := _) rfl (by simp [Sx.give, giveL]; rfl)) (Ent.trans (Ent.datG (t := 0) rfl (zeroImp (110))) (Ent.sub [] [] (by simp [sub, subSl, subHp, place, mp, mpL, mpO, mpG]; rfl)))) rfl rfl (by simp [hres])
            · skip
              have hG : goodB c = true := by simp only [goodB]; simpa using b10
              refine T_skip ?_
              refine T_then ?_
              refine T_seq ?_
              -- region 57
              refine T_region (is := [0, 1, 2, 3, 4, 5, 6]) rfl fun kn kp hn hp => ?_
              refine T_op rfl rfl fun kc hc => ?_  -- 255 := load 29 t1
              simp; refine hc _ ?_; clear hc kc
              refine T_op rfl rfl fun kc hc => ?_  -- 256 := call value F18 (t255) [29]
              simp
              refine CallS.dat (walk18 c hf) (rfl) rfl rfl rfl ?_
              simp [enum]; refine hc _ ?_; clear hc kc
              refine T_op rfl rfl fun kc hc => ?_  -- 254 := move t256
              simp; refine hc _ ?_; clear hc kc
              refine T_op rfl rfl fun kc hc => ?_  -- 257 := extract t254 0
              simp; refine hc _ ?_; clear hc kc
              refine T_op rfl rfl fun kc hc => ?_  -- 258 := extract t254 1
              simp; refine hc _ ?_; clear hc kc
              refine T_op rfl rfl fun kc hc => ?_  -- 28 := assign t257
              simp; refine hc _ ?_; clear hc kc
              refine T_op rfl rfl fun kc hc => ?_  -- 29 := assign t258
              simp; refine hc _ ?_; clear hc kc
              refine T_end (hn _ ?_); clear hn hp kn kp
              refine T_then ?_
              refine T_seq ?_
              refine T_seq ?_
              -- region 58
              refine T_region (is := [0, 1]) rfl fun kn kp hn hp => ?_
              refine T_op rfl rfl fun kc hc => ?_  -- 259 := move t29
              simp; refine hc _ ?_; clear hc kc
              refine T_op rfl rfl fun kc hc => ?_  -- 260 := binOp 32 t259 != 0
              simp; refine hc _ ?_; clear hc kc
              refine T_end (hn _ ?_); clear hn hp kn kp
              refine T_then ?_
              refine T_cond rfl (fun b11 => ?_) (fun b11 => ?_)  -- t260
              · skip
                have hO : (orderOf c).2 ≠ 0 := by simpa [bne] using b11
                have hres := res_order hA hT hG hO
                refine T_seq ?_
                -- region 59
                refine T_region (is := [0, 1, 2, 3]) rfl fun kn kp hn hp => ?_
                refine T_op rfl rfl fun kc hc => ?_  -- 261 := build 29 []
                simp; refine hc _ ?_; clear hc kc
                refine T_op rfl rfl fun kc hc => ?_  -- 262 := move t29
                simp; refine hc _ ?_; clear hc kc
                refine T_op rfl rfl fun kc hc => ?_  -- None := store 29 t2 t261
                simp; refine hc _ ?_; clear hc kc
                refine T_op rfl rfl fun kc hc => ?_  -- 3 := assign t262
                simp; refine hc _ ?_; clear hc kc
                refine T_end (hn _ ?_); clear hn hp kn kp
                refine T_then ?_
                refine T_ret ?_
                refine X_thenR ?_
                exact finI (Ent.refl _) (by simp [resD, resL, resV]; rfl) (Ent.trans (Ent.giveG (t := 0) (n := 40) (e := .tup [.agg [nilS, nilS, nilS, nilS, nilS, nilS, nilS], iD ((orderOf c).2)]) (hp' := _) rfl (by simp [Sx.give, giveL]; rfl)) (Ent.trans (Ent.datG (t := 0) rfl (zeroImp ((orderOf c).2))) (Ent.sub [] [] (by simp [sub, subSl, subHp, place, mp, mpL, mpO, mpG]; rfl)))) rfl rfl (by simp [hres])
              · skip
                have hO : (orderOf c).2 = 0 := by simpa [bne] using b11
                have hres := res_ok hA hT hG hO
                refine T_skip ?_
                refine T_then ?_
                refine T_seq ?_
                -- region 60
                refine T_region (is := [0, 1, 2]) rfl fun kn kp hn hp => ?_
                refine T_op rfl rfl fun kc hc => ?_  -- 263 := load 29 t6
                simp; refine hc _ ?_; clear hc kc
                refine T_op rfl rfl fun kc hc => ?_  -- None := store 29 t2 t263
                simp; refine hc _ ?_; clear hc kc
                refine T_op rfl rfl fun kc hc => ?_  -- 3 := assign 0
                simp; refine hc _ ?_; clear hc kc
                refine T_end (hn _ ?_); clear hn hp kn kp
                refine T_then ?_
                refine T_ret ?_
                exact finI (Ent.refl _) (by simp [resD, resL, resV]; rfl) (Ent.trans (Ent.giveG (t := 0) (n := 40) (e := .tup [.agg (catD (resR c)), iD 0]) (hp' := _) rfl (by simp [Sx.give, giveL, hbc, hbs, hbp, hmc, hms, hmp, htc, hts, htp, resR]; rfl)) (Ent.sub [] [] (by simp [sub, subSl, subHp, place, mp, mpL, mpO, mpG]; rfl))) rfl rfl (by simp [hres])
-- END

end Go.Proofs.Ytbkkekbeaabokaa
