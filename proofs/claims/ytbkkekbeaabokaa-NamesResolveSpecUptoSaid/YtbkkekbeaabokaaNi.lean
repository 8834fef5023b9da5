/- The names: what is small, what is defined twice, what is the same. -/
import Derived.Test.YtbkkekbeaabokaaNh
set_option linter.unusedVariables false
set_option linter.unusedSimpArgs false
namespace Go.Proofs.Ytbkkekbeaabokaa
open Go Go.Proofs.Ytbkkekbeaabokaa.Sx

def lensB (c : Cat) : Bool := (((((decide (8 < c.courses.length) || decide (6 < c.same.length)) || decide (4 < c.progs.length)) || decide (6 < c.classes.length)) || decide (6 < c.fees.length)) || decide (6 < c.honours.length)) || decide (6 < c.clauses.length)
def bigC (y : Course) : Bool := decide (20 < (partsOf y.need).length) || decide (20 < (partsOf y.bar).length)
def bigQ (q : Req) : Bool := decide (8 < q.names.length) || decide (8 < q.frm.length)
def bigP (p : Prog) : Bool := decide (5 < p.reqs.length) || p.reqs.any bigQ
def fewB (c : Cat) : Bool := !lensB c && (!c.courses.any bigC && !c.progs.any bigP)
def twiceP (p : Prog) : Bool := twiceB (p.reqs.map (·.name))
def twiceC (c : Cat) : Bool := ((twiceB (c.courses.map (·.name)) || twiceB (c.courses.map (·.number))) || c.progs.any twiceP) || (((((twiceB (c.progs.map (·.name)) || twiceB (c.progs.map (·.number))) || twiceB (c.classes.map (·.name))) || twiceB (c.fees.map (·.name))) || twiceB (c.honours.map (·.name))))
theorem any_yes {α : Type} {p : α → Bool} {l : List α} {z : Nat} {x : α} (h : l[z]? = some x) (hp : p x = true) : l.any p = true := by
  rw [List.any_eq_true]
  exact ⟨x, List.mem_of_getElem? h, hp⟩

-- WALK 11
-- sizar/sizarref11.Few
theorem walk11 (c : Cat) (hf : c.fit) : Does Try.prog 11 [.agg (catD c)] (.dat (bV (fewB c))) [] := by
  have h1 := hf.courses
  have h2 := hf.progs
  refine Does.intro [.tmp 2] Try.func11 rfl (by kernel_rfl) Try.ntmps11 rfl (Nat.le_of_ble_eq_true rfl) ?_
  refine T_seq ?_
  -- region 0
  refine T_region (is := [0, 1]) rfl fun kn kp hn hp => ?_
  refine T_op rfl rfl fun kc hc => ?_  -- 1 := box 29 t0
  simp; refine hc _ ?_; clear hc kc
  refine T_op rfl rfl fun kc hc => ?_  -- 2 := assign false
  simp; refine hc _ ?_; clear hc kc
  refine T_end (hn _ ?_); clear hn hp kn kp
  refine T_then ?_
  refine T_seq ?_
  refine T_seq ?_
  -- region 1
  refine T_region (is := [0, 1, 2, 3, 4, 5, 6, 7, 8, 9, 10, 11, 12, 13, 14, 15, 16, 17, 18, 19, 20, 21, 22, 23, 24, 25, 26, 27, 28, 29, 30, 31, 32, 33, 34, 35, 36, 37, 38, 39]) rfl fun kn kp hn hp => ?_
  refine T_op rfl rfl fun kc hc => ?_  -- 6 := fieldAddr 29 t1 0
  simp; refine hc _ ?_; clear hc kc
  refine T_op rfl rfl fun kc hc => ?_  -- 7 := load 22 t6
  simp; refine hc _ ?_; clear hc kc
  refine T_op rfl rfl fun kc hc => ?_  -- 8 := call len (t7) [22]
  simp; refine hc _ ?_; clear hc kc
  refine T_op rfl rfl fun kc hc => ?_  -- 9 := binOp 3 t8 > 8
  simp; refine hc _ ?_; clear hc kc
  refine T_op rfl rfl fun kc hc => ?_  -- 10 := move t9
  simp; refine hc _ ?_; clear hc kc
  refine T_pure rfl (pstep_one rfl rfl rfl rfl fun g0 => .op rfl (by simp [g0]; rfl)) fun kc hc => ?_  -- 11 := fieldAddr 29 t1 1
  simp; refine hc _ ?_; clear hc kc
  refine T_pure rfl (pstep_one rfl rfl rfl rfl fun g0 => .op rfl (by simp [g0]; rfl)) fun kc hc => ?_  -- 12 := load 23 t11
  simp; refine hc _ ?_; clear hc kc
  refine T_pure rfl (pstep_one rfl rfl rfl rfl fun g0 => .op rfl (by simp [g0]; rfl)) fun kc hc => ?_  -- 13 := call len (t12) [23]
  simp; refine hc _ ?_; clear hc kc
  refine T_pure rfl (pstep_one rfl rfl rfl rfl fun g0 => .op rfl (by simp [g0]; rfl)) fun kc hc => ?_  -- 14 := binOp 3 t13 > 6
  simp; refine hc _ ?_; clear hc kc
  refine T_op rfl rfl fun kc hc => ?_  -- 15 := pick t10 true t14
  simp; refine hc _ ?_; clear hc kc
  refine T_op rfl rfl fun kc hc => ?_  -- 16 := move t15
  simp; refine hc _ ?_; clear hc kc
  refine T_pure rfl (pstep_one rfl rfl rfl rfl fun g0 => .op rfl (by simp [g0]; rfl)) fun kc hc => ?_  -- 17 := fieldAddr 29 t1 2
  simp; refine hc _ ?_; clear hc kc
  refine T_pure rfl (pstep_one rfl rfl rfl rfl fun g0 => .op rfl (by simp [g0]; rfl)) fun kc hc => ?_  -- 18 := load 24 t17
  simp; refine hc _ ?_; clear hc kc
  refine T_pure rfl (pstep_one rfl rfl rfl rfl fun g0 => .op rfl (by simp [g0]; rfl)) fun kc hc => ?_  -- 19 := call len (t18) [24]
  simp; refine hc _ ?_; clear hc kc
  refine T_pure rfl (pstep_one rfl rfl rfl rfl fun g0 => .op rfl (by simp [g0]; rfl)) fun kc hc => ?_  -- 20 := binOp 3 t19 > 4
  simp; refine hc _ ?_; clear hc kc
  refine T_op rfl rfl fun kc hc => ?_  -- 21 := pick t16 true t20
  simp; refine hc _ ?_; clear hc kc
  refine T_op rfl rfl fun kc hc => ?_  -- 22 := move t21
  simp; refine hc _ ?_; clear hc kc
  refine T_pure rfl (pstep_one rfl rfl rfl rfl fun g0 => .op rfl (by simp [g0]; rfl)) fun kc hc => ?_  -- 23 := fieldAddr 29 t1 3
  simp; refine hc _ ?_; clear hc kc
  refine T_pure rfl (pstep_one rfl rfl rfl rfl fun g0 => .op rfl (by simp [g0]; rfl)) fun kc hc => ?_  -- 24 := load 25 t23
  simp; refine hc _ ?_; clear hc kc
  refine T_pure rfl (pstep_one rfl rfl rfl rfl fun g0 => .op rfl (by simp [g0]; rfl)) fun kc hc => ?_  -- 25 := call len (t24) [25]
  simp; refine hc _ ?_; clear hc kc
  refine T_pure rfl (pstep_one rfl rfl rfl rfl fun g0 => .op rfl (by simp [g0]; rfl)) fun kc hc => ?_  -- 26 := binOp 3 t25 > 6
  simp; refine hc _ ?_; clear hc kc
  refine T_op rfl rfl fun kc hc => ?_  -- 27 := pick t22 true t26
  simp; refine hc _ ?_; clear hc kc
  refine T_op rfl rfl fun kc hc => ?_  -- 28 := move t27
  simp; refine hc _ ?_; clear hc kc
  refine T_pure rfl (pstep_one rfl rfl rfl rfl fun g0 => .op rfl (by simp [g0]; rfl)) fun kc hc => ?_  -- 29 := fieldAddr 29 t1 4
  simp; refine hc _ ?_; clear hc kc
  refine T_pure rfl (pstep_one rfl rfl rfl rfl fun g0 => .op rfl (by simp [g0]; rfl)) fun kc hc => ?_  -- 30 := load 26 t29
  simp; refine hc _ ?_; clear hc kc
  refine T_pure rfl (pstep_one rfl rfl rfl rfl fun g0 => .op rfl (by simp [g0]; rfl)) fun kc hc => ?_  -- 31 := call len (t30) [26]
  simp; refine hc _ ?_; clear hc kc
  refine T_pure rfl (pstep_one rfl rfl rfl rfl fun g0 => .op rfl (by simp [g0]; rfl)) fun kc hc => ?_  -- 32 := binOp 3 t31 > 6
  simp; refine hc _ ?_; clear hc kc
  refine T_op rfl rfl fun kc hc => ?_  -- 33 := pick t28 true t32
  simp; refine hc _ ?_; clear hc kc
  refine T_op rfl rfl fun kc hc => ?_  -- 34 := move t33
  simp; refine hc _ ?_; clear hc kc
  refine T_pure rfl (pstep_one rfl rfl rfl rfl fun g0 => .op rfl (by simp [g0]; rfl)) fun kc hc => ?_  -- 35 := fieldAddr 29 t1 5
  simp; refine hc _ ?_; clear hc kc
  refine T_pure rfl (pstep_one rfl rfl rfl rfl fun g0 => .op rfl (by simp [g0]; rfl)) fun kc hc => ?_  -- 36 := load 25 t35
  simp; refine hc _ ?_; clear hc kc
  refine T_pure rfl (pstep_one rfl rfl rfl rfl fun g0 => .op rfl (by simp [g0]; rfl)) fun kc hc => ?_  -- 37 := call len (t36) [25]
  simp; refine hc _ ?_; clear hc kc
  refine T_pure rfl (pstep_one rfl rfl rfl rfl fun g0 => .op rfl (by simp [g0]; rfl)) fun kc hc => ?_  -- 38 := binOp 3 t37 > 6
  simp; refine hc _ ?_; clear hc kc
  refine T_op rfl rfl fun kc hc => ?_  -- 39 := pick t34 true t38
  simp; refine hc _ ?_; clear hc kc
  refine T_op rfl rfl fun kc hc => ?_  -- 40 := move t39
  simp; refine hc _ ?_; clear hc kc
  refine T_pure rfl (pstep_one rfl rfl rfl rfl fun g0 => .op rfl (by simp [g0]; rfl)) fun kc hc => ?_  -- 41 := fieldAddr 29 t1 6
  simp; refine hc _ ?_; clear hc kc
  refine T_pure rfl (pstep_one rfl rfl rfl rfl fun g0 => .op rfl (by simp [g0]; rfl)) fun kc hc => ?_  -- 42 := load 27 t41
  simp; refine hc _ ?_; clear hc kc
  refine T_pure rfl (pstep_one rfl rfl rfl rfl fun g0 => .op rfl (by simp [g0]; rfl)) fun kc hc => ?_  -- 43 := call len (t42) [27]
  simp; refine hc _ ?_; clear hc kc
  refine T_pure rfl (pstep_one rfl rfl rfl rfl fun g0 => .op rfl (by simp [g0]; rfl)) fun kc hc => ?_  -- 44 := binOp 3 t43 > 6
  simp; refine hc _ ?_; clear hc kc
  refine T_op rfl rfl fun kc hc => ?_  -- 45 := pick t40 true t44
  simp; refine hc _ ?_; clear hc kc
  refine T_end (hn _ ?_); clear hn hp kn kp
  refine T_then ?_
  refine T_cond rfl (fun b1 => ?_) (fun b1 => ?_)  -- t45
  · skip
    have hl : lensB c = true := by simp [lensB]; simp at b1; omega
    refine T_seq ?_
    -- region 2
    refine T_region (is := [0]) rfl fun kn kp hn hp => ?_
    refine T_op rfl rfl fun kc hc => ?_  -- 2 := assign false
    simp; refine hc _ ?_; clear hc kc
    refine T_end (hn _ ?_); clear hn hp kn kp
    refine T_then ?_
    refine T_ret ?_
    refine X_thenR ?_
    exact finI (Ent.refl _) (by simp [resD, resL, resV]; rfl) (Ent.sub [] [] (by simp [sub, subSl, subHp, place, mp, mpL, mpO, mpG]; rfl)) rfl rfl (by simp [fewB, hl])
  · skip
    have hl : lensB c = false := by simp [lensB]; simp at b1; omega
    refine T_skip ?_
    refine T_then ?_
    refine T_seq ?_
    refine T_seq ?_
    -- region 3
    refine T_region (is := [0]) rfl fun kn kp hn hp => ?_
    refine T_op rfl rfl fun kc hc => ?_  -- 3 := assign 0
    simp; refine hc _ ?_; clear hc kc
    refine T_end (hn _ ?_); clear hn hp kn kp
    refine T_then ?_
    refine T_block ?_  -- block 0
    refine T_loop (fun z : Nat => { sl := [(1, .ptr 0 0), (3, .dat (iD z))], hp := [(0, .var ((catD c).map .dat))], nx := 1 }) (fun z => z ≤ c.courses.length ∧ (c.courses.take z).any bigC = false) (fun z => c.courses.length - z) 0 (Ent.sub [1, 3] [0] (by simp [sub, subSl, subHp, place, mp, mpL, mpO, mpG])) ⟨Nat.zero_le _, rfl⟩ fun z hz => ?_  -- loop 0
    obtain ⟨hz, hza⟩ := hz
    refine T_seq ?_
    refine T_seq ?_
    -- region 4
    refine T_region (is := [0, 1, 2, 3, 4]) rfl fun kn kp hn hp => ?_
    refine T_op rfl rfl fun kc hc => ?_  -- 46 := move t3
    simp; refine hc _ ?_; clear hc kc
    refine T_op rfl rfl fun kc hc => ?_  -- 47 := fieldAddr 29 t1 0
    simp; refine hc _ ?_; clear hc kc
    refine T_op rfl rfl fun kc hc => ?_  -- 48 := load 22 t47
    simp; refine hc _ ?_; clear hc kc
    refine T_op rfl rfl fun kc hc => ?_  -- 49 := call len (t48) [22]
    simp; refine hc _ ?_; clear hc kc
    refine T_op rfl rfl fun kc hc => ?_  -- 50 := binOp 3 t46 < t49
    simp; refine hc _ ?_; clear hc kc
    refine T_end (hn _ ?_); clear hn hp kn kp
    refine T_then ?_
    refine T_cond rfl (fun b2 => ?_) (fun b2 => ?_)  -- t50
    · skip
      have hz' : z < c.courses.length := by simpa using b2
      obtain ⟨y, hxy⟩ : ∃ x, c.courses[z]? = some x := ⟨_, List.getElem?_eq_getElem hz'⟩
      have ez : IntKind.i64.wrap ((z : Int) + 1) = (z : Int) + 1 := wr1 hz' (by omega)
      have hyn := hf.need y (List.mem_of_getElem? hxy)
      refine T_skip ?_
      refine T_then ?_
      refine T_seq ?_
      refine T_block ?_  -- block 1
      refine T_seq ?_
      -- region 6
      refine T_region (is := [0, 1, 2, 3, 4, 5, 6, 7, 8, 9, 10, 11, 12, 13, 14, 15, 16, 17, 18, 19]) rfl fun kn kp hn hp => ?_
      refine T_op rfl rfl fun kc hc => ?_  -- 53 := fieldAddr 29 t1 0
      simp; refine hc _ ?_; clear hc kc
      refine T_op rfl rfl fun kc hc => ?_  -- 54 := load 22 t53
      simp; refine hc _ ?_; clear hc kc
      refine T_op rfl rfl fun kc hc => ?_  -- 55 := move t3
      simp; refine hc _ ?_; clear hc kc
      refine T_op rfl rfl fun kc hc => ?_  -- 56 := indexAddr 22 t54 t55
      simp [hxy]; refine hc _ ?_; clear hc kc
      refine T_op rfl rfl fun kc hc => ?_  -- 57 := fieldAddr 41 t56 4
      simp; refine hc _ ?_; clear hc kc
      refine T_op rfl rfl fun kc hc => ?_  -- 58 := load 39 t57
      simp; refine hc _ ?_; clear hc kc
      refine T_op rfl rfl fun kc hc => ?_  -- 59 := call value F26 (t58) [39]
      simp
      refine CallS.dat (walk26 y.need hyn.1) (rfl) rfl rfl rfl ?_
      simp [enum]; refine hc _ ?_; clear hc kc
      refine T_op rfl rfl fun kc hc => ?_  -- 60 := call len (t59) [37]
      simp; refine hc _ ?_; clear hc kc
      refine T_op rfl rfl fun kc hc => ?_  -- 61 := binOp 3 t60 > 20
      simp; refine hc _ ?_; clear hc kc
      refine T_op rfl rfl fun kc hc => ?_  -- 62 := move t61
      simp; refine hc _ ?_; clear hc kc
      refine T_pure rfl (pstep_one rfl rfl rfl rfl fun g0 => .op rfl (by simp [g0]; rfl)) fun kc hc => ?_  -- 63 := fieldAddr 29 t1 0
      simp; refine hc _ ?_; clear hc kc
      refine T_pure rfl (pstep_one rfl rfl rfl rfl fun g0 => .op rfl (by simp [g0]; rfl)) fun kc hc => ?_  -- 64 := load 22 t63
      simp; refine hc _ ?_; clear hc kc
      refine T_pure rfl (pstep_one rfl rfl rfl rfl fun g0 => .op rfl (by simp [g0]; rfl)) fun kc hc => ?_  -- 65 := move t3
      simp; refine hc _ ?_; clear hc kc
      refine T_pure rfl (pstep_one rfl rfl rfl rfl fun g0 => .op rfl (by simp [g0, hxy]; rfl)) fun kc hc => ?_  -- 66 := indexAddr 22 t64 t65
      simp; refine hc _ ?_; clear hc kc
      refine T_pure rfl (pstep_one rfl rfl rfl rfl fun g0 => .op rfl (by simp [g0]; rfl)) fun kc hc => ?_  -- 67 := fieldAddr 41 t66 5
      simp; refine hc _ ?_; clear hc kc
      refine T_pure rfl (pstep_one rfl rfl rfl rfl fun g0 => .op rfl (by simp [g0]; rfl)) fun kc hc => ?_  -- 68 := load 39 t67
      simp; refine hc _ ?_; clear hc kc
      refine T_pure rfl (pstep_one rfl rfl rfl rfl fun g0 => .dat (by simp [g0] <;> first | exact ⟨rfl, rfl⟩ | rfl) (by exact walk26 y.bar hyn.2) (by rfl)) fun kc hc => ?_  -- 69 := call value F26 (t68) [39]
      simp; refine hc _ ?_; clear hc kc
      refine T_pure rfl (pstep_one rfl rfl rfl rfl fun g0 => .op rfl (by simp [g0]; rfl)) fun kc hc => ?_  -- 70 := call len (t69) [37]
      simp; refine hc _ ?_; clear hc kc
      refine T_pure rfl (pstep_one rfl rfl rfl rfl fun g0 => .op rfl (by simp [g0]; rfl)) fun kc hc => ?_  -- 71 := binOp 3 t70 > 20
      simp; refine hc _ ?_; clear hc kc
      refine T_op rfl rfl fun kc hc => ?_  -- 72 := pick t62 true t71
      simp; refine hc _ ?_; clear hc kc
      refine T_end (hn _ ?_); clear hn hp kn kp
      refine T_then ?_
      refine T_cond rfl (fun b3 => ?_) (fun b3 => ?_)  -- t72
      · skip
        have hby : bigC y = true := by simp [bigC]; simp at b3; omega
        have hres : fewB c = false := by simp [fewB, any_yes hxy hby]
        refine T_seq ?_
        -- region 7
        refine T_region (is := [0]) rfl fun kn kp hn hp => ?_
        refine T_op rfl rfl fun kc hc => ?_  -- 2 := assign false
        simp; refine hc _ ?_; clear hc kc
        refine T_end (hn _ ?_); clear hn hp kn kp
        refine T_then ?_
        refine T_ret ?_
        refine X_blockR ?_
        refine X_thenR ?_
        refine X_loopR ?_
        refine X_blockR ?_
        refine X_thenR ?_
        exact finI (Ent.refl _) (by simp [resD, resL, resV]; rfl) (Ent.sub [] [] (by simp [sub, subSl, subHp, place, mp, mpL, mpO, mpG]; rfl)) rfl rfl (by simp [hres])
      · skip
        have hby : bigC y = false := by simp [bigC]; simp at b3; omega
        refine T_skip ?_
        refine X_blockN ?_
        refine T_then ?_
        -- region 5
        refine T_region (is := [0, 1, 2]) rfl fun kn kp hn hp => ?_
        refine T_op rfl rfl fun kc hc => ?_  -- 51 := move t3
        simp; refine hc _ ?_; clear hc kc
        refine T_op rfl rfl fun kc hc => ?_  -- 52 := binOp 3 t51 + 1
        simp [ez]; refine hc _ ?_; clear hc kc
        refine T_op rfl rfl fun kc hc => ?_  -- 3 := assign t52
        simp; refine hc _ ?_; clear hc kc
        refine T_end (hn _ ?_); clear hn hp kn kp
        exact X_loopN (z + 1) (Ent.sub [1, 3] [0] (by simp [sub, subSl, subHp, place, mp, mpL, mpO, mpG, ez])) ⟨hz', by rw [any_next hxy, hza, hby]; rfl⟩ (by omega)
    · skip
      have hz' : z = c.courses.length := by simp at b2; omega
      have hca : c.courses.any bigC = false := by rw [hz', List.take_length] at hza; exact hza
      refine T_exit ?_
      refine X_thenE ?_
      refine X_loopE ?_
      refine X_hit ?_
      refine T_then ?_
      refine T_seq ?_
      refine T_seq ?_
      -- region 8
      refine T_region (is := [0]) rfl fun kn kp hn hp => ?_
      refine T_op rfl rfl fun kc hc => ?_  -- 4 := assign 0
      simp; refine hc _ ?_; clear hc kc
      refine T_end (hn _ ?_); clear hn hp kn kp
      refine T_then ?_
      refine T_block ?_  -- block 2
      refine T_loop (fun u : Nat => { sl := [(1, .ptr 0 0), (4, .dat (iD u))], hp := [(0, .var ((catD c).map .dat))], nx := 1 }) (fun u => u ≤ c.progs.length ∧ (c.progs.take u).any bigP = false) (fun u => c.progs.length - u) 0 (Ent.sub [1, 4] [0] (by simp [sub, subSl, subHp, place, mp, mpL, mpO, mpG])) ⟨Nat.zero_le _, rfl⟩ fun u hu => ?_  -- loop 1
      obtain ⟨hu, hua⟩ := hu
      refine T_seq ?_
      refine T_seq ?_
      -- region 9
      refine T_region (is := [0, 1, 2, 3, 4]) rfl fun kn kp hn hp => ?_
      refine T_op rfl rfl fun kc hc => ?_  -- 73 := move t4
      simp; refine hc _ ?_; clear hc kc
      refine T_op rfl rfl fun kc hc => ?_  -- 74 := fieldAddr 29 t1 2
      simp; refine hc _ ?_; clear hc kc
      refine T_op rfl rfl fun kc hc => ?_  -- 75 := load 24 t74
      simp; refine hc _ ?_; clear hc kc
      refine T_op rfl rfl fun kc hc => ?_  -- 76 := call len (t75) [24]
      simp; refine hc _ ?_; clear hc kc
      refine T_op rfl rfl fun kc hc => ?_  -- 77 := binOp 3 t73 < t76
      simp; refine hc _ ?_; clear hc kc
      refine T_end (hn _ ?_); clear hn hp kn kp
      refine T_then ?_
      refine T_cond rfl (fun b4 => ?_) (fun b4 => ?_)  -- t77
      · skip
        have hz' : u < c.progs.length := by simpa using b4
        obtain ⟨p, hxp⟩ : ∃ x, c.progs[u]? = some x := ⟨_, List.getElem?_eq_getElem hz'⟩
        have eu : IntKind.i64.wrap ((u : Int) + 1) = (u : Int) + 1 := wr1 hz' (by omega)
        have hul := hz'
        have hpr := (hf.reqs p (List.mem_of_getElem? hxp)).1
        clear hz'
        refine T_skip ?_
        refine T_then ?_
        refine T_seq ?_
        refine T_block ?_  -- block 3
        refine T_seq ?_
        refine T_seq ?_
        -- region 11
        refine T_region (is := [0, 1, 2, 3, 4, 5, 6, 7]) rfl fun kn kp hn hp => ?_
        refine T_op rfl rfl fun kc hc => ?_  -- 80 := fieldAddr 29 t1 2
        simp; refine hc _ ?_; clear hc kc
        refine T_op rfl rfl fun kc hc => ?_  -- 81 := load 24 t80
        simp; refine hc _ ?_; clear hc kc
        refine T_op rfl rfl fun kc hc => ?_  -- 82 := move t4
        simp; refine hc _ ?_; clear hc kc
        refine T_op rfl rfl fun kc hc => ?_  -- 83 := indexAddr 24 t81 t82
        simp [hxp]; refine hc _ ?_; clear hc kc
        refine T_op rfl rfl fun kc hc => ?_  -- 84 := fieldAddr 62 t83 5
        simp; refine hc _ ?_; clear hc kc
        refine T_op rfl rfl fun kc hc => ?_  -- 85 := load 60 t84
        simp; refine hc _ ?_; clear hc kc
        refine T_op rfl rfl fun kc hc => ?_  -- 86 := call len (t85) [60]
        simp; refine hc _ ?_; clear hc kc
        refine T_op rfl rfl fun kc hc => ?_  -- 87 := binOp 3 t86 > 5
        simp; refine hc _ ?_; clear hc kc
        refine T_end (hn _ ?_); clear hn hp kn kp
        refine T_then ?_
        refine T_cond rfl (fun b5 => ?_) (fun b5 => ?_)  -- t87
        · skip
          have hbp : bigP p = true := by simp at b5; simp [bigP]; left; omega
          have hres : fewB c = false := by simp [fewB, any_yes hxp hbp]
          refine T_seq ?_
          -- region 12
          refine T_region (is := [0]) rfl fun kn kp hn hp => ?_
          refine T_op rfl rfl fun kc hc => ?_  -- 2 := assign false
          simp; refine hc _ ?_; clear hc kc
          refine T_end (hn _ ?_); clear hn hp kn kp
          refine T_then ?_
          refine T_ret ?_
          refine X_thenR ?_
          refine X_blockR ?_
          refine X_thenR ?_
          refine X_loopR ?_
          refine X_blockR ?_
          refine X_thenR ?_
          exact finI (Ent.refl _) (by simp [resD, resL, resV]; rfl) (Ent.sub [] [] (by simp [sub, subSl, subHp, place, mp, mpL, mpO, mpG]; rfl)) rfl rfl (by simp [hres])
        · skip
          have hb5 : decide (5 < p.reqs.length) = false := by simp at b5 ⊢; omega
          refine T_skip ?_
          refine T_then ?_
          refine T_seq ?_
          -- region 13
          refine T_region (is := [0]) rfl fun kn kp hn hp => ?_
          refine T_op rfl rfl fun kc hc => ?_  -- 5 := assign 0
          simp; refine hc _ ?_; clear hc kc
          refine T_end (hn _ ?_); clear hn hp kn kp
          refine T_then ?_
          refine T_block ?_  -- block 4
          refine T_loop (fun v : Nat => { sl := [(1, .ptr 0 0), (4, .dat (iD u)), (5, .dat (iD v))], hp := [(0, .var ((catD c).map .dat))], nx := 1 }) (fun v => v ≤ p.reqs.length ∧ (p.reqs.take v).any bigQ = false) (fun v => p.reqs.length - v) 0 (Ent.sub [1, 4, 5] [0] (by simp [sub, subSl, subHp, place, mp, mpL, mpO, mpG])) ⟨Nat.zero_le _, rfl⟩ fun v hv => ?_  -- loop 2
          obtain ⟨hv, hva⟩ := hv
          refine T_seq ?_
          refine T_seq ?_
          -- region 14
          refine T_region (is := [0, 1, 2, 3, 4, 5, 6, 7, 8]) rfl fun kn kp hn hp => ?_
          refine T_op rfl rfl fun kc hc => ?_  -- 88 := move t5
          simp; refine hc _ ?_; clear hc kc
          refine T_op rfl rfl fun kc hc => ?_  -- 89 := fieldAddr 29 t1 2
          simp; refine hc _ ?_; clear hc kc
          refine T_op rfl rfl fun kc hc => ?_  -- 90 := load 24 t89
          simp; refine hc _ ?_; clear hc kc
          refine T_op rfl rfl fun kc hc => ?_  -- 91 := move t4
          simp; refine hc _ ?_; clear hc kc
          refine T_op rfl rfl fun kc hc => ?_  -- 92 := indexAddr 24 t90 t91
          simp [hxp]; refine hc _ ?_; clear hc kc
          refine T_op rfl rfl fun kc hc => ?_  -- 93 := fieldAddr 62 t92 5
          simp; refine hc _ ?_; clear hc kc
          refine T_op rfl rfl fun kc hc => ?_  -- 94 := load 60 t93
          simp; refine hc _ ?_; clear hc kc
          refine T_op rfl rfl fun kc hc => ?_  -- 95 := call len (t94) [60]
          simp; refine hc _ ?_; clear hc kc
          refine T_op rfl rfl fun kc hc => ?_  -- 96 := binOp 3 t88 < t95
          simp; refine hc _ ?_; clear hc kc
          refine T_end (hn _ ?_); clear hn hp kn kp
          refine T_then ?_
          refine T_cond rfl (fun b6 => ?_) (fun b6 => ?_)  -- t96
          · skip
            have hz' : v < p.reqs.length := by simpa using b6
            obtain ⟨q, hxq⟩ : ∃ x, p.reqs[v]? = some x := ⟨_, List.getElem?_eq_getElem hz'⟩
            have ev : IntKind.i64.wrap ((v : Int) + 1) = (v : Int) + 1 := wr1 hz' (by omega)
            refine T_skip ?_
            refine T_then ?_
            refine T_seq ?_
            refine T_block ?_  -- block 5
            refine T_seq ?_
            -- region 16
            refine T_region (is := [0, 1, 2, 3, 4, 5, 6, 7, 8, 9, 10, 11, 12, 13, 14, 15, 16, 17, 18, 19, 20, 21, 22, 23, 24, 25]) rfl fun kn kp hn hp => ?_
            refine T_op rfl rfl fun kc hc => ?_  -- 99 := fieldAddr 29 t1 2
            simp; refine hc _ ?_; clear hc kc
            refine T_op rfl rfl fun kc hc => ?_  -- 100 := load 24 t99
            simp; refine hc _ ?_; clear hc kc
            refine T_op rfl rfl fun kc hc => ?_  -- 101 := move t4
            simp; refine hc _ ?_; clear hc kc
            refine T_op rfl rfl fun kc hc => ?_  -- 102 := indexAddr 24 t100 t101
            simp [hxp]; refine hc _ ?_; clear hc kc
            refine T_op rfl rfl fun kc hc => ?_  -- 103 := fieldAddr 62 t102 5
            simp; refine hc _ ?_; clear hc kc
            refine T_op rfl rfl fun kc hc => ?_  -- 104 := load 60 t103
            simp; refine hc _ ?_; clear hc kc
            refine T_op rfl rfl fun kc hc => ?_  -- 105 := move t5
            simp; refine hc _ ?_; clear hc kc
            refine T_op rfl rfl fun kc hc => ?_  -- 106 := indexAddr 60 t104 t105
            simp [hxq]; refine hc _ ?_; clear hc kc
            refine T_op rfl rfl fun kc hc => ?_  -- 107 := fieldAddr 64 t106 4
            simp; refine hc _ ?_; clear hc kc
            refine T_op rfl rfl fun kc hc => ?_  -- 108 := load 36 t107
            simp; refine hc _ ?_; clear hc kc
            refine T_op rfl rfl fun kc hc => ?_  -- 109 := call len (t108) [36]
            simp; refine hc _ ?_; clear hc kc
            refine T_op rfl rfl fun kc hc => ?_  -- 110 := binOp 3 t109 > 8
            simp; refine hc _ ?_; clear hc kc
            refine T_op rfl rfl fun kc hc => ?_  -- 111 := move t110
            simp; refine hc _ ?_; clear hc kc
            refine T_pure rfl (pstep_one rfl rfl rfl rfl fun g0 => .op rfl (by simp [g0]; rfl)) fun kc hc => ?_  -- 112 := fieldAddr 29 t1 2
            simp; refine hc _ ?_; clear hc kc
            refine T_pure rfl (pstep_one rfl rfl rfl rfl fun g0 => .op rfl (by simp [g0]; rfl)) fun kc hc => ?_  -- 113 := load 24 t112
            simp; refine hc _ ?_; clear hc kc
            refine T_pure rfl (pstep_one rfl rfl rfl rfl fun g0 => .op rfl (by simp [g0]; rfl)) fun kc hc => ?_  -- 114 := move t4
            simp; refine hc _ ?_; clear hc kc
            refine T_pure rfl (pstep_one rfl rfl rfl rfl fun g0 => .op rfl (by simp [g0, hxp]; rfl)) fun kc hc => ?_  -- 115 := indexAddr 24 t113 t114
            simp; refine hc _ ?_; clear hc kc
            refine T_pure rfl (pstep_one rfl rfl rfl rfl fun g0 => .op rfl (by simp [g0]; rfl)) fun kc hc => ?_  -- 116 := fieldAddr 62 t115 5
            simp; refine hc _ ?_; clear hc kc
            refine T_pure rfl (pstep_one rfl rfl rfl rfl fun g0 => .op rfl (by simp [g0]; rfl)) fun kc hc => ?_  -- 117 := load 60 t116
            simp; refine hc _ ?_; clear hc kc
            refine T_pure rfl (pstep_one rfl rfl rfl rfl fun g0 => .op rfl (by simp [g0]; rfl)) fun kc hc => ?_  -- 118 := move t5
            simp; refine hc _ ?_; clear hc kc
            refine T_pure rfl (pstep_one rfl rfl rfl rfl fun g0 => .op rfl (by simp [g0, hxq]; rfl)) fun kc hc => ?_  -- 119 := indexAddr 60 t117 t118
            simp; refine hc _ ?_; clear hc kc
            refine T_pure rfl (pstep_one rfl rfl rfl rfl fun g0 => .op rfl (by simp [g0]; rfl)) fun kc hc => ?_  -- 120 := fieldAddr 64 t119 5
            simp; refine hc _ ?_; clear hc kc
            refine T_pure rfl (pstep_one rfl rfl rfl rfl fun g0 => .op rfl (by simp [g0]; rfl)) fun kc hc => ?_  -- 121 := load 45 t120
            simp; refine hc _ ?_; clear hc kc
            refine T_pure rfl (pstep_one rfl rfl rfl rfl fun g0 => .op rfl (by simp [g0]; rfl)) fun kc hc => ?_  -- 122 := call len (t121) [45]
            simp; refine hc _ ?_; clear hc kc
            refine T_pure rfl (pstep_one rfl rfl rfl rfl fun g0 => .op rfl (by simp [g0]; rfl)) fun kc hc => ?_  -- 123 := binOp 3 t122 > 8
            simp; refine hc _ ?_; clear hc kc
            refine T_op rfl rfl fun kc hc => ?_  -- 124 := pick t111 true t123
            simp; refine hc _ ?_; clear hc kc
            refine T_end (hn _ ?_); clear hn hp kn kp
            refine T_then ?_
            refine T_cond rfl (fun b7 => ?_) (fun b7 => ?_)  -- t124
            · skip
              have hbq : bigQ q = true := by simp at b7; simp [bigQ]; omega
              have hres : fewB c = false := by simp [fewB, any_yes hxp (show bigP p = true by simp only [bigP, any_yes hxq hbq, Bool.or_true])]
              refine T_seq ?_
              -- region 17
              refine T_region (is := [0]) rfl fun kn kp hn hp => ?_
              refine T_op rfl rfl fun kc hc => ?_  -- 2 := assign false
              simp; refine hc _ ?_; clear hc kc
              refine T_end (hn _ ?_); clear hn hp kn kp
              refine T_then ?_
              refine T_ret ?_
              refine X_blockR ?_
              refine X_thenR ?_
              refine X_loopR ?_
              refine X_blockR ?_
              refine X_blockR ?_
              refine X_thenR ?_
              refine X_loopR ?_
              refine X_blockR ?_
              refine X_thenR ?_
              exact finI (Ent.refl _) (by simp [resD, resL, resV]; rfl) (Ent.sub [] [] (by simp [sub, subSl, subHp, place, mp, mpL, mpO, mpG]; rfl)) rfl rfl (by simp [hres])
            · skip
              have hbq : bigQ q = false := by simp at b7; simp [bigQ]; omega
              refine T_skip ?_
              refine X_blockN ?_
              refine T_then ?_
              -- region 15
              refine T_region (is := [0, 1, 2]) rfl fun kn kp hn hp => ?_
              refine T_op rfl rfl fun kc hc => ?_  -- 97 := move t5
              simp; refine hc _ ?_; clear hc kc
              refine T_op rfl rfl fun kc hc => ?_  -- 98 := binOp 3 t97 + 1
              simp [ev]; refine hc _ ?_; clear hc kc
              refine T_op rfl rfl fun kc hc => ?_  -- 5 := assign t98
              simp; refine hc _ ?_; clear hc kc
              refine T_end (hn _ ?_); clear hn hp kn kp
              exact X_loopN (v + 1) (Ent.sub [1, 4, 5] [0] (by simp [sub, subSl, subHp, place, mp, mpL, mpO, mpG, ev])) ⟨hz', by rw [any_next hxq, hva, hbq]; rfl⟩ (by omega)
          · skip
            have hz' : v = p.reqs.length := by simp at b6; omega
            have hqa : p.reqs.any bigQ = false := by rw [hz', List.take_length] at hva; exact hva
            have hbp : bigP p = false := by simp only [bigP, hb5, hqa]; rfl
            refine T_exit ?_
            refine X_thenE ?_
            refine X_loopE ?_
            refine X_hit ?_
            refine X_blockN ?_
            refine T_then ?_
            -- region 10
            refine T_region (is := [0, 1, 2]) rfl fun kn kp hn hp => ?_
            refine T_op rfl rfl fun kc hc => ?_  -- 78 := move t4
            simp; refine hc _ ?_; clear hc kc
            refine T_op rfl rfl fun kc hc => ?_  -- 79 := binOp 3 t78 + 1
            simp [eu]; refine hc _ ?_; clear hc kc
            refine T_op rfl rfl fun kc hc => ?_  -- 4 := assign t79
            simp; refine hc _ ?_; clear hc kc
            refine T_end (hn _ ?_); clear hn hp kn kp
            exact X_loopN (u + 1) (Ent.sub [1, 4] [0] (by simp [sub, subSl, subHp, place, mp, mpL, mpO, mpG, eu])) ⟨hul, by rw [any_next hxp, hua, hbp]; rfl⟩ (by omega)
      · skip
        have hz' : u = c.progs.length := by simp at b4; omega
        have hpa : c.progs.any bigP = false := by rw [hz', List.take_length] at hua; exact hua
        have hres : fewB c = true := by simp only [fewB, hl, hca, hpa]; rfl
        refine T_exit ?_
        refine X_thenE ?_
        refine X_loopE ?_
        refine X_hit ?_
        refine T_then ?_
        refine T_seq ?_
        -- region 18
        refine T_region (is := [0]) rfl fun kn kp hn hp => ?_
        refine T_op rfl rfl fun kc hc => ?_  -- 2 := assign true
        simp; refine hc _ ?_; clear hc kc
        refine T_end (hn _ ?_); clear hn hp kn kp
        refine T_then ?_
        refine T_ret ?_
        exact finI (Ent.refl _) (by simp [resD, resL, resV]; rfl) (Ent.sub [] [] (by simp [sub, subSl, subHp, place, mp, mpL, mpO, mpG]; rfl)) rfl rfl (by simp [hres])
-- END
-- WALK 22 19 23
-- sizar/sizarref11.Twice
theorem walk22 (c : Cat) (hf : c.fit) : Does Try.prog 22 [.agg (catD c)] (.dat (bV (twiceC c))) [] := by
  have h1 := hf.courses
  have h2 := hf.progs
  have h3 := hf.classes
  have h4 := hf.fees
  have h5 := hf.honours
  have hb1 : c.courses.length ≤ big := by simp only [big]; omega
  have hb2 : c.progs.length ≤ big := by simp only [big]; omega
  have hb4 : c.fees.length ≤ big := by simp only [big]; omega
  refine Does.intro [.tmp 2] Try.func22 rfl (by kernel_rfl) Try.ntmps22 rfl (Nat.le_of_ble_eq_true rfl) ?_
  refine T_seq ?_
  -- region 0
  refine T_region (is := [0, 1]) rfl fun kn kp hn hp => ?_
  refine T_op rfl rfl fun kc hc => ?_  -- 1 := box 29 t0
  simp; refine hc _ ?_; clear hc kc
  refine T_op rfl rfl fun kc hc => ?_  -- 2 := assign false
  simp; refine hc _ ?_; clear hc kc
  refine T_end (hn _ ?_); clear hn hp kn kp
  refine T_then ?_
  refine T_seq ?_
  -- region 1
  refine T_region (is := [0, 1]) rfl fun kn kp hn hp => ?_
  refine T_op rfl rfl fun kc hc => ?_  -- 11 := buildSlice 36 0 []
  simp; refine hc _ ?_; clear hc kc
  refine T_op rfl rfl fun kc hc => ?_  -- 3 := assign t11
  simp; refine hc _ ?_; clear hc kc
  refine T_end (hn _ ?_); clear hn hp kn kp
  refine T_then ?_
  refine T_seq ?_
  -- region 2
  refine T_region (is := [0, 1]) rfl fun kn kp hn hp => ?_
  refine T_op rfl rfl fun kc hc => ?_  -- 12 := buildSlice 45 0 []
  simp; refine hc _ ?_; clear hc kc
  refine T_op rfl rfl fun kc hc => ?_  -- 4 := assign t12
  simp; refine hc _ ?_; clear hc kc
  refine T_end (hn _ ?_); clear hn hp kn kp
  refine T_then ?_
  refine T_seq ?_
  refine T_seq ?_
  -- region 3
  refine T_region (is := [0]) rfl fun kn kp hn hp => ?_
  refine T_op rfl rfl fun kc hc => ?_  -- 5 := assign 0
  simp; refine hc _ ?_; clear hc kc
  refine T_end (hn _ ?_); clear hn hp kn kp
  refine T_then ?_
  refine T_block ?_  -- block 0
  refine T_loop (fun z : Nat => { sl := [(1, .ptr 0 0), (3, .own 1 1 z), (4, .own 2 1 z), (5, .dat (iD z))], hp := [(0, .var ((catD c).map .dat)), (1, .row 9 1 ((c.courses.take z).map fun y => [sD y.name])), (2, .row 3 1 ((c.courses.take z).map fun y => [iD y.number]))], nx := 3 }) (fun z => z ≤ c.courses.length) (fun z => c.courses.length - z) 0 (Ent.sub [1, 3, 4, 5] [0, 1, 2] (by simp [sub, subSl, subHp, place, mp, mpL, mpO, mpG])) (Nat.zero_le _) fun z hz => ?_  -- loop 0
  refine T_seq ?_
  refine T_seq ?_
  -- region 4
  refine T_region (is := [0, 1, 2, 3, 4]) rfl fun kn kp hn hp => ?_
  refine T_op rfl rfl fun kc hc => ?_  -- 13 := move t5
  simp; refine hc _ ?_; clear hc kc
  refine T_op rfl rfl fun kc hc => ?_  -- 14 := fieldAddr 29 t1 0
  simp; refine hc _ ?_; clear hc kc
  refine T_op rfl rfl fun kc hc => ?_  -- 15 := load 22 t14
  simp; refine hc _ ?_; clear hc kc
  refine T_op rfl rfl fun kc hc => ?_  -- 16 := call len (t15) [22]
  simp; refine hc _ ?_; clear hc kc
  refine T_op rfl rfl fun kc hc => ?_  -- 17 := binOp 3 t13 < t16
  simp; refine hc _ ?_; clear hc kc
  refine T_end (hn _ ?_); clear hn hp kn kp
  refine T_then ?_
  refine T_cond rfl (fun b1 => ?_) (fun b1 => ?_)  -- t17
  · skip
    have hz' : z < c.courses.length := by simpa using b1
    obtain ⟨y, hxy⟩ : ∃ x, c.courses[z]? = some x := ⟨_, List.getElem?_eq_getElem hz'⟩
    have ez : IntKind.i64.wrap ((z : Int) + 1) = (z : Int) + 1 := wr1 hz' (by omega)
    have hml := Nat.min_eq_left hz
    have e7 : (z + 1) * 16 ≤ big := by simp only [big]; omega
    have e8 : (z + 1) * 8 ≤ big := by simp only [big]; omega
    refine T_skip ?_
    refine T_then ?_
    refine T_seq ?_
    refine T_block ?_  -- block 1
    refine T_seq ?_
    -- region 6
    refine T_region (is := [0, 1, 2, 3, 4, 5, 6, 7, 8, 9]) rfl fun kn kp hn hp => ?_
    refine T_op rfl rfl fun kc hc => ?_  -- 20 := move t3
    simp; refine hc _ ?_; clear hc kc
    refine T_op rfl rfl fun kc hc => ?_  -- 21 := fieldAddr 29 t1 0
    simp; refine hc _ ?_; clear hc kc
    refine T_op rfl rfl fun kc hc => ?_  -- 22 := load 22 t21
    simp; refine hc _ ?_; clear hc kc
    refine T_op rfl rfl fun kc hc => ?_  -- 23 := move t5
    simp; refine hc _ ?_; clear hc kc
    refine T_op rfl rfl fun kc hc => ?_  -- 24 := indexAddr 22 t22 t23
    simp [hxy]; refine hc _ ?_; clear hc kc
    refine T_op rfl rfl fun kc hc => ?_  -- 25 := fieldAddr 41 t24 0
    simp; refine hc _ ?_; clear hc kc
    refine T_op rfl rfl fun kc hc => ?_  -- 26 := load 9 t25
    simp; refine hc _ ?_; clear hc kc
    refine T_op rfl rfl fun kc hc => ?_  -- 27 := buildSlice 36 1 [(0, t26)]
    simp; refine hc _ ?_; clear hc kc
    refine T_op rfl rfl fun kc hc => ?_  -- 28 := call append (t20 t27) [36, 36]
    simp [e7, hml]; refine hc _ ?_; clear hc kc
    refine T_op rfl rfl fun kc hc => ?_  -- 3 := assign t28
    simp; refine hc _ ?_; clear hc kc
    refine T_end (hn _ ?_); clear hn hp kn kp
    refine T_then ?_
    -- region 7
    refine T_region (is := [0, 1, 2, 3, 4, 5, 6, 7, 8, 9]) rfl fun kn kp hn hp => ?_
    refine T_op rfl rfl fun kc hc => ?_  -- 29 := move t4
    simp; refine hc _ ?_; clear hc kc
    refine T_op rfl rfl fun kc hc => ?_  -- 30 := fieldAddr 29 t1 0
    simp; refine hc _ ?_; clear hc kc
    refine T_op rfl rfl fun kc hc => ?_  -- 31 := load 22 t30
    simp; refine hc _ ?_; clear hc kc
    refine T_op rfl rfl fun kc hc => ?_  -- 32 := move t5
    simp; refine hc _ ?_; clear hc kc
    refine T_op rfl rfl fun kc hc => ?_  -- 33 := indexAddr 22 t31 t32
    simp [hxy]; refine hc _ ?_; clear hc kc
    refine T_op rfl rfl fun kc hc => ?_  -- 34 := fieldAddr 41 t33 1
    simp; refine hc _ ?_; clear hc kc
    refine T_op rfl rfl fun kc hc => ?_  -- 35 := load 3 t34
    simp; refine hc _ ?_; clear hc kc
    refine T_op rfl rfl fun kc hc => ?_  -- 36 := buildSlice 45 1 [(0, t35)]
    simp; refine hc _ ?_; clear hc kc
    refine T_op rfl rfl fun kc hc => ?_  -- 37 := call append (t29 t36) [45, 45]
    simp [e8, hml]; refine hc _ ?_; clear hc kc
    refine T_op rfl rfl fun kc hc => ?_  -- 4 := assign t37
    simp; refine hc _ ?_; clear hc kc
    refine T_end (hn _ ?_); clear hn hp kn kp
    refine X_blockN ?_
    refine T_then ?_
    -- region 5
    refine T_region (is := [0, 1, 2]) rfl fun kn kp hn hp => ?_
    refine T_op rfl rfl fun kc hc => ?_  -- 18 := move t5
    simp; refine hc _ ?_; clear hc kc
    refine T_op rfl rfl fun kc hc => ?_  -- 19 := binOp 3 t18 + 1
    simp [ez]; refine hc _ ?_; clear hc kc
    refine T_op rfl rfl fun kc hc => ?_  -- 5 := assign t19
    simp; refine hc _ ?_; clear hc kc
    refine T_end (hn _ ?_); clear hn hp kn kp
    exact X_loopN (z + 1) (Ent.sub [1, 3, 4, 5] [0, 4, 6] (by simp [sub, subSl, subHp, place, mp, mpL, mpO, mpG, ez, take_next hxy])) hz' (by omega)
  · skip
    have hz' : z = c.courses.length := by simp at b1; omega
    subst hz'
    refine T_exit ?_
    refine X_thenE ?_
    refine X_loopE ?_
    refine X_hit ?_
    refine T_then ?_
    refine T_seq ?_
    refine T_seq ?_
    -- region 8
    refine T_region (is := [0, 1, 2, 3, 4, 5]) rfl fun kn kp hn hp => ?_
    refine T_op rfl rfl fun kc hc => ?_  -- 38 := move t3
    simp; refine hc _ ?_; clear hc kc
    refine T_op rfl rfl fun kc hc => ?_  -- 39 := call value F75 (t38) [36]
    simp
    refine CallS.lend (walk75 (c.courses.map (·.name)) (by simp; omega)) (by simp [lendL, lend, Sx.give, giveL, hb1]) rfl rfl ?_
    simp [enum]; refine hc _ ?_; clear hc kc
    refine T_op rfl rfl fun kc hc => ?_  -- 40 := move t39
    simp; refine hc _ ?_; clear hc kc
    refine T_pure rfl (pstep_one rfl rfl rfl rfl fun g0 => .op rfl (by simp [g0]; rfl)) fun kc hc => ?_  -- 41 := move t4
    simp; refine hc _ ?_; clear hc kc
    refine T_pure rfl (pstep_one rfl rfl rfl rfl fun g0 => .lend (by simp [g0] <;> first | exact ⟨rfl, rfl⟩ | rfl) (by exact walk76 (c.courses.map (·.number)) (by simp; omega)) (by simp [lendL, lend, Sx.give, giveL, hb1]) (by rfl)) fun kc hc => ?_  -- 42 := call value F76 (t41) [45]
    simp; refine hc _ ?_; clear hc kc
    refine T_op rfl rfl fun kc hc => ?_  -- 43 := pick t40 true t42
    simp; refine hc _ ?_; clear hc kc
    refine T_end (hn _ ?_); clear hn hp kn kp
    refine T_then ?_
    refine T_cond rfl (fun b2 => ?_) (fun b2 => ?_)  -- t43
    · skip
      have hA : (twiceB (c.courses.map (·.name)) || twiceB (c.courses.map (·.number))) = true := by simpa using b2
      refine T_seq ?_
      -- region 9
      refine T_region (is := [0]) rfl fun kn kp hn hp => ?_
      refine T_op rfl rfl fun kc hc => ?_  -- 2 := assign true
      simp; refine hc _ ?_; clear hc kc
      refine T_end (hn _ ?_); clear hn hp kn kp
      refine T_then ?_
      refine T_ret ?_
      refine X_thenR ?_
      exact finI (Ent.refl _) (by simp [resD, resL, resV]; rfl) (Ent.sub [] [] (by simp [sub, subSl, subHp, place, mp, mpL, mpO, mpG]; rfl)) rfl rfl (by simp [twiceC, hA])
    · skip
      have hA : (twiceB (c.courses.map (·.name)) || twiceB (c.courses.map (·.number))) = false := by simpa using b2
      refine T_skip ?_
      refine T_then ?_
      refine T_seq ?_
      -- region 10
      refine T_region (is := [0, 1]) rfl fun kn kp hn hp => ?_
      refine T_op rfl rfl fun kc hc => ?_  -- 44 := buildSlice 36 0 []
      simp; refine hc _ ?_; clear hc kc
      refine T_op rfl rfl fun kc hc => ?_  -- 3 := assign t44
      simp; refine hc _ ?_; clear hc kc
      refine T_end (hn _ ?_); clear hn hp kn kp
      refine T_then ?_
      refine T_seq ?_
      -- region 11
      refine T_region (is := [0, 1]) rfl fun kn kp hn hp => ?_
      refine T_op rfl rfl fun kc hc => ?_  -- 45 := buildSlice 45 0 []
      simp; refine hc _ ?_; clear hc kc
      refine T_op rfl rfl fun kc hc => ?_  -- 4 := assign t45
      simp; refine hc _ ?_; clear hc kc
      refine T_end (hn _ ?_); clear hn hp kn kp
      refine T_then ?_
      refine T_seq ?_
      refine T_seq ?_
      -- region 12
      refine T_region (is := [0]) rfl fun kn kp hn hp => ?_
      refine T_op rfl rfl fun kc hc => ?_  -- 6 := assign 0
      simp; refine hc _ ?_; clear hc kc
      refine T_end (hn _ ?_); clear hn hp kn kp
      refine T_then ?_
      refine T_block ?_  -- block 2
      refine T_loop (fun u : Nat => { sl := [(1, .ptr 0 0), (3, .own 1 1 u), (4, .own 2 1 u), (6, .dat (iD u))], hp := [(0, .var ((catD c).map .dat)), (1, .row 9 1 ((c.progs.take u).map fun y => [sD y.name])), (2, .row 3 1 ((c.progs.take u).map fun y => [iD y.number]))], nx := 3 }) (fun u => u ≤ c.progs.length ∧ (c.progs.take u).any twiceP = false) (fun u => c.progs.length - u) 0 (Ent.sub [1, 3, 4, 6] [0, 3, 4] (by simp [sub, subSl, subHp, place, mp, mpL, mpO, mpG])) ⟨Nat.zero_le _, rfl⟩ fun u hu => ?_  -- loop 1
      obtain ⟨hu, hua⟩ := hu
      refine T_seq ?_
      refine T_seq ?_
      -- region 13
      refine T_region (is := [0, 1, 2, 3, 4]) rfl fun kn kp hn hp => ?_
      refine T_op rfl rfl fun kc hc => ?_  -- 46 := move t6
      simp; refine hc _ ?_; clear hc kc
      refine T_op rfl rfl fun kc hc => ?_  -- 47 := fieldAddr 29 t1 2
      simp; refine hc _ ?_; clear hc kc
      refine T_op rfl rfl fun kc hc => ?_  -- 48 := load 24 t47
      simp; refine hc _ ?_; clear hc kc
      refine T_op rfl rfl fun kc hc => ?_  -- 49 := call len (t48) [24]
      simp; refine hc _ ?_; clear hc kc
      refine T_op rfl rfl fun kc hc => ?_  -- 50 := binOp 3 t46 < t49
      simp; refine hc _ ?_; clear hc kc
      refine T_end (hn _ ?_); clear hn hp kn kp
      refine T_then ?_
      refine T_cond rfl (fun b3 => ?_) (fun b3 => ?_)  -- t50
      · skip
        have hz' : u < c.progs.length := by simpa using b3
        obtain ⟨p, hxp⟩ : ∃ x, c.progs[u]? = some x := ⟨_, List.getElem?_eq_getElem hz'⟩
        have eu : IntKind.i64.wrap ((u : Int) + 1) = (u : Int) + 1 := wr1 hz' (by omega)
        have hul := hz'
        have hpr := (hf.reqs p (List.mem_of_getElem? hxp)).1
        have hml := Nat.min_eq_left hu
        have e7 : (u + 1) * 16 ≤ big := by simp only [big]; omega
        have e8 : (u + 1) * 8 ≤ big := by simp only [big]; omega
        clear hz'
        refine T_skip ?_
        refine T_then ?_
        refine T_seq ?_
        refine T_block ?_  -- block 3
        refine T_seq ?_
        -- region 15
        refine T_region (is := [0, 1, 2, 3, 4, 5, 6, 7, 8, 9]) rfl fun kn kp hn hp => ?_
        refine T_op rfl rfl fun kc hc => ?_  -- 53 := move t3
        simp; refine hc _ ?_; clear hc kc
        refine T_op rfl rfl fun kc hc => ?_  -- 54 := fieldAddr 29 t1 2
        simp; refine hc _ ?_; clear hc kc
        refine T_op rfl rfl fun kc hc => ?_  -- 55 := load 24 t54
        simp; refine hc _ ?_; clear hc kc
        refine T_op rfl rfl fun kc hc => ?_  -- 56 := move t6
        simp; refine hc _ ?_; clear hc kc
        refine T_op rfl rfl fun kc hc => ?_  -- 57 := indexAddr 24 t55 t56
        simp [hxp]; refine hc _ ?_; clear hc kc
        refine T_op rfl rfl fun kc hc => ?_  -- 58 := fieldAddr 62 t57 0
        simp; refine hc _ ?_; clear hc kc
        refine T_op rfl rfl fun kc hc => ?_  -- 59 := load 9 t58
        simp; refine hc _ ?_; clear hc kc
        refine T_op rfl rfl fun kc hc => ?_  -- 60 := buildSlice 36 1 [(0, t59)]
        simp; refine hc _ ?_; clear hc kc
        refine T_op rfl rfl fun kc hc => ?_  -- 61 := call append (t53 t60) [36, 36]
        simp [e7, hml]; refine hc _ ?_; clear hc kc
        refine T_op rfl rfl fun kc hc => ?_  -- 3 := assign t61
        simp; refine hc _ ?_; clear hc kc
        refine T_end (hn _ ?_); clear hn hp kn kp
        refine T_then ?_
        refine T_seq ?_
        -- region 16
        refine T_region (is := [0, 1, 2, 3, 4, 5, 6, 7, 8, 9]) rfl fun kn kp hn hp => ?_
        refine T_op rfl rfl fun kc hc => ?_  -- 62 := move t4
        simp; refine hc _ ?_; clear hc kc
        refine T_op rfl rfl fun kc hc => ?_  -- 63 := fieldAddr 29 t1 2
        simp; refine hc _ ?_; clear hc kc
        refine T_op rfl rfl fun kc hc => ?_  -- 64 := load 24 t63
        simp; refine hc _ ?_; clear hc kc
        refine T_op rfl rfl fun kc hc => ?_  -- 65 := move t6
        simp; refine hc _ ?_; clear hc kc
        refine T_op rfl rfl fun kc hc => ?_  -- 66 := indexAddr 24 t64 t65
        simp [hxp]; refine hc _ ?_; clear hc kc
        refine T_op rfl rfl fun kc hc => ?_  -- 67 := fieldAddr 62 t66 1
        simp; refine hc _ ?_; clear hc kc
        refine T_op rfl rfl fun kc hc => ?_  -- 68 := load 3 t67
        simp; refine hc _ ?_; clear hc kc
        refine T_op rfl rfl fun kc hc => ?_  -- 69 := buildSlice 45 1 [(0, t68)]
        simp; refine hc _ ?_; clear hc kc
        refine T_op rfl rfl fun kc hc => ?_  -- 70 := call append (t62 t69) [45, 45]
        simp [e8, hml]; refine hc _ ?_; clear hc kc
        refine T_op rfl rfl fun kc hc => ?_  -- 4 := assign t70
        simp; refine hc _ ?_; clear hc kc
        refine T_end (hn _ ?_); clear hn hp kn kp
        refine T_then ?_
        refine T_seq ?_
        -- region 17
        refine T_region (is := [0, 1]) rfl fun kn kp hn hp => ?_
        refine T_op rfl rfl fun kc hc => ?_  -- 71 := buildSlice 36 0 []
        simp; refine hc _ ?_; clear hc kc
        refine T_op rfl rfl fun kc hc => ?_  -- 7 := assign t71
        simp; refine hc _ ?_; clear hc kc
        refine T_end (hn _ ?_); clear hn hp kn kp
        refine T_then ?_
        refine T_seq ?_
        refine T_seq ?_
        -- region 18
        refine T_region (is := [0]) rfl fun kn kp hn hp => ?_
        refine T_op rfl rfl fun kc hc => ?_  -- 8 := assign 0
        simp; refine hc _ ?_; clear hc kc
        refine T_end (hn _ ?_); clear hn hp kn kp
        refine T_then ?_
        refine T_block ?_  -- block 4
        refine T_loop (fun v : Nat => { sl := [(1, .ptr 0 0), (3, .own 1 1 (u + 1)), (4, .own 2 1 (u + 1)), (6, .dat (iD u)), (7, .own 3 1 v), (8, .dat (iD v))], hp := [(0, .var ((catD c).map .dat)), (1, .row 9 1 ((c.progs.take (u + 1)).map fun y => [sD y.name])), (2, .row 3 1 ((c.progs.take (u + 1)).map fun y => [iD y.number])), (3, .row 9 1 ((p.reqs.take v).map fun y => [sD y.name]))], nx := 4 }) (fun v => v ≤ p.reqs.length) (fun v => p.reqs.length - v) 0 (Ent.sub [1, 3, 4, 6, 7, 8] [0, 4, 6, 7] (by simp [sub, subSl, subHp, place, mp, mpL, mpO, mpG, take_next hxp])) (Nat.zero_le _) fun v hv => ?_  -- loop 2
        refine T_seq ?_
        refine T_seq ?_
        -- region 19
        refine T_region (is := [0, 1, 2, 3, 4, 5, 6, 7, 8]) rfl fun kn kp hn hp => ?_
        refine T_op rfl rfl fun kc hc => ?_  -- 72 := move t8
        simp; refine hc _ ?_; clear hc kc
        refine T_op rfl rfl fun kc hc => ?_  -- 73 := fieldAddr 29 t1 2
        simp; refine hc _ ?_; clear hc kc
        refine T_op rfl rfl fun kc hc => ?_  -- 74 := load 24 t73
        simp; refine hc _ ?_; clear hc kc
        refine T_op rfl rfl fun kc hc => ?_  -- 75 := move t6
        simp; refine hc _ ?_; clear hc kc
        refine T_op rfl rfl fun kc hc => ?_  -- 76 := indexAddr 24 t74 t75
        simp [hxp]; refine hc _ ?_; clear hc kc
        refine T_op rfl rfl fun kc hc => ?_  -- 77 := fieldAddr 62 t76 5
        simp; refine hc _ ?_; clear hc kc
        refine T_op rfl rfl fun kc hc => ?_  -- 78 := load 60 t77
        simp; refine hc _ ?_; clear hc kc
        refine T_op rfl rfl fun kc hc => ?_  -- 79 := call len (t78) [60]
        simp; refine hc _ ?_; clear hc kc
        refine T_op rfl rfl fun kc hc => ?_  -- 80 := binOp 3 t72 < t79
        simp; refine hc _ ?_; clear hc kc
        refine T_end (hn _ ?_); clear hn hp kn kp
        refine T_then ?_
        refine T_cond rfl (fun b4 => ?_) (fun b4 => ?_)  -- t80
        · skip
          have hz' : v < p.reqs.length := by simpa using b4
          obtain ⟨q, hxq⟩ : ∃ x, p.reqs[v]? = some x := ⟨_, List.getElem?_eq_getElem hz'⟩
          have ev : IntKind.i64.wrap ((v : Int) + 1) = (v : Int) + 1 := wr1 hz' (by omega)
          have hml := Nat.min_eq_left hv
          have e7 : (v + 1) * 16 ≤ big := by simp only [big]; omega
          refine T_skip ?_
          refine T_then ?_
          refine T_seq ?_
          refine T_block ?_  -- block 5
          -- region 21
          refine T_region (is := [0, 1, 2, 3, 4, 5, 6, 7, 8, 9, 10, 11, 12, 13]) rfl fun kn kp hn hp => ?_
          refine T_op rfl rfl fun kc hc => ?_  -- 83 := move t7
          simp; refine hc _ ?_; clear hc kc
          refine T_op rfl rfl fun kc hc => ?_  -- 84 := fieldAddr 29 t1 2
          simp; refine hc _ ?_; clear hc kc
          refine T_op rfl rfl fun kc hc => ?_  -- 85 := load 24 t84
          simp; refine hc _ ?_; clear hc kc
          refine T_op rfl rfl fun kc hc => ?_  -- 86 := move t6
          simp; refine hc _ ?_; clear hc kc
          refine T_op rfl rfl fun kc hc => ?_  -- 87 := indexAddr 24 t85 t86
          simp [hxp]; refine hc _ ?_; clear hc kc
          refine T_op rfl rfl fun kc hc => ?_  -- 88 := fieldAddr 62 t87 5
          simp; refine hc _ ?_; clear hc kc
          refine T_op rfl rfl fun kc hc => ?_  -- 89 := load 60 t88
          simp; refine hc _ ?_; clear hc kc
          refine T_op rfl rfl fun kc hc => ?_  -- 90 := move t8
          simp; refine hc _ ?_; clear hc kc
          refine T_op rfl rfl fun kc hc => ?_  -- 91 := indexAddr 60 t89 t90
          simp [hxq]; refine hc _ ?_; clear hc kc
          refine T_op rfl rfl fun kc hc => ?_  -- 92 := fieldAddr 64 t91 0
          simp; refine hc _ ?_; clear hc kc
          refine T_op rfl rfl fun kc hc => ?_  -- 93 := load 9 t92
          simp; refine hc _ ?_; clear hc kc
          refine T_op rfl rfl fun kc hc => ?_  -- 94 := buildSlice 36 1 [(0, t93)]
          simp; refine hc _ ?_; clear hc kc
          refine T_op rfl rfl fun kc hc => ?_  -- 95 := call append (t83 t94) [36, 36]
          simp [e7, hml]; refine hc _ ?_; clear hc kc
          refine T_op rfl rfl fun kc hc => ?_  -- 7 := assign t95
          simp; refine hc _ ?_; clear hc kc
          refine T_end (hn _ ?_); clear hn hp kn kp
          refine X_blockN ?_
          refine T_then ?_
          -- region 20
          refine T_region (is := [0, 1, 2]) rfl fun kn kp hn hp => ?_
          refine T_op rfl rfl fun kc hc => ?_  -- 81 := move t8
          simp; refine hc _ ?_; clear hc kc
          refine T_op rfl rfl fun kc hc => ?_  -- 82 := binOp 3 t81 + 1
          simp [ev]; refine hc _ ?_; clear hc kc
          refine T_op rfl rfl fun kc hc => ?_  -- 8 := assign t82
          simp; refine hc _ ?_; clear hc kc
          refine T_end (hn _ ?_); clear hn hp kn kp
          exact X_loopN (v + 1) (Ent.sub [1, 3, 4, 6, 7, 8] [0, 1, 2, 5] (by simp [sub, subSl, subHp, place, mp, mpL, mpO, mpG, ev, take_next hxq])) hz' (by omega)
        · skip
          have hz' : v = p.reqs.length := by simp at b4; omega
          subst hz'
          have hbq : p.reqs.length ≤ big := by simp only [big]; omega
          refine T_exit ?_
          refine X_thenE ?_
          refine X_loopE ?_
          refine X_hit ?_
          refine T_then ?_
          refine T_seq ?_
          -- region 22
          refine T_region (is := [0, 1]) rfl fun kn kp hn hp => ?_
          refine T_op rfl rfl fun kc hc => ?_  -- 96 := move t7
          simp; refine hc _ ?_; clear hc kc
          refine T_op rfl rfl fun kc hc => ?_  -- 97 := call value F75 (t96) [36]
          simp
          refine CallS.lend (walk75 (p.reqs.map (·.name)) (by simp; omega)) (by simp [lendL, lend, Sx.give, giveL, hbq]) rfl rfl ?_
          simp [enum]; refine hc _ ?_; clear hc kc
          refine T_end (hn _ ?_); clear hn hp kn kp
          refine T_then ?_
          refine T_cond rfl (fun b5 => ?_) (fun b5 => ?_)  -- t97
          · skip
            have htp : twiceP p = true := by simpa [twiceP] using b5
            have hP := any_yes hxp htp
            refine T_seq ?_
            -- region 23
            refine T_region (is := [0]) rfl fun kn kp hn hp => ?_
            refine T_op rfl rfl fun kc hc => ?_  -- 2 := assign true
            simp; refine hc _ ?_; clear hc kc
            refine T_end (hn _ ?_); clear hn hp kn kp
            refine T_then ?_
            refine T_ret ?_
            refine X_blockR ?_
            refine X_thenR ?_
            refine X_loopR ?_
            refine X_blockR ?_
            refine X_thenR ?_
            exact finI (Ent.refl _) (by simp [resD, resL, resV]; rfl) (Ent.sub [] [] (by simp [sub, subSl, subHp, place, mp, mpL, mpO, mpG]; rfl)) rfl rfl (by simp [twiceC, hA, hP])
          · skip
            have htp : twiceP p = false := by simpa [twiceP] using b5
            refine T_skip ?_
            refine X_blockN ?_
            refine T_then ?_
            -- region 14
            refine T_region (is := [0, 1, 2]) rfl fun kn kp hn hp => ?_
            refine T_op rfl rfl fun kc hc => ?_  -- 51 := move t6
            simp; refine hc _ ?_; clear hc kc
            refine T_op rfl rfl fun kc hc => ?_  -- 52 := binOp 3 t51 + 1
            simp [eu]; refine hc _ ?_; clear hc kc
            refine T_op rfl rfl fun kc hc => ?_  -- 6 := assign t52
            simp; refine hc _ ?_; clear hc kc
            refine T_end (hn _ ?_); clear hn hp kn kp
            exact X_loopN (u + 1) (Ent.sub [1, 3, 4, 6] [0, 1, 2] (by simp [sub, subSl, subHp, place, mp, mpL, mpO, mpG, eu])) ⟨hul, by rw [any_next hxp, hua, htp]; rfl⟩ (by omega)
      · skip
        have hz' : u = c.progs.length := by simp at b3; omega
        have hP : c.progs.any twiceP = false := by rw [hz', List.take_length] at hua; exact hua
        subst hz'
        refine T_exit ?_
        refine X_thenE ?_
        refine X_loopE ?_
        refine X_hit ?_
        refine T_then ?_
        refine T_seq ?_
        -- region 24
        refine T_region (is := [0, 1]) rfl fun kn kp hn hp => ?_
        refine T_op rfl rfl fun kc hc => ?_  -- 98 := buildSlice 36 0 []
        simp; refine hc _ ?_; clear hc kc
        refine T_op rfl rfl fun kc hc => ?_  -- 9 := assign t98
        simp; refine hc _ ?_; clear hc kc
        refine T_end (hn _ ?_); clear hn hp kn kp
        refine T_then ?_
        refine T_seq ?_
        refine T_seq ?_
        -- region 25
        refine T_region (is := [0]) rfl fun kn kp hn hp => ?_
        refine T_op rfl rfl fun kc hc => ?_  -- 10 := assign 0
        simp; refine hc _ ?_; clear hc kc
        refine T_end (hn _ ?_); clear hn hp kn kp
        refine T_then ?_
        refine T_block ?_  -- block 6
        refine T_loop (fun t : Nat => { sl := [(1, .ptr 0 0), (3, .own 1 1 c.progs.length), (4, .own 2 1 c.progs.length), (9, .own 3 1 t), (10, .dat (iD t))], hp := [(0, .var ((catD c).map .dat)), (1, .row 9 1 (c.progs.map fun y => [sD y.name])), (2, .row 3 1 (c.progs.map fun y => [iD y.number])), (3, .row 9 1 ((c.fees.take t).map fun y => [sD y.name]))], nx := 4 }) (fun t => t ≤ c.fees.length) (fun t => c.fees.length - t) 0 (Ent.sub [1, 3, 4, 9, 10] [0, 1, 2, 3] (by simp [sub, subSl, subHp, place, mp, mpL, mpO, mpG])) (Nat.zero_le _) fun t ht => ?_  -- loop 3
        refine T_seq ?_
        refine T_seq ?_
        -- region 26
        refine T_region (is := [0, 1, 2, 3, 4]) rfl fun kn kp hn hp => ?_
        refine T_op rfl rfl fun kc hc => ?_  -- 99 := move t10
        simp; refine hc _ ?_; clear hc kc
        refine T_op rfl rfl fun kc hc => ?_  -- 100 := fieldAddr 29 t1 4
        simp; refine hc _ ?_; clear hc kc
        refine T_op rfl rfl fun kc hc => ?_  -- 101 := load 26 t100
        simp; refine hc _ ?_; clear hc kc
        refine T_op rfl rfl fun kc hc => ?_  -- 102 := call len (t101) [26]
        simp; refine hc _ ?_; clear hc kc
        refine T_op rfl rfl fun kc hc => ?_  -- 103 := binOp 3 t99 < t102
        simp; refine hc _ ?_; clear hc kc
        refine T_end (hn _ ?_); clear hn hp kn kp
        refine T_then ?_
        refine T_cond rfl (fun b6 => ?_) (fun b6 => ?_)  -- t103
        · skip
          have hz' : t < c.fees.length := by simpa using b6
          obtain ⟨f, hxf⟩ : ∃ x, c.fees[t]? = some x := ⟨_, List.getElem?_eq_getElem hz'⟩
          have et : IntKind.i64.wrap ((t : Int) + 1) = (t : Int) + 1 := wr1 hz' (by omega)
          have hml := Nat.min_eq_left ht
          have e7 : (t + 1) * 16 ≤ big := by simp only [big]; omega
          refine T_skip ?_
          refine T_then ?_
          refine T_seq ?_
          refine T_block ?_  -- block 7
          -- region 28
          refine T_region (is := [0, 1, 2, 3, 4, 5, 6, 7, 8, 9]) rfl fun kn kp hn hp => ?_
          refine T_op rfl rfl fun kc hc => ?_  -- 106 := move t9
          simp; refine hc _ ?_; clear hc kc
          refine T_op rfl rfl fun kc hc => ?_  -- 107 := fieldAddr 29 t1 4
          simp; refine hc _ ?_; clear hc kc
          refine T_op rfl rfl fun kc hc => ?_  -- 108 := load 26 t107
          simp; refine hc _ ?_; clear hc kc
          refine T_op rfl rfl fun kc hc => ?_  -- 109 := move t10
          simp; refine hc _ ?_; clear hc kc
          refine T_op rfl rfl fun kc hc => ?_  -- 110 := indexAddr 26 t108 t109
          simp [hxf]; refine hc _ ?_; clear hc kc
          refine T_op rfl rfl fun kc hc => ?_  -- 111 := fieldAddr 84 t110 0
          simp; refine hc _ ?_; clear hc kc
          refine T_op rfl rfl fun kc hc => ?_  -- 112 := load 9 t111
          simp; refine hc _ ?_; clear hc kc
          refine T_op rfl rfl fun kc hc => ?_  -- 113 := buildSlice 36 1 [(0, t112)]
          simp; refine hc _ ?_; clear hc kc
          refine T_op rfl rfl fun kc hc => ?_  -- 114 := call append (t106 t113) [36, 36]
          simp [e7, hml]; refine hc _ ?_; clear hc kc
          refine T_op rfl rfl fun kc hc => ?_  -- 9 := assign t114
          simp; refine hc _ ?_; clear hc kc
          refine T_end (hn _ ?_); clear hn hp kn kp
          refine X_blockN ?_
          refine T_then ?_
          -- region 27
          refine T_region (is := [0, 1, 2]) rfl fun kn kp hn hp => ?_
          refine T_op rfl rfl fun kc hc => ?_  -- 104 := move t10
          simp; refine hc _ ?_; clear hc kc
          refine T_op rfl rfl fun kc hc => ?_  -- 105 := binOp 3 t104 + 1
          simp [et]; refine hc _ ?_; clear hc kc
          refine T_op rfl rfl fun kc hc => ?_  -- 10 := assign t105
          simp; refine hc _ ?_; clear hc kc
          refine T_end (hn _ ?_); clear hn hp kn kp
          exact X_loopN (t + 1) (Ent.sub [1, 3, 4, 9, 10] [0, 1, 2, 5] (by simp [sub, subSl, subHp, place, mp, mpL, mpO, mpG, et, take_next hxf])) hz' (by omega)
        · skip
          have hz' : t = c.fees.length := by simp at b6; omega
          subst hz'
          refine T_exit ?_
          refine X_thenE ?_
          refine X_loopE ?_
          refine X_hit ?_
          refine T_then ?_
          refine T_seq ?_
          -- region 29
          refine T_region (is := [0, 1, 2, 3, 4, 5, 6, 7, 8, 9, 10, 11, 12, 13, 14, 15, 16, 17, 18, 19, 20, 21, 22]) rfl fun kn kp hn hp => ?_
          refine T_op rfl rfl fun kc hc => ?_  -- 115 := move t3
          simp; refine hc _ ?_; clear hc kc
          refine T_op rfl rfl fun kc hc => ?_  -- 116 := call value F75 (t115) [36]
          simp
          refine CallS.lend (walk75 (c.progs.map (·.name)) (by simp; omega)) (by simp [lendL, lend, Sx.give, giveL, hb2]) rfl rfl ?_
          simp [enum]; refine hc _ ?_; clear hc kc
          refine T_op rfl rfl fun kc hc => ?_  -- 117 := move t116
          simp; refine hc _ ?_; clear hc kc
          refine T_pure rfl (pstep_one rfl rfl rfl rfl fun g0 => .op rfl (by simp [g0]; rfl)) fun kc hc => ?_  -- 118 := move t4
          simp; refine hc _ ?_; clear hc kc
          refine T_pure rfl (pstep_one rfl rfl rfl rfl fun g0 => .lend (by simp [g0] <;> first | exact ⟨rfl, rfl⟩ | rfl) (by exact walk76 (c.progs.map (·.number)) (by simp; omega)) (by simp [lendL, lend, Sx.give, giveL, hb2]) (by rfl)) fun kc hc => ?_  -- 119 := call value F76 (t118) [45]
          simp; refine hc _ ?_; clear hc kc
          refine T_op rfl rfl fun kc hc => ?_  -- 120 := pick t117 true t119
          simp; refine hc _ ?_; clear hc kc
          refine T_op rfl rfl fun kc hc => ?_  -- 121 := move t120
          simp; refine hc _ ?_; clear hc kc
          refine T_pure rfl (pstep_one rfl rfl rfl rfl fun g0 => .op rfl (by simp [g0]; rfl)) fun kc hc => ?_  -- 122 := fieldAddr 29 t1 3
          simp; refine hc _ ?_; clear hc kc
          refine T_pure rfl (pstep_one rfl rfl rfl rfl fun g0 => .op rfl (by simp [g0]; rfl)) fun kc hc => ?_  -- 123 := load 25 t122
          simp; refine hc _ ?_; clear hc kc
          refine T_pure rfl (pstep_one rfl rfl rfl rfl fun g0 => .dat (by simp [g0] <;> first | exact ⟨rfl, rfl⟩ | rfl) (by exact walk77 c.classes (by omega)) (by rfl)) fun kc hc => ?_  -- 124 := call value F77 (t123) [25]
          simp; refine hc _ ?_; clear hc kc
          refine T_pure rfl (pstep_one rfl rfl rfl rfl fun g0 => .dat (by simp [g0] <;> first | exact ⟨rfl, rfl⟩ | rfl) (by exact walk75 (c.classes.map (·.name)) (by simp; omega)) (by rfl)) fun kc hc => ?_  -- 125 := call value F75 (t124) [36]
          simp; refine hc _ ?_; clear hc kc
          refine T_op rfl rfl fun kc hc => ?_  -- 126 := pick t121 true t125
          simp; refine hc _ ?_; clear hc kc
          refine T_op rfl rfl fun kc hc => ?_  -- 127 := move t126
          simp; refine hc _ ?_; clear hc kc
          refine T_pure rfl (pstep_one rfl rfl rfl rfl fun g0 => .op rfl (by simp [g0]; rfl)) fun kc hc => ?_  -- 128 := move t9
          simp; refine hc _ ?_; clear hc kc
          refine T_pure rfl (pstep_one rfl rfl rfl rfl fun g0 => .lend (by simp [g0] <;> first | exact ⟨rfl, rfl⟩ | rfl) (by exact walk75 (c.fees.map (·.name)) (by simp; omega)) (by simp [lendL, lend, Sx.give, giveL, hb4]) (by rfl)) fun kc hc => ?_  -- 129 := call value F75 (t128) [36]
          simp; refine hc _ ?_; clear hc kc
          refine T_op rfl rfl fun kc hc => ?_  -- 130 := pick t127 true t129
          simp; refine hc _ ?_; clear hc kc
          refine T_op rfl rfl fun kc hc => ?_  -- 131 := move t130
          simp; refine hc _ ?_; clear hc kc
          refine T_pure rfl (pstep_one rfl rfl rfl rfl fun g0 => .op rfl (by simp [g0]; rfl)) fun kc hc => ?_  -- 132 := fieldAddr 29 t1 5
          simp; refine hc _ ?_; clear hc kc
          refine T_pure rfl (pstep_one rfl rfl rfl rfl fun g0 => .op rfl (by simp [g0]; rfl)) fun kc hc => ?_  -- 133 := load 25 t132
          simp; refine hc _ ?_; clear hc kc
          refine T_pure rfl (pstep_one rfl rfl rfl rfl fun g0 => .dat (by simp [g0] <;> first | exact ⟨rfl, rfl⟩ | rfl) (by exact walk77 c.honours (by omega)) (by rfl)) fun kc hc => ?_  -- 134 := call value F77 (t133) [25]
          simp; refine hc _ ?_; clear hc kc
          refine T_pure rfl (pstep_one rfl rfl rfl rfl fun g0 => .dat (by simp [g0] <;> first | exact ⟨rfl, rfl⟩ | rfl) (by exact walk75 (c.honours.map (·.name)) (by simp; omega)) (by rfl)) fun kc hc => ?_  -- 135 := call value F75 (t134) [36]
          simp; refine hc _ ?_; clear hc kc
          refine T_op rfl rfl fun kc hc => ?_  -- 136 := pick t131 true t135
          simp; refine hc _ ?_; clear hc kc
          refine T_op rfl rfl fun kc hc => ?_  -- 2 := assign t136
          simp; refine hc _ ?_; clear hc kc
          refine T_end (hn _ ?_); clear hn hp kn kp
          refine T_then ?_
          refine T_ret ?_
          exact finI (Ent.refl _) (by simp [resD, resL, resV]; rfl) (Ent.sub [] [] (by simp [sub, subSl, subHp, place, mp, mpL, mpO, mpG]; rfl)) rfl rfl (by simp [twiceC, hA, hP])
-- sizar/sizarref11.SameInts
theorem walk19 (l : List Int) (hl : l.length ≤ 9223372036854775807) : Does Try.prog 19 [ints l, ints l] (.dat (bV true)) [] := by
  refine Does.intro [.tmp 4] Try.func19 rfl (by kernel_rfl) Try.ntmps19 rfl (Nat.le_of_ble_eq_true rfl) ?_
  refine T_seq ?_
  -- region 0
  refine T_region (is := [0]) rfl fun kn kp hn hp => ?_
  refine T_op rfl rfl fun kc hc => ?_  -- 4 := assign false
  simp; refine hc _ ?_; clear hc kc
  refine T_end (hn _ ?_); clear hn hp kn kp
  refine T_then ?_
  refine T_seq ?_
  refine T_seq ?_
  -- region 1
  refine T_region (is := [0, 1, 2, 3, 4]) rfl fun kn kp hn hp => ?_
  refine T_op rfl rfl fun kc hc => ?_  -- 6 := move t0
  simp; refine hc _ ?_; clear hc kc
  refine T_op rfl rfl fun kc hc => ?_  -- 7 := call len (t6) [45]
  simp; refine hc _ ?_; clear hc kc
  refine T_op rfl rfl fun kc hc => ?_  -- 8 := move t1
  simp; refine hc _ ?_; clear hc kc
  refine T_op rfl rfl fun kc hc => ?_  -- 9 := call len (t8) [45]
  simp; refine hc _ ?_; clear hc kc
  refine T_op rfl rfl fun kc hc => ?_  -- 10 := binOp 3 t7 != t9
  simp; refine hc _ ?_; clear hc kc
  refine T_end (hn _ ?_); clear hn hp kn kp
  refine T_then ?_
  refine T_false (by simp) ?_  -- t10
  refine T_skip ?_
  refine T_then ?_
  refine T_seq ?_
  refine T_seq ?_
  -- region 3
  refine T_region (is := [0]) rfl fun kn kp hn hp => ?_
  refine T_op rfl rfl fun kc hc => ?_  -- 5 := assign 0
  simp; refine hc _ ?_; clear hc kc
  refine T_end (hn _ ?_); clear hn hp kn kp
  refine T_then ?_
  refine T_block ?_  -- block 0
  refine T_loop (fun z : Nat => { sl := [(0, .dat (ints l)), (1, .dat (ints l)), (5, .dat (iD z))], hp := [], nx := 0 }) (fun z => z ≤ l.length) (fun z => l.length - z) 0 (Ent.sub [0, 1, 5] [] (by simp [sub, subSl, subHp, place, mp, mpL, mpO, mpG])) (Nat.zero_le _) fun z hz => ?_  -- loop 0
  refine T_seq ?_
  refine T_seq ?_
  -- region 4
  refine T_region (is := [0, 1, 2, 3]) rfl fun kn kp hn hp => ?_
  refine T_op rfl rfl fun kc hc => ?_  -- 11 := move t5
  simp; refine hc _ ?_; clear hc kc
  refine T_op rfl rfl fun kc hc => ?_  -- 12 := move t0
  simp; refine hc _ ?_; clear hc kc
  refine T_op rfl rfl fun kc hc => ?_  -- 13 := call len (t12) [45]
  simp; refine hc _ ?_; clear hc kc
  refine T_op rfl rfl fun kc hc => ?_  -- 14 := binOp 3 t11 < t13
  simp; refine hc _ ?_; clear hc kc
  refine T_end (hn _ ?_); clear hn hp kn kp
  refine T_then ?_
  refine T_cond rfl (fun b2 => ?_) (fun b2 => ?_)  -- t14
  · skip
    have hz' : z < l.length := by simpa using b2
    obtain ⟨x, hxx⟩ : ∃ x, l[z]? = some x := ⟨_, List.getElem?_eq_getElem hz'⟩
    have ez : IntKind.i64.wrap ((z : Int) + 1) = (z : Int) + 1 := wr1 hz' (by omega)
    refine T_skip ?_
    refine T_then ?_
    refine T_seq ?_
    refine T_block ?_  -- block 1
    -- region 6, drawn
    refine T_seqDraw (is := [0, 1, 2, 3, 4, 5, 6, 7, 8]) rfl (by kernel_rfl) fun kn hn => ?_
    refine D_op rfl rfl rfl rfl fun kc hc => ?_  -- 17 := move t0
    simp; refine hc _ ?_; clear hc kc
    refine D_op rfl rfl rfl rfl fun kc hc => ?_  -- 18 := move t5
    simp; refine hc _ ?_; clear hc kc
    refine D_op rfl rfl rfl rfl fun kc hc => ?_  -- 19 := indexAddr 45 t17 t18
    simp [hxx]; refine hc _ ?_; clear hc kc
    refine D_op rfl rfl rfl rfl fun kc hc => ?_  -- 20 := load 3 t19
    simp; refine hc _ ?_; clear hc kc
    refine D_op rfl rfl rfl rfl fun kc hc => ?_  -- 21 := move t1
    simp; refine hc _ ?_; clear hc kc
    refine D_op rfl rfl rfl rfl fun kc hc => ?_  -- 22 := move t5
    simp; refine hc _ ?_; clear hc kc
    refine D_op rfl rfl rfl rfl fun kc hc => ?_  -- 23 := indexAddr 45 t21 t22
    simp [hxx]; refine hc _ ?_; clear hc kc
    refine D_op rfl rfl rfl rfl fun kc hc => ?_  -- 24 := load 3 t23
    simp; refine hc _ ?_; clear hc kc
    refine D_op rfl rfl rfl rfl fun kc hc => ?_  -- 25 := binOp 3 t20 != t24
    simp; refine hc _ ?_; clear hc kc
    refine D_end rfl (by kernel_rfl) (hn _ ?_); clear hn kn
    refine T_false (by simp) ?_  -- t25
    refine T_skip ?_
    refine X_blockN ?_
    refine T_then ?_
    -- region 5
    refine T_region (is := [0, 1, 2]) rfl fun kn kp hn hp => ?_
    refine T_op rfl rfl fun kc hc => ?_  -- 15 := move t5
    simp; refine hc _ ?_; clear hc kc
    refine T_op rfl rfl fun kc hc => ?_  -- 16 := binOp 3 t15 + 1
    simp [ez]; refine hc _ ?_; clear hc kc
    refine T_op rfl rfl fun kc hc => ?_  -- 5 := assign t16
    simp; refine hc _ ?_; clear hc kc
    refine T_end (hn _ ?_); clear hn hp kn kp
    exact X_loopN (z + 1) (Ent.sub [0, 1, 5] [] (by simp [sub, subSl, subHp, place, mp, mpL, mpO, mpG, ez])) hz' (by omega)
  · skip
    have hz' : z = l.length := by simp at b2; omega
    refine T_exit ?_
    refine X_thenE ?_
    refine X_loopE ?_
    refine X_hit ?_
    refine T_then ?_
    refine T_seq ?_
    -- region 8
    refine T_region (is := [0]) rfl fun kn kp hn hp => ?_
    refine T_op rfl rfl fun kc hc => ?_  -- 4 := assign true
    simp; refine hc _ ?_; clear hc kc
    refine T_end (hn _ ?_); clear hn hp kn kp
    refine T_then ?_
    refine T_ret ?_
    exact finI (Ent.refl _) (by simp [resD, resL, resV]; rfl) (Ent.sub [] [] (by simp [sub, subSl, subHp, place, mp, mpL, mpO, mpG]; rfl)) rfl rfl (by simp)
-- sizar/sizarlaw11.place
theorem walk23 (l : List Int) (n : Int) (hl : l.length ≤ 9223372036854775807) : Does Try.prog 23 [ints l, iD n] (.dat (iD (idx (fun x => x == n) l 0))) [] := by
  refine Does.intro [.tmp 4] Try.func23 rfl (by kernel_rfl) Try.ntmps23 rfl (Nat.le_of_ble_eq_true rfl) ?_
  refine T_seq ?_
  -- region 0
  refine T_region (is := [0]) rfl fun kn kp hn hp => ?_
  refine T_op rfl rfl fun kc hc => ?_  -- 4 := assign 0
  simp; refine hc _ ?_; clear hc kc
  refine T_end (hn _ ?_); clear hn hp kn kp
  refine T_then ?_
  refine T_seq ?_
  refine T_seq ?_
  -- region 1
  refine T_region (is := [0]) rfl fun kn kp hn hp => ?_
  refine T_op rfl rfl fun kc hc => ?_  -- 5 := assign 0
  simp; refine hc _ ?_; clear hc kc
  refine T_end (hn _ ?_); clear hn hp kn kp
  refine T_then ?_
  refine T_block ?_  -- block 0
  refine T_loop (fun z : Nat => { sl := [(0, .dat (ints l)), (1, .dat (iD n)), (5, .dat (iD z))], hp := [], nx := 0 }) (fun z => z ≤ l.length ∧ idx (fun x => x == n) l 0 = idx (fun x => x == n) (l.drop z) z) (fun z => l.length - z) 0 (Ent.sub [0, 1, 5] [] (by simp [sub, subSl, subHp, place, mp, mpL, mpO, mpG])) ⟨Nat.zero_le _, rfl⟩ fun z hz => ?_  -- loop 0
  obtain ⟨hz, hk⟩ := hz
  refine T_seq ?_
  refine T_seq ?_
  -- region 2
  refine T_region (is := [0, 1, 2, 3]) rfl fun kn kp hn hp => ?_
  refine T_op rfl rfl fun kc hc => ?_  -- 6 := move t5
  simp; refine hc _ ?_; clear hc kc
  refine T_op rfl rfl fun kc hc => ?_  -- 7 := move t0
  simp; refine hc _ ?_; clear hc kc
  refine T_op rfl rfl fun kc hc => ?_  -- 8 := call len (t7) [45]
  simp; refine hc _ ?_; clear hc kc
  refine T_op rfl rfl fun kc hc => ?_  -- 9 := binOp 3 t6 < t8
  simp; refine hc _ ?_; clear hc kc
  refine T_end (hn _ ?_); clear hn hp kn kp
  refine T_then ?_
  refine T_cond rfl (fun b1 => ?_) (fun b1 => ?_)  -- t9
  · skip
    have hz' : z < l.length := by simpa using b1
    obtain ⟨x, hx⟩ : ∃ x, l[z]? = some x := ⟨_, List.getElem?_eq_getElem hz'⟩
    have e1 : IntKind.i64.wrap ((z : Int) + 1) = (z : Int) + 1 := wr1 hz' hl
    refine T_skip ?_
    refine T_then ?_
    refine T_seq ?_
    refine T_block ?_  -- block 1
    refine T_seq ?_
    -- region 4
    refine T_region (is := [0, 1, 2, 3, 4, 5]) rfl fun kn kp hn hp => ?_
    refine T_op rfl rfl fun kc hc => ?_  -- 12 := move t0
    simp; refine hc _ ?_; clear hc kc
    refine T_op rfl rfl fun kc hc => ?_  -- 13 := move t5
    simp; refine hc _ ?_; clear hc kc
    refine T_op rfl rfl fun kc hc => ?_  -- 14 := indexAddr 45 t12 t13
    simp [hx]; refine hc _ ?_; clear hc kc
    refine T_op rfl rfl fun kc hc => ?_  -- 15 := load 3 t14
    simp; refine hc _ ?_; clear hc kc
    refine T_op rfl rfl fun kc hc => ?_  -- 16 := move t1
    simp; refine hc _ ?_; clear hc kc
    refine T_op rfl rfl fun kc hc => ?_  -- 17 := binOp 3 t15 == t16
    simp; refine hc _ ?_; clear hc kc
    refine T_end (hn _ ?_); clear hn hp kn kp
    refine T_then ?_
    refine T_cond rfl (fun b2 => ?_) (fun b2 => ?_)  -- t17
    · skip
      have hpx : (x == n) = true := by simpa using b2
      have hres : idx (fun x => x == n) l 0 = z := by rw [hk, idx_at hx, hpx]; rfl
      refine T_seq ?_
      -- region 5
      refine T_region (is := [0, 1]) rfl fun kn kp hn hp => ?_
      refine T_op rfl rfl fun kc hc => ?_  -- 18 := move t5
      simp; refine hc _ ?_; clear hc kc
      refine T_op rfl rfl fun kc hc => ?_  -- 4 := assign t18
      simp; refine hc _ ?_; clear hc kc
      refine T_end (hn _ ?_); clear hn hp kn kp
      refine T_then ?_
      refine T_ret ?_
      refine X_blockR ?_
      refine X_thenR ?_
      refine X_loopR ?_
      refine X_blockR ?_
      refine X_thenR ?_
      exact finI (Ent.refl _) (by simp [resD, resL, resV]; rfl) (Ent.sub [] [] (by simp [sub, subSl, subHp, place, mp, mpL, mpO, mpG]; rfl)) rfl rfl (by simp [hres])
    · skip
      have hpx : (x == n) = false := by simpa using b2
      refine T_skip ?_
      refine X_blockN ?_
      refine T_then ?_
      -- region 3
      refine T_region (is := [0, 1, 2]) rfl fun kn kp hn hp => ?_
      refine T_op rfl rfl fun kc hc => ?_  -- 10 := move t5
      simp; refine hc _ ?_; clear hc kc
      refine T_op rfl rfl fun kc hc => ?_  -- 11 := binOp 3 t10 + 1
      simp [e1]; refine hc _ ?_; clear hc kc
      refine T_op rfl rfl fun kc hc => ?_  -- 5 := assign t11
      simp; refine hc _ ?_; clear hc kc
      refine T_end (hn _ ?_); clear hn hp kn kp
      exact X_loopN (z + 1) (Ent.sub [0, 1, 5] [] (by simp [sub, subSl, subHp, place, mp, mpL, mpO, mpG, e1])) ⟨hz', by rw [hk, idx_at hx, hpx]; rfl⟩ (by omega)
  · skip
    have hz' : z = l.length := by simp at b1; omega
    have hend : idx (fun x => x == n) l 0 = -1 := by rw [hk]; exact idx_end (by omega)
    refine T_exit ?_
    refine X_thenE ?_
    refine X_loopE ?_
    refine X_hit ?_
    refine T_then ?_
    refine T_seq ?_
    -- region 6
    refine T_region (is := [0]) rfl fun kn kp hn hp => ?_
    refine T_op rfl rfl fun kc hc => ?_  -- 4 := assign -1
    simp; refine hc _ ?_; clear hc kc
    refine T_end (hn _ ?_); clear hn hp kn kp
    refine T_then ?_
    refine T_ret ?_
    exact finI (Ent.refl _) (by simp [resD, resL, resV]; rfl) (Ent.sub [] [] (by simp [sub, subSl, subHp, place, mp, mpL, mpO, mpG]; rfl)) rfl rfl (by simp [hend])
-- END

end Go.Proofs.Ytbkkekbeaabokaa
