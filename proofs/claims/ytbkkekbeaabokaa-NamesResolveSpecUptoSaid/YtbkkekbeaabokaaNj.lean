/- The names: a catalogue is the same as itself. -/
import Derived.Test.YtbkkekbeaabokaaNi
set_option linter.unusedVariables false
set_option linter.unusedSimpArgs false
namespace Go.Proofs.Ytbkkekbeaabokaa
open Go Go.Proofs.Ytbkkekbeaabokaa.Sx

-- WALK 56 57 61 63 64 65
-- slices.Equal[[]string,string]
theorem walk56 (l : List ByteArray) (hl : l.length ≤ 9223372036854775807) : Does Try.prog 56 [strs l, strs l] (.dat (bV true)) [] := by
  refine Does.intro [.tmp 4] Try.func56 rfl (by kernel_rfl) Try.ntmps56 rfl (Nat.le_of_ble_eq_true rfl) ?_
  refine T_seq ?_
  -- region 0
  refine T_region (is := [0]) rfl fun kn kp hn hp => ?_
  refine T_op rfl rfl fun kc hc => ?_  -- 4 := assign false
  simp; refine hc _ ?_; clear hc kc
  refine T_end (hn _ ?_); clear hn hp kn kp
  refine T_then ?_
  refine T_seq ?_
  refine T_seq ?_
  -- region 1
  refine T_region (is := [0, 1, 2, 3, 4]) rfl fun kn kp hn hp => ?_
  refine T_op rfl rfl fun kc hc => ?_  -- 6 := move t0
  simp; refine hc _ ?_; clear hc kc
  refine T_op rfl rfl fun kc hc => ?_  -- 7 := call len (t6) [36]
  simp; refine hc _ ?_; clear hc kc
  refine T_op rfl rfl fun kc hc => ?_  -- 8 := move t1
  simp; refine hc _ ?_; clear hc kc
  refine T_op rfl rfl fun kc hc => ?_  -- 9 := call len (t8) [36]
  simp; refine hc _ ?_; clear hc kc
  refine T_op rfl rfl fun kc hc => ?_  -- 10 := binOp 3 t7 != t9
  simp; refine hc _ ?_; clear hc kc
  refine T_end (hn _ ?_); clear hn hp kn kp
  refine T_then ?_
  refine T_false (by simp) ?_  -- t10
  refine T_skip ?_
  refine T_then ?_
  refine T_seq ?_
  refine T_seq ?_
  -- region 3
  refine T_region (is := [0, 1, 2]) rfl fun kn kp hn hp => ?_
  refine T_op rfl rfl fun kc hc => ?_  -- 11 := move t0
  simp; refine hc _ ?_; clear hc kc
  refine T_op rfl rfl fun kc hc => ?_  -- 12 := call len (t11) [36]
  simp; refine hc _ ?_; clear hc kc
  refine T_op rfl rfl fun kc hc => ?_  -- 13 := move 0
  simp; refine hc _ ?_; clear hc kc
  refine T_end (hn _ ?_); clear hn hp kn kp
  refine T_then ?_
  refine T_block ?_  -- block 0
  refine T_loop (fun z : Nat => { sl := [(0, .dat (strs l)), (1, .dat (strs l)), (12, .dat (iD l.length)), (13, .dat (iD z))], hp := [], nx := 0 }) (fun z => z ≤ l.length) (fun z => l.length - z) 0 (Ent.sub [0, 1, 12, 13] [] (by simp [sub, subSl, subHp, place, mp, mpL, mpO, mpG])) (Nat.zero_le _) fun z hz => ?_  -- loop 0
  refine T_seq ?_
  -- region 4
  refine T_region (is := [0]) rfl fun kn kp hn hp => ?_
  refine T_op rfl rfl fun kc hc => ?_  -- 14 := binOp 3 t13 < t12
  simp; refine hc _ ?_; clear hc kc
  refine T_end (hn _ ?_); clear hn hp kn kp
  refine T_then ?_
  refine T_seq ?_
  refine T_cond rfl (fun b2 => ?_) (fun b2 => ?_)  -- t14
  · skip
    have hz' : z < l.length := by simpa using b2
    obtain ⟨x, hxx⟩ : ∃ x, l[z]? = some x := ⟨_, List.getElem?_eq_getElem hz'⟩
    have ez : IntKind.i64.wrap ((z : Int) + 1) = (z : Int) + 1 := wr1 hz' (by omega)
    refine T_skip ?_
    refine T_then ?_
    refine T_seq ?_
    refine T_block ?_  -- block 1
    refine T_seq ?_
    -- region 5
    refine T_region (is := [0, 1]) rfl fun kn kp hn hp => ?_
    refine T_op rfl rfl fun kc hc => ?_  -- 15 := move t13
    simp; refine hc _ ?_; clear hc kc
    refine T_op rfl rfl fun kc hc => ?_  -- 5 := assign t15
    simp; refine hc _ ?_; clear hc kc
    refine T_end (hn _ ?_); clear hn hp kn kp
    refine T_then ?_
    -- region 6, drawn
    refine T_seqDraw (is := [0, 1, 2, 3, 4, 5, 6, 7, 8]) rfl (by kernel_rfl) fun kn hn => ?_
    refine D_op rfl rfl rfl rfl fun kc hc => ?_  -- 16 := move t0
    simp; refine hc _ ?_; clear hc kc
    refine D_op rfl rfl rfl rfl fun kc hc => ?_  -- 17 := move t5
    simp; refine hc _ ?_; clear hc kc
    refine D_op rfl rfl rfl rfl fun kc hc => ?_  -- 18 := indexAddr 36 t16 t17
    simp [hxx]; refine hc _ ?_; clear hc kc
    refine D_op rfl rfl rfl rfl fun kc hc => ?_  -- 19 := load 9 t18
    simp; refine hc _ ?_; clear hc kc
    refine D_op rfl rfl rfl rfl fun kc hc => ?_  -- 20 := move t1
    simp; refine hc _ ?_; clear hc kc
    refine D_op rfl rfl rfl rfl fun kc hc => ?_  -- 21 := move t5
    simp; refine hc _ ?_; clear hc kc
    refine D_op rfl rfl rfl rfl fun kc hc => ?_  -- 22 := indexAddr 36 t20 t21
    simp [hxx]; refine hc _ ?_; clear hc kc
    refine D_op rfl rfl rfl rfl fun kc hc => ?_  -- 23 := load 9 t22
    simp; refine hc _ ?_; clear hc kc
    refine D_op rfl rfl rfl rfl fun kc hc => ?_  -- 24 := binOp 9 t19 != t23
    simp; refine hc _ ?_; clear hc kc
    refine D_end rfl (by kernel_rfl) (hn _ ?_); clear hn kn
    refine T_false (by simp) ?_  -- t24
    refine T_skip ?_
    refine X_blockN ?_
    refine T_then ?_
    -- region 8
    refine T_region (is := [0, 1]) rfl fun kn kp hn hp => ?_
    refine T_op rfl rfl fun kc hc => ?_  -- 25 := binOp 3 t13 + 1
    simp [ez]; refine hc _ ?_; clear hc kc
    refine T_op rfl rfl fun kc hc => ?_  -- 13 := move t25
    simp; refine hc _ ?_; clear hc kc
    refine T_end (hn _ ?_); clear hn hp kn kp
    exact X_loopN (z + 1) (Ent.sub [0, 1, 12, 13] [] (by simp [sub, subSl, subHp, place, mp, mpL, mpO, mpG, ez])) hz' (by omega)
  · skip
    have hz' : z = l.length := by simp at b2; omega
    refine T_exit ?_
    refine X_thenE ?_
    refine X_loopE ?_
    refine X_hit ?_
    refine T_then ?_
    refine T_seq ?_
    -- region 9
    refine T_region (is := [0]) rfl fun kn kp hn hp => ?_
    refine T_op rfl rfl fun kc hc => ?_  -- 4 := assign true
    simp; refine hc _ ?_; clear hc kc
    refine T_end (hn _ ?_); clear hn hp kn kp
    refine T_then ?_
    refine T_ret ?_
    exact finI (Ent.refl _) (by simp [resD, resL, resV]; rfl) (Ent.sub [] [] (by simp [sub, subSl, subHp, place, mp, mpL, mpO, mpG]; rfl)) rfl rfl (by simp)
-- slices.Equal[[]int,int]
theorem walk57 (l : List Int) (hl : l.length ≤ 9223372036854775807) : Does Try.prog 57 [ints l, ints l] (.dat (bV true)) [] := by
  refine Does.intro [.tmp 4] Try.func57 rfl (by kernel_rfl) Try.ntmps57 rfl (Nat.le_of_ble_eq_true rfl) ?_
  refine T_seq ?_
  -- region 0
  refine T_region (is := [0]) rfl fun kn kp hn hp => ?_
  refine T_op rfl rfl fun kc hc => ?_  -- 4 := assign false
  simp; refine hc _ ?_; clear hc kc
  refine T_end (hn _ ?_); clear hn hp kn kp
  refine T_then ?_
  refine T_seq ?_
  refine T_seq ?_
  -- region 1
  refine T_region (is := [0, 1, 2, 3, 4]) rfl fun kn kp hn hp => ?_
  refine T_op rfl rfl fun kc hc => ?_  -- 6 := move t0
  simp; refine hc _ ?_; clear hc kc
  refine T_op rfl rfl fun kc hc => ?_  -- 7 := call len (t6) [45]
  simp; refine hc _ ?_; clear hc kc
  refine T_op rfl rfl fun kc hc => ?_  -- 8 := move t1
  simp; refine hc _ ?_; clear hc kc
  refine T_op rfl rfl fun kc hc => ?_  -- 9 := call len (t8) [45]
  simp; refine hc _ ?_; clear hc kc
  refine T_op rfl rfl fun kc hc => ?_  -- 10 := binOp 3 t7 != t9
  simp; refine hc _ ?_; clear hc kc
  refine T_end (hn _ ?_); clear hn hp kn kp
  refine T_then ?_
  refine T_false (by simp) ?_  -- t10
  refine T_skip ?_
  refine T_then ?_
  refine T_seq ?_
  refine T_seq ?_
  -- region 3
  refine T_region (is := [0, 1, 2]) rfl fun kn kp hn hp => ?_
  refine T_op rfl rfl fun kc hc => ?_  -- 11 := move t0
  simp; refine hc _ ?_; clear hc kc
  refine T_op rfl rfl fun kc hc => ?_  -- 12 := call len (t11) [45]
  simp; refine hc _ ?_; clear hc kc
  refine T_op rfl rfl fun kc hc => ?_  -- 13 := move 0
  simp; refine hc _ ?_; clear hc kc
  refine T_end (hn _ ?_); clear hn hp kn kp
  refine T_then ?_
  refine T_block ?_  -- block 0
  refine T_loop (fun z : Nat => { sl := [(0, .dat (ints l)), (1, .dat (ints l)), (12, .dat (iD l.length)), (13, .dat (iD z))], hp := [], nx := 0 }) (fun z => z ≤ l.length) (fun z => l.length - z) 0 (Ent.sub [0, 1, 12, 13] [] (by simp [sub, subSl, subHp, place, mp, mpL, mpO, mpG])) (Nat.zero_le _) fun z hz => ?_  -- loop 0
  refine T_seq ?_
  -- region 4
  refine T_region (is := [0]) rfl fun kn kp hn hp => ?_
  refine T_op rfl rfl fun kc hc => ?_  -- 14 := binOp 3 t13 < t12
  simp; refine hc _ ?_; clear hc kc
  refine T_end (hn _ ?_); clear hn hp kn kp
  refine T_then ?_
  refine T_seq ?_
  refine T_cond rfl (fun b2 => ?_) (fun b2 => ?_)  -- t14
  · skip
    have hz' : z < l.length := by simpa using b2
    obtain ⟨x, hxx⟩ : ∃ x, l[z]? = some x := ⟨_, List.getElem?_eq_getElem hz'⟩
    have ez : IntKind.i64.wrap ((z : Int) + 1) = (z : Int) + 1 := wr1 hz' (by omega)
    refine T_skip ?_
    refine T_then ?_
    refine T_seq ?_
    refine T_block ?_  -- block 1
    refine T_seq ?_
    -- region 5
    refine T_region (is := [0, 1]) rfl fun kn kp hn hp => ?_
    refine T_op rfl rfl fun kc hc => ?_  -- 15 := move t13
    simp; refine hc _ ?_; clear hc kc
    refine T_op rfl rfl fun kc hc => ?_  -- 5 := assign t15
    simp; refine hc _ ?_; clear hc kc
    refine T_end (hn _ ?_); clear hn hp kn kp
    refine T_then ?_
    -- region 6, drawn
    refine T_seqDraw (is := [0, 1, 2, 3, 4, 5, 6, 7, 8]) rfl (by kernel_rfl) fun kn hn => ?_
    refine D_op rfl rfl rfl rfl fun kc hc => ?_  -- 16 := move t0
    simp; refine hc _ ?_; clear hc kc
    refine D_op rfl rfl rfl rfl fun kc hc => ?_  -- 17 := move t5
    simp; refine hc _ ?_; clear hc kc
    refine D_op rfl rfl rfl rfl fun kc hc => ?_  -- 18 := indexAddr 45 t16 t17
    simp [hxx]; refine hc _ ?_; clear hc kc
    refine D_op rfl rfl rfl rfl fun kc hc => ?_  -- 19 := load 3 t18
    simp; refine hc _ ?_; clear hc kc
    refine D_op rfl rfl rfl rfl fun kc hc => ?_  -- 20 := move t1
    simp; refine hc _ ?_; clear hc kc
    refine D_op rfl rfl rfl rfl fun kc hc => ?_  -- 21 := move t5
    simp; refine hc _ ?_; clear hc kc
    refine D_op rfl rfl rfl rfl fun kc hc => ?_  -- 22 := indexAddr 45 t20 t21
    simp [hxx]; refine hc _ ?_; clear hc kc
    refine D_op rfl rfl rfl rfl fun kc hc => ?_  -- 23 := load 3 t22
    simp; refine hc _ ?_; clear hc kc
    refine D_op rfl rfl rfl rfl fun kc hc => ?_  -- 24 := binOp 3 t19 != t23
    simp; refine hc _ ?_; clear hc kc
    refine D_end rfl (by kernel_rfl) (hn _ ?_); clear hn kn
    refine T_false (by simp) ?_  -- t24
    refine T_skip ?_
    refine X_blockN ?_
    refine T_then ?_
    -- region 8
    refine T_region (is := [0, 1]) rfl fun kn kp hn hp => ?_
    refine T_op rfl rfl fun kc hc => ?_  -- 25 := binOp 3 t13 + 1
    simp [ez]; refine hc _ ?_; clear hc kc
    refine T_op rfl rfl fun kc hc => ?_  -- 13 := move t25
    simp; refine hc _ ?_; clear hc kc
    refine T_end (hn _ ?_); clear hn hp kn kp
    exact X_loopN (z + 1) (Ent.sub [0, 1, 12, 13] [] (by simp [sub, subSl, subHp, place, mp, mpL, mpO, mpG, ez])) hz' (by omega)
  · skip
    have hz' : z = l.length := by simp at b2; omega
    refine T_exit ?_
    refine X_thenE ?_
    refine X_loopE ?_
    refine X_hit ?_
    refine T_then ?_
    refine T_seq ?_
    -- region 9
    refine T_region (is := [0]) rfl fun kn kp hn hp => ?_
    refine T_op rfl rfl fun kc hc => ?_  -- 4 := assign true
    simp; refine hc _ ?_; clear hc kc
    refine T_end (hn _ ?_); clear hn hp kn kp
    refine T_then ?_
    refine T_ret ?_
    exact finI (Ent.refl _) (by simp [resD, resL, resV]; rfl) (Ent.sub [] [] (by simp [sub, subSl, subHp, place, mp, mpL, mpO, mpG]; rfl)) rfl rfl (by simp)
-- slices.Equal[[]sizar/api.Pair,sizar/api.Pair]
theorem walk61 (l : List Pair) (hl : l.length ≤ 9223372036854775807) : Does Try.prog 61 [.sl 4 (l.map pairD), .sl 4 (l.map pairD)] (.dat (bV true)) [] := by
  refine Does.intro [.tmp 4] Try.func61 rfl (by kernel_rfl) Try.ntmps61 rfl (Nat.le_of_ble_eq_true rfl) ?_
  refine T_seq ?_
  -- region 0
  refine T_region (is := [0]) rfl fun kn kp hn hp => ?_
  refine T_op rfl rfl fun kc hc => ?_  -- 4 := assign false
  simp; refine hc _ ?_; clear hc kc
  refine T_end (hn _ ?_); clear hn hp kn kp
  refine T_then ?_
  refine T_seq ?_
  refine T_seq ?_
  -- region 1
  refine T_region (is := [0, 1, 2, 3, 4]) rfl fun kn kp hn hp => ?_
  refine T_op rfl rfl fun kc hc => ?_  -- 6 := move t0
  simp; refine hc _ ?_; clear hc kc
  refine T_op rfl rfl fun kc hc => ?_  -- 7 := call len (t6) [23]
  simp; refine hc _ ?_; clear hc kc
  refine T_op rfl rfl fun kc hc => ?_  -- 8 := move t1
  simp; refine hc _ ?_; clear hc kc
  refine T_op rfl rfl fun kc hc => ?_  -- 9 := call len (t8) [23]
  simp; refine hc _ ?_; clear hc kc
  refine T_op rfl rfl fun kc hc => ?_  -- 10 := binOp 3 t7 != t9
  simp; refine hc _ ?_; clear hc kc
  refine T_end (hn _ ?_); clear hn hp kn kp
  refine T_then ?_
  refine T_false (by simp) ?_  -- t10
  refine T_skip ?_
  refine T_then ?_
  refine T_seq ?_
  refine T_seq ?_
  -- region 3
  refine T_region (is := [0, 1, 2]) rfl fun kn kp hn hp => ?_
  refine T_op rfl rfl fun kc hc => ?_  -- 11 := move t0
  simp; refine hc _ ?_; clear hc kc
  refine T_op rfl rfl fun kc hc => ?_  -- 12 := call len (t11) [23]
  simp; refine hc _ ?_; clear hc kc
  refine T_op rfl rfl fun kc hc => ?_  -- 13 := move 0
  simp; refine hc _ ?_; clear hc kc
  refine T_end (hn _ ?_); clear hn hp kn kp
  refine T_then ?_
  refine T_block ?_  -- block 0
  refine T_loop (fun z : Nat => { sl := [(0, .dat (.sl 4 (l.map pairD))), (1, .dat (.sl 4 (l.map pairD))), (12, .dat (iD l.length)), (13, .dat (iD z))], hp := [], nx := 0 }) (fun z => z ≤ l.length) (fun z => l.length - z) 0 (Ent.sub [0, 1, 12, 13] [] (by simp [sub, subSl, subHp, place, mp, mpL, mpO, mpG])) (Nat.zero_le _) fun z hz => ?_  -- loop 0
  refine T_seq ?_
  -- region 4
  refine T_region (is := [0]) rfl fun kn kp hn hp => ?_
  refine T_op rfl rfl fun kc hc => ?_  -- 14 := binOp 3 t13 < t12
  simp; refine hc _ ?_; clear hc kc
  refine T_end (hn _ ?_); clear hn hp kn kp
  refine T_then ?_
  refine T_seq ?_
  refine T_cond rfl (fun b2 => ?_) (fun b2 => ?_)  -- t14
  · skip
    have hz' : z < l.length := by simpa using b2
    obtain ⟨x, hxx⟩ : ∃ x, l[z]? = some x := ⟨_, List.getElem?_eq_getElem hz'⟩
    have ez : IntKind.i64.wrap ((z : Int) + 1) = (z : Int) + 1 := wr1 hz' (by omega)
    refine T_skip ?_
    refine T_then ?_
    refine T_seq ?_
    refine T_block ?_  -- block 1
    refine T_seq ?_
    -- region 5
    refine T_region (is := [0, 1]) rfl fun kn kp hn hp => ?_
    refine T_op rfl rfl fun kc hc => ?_  -- 15 := move t13
    simp; refine hc _ ?_; clear hc kc
    refine T_op rfl rfl fun kc hc => ?_  -- 5 := assign t15
    simp; refine hc _ ?_; clear hc kc
    refine T_end (hn _ ?_); clear hn hp kn kp
    refine T_then ?_
    -- region 6, drawn
    refine T_seqDraw (is := [0, 1, 2, 3, 4, 5, 6, 7, 8]) rfl (by kernel_rfl) fun kn hn => ?_
    refine D_op rfl rfl rfl rfl fun kc hc => ?_  -- 16 := move t0
    simp; refine hc _ ?_; clear hc kc
    refine D_op rfl rfl rfl rfl fun kc hc => ?_  -- 17 := move t5
    simp; refine hc _ ?_; clear hc kc
    refine D_op rfl rfl rfl rfl fun kc hc => ?_  -- 18 := indexAddr 23 t16 t17
    simp [hxx]; refine hc _ ?_; clear hc kc
    refine D_op rfl rfl rfl rfl fun kc hc => ?_  -- 19 := load 51 t18
    simp; refine hc _ ?_; clear hc kc
    refine D_op rfl rfl rfl rfl fun kc hc => ?_  -- 20 := move t1
    simp; refine hc _ ?_; clear hc kc
    refine D_op rfl rfl rfl rfl fun kc hc => ?_  -- 21 := move t5
    simp; refine hc _ ?_; clear hc kc
    refine D_op rfl rfl rfl rfl fun kc hc => ?_  -- 22 := indexAddr 23 t20 t21
    simp [hxx]; refine hc _ ?_; clear hc kc
    refine D_op rfl rfl rfl rfl fun kc hc => ?_  -- 23 := load 51 t22
    simp; refine hc _ ?_; clear hc kc
    refine D_op rfl rfl rfl rfl fun kc hc => ?_  -- 24 := binOp 51 t19 != t23
    simp; refine hc _ ?_; clear hc kc
    refine D_end rfl (by kernel_rfl) (hn _ ?_); clear hn kn
    refine T_false (by simp) ?_  -- t24
    refine T_skip ?_
    refine X_blockN ?_
    refine T_then ?_
    -- region 8
    refine T_region (is := [0, 1]) rfl fun kn kp hn hp => ?_
    refine T_op rfl rfl fun kc hc => ?_  -- 25 := binOp 3 t13 + 1
    simp [ez]; refine hc _ ?_; clear hc kc
    refine T_op rfl rfl fun kc hc => ?_  -- 13 := move t25
    simp; refine hc _ ?_; clear hc kc
    refine T_end (hn _ ?_); clear hn hp kn kp
    exact X_loopN (z + 1) (Ent.sub [0, 1, 12, 13] [] (by simp [sub, subSl, subHp, place, mp, mpL, mpO, mpG, ez])) hz' (by omega)
  · skip
    have hz' : z = l.length := by simp at b2; omega
    refine T_exit ?_
    refine X_thenE ?_
    refine X_loopE ?_
    refine X_hit ?_
    refine T_then ?_
    refine T_seq ?_
    -- region 9
    refine T_region (is := [0]) rfl fun kn kp hn hp => ?_
    refine T_op rfl rfl fun kc hc => ?_  -- 4 := assign true
    simp; refine hc _ ?_; clear hc kc
    refine T_end (hn _ ?_); clear hn hp kn kp
    refine T_then ?_
    refine T_ret ?_
    exact finI (Ent.refl _) (by simp [resD, resL, resV]; rfl) (Ent.sub [] [] (by simp [sub, subSl, subHp, place, mp, mpL, mpO, mpG]; rfl)) rfl rfl (by simp)
-- slices.Equal[[]sizar/api.Class,sizar/api.Class]
theorem walk63 (l : List Class) (hl : l.length ≤ 9223372036854775807) : Does Try.prog 63 [.sl 4 (l.map classD), .sl 4 (l.map classD)] (.dat (bV true)) [] := by
  refine Does.intro [.tmp 4] Try.func63 rfl (by kernel_rfl) Try.ntmps63 rfl (Nat.le_of_ble_eq_true rfl) ?_
  refine T_seq ?_
  -- region 0
  refine T_region (is := [0]) rfl fun kn kp hn hp => ?_
  refine T_op rfl rfl fun kc hc => ?_  -- 4 := assign false
  simp; refine hc _ ?_; clear hc kc
  refine T_end (hn _ ?_); clear hn hp kn kp
  refine T_then ?_
  refine T_seq ?_
  refine T_seq ?_
  -- region 1
  refine T_region (is := [0, 1, 2, 3, 4]) rfl fun kn kp hn hp => ?_
  refine T_op rfl rfl fun kc hc => ?_  -- 6 := move t0
  simp; refine hc _ ?_; clear hc kc
  refine T_op rfl rfl fun kc hc => ?_  -- 7 := call len (t6) [25]
  simp; refine hc _ ?_; clear hc kc
  refine T_op rfl rfl fun kc hc => ?_  -- 8 := move t1
  simp; refine hc _ ?_; clear hc kc
  refine T_op rfl rfl fun kc hc => ?_  -- 9 := call len (t8) [25]
  simp; refine hc _ ?_; clear hc kc
  refine T_op rfl rfl fun kc hc => ?_  -- 10 := binOp 3 t7 != t9
  simp; refine hc _ ?_; clear hc kc
  refine T_end (hn _ ?_); clear hn hp kn kp
  refine T_then ?_
  refine T_false (by simp) ?_  -- t10
  refine T_skip ?_
  refine T_then ?_
  refine T_seq ?_
  refine T_seq ?_
  -- region 3
  refine T_region (is := [0, 1, 2]) rfl fun kn kp hn hp => ?_
  refine T_op rfl rfl fun kc hc => ?_  -- 11 := move t0
  simp; refine hc _ ?_; clear hc kc
  refine T_op rfl rfl fun kc hc => ?_  -- 12 := call len (t11) [25]
  simp; refine hc _ ?_; clear hc kc
  refine T_op rfl rfl fun kc hc => ?_  -- 13 := move 0
  simp; refine hc _ ?_; clear hc kc
  refine T_end (hn _ ?_); clear hn hp kn kp
  refine T_then ?_
  refine T_block ?_  -- block 0
  refine T_loop (fun z : Nat => { sl := [(0, .dat (.sl 4 (l.map classD))), (1, .dat (.sl 4 (l.map classD))), (12, .dat (iD l.length)), (13, .dat (iD z))], hp := [], nx := 0 }) (fun z => z ≤ l.length) (fun z => l.length - z) 0 (Ent.sub [0, 1, 12, 13] [] (by simp [sub, subSl, subHp, place, mp, mpL, mpO, mpG])) (Nat.zero_le _) fun z hz => ?_  -- loop 0
  refine T_seq ?_
  -- region 4
  refine T_region (is := [0]) rfl fun kn kp hn hp => ?_
  refine T_op rfl rfl fun kc hc => ?_  -- 14 := binOp 3 t13 < t12
  simp; refine hc _ ?_; clear hc kc
  refine T_end (hn _ ?_); clear hn hp kn kp
  refine T_then ?_
  refine T_seq ?_
  refine T_cond rfl (fun b2 => ?_) (fun b2 => ?_)  -- t14
  · skip
    have hz' : z < l.length := by simpa using b2
    obtain ⟨x, hxx⟩ : ∃ x, l[z]? = some x := ⟨_, List.getElem?_eq_getElem hz'⟩
    have ez : IntKind.i64.wrap ((z : Int) + 1) = (z : Int) + 1 := wr1 hz' (by omega)
    refine T_skip ?_
    refine T_then ?_
    refine T_seq ?_
    refine T_block ?_  -- block 1
    refine T_seq ?_
    -- region 5
    refine T_region (is := [0, 1]) rfl fun kn kp hn hp => ?_
    refine T_op rfl rfl fun kc hc => ?_  -- 15 := move t13
    simp; refine hc _ ?_; clear hc kc
    refine T_op rfl rfl fun kc hc => ?_  -- 5 := assign t15
    simp; refine hc _ ?_; clear hc kc
    refine T_end (hn _ ?_); clear hn hp kn kp
    refine T_then ?_
    -- region 6, drawn
    refine T_seqDraw (is := [0, 1, 2, 3, 4, 5, 6, 7, 8]) rfl (by kernel_rfl) fun kn hn => ?_
    refine D_op rfl rfl rfl rfl fun kc hc => ?_  -- 16 := move t0
    simp; refine hc _ ?_; clear hc kc
    refine D_op rfl rfl rfl rfl fun kc hc => ?_  -- 17 := move t5
    simp; refine hc _ ?_; clear hc kc
    refine D_op rfl rfl rfl rfl fun kc hc => ?_  -- 18 := indexAddr 25 t16 t17
    simp [hxx]; refine hc _ ?_; clear hc kc
    refine D_op rfl rfl rfl rfl fun kc hc => ?_  -- 19 := load 80 t18
    simp; refine hc _ ?_; clear hc kc
    refine D_op rfl rfl rfl rfl fun kc hc => ?_  -- 20 := move t1
    simp; refine hc _ ?_; clear hc kc
    refine D_op rfl rfl rfl rfl fun kc hc => ?_  -- 21 := move t5
    simp; refine hc _ ?_; clear hc kc
    refine D_op rfl rfl rfl rfl fun kc hc => ?_  -- 22 := indexAddr 25 t20 t21
    simp [hxx]; refine hc _ ?_; clear hc kc
    refine D_op rfl rfl rfl rfl fun kc hc => ?_  -- 23 := load 80 t22
    simp; refine hc _ ?_; clear hc kc
    refine D_op rfl rfl rfl rfl fun kc hc => ?_  -- 24 := binOp 80 t19 != t23
    simp; refine hc _ ?_; clear hc kc
    refine D_end rfl (by kernel_rfl) (hn _ ?_); clear hn kn
    refine T_false (by simp) ?_  -- t24
    refine T_skip ?_
    refine X_blockN ?_
    refine T_then ?_
    -- region 8
    refine T_region (is := [0, 1]) rfl fun kn kp hn hp => ?_
    refine T_op rfl rfl fun kc hc => ?_  -- 25 := binOp 3 t13 + 1
    simp [ez]; refine hc _ ?_; clear hc kc
    refine T_op rfl rfl fun kc hc => ?_  -- 13 := move t25
    simp; refine hc _ ?_; clear hc kc
    refine T_end (hn _ ?_); clear hn hp kn kp
    exact X_loopN (z + 1) (Ent.sub [0, 1, 12, 13] [] (by simp [sub, subSl, subHp, place, mp, mpL, mpO, mpG, ez])) hz' (by omega)
  · skip
    have hz' : z = l.length := by simp at b2; omega
    refine T_exit ?_
    refine X_thenE ?_
    refine X_loopE ?_
    refine X_hit ?_
    refine T_then ?_
    refine T_seq ?_
    -- region 9
    refine T_region (is := [0]) rfl fun kn kp hn hp => ?_
    refine T_op rfl rfl fun kc hc => ?_  -- 4 := assign true
    simp; refine hc _ ?_; clear hc kc
    refine T_end (hn _ ?_); clear hn hp kn kp
    refine T_then ?_
    refine T_ret ?_
    exact finI (Ent.refl _) (by simp [resD, resL, resV]; rfl) (Ent.sub [] [] (by simp [sub, subSl, subHp, place, mp, mpL, mpO, mpG]; rfl)) rfl rfl (by simp)
-- slices.Equal[[]sizar/api.Fee,sizar/api.Fee]
theorem walk64 (l : List Fee) (hl : l.length ≤ 9223372036854775807) : Does Try.prog 64 [.sl 2 (l.map feeD), .sl 2 (l.map feeD)] (.dat (bV true)) [] := by
  refine Does.intro [.tmp 4] Try.func64 rfl (by kernel_rfl) Try.ntmps64 rfl (Nat.le_of_ble_eq_true rfl) ?_
  refine T_seq ?_
  -- region 0
  refine T_region (is := [0]) rfl fun kn kp hn hp => ?_
  refine T_op rfl rfl fun kc hc => ?_  -- 4 := assign false
  simp; refine hc _ ?_; clear hc kc
  refine T_end (hn _ ?_); clear hn hp kn kp
  refine T_then ?_
  refine T_seq ?_
  refine T_seq ?_
  -- region 1
  refine T_region (is := [0, 1, 2, 3, 4]) rfl fun kn kp hn hp => ?_
  refine T_op rfl rfl fun kc hc => ?_  -- 6 := move t0
  simp; refine hc _ ?_; clear hc kc
  refine T_op rfl rfl fun kc hc => ?_  -- 7 := call len (t6) [26]
  simp; refine hc _ ?_; clear hc kc
  refine T_op rfl rfl fun kc hc => ?_  -- 8 := move t1
  simp; refine hc _ ?_; clear hc kc
  refine T_op rfl rfl fun kc hc => ?_  -- 9 := call len (t8) [26]
  simp; refine hc _ ?_; clear hc kc
  refine T_op rfl rfl fun kc hc => ?_  -- 10 := binOp 3 t7 != t9
  simp; refine hc _ ?_; clear hc kc
  refine T_end (hn _ ?_); clear hn hp kn kp
  refine T_then ?_
  refine T_false (by simp) ?_  -- t10
  refine T_skip ?_
  refine T_then ?_
  refine T_seq ?_
  refine T_seq ?_
  -- region 3
  refine T_region (is := [0, 1, 2]) rfl fun kn kp hn hp => ?_
  refine T_op rfl rfl fun kc hc => ?_  -- 11 := move t0
  simp; refine hc _ ?_; clear hc kc
  refine T_op rfl rfl fun kc hc => ?_  -- 12 := call len (t11) [26]
  simp; refine hc _ ?_; clear hc kc
  refine T_op rfl rfl fun kc hc => ?_  -- 13 := move 0
  simp; refine hc _ ?_; clear hc kc
  refine T_end (hn _ ?_); clear hn hp kn kp
  refine T_then ?_
  refine T_block ?_  -- block 0
  refine T_loop (fun z : Nat => { sl := [(0, .dat (.sl 2 (l.map feeD))), (1, .dat (.sl 2 (l.map feeD))), (12, .dat (iD l.length)), (13, .dat (iD z))], hp := [], nx := 0 }) (fun z => z ≤ l.length) (fun z => l.length - z) 0 (Ent.sub [0, 1, 12, 13] [] (by simp [sub, subSl, subHp, place, mp, mpL, mpO, mpG])) (Nat.zero_le _) fun z hz => ?_  -- loop 0
  refine T_seq ?_
  -- region 4
  refine T_region (is := [0]) rfl fun kn kp hn hp => ?_
  refine T_op rfl rfl fun kc hc => ?_  -- 14 := binOp 3 t13 < t12
  simp; refine hc _ ?_; clear hc kc
  refine T_end (hn _ ?_); clear hn hp kn kp
  refine T_then ?_
  refine T_seq ?_
  refine T_cond rfl (fun b2 => ?_) (fun b2 => ?_)  -- t14
  · skip
    have hz' : z < l.length := by simpa using b2
    obtain ⟨x, hxx⟩ : ∃ x, l[z]? = some x := ⟨_, List.getElem?_eq_getElem hz'⟩
    have ez : IntKind.i64.wrap ((z : Int) + 1) = (z : Int) + 1 := wr1 hz' (by omega)
    refine T_skip ?_
    refine T_then ?_
    refine T_seq ?_
    refine T_block ?_  -- block 1
    refine T_seq ?_
    -- region 5
    refine T_region (is := [0, 1]) rfl fun kn kp hn hp => ?_
    refine T_op rfl rfl fun kc hc => ?_  -- 15 := move t13
    simp; refine hc _ ?_; clear hc kc
    refine T_op rfl rfl fun kc hc => ?_  -- 5 := assign t15
    simp; refine hc _ ?_; clear hc kc
    refine T_end (hn _ ?_); clear hn hp kn kp
    refine T_then ?_
    -- region 6, drawn
    refine T_seqDraw (is := [0, 1, 2, 3, 4, 5, 6, 7, 8]) rfl (by kernel_rfl) fun kn hn => ?_
    refine D_op rfl rfl rfl rfl fun kc hc => ?_  -- 16 := move t0
    simp; refine hc _ ?_; clear hc kc
    refine D_op rfl rfl rfl rfl fun kc hc => ?_  -- 17 := move t5
    simp; refine hc _ ?_; clear hc kc
    refine D_op rfl rfl rfl rfl fun kc hc => ?_  -- 18 := indexAddr 26 t16 t17
    simp [hxx]; refine hc _ ?_; clear hc kc
    refine D_op rfl rfl rfl rfl fun kc hc => ?_  -- 19 := load 84 t18
    simp; refine hc _ ?_; clear hc kc
    refine D_op rfl rfl rfl rfl fun kc hc => ?_  -- 20 := move t1
    simp; refine hc _ ?_; clear hc kc
    refine D_op rfl rfl rfl rfl fun kc hc => ?_  -- 21 := move t5
    simp; refine hc _ ?_; clear hc kc
    refine D_op rfl rfl rfl rfl fun kc hc => ?_  -- 22 := indexAddr 26 t20 t21
    simp [hxx]; refine hc _ ?_; clear hc kc
    refine D_op rfl rfl rfl rfl fun kc hc => ?_  -- 23 := load 84 t22
    simp; refine hc _ ?_; clear hc kc
    refine D_op rfl rfl rfl rfl fun kc hc => ?_  -- 24 := binOp 84 t19 != t23
    simp; refine hc _ ?_; clear hc kc
    refine D_end rfl (by kernel_rfl) (hn _ ?_); clear hn kn
    refine T_false (by simp) ?_  -- t24
    refine T_skip ?_
    refine X_blockN ?_
    refine T_then ?_
    -- region 8
    refine T_region (is := [0, 1]) rfl fun kn kp hn hp => ?_
    refine T_op rfl rfl fun kc hc => ?_  -- 25 := binOp 3 t13 + 1
    simp [ez]; refine hc _ ?_; clear hc kc
    refine T_op rfl rfl fun kc hc => ?_  -- 13 := move t25
    simp; refine hc _ ?_; clear hc kc
    refine T_end (hn _ ?_); clear hn hp kn kp
    exact X_loopN (z + 1) (Ent.sub [0, 1, 12, 13] [] (by simp [sub, subSl, subHp, place, mp, mpL, mpO, mpG, ez])) hz' (by omega)
  · skip
    have hz' : z = l.length := by simp at b2; omega
    refine T_exit ?_
    refine X_thenE ?_
    refine X_loopE ?_
    refine X_hit ?_
    refine T_then ?_
    refine T_seq ?_
    -- region 9
    refine T_region (is := [0]) rfl fun kn kp hn hp => ?_
    refine T_op rfl rfl fun kc hc => ?_  -- 4 := assign true
    simp; refine hc _ ?_; clear hc kc
    refine T_end (hn _ ?_); clear hn hp kn kp
    refine T_then ?_
    refine T_ret ?_
    exact finI (Ent.refl _) (by simp [resD, resL, resV]; rfl) (Ent.sub [] [] (by simp [sub, subSl, subHp, place, mp, mpL, mpO, mpG]; rfl)) rfl rfl (by simp)
-- slices.Equal[[]sizar/api.Clause,sizar/api.Clause]
theorem walk65 (l : List Clause) (hl : l.length ≤ 9223372036854775807) : Does Try.prog 65 [.sl 4 (l.map clauseD), .sl 4 (l.map clauseD)] (.dat (bV true)) [] := by
  refine Does.intro [.tmp 4] Try.func65 rfl (by kernel_rfl) Try.ntmps65 rfl (Nat.le_of_ble_eq_true rfl) ?_
  refine T_seq ?_
  -- region 0
  refine T_region (is := [0]) rfl fun kn kp hn hp => ?_
  refine T_op rfl rfl fun kc hc => ?_  -- 4 := assign false
  simp; refine hc _ ?_; clear hc kc
  refine T_end (hn _ ?_); clear hn hp kn kp
  refine T_then ?_
  refine T_seq ?_
  refine T_seq ?_
  -- region 1
  refine T_region (is := [0, 1, 2, 3, 4]) rfl fun kn kp hn hp => ?_
  refine T_op rfl rfl fun kc hc => ?_  -- 6 := move t0
  simp; refine hc _ ?_; clear hc kc
  refine T_op rfl rfl fun kc hc => ?_  -- 7 := call len (t6) [27]
  simp; refine hc _ ?_; clear hc kc
  refine T_op rfl rfl fun kc hc => ?_  -- 8 := move t1
  simp; refine hc _ ?_; clear hc kc
  refine T_op rfl rfl fun kc hc => ?_  -- 9 := call len (t8) [27]
  simp; refine hc _ ?_; clear hc kc
  refine T_op rfl rfl fun kc hc => ?_  -- 10 := binOp 3 t7 != t9
  simp; refine hc _ ?_; clear hc kc
  refine T_end (hn _ ?_); clear hn hp kn kp
  refine T_then ?_
  refine T_false (by simp) ?_  -- t10
  refine T_skip ?_
  refine T_then ?_
  refine T_seq ?_
  refine T_seq ?_
  -- region 3
  refine T_region (is := [0, 1, 2]) rfl fun kn kp hn hp => ?_
  refine T_op rfl rfl fun kc hc => ?_  -- 11 := move t0
  simp; refine hc _ ?_; clear hc kc
  refine T_op rfl rfl fun kc hc => ?_  -- 12 := call len (t11) [27]
  simp; refine hc _ ?_; clear hc kc
  refine T_op rfl rfl fun kc hc => ?_  -- 13 := move 0
  simp; refine hc _ ?_; clear hc kc
  refine T_end (hn _ ?_); clear hn hp kn kp
  refine T_then ?_
  refine T_block ?_  -- block 0
  refine T_loop (fun z : Nat => { sl := [(0, .dat (.sl 4 (l.map clauseD))), (1, .dat (.sl 4 (l.map clauseD))), (12, .dat (iD l.length)), (13, .dat (iD z))], hp := [], nx := 0 }) (fun z => z ≤ l.length) (fun z => l.length - z) 0 (Ent.sub [0, 1, 12, 13] [] (by simp [sub, subSl, subHp, place, mp, mpL, mpO, mpG])) (Nat.zero_le _) fun z hz => ?_  -- loop 0
  refine T_seq ?_
  -- region 4
  refine T_region (is := [0]) rfl fun kn kp hn hp => ?_
  refine T_op rfl rfl fun kc hc => ?_  -- 14 := binOp 3 t13 < t12
  simp; refine hc _ ?_; clear hc kc
  refine T_end (hn _ ?_); clear hn hp kn kp
  refine T_then ?_
  refine T_seq ?_
  refine T_cond rfl (fun b2 => ?_) (fun b2 => ?_)  -- t14
  · skip
    have hz' : z < l.length := by simpa using b2
    obtain ⟨x, hxx⟩ : ∃ x, l[z]? = some x := ⟨_, List.getElem?_eq_getElem hz'⟩
    have ez : IntKind.i64.wrap ((z : Int) + 1) = (z : Int) + 1 := wr1 hz' (by omega)
    refine T_skip ?_
    refine T_then ?_
    refine T_seq ?_
    refine T_block ?_  -- block 1
    refine T_seq ?_
    -- region 5
    refine T_region (is := [0, 1]) rfl fun kn kp hn hp => ?_
    refine T_op rfl rfl fun kc hc => ?_  -- 15 := move t13
    simp; refine hc _ ?_; clear hc kc
    refine T_op rfl rfl fun kc hc => ?_  -- 5 := assign t15
    simp; refine hc _ ?_; clear hc kc
    refine T_end (hn _ ?_); clear hn hp kn kp
    refine T_then ?_
    -- region 6, drawn
    refine T_seqDraw (is := [0, 1, 2, 3, 4, 5, 6, 7, 8]) rfl (by kernel_rfl) fun kn hn => ?_
    refine D_op rfl rfl rfl rfl fun kc hc => ?_  -- 16 := move t0
    simp; refine hc _ ?_; clear hc kc
    refine D_op rfl rfl rfl rfl fun kc hc => ?_  -- 17 := move t5
    simp; refine hc _ ?_; clear hc kc
    refine D_op rfl rfl rfl rfl fun kc hc => ?_  -- 18 := indexAddr 27 t16 t17
    simp [hxx]; refine hc _ ?_; clear hc kc
    refine D_op rfl rfl rfl rfl fun kc hc => ?_  -- 19 := load 109 t18
    simp; refine hc _ ?_; clear hc kc
    refine D_op rfl rfl rfl rfl fun kc hc => ?_  -- 20 := move t1
    simp; refine hc _ ?_; clear hc kc
    refine D_op rfl rfl rfl rfl fun kc hc => ?_  -- 21 := move t5
    simp; refine hc _ ?_; clear hc kc
    refine D_op rfl rfl rfl rfl fun kc hc => ?_  -- 22 := indexAddr 27 t20 t21
    simp [hxx]; refine hc _ ?_; clear hc kc
    refine D_op rfl rfl rfl rfl fun kc hc => ?_  -- 23 := load 109 t22
    simp; refine hc _ ?_; clear hc kc
    refine D_op rfl rfl rfl rfl fun kc hc => ?_  -- 24 := binOp 109 t19 != t23
    simp; refine hc _ ?_; clear hc kc
    refine D_end rfl (by kernel_rfl) (hn _ ?_); clear hn kn
    refine T_false (by simp) ?_  -- t24
    refine T_skip ?_
    refine X_blockN ?_
    refine T_then ?_
    -- region 8
    refine T_region (is := [0, 1]) rfl fun kn kp hn hp => ?_
    refine T_op rfl rfl fun kc hc => ?_  -- 25 := binOp 3 t13 + 1
    simp [ez]; refine hc _ ?_; clear hc kc
    refine T_op rfl rfl fun kc hc => ?_  -- 13 := move t25
    simp; refine hc _ ?_; clear hc kc
    refine T_end (hn _ ?_); clear hn hp kn kp
    exact X_loopN (z + 1) (Ent.sub [0, 1, 12, 13] [] (by simp [sub, subSl, subHp, place, mp, mpL, mpO, mpG, ez])) hz' (by omega)
  · skip
    have hz' : z = l.length := by simp at b2; omega
    refine T_exit ?_
    refine X_thenE ?_
    refine X_loopE ?_
    refine X_hit ?_
    refine T_then ?_
    refine T_seq ?_
    -- region 9
    refine T_region (is := [0]) rfl fun kn kp hn hp => ?_
    refine T_op rfl rfl fun kc hc => ?_  -- 4 := assign true
    simp; refine hc _ ?_; clear hc kc
    refine T_end (hn _ ?_); clear hn hp kn kp
    refine T_then ?_
    refine T_ret ?_
    exact finI (Ent.refl _) (by simp [resD, resL, resV]; rfl) (Ent.sub [] [] (by simp [sub, subSl, subHp, place, mp, mpL, mpO, mpG]; rfl)) rfl rfl (by simp)
-- END
-- WALK 59 60 62 82
-- slices.EqualFunc[[]sizar/api.Requirement,[]sizar/api.Requirement,sizar/api.Requirement,sizar/api.Requirement]
theorem walk59 (l : List Req) (g : FuncId) (caps : List Dat) (hg : ∀ x ∈ l, Does Try.prog g (.agg (reqD x) :: .agg (reqD x) :: caps) (.dat (bV true)) []) (hl : l.length ≤ 9223372036854775807) : Does Try.prog 59 [.sl 6 (l.map reqD), .sl 6 (l.map reqD), .fn g caps] (.dat (bV true)) [] := by
  refine Does.intro [.tmp 6] Try.func59 rfl (by kernel_rfl) Try.ntmps59 rfl (Nat.le_of_ble_eq_true rfl) ?_
  refine T_seq ?_
  -- region 0
  refine T_region (is := [0]) rfl fun kn kp hn hp => ?_
  refine T_op rfl rfl fun kc hc => ?_  -- 6 := assign false
  simp; refine hc _ ?_; clear hc kc
  refine T_end (hn _ ?_); clear hn hp kn kp
  refine T_then ?_
  refine T_seq ?_
  refine T_seq ?_
  -- region 1
  refine T_region (is := [0, 1, 2, 3, 4]) rfl fun kn kp hn hp => ?_
  refine T_op rfl rfl fun kc hc => ?_  -- 10 := move t0
  simp; refine hc _ ?_; clear hc kc
  refine T_op rfl rfl fun kc hc => ?_  -- 11 := call len (t10) [60]
  simp; refine hc _ ?_; clear hc kc
  refine T_op rfl rfl fun kc hc => ?_  -- 12 := move t1
  simp; refine hc _ ?_; clear hc kc
  refine T_op rfl rfl fun kc hc => ?_  -- 13 := call len (t12) [60]
  simp; refine hc _ ?_; clear hc kc
  refine T_op rfl rfl fun kc hc => ?_  -- 14 := binOp 3 t11 != t13
  simp; refine hc _ ?_; clear hc kc
  refine T_end (hn _ ?_); clear hn hp kn kp
  refine T_then ?_
  refine T_false (by simp) ?_  -- t14
  refine T_skip ?_
  refine T_then ?_
  refine T_seq ?_
  refine T_seq ?_
  -- region 3
  refine T_region (is := [0, 1, 2]) rfl fun kn kp hn hp => ?_
  refine T_op rfl rfl fun kc hc => ?_  -- 15 := move t0
  simp; refine hc _ ?_; clear hc kc
  refine T_op rfl rfl fun kc hc => ?_  -- 16 := call len (t15) [60]
  simp; refine hc _ ?_; clear hc kc
  refine T_op rfl rfl fun kc hc => ?_  -- 17 := move 0
  simp; refine hc _ ?_; clear hc kc
  refine T_end (hn _ ?_); clear hn hp kn kp
  refine T_then ?_
  refine T_block ?_  -- block 0
  refine T_loop (fun z : Nat => { sl := [(0, .dat (.sl 6 (l.map reqD))), (1, .dat (.sl 6 (l.map reqD))), (2, .dat (.fn g caps)), (15, .dat (.sl 6 (l.map reqD))), (16, .dat (iD l.length)), (17, .dat (iD z))], hp := [], nx := 0 }) (fun z => z ≤ l.length) (fun z => l.length - z) 0 (Ent.sub [0, 1, 2, 15, 16, 17] [] (by simp [sub, subSl, subHp, place, mp, mpL, mpO, mpG])) (Nat.zero_le _) fun z hz => ?_  -- loop 0
  refine T_seq ?_
  -- region 4
  refine T_region (is := [0]) rfl fun kn kp hn hp => ?_
  refine T_op rfl rfl fun kc hc => ?_  -- 18 := binOp 3 t17 < t16
  simp; refine hc _ ?_; clear hc kc
  refine T_end (hn _ ?_); clear hn hp kn kp
  refine T_then ?_
  refine T_seq ?_
  refine T_cond rfl (fun b2 => ?_) (fun b2 => ?_)  -- t18
  · skip
    have hz' : z < l.length := by simpa using b2
    obtain ⟨x, hxx⟩ : ∃ x, l[z]? = some x := ⟨_, List.getElem?_eq_getElem hz'⟩
    have ez : IntKind.i64.wrap ((z : Int) + 1) = (z : Int) + 1 := wr1 hz' (by omega)
    refine T_skip ?_
    refine T_then ?_
    refine T_seq ?_
    refine T_block ?_  -- block 1
    refine T_seq ?_
    -- region 5
    refine T_region (is := [0, 1, 2, 3, 4, 5]) rfl fun kn kp hn hp => ?_
    refine T_op rfl rfl fun kc hc => ?_  -- 19 := move t17
    simp; refine hc _ ?_; clear hc kc
    refine T_op rfl rfl fun kc hc => ?_  -- 20 := indexAddr 60 t15 t17
    simp [hxx]; refine hc _ ?_; clear hc kc
    refine T_op rfl rfl fun kc hc => ?_  -- 21 := load 64 t20
    simp; refine hc _ ?_; clear hc kc
    refine T_op rfl rfl fun kc hc => ?_  -- 8 := alloc 64
    simp; refine hc _ ?_; clear hc kc
    refine T_op rfl rfl fun kc hc => ?_  -- 7 := assign t19
    simp; refine hc _ ?_; clear hc kc
    refine T_op rfl rfl fun kc hc => ?_  -- None := store 64 t8 t21
    simp; refine hc _ ?_; clear hc kc
    refine T_end (hn _ ?_); clear hn hp kn kp
    refine T_then ?_
    refine T_seq ?_
    -- region 6
    refine T_region (is := [0, 1, 2, 3, 4, 5]) rfl fun kn kp hn hp => ?_
    refine T_op rfl rfl fun kc hc => ?_  -- 22 := move t1
    simp; refine hc _ ?_; clear hc kc
    refine T_op rfl rfl fun kc hc => ?_  -- 23 := move t7
    simp; refine hc _ ?_; clear hc kc
    refine T_op rfl rfl fun kc hc => ?_  -- 24 := indexAddr 60 t22 t23
    simp [hxx]; refine hc _ ?_; clear hc kc
    refine T_op rfl rfl fun kc hc => ?_  -- 25 := load 64 t24
    simp; refine hc _ ?_; clear hc kc
    refine T_op rfl rfl fun kc hc => ?_  -- 9 := alloc 64
    simp; refine hc _ ?_; clear hc kc
    refine T_op rfl rfl fun kc hc => ?_  -- None := store 64 t9 t25
    simp; refine hc _ ?_; clear hc kc
    refine T_end (hn _ ?_); clear hn hp kn kp
    refine T_then ?_
    refine T_seq ?_
    -- region 7
    refine T_region (is := [0, 1, 2, 3, 4]) rfl fun kn kp hn hp => ?_
    refine T_op rfl rfl fun kc hc => ?_  -- 26 := move t2
    simp; refine hc _ ?_; clear hc kc
    refine T_op rfl rfl fun kc hc => ?_  -- 27 := load 64 t8
    simp; refine hc _ ?_; clear hc kc
    refine T_op rfl rfl fun kc hc => ?_  -- 28 := load 64 t9
    simp; refine hc _ ?_; clear hc kc
    refine T_op rfl rfl fun kc hc => ?_  -- 29 := call value t26 (t27 t28) [64, 64]
    simp
    refine CallS.dat (hg x (List.mem_of_getElem? hxx)) (by simp [datL, datOf]) rfl rfl rfl ?_
    simp [enum]; refine hc _ ?_; clear hc kc
    refine T_op rfl rfl fun kc hc => ?_  -- 30 := unOp 4 t29
    simp; refine hc _ ?_; clear hc kc
    refine T_end (hn _ ?_); clear hn hp kn kp
    refine T_then ?_
    refine T_false (by simp) ?_  -- t30
    refine T_skip ?_
    refine X_blockN ?_
    refine T_then ?_
    -- region 9
    refine T_region (is := [0, 1]) rfl fun kn kp hn hp => ?_
    refine T_op rfl rfl fun kc hc => ?_  -- 31 := binOp 3 t17 + 1
    simp [ez]; refine hc _ ?_; clear hc kc
    refine T_op rfl rfl fun kc hc => ?_  -- 17 := move t31
    simp; refine hc _ ?_; clear hc kc
    refine T_end (hn _ ?_); clear hn hp kn kp
    exact X_loopN (z + 1) (Ent.sub [0, 1, 2, 15, 16, 17] [] (by simp [sub, subSl, subHp, place, mp, mpL, mpO, mpG, ez])) hz' (by omega)
  · skip
    have hz' : z = l.length := by simp at b2; omega
    refine T_exit ?_
    refine X_thenE ?_
    refine X_loopE ?_
    refine X_hit ?_
    refine T_then ?_
    refine T_seq ?_
    -- region 10
    refine T_region (is := [0]) rfl fun kn kp hn hp => ?_
    refine T_op rfl rfl fun kc hc => ?_  -- 6 := assign true
    simp; refine hc _ ?_; clear hc kc
    refine T_end (hn _ ?_); clear hn hp kn kp
    refine T_then ?_
    refine T_ret ?_
    exact finI (Ent.refl _) (by simp [resD, resL, resV]; rfl) (Ent.sub [] [] (by simp [sub, subSl, subHp, place, mp, mpL, mpO, mpG]; rfl)) rfl rfl (by simp)
-- slices.EqualFunc[[]sizar/api.Course,[]sizar/api.Course,sizar/api.Course,sizar/api.Course]
theorem walk60 (l : List Course) (g : FuncId) (caps : List Dat) (hg : ∀ x ∈ l, Does Try.prog g (.agg (courseD x) :: .agg (courseD x) :: caps) (.dat (bV true)) []) (hl : l.length ≤ 9223372036854775807) : Does Try.prog 60 [.sl 16 (l.map courseD), .sl 16 (l.map courseD), .fn g caps] (.dat (bV true)) [] := by
  refine Does.intro [.tmp 6] Try.func60 rfl (by kernel_rfl) Try.ntmps60 rfl (Nat.le_of_ble_eq_true rfl) ?_
  refine T_seq ?_
  -- region 0
  refine T_region (is := [0]) rfl fun kn kp hn hp => ?_
  refine T_op rfl rfl fun kc hc => ?_  -- 6 := assign false
  simp; refine hc _ ?_; clear hc kc
  refine T_end (hn _ ?_); clear hn hp kn kp
  refine T_then ?_
  refine T_seq ?_
  refine T_seq ?_
  -- region 1
  refine T_region (is := [0, 1, 2, 3, 4]) rfl fun kn kp hn hp => ?_
  refine T_op rfl rfl fun kc hc => ?_  -- 10 := move t0
  simp; refine hc _ ?_; clear hc kc
  refine T_op rfl rfl fun kc hc => ?_  -- 11 := call len (t10) [22]
  simp; refine hc _ ?_; clear hc kc
  refine T_op rfl rfl fun kc hc => ?_  -- 12 := move t1
  simp; refine hc _ ?_; clear hc kc
  refine T_op rfl rfl fun kc hc => ?_  -- 13 := call len (t12) [22]
  simp; refine hc _ ?_; clear hc kc
  refine T_op rfl rfl fun kc hc => ?_  -- 14 := binOp 3 t11 != t13
  simp; refine hc _ ?_; clear hc kc
  refine T_end (hn _ ?_); clear hn hp kn kp
  refine T_then ?_
  refine T_false (by simp) ?_  -- t14
  refine T_skip ?_
  refine T_then ?_
  refine T_seq ?_
  refine T_seq ?_
  -- region 3
  refine T_region (is := [0, 1, 2]) rfl fun kn kp hn hp => ?_
  refine T_op rfl rfl fun kc hc => ?_  -- 15 := move t0
  simp; refine hc _ ?_; clear hc kc
  refine T_op rfl rfl fun kc hc => ?_  -- 16 := call len (t15) [22]
  simp; refine hc _ ?_; clear hc kc
  refine T_op rfl rfl fun kc hc => ?_  -- 17 := move 0
  simp; refine hc _ ?_; clear hc kc
  refine T_end (hn _ ?_); clear hn hp kn kp
  refine T_then ?_
  refine T_block ?_  -- block 0
  refine T_loop (fun z : Nat => { sl := [(0, .dat (.sl 16 (l.map courseD))), (1, .dat (.sl 16 (l.map courseD))), (2, .dat (.fn g caps)), (15, .dat (.sl 16 (l.map courseD))), (16, .dat (iD l.length)), (17, .dat (iD z))], hp := [], nx := 0 }) (fun z => z ≤ l.length) (fun z => l.length - z) 0 (Ent.sub [0, 1, 2, 15, 16, 17] [] (by simp [sub, subSl, subHp, place, mp, mpL, mpO, mpG])) (Nat.zero_le _) fun z hz => ?_  -- loop 0
  refine T_seq ?_
  -- region 4
  refine T_region (is := [0]) rfl fun kn kp hn hp => ?_
  refine T_op rfl rfl fun kc hc => ?_  -- 18 := binOp 3 t17 < t16
  simp; refine hc _ ?_; clear hc kc
  refine T_end (hn _ ?_); clear hn hp kn kp
  refine T_then ?_
  refine T_seq ?_
  refine T_cond rfl (fun b2 => ?_) (fun b2 => ?_)  -- t18
  · skip
    have hz' : z < l.length := by simpa using b2
    obtain ⟨x, hxx⟩ : ∃ x, l[z]? = some x := ⟨_, List.getElem?_eq_getElem hz'⟩
    have ez : IntKind.i64.wrap ((z : Int) + 1) = (z : Int) + 1 := wr1 hz' (by omega)
    refine T_skip ?_
    refine T_then ?_
    refine T_seq ?_
    refine T_block ?_  -- block 1
    refine T_seq ?_
    -- region 5
    refine T_region (is := [0, 1, 2, 3, 4, 5]) rfl fun kn kp hn hp => ?_
    refine T_op rfl rfl fun kc hc => ?_  -- 19 := move t17
    simp; refine hc _ ?_; clear hc kc
    refine T_op rfl rfl fun kc hc => ?_  -- 20 := indexAddr 22 t15 t17
    simp [hxx]; refine hc _ ?_; clear hc kc
    refine T_op rfl rfl fun kc hc => ?_  -- 21 := load 41 t20
    simp; refine hc _ ?_; clear hc kc
    refine T_op rfl rfl fun kc hc => ?_  -- 8 := alloc 41
    simp; refine hc _ ?_; clear hc kc
    refine T_op rfl rfl fun kc hc => ?_  -- 7 := assign t19
    simp; refine hc _ ?_; clear hc kc
    refine T_op rfl rfl fun kc hc => ?_  -- None := store 41 t8 t21
    simp; refine hc _ ?_; clear hc kc
    refine T_end (hn _ ?_); clear hn hp kn kp
    refine T_then ?_
    refine T_seq ?_
    -- region 6
    refine T_region (is := [0, 1, 2, 3, 4, 5]) rfl fun kn kp hn hp => ?_
    refine T_op rfl rfl fun kc hc => ?_  -- 22 := move t1
    simp; refine hc _ ?_; clear hc kc
    refine T_op rfl rfl fun kc hc => ?_  -- 23 := move t7
    simp; refine hc _ ?_; clear hc kc
    refine T_op rfl rfl fun kc hc => ?_  -- 24 := indexAddr 22 t22 t23
    simp [hxx]; refine hc _ ?_; clear hc kc
    refine T_op rfl rfl fun kc hc => ?_  -- 25 := load 41 t24
    simp; refine hc _ ?_; clear hc kc
    refine T_op rfl rfl fun kc hc => ?_  -- 9 := alloc 41
    simp; refine hc _ ?_; clear hc kc
    refine T_op rfl rfl fun kc hc => ?_  -- None := store 41 t9 t25
    simp; refine hc _ ?_; clear hc kc
    refine T_end (hn _ ?_); clear hn hp kn kp
    refine T_then ?_
    refine T_seq ?_
    -- region 7
    refine T_region (is := [0, 1, 2, 3, 4]) rfl fun kn kp hn hp => ?_
    refine T_op rfl rfl fun kc hc => ?_  -- 26 := move t2
    simp; refine hc _ ?_; clear hc kc
    refine T_op rfl rfl fun kc hc => ?_  -- 27 := load 41 t8
    simp; refine hc _ ?_; clear hc kc
    refine T_op rfl rfl fun kc hc => ?_  -- 28 := load 41 t9
    simp; refine hc _ ?_; clear hc kc
    refine T_op rfl rfl fun kc hc => ?_  -- 29 := call value t26 (t27 t28) [41, 41]
    simp
    refine CallS.dat (hg x (List.mem_of_getElem? hxx)) (by simp [datL, datOf]) rfl rfl rfl ?_
    simp [enum]; refine hc _ ?_; clear hc kc
    refine T_op rfl rfl fun kc hc => ?_  -- 30 := unOp 4 t29
    simp; refine hc _ ?_; clear hc kc
    refine T_end (hn _ ?_); clear hn hp kn kp
    refine T_then ?_
    refine T_false (by simp) ?_  -- t30
    refine T_skip ?_
    refine X_blockN ?_
    refine T_then ?_
    -- region 9
    refine T_region (is := [0, 1]) rfl fun kn kp hn hp => ?_
    refine T_op rfl rfl fun kc hc => ?_  -- 31 := binOp 3 t17 + 1
    simp [ez]; refine hc _ ?_; clear hc kc
    refine T_op rfl rfl fun kc hc => ?_  -- 17 := move t31
    simp; refine hc _ ?_; clear hc kc
    refine T_end (hn _ ?_); clear hn hp kn kp
    exact X_loopN (z + 1) (Ent.sub [0, 1, 2, 15, 16, 17] [] (by simp [sub, subSl, subHp, place, mp, mpL, mpO, mpG, ez])) hz' (by omega)
  · skip
    have hz' : z = l.length := by simp at b2; omega
    refine T_exit ?_
    refine X_thenE ?_
    refine X_loopE ?_
    refine X_hit ?_
    refine T_then ?_
    refine T_seq ?_
    -- region 10
    refine T_region (is := [0]) rfl fun kn kp hn hp => ?_
    refine T_op rfl rfl fun kc hc => ?_  -- 6 := assign true
    simp; refine hc _ ?_; clear hc kc
    refine T_end (hn _ ?_); clear hn hp kn kp
    refine T_then ?_
    refine T_ret ?_
    exact finI (Ent.refl _) (by simp [resD, resL, resV]; rfl) (Ent.sub [] [] (by simp [sub, subSl, subHp, place, mp, mpL, mpO, mpG]; rfl)) rfl rfl (by simp)
-- slices.EqualFunc[[]sizar/api.Programme,[]sizar/api.Programme,sizar/api.Programme,sizar/api.Programme]
theorem walk62 (l : List Prog) (g : FuncId) (caps : List Dat) (hg : ∀ x ∈ l, Does Try.prog g (.agg (progD x) :: .agg (progD x) :: caps) (.dat (bV true)) []) (hl : l.length ≤ 9223372036854775807) : Does Try.prog 62 [.sl 7 (l.map progD), .sl 7 (l.map progD), .fn g caps] (.dat (bV true)) [] := by
  refine Does.intro [.tmp 6] Try.func62 rfl (by kernel_rfl) Try.ntmps62 rfl (Nat.le_of_ble_eq_true rfl) ?_
  refine T_seq ?_
  -- region 0
  refine T_region (is := [0]) rfl fun kn kp hn hp => ?_
  refine T_op rfl rfl fun kc hc => ?_  -- 6 := assign false
  simp; refine hc _ ?_; clear hc kc
  refine T_end (hn _ ?_); clear hn hp kn kp
  refine T_then ?_
  refine T_seq ?_
  refine T_seq ?_
  -- region 1
  refine T_region (is := [0, 1, 2, 3, 4]) rfl fun kn kp hn hp => ?_
  refine T_op rfl rfl fun kc hc => ?_  -- 10 := move t0
  simp; refine hc _ ?_; clear hc kc
  refine T_op rfl rfl fun kc hc => ?_  -- 11 := call len (t10) [24]
  simp; refine hc _ ?_; clear hc kc
  refine T_op rfl rfl fun kc hc => ?_  -- 12 := move t1
  simp; refine hc _ ?_; clear hc kc
  refine T_op rfl rfl fun kc hc => ?_  -- 13 := call len (t12) [24]
  simp; refine hc _ ?_; clear hc kc
  refine T_op rfl rfl fun kc hc => ?_  -- 14 := binOp 3 t11 != t13
  simp; refine hc _ ?_; clear hc kc
  refine T_end (hn _ ?_); clear hn hp kn kp
  refine T_then ?_
  refine T_false (by simp) ?_  -- t14
  refine T_skip ?_
  refine T_then ?_
  refine T_seq ?_
  refine T_seq ?_
  -- region 3
  refine T_region (is := [0, 1, 2]) rfl fun kn kp hn hp => ?_
  refine T_op rfl rfl fun kc hc => ?_  -- 15 := move t0
  simp; refine hc _ ?_; clear hc kc
  refine T_op rfl rfl fun kc hc => ?_  -- 16 := call len (t15) [24]
  simp; refine hc _ ?_; clear hc kc
  refine T_op rfl rfl fun kc hc => ?_  -- 17 := move 0
  simp; refine hc _ ?_; clear hc kc
  refine T_end (hn _ ?_); clear hn hp kn kp
  refine T_then ?_
  refine T_block ?_  -- block 0
  refine T_loop (fun z : Nat => { sl := [(0, .dat (.sl 7 (l.map progD))), (1, .dat (.sl 7 (l.map progD))), (2, .dat (.fn g caps)), (15, .dat (.sl 7 (l.map progD))), (16, .dat (iD l.length)), (17, .dat (iD z))], hp := [], nx := 0 }) (fun z => z ≤ l.length) (fun z => l.length - z) 0 (Ent.sub [0, 1, 2, 15, 16, 17] [] (by simp [sub, subSl, subHp, place, mp, mpL, mpO, mpG])) (Nat.zero_le _) fun z hz => ?_  -- loop 0
  refine T_seq ?_
  -- region 4
  refine T_region (is := [0]) rfl fun kn kp hn hp => ?_
  refine T_op rfl rfl fun kc hc => ?_  -- 18 := binOp 3 t17 < t16
  simp; refine hc _ ?_; clear hc kc
  refine T_end (hn _ ?_); clear hn hp kn kp
  refine T_then ?_
  refine T_seq ?_
  refine T_cond rfl (fun b2 => ?_) (fun b2 => ?_)  -- t18
  · skip
    have hz' : z < l.length := by simpa using b2
    obtain ⟨x, hxx⟩ : ∃ x, l[z]? = some x := ⟨_, List.getElem?_eq_getElem hz'⟩
    have ez : IntKind.i64.wrap ((z : Int) + 1) = (z : Int) + 1 := wr1 hz' (by omega)
    refine T_skip ?_
    refine T_then ?_
    refine T_seq ?_
    refine T_block ?_  -- block 1
    refine T_seq ?_
    -- region 5
    refine T_region (is := [0, 1, 2, 3, 4, 5]) rfl fun kn kp hn hp => ?_
    refine T_op rfl rfl fun kc hc => ?_  -- 19 := move t17
    simp; refine hc _ ?_; clear hc kc
    refine T_op rfl rfl fun kc hc => ?_  -- 20 := indexAddr 24 t15 t17
    simp [hxx]; refine hc _ ?_; clear hc kc
    refine T_op rfl rfl fun kc hc => ?_  -- 21 := load 62 t20
    simp; refine hc _ ?_; clear hc kc
    refine T_op rfl rfl fun kc hc => ?_  -- 8 := alloc 62
    simp; refine hc _ ?_; clear hc kc
    refine T_op rfl rfl fun kc hc => ?_  -- 7 := assign t19
    simp; refine hc _ ?_; clear hc kc
    refine T_op rfl rfl fun kc hc => ?_  -- None := store 62 t8 t21
    simp; refine hc _ ?_; clear hc kc
    refine T_end (hn _ ?_); clear hn hp kn kp
    refine T_then ?_
    refine T_seq ?_
    -- region 6
    refine T_region (is := [0, 1, 2, 3, 4, 5]) rfl fun kn kp hn hp => ?_
    refine T_op rfl rfl fun kc hc => ?_  -- 22 := move t1
    simp; refine hc _ ?_; clear hc kc
    refine T_op rfl rfl fun kc hc => ?_  -- 23 := move t7
    simp; refine hc _ ?_; clear hc kc
    refine T_op rfl rfl fun kc hc => ?_  -- 24 := indexAddr 24 t22 t23
    simp [hxx]; refine hc _ ?_; clear hc kc
    refine T_op rfl rfl fun kc hc => ?_  -- 25 := load 62 t24
    simp; refine hc _ ?_; clear hc kc
    refine T_op rfl rfl fun kc hc => ?_  -- 9 := alloc 62
    simp; refine hc _ ?_; clear hc kc
    refine T_op rfl rfl fun kc hc => ?_  -- None := store 62 t9 t25
    simp; refine hc _ ?_; clear hc kc
    refine T_end (hn _ ?_); clear hn hp kn kp
    refine T_then ?_
    refine T_seq ?_
    -- region 7
    refine T_region (is := [0, 1, 2, 3, 4]) rfl fun kn kp hn hp => ?_
    refine T_op rfl rfl fun kc hc => ?_  -- 26 := move t2
    simp; refine hc _ ?_; clear hc kc
    refine T_op rfl rfl fun kc hc => ?_  -- 27 := load 62 t8
    simp; refine hc _ ?_; clear hc kc
    refine T_op rfl rfl fun kc hc => ?_  -- 28 := load 62 t9
    simp; refine hc _ ?_; clear hc kc
    refine T_op rfl rfl fun kc hc => ?_  -- 29 := call value t26 (t27 t28) [62, 62]
    simp
    refine CallS.dat (hg x (List.mem_of_getElem? hxx)) (by simp [datL, datOf]) rfl rfl rfl ?_
    simp [enum]; refine hc _ ?_; clear hc kc
    refine T_op rfl rfl fun kc hc => ?_  -- 30 := unOp 4 t29
    simp; refine hc _ ?_; clear hc kc
    refine T_end (hn _ ?_); clear hn hp kn kp
    refine T_then ?_
    refine T_false (by simp) ?_  -- t30
    refine T_skip ?_
    refine X_blockN ?_
    refine T_then ?_
    -- region 9
    refine T_region (is := [0, 1]) rfl fun kn kp hn hp => ?_
    refine T_op rfl rfl fun kc hc => ?_  -- 31 := binOp 3 t17 + 1
    simp [ez]; refine hc _ ?_; clear hc kc
    refine T_op rfl rfl fun kc hc => ?_  -- 17 := move t31
    simp; refine hc _ ?_; clear hc kc
    refine T_end (hn _ ?_); clear hn hp kn kp
    exact X_loopN (z + 1) (Ent.sub [0, 1, 2, 15, 16, 17] [] (by simp [sub, subSl, subHp, place, mp, mpL, mpO, mpG, ez])) hz' (by omega)
  · skip
    have hz' : z = l.length := by simp at b2; omega
    refine T_exit ?_
    refine X_thenE ?_
    refine X_loopE ?_
    refine X_hit ?_
    refine T_then ?_
    refine T_seq ?_
    -- region 10
    refine T_region (is := [0]) rfl fun kn kp hn hp => ?_
    refine T_op rfl rfl fun kc hc => ?_  -- 6 := assign true
    simp; refine hc _ ?_; clear hc kc
    refine T_end (hn _ ?_); clear hn hp kn kp
    refine T_then ?_
    refine T_ret ?_
    exact finI (Ent.refl _) (by simp [resD, resL, resV]; rfl) (Ent.sub [] [] (by simp [sub, subSl, subHp, place, mp, mpL, mpO, mpG]; rfl)) rfl rfl (by simp)
-- slices.EqualFunc[[]sizar/api.Rule,[]sizar/api.Rule,sizar/api.Rule,sizar/api.Rule]
theorem walk82 (l : List Rule) (g : FuncId) (caps : List Dat) (hg : ∀ x ∈ l, Does Try.prog g (.agg (ruleD x) :: .agg (ruleD x) :: caps) (.dat (bV true)) []) (hl : l.length ≤ 9223372036854775807) : Does Try.prog 82 [.sl 6 (l.map ruleD), .sl 6 (l.map ruleD), .fn g caps] (.dat (bV true)) [] := by
  refine Does.intro [.tmp 6] Try.func82 rfl (by kernel_rfl) Try.ntmps82 rfl (Nat.le_of_ble_eq_true rfl) ?_
  refine T_seq ?_
  -- region 0
  refine T_region (is := [0]) rfl fun kn kp hn hp => ?_
  refine T_op rfl rfl fun kc hc => ?_  -- 6 := assign false
  simp; refine hc _ ?_; clear hc kc
  refine T_end (hn _ ?_); clear hn hp kn kp
  refine T_then ?_
  refine T_seq ?_
  refine T_seq ?_
  -- region 1
  refine T_region (is := [0, 1, 2, 3, 4]) rfl fun kn kp hn hp => ?_
  refine T_op rfl rfl fun kc hc => ?_  -- 10 := move t0
  simp; refine hc _ ?_; clear hc kc
  refine T_op rfl rfl fun kc hc => ?_  -- 11 := call len (t10) [37]
  simp; refine hc _ ?_; clear hc kc
  refine T_op rfl rfl fun kc hc => ?_  -- 12 := move t1
  simp; refine hc _ ?_; clear hc kc
  refine T_op rfl rfl fun kc hc => ?_  -- 13 := call len (t12) [37]
  simp; refine hc _ ?_; clear hc kc
  refine T_op rfl rfl fun kc hc => ?_  -- 14 := binOp 3 t11 != t13
  simp; refine hc _ ?_; clear hc kc
  refine T_end (hn _ ?_); clear hn hp kn kp
  refine T_then ?_
  refine T_false (by simp) ?_  -- t14
  refine T_skip ?_
  refine T_then ?_
  refine T_seq ?_
  refine T_seq ?_
  -- region 3
  refine T_region (is := [0, 1, 2]) rfl fun kn kp hn hp => ?_
  refine T_op rfl rfl fun kc hc => ?_  -- 15 := move t0
  simp; refine hc _ ?_; clear hc kc
  refine T_op rfl rfl fun kc hc => ?_  -- 16 := call len (t15) [37]
  simp; refine hc _ ?_; clear hc kc
  refine T_op rfl rfl fun kc hc => ?_  -- 17 := move 0
  simp; refine hc _ ?_; clear hc kc
  refine T_end (hn _ ?_); clear hn hp kn kp
  refine T_then ?_
  refine T_block ?_  -- block 0
  refine T_loop (fun z : Nat => { sl := [(0, .dat (.sl 6 (l.map ruleD))), (1, .dat (.sl 6 (l.map ruleD))), (2, .dat (.fn g caps)), (15, .dat (.sl 6 (l.map ruleD))), (16, .dat (iD l.length)), (17, .dat (iD z))], hp := [], nx := 0 }) (fun z => z ≤ l.length) (fun z => l.length - z) 0 (Ent.sub [0, 1, 2, 15, 16, 17] [] (by simp [sub, subSl, subHp, place, mp, mpL, mpO, mpG])) (Nat.zero_le _) fun z hz => ?_  -- loop 0
  refine T_seq ?_
  -- region 4
  refine T_region (is := [0]) rfl fun kn kp hn hp => ?_
  refine T_op rfl rfl fun kc hc => ?_  -- 18 := binOp 3 t17 < t16
  simp; refine hc _ ?_; clear hc kc
  refine T_end (hn _ ?_); clear hn hp kn kp
  refine T_then ?_
  refine T_seq ?_
  refine T_cond rfl (fun b2 => ?_) (fun b2 => ?_)  -- t18
  · skip
    have hz' : z < l.length := by simpa using b2
    obtain ⟨x, hxx⟩ : ∃ x, l[z]? = some x := ⟨_, List.getElem?_eq_getElem hz'⟩
    have ez : IntKind.i64.wrap ((z : Int) + 1) = (z : Int) + 1 := wr1 hz' (by omega)
    refine T_skip ?_
    refine T_then ?_
    refine T_seq ?_
    refine T_block ?_  -- block 1
    refine T_seq ?_
    -- region 5
    refine T_region (is := [0, 1, 2, 3, 4, 5]) rfl fun kn kp hn hp => ?_
    refine T_op rfl rfl fun kc hc => ?_  -- 19 := move t17
    simp; refine hc _ ?_; clear hc kc
    refine T_op rfl rfl fun kc hc => ?_  -- 20 := indexAddr 37 t15 t17
    simp [hxx]; refine hc _ ?_; clear hc kc
    refine T_op rfl rfl fun kc hc => ?_  -- 21 := load 39 t20
    simp; refine hc _ ?_; clear hc kc
    refine T_op rfl rfl fun kc hc => ?_  -- 8 := alloc 39
    simp; refine hc _ ?_; clear hc kc
    refine T_op rfl rfl fun kc hc => ?_  -- 7 := assign t19
    simp; refine hc _ ?_; clear hc kc
    refine T_op rfl rfl fun kc hc => ?_  -- None := store 39 t8 t21
    simp; refine hc _ ?_; clear hc kc
    refine T_end (hn _ ?_); clear hn hp kn kp
    refine T_then ?_
    refine T_seq ?_
    -- region 6
    refine T_region (is := [0, 1, 2, 3, 4, 5]) rfl fun kn kp hn hp => ?_
    refine T_op rfl rfl fun kc hc => ?_  -- 22 := move t1
    simp; refine hc _ ?_; clear hc kc
    refine T_op rfl rfl fun kc hc => ?_  -- 23 := move t7
    simp; refine hc _ ?_; clear hc kc
    refine T_op rfl rfl fun kc hc => ?_  -- 24 := indexAddr 37 t22 t23
    simp [hxx]; refine hc _ ?_; clear hc kc
    refine T_op rfl rfl fun kc hc => ?_  -- 25 := load 39 t24
    simp; refine hc _ ?_; clear hc kc
    refine T_op rfl rfl fun kc hc => ?_  -- 9 := alloc 39
    simp; refine hc _ ?_; clear hc kc
    refine T_op rfl rfl fun kc hc => ?_  -- None := store 39 t9 t25
    simp; refine hc _ ?_; clear hc kc
    refine T_end (hn _ ?_); clear hn hp kn kp
    refine T_then ?_
    refine T_seq ?_
    -- region 7
    refine T_region (is := [0, 1, 2, 3, 4]) rfl fun kn kp hn hp => ?_
    refine T_op rfl rfl fun kc hc => ?_  -- 26 := move t2
    simp; refine hc _ ?_; clear hc kc
    refine T_op rfl rfl fun kc hc => ?_  -- 27 := load 39 t8
    simp; refine hc _ ?_; clear hc kc
    refine T_op rfl rfl fun kc hc => ?_  -- 28 := load 39 t9
    simp; refine hc _ ?_; clear hc kc
    refine T_op rfl rfl fun kc hc => ?_  -- 29 := call value t26 (t27 t28) [39, 39]
    simp
    refine CallS.dat (hg x (List.mem_of_getElem? hxx)) (by simp [datL, datOf]) rfl rfl rfl ?_
    simp [enum]; refine hc _ ?_; clear hc kc
    refine T_op rfl rfl fun kc hc => ?_  -- 30 := unOp 4 t29
    simp; refine hc _ ?_; clear hc kc
    refine T_end (hn _ ?_); clear hn hp kn kp
    refine T_then ?_
    refine T_false (by simp) ?_  -- t30
    refine T_skip ?_
    refine X_blockN ?_
    refine T_then ?_
    -- region 9
    refine T_region (is := [0, 1]) rfl fun kn kp hn hp => ?_
    refine T_op rfl rfl fun kc hc => ?_  -- 31 := binOp 3 t17 + 1
    simp [ez]; refine hc _ ?_; clear hc kc
    refine T_op rfl rfl fun kc hc => ?_  -- 17 := move t31
    simp; refine hc _ ?_; clear hc kc
    refine T_end (hn _ ?_); clear hn hp kn kp
    exact X_loopN (z + 1) (Ent.sub [0, 1, 2, 15, 16, 17] [] (by simp [sub, subSl, subHp, place, mp, mpL, mpO, mpG, ez])) hz' (by omega)
  · skip
    have hz' : z = l.length := by simp at b2; omega
    refine T_exit ?_
    refine X_thenE ?_
    refine X_loopE ?_
    refine X_hit ?_
    refine T_then ?_
    refine T_seq ?_
    -- region 10
    refine T_region (is := [0]) rfl fun kn kp hn hp => ?_
    refine T_op rfl rfl fun kc hc => ?_  -- 6 := assign true
    simp; refine hc _ ?_; clear hc kc
    refine T_end (hn _ ?_); clear hn hp kn kp
    refine T_then ?_
    refine T_ret ?_
    exact finI (Ent.refl _) (by simp [resD, resL, resV]; rfl) (Ent.sub [] [] (by simp [sub, subSl, subHp, place, mp, mpL, mpO, mpG]; rfl)) rfl rfl (by simp)
-- END
-- WALK 54
-- sizar/syntax.sameRule
theorem step54 (r : Rule) (hr : (partsOf r).length ≤ 1048576) (ih : ∀ x : Rule, (partsOf x).length < (partsOf r).length → Does Try.prog 54 [.agg (ruleD x), .agg (ruleD x)] (.dat (bV true)) []) : Does Try.prog 54 [.agg (ruleD r), .agg (ruleD r)] (.dat (bV true)) [] := by
  have hre : (partsOf r).length = (partsL r.kids).length + 1 := by rw [partsOf_eq]; rfl
  have hkl := kids_le r.kids
  have w82 := walk82 r.kids 54 [] (fun x hx => by
    obtain ⟨i, hi⟩ := List.mem_iff_getElem?.1 hx
    have := partsL_len hi
    exact ih x (by omega)) (by omega)
  rw [← kidsD_map] at w82
  refine Does.intro [.tmp 4] Try.func54 rfl (by kernel_rfl) Try.ntmps54 rfl (Nat.le_of_ble_eq_true rfl) ?_
  refine T_seq ?_
  -- region 0
  refine T_region (is := [0, 1, 2]) rfl fun kn kp hn hp => ?_
  refine T_op rfl rfl fun kc hc => ?_  -- 2 := box 39 t0
  simp; refine hc _ ?_; clear hc kc
  refine T_op rfl rfl fun kc hc => ?_  -- 3 := box 39 t1
  simp; refine hc _ ?_; clear hc kc
  refine T_op rfl rfl fun kc hc => ?_  -- 4 := assign false
  simp; refine hc _ ?_; clear hc kc
  refine T_end (hn _ ?_); clear hn hp kn kp
  refine T_then ?_
  refine T_seq ?_
  -- region 1
  refine T_region (is := [0, 1, 2, 3, 4, 5, 6, 7, 8, 9, 10, 11, 12, 13, 14, 15, 16, 17, 18, 19, 20, 21, 22, 23, 24, 25, 26, 27, 28, 29, 30, 31, 32, 33, 34, 35, 36, 37, 38, 39, 40]) rfl fun kn kp hn hp => ?_
  refine T_op rfl rfl fun kc hc => ?_  -- 5 := fieldAddr 39 t2 0
  simp; refine hc _ ?_; clear hc kc
  refine T_op rfl rfl fun kc hc => ?_  -- 6 := load 3 t5
  simp; refine hc _ ?_; clear hc kc
  refine T_op rfl rfl fun kc hc => ?_  -- 7 := fieldAddr 39 t3 0
  simp; refine hc _ ?_; clear hc kc
  refine T_op rfl rfl fun kc hc => ?_  -- 8 := load 3 t7
  simp; refine hc _ ?_; clear hc kc
  refine T_op rfl rfl fun kc hc => ?_  -- 9 := binOp 3 t6 == t8
  simp; refine hc _ ?_; clear hc kc
  refine T_op rfl rfl fun kc hc => ?_  -- 10 := move t9
  simp; refine hc _ ?_; clear hc kc
  refine T_on rfl rfl rfl rfl rfl fun kc hc => ?_  -- 11 := fieldAddr 39 t2 1
  simp; refine hc _ ?_; clear hc kc
  refine T_on rfl rfl rfl rfl rfl fun kc hc => ?_  -- 12 := load 3 t11
  simp; refine hc _ ?_; clear hc kc
  refine T_on rfl rfl rfl rfl rfl fun kc hc => ?_  -- 13 := fieldAddr 39 t3 1
  simp; refine hc _ ?_; clear hc kc
  refine T_on rfl rfl rfl rfl rfl fun kc hc => ?_  -- 14 := load 3 t13
  simp; refine hc _ ?_; clear hc kc
  refine T_on rfl rfl rfl rfl rfl fun kc hc => ?_  -- 15 := binOp 3 t12 == t14
  simp; refine hc _ ?_; clear hc kc
  refine T_op rfl rfl fun kc hc => ?_  -- 16 := pick t10 t15 false
  simp; refine hc _ ?_; clear hc kc
  refine T_op rfl rfl fun kc hc => ?_  -- 17 := move t16
  simp; refine hc _ ?_; clear hc kc
  refine T_on rfl rfl rfl rfl rfl fun kc hc => ?_  -- 18 := fieldAddr 39 t2 2
  simp; refine hc _ ?_; clear hc kc
  refine T_on rfl rfl rfl rfl rfl fun kc hc => ?_  -- 19 := load 9 t18
  simp; refine hc _ ?_; clear hc kc
  refine T_on rfl rfl rfl rfl rfl fun kc hc => ?_  -- 20 := fieldAddr 39 t3 2
  simp; refine hc _ ?_; clear hc kc
  refine T_on rfl rfl rfl rfl rfl fun kc hc => ?_  -- 21 := load 9 t20
  simp; refine hc _ ?_; clear hc kc
  refine T_on rfl rfl rfl rfl rfl fun kc hc => ?_  -- 22 := binOp 9 t19 == t21
  simp; refine hc _ ?_; clear hc kc
  refine T_op rfl rfl fun kc hc => ?_  -- 23 := pick t17 t22 false
  simp; refine hc _ ?_; clear hc kc
  refine T_op rfl rfl fun kc hc => ?_  -- 24 := move t23
  simp; refine hc _ ?_; clear hc kc
  refine T_on rfl rfl rfl rfl rfl fun kc hc => ?_  -- 25 := fieldAddr 39 t2 3
  simp; refine hc _ ?_; clear hc kc
  refine T_on rfl rfl rfl rfl rfl fun kc hc => ?_  -- 26 := load 3 t25
  simp; refine hc _ ?_; clear hc kc
  refine T_on rfl rfl rfl rfl rfl fun kc hc => ?_  -- 27 := fieldAddr 39 t3 3
  simp; refine hc _ ?_; clear hc kc
  refine T_on rfl rfl rfl rfl rfl fun kc hc => ?_  -- 28 := load 3 t27
  simp; refine hc _ ?_; clear hc kc
  refine T_on rfl rfl rfl rfl rfl fun kc hc => ?_  -- 29 := binOp 3 t26 == t28
  simp; refine hc _ ?_; clear hc kc
  refine T_op rfl rfl fun kc hc => ?_  -- 30 := pick t24 t29 false
  simp; refine hc _ ?_; clear hc kc
  refine T_op rfl rfl fun kc hc => ?_  -- 31 := move t30
  simp; refine hc _ ?_; clear hc kc
  refine T_on rfl rfl rfl rfl rfl fun kc hc => ?_  -- 32 := fieldAddr 39 t2 4
  simp; refine hc _ ?_; clear hc kc
  refine T_on rfl rfl rfl rfl rfl fun kc hc => ?_  -- 33 := load 3 t32
  simp; refine hc _ ?_; clear hc kc
  refine T_on rfl rfl rfl rfl rfl fun kc hc => ?_  -- 34 := fieldAddr 39 t3 4
  simp; refine hc _ ?_; clear hc kc
  refine T_on rfl rfl rfl rfl rfl fun kc hc => ?_  -- 35 := load 3 t34
  simp; refine hc _ ?_; clear hc kc
  refine T_on rfl rfl rfl rfl rfl fun kc hc => ?_  -- 36 := binOp 3 t33 == t35
  simp; refine hc _ ?_; clear hc kc
  refine T_op rfl rfl fun kc hc => ?_  -- 37 := pick t31 t36 false
  simp; refine hc _ ?_; clear hc kc
  refine T_op rfl rfl fun kc hc => ?_  -- 38 := move t37
  simp; refine hc _ ?_; clear hc kc
  refine T_on rfl rfl rfl rfl rfl fun kc hc => ?_  -- 39 := fieldAddr 39 t2 5
  simp; refine hc _ ?_; clear hc kc
  refine T_on rfl rfl rfl rfl rfl fun kc hc => ?_  -- 40 := load 37 t39
  simp; refine hc _ ?_; clear hc kc
  refine T_on rfl rfl rfl rfl rfl fun kc hc => ?_  -- 41 := fieldAddr 39 t3 5
  simp; refine hc _ ?_; clear hc kc
  refine T_on rfl rfl rfl rfl rfl fun kc hc => ?_  -- 42 := load 37 t41
  simp; refine hc _ ?_; clear hc kc
  refine T_on rfl rfl rfl rfl rfl fun kc hc => ?_  -- 43 := call value F82 (t40 t42 F54) [37, 37, 96]
  simp
  refine CallS.dat (w82) (rfl) rfl rfl rfl ?_
  simp [enum]; refine hc _ ?_; clear hc kc
  refine T_op rfl rfl fun kc hc => ?_  -- 44 := pick t38 t43 false
  simp; refine hc _ ?_; clear hc kc
  refine T_op rfl rfl fun kc hc => ?_  -- 4 := assign t44
  simp; refine hc _ ?_; clear hc kc
  refine T_end (hn _ ?_); clear hn hp kn kp
  refine T_then ?_
  refine T_ret ?_
  exact finI (Ent.refl _) (by simp [resD, resL, resV]; rfl) (Ent.sub [] [] (by simp [sub, subSl, subHp, place, mp, mpL, mpO, mpG]; rfl)) rfl rfl (by simp)
-- END
theorem walk54 (r : Rule) (hr : (partsOf r).length ≤ 1048576) : Does Try.prog 54 [.agg (ruleD r), .agg (ruleD r)] (.dat (bV true)) [] := by
  obtain ⟨n, hm⟩ : ∃ n, (partsOf r).length = n := ⟨_, rfl⟩
  induction n using Nat.strongRecOn generalizing r with
  | ind n ih => exact step54 r hr fun x hx => ih _ (by omega) x (by omega) rfl
-- WALK 53 55 58 14
-- sizar/syntax.Same$1
theorem walk53 (y : Course) (h : (partsOf y.need).length ≤ 1048576 ∧ (partsOf y.bar).length ≤ 1048576) : Does Try.prog 53 [.agg (courseD y), .agg (courseD y)] (.dat (bV true)) [] := by
  refine Does.intro [.tmp 4] Try.func53 rfl (by kernel_rfl) Try.ntmps53 rfl (Nat.le_of_ble_eq_true rfl) ?_
  refine T_seq ?_
  -- region 0
  refine T_region (is := [0, 1, 2]) rfl fun kn kp hn hp => ?_
  refine T_op rfl rfl fun kc hc => ?_  -- 2 := box 41 t0
  simp; refine hc _ ?_; clear hc kc
  refine T_op rfl rfl fun kc hc => ?_  -- 3 := box 41 t1
  simp; refine hc _ ?_; clear hc kc
  refine T_op rfl rfl fun kc hc => ?_  -- 4 := assign false
  simp; refine hc _ ?_; clear hc kc
  refine T_end (hn _ ?_); clear hn hp kn kp
  refine T_then ?_
  refine T_seq ?_
  -- region 1
  refine T_region (is := [0, 1, 2, 3, 4, 5, 6, 7, 8, 9, 10, 11, 12, 13, 14, 15, 16, 17, 18, 19, 20, 21, 22, 23, 24, 25, 26, 27, 28, 29, 30, 31, 32, 33, 34, 35, 36, 37, 38, 39, 40]) rfl fun kn kp hn hp => ?_
  refine T_op rfl rfl fun kc hc => ?_  -- 5 := fieldAddr 41 t2 0
  simp; refine hc _ ?_; clear hc kc
  refine T_op rfl rfl fun kc hc => ?_  -- 6 := load 9 t5
  simp; refine hc _ ?_; clear hc kc
  refine T_op rfl rfl fun kc hc => ?_  -- 7 := fieldAddr 41 t3 0
  simp; refine hc _ ?_; clear hc kc
  refine T_op rfl rfl fun kc hc => ?_  -- 8 := load 9 t7
  simp; refine hc _ ?_; clear hc kc
  refine T_op rfl rfl fun kc hc => ?_  -- 9 := binOp 9 t6 == t8
  simp; refine hc _ ?_; clear hc kc
  refine T_op rfl rfl fun kc hc => ?_  -- 10 := move t9
  simp; refine hc _ ?_; clear hc kc
  refine T_on rfl rfl rfl rfl rfl fun kc hc => ?_  -- 11 := fieldAddr 41 t2 1
  simp; refine hc _ ?_; clear hc kc
  refine T_on rfl rfl rfl rfl rfl fun kc hc => ?_  -- 12 := load 3 t11
  simp; refine hc _ ?_; clear hc kc
  refine T_on rfl rfl rfl rfl rfl fun kc hc => ?_  -- 13 := fieldAddr 41 t3 1
  simp; refine hc _ ?_; clear hc kc
  refine T_on rfl rfl rfl rfl rfl fun kc hc => ?_  -- 14 := load 3 t13
  simp; refine hc _ ?_; clear hc kc
  refine T_on rfl rfl rfl rfl rfl fun kc hc => ?_  -- 15 := binOp 3 t12 == t14
  simp; refine hc _ ?_; clear hc kc
  refine T_op rfl rfl fun kc hc => ?_  -- 16 := pick t10 t15 false
  simp; refine hc _ ?_; clear hc kc
  refine T_op rfl rfl fun kc hc => ?_  -- 17 := move t16
  simp; refine hc _ ?_; clear hc kc
  refine T_on rfl rfl rfl rfl rfl fun kc hc => ?_  -- 18 := fieldAddr 41 t2 2
  simp; refine hc _ ?_; clear hc kc
  refine T_on rfl rfl rfl rfl rfl fun kc hc => ?_  -- 19 := load 3 t18
  simp; refine hc _ ?_; clear hc kc
  refine T_on rfl rfl rfl rfl rfl fun kc hc => ?_  -- 20 := fieldAddr 41 t3 2
  simp; refine hc _ ?_; clear hc kc
  refine T_on rfl rfl rfl rfl rfl fun kc hc => ?_  -- 21 := load 3 t20
  simp; refine hc _ ?_; clear hc kc
  refine T_on rfl rfl rfl rfl rfl fun kc hc => ?_  -- 22 := binOp 3 t19 == t21
  simp; refine hc _ ?_; clear hc kc
  refine T_op rfl rfl fun kc hc => ?_  -- 23 := pick t17 t22 false
  simp; refine hc _ ?_; clear hc kc
  refine T_op rfl rfl fun kc hc => ?_  -- 24 := move t23
  simp; refine hc _ ?_; clear hc kc
  refine T_on rfl rfl rfl rfl rfl fun kc hc => ?_  -- 25 := fieldAddr 41 t2 3
  simp; refine hc _ ?_; clear hc kc
  refine T_on rfl rfl rfl rfl rfl fun kc hc => ?_  -- 26 := load 3 t25
  simp; refine hc _ ?_; clear hc kc
  refine T_on rfl rfl rfl rfl rfl fun kc hc => ?_  -- 27 := fieldAddr 41 t3 3
  simp; refine hc _ ?_; clear hc kc
  refine T_on rfl rfl rfl rfl rfl fun kc hc => ?_  -- 28 := load 3 t27
  simp; refine hc _ ?_; clear hc kc
  refine T_on rfl rfl rfl rfl rfl fun kc hc => ?_  -- 29 := binOp 3 t26 == t28
  simp; refine hc _ ?_; clear hc kc
  refine T_op rfl rfl fun kc hc => ?_  -- 30 := pick t24 t29 false
  simp; refine hc _ ?_; clear hc kc
  refine T_op rfl rfl fun kc hc => ?_  -- 31 := move t30
  simp; refine hc _ ?_; clear hc kc
  refine T_on rfl rfl rfl rfl rfl fun kc hc => ?_  -- 32 := fieldAddr 41 t2 4
  simp; refine hc _ ?_; clear hc kc
  refine T_on rfl rfl rfl rfl rfl fun kc hc => ?_  -- 33 := load 39 t32
  simp; refine hc _ ?_; clear hc kc
  refine T_on rfl rfl rfl rfl rfl fun kc hc => ?_  -- 34 := fieldAddr 41 t3 4
  simp; refine hc _ ?_; clear hc kc
  refine T_on rfl rfl rfl rfl rfl fun kc hc => ?_  -- 35 := load 39 t34
  simp; refine hc _ ?_; clear hc kc
  refine T_on rfl rfl rfl rfl rfl fun kc hc => ?_  -- 36 := call value F54 (t33 t35) [39, 39]
  simp
  refine CallS.dat (walk54 y.need h.1) (rfl) rfl rfl rfl ?_
  simp [enum]; refine hc _ ?_; clear hc kc
  refine T_op rfl rfl fun kc hc => ?_  -- 37 := pick t31 t36 false
  simp; refine hc _ ?_; clear hc kc
  refine T_op rfl rfl fun kc hc => ?_  -- 38 := move t37
  simp; refine hc _ ?_; clear hc kc
  refine T_on rfl rfl rfl rfl rfl fun kc hc => ?_  -- 39 := fieldAddr 41 t2 5
  simp; refine hc _ ?_; clear hc kc
  refine T_on rfl rfl rfl rfl rfl fun kc hc => ?_  -- 40 := load 39 t39
  simp; refine hc _ ?_; clear hc kc
  refine T_on rfl rfl rfl rfl rfl fun kc hc => ?_  -- 41 := fieldAddr 41 t3 5
  simp; refine hc _ ?_; clear hc kc
  refine T_on rfl rfl rfl rfl rfl fun kc hc => ?_  -- 42 := load 39 t41
  simp; refine hc _ ?_; clear hc kc
  refine T_on rfl rfl rfl rfl rfl fun kc hc => ?_  -- 43 := call value F54 (t40 t42) [39, 39]
  simp
  refine CallS.dat (walk54 y.bar h.2) (rfl) rfl rfl rfl ?_
  simp [enum]; refine hc _ ?_; clear hc kc
  refine T_op rfl rfl fun kc hc => ?_  -- 44 := pick t38 t43 false
  simp; refine hc _ ?_; clear hc kc
  refine T_op rfl rfl fun kc hc => ?_  -- 4 := assign t44
  simp; refine hc _ ?_; clear hc kc
  refine T_end (hn _ ?_); clear hn hp kn kp
  refine T_then ?_
  refine T_ret ?_
  exact finI (Ent.refl _) (by simp [resD, resL, resV]; rfl) (Ent.sub [] [] (by simp [sub, subSl, subHp, place, mp, mpL, mpO, mpG]; rfl)) rfl rfl (by simp)
-- sizar/syntax.Same$2
theorem walk55 (q : Req) (h : q.names.length ≤ 1048576 ∧ q.frm.length ≤ 1048576) : Does Try.prog 55 [.agg (reqD q), .agg (reqD q)] (.dat (bV true)) [] := by
  refine Does.intro [.tmp 4] Try.func55 rfl (by kernel_rfl) Try.ntmps55 rfl (Nat.le_of_ble_eq_true rfl) ?_
  refine T_seq ?_
  -- region 0
  refine T_region (is := [0, 1, 2]) rfl fun kn kp hn hp => ?_
  refine T_op rfl rfl fun kc hc => ?_  -- 2 := box 64 t0
  simp; refine hc _ ?_; clear hc kc
  refine T_op rfl rfl fun kc hc => ?_  -- 3 := box 64 t1
  simp; refine hc _ ?_; clear hc kc
  refine T_op rfl rfl fun kc hc => ?_  -- 4 := assign false
  simp; refine hc _ ?_; clear hc kc
  refine T_end (hn _ ?_); clear hn hp kn kp
  refine T_then ?_
  refine T_seq ?_
  -- region 1
  refine T_region (is := [0, 1, 2, 3, 4, 5, 6, 7, 8, 9, 10, 11, 12, 13, 14, 15, 16, 17, 18, 19, 20, 21, 22, 23, 24, 25, 26, 27, 28, 29, 30, 31, 32, 33, 34, 35, 36, 37, 38, 39, 40]) rfl fun kn kp hn hp => ?_
  refine T_op rfl rfl fun kc hc => ?_  -- 5 := fieldAddr 64 t2 0
  simp; refine hc _ ?_; clear hc kc
  refine T_op rfl rfl fun kc hc => ?_  -- 6 := load 9 t5
  simp; refine hc _ ?_; clear hc kc
  refine T_op rfl rfl fun kc hc => ?_  -- 7 := fieldAddr 64 t3 0
  simp; refine hc _ ?_; clear hc kc
  refine T_op rfl rfl fun kc hc => ?_  -- 8 := load 9 t7
  simp; refine hc _ ?_; clear hc kc
  refine T_op rfl rfl fun kc hc => ?_  -- 9 := binOp 9 t6 == t8
  simp; refine hc _ ?_; clear hc kc
  refine T_op rfl rfl fun kc hc => ?_  -- 10 := move t9
  simp; refine hc _ ?_; clear hc kc
  refine T_on rfl rfl rfl rfl rfl fun kc hc => ?_  -- 11 := fieldAddr 64 t2 1
  simp; refine hc _ ?_; clear hc kc
  refine T_on rfl rfl rfl rfl rfl fun kc hc => ?_  -- 12 := load 3 t11
  simp; refine hc _ ?_; clear hc kc
  refine T_on rfl rfl rfl rfl rfl fun kc hc => ?_  -- 13 := fieldAddr 64 t3 1
  simp; refine hc _ ?_; clear hc kc
  refine T_on rfl rfl rfl rfl rfl fun kc hc => ?_  -- 14 := load 3 t13
  simp; refine hc _ ?_; clear hc kc
  refine T_on rfl rfl rfl rfl rfl fun kc hc => ?_  -- 15 := binOp 3 t12 == t14
  simp; refine hc _ ?_; clear hc kc
  refine T_op rfl rfl fun kc hc => ?_  -- 16 := pick t10 t15 false
  simp; refine hc _ ?_; clear hc kc
  refine T_op rfl rfl fun kc hc => ?_  -- 17 := move t16
  simp; refine hc _ ?_; clear hc kc
  refine T_on rfl rfl rfl rfl rfl fun kc hc => ?_  -- 18 := fieldAddr 64 t2 2
  simp; refine hc _ ?_; clear hc kc
  refine T_on rfl rfl rfl rfl rfl fun kc hc => ?_  -- 19 := load 3 t18
  simp; refine hc _ ?_; clear hc kc
  refine T_on rfl rfl rfl rfl rfl fun kc hc => ?_  -- 20 := fieldAddr 64 t3 2
  simp; refine hc _ ?_; clear hc kc
  refine T_on rfl rfl rfl rfl rfl fun kc hc => ?_  -- 21 := load 3 t20
  simp; refine hc _ ?_; clear hc kc
  refine T_on rfl rfl rfl rfl rfl fun kc hc => ?_  -- 22 := binOp 3 t19 == t21
  simp; refine hc _ ?_; clear hc kc
  refine T_op rfl rfl fun kc hc => ?_  -- 23 := pick t17 t22 false
  simp; refine hc _ ?_; clear hc kc
  refine T_op rfl rfl fun kc hc => ?_  -- 24 := move t23
  simp; refine hc _ ?_; clear hc kc
  refine T_on rfl rfl rfl rfl rfl fun kc hc => ?_  -- 25 := fieldAddr 64 t2 3
  simp; refine hc _ ?_; clear hc kc
  refine T_on rfl rfl rfl rfl rfl fun kc hc => ?_  -- 26 := load 4 t25
  simp; refine hc _ ?_; clear hc kc
  refine T_on rfl rfl rfl rfl rfl fun kc hc => ?_  -- 27 := fieldAddr 64 t3 3
  simp; refine hc _ ?_; clear hc kc
  refine T_on rfl rfl rfl rfl rfl fun kc hc => ?_  -- 28 := load 4 t27
  simp; refine hc _ ?_; clear hc kc
  refine T_on rfl rfl rfl rfl rfl fun kc hc => ?_  -- 29 := binOp 4 t26 == t28
  simp; refine hc _ ?_; clear hc kc
  refine T_op rfl rfl fun kc hc => ?_  -- 30 := pick t24 t29 false
  simp; refine hc _ ?_; clear hc kc
  refine T_op rfl rfl fun kc hc => ?_  -- 31 := move t30
  simp; refine hc _ ?_; clear hc kc
  refine T_on rfl rfl rfl rfl rfl fun kc hc => ?_  -- 32 := fieldAddr 64 t2 4
  simp; refine hc _ ?_; clear hc kc
  refine T_on rfl rfl rfl rfl rfl fun kc hc => ?_  -- 33 := load 36 t32
  simp; refine hc _ ?_; clear hc kc
  refine T_on rfl rfl rfl rfl rfl fun kc hc => ?_  -- 34 := fieldAddr 64 t3 4
  simp; refine hc _ ?_; clear hc kc
  refine T_on rfl rfl rfl rfl rfl fun kc hc => ?_  -- 35 := load 36 t34
  simp; refine hc _ ?_; clear hc kc
  refine T_on rfl rfl rfl rfl rfl fun kc hc => ?_  -- 36 := call value F56 (t33 t35) [36, 36]
  simp
  refine CallS.dat (walk56 q.names (by omega)) (rfl) rfl rfl rfl ?_
  simp [enum]; refine hc _ ?_; clear hc kc
  refine T_op rfl rfl fun kc hc => ?_  -- 37 := pick t31 t36 false
  simp; refine hc _ ?_; clear hc kc
  refine T_op rfl rfl fun kc hc => ?_  -- 38 := move t37
  simp; refine hc _ ?_; clear hc kc
  refine T_on rfl rfl rfl rfl rfl fun kc hc => ?_  -- 39 := fieldAddr 64 t2 5
  simp; refine hc _ ?_; clear hc kc
  refine T_on rfl rfl rfl rfl rfl fun kc hc => ?_  -- 40 := load 45 t39
  simp; refine hc _ ?_; clear hc kc
  refine T_on rfl rfl rfl rfl rfl fun kc hc => ?_  -- 41 := fieldAddr 64 t3 5
  simp; refine hc _ ?_; clear hc kc
  refine T_on rfl rfl rfl rfl rfl fun kc hc => ?_  -- 42 := load 45 t41
  simp; refine hc _ ?_; clear hc kc
  refine T_on rfl rfl rfl rfl rfl fun kc hc => ?_  -- 43 := call value F57 (t40 t42) [45, 45]
  simp
  refine CallS.dat (walk57 q.frm (by omega)) (rfl) rfl rfl rfl ?_
  simp [enum]; refine hc _ ?_; clear hc kc
  refine T_op rfl rfl fun kc hc => ?_  -- 44 := pick t38 t43 false
  simp; refine hc _ ?_; clear hc kc
  refine T_op rfl rfl fun kc hc => ?_  -- 4 := assign t44
  simp; refine hc _ ?_; clear hc kc
  refine T_end (hn _ ?_); clear hn hp kn kp
  refine T_then ?_
  refine T_ret ?_
  exact finI (Ent.refl _) (by simp [resD, resL, resV]; rfl) (Ent.sub [] [] (by simp [sub, subSl, subHp, place, mp, mpL, mpO, mpG]; rfl)) rfl rfl (by simp)
-- sizar/syntax.Same$3
theorem walk58 (p : Prog) (h : p.reqs.length ≤ 1048576 ∧ ∀ q ∈ p.reqs, q.names.length ≤ 1048576 ∧ q.frm.length ≤ 1048576) : Does Try.prog 58 [.agg (progD p), .agg (progD p), .ref [.fn 55 []]] (.dat (bV true)) [] := by
  refine Does.intro [.tmp 5] Try.func58 rfl (by kernel_rfl) Try.ntmps58 rfl (Nat.le_of_ble_eq_true rfl) ?_
  refine T_seq ?_
  -- region 0
  refine T_region (is := [0, 1, 2]) rfl fun kn kp hn hp => ?_
  refine T_op rfl rfl fun kc hc => ?_  -- 3 := box 62 t0
  simp; refine hc _ ?_; clear hc kc
  refine T_op rfl rfl fun kc hc => ?_  -- 4 := box 62 t1
  simp; refine hc _ ?_; clear hc kc
  refine T_op rfl rfl fun kc hc => ?_  -- 5 := assign false
  simp; refine hc _ ?_; clear hc kc
  refine T_end (hn _ ?_); clear hn hp kn kp
  refine T_then ?_
  refine T_seq ?_
  -- region 1
  refine T_region (is := [0, 1, 2, 3, 4, 5, 6, 7, 8, 9, 10, 11, 12, 13, 14, 15, 16, 17, 18, 19, 20, 21, 22, 23, 24, 25, 26, 27, 28, 29, 30, 31, 32, 33, 34, 35, 36, 37, 38, 39, 40, 41]) rfl fun kn kp hn hp => ?_
  refine T_op rfl rfl fun kc hc => ?_  -- 6 := fieldAddr 62 t3 0
  simp; refine hc _ ?_; clear hc kc
  refine T_op rfl rfl fun kc hc => ?_  -- 7 := load 9 t6
  simp; refine hc _ ?_; clear hc kc
  refine T_op rfl rfl fun kc hc => ?_  -- 8 := fieldAddr 62 t4 0
  simp; refine hc _ ?_; clear hc kc
  refine T_op rfl rfl fun kc hc => ?_  -- 9 := load 9 t8
  simp; refine hc _ ?_; clear hc kc
  refine T_op rfl rfl fun kc hc => ?_  -- 10 := binOp 9 t7 == t9
  simp; refine hc _ ?_; clear hc kc
  refine T_op rfl rfl fun kc hc => ?_  -- 11 := move t10
  simp; refine hc _ ?_; clear hc kc
  refine T_on rfl rfl rfl rfl rfl fun kc hc => ?_  -- 12 := fieldAddr 62 t3 1
  simp; refine hc _ ?_; clear hc kc
  refine T_on rfl rfl rfl rfl rfl fun kc hc => ?_  -- 13 := load 3 t12
  simp; refine hc _ ?_; clear hc kc
  refine T_on rfl rfl rfl rfl rfl fun kc hc => ?_  -- 14 := fieldAddr 62 t4 1
  simp; refine hc _ ?_; clear hc kc
  refine T_on rfl rfl rfl rfl rfl fun kc hc => ?_  -- 15 := load 3 t14
  simp; refine hc _ ?_; clear hc kc
  refine T_on rfl rfl rfl rfl rfl fun kc hc => ?_  -- 16 := binOp 3 t13 == t15
  simp; refine hc _ ?_; clear hc kc
  refine T_op rfl rfl fun kc hc => ?_  -- 17 := pick t11 t16 false
  simp; refine hc _ ?_; clear hc kc
  refine T_op rfl rfl fun kc hc => ?_  -- 18 := move t17
  simp; refine hc _ ?_; clear hc kc
  refine T_on rfl rfl rfl rfl rfl fun kc hc => ?_  -- 19 := fieldAddr 62 t3 2
  simp; refine hc _ ?_; clear hc kc
  refine T_on rfl rfl rfl rfl rfl fun kc hc => ?_  -- 20 := load 3 t19
  simp; refine hc _ ?_; clear hc kc
  refine T_on rfl rfl rfl rfl rfl fun kc hc => ?_  -- 21 := fieldAddr 62 t4 2
  simp; refine hc _ ?_; clear hc kc
  refine T_on rfl rfl rfl rfl rfl fun kc hc => ?_  -- 22 := load 3 t21
  simp; refine hc _ ?_; clear hc kc
  refine T_on rfl rfl rfl rfl rfl fun kc hc => ?_  -- 23 := binOp 3 t20 == t22
  simp; refine hc _ ?_; clear hc kc
  refine T_op rfl rfl fun kc hc => ?_  -- 24 := pick t18 t23 false
  simp; refine hc _ ?_; clear hc kc
  refine T_op rfl rfl fun kc hc => ?_  -- 25 := move t24
  simp; refine hc _ ?_; clear hc kc
  refine T_on rfl rfl rfl rfl rfl fun kc hc => ?_  -- 26 := fieldAddr 62 t3 3
  simp; refine hc _ ?_; clear hc kc
  refine T_on rfl rfl rfl rfl rfl fun kc hc => ?_  -- 27 := load 3 t26
  simp; refine hc _ ?_; clear hc kc
  refine T_on rfl rfl rfl rfl rfl fun kc hc => ?_  -- 28 := fieldAddr 62 t4 3
  simp; refine hc _ ?_; clear hc kc
  refine T_on rfl rfl rfl rfl rfl fun kc hc => ?_  -- 29 := load 3 t28
  simp; refine hc _ ?_; clear hc kc
  refine T_on rfl rfl rfl rfl rfl fun kc hc => ?_  -- 30 := binOp 3 t27 == t29
  simp; refine hc _ ?_; clear hc kc
  refine T_op rfl rfl fun kc hc => ?_  -- 31 := pick t25 t30 false
  simp; refine hc _ ?_; clear hc kc
  refine T_op rfl rfl fun kc hc => ?_  -- 32 := move t31
  simp; refine hc _ ?_; clear hc kc
  refine T_on rfl rfl rfl rfl rfl fun kc hc => ?_  -- 33 := fieldAddr 62 t3 4
  simp; refine hc _ ?_; clear hc kc
  refine T_on rfl rfl rfl rfl rfl fun kc hc => ?_  -- 34 := load 59 t33
  simp; refine hc _ ?_; clear hc kc
  refine T_on rfl rfl rfl rfl rfl fun kc hc => ?_  -- 35 := fieldAddr 62 t4 4
  simp; refine hc _ ?_; clear hc kc
  refine T_on rfl rfl rfl rfl rfl fun kc hc => ?_  -- 36 := load 59 t35
  simp; refine hc _ ?_; clear hc kc
  refine T_on rfl rfl rfl rfl rfl fun kc hc => ?_  -- 37 := binOp 59 t34 == t36
  simp; refine hc _ ?_; clear hc kc
  refine T_op rfl rfl fun kc hc => ?_  -- 38 := pick t32 t37 false
  simp; refine hc _ ?_; clear hc kc
  refine T_op rfl rfl fun kc hc => ?_  -- 39 := move t38
  simp; refine hc _ ?_; clear hc kc
  refine T_on rfl rfl rfl rfl rfl fun kc hc => ?_  -- 40 := fieldAddr 62 t3 5
  simp; refine hc _ ?_; clear hc kc
  refine T_on rfl rfl rfl rfl rfl fun kc hc => ?_  -- 41 := load 60 t40
  simp; refine hc _ ?_; clear hc kc
  refine T_on rfl rfl rfl rfl rfl fun kc hc => ?_  -- 42 := fieldAddr 62 t4 5
  simp; refine hc _ ?_; clear hc kc
  refine T_on rfl rfl rfl rfl rfl fun kc hc => ?_  -- 43 := load 60 t42
  simp; refine hc _ ?_; clear hc kc
  refine T_on rfl rfl rfl rfl rfl fun kc hc => ?_  -- 44 := load 99 t2
  simp; refine hc _ ?_; clear hc kc
  refine T_on rfl rfl rfl rfl rfl fun kc hc => ?_  -- 45 := call value F59 (t41 t43 t44) [60, 60, 99]
  simp
  refine CallS.dat (walk59 p.reqs 55 [] (fun q hq => walk55 q (h.2 q hq)) (by omega)) (rfl) rfl rfl rfl ?_
  simp [enum]; refine hc _ ?_; clear hc kc
  refine T_op rfl rfl fun kc hc => ?_  -- 46 := pick t39 t45 false
  simp; refine hc _ ?_; clear hc kc
  refine T_op rfl rfl fun kc hc => ?_  -- 5 := assign t46
  simp; refine hc _ ?_; clear hc kc
  refine T_end (hn _ ?_); clear hn hp kn kp
  refine T_then ?_
  refine T_ret ?_
  exact finI (Ent.refl _) (by simp [resD, resL, resV]; rfl) (Ent.sub [] [] (by simp [sub, subSl, subHp, place, mp, mpL, mpO, mpG]; rfl)) rfl rfl (by simp)
-- sizar/syntax.Same
theorem walk14 (c : Cat) (hf : c.fit) : Does Try.prog 14 [.agg (catD c), .agg (catD c)] (.dat (bV true)) [] := by
  have h1 := hf.courses
  have h2 := hf.progs
  have h3 := hf.classes
  have h4 := hf.fees
  have h5 := hf.honours
  have h6 := hf.clauses
  have h7 := hf.same
  refine Does.intro [.tmp 4] Try.func14 rfl (by kernel_rfl) Try.ntmps14 rfl (Nat.le_of_ble_eq_true rfl) ?_
  refine T_seq ?_
  -- region 0
  refine T_region (is := [0, 1, 2]) rfl fun kn kp hn hp => ?_
  refine T_op rfl rfl fun kc hc => ?_  -- 2 := box 29 t0
  simp; refine hc _ ?_; clear hc kc
  refine T_op rfl rfl fun kc hc => ?_  -- 3 := box 29 t1
  simp; refine hc _ ?_; clear hc kc
  refine T_op rfl rfl fun kc hc => ?_  -- 4 := assign false
  simp; refine hc _ ?_; clear hc kc
  refine T_end (hn _ ?_); clear hn hp kn kp
  refine T_then ?_
  refine T_seq ?_
  -- region 1
  refine T_region (is := [0]) rfl fun kn kp hn hp => ?_
  refine T_op rfl rfl fun kc hc => ?_  -- 5 := assign F53
  simp; refine hc _ ?_; clear hc kc
  refine T_end (hn _ ?_); clear hn hp kn kp
  refine T_then ?_
  refine T_seq ?_
  -- region 2
  refine T_region (is := [0, 1]) rfl fun kn kp hn hp => ?_
  refine T_op rfl rfl fun kc hc => ?_  -- 6 := alloc 99
  simp; refine hc _ ?_; clear hc kc
  refine T_op rfl rfl fun kc hc => ?_  -- None := store 99 t6 F55
  simp; refine hc _ ?_; clear hc kc
  refine T_end (hn _ ?_); clear hn hp kn kp
  refine T_then ?_
  refine T_seq ?_
  -- region 3
  refine T_region (is := [0, 1]) rfl fun kn kp hn hp => ?_
  refine T_op rfl rfl fun kc hc => ?_  -- 8 := makeFunc F58 first  caps t6
  simp; refine hc _ ?_; clear hc kc
  refine T_op rfl rfl fun kc hc => ?_  -- 7 := assign t8
  simp; refine hc _ ?_; clear hc kc
  refine T_end (hn _ ?_); clear hn hp kn kp
  refine T_then ?_
  refine T_seq ?_
  -- region 4
  refine T_region (is := [0, 1, 2, 3, 4, 5, 6, 7, 8, 9, 10, 11, 12, 13, 14, 15, 16, 17, 18, 19, 20, 21, 22, 23, 24, 25, 26, 27, 28, 29, 30, 31, 32, 33, 34, 35, 36, 37, 38, 39, 40, 41, 42, 43, 44, 45, 46, 47, 48, 49]) rfl fun kn kp hn hp => ?_
  refine T_op rfl rfl fun kc hc => ?_  -- 9 := fieldAddr 29 t2 0
  simp; refine hc _ ?_; clear hc kc
  refine T_op rfl rfl fun kc hc => ?_  -- 10 := load 22 t9
  simp; refine hc _ ?_; clear hc kc
  refine T_op rfl rfl fun kc hc => ?_  -- 11 := fieldAddr 29 t3 0
  simp; refine hc _ ?_; clear hc kc
  refine T_op rfl rfl fun kc hc => ?_  -- 12 := load 22 t11
  simp; refine hc _ ?_; clear hc kc
  refine T_op rfl rfl fun kc hc => ?_  -- 13 := move t5
  simp; refine hc _ ?_; clear hc kc
  refine T_op rfl rfl fun kc hc => ?_  -- 14 := call value F60 (t10 t12 t13) [22, 22, 97]
  simp
  refine CallS.dat (walk60 c.courses 53 [] (fun y hy => walk53 y (hf.need y hy)) (by omega)) (rfl) rfl rfl rfl ?_
  simp [enum]; refine hc _ ?_; clear hc kc
  refine T_op rfl rfl fun kc hc => ?_  -- 15 := move t14
  simp; refine hc _ ?_; clear hc kc
  refine T_on rfl rfl rfl rfl rfl fun kc hc => ?_  -- 16 := fieldAddr 29 t2 1
  simp; refine hc _ ?_; clear hc kc
  refine T_on rfl rfl rfl rfl rfl fun kc hc => ?_  -- 17 := load 23 t16
  simp; refine hc _ ?_; clear hc kc
  refine T_on rfl rfl rfl rfl rfl fun kc hc => ?_  -- 18 := fieldAddr 29 t3 1
  simp; refine hc _ ?_; clear hc kc
  refine T_on rfl rfl rfl rfl rfl fun kc hc => ?_  -- 19 := load 23 t18
  simp; refine hc _ ?_; clear hc kc
  refine T_on rfl rfl rfl rfl rfl fun kc hc => ?_  -- 20 := call value F61 (t17 t19) [23, 23]
  simp
  refine CallS.dat (walk61 c.same (by omega)) (rfl) rfl rfl rfl ?_
  simp [enum]; refine hc _ ?_; clear hc kc
  refine T_op rfl rfl fun kc hc => ?_  -- 21 := pick t15 t20 false
  simp; refine hc _ ?_; clear hc kc
  refine T_op rfl rfl fun kc hc => ?_  -- 22 := move t21
  simp; refine hc _ ?_; clear hc kc
  refine T_on rfl rfl rfl rfl rfl fun kc hc => ?_  -- 23 := fieldAddr 29 t2 2
  simp; refine hc _ ?_; clear hc kc
  refine T_on rfl rfl rfl rfl rfl fun kc hc => ?_  -- 24 := load 24 t23
  simp; refine hc _ ?_; clear hc kc
  refine T_on rfl rfl rfl rfl rfl fun kc hc => ?_  -- 25 := fieldAddr 29 t3 2
  simp; refine hc _ ?_; clear hc kc
  refine T_on rfl rfl rfl rfl rfl fun kc hc => ?_  -- 26 := load 24 t25
  simp; refine hc _ ?_; clear hc kc
  refine T_on rfl rfl rfl rfl rfl fun kc hc => ?_  -- 27 := move t7
  simp; refine hc _ ?_; clear hc kc
  refine T_on rfl rfl rfl rfl rfl fun kc hc => ?_  -- 28 := call value F62 (t24 t26 t27) [24, 24, 101]
  simp
  refine CallS.lend (walk62 c.progs 58 [.ref [.fn 55 []]] (fun p hp => walk58 p (hf.reqs p hp)) (by omega)) (rfl) rfl rfl ?_
  simp [enum]; refine hc _ ?_; clear hc kc
  refine T_op rfl rfl fun kc hc => ?_  -- 29 := pick t22 t28 false
  simp; refine hc _ ?_; clear hc kc
  refine T_op rfl rfl fun kc hc => ?_  -- 30 := move t29
  simp; refine hc _ ?_; clear hc kc
  refine T_on rfl rfl rfl rfl rfl fun kc hc => ?_  -- 31 := fieldAddr 29 t2 3
  simp; refine hc _ ?_; clear hc kc
  refine T_on rfl rfl rfl rfl rfl fun kc hc => ?_  -- 32 := load 25 t31
  simp; refine hc _ ?_; clear hc kc
  refine T_on rfl rfl rfl rfl rfl fun kc hc => ?_  -- 33 := fieldAddr 29 t3 3
  simp; refine hc _ ?_; clear hc kc
  refine T_on rfl rfl rfl rfl rfl fun kc hc => ?_  -- 34 := load 25 t33
  simp; refine hc _ ?_; clear hc kc
  refine T_on rfl rfl rfl rfl rfl fun kc hc => ?_  -- 35 := call value F63 (t32 t34) [25, 25]
  simp
  refine CallS.dat (walk63 c.classes (by omega)) (rfl) rfl rfl rfl ?_
  simp [enum]; refine hc _ ?_; clear hc kc
  refine T_op rfl rfl fun kc hc => ?_  -- 36 := pick t30 t35 false
  simp; refine hc _ ?_; clear hc kc
  refine T_op rfl rfl fun kc hc => ?_  -- 37 := move t36
  simp; refine hc _ ?_; clear hc kc
  refine T_on rfl rfl rfl rfl rfl fun kc hc => ?_  -- 38 := fieldAddr 29 t2 4
  simp; refine hc _ ?_; clear hc kc
  refine T_on rfl rfl rfl rfl rfl fun kc hc => ?_  -- 39 := load 26 t38
  simp; refine hc _ ?_; clear hc kc
  refine T_on rfl rfl rfl rfl rfl fun kc hc => ?_  -- 40 := fieldAddr 29 t3 4
  simp; refine hc _ ?_; clear hc kc
  refine T_on rfl rfl rfl rfl rfl fun kc hc => ?_  -- 41 := load 26 t40
  simp; refine hc _ ?_; clear hc kc
  refine T_on rfl rfl rfl rfl rfl fun kc hc => ?_  -- 42 := call value F64 (t39 t41) [26, 26]
  simp
  refine CallS.dat (walk64 c.fees (by omega)) (rfl) rfl rfl rfl ?_
  simp [enum]; refine hc _ ?_; clear hc kc
  refine T_op rfl rfl fun kc hc => ?_  -- 43 := pick t37 t42 false
  simp; refine hc _ ?_; clear hc kc
  refine T_op rfl rfl fun kc hc => ?_  -- 44 := move t43
  simp; refine hc _ ?_; clear hc kc
  refine T_on rfl rfl rfl rfl rfl fun kc hc => ?_  -- 45 := fieldAddr 29 t2 5
  simp; refine hc _ ?_; clear hc kc
  refine T_on rfl rfl rfl rfl rfl fun kc hc => ?_  -- 46 := load 25 t45
  simp; refine hc _ ?_; clear hc kc
  refine T_on rfl rfl rfl rfl rfl fun kc hc => ?_  -- 47 := fieldAddr 29 t3 5
  simp; refine hc _ ?_; clear hc kc
  refine T_on rfl rfl rfl rfl rfl fun kc hc => ?_  -- 48 := load 25 t47
  simp; refine hc _ ?_; clear hc kc
  refine T_on rfl rfl rfl rfl rfl fun kc hc => ?_  -- 49 := call value F63 (t46 t48) [25, 25]
  simp
  refine CallS.dat (walk63 c.honours (by omega)) (rfl) rfl rfl rfl ?_
  simp [enum]; refine hc _ ?_; clear hc kc
  refine T_op rfl rfl fun kc hc => ?_  -- 50 := pick t44 t49 false
  simp; refine hc _ ?_; clear hc kc
  refine T_op rfl rfl fun kc hc => ?_  -- 51 := move t50
  simp; refine hc _ ?_; clear hc kc
  refine T_on rfl rfl rfl rfl rfl fun kc hc => ?_  -- 52 := fieldAddr 29 t2 6
  simp; refine hc _ ?_; clear hc kc
  refine T_on rfl rfl rfl rfl rfl fun kc hc => ?_  -- 53 := load 27 t52
  simp; refine hc _ ?_; clear hc kc
  refine T_on rfl rfl rfl rfl rfl fun kc hc => ?_  -- 54 := fieldAddr 29 t3 6
  simp; refine hc _ ?_; clear hc kc
  refine T_on rfl rfl rfl rfl rfl fun kc hc => ?_  -- 55 := load 27 t54
  simp; refine hc _ ?_; clear hc kc
  refine T_on rfl rfl rfl rfl rfl fun kc hc => ?_  -- 56 := call value F65 (t53 t55) [27, 27]
  simp
  refine CallS.dat (walk65 c.clauses (by omega)) (rfl) rfl rfl rfl ?_
  simp [enum]; refine hc _ ?_; clear hc kc
  refine T_op rfl rfl fun kc hc => ?_  -- 57 := pick t51 t56 false
  simp; refine hc _ ?_; clear hc kc
  refine T_op rfl rfl fun kc hc => ?_  -- 4 := assign t57
  simp; refine hc _ ?_; clear hc kc
  refine T_end (hn _ ?_); clear hn hp kn kp
  refine T_then ?_
  refine T_ret ?_
  exact finI (Ent.refl _) (by simp [resD, resL, resV]; rfl) (Ent.sub [] [] (by simp [sub, subSl, subHp, place, mp, mpL, mpO, mpG]; rfl)) rfl rfl (by simp)
-- END

end Go.Proofs.Ytbkkekbeaabokaa
