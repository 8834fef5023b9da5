/- The names: a catalogue is the same as itself. -/
import Derived.Test.YtbkkekbeaabokaaNi
set_option linter.unusedVariables false
set_option linter.unusedSimpArgs false
namespace Go.Proofs.Ytbkkekbeaabokaa
open Go Go.Proofs.Ytbkkekbeaabokaa.Sx

-- WALK 56 57 61 63 64 65
-- slices.Equal[[]string,string]
theorem walk56 (l : List ByteArray) (hl : l.length ≤ 9223372036854775807) : Does Try.prog 56 [strs l, strs l] (.dat (bV true)) [] := by
  refine Does.intro [.tmp 4] Try.func56 rfl (by kernel_rfl) Try.ntmps56 rfl (Nat.le_of_ble_eq_true rfl) ?_
  refine T_seq ?_
  refine T_region (is := [0]) rfl fun kn kp hn hp => ?_
  refine T_op rfl rfl fun kc hc => ?_
  simp; refine hc _ ?_; clear hc kc
  refine T_end (hn _ ?_); clear hn hp kn kp
  refine T_then ?_
  refine T_seq ?_
  refine T_seq ?_
  refine T_region (is := [0, 1, 2, 3, 4]) rfl fun kn kp hn hp => ?_
  refine T_op rfl rfl fun kc hc => ?_
  simp; refine hc _ ?_; clear hc kc
  refine T_op rfl rfl fun kc hc => ?_
  simp; refine hc _ ?_; clear hc kc
  refine T_op rfl rfl fun kc hc => ?_
  simp; refine hc _ ?_; clear hc kc
  refine T_op rfl rfl fun kc hc => ?_
  simp; refine hc _ ?_; clear hc kc
  refine T_op rfl rfl fun kc hc => ?_
  simp; refine hc _ ?_; clear hc kc
  refine T_end (hn _ ?_); clear hn hp kn kp
  refine T_then ?_
  refine T_false (by simp) ?_
  refine T_skip ?_
  refine T_then ?_
  refine T_seq ?_
  refine T_seq ?_
  refine T_region (is := [0, 1, 2]) rfl fun kn kp hn hp => ?_
  refine T_op rfl rfl fun kc hc => ?_
  simp; refine hc _ ?_; clear hc kc
  refine T_op rfl rfl fun kc hc => ?_
  simp; refine hc _ ?_; clear hc kc
  refine T_op rfl rfl fun kc hc => ?_
  simp; refine hc _ ?_; clear hc kc
  refine T_end (hn _ ?_); clear hn hp kn kp
  refine T_then ?_
  refine T_block ?_
  refine T_loop (fun z : Nat => { sl := [(0, .dat (strs l)), (1, .dat (strs l)), (12, .dat (iD l.length)), (13, .dat (iD z))], hp := [], nx := 0 }) (fun z => z ≤ l.length) (fun z => l.length - z) 0 (Ent.sub [0, 1, 12, 13] [] (by simp [sub, subSl, subHp, place, mp, mpL, mpO, mpG])) (Nat.zero_le _) fun z hz => ?_
  refine T_seq ?_
  refine T_region (is := [0]) rfl fun kn kp hn hp => ?_
  refine T_op rfl rfl fun kc hc => ?_
  simp; refine hc _ ?_; clear hc kc
  refine T_end (hn _ ?_); clear hn hp kn kp
  refine T_then ?_
  refine T_seq ?_
  refine T_cond rfl (fun b2 => ?_) (fun b2 => ?_)
  · skip
    have hz' : z < l.length := by simpa using b2
    obtain ⟨x, hxx⟩ : ∃ x, l[z]? = some x := ⟨_, List.getElem?_eq_getElem hz'⟩
    have ez : IntKind.i64.wrap ((z : Int) + 1) = (z : Int) + 1 := wr1 hz' (by omega)
    refine T_skip ?_
    refine T_then ?_
    refine T_seq ?_
    refine T_block ?_
    refine T_seq ?_
    refine T_region (is := [0, 1]) rfl fun kn kp hn hp => ?_
    refine T_op rfl rfl fun kc hc => ?_
    simp; refine hc _ ?_; clear hc kc
    refine T_op rfl rfl fun kc hc => ?_
    simp; refine hc _ ?_; clear hc kc
    refine T_end (hn _ ?_); clear hn hp kn kp
    refine T_then ?_
    refine T_seqDraw (is := [0, 1, 2, 3, 4, 5, 6, 7, 8]) rfl (by kernel_rfl) fun kn hn => ?_
    refine D_op rfl rfl rfl rfl fun kc hc => ?_
    simp; refine hc _ ?_; clear hc kc
    refine D_op rfl rfl rfl rfl fun kc hc => ?_
    simp; refine hc _ ?_; clear hc kc
    refine D_op rfl rfl rfl rfl fun kc hc => ?_
    simp [hxx]; refine hc _ ?_; clear hc kc
    refine D_op rfl rfl rfl rfl fun kc hc => ?_
    simp; refine hc _ ?_; clear hc kc
    refine D_op rfl rfl rfl rfl fun kc hc => ?_
    simp; refine hc _ ?_; clear hc kc
    refine D_op rfl rfl rfl rfl fun kc hc => ?_
    simp; refine hc _ ?_; clear hc kc
    refine D_op rfl rfl rfl rfl fun kc hc => ?_
    simp [hxx]; refine hc _ ?_; clear hc kc
    refine D_op rfl rfl rfl rfl fun kc hc => ?_
    simp; refine hc _ ?_; clear hc kc
    refine D_op rfl rfl rfl rfl fun kc hc => ?_
    simp; refine hc _ ?_; clear hc kc
    refine D_end rfl (by kernel_rfl) (hn _ ?_); clear hn kn
    refine T_false (by simp) ?_
    refine T_skip ?_
    refine X_blockN ?_
    refine T_then ?_
    refine T_region (is := [0, 1]) rfl fun kn kp hn hp => ?_
    refine T_op rfl rfl fun kc hc => ?_
    simp [ez]; refine hc _ ?_; clear hc kc
    refine T_op rfl rfl fun kc hc => ?_
    simp; refine hc _ ?_; clear hc kc
    refine T_end (hn _ ?_); clear hn hp kn kp
    exact X_loopN (z + 1) (Ent.sub [0, 1, 12, 13] [] (by simp [sub, subSl, subHp, place, mp, mpL, mpO, mpG, ez])) hz' (by omega)
  · skip
    have hz' : z = l.length := by simp at b2; omega
    refine T_exit ?_
    refine X_thenE ?_
    refine X_loopE ?_
    refine X_hit ?_
    refine T_then ?_
    refine T_seq ?_
    refine T_region (is := [0]) rfl fun kn kp hn hp => ?_
    refine T_op rfl rfl fun kc hc => ?_
    simp; refine hc _ ?_; clear hc kc
    refine T_end (hn _ ?_); clear hn hp kn kp
    refine T_then ?_
    refine T_ret ?_
    exact finI (Ent.refl _) (by simp [resD, resL, resV]; rfl) (Ent.sub [] [] (by simp [sub, subSl, subHp, place, mp, mpL, mpO, mpG]; rfl)) rfl rfl (by simp)
-- slices.Equal[[]int,int]
theorem walk57 (l : List Int) (hl : l.length ≤ 9223372036854775807) : Does Try.prog 57 [ints l, ints l] (.dat (bV true)) [] := by
  refine Does.intro [.tmp 4] Try.func57 rfl (by kernel_rfl) Try.ntmps57 rfl (Nat.le_of_ble_eq_true rfl) ?_
  refine T_seq ?_
  refine T_region (is := [0]) rfl fun kn kp hn hp => ?_
  refine T_op rfl rfl fun kc hc => ?_
  simp; refine hc _ ?_; clear hc kc
  refine T_end (hn _ ?_); clear hn hp kn kp
  refine T_then ?_
  refine T_seq ?_
  refine T_seq ?_
  refine T_region (is := [0, 1, 2, 3, 4]) rfl fun kn kp hn hp => ?_
  refine T_op rfl rfl fun kc hc => ?_
  simp; refine hc _ ?_; clear hc kc
  refine T_op rfl rfl fun kc hc => ?_
  simp; refine hc _ ?_; clear hc kc
  refine T_op rfl rfl fun kc hc => ?_
  simp; refine hc _ ?_; clear hc kc
  refine T_op rfl rfl fun kc hc => ?_
  simp; refine hc _ ?_; clear hc kc
  refine T_op rfl rfl fun kc hc => ?_
  simp; refine hc _ ?_; clear hc kc
  refine T_end (hn _ ?_); clear hn hp kn kp
  refine T_then ?_
  refine T_false (by simp) ?_
  refine T_skip ?_
  refine T_then ?_
  refine T_seq ?_
  refine T_seq ?_
  refine T_region (is := [0, 1, 2]) rfl fun kn kp hn hp => ?_
  refine T_op rfl rfl fun kc hc => ?_
  simp; refine hc _ ?_; clear hc kc
  refine T_op rfl rfl fun kc hc => ?_
  simp; refine hc _ ?_; clear hc kc
  refine T_op rfl rfl fun kc hc => ?_
  simp; refine hc _ ?_; clear hc kc
  refine T_end (hn _ ?_); clear hn hp kn kp
  refine T_then ?_
  refine T_block ?_
  refine T_loop (fun z : Nat => { sl := [(0, .dat (ints l)), (1, .dat (ints l)), (12, .dat (iD l.length)), (13, .dat (iD z))], hp := [], nx := 0 }) (fun z => z ≤ l.length) (fun z => l.length - z) 0 (Ent.sub [0, 1, 12, 13] [] (by simp [sub, subSl, subHp, place, mp, mpL, mpO, mpG])) (Nat.zero_le _) fun z hz => ?_
  refine T_seq ?_
  refine T_region (is := [0]) rfl fun kn kp hn hp => ?_
  refine T_op rfl rfl fun kc hc => ?_
  simp; refine hc _ ?_; clear hc kc
  refine T_end (hn _ ?_); clear hn hp kn kp
  refine T_then ?_
  refine T_seq ?_
  refine T_cond rfl (fun b2 => ?_) (fun b2 => ?_)
  · skip
    have hz' : z < l.length := by simpa using b2
    obtain ⟨x, hxx⟩ : ∃ x, l[z]? = some x := ⟨_, List.getElem?_eq_getElem hz'⟩
    have ez : IntKind.i64.wrap ((z : Int) + 1) = (z : Int) + 1 := wr1 hz' (by omega)
    refine T_skip ?_
    refine T_then ?_
    refine T_seq ?_
    refine T_block ?_
    refine T_seq ?_
    refine T_region (is := [0, 1]) rfl fun kn kp hn hp => ?_
    refine T_op rfl rfl fun kc hc => ?_
    simp; refine hc _ ?_; clear hc kc
    refine T_op rfl rfl fun kc hc => ?_
    simp; refine hc _ ?_; clear hc kc
    refine T_end (hn _ ?_); clear hn hp kn kp
    refine T_then ?_
    refine T_seqDraw (is := [0, 1, 2, 3, 4, 5, 6, 7, 8]) rfl (by kernel_rfl) fun kn hn => ?_
    refine D_op rfl rfl rfl rfl fun kc hc => ?_
    simp; refine hc _ ?_; clear hc kc
    refine D_op rfl rfl rfl rfl fun kc hc => ?_
    simp; refine hc _ ?_; clear hc kc
    refine D_op rfl rfl rfl rfl fun kc hc => ?_
    simp [hxx]; refine hc _ ?_; clear hc kc
    refine D_op rfl rfl rfl rfl fun kc hc => ?_
    simp; refine hc _ ?_; clear hc kc
    refine D_op rfl rfl rfl rfl fun kc hc => ?_
    simp; refine hc _ ?_; clear hc kc
    refine D_op rfl rfl rfl rfl fun kc hc => ?_
    simp; refine hc _ ?_; clear hc kc
    refine D_op rfl rfl rfl rfl fun kc hc => ?_
    simp [hxx]; refine hc _ ?_; clear hc kc
    refine D_op rfl rfl rfl rfl fun kc hc => ?_
    simp; refine hc _ ?_; clear hc kc
    refine D_op rfl rfl rfl rfl fun kc hc => ?_
    simp; refine hc _ ?_; clear hc kc
    refine D_end rfl (by kernel_rfl) (hn _ ?_); clear hn kn
    refine T_false (by simp) ?_
    refine T_skip ?_
    refine X_blockN ?_
    refine T_then ?_
    refine T_region (is := [0, 1]) rfl fun kn kp hn hp => ?_
    refine T_op rfl rfl fun kc hc => ?_
    simp [ez]; refine hc _ ?_; clear hc kc
    refine T_op rfl rfl fun kc hc => ?_
    simp; refine hc _ ?_; clear hc kc
    refine T_end (hn _ ?_); clear hn hp kn kp
    exact X_loopN (z + 1) (Ent.sub [0, 1, 12, 13] [] (by simp [sub, subSl, subHp, place, mp, mpL, mpO, mpG, ez])) hz' (by omega)
  · skip
    have hz' : z = l.length := by simp at b2; omega
    refine T_exit ?_
    refine X_thenE ?_
    refine X_loopE ?_
    refine X_hit ?_
    refine T_then ?_
    refine T_seq ?_
    refine T_region (is := [0]) rfl fun kn kp hn hp => ?_
    refine T_op rfl rfl fun kc hc => ?_
    simp; refine hc _ ?_; clear hc kc
    refine T_end (hn _ ?_); clear hn hp kn kp
    refine T_then ?_
    refine T_ret ?_
    exact finI (Ent.refl _) (by simp [resD, resL, resV]; rfl) (Ent.sub [] [] (by simp [sub, subSl, subHp, place, mp, mpL, mpO, mpG]; rfl)) rfl rfl (by simp)
-- slices.Equal[[]sizar/api.Pair,sizar/api.Pair]
theorem walk61 (l : List Pair) (hl : l.length ≤ 9223372036854775807) : Does Try.prog 61 [.sl 4 (l.map pairD), .sl 4 (l.map pairD)] (.dat (bV true)) [] := by
  refine Does.intro [.tmp 4] Try.func61 rfl (by kernel_rfl) Try.ntmps61 rfl (Nat.le_of_ble_eq_true rfl) ?_
  refine T_seq ?_
  refine T_region (is := [0]) rfl fun kn kp hn hp => ?_
  refine T_op rfl rfl fun kc hc => ?_
  simp; refine hc _ ?_; clear hc kc
  refine T_end (hn _ ?_); clear hn hp kn kp
  refine T_then ?_
  refine T_seq ?_
  refine T_seq ?_
  refine T_region (is := [0, 1, 2, 3, 4]) rfl fun kn kp hn hp => ?_
  refine T_op rfl rfl fun kc hc => ?_
  simp; refine hc _ ?_; clear hc kc
  refine T_op rfl rfl fun kc hc => ?_
  simp; refine hc _ ?_; clear hc kc
  refine T_op rfl rfl fun kc hc => ?_
  simp; refine hc _ ?_; clear hc kc
  refine T_op rfl rfl fun kc hc => ?_
  simp; refine hc _ ?_; clear hc kc
  refine T_op rfl rfl fun kc hc => ?_
  simp; refine hc _ ?_; clear hc kc
  refine T_end (hn _ ?_); clear hn hp kn kp
  refine T_then ?_
  refine T_false (by simp) ?_
  refine T_skip ?_
  refine T_then ?_
  refine T_seq ?_
  refine T_seq ?_
  refine T_region (is := [0, 1, 2]) rfl fun kn kp hn hp => ?_
  refine T_op rfl rfl fun kc hc => ?_
  simp; refine hc _ ?_; clear hc kc
  refine T_op rfl rfl fun kc hc => ?_
  simp; refine hc _ ?_; clear hc kc
  refine T_op rfl rfl fun kc hc => ?_
  simp; refine hc _ ?_; clear hc kc
  refine T_end (hn _ ?_); clear hn hp kn kp
  refine T_then ?_
  refine T_block ?_
  refine T_loop (fun z : Nat => { sl := [(0, .dat (.sl 4 (l.map pairD))), (1, .dat (.sl 4 (l.map pairD))), (12, .dat (iD l.length)), (13, .dat (iD z))], hp := [], nx := 0 }) (fun z => z ≤ l.length) (fun z => l.length - z) 0 (Ent.sub [0, 1, 12, 13] [] (by simp [sub, subSl, subHp, place, mp, mpL, mpO, mpG])) (Nat.zero_le _) fun z hz => ?_
  refine T_seq ?_
  refine T_region (is := [0]) rfl fun kn kp hn hp => ?_
  refine T_op rfl rfl fun kc hc => ?_
  simp; refine hc _ ?_; clear hc kc
  refine T_end (hn _ ?_); clear hn hp kn kp
  refine T_then ?_
  refine T_seq ?_
  refine T_cond rfl (fun b2 => ?_) (fun b2 => ?_)
  · skip
    have hz' : z < l.length := by simpa using b2
    obtain ⟨x, hxx⟩ : ∃ x, l[z]? = some x := ⟨_, List.getElem?_eq_getElem hz'⟩
    have ez : IntKind.i64.wrap ((z : Int) + 1) = (z : Int) + 1 := wr1 hz' (by omega)
    refine T_skip ?_
    refine T_then ?_
    refine T_seq ?_
    refine T_block ?_
    refine T_seq ?_
    refine T_region (is := [0, 1]) rfl fun kn kp hn hp => ?_
    refine T_op rfl rfl fun kc hc => ?_
    simp; refine hc _ ?_; clear hc kc
    refine T_op rfl rfl fun kc hc => ?_
    simp; refine hc _ ?_; clear hc kc
    refine T_end (hn _ ?_); clear hn hp kn kp
    refine T_then ?_
    refine T_seqDraw (is := [0, 1, 2, 3, 4, 5, 6, 7, 8]) rfl (by kernel_rfl) fun kn hn => ?_
    refine D_op rfl rfl rfl rfl fun kc hc => ?_
    simp; refine hc _ ?_; clear hc kc
    refine D_op rfl rfl rfl rfl fun kc hc => ?_
    simp; refine hc _ ?_; clear hc kc
    refine D_op rfl rfl rfl rfl fun kc hc => ?_
    simp [hxx]; refine hc _ ?_; clear hc kc
    refine D_op rfl rfl rfl rfl fun kc hc => ?_
    simp; refine hc _ ?_; clear hc kc
    refine D_op rfl rfl rfl rfl fun kc hc => ?_
    simp; refine hc _ ?_; clear hc kc
    refine D_op rfl rfl rfl rfl fun kc hc => ?_
    simp; refine hc _ ?_; clear hc kc
    refine D_op rfl rfl rfl rfl fun kc hc => ?_
    simp [hxx]; refine hc _ ?_; clear hc kc
    refine D_op rfl rfl rfl rfl fun kc hc => ?_
    simp; refine hc _ ?_; clear hc kc
    refine D_op rfl rfl rfl rfl fun kc hc => ?_
    simp; refine hc _ ?_; clear hc kc
    refine D_end rfl (by kernel_rfl) (hn _ ?_); clear hn kn
    refine T_false (by simp) ?_
    refine T_skip ?_
    refine X_blockN ?_
    refine T_then ?_
    refine T_region (is := [0, 1]) rfl fun kn kp hn hp => ?_
    refine T_op rfl rfl fun kc hc => ?_
    simp [ez]; refine hc _ ?_; clear hc kc
    refine T_op rfl rfl fun kc hc => ?_
    simp; refine hc _ ?_; clear hc kc
    refine T_end (hn _ ?_); clear hn hp kn kp
    exact X_loopN (z + 1) (Ent.sub [0, 1, 12, 13] [] (by simp [sub, subSl, subHp, place, mp, mpL, mpO, mpG, ez])) hz' (by omega)
  · skip
    have hz' : z = l.length := by simp at b2; omega
    refine T_exit ?_
    refine X_thenE ?_
    refine X_loopE ?_
    refine X_hit ?_
    refine T_then ?_
    refine T_seq ?_
    refine T_region (is := [0]) rfl fun kn kp hn hp => ?_
    refine T_op rfl rfl fun kc hc => ?_
    simp; refine hc _ ?_; clear hc kc
    refine T_end (hn _ ?_); clear hn hp kn kp
    refine T_then ?_
    refine T_ret ?_
    exact finI (Ent.refl _) (by simp [resD, resL, resV]; rfl) (Ent.sub [] [] (by simp [sub, subSl, subHp, place, mp, mpL, mpO, mpG]; rfl)) rfl rfl (by simp)
-- slices.Equal[[]sizar/api.Class,sizar/api.Class]
theorem walk63 (l : List Class) (hl : l.length ≤ 9223372036854775807) : Does Try.prog 63 [.sl 4 (l.map classD), .sl 4 (l.map classD)] (.dat (bV true)) [] := by
  refine Does.intro [.tmp 4] Try.func63 rfl (by kernel_rfl) Try.ntmps63 rfl (Nat.le_of_ble_eq_true rfl) ?_
  refine T_seq ?_
  refine T_region (is := [0]) rfl fun kn kp hn hp => ?_
  refine T_op rfl rfl fun kc hc => ?_
  simp; refine hc _ ?_; clear hc kc
  refine T_end (hn _ ?_); clear hn hp kn kp
  refine T_then ?_
  refine T_seq ?_
  refine T_seq ?_
  refine T_region (is := [0, 1, 2, 3, 4]) rfl fun kn kp hn hp => ?_
  refine T_op rfl rfl fun kc hc => ?_
  simp; refine hc _ ?_; clear hc kc
  refine T_op rfl rfl fun kc hc => ?_
  simp; refine hc _ ?_; clear hc kc
  refine T_op rfl rfl fun kc hc => ?_
  simp; refine hc _ ?_; clear hc kc
  refine T_op rfl rfl fun kc hc => ?_
  simp; refine hc _ ?_; clear hc kc
  refine T_op rfl rfl fun kc hc => ?_
  simp; refine hc _ ?_; clear hc kc
  refine T_end (hn _ ?_); clear hn hp kn kp
  refine T_then ?_
  refine T_false (by simp) ?_
  refine T_skip ?_
  refine T_then ?_
  refine T_seq ?_
  refine T_seq ?_
  refine T_region (is := [0, 1, 2]) rfl fun kn kp hn hp => ?_
  refine T_op rfl rfl fun kc hc => ?_
  simp; refine hc _ ?_; clear hc kc
  refine T_op rfl rfl fun kc hc => ?_
  simp; refine hc _ ?_; clear hc kc
  refine T_op rfl rfl fun kc hc => ?_
  simp; refine hc _ ?_; clear hc kc
  refine T_end (hn _ ?_); clear hn hp kn kp
  refine T_then ?_
  refine T_block ?_
  refine T_loop (fun z : Nat => { sl := [(0, .dat (.sl 4 (l.map classD))), (1, .dat (.sl 4 (l.map classD))), (12, .dat (iD l.length)), (13, .dat (iD z))], hp := [], nx := 0 }) (fun z => z ≤ l.length) (fun z => l.length - z) 0 (Ent.sub [0, 1, 12, 13] [] (by simp [sub, subSl, subHp, place, mp, mpL, mpO, mpG])) (Nat.zero_le _) fun z hz => ?_
  refine T_seq ?_
  refine T_region (is := [0]) rfl fun kn kp hn hp => ?_
  refine T_op rfl rfl fun kc hc => ?_
  simp; refine hc _ ?_; clear hc kc
  refine T_end (hn _ ?_); clear hn hp kn kp
  refine T_then ?_
  refine T_seq ?_
  refine T_cond rfl (fun b2 => ?_) (fun b2 => ?_)
  · skip
    have hz' : z < l.length := by simpa using b2
    obtain ⟨x, hxx⟩ : ∃ x, l[z]? = some x := ⟨_, List.getElem?_eq_getElem hz'⟩
    have ez : IntKind.i64.wrap ((z : Int) + 1) = (z : Int) + 1 := wr1 hz' (by omega)
    refine T_skip ?_
    refine T_then ?_
    refine T_seq ?_
    refine T_block ?_
    refine T_seq ?_
    refine T_region (is := [0, 1]) rfl fun kn kp hn hp => ?_
    refine T_op rfl rfl fun kc hc => ?_
    simp; refine hc _ ?_; clear hc kc
    refine T_op rfl rfl fun kc hc => ?_
    simp; refine hc _ ?_; clear hc kc
    refine T_end (hn _ ?_); clear hn hp kn kp
    refine T_then ?_
    refine T_seqDraw (is := [0, 1, 2, 3, 4, 5, 6, 7, 8]) rfl (by kernel_rfl) fun kn hn => ?_
    refine D_op rfl rfl rfl rfl fun kc hc => ?_
    simp; refine hc _ ?_; clear hc kc
    refine D_op rfl rfl rfl rfl fun kc hc => ?_
    simp; refine hc _ ?_; clear hc kc
    refine D_op rfl rfl rfl rfl fun kc hc => ?_
    simp [hxx]; refine hc _ ?_; clear hc kc
    refine D_op rfl rfl rfl rfl fun kc hc => ?_
    simp; refine hc _ ?_; clear hc kc
    refine D_op rfl rfl rfl rfl fun kc hc => ?_
    simp; refine hc _ ?_; clear hc kc
    refine D_op rfl rfl rfl rfl fun kc hc => ?_
    simp; refine hc _ ?_; clear hc kc
    refine D_op rfl rfl rfl rfl fun kc hc => ?_
    simp [hxx]; refine hc _ ?_; clear hc kc
    refine D_op rfl rfl rfl rfl fun kc hc => ?_
    simp; refine hc _ ?_; clear hc kc
    refine D_op rfl rfl rfl rfl fun kc hc => ?_
    simp; refine hc _ ?_; clear hc kc
    refine D_end rfl (by kernel_rfl) (hn _ ?_); clear hn kn
    refine T_false (by simp) ?_
    refine T_skip ?_
    refine X_blockN ?_
    refine T_then ?_
    refine T_region (is := [0, 1]) rfl fun kn kp hn hp => ?_
    refine T_op rfl rfl fun kc hc => ?_
    simp [ez]; refine hc _ ?_; clear hc kc
    refine T_op rfl rfl fun kc hc => ?_
    simp; refine hc _ ?_; clear hc kc
    refine T_end (hn _ ?_); clear hn hp kn kp
    exact X_loopN (z + 1) (Ent.sub [0, 1, 12, 13] [] (by simp [sub, subSl, subHp, place, mp, mpL, mpO, mpG, ez])) hz' (by omega)
  · skip
    have hz' : z = l.length := by simp at b2; omega
    refine T_exit ?_
    refine X_thenE ?_
    refine X_loopE ?_
    refine X_hit ?_
    refine T_then ?_
    refine T_seq ?_
    refine T_region (is := [0]) rfl fun kn kp hn hp => ?_
    refine T_op rfl rfl fun kc hc => ?_
    simp; refine hc _ ?_; clear hc kc
    refine T_end (hn _ ?_); clear hn hp kn kp
    refine T_then ?_
    refine T_ret ?_
    exact finI (Ent.refl _) (by simp [resD, resL, resV]; rfl) (Ent.sub [] [] (by simp [sub, subSl, subHp, place, mp, mpL, mpO, mpG]; rfl)) rfl rfl (by simp)
-- slices.Equal[[]sizar/api.Fee,sizar/api.Fee]
theorem walk64 (l : List Fee) (hl : l.length ≤ 9223372036854775807) : Does Try.prog 64 [.sl 2 (l.map feeD), .sl 2 (l.map feeD)] (.dat (bV true)) [] := by
  refine Does.intro [.tmp 4] Try.func64 rfl (by kernel_rfl) Try.ntmps64 rfl (Nat.le_of_ble_eq_true rfl) ?_
  refine T_seq ?_
  refine T_region (is := [0]) rfl fun kn kp hn hp => ?_
  refine T_op rfl rfl fun kc hc => ?_
  simp; refine hc _ ?_; clear hc kc
  refine T_end (hn _ ?_); clear hn hp kn kp
  refine T_then ?_
  refine T_seq ?_
  refine T_seq ?_
  refine T_region (is := [0, 1, 2, 3, 4]) rfl fun kn kp hn hp => ?_
  refine T_op rfl rfl fun kc hc => ?_
  simp; refine hc _ ?_; clear hc kc
  refine T_op rfl rfl fun kc hc => ?_
  simp; refine hc _ ?_; clear hc kc
  refine T_op rfl rfl fun kc hc => ?_
  simp; refine hc _ ?_; clear hc kc
  refine T_op rfl rfl fun kc hc => ?_
  simp; refine hc _ ?_; clear hc kc
  refine T_op rfl rfl fun kc hc => ?_
  simp; refine hc _ ?_; clear hc kc
  refine T_end (hn _ ?_); clear hn hp kn kp
  refine T_then ?_
  refine T_false (by simp) ?_
  refine T_skip ?_
  refine T_then ?_
  refine T_seq ?_
  refine T_seq ?_
  refine T_region (is := [0, 1, 2]) rfl fun kn kp hn hp => ?_
  refine T_op rfl rfl fun kc hc => ?_
  simp; refine hc _ ?_; clear hc kc
  refine T_op rfl rfl fun kc hc => ?_
  simp; refine hc _ ?_; clear hc kc
  refine T_op rfl rfl fun kc hc => ?_
  simp; refine hc _ ?_; clear hc kc
  refine T_end (hn _ ?_); clear hn hp kn kp
  refine T_then ?_
  refine T_block ?_
  refine T_loop (fun z : Nat => { sl := [(0, .dat (.sl 2 (l.map feeD))), (1, .dat (.sl 2 (l.map feeD))), (12, .dat (iD l.length)), (13, .dat (iD z))], hp := [], nx := 0 }) (fun z => z ≤ l.length) (fun z => l.length - z) 0 (Ent.sub [0, 1, 12, 13] [] (by simp [sub, subSl, subHp, place, mp, mpL, mpO, mpG])) (Nat.zero_le _) fun z hz => ?_
  refine T_seq ?_
  refine T_region (is := [0]) rfl fun kn kp hn hp => ?_
  refine T_op rfl rfl fun kc hc => ?_
  simp; refine hc _ ?_; clear hc kc
  refine T_end (hn _ ?_); clear hn hp kn kp
  refine T_then ?_
  refine T_seq ?_
  refine T_cond rfl (fun b2 => ?_) (fun b2 => ?_)
  · skip
    have hz' : z < l.length := by simpa using b2
    obtain ⟨x, hxx⟩ : ∃ x, l[z]? = some x := ⟨_, List.getElem?_eq_getElem hz'⟩
    have ez : IntKind.i64.wrap ((z : Int) + 1) = (z : Int) + 1 := wr1 hz' (by omega)
    refine T_skip ?_
    refine T_then ?_
    refine T_seq ?_
    refine T_block ?_
    refine T_seq ?_
    refine T_region (is := [0, 1]) rfl fun kn kp hn hp => ?_
    refine T_op rfl rfl fun kc hc => ?_
    simp; refine hc _ ?_; clear hc kc
    refine T_op rfl rfl fun kc hc => ?_
    simp; refine hc _ ?_; clear hc kc
    refine T_end (hn _ ?_); clear hn hp kn kp
    refine T_then ?_
    refine T_seqDraw (is := [0, 1, 2, 3, 4, 5, 6, 7, 8]) rfl (by kernel_rfl) fun kn hn => ?_
    refine D_op rfl rfl rfl rfl fun kc hc => ?_
    simp; refine hc _ ?_; clear hc kc
    refine D_op rfl rfl rfl rfl fun kc hc => ?_
    simp; refine hc _ ?_; clear hc kc
    refine D_op rfl rfl rfl rfl fun kc hc => ?_
    simp [hxx]; refine hc _ ?_; clear hc kc
    refine D_op rfl rfl rfl rfl fun kc hc => ?_
    simp; refine hc _ ?_; clear hc kc
    refine D_op rfl rfl rfl rfl fun kc hc => ?_
    simp; refine hc _ ?_; clear hc kc
    refine D_op rfl rfl rfl rfl fun kc hc => ?_
    simp; refine hc _ ?_; clear hc kc
    refine D_op rfl rfl rfl rfl fun kc hc => ?_
    simp [hxx]; refine hc _ ?_; clear hc kc
    refine D_op rfl rfl rfl rfl fun kc hc => ?_
    simp; refine hc _ ?_; clear hc kc
    refine D_op rfl rfl rfl rfl fun kc hc => ?_
    simp; refine hc _ ?_; clear hc kc
    refine D_end rfl (by kernel_rfl) (hn _ ?_); clear hn kn
    refine T_false (by simp) ?_
    refine T_skip ?_
    refine X_blockN ?_
    refine T_then ?_
    refine T_region (is := [0, 1]) rfl fun kn kp hn hp => ?_
    refine T_op rfl rfl fun kc hc => ?_
    simp [ez]; refine hc _ ?_; clear hc kc
    refine T_op rfl rfl fun kc hc => ?_
    simp; refine hc _ ?_; clear hc kc
    refine T_end (hn _ ?_); clear hn hp kn kp
    exact X_loopN (z + 1) (Ent.sub [0, 1, 12, 13] [] (by simp [sub, subSl, subHp, place, mp, mpL, mpO, mpG, ez])) hz' (by omega)
  · skip
    have hz' : z = l.length := by simp at b2; omega
    refine T_exit ?_
    refine X_thenE ?_
    refine X_loopE ?_
    refine X_hit ?_
    refine T_then ?_
    refine T_seq ?_
    refine T_region (is := [0]) rfl fun kn kp hn hp => ?_
    refine T_op rfl rfl fun kc hc => ?_
    simp; refine hc _ ?_; clear hc kc
    refine T_end (hn _ ?_); clear hn hp kn kp
    refine T_then ?_
    refine T_ret ?_
    exact finI (Ent.refl _) (by simp [resD, resL, resV]; rfl) (Ent.sub [] [] (by simp [sub, subSl, subHp, place, mp, mpL, mpO, mpG]; rfl)) rfl rfl (by simp)
-- slices.Equal[[]sizar/api.Clause,sizar/api.Clause]
theorem walk65 (l : List Clause) (hl : l.length ≤ 9223372036854775807) : Does Try.prog 65 [.sl 4 (l.map clauseD), .sl 4 (l.map clauseD)] (.dat (bV true)) [] := by
  refine Does.intro [.tmp 4] Try.func65 rfl (by kernel_rfl) Try.ntmps65 rfl (Nat.le_of_ble_eq_true rfl) ?_
  refine T_seq ?_
  refine T_region (is := [0]) rfl fun kn kp hn hp => ?_
  refine T_op rfl rfl fun kc hc => ?_
  simp; refine hc _ ?_; clear hc kc
  refine T_end (hn _ ?_); clear hn hp kn kp
  refine T_then ?_
  refine T_seq ?_
  refine T_seq ?_
  refine T_region (is := [0, 1, 2, 3, 4]) rfl fun kn kp hn hp => ?_
  refine T_op rfl rfl fun kc hc => ?_
  simp; refine hc _ ?_; clear hc kc
  refine T_op rfl rfl fun kc hc => ?_
  simp; refine hc _ ?_; clear hc kc
  refine T_op rfl rfl fun kc hc => ?_
  simp; refine hc _ ?_; clear hc kc
  refine T_op rfl rfl fun kc hc => ?_
  simp; refine hc _ ?_; clear hc kc
  refine T_op rfl rfl fun kc hc => ?_
  simp; refine hc _ ?_; clear hc kc
  refine T_end (hn _ ?_); clear hn hp kn kp
  refine T_then ?_
  refine T_false (by simp) ?_
  refine T_skip ?_
  refine T_then ?_
  refine T_seq ?_
  refine T_seq ?_
  refine T_region (is := [0, 1, 2]) rfl fun kn kp hn hp => ?_
  refine T_op rfl rfl fun kc hc => ?_
  simp; refine hc _ ?_; clear hc kc
  refine T_op rfl rfl fun kc hc => ?_
  simp; refine hc _ ?_; clear hc kc
  refine T_op rfl rfl fun kc hc => ?_
  simp; refine hc _ ?_; clear hc kc
  refine T_end (hn _ ?_); clear hn hp kn kp
  refine T_then ?_
  refine T_block ?_
  refine T_loop (fun z : Nat => { sl := [(0, .dat (.sl 4 (l.map clauseD))), (1, .dat (.sl 4 (l.map clauseD))), (12, .dat (iD l.length)), (13, .dat (iD z))], hp := [], nx := 0 }) (fun z => z ≤ l.length) (fun z => l.length - z) 0 (Ent.sub [0, 1, 12, 13] [] (by simp [sub, subSl, subHp, place, mp, mpL, mpO, mpG])) (Nat.zero_le _) fun z hz => ?_
  refine T_seq ?_
  refine T_region (is := [0]) rfl fun kn kp hn hp => ?_
  refine T_op rfl rfl fun kc hc => ?_
  simp; refine hc _ ?_; clear hc kc
  refine T_end (hn _ ?_); clear hn hp kn kp
  refine T_then ?_
  refine T_seq ?_
  refine T_cond rfl (fun b2 => ?_) (fun b2 => ?_)
  · skip
    have hz' : z < l.length := by simpa using b2
    obtain ⟨x, hxx⟩ : ∃ x, l[z]? = some x := ⟨_, List.getElem?_eq_getElem hz'⟩
    have ez : IntKind.i64.wrap ((z : Int) + 1) = (z : Int) + 1 := wr1 hz' (by omega)
    refine T_skip ?_
    refine T_then ?_
    refine T_seq ?_
    refine T_block ?_
    refine T_seq ?_
    refine T_region (is := [0, 1]) rfl fun kn kp hn hp => ?_
    refine T_op rfl rfl fun kc hc => ?_
    simp; refine hc _ ?_; clear hc kc
    refine T_op rfl rfl fun kc hc => ?_
    simp; refine hc _ ?_; clear hc kc
    refine T_end (hn _ ?_); clear hn hp kn kp
    refine T_then ?_
    refine T_seqDraw (is := [0, 1, 2, 3, 4, 5, 6, 7, 8]) rfl (by kernel_rfl) fun kn hn => ?_
    refine D_op rfl rfl rfl rfl fun kc hc => ?_
    simp; refine hc _ ?_; clear hc kc
    refine D_op rfl rfl rfl rfl fun kc hc => ?_
    simp; refine hc _ ?_; clear hc kc
    refine D_op rfl rfl rfl rfl fun kc hc => ?_
    simp [hxx]; refine hc _ ?_; clear hc kc
    refine D_op rfl rfl rfl rfl fun kc hc => ?_
    simp; refine hc _ ?_; clear hc kc
    refine D_op rfl rfl rfl rfl fun kc hc => ?_
    simp; refine hc _ ?_; clear hc kc
    refine D_op rfl rfl rfl rfl fun kc hc => ?_
    simp; refine hc _ ?_; clear hc kc
    refine D_op rfl rfl rfl rfl fun kc hc => ?_
    simp [hxx]; refine hc _ ?_; clear hc kc
    refine D_op rfl rfl rfl rfl fun kc hc => ?_
    simp; refine hc _ ?_; clear hc kc
    refine D_op rfl rfl rfl rfl fun kc hc => ?_
    simp; refine hc _ ?_; clear hc kc
    refine D_end rfl (by kernel_rfl) (hn _ ?_); clear hn kn
    refine T_false (by simp) ?_
    refine T_skip ?_
    refine X_blockN ?_
    refine T_then ?_
    refine T_region (is := [0, 1]) rfl fun kn kp hn hp => ?_
    refine T_op rfl rfl fun kc hc => ?_
    simp [ez]; refine hc _ ?_; clear hc kc
    refine T_op rfl rfl fun kc hc => ?_
    simp; refine hc _ ?_; clear hc kc
    refine T_end (hn _ ?_); clear hn hp kn kp
    exact X_loopN (z + 1) (Ent.sub [0, 1, 12, 13] [] (by simp [sub, subSl, subHp, place, mp, mpL, mpO, mpG, ez])) hz' (by omega)
  · skip
    have hz' : z = l.length := by simp at b2; omega
    refine T_exit ?_
    refine X_thenE ?_
    refine X_loopE ?_
    refine X_hit ?_
    refine T_then ?_
    refine T_seq ?_
    refine T_region (is := [0]) rfl fun kn kp hn hp => ?_
    refine T_op rfl rfl fun kc hc => ?_
    simp; refine hc _ ?_; clear hc kc
    refine T_end (hn _ ?_); clear hn hp kn kp
    refine T_then ?_
    refine T_ret ?_
    exact finI (Ent.refl _) (by simp [resD, resL, resV]; rfl) (Ent.sub [] [] (by simp [sub, subSl, subHp, place, mp, mpL, mpO, mpG]; rfl)) rfl rfl (by simp)
-- END
-- WALK 59 60 62 82
-- slices.EqualFunc[[]sizar/api.Requirement,[]sizar/api.Requirement,sizar/api.Requirement,sizar/api.Requirement]
theorem walk59 (l : List Req) (g : FuncId) (caps : List Dat) (hg : ∀ x ∈ l, Does Try.prog g (.agg (reqD x) :: .agg (reqD x) :: caps) (.dat (bV true)) []) (hl : l.length ≤ 9223372036854775807) : Does Try.prog 59 [.sl 6 (l.map reqD), .sl 6 (l.map reqD), .fn g caps] (.dat (bV true)) [] := by
  refine Does.intro [.tmp 6] Try.func59 rfl (by kernel_rfl) Try.ntmps59 rfl (Nat.le_of_ble_eq_true rfl) ?_
  refine T_seq ?_
  refine T_region (is := [0]) rfl fun kn kp hn hp => ?_
  refine T_op rfl rfl fun kc hc => ?_
  simp; refine hc _ ?_; clear hc kc
  refine T_end (hn _ ?_); clear hn hp kn kp
  refine T_then ?_
  refine T_seq ?_
  refine T_seq ?_
  refine T_region (is := [0, 1, 2, 3, 4]) rfl fun kn kp hn hp => ?_
  refine T_op rfl rfl fun kc hc => ?_
  simp; refine hc _ ?_; clear hc kc
  refine T_op rfl rfl fun kc hc => ?_
  simp; refine hc _ ?_; clear hc kc
  refine T_op rfl rfl fun kc hc => ?_
  simp; refine hc _ ?_; clear hc kc
  refine T_op rfl rfl fun kc hc => ?_
  simp; refine hc _ ?_; clear hc kc
  refine T_op rfl rfl fun kc hc => ?_
  simp; refine hc _ ?_; clear hc kc
  refine T_end (hn _ ?_); clear hn hp kn kp
  refine T_then ?_
  refine T_false (by simp) ?_
  refine T_skip ?_
  refine T_then ?_
  refine T_seq ?_
  refine T_seq ?_
  refine T_region (is := [0, 1, 2]) rfl fun kn kp hn hp => ?_
  refine T_op rfl rfl fun kc hc => ?_
  simp; refine hc _ ?_; clear hc kc
  refine T_op rfl rfl fun kc hc => ?_
  simp; refine hc _ ?_; clear hc kc
  refine T_op rfl rfl fun kc hc => ?_
  simp; refine hc _ ?_; clear hc kc
  refine T_end (hn _ ?_); clear hn hp kn kp
  refine T_then ?_
  refine T_block ?_
  refine T_loop (fun z : Nat => { sl := [(0, .dat (.sl 6 (l.map reqD))), (1, .dat (.sl 6 (l.map reqD))), (2, .dat (.fn g caps)), (15, .dat (.sl 6 (l.map reqD))), (16, .dat (iD l.length)), (17, .dat (iD z))], hp := [], nx := 0 }) (fun z => z ≤ l.length) (fun z => l.length - z) 0 (Ent.sub [0, 1, 2, 15, 16, 17] [] (by simp [sub, subSl, subHp, place, mp, mpL, mpO, mpG])) (Nat.zero_le _) fun z hz => ?_
  refine T_seq ?_
  refine T_region (is := [0]) rfl fun kn kp hn hp => ?_
  refine T_op rfl rfl fun kc hc => ?_
  simp; refine hc _ ?_; clear hc kc
  refine T_end (hn _ ?_); clear hn hp kn kp
  refine T_then ?_
  refine T_seq ?_
  refine T_cond rfl (fun b2 => ?_) (fun b2 => ?_)
  · skip
    have hz' : z < l.length := by simpa using b2
    obtain ⟨x, hxx⟩ : ∃ x, l[z]? = some x := ⟨_, List.getElem?_eq_getElem hz'⟩
    have ez : IntKind.i64.wrap ((z : Int) + 1) = (z : Int) + 1 := wr1 hz' (by omega)
    refine T_skip ?_
    refine T_then ?_
    refine T_seq ?_
    refine T_block ?_
    refine T_seq ?_
    refine T_region (is := [0, 1, 2, 3, 4, 5]) rfl fun kn kp hn hp => ?_
    refine T_op rfl rfl fun kc hc => ?_
    simp; refine hc _ ?_; clear hc kc
    refine T_op rfl rfl fun kc hc => ?_
    simp [hxx]; refine hc _ ?_; clear hc kc
    refine T_op rfl rfl fun kc hc => ?_
    simp; refine hc _ ?_; clear hc kc
    refine T_op rfl rfl fun kc hc => ?_
    simp; refine hc _ ?_; clear hc kc
    refine T_op rfl rfl fun kc hc => ?_
    simp; refine hc _ ?_; clear hc kc
    refine T_op rfl rfl fun kc hc => ?_
    simp; refine hc _ ?_; clear hc kc
    refine T_end (hn _ ?_); clear hn hp kn kp
    refine T_then ?_
    refine T_seq ?_
    refine T_region (is := [0, 1, 2, 3, 4, 5]) rfl fun kn kp hn hp => ?_
    refine T_op rfl rfl fun kc hc => ?_
    simp; refine hc _ ?_; clear hc kc
    refine T_op rfl rfl fun kc hc => ?_
    simp; refine hc _ ?_; clear hc kc
    refine T_op rfl rfl fun kc hc => ?_
    simp [hxx]; refine hc _ ?_; clear hc kc
    refine T_op rfl rfl fun kc hc => ?_
    simp; refine hc _ ?_; clear hc kc
    refine T_op rfl rfl fun kc hc => ?_
    simp; refine hc _ ?_; clear hc kc
    refine T_op rfl rfl fun kc hc => ?_
    simp; refine hc _ ?_; clear hc kc
    refine T_end (hn _ ?_); clear hn hp kn kp
    refine T_then ?_
    refine T_seq ?_
    refine T_region (is := [0, 1, 2, 3, 4]) rfl fun kn kp hn hp => ?_
    refine T_op rfl rfl fun kc hc => ?_
    simp; refine hc _ ?_; clear hc kc
    refine T_op rfl rfl fun kc hc => ?_
    simp; refine hc _ ?_; clear hc kc
    refine T_op rfl rfl fun kc hc => ?_
    simp; refine hc _ ?_; clear hc kc
    refine T_op rfl rfl fun kc hc => ?_
    simp
    refine CallS.dat (hg x (List.mem_of_getElem? hxx)) (by simp [datL, datOf]) rfl rfl rfl ?_
    simp [enum]; refine hc _ ?_; clear hc kc
    refine T_op rfl rfl fun kc hc => ?_
    simp; refine hc _ ?_; clear hc kc
    refine T_end (hn _ ?_); clear hn hp kn kp
    refine T_then ?_
    refine T_false (by simp) ?_
    refine T_skip ?_
    refine X_blockN ?_
    refine T_then ?_
    refine T_region (is := [0, 1]) rfl fun kn kp hn hp => ?_
    refine T_op rfl rfl fun kc hc => ?_
    simp [ez]; refine hc _ ?_; clear hc kc
    refine T_op rfl rfl fun kc hc => ?_
    simp; refine hc _ ?_; clear hc kc
    refine T_end (hn _ ?_); clear hn hp kn kp
    exact X_loopN (z + 1) (Ent.sub [0, 1, 2, 15, 16, 17] [] (by simp [sub, subSl, subHp, place, mp, mpL, mpO, mpG, ez])) hz' (by omega)
  · skip
    have hz' : z = l.length := by simp at b2; omega
    refine T_exit ?_
    refine X_thenE ?_
    refine X_loopE ?_
    refine X_hit ?_
    refine T_then ?_
    refine T_seq ?_
    refine T_region (is := [0]) rfl fun kn kp hn hp => ?_
    refine T_op rfl rfl fun kc hc => ?_
    simp; refine hc _ ?_; clear hc kc
    refine T_end (hn _ ?_); clear hn hp kn kp
    refine T_then ?_
    refine T_ret ?_
    exact finI (Ent.refl _) (by simp [resD, resL, resV]; rfl) (Ent.sub [] [] (by simp [sub, subSl, subHp, place, mp, mpL, mpO, mpG]; rfl)) rfl rfl (by simp)
-- slices.EqualFunc[[]sizar/api.Course,[]sizar/api.Course,sizar/api.Course,sizar/api.Course]
theorem walk60 (l : List Course) (g : FuncId) (caps : List Dat) (hg : ∀ x ∈ l, Does Try.prog g (.agg (courseD x) :: .agg (courseD x) :: caps) (.dat (bV true)) []) (hl : l.length ≤ 9223372036854775807) : Does Try.prog 60 [.sl 16 (l.map courseD), .sl 16 (l.map courseD), .fn g caps] (.dat (bV true)) [] := by
  refine Does.intro [.tmp 6] Try.func60 rfl (by kernel_rfl) Try.ntmps60 rfl (Nat.le_of_ble_eq_true rfl) ?_
  refine T_seq ?_
  refine T_region (is := [0]) rfl fun kn kp hn hp => ?_
  refine T_op rfl rfl fun kc hc => ?_
  simp; refine hc _ ?_; clear hc kc
  refine T_end (hn _ ?_); clear hn hp kn kp
  refine T_then ?_
  refine T_seq ?_
  refine T_seq ?_
  refine T_region (is := [0, 1, 2, 3, 4]) rfl fun kn kp hn hp => ?_
  refine T_op rfl rfl fun kc hc => ?_
  simp; refine hc _ ?_; clear hc kc
  refine T_op rfl rfl fun kc hc => ?_
  simp; refine hc _ ?_; clear hc kc
  refine T_op rfl rfl fun kc hc => ?_
  simp; refine hc _ ?_; clear hc kc
  refine T_op rfl rfl fun kc hc => ?_
  simp; refine hc _ ?_; clear hc kc
  refine T_op rfl rfl fun kc hc => ?_
  simp; refine hc _ ?_; clear hc kc
  refine T_end (hn _ ?_); clear hn hp kn kp
  refine T_then ?_
  refine T_false (by simp) ?_
  refine T_skip ?_
  refine T_then ?_
  refine T_seq ?_
  refine T_seq ?_
  refine T_region (is := [0, 1, 2]) rfl fun kn kp hn hp => ?_
  refine T_op rfl rfl fun kc hc => ?_
  simp; refine hc _ ?_; clear hc kc
  refine T_op rfl rfl fun kc hc => ?_
  simp; refine hc _ ?_; clear hc kc
  refine T_op rfl rfl fun kc hc => ?_
  simp; refine hc _ ?_; clear hc kc
  refine T_end (hn _ ?_); clear hn hp kn kp
  refine T_then ?_
  refine T_block ?_
  refine T_loop (fun z : Nat => { sl := [(0, .dat (.sl 16 (l.map courseD))), (1, .dat (.sl 16 (l.map courseD))), (2, .dat (.fn g caps)), (15, .dat (.sl 16 (l.map courseD))), (16, .dat (iD l.length)), (17, .dat (iD z))], hp := [], nx := 0 }) (fun z => z ≤ l.length) (fun z => l.length - z) 0 (Ent.sub [0, 1, 2, 15, 16, 17] [] (by simp [sub, subSl, subHp, place, mp, mpL, mpO, mpG])) (Nat.zero_le _) fun z hz => ?_
  refine T_seq ?_
  refine T_region (is := [0]) rfl fun kn kp hn hp => ?_
  refine T_op rfl rfl fun kc hc => ?_
  simp; refine hc _ ?_; clear hc kc
  refine T_end (hn _ ?_); clear hn hp kn kp
  refine T_then ?_
  refine T_seq ?_
  refine T_cond rfl (fun b2 => ?_) (fun b2 => ?_)
  · skip
    have hz' : z < l.length := by simpa using b2
    obtain ⟨x, hxx⟩ : ∃ x, l[z]? = some x := ⟨_, List.getElem?_eq_getElem hz'⟩
    have ez : IntKind.i64.wrap ((z : Int) + 1) = (z : Int) + 1 := wr1 hz' (by omega)
    refine T_skip ?_
    refine T_then ?_
    refine T_seq ?_
    refine T_block ?_
    refine T_seq ?_
    refine T_region (is := [0, 1, 2, 3, 4, 5]) rfl fun kn kp hn hp => ?_
    refine T_op rfl rfl fun kc hc => ?_
    simp; refine hc _ ?_; clear hc kc
    refine T_op rfl rfl fun kc hc => ?_
    simp [hxx]; refine hc _ ?_; clear hc kc
    refine T_op rfl rfl fun kc hc => ?_
    simp; refine hc _ ?_; clear hc kc
    refine T_op rfl rfl fun kc hc => ?_
    simp; refine hc _ ?_; clear hc kc
    refine T_op rfl rfl fun kc hc => ?_
    simp; refine hc _ ?_; clear hc kc
    refine T_op rfl rfl fun kc hc => ?_
    simp; refine hc _ ?_; clear hc kc
    refine T_end (hn _ ?_); clear hn hp kn kp
    refine T_then ?_
    refine T_seq ?_
    refine T_region (is := [0, 1, 2, 3, 4, 5]) rfl fun kn kp hn hp => ?_
    refine T_op rfl rfl fun kc hc => ?_
    simp; refine hc _ ?_; clear hc kc
    refine T_op rfl rfl fun kc hc => ?_
    simp; refine hc _ ?_; clear hc kc
    refine T_op rfl rfl fun kc hc => ?_
    simp [hxx]; refine hc _ ?_; clear hc kc
    refine T_op rfl rfl fun kc hc => ?_
    simp; refine hc _ ?_; clear hc kc
    refine T_op rfl rfl fun kc hc => ?_
    simp; refine hc _ ?_; clear hc kc
    refine T_op rfl rfl fun kc hc => ?_
    simp; refine hc _ ?_; clear hc kc
    refine T_end (hn _ ?_); clear hn hp kn kp
    refine T_then ?_
    refine T_seq ?_
    refine T_region (is := [0, 1, 2, 3, 4]) rfl fun kn kp hn hp => ?_
    refine T_op rfl rfl fun kc hc => ?_
    simp; refine hc _ ?_; clear hc kc
    refine T_op rfl rfl fun kc hc => ?_
    simp; refine hc _ ?_; clear hc kc
    refine T_op rfl rfl fun kc hc => ?_
    simp; refine hc _ ?_; clear hc kc
    refine T_op rfl rfl fun kc hc => ?_
    simp
    refine CallS.dat (hg x (List.mem_of_getElem? hxx)) (by simp [datL, datOf]) rfl rfl rfl ?_
    simp [enum]; refine hc _ ?_; clear hc kc
    refine T_op rfl rfl fun kc hc => ?_
    simp; refine hc _ ?_; clear hc kc
    refine T_end (hn _ ?_); clear hn hp kn kp
    refine T_then ?_
    refine T_false (by simp) ?_
    refine T_skip ?_
    refine X_blockN ?_
    refine T_then ?_
    refine T_region (is := [0, 1]) rfl fun kn kp hn hp => ?_
    refine T_op rfl rfl fun kc hc => ?_
    simp [ez]; refine hc _ ?_; clear hc kc
    refine T_op rfl rfl fun kc hc => ?_
    simp; refine hc _ ?_; clear hc kc
    refine T_end (hn _ ?_); clear hn hp kn kp
    exact X_loopN (z + 1) (Ent.sub [0, 1, 2, 15, 16, 17] [] (by simp [sub, subSl, subHp, place, mp, mpL, mpO, mpG, ez])) hz' (by omega)
  · skip
    have hz' : z = l.length := by simp at b2; omega
    refine T_exit ?_
    refine X_thenE ?_
    refine X_loopE ?_
    refine X_hit ?_
    refine T_then ?_
    refine T_seq ?_
    refine T_region (is := [0]) rfl fun kn kp hn hp => ?_
    refine T_op rfl rfl fun kc hc => ?_
    simp; refine hc _ ?_; clear hc kc
    refine T_end (hn _ ?_); clear hn hp kn kp
    refine T_then ?_
    refine T_ret ?_
    exact finI (Ent.refl _) (by simp [resD, resL, resV]; rfl) (Ent.sub [] [] (by simp [sub, subSl, subHp, place, mp, mpL, mpO, mpG]; rfl)) rfl rfl (by simp)
-- slices.EqualFunc[[]sizar/api.Programme,[]sizar/api.Programme,sizar/api.Programme,sizar/api.Programme]
theorem walk62 (l : List Prog) (g : FuncId) (caps : List Dat) (hg : ∀ x ∈ l, Does Try.prog g (.agg (progD x) :: .agg (progD x) :: caps) (.dat (bV true)) []) (hl : l.length ≤ 9223372036854775807) : Does Try.prog 62 [.sl 7 (l.map progD), .sl 7 (l.map progD), .fn g caps] (.dat (bV true)) [] := by
  refine Does.intro [.tmp 6] Try.func62 rfl (by kernel_rfl) Try.ntmps62 rfl (Nat.le_of_ble_eq_true rfl) ?_
  refine T_seq ?_
  refine T_region (is := [0]) rfl fun kn kp hn hp => ?_
  refine T_op rfl rfl fun kc hc => ?_
  simp; refine hc _ ?_; clear hc kc
  refine T_end (hn _ ?_); clear hn hp kn kp
  refine T_then ?_
  refine T_seq ?_
  refine T_seq ?_
  refine T_region (is := [0, 1, 2, 3, 4]) rfl fun kn kp hn hp => ?_
  refine T_op rfl rfl fun kc hc => ?_
  simp; refine hc _ ?_; clear hc kc
  refine T_op rfl rfl fun kc hc => ?_
  simp; refine hc _ ?_; clear hc kc
  refine T_op rfl rfl fun kc hc => ?_
  simp; refine hc _ ?_; clear hc kc
  refine T_op rfl rfl fun kc hc => ?_
  simp; refine hc _ ?_; clear hc kc
  refine T_op rfl rfl fun kc hc => ?_
  simp; refine hc _ ?_; clear hc kc
  refine T_end (hn _ ?_); clear hn hp kn kp
  refine T_then ?_
  refine T_false (by simp) ?_
  refine T_skip ?_
  refine T_then ?_
  refine T_seq ?_
  refine T_seq ?_
  refine T_region (is := [0, 1, 2]) rfl fun kn kp hn hp => ?_
  refine T_op rfl rfl fun kc hc => ?_
  simp; refine hc _ ?_; clear hc kc
  refine T_op rfl rfl fun kc hc => ?_
  simp; refine hc _ ?_; clear hc kc
  refine T_op rfl rfl fun kc hc => ?_
  simp; refine hc _ ?_; clear hc kc
  refine T_end (hn _ ?_); clear hn hp kn kp
  refine T_then ?_
  refine T_block ?_
  refine T_loop (fun z : Nat => { sl := [(0, .dat (.sl 7 (l.map progD))), (1, .dat (.sl 7 (l.map progD))), (2, .dat (.fn g caps)), (15, .dat (.sl 7 (l.map progD))), (16, .dat (iD l.length)), (17, .dat (iD z))], hp := [], nx := 0 }) (fun z => z ≤ l.length) (fun z => l.length - z) 0 (Ent.sub [0, 1, 2, 15, 16, 17] [] (by simp [sub, subSl, subHp, place, mp, mpL, mpO, mpG])) (Nat.zero_le _) fun z hz => ?_
  refine T_seq ?_
  refine T_region (is := [0]) rfl fun kn kp hn hp => ?_
  refine T_op rfl rfl fun kc hc => ?_
  simp; refine hc _ ?_; clear hc kc
  refine T_end (hn _ ?_); clear hn hp kn kp
  refine T_then ?_
  refine T_seq ?_
  refine T_cond rfl (fun b2 => ?_) (fun b2 => ?_)
  · skip
    have hz' : z < l.length := by simpa using b2
    obtain ⟨x, hxx⟩ : ∃ x, l[z]? = some x := ⟨_, List.getElem?_eq_getElem hz'⟩
    have ez : IntKind.i64.wrap ((z : Int) + 1) = (z : Int) + 1 := wr1 hz' (by omega)
    refine T_skip ?_
    refine T_then ?_
    refine T_seq ?_
    refine T_block ?_
    refine T_seq ?_
    refine T_region (is := [0, 1, 2, 3, 4, 5]) rfl fun kn kp hn hp => ?_
    refine T_op rfl rfl fun kc hc => ?_
    simp; refine hc _ ?_; clear hc kc
    refine T_op rfl rfl fun kc hc => ?_
    simp [hxx]; refine hc _ ?_; clear hc kc
    refine T_op rfl rfl fun kc hc => ?_
    simp; refine hc _ ?_; clear hc kc
    refine T_op rfl rfl fun kc hc => ?_
    simp; refine hc _ ?_; clear hc kc
    refine T_op rfl rfl fun kc hc => ?_
    simp; refine hc _ ?_; clear hc kc
    refine T_op rfl rfl fun kc hc => ?_
    simp; refine hc _ ?_; clear hc kc
    refine T_end (hn _ ?_); clear hn hp kn kp
    refine T_then ?_
    refine T_seq ?_
    refine T_region (is := [0, 1, 2, 3, 4, 5]) rfl fun kn kp hn hp => ?_
    refine T_op rfl rfl fun kc hc => ?_
    simp; refine hc _ ?_; clear hc kc
    refine T_op rfl rfl fun kc hc => ?_
    simp; refine hc _ ?_; clear hc kc
    refine T_op rfl rfl fun kc hc => ?_
    simp [hxx]; refine hc _ ?_; clear hc kc
    refine T_op rfl rfl fun kc hc => ?_
    simp; refine hc _ ?_; clear hc kc
    refine T_op rfl rfl fun kc hc => ?_
    simp; refine hc _ ?_; clear hc kc
    refine T_op rfl rfl fun kc hc => ?_
    simp; refine hc _ ?_; clear hc kc
    refine T_end (hn _ ?_); clear hn hp kn kp
    refine T_then ?_
    refine T_seq ?_
    refine T_region (is := [0, 1, 2, 3, 4]) rfl fun kn kp hn hp => ?_
    refine T_op rfl rfl fun kc hc => ?_
    simp; refine hc _ ?_; clear hc kc
    refine T_op rfl rfl fun kc hc => ?_
    simp; refine hc _ ?_; clear hc kc
    refine T_op rfl rfl fun kc hc => ?_
    simp; refine hc _ ?_; clear hc kc
    refine T_op rfl rfl fun kc hc => ?_
    simp
    refine CallS.dat (hg x (List.mem_of_getElem? hxx)) (by simp [datL, datOf]) rfl rfl rfl ?_
    simp [enum]; refine hc _ ?_; clear hc kc
    refine T_op rfl rfl fun kc hc => ?_
    simp; refine hc _ ?_; clear hc kc
    refine T_end (hn _ ?_); clear hn hp kn kp
    refine T_then ?_
    refine T_false (by simp) ?_
    refine T_skip ?_
    refine X_blockN ?_
    refine T_then ?_
    refine T_region (is := [0, 1]) rfl fun kn kp hn hp => ?_
    refine T_op rfl rfl fun kc hc => ?_
    simp [ez]; refine hc _ ?_; clear hc kc
    refine T_op rfl rfl fun kc hc => ?_
    simp; refine hc _ ?_; clear hc kc
    refine T_end (hn _ ?_); clear hn hp kn kp
    exact X_loopN (z + 1) (Ent.sub [0, 1, 2, 15, 16, 17] [] (by simp [sub, subSl, subHp, place, mp, mpL, mpO, mpG, ez])) hz' (by omega)
  · skip
    have hz' : z = l.length := by simp at b2; omega
    refine T_exit ?_
    refine X_thenE ?_
    refine X_loopE ?_
    refine X_hit ?_
    refine T_then ?_
    refine T_seq ?_
    refine T_region (is := [0]) rfl fun kn kp hn hp => ?_
    refine T_op rfl rfl fun kc hc => ?_
    simp; refine hc _ ?_; clear hc kc
    refine T_end (hn _ ?_); clear hn hp kn kp
    refine T_then ?_
    refine T_ret ?_
    exact finI (Ent.refl _) (by simp [resD, resL, resV]; rfl) (Ent.sub [] [] (by simp [sub, subSl, subHp, place, mp, mpL, mpO, mpG]; rfl)) rfl rfl (by simp)
-- slices.EqualFunc[[]sizar/api.Rule,[]sizar/api.Rule,sizar/api.Rule,sizar/api.Rule]
theorem walk82 (l : List Rule) (g : FuncId) (caps : List Dat) (hg : ∀ x ∈ l, Does Try.prog g (.agg (ruleD x) :: .agg (ruleD x) :: caps) (.dat (bV true)) []) (hl : l.length ≤ 9223372036854775807) : Does Try.prog 82 [.sl 6 (l.map ruleD), .sl 6 (l.map ruleD), .fn g caps] (.dat (bV true)) [] := by
  refine Does.intro [.tmp 6] Try.func82 rfl (by kernel_rfl) Try.ntmps82 rfl (Nat.le_of_ble_eq_true rfl) ?_
  refine T_seq ?_
  refine T_region (is := [0]) rfl fun kn kp hn hp => ?_
  refine T_op rfl rfl fun kc hc => ?_
  simp; refine hc _ ?_; clear hc kc
  refine T_end (hn _ ?_); clear hn hp kn kp
  refine T_then ?_
  refine T_seq ?_
  refine T_seq ?_
  refine T_region (is := [0, 1, 2, 3, 4]) rfl fun kn kp hn hp => ?_
  refine T_op rfl rfl fun kc hc => ?_
  simp; refine hc _ ?_; clear hc kc
  refine T_op rfl rfl fun kc hc => ?_
  simp; refine hc _ ?_; clear hc kc
  refine T_op rfl rfl fun kc hc => ?_
  simp; refine hc _ ?_; clear hc kc
  refine T_op rfl rfl fun kc hc => ?_
  simp; refine hc _ ?_; clear hc kc
  refine T_op rfl rfl fun kc hc => ?_
  simp; refine hc _ ?_; clear hc kc
  refine T_end (hn _ ?_); clear hn hp kn kp
  refine T_then ?_
  refine T_false (by simp) ?_
  refine T_skip ?_
  refine T_then ?_
  refine T_seq ?_
  refine T_seq ?_
  refine T_region (is := [0, 1, 2]) rfl fun kn kp hn hp => ?_
  refine T_op rfl rfl fun kc hc => ?_
  simp; refine hc _ ?_; clear hc kc
  refine T_op rfl rfl fun kc hc => ?_
  simp; refine hc _ ?_; clear hc kc
  refine T_op rfl rfl fun kc hc => ?_
  simp; refine hc _ ?_; clear hc kc
  refine T_end (hn _ ?_); clear hn hp kn kp
  refine T_then ?_
  refine T_block ?_
  refine T_loop (fun z : Nat => { sl := [(0, .dat (.sl 6 (l.map ruleD))), (1, .dat (.sl 6 (l.map ruleD))), (2, .dat (.fn g caps)), (15, .dat (.sl 6 (l.map ruleD))), (16, .dat (iD l.length)), (17, .dat (iD z))], hp := [], nx := 0 }) (fun z => z ≤ l.length) (fun z => l.length - z) 0 (Ent.sub [0, 1, 2, 15, 16, 17] [] (by simp [sub, subSl, subHp, place, mp, mpL, mpO, mpG])) (Nat.zero_le _) fun z hz => ?_
  refine T_seq ?_
  refine T_region (is := [0]) rfl fun kn kp hn hp => ?_
  refine T_op rfl rfl fun kc hc => ?_
  simp; refine hc _ ?_; clear hc kc
  refine T_end (hn _ ?_); clear hn hp kn kp
  refine T_then ?_
  refine T_seq ?_
  refine T_cond rfl (fun b2 => ?_) (fun b2 => ?_)
  · skip
    have hz' : z < l.length := by simpa using b2
    obtain ⟨x, hxx⟩ : ∃ x, l[z]? = some x := ⟨_, List.getElem?_eq_getElem hz'⟩
    have ez : IntKind.i64.wrap ((z : Int) + 1) = (z : Int) + 1 := wr1 hz' (by omega)
    refine T_skip ?_
    refine T_then ?_
    refine T_seq ?_
    refine T_block ?_
    refine T_seq ?_
    refine T_region (is := [0, 1, 2, 3, 4, 5]) rfl fun kn kp hn hp => ?_
    refine T_op rfl rfl fun kc hc => ?_
    simp; refine hc _ ?_; clear hc kc
    refine T_op rfl rfl fun kc hc => ?_
    simp [hxx]; refine hc _ ?_; clear hc kc
    refine T_op rfl rfl fun kc hc => ?_
    simp; refine hc _ ?_; clear hc kc
    refine T_op rfl rfl fun kc hc => ?_
    simp; refine hc _ ?_; clear hc kc
    refine T_op rfl rfl fun kc hc => ?_
    simp; refine hc _ ?_; clear hc kc
    refine T_op rfl rfl fun kc hc => ?_
    simp; refine hc _ ?_; clear hc kc
    refine T_end (hn _ ?_); clear hn hp kn kp
    refine T_then ?_
    refine T_seq ?_
    refine T_region (is := [0, 1, 2, 3, 4, 5]) rfl fun kn kp hn hp => ?_
    refine T_op rfl rfl fun kc hc => ?_
    simp; refine hc _ ?_; clear hc kc
    refine T_op rfl rfl fun kc hc => ?_
    simp; refine hc _ ?_; clear hc kc
    refine T_op rfl rfl fun kc hc => ?_
    simp [hxx]; refine hc _ ?_; clear hc kc
    refine T_op rfl rfl fun kc hc => ?_
    simp; refine hc _ ?_; clear hc kc
    refine T_op rfl rfl fun kc hc => ?_
    simp; refine hc _ ?_; clear hc kc
    refine T_op rfl rfl fun kc hc => ?_
    simp; refine hc _ ?_; clear hc kc
    refine T_end (hn _ ?_); clear hn hp kn kp
    refine T_then ?_
    refine T_seq ?_
    refine T_region (is := [0, 1, 2, 3, 4]) rfl fun kn kp hn hp => ?_
    refine T_op rfl rfl fun kc hc => ?_
    simp; refine hc _ ?_; clear hc kc
    refine T_op rfl rfl fun kc hc => ?_
    simp; refine hc _ ?_; clear hc kc
    refine T_op rfl rfl fun kc hc => ?_
    simp; refine hc _ ?_; clear hc kc
    refine T_op rfl rfl fun kc hc => ?_
    simp
    refine CallS.dat (hg x (List.mem_of_getElem? hxx)) (by simp [datL, datOf]) rfl rfl rfl ?_
    simp [enum]; refine hc _ ?_; clear hc kc
    refine T_op rfl rfl fun kc hc => ?_
    simp; refine hc _ ?_; clear hc kc
    refine T_end (hn _ ?_); clear hn hp kn kp
    refine T_then ?_
    refine T_false (by simp) ?_
    refine T_skip ?_
    refine X_blockN ?_
    refine T_then ?_
    refine T_region (is := [0, 1]) rfl fun kn kp hn hp => ?_
    refine T_op rfl rfl fun kc hc => ?_
    simp [ez]; refine hc _ ?_; clear hc kc
    refine T_op rfl rfl fun kc hc => ?_
    simp; refine hc _ ?_; clear hc kc
    refine T_end (hn _ ?_); clear hn hp kn kp
    exact X_loopN (z + 1) (Ent.sub [0, 1, 2, 15, 16, 17] [] (by simp [sub, subSl, subHp, place, mp, mpL, mpO, mpG, ez])) hz' (by omega)
  · skip
    have hz' : z = l.length := by simp at b2; omega
    refine T_exit ?_
    refine X_thenE ?_
    refine X_loopE ?_
    refine X_hit ?_
    refine T_then ?_
    refine T_seq ?_
    refine T_region (is := [0]) rfl fun kn kp hn hp => ?_
    refine T_op rfl rfl fun kc hc => ?_
    simp; refine hc _ ?_; clear hc kc
    refine T_end (hn _ ?_); clear hn hp kn kp
    refine T_then ?_
    refine T_ret ?_
    exact finI (Ent.refl _) (by simp [resD, resL, resV]; rfl) (Ent.sub [] [] (by simp [sub, subSl, subHp, place, mp, mpL, mpO, mpG]; rfl)) rfl rfl (by simp)
-- END
-- WALK 54
-- sizar/syntax.sameRule
theorem step54 (r : Rule) (hr : (partsOf r).length ≤ 1048576) (ih : ∀ x : Rule, (partsOf x).length < (partsOf r).length → Does Try.prog 54 [.agg (ruleD x), .agg (ruleD x)] (.dat (bV true)) []) : Does Try.prog 54 [.agg (ruleD r), .agg (ruleD r)] (.dat (bV true)) [] := by
  have hre : (partsOf r).length = (partsL r.kids).length + 1 := by rw [partsOf_eq]; rfl
  have hkl := kids_le r.kids
  have w82 := walk82 r.kids 54 [] (fun x hx => by
    obtain ⟨i, hi⟩ := List.mem_iff_getElem?.1 hx
    have := partsL_len hi
    exact ih x (by omega)) (by omega)
  rw [← kidsD_map] at w82
  refine Does.intro [.tmp 4] Try.func54 rfl (by kernel_rfl) Try.ntmps54 rfl (Nat.le_of_ble_eq_true rfl) ?_
  refine T_seq ?_
  refine T_region (is := [0, 1, 2]) rfl fun kn kp hn hp => ?_
  refine T_op rfl rfl fun kc hc => ?_
  simp; refine hc _ ?_; clear hc kc
  refine T_op rfl rfl fun kc hc => ?_
  simp; refine hc _ ?_; clear hc kc
  refine T_op rfl rfl fun kc hc => ?_
  simp; refine hc _ ?_; clear hc kc
  refine T_end (hn _ ?_); clear hn hp kn kp
  refine T_then ?_
  refine T_seq ?_
  refine T_region (is := [0, 1, 2, 3, 4, 5, 6, 7, 8, 9, 10, 11, 12, 13, 14, 15, 16, 17, 18, 19, 20, 21, 22, 23, 24, 25, 26, 27, 28, 29, 30, 31, 32, 33, 34, 35, 36, 37, 38, 39, 40]) rfl fun kn kp hn hp => ?_
  refine T_op rfl rfl fun kc hc => ?_
  simp; refine hc _ ?_; clear hc kc
  refine T_op rfl rfl fun kc hc => ?_
  simp; refine hc _ ?_; clear hc kc
  refine T_op rfl rfl fun kc hc => ?_
  simp; refine hc _ ?_; clear hc kc
  refine T_op rfl rfl fun kc hc => ?_
  simp; refine hc _ ?_; clear hc kc
  refine T_op rfl rfl fun kc hc => ?_
  simp; refine hc _ ?_; clear hc kc
  refine T_op rfl rfl fun kc hc => ?_
  simp; refine hc _ ?_; clear hc kc
  refine T_on rfl rfl rfl rfl rfl fun kc hc => ?_
  simp; refine hc _ ?_; clear hc kc
  refine T_on rfl rfl rfl rfl rfl fun kc hc => ?_
  simp; refine hc _ ?_; clear hc kc
  refine T_on rfl rfl rfl rfl rfl fun kc hc => ?_
  simp; refine hc _ ?_; clear hc kc
  refine T_on rfl rfl rfl rfl rfl fun kc hc => ?_
  simp; refine hc _ ?_; clear hc kc
  refine T_on rfl rfl rfl rfl rfl fun kc hc => ?_
  simp; refine hc _ ?_; clear hc kc
  refine T_op rfl rfl fun kc hc => ?_
  simp; refine hc _ ?_; clear hc kc
  refine T_op rfl rfl fun kc hc => ?_
  simp; refine hc _ ?_; clear hc kc
  refine T_on rfl rfl rfl rfl rfl fun kc hc => ?_
  simp; refine hc _ ?_; clear hc kc
  refine T_on rfl rfl rfl rfl rfl fun kc hc => ?_
  simp; refine hc _ ?_; clear hc kc
  refine T_on rfl rfl rfl rfl rfl fun kc hc => ?_
  simp; refine hc _ ?_; clear hc kc
  refine T_on rfl rfl rfl rfl rfl fun kc hc => ?_
  simp; refine hc _ ?_; clear hc kc
  refine T_on rfl rfl rfl rfl rfl fun kc hc => ?_
  simp; refine hc _ ?_; clear hc kc
  refine T_op rfl rfl fun kc hc => ?_
  simp; refine hc _ ?_; clear hc kc
  refine T_op rfl rfl fun kc hc => ?_
  simp; refine hc _ ?_; clear hc kc
  refine T_on rfl rfl rfl rfl rfl fun kc hc => ?_
  simp; refine hc _ ?_; clear hc kc
  refine T_on rfl rfl rfl rfl rfl fun kc hc => ?_
  simp; refine hc _ ?_; clear hc kc
  refine T_on rfl rfl rfl rfl rfl fun kc hc => ?_
  simp; refine hc _ ?_; clear hc kc
  refine T_on rfl rfl rfl rfl rfl fun kc hc => ?_
  simp; refine hc _ ?_; clear hc kc
  refine T_on rfl rfl rfl rfl rfl fun kc hc => ?_
  simp; refine hc _ ?_; clear hc kc
  refine T_op rfl rfl fun kc hc => ?_
  simp; refine hc _ ?_; clear hc kc
  refine T_op rfl rfl fun kc hc => ?_
  simp; refine hc _ ?_; clear hc kc
  refine T_on rfl rfl rfl rfl rfl fun kc hc => ?_
  simp; refine hc _ ?_; clear hc kc
  refine T_on rfl rfl rfl rfl rfl fun kc hc => ?_
  simp; refine hc _ ?_; clear hc kc
  refine T_on rfl rfl rfl rfl rfl fun kc hc => ?_
  simp; refine hc _ ?_; clear hc kc
  refine T_on rfl rfl rfl rfl rfl fun kc hc => ?_
  simp; refine hc _ ?_; clear hc kc
  refine T_on rfl rfl rfl rfl rfl fun kc hc => ?_
  simp; refine hc _ ?_; clear hc kc
  refine T_op rfl rfl fun kc hc => ?_
  simp; refine hc _ ?_; clear hc kc
  refine T_op rfl rfl fun kc hc => ?_
  simp; refine hc _ ?_; clear hc kc
  refine T_on rfl rfl rfl rfl rfl fun kc hc => ?_
  simp; refine hc _ ?_; clear hc kc
  refine T_on rfl rfl rfl rfl rfl fun kc hc => ?_
  simp; refine hc _ ?_; clear hc kc
  refine T_on rfl rfl rfl rfl rfl fun kc hc => ?_
  simp; refine hc _ ?_; clear hc kc
  refine T_on rfl rfl rfl rfl rfl fun kc hc => ?_
  simp; refine hc _ ?_; clear hc kc
  refine T_on rfl rfl rfl rfl rfl fun kc hc => ?_
  simp
  refine CallS.dat (w82) (rfl) rfl rfl rfl ?_
  simp [enum]; refine hc _ ?_; clear hc kc
  refine T_op rfl rfl fun kc hc => ?_
  simp; refine hc _ ?_; clear hc kc
  refine T_op rfl rfl fun kc hc => ?_
  simp; refine hc _ ?_; clear hc kc
  refine T_end (hn _ ?_); clear hn hp kn kp
  refine T_then ?_
  refine T_ret ?_
  exact finI (Ent.refl _) (by simp [resD, resL, resV]; rfl) (Ent.sub [] [] (by simp [sub, subSl, subHp, place, mp, mpL, mpO, mpG]; rfl)) rfl rfl (by simp)
-- END
theorem walk54 (r : Rule) (hr : (partsOf r).length ≤ 1048576) : Does Try.prog 54 [.agg (ruleD r), .agg (ruleD r)] (.dat (bV true)) [] := by
  obtain ⟨n, hm⟩ : ∃ n, (partsOf r).length = n := ⟨_, rfl⟩
  induction n using Nat.strongRecOn generalizing r with
  | ind n ih => exact step54 r hr fun x hx => ih _ (by omega) x (by omega) rfl
-- WALK 53 55 58 14
-- sizar/syntax.Same$1
theorem walk53 (y : Course) (h : (partsOf y.need).length ≤ 1048576 ∧ (partsOf y.bar).length ≤ 1048576) : Does Try.prog 53 [.agg (courseD y), .agg (courseD y)] (.dat (bV true)) [] := by
  refine Does.intro [.tmp 4] Try.func53 rfl (by kernel_rfl) Try.ntmps53 rfl (Nat.le_of_ble_eq_true rfl) ?_
  refine T_seq ?_
  refine T_region (is := [0, 1, 2]) rfl fun kn kp hn hp => ?_
  refine T_op rfl rfl fun kc hc => ?_
  simp; refine hc _ ?_; clear hc kc
  refine T_op rfl rfl fun kc hc => ?_
  simp; refine hc _ ?_; clear hc kc
  refine T_op rfl rfl fun kc hc => ?_
  simp; refine hc _ ?_; clear hc kc
  refine T_end (hn _ ?_); clear hn hp kn kp
  refine T_then ?_
  refine T_seq ?_
  refine T_region (is := [0, 1, 2, 3, 4, 5, 6, 7, 8, 9, 10, 11, 12, 13, 14, 15, 16, 17, 18, 19, 20, 21, 22, 23, 24, 25, 26, 27, 28, 29, 30, 31, 32, 33, 34, 35, 36, 37, 38, 39, 40]) rfl fun kn kp hn hp => ?_
  refine T_op rfl rfl fun kc hc => ?_
  simp; refine hc _ ?_; clear hc kc
  refine T_op rfl rfl fun kc hc => ?_
  simp; refine hc _ ?_; clear hc kc
  refine T_op rfl rfl fun kc hc => ?_
  simp; refine hc _ ?_; clear hc kc
  refine T_op rfl rfl fun kc hc => ?_
  simp; refine hc _ ?_; clear hc kc
  refine T_op rfl rfl fun kc hc => ?_
  simp; refine hc _ ?_; clear hc kc
  refine T_op rfl rfl fun kc hc => ?_
  simp; refine hc _ ?_; clear hc kc
  refine T_on rfl rfl rfl rfl rfl fun kc hc => ?_
  simp; refine hc _ ?_; clear hc kc
  refine T_on rfl rfl rfl rfl rfl fun kc hc => ?_
  simp; refine hc _ ?_; clear hc kc
  refine T_on rfl rfl rfl rfl rfl fun kc hc => ?_
  simp; refine hc _ ?_; clear hc kc
  refine T_on rfl rfl rfl rfl rfl fun kc hc => ?_
  simp; refine hc _ ?_; clear hc kc
  refine T_on rfl rfl rfl rfl rfl fun kc hc => ?_
  simp; refine hc _ ?_; clear hc kc
  refine T_op rfl rfl fun kc hc => ?_
  simp; refine hc _ ?_; clear hc kc
  refine T_op rfl rfl fun kc hc => ?_
  simp; refine hc _ ?_; clear hc kc
  refine T_on rfl rfl rfl rfl rfl fun kc hc => ?_
  simp; refine hc _ ?_; clear hc kc
  refine T_on rfl rfl rfl rfl rfl fun kc hc => ?_
  simp; refine hc _ ?_; clear hc kc
  refine T_on rfl rfl rfl rfl rfl fun kc hc => ?_
  simp; refine hc _ ?_; clear hc kc
  refine T_on rfl rfl rfl rfl rfl fun kc hc => ?_
  simp; refine hc _ ?_; clear hc kc
  refine T_on rfl rfl rfl rfl rfl fun kc hc => ?_
  simp; refine hc _ ?_; clear hc kc
  refine T_op rfl rfl fun kc hc => ?_
  simp; refine hc _ ?_; clear hc kc
  refine T_op rfl rfl fun kc hc => ?_
  simp; refine hc _ ?_; clear hc kc
  refine T_on rfl rfl rfl rfl rfl fun kc hc => ?_
  simp; refine hc _ ?_; clear hc kc
  refine T_on rfl rfl rfl rfl rfl fun kc hc => ?_
  simp; refine hc _ ?_; clear hc kc
  refine T_on rfl rfl rfl rfl rfl fun kc hc => ?_
  simp; refine hc _ ?_; clear hc kc
  refine T_on rfl rfl rfl rfl rfl fun kc hc => ?_
  simp; refine hc _ ?_; clear hc kc
  refine T_on rfl rfl rfl rfl rfl fun kc hc => ?_
  simp; refine hc _ ?_; clear hc kc
  refine T_op rfl rfl fun kc hc => ?_
  simp; refine hc _ ?_; clear hc kc
  refine T_op rfl rfl fun kc hc => ?_
  simp; refine hc _ ?_; clear hc kc
  refine T_on rfl rfl rfl rfl rfl fun kc hc => ?_
  simp; refine hc _ ?_; clear hc kc
  refine T_on rfl rfl rfl rfl rfl fun kc hc => ?_
  simp; refine hc _ ?_; clear hc kc
  refine T_on rfl rfl rfl rfl rfl fun kc hc => ?_
  simp; refine hc _ ?_; clear hc kc
  refine T_on rfl rfl rfl rfl rfl fun kc hc => ?_
  simp; refine hc _ ?_; clear hc kc
  refine T_on rfl rfl rfl rfl rfl fun kc hc => ?_
  simp
  refine CallS.dat (walk54 y.need h.1) (rfl) rfl rfl rfl ?_
  simp [enum]; refine hc _ ?_; clear hc kc
  refine T_op rfl rfl fun kc hc => ?_
  simp; refine hc _ ?_; clear hc kc
  refine T_op rfl rfl fun kc hc => ?_
  simp; refine hc _ ?_; clear hc kc
  refine T_on rfl rfl rfl rfl rfl fun kc hc => ?_
  simp; refine hc _ ?_; clear hc kc
  refine T_on rfl rfl rfl rfl rfl fun kc hc => ?_
  simp; refine hc _ ?_; clear hc kc
  refine T_on rfl rfl rfl rfl rfl fun kc hc => ?_
  simp; refine hc _ ?_; clear hc kc
  refine T_on rfl rfl rfl rfl rfl fun kc hc => ?_
  simp; refine hc _ ?_; clear hc kc
  refine T_on rfl rfl rfl rfl rfl fun kc hc => ?_
  simp
  refine CallS.dat (walk54 y.bar h.2) (rfl) rfl rfl rfl ?_
  simp [enum]; refine hc _ ?_; clear hc kc
  refine T_op rfl rfl fun kc hc => ?_
  simp; refine hc _ ?_; clear hc kc
  refine T_op rfl rfl fun kc hc => ?_
  simp; refine hc _ ?_; clear hc kc
  refine T_end (hn _ ?_); clear hn hp kn kp
  refine T_then ?_
  refine T_ret ?_
  exact finI (Ent.refl _) (by simp [resD, resL, resV]; rfl) (Ent.sub [] [] (by simp [sub, subSl, subHp, place, mp, mpL, mpO, mpG]; rfl)) rfl rfl (by simp)
-- sizar/syntax.Same$2
theorem walk55 (q : Req) (h : q.names.length ≤ 1048576 ∧ q.frm.length ≤ 1048576) : Does Try.prog 55 [.agg (reqD q), .agg (reqD q)] (.dat (bV true)) [] := by
  refine Does.intro [.tmp 4] Try.func55 rfl (by kernel_rfl) Try.ntmps55 rfl (Nat.le_of_ble_eq_true rfl) ?_
  refine T_seq ?_
  refine T_region (is := [0, 1, 2]) rfl fun kn kp hn hp => ?_
  refine T_op rfl rfl fun kc hc => ?_
  simp; refine hc _ ?_; clear hc kc
  refine T_op rfl rfl fun kc hc => ?_
  simp; refine hc _ ?_; clear hc kc
  refine T_op rfl rfl fun kc hc => ?_
  simp; refine hc _ ?_; clear hc kc
  refine T_end (hn _ ?_); clear hn hp kn kp
  refine T_then ?_
  refine T_seq ?_
  refine T_region (is := [0, 1, 2, 3, 4, 5, 6, 7, 8, 9, 10, 11, 12, 13, 14, 15, 16, 17, 18, 19, 20, 21, 22, 23, 24, 25, 26, 27, 28, 29, 30, 31, 32, 33, 34, 35, 36, 37, 38, 39, 40]) rfl fun kn kp hn hp => ?_
  refine T_op rfl rfl fun kc hc => ?_
  simp; refine hc _ ?_; clear hc kc
  refine T_op rfl rfl fun kc hc => ?_
  simp; refine hc _ ?_; clear hc kc
  refine T_op rfl rfl fun kc hc => ?_
  simp; refine hc _ ?_; clear hc kc
  refine T_op rfl rfl fun kc hc => ?_
  simp; refine hc _ ?_; clear hc kc
  refine T_op rfl rfl fun kc hc => ?_
  simp; refine hc _ ?_; clear hc kc
  refine T_op rfl rfl fun kc hc => ?_
  simp; refine hc _ ?_; clear hc kc
  refine T_on rfl rfl rfl rfl rfl fun kc hc => ?_
  simp; refine hc _ ?_; clear hc kc
  refine T_on rfl rfl rfl rfl rfl fun kc hc => ?_
  simp; refine hc _ ?_; clear hc kc
  refine T_on rfl rfl rfl rfl rfl fun kc hc => ?_
  simp; refine hc _ ?_; clear hc kc
  refine T_on rfl rfl rfl rfl rfl fun kc hc => ?_
  simp; refine hc _ ?_; clear hc kc
  refine T_on rfl rfl rfl rfl rfl fun kc hc => ?_
  simp; refine hc _ ?_; clear hc kc
  refine T_op rfl rfl fun kc hc => ?_
  simp; refine hc _ ?_; clear hc kc
  refine T_op rfl rfl fun kc hc => ?_
  simp; refine hc _ ?_; clear hc kc
  refine T_on rfl rfl rfl rfl rfl fun kc hc => ?_
  simp; refine hc _ ?_; clear hc kc
  refine T_on rfl rfl rfl rfl rfl fun kc hc => ?_
  simp; refine hc _ ?_; clear hc kc
  refine T_on rfl rfl rfl rfl rfl fun kc hc => ?_
  simp; refine hc _ ?_; clear hc kc
  refine T_on rfl rfl rfl rfl rfl fun kc hc => ?_
  simp; refine hc _ ?_; clear hc kc
  refine T_on rfl rfl rfl rfl rfl fun kc hc => ?_
  simp; refine hc _ ?_; clear hc kc
  refine T_op rfl rfl fun kc hc => ?_
  simp; refine hc _ ?_; clear hc kc
  refine T_op rfl rfl fun kc hc => ?_
  simp; refine hc _ ?_; clear hc kc
  refine T_on rfl rfl rfl rfl rfl fun kc hc => ?_
  simp; refine hc _ ?_; clear hc kc
  refine T_on rfl rfl rfl rfl rfl fun kc hc => ?_
  simp; refine hc _ ?_; clear hc kc
  refine T_on rfl rfl rfl rfl rfl fun kc hc => ?_
  simp; refine hc _ ?_; clear hc kc
  refine T_on rfl rfl rfl rfl rfl fun kc hc => ?_
  simp; refine hc _ ?_; clear hc kc
  refine T_on rfl rfl rfl rfl rfl fun kc hc => ?_
  simp; refine hc _ ?_; clear hc kc
  refine T_op rfl rfl fun kc hc => ?_
  simp; refine hc _ ?_; clear hc kc
  refine T_op rfl rfl fun kc hc => ?_
  simp; refine hc _ ?_; clear hc kc
  refine T_on rfl rfl rfl rfl rfl fun kc hc => ?_
  simp; refine hc _ ?_; clear hc kc
  refine T_on rfl rfl rfl rfl rfl fun kc hc => ?_
  simp; refine hc _ ?_; clear hc kc
  refine T_on rfl rfl rfl rfl rfl fun kc hc => ?_
  simp; refine hc _ ?_; clear hc kc
  refine T_on rfl rfl rfl rfl rfl fun kc hc => ?_
  simp; refine hc _ ?_; clear hc kc
  refine T_on rfl rfl rfl rfl rfl fun kc hc => ?_
  simp
  refine CallS.dat (walk56 q.names (by omega)) (rfl) rfl rfl rfl ?_
  simp [enum]; refine hc _ ?_; clear hc kc
  refine T_op rfl rfl fun kc hc => ?_
  simp; refine hc _ ?_; clear hc kc
  refine T_op rfl rfl fun kc hc => ?_
  simp; refine hc _ ?_; clear hc kc
  refine T_on rfl rfl rfl rfl rfl fun kc hc => ?_
  simp; refine hc _ ?_; clear hc kc
  refine T_on rfl rfl rfl rfl rfl fun kc hc => ?_
  simp; refine hc _ ?_; clear hc kc
  refine T_on rfl rfl rfl rfl rfl fun kc hc => ?_
  simp; refine hc _ ?_; clear hc kc
  refine T_on rfl rfl rfl rfl rfl fun kc hc => ?_
  simp; refine hc _ ?_; clear hc kc
  refine T_on rfl rfl rfl rfl rfl fun kc hc => ?_
  simp
  refine CallS.dat (walk57 q.frm (by omega)) (rfl) rfl rfl rfl ?_
  simp [enum]; refine hc _ ?_; clear hc kc
  refine T_op rfl rfl fun kc hc => ?_
  simp; refine hc _ ?_; clear hc kc
  refine T_op rfl rfl fun kc hc => ?_
  simp; refine hc _ ?_; clear hc kc
  refine T_end (hn _ ?_); clear hn hp kn kp
  refine T_then ?_
  refine T_ret ?_
  exact finI (Ent.refl _) (by simp [resD, resL, resV]; rfl) (Ent.sub [] [] (by simp [sub, subSl, subHp, place, mp, mpL, mpO, mpG]; rfl)) rfl rfl (by simp)
-- sizar/syntax.Same$3
theorem walk58 (p : Prog) (h : p.reqs.length ≤ 1048576 ∧ ∀ q ∈ p.reqs, q.names.length ≤ 1048576 ∧ q.frm.length ≤ 1048576) : Does Try.prog 58 [.agg (progD p), .agg (progD p), .ref [.fn 55 []]] (.dat (bV true)) [] := by
  refine Does.intro [.tmp 5] Try.func58 rfl (by kernel_rfl) Try.ntmps58 rfl (Nat.le_of_ble_eq_true rfl) ?_
  refine T_seq ?_
  refine T_region (is := [0, 1, 2]) rfl fun kn kp hn hp => ?_
  refine T_op rfl rfl fun kc hc => ?_
  simp; refine hc _ ?_; clear hc kc
  refine T_op rfl rfl fun kc hc => ?_
  simp; refine hc _ ?_; clear hc kc
  refine T_op rfl rfl fun kc hc => ?_
  simp; refine hc _ ?_; clear hc kc
  refine T_end (hn _ ?_); clear hn hp kn kp
  refine T_then ?_
  refine T_seq ?_
  refine T_region (is := [0, 1, 2, 3, 4, 5, 6, 7, 8, 9, 10, 11, 12, 13, 14, 15, 16, 17, 18, 19, 20, 21, 22, 23, 24, 25, 26, 27, 28, 29, 30, 31, 32, 33, 34, 35, 36, 37, 38, 39, 40, 41]) rfl fun kn kp hn hp => ?_
  refine T_op rfl rfl fun kc hc => ?_
  simp; refine hc _ ?_; clear hc kc
  refine T_op rfl rfl fun kc hc => ?_
  simp; refine hc _ ?_; clear hc kc
  refine T_op rfl rfl fun kc hc => ?_
  simp; refine hc _ ?_; clear hc kc
  refine T_op rfl rfl fun kc hc => ?_
  simp; refine hc _ ?_; clear hc kc
  refine T_op rfl rfl fun kc hc => ?_
  simp; refine hc _ ?_; clear hc kc
  refine T_op rfl rfl fun kc hc => ?_
  simp; refine hc _ ?_; clear hc kc
  refine T_on rfl rfl rfl rfl rfl fun kc hc => ?_
  simp; refine hc _ ?_; clear hc kc
  refine T_on rfl rfl rfl rfl rfl fun kc hc => ?_
  simp; refine hc _ ?_; clear hc kc
  refine T_on rfl rfl rfl rfl rfl fun kc hc => ?_
  simp; refine hc _ ?_; clear hc kc
  refine T_on rfl rfl rfl rfl rfl fun kc hc => ?_
  simp; refine hc _ ?_; clear hc kc
  refine T_on rfl rfl rfl rfl rfl fun kc hc => ?_
  simp; refine hc _ ?_; clear hc kc
  refine T_op rfl rfl fun kc hc => ?_
  simp; refine hc _ ?_; clear hc kc
  refine T_op rfl rfl fun kc hc => ?_
  simp; refine hc _ ?_; clear hc kc
  refine T_on rfl rfl rfl rfl rfl fun kc hc => ?_
  simp; refine hc _ ?_; clear hc kc
  refine T_on rfl rfl rfl rfl rfl fun kc hc => ?_
  simp; refine hc _ ?_; clear hc kc
  refine T_on rfl rfl rfl rfl rfl fun kc hc => ?_
  simp; refine hc _ ?_; clear hc kc
  refine T_on rfl rfl rfl rfl rfl fun kc hc => ?_
  simp; refine hc _ ?_; clear hc kc
  refine T_on rfl rfl rfl rfl rfl fun kc hc => ?_
  simp; refine hc _ ?_; clear hc kc
  refine T_op rfl rfl fun kc hc => ?_
  simp; refine hc _ ?_; clear hc kc
  refine T_op rfl rfl fun kc hc => ?_
  simp; refine hc _ ?_; clear hc kc
  refine T_on rfl rfl rfl rfl rfl fun kc hc => ?_
  simp; refine hc _ ?_; clear hc kc
  refine T_on rfl rfl rfl rfl rfl fun kc hc => ?_
  simp; refine hc _ ?_; clear hc kc
  refine T_on rfl rfl rfl rfl rfl fun kc hc => ?_
  simp; refine hc _ ?_; clear hc kc
  refine T_on rfl rfl rfl rfl rfl fun kc hc => ?_
  simp; refine hc _ ?_; clear hc kc
  refine T_on rfl rfl rfl rfl rfl fun kc hc => ?_
  simp; refine hc _ ?_; clear hc kc
  refine T_op rfl rfl fun kc hc => ?_
  simp; refine hc _ ?_; clear hc kc
  refine T_op rfl rfl fun kc hc => ?_
  simp; refine hc _ ?_; clear hc kc
  refine T_on rfl rfl rfl rfl rfl fun kc hc => ?_
  simp; refine hc _ ?_; clear hc kc
  refine T_on rfl rfl rfl rfl rfl fun kc hc => ?_
  simp; refine hc _ ?_; clear hc kc
  refine T_on rfl rfl rfl rfl rfl fun kc hc => ?_
  simp; refine hc _ ?_; clear hc kc
  refine T_on rfl rfl rfl rfl rfl fun kc hc => ?_
  simp; refine hc _ ?_; clear hc kc
  refine T_on rfl rfl rfl rfl rfl fun kc hc => ?_
  simp; refine hc _ ?_; clear hc kc
  refine T_op rfl rfl fun kc hc => ?_
  simp; refine hc _ ?_; clear hc kc
  refine T_op rfl rfl fun kc hc => ?_
  simp; refine hc _ ?_; clear hc kc
  refine T_on rfl rfl rfl rfl rfl fun kc hc => ?_
  simp; refine hc _ ?_; clear hc kc
  refine T_on rfl rfl rfl rfl rfl fun kc hc => ?_
  simp; refine hc _ ?_; clear hc kc
  refine T_on rfl rfl rfl rfl rfl fun kc hc => ?_
  simp; refine hc _ ?_; clear hc kc
  refine T_on rfl rfl rfl rfl rfl fun kc hc => ?_
  simp; refine hc _ ?_; clear hc kc
  refine T_on rfl rfl rfl rfl rfl fun kc hc => ?_
  simp; refine hc _ ?_; clear hc kc
  refine T_on rfl rfl rfl rfl rfl fun kc hc => ?_
  simp
  refine CallS.dat (walk59 p.reqs 55 [] (fun q hq => walk55 q (h.2 q hq)) (by omega)) (rfl) rfl rfl rfl ?_
  simp [enum]; refine hc _ ?_; clear hc kc
  refine T_op rfl rfl fun kc hc => ?_
  simp; refine hc _ ?_; clear hc kc
  refine T_op rfl rfl fun kc hc => ?_
  simp; refine hc _ ?_; clear hc kc
  refine T_end (hn _ ?_); clear hn hp kn kp
  refine T_then ?_
  refine T_ret ?_
  exact finI (Ent.refl _) (by simp [resD, resL, resV]; rfl) (Ent.sub [] [] (by simp [sub, subSl, subHp, place, mp, mpL, mpO, mpG]; rfl)) rfl rfl (by simp)
-- sizar/syntax.Same
theorem walk14 (c : Cat) (hf : c.fit) : Does Try.prog 14 [.agg (catD c), .agg (catD c)] (.dat (bV true)) [] := by
  have h1 := hf.courses
  have h2 := hf.progs
  have h3 := hf.classes
  have h4 := hf.fees
  have h5 := hf.honours
  have h6 := hf.clauses
  have h7 := hf.same
  refine Does.intro [.tmp 4] Try.func14 rfl (by kernel_rfl) Try.ntmps14 rfl (Nat.le_of_ble_eq_true rfl) ?_
  refine T_seq ?_
  refine T_region (is := [0, 1, 2]) rfl fun kn kp hn hp => ?_
  refine T_op rfl rfl fun kc hc => ?_
  simp; refine hc _ ?_; clear hc kc
  refine T_op rfl rfl fun kc hc => ?_
  simp; refine hc _ ?_; clear hc kc
  refine T_op rfl rfl fun kc hc => ?_
  simp; refine hc _ ?_; clear hc kc
  refine T_end (hn _ ?_); clear hn hp kn kp
  refine T_then ?_
  refine T_seq ?_
  refine T_region (is := [0]) rfl fun kn kp hn hp => ?_
  refine T_op rfl rfl fun kc hc => ?_
  simp; refine hc _ ?_; clear hc kc
  refine T_end (hn _ ?_); clear hn hp kn kp
  refine T_then ?_
  refine T_seq ?_
  refine T_region (is := [0, 1]) rfl fun kn kp hn hp => ?_
  refine T_op rfl rfl fun kc hc => ?_
  simp; refine hc _ ?_; clear hc kc
  refine T_op rfl rfl fun kc hc => ?_
  simp; refine hc _ ?_; clear hc kc
  refine T_end (hn _ ?_); clear hn hp kn kp
  refine T_then ?_
  refine T_seq ?_
  refine T_region (is := [0, 1]) rfl fun kn kp hn hp => ?_
  refine T_op rfl rfl fun kc hc => ?_
  simp; refine hc _ ?_; clear hc kc
  refine T_op rfl rfl fun kc hc => ?_
  simp; refine hc _ ?_; clear hc kc
  refine T_end (hn _ ?_); clear hn hp kn kp
  refine T_then ?_
  refine T_seq ?_
  refine T_region (is := [0, 1, 2, 3, 4, 5, 6, 7, 8, 9, 10, 11, 12, 13, 14, 15, 16, 17, 18, 19, 20, 21, 22, 23, 24, 25, 26, 27, 28, 29, 30, 31, 32, 33, 34, 35, 36, 37, 38, 39, 40, 41, 42, 43, 44, 45, 46, 47, 48, 49]) rfl fun kn kp hn hp => ?_
  refine T_op rfl rfl fun kc hc => ?_
  simp; refine hc _ ?_; clear hc kc
  refine T_op rfl rfl fun kc hc => ?_
  simp; refine hc _ ?_; clear hc kc
  refine T_op rfl rfl fun kc hc => ?_
  simp; refine hc _ ?_; clear hc kc
  refine T_op rfl rfl fun kc hc => ?_
  simp; refine hc _ ?_; clear hc kc
  refine T_op rfl rfl fun kc hc => ?_
  simp; refine hc _ ?_; clear hc kc
  refine T_op rfl rfl fun kc hc => ?_
  simp
  refine CallS.dat (walk60 c.courses 53 [] (fun y hy => walk53 y (hf.need y hy)) (by omega)) (rfl) rfl rfl rfl ?_
  simp [enum]; refine hc _ ?_; clear hc kc
  refine T_op rfl rfl fun kc hc => ?_
  simp; refine hc _ ?_; clear hc kc
  refine T_on rfl rfl rfl rfl rfl fun kc hc => ?_
  simp; refine hc _ ?_; clear hc kc
  refine T_on rfl rfl rfl rfl rfl fun kc hc => ?_
  simp; refine hc _ ?_; clear hc kc
  refine T_on rfl rfl rfl rfl rfl fun kc hc => ?_
  simp; refine hc _ ?_; clear hc kc
  refine T_on rfl rfl rfl rfl rfl fun kc hc => ?_
  simp; refine hc _ ?_; clear hc kc
  refine T_on rfl rfl rfl rfl rfl fun kc hc => ?_
  simp
  refine CallS.dat (walk61 c.same (by omega)) (rfl) rfl rfl rfl ?_
  simp [enum]; refine hc _ ?_; clear hc kc
  refine T_op rfl rfl fun kc hc => ?_
  simp; refine hc _ ?_; clear hc kc
  refine T_op rfl rfl fun kc hc => ?_
  simp; refine hc _ ?_; clear hc kc
  refine T_on rfl rfl rfl rfl rfl fun kc hc => ?_
  simp; refine hc _ ?_; clear hc kc
  refine T_on rfl rfl rfl rfl rfl fun kc hc => ?_
  simp; refine hc _ ?_; clear hc kc
  refine T_on rfl rfl rfl rfl rfl fun kc hc => ?_
  simp; refine hc _ ?_; clear hc kc
  refine T_on rfl rfl rfl rfl rfl fun kc hc => ?_
  simp; refine hc _ ?_; clear hc kc
  refine T_on rfl rfl rfl rfl rfl fun kc hc => ?_
  simp; refine hc _ ?_; clear hc kc
  refine T_on rfl rfl rfl rfl rfl fun kc hc => ?_
  simp
  refine CallS.lend (walk62 c.progs 58 [.ref [.fn 55 []]] (fun p hp => walk58 p (hf.reqs p hp)) (by omega)) (rfl) rfl rfl ?_
  simp [enum]; refine hc _ ?_; clear hc kc
  refine T_op rfl rfl fun kc hc => ?_
  simp; refine hc _ ?_; clear hc kc
  refine T_op rfl rfl fun kc hc => ?_
  simp; refine hc _ ?_; clear hc kc
  refine T_on rfl rfl rfl rfl rfl fun kc hc => ?_
  simp; refine hc _ ?_; clear hc kc
  refine T_on rfl rfl rfl rfl rfl fun kc hc => ?_
  simp; refine hc _ ?_; clear hc kc
  refine T_on rfl rfl rfl rfl rfl fun kc hc => ?_
  simp; refine hc _ ?_; clear hc kc
  refine T_on rfl rfl rfl rfl rfl fun kc hc => ?_
  simp; refine hc _ ?_; clear hc kc
  refine T_on rfl rfl rfl rfl rfl fun kc hc => ?_
  simp
  refine CallS.dat (walk63 c.classes (by omega)) (rfl) rfl rfl rfl ?_
  simp [enum]; refine hc _ ?_; clear hc kc
  refine T_op rfl rfl fun kc hc => ?_
  simp; refine hc _ ?_; clear hc kc
  refine T_op rfl rfl fun kc hc => ?_
  simp; refine hc _ ?_; clear hc kc
  refine T_on rfl rfl rfl rfl rfl fun kc hc => ?_
  simp; refine hc _ ?_; clear hc kc
  refine T_on rfl rfl rfl rfl rfl fun kc hc => ?_
  simp; refine hc _ ?_; clear hc kc
  refine T_on rfl rfl rfl rfl rfl fun kc hc => ?_
  simp; refine hc _ ?_; clear hc kc
  refine T_on rfl rfl rfl rfl rfl fun kc hc => ?_
  simp; refine hc _ ?_; clear hc kc
  refine T_on rfl rfl rfl rfl rfl fun kc hc => ?_
  simp
  refine CallS.dat (walk64 c.fees (by omega)) (rfl) rfl rfl rfl ?_
  simp [enum]; refine hc _ ?_; clear hc kc
  refine T_op rfl rfl fun kc hc => ?_
  simp; refine hc _ ?_; clear hc kc
  refine T_op rfl rfl fun kc hc => ?_
  simp; refine hc _ ?_; clear hc kc
  refine T_on rfl rfl rfl rfl rfl fun kc hc => ?_
  simp; refine hc _ ?_; clear hc kc
  refine T_on rfl rfl rfl rfl rfl fun kc hc => ?_
  simp; refine hc _ ?_; clear hc kc
  refine T_on rfl rfl rfl rfl rfl fun kc hc => ?_
  simp; refine hc _ ?_; clear hc kc
  refine T_on rfl rfl rfl rfl rfl fun kc hc => ?_
  simp; refine hc _ ?_; clear hc kc
  refine T_on rfl rfl rfl rfl rfl fun kc hc => ?_
  simp
  refine CallS.dat (walk63 c.honours (by omega)) (rfl) rfl rfl rfl ?_
  simp [enum]; refine hc _ ?_; clear hc kc
  refine T_op rfl rfl fun kc hc => ?_
  simp; refine hc _ ?_; clear hc kc
  refine T_op rfl rfl fun kc hc => ?_
  simp; refine hc _ ?_; clear hc kc
  refine T_on rfl rfl rfl rfl rfl fun kc hc => ?_
  simp; refine hc _ ?_; clear hc kc
  refine T_on rfl rfl rfl rfl rfl fun kc hc => ?_
  simp; refine hc _ ?_; clear hc kc
  refine T_on rfl rfl rfl rfl rfl fun kc hc => ?_
  simp; refine hc _ ?_; clear hc kc
  refine T_on rfl rfl rfl rfl rfl fun kc hc => ?_
  simp; refine hc _ ?_; clear hc kc
  refine T_on rfl rfl rfl rfl rfl fun kc hc => ?_
  simp
  refine CallS.dat (walk65 c.clauses (by omega)) (rfl) rfl rfl rfl ?_
  simp [enum]; refine hc _ ?_; clear hc kc
  refine T_op rfl rfl fun kc hc => ?_
  simp; refine hc _ ?_; clear hc kc
  refine T_op rfl rfl fun kc hc => ?_
  simp; refine hc _ ?_; clear hc kc
  refine T_end (hn _ ?_); clear hn hp kn kp
  refine T_then ?_
  refine T_ret ?_
  exact finI (Ent.refl _) (by simp [resD, resL, resV]; rfl) (Ent.sub [] [] (by simp [sub, subSl, subHp, place, mp, mpL, mpO, mpG]; rfl)) rfl rfl (by simp)
-- END

end Go.Proofs.Ytbkkekbeaabokaa
