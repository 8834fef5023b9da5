/- The names: the statement After, walked. -/
import Derived.Test.YtbkkekbeaabokaaNt
import Derived.Test.YtbkkekbeaabokaaSyW
set_option linter.unusedVariables false
set_option linter.unusedSimpArgs false
namespace Go.Proofs.Ytbkkekbeaabokaa
open Go Go.Proofs.Ytbkkekbeaabokaa.Sx

-- WALK 7
-- sizar/sizarlaw11.NamesAfter
set_option maxHeartbeats 4000000 in
theorem walk7 (c : Cat) (hf : c.fit) : Does Try.prog 7 [.agg (catD c)] (.dat (bV true)) [] := by
  have h1 := hf.courses
  have ho1 := orderOf_len c
  refine Does.intro [.tmp 2] Try.func7 rfl (by kernel_rfl) Try.ntmps7 rfl (Nat.le_of_ble_eq_true rfl) ?_
  refine T_seq ?_
  refine T_region (is := [0, 1]) rfl fun kn kp hn hp => ?_
  refine T_op rfl rfl fun kc hc => ?_
  simp; refine hc _ ?_; clear hc kc
  refine T_op rfl rfl fun kc hc => ?_
  simp; refine hc _ ?_; clear hc kc
  refine T_end (hn _ ?_); clear hn hp kn kp
  refine T_then ?_
  refine T_seq ?_
  refine T_seq ?_
  refine T_region (is := [0, 1]) rfl fun kn kp hn hp => ?_
  refine T_op rfl rfl fun kc hc => ?_
  simp
  refine CallS.dat (walk10) (rfl) rfl rfl rfl ?_
  simp [enum]; refine hc _ ?_; clear hc kc
  refine T_op rfl rfl fun kc hc => ?_
  simp; refine hc _ ?_; clear hc kc
  refine T_end (hn _ ?_); clear hn hp kn kp
  refine T_then ?_
  refine T_false (by simp) ?_
  refine T_skip ?_
  refine T_then ?_
  refine T_seq ?_
  refine T_seq ?_
  refine T_region (is := [0, 1, 2, 3, 4, 5, 6]) rfl fun kn kp hn hp => ?_
  refine T_op rfl rfl fun kc hc => ?_
  simp; refine hc _ ?_; clear hc kc
  refine T_op rfl rfl fun kc hc => ?_
  simp
  refine CallS.dat (walk11 c hf) (rfl) rfl rfl rfl ?_
  simp [enum]; refine hc _ ?_; clear hc kc
  refine T_op rfl rfl fun kc hc => ?_
  simp; refine hc _ ?_; clear hc kc
  refine T_op rfl rfl fun kc hc => ?_
  simp; refine hc _ ?_; clear hc kc
  refine T_pure rfl (pstep_one rfl rfl rfl rfl fun g0 => .op rfl (by simp [g0]; rfl)) fun kc hc => ?_
  simp; refine hc _ ?_; clear hc kc
  refine T_pure rfl (pstep_one rfl rfl rfl rfl fun g0 => .dat (by simp [g0] <;> first | exact ⟨rfl, rfl⟩ | rfl) (by exact walk22 c hf) (by rfl)) fun kc hc => ?_
  simp; refine hc _ ?_; clear hc kc
  refine T_op rfl rfl fun kc hc => ?_
  simp; refine hc _ ?_; clear hc kc
  refine T_end (hn _ ?_); clear hn hp kn kp
  refine T_then ?_
  refine T_cond rfl (fun b2 => ?_) (fun b2 => ?_)
  · skip
    refine T_seq ?_
    refine T_region (is := [0]) rfl fun kn kp hn hp => ?_
    refine T_op rfl rfl fun kc hc => ?_
    simp; refine hc _ ?_; clear hc kc
    refine T_end (hn _ ?_); clear hn hp kn kp
    refine T_then ?_
    refine T_ret ?_
    refine X_thenR ?_
    exact finI (Ent.refl _) (by simp [resD, resL, resV]; rfl) (Ent.sub [] [] (by simp [sub, subSl, subHp, place, mp, mpL, mpO, mpG]; rfl)) rfl rfl (by simp)
  · skip
    have hT : twiceC c = false := by simp at b2; exact b2.2
    refine T_skip ?_
    refine T_then ?_
    refine T_seq ?_
    refine T_region (is := [0, 1, 2, 3, 4, 5, 6]) rfl fun kn kp hn hp => ?_
    refine T_op rfl rfl fun kc hc => ?_
    simp; refine hc _ ?_; clear hc kc
    refine T_op rfl rfl fun kc hc => ?_
    simp
    refine CallS.dat (walk17 c hf) (rfl) rfl rfl rfl ?_
    simp [enum]; refine hc _ ?_; clear hc kc
    refine T_op rfl rfl fun kc hc => ?_
    simp; refine hc _ ?_; clear hc kc
    refine T_op rfl rfl fun kc hc => ?_
    simp; refine hc _ ?_; clear hc kc
    refine T_op rfl rfl fun kc hc => ?_
    simp; refine hc _ ?_; clear hc kc
    refine T_op rfl rfl fun kc hc => ?_
    simp; refine hc _ ?_; clear hc kc
    refine T_op rfl rfl fun kc hc => ?_
    simp; refine hc _ ?_; clear hc kc
    refine T_end (hn _ ?_); clear hn hp kn kp
    refine T_then ?_
    refine T_seq ?_
    refine T_seq ?_
    refine T_region (is := [0, 1]) rfl fun kn kp hn hp => ?_
    refine T_op rfl rfl fun kc hc => ?_
    simp; refine hc _ ?_; clear hc kc
    refine T_op rfl rfl fun kc hc => ?_
    simp; refine hc _ ?_; clear hc kc
    refine T_end (hn _ ?_); clear hn hp kn kp
    refine T_then ?_
    refine T_cond rfl (fun b3 => ?_) (fun b3 => ?_)
    · skip
      obtain ⟨hob, _⟩ := order_bad (c := c) (by simpa [bne] using b3)
      refine T_seq ?_
      refine T_region (is := [0, 1, 2, 3, 4, 5, 6, 7]) rfl fun kn kp hn hp => ?_
      refine T_op rfl rfl fun kc hc => ?_
      simp; refine hc _ ?_; clear hc kc
      refine T_op rfl rfl fun kc hc => ?_
      simp [hob]; refine hc _ ?_; clear hc kc
      refine T_op rfl rfl fun kc hc => ?_
      simp [hob]; refine hc _ ?_; clear hc kc
      refine T_pure rfl (pstep_one rfl rfl rfl rfl fun g0 => .op rfl (by simp [g0, hob]; rfl)) fun kc hc => ?_
      simp; refine hc _ ?_; clear hc kc
      refine T_pure rfl (pstep_one rfl rfl rfl rfl fun g0 => .op rfl (by simp [g0, hob]; rfl)) fun kc hc => ?_
      simp; refine hc _ ?_; clear hc kc
      refine T_pure rfl (pstep_one rfl rfl rfl rfl fun g0 => .op rfl (by simp [g0, hob]; rfl)) fun kc hc => ?_
      simp; refine hc _ ?_; clear hc kc
      refine T_op rfl rfl fun kc hc => ?_
      simp; refine hc _ ?_; clear hc kc
      refine T_op rfl rfl fun kc hc => ?_
      simp; refine hc _ ?_; clear hc kc
      refine T_end (hn _ ?_); clear hn hp kn kp
      refine T_then ?_
      refine T_ret ?_
      refine X_thenR ?_
      exact finI (Ent.refl _) (by simp [resD, resL, resV]; rfl) (Ent.sub [] [] (by simp [sub, subSl, subHp, place, mp, mpL, mpO, mpG]; rfl)) rfl rfl (by simp [hob])
    · skip
      have ho0 : (orderOf c).2 = 0 := by simpa [bne] using b3
      obtain ⟨hl1, hl2, hl3⟩ := order_ok ho0
      have hlen : (orderOf c).1.length = c.courses.length := by rw [hl2]; simpa using hl3
      refine T_skip ?_
      refine T_then ?_
      refine T_seq ?_
      refine T_seq ?_
      refine T_region (is := [0, 1, 2, 3, 4, 5]) rfl fun kn kp hn hp => ?_
      refine T_op rfl rfl fun kc hc => ?_
      simp; refine hc _ ?_; clear hc kc
      refine T_op rfl rfl fun kc hc => ?_
      simp; refine hc _ ?_; clear hc kc
      refine T_op rfl rfl fun kc hc => ?_
      simp; refine hc _ ?_; clear hc kc
      refine T_op rfl rfl fun kc hc => ?_
      simp; refine hc _ ?_; clear hc kc
      refine T_op rfl rfl fun kc hc => ?_
      simp; refine hc _ ?_; clear hc kc
      refine T_op rfl rfl fun kc hc => ?_
      simp; refine hc _ ?_; clear hc kc
      refine T_end (hn _ ?_); clear hn hp kn kp
      refine T_then ?_
      refine T_false (by simp [hlen]) ?_
      refine T_skip ?_
      refine T_then ?_
      refine T_seq ?_
      refine T_seq ?_
      refine T_region (is := [0]) rfl fun kn kp hn hp => ?_
      refine T_op rfl rfl fun kc hc => ?_
      simp; refine hc _ ?_; clear hc kc
      refine T_end (hn _ ?_); clear hn hp kn kp
      refine T_then ?_
      refine T_block ?_
      refine T_loop (fun z : Nat => { sl := [(1, .ptr 0 0), (3, .dat (ints (orderOf c).1)), (5, .dat (iD z))], hp := [(0, .var ((catD c).map .dat))], nx := 1 }) (fun z => z ≤ c.courses.length) (fun z => c.courses.length - z) 0 (Ent.sub [1, 3, 5] [0] (by simp [sub, subSl, subHp, place, mp, mpL, mpO, mpG])) (Nat.zero_le _) fun z hz => ?_
      refine T_seq ?_
      refine T_seq ?_
      refine T_region (is := [0, 1, 2, 3, 4]) rfl fun kn kp hn hp => ?_
      refine T_op rfl rfl fun kc hc => ?_
      simp; refine hc _ ?_; clear hc kc
      refine T_op rfl rfl fun kc hc => ?_
      simp; refine hc _ ?_; clear hc kc
      refine T_op rfl rfl fun kc hc => ?_
      simp; refine hc _ ?_; clear hc kc
      refine T_op rfl rfl fun kc hc => ?_
      simp; refine hc _ ?_; clear hc kc
      refine T_op rfl rfl fun kc hc => ?_
      simp; refine hc _ ?_; clear hc kc
      refine T_end (hn _ ?_); clear hn hp kn kp
      refine T_then ?_
      refine T_cond rfl (fun b5 => ?_) (fun b5 => ?_)
      · skip
        have hz' : z < c.courses.length := by simpa using b5
        obtain ⟨y, hxy⟩ : ∃ x, c.courses[z]? = some x := ⟨_, List.getElem?_eq_getElem hz'⟩
        have ez : IntKind.i64.wrap ((z : Int) + 1) = (z : Int) + 1 := wr1 hz' (by omega)
        have hzl := hz'
        have hyn := hf.need y (List.mem_of_getElem? hxy)
        obtain ⟨p, hpi, hnd⟩ := order_law hT ho0 hxy
        have hna : needsAt c z = needsL c (partsOf y.need) := by simp [needsAt, hxy]
        have hnl := needsL_len c (partsOf y.need)
        clear hz'
        refine T_skip ?_
        refine T_then ?_
        refine T_seq ?_
        refine T_block ?_
        refine T_seq ?_
        refine T_region (is := [0, 1, 2, 3, 4, 5, 6, 7, 8]) rfl fun kn kp hn hp => ?_
        refine T_op rfl rfl fun kc hc => ?_
        simp; refine hc _ ?_; clear hc kc
        refine T_op rfl rfl fun kc hc => ?_
        simp; refine hc _ ?_; clear hc kc
        refine T_op rfl rfl fun kc hc => ?_
        simp; refine hc _ ?_; clear hc kc
        refine T_op rfl rfl fun kc hc => ?_
        simp; refine hc _ ?_; clear hc kc
        refine T_op rfl rfl fun kc hc => ?_
        simp [hxy]; refine hc _ ?_; clear hc kc
        refine T_op rfl rfl fun kc hc => ?_
        simp; refine hc _ ?_; clear hc kc
        refine T_op rfl rfl fun kc hc => ?_
        simp [hxy]; refine hc _ ?_; clear hc kc
        refine T_op rfl rfl fun kc hc => ?_
        simp
        refine CallS.dat (walk23 (orderOf c).1 y.number (by omega)) (rfl) rfl rfl rfl ?_
        simp [enum]; refine hc _ ?_; clear hc kc
        refine T_op rfl rfl fun kc hc => ?_
        simp; refine hc _ ?_; clear hc kc
        refine T_end (hn _ ?_); clear hn hp kn kp
        refine T_then ?_
        refine T_seq ?_
        refine T_seq ?_
        refine T_region (is := [0, 1]) rfl fun kn kp hn hp => ?_
        refine T_op rfl rfl fun kc hc => ?_
        simp; refine hc _ ?_; clear hc kc
        refine T_op rfl rfl fun kc hc => ?_
        simp; refine hc _ ?_; clear hc kc
        refine T_end (hn _ ?_); clear hn hp kn kp
        refine T_then ?_
        refine T_false (by simp [hpi]) ?_
        refine T_skip ?_
        refine T_then ?_
        refine T_seq ?_
        refine T_region (is := [0, 1, 2, 3]) rfl fun kn kp hn hp => ?_
        refine T_op rfl rfl fun kc hc => ?_
        simp; refine hc _ ?_; clear hc kc
        refine T_op rfl rfl fun kc hc => ?_
        simp; refine hc _ ?_; clear hc kc
        refine T_op rfl rfl fun kc hc => ?_
        simp
        refine CallS.dat (walk24 c z y hxy hyn.1 h1) (rfl) rfl rfl rfl ?_
        simp [enum]; refine hc _ ?_; clear hc kc
        refine T_op rfl rfl fun kc hc => ?_
        simp; refine hc _ ?_; clear hc kc
        refine T_end (hn _ ?_); clear hn hp kn kp
        refine T_then ?_
        refine T_seq ?_
        refine T_region (is := [0]) rfl fun kn kp hn hp => ?_
        refine T_op rfl rfl fun kc hc => ?_
        simp; refine hc _ ?_; clear hc kc
        refine T_end (hn _ ?_); clear hn hp kn kp
        refine T_then ?_
        refine T_block ?_
        refine T_loop (fun v : Nat => { sl := [(1, .ptr 0 0), (3, .dat (ints (orderOf c).1)), (5, .dat (iD z)), (6, .dat (iD p)), (7, .dat (ints (needsL c (partsOf y.need)))), (8, .dat (iD v))], hp := [(0, .var ((catD c).map .dat))], nx := 1 }) (fun v => v ≤ (needsL c (partsOf y.need)).length) (fun v => (needsL c (partsOf y.need)).length - v) 0 (Ent.sub [1, 3, 5, 6, 7, 8] [0] (by simp [sub, subSl, subHp, place, mp, mpL, mpO, mpG, hpi])) (Nat.zero_le _) fun v hv => ?_
        refine T_seq ?_
        refine T_seq ?_
        refine T_region (is := [0, 1, 2, 3]) rfl fun kn kp hn hp => ?_
        refine T_op rfl rfl fun kc hc => ?_
        simp; refine hc _ ?_; clear hc kc
        refine T_op rfl rfl fun kc hc => ?_
        simp; refine hc _ ?_; clear hc kc
        refine T_op rfl rfl fun kc hc => ?_
        simp; refine hc _ ?_; clear hc kc
        refine T_op rfl rfl fun kc hc => ?_
        simp; refine hc _ ?_; clear hc kc
        refine T_end (hn _ ?_); clear hn hp kn kp
        refine T_then ?_
        refine T_cond rfl (fun b7 => ?_) (fun b7 => ?_)
        · skip
          have hz' : v < (needsL c (partsOf y.need)).length := by simpa using b7
          obtain ⟨m, hxm⟩ : ∃ x, (needsL c (partsOf y.need))[v]? = some x := ⟨_, List.getElem?_eq_getElem hz'⟩
          have ev : IntKind.i64.wrap ((v : Int) + 1) = (v : Int) + 1 := wr1 hz' (by omega)
          obtain ⟨j, u, q, hmj, hjl, hju, hqi, hqp⟩ := hnd m (by rw [hna]; exact List.mem_of_getElem? hxm)
          subst hmj
          refine T_skip ?_
          refine T_then ?_
          refine T_seq ?_
          refine T_block ?_
          refine T_seqDraw (is := [0, 1, 2, 3, 4, 5, 6, 7, 8, 9, 10, 11]) rfl (by kernel_rfl) fun kn hn => ?_
          refine D_op rfl rfl rfl rfl fun kc hc => ?_
          simp; refine hc _ ?_; clear hc kc
          refine D_op rfl rfl rfl rfl fun kc hc => ?_
          simp; refine hc _ ?_; clear hc kc
          refine D_op rfl rfl rfl rfl fun kc hc => ?_
          simp; refine hc _ ?_; clear hc kc
          refine D_op rfl rfl rfl rfl fun kc hc => ?_
          simp; refine hc _ ?_; clear hc kc
          refine D_op rfl rfl rfl rfl fun kc hc => ?_
          simp; refine hc _ ?_; clear hc kc
          refine D_op rfl rfl rfl rfl fun kc hc => ?_
          simp [hxm]; refine hc _ ?_; clear hc kc
          refine D_op rfl rfl rfl rfl fun kc hc => ?_
          simp [hxm]; refine hc _ ?_; clear hc kc
          refine D_op rfl rfl rfl rfl fun kc hc => ?_
          simp [hju]; refine hc _ ?_; clear hc kc
          refine D_op rfl rfl rfl rfl fun kc hc => ?_
          simp; refine hc _ ?_; clear hc kc
          refine D_op rfl rfl rfl rfl fun kc hc => ?_
          simp [hju]; refine hc _ ?_; clear hc kc
          refine D_call rfl rfl rfl (by simp <;> first | exact ⟨rfl, rfl⟩ | rfl) (walk23 (orderOf c).1 u.number (by omega)) (by rfl) rfl fun kc hc => ?_
          simp [enum]; refine hc _ ?_; clear hc kc
          refine D_op rfl rfl rfl rfl fun kc hc => ?_
          simp; refine hc _ ?_; clear hc kc
          refine D_end rfl (by kernel_rfl) (hn _ ?_); clear hn kn
          refine T_seq ?_
          refine T_region (is := [0, 1, 2, 3, 4, 5, 6]) rfl fun kn kp hn hp => ?_
          refine T_op rfl rfl fun kc hc => ?_
          simp; refine hc _ ?_; clear hc kc
          refine T_op rfl rfl fun kc hc => ?_
          simp; refine hc _ ?_; clear hc kc
          refine T_op rfl rfl fun kc hc => ?_
          simp; refine hc _ ?_; clear hc kc
          refine T_pure rfl (pstep_one rfl rfl rfl rfl fun g0 => .op rfl (by simp [g0]; rfl)) fun kc hc => ?_
          simp; refine hc _ ?_; clear hc kc
          refine T_pure rfl (pstep_one rfl rfl rfl rfl fun g0 => .op rfl (by simp [g0]; rfl)) fun kc hc => ?_
          simp; refine hc _ ?_; clear hc kc
          refine T_pure rfl (pstep_one rfl rfl rfl rfl fun g0 => .op rfl (by simp [g0]; rfl)) fun kc hc => ?_
          simp; refine hc _ ?_; clear hc kc
          refine T_op rfl rfl fun kc hc => ?_
          simp; refine hc _ ?_; clear hc kc
          refine T_end (hn _ ?_); clear hn hp kn kp
          refine T_then ?_
          refine T_false (by simp [hqi]; omega) ?_
          refine T_skip ?_
          refine X_blockN ?_
          refine T_then ?_
          refine T_region (is := [0, 1, 2]) rfl fun kn kp hn hp => ?_
          refine T_op rfl rfl fun kc hc => ?_
          simp; refine hc _ ?_; clear hc kc
          refine T_op rfl rfl fun kc hc => ?_
          simp [ev]; refine hc _ ?_; clear hc kc
          refine T_op rfl rfl fun kc hc => ?_
          simp; refine hc _ ?_; clear hc kc
          refine T_end (hn _ ?_); clear hn hp kn kp
          exact X_loopN (v + 1) (Ent.sub [1, 3, 5, 6, 7, 8] [0] (by simp [sub, subSl, subHp, place, mp, mpL, mpO, mpG, ev])) hz' (by omega)
        · skip
          have hz' : v = (needsL c (partsOf y.need)).length := by simp at b7; omega
          refine T_exit ?_
          refine X_thenE ?_
          refine X_loopE ?_
          refine X_hit ?_
          refine X_blockN ?_
          refine T_then ?_
          refine T_region (is := [0, 1, 2]) rfl fun kn kp hn hp => ?_
          refine T_op rfl rfl fun kc hc => ?_
          simp; refine hc _ ?_; clear hc kc
          refine T_op rfl rfl fun kc hc => ?_
          simp [ez]; refine hc _ ?_; clear hc kc
          refine T_op rfl rfl fun kc hc => ?_
          simp; refine hc _ ?_; clear hc kc
          refine T_end (hn _ ?_); clear hn hp kn kp
          exact X_loopN (z + 1) (Ent.sub [1, 3, 5] [0] (by simp [sub, subSl, subHp, place, mp, mpL, mpO, mpG, ez])) hzl (by omega)
      · skip
        have hz' : z = c.courses.length := by simp at b5; omega
        subst hz'
        refine T_exit ?_
        refine X_thenE ?_
        refine X_loopE ?_
        refine X_hit ?_
        refine T_then ?_
        refine T_seq ?_
        refine T_region (is := [0]) rfl fun kn kp hn hp => ?_
        refine T_op rfl rfl fun kc hc => ?_
        simp; refine hc _ ?_; clear hc kc
        refine T_end (hn _ ?_); clear hn hp kn kp
        refine T_then ?_
        refine T_ret ?_
        exact finI (Ent.refl _) (by simp [resD, resL, resV]; rfl) (Ent.sub [] [] (by simp [sub, subSl, subHp, place, mp, mpL, mpO, mpG]; rfl)) rfl rfl (by simp)
-- END

end Go.Proofs.Ytbkkekbeaabokaa
