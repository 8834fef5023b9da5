/- The names: the statement Circle, walked. -/
import Derived.Test.YtbkkekbeaabokaaNt
import Derived.Test.YtbkkekbeaabokaaSyW
set_option linter.unusedVariables false
set_option linter.unusedSimpArgs false
namespace Go.Proofs.Ytbkkekbeaabokaa
open Go Go.Proofs.Ytbkkekbeaabokaa.Sx

theorem circle_law {c : Cat} (hT : twiceC c = false) : (((orderOf c).2 == 0) = (((cycOf c).length : Int) == 0)) ∧
    ∀ (i : Nat) (x : Int), (cycOf c)[i]? = some x → idx (fun y => y == x) (cycOf c) 0 = (i : Int) ∧ ∃ nx, (cycOf c)[(i + 1) % (cycOf c).length]? = some nx ∧ fnd c x nx c.courses.length = true := by
  by_cases h : (listOf c).length < c.courses.length
  · obtain ⟨h1, h2⟩ := cyc_law hT h
    refine ⟨?_, h2⟩
    have : (orderOf c).2 = 112 := by simp [orderOf, h]
    rw [this]
    have h3 : ¬ ((cycOf c).length : Int) = 0 := by omega
    simp [h3]
    intro h4
    rw [h4] at h1
    simp at h1
  · have h1 := cyc_none h
    have : (orderOf c).2 = 0 := by simp [orderOf, h]
    rw [this, h1]
    exact ⟨rfl, fun i x hx => by simp at hx⟩

-- WALK 8
-- sizar/sizarlaw11.NamesCircle
set_option maxHeartbeats 4000000 in
theorem walk8 (c : Cat) (hf : c.fit) : Does Try.prog 8 [.agg (catD c)] (.dat (bV true)) [] := by
  have h1 := hf.courses
  have hcl := cycOf_len c
  refine Does.intro [.tmp 2] Try.func8 rfl (by kernel_rfl) Try.ntmps8 rfl (Nat.le_of_ble_eq_true rfl) ?_
  refine T_seq ?_
  refine T_region (is := [0, 1]) rfl fun kn kp hn hp => ?_
  refine T_op rfl rfl fun kc hc => ?_
  simp; refine hc _ ?_; clear hc kc
  refine T_op rfl rfl fun kc hc => ?_
  simp; refine hc _ ?_; clear hc kc
  refine T_end (hn _ ?_); clear hn hp kn kp
  refine T_then ?_
  refine T_seq ?_
  refine T_seq ?_
  refine T_region (is := [0, 1]) rfl fun kn kp hn hp => ?_
  refine T_op rfl rfl fun kc hc => ?_
  simp
  refine CallS.dat (walk10) (rfl) rfl rfl rfl ?_
  simp [enum]; refine hc _ ?_; clear hc kc
  refine T_op rfl rfl fun kc hc => ?_
  simp; refine hc _ ?_; clear hc kc
  refine T_end (hn _ ?_); clear hn hp kn kp
  refine T_then ?_
  refine T_false (by simp) ?_
  refine T_skip ?_
  refine T_then ?_
  refine T_seq ?_
  refine T_seq ?_
  refine T_region (is := [0, 1, 2, 3, 4, 5, 6]) rfl fun kn kp hn hp => ?_
  refine T_op rfl rfl fun kc hc => ?_
  simp; refine hc _ ?_; clear hc kc
  refine T_op rfl rfl fun kc hc => ?_
  simp
  refine CallS.dat (walk11 c hf) (rfl) rfl rfl rfl ?_
  simp [enum]; refine hc _ ?_; clear hc kc
  refine T_op rfl rfl fun kc hc => ?_
  simp; refine hc _ ?_; clear hc kc
  refine T_op rfl rfl fun kc hc => ?_
  simp; refine hc _ ?_; clear hc kc
  refine T_pure rfl (pstep_one rfl rfl rfl rfl fun g0 => .op rfl (by simp [g0]; rfl)) fun kc hc => ?_
  simp; refine hc _ ?_; clear hc kc
  refine T_pure rfl (pstep_one rfl rfl rfl rfl fun g0 => .dat (by simp [g0] <;> first | exact ⟨rfl, rfl⟩ | rfl) (by exact walk22 c hf) (by rfl)) fun kc hc => ?_
  simp; refine hc _ ?_; clear hc kc
  refine T_op rfl rfl fun kc hc => ?_
  simp; refine hc _ ?_; clear hc kc
  refine T_end (hn _ ?_); clear hn hp kn kp
  refine T_then ?_
  refine T_cond rfl (fun b2 => ?_) (fun b2 => ?_)
  · skip
    refine T_seq ?_
    refine T_region (is := [0]) rfl fun kn kp hn hp => ?_
    refine T_op rfl rfl fun kc hc => ?_
    simp; refine hc _ ?_; clear hc kc
    refine T_end (hn _ ?_); clear hn hp kn kp
    refine T_then ?_
    refine T_ret ?_
    refine X_thenR ?_
    exact finI (Ent.refl _) (by simp [resD, resL, resV]; rfl) (Ent.sub [] [] (by simp [sub, subSl, subHp, place, mp, mpL, mpO, mpG]; rfl)) rfl rfl (by simp)
  · skip
    have hT : twiceC c = false := by simp at b2; exact b2.2
    obtain ⟨hpq, hcyc⟩ := circle_law hT
    refine T_skip ?_
    refine T_then ?_
    refine T_seq ?_
    refine T_region (is := [0, 1, 2, 3, 4, 5, 6]) rfl fun kn kp hn hp => ?_
    refine T_op rfl rfl fun kc hc => ?_
    simp; refine hc _ ?_; clear hc kc
    refine T_op rfl rfl fun kc hc => ?_
    simp
    refine CallS.dat (walk17 c hf) (rfl) rfl rfl rfl ?_
    simp [enum]; refine hc _ ?_; clear hc kc
    refine T_op rfl rfl fun kc hc => ?_
    simp; refine hc _ ?_; clear hc kc
    refine T_op rfl rfl fun kc hc => ?_
    simp; refine hc _ ?_; clear hc kc
    refine T_op rfl rfl fun kc hc => ?_
    simp; refine hc _ ?_; clear hc kc
    refine T_op rfl rfl fun kc hc => ?_
    simp; refine hc _ ?_; clear hc kc
    refine T_op rfl rfl fun kc hc => ?_
    simp; refine hc _ ?_; clear hc kc
    refine T_end (hn _ ?_); clear hn hp kn kp
    refine T_then ?_
    refine T_seq ?_
    refine T_region (is := [0, 1, 2]) rfl fun kn kp hn hp => ?_
    refine T_op rfl rfl fun kc hc => ?_
    simp; refine hc _ ?_; clear hc kc
    refine T_op rfl rfl fun kc hc => ?_
    simp
    refine CallS.dat (walk20 c hf) (rfl) rfl rfl rfl ?_
    simp [enum]; refine hc _ ?_; clear hc kc
    refine T_op rfl rfl fun kc hc => ?_
    simp; refine hc _ ?_; clear hc kc
    refine T_end (hn _ ?_); clear hn hp kn kp
    refine T_then ?_
    refine T_seq ?_
    refine T_seq ?_
    refine T_region (is := [0, 1, 2, 3, 4, 5]) rfl fun kn kp hn hp => ?_
    refine T_op rfl rfl fun kc hc => ?_
    simp; refine hc _ ?_; clear hc kc
    refine T_op rfl rfl fun kc hc => ?_
    simp; refine hc _ ?_; clear hc kc
    refine T_op rfl rfl fun kc hc => ?_
    simp; refine hc _ ?_; clear hc kc
    refine T_op rfl rfl fun kc hc => ?_
    simp; refine hc _ ?_; clear hc kc
    refine T_op rfl rfl fun kc hc => ?_
    simp; refine hc _ ?_; clear hc kc
    refine T_op rfl rfl fun kc hc => ?_
    simp; refine hc _ ?_; clear hc kc
    refine T_end (hn _ ?_); clear hn hp kn kp
    refine T_then ?_
    refine T_false (by simp [hpq]) ?_
    refine T_skip ?_
    refine T_then ?_
    refine T_seq ?_
    refine T_seq ?_
    refine T_region (is := [0]) rfl fun kn kp hn hp => ?_
    refine T_op rfl rfl fun kc hc => ?_
    simp; refine hc _ ?_; clear hc kc
    refine T_end (hn _ ?_); clear hn hp kn kp
    refine T_then ?_
    refine T_block ?_
    refine T_loop (fun u : Nat => { sl := [(1, .ptr 0 0), (5, .dat (ints (cycOf c))), (6, .dat (iD u))], hp := [(0, .var ((catD c).map .dat))], nx := 1 }) (fun u => u ≤ (cycOf c).length) (fun u => (cycOf c).length - u) 0 (Ent.sub [1, 5, 6] [0] (by simp [sub, subSl, subHp, place, mp, mpL, mpO, mpG])) (Nat.zero_le _) fun u hu => ?_
    refine T_seq ?_
    refine T_seq ?_
    refine T_region (is := [0, 1, 2, 3]) rfl fun kn kp hn hp => ?_
    refine T_op rfl rfl fun kc hc => ?_
    simp; refine hc _ ?_; clear hc kc
    refine T_op rfl rfl fun kc hc => ?_
    simp; refine hc _ ?_; clear hc kc
    refine T_op rfl rfl fun kc hc => ?_
    simp; refine hc _ ?_; clear hc kc
    refine T_op rfl rfl fun kc hc => ?_
    simp; refine hc _ ?_; clear hc kc
    refine T_end (hn _ ?_); clear hn hp kn kp
    refine T_then ?_
    refine T_cond rfl (fun b4 => ?_) (fun b4 => ?_)
    · skip
      have hz' : u < (cycOf c).length := by simpa using b4
      obtain ⟨x, hxx⟩ : ∃ x, (cycOf c)[u]? = some x := ⟨_, List.getElem?_eq_getElem hz'⟩
      have eu : IntKind.i64.wrap ((u : Int) + 1) = (u : Int) + 1 := wr1 hz' (by omega)
      have hul := hz'
      obtain ⟨hidx, nx, hnx, hfn⟩ := hcyc u x hxx
      have hne0 : ¬ ((cycOf c).length : Int) = 0 := by omega
      have hcne : ¬ cycOf c = [] := fun e => by rw [e] at hxx; simp at hxx
      obtain ⟨r, hr⟩ : ∃ r, r = (u + 1) % (cycOf c).length := ⟨_, rfl⟩
      have hmod : ((u : Int) + 1).tmod ((cycOf c).length : Int) = (r : Int) := by rw [hr, show ((u : Int) + 1) = ((u + 1 : Nat) : Int) by omega]; rfl
      rw [← hr] at hnx
      have hml := (List.getElem?_eq_some_iff.1 hnx).1
      clear hz'
      refine T_skip ?_
      refine T_then ?_
      refine T_seq ?_
      refine T_block ?_
      refine T_seq ?_
      refine T_region (is := [0, 1, 2, 3, 4, 5, 6, 7, 8, 9]) rfl fun kn kp hn hp => ?_
      refine T_op rfl rfl fun kc hc => ?_
      simp; refine hc _ ?_; clear hc kc
      refine T_op rfl rfl fun kc hc => ?_
      simp; refine hc _ ?_; clear hc kc
      refine T_op rfl rfl fun kc hc => ?_
      simp [eu]; refine hc _ ?_; clear hc kc
      refine T_op rfl rfl fun kc hc => ?_
      simp; refine hc _ ?_; clear hc kc
      refine T_op rfl rfl fun kc hc => ?_
      simp; refine hc _ ?_; clear hc kc
      refine T_op rfl rfl fun kc hc => ?_
      simp [hcne, hmod]; refine hc _ ?_; clear hc kc
      refine T_op rfl rfl fun kc hc => ?_
      simp [hnx]; refine hc _ ?_; clear hc kc
      refine T_op rfl rfl fun kc hc => ?_
      simp [hnx]; refine hc _ ?_; clear hc kc
      refine T_op rfl rfl fun kc hc => ?_
      simp; refine hc _ ?_; clear hc kc
      refine T_op rfl rfl fun kc hc => ?_
      simp; refine hc _ ?_; clear hc kc
      refine T_end (hn _ ?_); clear hn hp kn kp
      refine T_then ?_
      refine T_seq ?_
      refine T_seq ?_
      refine T_region (is := [0]) rfl fun kn kp hn hp => ?_
      refine T_op rfl rfl fun kc hc => ?_
      simp; refine hc _ ?_; clear hc kc
      refine T_end (hn _ ?_); clear hn hp kn kp
      refine T_then ?_
      refine T_block ?_
      refine T_loop (fun v : Nat => { sl := [(1, .ptr 0 0), (5, .dat (ints (cycOf c))), (6, .dat (iD u)), (7, .dat (iD nx)), (8, .dat (bV (fnd c x nx v))), (9, .dat (iD v))], hp := [(0, .var ((catD c).map .dat))], nx := 1 }) (fun v => v ≤ c.courses.length) (fun v => c.courses.length - v) 0 (Ent.sub [1, 5, 6, 7, 8, 9] [0] (by simp [sub, subSl, subHp, place, mp, mpL, mpO, mpG, fnd])) (Nat.zero_le _) fun v hv => ?_
      refine T_seq ?_
      refine T_seq ?_
      refine T_region (is := [0, 1, 2, 3, 4]) rfl fun kn kp hn hp => ?_
      refine T_op rfl rfl fun kc hc => ?_
      simp; refine hc _ ?_; clear hc kc
      refine T_op rfl rfl fun kc hc => ?_
      simp; refine hc _ ?_; clear hc kc
      refine T_op rfl rfl fun kc hc => ?_
      simp; refine hc _ ?_; clear hc kc
      refine T_op rfl rfl fun kc hc => ?_
      simp; refine hc _ ?_; clear hc kc
      refine T_op rfl rfl fun kc hc => ?_
      simp; refine hc _ ?_; clear hc kc
      refine T_end (hn _ ?_); clear hn hp kn kp
      refine T_then ?_
      refine T_cond rfl (fun b5 => ?_) (fun b5 => ?_)
      · skip
        have hz' : v < c.courses.length := by simpa using b5
        obtain ⟨y, hxy⟩ : ∃ x, c.courses[v]? = some x := ⟨_, List.getElem?_eq_getElem hz'⟩
        have ev : IntKind.i64.wrap ((v : Int) + 1) = (v : Int) + 1 := wr1 hz' (by omega)
        have hvl := hz'
        have hyn := hf.need y (List.mem_of_getElem? hxy)
        have hnv := numAt_get hxy
        have hna : needsAt c v = needsL c (partsOf y.need) := by simp [needsAt, hxy]
        have hnl := needsL_len c (partsOf y.need)
        clear hz'
        refine T_skip ?_
        refine T_then ?_
        refine T_seq ?_
        refine T_block ?_
        refine T_seq ?_
        refine T_seqDraw (is := [0, 1, 2, 3, 4, 5, 6, 7, 8, 9, 10]) rfl (by kernel_rfl) fun kn hn => ?_
        refine D_op rfl rfl rfl rfl fun kc hc => ?_
        simp; refine hc _ ?_; clear hc kc
        refine D_op rfl rfl rfl rfl fun kc hc => ?_
        simp; refine hc _ ?_; clear hc kc
        refine D_op rfl rfl rfl rfl fun kc hc => ?_
        simp; refine hc _ ?_; clear hc kc
        refine D_op rfl rfl rfl rfl fun kc hc => ?_
        simp [hxy]; refine hc _ ?_; clear hc kc
        refine D_op rfl rfl rfl rfl fun kc hc => ?_
        simp; refine hc _ ?_; clear hc kc
        refine D_op rfl rfl rfl rfl fun kc hc => ?_
        simp [hxy]; refine hc _ ?_; clear hc kc
        refine D_op rfl rfl rfl rfl fun kc hc => ?_
        simp; refine hc _ ?_; clear hc kc
        refine D_op rfl rfl rfl rfl fun kc hc => ?_
        simp; refine hc _ ?_; clear hc kc
        refine D_op rfl rfl rfl rfl fun kc hc => ?_
        simp [hxx]; refine hc _ ?_; clear hc kc
        refine D_op rfl rfl rfl rfl fun kc hc => ?_
        simp [hxx]; refine hc _ ?_; clear hc kc
        refine D_op rfl rfl rfl rfl fun kc hc => ?_
        simp; refine hc _ ?_; clear hc kc
        refine D_end rfl (by kernel_rfl) (hn _ ?_); clear hn kn
        refine T_cond rfl (fun b6 => ?_) (fun b6 => ?_)
        · skip
          have hne : (y.number == x) = false := by simpa [bne] using b6
          refine T_exit ?_
          refine X_thenE ?_
          refine X_hit ?_
          refine T_then ?_
          refine T_region (is := [0, 1, 2]) rfl fun kn kp hn hp => ?_
          refine T_op rfl rfl fun kc hc => ?_
          simp; refine hc _ ?_; clear hc kc
          refine T_op rfl rfl fun kc hc => ?_
          simp [ev]; refine hc _ ?_; clear hc kc
          refine T_op rfl rfl fun kc hc => ?_
          simp; refine hc _ ?_; clear hc kc
          refine T_end (hn _ ?_); clear hn hp kn kp
          exact X_loopN (v + 1) (Ent.sub [1, 5, 6, 7, 8, 9] [0] (by simp [sub, subSl, subHp, place, mp, mpL, mpO, mpG, ev, fnd_next, hnv, hne])) hvl (by omega)
        · skip
          have hne : (y.number == x) = true := by simpa [bne] using b6
          refine T_skip ?_
          refine T_then ?_
          refine T_seq ?_
          refine T_region (is := [0, 1, 2, 3]) rfl fun kn kp hn hp => ?_
          refine T_op rfl rfl fun kc hc => ?_
          simp; refine hc _ ?_; clear hc kc
          refine T_op rfl rfl fun kc hc => ?_
          simp; refine hc _ ?_; clear hc kc
          refine T_op rfl rfl fun kc hc => ?_
          simp
          refine CallS.dat (walk24 c v y hxy hyn.1 h1) (rfl) rfl rfl rfl ?_
          simp [enum]; refine hc _ ?_; clear hc kc
          refine T_op rfl rfl fun kc hc => ?_
          simp; refine hc _ ?_; clear hc kc
          refine T_end (hn _ ?_); clear hn hp kn kp
          refine T_then ?_
          refine T_seq ?_
          refine T_region (is := [0]) rfl fun kn kp hn hp => ?_
          refine T_op rfl rfl fun kc hc => ?_
          simp; refine hc _ ?_; clear hc kc
          refine T_end (hn _ ?_); clear hn hp kn kp
          refine T_then ?_
          refine T_block ?_
          refine T_loop (fun w : Nat => { sl := [(1, .ptr 0 0), (5, .dat (ints (cycOf c))), (6, .dat (iD u)), (7, .dat (iD nx)), (9, .dat (iD v)), (10, .dat (ints (needsL c (partsOf y.need)))), (11, .dat (iD w)), (8, .dat (bV (fnd c x nx v || ((needsL c (partsOf y.need)).take w).any fun m => numAt c m == nx)))], hp := [(0, .var ((catD c).map .dat))], nx := 1 }) (fun w => w ≤ (needsL c (partsOf y.need)).length) (fun w => (needsL c (partsOf y.need)).length - w) 0 (Ent.sub [1, 5, 6, 7, 9, 10, 11, 8] [0] (by simp [sub, subSl, subHp, place, mp, mpL, mpO, mpG])) (Nat.zero_le _) fun w hw => ?_
          refine T_seq ?_
          refine T_seq ?_
          refine T_region (is := [0, 1, 2, 3]) rfl fun kn kp hn hp => ?_
          refine T_op rfl rfl fun kc hc => ?_
          simp; refine hc _ ?_; clear hc kc
          refine T_op rfl rfl fun kc hc => ?_
          simp; refine hc _ ?_; clear hc kc
          refine T_op rfl rfl fun kc hc => ?_
          simp; refine hc _ ?_; clear hc kc
          refine T_op rfl rfl fun kc hc => ?_
          simp; refine hc _ ?_; clear hc kc
          refine T_end (hn _ ?_); clear hn hp kn kp
          refine T_then ?_
          refine T_cond rfl (fun b7 => ?_) (fun b7 => ?_)
          · skip
            have hz' : w < (needsL c (partsOf y.need)).length := by simpa using b7
            obtain ⟨m, hxm⟩ : ∃ x, (needsL c (partsOf y.need))[w]? = some x := ⟨_, List.getElem?_eq_getElem hz'⟩
            have ew : IntKind.i64.wrap ((w : Int) + 1) = (w : Int) + 1 := wr1 hz' (by omega)
            obtain ⟨j, hmj, hjl⟩ := needsL_range (List.mem_of_getElem? hxm)
            subst hmj
            have hju := List.getElem?_eq_getElem hjl
            have hnj := numAt_get hju
            refine T_skip ?_
            refine T_then ?_
            refine T_seq ?_
            refine T_block ?_
            refine T_draw' (is := [0, 1, 2, 3, 4, 5, 6, 7, 8, 9, 10, 11, 12, 13, 14]) rfl (by kernel_rfl) (fun _ _ hE h => T_ent hE h) fun kn hn => ?_
            refine D_op rfl rfl rfl rfl fun kc hc => ?_
            simp; refine hc _ ?_; clear hc kc
            refine D_op rfl rfl rfl rfl fun kc hc => ?_
            simp; refine hc _ ?_; clear hc kc
            refine D_deep rfl (pstep_one rfl rfl rfl rfl fun g0 => .op rfl (by simp [g0]; rfl)) rfl fun kc hc => ?_
            simp; refine hc _ ?_; clear hc kc
            refine D_deep rfl (pstep_one rfl rfl rfl rfl fun g0 => .op rfl (by simp [g0]; rfl)) rfl fun kc hc => ?_
            simp; refine hc _ ?_; clear hc kc
            refine D_deep rfl (pstep_one rfl rfl rfl rfl fun g0 => .op rfl (by simp [g0]; rfl)) rfl fun kc hc => ?_
            simp; refine hc _ ?_; clear hc kc
            refine D_deep rfl (pstep_one rfl rfl rfl rfl fun g0 => .op rfl (by simp [g0]; rfl)) rfl fun kc hc => ?_
            simp; refine hc _ ?_; clear hc kc
            refine D_deep rfl (pstep_one rfl rfl rfl rfl fun g0 => .op rfl (by simp [g0, hxm]; rfl)) rfl fun kc hc => ?_
            simp [hxm]; refine hc _ ?_; clear hc kc
            refine D_deep rfl (pstep_one rfl rfl rfl rfl fun g0 => .op rfl (by simp [g0, hxm]; rfl)) rfl fun kc hc => ?_
            simp [hxm]; refine hc _ ?_; clear hc kc
            refine D_deep rfl (pstep_one rfl rfl rfl rfl fun g0 => .op rfl (by simp [g0, hju]; rfl)) rfl fun kc hc => ?_
            simp [hju]; refine hc _ ?_; clear hc kc
            refine D_deep rfl (pstep_one rfl rfl rfl rfl fun g0 => .op rfl (by simp [g0]; rfl)) rfl fun kc hc => ?_
            simp; refine hc _ ?_; clear hc kc
            refine D_deep rfl (pstep_one rfl rfl rfl rfl fun g0 => .op rfl (by simp [g0, hju]; rfl)) rfl fun kc hc => ?_
            simp [hju]; refine hc _ ?_; clear hc kc
            refine D_deep rfl (pstep_one rfl rfl rfl rfl fun g0 => .op rfl (by simp [g0]; rfl)) rfl fun kc hc => ?_
            simp; refine hc _ ?_; clear hc kc
            refine D_deep rfl (pstep_one rfl rfl rfl rfl fun g0 => .op rfl (by simp [g0]; rfl)) rfl fun kc hc => ?_
            simp; refine hc _ ?_; clear hc kc
            refine D_op rfl rfl rfl rfl fun kc hc => ?_
            simp; refine hc _ ?_; clear hc kc
            refine D_op rfl rfl rfl rfl fun kc hc => ?_
            simp; refine hc _ ?_; clear hc kc
            refine D_end rfl (by kernel_rfl) (hn _ ?_); clear hn kn
            refine X_blockN ?_
            refine T_then ?_
            refine T_region (is := [0, 1, 2]) rfl fun kn kp hn hp => ?_
            refine T_op rfl rfl fun kc hc => ?_
            simp; refine hc _ ?_; clear hc kc
            refine T_op rfl rfl fun kc hc => ?_
            simp [ew]; refine hc _ ?_; clear hc kc
            refine T_op rfl rfl fun kc hc => ?_
            simp; refine hc _ ?_; clear hc kc
            refine T_end (hn _ ?_); clear hn hp kn kp
            exact X_loopN (w + 1) (Ent.sub [1, 5, 6, 7, 9, 10, 11, 8] [0] (by simp [sub, subSl, subHp, place, mp, mpL, mpO, mpG, ew, any_next hxm, hnj, Bool.or_assoc])) hz' (by omega)
          · skip
            have hz' : w = (needsL c (partsOf y.need)).length := by simp at b7; omega
            subst hz'
            refine T_exit ?_
            refine X_thenE ?_
            refine X_loopE ?_
            refine X_hit ?_
            refine X_blockN ?_
            refine T_then ?_
            refine T_region (is := [0, 1, 2]) rfl fun kn kp hn hp => ?_
            refine T_op rfl rfl fun kc hc => ?_
            simp; refine hc _ ?_; clear hc kc
            refine T_op rfl rfl fun kc hc => ?_
            simp [ev]; refine hc _ ?_; clear hc kc
            refine T_op rfl rfl fun kc hc => ?_
            simp; refine hc _ ?_; clear hc kc
            refine T_end (hn _ ?_); clear hn hp kn kp
            exact X_loopN (v + 1) (Ent.sub [1, 5, 6, 7, 8, 9] [0] (by simp [sub, subSl, subHp, place, mp, mpL, mpO, mpG, ev, fnd_next, hnv, hne, hna])) hvl (by omega)
      · skip
        have hz' : v = c.courses.length := by simp at b5; omega
        subst hz'
        refine T_exit ?_
        refine X_thenE ?_
        refine X_loopE ?_
        refine X_hit ?_
        refine T_then ?_
        refine T_seq ?_
        refine T_region (is := [0, 1, 2, 3, 4, 5, 6, 7, 8, 9, 10, 11]) rfl fun kn kp hn hp => ?_
        refine T_op rfl rfl fun kc hc => ?_
        simp; refine hc _ ?_; clear hc kc
        refine T_op rfl rfl fun kc hc => ?_
        simp [hfn]; refine hc _ ?_; clear hc kc
        refine T_op rfl rfl fun kc hc => ?_
        simp; refine hc _ ?_; clear hc kc
        refine T_pure rfl (pstep_one rfl rfl rfl rfl fun g0 => .op rfl (by simp [g0]; rfl)) fun kc hc => ?_
        simp; refine hc _ ?_; clear hc kc
        refine T_pure rfl (pstep_one rfl rfl rfl rfl fun g0 => .op rfl (by simp [g0]; rfl)) fun kc hc => ?_
        simp; refine hc _ ?_; clear hc kc
        refine T_pure rfl (pstep_one rfl rfl rfl rfl fun g0 => .op rfl (by simp [g0]; rfl)) fun kc hc => ?_
        simp; refine hc _ ?_; clear hc kc
        refine T_pure rfl (pstep_one rfl rfl rfl rfl fun g0 => .op rfl (by simp [g0, hxx]; rfl)) fun kc hc => ?_
        simp; refine hc _ ?_; clear hc kc
        refine T_pure rfl (pstep_one rfl rfl rfl rfl fun g0 => .op rfl (by simp [g0, hxx]; rfl)) fun kc hc => ?_
        simp; refine hc _ ?_; clear hc kc
        refine T_pure rfl (pstep_one rfl rfl rfl rfl fun g0 => .dat (by simp [g0] <;> first | exact ⟨rfl, rfl⟩ | rfl) (by exact walk23 (cycOf c) x (by omega)) (by rfl)) fun kc hc => ?_
        simp; refine hc _ ?_; clear hc kc
        refine T_pure rfl (pstep_one rfl rfl rfl rfl fun g0 => .op rfl (by simp [g0]; rfl)) fun kc hc => ?_
        simp; refine hc _ ?_; clear hc kc
        refine T_pure rfl (pstep_one rfl rfl rfl rfl fun g0 => .op rfl (by simp [g0, hidx]; rfl)) fun kc hc => ?_
        simp; refine hc _ ?_; clear hc kc
        refine T_op rfl rfl fun kc hc => ?_
        simp; refine hc _ ?_; clear hc kc
        refine T_end (hn _ ?_); clear hn hp kn kp
        refine T_then ?_
        refine T_false (by simp [hfn, hidx]) ?_
        refine T_skip ?_
        refine X_blockN ?_
        refine T_then ?_
        refine T_region (is := [0, 1, 2]) rfl fun kn kp hn hp => ?_
        refine T_op rfl rfl fun kc hc => ?_
        simp; refine hc _ ?_; clear hc kc
        refine T_op rfl rfl fun kc hc => ?_
        simp [eu]; refine hc _ ?_; clear hc kc
        refine T_op rfl rfl fun kc hc => ?_
        simp; refine hc _ ?_; clear hc kc
        refine T_end (hn _ ?_); clear hn hp kn kp
        exact X_loopN (u + 1) (Ent.sub [1, 5, 6] [0] (by simp [sub, subSl, subHp, place, mp, mpL, mpO, mpG, eu])) hul (by omega)
    · skip
      have hz' : u = (cycOf c).length := by simp at b4; omega
      subst hz'
      refine T_exit ?_
      refine X_thenE ?_
      refine X_loopE ?_
      refine X_hit ?_
      refine T_then ?_
      refine T_seq ?_
      refine T_region (is := [0]) rfl fun kn kp hn hp => ?_
      refine T_op rfl rfl fun kc hc => ?_
      simp; refine hc _ ?_; clear hc kc
      refine T_end (hn _ ?_); clear hn hp kn kp
      refine T_then ?_
      refine T_ret ?_
      exact finI (Ent.refl _) (by simp [resD, resL, resV]; rfl) (Ent.sub [] [] (by simp [sub, subSl, subHp, place, mp, mpL, mpO, mpG]; rfl)) rfl rfl (by simp)
-- END

end Go.Proofs.Ytbkkekbeaabokaa
