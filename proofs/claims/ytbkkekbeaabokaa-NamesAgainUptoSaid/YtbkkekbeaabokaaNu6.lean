/- The names: the statement Again, walked. -/
import Derived.Test.YtbkkekbeaabokaaNt
import Derived.Test.YtbkkekbeaabokaaSyW
set_option linter.unusedVariables false
set_option linter.unusedSimpArgs false
namespace Go.Proofs.Ytbkkekbeaabokaa
open Go Go.Proofs.Ytbkkekbeaabokaa.Sx

-- WALK 6a 6b
-- sizar/sizarlaw11.NamesAgain
theorem again_a (c : Cat) (hf : c.fit) (e : Int) (he : e ≠ 0) (hr : resolveOf c = (zeroCat, e)) : Does Try.prog 6 [.agg (catD c)] (.dat (bV true)) [] := by
  have w12 : Does Try.prog 12 [.agg (catD c)] (.dat (.tup [.agg (catD zeroCat), iD e])) [] := by have h := walk12 c hf; rwa [hr] at h
  refine Does.intro [.tmp 2] Try.func6 rfl (by kernel_rfl) Try.ntmps6 rfl (Nat.le_of_ble_eq_true rfl) ?_
  refine T_seq ?_
  refine T_region (is := [0, 1]) rfl fun kn kp hn hp => ?_
  refine T_op rfl rfl fun kc hc => ?_
  simp; refine hc _ ?_; clear hc kc
  refine T_op rfl rfl fun kc hc => ?_
  simp; refine hc _ ?_; clear hc kc
  refine T_end (hn _ ?_); clear hn hp kn kp
  refine T_then ?_
  refine T_seq ?_
  refine T_seq ?_
  refine T_region (is := [0, 1]) rfl fun kn kp hn hp => ?_
  refine T_op rfl rfl fun kc hc => ?_
  simp
  refine CallS.dat (walk10) (rfl) rfl rfl rfl ?_
  simp [enum]; refine hc _ ?_; clear hc kc
  refine T_op rfl rfl fun kc hc => ?_
  simp; refine hc _ ?_; clear hc kc
  refine T_end (hn _ ?_); clear hn hp kn kp
  refine T_then ?_
  refine T_false (by simp) ?_
  refine T_skip ?_
  refine T_then ?_
  refine T_seq ?_
  refine T_seq ?_
  refine T_region (is := [0, 1, 2]) rfl fun kn kp hn hp => ?_
  refine T_op rfl rfl fun kc hc => ?_
  simp; refine hc _ ?_; clear hc kc
  refine T_op rfl rfl fun kc hc => ?_
  simp
  refine CallS.dat (walk11 c hf) (rfl) rfl rfl rfl ?_
  simp [enum]; refine hc _ ?_; clear hc kc
  refine T_op rfl rfl fun kc hc => ?_
  simp; refine hc _ ?_; clear hc kc
  refine T_end (hn _ ?_); clear hn hp kn kp
  refine T_then ?_
  refine T_cond rfl (fun b2 => ?_) (fun b2 => ?_)
  · skip
    refine T_seq ?_
    refine T_region (is := [0]) rfl fun kn kp hn hp => ?_
    refine T_op rfl rfl fun kc hc => ?_
    simp; refine hc _ ?_; clear hc kc
    refine T_end (hn _ ?_); clear hn hp kn kp
    refine T_then ?_
    refine T_ret ?_
    refine X_thenR ?_
    exact finI (Ent.refl _) (by simp [resD, resL, resV]; rfl) (Ent.sub [] [] (by simp [sub, subSl, subHp, place, mp, mpL, mpO, mpG]; rfl)) rfl rfl (by simp)
  · skip
    refine T_skip ?_
    refine T_then ?_
    refine T_seq ?_
    refine T_region (is := [0, 1, 2, 3, 4, 5, 6, 7]) rfl fun kn kp hn hp => ?_
    refine T_op rfl rfl fun kc hc => ?_
    simp; refine hc _ ?_; clear hc kc
    refine T_op rfl rfl fun kc hc => ?_
    simp
    refine CallS.dat (w12) (rfl) rfl rfl rfl ?_
    simp [enum]; refine hc _ ?_; clear hc kc
    refine T_op rfl rfl fun kc hc => ?_
    simp; refine hc _ ?_; clear hc kc
    refine T_op rfl rfl fun kc hc => ?_
    simp; refine hc _ ?_; clear hc kc
    refine T_op rfl rfl fun kc hc => ?_
    simp; refine hc _ ?_; clear hc kc
    refine T_op rfl rfl fun kc hc => ?_
    simp; refine hc _ ?_; clear hc kc
    refine T_op rfl rfl fun kc hc => ?_
    simp; refine hc _ ?_; clear hc kc
    refine T_op rfl rfl fun kc hc => ?_
    simp; refine hc _ ?_; clear hc kc
    refine T_end (hn _ ?_); clear hn hp kn kp
    refine T_then ?_
    refine T_seq ?_
    refine T_seq ?_
    refine T_region (is := [0, 1]) rfl fun kn kp hn hp => ?_
    refine T_op rfl rfl fun kc hc => ?_
    simp; refine hc _ ?_; clear hc kc
    refine T_op rfl rfl fun kc hc => ?_
    simp; refine hc _ ?_; clear hc kc
    refine T_end (hn _ ?_); clear hn hp kn kp
    refine T_then ?_
    refine T_true (by simp [he]) ?_
    refine T_seq ?_
    refine T_region (is := [0, 1, 2, 3, 4, 5, 6, 7, 8, 9, 10, 11, 12, 13, 14, 15, 16]) rfl fun kn kp hn hp => ?_
    refine T_op rfl rfl fun kc hc => ?_
    simp; refine hc _ ?_; clear hc kc
    refine T_op rfl rfl fun kc hc => ?_
    simp [zeroCat]; refine hc _ ?_; clear hc kc
    refine T_op rfl rfl fun kc hc => ?_
    simp [zeroCat]; refine hc _ ?_; clear hc kc
    refine T_op rfl rfl fun kc hc => ?_
    simp; refine hc _ ?_; clear hc kc
    refine T_op rfl rfl fun kc hc => ?_
    simp; refine hc _ ?_; clear hc kc
    refine T_on rfl rfl rfl rfl rfl fun kc hc => ?_
    simp; refine hc _ ?_; clear hc kc
    refine T_on rfl rfl rfl rfl rfl fun kc hc => ?_
    simp [zeroCat]; refine hc _ ?_; clear hc kc
    refine T_on rfl rfl rfl rfl rfl fun kc hc => ?_
    simp [zeroCat]; refine hc _ ?_; clear hc kc
    refine T_on rfl rfl rfl rfl rfl fun kc hc => ?_
    simp; refine hc _ ?_; clear hc kc
    refine T_op rfl rfl fun kc hc => ?_
    simp; refine hc _ ?_; clear hc kc
    refine T_op rfl rfl fun kc hc => ?_
    simp; refine hc _ ?_; clear hc kc
    refine T_on rfl rfl rfl rfl rfl fun kc hc => ?_
    simp; refine hc _ ?_; clear hc kc
    refine T_on rfl rfl rfl rfl rfl fun kc hc => ?_
    simp [zeroCat]; refine hc _ ?_; clear hc kc
    refine T_on rfl rfl rfl rfl rfl fun kc hc => ?_
    simp [zeroCat]; refine hc _ ?_; clear hc kc
    refine T_on rfl rfl rfl rfl rfl fun kc hc => ?_
    simp; refine hc _ ?_; clear hc kc
    refine T_op rfl rfl fun kc hc => ?_
    simp; refine hc _ ?_; clear hc kc
    refine T_op rfl rfl fun kc hc => ?_
    simp; refine hc _ ?_; clear hc kc
    refine T_end (hn _ ?_); clear hn hp kn kp
    refine T_then ?_
    refine T_ret ?_
    refine X_thenR ?_
    exact finI (Ent.refl _) (by simp [resD, resL, resV]; rfl) (Ent.sub [] [] (by simp [sub, subSl, subHp, place, mp, mpL, mpO, mpG]; rfl)) rfl rfl (by simp)
-- sizar/sizarlaw11.NamesAgain
set_option maxHeartbeats 4000000 in
theorem again_b (c x : Cat) (hf : c.fit) (hxf : x.fit) (hr : resolveOf c = (x, 0)) (hrx : resolveOf x = (x, 0)) (hlc : x.courses.length = c.courses.length) (hls : x.same.length = c.same.length)
    (hcs : ∀ (i : Nat) (y : Course), c.courses[i]? = some y → ∃ y2, x.courses[i]? = some y2 ∧ y2.name = y.name ∧ y2.number = y.number ∧ findOf x y.name = (y.number, true))
    (hsm : ∀ (i : Nat) (p : Pair), c.same[i]? = some p → ∃ p2, x.same[i]? = some p2 ∧ p2.a = p.a ∧ ((p.a == eS) = true → p2.x = p.x) ∧ ((p.a == eS) = false → findOf c p.a = (p2.x, true))) : Does Try.prog 6 [.agg (catD c)] (.dat (bV true)) [] := by
  have h1 := hf.courses
  have h1x := hxf.courses
  have h7 := hf.same
  have w12 : Does Try.prog 12 [.agg (catD c)] (.dat (.tup [.agg (catD x), iD 0])) [] := by have h := walk12 c hf; rwa [hr] at h
  have w12x : Does Try.prog 12 [.agg (catD x)] (.dat (.tup [.agg (catD x), iD 0])) [] := by have h := walk12 x hxf; rwa [hrx] at h
  refine Does.intro [.tmp 2] Try.func6 rfl (by kernel_rfl) Try.ntmps6 rfl (Nat.le_of_ble_eq_true rfl) ?_
  refine T_seq ?_
  refine T_region (is := [0, 1]) rfl fun kn kp hn hp => ?_
  refine T_op rfl rfl fun kc hc => ?_
  simp; refine hc _ ?_; clear hc kc
  refine T_op rfl rfl fun kc hc => ?_
  simp; refine hc _ ?_; clear hc kc
  refine T_end (hn _ ?_); clear hn hp kn kp
  refine T_then ?_
  refine T_seq ?_
  refine T_seq ?_
  refine T_region (is := [0, 1]) rfl fun kn kp hn hp => ?_
  refine T_op rfl rfl fun kc hc => ?_
  simp
  refine CallS.dat (walk10) (rfl) rfl rfl rfl ?_
  simp [enum]; refine hc _ ?_; clear hc kc
  refine T_op rfl rfl fun kc hc => ?_
  simp; refine hc _ ?_; clear hc kc
  refine T_end (hn _ ?_); clear hn hp kn kp
  refine T_then ?_
  refine T_false (by simp) ?_
  refine T_skip ?_
  refine T_then ?_
  refine T_seq ?_
  refine T_seq ?_
  refine T_region (is := [0, 1, 2]) rfl fun kn kp hn hp => ?_
  refine T_op rfl rfl fun kc hc => ?_
  simp; refine hc _ ?_; clear hc kc
  refine T_op rfl rfl fun kc hc => ?_
  simp
  refine CallS.dat (walk11 c hf) (rfl) rfl rfl rfl ?_
  simp [enum]; refine hc _ ?_; clear hc kc
  refine T_op rfl rfl fun kc hc => ?_
  simp; refine hc _ ?_; clear hc kc
  refine T_end (hn _ ?_); clear hn hp kn kp
  refine T_then ?_
  refine T_cond rfl (fun b2 => ?_) (fun b2 => ?_)
  · skip
    refine T_seq ?_
    refine T_region (is := [0]) rfl fun kn kp hn hp => ?_
    refine T_op rfl rfl fun kc hc => ?_
    simp; refine hc _ ?_; clear hc kc
    refine T_end (hn _ ?_); clear hn hp kn kp
    refine T_then ?_
    refine T_ret ?_
    refine X_thenR ?_
    exact finI (Ent.refl _) (by simp [resD, resL, resV]; rfl) (Ent.sub [] [] (by simp [sub, subSl, subHp, place, mp, mpL, mpO, mpG]; rfl)) rfl rfl (by simp)
  · skip
    refine T_skip ?_
    refine T_then ?_
    refine T_seq ?_
    refine T_region (is := [0, 1, 2, 3, 4, 5, 6, 7]) rfl fun kn kp hn hp => ?_
    refine T_op rfl rfl fun kc hc => ?_
    simp; refine hc _ ?_; clear hc kc
    refine T_op rfl rfl fun kc hc => ?_
    simp
    refine CallS.dat (w12) (rfl) rfl rfl rfl ?_
    simp [enum]; refine hc _ ?_; clear hc kc
    refine T_op rfl rfl fun kc hc => ?_
    simp; refine hc _ ?_; clear hc kc
    refine T_op rfl rfl fun kc hc => ?_
    simp; refine hc _ ?_; clear hc kc
    refine T_op rfl rfl fun kc hc => ?_
    simp; refine hc _ ?_; clear hc kc
    refine T_op rfl rfl fun kc hc => ?_
    simp; refine hc _ ?_; clear hc kc
    refine T_op rfl rfl fun kc hc => ?_
    simp; refine hc _ ?_; clear hc kc
    refine T_op rfl rfl fun kc hc => ?_
    simp; refine hc _ ?_; clear hc kc
    refine T_end (hn _ ?_); clear hn hp kn kp
    refine T_then ?_
    refine T_seq ?_
    refine T_seq ?_
    refine T_region (is := [0, 1]) rfl fun kn kp hn hp => ?_
    refine T_op rfl rfl fun kc hc => ?_
    simp; refine hc _ ?_; clear hc kc
    refine T_op rfl rfl fun kc hc => ?_
    simp; refine hc _ ?_; clear hc kc
    refine T_end (hn _ ?_); clear hn hp kn kp
    refine T_then ?_
    refine T_false (by simp) ?_
    refine T_skip ?_
    refine T_then ?_
    refine T_seq ?_
    refine T_region (is := [0, 1, 2, 3, 4, 5, 6, 7]) rfl fun kn kp hn hp => ?_
    refine T_op rfl rfl fun kc hc => ?_
    simp; refine hc _ ?_; clear hc kc
    refine T_op rfl rfl fun kc hc => ?_
    simp
    refine CallS.dat (w12x) (rfl) rfl rfl rfl ?_
    simp [enum]; refine hc _ ?_; clear hc kc
    refine T_op rfl rfl fun kc hc => ?_
    simp; refine hc _ ?_; clear hc kc
    refine T_op rfl rfl fun kc hc => ?_
    simp; refine hc _ ?_; clear hc kc
    refine T_op rfl rfl fun kc hc => ?_
    simp; refine hc _ ?_; clear hc kc
    refine T_op rfl rfl fun kc hc => ?_
    simp; refine hc _ ?_; clear hc kc
    refine T_op rfl rfl fun kc hc => ?_
    simp; refine hc _ ?_; clear hc kc
    refine T_op rfl rfl fun kc hc => ?_
    simp; refine hc _ ?_; clear hc kc
    refine T_end (hn _ ?_); clear hn hp kn kp
    refine T_then ?_
    refine T_seq ?_
    refine T_seq ?_
    refine T_region (is := [0, 1, 2, 3, 4, 5, 6, 7, 8, 9, 10, 11, 12, 13, 14, 15, 16, 17, 18, 19, 20, 21, 22, 23, 24, 25]) rfl fun kn kp hn hp => ?_
    refine T_op rfl rfl fun kc hc => ?_
    simp; refine hc _ ?_; clear hc kc
    refine T_op rfl rfl fun kc hc => ?_
    simp; refine hc _ ?_; clear hc kc
    refine T_op rfl rfl fun kc hc => ?_
    simp; refine hc _ ?_; clear hc kc
    refine T_on rfl rfl rfl rfl rfl fun kc hc => ?_
    simp; refine hc _ ?_; clear hc kc
    refine T_on rfl rfl rfl rfl rfl fun kc hc => ?_
    simp; refine hc _ ?_; clear hc kc
    refine T_on rfl rfl rfl rfl rfl fun kc hc => ?_
    simp
    refine CallS.dat (walk14 x hxf) (rfl) rfl rfl rfl ?_
    simp [enum]; refine hc _ ?_; clear hc kc
    refine T_on rfl rfl rfl rfl rfl fun kc hc => ?_
    simp; refine hc _ ?_; clear hc kc
    refine T_op rfl rfl fun kc hc => ?_
    simp; refine hc _ ?_; clear hc kc
    refine T_op rfl rfl fun kc hc => ?_
    simp; refine hc _ ?_; clear hc kc
    refine T_on rfl rfl rfl rfl rfl fun kc hc => ?_
    simp; refine hc _ ?_; clear hc kc
    refine T_on rfl rfl rfl rfl rfl fun kc hc => ?_
    simp; refine hc _ ?_; clear hc kc
    refine T_on rfl rfl rfl rfl rfl fun kc hc => ?_
    simp; refine hc _ ?_; clear hc kc
    refine T_on rfl rfl rfl rfl rfl fun kc hc => ?_
    simp; refine hc _ ?_; clear hc kc
    refine T_on rfl rfl rfl rfl rfl fun kc hc => ?_
    simp; refine hc _ ?_; clear hc kc
    refine T_on rfl rfl rfl rfl rfl fun kc hc => ?_
    simp; refine hc _ ?_; clear hc kc
    refine T_on rfl rfl rfl rfl rfl fun kc hc => ?_
    simp [hlc]; refine hc _ ?_; clear hc kc
    refine T_op rfl rfl fun kc hc => ?_
    simp; refine hc _ ?_; clear hc kc
    refine T_op rfl rfl fun kc hc => ?_
    simp; refine hc _ ?_; clear hc kc
    refine T_on rfl rfl rfl rfl rfl fun kc hc => ?_
    simp; refine hc _ ?_; clear hc kc
    refine T_on rfl rfl rfl rfl rfl fun kc hc => ?_
    simp; refine hc _ ?_; clear hc kc
    refine T_on rfl rfl rfl rfl rfl fun kc hc => ?_
    simp; refine hc _ ?_; clear hc kc
    refine T_on rfl rfl rfl rfl rfl fun kc hc => ?_
    simp; refine hc _ ?_; clear hc kc
    refine T_on rfl rfl rfl rfl rfl fun kc hc => ?_
    simp; refine hc _ ?_; clear hc kc
    refine T_on rfl rfl rfl rfl rfl fun kc hc => ?_
    simp; refine hc _ ?_; clear hc kc
    refine T_on rfl rfl rfl rfl rfl fun kc hc => ?_
    simp [hls]; refine hc _ ?_; clear hc kc
    refine T_op rfl rfl fun kc hc => ?_
    simp; refine hc _ ?_; clear hc kc
    refine T_end (hn _ ?_); clear hn hp kn kp
    refine T_then ?_
    refine T_false (by simp) ?_
    refine T_skip ?_
    refine T_then ?_
    refine T_seq ?_
    refine T_seq ?_
    refine T_region (is := [0]) rfl fun kn kp hn hp => ?_
    refine T_op rfl rfl fun kc hc => ?_
    simp; refine hc _ ?_; clear hc kc
    refine T_end (hn _ ?_); clear hn hp kn kp
    refine T_then ?_
    refine T_block ?_
    refine T_loop (fun z : Nat => { sl := [(1, .ptr 0 0), (3, .ptr 1 0), (7, .dat (iD z))], hp := [(0, .var ((catD c).map .dat)), (1, .var ((catD x).map .dat))], nx := 2 }) (fun z => z ≤ c.courses.length) (fun z => c.courses.length - z) 0 (Ent.sub [1, 3, 7] [0, 1] (by simp [sub, subSl, subHp, place, mp, mpL, mpO, mpG])) (Nat.zero_le _) fun z hz => ?_
    refine T_seq ?_
    refine T_seq ?_
    refine T_region (is := [0, 1, 2, 3, 4]) rfl fun kn kp hn hp => ?_
    refine T_op rfl rfl fun kc hc => ?_
    simp; refine hc _ ?_; clear hc kc
    refine T_op rfl rfl fun kc hc => ?_
    simp; refine hc _ ?_; clear hc kc
    refine T_op rfl rfl fun kc hc => ?_
    simp; refine hc _ ?_; clear hc kc
    refine T_op rfl rfl fun kc hc => ?_
    simp; refine hc _ ?_; clear hc kc
    refine T_op rfl rfl fun kc hc => ?_
    simp; refine hc _ ?_; clear hc kc
    refine T_end (hn _ ?_); clear hn hp kn kp
    refine T_then ?_
    refine T_cond rfl (fun b5 => ?_) (fun b5 => ?_)
    · skip
      have hz' : z < c.courses.length := by simpa using b5
      obtain ⟨y, hxy⟩ : ∃ x, c.courses[z]? = some x := ⟨_, List.getElem?_eq_getElem hz'⟩
      have ez : IntKind.i64.wrap ((z : Int) + 1) = (z : Int) + 1 := wr1 hz' (by omega)
      obtain ⟨y2, hx2, hn2, hm2, hf2⟩ := hcs z y hxy
      have w15 : Does Try.prog 15 [.agg (catD x), sD y.name] (.dat (.tup [iD y.number, bV true])) [] := by have h := Does.datTup (ds := [iD _, bV _]) (walk15 x y.name (by omega)); rwa [hf2] at h
      refine T_skip ?_
      refine T_then ?_
      refine T_seq ?_
      refine T_block ?_
      refine T_seqDraw (is := [0, 1, 2, 3, 4, 5, 6, 7, 8, 9, 10, 11, 12]) rfl (by kernel_rfl) fun kn hn => ?_
      refine D_op rfl rfl rfl rfl fun kc hc => ?_
      simp; refine hc _ ?_; clear hc kc
      refine D_op rfl rfl rfl rfl fun kc hc => ?_
      simp; refine hc _ ?_; clear hc kc
      refine D_op rfl rfl rfl rfl fun kc hc => ?_
      simp; refine hc _ ?_; clear hc kc
      refine D_op rfl rfl rfl rfl fun kc hc => ?_
      simp; refine hc _ ?_; clear hc kc
      refine D_op rfl rfl rfl rfl fun kc hc => ?_
      simp [hxy]; refine hc _ ?_; clear hc kc
      refine D_op rfl rfl rfl rfl fun kc hc => ?_
      simp; refine hc _ ?_; clear hc kc
      refine D_op rfl rfl rfl rfl fun kc hc => ?_
      simp [hxy]; refine hc _ ?_; clear hc kc
      refine D_call rfl rfl rfl (by simp <;> first | exact ⟨rfl, rfl⟩ | rfl) (w15) (by rfl) rfl fun kc hc => ?_
      simp [enum]; refine hc _ ?_; clear hc kc
      refine D_op rfl rfl rfl rfl fun kc hc => ?_
      simp; refine hc _ ?_; clear hc kc
      refine D_op rfl rfl rfl rfl fun kc hc => ?_
      simp; refine hc _ ?_; clear hc kc
      refine D_op rfl rfl rfl rfl fun kc hc => ?_
      simp; refine hc _ ?_; clear hc kc
      refine D_op rfl rfl rfl rfl fun kc hc => ?_
      simp; refine hc _ ?_; clear hc kc
      refine D_op rfl rfl rfl rfl fun kc hc => ?_
      simp; refine hc _ ?_; clear hc kc
      refine D_end rfl (by kernel_rfl) (hn _ ?_); clear hn kn
      refine T_seqDraw (is := [0, 1, 2, 3, 4, 5, 6, 7, 8, 9, 10, 11, 12, 13, 14, 15, 16, 17, 18, 19, 20, 21, 22, 23, 24, 25, 26, 27, 28, 29, 30, 31, 32, 33, 34, 35, 36, 37, 38, 39, 40, 41]) rfl (by kernel_rfl) fun kn hn => ?_
      refine D_op rfl rfl rfl rfl fun kc hc => ?_
      simp; refine hc _ ?_; clear hc kc
      refine D_op rfl rfl rfl rfl fun kc hc => ?_
      simp; refine hc _ ?_; clear hc kc
      refine D_op rfl rfl rfl rfl fun kc hc => ?_
      simp; refine hc _ ?_; clear hc kc
      refine D_op rfl rfl rfl rfl fun kc hc => ?_
      simp [hx2]; refine hc _ ?_; clear hc kc
      refine D_op rfl rfl rfl rfl fun kc hc => ?_
      simp; refine hc _ ?_; clear hc kc
      refine D_op rfl rfl rfl rfl fun kc hc => ?_
      simp [hx2, hn2]; refine hc _ ?_; clear hc kc
      refine D_op rfl rfl rfl rfl fun kc hc => ?_
      simp; refine hc _ ?_; clear hc kc
      refine D_op rfl rfl rfl rfl fun kc hc => ?_
      simp; refine hc _ ?_; clear hc kc
      refine D_op rfl rfl rfl rfl fun kc hc => ?_
      simp; refine hc _ ?_; clear hc kc
      refine D_op rfl rfl rfl rfl fun kc hc => ?_
      simp [hxy]; refine hc _ ?_; clear hc kc
      refine D_op rfl rfl rfl rfl fun kc hc => ?_
      simp; refine hc _ ?_; clear hc kc
      refine D_op rfl rfl rfl rfl fun kc hc => ?_
      simp [hxy]; refine hc _ ?_; clear hc kc
      refine D_op rfl rfl rfl rfl fun kc hc => ?_
      simp; refine hc _ ?_; clear hc kc
      refine D_op rfl rfl rfl rfl fun kc hc => ?_
      simp; refine hc _ ?_; clear hc kc
      refine D_deep rfl (pstep_one rfl rfl rfl rfl fun g0 => .op rfl (by simp [g0]; rfl)) rfl fun kc hc => ?_
      simp; refine hc _ ?_; clear hc kc
      refine D_deep rfl (pstep_one rfl rfl rfl rfl fun g0 => .op rfl (by simp [g0]; rfl)) rfl fun kc hc => ?_
      simp; refine hc _ ?_; clear hc kc
      refine D_deep rfl (pstep_one rfl rfl rfl rfl fun g0 => .op rfl (by simp [g0]; rfl)) rfl fun kc hc => ?_
      simp; refine hc _ ?_; clear hc kc
      refine D_deep rfl (pstep_one rfl rfl rfl rfl fun g0 => .op rfl (by simp [g0, hx2]; rfl)) rfl fun kc hc => ?_
      simp [hx2]; refine hc _ ?_; clear hc kc
      refine D_deep rfl (pstep_one rfl rfl rfl rfl fun g0 => .op rfl (by simp [g0]; rfl)) rfl fun kc hc => ?_
      simp; refine hc _ ?_; clear hc kc
      refine D_deep rfl (pstep_one rfl rfl rfl rfl fun g0 => .op rfl (by simp [g0, hx2, hm2]; rfl)) rfl fun kc hc => ?_
      simp [hx2, hm2]; refine hc _ ?_; clear hc kc
      refine D_deep rfl (pstep_one rfl rfl rfl rfl fun g0 => .op rfl (by simp [g0]; rfl)) rfl fun kc hc => ?_
      simp; refine hc _ ?_; clear hc kc
      refine D_deep rfl (pstep_one rfl rfl rfl rfl fun g0 => .op rfl (by simp [g0]; rfl)) rfl fun kc hc => ?_
      simp; refine hc _ ?_; clear hc kc
      refine D_deep rfl (pstep_one rfl rfl rfl rfl fun g0 => .op rfl (by simp [g0]; rfl)) rfl fun kc hc => ?_
      simp; refine hc _ ?_; clear hc kc
      refine D_deep rfl (pstep_one rfl rfl rfl rfl fun g0 => .op rfl (by simp [g0, hxy]; rfl)) rfl fun kc hc => ?_
      simp [hxy]; refine hc _ ?_; clear hc kc
      refine D_deep rfl (pstep_one rfl rfl rfl rfl fun g0 => .op rfl (by simp [g0]; rfl)) rfl fun kc hc => ?_
      simp; refine hc _ ?_; clear hc kc
      refine D_deep rfl (pstep_one rfl rfl rfl rfl fun g0 => .op rfl (by simp [g0, hxy]; rfl)) rfl fun kc hc => ?_
      simp [hxy]; refine hc _ ?_; clear hc kc
      refine D_deep rfl (pstep_one rfl rfl rfl rfl fun g0 => .op rfl (by simp [g0]; rfl)) rfl fun kc hc => ?_
      simp; refine hc _ ?_; clear hc kc
      refine D_op rfl rfl rfl rfl fun kc hc => ?_
      simp; refine hc _ ?_; clear hc kc
      refine D_op rfl rfl rfl rfl fun kc hc => ?_
      simp; refine hc _ ?_; clear hc kc
      refine D_deep rfl (pstep_one rfl rfl rfl rfl fun g0 => .op rfl (by simp [g0]; rfl)) rfl fun kc hc => ?_
      simp; refine hc _ ?_; clear hc kc
      refine D_deep rfl (pstep_one rfl rfl rfl rfl fun g0 => .op rfl (by simp [g0]; rfl)) rfl fun kc hc => ?_
      simp; refine hc _ ?_; clear hc kc
      refine D_deep rfl (pstep_one rfl rfl rfl rfl fun g0 => .op rfl (by simp [g0]; rfl)) rfl fun kc hc => ?_
      simp; refine hc _ ?_; clear hc kc
      refine D_deep rfl (pstep_one rfl rfl rfl rfl fun g0 => .op rfl (by simp [g0]; rfl)) rfl fun kc hc => ?_
      simp; refine hc _ ?_; clear hc kc
      refine D_deep rfl (pstep_one rfl rfl rfl rfl fun g0 => .op rfl (by simp [g0, hxy]; rfl)) rfl fun kc hc => ?_
      simp [hxy]; refine hc _ ?_; clear hc kc
      refine D_deep rfl (pstep_one rfl rfl rfl rfl fun g0 => .op rfl (by simp [g0]; rfl)) rfl fun kc hc => ?_
      simp; refine hc _ ?_; clear hc kc
      refine D_deep rfl (pstep_one rfl rfl rfl rfl fun g0 => .op rfl (by simp [g0, hxy]; rfl)) rfl fun kc hc => ?_
      simp [hxy]; refine hc _ ?_; clear hc kc
      refine D_deep rfl (pstep_one rfl rfl rfl rfl fun g0 => .op rfl (by simp [g0]; rfl)) rfl fun kc hc => ?_
      simp; refine hc _ ?_; clear hc kc
      refine D_op rfl rfl rfl rfl fun kc hc => ?_
      simp; refine hc _ ?_; clear hc kc
      refine D_op rfl rfl rfl rfl fun kc hc => ?_
      simp; refine hc _ ?_; clear hc kc
      refine D_deep rfl (pstep_one rfl rfl rfl rfl fun g0 => .op rfl (by simp [g0]; rfl)) rfl fun kc hc => ?_
      simp; refine hc _ ?_; clear hc kc
      refine D_deep rfl (pstep_one rfl rfl rfl rfl fun g0 => .op rfl (by simp [g0]; rfl)) rfl fun kc hc => ?_
      simp; refine hc _ ?_; clear hc kc
      refine D_op rfl rfl rfl rfl fun kc hc => ?_
      simp; refine hc _ ?_; clear hc kc
      refine D_end rfl (by kernel_rfl) (hn _ ?_); clear hn kn
      refine T_false (by simp) ?_
      refine T_skip ?_
      refine X_blockN ?_
      refine T_then ?_
      refine T_region (is := [0, 1, 2]) rfl fun kn kp hn hp => ?_
      refine T_op rfl rfl fun kc hc => ?_
      simp; refine hc _ ?_; clear hc kc
      refine T_op rfl rfl fun kc hc => ?_
      simp [ez]; refine hc _ ?_; clear hc kc
      refine T_op rfl rfl fun kc hc => ?_
      simp; refine hc _ ?_; clear hc kc
      refine T_end (hn _ ?_); clear hn hp kn kp
      exact X_loopN (z + 1) (Ent.sub [1, 3, 7] [0, 1] (by simp [sub, subSl, subHp, place, mp, mpL, mpO, mpG, ez])) hz' (by omega)
    · skip
      have hz' : z = c.courses.length := by simp at b5; omega
      subst hz'
      refine T_exit ?_
      refine X_thenE ?_
      refine X_loopE ?_
      refine X_hit ?_
      refine T_then ?_
      refine T_seq ?_
      refine T_seq ?_
      refine T_region (is := [0]) rfl fun kn kp hn hp => ?_
      refine T_op rfl rfl fun kc hc => ?_
      simp; refine hc _ ?_; clear hc kc
      refine T_end (hn _ ?_); clear hn hp kn kp
      refine T_then ?_
      refine T_block ?_
      refine T_loop (fun z : Nat => { sl := [(1, .ptr 0 0), (3, .ptr 1 0), (10, .dat (iD z))], hp := [(0, .var ((catD c).map .dat)), (1, .var ((catD x).map .dat))], nx := 2 }) (fun z => z ≤ c.same.length) (fun z => c.same.length - z) 0 (Ent.sub [1, 3, 10] [0, 1] (by simp [sub, subSl, subHp, place, mp, mpL, mpO, mpG])) (Nat.zero_le _) fun z hz => ?_
      refine T_seq ?_
      refine T_seq ?_
      refine T_region (is := [0, 1, 2, 3, 4]) rfl fun kn kp hn hp => ?_
      refine T_op rfl rfl fun kc hc => ?_
      simp; refine hc _ ?_; clear hc kc
      refine T_op rfl rfl fun kc hc => ?_
      simp; refine hc _ ?_; clear hc kc
      refine T_op rfl rfl fun kc hc => ?_
      simp; refine hc _ ?_; clear hc kc
      refine T_op rfl rfl fun kc hc => ?_
      simp; refine hc _ ?_; clear hc kc
      refine T_op rfl rfl fun kc hc => ?_
      simp; refine hc _ ?_; clear hc kc
      refine T_end (hn _ ?_); clear hn hp kn kp
      refine T_then ?_
      refine T_cond rfl (fun b7 => ?_) (fun b7 => ?_)
      · skip
        have hz' : z < c.same.length := by simpa using b7
        obtain ⟨p, hxp⟩ : ∃ x, c.same[z]? = some x := ⟨_, List.getElem?_eq_getElem hz'⟩
        have ez : IntKind.i64.wrap ((z : Int) + 1) = (z : Int) + 1 := wr1 hz' (by omega)
        obtain ⟨p2, hx2, ha2, hk2, hk3⟩ := hsm z p hxp
        have w15 : Does Try.prog 15 [.agg (catD c), sD p.a] (.dat (.tup [iD (findOf c p.a).1, bV (findOf c p.a).2])) [] := Does.datTup (ds := [iD _, bV _]) (walk15 c p.a (by omega))
        refine T_skip ?_
        refine T_then ?_
        refine T_seq ?_
        refine T_block ?_
        refine T_seqDraw (is := [0, 1, 2, 3, 4, 5, 6, 7, 8, 9, 10, 11, 12]) rfl (by kernel_rfl) fun kn hn => ?_
        refine D_op rfl rfl rfl rfl fun kc hc => ?_
        simp; refine hc _ ?_; clear hc kc
        refine D_op rfl rfl rfl rfl fun kc hc => ?_
        simp; refine hc _ ?_; clear hc kc
        refine D_op rfl rfl rfl rfl fun kc hc => ?_
        simp; refine hc _ ?_; clear hc kc
        refine D_op rfl rfl rfl rfl fun kc hc => ?_
        simp; refine hc _ ?_; clear hc kc
        refine D_op rfl rfl rfl rfl fun kc hc => ?_
        simp [hx2]; refine hc _ ?_; clear hc kc
        refine D_op rfl rfl rfl rfl fun kc hc => ?_
        simp; refine hc _ ?_; clear hc kc
        refine D_op rfl rfl rfl rfl fun kc hc => ?_
        simp [hx2, ha2]; refine hc _ ?_; clear hc kc
        refine D_call rfl rfl rfl (by simp <;> first | exact ⟨rfl, rfl⟩ | rfl) (w15) (by rfl) rfl fun kc hc => ?_
        simp [enum]; refine hc _ ?_; clear hc kc
        refine D_op rfl rfl rfl rfl fun kc hc => ?_
        simp; refine hc _ ?_; clear hc kc
        refine D_op rfl rfl rfl rfl fun kc hc => ?_
        simp; refine hc _ ?_; clear hc kc
        refine D_op rfl rfl rfl rfl fun kc hc => ?_
        simp; refine hc _ ?_; clear hc kc
        refine D_op rfl rfl rfl rfl fun kc hc => ?_
        simp; refine hc _ ?_; clear hc kc
        refine D_op rfl rfl rfl rfl fun kc hc => ?_
        simp; refine hc _ ?_; clear hc kc
        refine D_end rfl (by kernel_rfl) (hn _ ?_); clear hn kn
        cases hpe : p.a == eS
        · skip
          have hfo := hk3 hpe
          have hpe2 : ¬ p.a = eS := by simpa using hpe
          refine T_seqDraw (is := [0, 1, 2, 3, 4, 5, 6, 7, 8, 9, 10, 11, 12, 13, 14, 15, 16, 17, 18, 19, 20, 21, 22, 23, 24, 25, 26, 27, 28, 29, 30, 31, 32, 33, 34, 35, 36, 37, 38, 39, 40, 41, 42, 43, 44, 45, 46, 47, 48, 49, 50, 51, 52, 53, 54, 55, 56, 57, 58, 59]) rfl (by kernel_rfl) fun kn hn => ?_
          refine D_op rfl rfl rfl rfl fun kc hc => ?_
          simp; refine hc _ ?_; clear hc kc
          refine D_op rfl rfl rfl rfl fun kc hc => ?_
          simp; refine hc _ ?_; clear hc kc
          refine D_op rfl rfl rfl rfl fun kc hc => ?_
          simp; refine hc _ ?_; clear hc kc
          refine D_op rfl rfl rfl rfl fun kc hc => ?_
          simp [hx2]; refine hc _ ?_; clear hc kc
          refine D_op rfl rfl rfl rfl fun kc hc => ?_
          simp; refine hc _ ?_; clear hc kc
          refine D_op rfl rfl rfl rfl fun kc hc => ?_
          simp [hx2, ha2]; refine hc _ ?_; clear hc kc
          refine D_op rfl rfl rfl rfl fun kc hc => ?_
          simp; refine hc _ ?_; clear hc kc
          refine D_op rfl rfl rfl rfl fun kc hc => ?_
          simp; refine hc _ ?_; clear hc kc
          refine D_op rfl rfl rfl rfl fun kc hc => ?_
          simp; refine hc _ ?_; clear hc kc
          refine D_op rfl rfl rfl rfl fun kc hc => ?_
          simp [hxp]; refine hc _ ?_; clear hc kc
          refine D_op rfl rfl rfl rfl fun kc hc => ?_
          simp; refine hc _ ?_; clear hc kc
          refine D_op rfl rfl rfl rfl fun kc hc => ?_
          simp [hxp]; refine hc _ ?_; clear hc kc
          refine D_op rfl rfl rfl rfl fun kc hc => ?_
          simp; refine hc _ ?_; clear hc kc
          refine D_op rfl rfl rfl rfl fun kc hc => ?_
          simp; refine hc _ ?_; clear hc kc
          refine D_deep rfl (pstep_one rfl rfl rfl rfl fun g0 => .op rfl (by simp [g0]; rfl)) rfl fun kc hc => ?_
          simp; refine hc _ ?_; clear hc kc
          refine D_deep rfl (pstep_one rfl rfl rfl rfl fun g0 => .op rfl (by simp [g0]; rfl)) rfl fun kc hc => ?_
          simp; refine hc _ ?_; clear hc kc
          refine D_deep rfl (pstep_one rfl rfl rfl rfl fun g0 => .op rfl (by simp [g0]; rfl)) rfl fun kc hc => ?_
          simp; refine hc _ ?_; clear hc kc
          refine D_deep rfl (pstep_one rfl rfl rfl rfl fun g0 => .op rfl (by simp [g0, hxp]; rfl)) rfl fun kc hc => ?_
          simp [hxp]; refine hc _ ?_; clear hc kc
          refine D_deep rfl (pstep_one rfl rfl rfl rfl fun g0 => .op rfl (by simp [g0]; rfl)) rfl fun kc hc => ?_
          simp; refine hc _ ?_; clear hc kc
          refine D_deep rfl (pstep_one rfl rfl rfl rfl fun g0 => .op rfl (by simp [g0, hxp]; rfl)) rfl fun kc hc => ?_
          simp [hxp]; refine hc _ ?_; clear hc kc
          refine D_deep rfl (pstep_one rfl rfl rfl rfl fun g0 => .op rfl (by simp [g0, hpe]; rfl)) rfl fun kc hc => ?_
          simp [hpe]; refine hc _ ?_; clear hc kc
          refine D_deep rfl (pstep_one rfl rfl rfl rfl fun g0 => .op rfl (by simp [g0]; rfl)) rfl fun kc hc => ?_
          simp; refine hc _ ?_; clear hc kc
          refine D_deep rfl (pstep_one rfl rfl rfl rfl fun g0 => .op rfl (by simp [g0, hfo]; rfl)) rfl fun kc hc => ?_
          simp [hfo]; refine hc _ ?_; clear hc kc
          refine D_deep rfl (pstep_one rfl rfl rfl rfl fun g0 => .op rfl (by simp [g0, hfo]; rfl)) rfl fun kc hc => ?_
          simp [hfo]; refine hc _ ?_; clear hc kc
          refine D_deep rfl (pstep_one rfl rfl rfl rfl fun g0 => .op rfl (by simp [g0]; rfl)) rfl fun kc hc => ?_
          simp; refine hc _ ?_; clear hc kc
          refine D_deep rfl (pstep_one rfl rfl rfl rfl fun g0 => .op rfl (by simp [g0, hfo]; rfl)) rfl fun kc hc => ?_
          simp [hfo]; refine hc _ ?_; clear hc kc
          refine D_deep rfl (pstep_one rfl rfl rfl rfl fun g0 => .op rfl (by simp [g0]; rfl)) rfl fun kc hc => ?_
          simp; refine hc _ ?_; clear hc kc
          refine D_deep rfl (pstep_one rfl rfl rfl rfl fun g0 => .op rfl (by simp [g0]; rfl)) rfl fun kc hc => ?_
          simp; refine hc _ ?_; clear hc kc
          refine D_deep rfl (pstep_one rfl rfl rfl rfl fun g0 => .op rfl (by simp [g0]; rfl)) rfl fun kc hc => ?_
          simp; refine hc _ ?_; clear hc kc
          refine D_deep rfl (pstep_one rfl rfl rfl rfl fun g0 => .op rfl (by simp [g0, hx2]; rfl)) rfl fun kc hc => ?_
          simp [hx2]; refine hc _ ?_; clear hc kc
          refine D_deep rfl (pstep_one rfl rfl rfl rfl fun g0 => .op rfl (by simp [g0]; rfl)) rfl fun kc hc => ?_
          simp; refine hc _ ?_; clear hc kc
          refine D_deep rfl (pstep_one rfl rfl rfl rfl fun g0 => .op rfl (by simp [g0, hx2]; rfl)) rfl fun kc hc => ?_
          simp [hx2]; refine hc _ ?_; clear hc kc
          refine D_deep rfl (pstep_one rfl rfl rfl rfl fun g0 => .op rfl (by simp [g0, hfo]; rfl)) rfl fun kc hc => ?_
          simp [hfo]; refine hc _ ?_; clear hc kc
          refine D_deep rfl (pstep_one rfl rfl rfl rfl fun g0 => .op rfl (by simp [g0, aPick]; rfl)) rfl fun kc hc => ?_
          simp [aPick]; refine hc _ ?_; clear hc kc
          refine D_deep rfl (pstep_one rfl rfl rfl rfl fun g0 => .op rfl (by simp [g0, aPick]; rfl)) rfl fun kc hc => ?_
          simp [aPick]; refine hc _ ?_; clear hc kc
          refine D_op rfl rfl rfl rfl fun kc hc => ?_
          simp [aPick]; refine hc _ ?_; clear hc kc
          refine D_op rfl rfl rfl rfl fun kc hc => ?_
          simp; refine hc _ ?_; clear hc kc
          refine D_deep rfl (pstep_one rfl rfl rfl rfl fun g0 => .op rfl (by simp [g0]; rfl)) rfl fun kc hc => ?_
          simp; refine hc _ ?_; clear hc kc
          refine D_deep rfl (pstep_one rfl rfl rfl rfl fun g0 => .op rfl (by simp [g0]; rfl)) rfl fun kc hc => ?_
          simp; refine hc _ ?_; clear hc kc
          refine D_deep rfl (pstep_one rfl rfl rfl rfl fun g0 => .op rfl (by simp [g0]; rfl)) rfl fun kc hc => ?_
          simp; refine hc _ ?_; clear hc kc
          refine D_deep rfl (pstep_one rfl rfl rfl rfl fun g0 => .op rfl (by simp [g0, hxp]; rfl)) rfl fun kc hc => ?_
          simp [hxp]; refine hc _ ?_; clear hc kc
          refine D_deep rfl (pstep_one rfl rfl rfl rfl fun g0 => .op rfl (by simp [g0]; rfl)) rfl fun kc hc => ?_
          simp; refine hc _ ?_; clear hc kc
          refine D_deep rfl (pstep_one rfl rfl rfl rfl fun g0 => .op rfl (by simp [g0, hxp]; rfl)) rfl fun kc hc => ?_
          simp [hxp]; refine hc _ ?_; clear hc kc
          refine D_deep rfl (pstep_one rfl rfl rfl rfl fun g0 => .op rfl (by simp [g0, hpe]; rfl)) rfl fun kc hc => ?_
          simp [hpe]; refine hc _ ?_; clear hc kc
          refine D_deep rfl (pstep_one rfl rfl rfl rfl fun g0 => .op rfl (by simp [g0]; rfl)) rfl fun kc hc => ?_
          simp; refine hc _ ?_; clear hc kc
          refine D_deep (d := .dat (.val (.tuple #[]))) rfl ⟨false, .bad, rfl, (fun h => by cases h), rfl, rfl⟩ rfl fun kc hc => ?_
          simp; refine hc _ ?_; clear hc kc
          refine D_deep (d := .dat (.val (.tuple #[]))) rfl ⟨false, .bad, rfl, (fun h => by cases h), rfl, rfl⟩ rfl fun kc hc => ?_
          simp; refine hc _ ?_; clear hc kc
          refine D_deep (d := .dat (.val (.tuple #[]))) rfl ⟨false, .bad, rfl, (fun h => by cases h), rfl, rfl⟩ rfl fun kc hc => ?_
          simp; refine hc _ ?_; clear hc kc
          refine D_deep (d := .dat (.val (.tuple #[]))) rfl ⟨false, .bad, rfl, (fun h => by cases h), rfl, rfl⟩ rfl fun kc hc => ?_
          simp; refine hc _ ?_; clear hc kc
          refine D_deep (d := .dat (.val (.tuple #[]))) rfl ⟨false, .bad, rfl, (fun h => by cases h), rfl, rfl⟩ rfl fun kc hc => ?_
          simp; refine hc _ ?_; clear hc kc
          refine D_deep (d := .dat (.val (.tuple #[]))) rfl ⟨false, .bad, rfl, (fun h => by cases h), rfl, rfl⟩ rfl fun kc hc => ?_
          simp; refine hc _ ?_; clear hc kc
          refine D_deep (d := .dat (.val (.tuple #[]))) rfl ⟨false, .bad, rfl, (fun h => by cases h), rfl, rfl⟩ rfl fun kc hc => ?_
          simp; refine hc _ ?_; clear hc kc
          refine D_deep (d := .dat (.val (.tuple #[]))) rfl ⟨false, .bad, rfl, (fun h => by cases h), rfl, rfl⟩ rfl fun kc hc => ?_
          simp; refine hc _ ?_; clear hc kc
          refine D_deep (d := .dat (.val (.tuple #[]))) rfl ⟨false, .bad, rfl, (fun h => by cases h), rfl, rfl⟩ rfl fun kc hc => ?_
          simp; refine hc _ ?_; clear hc kc
          refine D_deep (d := .dat (.val (.tuple #[]))) rfl ⟨false, .bad, rfl, (fun h => by cases h), rfl, rfl⟩ rfl fun kc hc => ?_
          simp; refine hc _ ?_; clear hc kc
          refine D_deep (d := .dat (.val (.tuple #[]))) rfl ⟨false, .bad, rfl, (fun h => by cases h), rfl, rfl⟩ rfl fun kc hc => ?_
          simp; refine hc _ ?_; clear hc kc
          refine D_deep (d := .dat (.val (.tuple #[]))) rfl ⟨false, .bad, rfl, (fun h => by cases h), rfl, rfl⟩ rfl fun kc hc => ?_
          simp; refine hc _ ?_; clear hc kc
          refine D_deep (d := .dat (.val (.tuple #[]))) rfl ⟨false, .bad, rfl, (fun h => by cases h), rfl, rfl⟩ rfl fun kc hc => ?_
          simp; refine hc _ ?_; clear hc kc
          refine D_deep rfl (pstep_one rfl rfl rfl rfl fun g0 => .op rfl (by simp [g0, aPick]; rfl)) rfl fun kc hc => ?_
          simp [aPick]; refine hc _ ?_; clear hc kc
          refine D_op rfl rfl rfl rfl fun kc hc => ?_
          simp [aPick]; refine hc _ ?_; clear hc kc
          refine D_end rfl (by kernel_rfl) (hn _ ?_); clear hn kn
          refine T_false (by simp) ?_
          refine T_skip ?_
          refine X_blockN ?_
          refine T_then ?_
          refine T_region (is := [0, 1, 2]) rfl fun kn kp hn hp => ?_
          refine T_op rfl rfl fun kc hc => ?_
          simp; refine hc _ ?_; clear hc kc
          refine T_op rfl rfl fun kc hc => ?_
          simp [ez]; refine hc _ ?_; clear hc kc
          refine T_op rfl rfl fun kc hc => ?_
          simp; refine hc _ ?_; clear hc kc
          refine T_end (hn _ ?_); clear hn hp kn kp
          exact X_loopN (z + 1) (Ent.sub [1, 3, 10] [0, 1] (by simp [sub, subSl, subHp, place, mp, mpL, mpO, mpG, ez])) hz' (by omega)
        · skip
          have hkx := hk2 hpe
          have hpe2 : p.a = eS := by simpa using hpe
          refine T_seqDraw (is := [0, 1, 2, 3, 4, 5, 6, 7, 8, 9, 10, 11, 12, 13, 14, 15, 16, 17, 18, 19, 20, 21, 22, 23, 24, 25, 26, 27, 28, 29, 30, 31, 32, 33, 34, 35, 36, 37, 38, 39, 40, 41, 42, 43, 44, 45, 46, 47, 48, 49, 50, 51, 52, 53, 54, 55, 56, 57, 58, 59]) rfl (by kernel_rfl) fun kn hn => ?_
          refine D_op rfl rfl rfl rfl fun kc hc => ?_
          simp; refine hc _ ?_; clear hc kc
          refine D_op rfl rfl rfl rfl fun kc hc => ?_
          simp; refine hc _ ?_; clear hc kc
          refine D_op rfl rfl rfl rfl fun kc hc => ?_
          simp; refine hc _ ?_; clear hc kc
          refine D_op rfl rfl rfl rfl fun kc hc => ?_
          simp [hx2]; refine hc _ ?_; clear hc kc
          refine D_op rfl rfl rfl rfl fun kc hc => ?_
          simp; refine hc _ ?_; clear hc kc
          refine D_op rfl rfl rfl rfl fun kc hc => ?_
          simp [hx2, ha2]; refine hc _ ?_; clear hc kc
          refine D_op rfl rfl rfl rfl fun kc hc => ?_
          simp; refine hc _ ?_; clear hc kc
          refine D_op rfl rfl rfl rfl fun kc hc => ?_
          simp; refine hc _ ?_; clear hc kc
          refine D_op rfl rfl rfl rfl fun kc hc => ?_
          simp; refine hc _ ?_; clear hc kc
          refine D_op rfl rfl rfl rfl fun kc hc => ?_
          simp [hxp]; refine hc _ ?_; clear hc kc
          refine D_op rfl rfl rfl rfl fun kc hc => ?_
          simp; refine hc _ ?_; clear hc kc
          refine D_op rfl rfl rfl rfl fun kc hc => ?_
          simp [hxp]; refine hc _ ?_; clear hc kc
          refine D_op rfl rfl rfl rfl fun kc hc => ?_
          simp; refine hc _ ?_; clear hc kc
          refine D_op rfl rfl rfl rfl fun kc hc => ?_
          simp; refine hc _ ?_; clear hc kc
          refine D_deep rfl (pstep_one rfl rfl rfl rfl fun g0 => .op rfl (by simp [g0]; rfl)) rfl fun kc hc => ?_
          simp; refine hc _ ?_; clear hc kc
          refine D_deep rfl (pstep_one rfl rfl rfl rfl fun g0 => .op rfl (by simp [g0]; rfl)) rfl fun kc hc => ?_
          simp; refine hc _ ?_; clear hc kc
          refine D_deep rfl (pstep_one rfl rfl rfl rfl fun g0 => .op rfl (by simp [g0]; rfl)) rfl fun kc hc => ?_
          simp; refine hc _ ?_; clear hc kc
          refine D_deep rfl (pstep_one rfl rfl rfl rfl fun g0 => .op rfl (by simp [g0, hxp]; rfl)) rfl fun kc hc => ?_
          simp [hxp]; refine hc _ ?_; clear hc kc
          refine D_deep rfl (pstep_one rfl rfl rfl rfl fun g0 => .op rfl (by simp [g0]; rfl)) rfl fun kc hc => ?_
          simp; refine hc _ ?_; clear hc kc
          refine D_deep rfl (pstep_one rfl rfl rfl rfl fun g0 => .op rfl (by simp [g0, hxp]; rfl)) rfl fun kc hc => ?_
          simp [hxp]; refine hc _ ?_; clear hc kc
          refine D_deep rfl (pstep_one rfl rfl rfl rfl fun g0 => .op rfl (by simp [g0, hpe]; rfl)) rfl fun kc hc => ?_
          simp [hpe]; refine hc _ ?_; clear hc kc
          refine D_deep rfl (pstep_one rfl rfl rfl rfl fun g0 => .op rfl (by simp [g0]; rfl)) rfl fun kc hc => ?_
          simp; refine hc _ ?_; clear hc kc
          refine D_deep (d := .dat (.val (.tuple #[]))) rfl ⟨false, .bad, rfl, (fun h => by cases h), rfl, rfl⟩ rfl fun kc hc => ?_
          simp; refine hc _ ?_; clear hc kc
          refine D_deep (d := .dat (.val (.tuple #[]))) rfl ⟨false, .bad, rfl, (fun h => by cases h), rfl, rfl⟩ rfl fun kc hc => ?_
          simp; refine hc _ ?_; clear hc kc
          refine D_deep (d := .dat (.val (.tuple #[]))) rfl ⟨false, .bad, rfl, (fun h => by cases h), rfl, rfl⟩ rfl fun kc hc => ?_
          simp; refine hc _ ?_; clear hc kc
          refine D_deep (d := .dat (.val (.tuple #[]))) rfl ⟨false, .bad, rfl, (fun h => by cases h), rfl, rfl⟩ rfl fun kc hc => ?_
          simp; refine hc _ ?_; clear hc kc
          refine D_deep (d := .dat (.val (.tuple #[]))) rfl ⟨false, .bad, rfl, (fun h => by cases h), rfl, rfl⟩ rfl fun kc hc => ?_
          simp; refine hc _ ?_; clear hc kc
          refine D_deep (d := .dat (.val (.tuple #[]))) rfl ⟨false, .bad, rfl, (fun h => by cases h), rfl, rfl⟩ rfl fun kc hc => ?_
          simp; refine hc _ ?_; clear hc kc
          refine D_deep (d := .dat (.val (.tuple #[]))) rfl ⟨false, .bad, rfl, (fun h => by cases h), rfl, rfl⟩ rfl fun kc hc => ?_
          simp; refine hc _ ?_; clear hc kc
          refine D_deep (d := .dat (.val (.tuple #[]))) rfl ⟨false, .bad, rfl, (fun h => by cases h), rfl, rfl⟩ rfl fun kc hc => ?_
          simp; refine hc _ ?_; clear hc kc
          refine D_deep (d := .dat (.val (.tuple #[]))) rfl ⟨false, .bad, rfl, (fun h => by cases h), rfl, rfl⟩ rfl fun kc hc => ?_
          simp; refine hc _ ?_; clear hc kc
          refine D_deep (d := .dat (.val (.tuple #[]))) rfl ⟨false, .bad, rfl, (fun h => by cases h), rfl, rfl⟩ rfl fun kc hc => ?_
          simp; refine hc _ ?_; clear hc kc
          refine D_deep (d := .dat (.val (.tuple #[]))) rfl ⟨false, .bad, rfl, (fun h => by cases h), rfl, rfl⟩ rfl fun kc hc => ?_
          simp; refine hc _ ?_; clear hc kc
          refine D_deep (d := .dat (.val (.tuple #[]))) rfl ⟨false, .bad, rfl, (fun h => by cases h), rfl, rfl⟩ rfl fun kc hc => ?_
          simp; refine hc _ ?_; clear hc kc
          refine D_deep rfl (pstep_one rfl rfl rfl rfl fun g0 => .op rfl (by simp [g0, aPick]; rfl)) rfl fun kc hc => ?_
          simp [aPick]; refine hc _ ?_; clear hc kc
          refine D_op rfl rfl rfl rfl fun kc hc => ?_
          simp [aPick]; refine hc _ ?_; clear hc kc
          refine D_op rfl rfl rfl rfl fun kc hc => ?_
          simp; refine hc _ ?_; clear hc kc
          refine D_deep rfl (pstep_one rfl rfl rfl rfl fun g0 => .op rfl (by simp [g0]; rfl)) rfl fun kc hc => ?_
          simp; refine hc _ ?_; clear hc kc
          refine D_deep rfl (pstep_one rfl rfl rfl rfl fun g0 => .op rfl (by simp [g0]; rfl)) rfl fun kc hc => ?_
          simp; refine hc _ ?_; clear hc kc
          refine D_deep rfl (pstep_one rfl rfl rfl rfl fun g0 => .op rfl (by simp [g0]; rfl)) rfl fun kc hc => ?_
          simp; refine hc _ ?_; clear hc kc
          refine D_deep rfl (pstep_one rfl rfl rfl rfl fun g0 => .op rfl (by simp [g0, hxp]; rfl)) rfl fun kc hc => ?_
          simp [hxp]; refine hc _ ?_; clear hc kc
          refine D_deep rfl (pstep_one rfl rfl rfl rfl fun g0 => .op rfl (by simp [g0]; rfl)) rfl fun kc hc => ?_
          simp; refine hc _ ?_; clear hc kc
          refine D_deep rfl (pstep_one rfl rfl rfl rfl fun g0 => .op rfl (by simp [g0, hxp]; rfl)) rfl fun kc hc => ?_
          simp [hxp]; refine hc _ ?_; clear hc kc
          refine D_deep rfl (pstep_one rfl rfl rfl rfl fun g0 => .op rfl (by simp [g0, hpe]; rfl)) rfl fun kc hc => ?_
          simp [hpe]; refine hc _ ?_; clear hc kc
          refine D_deep rfl (pstep_one rfl rfl rfl rfl fun g0 => .op rfl (by simp [g0]; rfl)) rfl fun kc hc => ?_
          simp; refine hc _ ?_; clear hc kc
          refine D_deep rfl (pstep_one rfl rfl rfl rfl fun g0 => .op rfl (by simp [g0]; rfl)) rfl fun kc hc => ?_
          simp; refine hc _ ?_; clear hc kc
          refine D_deep rfl (pstep_one rfl rfl rfl rfl fun g0 => .op rfl (by simp [g0]; rfl)) rfl fun kc hc => ?_
          simp; refine hc _ ?_; clear hc kc
          refine D_deep rfl (pstep_one rfl rfl rfl rfl fun g0 => .op rfl (by simp [g0]; rfl)) rfl fun kc hc => ?_
          simp; refine hc _ ?_; clear hc kc
          refine D_deep rfl (pstep_one rfl rfl rfl rfl fun g0 => .op rfl (by simp [g0, hx2]; rfl)) rfl fun kc hc => ?_
          simp [hx2]; refine hc _ ?_; clear hc kc
          refine D_deep rfl (pstep_one rfl rfl rfl rfl fun g0 => .op rfl (by simp [g0]; rfl)) rfl fun kc hc => ?_
          simp; refine hc _ ?_; clear hc kc
          refine D_deep rfl (pstep_one rfl rfl rfl rfl fun g0 => .op rfl (by simp [g0, hx2, hkx]; rfl)) rfl fun kc hc => ?_
          simp [hx2, hkx]; refine hc _ ?_; clear hc kc
          refine D_deep rfl (pstep_one rfl rfl rfl rfl fun g0 => .op rfl (by simp [g0]; rfl)) rfl fun kc hc => ?_
          simp; refine hc _ ?_; clear hc kc
          refine D_deep rfl (pstep_one rfl rfl rfl rfl fun g0 => .op rfl (by simp [g0]; rfl)) rfl fun kc hc => ?_
          simp; refine hc _ ?_; clear hc kc
          refine D_deep rfl (pstep_one rfl rfl rfl rfl fun g0 => .op rfl (by simp [g0]; rfl)) rfl fun kc hc => ?_
          simp; refine hc _ ?_; clear hc kc
          refine D_deep rfl (pstep_one rfl rfl rfl rfl fun g0 => .op rfl (by simp [g0, hxp]; rfl)) rfl fun kc hc => ?_
          simp [hxp]; refine hc _ ?_; clear hc kc
          refine D_deep rfl (pstep_one rfl rfl rfl rfl fun g0 => .op rfl (by simp [g0]; rfl)) rfl fun kc hc => ?_
          simp; refine hc _ ?_; clear hc kc
          refine D_deep rfl (pstep_one rfl rfl rfl rfl fun g0 => .op rfl (by simp [g0, hxp]; rfl)) rfl fun kc hc => ?_
          simp [hxp]; refine hc _ ?_; clear hc kc
          refine D_deep rfl (pstep_one rfl rfl rfl rfl fun g0 => .op rfl (by simp [g0]; rfl)) rfl fun kc hc => ?_
          simp; refine hc _ ?_; clear hc kc
          refine D_deep rfl (pstep_one rfl rfl rfl rfl fun g0 => .op rfl (by simp [g0, aPick]; rfl)) rfl fun kc hc => ?_
          simp [aPick]; refine hc _ ?_; clear hc kc
          refine D_op rfl rfl rfl rfl fun kc hc => ?_
          simp [aPick]; refine hc _ ?_; clear hc kc
          refine D_end rfl (by kernel_rfl) (hn _ ?_); clear hn kn
          refine T_false (by simp) ?_
          refine T_skip ?_
          refine X_blockN ?_
          refine T_then ?_
          refine T_region (is := [0, 1, 2]) rfl fun kn kp hn hp => ?_
          refine T_op rfl rfl fun kc hc => ?_
          simp; refine hc _ ?_; clear hc kc
          refine T_op rfl rfl fun kc hc => ?_
          simp [ez]; refine hc _ ?_; clear hc kc
          refine T_op rfl rfl fun kc hc => ?_
          simp; refine hc _ ?_; clear hc kc
          refine T_end (hn _ ?_); clear hn hp kn kp
          exact X_loopN (z + 1) (Ent.sub [1, 3, 10] [0, 1] (by simp [sub, subSl, subHp, place, mp, mpL, mpO, mpG, ez])) hz' (by omega)
      · skip
        have hz' : z = c.same.length := by simp at b7; omega
        subst hz'
        refine T_exit ?_
        refine X_thenE ?_
        refine X_loopE ?_
        refine X_hit ?_
        refine T_then ?_
        refine T_seq ?_
        refine T_region (is := [0]) rfl fun kn kp hn hp => ?_
        refine T_op rfl rfl fun kc hc => ?_
        simp; refine hc _ ?_; clear hc kc
        refine T_end (hn _ ?_); clear hn hp kn kp
        refine T_then ?_
        refine T_ret ?_
        exact finI (Ent.refl _) (by simp [resD, resL, resV]; rfl) (Ent.sub [] [] (by simp [sub, subSl, subHp, place, mp, mpL, mpO, mpG]; rfl)) rfl rfl (by simp)
-- END

theorem walk6 (c : Cat) (hf : c.fit) : Does Try.prog 6 [.agg (catD c)] (.dat (bV true)) [] := by
  by_cases h : (resolveOf c).2 = 0
  · have hr : resolveOf c = ((resolveOf c).1, 0) := Prod.ext rfl h
    obtain ⟨hrx, hx, hT, hG⟩ := resolve_again hr
    have hxf := fit_res hf
    generalize (resolveOf c).1 = x at hr hrx hx hxf
    have hk := resR_key c
    refine again_b c x hf hxf hr hrx (by rw [hx]; simp [resR, mapX]) (by rw [hx]; simp [resR, mapX]) (fun i y hy => ?_) (fun i p hp => ?_)
    · subst hx
      exact ⟨(courseX c y).1, mapX_get hy, rfl, rfl, by rw [find_same hk]; exact find_own hT hy⟩
    · subst hx
      refine ⟨(pairX c p).1, mapX_get hp, rfl, fun he => ?_, fun he => ?_⟩
      · simp [pairX, numberR, he]
      · simp only [goodB, Bool.and_eq_true] at hG
        have h2 : (pairX c p).2 = true := by
          have := hG.1.2
          simp only [mapX, List.all_eq_true] at this
          exact this p (List.mem_of_getElem? hp)
        simp only [pairX, Bool.and_eq_true] at h2
        exact find_number he h2.1
  · exact again_a c hf _ h (Prod.ext (resolve_fail h) rfl)


end Go.Proofs.Ytbkkekbeaabokaa
