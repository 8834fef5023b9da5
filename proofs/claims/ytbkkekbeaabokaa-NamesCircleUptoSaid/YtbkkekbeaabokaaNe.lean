/- The names: the reference's listing; the orders. -/
import Derived.Test.YtbkkekbeaabokaaNd
set_option linter.unusedVariables false
set_option linter.unusedSimpArgs false
namespace Go.Proofs.Ytbkkekbeaabokaa
open Go Go.Proofs.Ytbkkekbeaabokaa.Sx

-- WALK 69
-- sizar/sizarref11.listed
theorem walk69 (c : Cat) (hf : c.fit) : Does Try.prog 69 [.agg (catD c)] (.dat (ints (listOf c))) [] := by
  have hn := hf.courses
  refine Does.intro [.tmp 2] Try.func69 rfl (by kernel_rfl) Try.ntmps69 rfl (Nat.le_of_ble_eq_true rfl) ?_
  refine T_seq ?_
  refine T_region (is := [0, 1]) rfl fun kn kp hn hp => ?_
  refine T_op rfl rfl fun kc hc => ?_
  simp; refine hc _ ?_; clear hc kc
  refine T_op rfl rfl fun kc hc => ?_
  simp; refine hc _ ?_; clear hc kc
  refine T_end (hn _ ?_); clear hn hp kn kp
  refine T_then ?_
  refine T_seq ?_
  refine T_region (is := [0, 1]) rfl fun kn kp hn hp => ?_
  refine T_op rfl rfl fun kc hc => ?_
  simp; refine hc _ ?_; clear hc kc
  refine T_op rfl rfl fun kc hc => ?_
  simp; refine hc _ ?_; clear hc kc
  refine T_end (hn _ ?_); clear hn hp kn kp
  refine T_then ?_
  refine T_seq ?_
  refine T_region (is := [0]) rfl fun kn kp hn hp => ?_
  refine T_op rfl rfl fun kc hc => ?_
  simp; refine hc _ ?_; clear hc kc
  refine T_end (hn _ ?_); clear hn hp kn kp
  refine T_then ?_
  refine T_seq ?_
  refine T_block ?_
  refine T_loop (fun z : List Int × Nat => { sl := [(1, .ptr 0 0), (3, .own 1 1 z.1.length), (4, .dat (iD z.2))], hp := [(0, .var ((catD c).map .dat)), (1, .row 3 1 (z.1.map fun n => [iD n]))], nx := 2 }) (fun z => ListI c z.1 z.2) (muL c) ([], 0) (Ent.sub [1, 3, 4] [0, 1] (by simp [sub, subSl, subHp, place, mp, mpL, mpO, mpG])) (ListI.start c) fun z hz => ?_
  obtain ⟨out, i⟩ := z
  simp only at hz
  have hi0 := hz.le
  have hol : out.length ≤ c.courses.length := nodup_le _ _ hz.nodup hz.range
  have hob : out.length ≤ big := by simp only [big]; omega
  refine T_seq ?_
  refine T_seq ?_
  refine T_region (is := [0, 1, 2, 3, 4]) rfl fun kn kp hn hp => ?_
  refine T_op rfl rfl fun kc hc => ?_
  simp; refine hc _ ?_; clear hc kc
  refine T_op rfl rfl fun kc hc => ?_
  simp; refine hc _ ?_; clear hc kc
  refine T_op rfl rfl fun kc hc => ?_
  simp; refine hc _ ?_; clear hc kc
  refine T_op rfl rfl fun kc hc => ?_
  simp; refine hc _ ?_; clear hc kc
  refine T_op rfl rfl fun kc hc => ?_
  simp; refine hc _ ?_; clear hc kc
  refine T_end (hn _ ?_); clear hn hp kn kp
  refine T_then ?_
  refine T_cond rfl (fun b1 => ?_) (fun b1 => ?_)
  · skip
    have hi : i < c.courses.length := by simpa using b1
    have e1 : IntKind.i64.wrap ((i : Int) + 1) = (i : Int) + 1 := wr1 hi (by omega)
    have e7 : (out.length + 1) * 8 ≤ big := by simp only [big]; omega
    obtain ⟨y, hy⟩ : ∃ y, c.courses[i]? = some y := ⟨_, List.getElem?_eq_getElem hi⟩
    have hym := (hf.need y (List.mem_of_getElem? hy)).1
    have w24 := walk24 c i y hy hym hf.courses
    have hnd : needsAt c i = needsL c (partsOf y.need) := by simp [needsAt, hy]
    have hLl := needsL_len c (partsOf y.need)
    generalize needsL c (partsOf y.need) = L at w24 hnd hLl
    have w74 := walk74 out i (by omega)
    refine T_skip ?_
    refine T_then ?_
    refine T_block ?_
    refine T_seq ?_
    refine T_region (is := [0, 1, 2, 3, 4]) rfl fun kn kp hn hp => ?_
    refine T_op rfl rfl fun kc hc => ?_
    simp; refine hc _ ?_; clear hc kc
    refine T_op rfl rfl fun kc hc => ?_
    simp; refine hc _ ?_; clear hc kc
    refine T_op rfl rfl fun kc hc => ?_
    simp
    refine CallS.lend (w74) (by simp [lendL, lend, Sx.give, giveL, hob]) rfl rfl ?_
    simp [enum]; refine hc _ ?_; clear hc kc
    refine T_op rfl rfl fun kc hc => ?_
    simp; refine hc _ ?_; clear hc kc
    refine T_op rfl rfl fun kc hc => ?_
    simp; refine hc _ ?_; clear hc kc
    refine T_end (hn _ ?_); clear hn hp kn kp
    refine T_then ?_
    refine T_seq ?_
    refine T_region (is := [0, 1, 2, 3]) rfl fun kn kp hn hp => ?_
    refine T_op rfl rfl fun kc hc => ?_
    simp; refine hc _ ?_; clear hc kc
    refine T_op rfl rfl fun kc hc => ?_
    simp; refine hc _ ?_; clear hc kc
    refine T_op rfl rfl fun kc hc => ?_
    simp
    refine CallS.dat (w24) (rfl) rfl rfl rfl ?_
    simp [enum]; refine hc _ ?_; clear hc kc
    refine T_op rfl rfl fun kc hc => ?_
    simp; refine hc _ ?_; clear hc kc
    refine T_end (hn _ ?_); clear hn hp kn kp
    refine T_then ?_
    refine T_seq ?_
    refine T_seq ?_
    refine T_region (is := [0]) rfl fun kn kp hn hp => ?_
    refine T_op rfl rfl fun kc hc => ?_
    simp; refine hc _ ?_; clear hc kc
    refine T_end (hn _ ?_); clear hn hp kn kp
    refine T_then ?_
    refine T_block ?_
    refine T_loop (fun k : Nat => { sl := [(1, .ptr 0 0), (3, .own 1 1 out.length), (4, .dat (iD i)), (5, .dat (bV (!has out i && allH out (L.take k)))), (6, .dat (ints L)), (7, .dat (iD k))], hp := [(0, .var ((catD c).map .dat)), (1, .row 3 1 (out.map fun n => [iD n]))], nx := 2 }) (fun k => k ≤ L.length) (fun k => L.length - k) 0 (Ent.sub [1, 3, 4, 5, 6, 7] [0, 1] (by simp [sub, subSl, subHp, place, mp, mpL, mpO, mpG, allH])) (Nat.zero_le _) fun k hk => ?_
    refine T_seq ?_
    refine T_seq ?_
    refine T_region (is := [0, 1, 2, 3]) rfl fun kn kp hn hp => ?_
    refine T_op rfl rfl fun kc hc => ?_
    simp; refine hc _ ?_; clear hc kc
    refine T_op rfl rfl fun kc hc => ?_
    simp; refine hc _ ?_; clear hc kc
    refine T_op rfl rfl fun kc hc => ?_
    simp; refine hc _ ?_; clear hc kc
    refine T_op rfl rfl fun kc hc => ?_
    simp; refine hc _ ?_; clear hc kc
    refine T_end (hn _ ?_); clear hn hp kn kp
    refine T_then ?_
    refine T_cond rfl (fun b2 => ?_) (fun b2 => ?_)
    · skip
      have hkl : k < L.length := by simpa using b2
      obtain ⟨x, hx⟩ : ∃ x, L[k]? = some x := ⟨_, List.getElem?_eq_getElem hkl⟩
      have e2 : IntKind.i64.wrap ((k : Int) + 1) = (k : Int) + 1 := wr1 hkl (by omega)
      refine T_skip ?_
      refine T_then ?_
      refine T_seq ?_
      refine T_block ?_
      refine T_region (is := [0, 1, 2, 3, 4, 5, 6, 7, 8, 9]) rfl fun kn kp hn hp => ?_
      refine T_op rfl rfl fun kc hc => ?_
      simp; refine hc _ ?_; clear hc kc
      refine T_op rfl rfl fun kc hc => ?_
      simp; refine hc _ ?_; clear hc kc
      refine T_pure rfl (pstep_one rfl rfl rfl rfl fun g0 => .op rfl (by simp [g0]; rfl)) fun kc hc => ?_
      simp; refine hc _ ?_; clear hc kc
      refine T_pure rfl (pstep_one rfl rfl rfl rfl fun g0 => .op rfl (by simp [g0]; rfl)) fun kc hc => ?_
      simp; refine hc _ ?_; clear hc kc
      refine T_pure rfl (pstep_one rfl rfl rfl rfl fun g0 => .op rfl (by simp [g0]; rfl)) fun kc hc => ?_
      simp; refine hc _ ?_; clear hc kc
      refine T_pure rfl (pstep_one rfl rfl rfl rfl fun g0 => .op rfl (by simp [g0, hx]; rfl)) fun kc hc => ?_
      simp; refine hc _ ?_; clear hc kc
      refine T_pure rfl (pstep_one rfl rfl rfl rfl fun g0 => .op rfl (by simp [g0, hx]; rfl)) fun kc hc => ?_
      simp; refine hc _ ?_; clear hc kc
      refine T_pure rfl (pstep_one rfl rfl rfl rfl fun g0 => .lend (by simp [g0] <;> first | exact ⟨rfl, rfl⟩ | rfl) (by exact walk74 out x (by omega)) (by simp [lendL, lend, Sx.give, giveL, hob]) (by rfl)) fun kc hc => ?_
      simp; refine hc _ ?_; clear hc kc
      refine T_op rfl rfl fun kc hc => ?_
      simp; refine hc _ ?_; clear hc kc
      refine T_op rfl rfl fun kc hc => ?_
      simp; refine hc _ ?_; clear hc kc
      refine T_end (hn _ ?_); clear hn hp kn kp
      refine X_blockN ?_
      refine T_then ?_
      refine T_region (is := [0, 1, 2]) rfl fun kn kp hn hp => ?_
      refine T_op rfl rfl fun kc hc => ?_
      simp; refine hc _ ?_; clear hc kc
      refine T_op rfl rfl fun kc hc => ?_
      simp [e2]; refine hc _ ?_; clear hc kc
      refine T_op rfl rfl fun kc hc => ?_
      simp; refine hc _ ?_; clear hc kc
      refine T_end (hn _ ?_); clear hn hp kn kp
      exact X_loopN (k + 1) (Ent.sub [1, 3, 4, 5, 6, 7] [0, 1] (by simp [sub, subSl, subHp, place, mp, mpL, mpO, mpG, e2, allH_next hx, Bool.and_assoc])) hkl (by omega)
    · skip
      have hke : k = L.length := by simp at b2; omega
      subst hke
      refine T_exit ?_
      refine X_thenE ?_
      refine X_loopE ?_
      refine X_hit ?_
      refine T_then ?_
      refine T_seq ?_
      refine T_region (is := [0]) rfl fun kn kp hn hp => ?_
      refine T_op rfl rfl fun kc hc => ?_
      simp; refine hc _ ?_; clear hc kc
      refine T_end (hn _ ?_); clear hn hp kn kp
      refine T_then ?_
      refine T_cond rfl (fun b3 => ?_) (fun b3 => ?_)
      · skip
        have hr : readyB c out i = true := by rw [readyB, hnd, Bool.and_comm]; simpa using b3
        refine T_seq ?_
        refine T_region (is := [0, 1, 2, 3, 4]) rfl fun kn kp hn hp => ?_
        refine T_op rfl rfl fun kc hc => ?_
        simp; refine hc _ ?_; clear hc kc
        refine T_op rfl rfl fun kc hc => ?_
        simp; refine hc _ ?_; clear hc kc
        refine T_op rfl rfl fun kc hc => ?_
        simp; refine hc _ ?_; clear hc kc
        refine T_op rfl rfl fun kc hc => ?_
        simp [e7]; refine hc _ ?_; clear hc kc
        refine T_op rfl rfl fun kc hc => ?_
        simp; refine hc _ ?_; clear hc kc
        refine T_end (hn _ ?_); clear hn hp kn kp
        refine T_then ?_
        refine T_region (is := [0]) rfl fun kn kp hn hp => ?_
        refine T_op rfl rfl fun kc hc => ?_
        simp; refine hc _ ?_; clear hc kc
        refine T_end (hn _ ?_); clear hn hp kn kp
        refine X_blockN ?_
        exact X_loopN (out ++ [(i : Int)], 0) (Ent.sub [1, 3, 4] [0, 3] (by simp [sub, subSl, subHp, place, mp, mpL, mpO, mpG])) (hz.yes hi hr) (muL_yes hi (hz.lt hi hr))
      · skip
        have hr : readyB c out i = false := by rw [readyB, hnd, Bool.and_comm]; simpa using b3
        refine T_region (is := [0, 1, 2]) rfl fun kn kp hn hp => ?_
        refine T_op rfl rfl fun kc hc => ?_
        simp; refine hc _ ?_; clear hc kc
        refine T_op rfl rfl fun kc hc => ?_
        simp [e1]; refine hc _ ?_; clear hc kc
        refine T_op rfl rfl fun kc hc => ?_
        simp; refine hc _ ?_; clear hc kc
        refine T_end (hn _ ?_); clear hn hp kn kp
        refine X_blockN ?_
        exact X_loopN (out, i + 1) (Ent.sub [1, 3, 4] [0, 1] (by simp [sub, subSl, subHp, place, mp, mpL, mpO, mpG, e1])) (hz.no hi hr) (muL_no hi)
  · skip
    have hie : i = c.courses.length := by simp at b1; omega
    subst hie
    have hdone := hz.done
    refine T_exit ?_
    refine X_thenE ?_
    refine X_loopE ?_
    refine X_hit ?_
    refine T_then ?_
    refine T_seq ?_
    refine T_region (is := [0, 1]) rfl fun kn kp hn hp => ?_
    refine T_op rfl rfl fun kc hc => ?_
    simp; refine hc _ ?_; clear hc kc
    refine T_op rfl rfl fun kc hc => ?_
    simp; refine hc _ ?_; clear hc kc
    refine T_end (hn _ ?_); clear hn hp kn kp
    refine T_then ?_
    refine T_ret ?_
    exact finI (Ent.give (t := 2) (n := 9) (e := ints (listOf c)) (hp' := [(0, .var ((catD c).map .dat))]) rfl (by simp [Sx.give, hdone, hob])) (by simp [resD, resL, resV]; rfl) (Ent.sub [] [] (by simp [sub, subSl, subHp, place, mp, mpL, mpO, mpG]; rfl)) rfl rfl (by simp)
-- END

end Go.Proofs.Ytbkkekbeaabokaa
