/- The names: the listing. -/
import Derived.Test.YtbkkekbeaabokaaNc
set_option linter.unusedVariables false
set_option linter.unusedSimpArgs false
namespace Go.Proofs.Ytbkkekbeaabokaa
open Go Go.Proofs.Ytbkkekbeaabokaa.Sx

-- WALK 83
-- sizar/names.listed$1
theorem walk83 (c : Cat) (out : List Int) (i : Nat) (hi : i < c.courses.length) (hf : c.fit) : Does Try.prog 83 [iD i, .ref (catD c), .ref [bools (isOf c out)]] (.dat (bV (readyB c out i))) [] := by
  obtain ⟨y, hy⟩ : ∃ y, c.courses[i]? = some y := ⟨_, List.getElem?_eq_getElem hi⟩
  have hnd : needsAt c i = needsL c (partsOf y.need) := by simp [needsAt, hy]
  have w84 := walk84 c i y hy (hf.need y (List.mem_of_getElem? hy)).1 hf.courses
  obtain ⟨L, hL⟩ : ∃ L, L = needsL c (partsOf y.need) := ⟨_, rfl⟩
  rw [← hL] at w84 hnd
  refine Does.intro [.cell 4 4] Try.func83 rfl (by kernel_rfl) Try.ntmps83 rfl (Nat.le_of_ble_eq_true rfl) ?_
  refine T_seq ?_
  refine T_region (is := [0]) rfl fun kn kp hn hp => ?_
  refine T_op rfl rfl fun kc hc => ?_
  simp; refine hc _ ?_; clear hc kc
  refine T_end (hn _ ?_); clear hn hp kn kp
  refine T_then ?_
  refine T_seq ?_
  refine T_seq ?_
  refine T_region (is := [0, 1, 2]) rfl fun kn kp hn hp => ?_
  refine T_op rfl rfl fun kc hc => ?_
  simp; refine hc _ ?_; clear hc kc
  refine T_op rfl rfl fun kc hc => ?_
  simp; refine hc _ ?_; clear hc kc
  refine T_op rfl rfl fun kc hc => ?_
  simp
  refine CallS.dat (walk72 c i) (rfl) rfl rfl rfl ?_
  simp [enum]; refine hc _ ?_; clear hc kc
  refine T_end (hn _ ?_); clear hn hp kn kp
  refine T_then ?_
  refine T_block ?_
  refine T_rangeA (w84) 0 (fun _ _ => { sl := [(0, .dat (iD i)), (1, .dat (.ref (catD c))), (2, .dat (.ref [bools (isOf c out)])), (4, .ptr 0 0), (8, .dat (.fn 84 [.ref (catD c), .ref [iD i]]))], hp := [(0, .var [.dat (bV false)])], nx := 1 }) (fun j (_ : Unit) => allH out (L.take j) = true) () (rfl) (Ent.sub [0, 1, 2, 4, 8] [0] (by simp [sub, subSl, subHp, place, mp, mpL, mpO, mpG])) rfl (by intro i x h; simp at h; obtain ⟨p, _, rfl⟩ := h; rfl) (by decide) (fun j => [iD (L.getD j 0)]) (weak_ints L) (fun _ _ => rfl) (fun j xe hxe u hu l => ?_) fun u hu => ?_
  · skip
    obtain ⟨n, hn, rfl⟩ : ∃ n, L[j]? = some n ∧ xe = [iD n] := by simp at hxe; obtain ⟨p, h1, h2⟩ := hxe; exact ⟨p, h1, h2.symm⟩
    obtain ⟨k, rfl, hk⟩ : ∃ k : Nat, n = (k : Int) ∧ k < c.courses.length := needsL_range (hL ▸ List.mem_of_getElem? hn)
    have hkg := isOf_get (out := out) hk
    simp [rst, parSl, shiftG, hn]
    refine T_region (is := [0]) rfl fun kn kp hn hp => ?_
    refine T_op rfl rfl fun kc hc => ?_
    simp; refine hc _ ?_; clear hc kc
    refine T_end (hn _ ?_); clear hn hp kn kp
    refine T_then ?_
    refine T_block ?_
    refine T_seq ?_
    refine T_region (is := [0, 1, 2, 3, 4]) rfl fun kn kp hn hp => ?_
    refine T_op rfl rfl fun kc hc => ?_
    simp; refine hc _ ?_; clear hc kc
    refine T_op rfl rfl fun kc hc => ?_
    simp; refine hc _ ?_; clear hc kc
    refine T_op rfl rfl fun kc hc => ?_
    simp [hkg]; refine hc _ ?_; clear hc kc
    refine T_op rfl rfl fun kc hc => ?_
    simp [hkg]; refine hc _ ?_; clear hc kc
    refine T_op rfl rfl fun kc hc => ?_
    simp; refine hc _ ?_; clear hc kc
    refine T_end (hn _ ?_); clear hn hp kn kp
    refine T_then ?_
    refine T_cond rfl (fun b1 => ?_) (fun b1 => ?_)
    · skip
      have hb : has out (k : Int) = false := by simpa using b1
      refine T_seq ?_
      refine T_region (is := [0]) rfl fun kn kp hn hp => ?_
      refine T_op rfl rfl fun kc hc => ?_
      simp; refine hc _ ?_; clear hc kc
      refine T_end (hn _ ?_); clear hn hp kn kp
      refine T_then ?_
      refine T_ret ?_
      refine X_blockR ?_
      refine ⟨{ sl := [(0, .dat (iD i)), (1, .dat (.ref (catD c))), (2, .dat (.ref [bools (isOf c out)])), (4, .ptr 0 0), (8, .dat (.fn 84 [.ref (catD c), .ref [iD i]]))], hp := [(0, .var [.dat (bV false)])], nx := 1 }, ⟨_, Ent.sub [0, 1, 2, 4] [0] (by simp [sub, subSl, subHp, place, mp, mpL, mpO, mpG]; rfl), ?_⟩, ?_⟩
      · exact ⟨rfl, rfl, rfl, by simp [Has, shiftG, lk], by simp [Has, shiftG, lk], rfl, rfl⟩
      refine X_blockR ?_
      refine X_thenR ?_
      exact finI (Ent.refl _) (by simp [resD, resL, resV]; rfl) (Ent.sub [] [] (by simp [sub, subSl, subHp, place, mp, mpL, mpO, mpG]; rfl)) rfl rfl (by simp [readyB, hnd, allH_off hn hb])
    · skip
      have hb : has out (k : Int) = true := by simpa using b1
      refine T_skip ?_
      refine X_blockN ?_
      refine ⟨(), (by show allH out (L.take (j + 1)) = true; rw [allH_next hn, hu, hb]; rfl), _, Ent.sub [0, 1, 2, 4] [0] (by simp [sub, subSl, subHp, place, mp, mpL, mpO, mpG]; rfl), ?_⟩
      exact ⟨rfl, rfl, rfl, by simp [Has, shiftG, lk], by simp [Has, shiftG, lk], rfl, rfl⟩
  · skip
    have hall : allH out L = true := by simpa using hu
    have hig := isOf_get (out := out) hi
    refine X_blockN ?_
    refine T_then ?_
    refine T_seq ?_
    refine T_region (is := [0, 1, 2, 3, 4, 5]) rfl fun kn kp hn hp => ?_
    refine T_op rfl rfl fun kc hc => ?_
    simp; refine hc _ ?_; clear hc kc
    refine T_op rfl rfl fun kc hc => ?_
    simp; refine hc _ ?_; clear hc kc
    refine T_op rfl rfl fun kc hc => ?_
    simp [hig]; refine hc _ ?_; clear hc kc
    refine T_op rfl rfl fun kc hc => ?_
    simp; refine hc _ ?_; clear hc kc
    refine T_op rfl rfl fun kc hc => ?_
    simp; refine hc _ ?_; clear hc kc
    refine T_op rfl rfl fun kc hc => ?_
    simp; refine hc _ ?_; clear hc kc
    refine T_end (hn _ ?_); clear hn hp kn kp
    refine T_then ?_
    refine T_ret ?_
    exact finI (Ent.refl _) (by simp [resD, resL, resV]; rfl) (Ent.sub [] [] (by simp [sub, subSl, subHp, place, mp, mpL, mpO, mpG]; rfl)) rfl rfl (by simp [readyB, hnd, hall])
-- END
-- WALK 68
-- sizar/names.listed
theorem walk68 (c : Cat) (hf : c.fit) : Does Try.prog 68 [.agg (catD c)] (.dat (.tup [ints (listOf c), bools (isOf c (listOf c))])) [] := by
  have hn := hf.courses
  have e2 : c.courses.length ≤ big := by simp only [big]; omega
  have e3 : (c.courses.length : Int) ≤ 4611686018427387904 := by omega
  refine Does.intro [.tmp 2, .cell 3 112] Try.func68 rfl (by kernel_rfl) Try.ntmps68 rfl (Nat.le_of_ble_eq_true rfl) ?_
  refine T_seq ?_
  refine T_region (is := [0, 1, 2]) rfl fun kn kp hn hp => ?_
  refine T_op rfl rfl fun kc hc => ?_
  simp; refine hc _ ?_; clear hc kc
  refine T_op rfl rfl fun kc hc => ?_
  simp; refine hc _ ?_; clear hc kc
  refine T_op rfl rfl fun kc hc => ?_
  simp; refine hc _ ?_; clear hc kc
  refine T_end (hn _ ?_); clear hn hp kn kp
  refine T_then ?_
  refine T_seq ?_
  refine T_region (is := [0, 1, 2, 3, 4]) rfl fun kn kp hn hp => ?_
  refine T_op rfl rfl fun kc hc => ?_
  simp; refine hc _ ?_; clear hc kc
  refine T_op rfl rfl fun kc hc => ?_
  simp; refine hc _ ?_; clear hc kc
  refine T_op rfl rfl fun kc hc => ?_
  simp; refine hc _ ?_; clear hc kc
  refine T_op rfl rfl fun kc hc => ?_
  simp [e2, e3]; refine hc _ ?_; clear hc kc
  refine T_op rfl rfl fun kc hc => ?_
  simp; refine hc _ ?_; clear hc kc
  refine T_end (hn _ ?_); clear hn hp kn kp
  refine T_then ?_
  refine T_seq ?_
  refine T_region (is := [0, 1]) rfl fun kn kp hn hp => ?_
  refine T_op rfl rfl fun kc hc => ?_
  simp; refine hc _ ?_; clear hc kc
  refine T_op rfl rfl fun kc hc => ?_
  simp; refine hc _ ?_; clear hc kc
  refine T_end (hn _ ?_); clear hn hp kn kp
  refine T_then ?_
  refine T_seq ?_
  refine T_seq ?_
  refine T_region (is := [0]) rfl fun kn kp hn hp => ?_
  refine T_op rfl rfl fun kc hc => ?_
  simp; refine hc _ ?_; clear hc kc
  refine T_end (hn _ ?_); clear hn hp kn kp
  refine T_then ?_
  refine T_block ?_
  refine T_loop (fun z : List Int × Nat => { sl := [(1, .ptr 0 0), (2, .own 3 1 z.1.length), (3, .ptr 1 0), (4, .fn 83 [.ptr 0 0, .ptr 1 0]), (5, .dat (iD z.2))], hp := [(0, .var ((catD c).map .dat)), (1, .var [.own 2 1 c.courses.length]), (2, .row 4 1 ((isOf c z.1).map fun b => [bV b])), (3, .row 3 1 (z.1.map fun n => [iD n]))], nx := 4 }) (fun z => ListI c z.1 z.2) (muL c) ([], 0) (Ent.trans (Ent.nil (t := 2) 3 1 rfl) (Ent.sub [1, 2, 3, 4, 5] [0, 1, 2, 3] (by simp [sub, subSl, subHp, place, mp, mpL, mpO, mpG, isOf_nil]))) (ListI.start c) fun z hz => ?_
  obtain ⟨out, i⟩ := z
  simp only at hz
  have hi0 := hz.le
  have hol : out.length ≤ c.courses.length := nodup_le _ _ hz.nodup hz.range
  have hob : out.length ≤ big := by simp only [big]; omega
  have hcb : c.courses.length ≤ big := by simp only [big]; omega
  have hil := isOf_len c out
  have htk : ∀ f : Bool → List Dat, List.take c.courses.length ((isOf c out).map f) = (isOf c out).map f := fun f => List.take_of_length_le (by simp [isOf_len])
  refine T_seq ?_
  refine T_seq ?_
  refine T_region (is := [0, 1, 2, 3]) rfl fun kn kp hn hp => ?_
  refine T_op rfl rfl fun kc hc => ?_
  simp; refine hc _ ?_; clear hc kc
  refine T_op rfl rfl fun kc hc => ?_
  simp; refine hc _ ?_; clear hc kc
  refine T_op rfl rfl fun kc hc => ?_
  simp [hil]; refine hc _ ?_; clear hc kc
  refine T_op rfl rfl fun kc hc => ?_
  simp; refine hc _ ?_; clear hc kc
  refine T_end (hn _ ?_); clear hn hp kn kp
  refine T_then ?_
  refine T_cond rfl (fun b1 => ?_) (fun b1 => ?_)
  · skip
    have hi : i < c.courses.length := by simpa using b1
    have e1 : IntKind.i64.wrap ((i : Int) + 1) = (i : Int) + 1 := wr1 hi (by omega)
    have e7 : (out.length + 1) * 8 ≤ big := by simp only [big]; omega
    have w83 := walk83 c out i hi hf
    have hig := isOf_get (out := out) hi
    refine T_skip ?_
    refine T_then ?_
    refine T_seq ?_
    refine T_block ?_
    refine T_seq ?_
    refine T_region (is := [0, 1, 2]) rfl fun kn kp hn hp => ?_
    refine T_op rfl rfl fun kc hc => ?_
    simp; refine hc _ ?_; clear hc kc
    refine T_op rfl rfl fun kc hc => ?_
    simp; refine hc _ ?_; clear hc kc
    refine T_op rfl rfl fun kc hc => ?_
    simp
    refine CallS.lend (w83) (by simp [lendL, lend, Sx.give, giveL, hcb, hil, htk]) rfl rfl ?_
    simp [enum]; refine hc _ ?_; clear hc kc
    refine T_end (hn _ ?_); clear hn hp kn kp
    refine T_then ?_
    refine T_cond rfl (fun b2 => ?_) (fun b2 => ?_)
    · skip
      have hr : readyB c out i = true := by simpa using b2
      refine T_seqDraw (is := [0, 1, 2, 3, 4, 5, 6, 7, 8]) rfl (by kernel_rfl) fun kn hn => ?_
      refine D_op rfl rfl rfl rfl fun kc hc => ?_
      simp; refine hc _ ?_; clear hc kc
      refine D_op rfl rfl rfl rfl fun kc hc => ?_
      simp; refine hc _ ?_; clear hc kc
      refine D_op rfl rfl rfl rfl fun kc hc => ?_
      simp; refine hc _ ?_; clear hc kc
      refine D_op rfl rfl rfl rfl fun kc hc => ?_
      simp; refine hc _ ?_; clear hc kc
      refine D_eff [4] rfl rfl rfl fun kc hc => ?_
      simp
      refine hc _ (fun b hb => by simp at hb; simp [lk, hb]) ?_; clear hc kc
      refine D_eff [3, 5] rfl rfl rfl fun kc hc => ?_
      simp [e7]
      refine hc _ (fun b hb => by simp at hb; simp [lk, hb]) ?_; clear hc kc
      refine D_op rfl rfl rfl rfl fun kc hc => ?_
      simp; refine hc _ ?_; clear hc kc
      refine D_op rfl rfl rfl rfl fun kc hc => ?_
      simp [hi, hil]; refine hc _ ?_; clear hc kc
      refine D_eff [2] rfl rfl rfl fun kc hc => ?_
      simp [hi, hil]
      refine hc _ (fun b hb => by simp at hb; simp [lk, hb]) ?_; clear hc kc
      refine D_end rfl (by kernel_rfl) (hn _ ?_); clear hn kn
      refine T_region (is := [0]) rfl fun kn kp hn hp => ?_
      refine T_op rfl rfl fun kc hc => ?_
      simp; refine hc _ ?_; clear hc kc
      refine T_end (hn _ ?_); clear hn hp kn kp
      refine X_blockN ?_
      refine T_then ?_
      refine T_region (is := [0, 1, 2]) rfl fun kn kp hn hp => ?_
      refine T_op rfl rfl fun kc hc => ?_
      simp; refine hc _ ?_; clear hc kc
      refine T_op rfl rfl fun kc hc => ?_
      simp [e1, wr0]; refine hc _ ?_; clear hc kc
      refine T_op rfl rfl fun kc hc => ?_
      simp; refine hc _ ?_; clear hc kc
      refine T_end (hn _ ?_); clear hn hp kn kp
      exact X_loopN (out ++ [(i : Int)], 0) (Ent.sub [1, 2, 3, 4, 5] [0, 1, 2, 5] (by simp [sub, subSl, subHp, place, mp, mpL, mpO, mpG, isOf_set hi, List.map_set, ← List.map_set])) (hz.yes hi hr) (muL_yes hi (hz.lt hi hr))
    · skip
      have hr : readyB c out i = false := by simpa using b2
      refine T_skip ?_
      refine X_blockN ?_
      refine T_then ?_
      refine T_region (is := [0, 1, 2]) rfl fun kn kp hn hp => ?_
      refine T_op rfl rfl fun kc hc => ?_
      simp; refine hc _ ?_; clear hc kc
      refine T_op rfl rfl fun kc hc => ?_
      simp [e1, wr0]; refine hc _ ?_; clear hc kc
      refine T_op rfl rfl fun kc hc => ?_
      simp; refine hc _ ?_; clear hc kc
      refine T_end (hn _ ?_); clear hn hp kn kp
      exact X_loopN (out, i + 1) (Ent.sub [1, 2, 3, 4, 5] [0, 1, 2, 3] (by simp [sub, subSl, subHp, place, mp, mpL, mpO, mpG, e1])) (hz.no hi hr) (muL_no hi)
  · skip
    have hie : i = c.courses.length := by simp at b1; omega
    subst hie
    have hdone := hz.done
    refine T_exit ?_
    refine X_thenE ?_
    refine X_loopE ?_
    refine X_hit ?_
    refine T_then ?_
    refine T_seqDraw (is := [0, 1, 2, 3]) rfl (by kernel_rfl) fun kn hn => ?_
    refine D_op rfl rfl rfl rfl fun kc hc => ?_
    simp; refine hc _ ?_; clear hc kc
    refine D_op rfl rfl rfl rfl fun kc hc => ?_
    simp; refine hc _ ?_; clear hc kc
    refine D_op rfl rfl rfl rfl fun kc hc => ?_
    simp; refine hc _ ?_; clear hc kc
    refine D_eff [] rfl rfl rfl fun kc hc => ?_
    simp
    refine hc _ (fun b hb => by simp at hb; simp [lk, hb]) ?_; clear hc kc
    refine D_end rfl (by kernel_rfl) (hn _ ?_); clear hn kn
    refine T_ret ?_
    exact finI (Ent.refl _) (by simp [resD, resL, resV]; rfl) (Ent.trans (Ent.giveG (t := 0) (n := 40) (e := .tup [ints (listOf c), bools (isOf c (listOf c))]) (hp' := _) rfl (by simp [Sx.give, giveL, hdone, hob, hcb, hil, htk]; rfl)) (Ent.sub [] [] (by simp [sub, subSl, subHp, place, mp, mpL, mpO, mpG]; rfl))) rfl rfl (by simp)
-- END

end Go.Proofs.Ytbkkekbeaabokaa
