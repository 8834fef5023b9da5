/- The names: the parts of a rule, and what a course needs. -/
import Derived.Test.YtbkkekbeaabokaaNb
set_option linter.unusedVariables false
set_option linter.unusedSimpArgs false
namespace Go.Proofs.Ytbkkekbeaabokaa
open Go Go.Proofs.Ytbkkekbeaabokaa.Sx

-- WALK 26
-- sizar/sizarref11.parts
theorem step26 (r : Rule) (hr : (partsOf r).length ≤ 1048576) (ih : ∀ x : Rule, (partsOf x).length < (partsOf r).length → Does Try.prog 26 [.agg (ruleD x)] (.dat (.sl 6 ((partsOf x).map ruleD))) []) : Does Try.prog 26 [.agg (ruleD r)] (.dat (.sl 6 ((partsOf r).map ruleD))) [] := by
  have hre : (partsOf r).length = (partsL r.kids).length + 1 := by rw [partsOf_eq]; rfl
  refine Does.intro [.tmp 2] Try.func26 rfl (by kernel_rfl) Try.ntmps26 rfl (Nat.le_of_ble_eq_true rfl) ?_
  refine T_seq ?_
  refine T_region (is := [0, 1]) rfl fun kn kp hn hp => ?_
  refine T_op rfl rfl fun kc hc => ?_
  simp; refine hc _ ?_; clear hc kc
  refine T_op rfl rfl fun kc hc => ?_
  simp; refine hc _ ?_; clear hc kc
  refine T_end (hn _ ?_); clear hn hp kn kp
  refine T_then ?_
  refine T_seq ?_
  refine T_region (is := [0, 1, 2]) rfl fun kn kp hn hp => ?_
  refine T_op rfl rfl fun kc hc => ?_
  simp; refine hc _ ?_; clear hc kc
  refine T_op rfl rfl fun kc hc => ?_
  simp; refine hc _ ?_; clear hc kc
  refine T_op rfl rfl fun kc hc => ?_
  simp; refine hc _ ?_; clear hc kc
  refine T_end (hn _ ?_); clear hn hp kn kp
  refine T_then ?_
  refine T_seq ?_
  refine T_seq ?_
  refine T_region (is := [0]) rfl fun kn kp hn hp => ?_
  refine T_op rfl rfl fun kc hc => ?_
  simp; refine hc _ ?_; clear hc kc
  refine T_end (hn _ ?_); clear hn hp kn kp
  refine T_then ?_
  refine T_block ?_
  refine T_loop (fun z : Nat => { sl := [(1, .ptr 0 0), (3, .own 1 6 ((partsL (r.kids.take z)).length + 1)), (4, .dat (iD z))], hp := [(0, .var ((ruleD r).map .dat)), (1, .row 39 6 ((r :: partsL (r.kids.take z)).map ruleD))], nx := 2 }) (fun z => z ≤ r.kids.length) (fun z => r.kids.length - z) 0 (Ent.sub [1, 3, 4] [0, 1] (by simp [sub, subSl, subHp, place, mp, mpL, mpO, mpG, partsL])) (Nat.zero_le _) fun z hz => ?_
  refine T_seq ?_
  refine T_seq ?_
  refine T_region (is := [0, 1, 2, 3, 4]) rfl fun kn kp hn hp => ?_
  refine T_op rfl rfl fun kc hc => ?_
  simp; refine hc _ ?_; clear hc kc
  refine T_op rfl rfl fun kc hc => ?_
  simp; refine hc _ ?_; clear hc kc
  refine T_op rfl rfl fun kc hc => ?_
  simp; refine hc _ ?_; clear hc kc
  refine T_op rfl rfl fun kc hc => ?_
  simp; refine hc _ ?_; clear hc kc
  refine T_op rfl rfl fun kc hc => ?_
  simp; refine hc _ ?_; clear hc kc
  refine T_end (hn _ ?_); clear hn hp kn kp
  refine T_then ?_
  refine T_cond rfl (fun b1 => ?_) (fun b1 => ?_)
  · skip
    have hz' : z < r.kids.length := by simpa using b1
    obtain ⟨x, hx⟩ : ∃ x, r.kids[z]? = some x := ⟨_, List.getElem?_eq_getElem hz'⟩
    have hkx := kids_get hx
    have hpl := partsL_len hx
    have hkl := kids_le r.kids
    have e1 : IntKind.i64.wrap ((z : Int) + 1) = (z : Int) + 1 := wr1 hz' (by omega)
    have hpn := partsL_next hx
    have e7 : ((partsL (r.kids.take z)).length + 1 + (partsOf x).length) * 72 ≤ big := by simp only [big]; omega
    have hlt : (partsOf x).length < (partsOf r).length := by omega
    refine T_skip ?_
    refine T_then ?_
    refine T_seq ?_
    refine T_block ?_
    refine T_region (is := [0, 1, 2, 3, 4, 5, 6, 7, 8]) rfl fun kn kp hn hp => ?_
    refine T_op rfl rfl fun kc hc => ?_
    simp; refine hc _ ?_; clear hc kc
    refine T_op rfl rfl fun kc hc => ?_
    simp; refine hc _ ?_; clear hc kc
    refine T_op rfl rfl fun kc hc => ?_
    simp; refine hc _ ?_; clear hc kc
    refine T_op rfl rfl fun kc hc => ?_
    simp; refine hc _ ?_; clear hc kc
    refine T_op rfl rfl fun kc hc => ?_
    simp [hkx]; refine hc _ ?_; clear hc kc
    refine T_op rfl rfl fun kc hc => ?_
    simp; refine hc _ ?_; clear hc kc
    refine T_op rfl rfl fun kc hc => ?_
    simp
    refine CallS.dat (ih x hlt) (rfl) rfl rfl rfl ?_
    simp [enum]; refine hc _ ?_; clear hc kc
    refine T_op rfl rfl fun kc hc => ?_
    simp [e7]; refine hc _ ?_; clear hc kc
    refine T_op rfl rfl fun kc hc => ?_
    simp; refine hc _ ?_; clear hc kc
    refine T_end (hn _ ?_); clear hn hp kn kp
    refine X_blockN ?_
    refine T_then ?_
    refine T_region (is := [0, 1, 2]) rfl fun kn kp hn hp => ?_
    refine T_op rfl rfl fun kc hc => ?_
    simp; refine hc _ ?_; clear hc kc
    refine T_op rfl rfl fun kc hc => ?_
    simp [e1]; refine hc _ ?_; clear hc kc
    refine T_op rfl rfl fun kc hc => ?_
    simp; refine hc _ ?_; clear hc kc
    refine T_end (hn _ ?_); clear hn hp kn kp
    exact X_loopN (z + 1) (Ent.sub [1, 3, 4] [0, 2] (by simp [sub, subSl, subHp, place, mp, mpL, mpO, mpG, e1, hpn, List.length_append]; omega)) hz' (by omega)
  · skip
    have hz' : z = r.kids.length := by simp at b1; omega
    subst hz'
    have hb : (partsL r.kids).length + 1 ≤ big := by simp only [big]; omega
    refine T_exit ?_
    refine X_thenE ?_
    refine X_loopE ?_
    refine X_hit ?_
    refine T_then ?_
    refine T_seq ?_
    refine T_region (is := [0, 1]) rfl fun kn kp hn hp => ?_
    refine T_op rfl rfl fun kc hc => ?_
    simp; refine hc _ ?_; clear hc kc
    refine T_op rfl rfl fun kc hc => ?_
    simp; refine hc _ ?_; clear hc kc
    refine T_end (hn _ ?_); clear hn hp kn kp
    refine T_then ?_
    refine T_ret ?_
    exact finI (Ent.give (t := 2) (n := 9) (e := .sl 6 ((partsOf r).map ruleD)) (hp' := [(0, .var ((ruleD r).map .dat))]) rfl (by simp [Sx.give, hb, partsOf_eq])) (by simp [resD, resL, resV]; rfl) (Ent.sub [] [] (by simp [sub, subSl, subHp, place, mp, mpL, mpO, mpG]; rfl)) rfl rfl (by simp)
-- END
theorem walk26 (r : Rule) (hr : (partsOf r).length ≤ 1048576) : Does Try.prog 26 [.agg (ruleD r)] (.dat (.sl 6 ((partsOf r).map ruleD))) [] := by
  obtain ⟨n, hn⟩ : ∃ n, (partsOf r).length = n := ⟨_, rfl⟩
  induction n using Nat.strongRecOn generalizing r with
  | ind n ih => exact step26 r hr fun x hx => ih _ (by omega) x (by omega) rfl
-- WALK 24
-- sizar/sizarref11.Needs
theorem walk24 (c : Cat) (i : Nat) (y : Course) (hy : c.courses[i]? = some y) (hp : (partsOf y.need).length ≤ 1048576) (hl : c.courses.length ≤ 1048576) : Does Try.prog 24 [.agg (catD c), iD i] (.dat (ints (needsL c (partsOf y.need)))) [] := by
  have w26 := walk26 y.need hp
  generalize partsOf y.need = l at *
  refine Does.intro [.tmp 4] Try.func24 rfl (by kernel_rfl) Try.ntmps24 rfl (Nat.le_of_ble_eq_true rfl) ?_
  refine T_seq ?_
  refine T_region (is := [0, 1]) rfl fun kn kp hn hp => ?_
  refine T_op rfl rfl fun kc hc => ?_
  simp; refine hc _ ?_; clear hc kc
  refine T_op rfl rfl fun kc hc => ?_
  simp; refine hc _ ?_; clear hc kc
  refine T_end (hn _ ?_); clear hn hp kn kp
  refine T_then ?_
  refine T_seq ?_
  refine T_region (is := [0, 1]) rfl fun kn kp hn hp => ?_
  refine T_op rfl rfl fun kc hc => ?_
  simp; refine hc _ ?_; clear hc kc
  refine T_op rfl rfl fun kc hc => ?_
  simp; refine hc _ ?_; clear hc kc
  refine T_end (hn _ ?_); clear hn hp kn kp
  refine T_then ?_
  refine T_seq ?_
  refine T_region (is := [0, 1, 2, 3, 4, 5, 6, 7]) rfl fun kn kp hn hp => ?_
  refine T_op rfl rfl fun kc hc => ?_
  simp; refine hc _ ?_; clear hc kc
  refine T_op rfl rfl fun kc hc => ?_
  simp; refine hc _ ?_; clear hc kc
  refine T_op rfl rfl fun kc hc => ?_
  simp; refine hc _ ?_; clear hc kc
  refine T_op rfl rfl fun kc hc => ?_
  simp [hy]; refine hc _ ?_; clear hc kc
  refine T_op rfl rfl fun kc hc => ?_
  simp; refine hc _ ?_; clear hc kc
  refine T_op rfl rfl fun kc hc => ?_
  simp; refine hc _ ?_; clear hc kc
  refine T_op rfl rfl fun kc hc => ?_
  simp
  refine CallS.dat (w26) (rfl) rfl rfl rfl ?_
  simp [enum]; refine hc _ ?_; clear hc kc
  refine T_op rfl rfl fun kc hc => ?_
  simp; refine hc _ ?_; clear hc kc
  refine T_end (hn _ ?_); clear hn hp kn kp
  refine T_then ?_
  refine T_seq ?_
  refine T_seq ?_
  refine T_region (is := [0]) rfl fun kn kp hn hp => ?_
  refine T_op rfl rfl fun kc hc => ?_
  simp; refine hc _ ?_; clear hc kc
  refine T_end (hn _ ?_); clear hn hp kn kp
  refine T_then ?_
  refine T_block ?_
  refine T_loop (fun z : Nat => { sl := [(2, .ptr 0 0), (5, .own 1 1 (needsL c (l.take z)).length), (6, .dat (.sl 6 (l.map ruleD))), (7, .dat (iD z))], hp := [(0, .var ((catD c).map .dat)), (1, .row 3 1 ((needsL c (l.take z)).map fun n => [iD n]))], nx := 2 }) (fun z => z ≤ l.length) (fun z => l.length - z) 0 (Ent.sub [2, 5, 6, 7] [0, 1] (by simp [sub, subSl, subHp, place, mp, mpL, mpO, mpG, needsL])) (Nat.zero_le _) fun z hz => ?_
  refine T_seq ?_
  refine T_seq ?_
  refine T_region (is := [0, 1, 2, 3]) rfl fun kn kp hn hp => ?_
  refine T_op rfl rfl fun kc hc => ?_
  simp; refine hc _ ?_; clear hc kc
  refine T_op rfl rfl fun kc hc => ?_
  simp; refine hc _ ?_; clear hc kc
  refine T_op rfl rfl fun kc hc => ?_
  simp; refine hc _ ?_; clear hc kc
  refine T_op rfl rfl fun kc hc => ?_
  simp; refine hc _ ?_; clear hc kc
  refine T_end (hn _ ?_); clear hn hp kn kp
  refine T_then ?_
  refine T_cond rfl (fun b1 => ?_) (fun b1 => ?_)
  · skip
    have hz' : z < l.length := by simpa using b1
    obtain ⟨x, hx⟩ : ∃ x, l[z]? = some x := ⟨_, List.getElem?_eq_getElem hz'⟩
    have e1 : IntKind.i64.wrap ((z : Int) + 1) = (z : Int) + 1 := wr1 hz' (by omega)
    have hnl := needsL_len c (l.take z)
    simp at hnl
    have hnx := needsL_next (c := c) hx
    have e7 : ((needsL c (l.take z)).length + 1) * 8 ≤ big := by simp only [big]; omega
    refine T_skip ?_
    refine T_then ?_
    refine T_cut { sl := [(2, .ptr 0 0), (5, .own 1 1 (needsL c (l.take (z + 1))).length), (6, .dat (.sl 6 (l.map ruleD))), (7, .dat (iD z))], hp := [(0, .var ((catD c).map .dat)), (1, .row 3 1 ((needsL c (l.take (z + 1))).map fun n => [iD n]))], nx := 2 } ?_ ?_
    · skip
      refine T_block ?_
      refine T_seq ?_
      refine T_region (is := [0, 1, 2, 3, 4, 5, 6, 7, 8, 9, 10, 11, 12, 13]) rfl fun kn kp hn hp => ?_
      refine T_op rfl rfl fun kc hc => ?_
      simp; refine hc _ ?_; clear hc kc
      refine T_op rfl rfl fun kc hc => ?_
      simp; refine hc _ ?_; clear hc kc
      refine T_op rfl rfl fun kc hc => ?_
      simp [hx]; refine hc _ ?_; clear hc kc
      refine T_op rfl rfl fun kc hc => ?_
      simp; refine hc _ ?_; clear hc kc
      refine T_op rfl rfl fun kc hc => ?_
      simp; refine hc _ ?_; clear hc kc
      refine T_op rfl rfl fun kc hc => ?_
      simp; refine hc _ ?_; clear hc kc
      refine T_op rfl rfl fun kc hc => ?_
      simp; refine hc _ ?_; clear hc kc
      refine T_pure rfl (pstep_one rfl rfl rfl rfl fun g0 => .op rfl (by simp [g0]; rfl)) fun kc hc => ?_
      simp; refine hc _ ?_; clear hc kc
      refine T_pure rfl (pstep_one rfl rfl rfl rfl fun g0 => .op rfl (by simp [g0]; rfl)) fun kc hc => ?_
      simp; refine hc _ ?_; clear hc kc
      refine T_pure rfl (pstep_one rfl rfl rfl rfl fun g0 => .op rfl (by simp [g0, hx]; rfl)) fun kc hc => ?_
      simp; refine hc _ ?_; clear hc kc
      refine T_pure rfl (pstep_one rfl rfl rfl rfl fun g0 => .op rfl (by simp [g0]; rfl)) fun kc hc => ?_
      simp; refine hc _ ?_; clear hc kc
      refine T_pure rfl (pstep_one rfl rfl rfl rfl fun g0 => .op rfl (by simp [g0]; rfl)) fun kc hc => ?_
      simp; refine hc _ ?_; clear hc kc
      refine T_pure rfl (pstep_one rfl rfl rfl rfl fun g0 => .op rfl (by simp [g0]; rfl)) fun kc hc => ?_
      simp; refine hc _ ?_; clear hc kc
      refine T_op rfl rfl fun kc hc => ?_
      simp; refine hc _ ?_; clear hc kc
      refine T_end (hn _ ?_); clear hn hp kn kp
      refine T_then ?_
      refine T_cond rfl (fun b2 => ?_) (fun b2 => ?_)
      · skip
        have ho : (x.op == 5 || x.op == 6) = true := by simpa using b2
        refine T_seqDraw (is := [0, 1, 2, 3, 4, 5, 6, 7, 8, 9, 10, 11, 12]) rfl (by kernel_rfl) fun kn hn => ?_
        refine D_op rfl rfl rfl rfl fun kc hc => ?_
        simp; refine hc _ ?_; clear hc kc
        refine D_op rfl rfl rfl rfl fun kc hc => ?_
        simp; refine hc _ ?_; clear hc kc
        refine D_op rfl rfl rfl rfl fun kc hc => ?_
        simp; refine hc _ ?_; clear hc kc
        refine D_op rfl rfl rfl rfl fun kc hc => ?_
        simp [hx]; refine hc _ ?_; clear hc kc
        refine D_op rfl rfl rfl rfl fun kc hc => ?_
        simp; refine hc _ ?_; clear hc kc
        refine D_op rfl rfl rfl rfl fun kc hc => ?_
        simp; refine hc _ ?_; clear hc kc
        refine D_op rfl rfl rfl rfl fun kc hc => ?_
        simp; refine hc _ ?_; clear hc kc
        refine D_op rfl rfl rfl rfl fun kc hc => ?_
        simp; refine hc _ ?_; clear hc kc
        refine D_op rfl rfl rfl rfl fun kc hc => ?_
        simp [hx]; refine hc _ ?_; clear hc kc
        refine D_op rfl rfl rfl rfl fun kc hc => ?_
        simp; refine hc _ ?_; clear hc kc
        refine D_op rfl rfl rfl rfl fun kc hc => ?_
        simp; refine hc _ ?_; clear hc kc
        refine D_call rfl rfl rfl (by simp <;> first | exact ⟨rfl, rfl⟩ | rfl) (walk78 c x.name x.course (by omega)) (by rfl) rfl fun kc hc => ?_
        simp [enum]; refine hc _ ?_; clear hc kc
        refine D_op rfl rfl rfl rfl fun kc hc => ?_
        simp; refine hc _ ?_; clear hc kc
        refine D_end rfl (by kernel_rfl) (hn _ ?_); clear hn kn
        refine T_seq ?_
        refine T_region (is := [0, 1]) rfl fun kn kp hn hp => ?_
        refine T_op rfl rfl fun kc hc => ?_
        simp; refine hc _ ?_; clear hc kc
        refine T_op rfl rfl fun kc hc => ?_
        simp; refine hc _ ?_; clear hc kc
        refine T_end (hn _ ?_); clear hn hp kn kp
        refine T_then ?_
        refine T_cond rfl (fun b3 => ?_) (fun b3 => ?_)
        · skip
          have hm : 0 ≤ meant c x.name x.course := by simpa using b3
          rw [show need1 c x = some (meant c x.name x.course) by simp only [need1, ho, hm]; rfl, Option.toList_some] at hnx
          refine T_region (is := [0, 1, 2, 3, 4]) rfl fun kn kp hn hp => ?_
          refine T_op rfl rfl fun kc hc => ?_
          simp; refine hc _ ?_; clear hc kc
          refine T_op rfl rfl fun kc hc => ?_
          simp; refine hc _ ?_; clear hc kc
          refine T_op rfl rfl fun kc hc => ?_
          simp; refine hc _ ?_; clear hc kc
          refine T_op rfl rfl fun kc hc => ?_
          simp [e7]; refine hc _ ?_; clear hc kc
          refine T_op rfl rfl fun kc hc => ?_
          simp; refine hc _ ?_; clear hc kc
          refine T_end (hn _ ?_); clear hn hp kn kp
          refine X_blockN ?_
          refine T_then ?_
          exact Ent.sub [2, 5, 6, 7] [0, 3] (by simp [sub, subSl, subHp, place, mp, mpL, mpO, mpG, hnx])
        · skip
          have hm : ¬ 0 ≤ meant c x.name x.course := by simpa using b3
          rw [show need1 c x = none by simp only [need1, ho, hm]; rfl, Option.toList_none, List.append_nil] at hnx
          refine T_skip ?_
          refine X_blockN ?_
          refine T_then ?_
          exact Ent.sub [2, 5, 6, 7] [0, 1] (by simp [sub, subSl, subHp, place, mp, mpL, mpO, mpG, hnx])
      · skip
        have ho : (x.op == 5 || x.op == 6) = false := by simpa using b2
        rw [show need1 c x = none by simp only [need1, ho]; rfl, Option.toList_none, List.append_nil] at hnx
        refine T_skip ?_
        refine X_blockN ?_
        refine T_then ?_
        exact Ent.sub [2, 5, 6, 7] [0, 1] (by simp [sub, subSl, subHp, place, mp, mpL, mpO, mpG, hnx])
    refine T_region (is := [0, 1, 2]) rfl fun kn kp hn hp => ?_
    refine T_op rfl rfl fun kc hc => ?_
    simp; refine hc _ ?_; clear hc kc
    refine T_op rfl rfl fun kc hc => ?_
    simp [e1]; refine hc _ ?_; clear hc kc
    refine T_op rfl rfl fun kc hc => ?_
    simp; refine hc _ ?_; clear hc kc
    refine T_end (hn _ ?_); clear hn hp kn kp
    exact X_loopN (z + 1) (Ent.sub [2, 5, 6, 7] [0, 1] (by simp [sub, subSl, subHp, place, mp, mpL, mpO, mpG, e1])) hz' (by omega)
  · skip
    have hz' : z = l.length := by simp at b1; omega
    subst hz'
    have hnl := needsL_len c l
    have hb : (needsL c l).length ≤ big := by simp only [big]; omega
    refine T_exit ?_
    refine X_thenE ?_
    refine X_loopE ?_
    refine X_hit ?_
    refine T_then ?_
    refine T_seq ?_
    refine T_region (is := [0, 1]) rfl fun kn kp hn hp => ?_
    refine T_op rfl rfl fun kc hc => ?_
    simp; refine hc _ ?_; clear hc kc
    refine T_op rfl rfl fun kc hc => ?_
    simp; refine hc _ ?_; clear hc kc
    refine T_end (hn _ ?_); clear hn hp kn kp
    refine T_then ?_
    refine T_ret ?_
    exact finI (Ent.give (t := 4) (n := 9) (e := ints (needsL c l)) (hp' := [(0, .var ((catD c).map .dat))]) rfl (by simp [Sx.give, hb])) (by simp [resD, resL, resV]; rfl) (Ent.sub [] [] (by simp [sub, subSl, subHp, place, mp, mpL, mpO, mpG]; rfl)) rfl rfl (by simp)
-- END
-- WALK 85
-- sizar/names.parts
theorem walk85 (r : Rule) : Does Try.prog 85 [.agg (ruleD r)] (.dat (.fn 87 [.ref (ruleD r)])) [] := by
  refine Does.intro [.tmp 2] Try.func85 rfl (by kernel_rfl) Try.ntmps85 rfl (Nat.le_of_ble_eq_true rfl) ?_
  refine T_seq ?_
  refine T_region (is := [0, 1]) rfl fun kn kp hn hp => ?_
  refine T_op rfl rfl fun kc hc => ?_
  simp; refine hc _ ?_; clear hc kc
  refine T_op rfl rfl fun kc hc => ?_
  simp; refine hc _ ?_; clear hc kc
  refine T_end (hn _ ?_); clear hn hp kn kp
  refine T_then ?_
  refine T_seq ?_
  refine T_region (is := [0, 1]) rfl fun kn kp hn hp => ?_
  refine T_op rfl rfl fun kc hc => ?_
  simp; refine hc _ ?_; clear hc kc
  refine T_op rfl rfl fun kc hc => ?_
  simp; refine hc _ ?_; clear hc kc
  refine T_end (hn _ ?_); clear hn hp kn kp
  refine T_then ?_
  refine T_ret ?_
  exact finI (Ent.give (t := 2) (n := 40) (e := .fn 87 [.ref (ruleD r)]) (hp' := []) rfl rfl) (by simp [resD, resL, resV]; rfl) (Ent.sub [] [] (by simp [sub, subSl, subHp, place, mp, mpL, mpO, mpG]; rfl)) rfl rfl (by simp)
-- END
-- WALK 87
-- sizar/names.parts$1
theorem step87 (r : Rule) (hr : (partsOf r).length ≤ 1048576) (ih : ∀ x : Rule, (partsOf x).length < (partsOf r).length → Iter Try.prog 87 [.ref (ruleD x)] ((partsOf x).map fun p => [.agg (ruleD p)])) : Iter Try.prog 87 [.ref (ruleD r)] ((partsOf r).map fun p => [.agg (ruleD p)]) := by
  have hre : (partsOf r).length = (partsL r.kids).length + 1 := by rw [partsOf_eq]; rfl
  refine Iter.intro Try.func87 rfl (by kernel_rfl) Try.ntmps87 rfl (Nat.le_of_ble_eq_true rfl) fun l0 => ?_
  refine T_seq ?_
  refine T_region (is := [0]) rfl fun kn kp hn hp => ?_
  refine T_op rfl rfl fun kc hc => ?_
  simp; refine hc _ ?_; clear hc kc
  refine T_end (hn _ ?_); clear hn hp kn kp
  refine T_then ?_
  refine T_seq ?_
  refine T_seq ?_
  refine T_region (is := [0, 1, 2, 3]) rfl fun kn kp hn hp => ?_
  refine T_op rfl rfl fun kc hc => ?_
  simp; refine hc _ ?_; clear hc kc
  refine T_op rfl rfl fun kc hc => ?_
  simp; refine hc _ ?_; clear hc kc
  refine T_op rfl rfl fun kc hc => ?_
  simp
  refine YieldS.mk rfl ((show ((partsOf r).map fun p => [Dat.agg (ruleD p)])[0]? = some [.agg (ruleD r)] by simp [partsOf_eq])) (rfl) rfl ?_ ?_
  · simp; refine hc _ ?_; clear hc kc
    refine T_op rfl rfl fun kc hc => ?_
    simp; refine hc _ ?_; clear hc kc
    refine T_end (hn _ ?_); clear hn hp kn kp
    refine T_then ?_
    refine T_false (by simp) ?_
    refine T_skip ?_
    refine T_then ?_
    refine T_seq ?_
    refine T_region (is := [0, 1, 2, 3]) rfl fun kn kp hn hp => ?_
    refine T_op rfl rfl fun kc hc => ?_
    simp; refine hc _ ?_; clear hc kc
    refine T_op rfl rfl fun kc hc => ?_
    simp; refine hc _ ?_; clear hc kc
    refine T_op rfl rfl fun kc hc => ?_
    simp; refine hc _ ?_; clear hc kc
    refine T_op rfl rfl fun kc hc => ?_
    simp; refine hc _ ?_; clear hc kc
    refine T_end (hn _ ?_); clear hn hp kn kp
    refine T_then ?_
    refine T_block ?_
    refine T_loop (fun z : Nat => { sl := [(2, .ptr 0 0), (11, .dat (.sl 6 (kidsD r))), (12, .dat (iD r.kids.length)), (13, .dat (iD z))], hp := [(0, .var [.dat (.val (.func (.yield l0) #[] #[]))])], nx := 1, st := 1 + (partsL (r.kids.take z)).length }) (fun z => z ≤ r.kids.length) (fun z => r.kids.length - z) 0 (Ent.sub [2, 11, 12, 13] [0] (by simp [sub, subSl, subHp, place, mp, mpL, mpO, mpG, partsL])) (Nat.zero_le _) fun z hz => ?_
    refine T_seq ?_
    refine T_region (is := [0]) rfl fun kn kp hn hp => ?_
    refine T_op rfl rfl fun kc hc => ?_
    simp; refine hc _ ?_; clear hc kc
    refine T_end (hn _ ?_); clear hn hp kn kp
    refine T_then ?_
    refine T_seq ?_
    refine T_cond rfl (fun b2 => ?_) (fun b2 => ?_)
    · skip
      have hz' : z < r.kids.length := by simpa using b2
      obtain ⟨x, hx⟩ : ∃ x, r.kids[z]? = some x := ⟨_, List.getElem?_eq_getElem hz'⟩
      have hkx := kids_get hx
      have hpl := partsL_len hx
      have hkl := kids_le r.kids
      have e1 : IntKind.i64.wrap ((z : Int) + 1) = (z : Int) + 1 := wr1 hz' (by omega)
      have hpn := partsL_next hx
      have hlt : (partsOf x).length < (partsOf r).length := by omega
      refine T_skip ?_
      refine T_then ?_
      refine T_seq ?_
      refine T_block ?_
      refine T_seq ?_
      refine T_region (is := [0, 1, 2, 3]) rfl fun kn kp hn hp => ?_
      refine T_op rfl rfl fun kc hc => ?_
      simp [hkx]; refine hc _ ?_; clear hc kc
      refine T_op rfl rfl fun kc hc => ?_
      simp; refine hc _ ?_; clear hc kc
      refine T_op rfl rfl fun kc hc => ?_
      simp; refine hc _ ?_; clear hc kc
      refine T_op rfl rfl fun kc hc => ?_
      simp; refine hc _ ?_; clear hc kc
      refine T_end (hn _ ?_); clear hn hp kn kp
      refine T_then ?_
      refine T_seq ?_
      refine T_region (is := [0, 1]) rfl fun kn kp hn hp => ?_
      refine T_op rfl rfl fun kc hc => ?_
      simp; refine hc _ ?_; clear hc kc
      refine T_op rfl rfl fun kc hc => ?_
      simp
      refine CallS.dat (walk85 x) (rfl) rfl rfl rfl ?_
      simp [enum]; refine hc _ ?_; clear hc kc
      refine T_end (hn _ ?_); clear hn hp kn kp
      refine T_then ?_
      refine T_block ?_
      refine T_rangeB (ih x hlt) ({ sl := [(2, .ptr 0 0), (11, .dat (.sl 6 (kidsD r))), (12, .dat (iD r.kids.length)), (13, .dat (iD z)), (18, .dat (.fn 87 [.ref (ruleD x)]))], hp := [(0, .var [.dat (.val (.func (.yield l0) #[] #[]))])], nx := 1 }) (fun j => 1 + (partsL (r.kids.take z)).length + j) (Ent.sub [2, 11, 12, 13, 18] [0] (by simp [sub, subSl, subHp, place, mp, mpL, mpO, mpG])) rfl (by intro i x h; simp at h; obtain ⟨p, _, rfl⟩ := h; rfl) (by decide) [2] rfl (fun i xe hxe l => ?_) ?_
      · skip
        obtain ⟨p, hpi, rfl⟩ : ∃ p, (partsOf x)[i]? = some p ∧ xe = [.agg (ruleD p)] := by simp at hxe; obtain ⟨p, h1, h2⟩ := hxe; exact ⟨p, h1, h2.symm⟩
        simp [rstB, parSl]
        refine T_region (is := [0, 1]) rfl fun kn kp hn hp => ?_
        refine T_op rfl rfl fun kc hc => ?_
        simp; refine hc _ ?_; clear hc kc
        refine T_op rfl rfl fun kc hc => ?_
        simp; refine hc _ ?_; clear hc kc
        refine T_end (hn _ ?_); clear hn hp kn kp
        refine T_then ?_
        refine T_block ?_
        refine T_seq ?_
        refine T_region (is := [0, 1, 2, 3]) rfl fun kn kp hn hp => ?_
        refine T_op rfl rfl fun kc hc => ?_
        simp; refine hc _ ?_; clear hc kc
        refine T_op rfl rfl fun kc hc => ?_
        simp; refine hc _ ?_; clear hc kc
        refine T_op rfl rfl fun kc hc => ?_
        simp
        refine YieldS.mk rfl ((show ((partsOf r).map fun p => [Dat.agg (ruleD p)])[1 + (partsL (r.kids.take z)).length + i]? = some [.agg (ruleD p)] by rw [List.getElem?_map, parts_at hx hpi]; rfl)) (rfl) rfl ?_ ?_
        · simp; refine hc _ ?_; clear hc kc
          refine T_op rfl rfl fun kc hc => ?_
          simp; refine hc _ ?_; clear hc kc
          refine T_end (hn _ ?_); clear hn hp kn kp
          refine T_then ?_
          refine T_false (by simp) ?_
          refine T_skip ?_
          refine X_blockN ?_
          exact RBN (by simp; omega)
        · simp; refine hc _ ?_; clear hc kc
          refine T_op rfl rfl fun kc hc => ?_
          simp; refine hc _ ?_; clear hc kc
          refine T_end (hn _ ?_); clear hn hp kn kp
          refine T_then ?_
          refine T_true (by simp) ?_
          refine T_ret ?_
          refine X_blockR ?_
          refine RBR ?_
          refine X_blockR ?_
          refine X_blockR ?_
          refine X_thenR ?_
          refine X_loopR ?_
          refine X_blockR ?_
          right; simp
      · skip
        refine X_blockN ?_
        refine X_blockN ?_
        refine T_then ?_
        refine T_region (is := [0, 1]) rfl fun kn kp hn hp => ?_
        refine T_op rfl rfl fun kc hc => ?_
        simp [e1]; refine hc _ ?_; clear hc kc
        refine T_op rfl rfl fun kc hc => ?_
        simp; refine hc _ ?_; clear hc kc
        refine T_end (hn _ ?_); clear hn hp kn kp
        exact X_loopN (z + 1) (Ent.sub [2, 11, 12, 13] [0] (by simp [sub, subSl, subHp, place, mp, mpL, mpO, mpG, e1, hpn]; omega)) hz' (by omega)
    · skip
      have hz' : z = r.kids.length := by simp at b2; omega
      subst hz'
      refine T_exit ?_
      refine X_thenE ?_
      refine X_loopE ?_
      refine X_hit ?_
      left; simp [partsOf_eq]; omega
  · simp; refine hc _ ?_; clear hc kc
    refine T_op rfl rfl fun kc hc => ?_
    simp; refine hc _ ?_; clear hc kc
    refine T_end (hn _ ?_); clear hn hp kn kp
    refine T_then ?_
    refine T_true (by simp) ?_
    refine T_ret ?_
    refine X_thenR ?_
    right; simp
-- END
theorem walk87 (r : Rule) (hr : (partsOf r).length ≤ 1048576) : Iter Try.prog 87 [.ref (ruleD r)] ((partsOf r).map fun p => [.agg (ruleD p)]) := by
  obtain ⟨n, hn⟩ : ∃ n, (partsOf r).length = n := ⟨_, rfl⟩
  induction n using Nat.strongRecOn generalizing r with
  | ind n ih => exact step87 r hr fun x hx => ih _ (by omega) x (by omega) rfl
-- WALK 72
-- sizar/names.needs
theorem walk72 (c : Cat) (i : Nat) : Does Try.prog 72 [.agg (catD c), iD i] (.dat (.fn 84 [.ref (catD c), .ref [iD i]])) [] := by
  refine Does.intro [.tmp 4] Try.func72 rfl (by kernel_rfl) Try.ntmps72 rfl (Nat.le_of_ble_eq_true rfl) ?_
  refine T_seq ?_
  refine T_region (is := [0, 1, 2]) rfl fun kn kp hn hp => ?_
  refine T_op rfl rfl fun kc hc => ?_
  simp; refine hc _ ?_; clear hc kc
  refine T_op rfl rfl fun kc hc => ?_
  simp; refine hc _ ?_; clear hc kc
  refine T_op rfl rfl fun kc hc => ?_
  simp; refine hc _ ?_; clear hc kc
  refine T_end (hn _ ?_); clear hn hp kn kp
  refine T_then ?_
  refine T_seq ?_
  refine T_region (is := [0, 1]) rfl fun kn kp hn hp => ?_
  refine T_op rfl rfl fun kc hc => ?_
  simp; refine hc _ ?_; clear hc kc
  refine T_op rfl rfl fun kc hc => ?_
  simp; refine hc _ ?_; clear hc kc
  refine T_end (hn _ ?_); clear hn hp kn kp
  refine T_then ?_
  refine T_ret ?_
  exact finI (Ent.give (t := 4) (n := 40) (e := .fn 84 [.ref (catD c), .ref [iD i]]) (hp' := []) rfl rfl) (by simp [resD, resL, resV]; rfl) (Ent.sub [] [] (by simp [sub, subSl, subHp, place, mp, mpL, mpO, mpG]; rfl)) rfl rfl (by simp)
-- END
-- WALK 84
-- sizar/names.needs$1
theorem walk84 (c : Cat) (i : Nat) (y : Course) (hy : c.courses[i]? = some y) (hp : (partsOf y.need).length ≤ 1048576) (hl : c.courses.length ≤ 1048576) : Iter Try.prog 84 [.ref (catD c), .ref [iD i]] ((needsL c (partsOf y.need)).map fun n => [iD n]) := by
  have w87 := walk87 y.need hp
  have w85 := walk85 y.need
  generalize hL : partsOf y.need = L at *
  refine Iter.intro Try.func84 rfl (by kernel_rfl) Try.ntmps84 rfl (Nat.le_of_ble_eq_true rfl) fun l0 => ?_
  refine T_seq ?_
  refine T_region (is := [0]) rfl fun kn kp hn hp => ?_
  refine T_op rfl rfl fun kc hc => ?_
  simp; refine hc _ ?_; clear hc kc
  refine T_end (hn _ ?_); clear hn hp kn kp
  refine T_then ?_
  refine T_seq ?_
  refine T_region (is := [0, 1, 2, 3, 4, 5, 6]) rfl fun kn kp hn hp => ?_
  refine T_op rfl rfl fun kc hc => ?_
  simp; refine hc _ ?_; clear hc kc
  refine T_op rfl rfl fun kc hc => ?_
  simp; refine hc _ ?_; clear hc kc
  refine T_op rfl rfl fun kc hc => ?_
  simp; refine hc _ ?_; clear hc kc
  refine T_op rfl rfl fun kc hc => ?_
  simp [hy]; refine hc _ ?_; clear hc kc
  refine T_op rfl rfl fun kc hc => ?_
  simp; refine hc _ ?_; clear hc kc
  refine T_op rfl rfl fun kc hc => ?_
  simp; refine hc _ ?_; clear hc kc
  refine T_op rfl rfl fun kc hc => ?_
  simp
  refine CallS.dat (w85) (rfl) rfl rfl rfl ?_
  simp [enum]; refine hc _ ?_; clear hc kc
  refine T_end (hn _ ?_); clear hn hp kn kp
  refine T_then ?_
  refine T_block ?_
  refine T_rangeB (w87) ({ sl := [(1, .dat (.ref (catD c))), (2, .dat (.ref [iD i])), (3, .ptr 0 0), (12, .dat (.fn 87 [.ref (ruleD y.need)]))], hp := [(0, .var [.dat (.val (.func (.yield l0) #[] #[]))])], nx := 1 }) (fun j => (needsL c (L.take j)).length) (Ent.sub [1, 2, 3, 12] [0] (by simp [sub, subSl, subHp, place, mp, mpL, mpO, mpG, needsL])) rfl (by intro i x h; simp at h; obtain ⟨p, _, rfl⟩ := h; rfl) (by decide) [1, 3] rfl (fun j xe hxe l => ?_) ?_
  · skip
    obtain ⟨p, hpi, rfl⟩ : ∃ p, L[j]? = some p ∧ xe = [.agg (ruleD p)] := by simp at hxe; obtain ⟨p, h1, h2⟩ := hxe; exact ⟨p, h1, h2.symm⟩
    have hnx := needsL_next (c := c) hpi
    simp [rstB, parSl]
    refine T_region (is := [0, 1]) rfl fun kn kp hn hp => ?_
    refine T_op rfl rfl fun kc hc => ?_
    simp; refine hc _ ?_; clear hc kc
    refine T_op rfl rfl fun kc hc => ?_
    simp; refine hc _ ?_; clear hc kc
    refine T_end (hn _ ?_); clear hn hp kn kp
    refine T_then ?_
    refine T_block ?_
    refine T_seq ?_
    refine T_seq ?_
    refine T_region (is := [0, 1, 2, 3, 4, 5, 6, 7]) rfl fun kn kp hn hp => ?_
    refine T_op rfl rfl fun kc hc => ?_
    simp; refine hc _ ?_; clear hc kc
    refine T_op rfl rfl fun kc hc => ?_
    simp; refine hc _ ?_; clear hc kc
    refine T_op rfl rfl fun kc hc => ?_
    simp; refine hc _ ?_; clear hc kc
    refine T_op rfl rfl fun kc hc => ?_
    simp; refine hc _ ?_; clear hc kc
    refine T_pure rfl (pstep_one rfl rfl rfl rfl fun g0 => .op rfl (by simp [g0]; rfl)) fun kc hc => ?_
    simp; refine hc _ ?_; clear hc kc
    refine T_pure rfl (pstep_one rfl rfl rfl rfl fun g0 => .op rfl (by simp [g0]; rfl)) fun kc hc => ?_
    simp; refine hc _ ?_; clear hc kc
    refine T_pure rfl (pstep_one rfl rfl rfl rfl fun g0 => .op rfl (by simp [g0]; rfl)) fun kc hc => ?_
    simp; refine hc _ ?_; clear hc kc
    refine T_op rfl rfl fun kc hc => ?_
    simp; refine hc _ ?_; clear hc kc
    refine T_end (hn _ ?_); clear hn hp kn kp
    refine T_then ?_
    refine T_cond rfl (fun b1 => ?_) (fun b1 => ?_)
    · skip
      have ho : (p.op == 5 || p.op == 6) = false := by cases h5 : p.op == 5 <;> cases h6 : p.op == 6 <;> simp [bne, h5, h6] at b1 ⊢
      have hn1 : need1 c p = none := by simp only [need1, ho]; rfl
      refine T_exit ?_
      refine X_thenE ?_
      refine X_hit ?_
      exact RBN (by simp [hnx, hn1])
    · skip
      have ho : (p.op == 5 || p.op == 6) = true := by cases h5 : p.op == 5 <;> cases h6 : p.op == 6 <;> simp [bne, h5, h6] at b1 ⊢
      refine T_skip ?_
      refine T_then ?_
      refine T_seq ?_
      refine T_region (is := [0, 1, 2, 3, 4, 5, 6]) rfl fun kn kp hn hp => ?_
      refine T_op rfl rfl fun kc hc => ?_
      simp; refine hc _ ?_; clear hc kc
      refine T_op rfl rfl fun kc hc => ?_
      simp; refine hc _ ?_; clear hc kc
      refine T_op rfl rfl fun kc hc => ?_
      simp; refine hc _ ?_; clear hc kc
      refine T_op rfl rfl fun kc hc => ?_
      simp; refine hc _ ?_; clear hc kc
      refine T_op rfl rfl fun kc hc => ?_
      simp; refine hc _ ?_; clear hc kc
      refine T_op rfl rfl fun kc hc => ?_
      simp
      refine CallS.dat (walk80 c p.name p.course (by omega)) (rfl) rfl rfl rfl ?_
      simp [enum]; refine hc _ ?_; clear hc kc
      refine T_op rfl rfl fun kc hc => ?_
      simp; refine hc _ ?_; clear hc kc
      refine T_end (hn _ ?_); clear hn hp kn kp
      refine T_then ?_
      refine T_seq ?_
      refine T_region (is := [0, 1, 2, 3, 4, 5, 6, 7]) rfl fun kn kp hn hp => ?_
      refine T_op rfl rfl fun kc hc => ?_
      simp; refine hc _ ?_; clear hc kc
      by_cases hge : 0 ≤ meant c p.name p.course
      · skip
        have hn1 : need1 c p = some (meant c p.name p.course) := by simp only [need1, ho, hge]; rfl
        refine T_op rfl rfl fun kc hc => ?_
        simp [hge]; refine hc _ ?_; clear hc kc
        refine T_op rfl rfl fun kc hc => ?_
        simp; refine hc _ ?_; clear hc kc
        refine T_on rfl rfl rfl rfl rfl fun kc hc => ?_
        simp; refine hc _ ?_; clear hc kc
        refine T_on rfl rfl rfl rfl rfl fun kc hc => ?_
        simp; refine hc _ ?_; clear hc kc
        refine T_on rfl rfl rfl rfl rfl fun kc hc => ?_
        simp
        refine YieldS.mk rfl ((show ((needsL c L).map fun n => [Dat.val (.int .i64 n)])[(needsL c (L.take j)).length]? = some [.val (.int .i64 (meant c p.name p.course))] by rw [List.getElem?_map, needsL_at hpi hn1]; rfl)) (rfl) rfl ?_ ?_
        · simp; refine hc _ ?_; clear hc kc
          refine T_on rfl rfl rfl rfl rfl fun kc hc => ?_
          simp; refine hc _ ?_; clear hc kc
          refine T_op rfl rfl fun kc hc => ?_
          simp [aPick]; refine hc _ ?_; clear hc kc
          refine T_end (hn _ ?_); clear hn hp kn kp
          refine T_then ?_
          refine T_false (by simp) ?_
          refine T_skip ?_
          refine X_blockN ?_
          exact RBN (by simp [hnx, hn1])
        · simp; refine hc _ ?_; clear hc kc
          refine T_on rfl rfl rfl rfl rfl fun kc hc => ?_
          simp; refine hc _ ?_; clear hc kc
          refine T_op rfl rfl fun kc hc => ?_
          simp [aPick]; refine hc _ ?_; clear hc kc
          refine T_end (hn _ ?_); clear hn hp kn kp
          refine T_then ?_
          refine T_true (by simp) ?_
          refine T_ret ?_
          refine X_blockR ?_
          refine RBR ?_
          refine X_blockR ?_
          right; simp
      · skip
        have hn1 : need1 c p = none := by simp only [need1, ho, hge]; rfl
        refine T_op rfl rfl fun kc hc => ?_
        simp [hge]; refine hc _ ?_; clear hc kc
        refine T_op rfl rfl fun kc hc => ?_
        simp; refine hc _ ?_; clear hc kc
        refine T_off rfl rfl rfl rfl rfl rfl ?_
        simp
        refine T_off rfl rfl rfl rfl rfl rfl ?_
        simp
        refine T_off rfl rfl rfl rfl rfl rfl ?_
        simp
        refine T_off rfl rfl rfl rfl rfl rfl ?_
        simp
        refine T_op rfl rfl fun kc hc => ?_
        simp [aPick]; refine hc _ ?_; clear hc kc
        refine T_end (hn _ ?_); clear hn hp kn kp
        refine T_then ?_
        refine T_false (by simp) ?_
        refine T_skip ?_
        refine X_blockN ?_
        exact RBN (by simp [hnx, hn1])
  · skip
    refine X_blockN ?_
    left; simp
-- END

end Go.Proofs.Ytbkkekbeaabokaa
