/- The names: the reference's Resolve. -/
import Derived.Test.YtbkkekbeaabokaaNl
set_option linter.unusedVariables false
set_option linter.unusedSimpArgs false
namespace Go.Proofs.Ytbkkekbeaabokaa
open Go Go.Proofs.Ytbkkekbeaabokaa.Sx

-- WALK 13
-- sizar/sizarref11.Resolve
theorem walk13 (c : Cat) (hf : c.fit) : Does Try.prog 13 [.agg (catD c)] (.dat (.tup [.agg (catD (resolveOf c).1), iD (resolveOf c).2])) [] := by
  have h1 := hf.courses
  have h2 := hf.progs
  have h7 := hf.same
  refine Does.intro [.cell 2 29, .tmp 3] Try.func13 rfl (by kernel_rfl) Try.ntmps13 rfl (Nat.le_of_ble_eq_true rfl) ?_
  refine T_seq ?_
  refine T_region (is := [0, 1, 2]) rfl fun kn kp hn hp => ?_
  refine T_op rfl rfl fun kc hc => ?_
  simp; refine hc _ ?_; clear hc kc
  refine T_op rfl rfl fun kc hc => ?_
  simp; refine hc _ ?_; clear hc kc
  refine T_op rfl rfl fun kc hc => ?_
  simp; refine hc _ ?_; clear hc kc
  refine T_end (hn _ ?_); clear hn hp kn kp
  refine T_then ?_
  refine T_seq ?_
  refine T_seq ?_
  refine T_region (is := [0]) rfl fun kn kp hn hp => ?_
  refine T_op rfl rfl fun kc hc => ?_
  simp; refine hc _ ?_; clear hc kc
  refine T_end (hn _ ?_); clear hn hp kn kp
  refine T_then ?_
  refine T_block ?_
  refine T_loop (fun z : Nat => { sl := [(1, .ptr 0 0), (2, .ptr 1 0), (4, .dat (iD z))], hp := [(0, .var ((catD c).map .dat)), (1, .var [.dat nilS, .dat nilS, .dat nilS, .dat nilS, .dat nilS, .dat nilS, .dat nilS])], nx := 2 }) (fun z => z ≤ c.progs.length ∧ (c.progs.take z).any argP = false) (fun z => c.progs.length - z) 0 (Ent.sub [1, 2, 4] [0, 1] (by simp [sub, subSl, subHp, place, mp, mpL, mpO, mpG])) ⟨Nat.zero_le _, rfl⟩ fun z hz => ?_
  obtain ⟨hz, hza⟩ := hz
  refine T_seq ?_
  refine T_seq ?_
  refine T_region (is := [0, 1, 2, 3, 4]) rfl fun kn kp hn hp => ?_
  refine T_op rfl rfl fun kc hc => ?_
  simp; refine hc _ ?_; clear hc kc
  refine T_op rfl rfl fun kc hc => ?_
  simp; refine hc _ ?_; clear hc kc
  refine T_op rfl rfl fun kc hc => ?_
  simp; refine hc _ ?_; clear hc kc
  refine T_op rfl rfl fun kc hc => ?_
  simp; refine hc _ ?_; clear hc kc
  refine T_op rfl rfl fun kc hc => ?_
  simp; refine hc _ ?_; clear hc kc
  refine T_end (hn _ ?_); clear hn hp kn kp
  refine T_then ?_
  refine T_cond rfl (fun b1 => ?_) (fun b1 => ?_)
  · skip
    have hz' : z < c.progs.length := by simpa using b1
    obtain ⟨p, hxp⟩ : ∃ x, c.progs[z]? = some x := ⟨_, List.getElem?_eq_getElem hz'⟩
    have ez : IntKind.i64.wrap ((z : Int) + 1) = (z : Int) + 1 := wr1 hz' (by omega)
    have hzl := hz'
    have hpr := (hf.reqs p (List.mem_of_getElem? hxp)).1
    clear hz'
    refine T_skip ?_
    refine T_then ?_
    refine T_seq ?_
    refine T_block ?_
    refine T_seq ?_
    refine T_region (is := [0]) rfl fun kn kp hn hp => ?_
    refine T_op rfl rfl fun kc hc => ?_
    simp; refine hc _ ?_; clear hc kc
    refine T_end (hn _ ?_); clear hn hp kn kp
    refine T_then ?_
    refine T_block ?_
    refine T_loop (fun v : Nat => { sl := [(1, .ptr 0 0), (2, .ptr 1 0), (4, .dat (iD z)), (5, .dat (iD v))], hp := [(0, .var ((catD c).map .dat)), (1, .var [.dat nilS, .dat nilS, .dat nilS, .dat nilS, .dat nilS, .dat nilS, .dat nilS])], nx := 2 }) (fun v => v ≤ p.reqs.length ∧ (p.reqs.take v).any argQ = false) (fun v => p.reqs.length - v) 0 (Ent.sub [1, 2, 4, 5] [0, 1] (by simp [sub, subSl, subHp, place, mp, mpL, mpO, mpG])) ⟨Nat.zero_le _, rfl⟩ fun v hv => ?_
    obtain ⟨hv, hva⟩ := hv
    refine T_seq ?_
    refine T_seq ?_
    refine T_region (is := [0, 1, 2, 3, 4, 5, 6, 7, 8]) rfl fun kn kp hn hp => ?_
    refine T_op rfl rfl fun kc hc => ?_
    simp; refine hc _ ?_; clear hc kc
    refine T_op rfl rfl fun kc hc => ?_
    simp; refine hc _ ?_; clear hc kc
    refine T_op rfl rfl fun kc hc => ?_
    simp; refine hc _ ?_; clear hc kc
    refine T_op rfl rfl fun kc hc => ?_
    simp; refine hc _ ?_; clear hc kc
    refine T_op rfl rfl fun kc hc => ?_
    simp [hxp]; refine hc _ ?_; clear hc kc
    refine T_op rfl rfl fun kc hc => ?_
    simp; refine hc _ ?_; clear hc kc
    refine T_op rfl rfl fun kc hc => ?_
    simp; refine hc _ ?_; clear hc kc
    refine T_op rfl rfl fun kc hc => ?_
    simp; refine hc _ ?_; clear hc kc
    refine T_op rfl rfl fun kc hc => ?_
    simp; refine hc _ ?_; clear hc kc
    refine T_end (hn _ ?_); clear hn hp kn kp
    refine T_then ?_
    refine T_cond rfl (fun b2 => ?_) (fun b2 => ?_)
    · skip
      have hz' : v < p.reqs.length := by simpa using b2
      obtain ⟨q, hxq⟩ : ∃ x, p.reqs[v]? = some x := ⟨_, List.getElem?_eq_getElem hz'⟩
      have ev : IntKind.i64.wrap ((v : Int) + 1) = (v : Int) + 1 := wr1 hz' (by omega)
      refine T_skip ?_
      refine T_then ?_
      refine T_seq ?_
      refine T_block ?_
      refine T_seqDraw (is := [0, 1, 2, 3, 4, 5, 6, 7, 8, 9, 10, 11, 12, 13, 14, 15, 16, 17, 18, 19, 20, 21, 22]) rfl (by kernel_rfl) fun kn hn => ?_
      refine D_op rfl rfl rfl rfl fun kc hc => ?_
      simp; refine hc _ ?_; clear hc kc
      refine D_op rfl rfl rfl rfl fun kc hc => ?_
      simp; refine hc _ ?_; clear hc kc
      refine D_op rfl rfl rfl rfl fun kc hc => ?_
      simp; refine hc _ ?_; clear hc kc
      refine D_op rfl rfl rfl rfl fun kc hc => ?_
      simp [hxp]; refine hc _ ?_; clear hc kc
      refine D_op rfl rfl rfl rfl fun kc hc => ?_
      simp; refine hc _ ?_; clear hc kc
      refine D_op rfl rfl rfl rfl fun kc hc => ?_
      simp; refine hc _ ?_; clear hc kc
      refine D_op rfl rfl rfl rfl fun kc hc => ?_
      simp; refine hc _ ?_; clear hc kc
      refine D_op rfl rfl rfl rfl fun kc hc => ?_
      simp [hxq]; refine hc _ ?_; clear hc kc
      refine D_op rfl rfl rfl rfl fun kc hc => ?_
      simp; refine hc _ ?_; clear hc kc
      refine D_op rfl rfl rfl rfl fun kc hc => ?_
      simp; refine hc _ ?_; clear hc kc
      refine D_op rfl rfl rfl rfl fun kc hc => ?_
      simp; refine hc _ ?_; clear hc kc
      refine D_op rfl rfl rfl rfl fun kc hc => ?_
      simp; refine hc _ ?_; clear hc kc
      refine D_op rfl rfl rfl rfl fun kc hc => ?_
      simp; refine hc _ ?_; clear hc kc
      refine D_op rfl rfl rfl rfl fun kc hc => ?_
      simp; refine hc _ ?_; clear hc kc
      refine D_op rfl rfl rfl rfl fun kc hc => ?_
      simp [hxp]; refine hc _ ?_; clear hc kc
      refine D_op rfl rfl rfl rfl fun kc hc => ?_
      simp; refine hc _ ?_; clear hc kc
      refine D_op rfl rfl rfl rfl fun kc hc => ?_
      simp; refine hc _ ?_; clear hc kc
      refine D_op rfl rfl rfl rfl fun kc hc => ?_
      simp; refine hc _ ?_; clear hc kc
      refine D_op rfl rfl rfl rfl fun kc hc => ?_
      simp [hxq]; refine hc _ ?_; clear hc kc
      refine D_op rfl rfl rfl rfl fun kc hc => ?_
      simp; refine hc _ ?_; clear hc kc
      refine D_op rfl rfl rfl rfl fun kc hc => ?_
      simp; refine hc _ ?_; clear hc kc
      refine D_op rfl rfl rfl rfl fun kc hc => ?_
      simp; refine hc _ ?_; clear hc kc
      refine D_op rfl rfl rfl rfl fun kc hc => ?_
      simp; refine hc _ ?_; clear hc kc
      refine D_end rfl (by kernel_rfl) (hn _ ?_); clear hn kn
      refine T_cond rfl (fun b3 => ?_) (fun b3 => ?_)
      · skip
        have haq : argQ q = true := by simp [bne] at b3; simp [argQ]; omega
        have hres := res_arg (c := c) (any_yes hxp (any_yes hxq haq))
        refine T_seq ?_
        refine T_region (is := [0, 1, 2]) rfl fun kn kp hn hp => ?_
        refine T_op rfl rfl fun kc hc => ?_
        simp; refine hc _ ?_; clear hc kc
        refine T_op rfl rfl fun kc hc => ?_
        simp; refine hc _ ?_; clear hc kc
        refine T_op rfl rfl fun kc hc => ?_
        simp; refine hc _ ?_; clear hc kc
        refine T_end (hn _ ?_); clear hn hp kn kp
        refine T_then ?_
        refine T_ret ?_
        refine X_blockR ?_
        refine X_thenR ?_
        refine X_loopR ?_
        refine X_blockR ?_
        refine X_blockR ?_
        refine X_thenR ?_
        refine X_loopR ?_
        refine X_blockR ?_
        refine X_thenR ?_
        exact finI (Ent.refl _) (by simp [resD, resL, resV]; rfl) (Ent.trans (Ent.giveG (t := 0) (n := 40) (e := .tup [.agg [nilS, nilS, nilS, nilS, nilS, nilS, nilS], iD (1)]) (hp' := _) rfl (by simp [Sx.give, giveL]; rfl)) (Ent.trans (Ent.datG (t := 0) rfl (zeroImp (1))) (Ent.sub [] [] (by simp [sub, subSl, subHp, place, mp, mpL, mpO, mpG]; rfl)))) rfl rfl (by simp [hres])
      · skip
        have haq : argQ q = false := by simp [bne] at b3; simp [argQ]; omega
        refine T_skip ?_
        refine X_blockN ?_
        refine T_then ?_
        refine T_region (is := [0, 1, 2]) rfl fun kn kp hn hp => ?_
        refine T_op rfl rfl fun kc hc => ?_
        simp; refine hc _ ?_; clear hc kc
        refine T_op rfl rfl fun kc hc => ?_
        simp [ev]; refine hc _ ?_; clear hc kc
        refine T_op rfl rfl fun kc hc => ?_
        simp; refine hc _ ?_; clear hc kc
        refine T_end (hn _ ?_); clear hn hp kn kp
        exact X_loopN (v + 1) (Ent.sub [1, 2, 4, 5] [0, 1] (by simp [sub, subSl, subHp, place, mp, mpL, mpO, mpG, ev])) ⟨hz', by rw [any_next hxq, hva, haq]; rfl⟩ (by omega)
    · skip
      have hz' : v = p.reqs.length := by simp at b2; omega
      have hap : argP p = false := by rw [hz', List.take_length] at hva; exact hva
      refine T_exit ?_
      refine X_thenE ?_
      refine X_loopE ?_
      refine X_hit ?_
      refine X_blockN ?_
      refine T_then ?_
      refine T_region (is := [0, 1, 2]) rfl fun kn kp hn hp => ?_
      refine T_op rfl rfl fun kc hc => ?_
      simp; refine hc _ ?_; clear hc kc
      refine T_op rfl rfl fun kc hc => ?_
      simp [ez]; refine hc _ ?_; clear hc kc
      refine T_op rfl rfl fun kc hc => ?_
      simp; refine hc _ ?_; clear hc kc
      refine T_end (hn _ ?_); clear hn hp kn kp
      exact X_loopN (z + 1) (Ent.sub [1, 2, 4] [0, 1] (by simp [sub, subSl, subHp, place, mp, mpL, mpO, mpG, ez])) ⟨hzl, by rw [any_next hxp, hza, hap]; rfl⟩ (by omega)
  · skip
    have hz' : z = c.progs.length := by simp at b1; omega
    have hA : argB c = false := by rw [hz', List.take_length] at hza; exact hza
    clear hz hza hz'
    refine T_exit ?_
    refine X_thenE ?_
    refine X_loopE ?_
    refine X_hit ?_
    refine T_then ?_
    refine T_seq ?_
    refine T_seq ?_
    refine T_region (is := [0, 1]) rfl fun kn kp hn hp => ?_
    refine T_op rfl rfl fun kc hc => ?_
    simp; refine hc _ ?_; clear hc kc
    refine T_op rfl rfl fun kc hc => ?_
    simp
    refine CallS.dat (walk22 c hf) (rfl) rfl rfl rfl ?_
    simp [enum]; refine hc _ ?_; clear hc kc
    refine T_end (hn _ ?_); clear hn hp kn kp
    refine T_then ?_
    refine T_cond rfl (fun b4 => ?_) (fun b4 => ?_)
    · skip
      have hT : twiceC c = true := by simpa using b4
      have hres := res_twice hA hT
      refine T_seq ?_
      refine T_region (is := [0, 1, 2]) rfl fun kn kp hn hp => ?_
      refine T_op rfl rfl fun kc hc => ?_
      simp; refine hc _ ?_; clear hc kc
      refine T_op rfl rfl fun kc hc => ?_
      simp; refine hc _ ?_; clear hc kc
      refine T_op rfl rfl fun kc hc => ?_
      simp; refine hc _ ?_; clear hc kc
      refine T_end (hn _ ?_); clear hn hp kn kp
      refine T_then ?_
      refine T_ret ?_
      refine X_thenR ?_
      exact finI (Ent.refl _) (by simp [resD, resL, resV]; rfl) (Ent.trans (Ent.giveG (t := 0) (n := 40) (e := .tup [.agg [nilS, nilS, nilS, nilS, nilS, nilS, nilS], iD (111)]) (hp' := _) rfl (by simp [Sx.give, giveL]; rfl)) (Ent.trans (Ent.datG (t := 0) rfl (zeroImp (111))) (Ent.sub [] [] (by simp [sub, subSl, subHp, place, mp, mpL, mpO, mpG]; rfl)))) rfl rfl (by simp [hres])
    · skip
      have hT : twiceC c = false := by simpa using b4
      refine T_skip ?_
      refine T_then ?_
      refine T_seq ?_
      refine T_region (is := [0, 1, 2]) rfl fun kn kp hn hp => ?_
      refine T_op rfl rfl fun kc hc => ?_
      simp; refine hc _ ?_; clear hc kc
      refine T_op rfl rfl fun kc hc => ?_
      simp; refine hc _ ?_; clear hc kc
      refine T_op rfl rfl fun kc hc => ?_
      simp; refine hc _ ?_; clear hc kc
      refine T_end (hn _ ?_); clear hn hp kn kp
      refine T_then ?_
      refine T_seq ?_
      refine T_region (is := [0]) rfl fun kn kp hn hp => ?_
      refine T_op rfl rfl fun kc hc => ?_
      simp; refine hc _ ?_; clear hc kc
      refine T_end (hn _ ?_); clear hn hp kn kp
      refine T_then ?_
      refine T_seq ?_
      refine T_region (is := [0, 1, 2]) rfl fun kn kp hn hp => ?_
      refine T_op rfl rfl fun kc hc => ?_
      simp; refine hc _ ?_; clear hc kc
      refine T_op rfl rfl fun kc hc => ?_
      simp; refine hc _ ?_; clear hc kc
      refine T_op rfl rfl fun kc hc => ?_
      simp; refine hc _ ?_; clear hc kc
      refine T_end (hn _ ?_); clear hn hp kn kp
      refine T_then ?_
      refine T_seq ?_
      refine T_seq ?_
      refine T_region (is := [0]) rfl fun kn kp hn hp => ?_
      refine T_op rfl rfl fun kc hc => ?_
      simp; refine hc _ ?_; clear hc kc
      refine T_end (hn _ ?_); clear hn hp kn kp
      refine T_then ?_
      refine T_block ?_
      refine T_loop (fun z : Nat => { sl := [(1, .ptr 0 0), (2, .ptr 1 0), (6, .ptr 2 0), (7, .dat (bV (mapX (courseX c) (c.courses.take z)).2)), (8, .dat (iD z))], hp := [(0, .var ((catD c).map .dat)), (1, .var [.dat nilS, .dat nilS, .dat nilS, .dat nilS, .dat nilS, .dat nilS, .dat nilS]), (2, .var [.own 3 16 z, .dat (.sl 4 (c.same.map pairD)), .dat (.sl 7 (c.progs.map progD)), .dat (.sl 4 (c.classes.map classD)), .dat (.sl 2 (c.fees.map feeD)), .dat (.sl 4 (c.honours.map classD)), .dat (.sl 4 (c.clauses.map clauseD))]), (3, .row 41 16 ((mapX (courseX c) (c.courses.take z)).1.map courseD))], nx := 4 }) (fun z => z ≤ c.courses.length) (fun z => c.courses.length - z) 0 (Ent.sub [1, 2, 6, 7, 8] [0, 1, 2, 3] (by simp [sub, subSl, subHp, place, mp, mpL, mpO, mpG, mapX_nil])) (Nat.zero_le _) fun z hz => ?_
      refine T_seq ?_
      refine T_seq ?_
      refine T_region (is := [0, 1, 2, 3, 4]) rfl fun kn kp hn hp => ?_
      refine T_op rfl rfl fun kc hc => ?_
      simp; refine hc _ ?_; clear hc kc
      refine T_op rfl rfl fun kc hc => ?_
      simp; refine hc _ ?_; clear hc kc
      refine T_op rfl rfl fun kc hc => ?_
      simp; refine hc _ ?_; clear hc kc
      refine T_op rfl rfl fun kc hc => ?_
      simp; refine hc _ ?_; clear hc kc
      refine T_op rfl rfl fun kc hc => ?_
      simp; refine hc _ ?_; clear hc kc
      refine T_end (hn _ ?_); clear hn hp kn kp
      refine T_then ?_
      refine T_cond rfl (fun b5 => ?_) (fun b5 => ?_)
      · skip
        have hz' : z < c.courses.length := by simpa using b5
        obtain ⟨y, hxy⟩ : ∃ x, c.courses[z]? = some x := ⟨_, List.getElem?_eq_getElem hz'⟩
        have ez : IntKind.i64.wrap ((z : Int) + 1) = (z : Int) + 1 := wr1 hz' (by omega)
        have hyn := hf.need y (List.mem_of_getElem? hxy)
        have hml : (mapX (courseX c) (c.courses.take z)).1.length = z := by rw [mapX_len]; simp; omega
        have e7 : (z + 1) * 184 ≤ big := by simp only [big]; omega
        refine T_skip ?_
        refine T_then ?_
        refine T_seq ?_
        refine T_block ?_
        refine T_seq ?_
        refine T_region (is := [0, 1, 2, 3, 4, 5, 6]) rfl fun kn kp hn hp => ?_
        refine T_op rfl rfl fun kc hc => ?_
        simp; refine hc _ ?_; clear hc kc
        refine T_op rfl rfl fun kc hc => ?_
        simp; refine hc _ ?_; clear hc kc
        refine T_op rfl rfl fun kc hc => ?_
        simp; refine hc _ ?_; clear hc kc
        refine T_op rfl rfl fun kc hc => ?_
        simp [hxy]; refine hc _ ?_; clear hc kc
        refine T_op rfl rfl fun kc hc => ?_
        simp [hxy]; refine hc _ ?_; clear hc kc
        refine T_op rfl rfl fun kc hc => ?_
        simp; refine hc _ ?_; clear hc kc
        refine T_op rfl rfl fun kc hc => ?_
        simp; refine hc _ ?_; clear hc kc
        refine T_end (hn _ ?_); clear hn hp kn kp
        refine T_then ?_
        refine T_seq ?_
        refine T_region (is := [0, 1, 2, 3, 4, 5, 6, 7, 8, 9]) rfl fun kn kp hn hp => ?_
        refine T_op rfl rfl fun kc hc => ?_
        simp; refine hc _ ?_; clear hc kc
        refine T_op rfl rfl fun kc hc => ?_
        simp; refine hc _ ?_; clear hc kc
        refine T_op rfl rfl fun kc hc => ?_
        simp; refine hc _ ?_; clear hc kc
        refine T_op rfl rfl fun kc hc => ?_
        simp
        refine CallS.dat (walk51 c h1 y.need hyn.1) (rfl) rfl rfl rfl ?_
        simp [enum]; refine hc _ ?_; clear hc kc
        refine T_op rfl rfl fun kc hc => ?_
        simp; refine hc _ ?_; clear hc kc
        refine T_op rfl rfl fun kc hc => ?_
        simp; refine hc _ ?_; clear hc kc
        refine T_op rfl rfl fun kc hc => ?_
        simp; refine hc _ ?_; clear hc kc
        refine T_op rfl rfl fun kc hc => ?_
        simp; refine hc _ ?_; clear hc kc
        refine T_op rfl rfl fun kc hc => ?_
        simp; refine hc _ ?_; clear hc kc
        refine T_op rfl rfl fun kc hc => ?_
        simp; refine hc _ ?_; clear hc kc
        refine T_end (hn _ ?_); clear hn hp kn kp
        refine T_then ?_
        refine T_seq ?_
        refine T_region (is := [0, 1, 2, 3, 4, 5, 6, 7, 8, 9]) rfl fun kn kp hn hp => ?_
        refine T_op rfl rfl fun kc hc => ?_
        simp; refine hc _ ?_; clear hc kc
        refine T_op rfl rfl fun kc hc => ?_
        simp; refine hc _ ?_; clear hc kc
        refine T_op rfl rfl fun kc hc => ?_
        simp; refine hc _ ?_; clear hc kc
        refine T_op rfl rfl fun kc hc => ?_
        simp
        refine CallS.dat (walk51 c h1 y.bar hyn.2) (rfl) rfl rfl rfl ?_
        simp [enum]; refine hc _ ?_; clear hc kc
        refine T_op rfl rfl fun kc hc => ?_
        simp; refine hc _ ?_; clear hc kc
        refine T_op rfl rfl fun kc hc => ?_
        simp; refine hc _ ?_; clear hc kc
        refine T_op rfl rfl fun kc hc => ?_
        simp; refine hc _ ?_; clear hc kc
        refine T_op rfl rfl fun kc hc => ?_
        simp; refine hc _ ?_; clear hc kc
        refine T_op rfl rfl fun kc hc => ?_
        simp; refine hc _ ?_; clear hc kc
        refine T_op rfl rfl fun kc hc => ?_
        simp; refine hc _ ?_; clear hc kc
        refine T_end (hn _ ?_); clear hn hp kn kp
        refine T_then ?_
        refine T_seq ?_
        refine T_region (is := [0, 1, 2, 3, 4, 5, 6, 7]) rfl fun kn kp hn hp => ?_
        refine T_op rfl rfl fun kc hc => ?_
        simp; refine hc _ ?_; clear hc kc
        refine T_op rfl rfl fun kc hc => ?_
        simp; refine hc _ ?_; clear hc kc
        refine T_pure rfl (pstep_one rfl rfl rfl rfl fun g0 => .op rfl (by simp [g0]; rfl)) fun kc hc => ?_
        simp; refine hc _ ?_; clear hc kc
        refine T_op rfl rfl fun kc hc => ?_
        simp; refine hc _ ?_; clear hc kc
        refine T_op rfl rfl fun kc hc => ?_
        simp; refine hc _ ?_; clear hc kc
        refine T_pure rfl (pstep_one rfl rfl rfl rfl fun g0 => .op rfl (by simp [g0]; rfl)) fun kc hc => ?_
        simp; refine hc _ ?_; clear hc kc
        refine T_op rfl rfl fun kc hc => ?_
        simp; refine hc _ ?_; clear hc kc
        refine T_op rfl rfl fun kc hc => ?_
        simp; refine hc _ ?_; clear hc kc
        refine T_end (hn _ ?_); clear hn hp kn kp
        refine T_then ?_
        refine T_seq ?_
        refine T_region (is := [0, 1, 2]) rfl fun kn kp hn hp => ?_
        refine T_op rfl rfl fun kc hc => ?_
        simp; refine hc _ ?_; clear hc kc
        refine T_op rfl rfl fun kc hc => ?_
        simp; refine hc _ ?_; clear hc kc
        refine T_op rfl rfl fun kc hc => ?_
        simp; refine hc _ ?_; clear hc kc
        refine T_end (hn _ ?_); clear hn hp kn kp
        refine T_then ?_
        refine T_seq ?_
        refine T_region (is := [0, 1, 2]) rfl fun kn kp hn hp => ?_
        refine T_op rfl rfl fun kc hc => ?_
        simp; refine hc _ ?_; clear hc kc
        refine T_op rfl rfl fun kc hc => ?_
        simp; refine hc _ ?_; clear hc kc
        refine T_op rfl rfl fun kc hc => ?_
        simp; refine hc _ ?_; clear hc kc
        refine T_end (hn _ ?_); clear hn hp kn kp
        refine T_then ?_
        refine T_region (is := [0, 1, 2, 3, 4, 5, 6]) rfl fun kn kp hn hp => ?_
        refine T_op rfl rfl fun kc hc => ?_
        simp; refine hc _ ?_; clear hc kc
        refine T_op rfl rfl fun kc hc => ?_
        simp; refine hc _ ?_; clear hc kc
        refine T_op rfl rfl fun kc hc => ?_
        simp; refine hc _ ?_; clear hc kc
        refine T_op rfl rfl fun kc hc => ?_
        simp; refine hc _ ?_; clear hc kc
        refine T_op rfl rfl fun kc hc => ?_
        simp [e7, hml]; refine hc _ ?_; clear hc kc
        refine T_op rfl rfl fun kc hc => ?_
        simp; refine hc _ ?_; clear hc kc
        refine T_op rfl rfl fun kc hc => ?_
        simp; refine hc _ ?_; clear hc kc
        refine T_end (hn _ ?_); clear hn hp kn kp
        refine X_blockN ?_
        refine T_then ?_
        refine T_region (is := [0, 1, 2]) rfl fun kn kp hn hp => ?_
        refine T_op rfl rfl fun kc hc => ?_
        simp; refine hc _ ?_; clear hc kc
        refine T_op rfl rfl fun kc hc => ?_
        simp [ez]; refine hc _ ?_; clear hc kc
        refine T_op rfl rfl fun kc hc => ?_
        simp; refine hc _ ?_; clear hc kc
        refine T_end (hn _ ?_); clear hn hp kn kp
        exact X_loopN (z + 1) (Ent.sub [1, 2, 6, 7, 8] [0, 1, 2, 8] (by simp [sub, subSl, subHp, place, mp, mpL, mpO, mpG, ez, mapX_next hxy, courseX, Bool.and_assoc])) hz' (by omega)
      · skip
        have hz' : z = c.courses.length := by simp at b5; omega
        subst hz'
        refine T_exit ?_
        refine X_thenE ?_
        refine X_loopE ?_
        refine X_hit ?_
        refine T_then ?_
        refine T_seq ?_
        refine T_region (is := [0, 1, 2]) rfl fun kn kp hn hp => ?_
        refine T_op rfl rfl fun kc hc => ?_
        simp; refine hc _ ?_; clear hc kc
        refine T_op rfl rfl fun kc hc => ?_
        simp; refine hc _ ?_; clear hc kc
        refine T_op rfl rfl fun kc hc => ?_
        simp; refine hc _ ?_; clear hc kc
        refine T_end (hn _ ?_); clear hn hp kn kp
        refine T_then ?_
        refine T_seq ?_
        refine T_seq ?_
        refine T_region (is := [0]) rfl fun kn kp hn hp => ?_
        refine T_op rfl rfl fun kc hc => ?_
        simp; refine hc _ ?_; clear hc kc
        refine T_end (hn _ ?_); clear hn hp kn kp
        refine T_then ?_
        refine T_block ?_
        refine T_loop (fun z : Nat => { sl := [(1, .ptr 0 0), (2, .ptr 1 0), (6, .ptr 2 0), (7, .dat (bV ((mapX (courseX c) c.courses).2 && (mapX (pairX c) (c.same.take z)).2))), (14, .dat (iD z))], hp := [(0, .var ((catD c).map .dat)), (1, .var [.dat nilS, .dat nilS, .dat nilS, .dat nilS, .dat nilS, .dat nilS, .dat nilS]), (2, .var [.own 3 16 c.courses.length, .own 4 4 z, .dat (.sl 7 (c.progs.map progD)), .dat (.sl 4 (c.classes.map classD)), .dat (.sl 2 (c.fees.map feeD)), .dat (.sl 4 (c.honours.map classD)), .dat (.sl 4 (c.clauses.map clauseD))]), (3, .row 41 16 ((mapX (courseX c) c.courses).1.map courseD)), (4, .row 51 4 ((mapX (pairX c) (c.same.take z)).1.map pairD))], nx := 5 }) (fun z => z ≤ c.same.length) (fun z => c.same.length - z) 0 (Ent.sub [1, 2, 6, 7, 14] [0, 1, 2, 3, 4] (by simp [sub, subSl, subHp, place, mp, mpL, mpO, mpG, mapX_nil])) (Nat.zero_le _) fun z hz => ?_
        refine T_seq ?_
        refine T_seq ?_
        refine T_region (is := [0, 1, 2, 3, 4]) rfl fun kn kp hn hp => ?_
        refine T_op rfl rfl fun kc hc => ?_
        simp; refine hc _ ?_; clear hc kc
        refine T_op rfl rfl fun kc hc => ?_
        simp; refine hc _ ?_; clear hc kc
        refine T_op rfl rfl fun kc hc => ?_
        simp; refine hc _ ?_; clear hc kc
        refine T_op rfl rfl fun kc hc => ?_
        simp; refine hc _ ?_; clear hc kc
        refine T_op rfl rfl fun kc hc => ?_
        simp; refine hc _ ?_; clear hc kc
        refine T_end (hn _ ?_); clear hn hp kn kp
        refine T_then ?_
        refine T_cond rfl (fun b6 => ?_) (fun b6 => ?_)
        · skip
          have hz' : z < c.same.length := by simpa using b6
          obtain ⟨s, hxs⟩ : ∃ x, c.same[z]? = some x := ⟨_, List.getElem?_eq_getElem hz'⟩
          have ez : IntKind.i64.wrap ((z : Int) + 1) = (z : Int) + 1 := wr1 hz' (by omega)
          have hml : (mapX (pairX c) (c.same.take z)).1.length = z := by rw [mapX_len]; simp; omega
          have e7 : (z + 1) * 48 ≤ big := by simp only [big]; omega
          refine T_skip ?_
          refine T_then ?_
          refine T_seq ?_
          refine T_block ?_
          refine T_seq ?_
          refine T_region (is := [0, 1, 2, 3, 4, 5, 6]) rfl fun kn kp hn hp => ?_
          refine T_op rfl rfl fun kc hc => ?_
          simp; refine hc _ ?_; clear hc kc
          refine T_op rfl rfl fun kc hc => ?_
          simp; refine hc _ ?_; clear hc kc
          refine T_op rfl rfl fun kc hc => ?_
          simp; refine hc _ ?_; clear hc kc
          refine T_op rfl rfl fun kc hc => ?_
          simp [hxs]; refine hc _ ?_; clear hc kc
          refine T_op rfl rfl fun kc hc => ?_
          simp [hxs]; refine hc _ ?_; clear hc kc
          refine T_op rfl rfl fun kc hc => ?_
          simp; refine hc _ ?_; clear hc kc
          refine T_op rfl rfl fun kc hc => ?_
          simp; refine hc _ ?_; clear hc kc
          refine T_end (hn _ ?_); clear hn hp kn kp
          refine T_then ?_
          refine T_seq ?_
          refine T_region (is := [0, 1, 2, 3, 4, 5, 6, 7, 8, 9, 10]) rfl fun kn kp hn hp => ?_
          refine T_op rfl rfl fun kc hc => ?_
          simp; refine hc _ ?_; clear hc kc
          refine T_op rfl rfl fun kc hc => ?_
          simp; refine hc _ ?_; clear hc kc
          refine T_op rfl rfl fun kc hc => ?_
          simp; refine hc _ ?_; clear hc kc
          refine T_op rfl rfl fun kc hc => ?_
          simp; refine hc _ ?_; clear hc kc
          refine T_op rfl rfl fun kc hc => ?_
          simp; refine hc _ ?_; clear hc kc
          refine T_op rfl rfl fun kc hc => ?_
          simp
          refine CallS.dat (walk52 c s.a s.x h1) (rfl) rfl rfl rfl ?_
          simp [enum]; refine hc _ ?_; clear hc kc
          refine T_op rfl rfl fun kc hc => ?_
          simp; refine hc _ ?_; clear hc kc
          refine T_op rfl rfl fun kc hc => ?_
          simp; refine hc _ ?_; clear hc kc
          refine T_op rfl rfl fun kc hc => ?_
          simp; refine hc _ ?_; clear hc kc
          refine T_op rfl rfl fun kc hc => ?_
          simp; refine hc _ ?_; clear hc kc
          refine T_op rfl rfl fun kc hc => ?_
          simp; refine hc _ ?_; clear hc kc
          refine T_end (hn _ ?_); clear hn hp kn kp
          refine T_then ?_
          refine T_seq ?_
          refine T_region (is := [0, 1, 2, 3, 4, 5, 6, 7, 8, 9, 10]) rfl fun kn kp hn hp => ?_
          refine T_op rfl rfl fun kc hc => ?_
          simp; refine hc _ ?_; clear hc kc
          refine T_op rfl rfl fun kc hc => ?_
          simp; refine hc _ ?_; clear hc kc
          refine T_op rfl rfl fun kc hc => ?_
          simp; refine hc _ ?_; clear hc kc
          refine T_op rfl rfl fun kc hc => ?_
          simp; refine hc _ ?_; clear hc kc
          refine T_op rfl rfl fun kc hc => ?_
          simp; refine hc _ ?_; clear hc kc
          refine T_op rfl rfl fun kc hc => ?_
          simp
          refine CallS.dat (walk52 c s.b s.y h1) (rfl) rfl rfl rfl ?_
          simp [enum]; refine hc _ ?_; clear hc kc
          refine T_op rfl rfl fun kc hc => ?_
          simp; refine hc _ ?_; clear hc kc
          refine T_op rfl rfl fun kc hc => ?_
          simp; refine hc _ ?_; clear hc kc
          refine T_op rfl rfl fun kc hc => ?_
          simp; refine hc _ ?_; clear hc kc
          refine T_op rfl rfl fun kc hc => ?_
          simp; refine hc _ ?_; clear hc kc
          refine T_op rfl rfl fun kc hc => ?_
          simp; refine hc _ ?_; clear hc kc
          refine T_end (hn _ ?_); clear hn hp kn kp
          refine T_then ?_
          refine T_seq ?_
          refine T_region (is := [0, 1, 2, 3, 4, 5, 6, 7]) rfl fun kn kp hn hp => ?_
          refine T_op rfl rfl fun kc hc => ?_
          simp; refine hc _ ?_; clear hc kc
          refine T_op rfl rfl fun kc hc => ?_
          simp; refine hc _ ?_; clear hc kc
          refine T_pure rfl (pstep_one rfl rfl rfl rfl fun g0 => .op rfl (by simp [g0]; rfl)) fun kc hc => ?_
          simp; refine hc _ ?_; clear hc kc
          refine T_op rfl rfl fun kc hc => ?_
          simp; refine hc _ ?_; clear hc kc
          refine T_op rfl rfl fun kc hc => ?_
          simp; refine hc _ ?_; clear hc kc
          refine T_pure rfl (pstep_one rfl rfl rfl rfl fun g0 => .op rfl (by simp [g0]; rfl)) fun kc hc => ?_
          simp; refine hc _ ?_; clear hc kc
          refine T_op rfl rfl fun kc hc => ?_
          simp; refine hc _ ?_; clear hc kc
          refine T_op rfl rfl fun kc hc => ?_
          simp; refine hc _ ?_; clear hc kc
          refine T_end (hn _ ?_); clear hn hp kn kp
          refine T_then ?_
          refine T_seq ?_
          refine T_region (is := [0, 1, 2]) rfl fun kn kp hn hp => ?_
          refine T_op rfl rfl fun kc hc => ?_
          simp; refine hc _ ?_; clear hc kc
          refine T_op rfl rfl fun kc hc => ?_
          simp; refine hc _ ?_; clear hc kc
          refine T_op rfl rfl fun kc hc => ?_
          simp; refine hc _ ?_; clear hc kc
          refine T_end (hn _ ?_); clear hn hp kn kp
          refine T_then ?_
          refine T_seq ?_
          refine T_region (is := [0, 1, 2]) rfl fun kn kp hn hp => ?_
          refine T_op rfl rfl fun kc hc => ?_
          simp; refine hc _ ?_; clear hc kc
          refine T_op rfl rfl fun kc hc => ?_
          simp; refine hc _ ?_; clear hc kc
          refine T_op rfl rfl fun kc hc => ?_
          simp; refine hc _ ?_; clear hc kc
          refine T_end (hn _ ?_); clear hn hp kn kp
          refine T_then ?_
          refine T_region (is := [0, 1, 2, 3, 4, 5, 6]) rfl fun kn kp hn hp => ?_
          refine T_op rfl rfl fun kc hc => ?_
          simp; refine hc _ ?_; clear hc kc
          refine T_op rfl rfl fun kc hc => ?_
          simp; refine hc _ ?_; clear hc kc
          refine T_op rfl rfl fun kc hc => ?_
          simp; refine hc _ ?_; clear hc kc
          refine T_op rfl rfl fun kc hc => ?_
          simp; refine hc _ ?_; clear hc kc
          refine T_op rfl rfl fun kc hc => ?_
          simp [e7, hml]; refine hc _ ?_; clear hc kc
          refine T_op rfl rfl fun kc hc => ?_
          simp; refine hc _ ?_; clear hc kc
          refine T_op rfl rfl fun kc hc => ?_
          simp; refine hc _ ?_; clear hc kc
          refine T_end (hn _ ?_); clear hn hp kn kp
          refine X_blockN ?_
          refine T_then ?_
          refine T_region (is := [0, 1, 2]) rfl fun kn kp hn hp => ?_
          refine T_op rfl rfl fun kc hc => ?_
          simp; refine hc _ ?_; clear hc kc
          refine T_op rfl rfl fun kc hc => ?_
          simp [ez]; refine hc _ ?_; clear hc kc
          refine T_op rfl rfl fun kc hc => ?_
          simp; refine hc _ ?_; clear hc kc
          refine T_end (hn _ ?_); clear hn hp kn kp
          exact X_loopN (z + 1) (Ent.sub [1, 2, 6, 7, 14] [0, 1, 2, 3, 7] (by simp [sub, subSl, subHp, place, mp, mpL, mpO, mpG, ez, mapX_next hxs, pairX, Bool.and_assoc])) hz' (by omega)
        · skip
          have hz' : z = c.same.length := by simp at b6; omega
          subst hz'
          refine T_exit ?_
          refine X_thenE ?_
          refine X_loopE ?_
          refine X_hit ?_
          refine T_then ?_
          refine T_seq ?_
          refine T_region (is := [0, 1, 2]) rfl fun kn kp hn hp => ?_
          refine T_op rfl rfl fun kc hc => ?_
          simp; refine hc _ ?_; clear hc kc
          refine T_op rfl rfl fun kc hc => ?_
          simp; refine hc _ ?_; clear hc kc
          refine T_op rfl rfl fun kc hc => ?_
          simp; refine hc _ ?_; clear hc kc
          refine T_end (hn _ ?_); clear hn hp kn kp
          refine T_then ?_
          refine T_seq ?_
          refine T_seq ?_
          refine T_region (is := [0]) rfl fun kn kp hn hp => ?_
          refine T_op rfl rfl fun kc hc => ?_
          simp; refine hc _ ?_; clear hc kc
          refine T_end (hn _ ?_); clear hn hp kn kp
          refine T_then ?_
          refine T_block ?_
          refine T_loop (fun u : Nat => { sl := [(1, .ptr 0 0), (2, .ptr 1 0), (6, .ptr 2 0), (7, .dat (bV (((mapX (courseX c) c.courses).2 && (mapX (pairX c) c.same).2) && (mapX (progX c) (c.progs.take u)).2))), (20, .dat (iD u))], hp := [(0, .var ((catD c).map .dat)), (1, .var [.dat nilS, .dat nilS, .dat nilS, .dat nilS, .dat nilS, .dat nilS, .dat nilS]), (2, .var [.own 3 16 c.courses.length, .own 4 4 c.same.length, .own 5 7 u, .dat (.sl 4 (c.classes.map classD)), .dat (.sl 2 (c.fees.map feeD)), .dat (.sl 4 (c.honours.map classD)), .dat (.sl 4 (c.clauses.map clauseD))]), (3, .row 41 16 ((mapX (courseX c) c.courses).1.map courseD)), (4, .row 51 4 ((mapX (pairX c) c.same).1.map pairD)), (5, .row 62 7 ((mapX (progX c) (c.progs.take u)).1.map progD))], nx := 6 }) (fun u => u ≤ c.progs.length) (fun u => c.progs.length - u) 0 (Ent.sub [1, 2, 6, 7, 20] [0, 1, 2, 3, 4, 5] (by simp [sub, subSl, subHp, place, mp, mpL, mpO, mpG, mapX_nil])) (Nat.zero_le _) fun u hu => ?_
          refine T_seq ?_
          refine T_seq ?_
          refine T_region (is := [0, 1, 2, 3, 4]) rfl fun kn kp hn hp => ?_
          refine T_op rfl rfl fun kc hc => ?_
          simp; refine hc _ ?_; clear hc kc
          refine T_op rfl rfl fun kc hc => ?_
          simp; refine hc _ ?_; clear hc kc
          refine T_op rfl rfl fun kc hc => ?_
          simp; refine hc _ ?_; clear hc kc
          refine T_op rfl rfl fun kc hc => ?_
          simp; refine hc _ ?_; clear hc kc
          refine T_op rfl rfl fun kc hc => ?_
          simp; refine hc _ ?_; clear hc kc
          refine T_end (hn _ ?_); clear hn hp kn kp
          refine T_then ?_
          refine T_cond rfl (fun b7 => ?_) (fun b7 => ?_)
          · skip
            have hz' : u < c.progs.length := by simpa using b7
            obtain ⟨p, hxp⟩ : ∃ x, c.progs[u]? = some x := ⟨_, List.getElem?_eq_getElem hz'⟩
            have eu : IntKind.i64.wrap ((u : Int) + 1) = (u : Int) + 1 := wr1 hz' (by omega)
            have hul := hz'
            have hpr := hf.reqs p (List.mem_of_getElem? hxp)
            have hml : (mapX (progX c) (c.progs.take u)).1.length = u := by rw [mapX_len]; simp; omega
            have e7 : (u + 1) * 80 ≤ big := by simp only [big]; omega
            clear hz'
            refine T_skip ?_
            refine T_then ?_
            refine T_seq ?_
            refine T_block ?_
            refine T_seq ?_
            refine T_region (is := [0, 1, 2, 3, 4, 5, 6]) rfl fun kn kp hn hp => ?_
            refine T_op rfl rfl fun kc hc => ?_
            simp; refine hc _ ?_; clear hc kc
            refine T_op rfl rfl fun kc hc => ?_
            simp; refine hc _ ?_; clear hc kc
            refine T_op rfl rfl fun kc hc => ?_
            simp; refine hc _ ?_; clear hc kc
            refine T_op rfl rfl fun kc hc => ?_
            simp [hxp]; refine hc _ ?_; clear hc kc
            refine T_op rfl rfl fun kc hc => ?_
            simp; refine hc _ ?_; clear hc kc
            refine T_op rfl rfl fun kc hc => ?_
            simp; refine hc _ ?_; clear hc kc
            refine T_op rfl rfl fun kc hc => ?_
            simp; refine hc _ ?_; clear hc kc
            refine T_end (hn _ ?_); clear hn hp kn kp
            refine T_then ?_
            refine T_seq ?_
            refine T_region (is := [0, 1, 2]) rfl fun kn kp hn hp => ?_
            refine T_op rfl rfl fun kc hc => ?_
            simp; refine hc _ ?_; clear hc kc
            refine T_op rfl rfl fun kc hc => ?_
            simp; refine hc _ ?_; clear hc kc
            refine T_op rfl rfl fun kc hc => ?_
            simp; refine hc _ ?_; clear hc kc
            refine T_end (hn _ ?_); clear hn hp kn kp
            refine T_then ?_
            refine T_seq ?_
            refine T_seq ?_
            refine T_region (is := [0]) rfl fun kn kp hn hp => ?_
            refine T_op rfl rfl fun kc hc => ?_
            simp; refine hc _ ?_; clear hc kc
            refine T_end (hn _ ?_); clear hn hp kn kp
            refine T_then ?_
            refine T_block ?_
            refine T_loop (fun v : Nat => { sl := [(1, .ptr 0 0), (2, .ptr 1 0), (6, .ptr 2 0), (7, .dat (bV ((((mapX (courseX c) c.courses).2 && (mapX (pairX c) c.same).2) && (mapX (progX c) (c.progs.take u)).2) && (mapX (reqX c) (p.reqs.take v)).2))), (20, .dat (iD u)), (21, .ptr 6 0), (22, .dat (iD v))], hp := [(0, .var ((catD c).map .dat)), (1, .var [.dat nilS, .dat nilS, .dat nilS, .dat nilS, .dat nilS, .dat nilS, .dat nilS]), (2, .var [.own 3 16 c.courses.length, .own 4 4 c.same.length, .own 5 7 u, .dat (.sl 4 (c.classes.map classD)), .dat (.sl 2 (c.fees.map feeD)), .dat (.sl 4 (c.honours.map classD)), .dat (.sl 4 (c.clauses.map clauseD))]), (3, .row 41 16 ((mapX (courseX c) c.courses).1.map courseD)), (4, .row 51 4 ((mapX (pairX c) c.same).1.map pairD)), (5, .row 62 7 ((mapX (progX c) (c.progs.take u)).1.map progD)), (6, .var [.dat (sD p.name), .dat (iD p.number), .dat (iD p.uses), .dat (iD p.earn), .dat (iD p.num), .dat (iD p.den), .own 7 6 v]), (7, .row 64 6 ((mapX (reqX c) (p.reqs.take v)).1.map reqD))], nx := 8 }) (fun v => v ≤ p.reqs.length) (fun v => p.reqs.length - v) 0 (Ent.sub [1, 2, 6, 7, 20, 21, 22] [0, 1, 2, 3, 4, 5, 6, 7] (by simp [sub, subSl, subHp, place, mp, mpL, mpO, mpG, mapX_nil])) (Nat.zero_le _) fun v hv => ?_
            refine T_seq ?_
            refine T_seq ?_
            refine T_region (is := [0, 1, 2, 3, 4, 5, 6, 7, 8]) rfl fun kn kp hn hp => ?_
            refine T_op rfl rfl fun kc hc => ?_
            simp; refine hc _ ?_; clear hc kc
            refine T_op rfl rfl fun kc hc => ?_
            simp; refine hc _ ?_; clear hc kc
            refine T_op rfl rfl fun kc hc => ?_
            simp; refine hc _ ?_; clear hc kc
            refine T_op rfl rfl fun kc hc => ?_
            simp; refine hc _ ?_; clear hc kc
            refine T_op rfl rfl fun kc hc => ?_
            simp [hxp]; refine hc _ ?_; clear hc kc
            refine T_op rfl rfl fun kc hc => ?_
            simp; refine hc _ ?_; clear hc kc
            refine T_op rfl rfl fun kc hc => ?_
            simp; refine hc _ ?_; clear hc kc
            refine T_op rfl rfl fun kc hc => ?_
            simp; refine hc _ ?_; clear hc kc
            refine T_op rfl rfl fun kc hc => ?_
            simp; refine hc _ ?_; clear hc kc
            refine T_end (hn _ ?_); clear hn hp kn kp
            refine T_then ?_
            refine T_cond rfl (fun b8 => ?_) (fun b8 => ?_)
            · skip
              have hz' : v < p.reqs.length := by simpa using b8
              obtain ⟨q, hxq⟩ : ∃ x, p.reqs[v]? = some x := ⟨_, List.getElem?_eq_getElem hz'⟩
              have ev : IntKind.i64.wrap ((v : Int) + 1) = (v : Int) + 1 := wr1 hz' (by omega)
              have hvl := hz'
              have hpq := hpr.2 q (List.mem_of_getElem? hxq)
              have hqa := arg_no hA hxp hxq
              have hmq : (mapX (reqX c) (p.reqs.take v)).1.length = v := by rw [mapX_len]; simp; omega
              have e8 : (v + 1) * 88 ≤ big := by simp only [big]; omega
              clear hz'
              refine T_skip ?_
              refine T_then ?_
              refine T_seq ?_
              refine T_block ?_
              refine T_seq ?_
              refine T_region (is := [0, 1, 2, 3, 4, 5, 6, 7, 8, 9, 10]) rfl fun kn kp hn hp => ?_
              refine T_op rfl rfl fun kc hc => ?_
              simp; refine hc _ ?_; clear hc kc
              refine T_op rfl rfl fun kc hc => ?_
              simp; refine hc _ ?_; clear hc kc
              refine T_op rfl rfl fun kc hc => ?_
              simp; refine hc _ ?_; clear hc kc
              refine T_op rfl rfl fun kc hc => ?_
              simp [hxp]; refine hc _ ?_; clear hc kc
              refine T_op rfl rfl fun kc hc => ?_
              simp; refine hc _ ?_; clear hc kc
              refine T_op rfl rfl fun kc hc => ?_
              simp; refine hc _ ?_; clear hc kc
              refine T_op rfl rfl fun kc hc => ?_
              simp; refine hc _ ?_; clear hc kc
              refine T_op rfl rfl fun kc hc => ?_
              simp [hxq]; refine hc _ ?_; clear hc kc
              refine T_op rfl rfl fun kc hc => ?_
              simp; refine hc _ ?_; clear hc kc
              refine T_op rfl rfl fun kc hc => ?_
              simp; refine hc _ ?_; clear hc kc
              refine T_op rfl rfl fun kc hc => ?_
              simp; refine hc _ ?_; clear hc kc
              refine T_end (hn _ ?_); clear hn hp kn kp
              refine T_then ?_
              refine T_seq ?_
              refine T_region (is := [0, 1]) rfl fun kn kp hn hp => ?_
              refine T_op rfl rfl fun kc hc => ?_
              simp; refine hc _ ?_; clear hc kc
              refine T_op rfl rfl fun kc hc => ?_
              simp; refine hc _ ?_; clear hc kc
              refine T_end (hn _ ?_); clear hn hp kn kp
              refine T_then ?_
              refine T_seq ?_
              refine T_seq ?_
              refine T_region (is := [0]) rfl fun kn kp hn hp => ?_
              refine T_op rfl rfl fun kc hc => ?_
              simp; refine hc _ ?_; clear hc kc
              refine T_end (hn _ ?_); clear hn hp kn kp
              refine T_then ?_
              refine T_block ?_
              refine T_loop (fun j : Nat => { sl := [(1, .ptr 0 0), (2, .ptr 1 0), (6, .ptr 2 0), (7, .dat (bV (((((mapX (courseX c) c.courses).2 && (mapX (pairX c) c.same).2) && (mapX (progX c) (c.progs.take u)).2) && (mapX (reqX c) (p.reqs.take v)).2) && (numsR c (q.names.take j) (q.frm.take j)).2))), (20, .dat (iD u)), (21, .ptr 6 0), (22, .dat (iD v)), (23, .ptr 8 0), (24, .own 9 1 j), (25, .dat (iD j))], hp := [(0, .var ((catD c).map .dat)), (1, .var [.dat nilS, .dat nilS, .dat nilS, .dat nilS, .dat nilS, .dat nilS, .dat nilS]), (2, .var [.own 3 16 c.courses.length, .own 4 4 c.same.length, .own 5 7 u, .dat (.sl 4 (c.classes.map classD)), .dat (.sl 2 (c.fees.map feeD)), .dat (.sl 4 (c.honours.map classD)), .dat (.sl 4 (c.clauses.map clauseD))]), (3, .row 41 16 ((mapX (courseX c) c.courses).1.map courseD)), (4, .row 51 4 ((mapX (pairX c) c.same).1.map pairD)), (5, .row 62 7 ((mapX (progX c) (c.progs.take u)).1.map progD)), (6, .var [.dat (sD p.name), .dat (iD p.number), .dat (iD p.uses), .dat (iD p.earn), .dat (iD p.num), .dat (iD p.den), .own 7 6 v]), (7, .row 64 6 ((mapX (reqX c) (p.reqs.take v)).1.map reqD)), (8, .var ((reqD q).map .dat)), (9, .row 3 1 ((numsR c (q.names.take j) (q.frm.take j)).1.map fun n => [iD n]))], nx := 10 }) (fun j => j ≤ q.frm.length) (fun j => q.frm.length - j) 0 (Ent.sub [1, 2, 6, 7, 20, 21, 22, 23, 24, 25] [0, 1, 2, 3, 4, 5, 6, 7, 8, 9] (by simp [sub, subSl, subHp, place, mp, mpL, mpO, mpG, numsR])) (Nat.zero_le _) fun j hj => ?_
              refine T_seq ?_
              refine T_seq ?_
              refine T_region (is := [0, 1, 2, 3, 4]) rfl fun kn kp hn hp => ?_
              refine T_op rfl rfl fun kc hc => ?_
              simp; refine hc _ ?_; clear hc kc
              refine T_op rfl rfl fun kc hc => ?_
              simp; refine hc _ ?_; clear hc kc
              refine T_op rfl rfl fun kc hc => ?_
              simp; refine hc _ ?_; clear hc kc
              refine T_op rfl rfl fun kc hc => ?_
              simp; refine hc _ ?_; clear hc kc
              refine T_op rfl rfl fun kc hc => ?_
              simp; refine hc _ ?_; clear hc kc
              refine T_end (hn _ ?_); clear hn hp kn kp
              refine T_then ?_
              refine T_cond rfl (fun b9 => ?_) (fun b9 => ?_)
              · skip
                have hz' : j < q.frm.length := by simpa using b9
                obtain ⟨f, hxf⟩ : ∃ x, q.frm[j]? = some x := ⟨_, List.getElem?_eq_getElem hz'⟩
                have ej : IntKind.i64.wrap ((j : Int) + 1) = (j : Int) + 1 := wr1 hz' (by omega)
                obtain ⟨n, hxn⟩ : ∃ n, q.names[j]? = some n := ⟨_, List.getElem?_eq_getElem (by omega)⟩
                have hmn : (numsR c (q.names.take j) (q.frm.take j)).1.length = j := by rw [numsR_len _ _ _ (by simp; omega)]; simp; omega
                have e9 : (j + 1) * 8 ≤ big := by simp only [big]; omega
                refine T_skip ?_
                refine T_then ?_
                refine T_seq ?_
                refine T_block ?_
                refine T_seqDraw (is := [0, 1, 2, 3, 4, 5, 6, 7, 8, 9, 10, 11, 12, 13, 14, 15, 16]) rfl (by kernel_rfl) fun kn hn => ?_
                refine D_op rfl rfl rfl rfl fun kc hc => ?_
                simp; refine hc _ ?_; clear hc kc
                refine D_op rfl rfl rfl rfl fun kc hc => ?_
                simp; refine hc _ ?_; clear hc kc
                refine D_op rfl rfl rfl rfl fun kc hc => ?_
                simp; refine hc _ ?_; clear hc kc
                refine D_op rfl rfl rfl rfl fun kc hc => ?_
                simp; refine hc _ ?_; clear hc kc
                refine D_op rfl rfl rfl rfl fun kc hc => ?_
                simp [hxn]; refine hc _ ?_; clear hc kc
                refine D_op rfl rfl rfl rfl fun kc hc => ?_
                simp; refine hc _ ?_; clear hc kc
                refine D_op rfl rfl rfl rfl fun kc hc => ?_
                simp; refine hc _ ?_; clear hc kc
                refine D_op rfl rfl rfl rfl fun kc hc => ?_
                simp; refine hc _ ?_; clear hc kc
                refine D_op rfl rfl rfl rfl fun kc hc => ?_
                simp; refine hc _ ?_; clear hc kc
                refine D_op rfl rfl rfl rfl fun kc hc => ?_
                simp [hxf]; refine hc _ ?_; clear hc kc
                refine D_op rfl rfl rfl rfl fun kc hc => ?_
                simp; refine hc _ ?_; clear hc kc
                refine D_call rfl rfl rfl (by simp <;> first | exact ⟨rfl, rfl⟩ | rfl) (Does.datTup (ds := [iD _, bV _]) (walk52 c n f h1)) (by rfl) rfl fun kc hc => ?_
                simp [enum]; refine hc _ ?_; clear hc kc
                refine D_op rfl rfl rfl rfl fun kc hc => ?_
                simp; refine hc _ ?_; clear hc kc
                refine D_op rfl rfl rfl rfl fun kc hc => ?_
                simp; refine hc _ ?_; clear hc kc
                refine D_op rfl rfl rfl rfl fun kc hc => ?_
                simp; refine hc _ ?_; clear hc kc
                refine D_op rfl rfl rfl rfl fun kc hc => ?_
                simp; refine hc _ ?_; clear hc kc
                refine D_op rfl rfl rfl rfl fun kc hc => ?_
                simp; refine hc _ ?_; clear hc kc
                refine D_end rfl (by kernel_rfl) (hn _ ?_); clear hn kn
                refine T_seq ?_
                refine T_region (is := [0, 1, 2, 3, 4]) rfl fun kn kp hn hp => ?_
                refine T_op rfl rfl fun kc hc => ?_
                simp; refine hc _ ?_; clear hc kc
                refine T_op rfl rfl fun kc hc => ?_
                simp; refine hc _ ?_; clear hc kc
                refine T_pure rfl (pstep_one rfl rfl rfl rfl fun g0 => .op rfl (by simp [g0]; rfl)) fun kc hc => ?_
                simp; refine hc _ ?_; clear hc kc
                refine T_op rfl rfl fun kc hc => ?_
                simp; refine hc _ ?_; clear hc kc
                refine T_op rfl rfl fun kc hc => ?_
                simp; refine hc _ ?_; clear hc kc
                refine T_end (hn _ ?_); clear hn hp kn kp
                refine T_then ?_
                refine T_region (is := [0, 1, 2, 3, 4]) rfl fun kn kp hn hp => ?_
                refine T_op rfl rfl fun kc hc => ?_
                simp; refine hc _ ?_; clear hc kc
                refine T_op rfl rfl fun kc hc => ?_
                simp; refine hc _ ?_; clear hc kc
                refine T_op rfl rfl fun kc hc => ?_
                simp; refine hc _ ?_; clear hc kc
                refine T_op rfl rfl fun kc hc => ?_
                simp [e9, hmn]; refine hc _ ?_; clear hc kc
                refine T_op rfl rfl fun kc hc => ?_
                simp; refine hc _ ?_; clear hc kc
                refine T_end (hn _ ?_); clear hn hp kn kp
                refine X_blockN ?_
                refine T_then ?_
                refine T_region (is := [0, 1, 2]) rfl fun kn kp hn hp => ?_
                refine T_op rfl rfl fun kc hc => ?_
                simp; refine hc _ ?_; clear hc kc
                refine T_op rfl rfl fun kc hc => ?_
                simp [ej]; refine hc _ ?_; clear hc kc
                refine T_op rfl rfl fun kc hc => ?_
                simp; refine hc _ ?_; clear hc kc
                refine T_end (hn _ ?_); clear hn hp kn kp
                exact X_loopN (j + 1) (Ent.sub [1, 2, 6, 7, 20, 21, 22, 23, 24, 25] [0, 1, 2, 3, 4, 5, 6, 7, 8, 11] (by simp [sub, subSl, subHp, place, mp, mpL, mpO, mpG, ej, numsR_next hxn hxf, Bool.and_assoc])) hz' (by omega)
              · skip
                have hz' : j = q.frm.length := by simp at b9; omega
                subst hz'
                have hbf : q.frm.length ≤ big := by simp only [big]; omega
                have hmf := numsR_len c q.names q.frm hqa
                have hnt : q.names.take q.frm.length = q.names := by rw [← hqa, List.take_length]
                have htf : ∀ f : Int → List Dat, List.take q.frm.length ((numsR c q.names q.frm).1.map f) = (numsR c q.names q.frm).1.map f := fun f => List.take_of_length_le (by simp [hmf])
                refine T_exit ?_
                refine X_thenE ?_
                refine X_loopE ?_
                refine X_hit ?_
                refine T_then ?_
                refine T_seq ?_
                refine T_region (is := [0, 1, 2]) rfl fun kn kp hn hp => ?_
                refine T_op rfl rfl fun kc hc => ?_
                simp [hnt]; refine hc _ ?_; clear hc kc
                refine T_op rfl rfl fun kc hc => ?_
                simp; refine hc _ ?_; clear hc kc
                refine T_op rfl rfl fun kc hc => ?_
                simp; refine hc _ ?_; clear hc kc
                refine T_end (hn _ ?_); clear hn hp kn kp
                refine T_then ?_
                refine T_region (is := [0, 1, 2, 3, 4, 5, 6]) rfl fun kn kp hn hp => ?_
                refine T_op rfl rfl fun kc hc => ?_
                simp; refine hc _ ?_; clear hc kc
                refine T_op rfl rfl fun kc hc => ?_
                simp; refine hc _ ?_; clear hc kc
                refine T_op rfl rfl fun kc hc => ?_
                simp; refine hc _ ?_; clear hc kc
                refine T_op rfl rfl fun kc hc => ?_
                simp [giveL, Sx.give, hbf, hmf, htf]; refine hc _ ?_; clear hc kc
                refine T_op rfl rfl fun kc hc => ?_
                simp [e8, hmq]; refine hc _ ?_; clear hc kc
                refine T_op rfl rfl fun kc hc => ?_
                simp; refine hc _ ?_; clear hc kc
                refine T_op rfl rfl fun kc hc => ?_
                simp; refine hc _ ?_; clear hc kc
                refine T_end (hn _ ?_); clear hn hp kn kp
                refine X_blockN ?_
                refine T_then ?_
                refine T_region (is := [0, 1, 2]) rfl fun kn kp hn hp => ?_
                refine T_op rfl rfl fun kc hc => ?_
                simp; refine hc _ ?_; clear hc kc
                refine T_op rfl rfl fun kc hc => ?_
                simp [ev]; refine hc _ ?_; clear hc kc
                refine T_op rfl rfl fun kc hc => ?_
                simp; refine hc _ ?_; clear hc kc
                refine T_end (hn _ ?_); clear hn hp kn kp
                exact X_loopN (v + 1) (Ent.sub [1, 2, 6, 7, 20, 21, 22] [0, 1, 2, 3, 4, 5, 6, 11] (by simp [sub, subSl, subHp, place, mp, mpL, mpO, mpG, ev, mapX_next hxq, reqX, Bool.and_assoc])) hvl (by omega)
            · skip
              have hz' : v = p.reqs.length := by simp at b8; omega
              subst hz'
              have hbr : p.reqs.length ≤ big := by simp only [big]; omega
              have hmr := mapX_len (reqX c) p.reqs
              have htr : ∀ f : Req → List Dat, List.take p.reqs.length ((mapX (reqX c) p.reqs).1.map f) = (mapX (reqX c) p.reqs).1.map f := fun f => List.take_of_length_le (by simp [hmr])
              refine T_exit ?_
              refine X_thenE ?_
              refine X_loopE ?_
              refine X_hit ?_
              refine T_then ?_
              refine T_region (is := [0, 1, 2, 3, 4, 5, 6]) rfl fun kn kp hn hp => ?_
              refine T_op rfl rfl fun kc hc => ?_
              simp; refine hc _ ?_; clear hc kc
              refine T_op rfl rfl fun kc hc => ?_
              simp; refine hc _ ?_; clear hc kc
              refine T_op rfl rfl fun kc hc => ?_
              simp; refine hc _ ?_; clear hc kc
              refine T_op rfl rfl fun kc hc => ?_
              simp [giveL, Sx.give, hbr, hmr, htr]; refine hc _ ?_; clear hc kc
              refine T_op rfl rfl fun kc hc => ?_
              simp [e7, hml]; refine hc _ ?_; clear hc kc
              refine T_op rfl rfl fun kc hc => ?_
              simp; refine hc _ ?_; clear hc kc
              refine T_op rfl rfl fun kc hc => ?_
              simp; refine hc _ ?_; clear hc kc
              refine T_end (hn _ ?_); clear hn hp kn kp
              refine X_blockN ?_
              refine T_then ?_
              refine T_region (is := [0, 1, 2]) rfl fun kn kp hn hp => ?_
              refine T_op rfl rfl fun kc hc => ?_
              simp; refine hc _ ?_; clear hc kc
              refine T_op rfl rfl fun kc hc => ?_
              simp [eu]; refine hc _ ?_; clear hc kc
              refine T_op rfl rfl fun kc hc => ?_
              simp; refine hc _ ?_; clear hc kc
              refine T_end (hn _ ?_); clear hn hp kn kp
              exact X_loopN (u + 1) (Ent.sub [1, 2, 6, 7, 20] [0, 1, 2, 3, 4, 9] (by simp [sub, subSl, subHp, place, mp, mpL, mpO, mpG, eu, mapX_next hxp, progX, Bool.and_assoc])) hul (by omega)
          · skip
            have hz' : u = c.progs.length := by simp at b7; omega
            subst hz'
            have hbc : c.courses.length ≤ big := by simp only [big]; omega
            have hbs : c.same.length ≤ big := by simp only [big]; omega
            have hbp : c.progs.length ≤ big := by simp only [big]; omega
            have hmc := mapX_len (courseX c) c.courses
            have hms := mapX_len (pairX c) c.same
            have hmp := mapX_len (progX c) c.progs
            have htc : ∀ f : Course → List Dat, List.take c.courses.length ((mapX (courseX c) c.courses).1.map f) = (mapX (courseX c) c.courses).1.map f := fun f => List.take_of_length_le (by simp [hmc])
            have hts : ∀ f : Pair → List Dat, List.take c.same.length ((mapX (pairX c) c.same).1.map f) = (mapX (pairX c) c.same).1.map f := fun f => List.take_of_length_le (by simp [hms])
            have htp : ∀ f : Prog → List Dat, List.take c.progs.length ((mapX (progX c) c.progs).1.map f) = (mapX (progX c) c.progs).1.map f := fun f => List.take_of_length_le (by simp [hmp])
            refine T_exit ?_
            refine X_thenE ?_
            refine X_loopE ?_
            refine X_hit ?_
            refine T_then ?_
            refine T_seq ?_
            refine T_seq ?_
            refine T_region (is := [0, 1]) rfl fun kn kp hn hp => ?_
            refine T_op rfl rfl fun kc hc => ?_
            simp; refine hc _ ?_; clear hc kc
            refine T_op rfl rfl fun kc hc => ?_
            simp; refine hc _ ?_; clear hc kc
            refine T_end (hn _ ?_); clear hn hp kn kp
            refine T_then ?_
            refine T_cond rfl (fun b10 => ?_) (fun b10 => ?_)
            · skip
              have hG : goodB c = false := by simp at b10; simp only [goodB]; rcases b10 with (h | h) | h <;> simp [h]
              have hres := res_name hA hT hG
              refine T_seq ?_
              refine T_region (is := [0, 1, 2]) rfl fun kn kp hn hp => ?_
              refine T_op rfl rfl fun kc hc => ?_
              simp; refine hc _ ?_; clear hc kc
              refine T_op rfl rfl fun kc hc => ?_
              simp; refine hc _ ?_; clear hc kc
              refine T_op rfl rfl fun kc hc => ?_
              simp; refine hc _ ?_; clear hc kc
              refine T_end (hn _ ?_); clear hn hp kn kp
              refine T_then ?_
              refine T_ret ?_
              refine X_thenR ?_
              exact finI (Ent.refl _) (by simp [resD, resL, resV]; rfl) (Ent.trans (Ent.giveG (t := 0) (n := 40) (e := .tup [.agg [nilS, nilS, nilS, nilS, nilS, nilS, nilS], iD (110)]) (hp' := _) rfl (by simp [Sx.give, giveL]; rfl)) (Ent.trans (Ent.datG (t := 0) rfl (zeroImp (110))) (Ent.sub [] [] (by simp [sub, subSl, subHp, place, mp, mpL, mpO, mpG]; rfl)))) rfl rfl (by simp [hres])
            · skip
              have hG : goodB c = true := by simp only [goodB]; simpa using b10
              refine T_skip ?_
              refine T_then ?_
              refine T_seq ?_
              refine T_region (is := [0, 1, 2, 3, 4, 5, 6]) rfl fun kn kp hn hp => ?_
              refine T_op rfl rfl fun kc hc => ?_
              simp; refine hc _ ?_; clear hc kc
              refine T_op rfl rfl fun kc hc => ?_
              simp
              refine CallS.dat (walk18 c hf) (rfl) rfl rfl rfl ?_
              simp [enum]; refine hc _ ?_; clear hc kc
              refine T_op rfl rfl fun kc hc => ?_
              simp; refine hc _ ?_; clear hc kc
              refine T_op rfl rfl fun kc hc => ?_
              simp; refine hc _ ?_; clear hc kc
              refine T_op rfl rfl fun kc hc => ?_
              simp; refine hc _ ?_; clear hc kc
              refine T_op rfl rfl fun kc hc => ?_
              simp; refine hc _ ?_; clear hc kc
              refine T_op rfl rfl fun kc hc => ?_
              simp; refine hc _ ?_; clear hc kc
              refine T_end (hn _ ?_); clear hn hp kn kp
              refine T_then ?_
              refine T_seq ?_
              refine T_seq ?_
              refine T_region (is := [0, 1]) rfl fun kn kp hn hp => ?_
              refine T_op rfl rfl fun kc hc => ?_
              simp; refine hc _ ?_; clear hc kc
              refine T_op rfl rfl fun kc hc => ?_
              simp; refine hc _ ?_; clear hc kc
              refine T_end (hn _ ?_); clear hn hp kn kp
              refine T_then ?_
              refine T_cond rfl (fun b11 => ?_) (fun b11 => ?_)
              · skip
                have hO : (orderOf c).2 ≠ 0 := by simpa [bne] using b11
                have hres := res_order hA hT hG hO
                refine T_seq ?_
                refine T_region (is := [0, 1, 2, 3]) rfl fun kn kp hn hp => ?_
                refine T_op rfl rfl fun kc hc => ?_
                simp; refine hc _ ?_; clear hc kc
                refine T_op rfl rfl fun kc hc => ?_
                simp; refine hc _ ?_; clear hc kc
                refine T_op rfl rfl fun kc hc => ?_
                simp; refine hc _ ?_; clear hc kc
                refine T_op rfl rfl fun kc hc => ?_
                simp; refine hc _ ?_; clear hc kc
                refine T_end (hn _ ?_); clear hn hp kn kp
                refine T_then ?_
                refine T_ret ?_
                refine X_thenR ?_
                exact finI (Ent.refl _) (by simp [resD, resL, resV]; rfl) (Ent.trans (Ent.giveG (t := 0) (n := 40) (e := .tup [.agg [nilS, nilS, nilS, nilS, nilS, nilS, nilS], iD ((orderOf c).2)]) (hp' := _) rfl (by simp [Sx.give, giveL]; rfl)) (Ent.trans (Ent.datG (t := 0) rfl (zeroImp ((orderOf c).2))) (Ent.sub [] [] (by simp [sub, subSl, subHp, place, mp, mpL, mpO, mpG]; rfl)))) rfl rfl (by simp [hres])
              · skip
                have hO : (orderOf c).2 = 0 := by simpa [bne] using b11
                have hres := res_ok hA hT hG hO
                refine T_skip ?_
                refine T_then ?_
                refine T_seq ?_
                refine T_region (is := [0, 1, 2]) rfl fun kn kp hn hp => ?_
                refine T_op rfl rfl fun kc hc => ?_
                simp; refine hc _ ?_; clear hc kc
                refine T_op rfl rfl fun kc hc => ?_
                simp; refine hc _ ?_; clear hc kc
                refine T_op rfl rfl fun kc hc => ?_
                simp; refine hc _ ?_; clear hc kc
                refine T_end (hn _ ?_); clear hn hp kn kp
                refine T_then ?_
                refine T_ret ?_
                exact finI (Ent.refl _) (by simp [resD, resL, resV]; rfl) (Ent.trans (Ent.giveG (t := 0) (n := 40) (e := .tup [.agg (catD (resR c)), iD 0]) (hp' := _) rfl (by simp [Sx.give, giveL, hbc, hbs, hbp, hmc, hms, hmp, htc, hts, htp, resR]; rfl)) (Ent.sub [] [] (by simp [sub, subSl, subHp, place, mp, mpL, mpO, mpG]; rfl))) rfl rfl (by simp [hres])
-- END

end Go.Proofs.Ytbkkekbeaabokaa
