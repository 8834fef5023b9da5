/- The names: the examples of the chapter. -/
import Derived.Test.YtbkkekbeaabokaaNo
set_option linter.unusedVariables false
set_option linter.unusedSimpArgs false
namespace Go.Proofs.Ytbkkekbeaabokaa
open Go Go.Proofs.Ytbkkekbeaabokaa.Sx

/-- What 'course' makes. -/
def needN (n : ByteArray) : Rule := .mk 5 0 n 1 0 []
def mkC (name : ByteArray) (number : Int) (needs : List ByteArray) : Course := ⟨name, number, 4, 0, .mk 1 0 eS 0 0 (needs.map needN), .mk 2 0 eS 0 0 []⟩
abbrev kidN (n : ByteArray) : List Dat := [iD 5, iD 0, sD n, iD 1, iD 0, nilS]
abbrev rawC (name : ByteArray) (number : Int) (needs : List ByteArray) : List Dat := [sD name, iD number, iD 4, iD 0, iD 1, iD 0, sD eS, iD 0, iD 0, .sl 6 (needs.map kidN), iD 2, iD 0, sD eS, iD 0, iD 0, nilS]
theorem impC (name : ByteArray) (number : Int) (needs : List ByteArray) : DatImp (.agg (rawC name number needs)) (.agg (courseD (mkC name number needs))) := by
  have h1 : DatImp (.sl 6 (needs.map kidN)) (.sl 6 (kidsD (mkC name number needs).need)) := by
    rw [kidsD_map]
    refine .sl (by simp [mkC, Rule.kids]) (fun i cs cs' h1 h2 => ?_)
    simp only [mkC, Rule.kids, List.getElem?_map, Option.map_eq_some_iff] at h1 h2
    obtain ⟨n, hn, rfl⟩ := h1
    obtain ⟨r, ⟨m, hm, rfl⟩, rfl⟩ := h2
    rw [hn] at hm
    injection hm with hm
    subst hm
    exact .cons (.refl _) (.cons (.refl _) (.cons (.refl _) (.cons (.refl _) (.cons (.refl _) (.cons (.nil 6) .nil)))))
  exact .agg (.cons (.refl _) (.cons (.refl _) (.cons (.refl _) (.cons (.refl _) (.cons (.refl _) (.cons (.refl _) (.cons (.refl _) (.cons (.refl _) (.cons (.refl _) (.cons h1 (.cons (.refl _) (.cons (.refl _) (.cons (.refl _) (.cons (.refl _) (.cons (.refl _) (.cons (.nil 6) .nil))))))))))))))))

-- WALK 25
-- sizar/sizarlaw11.course
theorem walk25 (name : ByteArray) (number : Int) (needs : List ByteArray) (hl : needs.length ≤ 1048576) : Does Try.prog 25 [sD name, iD number, strs needs] (.dat (.agg (courseD (mkC name number needs)))) [] := by
  refine Does.intro [.cell 6 41] Try.func25 rfl (by kernel_rfl) Try.ntmps25 rfl (Nat.le_of_ble_eq_true rfl) ?_
  refine T_seq ?_
  refine T_region (is := [0]) rfl fun kn kp hn hp => ?_
  refine T_op rfl rfl fun kc hc => ?_
  simp; refine hc _ ?_; clear hc kc
  refine T_end (hn _ ?_); clear hn hp kn kp
  refine T_then ?_
  refine T_seq ?_
  refine T_region (is := [0, 1, 2, 3, 4, 5, 6]) rfl fun kn kp hn hp => ?_
  refine T_op rfl rfl fun kc hc => ?_
  simp; refine hc _ ?_; clear hc kc
  refine T_op rfl rfl fun kc hc => ?_
  simp; refine hc _ ?_; clear hc kc
  refine T_op rfl rfl fun kc hc => ?_
  simp; refine hc _ ?_; clear hc kc
  refine T_op rfl rfl fun kc hc => ?_
  simp; refine hc _ ?_; clear hc kc
  refine T_op rfl rfl fun kc hc => ?_
  simp; refine hc _ ?_; clear hc kc
  refine T_op rfl rfl fun kc hc => ?_
  simp; refine hc _ ?_; clear hc kc
  refine T_op rfl rfl fun kc hc => ?_
  simp; refine hc _ ?_; clear hc kc
  refine T_end (hn _ ?_); clear hn hp kn kp
  refine T_then ?_
  refine T_seq ?_
  refine T_seq ?_
  refine T_region (is := [0, 1, 2]) rfl fun kn kp hn hp => ?_
  refine T_op rfl rfl fun kc hc => ?_
  simp; refine hc _ ?_; clear hc kc
  refine T_op rfl rfl fun kc hc => ?_
  simp; refine hc _ ?_; clear hc kc
  refine T_op rfl rfl fun kc hc => ?_
  simp; refine hc _ ?_; clear hc kc
  refine T_end (hn _ ?_); clear hn hp kn kp
  refine T_then ?_
  refine T_block ?_
  refine T_loop (fun z : Nat => { sl := [(6, .ptr 0 0), (7, .ptr 1 0), (15, .dat (strs needs)), (16, .dat (iD needs.length)), (17, .dat (iD z))], hp := [(0, .var [.dat (sD eS), .dat (iD 0), .dat (iD 0), .dat (iD 0), .dat (iD 0), .dat (iD 0), .dat (sD eS), .dat (iD 0), .dat (iD 0), .dat nilS, .dat (iD 0), .dat (iD 0), .dat (sD eS), .dat (iD 0), .dat (iD 0), .dat nilS]), (1, .var [.dat (sD name), .dat (iD number), .dat (iD 4), .dat (iD 0), .dat (iD 1), .dat (iD 0), .dat (sD eS), .dat (iD 0), .dat (iD 0), .own 2 6 z, .dat (iD 2), .dat (iD 0), .dat (sD eS), .dat (iD 0), .dat (iD 0), .dat nilS]), (2, .row 39 6 ((needs.take z).map kidN))], nx := 3 }) (fun z => z ≤ needs.length) (fun z => needs.length - z) 0 (Ent.trans (Ent.nilC (b := 1) (k := 9) 39 6 rfl rfl) (Ent.sub [6, 7, 15, 16, 17] [0, 1, 2] (by simp [sub, subSl, subHp, place, mp, mpL, mpO, mpG]))) (Nat.zero_le _) fun z hz => ?_
  refine T_seq ?_
  refine T_region (is := [0]) rfl fun kn kp hn hp => ?_
  refine T_op rfl rfl fun kc hc => ?_
  simp; refine hc _ ?_; clear hc kc
  refine T_end (hn _ ?_); clear hn hp kn kp
  refine T_then ?_
  refine T_seq ?_
  refine T_cond rfl (fun b1 => ?_) (fun b1 => ?_)
  · skip
    have hz' : z < needs.length := by simpa using b1
    obtain ⟨n, hxn⟩ : ∃ x, needs[z]? = some x := ⟨_, List.getElem?_eq_getElem hz'⟩
    have ez : IntKind.i64.wrap ((z : Int) + 1) = (z : Int) + 1 := wr1 hz' (by omega)
    have e7 : (z + 1) * 72 ≤ big := by simp only [big]; omega
    refine T_skip ?_
    refine T_then ?_
    refine T_seq ?_
    refine T_block ?_
    refine T_seq ?_
    refine T_region (is := [0, 1, 2]) rfl fun kn kp hn hp => ?_
    refine T_op rfl rfl fun kc hc => ?_
    simp [hxn]; refine hc _ ?_; clear hc kc
    refine T_op rfl rfl fun kc hc => ?_
    simp [hxn]; refine hc _ ?_; clear hc kc
    refine T_op rfl rfl fun kc hc => ?_
    simp; refine hc _ ?_; clear hc kc
    refine T_end (hn _ ?_); clear hn hp kn kp
    refine T_then ?_
    refine T_region (is := [0, 1, 2, 3, 4, 5, 6, 7, 8, 9]) rfl fun kn kp hn hp => ?_
    refine T_op rfl rfl fun kc hc => ?_
    simp; refine hc _ ?_; clear hc kc
    refine T_op rfl rfl fun kc hc => ?_
    simp; refine hc _ ?_; clear hc kc
    refine T_op rfl rfl fun kc hc => ?_
    simp; refine hc _ ?_; clear hc kc
    refine T_op rfl rfl fun kc hc => ?_
    simp; refine hc _ ?_; clear hc kc
    refine T_op rfl rfl fun kc hc => ?_
    simp; refine hc _ ?_; clear hc kc
    refine T_op rfl rfl fun kc hc => ?_
    simp; refine hc _ ?_; clear hc kc
    refine T_op rfl rfl fun kc hc => ?_
    simp [e7, Nat.min_eq_left hz]; refine hc _ ?_; clear hc kc
    refine T_op rfl rfl fun kc hc => ?_
    simp; refine hc _ ?_; clear hc kc
    refine T_op rfl rfl fun kc hc => ?_
    simp; refine hc _ ?_; clear hc kc
    refine T_op rfl rfl fun kc hc => ?_
    simp; refine hc _ ?_; clear hc kc
    refine T_end (hn _ ?_); clear hn hp kn kp
    refine X_blockN ?_
    refine T_then ?_
    refine T_region (is := [0, 1]) rfl fun kn kp hn hp => ?_
    refine T_op rfl rfl fun kc hc => ?_
    simp [ez]; refine hc _ ?_; clear hc kc
    refine T_op rfl rfl fun kc hc => ?_
    simp; refine hc _ ?_; clear hc kc
    refine T_end (hn _ ?_); clear hn hp kn kp
    exact X_loopN (z + 1) (Ent.sub [6, 7, 15, 16, 17] [0, 1, 4] (by simp [sub, subSl, subHp, place, mp, mpL, mpO, mpG, ez, take_next hxn])) hz' (by omega)
  · skip
    have hz' : z = needs.length := by simp at b1; omega
    subst hz'
    have hb : needs.length ≤ big := by simp only [big]; omega
    refine T_exit ?_
    refine X_thenE ?_
    refine X_loopE ?_
    refine X_hit ?_
    refine T_then ?_
    refine T_seq ?_
    refine T_region (is := [0, 1]) rfl fun kn kp hn hp => ?_
    refine T_op rfl rfl fun kc hc => ?_
    simp; refine hc _ ?_; clear hc kc
    refine T_op rfl rfl fun kc hc => ?_
    simp; refine hc _ ?_; clear hc kc
    refine T_end (hn _ ?_); clear hn hp kn kp
    refine T_then ?_
    refine T_ret ?_
    exact finI (Ent.refl _) (by simp [resD, resL, resV]; rfl) (Ent.trans (Ent.giveG (t := 0) (n := 40) (e := .agg (rawC name number needs)) (hp' := _) rfl (by simp [Sx.give, giveL, hb]; rfl)) (Ent.trans (Ent.datG (t := 0) rfl (impC name number needs)) (Ent.sub [] [] (by simp [sub, subSl, subHp, place, mp, mpL, mpO, mpG]; rfl)))) rfl rfl (by simp)
-- END

theorem walk25n (name : ByteArray) (number : Int) : Does Try.prog 25 [sD name, iD number, nilS] (.dat (.agg (courseD (mkC name number [])))) [] :=
  (walk25 name number [] (by decide)).imp (.cons (.refl _) (.cons (.refl _) (.cons (.nil 1) .nil)))
abbrev sA : ByteArray := ⟨#[65]⟩
abbrev sB : ByteArray := ⟨#[66]⟩
abbrev sZ : ByteArray := ⟨#[90]⟩
def catC (l : List Course) : Cat := ⟨l, [], [], [], [], [], []⟩
theorem impK (l : List Course) : DatImp (.agg [.sl 16 (l.map courseD), nilS, nilS, nilS, nilS, nilS, nilS]) (.agg (catD (catC l))) :=
  .agg (.cons (.refl _) (.cons (.nil 4) (.cons (.nil 7) (.cons (.nil 4) (.cons (.nil 2) (.cons (.nil 4) (.cons (.nil 4) .nil)))))))
theorem impZ : DatImp (.agg [nilS, nilS, nilS, nilS, nilS, nilS, nilS]) (.agg (catD zeroCat)) :=
  .agg (.cons (.nil 16) (.cons (.nil 4) (.cons (.nil 7) (.cons (.nil 4) (.cons (.nil 2) (.cons (.nil 4) (.cons (.nil 4) .nil)))))))
theorem impZ3 : DatImp (.sl 6 [[iD 9, iD 0, sD sZ, iD 0, iD 0, nilS]]) (.sl 6 (kidsD (.mk 2 0 eS 0 0 [.mk 9 0 sZ 0 0 []]))) :=
  .sl rfl (fun i cs cs' h1 h2 => by
    cases i with
    | succ i => simp at h1
    | zero =>
      simp at h1
      have h2 : ruleD (.mk 9 0 sZ 0 0 []) = cs' := by simpa [kidsD_map, Rule.kids] using h2
      subst h1; subst h2
      exact .cons (.refl _) (.cons (.refl _) (.cons (.refl _) (.cons (.refl _) (.cons (.refl _) (.cons (.nil 6) .nil))))))
theorem fitC {l : List Course} (h1 : l.length ≤ 8) (h2 : ∀ y ∈ l, (partsOf y.need).length ≤ 8 ∧ (partsOf y.bar).length ≤ 8) : (catC l).fit :=
  ⟨Nat.le_trans h1 (by decide), fun y hy => ⟨Nat.le_trans (h2 y hy).1 (by decide), Nat.le_trans (h2 y hy).2 (by decide)⟩, Nat.zero_le _, Nat.zero_le _, fun p hp => by simp [catC] at hp, Nat.zero_le _, Nat.zero_le _, Nat.zero_le _, Nat.zero_le _⟩
abbrev l1 : List Course := [mkC sB 18 [sA], mkC sA 17 []]
abbrev l2 : List Course := [mkC sA 17 [], mkC sB 17 []]
abbrev l3 : List Course := [{ mkC sA 17 [] with bar := .mk 2 0 eS 0 0 [.mk 9 0 sZ 0 0 []] }]
abbrev l4 : List Course := [mkC sA 17 [sA]]
theorem fit1 : (catC l1).fit := fitC (by decide) (by simp; decide)
theorem fit2 : (catC l2).fit := fitC (by decide) (by simp; decide)
theorem fit3 : (catC l3).fit := fitC (by decide) (by simp; decide)
theorem fit4 : (catC l4).fit := fitC (by decide) (by simp; decide)
theorem fit0 : zeroCat.fit := fitC (l := []) (by decide) (by simp)
abbrev kA : List Dat := [iD 5, iD 17, sD sA, iD 1, iD 0, .sl 6 []]
abbrev x1 : List Dat := [.sl 16 [[sD sB, iD 18, iD 4, iD 0, iD 1, iD 0, sD eS, iD 0, iD 0, .sl 6 [kA], iD 2, iD 0, sD eS, iD 0, iD 0, .sl 6 []], [sD sA, iD 17, iD 4, iD 0, iD 1, iD 0, sD eS, iD 0, iD 0, .sl 6 [], iD 2, iD 0, sD eS, iD 0, iD 0, .sl 6 []]], .sl 4 [], .sl 7 [], .sl 4 [], .sl 2 [], .sl 4 [], .sl 4 []]
abbrev x0 : List Dat := [.sl 16 [], .sl 4 [], .sl 7 [], .sl 4 [], .sl 2 [], .sl 4 [], .sl 4 []]
theorem r1 : Does Try.prog 12 [.agg (catD (catC l1))] (.dat (.tup [.agg x1, iD 0])) [] := by
  have h := walk12 _ fit1
  rwa [show Dat.tup [.agg (catD (resolveOf (catC l1)).1), iD (resolveOf (catC l1)).2] = .tup [.agg x1, iD 0] from by kernel_rfl] at h
theorem r2 : Does Try.prog 12 [.agg (catD (catC l2))] (.dat (.tup [.agg x0, iD 111])) [] := by
  have h := walk12 _ fit2
  rwa [show Dat.tup [.agg (catD (resolveOf (catC l2)).1), iD (resolveOf (catC l2)).2] = .tup [.agg x0, iD 111] from by kernel_rfl] at h
theorem r3 : Does Try.prog 12 [.agg (catD (catC l3))] (.dat (.tup [.agg x0, iD 110])) [] := by
  have h := walk12 _ fit3
  rwa [show Dat.tup [.agg (catD (resolveOf (catC l3)).1), iD (resolveOf (catC l3)).2] = .tup [.agg x0, iD 110] from by kernel_rfl] at h
theorem r4 : Does Try.prog 12 [.agg (catD (catC l4))] (.dat (.tup [.agg x0, iD 112])) [] := by
  have h := walk12 _ fit4
  rwa [show Dat.tup [.agg (catD (resolveOf (catC l4)).1), iD (resolveOf (catC l4)).2] = .tup [.agg x0, iD 112] from by kernel_rfl] at h
theorem r0 : Does Try.prog 12 [.agg (catD zeroCat)] (.dat (.tup [.agg x0, iD 0])) [] := by
  have h := walk12 _ fit0
  rwa [show Dat.tup [.agg (catD (resolveOf zeroCat).1), iD (resolveOf zeroCat).2] = .tup [.agg x0, iD 0] from by kernel_rfl] at h
theorem o1 : Does Try.prog 17 [.agg (catD (catC l1))] (.tup [.dat (.sl 1 [[iD 17], [iD 18]]), .dat (iD 0)]) [] := by
  have h := walk17 _ fit1
  rwa [show D.tup [.dat (ints (orderOf (catC l1)).1), .dat (iD (orderOf (catC l1)).2)] = .tup [.dat (.sl 1 [[iD 17], [iD 18]]), .dat (iD 0)] from by kernel_rfl] at h
theorem o0 : Does Try.prog 17 [.agg (catD zeroCat)] (.tup [.dat (.sl 1 []), .dat (iD 0)]) [] := by
  have h := walk17 _ fit0
  rwa [show D.tup [.dat (ints (orderOf zeroCat).1), .dat (iD (orderOf zeroCat).2)] = .tup [.dat (.sl 1 []), .dat (iD 0)] from by kernel_rfl] at h
theorem f1 : Does Try.prog 15 [.agg (catD (catC l1)), sD sA] (.tup [.dat (iD 17), .dat (bV true)]) [] := by
  have h := walk15 (catC l1) sA (by decide)
  rwa [show D.tup [.dat (iD (findOf (catC l1) sA).1), .dat (bV (findOf (catC l1) sA).2)] = .tup [.dat (iD 17), .dat (bV true)] from by kernel_rfl] at h
theorem f0 : Does Try.prog 15 [.agg (catD zeroCat), sD sA] (.tup [.dat (iD 0), .dat (bV false)]) [] := by
  have h := walk15 zeroCat sA (by decide)
  rwa [show D.tup [.dat (iD (findOf zeroCat sA).1), .dat (bV (findOf zeroCat sA).2)] = .tup [.dat (iD 0), .dat (bV false)] from by kernel_rfl] at h
theorem y4 : Does Try.prog 20 [.agg (catD (catC l4))] (.dat (.sl 1 [[iD 17]])) [] := by
  have h := walk20 _ fit4
  rwa [show ints (cycOf (catC l4)) = .sl 1 [[iD 17]] from by kernel_rfl] at h
theorem y1 : Does Try.prog 20 [.agg (catD (catC l1))] (.dat (.sl 1 [])) [] := by
  have h := walk20 _ fit1
  rwa [show ints (cycOf (catC l1)) = .sl 1 [] from by kernel_rfl] at h

-- WALK 10
-- sizar/sizarlaw11.sane
set_option maxRecDepth 100000 in
set_option maxHeartbeats 8000000 in
theorem walk10 : Does Try.prog 10 [] (.dat (bV true)) [] := by
  refine Does.intro [.tmp 0] Try.func10 rfl (by kernel_rfl) Try.ntmps10 rfl (Nat.le_of_ble_eq_true rfl) ?_
  refine T_seq ?_
  refine T_region (is := [0]) rfl fun kn kp hn hp => ?_
  refine T_op rfl rfl fun kc hc => ?_
  simp; refine hc _ ?_; clear hc kc
  refine T_end (hn _ ?_); clear hn hp kn kp
  refine T_then ?_
  refine T_seq ?_
  refine T_region (is := [0, 1, 2, 3, 4, 5, 6]) rfl fun kn kp hn hp => ?_
  refine T_op rfl rfl fun kc hc => ?_
  simp; refine hc _ ?_; clear hc kc
  refine T_opsEnt (Ent.give (t := 22) (n := 9) (e := .sl 1 [[sD sA]]) (hp' := _) rfl (by simp [Sx.give, big]; rfl)) ?_
  refine T_op rfl rfl fun kc hc => ?_
  simp
  refine CallS.dat (walk25 sB 18 [sA] (by decide)) (rfl) rfl rfl rfl ?_
  simp [enum]; refine hc _ ?_; clear hc kc
  refine T_op rfl rfl fun kc hc => ?_
  simp
  refine CallS.dat (walk25n sA 17) (rfl) rfl rfl rfl ?_
  simp [enum]; refine hc _ ?_; clear hc kc
  refine T_op rfl rfl fun kc hc => ?_
  simp; refine hc _ ?_; clear hc kc
  refine T_opsEnt (Ent.give (t := 25) (n := 9) (e := .sl 16 (l1.map courseD)) (hp' := _) rfl (by simp [Sx.give, big]; rfl)) ?_
  refine T_op rfl rfl fun kc hc => ?_
  simp; refine hc _ ?_; clear hc kc
  refine T_op rfl rfl fun kc hc => ?_
  simp; refine hc _ ?_; clear hc kc
  refine T_op rfl rfl fun kc hc => ?_
  simp; refine hc _ ?_; clear hc kc
  refine T_end (hn _ ?_); clear hn hp kn kp
  refine T_then ?_
  refine T_seq ?_
  refine T_region (is := [0, 1, 2, 3, 4, 5, 6, 7]) rfl fun kn kp hn hp => ?_
  refine T_op rfl rfl fun kc hc => ?_
  simp; refine hc _ ?_; clear hc kc
  refine T_opsEnt (Ent.datS (t := 28) rfl (impK l1)) ?_
  refine T_op rfl rfl fun kc hc => ?_
  simp
  refine CallS.dat (r1) (rfl) rfl rfl rfl ?_
  simp [enum]; refine hc _ ?_; clear hc kc
  refine T_op rfl rfl fun kc hc => ?_
  simp; refine hc _ ?_; clear hc kc
  refine T_op rfl rfl fun kc hc => ?_
  simp; refine hc _ ?_; clear hc kc
  refine T_op rfl rfl fun kc hc => ?_
  simp; refine hc _ ?_; clear hc kc
  refine T_op rfl rfl fun kc hc => ?_
  simp; refine hc _ ?_; clear hc kc
  refine T_op rfl rfl fun kc hc => ?_
  simp; refine hc _ ?_; clear hc kc
  refine T_op rfl rfl fun kc hc => ?_
  simp; refine hc _ ?_; clear hc kc
  refine T_end (hn _ ?_); clear hn hp kn kp
  refine T_then ?_
  refine T_seq ?_
  refine T_region (is := [0, 1, 2, 3, 4, 5, 6, 7, 8, 9, 10]) rfl fun kn kp hn hp => ?_
  refine T_op rfl rfl fun kc hc => ?_
  simp
  refine CallS.dat (walk25n sA 17) (rfl) rfl rfl rfl ?_
  simp [enum]; refine hc _ ?_; clear hc kc
  refine T_op rfl rfl fun kc hc => ?_
  simp
  refine CallS.dat (walk25n sB 17) (rfl) rfl rfl rfl ?_
  simp [enum]; refine hc _ ?_; clear hc kc
  refine T_op rfl rfl fun kc hc => ?_
  simp; refine hc _ ?_; clear hc kc
  refine T_opsEnt (Ent.give (t := 35) (n := 9) (e := .sl 16 (l2.map courseD)) (hp' := _) rfl (by simp [Sx.give, big]; rfl)) ?_
  refine T_op rfl rfl fun kc hc => ?_
  simp; refine hc _ ?_; clear hc kc
  refine T_opsEnt (Ent.datS (t := 36) rfl (impK l2)) ?_
  refine T_op rfl rfl fun kc hc => ?_
  simp
  refine CallS.dat (r2) (rfl) rfl rfl rfl ?_
  simp [enum]; refine hc _ ?_; clear hc kc
  refine T_op rfl rfl fun kc hc => ?_
  simp; refine hc _ ?_; clear hc kc
  refine T_op rfl rfl fun kc hc => ?_
  simp; refine hc _ ?_; clear hc kc
  refine T_op rfl rfl fun kc hc => ?_
  simp; refine hc _ ?_; clear hc kc
  refine T_op rfl rfl fun kc hc => ?_
  simp; refine hc _ ?_; clear hc kc
  refine T_op rfl rfl fun kc hc => ?_
  simp; refine hc _ ?_; clear hc kc
  refine T_op rfl rfl fun kc hc => ?_
  simp; refine hc _ ?_; clear hc kc
  refine T_end (hn _ ?_); clear hn hp kn kp
  refine T_then ?_
  refine T_seq ?_
  refine T_region (is := [0, 1, 2]) rfl fun kn kp hn hp => ?_
  refine T_op rfl rfl fun kc hc => ?_
  simp
  refine CallS.dat (walk25n sA 17) (rfl) rfl rfl rfl ?_
  simp [enum]; refine hc _ ?_; clear hc kc
  refine T_op rfl rfl fun kc hc => ?_
  simp; refine hc _ ?_; clear hc kc
  refine T_op rfl rfl fun kc hc => ?_
  simp; refine hc _ ?_; clear hc kc
  refine T_end (hn _ ?_); clear hn hp kn kp
  refine T_then ?_
  refine T_seq ?_
  refine T_region (is := [0, 1, 2, 3, 4]) rfl fun kn kp hn hp => ?_
  refine T_op rfl rfl fun kc hc => ?_
  simp; refine hc _ ?_; clear hc kc
  refine T_op rfl rfl fun kc hc => ?_
  simp; refine hc _ ?_; clear hc kc
  refine T_opsEnt (Ent.give (t := 42) (n := 9) (e := .sl 6 [[iD 9, iD 0, sD sZ, iD 0, iD 0, nilS]]) (hp' := _) rfl (by simp [Sx.give, big]; rfl)) ?_
  refine T_opsEnt (Ent.datS (t := 42) rfl (impZ3)) ?_
  refine T_op rfl rfl fun kc hc => ?_
  simp; refine hc _ ?_; clear hc kc
  refine T_op rfl rfl fun kc hc => ?_
  simp; refine hc _ ?_; clear hc kc
  refine T_op rfl rfl fun kc hc => ?_
  simp; refine hc _ ?_; clear hc kc
  refine T_end (hn _ ?_); clear hn hp kn kp
  refine T_then ?_
  refine T_seq ?_
  refine T_region (is := [0, 1, 2, 3, 4, 5, 6, 7, 8, 9]) rfl fun kn kp hn hp => ?_
  refine T_op rfl rfl fun kc hc => ?_
  simp; refine hc _ ?_; clear hc kc
  refine T_op rfl rfl fun kc hc => ?_
  simp; refine hc _ ?_; clear hc kc
  refine T_opsEnt (Ent.give (t := 47) (n := 9) (e := .sl 16 (l3.map courseD)) (hp' := _) rfl (by simp [Sx.give, big]; exact ⟨⟨rfl, rfl, rfl, rfl, rfl⟩, rfl⟩)) ?_
  refine T_op rfl rfl fun kc hc => ?_
  simp; refine hc _ ?_; clear hc kc
  refine T_opsEnt (Ent.datS (t := 48) rfl (impK l3)) ?_
  refine T_op rfl rfl fun kc hc => ?_
  simp
  refine CallS.dat (r3) (rfl) rfl rfl rfl ?_
  simp [enum]; refine hc _ ?_; clear hc kc
  refine T_op rfl rfl fun kc hc => ?_
  simp; refine hc _ ?_; clear hc kc
  refine T_op rfl rfl fun kc hc => ?_
  simp; refine hc _ ?_; clear hc kc
  refine T_op rfl rfl fun kc hc => ?_
  simp; refine hc _ ?_; clear hc kc
  refine T_op rfl rfl fun kc hc => ?_
  simp; refine hc _ ?_; clear hc kc
  refine T_op rfl rfl fun kc hc => ?_
  simp; refine hc _ ?_; clear hc kc
  refine T_op rfl rfl fun kc hc => ?_
  simp; refine hc _ ?_; clear hc kc
  refine T_end (hn _ ?_); clear hn hp kn kp
  refine T_then ?_
  refine T_seq ?_
  refine T_region (is := [0, 1, 2, 3, 4, 5]) rfl fun kn kp hn hp => ?_
  refine T_op rfl rfl fun kc hc => ?_
  simp; refine hc _ ?_; clear hc kc
  refine T_opsEnt (Ent.give (t := 52) (n := 9) (e := .sl 1 [[sD sA]]) (hp' := _) rfl (by simp [Sx.give, big]; rfl)) ?_
  refine T_op rfl rfl fun kc hc => ?_
  simp
  refine CallS.dat (walk25 sA 17 [sA] (by decide)) (rfl) rfl rfl rfl ?_
  simp [enum]; refine hc _ ?_; clear hc kc
  refine T_op rfl rfl fun kc hc => ?_
  simp; refine hc _ ?_; clear hc kc
  refine T_opsEnt (Ent.give (t := 54) (n := 9) (e := .sl 16 (l4.map courseD)) (hp' := _) rfl (by simp [Sx.give, big]; rfl)) ?_
  refine T_op rfl rfl fun kc hc => ?_
  simp; refine hc _ ?_; clear hc kc
  refine T_op rfl rfl fun kc hc => ?_
  simp; refine hc _ ?_; clear hc kc
  refine T_op rfl rfl fun kc hc => ?_
  simp; refine hc _ ?_; clear hc kc
  refine T_end (hn _ ?_); clear hn hp kn kp
  refine T_then ?_
  refine T_seq ?_
  refine T_region (is := [0, 1, 2, 3, 4, 5, 6, 7]) rfl fun kn kp hn hp => ?_
  refine T_op rfl rfl fun kc hc => ?_
  simp; refine hc _ ?_; clear hc kc
  refine T_opsEnt (Ent.datS (t := 57) rfl (impK l4)) ?_
  refine T_op rfl rfl fun kc hc => ?_
  simp
  refine CallS.dat (r4) (rfl) rfl rfl rfl ?_
  simp [enum]; refine hc _ ?_; clear hc kc
  refine T_op rfl rfl fun kc hc => ?_
  simp; refine hc _ ?_; clear hc kc
  refine T_op rfl rfl fun kc hc => ?_
  simp; refine hc _ ?_; clear hc kc
  refine T_op rfl rfl fun kc hc => ?_
  simp; refine hc _ ?_; clear hc kc
  refine T_op rfl rfl fun kc hc => ?_
  simp; refine hc _ ?_; clear hc kc
  refine T_op rfl rfl fun kc hc => ?_
  simp; refine hc _ ?_; clear hc kc
  refine T_op rfl rfl fun kc hc => ?_
  simp; refine hc _ ?_; clear hc kc
  refine T_end (hn _ ?_); clear hn hp kn kp
  refine T_then ?_
  refine T_seq ?_
  refine T_region (is := [0, 1, 2, 3, 4, 5, 6, 7]) rfl fun kn kp hn hp => ?_
  refine T_op rfl rfl fun kc hc => ?_
  simp; refine hc _ ?_; clear hc kc
  refine T_opsEnt (Ent.datS (t := 62) rfl (impZ)) ?_
  refine T_op rfl rfl fun kc hc => ?_
  simp
  refine CallS.dat (r0) (rfl) rfl rfl rfl ?_
  simp [enum]; refine hc _ ?_; clear hc kc
  refine T_op rfl rfl fun kc hc => ?_
  simp; refine hc _ ?_; clear hc kc
  refine T_op rfl rfl fun kc hc => ?_
  simp; refine hc _ ?_; clear hc kc
  refine T_op rfl rfl fun kc hc => ?_
  simp; refine hc _ ?_; clear hc kc
  refine T_op rfl rfl fun kc hc => ?_
  simp; refine hc _ ?_; clear hc kc
  refine T_op rfl rfl fun kc hc => ?_
  simp; refine hc _ ?_; clear hc kc
  refine T_op rfl rfl fun kc hc => ?_
  simp; refine hc _ ?_; clear hc kc
  refine T_end (hn _ ?_); clear hn hp kn kp
  refine T_then ?_
  refine T_seq ?_
  refine T_region (is := [0, 1, 2, 3, 4, 5, 6]) rfl fun kn kp hn hp => ?_
  refine T_op rfl rfl fun kc hc => ?_
  simp; refine hc _ ?_; clear hc kc
  refine T_opsEnt (Ent.datS (t := 67) rfl (impK l1)) ?_
  refine T_op rfl rfl fun kc hc => ?_
  simp
  refine CallS.dat (o1) (rfl) rfl rfl rfl ?_
  simp [enum]; refine hc _ ?_; clear hc kc
  refine T_op rfl rfl fun kc hc => ?_
  simp; refine hc _ ?_; clear hc kc
  refine T_op rfl rfl fun kc hc => ?_
  simp; refine hc _ ?_; clear hc kc
  refine T_op rfl rfl fun kc hc => ?_
  simp; refine hc _ ?_; clear hc kc
  refine T_op rfl rfl fun kc hc => ?_
  simp; refine hc _ ?_; clear hc kc
  refine T_op rfl rfl fun kc hc => ?_
  simp; refine hc _ ?_; clear hc kc
  refine T_end (hn _ ?_); clear hn hp kn kp
  refine T_then ?_
  refine T_seq ?_
  refine T_region (is := [0, 1, 2, 3, 4, 5, 6]) rfl fun kn kp hn hp => ?_
  refine T_op rfl rfl fun kc hc => ?_
  simp; refine hc _ ?_; clear hc kc
  refine T_opsEnt (Ent.datS (t := 72) rfl (impZ)) ?_
  refine T_op rfl rfl fun kc hc => ?_
  simp
  refine CallS.dat (o0) (rfl) rfl rfl rfl ?_
  simp [enum]; refine hc _ ?_; clear hc kc
  refine T_op rfl rfl fun kc hc => ?_
  simp; refine hc _ ?_; clear hc kc
  refine T_op rfl rfl fun kc hc => ?_
  simp; refine hc _ ?_; clear hc kc
  refine T_op rfl rfl fun kc hc => ?_
  simp; refine hc _ ?_; clear hc kc
  refine T_op rfl rfl fun kc hc => ?_
  simp; refine hc _ ?_; clear hc kc
  refine T_op rfl rfl fun kc hc => ?_
  simp; refine hc _ ?_; clear hc kc
  refine T_end (hn _ ?_); clear hn hp kn kp
  refine T_then ?_
  refine T_seq ?_
  refine T_region (is := [0, 1, 2, 3, 4, 5, 6]) rfl fun kn kp hn hp => ?_
  refine T_op rfl rfl fun kc hc => ?_
  simp; refine hc _ ?_; clear hc kc
  refine T_opsEnt (Ent.datS (t := 77) rfl (impK l1)) ?_
  refine T_op rfl rfl fun kc hc => ?_
  simp
  refine CallS.dat (f1) (rfl) rfl rfl rfl ?_
  simp [enum]; refine hc _ ?_; clear hc kc
  refine T_op rfl rfl fun kc hc => ?_
  simp; refine hc _ ?_; clear hc kc
  refine T_op rfl rfl fun kc hc => ?_
  simp; refine hc _ ?_; clear hc kc
  refine T_op rfl rfl fun kc hc => ?_
  simp; refine hc _ ?_; clear hc kc
  refine T_op rfl rfl fun kc hc => ?_
  simp; refine hc _ ?_; clear hc kc
  refine T_op rfl rfl fun kc hc => ?_
  simp; refine hc _ ?_; clear hc kc
  refine T_end (hn _ ?_); clear hn hp kn kp
  refine T_then ?_
  refine T_seq ?_
  refine T_region (is := [0, 1, 2, 3, 4, 5, 6]) rfl fun kn kp hn hp => ?_
  refine T_op rfl rfl fun kc hc => ?_
  simp; refine hc _ ?_; clear hc kc
  refine T_opsEnt (Ent.datS (t := 82) rfl (impZ)) ?_
  refine T_op rfl rfl fun kc hc => ?_
  simp
  refine CallS.dat (f0) (rfl) rfl rfl rfl ?_
  simp [enum]; refine hc _ ?_; clear hc kc
  refine T_op rfl rfl fun kc hc => ?_
  simp; refine hc _ ?_; clear hc kc
  refine T_op rfl rfl fun kc hc => ?_
  simp; refine hc _ ?_; clear hc kc
  refine T_op rfl rfl fun kc hc => ?_
  simp; refine hc _ ?_; clear hc kc
  refine T_op rfl rfl fun kc hc => ?_
  simp; refine hc _ ?_; clear hc kc
  refine T_op rfl rfl fun kc hc => ?_
  simp; refine hc _ ?_; clear hc kc
  refine T_end (hn _ ?_); clear hn hp kn kp
  refine T_then ?_
  refine T_seq ?_
  refine T_seq ?_
  refine T_region (is := [0, 1, 2, 3, 4, 5, 6, 7, 8, 9, 10, 11, 12, 13, 14, 15, 16, 17, 18, 19, 20, 21, 22, 23, 24, 25, 26, 27, 28, 29, 30, 31, 32, 33, 34, 35, 36, 37, 38, 39, 40, 41]) rfl fun kn kp hn hp => ?_
  refine T_op rfl rfl fun kc hc => ?_
  simp; refine hc _ ?_; clear hc kc
  refine T_op rfl rfl fun kc hc => ?_
  simp; refine hc _ ?_; clear hc kc
  refine T_op rfl rfl fun kc hc => ?_
  simp; refine hc _ ?_; clear hc kc
  refine T_on rfl rfl rfl rfl rfl fun kc hc => ?_
  simp; refine hc _ ?_; clear hc kc
  refine T_on rfl rfl rfl rfl rfl fun kc hc => ?_
  simp; refine hc _ ?_; clear hc kc
  refine T_op rfl rfl fun kc hc => ?_
  simp; refine hc _ ?_; clear hc kc
  refine T_op rfl rfl fun kc hc => ?_
  simp; refine hc _ ?_; clear hc kc
  refine T_on rfl rfl rfl rfl rfl fun kc hc => ?_
  simp; refine hc _ ?_; clear hc kc
  refine T_on rfl rfl rfl rfl rfl fun kc hc => ?_
  simp; refine hc _ ?_; clear hc kc
  refine T_op rfl rfl fun kc hc => ?_
  simp; refine hc _ ?_; clear hc kc
  refine T_op rfl rfl fun kc hc => ?_
  simp; refine hc _ ?_; clear hc kc
  refine T_on rfl rfl rfl rfl rfl fun kc hc => ?_
  simp; refine hc _ ?_; clear hc kc
  refine T_on rfl rfl rfl rfl rfl fun kc hc => ?_
  simp; refine hc _ ?_; clear hc kc
  refine T_op rfl rfl fun kc hc => ?_
  simp; refine hc _ ?_; clear hc kc
  refine T_op rfl rfl fun kc hc => ?_
  simp; refine hc _ ?_; clear hc kc
  refine T_on rfl rfl rfl rfl rfl fun kc hc => ?_
  simp; refine hc _ ?_; clear hc kc
  refine T_on rfl rfl rfl rfl rfl fun kc hc => ?_
  simp; refine hc _ ?_; clear hc kc
  refine T_op rfl rfl fun kc hc => ?_
  simp; refine hc _ ?_; clear hc kc
  refine T_op rfl rfl fun kc hc => ?_
  simp; refine hc _ ?_; clear hc kc
  refine T_on rfl rfl rfl rfl rfl fun kc hc => ?_
  simp; refine hc _ ?_; clear hc kc
  refine T_on rfl rfl rfl rfl rfl fun kc hc => ?_
  simp; refine hc _ ?_; clear hc kc
  refine T_op rfl rfl fun kc hc => ?_
  simp; refine hc _ ?_; clear hc kc
  refine T_op rfl rfl fun kc hc => ?_
  simp; refine hc _ ?_; clear hc kc
  refine T_on rfl rfl rfl rfl rfl fun kc hc => ?_
  simp; refine hc _ ?_; clear hc kc
  refine T_on rfl rfl rfl rfl rfl fun kc hc => ?_
  simp; refine hc _ ?_; clear hc kc
  refine T_op rfl rfl fun kc hc => ?_
  simp; refine hc _ ?_; clear hc kc
  refine T_op rfl rfl fun kc hc => ?_
  simp; refine hc _ ?_; clear hc kc
  refine T_on rfl rfl rfl rfl rfl fun kc hc => ?_
  simp; refine hc _ ?_; clear hc kc
  refine T_on rfl rfl rfl rfl rfl fun kc hc => ?_
  simp; refine hc _ ?_; clear hc kc
  refine T_on rfl rfl rfl rfl rfl fun kc hc => ?_
  simp; refine hc _ ?_; clear hc kc
  refine T_on rfl rfl rfl rfl rfl fun kc hc => ?_
  simp; refine hc _ ?_; clear hc kc
  refine T_op rfl rfl fun kc hc => ?_
  simp; refine hc _ ?_; clear hc kc
  refine T_op rfl rfl fun kc hc => ?_
  simp; refine hc _ ?_; clear hc kc
  refine T_on rfl rfl rfl rfl rfl fun kc hc => ?_
  simp; refine hc _ ?_; clear hc kc
  refine T_on rfl rfl rfl rfl rfl fun kc hc => ?_
  simp; refine hc _ ?_; clear hc kc
  refine T_on rfl rfl rfl rfl rfl fun kc hc => ?_
  simp; refine hc _ ?_; clear hc kc
  refine T_on rfl rfl rfl rfl rfl fun kc hc => ?_
  simp; refine hc _ ?_; clear hc kc
  refine T_on rfl rfl rfl rfl rfl fun kc hc => ?_
  simp; refine hc _ ?_; clear hc kc
  refine T_on rfl rfl rfl rfl rfl fun kc hc => ?_
  simp; refine hc _ ?_; clear hc kc
  refine T_on rfl rfl rfl rfl rfl fun kc hc => ?_
  simp; refine hc _ ?_; clear hc kc
  refine T_on rfl rfl rfl rfl rfl fun kc hc => ?_
  simp; refine hc _ ?_; clear hc kc
  refine T_op rfl rfl fun kc hc => ?_
  simp; refine hc _ ?_; clear hc kc
  refine T_end (hn _ ?_); clear hn hp kn kp
  refine T_then ?_
  refine T_false (by simp) ?_
  refine T_skip ?_
  refine T_then ?_
  refine T_seq ?_
  refine T_region (is := [0, 1, 2, 3, 4, 5, 6, 7, 8, 9, 10, 11, 12, 13, 14, 15, 16, 17, 18, 19, 20, 21, 22, 23, 24, 25, 26, 27, 28, 29, 30, 31, 32, 33, 34, 35, 36, 37, 38, 39, 40, 41, 42, 43, 44, 45, 46, 47, 48, 49, 50, 51, 52, 53, 54, 55, 56, 57, 58, 59, 60]) rfl fun kn kp hn hp => ?_
  refine T_op rfl rfl fun kc hc => ?_
  simp; refine hc _ ?_; clear hc kc
  refine T_op rfl rfl fun kc hc => ?_
  simp; refine hc _ ?_; clear hc kc
  refine T_op rfl rfl fun kc hc => ?_
  simp; refine hc _ ?_; clear hc kc
  refine T_op rfl rfl fun kc hc => ?_
  simp; refine hc _ ?_; clear hc kc
  refine T_op rfl rfl fun kc hc => ?_
  simp; refine hc _ ?_; clear hc kc
  refine T_op rfl rfl fun kc hc => ?_
  simp; refine hc _ ?_; clear hc kc
  refine T_op rfl rfl fun kc hc => ?_
  simp; refine hc _ ?_; clear hc kc
  refine T_op rfl rfl fun kc hc => ?_
  simp; refine hc _ ?_; clear hc kc
  refine T_op rfl rfl fun kc hc => ?_
  simp; refine hc _ ?_; clear hc kc
  refine T_op rfl rfl fun kc hc => ?_
  simp; refine hc _ ?_; clear hc kc
  refine T_op rfl rfl fun kc hc => ?_
  simp; refine hc _ ?_; clear hc kc
  refine T_on rfl rfl rfl rfl rfl fun kc hc => ?_
  simp; refine hc _ ?_; clear hc kc
  refine T_on rfl rfl rfl rfl rfl fun kc hc => ?_
  simp; refine hc _ ?_; clear hc kc
  refine T_on rfl rfl rfl rfl rfl fun kc hc => ?_
  simp; refine hc _ ?_; clear hc kc
  refine T_on rfl rfl rfl rfl rfl fun kc hc => ?_
  simp; refine hc _ ?_; clear hc kc
  refine T_on rfl rfl rfl rfl rfl fun kc hc => ?_
  simp; refine hc _ ?_; clear hc kc
  refine T_on rfl rfl rfl rfl rfl fun kc hc => ?_
  simp; refine hc _ ?_; clear hc kc
  refine T_on rfl rfl rfl rfl rfl fun kc hc => ?_
  simp; refine hc _ ?_; clear hc kc
  refine T_on rfl rfl rfl rfl rfl fun kc hc => ?_
  simp; refine hc _ ?_; clear hc kc
  refine T_on rfl rfl rfl rfl rfl fun kc hc => ?_
  simp; refine hc _ ?_; clear hc kc
  refine T_on rfl rfl rfl rfl rfl fun kc hc => ?_
  simp; refine hc _ ?_; clear hc kc
  refine T_op rfl rfl fun kc hc => ?_
  simp; refine hc _ ?_; clear hc kc
  refine T_op rfl rfl fun kc hc => ?_
  simp; refine hc _ ?_; clear hc kc
  refine T_on rfl rfl rfl rfl rfl fun kc hc => ?_
  simp; refine hc _ ?_; clear hc kc
  refine T_on rfl rfl rfl rfl rfl fun kc hc => ?_
  simp; refine hc _ ?_; clear hc kc
  refine T_opsEnt (Ent.datS (t := 152) rfl (impZ)) ?_
  refine T_on rfl rfl rfl rfl rfl fun kc hc => ?_
  simp
  refine CallS.dat (walk14 zeroCat fit0) (rfl) rfl rfl rfl ?_
  simp [enum]; refine hc _ ?_; clear hc kc
  refine T_op rfl rfl fun kc hc => ?_
  simp; refine hc _ ?_; clear hc kc
  refine T_op rfl rfl fun kc hc => ?_
  simp; refine hc _ ?_; clear hc kc
  refine T_on rfl rfl rfl rfl rfl fun kc hc => ?_
  simp; refine hc _ ?_; clear hc kc
  refine T_on rfl rfl rfl rfl rfl fun kc hc => ?_
  simp; refine hc _ ?_; clear hc kc
  refine T_opsEnt (Ent.give (t := 157) (n := 9) (e := .sl 1 [[iD 17], [iD 18]]) (hp' := _) rfl (by simp [Sx.give, big]; rfl)) ?_
  refine T_on rfl rfl rfl rfl rfl fun kc hc => ?_
  simp
  refine CallS.dat (walk19 [17, 18] (by decide)) (rfl) rfl rfl rfl ?_
  simp [enum]; refine hc _ ?_; clear hc kc
  refine T_op rfl rfl fun kc hc => ?_
  simp; refine hc _ ?_; clear hc kc
  refine T_op rfl rfl fun kc hc => ?_
  simp; refine hc _ ?_; clear hc kc
  refine T_on rfl rfl rfl rfl rfl fun kc hc => ?_
  simp; refine hc _ ?_; clear hc kc
  refine T_on rfl rfl rfl rfl rfl fun kc hc => ?_
  simp; refine hc _ ?_; clear hc kc
  refine T_on rfl rfl rfl rfl rfl fun kc hc => ?_
  simp; refine hc _ ?_; clear hc kc
  refine T_op rfl rfl fun kc hc => ?_
  simp; refine hc _ ?_; clear hc kc
  refine T_op rfl rfl fun kc hc => ?_
  simp; refine hc _ ?_; clear hc kc
  refine T_on rfl rfl rfl rfl rfl fun kc hc => ?_
  simp; refine hc _ ?_; clear hc kc
  refine T_on rfl rfl rfl rfl rfl fun kc hc => ?_
  simp; refine hc _ ?_; clear hc kc
  refine T_op rfl rfl fun kc hc => ?_
  simp; refine hc _ ?_; clear hc kc
  refine T_op rfl rfl fun kc hc => ?_
  simp; refine hc _ ?_; clear hc kc
  refine T_on rfl rfl rfl rfl rfl fun kc hc => ?_
  simp; refine hc _ ?_; clear hc kc
  refine T_op rfl rfl fun kc hc => ?_
  simp; refine hc _ ?_; clear hc kc
  refine T_op rfl rfl fun kc hc => ?_
  simp; refine hc _ ?_; clear hc kc
  refine T_on rfl rfl rfl rfl rfl fun kc hc => ?_
  simp; refine hc _ ?_; clear hc kc
  refine T_on rfl rfl rfl rfl rfl fun kc hc => ?_
  simp; refine hc _ ?_; clear hc kc
  refine T_op rfl rfl fun kc hc => ?_
  simp; refine hc _ ?_; clear hc kc
  refine T_op rfl rfl fun kc hc => ?_
  simp; refine hc _ ?_; clear hc kc
  refine T_on rfl rfl rfl rfl rfl fun kc hc => ?_
  simp; refine hc _ ?_; clear hc kc
  refine T_opsEnt (Ent.datS (t := 177) rfl (impK l4)) ?_
  refine T_on rfl rfl rfl rfl rfl fun kc hc => ?_
  simp
  refine CallS.dat (y4) (rfl) rfl rfl rfl ?_
  simp [enum]; refine hc _ ?_; clear hc kc
  refine T_on rfl rfl rfl rfl rfl fun kc hc => ?_
  simp; refine hc _ ?_; clear hc kc
  refine T_opsEnt (Ent.give (t := 179) (n := 9) (e := .sl 1 [[iD 17]]) (hp' := _) rfl (by simp [Sx.give, big]; rfl)) ?_
  refine T_on rfl rfl rfl rfl rfl fun kc hc => ?_
  simp
  refine CallS.dat (walk19 [17] (by decide)) (rfl) rfl rfl rfl ?_
  simp [enum]; refine hc _ ?_; clear hc kc
  refine T_op rfl rfl fun kc hc => ?_
  simp; refine hc _ ?_; clear hc kc
  refine T_op rfl rfl fun kc hc => ?_
  simp; refine hc _ ?_; clear hc kc
  refine T_on rfl rfl rfl rfl rfl fun kc hc => ?_
  simp; refine hc _ ?_; clear hc kc
  refine T_opsEnt (Ent.datS (t := 183) rfl (impK l1)) ?_
  refine T_on rfl rfl rfl rfl rfl fun kc hc => ?_
  simp
  refine CallS.dat (y1) (rfl) rfl rfl rfl ?_
  simp [enum]; refine hc _ ?_; clear hc kc
  refine T_on rfl rfl rfl rfl rfl fun kc hc => ?_
  simp; refine hc _ ?_; clear hc kc
  refine T_on rfl rfl rfl rfl rfl fun kc hc => ?_
  simp; refine hc _ ?_; clear hc kc
  refine T_op rfl rfl fun kc hc => ?_
  simp; refine hc _ ?_; clear hc kc
  refine T_op rfl rfl fun kc hc => ?_
  simp; refine hc _ ?_; clear hc kc
  refine T_end (hn _ ?_); clear hn hp kn kp
  refine T_then ?_
  refine T_ret ?_
  exact finI (Ent.refl _) (by simp [resD, resL, resV]; rfl) (Ent.sub [] [] (by simp [sub, subSl, subHp, place, mp, mpL, mpO, mpG]; rfl)) rfl rfl (by simp)
-- END

end Go.Proofs.Ytbkkekbeaabokaa
