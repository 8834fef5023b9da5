/- The names: the examples of the chapter. -/
import Derived.Test.YtbkkekbeaabokaaNo
set_option linter.unusedVariables false
set_option linter.unusedSimpArgs false
namespace Go.Proofs.Ytbkkekbeaabokaa
open Go Go.Proofs.Ytbkkekbeaabokaa.Sx

/-- What 'course' makes. -/
def needN (n : ByteArray) : Rule := .mk 5 0 n 1 0 []
def mkC (name : ByteArray) (number : Int) (needs : List ByteArray) : Course := ⟨name, number, 4, 0, .mk 1 0 eS 0 0 (needs.map needN), .mk 2 0 eS 0 0 []⟩
abbrev kidN (n : ByteArray) : List Dat := [iD 5, iD 0, sD n, iD 1, iD 0, nilS]
abbrev rawC (name : ByteArray) (number : Int) (needs : List ByteArray) : List Dat := [sD name, iD number, iD 4, iD 0, iD 1, iD 0, sD eS, iD 0, iD 0, .sl 6 (needs.map kidN), iD 2, iD 0, sD eS, iD 0, iD 0, nilS]
theorem impC (name : ByteArray) (number : Int) (needs : List ByteArray) : DatImp (.agg (rawC name number needs)) (.agg (courseD (mkC name number needs))) := by
  have h1 : DatImp (.sl 6 (needs.map kidN)) (.sl 6 (kidsD (mkC name number needs).need)) := by
    rw [kidsD_map]
    refine .sl (by simp [mkC, Rule.kids]) (fun i cs cs' h1 h2 => ?_)
    simp only [mkC, Rule.kids, List.getElem?_map, Option.map_eq_some_iff] at h1 h2
    obtain ⟨n, hn, rfl⟩ := h1
    obtain ⟨r, ⟨m, hm, rfl⟩, rfl⟩ := h2
    rw [hn] at hm
    injection hm with hm
    subst hm
    exact .cons (.refl _) (.cons (.refl _) (.cons (.refl _) (.cons (.refl _) (.cons (.refl _) (.cons (.nil 6) .nil)))))
  exact .agg (.cons (.refl _) (.cons (.refl _) (.cons (.refl _) (.cons (.refl _) (.cons (.refl _) (.cons (.refl _) (.cons (.refl _) (.cons (.refl _) (.cons (.refl _) (.cons h1 (.cons (.refl _) (.cons (.refl _) (.cons (.refl _) (.cons (.refl _) (.cons (.refl _) (.cons (.nil 6) .nil))))))))))))))))

-- WALK 25
-- sizar/sizarlaw11.course
theorem walk25 (name : ByteArray) (number : Int) (needs : List ByteArray) (hl : needs.length ≤ 1048576) : Does Try.prog 25 [sD name, iD number, strs needs] (.dat (.agg (courseD (mkC name number needs)))) [] := by
  refine Does.intro [.cell 6 41] Try.func25 rfl (by kernel_rfl) Try.ntmps25 rfl (Nat.le_of_ble_eq_true rfl) ?_
  refine T_seq ?_
  -- region 0
  refine T_region (is := [0]) rfl fun kn kp hn hp => ?_
  refine T_op rfl rfl fun kc hc => ?_  -- 6 := alloc 41
  simp; refine hc _ ?_; clear hc kc
  refine T_end (hn _ ?_); clear hn hp kn kp
  refine T_then ?_
  refine T_seq ?_
  -- region 1
  refine T_region (is := [0, 1, 2, 3, 4, 5, 6]) rfl fun kn kp hn hp => ?_
  refine T_op rfl rfl fun kc hc => ?_  -- 10 := move t0
  simp; refine hc _ ?_; clear hc kc
  refine T_op rfl rfl fun kc hc => ?_  -- 11 := move t1
  simp; refine hc _ ?_; clear hc kc
  refine T_op rfl rfl fun kc hc => ?_  -- 12 := build 39 [(0, 1)]
  simp; refine hc _ ?_; clear hc kc
  refine T_op rfl rfl fun kc hc => ?_  -- 13 := build 39 [(0, 2)]
  simp; refine hc _ ?_; clear hc kc
  refine T_op rfl rfl fun kc hc => ?_  -- 14 := build 41 [(0, t10), (1, t11), (2, 4), (4, t12), (5, t13)]
  simp; refine hc _ ?_; clear hc kc
  refine T_op rfl rfl fun kc hc => ?_  -- 7 := alloc 41
  simp; refine hc _ ?_; clear hc kc
  refine T_op rfl rfl fun kc hc => ?_  -- None := store 41 t7 t14
  simp; refine hc _ ?_; clear hc kc
  refine T_end (hn _ ?_); clear hn hp kn kp
  refine T_then ?_
  refine T_seq ?_
  refine T_seq ?_
  -- region 2
  refine T_region (is := [0, 1, 2]) rfl fun kn kp hn hp => ?_
  refine T_op rfl rfl fun kc hc => ?_  -- 15 := move t2
  simp; refine hc _ ?_; clear hc kc
  refine T_op rfl rfl fun kc hc => ?_  -- 16 := call len (t15) [36]
  simp; refine hc _ ?_; clear hc kc
  refine T_op rfl rfl fun kc hc => ?_  -- 17 := move 0
  simp; refine hc _ ?_; clear hc kc
  refine T_end (hn _ ?_); clear hn hp kn kp
  refine T_then ?_
  refine T_block ?_  -- block 0
  refine T_loop (fun z : Nat => { sl := [(6, .ptr 0 0), (7, .ptr 1 0), (15, .dat (strs needs)), (16, .dat (iD needs.length)), (17, .dat (iD z))], hp := [(0, .var [.dat (sD eS), .dat (iD 0), .dat (iD 0), .dat (iD 0), .dat (iD 0), .dat (iD 0), .dat (sD eS), .dat (iD 0), .dat (iD 0), .dat nilS, .dat (iD 0), .dat (iD 0), .dat (sD eS), .dat (iD 0), .dat (iD 0), .dat nilS]), (1, .var [.dat (sD name), .dat (iD number), .dat (iD 4), .dat (iD 0), .dat (iD 1), .dat (iD 0), .dat (sD eS), .dat (iD 0), .dat (iD 0), .own 2 6 z, .dat (iD 2), .dat (iD 0), .dat (sD eS), .dat (iD 0), .dat (iD 0), .dat nilS]), (2, .row 39 6 ((needs.take z).map kidN))], nx := 3 }) (fun z => z ≤ needs.length) (fun z => needs.length - z) 0 (Ent.trans (Ent.nilC (b := 1) (k := 9) 39 6 rfl rfl) (Ent.sub [6, 7, 15, 16, 17] [0, 1, 2] (by simp [sub, subSl, subHp, place, mp, mpL, mpO, mpG]))) (Nat.zero_le _) fun z hz => ?_  -- loop 0
  refine T_seq ?_
  -- region 3
  refine T_region (is := [0]) rfl fun kn kp hn hp => ?_
  refine T_op rfl rfl fun kc hc => ?_  -- 18 := binOp 3 t17 < t16
  simp; refine hc _ ?_; clear hc kc
  refine T_end (hn _ ?_); clear hn hp kn kp
  refine T_then ?_
  refine T_seq ?_
  refine T_cond rfl (fun b1 => ?_) (fun b1 => ?_)  -- t18
  · skip
    have hz' : z < needs.length := by simpa using b1
    obtain ⟨n, hxn⟩ : ∃ x, needs[z]? = some x := ⟨_, List.getElem?_eq_getElem hz'⟩
    have ez : IntKind.i64.wrap ((z : Int) + 1) = (z : Int) + 1 := wr1 hz' (by omega)
    have e7 : (z + 1) * 72 ≤ big := by simp only [big]; omega
    refine T_skip ?_
    refine T_then ?_
    refine T_seq ?_
    refine T_block ?_  -- block 1
    refine T_seq ?_
    -- region 4
    refine T_region (is := [0, 1, 2]) rfl fun kn kp hn hp => ?_
    refine T_op rfl rfl fun kc hc => ?_  -- 19 := indexAddr 36 t15 t17
    simp [hxn]; refine hc _ ?_; clear hc kc
    refine T_op rfl rfl fun kc hc => ?_  -- 20 := load 9 t19
    simp [hxn]; refine hc _ ?_; clear hc kc
    refine T_op rfl rfl fun kc hc => ?_  -- 9 := assign t20
    simp; refine hc _ ?_; clear hc kc
    refine T_end (hn _ ?_); clear hn hp kn kp
    refine T_then ?_
    -- region 5
    refine T_region (is := [0, 1, 2, 3, 4, 5, 6, 7, 8, 9]) rfl fun kn kp hn hp => ?_
    refine T_op rfl rfl fun kc hc => ?_  -- 21 := fieldAddr 41 t7 4
    simp; refine hc _ ?_; clear hc kc
    refine T_op rfl rfl fun kc hc => ?_  -- 22 := fieldAddr 39 t21 5
    simp; refine hc _ ?_; clear hc kc
    refine T_op rfl rfl fun kc hc => ?_  -- 23 := load 37 t22
    simp; refine hc _ ?_; clear hc kc
    refine T_op rfl rfl fun kc hc => ?_  -- 24 := move t9
    simp; refine hc _ ?_; clear hc kc
    refine T_op rfl rfl fun kc hc => ?_  -- 25 := build 39 [(0, 5), (2, t24), (3, 1)]
    simp; refine hc _ ?_; clear hc kc
    refine T_op rfl rfl fun kc hc => ?_  -- 26 := buildSlice 37 1 [(0, t25)]
    simp; refine hc _ ?_; clear hc kc
    refine T_op rfl rfl fun kc hc => ?_  -- 27 := call append (t23 t26) [37, 37]
    simp [e7, Nat.min_eq_left hz]; refine hc _ ?_; clear hc kc
    refine T_op rfl rfl fun kc hc => ?_  -- 28 := fieldAddr 41 t7 4
    simp; refine hc _ ?_; clear hc kc
    refine T_op rfl rfl fun kc hc => ?_  -- 29 := fieldAddr 39 t28 5
    simp; refine hc _ ?_; clear hc kc
    refine T_op rfl rfl fun kc hc => ?_  -- None := store 37 t29 t27
    simp; refine hc _ ?_; clear hc kc
    refine T_end (hn _ ?_); clear hn hp kn kp
    refine X_blockN ?_
    refine T_then ?_
    -- region 6
    refine T_region (is := [0, 1]) rfl fun kn kp hn hp => ?_
    refine T_op rfl rfl fun kc hc => ?_  -- 30 := binOp 3 t17 + 1
    simp [ez]; refine hc _ ?_; clear hc kc
    refine T_op rfl rfl fun kc hc => ?_  -- 17 := move t30
    simp; refine hc _ ?_; clear hc kc
    refine T_end (hn _ ?_); clear hn hp kn kp
    exact X_loopN (z + 1) (Ent.sub [6, 7, 15, 16, 17] [0, 1, 4] (by simp [sub, subSl, subHp, place, mp, mpL, mpO, mpG, ez, take_next hxn])) hz' (by omega)
  · skip
    have hz' : z = needs.length := by simp at b1; omega
    subst hz'
    have hb : needs.length ≤ big := by simp only [big]; omega
    refine T_exit ?_
    refine X_thenE ?_
    refine X_loopE ?_
    refine X_hit ?_
    refine T_then ?_
    refine T_seq ?_
    -- region 7
    refine T_region (is := [0, 1]) rfl fun kn kp hn hp => ?_
    refine T_op rfl rfl fun kc hc => ?_  -- 31 := load 41 t7
    simp; refine hc _ ?_; clear hc kc
    refine T_op rfl rfl fun kc hc => ?_  -- None := store 41 t6 t31
    simp; refine hc _ ?_; clear hc kc
    refine T_end (hn _ ?_); clear hn hp kn kp
    refine T_then ?_
    refine T_ret ?_
    exact finI (Ent.refl _) (by simp [resD, resL, resV]; rfl) (Ent.trans (Ent.giveG (t := 0) (n := 40) (e := .agg (rawC name number needs)) (hp' := _) rfl (by simp [Sx.give, giveL, hb]; rfl)) (Ent.trans (Ent.datG (t := 0) rfl (impC name number needs)) (Ent.sub [] [] (by simp [sub, subSl, subHp, place, mp, mpL, mpO, mpG]; rfl)))) rfl rfl (by simp)
-- END

theorem walk25n (name : ByteArray) (number : Int) : Does Try.prog 25 [sD name, iD number, nilS] (.dat (.agg (courseD (mkC name number [])))) [] :=
  (walk25 name number [] (by decide)).imp (.cons (.refl _) (.cons (.refl _) (.cons (.nil 1) .nil)))
abbrev sA : ByteArray := ⟨#[65]⟩
abbrev sB : ByteArray := ⟨#[66]⟩
abbrev sZ : ByteArray := ⟨#[90]⟩
def catC (l : List Course) : Cat := ⟨l, [], [], [], [], [], []⟩
theorem impK (l : List Course) : DatImp (.agg [.sl 16 (l.map courseD), nilS, nilS, nilS, nilS, nilS, nilS]) (.agg (catD (catC l))) :=
  .agg (.cons (.refl _) (.cons (.nil 4) (.cons (.nil 7) (.cons (.nil 4) (.cons (.nil 2) (.cons (.nil 4) (.cons (.nil 4) .nil)))))))
theorem impZ : DatImp (.agg [nilS, nilS, nilS, nilS, nilS, nilS, nilS]) (.agg (catD zeroCat)) :=
  .agg (.cons (.nil 16) (.cons (.nil 4) (.cons (.nil 7) (.cons (.nil 4) (.cons (.nil 2) (.cons (.nil 4) (.cons (.nil 4) .nil)))))))
theorem impZ3 : DatImp (.sl 6 [[iD 9, iD 0, sD sZ, iD 0, iD 0, nilS]]) (.sl 6 (kidsD (.mk 2 0 eS 0 0 [.mk 9 0 sZ 0 0 []]))) :=
  .sl rfl (fun i cs cs' h1 h2 => by
    cases i with
    | succ i => simp at h1
    | zero =>
      simp at h1
      have h2 : ruleD (.mk 9 0 sZ 0 0 []) = cs' := by simpa [kidsD_map, Rule.kids] using h2
      subst h1; subst h2
      exact .cons (.refl _) (.cons (.refl _) (.cons (.refl _) (.cons (.refl _) (.cons (.refl _) (.cons (.nil 6) .nil))))))
theorem fitC {l : List Course} (h1 : l.length ≤ 8) (h2 : ∀ y ∈ l, (partsOf y.need).length ≤ 8 ∧ (partsOf y.bar).length ≤ 8) : (catC l).fit :=
  ⟨Nat.le_trans h1 (by decide), fun y hy => ⟨Nat.le_trans (h2 y hy).1 (by decide), Nat.le_trans (h2 y hy).2 (by decide)⟩, Nat.zero_le _, Nat.zero_le _, fun p hp => by simp [catC] at hp, Nat.zero_le _, Nat.zero_le _, Nat.zero_le _, Nat.zero_le _⟩
abbrev l1 : List Course := [mkC sB 18 [sA], mkC sA 17 []]
abbrev l2 : List Course := [mkC sA 17 [], mkC sB 17 []]
abbrev l3 : List Course := [{ mkC sA 17 [] with bar := .mk 2 0 eS 0 0 [.mk 9 0 sZ 0 0 []] }]
abbrev l4 : List Course := [mkC sA 17 [sA]]
theorem fit1 : (catC l1).fit := fitC (by decide) (by simp; decide)
theorem fit2 : (catC l2).fit := fitC (by decide) (by simp; decide)
theorem fit3 : (catC l3).fit := fitC (by decide) (by simp; decide)
theorem fit4 : (catC l4).fit := fitC (by decide) (by simp; decide)
theorem fit0 : zeroCat.fit := fitC (l := []) (by decide) (by simp)
abbrev kA : List Dat := [iD 5, iD 17, sD sA, iD 1, iD 0, .sl 6 []]
abbrev x1 : List Dat := [.sl 16 [[sD sB, iD 18, iD 4, iD 0, iD 1, iD 0, sD eS, iD 0, iD 0, .sl 6 [kA], iD 2, iD 0, sD eS, iD 0, iD 0, .sl 6 []], [sD sA, iD 17, iD 4, iD 0, iD 1, iD 0, sD eS, iD 0, iD 0, .sl 6 [], iD 2, iD 0, sD eS, iD 0, iD 0, .sl 6 []]], .sl 4 [], .sl 7 [], .sl 4 [], .sl 2 [], .sl 4 [], .sl 4 []]
abbrev x0 : List Dat := [.sl 16 [], .sl 4 [], .sl 7 [], .sl 4 [], .sl 2 [], .sl 4 [], .sl 4 []]
theorem r1 : Does Try.prog 12 [.agg (catD (catC l1))] (.dat (.tup [.agg x1, iD 0])) [] := by
  have h := walk12 _ fit1
  rwa [show Dat.tup [.agg (catD (resolveOf (catC l1)).1), iD (resolveOf (catC l1)).2] = .tup [.agg x1, iD 0] from by kernel_rfl] at h
theorem r2 : Does Try.prog 12 [.agg (catD (catC l2))] (.dat (.tup [.agg x0, iD 111])) [] := by
  have h := walk12 _ fit2
  rwa [show Dat.tup [.agg (catD (resolveOf (catC l2)).1), iD (resolveOf (catC l2)).2] = .tup [.agg x0, iD 111] from by kernel_rfl] at h
theorem r3 : Does Try.prog 12 [.agg (catD (catC l3))] (.dat (.tup [.agg x0, iD 110])) [] := by
  have h := walk12 _ fit3
  rwa [show Dat.tup [.agg (catD (resolveOf (catC l3)).1), iD (resolveOf (catC l3)).2] = .tup [.agg x0, iD 110] from by kernel_rfl] at h
theorem r4 : Does Try.prog 12 [.agg (catD (catC l4))] (.dat (.tup [.agg x0, iD 112])) [] := by
  have h := walk12 _ fit4
  rwa [show Dat.tup [.agg (catD (resolveOf (catC l4)).1), iD (resolveOf (catC l4)).2] = .tup [.agg x0, iD 112] from by kernel_rfl] at h
theorem r0 : Does Try.prog 12 [.agg (catD zeroCat)] (.dat (.tup [.agg x0, iD 0])) [] := by
  have h := walk12 _ fit0
  rwa [show Dat.tup [.agg (catD (resolveOf zeroCat).1), iD (resolveOf zeroCat).2] = .tup [.agg x0, iD 0] from by kernel_rfl] at h
theorem o1 : Does Try.prog 17 [.agg (catD (catC l1))] (.tup [.dat (.sl 1 [[iD 17], [iD 18]]), .dat (iD 0)]) [] := by
  have h := walk17 _ fit1
  rwa [show D.tup [.dat (ints (orderOf (catC l1)).1), .dat (iD (orderOf (catC l1)).2)] = .tup [.dat (.sl 1 [[iD 17], [iD 18]]), .dat (iD 0)] from by kernel_rfl] at h
theorem o0 : Does Try.prog 17 [.agg (catD zeroCat)] (.tup [.dat (.sl 1 []), .dat (iD 0)]) [] := by
  have h := walk17 _ fit0
  rwa [show D.tup [.dat (ints (orderOf zeroCat).1), .dat (iD (orderOf zeroCat).2)] = .tup [.dat (.sl 1 []), .dat (iD 0)] from by kernel_rfl] at h
theorem f1 : Does Try.prog 15 [.agg (catD (catC l1)), sD sA] (.tup [.dat (iD 17), .dat (bV true)]) [] := by
  have h := walk15 (catC l1) sA (by decide)
  rwa [show D.tup [.dat (iD (findOf (catC l1) sA).1), .dat (bV (findOf (catC l1) sA).2)] = .tup [.dat (iD 17), .dat (bV true)] from by kernel_rfl] at h
theorem f0 : Does Try.prog 15 [.agg (catD zeroCat), sD sA] (.tup [.dat (iD 0), .dat (bV false)]) [] := by
  have h := walk15 zeroCat sA (by decide)
  rwa [show D.tup [.dat (iD (findOf zeroCat sA).1), .dat (bV (findOf zeroCat sA).2)] = .tup [.dat (iD 0), .dat (bV false)] from by kernel_rfl] at h
theorem y4 : Does Try.prog 20 [.agg (catD (catC l4))] (.dat (.sl 1 [[iD 17]])) [] := by
  have h := walk20 _ fit4
  rwa [show ints (cycOf (catC l4)) = .sl 1 [[iD 17]] from by kernel_rfl] at h
theorem y1 : Does Try.prog 20 [.agg (catD (catC l1))] (.dat (.sl 1 [])) [] := by
  have h := walk20 _ fit1
  rwa [show ints (cycOf (catC l1)) = .sl 1 [] from by kernel_rfl] at h

-- WALK 10
-- sizar/sizarlaw11.sane
set_option maxRecDepth 100000 in
set_option maxHeartbeats 8000000 in
theorem walk10 : Does Try.prog 10 [] (.dat (bV true)) [] := by
  refine Does.intro [.tmp 0] Try.func10 rfl (by kernel_rfl) Try.ntmps10 rfl (Nat.le_of_ble_eq_true rfl) ?_
  refine T_seq ?_
  -- region 0
  refine T_region (is := [0]) rfl fun kn kp hn hp => ?_
  refine T_op rfl rfl fun kc hc => ?_  -- 0 := assign false
  simp; refine hc _ ?_; clear hc kc
  refine T_end (hn _ ?_); clear hn hp kn kp
  refine T_then ?_
  refine T_seq ?_
  -- region 1
  refine T_region (is := [0, 1, 2, 3, 4, 5, 6]) rfl fun kn kp hn hp => ?_
  refine T_op rfl rfl fun kc hc => ?_  -- 22 := buildSlice 36 1 [(0, str)]
  simp; refine hc _ ?_; clear hc kc
  refine T_opsEnt (Ent.give (t := 22) (n := 9) (e := .sl 1 [[sD sA]]) (hp' := _) rfl (by simp [Sx.give, big]; rfl)) ?_
  refine T_op rfl rfl fun kc hc => ?_  -- 23 := call value F25 (str 18 t22) [9, 3, 36]
  simp
  refine CallS.dat (walk25 sB 18 [sA] (by decide)) (rfl) rfl rfl rfl ?_
  simp [enum]; refine hc _ ?_; clear hc kc
  refine T_op rfl rfl fun kc hc => ?_  -- 24 := call value F25 (str 17 nil) [9, 3, 36]
  simp
  refine CallS.dat (walk25n sA 17) (rfl) rfl rfl rfl ?_
  simp [enum]; refine hc _ ?_; clear hc kc
  refine T_op rfl rfl fun kc hc => ?_  -- 25 := buildSlice 22 2 [(0, t23), (1, t24)]
  simp; refine hc _ ?_; clear hc kc
  refine T_opsEnt (Ent.give (t := 25) (n := 9) (e := .sl 16 (l1.map courseD)) (hp' := _) rfl (by simp [Sx.give, big]; rfl)) ?_
  refine T_op rfl rfl fun kc hc => ?_  -- 26 := build 29 [(0, t25)]
  simp; refine hc _ ?_; clear hc kc
  refine T_op rfl rfl fun kc hc => ?_  -- 1 := alloc 29
  simp; refine hc _ ?_; clear hc kc
  refine T_op rfl rfl fun kc hc => ?_  -- None := store 29 t1 t26
  simp; refine hc _ ?_; clear hc kc
  refine T_end (hn _ ?_); clear hn hp kn kp
  refine T_then ?_
  refine T_seq ?_
  -- region 2
  refine T_region (is := [0, 1, 2, 3, 4, 5, 6, 7]) rfl fun kn kp hn hp => ?_
  refine T_op rfl rfl fun kc hc => ?_  -- 28 := load 29 t1
  simp; refine hc _ ?_; clear hc kc
  refine T_opsEnt (Ent.datS (t := 28) rfl (impK l1)) ?_
  refine T_op rfl rfl fun kc hc => ?_  -- 29 := call value F12 (t28) [29]
  simp
  refine CallS.dat (r1) (rfl) rfl rfl rfl ?_
  simp [enum]; refine hc _ ?_; clear hc kc
  refine T_op rfl rfl fun kc hc => ?_  -- 27 := move t29
  simp; refine hc _ ?_; clear hc kc
  refine T_op rfl rfl fun kc hc => ?_  -- 30 := extract t27 0
  simp; refine hc _ ?_; clear hc kc
  refine T_op rfl rfl fun kc hc => ?_  -- 31 := extract t27 1
  simp; refine hc _ ?_; clear hc kc
  refine T_op rfl rfl fun kc hc => ?_  -- 2 := alloc 29
  simp; refine hc _ ?_; clear hc kc
  refine T_op rfl rfl fun kc hc => ?_  -- None := store 29 t2 t30
  simp; refine hc _ ?_; clear hc kc
  refine T_op rfl rfl fun kc hc => ?_  -- 3 := assign t31
  simp; refine hc _ ?_; clear hc kc
  refine T_end (hn _ ?_); clear hn hp kn kp
  refine T_then ?_
  refine T_seq ?_
  -- region 3
  refine T_region (is := [0, 1, 2, 3, 4, 5, 6, 7, 8, 9, 10]) rfl fun kn kp hn hp => ?_
  refine T_op rfl rfl fun kc hc => ?_  -- 33 := call value F25 (str 17 nil) [9, 3, 36]
  simp
  refine CallS.dat (walk25n sA 17) (rfl) rfl rfl rfl ?_
  simp [enum]; refine hc _ ?_; clear hc kc
  refine T_op rfl rfl fun kc hc => ?_  -- 34 := call value F25 (str 17 nil) [9, 3, 36]
  simp
  refine CallS.dat (walk25n sB 17) (rfl) rfl rfl rfl ?_
  simp [enum]; refine hc _ ?_; clear hc kc
  refine T_op rfl rfl fun kc hc => ?_  -- 35 := buildSlice 22 2 [(0, t33), (1, t34)]
  simp; refine hc _ ?_; clear hc kc
  refine T_opsEnt (Ent.give (t := 35) (n := 9) (e := .sl 16 (l2.map courseD)) (hp' := _) rfl (by simp [Sx.give, big]; rfl)) ?_
  refine T_op rfl rfl fun kc hc => ?_  -- 36 := build 29 [(0, t35)]
  simp; refine hc _ ?_; clear hc kc
  refine T_opsEnt (Ent.datS (t := 36) rfl (impK l2)) ?_
  refine T_op rfl rfl fun kc hc => ?_  -- 37 := call value F12 (t36) [29]
  simp
  refine CallS.dat (r2) (rfl) rfl rfl rfl ?_
  simp [enum]; refine hc _ ?_; clear hc kc
  refine T_op rfl rfl fun kc hc => ?_  -- 32 := move t37
  simp; refine hc _ ?_; clear hc kc
  refine T_op rfl rfl fun kc hc => ?_  -- 38 := extract t32 0
  simp; refine hc _ ?_; clear hc kc
  refine T_op rfl rfl fun kc hc => ?_  -- 39 := extract t32 1
  simp; refine hc _ ?_; clear hc kc
  refine T_op rfl rfl fun kc hc => ?_  -- 4 := alloc 29
  simp; refine hc _ ?_; clear hc kc
  refine T_op rfl rfl fun kc hc => ?_  -- None := store 29 t4 t38
  simp; refine hc _ ?_; clear hc kc
  refine T_op rfl rfl fun kc hc => ?_  -- 5 := assign t39
  simp; refine hc _ ?_; clear hc kc
  refine T_end (hn _ ?_); clear hn hp kn kp
  refine T_then ?_
  refine T_seq ?_
  -- region 4
  refine T_region (is := [0, 1, 2]) rfl fun kn kp hn hp => ?_
  refine T_op rfl rfl fun kc hc => ?_  -- 40 := call value F25 (str 17 nil) [9, 3, 36]
  simp
  refine CallS.dat (walk25n sA 17) (rfl) rfl rfl rfl ?_
  simp [enum]; refine hc _ ?_; clear hc kc
  refine T_op rfl rfl fun kc hc => ?_  -- 6 := alloc 41
  simp; refine hc _ ?_; clear hc kc
  refine T_op rfl rfl fun kc hc => ?_  -- None := store 41 t6 t40
  simp; refine hc _ ?_; clear hc kc
  refine T_end (hn _ ?_); clear hn hp kn kp
  refine T_then ?_
  refine T_seq ?_
  -- region 5
  refine T_region (is := [0, 1, 2, 3, 4]) rfl fun kn kp hn hp => ?_
  refine T_op rfl rfl fun kc hc => ?_  -- 41 := build 39 [(0, 9), (2, str)]
  simp; refine hc _ ?_; clear hc kc
  refine T_op rfl rfl fun kc hc => ?_  -- 42 := buildSlice 37 1 [(0, t41)]
  simp; refine hc _ ?_; clear hc kc
  refine T_opsEnt (Ent.give (t := 42) (n := 9) (e := .sl 6 [[iD 9, iD 0, sD sZ, iD 0, iD 0, nilS]]) (hp' := _) rfl (by simp [Sx.give, big]; rfl)) ?_
  refine T_opsEnt (Ent.datS (t := 42) rfl (impZ3)) ?_
  refine T_op rfl rfl fun kc hc => ?_  -- 43 := fieldAddr 41 t6 5
  simp; refine hc _ ?_; clear hc kc
  refine T_op rfl rfl fun kc hc => ?_  -- 44 := fieldAddr 39 t43 5
  simp; refine hc _ ?_; clear hc kc
  refine T_op rfl rfl fun kc hc => ?_  -- None := store 37 t44 t42
  simp; refine hc _ ?_; clear hc kc
  refine T_end (hn _ ?_); clear hn hp kn kp
  refine T_then ?_
  refine T_seq ?_
  -- region 6
  refine T_region (is := [0, 1, 2, 3, 4, 5, 6, 7, 8, 9]) rfl fun kn kp hn hp => ?_
  refine T_op rfl rfl fun kc hc => ?_  -- 46 := load 41 t6
  simp; refine hc _ ?_; clear hc kc
  refine T_op rfl rfl fun kc hc => ?_  -- 47 := buildSlice 22 1 [(0, t46)]
  simp; refine hc _ ?_; clear hc kc
  refine T_opsEnt (Ent.give (t := 47) (n := 9) (e := .sl 16 (l3.map courseD)) (hp' := _) rfl (by simp [Sx.give, big]; exact ⟨⟨rfl, rfl, rfl, rfl, rfl⟩, rfl⟩)) ?_
  refine T_op rfl rfl fun kc hc => ?_  -- 48 := build 29 [(0, t47)]
  simp; refine hc _ ?_; clear hc kc
  refine T_opsEnt (Ent.datS (t := 48) rfl (impK l3)) ?_
  refine T_op rfl rfl fun kc hc => ?_  -- 49 := call value F12 (t48) [29]
  simp
  refine CallS.dat (r3) (rfl) rfl rfl rfl ?_
  simp [enum]; refine hc _ ?_; clear hc kc
  refine T_op rfl rfl fun kc hc => ?_  -- 45 := move t49
  simp; refine hc _ ?_; clear hc kc
  refine T_op rfl rfl fun kc hc => ?_  -- 50 := extract t45 0
  simp; refine hc _ ?_; clear hc kc
  refine T_op rfl rfl fun kc hc => ?_  -- 51 := extract t45 1
  simp; refine hc _ ?_; clear hc kc
  refine T_op rfl rfl fun kc hc => ?_  -- 7 := alloc 29
  simp; refine hc _ ?_; clear hc kc
  refine T_op rfl rfl fun kc hc => ?_  -- None := store 29 t7 t50
  simp; refine hc _ ?_; clear hc kc
  refine T_op rfl rfl fun kc hc => ?_  -- 8 := assign t51
  simp; refine hc _ ?_; clear hc kc
  refine T_end (hn _ ?_); clear hn hp kn kp
  refine T_then ?_
  refine T_seq ?_
  -- region 7
  refine T_region (is := [0, 1, 2, 3, 4, 5]) rfl fun kn kp hn hp => ?_
  refine T_op rfl rfl fun kc hc => ?_  -- 52 := buildSlice 36 1 [(0, str)]
  simp; refine hc _ ?_; clear hc kc
  refine T_opsEnt (Ent.give (t := 52) (n := 9) (e := .sl 1 [[sD sA]]) (hp' := _) rfl (by simp [Sx.give, big]; rfl)) ?_
  refine T_op rfl rfl fun kc hc => ?_  -- 53 := call value F25 (str 17 t52) [9, 3, 36]
  simp
  refine CallS.dat (walk25 sA 17 [sA] (by decide)) (rfl) rfl rfl rfl ?_
  simp [enum]; refine hc _ ?_; clear hc kc
  refine T_op rfl rfl fun kc hc => ?_  -- 54 := buildSlice 22 1 [(0, t53)]
  simp; refine hc _ ?_; clear hc kc
  refine T_opsEnt (Ent.give (t := 54) (n := 9) (e := .sl 16 (l4.map courseD)) (hp' := _) rfl (by simp [Sx.give, big]; rfl)) ?_
  refine T_op rfl rfl fun kc hc => ?_  -- 55 := build 29 [(0, t54)]
  simp; refine hc _ ?_; clear hc kc
  refine T_op rfl rfl fun kc hc => ?_  -- 9 := alloc 29
  simp; refine hc _ ?_; clear hc kc
  refine T_op rfl rfl fun kc hc => ?_  -- None := store 29 t9 t55
  simp; refine hc _ ?_; clear hc kc
  refine T_end (hn _ ?_); clear hn hp kn kp
  refine T_then ?_
  refine T_seq ?_
  -- region 8
  refine T_region (is := [0, 1, 2, 3, 4, 5, 6, 7]) rfl fun kn kp hn hp => ?_
  refine T_op rfl rfl fun kc hc => ?_  -- 57 := load 29 t9
  simp; refine hc _ ?_; clear hc kc
  refine T_opsEnt (Ent.datS (t := 57) rfl (impK l4)) ?_
  refine T_op rfl rfl fun kc hc => ?_  -- 58 := call value F12 (t57) [29]
  simp
  refine CallS.dat (r4) (rfl) rfl rfl rfl ?_
  simp [enum]; refine hc _ ?_; clear hc kc
  refine T_op rfl rfl fun kc hc => ?_  -- 56 := move t58
  simp; refine hc _ ?_; clear hc kc
  refine T_op rfl rfl fun kc hc => ?_  -- 59 := extract t56 0
  simp; refine hc _ ?_; clear hc kc
  refine T_op rfl rfl fun kc hc => ?_  -- 60 := extract t56 1
  simp; refine hc _ ?_; clear hc kc
  refine T_op rfl rfl fun kc hc => ?_  -- 10 := alloc 29
  simp; refine hc _ ?_; clear hc kc
  refine T_op rfl rfl fun kc hc => ?_  -- None := store 29 t10 t59
  simp; refine hc _ ?_; clear hc kc
  refine T_op rfl rfl fun kc hc => ?_  -- 11 := assign t60
  simp; refine hc _ ?_; clear hc kc
  refine T_end (hn _ ?_); clear hn hp kn kp
  refine T_then ?_
  refine T_seq ?_
  -- region 9
  refine T_region (is := [0, 1, 2, 3, 4, 5, 6, 7]) rfl fun kn kp hn hp => ?_
  refine T_op rfl rfl fun kc hc => ?_  -- 62 := build 29 []
  simp; refine hc _ ?_; clear hc kc
  refine T_opsEnt (Ent.datS (t := 62) rfl (impZ)) ?_
  refine T_op rfl rfl fun kc hc => ?_  -- 63 := call value F12 (t62) [29]
  simp
  refine CallS.dat (r0) (rfl) rfl rfl rfl ?_
  simp [enum]; refine hc _ ?_; clear hc kc
  refine T_op rfl rfl fun kc hc => ?_  -- 61 := move t63
  simp; refine hc _ ?_; clear hc kc
  refine T_op rfl rfl fun kc hc => ?_  -- 64 := extract t61 0
  simp; refine hc _ ?_; clear hc kc
  refine T_op rfl rfl fun kc hc => ?_  -- 65 := extract t61 1
  simp; refine hc _ ?_; clear hc kc
  refine T_op rfl rfl fun kc hc => ?_  -- 12 := alloc 29
  simp; refine hc _ ?_; clear hc kc
  refine T_op rfl rfl fun kc hc => ?_  -- None := store 29 t12 t64
  simp; refine hc _ ?_; clear hc kc
  refine T_op rfl rfl fun kc hc => ?_  -- 13 := assign t65
  simp; refine hc _ ?_; clear hc kc
  refine T_end (hn _ ?_); clear hn hp kn kp
  refine T_then ?_
  refine T_seq ?_
  -- region 10
  refine T_region (is := [0, 1, 2, 3, 4, 5, 6]) rfl fun kn kp hn hp => ?_
  refine T_op rfl rfl fun kc hc => ?_  -- 67 := load 29 t1
  simp; refine hc _ ?_; clear hc kc
  refine T_opsEnt (Ent.datS (t := 67) rfl (impK l1)) ?_
  refine T_op rfl rfl fun kc hc => ?_  -- 68 := call value F17 (t67) [29]
  simp
  refine CallS.dat (o1) (rfl) rfl rfl rfl ?_
  simp [enum]; refine hc _ ?_; clear hc kc
  refine T_op rfl rfl fun kc hc => ?_  -- 66 := move t68
  simp; refine hc _ ?_; clear hc kc
  refine T_op rfl rfl fun kc hc => ?_  -- 69 := extract t66 0
  simp; refine hc _ ?_; clear hc kc
  refine T_op rfl rfl fun kc hc => ?_  -- 70 := extract t66 1
  simp; refine hc _ ?_; clear hc kc
  refine T_op rfl rfl fun kc hc => ?_  -- 14 := assign t69
  simp; refine hc _ ?_; clear hc kc
  refine T_op rfl rfl fun kc hc => ?_  -- 15 := assign t70
  simp; refine hc _ ?_; clear hc kc
  refine T_end (hn _ ?_); clear hn hp kn kp
  refine T_then ?_
  refine T_seq ?_
  -- region 11
  refine T_region (is := [0, 1, 2, 3, 4, 5, 6]) rfl fun kn kp hn hp => ?_
  refine T_op rfl rfl fun kc hc => ?_  -- 72 := build 29 []
  simp; refine hc _ ?_; clear hc kc
  refine T_opsEnt (Ent.datS (t := 72) rfl (impZ)) ?_
  refine T_op rfl rfl fun kc hc => ?_  -- 73 := call value F17 (t72) [29]
  simp
  refine CallS.dat (o0) (rfl) rfl rfl rfl ?_
  simp [enum]; refine hc _ ?_; clear hc kc
  refine T_op rfl rfl fun kc hc => ?_  -- 71 := move t73
  simp; refine hc _ ?_; clear hc kc
  refine T_op rfl rfl fun kc hc => ?_  -- 74 := extract t71 0
  simp; refine hc _ ?_; clear hc kc
  refine T_op rfl rfl fun kc hc => ?_  -- 75 := extract t71 1
  simp; refine hc _ ?_; clear hc kc
  refine T_op rfl rfl fun kc hc => ?_  -- 16 := assign t74
  simp; refine hc _ ?_; clear hc kc
  refine T_op rfl rfl fun kc hc => ?_  -- 17 := assign t75
  simp; refine hc _ ?_; clear hc kc
  refine T_end (hn _ ?_); clear hn hp kn kp
  refine T_then ?_
  refine T_seq ?_
  -- region 12
  refine T_region (is := [0, 1, 2, 3, 4, 5, 6]) rfl fun kn kp hn hp => ?_
  refine T_op rfl rfl fun kc hc => ?_  -- 77 := load 29 t1
  simp; refine hc _ ?_; clear hc kc
  refine T_opsEnt (Ent.datS (t := 77) rfl (impK l1)) ?_
  refine T_op rfl rfl fun kc hc => ?_  -- 78 := call value F15 (t77 str) [29, 9]
  simp
  refine CallS.dat (f1) (rfl) rfl rfl rfl ?_
  simp [enum]; refine hc _ ?_; clear hc kc
  refine T_op rfl rfl fun kc hc => ?_  -- 76 := move t78
  simp; refine hc _ ?_; clear hc kc
  refine T_op rfl rfl fun kc hc => ?_  -- 79 := extract t76 0
  simp; refine hc _ ?_; clear hc kc
  refine T_op rfl rfl fun kc hc => ?_  -- 80 := extract t76 1
  simp; refine hc _ ?_; clear hc kc
  refine T_op rfl rfl fun kc hc => ?_  -- 18 := assign t79
  simp; refine hc _ ?_; clear hc kc
  refine T_op rfl rfl fun kc hc => ?_  -- 19 := assign t80
  simp; refine hc _ ?_; clear hc kc
  refine T_end (hn _ ?_); clear hn hp kn kp
  refine T_then ?_
  refine T_seq ?_
  -- region 13
  refine T_region (is := [0, 1, 2, 3, 4, 5, 6]) rfl fun kn kp hn hp => ?_
  refine T_op rfl rfl fun kc hc => ?_  -- 82 := build 29 []
  simp; refine hc _ ?_; clear hc kc
  refine T_opsEnt (Ent.datS (t := 82) rfl (impZ)) ?_
  refine T_op rfl rfl fun kc hc => ?_  -- 83 := call value F15 (t82 str) [29, 9]
  simp
  refine CallS.dat (f0) (rfl) rfl rfl rfl ?_
  simp [enum]; refine hc _ ?_; clear hc kc
  refine T_op rfl rfl fun kc hc => ?_  -- 81 := move t83
  simp; refine hc _ ?_; clear hc kc
  refine T_op rfl rfl fun kc hc => ?_  -- 84 := extract t81 0
  simp; refine hc _ ?_; clear hc kc
  refine T_op rfl rfl fun kc hc => ?_  -- 85 := extract t81 1
  simp; refine hc _ ?_; clear hc kc
  refine T_op rfl rfl fun kc hc => ?_  -- 20 := assign t84
  simp; refine hc _ ?_; clear hc kc
  refine T_op rfl rfl fun kc hc => ?_  -- 21 := assign t85
  simp; refine hc _ ?_; clear hc kc
  refine T_end (hn _ ?_); clear hn hp kn kp
  refine T_then ?_
  refine T_seq ?_
  refine T_seq ?_
  -- region 14
  refine T_region (is := [0, 1, 2, 3, 4, 5, 6, 7, 8, 9, 10, 11, 12, 13, 14, 15, 16, 17, 18, 19, 20, 21, 22, 23, 24, 25, 26, 27, 28, 29, 30, 31, 32, 33, 34, 35, 36, 37, 38, 39, 40, 41]) rfl fun kn kp hn hp => ?_
  refine T_op rfl rfl fun kc hc => ?_  -- 86 := move t3
  simp; refine hc _ ?_; clear hc kc
  refine T_op rfl rfl fun kc hc => ?_  -- 87 := binOp 32 t86 != 0
  simp; refine hc _ ?_; clear hc kc
  refine T_op rfl rfl fun kc hc => ?_  -- 88 := move t87
  simp; refine hc _ ?_; clear hc kc
  refine T_on rfl rfl rfl rfl rfl fun kc hc => ?_  -- 89 := move t5
  simp; refine hc _ ?_; clear hc kc
  refine T_on rfl rfl rfl rfl rfl fun kc hc => ?_  -- 90 := binOp 32 t89 != 111
  simp; refine hc _ ?_; clear hc kc
  refine T_op rfl rfl fun kc hc => ?_  -- 91 := pick t88 true t90
  simp; refine hc _ ?_; clear hc kc
  refine T_op rfl rfl fun kc hc => ?_  -- 92 := move t91
  simp; refine hc _ ?_; clear hc kc
  refine T_on rfl rfl rfl rfl rfl fun kc hc => ?_  -- 93 := move t8
  simp; refine hc _ ?_; clear hc kc
  refine T_on rfl rfl rfl rfl rfl fun kc hc => ?_  -- 94 := binOp 32 t93 != 110
  simp; refine hc _ ?_; clear hc kc
  refine T_op rfl rfl fun kc hc => ?_  -- 95 := pick t92 true t94
  simp; refine hc _ ?_; clear hc kc
  refine T_op rfl rfl fun kc hc => ?_  -- 96 := move t95
  simp; refine hc _ ?_; clear hc kc
  refine T_on rfl rfl rfl rfl rfl fun kc hc => ?_  -- 97 := move t11
  simp; refine hc _ ?_; clear hc kc
  refine T_on rfl rfl rfl rfl rfl fun kc hc => ?_  -- 98 := binOp 32 t97 != 112
  simp; refine hc _ ?_; clear hc kc
  refine T_op rfl rfl fun kc hc => ?_  -- 99 := pick t96 true t98
  simp; refine hc _ ?_; clear hc kc
  refine T_op rfl rfl fun kc hc => ?_  -- 100 := move t99
  simp; refine hc _ ?_; clear hc kc
  refine T_on rfl rfl rfl rfl rfl fun kc hc => ?_  -- 101 := move t13
  simp; refine hc _ ?_; clear hc kc
  refine T_on rfl rfl rfl rfl rfl fun kc hc => ?_  -- 102 := binOp 32 t101 != 0
  simp; refine hc _ ?_; clear hc kc
  refine T_op rfl rfl fun kc hc => ?_  -- 103 := pick t100 true t102
  simp; refine hc _ ?_; clear hc kc
  refine T_op rfl rfl fun kc hc => ?_  -- 104 := move t103
  simp; refine hc _ ?_; clear hc kc
  refine T_on rfl rfl rfl rfl rfl fun kc hc => ?_  -- 105 := move t15
  simp; refine hc _ ?_; clear hc kc
  refine T_on rfl rfl rfl rfl rfl fun kc hc => ?_  -- 106 := binOp 32 t105 != 0
  simp; refine hc _ ?_; clear hc kc
  refine T_op rfl rfl fun kc hc => ?_  -- 107 := pick t104 true t106
  simp; refine hc _ ?_; clear hc kc
  refine T_op rfl rfl fun kc hc => ?_  -- 108 := move t107
  simp; refine hc _ ?_; clear hc kc
  refine T_on rfl rfl rfl rfl rfl fun kc hc => ?_  -- 109 := move t17
  simp; refine hc _ ?_; clear hc kc
  refine T_on rfl rfl rfl rfl rfl fun kc hc => ?_  -- 110 := binOp 32 t109 != 0
  simp; refine hc _ ?_; clear hc kc
  refine T_op rfl rfl fun kc hc => ?_  -- 111 := pick t108 true t110
  simp; refine hc _ ?_; clear hc kc
  refine T_op rfl rfl fun kc hc => ?_  -- 112 := move t111
  simp; refine hc _ ?_; clear hc kc
  refine T_on rfl rfl rfl rfl rfl fun kc hc => ?_  -- 113 := fieldAddr 29 t2 0
  simp; refine hc _ ?_; clear hc kc
  refine T_on rfl rfl rfl rfl rfl fun kc hc => ?_  -- 114 := load 22 t113
  simp; refine hc _ ?_; clear hc kc
  refine T_on rfl rfl rfl rfl rfl fun kc hc => ?_  -- 115 := call len (t114) [22]
  simp; refine hc _ ?_; clear hc kc
  refine T_on rfl rfl rfl rfl rfl fun kc hc => ?_  -- 116 := binOp 3 t115 != 2
  simp; refine hc _ ?_; clear hc kc
  refine T_op rfl rfl fun kc hc => ?_  -- 117 := pick t112 true t116
  simp; refine hc _ ?_; clear hc kc
  refine T_op rfl rfl fun kc hc => ?_  -- 118 := move t117
  simp; refine hc _ ?_; clear hc kc
  refine T_on rfl rfl rfl rfl rfl fun kc hc => ?_  -- 119 := fieldAddr 29 t2 0
  simp; refine hc _ ?_; clear hc kc
  refine T_on rfl rfl rfl rfl rfl fun kc hc => ?_  -- 120 := load 22 t119
  simp; refine hc _ ?_; clear hc kc
  refine T_on rfl rfl rfl rfl rfl fun kc hc => ?_  -- 121 := indexAddr 22 t120 0
  simp; refine hc _ ?_; clear hc kc
  refine T_on rfl rfl rfl rfl rfl fun kc hc => ?_  -- 122 := fieldAddr 41 t121 4
  simp; refine hc _ ?_; clear hc kc
  refine T_on rfl rfl rfl rfl rfl fun kc hc => ?_  -- 123 := fieldAddr 39 t122 5
  simp; refine hc _ ?_; clear hc kc
  refine T_on rfl rfl rfl rfl rfl fun kc hc => ?_  -- 124 := load 37 t123
  simp; refine hc _ ?_; clear hc kc
  refine T_on rfl rfl rfl rfl rfl fun kc hc => ?_  -- 125 := call len (t124) [37]
  simp; refine hc _ ?_; clear hc kc
  refine T_on rfl rfl rfl rfl rfl fun kc hc => ?_  -- 126 := binOp 3 t125 != 1
  simp; refine hc _ ?_; clear hc kc
  refine T_op rfl rfl fun kc hc => ?_  -- 127 := pick t118 true t126
  simp; refine hc _ ?_; clear hc kc
  refine T_end (hn _ ?_); clear hn hp kn kp
  refine T_then ?_
  refine T_false (by simp) ?_  -- t127
  refine T_skip ?_
  refine T_then ?_
  refine T_seq ?_
  -- region 16
  refine T_region (is := [0, 1, 2, 3, 4, 5, 6, 7, 8, 9, 10, 11, 12, 13, 14, 15, 16, 17, 18, 19, 20, 21, 22, 23, 24, 25, 26, 27, 28, 29, 30, 31, 32, 33, 34, 35, 36, 37, 38, 39, 40, 41, 42, 43, 44, 45, 46, 47, 48, 49, 50, 51, 52, 53, 54, 55, 56, 57, 58, 59, 60]) rfl fun kn kp hn hp => ?_
  refine T_op rfl rfl fun kc hc => ?_  -- 128 := fieldAddr 29 t2 0
  simp; refine hc _ ?_; clear hc kc
  refine T_op rfl rfl fun kc hc => ?_  -- 129 := load 22 t128
  simp; refine hc _ ?_; clear hc kc
  refine T_op rfl rfl fun kc hc => ?_  -- 130 := indexAddr 22 t129 0
  simp; refine hc _ ?_; clear hc kc
  refine T_op rfl rfl fun kc hc => ?_  -- 131 := fieldAddr 41 t130 4
  simp; refine hc _ ?_; clear hc kc
  refine T_op rfl rfl fun kc hc => ?_  -- 132 := fieldAddr 39 t131 5
  simp; refine hc _ ?_; clear hc kc
  refine T_op rfl rfl fun kc hc => ?_  -- 133 := load 37 t132
  simp; refine hc _ ?_; clear hc kc
  refine T_op rfl rfl fun kc hc => ?_  -- 134 := indexAddr 37 t133 0
  simp; refine hc _ ?_; clear hc kc
  refine T_op rfl rfl fun kc hc => ?_  -- 135 := fieldAddr 39 t134 1
  simp; refine hc _ ?_; clear hc kc
  refine T_op rfl rfl fun kc hc => ?_  -- 136 := load 3 t135
  simp; refine hc _ ?_; clear hc kc
  refine T_op rfl rfl fun kc hc => ?_  -- 137 := binOp 3 t136 == 17
  simp; refine hc _ ?_; clear hc kc
  refine T_op rfl rfl fun kc hc => ?_  -- 138 := move t137
  simp; refine hc _ ?_; clear hc kc
  refine T_on rfl rfl rfl rfl rfl fun kc hc => ?_  -- 139 := fieldAddr 29 t2 0
  simp; refine hc _ ?_; clear hc kc
  refine T_on rfl rfl rfl rfl rfl fun kc hc => ?_  -- 140 := load 22 t139
  simp; refine hc _ ?_; clear hc kc
  refine T_on rfl rfl rfl rfl rfl fun kc hc => ?_  -- 141 := indexAddr 22 t140 0
  simp; refine hc _ ?_; clear hc kc
  refine T_on rfl rfl rfl rfl rfl fun kc hc => ?_  -- 142 := fieldAddr 41 t141 4
  simp; refine hc _ ?_; clear hc kc
  refine T_on rfl rfl rfl rfl rfl fun kc hc => ?_  -- 143 := fieldAddr 39 t142 5
  simp; refine hc _ ?_; clear hc kc
  refine T_on rfl rfl rfl rfl rfl fun kc hc => ?_  -- 144 := load 37 t143
  simp; refine hc _ ?_; clear hc kc
  refine T_on rfl rfl rfl rfl rfl fun kc hc => ?_  -- 145 := indexAddr 37 t144 0
  simp; refine hc _ ?_; clear hc kc
  refine T_on rfl rfl rfl rfl rfl fun kc hc => ?_  -- 146 := fieldAddr 39 t145 2
  simp; refine hc _ ?_; clear hc kc
  refine T_on rfl rfl rfl rfl rfl fun kc hc => ?_  -- 147 := load 9 t146
  simp; refine hc _ ?_; clear hc kc
  refine T_on rfl rfl rfl rfl rfl fun kc hc => ?_  -- 148 := binOp 9 t147 == str
  simp; refine hc _ ?_; clear hc kc
  refine T_op rfl rfl fun kc hc => ?_  -- 149 := pick t138 t148 false
  simp; refine hc _ ?_; clear hc kc
  refine T_op rfl rfl fun kc hc => ?_  -- 150 := move t149
  simp; refine hc _ ?_; clear hc kc
  refine T_on rfl rfl rfl rfl rfl fun kc hc => ?_  -- 151 := load 29 t12
  simp; refine hc _ ?_; clear hc kc
  refine T_on rfl rfl rfl rfl rfl fun kc hc => ?_  -- 152 := build 29 []
  simp; refine hc _ ?_; clear hc kc
  refine T_opsEnt (Ent.datS (t := 152) rfl (impZ)) ?_
  refine T_on rfl rfl rfl rfl rfl fun kc hc => ?_  -- 153 := call value F14 (t151 t152) [29, 29]
  simp
  refine CallS.dat (walk14 zeroCat fit0) (rfl) rfl rfl rfl ?_
  simp [enum]; refine hc _ ?_; clear hc kc
  refine T_op rfl rfl fun kc hc => ?_  -- 154 := pick t150 t153 false
  simp; refine hc _ ?_; clear hc kc
  refine T_op rfl rfl fun kc hc => ?_  -- 155 := move t154
  simp; refine hc _ ?_; clear hc kc
  refine T_on rfl rfl rfl rfl rfl fun kc hc => ?_  -- 156 := move t14
  simp; refine hc _ ?_; clear hc kc
  refine T_on rfl rfl rfl rfl rfl fun kc hc => ?_  -- 157 := buildSlice 45 2 [(0, 17), (1, 18)]
  simp; refine hc _ ?_; clear hc kc
  refine T_opsEnt (Ent.give (t := 157) (n := 9) (e := .sl 1 [[iD 17], [iD 18]]) (hp' := _) rfl (by simp [Sx.give, big]; rfl)) ?_
  refine T_on rfl rfl rfl rfl rfl fun kc hc => ?_  -- 158 := call value F19 (t156 t157) [45, 45]
  simp
  refine CallS.dat (walk19 [17, 18] (by decide)) (rfl) rfl rfl rfl ?_
  simp [enum]; refine hc _ ?_; clear hc kc
  refine T_op rfl rfl fun kc hc => ?_  -- 159 := pick t155 t158 false
  simp; refine hc _ ?_; clear hc kc
  refine T_op rfl rfl fun kc hc => ?_  -- 160 := move t159
  simp; refine hc _ ?_; clear hc kc
  refine T_on rfl rfl rfl rfl rfl fun kc hc => ?_  -- 161 := move t16
  simp; refine hc _ ?_; clear hc kc
  refine T_on rfl rfl rfl rfl rfl fun kc hc => ?_  -- 162 := call len (t161) [45]
  simp; refine hc _ ?_; clear hc kc
  refine T_on rfl rfl rfl rfl rfl fun kc hc => ?_  -- 163 := binOp 3 t162 == 0
  simp; refine hc _ ?_; clear hc kc
  refine T_op rfl rfl fun kc hc => ?_  -- 164 := pick t160 t163 false
  simp; refine hc _ ?_; clear hc kc
  refine T_op rfl rfl fun kc hc => ?_  -- 165 := move t164
  simp; refine hc _ ?_; clear hc kc
  refine T_on rfl rfl rfl rfl rfl fun kc hc => ?_  -- 166 := move t18
  simp; refine hc _ ?_; clear hc kc
  refine T_on rfl rfl rfl rfl rfl fun kc hc => ?_  -- 167 := binOp 3 t166 == 17
  simp; refine hc _ ?_; clear hc kc
  refine T_op rfl rfl fun kc hc => ?_  -- 168 := pick t165 t167 false
  simp; refine hc _ ?_; clear hc kc
  refine T_op rfl rfl fun kc hc => ?_  -- 169 := move t168
  simp; refine hc _ ?_; clear hc kc
  refine T_on rfl rfl rfl rfl rfl fun kc hc => ?_  -- 170 := move t19
  simp; refine hc _ ?_; clear hc kc
  refine T_op rfl rfl fun kc hc => ?_  -- 171 := pick t169 t170 false
  simp; refine hc _ ?_; clear hc kc
  refine T_op rfl rfl fun kc hc => ?_  -- 172 := move t171
  simp; refine hc _ ?_; clear hc kc
  refine T_on rfl rfl rfl rfl rfl fun kc hc => ?_  -- 173 := move t21
  simp; refine hc _ ?_; clear hc kc
  refine T_on rfl rfl rfl rfl rfl fun kc hc => ?_  -- 174 := unOp 4 t173
  simp; refine hc _ ?_; clear hc kc
  refine T_op rfl rfl fun kc hc => ?_  -- 175 := pick t172 t174 false
  simp; refine hc _ ?_; clear hc kc
  refine T_op rfl rfl fun kc hc => ?_  -- 176 := move t175
  simp; refine hc _ ?_; clear hc kc
  refine T_on rfl rfl rfl rfl rfl fun kc hc => ?_  -- 177 := load 29 t9
  simp; refine hc _ ?_; clear hc kc
  refine T_opsEnt (Ent.datS (t := 177) rfl (impK l4)) ?_
  refine T_on rfl rfl rfl rfl rfl fun kc hc => ?_  -- 178 := call value F20 (t177) [29]
  simp
  refine CallS.dat (y4) (rfl) rfl rfl rfl ?_
  simp [enum]; refine hc _ ?_; clear hc kc
  refine T_on rfl rfl rfl rfl rfl fun kc hc => ?_  -- 179 := buildSlice 45 1 [(0, 17)]
  simp; refine hc _ ?_; clear hc kc
  refine T_opsEnt (Ent.give (t := 179) (n := 9) (e := .sl 1 [[iD 17]]) (hp' := _) rfl (by simp [Sx.give, big]; rfl)) ?_
  refine T_on rfl rfl rfl rfl rfl fun kc hc => ?_  -- 180 := call value F19 (t178 t179) [45, 45]
  simp
  refine CallS.dat (walk19 [17] (by decide)) (rfl) rfl rfl rfl ?_
  simp [enum]; refine hc _ ?_; clear hc kc
  refine T_op rfl rfl fun kc hc => ?_  -- 181 := pick t176 t180 false
  simp; refine hc _ ?_; clear hc kc
  refine T_op rfl rfl fun kc hc => ?_  -- 182 := move t181
  simp; refine hc _ ?_; clear hc kc
  refine T_on rfl rfl rfl rfl rfl fun kc hc => ?_  -- 183 := load 29 t1
  simp; refine hc _ ?_; clear hc kc
  refine T_opsEnt (Ent.datS (t := 183) rfl (impK l1)) ?_
  refine T_on rfl rfl rfl rfl rfl fun kc hc => ?_  -- 184 := call value F20 (t183) [29]
  simp
  refine CallS.dat (y1) (rfl) rfl rfl rfl ?_
  simp [enum]; refine hc _ ?_; clear hc kc
  refine T_on rfl rfl rfl rfl rfl fun kc hc => ?_  -- 185 := call len (t184) [45]
  simp; refine hc _ ?_; clear hc kc
  refine T_on rfl rfl rfl rfl rfl fun kc hc => ?_  -- 186 := binOp 3 t185 == 0
  simp; refine hc _ ?_; clear hc kc
  refine T_op rfl rfl fun kc hc => ?_  -- 187 := pick t182 t186 false
  simp; refine hc _ ?_; clear hc kc
  refine T_op rfl rfl fun kc hc => ?_  -- 0 := assign t187
  simp; refine hc _ ?_; clear hc kc
  refine T_end (hn _ ?_); clear hn hp kn kp
  refine T_then ?_
  refine T_ret ?_
  exact finI (Ent.refl _) (by simp [resD, resL, resV]; rfl) (Ent.sub [] [] (by simp [sub, subSl, subHp, place, mp, mpL, mpO, mpG]; rfl)) rfl rfl (by simp)
-- END

end Go.Proofs.Ytbkkekbeaabokaa
