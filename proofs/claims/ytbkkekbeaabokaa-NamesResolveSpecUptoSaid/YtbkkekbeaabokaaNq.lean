/- The names: the first three statements, walked. -/
import Derived.Test.YtbkkekbeaabokaaNp
set_option linter.unusedVariables false
set_option linter.unusedSimpArgs false
namespace Go.Proofs.Ytbkkekbeaabokaa
open Go Go.Proofs.Ytbkkekbeaabokaa.Sx

/-! ### What Resolve gives is small too -/
mutual
theorem parts_rule (c : Cat) : ∀ r : Rule, (partsOf (ruleR c r).1).length = (partsOf r).length
  | .mk a b d e f kids => by simp [ruleR, partsOf, parts_rules c kids]
theorem parts_rules (c : Cat) : ∀ l : List Rule, (partsL (rulesR c l).1).length = (partsL l).length
  | [] => rfl
  | r :: rs => by simp [rulesR, partsL, parts_rule c r, parts_rules c rs]
end
theorem numsR_le (c : Cat) : ∀ (ns : List ByteArray) (fs : List Int), (numsR c ns fs).1.length ≤ fs.length
  | [], fs => by simp [numsR]
  | a :: ns, [] => by simp [numsR]
  | a :: ns, b :: fs => by simpa [numsR] using numsR_le c ns fs
theorem fit_zero : zeroCat.fit := fit0
theorem fit_resR {c : Cat} (h : c.fit) : (resR c).fit := by
  refine ⟨by simpa [resR, mapX] using h.courses, fun y hy => ?_, by simpa [resR, mapX] using h.same, by simpa [resR, mapX] using h.progs, fun p hp => ?_, h.classes, h.fees, h.honours, h.clauses⟩
  · simp only [resR, mapX, List.mem_map] at hy
    obtain ⟨x, hx, rfl⟩ := hy
    simp only [courseX, parts_rule]
    exact h.need x hx
  · simp only [resR, mapX, List.mem_map] at hp
    obtain ⟨x, hx, rfl⟩ := hp
    refine ⟨by simpa [progX, mapX] using (h.reqs x hx).1, fun q hq => ?_⟩
    simp only [progX, mapX, List.mem_map] at hq
    obtain ⟨u, hu, rfl⟩ := hq
    have := (h.reqs x hx).2 u hu
    exact ⟨this.1, Nat.le_trans (numsR_le c _ _) this.2⟩
theorem fit_res {c : Cat} (h : c.fit) : (resolveOf c).1.fit := by
  unfold resolveOf
  split
  · exact fit_zero
  · split
    · exact fit_zero
    · split
      · exact fit_zero
      · split
        · exact fit_zero
        · exact fit_resR h
theorem wayGo_len (c : Cat) : ∀ (k : Nat) (way : List Int) (a : Int), (wayGo c k way a).1.length ≤ way.length + k
  | 0, way, a => Nat.le_refl _
  | k + 1, way, a => by
    simp only [wayGo]
    split
    · simp
    · have := wayGo_len c k (way ++ [a]) (stepC c a)
      simp at this
      omega
theorem cycOf_len (c : Cat) : (cycOf c).length ≤ c.courses.length + 1 := by
  unfold cycOf
  split
  · simp
  · have := wayGo_len c (c.courses.length + 1) [] (firstC c)
    simp only [List.length_map, List.length_drop, wayOf] at this ⊢
    simp at this
    omega
theorem orderOf_len (c : Cat) : (orderOf c).1.length ≤ c.courses.length := by
  unfold orderOf
  split
  · simp
  · simpa using listOf_len c

-- WALK 3 4 5
-- sizar/sizarlaw11.NamesResolveSpec
theorem walk3 (c : Cat) (hf : c.fit) : Does Try.prog 3 [.agg (catD c)] (.dat (bV true)) [] := by
  have hr := fit_res hf
  refine Does.intro [.tmp 2] Try.func3 rfl (by kernel_rfl) Try.ntmps3 rfl (Nat.le_of_ble_eq_true rfl) ?_
  refine T_seq ?_
  refine T_region (is := [0, 1]) rfl fun kn kp hn hp => ?_
  refine T_op rfl rfl fun kc hc => ?_
  simp; refine hc _ ?_; clear hc kc
  refine T_op rfl rfl fun kc hc => ?_
  simp; refine hc _ ?_; clear hc kc
  refine T_end (hn _ ?_); clear hn hp kn kp
  refine T_then ?_
  refine T_seq ?_
  refine T_seq ?_
  refine T_region (is := [0, 1]) rfl fun kn kp hn hp => ?_
  refine T_op rfl rfl fun kc hc => ?_
  simp
  refine CallS.dat (walk10) (rfl) rfl rfl rfl ?_
  simp [enum]; refine hc _ ?_; clear hc kc
  refine T_op rfl rfl fun kc hc => ?_
  simp; refine hc _ ?_; clear hc kc
  refine T_end (hn _ ?_); clear hn hp kn kp
  refine T_then ?_
  refine T_false (by simp) ?_
  refine T_skip ?_
  refine T_then ?_
  refine T_seq ?_
  refine T_seq ?_
  refine T_region (is := [0, 1, 2]) rfl fun kn kp hn hp => ?_
  refine T_op rfl rfl fun kc hc => ?_
  simp; refine hc _ ?_; clear hc kc
  refine T_op rfl rfl fun kc hc => ?_
  simp
  refine CallS.dat (walk11 c hf) (rfl) rfl rfl rfl ?_
  simp [enum]; refine hc _ ?_; clear hc kc
  refine T_op rfl rfl fun kc hc => ?_
  simp; refine hc _ ?_; clear hc kc
  refine T_end (hn _ ?_); clear hn hp kn kp
  refine T_then ?_
  refine T_cond rfl (fun b2 => ?_) (fun b2 => ?_)
  · skip
    refine T_seq ?_
    refine T_region (is := [0]) rfl fun kn kp hn hp => ?_
    refine T_op rfl rfl fun kc hc => ?_
    simp; refine hc _ ?_; clear hc kc
    refine T_end (hn _ ?_); clear hn hp kn kp
    refine T_then ?_
    refine T_ret ?_
    refine X_thenR ?_
    exact finI (Ent.refl _) (by simp [resD, resL, resV]; rfl) (Ent.sub [] [] (by simp [sub, subSl, subHp, place, mp, mpL, mpO, mpG]; rfl)) rfl rfl (by simp)
  · skip
    refine T_skip ?_
    refine T_then ?_
    refine T_seq ?_
    refine T_region (is := [0, 1, 2, 3, 4, 5, 6, 7]) rfl fun kn kp hn hp => ?_
    refine T_op rfl rfl fun kc hc => ?_
    simp; refine hc _ ?_; clear hc kc
    refine T_op rfl rfl fun kc hc => ?_
    simp
    refine CallS.dat (walk12 c hf) (rfl) rfl rfl rfl ?_
    simp [enum]; refine hc _ ?_; clear hc kc
    refine T_op rfl rfl fun kc hc => ?_
    simp; refine hc _ ?_; clear hc kc
    refine T_op rfl rfl fun kc hc => ?_
    simp; refine hc _ ?_; clear hc kc
    refine T_op rfl rfl fun kc hc => ?_
    simp; refine hc _ ?_; clear hc kc
    refine T_op rfl rfl fun kc hc => ?_
    simp; refine hc _ ?_; clear hc kc
    refine T_op rfl rfl fun kc hc => ?_
    simp; refine hc _ ?_; clear hc kc
    refine T_op rfl rfl fun kc hc => ?_
    simp; refine hc _ ?_; clear hc kc
    refine T_end (hn _ ?_); clear hn hp kn kp
    refine T_then ?_
    refine T_seq ?_
    refine T_region (is := [0, 1, 2, 3, 4, 5, 6, 7]) rfl fun kn kp hn hp => ?_
    refine T_op rfl rfl fun kc hc => ?_
    simp; refine hc _ ?_; clear hc kc
    refine T_op rfl rfl fun kc hc => ?_
    simp
    refine CallS.dat (walk13 c hf) (rfl) rfl rfl rfl ?_
    simp [enum]; refine hc _ ?_; clear hc kc
    refine T_op rfl rfl fun kc hc => ?_
    simp; refine hc _ ?_; clear hc kc
    refine T_op rfl rfl fun kc hc => ?_
    simp; refine hc _ ?_; clear hc kc
    refine T_op rfl rfl fun kc hc => ?_
    simp; refine hc _ ?_; clear hc kc
    refine T_op rfl rfl fun kc hc => ?_
    simp; refine hc _ ?_; clear hc kc
    refine T_op rfl rfl fun kc hc => ?_
    simp; refine hc _ ?_; clear hc kc
    refine T_op rfl rfl fun kc hc => ?_
    simp; refine hc _ ?_; clear hc kc
    refine T_end (hn _ ?_); clear hn hp kn kp
    refine T_then ?_
    refine T_seq ?_
    refine T_region (is := [0, 1, 2, 3, 4, 5, 6, 7, 8]) rfl fun kn kp hn hp => ?_
    refine T_op rfl rfl fun kc hc => ?_
    simp; refine hc _ ?_; clear hc kc
    refine T_op rfl rfl fun kc hc => ?_
    simp; refine hc _ ?_; clear hc kc
    refine T_op rfl rfl fun kc hc => ?_
    simp
    refine CallS.dat (walk14 _ hr) (rfl) rfl rfl rfl ?_
    simp [enum]; refine hc _ ?_; clear hc kc
    refine T_op rfl rfl fun kc hc => ?_
    simp; refine hc _ ?_; clear hc kc
    refine T_on rfl rfl rfl rfl rfl fun kc hc => ?_
    simp; refine hc _ ?_; clear hc kc
    refine T_on rfl rfl rfl rfl rfl fun kc hc => ?_
    simp; refine hc _ ?_; clear hc kc
    refine T_on rfl rfl rfl rfl rfl fun kc hc => ?_
    simp; refine hc _ ?_; clear hc kc
    refine T_op rfl rfl fun kc hc => ?_
    simp; refine hc _ ?_; clear hc kc
    refine T_op rfl rfl fun kc hc => ?_
    simp; refine hc _ ?_; clear hc kc
    refine T_end (hn _ ?_); clear hn hp kn kp
    refine T_then ?_
    refine T_ret ?_
    exact finI (Ent.refl _) (by simp [resD, resL, resV]; rfl) (Ent.sub [] [] (by simp [sub, subSl, subHp, place, mp, mpL, mpO, mpG]; rfl)) rfl rfl (by simp)
-- sizar/sizarlaw11.NamesFindSpec
theorem walk4 (c : Cat) (name : ByteArray) (hf : c.fit) : Does Try.prog 4 [.agg (catD c), sD name] (.dat (bV true)) [] := by
  have h1 := hf.courses
  refine Does.intro [.tmp 4] Try.func4 rfl (by kernel_rfl) Try.ntmps4 rfl (Nat.le_of_ble_eq_true rfl) ?_
  refine T_seq ?_
  refine T_region (is := [0, 1]) rfl fun kn kp hn hp => ?_
  refine T_op rfl rfl fun kc hc => ?_
  simp; refine hc _ ?_; clear hc kc
  refine T_op rfl rfl fun kc hc => ?_
  simp; refine hc _ ?_; clear hc kc
  refine T_end (hn _ ?_); clear hn hp kn kp
  refine T_then ?_
  refine T_seq ?_
  refine T_seq ?_
  refine T_region (is := [0, 1]) rfl fun kn kp hn hp => ?_
  refine T_op rfl rfl fun kc hc => ?_
  simp
  refine CallS.dat (walk10) (rfl) rfl rfl rfl ?_
  simp [enum]; refine hc _ ?_; clear hc kc
  refine T_op rfl rfl fun kc hc => ?_
  simp; refine hc _ ?_; clear hc kc
  refine T_end (hn _ ?_); clear hn hp kn kp
  refine T_then ?_
  refine T_false (by simp) ?_
  refine T_skip ?_
  refine T_then ?_
  refine T_seq ?_
  refine T_seq ?_
  refine T_region (is := [0, 1, 2]) rfl fun kn kp hn hp => ?_
  refine T_op rfl rfl fun kc hc => ?_
  simp; refine hc _ ?_; clear hc kc
  refine T_op rfl rfl fun kc hc => ?_
  simp
  refine CallS.dat (walk11 c hf) (rfl) rfl rfl rfl ?_
  simp [enum]; refine hc _ ?_; clear hc kc
  refine T_op rfl rfl fun kc hc => ?_
  simp; refine hc _ ?_; clear hc kc
  refine T_end (hn _ ?_); clear hn hp kn kp
  refine T_then ?_
  refine T_cond rfl (fun b2 => ?_) (fun b2 => ?_)
  · skip
    refine T_seq ?_
    refine T_region (is := [0]) rfl fun kn kp hn hp => ?_
    refine T_op rfl rfl fun kc hc => ?_
    simp; refine hc _ ?_; clear hc kc
    refine T_end (hn _ ?_); clear hn hp kn kp
    refine T_then ?_
    refine T_ret ?_
    refine X_thenR ?_
    exact finI (Ent.refl _) (by simp [resD, resL, resV]; rfl) (Ent.sub [] [] (by simp [sub, subSl, subHp, place, mp, mpL, mpO, mpG]; rfl)) rfl rfl (by simp)
  · skip
    refine T_skip ?_
    refine T_then ?_
    refine T_seq ?_
    refine T_region (is := [0, 1, 2]) rfl fun kn kp hn hp => ?_
    refine T_op rfl rfl fun kc hc => ?_
    simp; refine hc _ ?_; clear hc kc
    refine T_op rfl rfl fun kc hc => ?_
    simp; refine hc _ ?_; clear hc kc
    refine T_op rfl rfl fun kc hc => ?_
    simp; refine hc _ ?_; clear hc kc
    refine T_end (hn _ ?_); clear hn hp kn kp
    refine T_then ?_
    refine T_seq ?_
    refine T_seq ?_
    refine T_region (is := [0]) rfl fun kn kp hn hp => ?_
    refine T_op rfl rfl fun kc hc => ?_
    simp; refine hc _ ?_; clear hc kc
    refine T_end (hn _ ?_); clear hn hp kn kp
    refine T_then ?_
    refine T_block ?_
    refine T_loop (fun z : Nat => { sl := [(2, .ptr 0 0), (5, .own 1 1 (z + 1)), (6, .dat (iD z))], hp := [(0, .var ((catD c).map .dat)), (1, .row 9 1 ((name :: (c.courses.take z).map (·.name)).map fun s => [sD s]))], nx := 2 }) (fun z => z ≤ c.courses.length) (fun z => c.courses.length - z) 0 (Ent.sub [2, 5, 6] [0, 1] (by simp [sub, subSl, subHp, place, mp, mpL, mpO, mpG])) (Nat.zero_le _) fun z hz => ?_
    refine T_seq ?_
    refine T_seq ?_
    refine T_region (is := [0, 1, 2, 3, 4]) rfl fun kn kp hn hp => ?_
    refine T_op rfl rfl fun kc hc => ?_
    simp; refine hc _ ?_; clear hc kc
    refine T_op rfl rfl fun kc hc => ?_
    simp; refine hc _ ?_; clear hc kc
    refine T_op rfl rfl fun kc hc => ?_
    simp; refine hc _ ?_; clear hc kc
    refine T_op rfl rfl fun kc hc => ?_
    simp; refine hc _ ?_; clear hc kc
    refine T_op rfl rfl fun kc hc => ?_
    simp; refine hc _ ?_; clear hc kc
    refine T_end (hn _ ?_); clear hn hp kn kp
    refine T_then ?_
    refine T_cond rfl (fun b3 => ?_) (fun b3 => ?_)
    · skip
      have hz' : z < c.courses.length := by simpa using b3
      obtain ⟨y, hxy⟩ : ∃ x, c.courses[z]? = some x := ⟨_, List.getElem?_eq_getElem hz'⟩
      have ez : IntKind.i64.wrap ((z : Int) + 1) = (z : Int) + 1 := wr1 hz' (by omega)
      have e7 : (z + 1 + 1) * 16 ≤ big := by simp only [big]; omega
      refine T_skip ?_
      refine T_then ?_
      refine T_seq ?_
      refine T_block ?_
      refine T_region (is := [0, 1, 2, 3, 4, 5, 6, 7, 8, 9]) rfl fun kn kp hn hp => ?_
      refine T_op rfl rfl fun kc hc => ?_
      simp; refine hc _ ?_; clear hc kc
      refine T_op rfl rfl fun kc hc => ?_
      simp; refine hc _ ?_; clear hc kc
      refine T_op rfl rfl fun kc hc => ?_
      simp; refine hc _ ?_; clear hc kc
      refine T_op rfl rfl fun kc hc => ?_
      simp; refine hc _ ?_; clear hc kc
      refine T_op rfl rfl fun kc hc => ?_
      simp [hxy]; refine hc _ ?_; clear hc kc
      refine T_op rfl rfl fun kc hc => ?_
      simp; refine hc _ ?_; clear hc kc
      refine T_op rfl rfl fun kc hc => ?_
      simp [hxy]; refine hc _ ?_; clear hc kc
      refine T_op rfl rfl fun kc hc => ?_
      simp; refine hc _ ?_; clear hc kc
      refine T_op rfl rfl fun kc hc => ?_
      simp [e7, Nat.min_eq_left hz]; refine hc _ ?_; clear hc kc
      refine T_op rfl rfl fun kc hc => ?_
      simp; refine hc _ ?_; clear hc kc
      refine T_end (hn _ ?_); clear hn hp kn kp
      refine X_blockN ?_
      refine T_then ?_
      refine T_region (is := [0, 1, 2]) rfl fun kn kp hn hp => ?_
      refine T_op rfl rfl fun kc hc => ?_
      simp; refine hc _ ?_; clear hc kc
      refine T_op rfl rfl fun kc hc => ?_
      simp [ez]; refine hc _ ?_; clear hc kc
      refine T_op rfl rfl fun kc hc => ?_
      simp; refine hc _ ?_; clear hc kc
      refine T_end (hn _ ?_); clear hn hp kn kp
      exact X_loopN (z + 1) (Ent.sub [2, 5, 6] [0, 3] (by simp [sub, subSl, subHp, place, mp, mpL, mpO, mpG, ez, take_next hxy])) hz' (by omega)
    · skip
      have hz' : z = c.courses.length := by simp at b3; omega
      subst hz'
      refine T_exit ?_
      refine X_thenE ?_
      refine X_loopE ?_
      refine X_hit ?_
      refine T_then ?_
      refine T_seq ?_
      refine T_seq ?_
      refine T_region (is := [0]) rfl fun kn kp hn hp => ?_
      refine T_op rfl rfl fun kc hc => ?_
      simp; refine hc _ ?_; clear hc kc
      refine T_end (hn _ ?_); clear hn hp kn kp
      refine T_then ?_
      refine T_block ?_
      refine T_loop (fun z : Nat => { sl := [(2, .ptr 0 0), (5, .own 1 1 (name :: c.courses.map (·.name)).length), (7, .dat (iD z))], hp := [(0, .var ((catD c).map .dat)), (1, .row 9 1 ((name :: c.courses.map (·.name)).map fun s => [sD s]))], nx := 2 }) (fun z => z ≤ (name :: c.courses.map (·.name)).length) (fun z => (name :: c.courses.map (·.name)).length - z) 0 (Ent.sub [2, 5, 7] [0, 1] (by simp [sub, subSl, subHp, place, mp, mpL, mpO, mpG])) (Nat.zero_le _) fun z hz => ?_
      refine T_seq ?_
      refine T_seq ?_
      refine T_region (is := [0, 1, 2, 3]) rfl fun kn kp hn hp => ?_
      refine T_op rfl rfl fun kc hc => ?_
      simp; refine hc _ ?_; clear hc kc
      refine T_op rfl rfl fun kc hc => ?_
      simp; refine hc _ ?_; clear hc kc
      refine T_op rfl rfl fun kc hc => ?_
      simp; refine hc _ ?_; clear hc kc
      refine T_op rfl rfl fun kc hc => ?_
      simp; refine hc _ ?_; clear hc kc
      refine T_end (hn _ ?_); clear hn hp kn kp
      refine T_then ?_
      refine T_cond rfl (fun b4 => ?_) (fun b4 => ?_)
      · skip
        have hlz : z < c.courses.length + 1 := by simp at b4; omega
        have hlz2 : (z : Int) < (c.courses.length : Int) + 1 := by omega
        have hz' : z < (name :: c.courses.map (·.name)).length := by simpa using hlz
        obtain ⟨n, hxn⟩ : ∃ x, (name :: c.courses.map (·.name))[z]? = some x := ⟨_, List.getElem?_eq_getElem hz'⟩
        have ez : IntKind.i64.wrap ((z : Int) + 1) = (z : Int) + 1 := wr1 hlz (by omega)
        have hxd : ([sD name] :: List.map ((fun s => [sD s]) ∘ fun x => x.name) c.courses)[z]? = some [sD n] := by have := congrArg (Option.map fun s => [sD s]) hxn; rw [← List.getElem?_map] at this; simpa using this
        refine T_skip ?_
        refine T_then ?_
        refine T_seq ?_
        refine T_block ?_
        refine T_seqDraw (is := [0, 1, 2, 3, 4, 5, 6, 7, 8, 9, 10]) rfl (by kernel_rfl) fun kn hn => ?_
        refine D_op rfl rfl rfl rfl fun kc hc => ?_
        simp; refine hc _ ?_; clear hc kc
        refine D_op rfl rfl rfl rfl fun kc hc => ?_
        simp; refine hc _ ?_; clear hc kc
        refine D_op rfl rfl rfl rfl fun kc hc => ?_
        simp; refine hc _ ?_; clear hc kc
        refine D_op rfl rfl rfl rfl fun kc hc => ?_
        simp [hlz2]; refine hc _ ?_; clear hc kc
        refine D_op rfl rfl rfl rfl fun kc hc => ?_
        simp [hxd]; refine hc _ ?_; clear hc kc
        refine D_call rfl rfl rfl (by simp <;> first | exact ⟨rfl, rfl⟩ | rfl) (Does.datTup (ds := [iD _, bV _]) (walk15 c n (by omega))) (by rfl) rfl fun kc hc => ?_
        simp [enum]; refine hc _ ?_; clear hc kc
        refine D_op rfl rfl rfl rfl fun kc hc => ?_
        simp; refine hc _ ?_; clear hc kc
        refine D_op rfl rfl rfl rfl fun kc hc => ?_
        simp; refine hc _ ?_; clear hc kc
        refine D_op rfl rfl rfl rfl fun kc hc => ?_
        simp; refine hc _ ?_; clear hc kc
        refine D_op rfl rfl rfl rfl fun kc hc => ?_
        simp; refine hc _ ?_; clear hc kc
        refine D_op rfl rfl rfl rfl fun kc hc => ?_
        simp; refine hc _ ?_; clear hc kc
        refine D_end rfl (by kernel_rfl) (hn _ ?_); clear hn kn
        refine T_seqDraw (is := [0, 1, 2, 3, 4, 5, 6, 7, 8, 9, 10]) rfl (by kernel_rfl) fun kn hn => ?_
        refine D_op rfl rfl rfl rfl fun kc hc => ?_
        simp; refine hc _ ?_; clear hc kc
        refine D_op rfl rfl rfl rfl fun kc hc => ?_
        simp; refine hc _ ?_; clear hc kc
        refine D_op rfl rfl rfl rfl fun kc hc => ?_
        simp; refine hc _ ?_; clear hc kc
        refine D_op rfl rfl rfl rfl fun kc hc => ?_
        simp [hlz2]; refine hc _ ?_; clear hc kc
        refine D_op rfl rfl rfl rfl fun kc hc => ?_
        simp [hxd]; refine hc _ ?_; clear hc kc
        refine D_call rfl rfl rfl (by simp <;> first | exact ⟨rfl, rfl⟩ | rfl) (Does.datTup (ds := [iD _, bV _]) (walk16 c n (by omega))) (by rfl) rfl fun kc hc => ?_
        simp [enum]; refine hc _ ?_; clear hc kc
        refine D_op rfl rfl rfl rfl fun kc hc => ?_
        simp; refine hc _ ?_; clear hc kc
        refine D_op rfl rfl rfl rfl fun kc hc => ?_
        simp; refine hc _ ?_; clear hc kc
        refine D_op rfl rfl rfl rfl fun kc hc => ?_
        simp; refine hc _ ?_; clear hc kc
        refine D_op rfl rfl rfl rfl fun kc hc => ?_
        simp; refine hc _ ?_; clear hc kc
        refine D_op rfl rfl rfl rfl fun kc hc => ?_
        simp; refine hc _ ?_; clear hc kc
        refine D_end rfl (by kernel_rfl) (hn _ ?_); clear hn kn
        refine T_seq ?_
        refine T_region (is := [0, 1, 2, 3, 4, 5, 6, 7]) rfl fun kn kp hn hp => ?_
        refine T_op rfl rfl fun kc hc => ?_
        simp; refine hc _ ?_; clear hc kc
        refine T_op rfl rfl fun kc hc => ?_
        simp; refine hc _ ?_; clear hc kc
        refine T_op rfl rfl fun kc hc => ?_
        simp; refine hc _ ?_; clear hc kc
        refine T_op rfl rfl fun kc hc => ?_
        simp; refine hc _ ?_; clear hc kc
        refine T_on rfl rfl rfl rfl rfl fun kc hc => ?_
        simp; refine hc _ ?_; clear hc kc
        refine T_on rfl rfl rfl rfl rfl fun kc hc => ?_
        simp; refine hc _ ?_; clear hc kc
        refine T_on rfl rfl rfl rfl rfl fun kc hc => ?_
        simp; refine hc _ ?_; clear hc kc
        refine T_op rfl rfl fun kc hc => ?_
        simp; refine hc _ ?_; clear hc kc
        refine T_end (hn _ ?_); clear hn hp kn kp
        refine T_then ?_
        refine T_false (by simp) ?_
        refine T_skip ?_
        refine X_blockN ?_
        refine T_then ?_
        refine T_region (is := [0, 1, 2]) rfl fun kn kp hn hp => ?_
        refine T_op rfl rfl fun kc hc => ?_
        simp; refine hc _ ?_; clear hc kc
        refine T_op rfl rfl fun kc hc => ?_
        simp [ez]; refine hc _ ?_; clear hc kc
        refine T_op rfl rfl fun kc hc => ?_
        simp; refine hc _ ?_; clear hc kc
        refine T_end (hn _ ?_); clear hn hp kn kp
        exact X_loopN (z + 1) (Ent.sub [2, 5, 7] [0, 1] (by simp [sub, subSl, subHp, place, mp, mpL, mpO, mpG, ez])) hz' (by omega)
      · skip
        refine T_exit ?_
        refine X_thenE ?_
        refine X_loopE ?_
        refine X_hit ?_
        refine T_then ?_
        refine T_seq ?_
        refine T_region (is := [0]) rfl fun kn kp hn hp => ?_
        refine T_op rfl rfl fun kc hc => ?_
        simp; refine hc _ ?_; clear hc kc
        refine T_end (hn _ ?_); clear hn hp kn kp
        refine T_then ?_
        refine T_ret ?_
        exact finI (Ent.refl _) (by simp [resD, resL, resV]; rfl) (Ent.sub [] [] (by simp [sub, subSl, subHp, place, mp, mpL, mpO, mpG]; rfl)) rfl rfl (by simp)
-- sizar/sizarlaw11.NamesOrderSpec
theorem walk5 (c : Cat) (hf : c.fit) : Does Try.prog 5 [.agg (catD c)] (.dat (bV true)) [] := by
  have hc1 := cycOf_len c
  have ho1 := orderOf_len c
  have hn1 := hf.courses
  refine Does.intro [.tmp 2] Try.func5 rfl (by kernel_rfl) Try.ntmps5 rfl (Nat.le_of_ble_eq_true rfl) ?_
  refine T_seq ?_
  refine T_region (is := [0, 1]) rfl fun kn kp hn hp => ?_
  refine T_op rfl rfl fun kc hc => ?_
  simp; refine hc _ ?_; clear hc kc
  refine T_op rfl rfl fun kc hc => ?_
  simp; refine hc _ ?_; clear hc kc
  refine T_end (hn _ ?_); clear hn hp kn kp
  refine T_then ?_
  refine T_seq ?_
  refine T_seq ?_
  refine T_region (is := [0, 1]) rfl fun kn kp hn hp => ?_
  refine T_op rfl rfl fun kc hc => ?_
  simp
  refine CallS.dat (walk10) (rfl) rfl rfl rfl ?_
  simp [enum]; refine hc _ ?_; clear hc kc
  refine T_op rfl rfl fun kc hc => ?_
  simp; refine hc _ ?_; clear hc kc
  refine T_end (hn _ ?_); clear hn hp kn kp
  refine T_then ?_
  refine T_false (by simp) ?_
  refine T_skip ?_
  refine T_then ?_
  refine T_seq ?_
  refine T_seq ?_
  refine T_region (is := [0, 1, 2]) rfl fun kn kp hn hp => ?_
  refine T_op rfl rfl fun kc hc => ?_
  simp; refine hc _ ?_; clear hc kc
  refine T_op rfl rfl fun kc hc => ?_
  simp
  refine CallS.dat (walk11 c hf) (rfl) rfl rfl rfl ?_
  simp [enum]; refine hc _ ?_; clear hc kc
  refine T_op rfl rfl fun kc hc => ?_
  simp; refine hc _ ?_; clear hc kc
  refine T_end (hn _ ?_); clear hn hp kn kp
  refine T_then ?_
  refine T_cond rfl (fun b2 => ?_) (fun b2 => ?_)
  · skip
    refine T_seq ?_
    refine T_region (is := [0]) rfl fun kn kp hn hp => ?_
    refine T_op rfl rfl fun kc hc => ?_
    simp; refine hc _ ?_; clear hc kc
    refine T_end (hn _ ?_); clear hn hp kn kp
    refine T_then ?_
    refine T_ret ?_
    refine X_thenR ?_
    exact finI (Ent.refl _) (by simp [resD, resL, resV]; rfl) (Ent.sub [] [] (by simp [sub, subSl, subHp, place, mp, mpL, mpO, mpG]; rfl)) rfl rfl (by simp)
  · skip
    refine T_skip ?_
    refine T_then ?_
    refine T_seq ?_
    refine T_region (is := [0, 1, 2, 3, 4, 5, 6]) rfl fun kn kp hn hp => ?_
    refine T_op rfl rfl fun kc hc => ?_
    simp; refine hc _ ?_; clear hc kc
    refine T_op rfl rfl fun kc hc => ?_
    simp
    refine CallS.dat (walk17 c hf) (rfl) rfl rfl rfl ?_
    simp [enum]; refine hc _ ?_; clear hc kc
    refine T_op rfl rfl fun kc hc => ?_
    simp; refine hc _ ?_; clear hc kc
    refine T_op rfl rfl fun kc hc => ?_
    simp; refine hc _ ?_; clear hc kc
    refine T_op rfl rfl fun kc hc => ?_
    simp; refine hc _ ?_; clear hc kc
    refine T_op rfl rfl fun kc hc => ?_
    simp; refine hc _ ?_; clear hc kc
    refine T_op rfl rfl fun kc hc => ?_
    simp; refine hc _ ?_; clear hc kc
    refine T_end (hn _ ?_); clear hn hp kn kp
    refine T_then ?_
    refine T_seq ?_
    refine T_region (is := [0, 1, 2, 3, 4, 5, 6]) rfl fun kn kp hn hp => ?_
    refine T_op rfl rfl fun kc hc => ?_
    simp; refine hc _ ?_; clear hc kc
    refine T_op rfl rfl fun kc hc => ?_
    simp
    refine CallS.dat (walk18 c hf) (rfl) rfl rfl rfl ?_
    simp [enum]; refine hc _ ?_; clear hc kc
    refine T_op rfl rfl fun kc hc => ?_
    simp; refine hc _ ?_; clear hc kc
    refine T_op rfl rfl fun kc hc => ?_
    simp; refine hc _ ?_; clear hc kc
    refine T_op rfl rfl fun kc hc => ?_
    simp; refine hc _ ?_; clear hc kc
    refine T_op rfl rfl fun kc hc => ?_
    simp; refine hc _ ?_; clear hc kc
    refine T_op rfl rfl fun kc hc => ?_
    simp; refine hc _ ?_; clear hc kc
    refine T_end (hn _ ?_); clear hn hp kn kp
    refine T_then ?_
    refine T_seqDraw (is := [0, 1, 2, 3, 4, 5, 6, 7, 8, 9, 10, 11, 12, 13, 14, 15]) rfl (by kernel_rfl) fun kn hn => ?_
    refine D_op rfl rfl rfl rfl fun kc hc => ?_
    simp; refine hc _ ?_; clear hc kc
    refine D_op rfl rfl rfl rfl fun kc hc => ?_
    simp; refine hc _ ?_; clear hc kc
    refine D_call rfl rfl rfl (by simp <;> first | exact ⟨rfl, rfl⟩ | rfl) (walk19 (orderOf c).1 (by omega)) (by rfl) rfl fun kc hc => ?_
    simp [enum]; refine hc _ ?_; clear hc kc
    refine D_op rfl rfl rfl rfl fun kc hc => ?_
    simp; refine hc _ ?_; clear hc kc
    refine D_deep rfl (pstep_one rfl rfl rfl rfl fun g0 => .op rfl (by simp [g0]; rfl)) rfl fun kc hc => ?_
    simp; refine hc _ ?_; clear hc kc
    refine D_deep rfl (pstep_one rfl rfl rfl rfl fun g0 => .op rfl (by simp [g0]; rfl)) rfl fun kc hc => ?_
    simp; refine hc _ ?_; clear hc kc
    refine D_deep rfl (pstep_one rfl rfl rfl rfl fun g0 => .op rfl (by simp [g0]; rfl)) rfl fun kc hc => ?_
    simp; refine hc _ ?_; clear hc kc
    refine D_op rfl rfl rfl rfl fun kc hc => ?_
    simp; refine hc _ ?_; clear hc kc
    refine D_op rfl rfl rfl rfl fun kc hc => ?_
    simp; refine hc _ ?_; clear hc kc
    refine D_deep rfl (pstep_one rfl rfl rfl rfl fun g0 => .op rfl (by simp [g0]; rfl)) rfl fun kc hc => ?_
    simp; refine hc _ ?_; clear hc kc
    refine D_deep rfl (pstep_one rfl rfl rfl rfl fun g0 => .dat (by simp [g0] <;> first | exact ⟨rfl, rfl⟩ | rfl) (by exact walk20 c hf) (by rfl)) rfl fun kc hc => ?_
    simp; refine hc _ ?_; clear hc kc
    refine D_deep rfl (pstep_one rfl rfl rfl rfl fun g0 => .op rfl (by simp [g0]; rfl)) rfl fun kc hc => ?_
    simp; refine hc _ ?_; clear hc kc
    refine D_deep rfl (pstep_one rfl rfl rfl rfl fun g0 => .dat (by simp [g0] <;> first | exact ⟨rfl, rfl⟩ | rfl) (by exact walk21 c hf) (by rfl)) rfl fun kc hc => ?_
    simp; refine hc _ ?_; clear hc kc
    refine D_deep rfl (pstep_one rfl rfl rfl rfl fun g0 => .dat (by simp [g0] <;> first | exact ⟨rfl, rfl⟩ | rfl) (by exact walk19 (cycOf c) (by omega)) (by rfl)) rfl fun kc hc => ?_
    simp; refine hc _ ?_; clear hc kc
    refine D_op rfl rfl rfl rfl fun kc hc => ?_
    simp; refine hc _ ?_; clear hc kc
    refine D_op rfl rfl rfl rfl fun kc hc => ?_
    simp; refine hc _ ?_; clear hc kc
    refine D_end rfl (by kernel_rfl) (hn _ ?_); clear hn kn
    refine T_ret ?_
    exact finI (Ent.refl _) (by simp [resD, resL, resV]; rfl) (Ent.sub [] [] (by simp [sub, subSl, subHp, place, mp, mpL, mpO, mpG]; rfl)) rfl rfl (by simp)
-- END

end Go.Proofs.Ytbkkekbeaabokaa
