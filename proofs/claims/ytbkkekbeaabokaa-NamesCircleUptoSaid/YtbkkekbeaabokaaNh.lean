/- The names: rules with numbers. -/
import Derived.Test.YtbkkekbeaabokaaNg
set_option linter.unusedVariables false
set_option linter.unusedSimpArgs false
namespace Go.Proofs.Ytbkkekbeaabokaa
open Go Go.Proofs.Ytbkkekbeaabokaa.Sx

def mentB (o : Int) : Bool := o == 5 || (o == 6 || o == 9)
/-- The number that a rule itself gets. -/
def courseOf (c : Cat) (op course : Int) (name : ByteArray) : Option Int := if mentB op then numberOf c name course else some course
mutual
def ruleOf (c : Cat) : Rule → Option Rule
  | .mk op course name n d kids => match courseOf c op course name, rulesOf c kids with
    | some k, some ks => some (.mk op k name n d ks)
    | _, _ => none
def rulesOf (c : Cat) : List Rule → Option (List Rule)
  | [] => some []
  | r :: rs => match ruleOf c r, rulesOf c rs with
    | some x, some l => some (x :: l)
    | _, _ => none
end
def numberR (c : Cat) (name : ByteArray) (old : Int) : Int × Bool := if name == eS then (old, true) else if meant c name old < 0 then (0, false) else (numAt c (meant c name old), true)
def courseR (c : Cat) (op course : Int) (name : ByteArray) : Int × Bool := if mentB op then numberR c name course else (course, true)
mutual
def ruleR (c : Cat) : Rule → Rule × Bool
  | .mk op course name n d kids => (.mk op (courseR c op course name).1 name n d (rulesR c kids).1, (courseR c op course name).2 && (rulesR c kids).2)
def rulesR (c : Cat) : List Rule → List Rule × Bool
  | [] => ([], true)
  | r :: rs => ((ruleR c r).1 :: (rulesR c rs).1, (ruleR c r).2 && (rulesR c rs).2)
end
theorem meant_name {c : Cat} {name : ByteArray} {a b : Int} (h : (name == eS) = false) : meant c name a = meant c name b := by
  have : meansB name a = meansB name b := by funext x; simp [meansB, h]
  simp [meant, this]
theorem numberR_eq (c : Cat) (name : ByteArray) (old : Int) : numberOf c name old = if (numberR c name old).2 then some (numberR c name old).1 else none := by
  unfold numberOf numberR
  cases h : name == eS with
  | true => simp
  | false =>
    rw [meant_name (b := old) h]
    simp only [Bool.false_eq_true, if_false]
    split <;> simp
theorem courseR_eq (c : Cat) (op course : Int) (name : ByteArray) : courseOf c op course name = if (courseR c op course name).2 then some (courseR c op course name).1 else none := by
  unfold courseOf courseR
  split
  · exact numberR_eq c name course
  · simp
mutual
theorem ruleR_eq (c : Cat) : ∀ r : Rule, ruleOf c r = if (ruleR c r).2 then some (ruleR c r).1 else none
  | .mk op course name n d kids => by
    simp only [ruleOf, ruleR, courseR_eq, rulesR_eq c kids]
    by_cases h1 : (courseR c op course name).2 = true <;> by_cases h2 : (rulesR c kids).2 = true <;> simp [h1, h2]
theorem rulesR_eq (c : Cat) : ∀ l : List Rule, rulesOf c l = if (rulesR c l).2 then some (rulesR c l).1 else none
  | [] => by simp [rulesOf, rulesR]
  | r :: rs => by
    simp only [rulesOf, rulesR, ruleR_eq c r, rulesR_eq c rs]
    by_cases h1 : (ruleR c r).2 = true <;> by_cases h2 : (rulesR c rs).2 = true <;> simp [h1, h2]
end
theorem rulesOf_get {c : Cat} : ∀ {l ks : List Rule}, rulesOf c l = some ks → ks.length = l.length ∧ ∀ (i : Nat) (x : Rule), l[i]? = some x → ∃ y, ks[i]? = some y ∧ ruleOf c x = some y
  | [], ks, h => by simp only [rulesOf, Option.some.injEq] at h; subst h; exact ⟨rfl, fun i x hx => by simp at hx⟩
  | r :: rs, ks, h => by
    simp only [rulesOf] at h
    split at h
    · rename_i x l h1 h2
      injection h with h
      subst h
      obtain ⟨k1, k2⟩ := rulesOf_get h2
      refine ⟨by simp [k1], fun i y hy => ?_⟩
      cases i with
      | zero => simp at hy; subst hy; exact ⟨x, rfl, h1⟩
      | succ i => simpa using k2 i y (by simpa using hy)
    · cases h
/-- The first that has no numbers. -/
theorem rulesOf_none {c : Cat} : ∀ {l : List Rule}, rulesOf c l = none → ∃ (q : Nat) (x : Rule) (ks : List Rule), l[q]? = some x ∧ ruleOf c x = none ∧ rulesOf c (l.take q) = some ks
  | [], h => by simp [rulesOf] at h
  | r :: rs, h => by
    cases h1 : ruleOf c r with
    | none => exact ⟨0, r, [], rfl, h1, rfl⟩
    | some x =>
      cases h2 : rulesOf c rs with
      | some l => simp [rulesOf, h1, h2] at h
      | none =>
        obtain ⟨q, y, ks, k1, k2, k3⟩ := rulesOf_none h2
        exact ⟨q + 1, y, x :: ks, by simpa using k1, k2, by simp [rulesOf, h1, k3]⟩
theorem ruleD_mk (a b : Int) (m : ByteArray) (d e : Int) (ks : List Rule) : ruleD (.mk a b m d e ks) = [iD a, iD b, sD m, iD d, iD e, .sl 6 (ks.map ruleD)] := by
  simp [Rule.op, Rule.course, Rule.name, Rule.n, Rule.d, kidsD, rulesD_map]
theorem rulesOf_dnf (c : Cat) (r : Rule) : ruleOf c r = match courseOf c r.op r.course r.name, rulesOf c r.kids with
    | some k, some ks => some (.mk r.op k r.name r.n r.d ks)
    | _, _ => none := by
  cases r
  simp only [ruleOf, Rule.op, Rule.course, Rule.name, Rule.n, Rule.d, Rule.kids]
theorem ruleR_dnf (c : Cat) (r : Rule) : ruleR c r = (.mk r.op (courseR c r.op r.course r.name).1 r.name r.n r.d (rulesR c r.kids).1, (courseR c r.op r.course r.name).2 && (rulesR c r.kids).2) := by
  cases r
  simp only [ruleR, Rule.op, Rule.course, Rule.name, Rule.n, Rule.d, Rule.kids]
theorem rulesR_app (c : Cat) : ∀ (l : List Rule) (x : Rule), rulesR c (l ++ [x]) = ((rulesR c l).1 ++ [(ruleR c x).1], (rulesR c l).2 && (ruleR c x).2)
  | [], x => by simp [rulesR]
  | r :: rs, x => by simp [rulesR, rulesR_app c rs x, Bool.and_assoc]
theorem rulesR_next {c : Cat} {l : List Rule} {z : Nat} {x : Rule} (h : l[z]? = some x) : rulesR c (l.take (z + 1)) = ((rulesR c (l.take z)).1 ++ [(ruleR c x).1], (rulesR c (l.take z)).2 && (ruleR c x).2) := by
  rw [take_next h, rulesR_app]
theorem rulesR_len (c : Cat) : ∀ l : List Rule, (rulesR c l).1.length = l.length
  | [] => rfl
  | r :: rs => by simp [rulesR, rulesR_len c rs]
/-- A row whose elements are turned, one after the other. -/
def halfD {α : Type} (f : α → List Dat) (a b : List α) (z : Nat) : List (List Dat) := (a.take z ++ b.drop z).map f
section
variable {α : Type} {f : α → List Dat} {a b : List α} {z : Nat}
theorem halfD_len (h1 : z ≤ a.length) (h2 : z ≤ b.length) : (halfD f a b z).length = b.length := by simp [halfD]; omega
theorem halfD_get {x : α} (h1 : z ≤ a.length) (h : b[z]? = some x) : (halfD f a b z)[z]? = some (f x) := by
  have h2 : (a.take z).length = z := by simp; omega
  rw [halfD, List.getElem?_map, List.getElem?_append_right (by omega), h2, Nat.sub_self, List.getElem?_drop, Nat.add_zero, h]
  rfl
theorem halfD_set {y : α} (hy : a[z]? = some y) (hl : z < b.length) : (halfD f a b z).set z (f y) = halfD f a b (z + 1) := by
  have hza := (List.getElem?_eq_some_iff.1 hy).1
  have h1 : (a.take z).length = z := by simp; omega
  rw [halfD, halfD, ← List.map_set, List.set_append_right _ _ (by omega), h1, Nat.sub_self, List.drop_eq_getElem_cons hl, List.set_cons_zero, take_next hy, List.append_assoc]
  rfl
theorem halfD_zero : halfD f a b 0 = b.map f := by simp [halfD]
theorem halfD_end (h : a.length = b.length) : halfD f a b b.length = a.map f := by
  rw [halfD, List.drop_of_length_le (Nat.le_refl _), List.append_nil, ← h, List.take_length]
end

-- WALK 52
-- sizar/sizarref11.number
theorem walk52 (c : Cat) (name : ByteArray) (old : Int) (hn : c.courses.length ≤ 1048576) : Does Try.prog 52 [.agg (catD c), sD name, iD old] (.tup [.dat (iD (numberR c name old).1), .dat (bV (numberR c name old).2)]) [] := by
  refine Does.intro [.tmp 6, .tmp 7] Try.func52 rfl (by kernel_rfl) Try.ntmps52 rfl (Nat.le_of_ble_eq_true rfl) ?_
  refine T_seq ?_
  refine T_region (is := [0, 1, 2]) rfl fun kn kp hn hp => ?_
  refine T_op rfl rfl fun kc hc => ?_
  simp; refine hc _ ?_; clear hc kc
  refine T_op rfl rfl fun kc hc => ?_
  simp; refine hc _ ?_; clear hc kc
  refine T_op rfl rfl fun kc hc => ?_
  simp; refine hc _ ?_; clear hc kc
  refine T_end (hn _ ?_); clear hn hp kn kp
  refine T_then ?_
  refine T_seq ?_
  refine T_seq ?_
  refine T_region (is := [0, 1]) rfl fun kn kp hn hp => ?_
  refine T_op rfl rfl fun kc hc => ?_
  simp; refine hc _ ?_; clear hc kc
  refine T_op rfl rfl fun kc hc => ?_
  simp; refine hc _ ?_; clear hc kc
  refine T_end (hn _ ?_); clear hn hp kn kp
  refine T_then ?_
  refine T_cond rfl (fun b1 => ?_) (fun b1 => ?_)
  · skip
    have hr : numberR c name old = (old, true) := by simp at b1; simp [numberR, b1]
    refine T_seq ?_
    refine T_region (is := [0, 1, 2]) rfl fun kn kp hn hp => ?_
    refine T_op rfl rfl fun kc hc => ?_
    simp; refine hc _ ?_; clear hc kc
    refine T_op rfl rfl fun kc hc => ?_
    simp; refine hc _ ?_; clear hc kc
    refine T_op rfl rfl fun kc hc => ?_
    simp; refine hc _ ?_; clear hc kc
    refine T_end (hn _ ?_); clear hn hp kn kp
    refine T_then ?_
    refine T_ret ?_
    refine X_thenR ?_
    exact finI (Ent.refl _) (by simp [resD, resL, resV]; rfl) (Ent.sub [] [] (by simp [sub, subSl, subHp, place, mp, mpL, mpO, mpG]; rfl)) rfl rfl (by simp [hr])
  · skip
    have hb : (name == eS) = false := by simpa using b1
    refine T_skip ?_
    refine T_then ?_
    refine T_seq ?_
    refine T_region (is := [0, 1, 2, 3, 4]) rfl fun kn kp hn hp => ?_
    refine T_op rfl rfl fun kc hc => ?_
    simp; refine hc _ ?_; clear hc kc
    refine T_op rfl rfl fun kc hc => ?_
    simp; refine hc _ ?_; clear hc kc
    refine T_op rfl rfl fun kc hc => ?_
    simp; refine hc _ ?_; clear hc kc
    refine T_op rfl rfl fun kc hc => ?_
    simp
    refine CallS.dat (walk78 c name old (by omega)) (rfl) rfl rfl rfl ?_
    simp [enum]; refine hc _ ?_; clear hc kc
    refine T_op rfl rfl fun kc hc => ?_
    simp; refine hc _ ?_; clear hc kc
    refine T_end (hn _ ?_); clear hn hp kn kp
    refine T_then ?_
    refine T_seq ?_
    refine T_seq ?_
    refine T_region (is := [0, 1]) rfl fun kn kp hn hp => ?_
    refine T_op rfl rfl fun kc hc => ?_
    simp; refine hc _ ?_; clear hc kc
    refine T_op rfl rfl fun kc hc => ?_
    simp; refine hc _ ?_; clear hc kc
    refine T_end (hn _ ?_); clear hn hp kn kp
    refine T_then ?_
    refine T_cond rfl (fun b2 => ?_) (fun b2 => ?_)
    · skip
      have hr : numberR c name old = (0, false) := by simp at b2; simp [numberR, hb, b2]
      refine T_seq ?_
      refine T_region (is := [0, 1]) rfl fun kn kp hn hp => ?_
      refine T_op rfl rfl fun kc hc => ?_
      simp; refine hc _ ?_; clear hc kc
      refine T_op rfl rfl fun kc hc => ?_
      simp; refine hc _ ?_; clear hc kc
      refine T_end (hn _ ?_); clear hn hp kn kp
      refine T_then ?_
      refine T_ret ?_
      refine X_thenR ?_
      exact finI (Ent.refl _) (by simp [resD, resL, resV]; rfl) (Ent.sub [] [] (by simp [sub, subSl, subHp, place, mp, mpL, mpO, mpG]; rfl)) rfl rfl (by simp [hr])
    · skip
      have hge : 0 ≤ meant c name old := by simp at b2; omega
      obtain ⟨k, y, hk, hy, _⟩ := meant_range hge
      have hr : numberR c name old = (y.number, true) := by simp only [numberR, hb, hk, numAt_get hy]; simp
      refine T_skip ?_
      refine T_then ?_
      refine T_seq ?_
      refine T_region (is := [0, 1, 2, 3, 4, 5, 6, 7]) rfl fun kn kp hn hp => ?_
      refine T_op rfl rfl fun kc hc => ?_
      simp; refine hc _ ?_; clear hc kc
      refine T_op rfl rfl fun kc hc => ?_
      simp; refine hc _ ?_; clear hc kc
      refine T_op rfl rfl fun kc hc => ?_
      simp [hk]; refine hc _ ?_; clear hc kc
      refine T_op rfl rfl fun kc hc => ?_
      simp [hk, hy]; refine hc _ ?_; clear hc kc
      refine T_op rfl rfl fun kc hc => ?_
      simp; refine hc _ ?_; clear hc kc
      refine T_op rfl rfl fun kc hc => ?_
      simp; refine hc _ ?_; clear hc kc
      refine T_op rfl rfl fun kc hc => ?_
      simp; refine hc _ ?_; clear hc kc
      refine T_op rfl rfl fun kc hc => ?_
      simp; refine hc _ ?_; clear hc kc
      refine T_end (hn _ ?_); clear hn hp kn kp
      refine T_then ?_
      refine T_ret ?_
      exact finI (Ent.refl _) (by simp [resD, resL, resV]; rfl) (Ent.sub [] [] (by simp [sub, subSl, subHp, place, mp, mpL, mpO, mpG]; rfl)) rfl rfl (by simp [hr])
-- END
-- WALK 47 47a 47b
-- sizar/names.rule
theorem step47 (c : Cat) (r r2 : Rule) (hn : c.courses.length ≤ 1048576) (hr : (partsOf r).length ≤ 1048576) (hd : ruleOf c r = some r2) (ih : ∀ x : Rule, (partsOf x).length < (partsOf r).length → (∀ x2, ruleOf c x = some x2 → Does Try.prog 47 [.agg (catD c), .agg (ruleD x)] (.dat (.agg (ruleD x2))) []) ∧ (ruleOf c x = none → DoesP Try.prog 47 [.agg (catD c), .agg (ruleD x)] (thrown 110))) : Does Try.prog 47 [.agg (catD c), .agg (ruleD r)] (.dat (.agg (ruleD r2))) [] := by
  have hre : (partsOf r).length = (partsL r.kids).length + 1 := by rw [partsOf_eq]; rfl
  have hkl := kids_le r.kids
  have hks : ∀ cs ∈ kidsD r, cs.length = 6 := by rw [kidsD_map]; intro cs h; obtain ⟨x, _, rfl⟩ := List.mem_map.1 h; rfl
  have w79 := walk79 (kidsD r) (by rw [kids_len]; omega) hks
  rw [kids_len] at w79
  obtain ⟨k, ks, hk, hks2, rfl⟩ : ∃ k ks, courseOf c r.op r.course r.name = some k ∧ rulesOf c r.kids = some ks ∧ r2 = .mk r.op k r.name r.n r.d ks := by
    rw [rulesOf_dnf] at hd
    split at hd
    · rename_i k ks h1 h2
      injection hd with hd
      exact ⟨k, ks, h1, h2, hd.symm⟩
    · cases hd
  obtain ⟨hkl2, hkg⟩ := rulesOf_get hks2
  rw [ruleD_mk]
  refine Does.intro [.cell 4 39] Try.func47 rfl (by kernel_rfl) Try.ntmps47 rfl (Nat.le_of_ble_eq_true rfl) ?_
  refine T_seq ?_
  refine T_region (is := [0, 1, 2]) rfl fun kn kp hn hp => ?_
  refine T_op rfl rfl fun kc hc => ?_
  simp; refine hc _ ?_; clear hc kc
  refine T_op rfl rfl fun kc hc => ?_
  simp; refine hc _ ?_; clear hc kc
  refine T_op rfl rfl fun kc hc => ?_
  simp; refine hc _ ?_; clear hc kc
  refine T_end (hn _ ?_); clear hn hp kn kp
  refine T_then ?_
  refine T_cut ({ sl := [(2, .ptr 0 0), (3, .ptr 1 0), (4, .ptr 2 0)], hp := [(0, .var ((catD c).map .dat)), (1, .var [.dat (iD r.op), .dat (iD k), .dat (sD r.name), .dat (iD r.n), .dat (iD r.d), .dat (.sl 6 (kidsD r))]), (2, .var [.dat (iD 0), .dat (iD 0), .dat (sD eS), .dat (iD 0), .dat (iD 0), .dat (.val (.slice none 0 0))])], nx := 3 }) ?_ ?_
  · skip
    refine T_seq ?_
    refine T_region (is := [0, 1]) rfl fun kn kp hn hp => ?_
    refine T_op rfl rfl fun kc hc => ?_
    simp; refine hc _ ?_; clear hc kc
    refine T_op rfl rfl fun kc hc => ?_
    simp; refine hc _ ?_; clear hc kc
    refine T_end (hn _ ?_); clear hn hp kn kp
    refine T_then ?_
    refine T_block ?_
    refine T_cut ({ sl := [(2, .ptr 0 0), (3, .ptr 1 0), (4, .ptr 2 0), (9, .dat (bV (mentB r.op)))], hp := [(0, .var ((catD c).map .dat)), (1, .var [.dat (iD r.op), .dat (iD r.course), .dat (sD r.name), .dat (iD r.n), .dat (iD r.d), .dat (.sl 6 (kidsD r))]), (2, .var [.dat (iD 0), .dat (iD 0), .dat (sD eS), .dat (iD 0), .dat (iD 0), .dat (.val (.slice none 0 0))])], nx := 3 }) ?_ ?_
    · skip
      refine T_seq ?_
      refine T_region (is := [0, 1]) rfl fun kn kp hn hp => ?_
      refine T_op rfl rfl fun kc hc => ?_
      simp; refine hc _ ?_; clear hc kc
      refine T_op rfl rfl fun kc hc => ?_
      simp; refine hc _ ?_; clear hc kc
      refine T_end (hn _ ?_); clear hn hp kn kp
      refine T_then ?_
      refine T_cond rfl (fun b1 => ?_) (fun b1 => ?_)
      · skip
        have h5 : (r.op == 5) = true := by simpa using b1
        refine T_skip ?_
        refine T_then ?_
        exact Ent.sub [2, 3, 4, 9] [0, 1, 2] (by simp [sub, subSl, subHp, place, mp, mpL, mpO, mpG, mentB, h5])
      · skip
        have h5 : (r.op == 5) = false := by simpa using b1
        refine T_seq ?_
        refine T_region (is := [0, 1]) rfl fun kn kp hn hp => ?_
        refine T_op rfl rfl fun kc hc => ?_
        simp; refine hc _ ?_; clear hc kc
        refine T_op rfl rfl fun kc hc => ?_
        simp; refine hc _ ?_; clear hc kc
        refine T_end (hn _ ?_); clear hn hp kn kp
        refine T_then ?_
        refine T_cond rfl (fun b2 => ?_) (fun b2 => ?_)
        · skip
          have h6 : (r.op == 6) = true := by simpa using b2
          refine T_skip ?_
          refine T_then ?_
          exact Ent.sub [2, 3, 4, 9] [0, 1, 2] (by simp [sub, subSl, subHp, place, mp, mpL, mpO, mpG, mentB, h5, h6])
        · skip
          have h6 : (r.op == 6) = false := by simpa using b2
          refine T_region (is := [0, 1]) rfl fun kn kp hn hp => ?_
          refine T_op rfl rfl fun kc hc => ?_
          simp; refine hc _ ?_; clear hc kc
          refine T_op rfl rfl fun kc hc => ?_
          simp; refine hc _ ?_; clear hc kc
          refine T_end (hn _ ?_); clear hn hp kn kp
          refine T_then ?_
          exact Ent.sub [2, 3, 4, 9] [0, 1, 2] (by simp [sub, subSl, subHp, place, mp, mpL, mpO, mpG, mentB, h5, h6])
    refine T_cond rfl (fun b3 => ?_) (fun b3 => ?_)
    · skip
      have hm : mentB r.op = true := by simpa using b3
      refine T_region (is := [0, 1, 2, 3, 4, 5, 6, 7]) rfl fun kn kp hn hp => ?_
      refine T_op rfl rfl fun kc hc => ?_
      simp; refine hc _ ?_; clear hc kc
      refine T_op rfl rfl fun kc hc => ?_
      simp; refine hc _ ?_; clear hc kc
      refine T_op rfl rfl fun kc hc => ?_
      simp; refine hc _ ?_; clear hc kc
      refine T_op rfl rfl fun kc hc => ?_
      simp; refine hc _ ?_; clear hc kc
      refine T_op rfl rfl fun kc hc => ?_
      simp; refine hc _ ?_; clear hc kc
      refine T_op rfl rfl fun kc hc => ?_
      simp
      refine CallS.dat (walk48 c r.name r.course k (by simpa [courseOf, hm] using hk) (by omega)) (rfl) rfl rfl rfl ?_
      simp [enum]; refine hc _ ?_; clear hc kc
      refine T_op rfl rfl fun kc hc => ?_
      simp; refine hc _ ?_; clear hc kc
      refine T_op rfl rfl fun kc hc => ?_
      simp; refine hc _ ?_; clear hc kc
      refine T_end (hn _ ?_); clear hn hp kn kp
      refine X_blockN ?_
      refine T_then ?_
      exact Ent.sub [2, 3, 4] [0, 1, 2] (by simp [sub, subSl, subHp, place, mp, mpL, mpO, mpG])
    · skip
      have hm : mentB r.op = false := by simpa using b3
      have hkk : k = r.course := by simp [courseOf, hm] at hk; exact hk.symm
      refine T_skip ?_
      refine X_blockN ?_
      refine T_then ?_
      exact Ent.sub [2, 3, 4] [0, 1, 2] (by simp [sub, subSl, subHp, place, mp, mpL, mpO, mpG, hkk])
  refine T_seq ?_
  refine T_region (is := [0, 1, 2, 3, 4]) rfl fun kn kp hn hp => ?_
  refine T_op rfl rfl fun kc hc => ?_
  simp; refine hc _ ?_; clear hc kc
  refine T_op rfl rfl fun kc hc => ?_
  simp; refine hc _ ?_; clear hc kc
  refine T_op rfl rfl fun kc hc => ?_
  simp
  refine CallS.dat (w79) (rfl) rfl rfl rfl ?_
  simp [enum]; refine hc _ ?_; clear hc kc
  refine T_op rfl rfl fun kc hc => ?_
  simp; refine hc _ ?_; clear hc kc
  refine T_op rfl rfl fun kc hc => ?_
  simp; refine hc _ ?_; clear hc kc
  refine T_end (hn _ ?_); clear hn hp kn kp
  refine T_then ?_
  refine T_seq ?_
  refine T_seq ?_
  refine T_region (is := [0, 1, 2, 3]) rfl fun kn kp hn hp => ?_
  refine T_op rfl rfl fun kc hc => ?_
  simp; refine hc _ ?_; clear hc kc
  refine T_op rfl rfl fun kc hc => ?_
  simp; refine hc _ ?_; clear hc kc
  refine T_op rfl rfl fun kc hc => ?_
  simp; refine hc _ ?_; clear hc kc
  refine T_op rfl rfl fun kc hc => ?_
  simp; refine hc _ ?_; clear hc kc
  refine T_end (hn _ ?_); clear hn hp kn kp
  refine T_then ?_
  refine T_block ?_
  refine T_loop (fun z : Nat => { sl := [(2, .ptr 0 0), (3, .ptr 1 0), (4, .ptr 2 0), (25, .own 3 6 r.kids.length), (26, .dat (iD r.kids.length)), (27, .dat (iD z))], hp := [(0, .var ((catD c).map .dat)), (1, .var [.dat (iD r.op), .dat (iD k), .dat (sD r.name), .dat (iD r.n), .dat (iD r.d), .own 3 6 r.kids.length]), (2, .var [.dat (iD 0), .dat (iD 0), .dat (sD eS), .dat (iD 0), .dat (iD 0), .dat (.val (.slice none 0 0))]), (3, .row 39 6 (halfD ruleD ks r.kids z))], nx := 4 }) (fun z => z ≤ r.kids.length) (fun z => r.kids.length - z) 0 (Ent.sub [2, 3, 4, 25, 26, 27] [0, 1, 2, 3] (by simp [sub, subSl, subHp, place, mp, mpL, mpO, mpG, halfD_zero, kidsD_map])) (Nat.zero_le _) fun z hz => ?_
  refine T_seq ?_
  refine T_region (is := [0]) rfl fun kn kp hn hp => ?_
  refine T_op rfl rfl fun kc hc => ?_
  simp; refine hc _ ?_; clear hc kc
  refine T_end (hn _ ?_); clear hn hp kn kp
  refine T_then ?_
  refine T_seq ?_
  refine T_cond rfl (fun b4 => ?_) (fun b4 => ?_)
  · skip
    have hz' : z < r.kids.length := by simpa using b4
    obtain ⟨x, hx⟩ : ∃ x, r.kids[z]? = some x := ⟨_, List.getElem?_eq_getElem hz'⟩
    have hpl := partsL_len hx
    have e1 : IntKind.i64.wrap ((z : Int) + 1) = (z : Int) + 1 := wr1 hz' (by omega)
    have hlt : (partsOf x).length < (partsOf r).length := by omega
    obtain ⟨y, hy1, hy2⟩ := hkg z x hx
    have hset := halfD_set (f := ruleD) hy1 hz'
    have hgl := halfD_len (f := ruleD) (a := ks) (b := r.kids) (by omega) (Nat.le_of_lt hz')
    have hgg := halfD_get (f := ruleD) (a := ks) (by omega) hx
    refine T_skip ?_
    refine T_then ?_
    refine T_seq ?_
    refine T_block ?_
    refine T_seq ?_
    refine T_region (is := [0, 1, 2, 3, 4, 5]) rfl fun kn kp hn hp => ?_
    refine T_op rfl rfl fun kc hc => ?_
    simp; refine hc _ ?_; clear hc kc
    refine T_op rfl rfl fun kc hc => ?_
    simp [hz', hgl]; refine hc _ ?_; clear hc kc
    refine T_op rfl rfl fun kc hc => ?_
    simp [hgg]; refine hc _ ?_; clear hc kc
    refine T_op rfl rfl fun kc hc => ?_
    simp; refine hc _ ?_; clear hc kc
    refine T_op rfl rfl fun kc hc => ?_
    simp; refine hc _ ?_; clear hc kc
    refine T_op rfl rfl fun kc hc => ?_
    simp; refine hc _ ?_; clear hc kc
    refine T_end (hn _ ?_); clear hn hp kn kp
    refine T_then ?_
    refine T_draw' (is := [0, 1, 2, 3, 4, 5, 6, 7]) rfl (by kernel_rfl) (fun _ _ hE h => T_ent hE h) fun kn hn => ?_
    refine D_op rfl rfl rfl rfl fun kc hc => ?_
    simp; refine hc _ ?_; clear hc kc
    refine D_op rfl rfl rfl rfl fun kc hc => ?_
    simp; refine hc _ ?_; clear hc kc
    refine D_op rfl rfl rfl rfl fun kc hc => ?_
    simp; refine hc _ ?_; clear hc kc
    refine D_op rfl rfl rfl rfl fun kc hc => ?_
    simp; refine hc _ ?_; clear hc kc
    refine D_op rfl rfl rfl rfl fun kc hc => ?_
    simp; refine hc _ ?_; clear hc kc
    refine D_call rfl rfl rfl (by simp <;> first | exact ⟨rfl, rfl⟩ | rfl) ((ih x hlt).1 y hy2) (by rfl) rfl fun kc hc => ?_
    simp [enum]; refine hc _ ?_; clear hc kc
    refine D_op rfl rfl rfl rfl fun kc hc => ?_
    simp [hz', hgl]; refine hc _ ?_; clear hc kc
    refine D_eff [3] rfl rfl rfl fun kc hc => ?_
    simp [hgg, hset]
    refine hc _ (fun b hb => by simp at hb; simp [lk, hb]) ?_; clear hc kc
    refine D_end rfl (by kernel_rfl) (hn _ ?_); clear hn kn
    refine X_blockN ?_
    refine T_then ?_
    refine T_region (is := [0, 1]) rfl fun kn kp hn hp => ?_
    refine T_op rfl rfl fun kc hc => ?_
    simp [e1]; refine hc _ ?_; clear hc kc
    refine T_op rfl rfl fun kc hc => ?_
    simp; refine hc _ ?_; clear hc kc
    refine T_end (hn _ ?_); clear hn hp kn kp
    exact X_loopN (z + 1) (Ent.sub [2, 3, 4, 25, 26, 27] [0, 1, 2, 3] (by simp [sub, subSl, subHp, place, mp, mpL, mpO, mpG, e1, hset])) hz' (by omega)
  · skip
    have hz' : z = r.kids.length := by simp at b4; omega
    subst hz'
    have hend := halfD_end (f := ruleD) hkl2
    have hb : r.kids.length ≤ big := by simp only [big]; omega
    have hkt : ∀ f : Rule → List Dat, List.take r.kids.length (ks.map f) = ks.map f := fun f => List.take_of_length_le (by simp [hkl2])
    refine T_exit ?_
    refine X_thenE ?_
    refine X_loopE ?_
    refine X_hit ?_
    refine T_then ?_
    refine T_seq ?_
    refine T_region (is := [0, 1]) rfl fun kn kp hn hp => ?_
    refine T_op rfl rfl fun kc hc => ?_
    simp; refine hc _ ?_; clear hc kc
    refine T_op rfl rfl fun kc hc => ?_
    simp; refine hc _ ?_; clear hc kc
    refine T_end (hn _ ?_); clear hn hp kn kp
    refine T_then ?_
    refine T_ret ?_
    exact finI (Ent.refl _) (by simp [resD, resL, resV]; rfl) (Ent.trans (Ent.giveG (t := 0) (n := 40) (e := .agg [iD r.op, iD k, sD r.name, iD r.n, iD r.d, .sl 6 (ks.map ruleD)]) (hp' := _) rfl (by simp [Sx.give, giveL, hb, hkl2, hend, hkt]; rfl)) (Ent.sub [] [] (by simp [sub, subSl, subHp, place, mp, mpL, mpO, mpG]; rfl))) rfl rfl (by simp)
-- sizar/names.rule
theorem pan47a (c : Cat) (r : Rule) (hn : c.courses.length ≤ 1048576) (hk : courseOf c r.op r.course r.name = none) : DoesP Try.prog 47 [.agg (catD c), .agg (ruleD r)] (thrown 110) := by
  refine DoesP.intro Try.func47 rfl (by kernel_rfl) Try.ntmps47 (Nat.le_of_ble_eq_true rfl) ?_
  refine T_seq ?_
  refine T_region (is := [0, 1, 2]) rfl fun kn kp hn hp => ?_
  refine T_op rfl rfl fun kc hc => ?_
  simp; refine hc _ ?_; clear hc kc
  refine T_op rfl rfl fun kc hc => ?_
  simp; refine hc _ ?_; clear hc kc
  refine T_op rfl rfl fun kc hc => ?_
  simp; refine hc _ ?_; clear hc kc
  refine T_end (hn _ ?_); clear hn hp kn kp
  refine T_then ?_
  refine T_seq ?_
  refine T_seq ?_
  refine T_region (is := [0, 1]) rfl fun kn kp hn hp => ?_
  refine T_op rfl rfl fun kc hc => ?_
  simp; refine hc _ ?_; clear hc kc
  refine T_op rfl rfl fun kc hc => ?_
  simp; refine hc _ ?_; clear hc kc
  refine T_end (hn _ ?_); clear hn hp kn kp
  refine T_then ?_
  refine T_block ?_
  refine T_cut ({ sl := [(2, .ptr 0 0), (3, .ptr 1 0), (4, .ptr 2 0), (9, .dat (bV (mentB r.op)))], hp := [(0, .var ((catD c).map .dat)), (1, .var [.dat (iD r.op), .dat (iD r.course), .dat (sD r.name), .dat (iD r.n), .dat (iD r.d), .dat (.sl 6 (kidsD r))]), (2, .var [.dat (iD 0), .dat (iD 0), .dat (sD eS), .dat (iD 0), .dat (iD 0), .dat (.val (.slice none 0 0))])], nx := 3 }) ?_ ?_
  · skip
    refine T_seq ?_
    refine T_region (is := [0, 1]) rfl fun kn kp hn hp => ?_
    refine T_op rfl rfl fun kc hc => ?_
    simp; refine hc _ ?_; clear hc kc
    refine T_op rfl rfl fun kc hc => ?_
    simp; refine hc _ ?_; clear hc kc
    refine T_end (hn _ ?_); clear hn hp kn kp
    refine T_then ?_
    refine T_cond rfl (fun b1 => ?_) (fun b1 => ?_)
    · skip
      have h5 : (r.op == 5) = true := by simpa using b1
      refine T_skip ?_
      refine T_then ?_
      exact Ent.sub [2, 3, 4, 9] [0, 1, 2] (by simp [sub, subSl, subHp, place, mp, mpL, mpO, mpG, mentB, h5])
    · skip
      have h5 : (r.op == 5) = false := by simpa using b1
      refine T_seq ?_
      refine T_region (is := [0, 1]) rfl fun kn kp hn hp => ?_
      refine T_op rfl rfl fun kc hc => ?_
      simp; refine hc _ ?_; clear hc kc
      refine T_op rfl rfl fun kc hc => ?_
      simp; refine hc _ ?_; clear hc kc
      refine T_end (hn _ ?_); clear hn hp kn kp
      refine T_then ?_
      refine T_cond rfl (fun b2 => ?_) (fun b2 => ?_)
      · skip
        have h6 : (r.op == 6) = true := by simpa using b2
        refine T_skip ?_
        refine T_then ?_
        exact Ent.sub [2, 3, 4, 9] [0, 1, 2] (by simp [sub, subSl, subHp, place, mp, mpL, mpO, mpG, mentB, h5, h6])
      · skip
        have h6 : (r.op == 6) = false := by simpa using b2
        refine T_region (is := [0, 1]) rfl fun kn kp hn hp => ?_
        refine T_op rfl rfl fun kc hc => ?_
        simp; refine hc _ ?_; clear hc kc
        refine T_op rfl rfl fun kc hc => ?_
        simp; refine hc _ ?_; clear hc kc
        refine T_end (hn _ ?_); clear hn hp kn kp
        refine T_then ?_
        exact Ent.sub [2, 3, 4, 9] [0, 1, 2] (by simp [sub, subSl, subHp, place, mp, mpL, mpO, mpG, mentB, h5, h6])
  refine T_cond rfl (fun b3 => ?_) (fun b3 => ?_)
  · skip
    have hm : mentB r.op = true := by simpa using b3
    refine T_region (is := [0, 1, 2, 3, 4, 5, 6, 7]) rfl fun kn kp hn hp => ?_
    refine T_op rfl rfl fun kc hc => ?_
    simp; refine hc _ ?_; clear hc kc
    refine T_op rfl rfl fun kc hc => ?_
    simp; refine hc _ ?_; clear hc kc
    refine T_op rfl rfl fun kc hc => ?_
    simp; refine hc _ ?_; clear hc kc
    refine T_op rfl rfl fun kc hc => ?_
    simp; refine hc _ ?_; clear hc kc
    refine T_op rfl rfl fun kc hc => ?_
    simp; refine hc _ ?_; clear hc kc
    refine T_op rfl rfl fun kc hc => ?_
    simp
    refine CallS.pan (pan48 c r.name r.course (by simpa [courseOf, hm] using hk) (by omega)) (rfl) ?_
    refine hp _ _ ?_
    exact rfl
  · skip
    exfalso
    have hm : mentB r.op = false := by simpa using b3
    simp [courseOf, hm] at hk
-- sizar/names.rule
theorem pan47b (c : Cat) (r : Rule) (k : Int) (hn : c.courses.length ≤ 1048576) (hr : (partsOf r).length ≤ 1048576) (hk : courseOf c r.op r.course r.name = some k) (hd : rulesOf c r.kids = none) (ih : ∀ x : Rule, (partsOf x).length < (partsOf r).length → (∀ x2, ruleOf c x = some x2 → Does Try.prog 47 [.agg (catD c), .agg (ruleD x)] (.dat (.agg (ruleD x2))) []) ∧ (ruleOf c x = none → DoesP Try.prog 47 [.agg (catD c), .agg (ruleD x)] (thrown 110))) : DoesP Try.prog 47 [.agg (catD c), .agg (ruleD r)] (thrown 110) := by
  have hre : (partsOf r).length = (partsL r.kids).length + 1 := by rw [partsOf_eq]; rfl
  have hkl := kids_le r.kids
  have hks : ∀ cs ∈ kidsD r, cs.length = 6 := by rw [kidsD_map]; intro cs h; obtain ⟨x, _, rfl⟩ := List.mem_map.1 h; rfl
  have w79 := walk79 (kidsD r) (by rw [kids_len]; omega) hks
  rw [kids_len] at w79
  obtain ⟨q, x0, ks, hq, hx0, hks2⟩ := rulesOf_none hd
  obtain ⟨hkl2, hkg⟩ := rulesOf_get hks2
  have hql := (List.getElem?_eq_some_iff.1 hq).1
  simp at hkl2
  refine DoesP.intro Try.func47 rfl (by kernel_rfl) Try.ntmps47 (Nat.le_of_ble_eq_true rfl) ?_
  refine T_seq ?_
  refine T_region (is := [0, 1, 2]) rfl fun kn kp hn hp => ?_
  refine T_op rfl rfl fun kc hc => ?_
  simp; refine hc _ ?_; clear hc kc
  refine T_op rfl rfl fun kc hc => ?_
  simp; refine hc _ ?_; clear hc kc
  refine T_op rfl rfl fun kc hc => ?_
  simp; refine hc _ ?_; clear hc kc
  refine T_end (hn _ ?_); clear hn hp kn kp
  refine T_then ?_
  refine T_cut ({ sl := [(2, .ptr 0 0), (3, .ptr 1 0), (4, .ptr 2 0)], hp := [(0, .var ((catD c).map .dat)), (1, .var [.dat (iD r.op), .dat (iD k), .dat (sD r.name), .dat (iD r.n), .dat (iD r.d), .dat (.sl 6 (kidsD r))]), (2, .var [.dat (iD 0), .dat (iD 0), .dat (sD eS), .dat (iD 0), .dat (iD 0), .dat (.val (.slice none 0 0))])], nx := 3 }) ?_ ?_
  · skip
    refine T_seq ?_
    refine T_region (is := [0, 1]) rfl fun kn kp hn hp => ?_
    refine T_op rfl rfl fun kc hc => ?_
    simp; refine hc _ ?_; clear hc kc
    refine T_op rfl rfl fun kc hc => ?_
    simp; refine hc _ ?_; clear hc kc
    refine T_end (hn _ ?_); clear hn hp kn kp
    refine T_then ?_
    refine T_block ?_
    refine T_cut ({ sl := [(2, .ptr 0 0), (3, .ptr 1 0), (4, .ptr 2 0), (9, .dat (bV (mentB r.op)))], hp := [(0, .var ((catD c).map .dat)), (1, .var [.dat (iD r.op), .dat (iD r.course), .dat (sD r.name), .dat (iD r.n), .dat (iD r.d), .dat (.sl 6 (kidsD r))]), (2, .var [.dat (iD 0), .dat (iD 0), .dat (sD eS), .dat (iD 0), .dat (iD 0), .dat (.val (.slice none 0 0))])], nx := 3 }) ?_ ?_
    · skip
      refine T_seq ?_
      refine T_region (is := [0, 1]) rfl fun kn kp hn hp => ?_
      refine T_op rfl rfl fun kc hc => ?_
      simp; refine hc _ ?_; clear hc kc
      refine T_op rfl rfl fun kc hc => ?_
      simp; refine hc _ ?_; clear hc kc
      refine T_end (hn _ ?_); clear hn hp kn kp
      refine T_then ?_
      refine T_cond rfl (fun b1 => ?_) (fun b1 => ?_)
      · skip
        have h5 : (r.op == 5) = true := by simpa using b1
        refine T_skip ?_
        refine T_then ?_
        exact Ent.sub [2, 3, 4, 9] [0, 1, 2] (by simp [sub, subSl, subHp, place, mp, mpL, mpO, mpG, mentB, h5])
      · skip
        have h5 : (r.op == 5) = false := by simpa using b1
        refine T_seq ?_
        refine T_region (is := [0, 1]) rfl fun kn kp hn hp => ?_
        refine T_op rfl rfl fun kc hc => ?_
        simp; refine hc _ ?_; clear hc kc
        refine T_op rfl rfl fun kc hc => ?_
        simp; refine hc _ ?_; clear hc kc
        refine T_end (hn _ ?_); clear hn hp kn kp
        refine T_then ?_
        refine T_cond rfl (fun b2 => ?_) (fun b2 => ?_)
        · skip
          have h6 : (r.op == 6) = true := by simpa using b2
          refine T_skip ?_
          refine T_then ?_
          exact Ent.sub [2, 3, 4, 9] [0, 1, 2] (by simp [sub, subSl, subHp, place, mp, mpL, mpO, mpG, mentB, h5, h6])
        · skip
          have h6 : (r.op == 6) = false := by simpa using b2
          refine T_region (is := [0, 1]) rfl fun kn kp hn hp => ?_
          refine T_op rfl rfl fun kc hc => ?_
          simp; refine hc _ ?_; clear hc kc
          refine T_op rfl rfl fun kc hc => ?_
          simp; refine hc _ ?_; clear hc kc
          refine T_end (hn _ ?_); clear hn hp kn kp
          refine T_then ?_
          exact Ent.sub [2, 3, 4, 9] [0, 1, 2] (by simp [sub, subSl, subHp, place, mp, mpL, mpO, mpG, mentB, h5, h6])
    refine T_cond rfl (fun b3 => ?_) (fun b3 => ?_)
    · skip
      have hm : mentB r.op = true := by simpa using b3
      refine T_region (is := [0, 1, 2, 3, 4, 5, 6, 7]) rfl fun kn kp hn hp => ?_
      refine T_op rfl rfl fun kc hc => ?_
      simp; refine hc _ ?_; clear hc kc
      refine T_op rfl rfl fun kc hc => ?_
      simp; refine hc _ ?_; clear hc kc
      refine T_op rfl rfl fun kc hc => ?_
      simp; refine hc _ ?_; clear hc kc
      refine T_op rfl rfl fun kc hc => ?_
      simp; refine hc _ ?_; clear hc kc
      refine T_op rfl rfl fun kc hc => ?_
      simp; refine hc _ ?_; clear hc kc
      refine T_op rfl rfl fun kc hc => ?_
      simp
      refine CallS.dat (walk48 c r.name r.course k (by simpa [courseOf, hm] using hk) (by omega)) (rfl) rfl rfl rfl ?_
      simp [enum]; refine hc _ ?_; clear hc kc
      refine T_op rfl rfl fun kc hc => ?_
      simp; refine hc _ ?_; clear hc kc
      refine T_op rfl rfl fun kc hc => ?_
      simp; refine hc _ ?_; clear hc kc
      refine T_end (hn _ ?_); clear hn hp kn kp
      refine X_blockN ?_
      refine T_then ?_
      exact Ent.sub [2, 3, 4] [0, 1, 2] (by simp [sub, subSl, subHp, place, mp, mpL, mpO, mpG])
    · skip
      have hm : mentB r.op = false := by simpa using b3
      have hkk : k = r.course := by simp [courseOf, hm] at hk; exact hk.symm
      refine T_skip ?_
      refine X_blockN ?_
      refine T_then ?_
      exact Ent.sub [2, 3, 4] [0, 1, 2] (by simp [sub, subSl, subHp, place, mp, mpL, mpO, mpG, hkk])
  refine T_seq ?_
  refine T_region (is := [0, 1, 2, 3, 4]) rfl fun kn kp hn hp => ?_
  refine T_op rfl rfl fun kc hc => ?_
  simp; refine hc _ ?_; clear hc kc
  refine T_op rfl rfl fun kc hc => ?_
  simp; refine hc _ ?_; clear hc kc
  refine T_op rfl rfl fun kc hc => ?_
  simp
  refine CallS.dat (w79) (rfl) rfl rfl rfl ?_
  simp [enum]; refine hc _ ?_; clear hc kc
  refine T_op rfl rfl fun kc hc => ?_
  simp; refine hc _ ?_; clear hc kc
  refine T_op rfl rfl fun kc hc => ?_
  simp; refine hc _ ?_; clear hc kc
  refine T_end (hn _ ?_); clear hn hp kn kp
  refine T_then ?_
  refine T_seq ?_
  refine T_seq ?_
  refine T_region (is := [0, 1, 2, 3]) rfl fun kn kp hn hp => ?_
  refine T_op rfl rfl fun kc hc => ?_
  simp; refine hc _ ?_; clear hc kc
  refine T_op rfl rfl fun kc hc => ?_
  simp; refine hc _ ?_; clear hc kc
  refine T_op rfl rfl fun kc hc => ?_
  simp; refine hc _ ?_; clear hc kc
  refine T_op rfl rfl fun kc hc => ?_
  simp; refine hc _ ?_; clear hc kc
  refine T_end (hn _ ?_); clear hn hp kn kp
  refine T_then ?_
  refine T_block ?_
  refine T_loop (fun z : Nat => { sl := [(2, .ptr 0 0), (3, .ptr 1 0), (4, .ptr 2 0), (25, .own 3 6 r.kids.length), (26, .dat (iD r.kids.length)), (27, .dat (iD z))], hp := [(0, .var ((catD c).map .dat)), (1, .var [.dat (iD r.op), .dat (iD k), .dat (sD r.name), .dat (iD r.n), .dat (iD r.d), .own 3 6 r.kids.length]), (2, .var [.dat (iD 0), .dat (iD 0), .dat (sD eS), .dat (iD 0), .dat (iD 0), .dat (.val (.slice none 0 0))]), (3, .row 39 6 (halfD ruleD ks r.kids z))], nx := 4 }) (fun z => z ≤ q) (fun z => r.kids.length - z) 0 (Ent.sub [2, 3, 4, 25, 26, 27] [0, 1, 2, 3] (by simp [sub, subSl, subHp, place, mp, mpL, mpO, mpG, halfD_zero, kidsD_map])) (Nat.zero_le _) fun z hz => ?_
  refine T_seq ?_
  refine T_region (is := [0]) rfl fun kn kp hn hp => ?_
  refine T_op rfl rfl fun kc hc => ?_
  simp; refine hc _ ?_; clear hc kc
  refine T_end (hn _ ?_); clear hn hp kn kp
  refine T_then ?_
  refine T_seq ?_
  refine T_cond rfl (fun b4 => ?_) (fun b4 => ?_)
  · skip
    have hz' : z < r.kids.length := by simpa using b4
    obtain ⟨x, hx⟩ : ∃ x, r.kids[z]? = some x := ⟨_, List.getElem?_eq_getElem hz'⟩
    have hpl := partsL_len hx
    have e1 : IntKind.i64.wrap ((z : Int) + 1) = (z : Int) + 1 := wr1 hz' (by omega)
    have hlt : (partsOf x).length < (partsOf r).length := by omega
    have hgl := halfD_len (f := ruleD) (a := ks) (b := r.kids) (by omega) (Nat.le_of_lt hz')
    have hgg := halfD_get (f := ruleD) (a := ks) (by omega) hx
    refine T_skip ?_
    refine T_then ?_
    refine T_seq ?_
    refine T_block ?_
    refine T_seq ?_
    refine T_region (is := [0, 1, 2, 3, 4, 5]) rfl fun kn kp hn hp => ?_
    refine T_op rfl rfl fun kc hc => ?_
    simp; refine hc _ ?_; clear hc kc
    refine T_op rfl rfl fun kc hc => ?_
    simp [hz', hgl]; refine hc _ ?_; clear hc kc
    refine T_op rfl rfl fun kc hc => ?_
    simp [hgg]; refine hc _ ?_; clear hc kc
    refine T_op rfl rfl fun kc hc => ?_
    simp; refine hc _ ?_; clear hc kc
    refine T_op rfl rfl fun kc hc => ?_
    simp; refine hc _ ?_; clear hc kc
    refine T_op rfl rfl fun kc hc => ?_
    simp; refine hc _ ?_; clear hc kc
    refine T_end (hn _ ?_); clear hn hp kn kp
    refine T_then ?_
    by_cases hzq : z = q
    · skip
      subst hzq
      have hxe : x = x0 := by rw [hx] at hq; injection hq
      subst hxe
      refine T_drawPan 5 (thrown 110) [] (is := [0, 1, 2, 3, 4, 5, 6, 7]) rfl rfl rfl (by kernel_rfl) fun pq hpq => ?_
      refine D_op rfl rfl rfl rfl fun kc hc => ?_
      simp; refine hc _ ?_; clear hc kc
      refine D_op rfl rfl rfl rfl fun kc hc => ?_
      simp; refine hc _ ?_; clear hc kc
      refine D_op rfl rfl rfl rfl fun kc hc => ?_
      simp; refine hc _ ?_; clear hc kc
      refine D_op rfl rfl rfl rfl fun kc hc => ?_
      simp; refine hc _ ?_; clear hc kc
      refine D_op rfl rfl rfl rfl fun kc hc => ?_
      simp; refine hc _ ?_; clear hc kc
      refine D_pan rfl rfl rfl rfl ⟨_, _, _, by simp <;> first | exact ⟨rfl, rfl⟩ | rfl, (ih x hlt).2 hx0, by rfl⟩ (hpq _ _ fun s1 e1 e2 e3 e4 e5 => ?_) ?_
      · skip
        exact rfl
      refine D_skip rfl rfl ?_
      refine D_skip rfl rfl ?_
      exact D_end rfl (by kernel_rfl) trivial
    · skip
      have hzl : z < q := by omega
      obtain ⟨y, hy1, hy2⟩ := hkg z x (by rw [List.getElem?_take, if_pos hzl]; exact hx)
      have hset := halfD_set (f := ruleD) hy1 hz'
      refine T_draw' (is := [0, 1, 2, 3, 4, 5, 6, 7]) rfl (by kernel_rfl) (fun _ _ hE h => T_ent hE h) fun kn hn => ?_
      refine D_op rfl rfl rfl rfl fun kc hc => ?_
      simp; refine hc _ ?_; clear hc kc
      refine D_op rfl rfl rfl rfl fun kc hc => ?_
      simp; refine hc _ ?_; clear hc kc
      refine D_op rfl rfl rfl rfl fun kc hc => ?_
      simp; refine hc _ ?_; clear hc kc
      refine D_op rfl rfl rfl rfl fun kc hc => ?_
      simp; refine hc _ ?_; clear hc kc
      refine D_op rfl rfl rfl rfl fun kc hc => ?_
      simp; refine hc _ ?_; clear hc kc
      refine D_call rfl rfl rfl (by simp <;> first | exact ⟨rfl, rfl⟩ | rfl) ((ih x hlt).1 y hy2) (by rfl) rfl fun kc hc => ?_
      simp [enum]; refine hc _ ?_; clear hc kc
      refine D_op rfl rfl rfl rfl fun kc hc => ?_
      simp [hz', hgl]; refine hc _ ?_; clear hc kc
      refine D_eff [3] rfl rfl rfl fun kc hc => ?_
      simp [hgg, hset]
      refine hc _ (fun b hb => by simp at hb; simp [lk, hb]) ?_; clear hc kc
      refine D_end rfl (by kernel_rfl) (hn _ ?_); clear hn kn
      refine X_blockN ?_
      refine T_then ?_
      refine T_region (is := [0, 1]) rfl fun kn kp hn hp => ?_
      refine T_op rfl rfl fun kc hc => ?_
      simp [e1]; refine hc _ ?_; clear hc kc
      refine T_op rfl rfl fun kc hc => ?_
      simp; refine hc _ ?_; clear hc kc
      refine T_end (hn _ ?_); clear hn hp kn kp
      exact X_loopN (z + 1) (Ent.sub [2, 3, 4, 25, 26, 27] [0, 1, 2, 3] (by simp [sub, subSl, subHp, place, mp, mpL, mpO, mpG, e1, hset])) hzl (by omega)
  · skip
    exfalso
    simp at b4
    omega
-- END
theorem rule_all (c : Cat) (hn : c.courses.length ≤ 1048576) (r : Rule) (hr : (partsOf r).length ≤ 1048576) : (∀ x2, ruleOf c r = some x2 → Does Try.prog 47 [.agg (catD c), .agg (ruleD r)] (.dat (.agg (ruleD x2))) []) ∧ (ruleOf c r = none → DoesP Try.prog 47 [.agg (catD c), .agg (ruleD r)] (thrown 110)) := by
  obtain ⟨n, hm⟩ : ∃ n, (partsOf r).length = n := ⟨_, rfl⟩
  induction n using Nat.strongRecOn generalizing r with
  | ind n ih =>
    have ih' := fun x (hx : (partsOf x).length < (partsOf r).length) => ih _ (by omega) x (by omega) rfl
    refine ⟨fun r2 hd => step47 c r r2 hn hr hd ih', fun hd => ?_⟩
    rw [rulesOf_dnf] at hd
    cases hk : courseOf c r.op r.course r.name with
    | none => exact pan47a c r hn hk
    | some k =>
      refine pan47b c r k hn hr hk ?_ ih'
      rw [hk] at hd
      cases hks : rulesOf c r.kids with
      | none => rfl
      | some ks => rw [hks] at hd; cases hd
theorem walk47 (c : Cat) (r r2 : Rule) (hn : c.courses.length ≤ 1048576) (hr : (partsOf r).length ≤ 1048576) (h : ruleOf c r = some r2) : Does Try.prog 47 [.agg (catD c), .agg (ruleD r)] (.dat (.agg (ruleD r2))) [] := (rule_all c hn r hr).1 r2 h
theorem pan47 (c : Cat) (r : Rule) (hn : c.courses.length ≤ 1048576) (hr : (partsOf r).length ≤ 1048576) (h : ruleOf c r = none) : DoesP Try.prog 47 [.agg (catD c), .agg (ruleD r)] (thrown 110) := (rule_all c hn r hr).2 h

-- WALK 51
-- sizar/sizarref11.rule
theorem step51 (c : Cat) (r : Rule) (hn : c.courses.length ≤ 1048576) (hr : (partsOf r).length ≤ 1048576) (ih : ∀ x : Rule, (partsOf x).length < (partsOf r).length → Does Try.prog 51 [.agg (catD c), .agg (ruleD x)] (.dat (.tup [.agg (ruleD (ruleR c x).1), bV (ruleR c x).2])) []) : Does Try.prog 51 [.agg (catD c), .agg (ruleD r)] (.dat (.tup [.agg (ruleD (ruleR c r).1), bV (ruleR c r).2])) [] := by
  have hre : (partsOf r).length = (partsL r.kids).length + 1 := by rw [partsOf_eq]; rfl
  have hkl := kids_le r.kids
  rw [ruleR_dnf, ruleD_mk]
  obtain ⟨p, hp0⟩ : ∃ p, p = courseR c r.op r.course r.name := ⟨_, rfl⟩
  rw [← hp0]
  refine Does.intro [.cell 4 39, .tmp 5] Try.func51 rfl (by kernel_rfl) Try.ntmps51 rfl (Nat.le_of_ble_eq_true rfl) ?_
  refine T_seq ?_
  refine T_region (is := [0, 1, 2, 3]) rfl fun kn kp hn hp => ?_
  refine T_op rfl rfl fun kc hc => ?_
  simp; refine hc _ ?_; clear hc kc
  refine T_op rfl rfl fun kc hc => ?_
  simp; refine hc _ ?_; clear hc kc
  refine T_op rfl rfl fun kc hc => ?_
  simp; refine hc _ ?_; clear hc kc
  refine T_op rfl rfl fun kc hc => ?_
  simp; refine hc _ ?_; clear hc kc
  refine T_end (hn _ ?_); clear hn hp kn kp
  refine T_then ?_
  refine T_seq ?_
  refine T_region (is := [0]) rfl fun kn kp hn hp => ?_
  refine T_op rfl rfl fun kc hc => ?_
  simp; refine hc _ ?_; clear hc kc
  refine T_end (hn _ ?_); clear hn hp kn kp
  refine T_then ?_
  refine T_cut ({ sl := [(2, .ptr 0 0), (3, .ptr 1 0), (4, .ptr 2 0), (6, .dat (bV p.2))], hp := [(0, .var ((catD c).map .dat)), (1, .var [.dat (iD r.op), .dat (iD p.1), .dat (sD r.name), .dat (iD r.n), .dat (iD r.d), .dat (.sl 6 (kidsD r))]), (2, .var [.dat (iD 0), .dat (iD 0), .dat (sD eS), .dat (iD 0), .dat (iD 0), .dat (.val (.slice none 0 0))])], nx := 3 }) ?_ ?_
  · skip
    refine T_seq ?_
    refine T_region (is := [0, 1, 2]) rfl fun kn kp hn hp => ?_
    refine T_op rfl rfl fun kc hc => ?_
    simp; refine hc _ ?_; clear hc kc
    refine T_op rfl rfl fun kc hc => ?_
    simp; refine hc _ ?_; clear hc kc
    refine T_op rfl rfl fun kc hc => ?_
    simp
    refine CallS.dat (walk81 r.op) (rfl) rfl rfl rfl ?_
    simp [enum]; refine hc _ ?_; clear hc kc
    refine T_end (hn _ ?_); clear hn hp kn kp
    refine T_then ?_
    refine T_cond rfl (fun b1 => ?_) (fun b1 => ?_)
    · skip
      have hm : mentB r.op = true := by simpa [mentB] using b1
      have hpp : p = numberR c r.name r.course := by rw [hp0, courseR, if_pos hm]
      refine T_region (is := [0, 1, 2, 3, 4, 5, 6, 7, 8, 9, 10, 11]) rfl fun kn kp hn hp => ?_
      refine T_op rfl rfl fun kc hc => ?_
      simp; refine hc _ ?_; clear hc kc
      refine T_op rfl rfl fun kc hc => ?_
      simp; refine hc _ ?_; clear hc kc
      refine T_op rfl rfl fun kc hc => ?_
      simp; refine hc _ ?_; clear hc kc
      refine T_op rfl rfl fun kc hc => ?_
      simp; refine hc _ ?_; clear hc kc
      refine T_op rfl rfl fun kc hc => ?_
      simp; refine hc _ ?_; clear hc kc
      refine T_op rfl rfl fun kc hc => ?_
      simp
      refine CallS.dat (walk52 c r.name r.course (by omega)) (rfl) rfl rfl rfl ?_
      simp [enum]; refine hc _ ?_; clear hc kc
      refine T_op rfl rfl fun kc hc => ?_
      simp; refine hc _ ?_; clear hc kc
      refine T_op rfl rfl fun kc hc => ?_
      simp; refine hc _ ?_; clear hc kc
      refine T_op rfl rfl fun kc hc => ?_
      simp; refine hc _ ?_; clear hc kc
      refine T_op rfl rfl fun kc hc => ?_
      simp; refine hc _ ?_; clear hc kc
      refine T_op rfl rfl fun kc hc => ?_
      simp; refine hc _ ?_; clear hc kc
      refine T_op rfl rfl fun kc hc => ?_
      simp; refine hc _ ?_; clear hc kc
      refine T_end (hn _ ?_); clear hn hp kn kp
      refine T_then ?_
      exact Ent.sub [2, 3, 4, 6] [0, 1, 2] (by simp [sub, subSl, subHp, place, mp, mpL, mpO, mpG, hpp])
    · skip
      have hm : mentB r.op = false := by simpa [mentB] using b1
      have hpp : p = (r.course, true) := by rw [hp0, courseR, if_neg (by rw [hm]; simp)]
      refine T_skip ?_
      refine T_then ?_
      exact Ent.sub [2, 3, 4, 6] [0, 1, 2] (by simp [sub, subSl, subHp, place, mp, mpL, mpO, mpG, hpp])
  refine T_seq ?_
  refine T_region (is := [0, 1]) rfl fun kn kp hn hp => ?_
  refine T_op rfl rfl fun kc hc => ?_
  simp; refine hc _ ?_; clear hc kc
  refine T_op rfl rfl fun kc hc => ?_
  simp; refine hc _ ?_; clear hc kc
  refine T_end (hn _ ?_); clear hn hp kn kp
  refine T_then ?_
  refine T_seq ?_
  refine T_seq ?_
  refine T_region (is := [0]) rfl fun kn kp hn hp => ?_
  refine T_op rfl rfl fun kc hc => ?_
  simp; refine hc _ ?_; clear hc kc
  refine T_end (hn _ ?_); clear hn hp kn kp
  refine T_then ?_
  refine T_block ?_
  refine T_loop (fun z : Nat => { sl := [(2, .ptr 0 0), (3, .ptr 1 0), (4, .ptr 2 0), (6, .dat (bV (p.2 && (rulesR c (r.kids.take z)).2))), (7, .own 3 6 z), (8, .dat (iD z))], hp := [(0, .var ((catD c).map .dat)), (1, .var [.dat (iD r.op), .dat (iD p.1), .dat (sD r.name), .dat (iD r.n), .dat (iD r.d), .dat (.sl 6 (kidsD r))]), (2, .var [.dat (iD 0), .dat (iD 0), .dat (sD eS), .dat (iD 0), .dat (iD 0), .dat (.val (.slice none 0 0))]), (3, .row 39 6 ((rulesR c (r.kids.take z)).1.map ruleD))], nx := 4 }) (fun z => z ≤ r.kids.length) (fun z => r.kids.length - z) 0 (Ent.sub [2, 3, 4, 6, 7, 8] [0, 1, 2, 3] (by simp [sub, subSl, subHp, place, mp, mpL, mpO, mpG, rulesR])) (Nat.zero_le _) fun z hz => ?_
  refine T_seq ?_
  refine T_seq ?_
  refine T_region (is := [0, 1, 2, 3, 4]) rfl fun kn kp hn hp => ?_
  refine T_op rfl rfl fun kc hc => ?_
  simp; refine hc _ ?_; clear hc kc
  refine T_op rfl rfl fun kc hc => ?_
  simp; refine hc _ ?_; clear hc kc
  refine T_op rfl rfl fun kc hc => ?_
  simp; refine hc _ ?_; clear hc kc
  refine T_op rfl rfl fun kc hc => ?_
  simp; refine hc _ ?_; clear hc kc
  refine T_op rfl rfl fun kc hc => ?_
  simp; refine hc _ ?_; clear hc kc
  refine T_end (hn _ ?_); clear hn hp kn kp
  refine T_then ?_
  refine T_cond rfl (fun b2 => ?_) (fun b2 => ?_)
  · skip
    have hz' : z < r.kids.length := by simpa using b2
    obtain ⟨x, hx⟩ : ∃ x, r.kids[z]? = some x := ⟨_, List.getElem?_eq_getElem hz'⟩
    have hpl := partsL_len hx
    have e1 : IntKind.i64.wrap ((z : Int) + 1) = (z : Int) + 1 := wr1 hz' (by omega)
    have hlt : (partsOf x).length < (partsOf r).length := by omega
    have hrn := rulesR_next (c := c) hx
    have hrl : (rulesR c (r.kids.take z)).1.length = z := by rw [rulesR_len]; simp; omega
    have e7 : (z + 1) * 72 ≤ big := by simp only [big]; omega
    refine T_skip ?_
    refine T_then ?_
    refine T_seq ?_
    refine T_block ?_
    refine T_seqDraw (is := [0, 1, 2, 3, 4, 5, 6, 7, 8, 9, 10, 11, 12]) rfl (by kernel_rfl) fun kn hn => ?_
    refine D_op rfl rfl rfl rfl fun kc hc => ?_
    simp; refine hc _ ?_; clear hc kc
    refine D_op rfl rfl rfl rfl fun kc hc => ?_
    simp; refine hc _ ?_; clear hc kc
    refine D_op rfl rfl rfl rfl fun kc hc => ?_
    simp; refine hc _ ?_; clear hc kc
    refine D_op rfl rfl rfl rfl fun kc hc => ?_
    simp; refine hc _ ?_; clear hc kc
    refine D_op rfl rfl rfl rfl fun kc hc => ?_
    simp [(kids_get hx)]; refine hc _ ?_; clear hc kc
    refine D_op rfl rfl rfl rfl fun kc hc => ?_
    simp [(kids_get hx)]; refine hc _ ?_; clear hc kc
    refine D_call rfl rfl rfl (by simp <;> first | exact ⟨rfl, rfl⟩ | rfl) (ih x hlt) (by rfl) rfl fun kc hc => ?_
    simp [enum]; refine hc _ ?_; clear hc kc
    refine D_op rfl rfl rfl rfl fun kc hc => ?_
    simp; refine hc _ ?_; clear hc kc
    refine D_op rfl rfl rfl rfl fun kc hc => ?_
    simp; refine hc _ ?_; clear hc kc
    refine D_op rfl rfl rfl rfl fun kc hc => ?_
    simp; refine hc _ ?_; clear hc kc
    refine D_eff [4] rfl rfl rfl fun kc hc => ?_
    simp
    refine hc _ (fun b hb => by simp at hb; simp [lk, hb]) ?_; clear hc kc
    refine D_eff [4] rfl rfl rfl fun kc hc => ?_
    simp
    refine hc _ (fun b hb => by simp at hb; simp [lk, hb]) ?_; clear hc kc
    refine D_op rfl rfl rfl rfl fun kc hc => ?_
    simp; refine hc _ ?_; clear hc kc
    refine D_end rfl (by kernel_rfl) (hn _ ?_); clear hn kn
    refine T_seq ?_
    refine T_region (is := [0, 1, 2, 3, 4]) rfl fun kn kp hn hp => ?_
    refine T_op rfl rfl fun kc hc => ?_
    simp; refine hc _ ?_; clear hc kc
    refine T_op rfl rfl fun kc hc => ?_
    simp; refine hc _ ?_; clear hc kc
    refine T_op rfl rfl fun kc hc => ?_
    simp; refine hc _ ?_; clear hc kc
    refine T_op rfl rfl fun kc hc => ?_
    simp [e7, hrl]; refine hc _ ?_; clear hc kc
    refine T_op rfl rfl fun kc hc => ?_
    simp; refine hc _ ?_; clear hc kc
    refine T_end (hn _ ?_); clear hn hp kn kp
    refine T_then ?_
    refine T_region (is := [0, 1, 2, 3, 4]) rfl fun kn kp hn hp => ?_
    refine T_op rfl rfl fun kc hc => ?_
    simp; refine hc _ ?_; clear hc kc
    refine T_op rfl rfl fun kc hc => ?_
    simp; refine hc _ ?_; clear hc kc
    refine T_pure rfl (pstep_one rfl rfl rfl rfl fun g0 => .op rfl (by simp [g0]; rfl)) fun kc hc => ?_
    simp; refine hc _ ?_; clear hc kc
    refine T_op rfl rfl fun kc hc => ?_
    simp; refine hc _ ?_; clear hc kc
    refine T_op rfl rfl fun kc hc => ?_
    simp; refine hc _ ?_; clear hc kc
    refine T_end (hn _ ?_); clear hn hp kn kp
    refine X_blockN ?_
    refine T_then ?_
    refine T_region (is := [0, 1, 2]) rfl fun kn kp hn hp => ?_
    refine T_op rfl rfl fun kc hc => ?_
    simp; refine hc _ ?_; clear hc kc
    refine T_op rfl rfl fun kc hc => ?_
    simp [e1]; refine hc _ ?_; clear hc kc
    refine T_op rfl rfl fun kc hc => ?_
    simp; refine hc _ ?_; clear hc kc
    refine T_end (hn _ ?_); clear hn hp kn kp
    exact X_loopN (z + 1) (Ent.sub [2, 3, 4, 6, 7, 8] [0, 1, 2, 6] (by simp [sub, subSl, subHp, place, mp, mpL, mpO, mpG, e1, hrn, Bool.and_assoc])) hz' (by omega)
  · skip
    have hz' : z = r.kids.length := by simp at b2; omega
    subst hz'
    have hrl : (rulesR c r.kids).1.length = r.kids.length := rulesR_len c r.kids
    have hb : r.kids.length ≤ big := by simp only [big]; omega
    have hkt : ∀ f : Rule → List Dat, List.take r.kids.length ((rulesR c r.kids).1.map f) = (rulesR c r.kids).1.map f := fun f => List.take_of_length_le (by simp [hrl])
    refine T_exit ?_
    refine X_thenE ?_
    refine X_loopE ?_
    refine X_hit ?_
    refine T_then ?_
    refine T_seq ?_
    refine T_region (is := [0, 1, 2]) rfl fun kn kp hn hp => ?_
    refine T_op rfl rfl fun kc hc => ?_
    simp; refine hc _ ?_; clear hc kc
    refine T_op rfl rfl fun kc hc => ?_
    simp; refine hc _ ?_; clear hc kc
    refine T_op rfl rfl fun kc hc => ?_
    simp; refine hc _ ?_; clear hc kc
    refine T_end (hn _ ?_); clear hn hp kn kp
    refine T_then ?_
    refine T_seq ?_
    refine T_region (is := [0, 1, 2, 3]) rfl fun kn kp hn hp => ?_
    refine T_op rfl rfl fun kc hc => ?_
    simp; refine hc _ ?_; clear hc kc
    refine T_op rfl rfl fun kc hc => ?_
    simp; refine hc _ ?_; clear hc kc
    refine T_op rfl rfl fun kc hc => ?_
    simp; refine hc _ ?_; clear hc kc
    refine T_op rfl rfl fun kc hc => ?_
    simp; refine hc _ ?_; clear hc kc
    refine T_end (hn _ ?_); clear hn hp kn kp
    refine T_then ?_
    refine T_ret ?_
    exact finI (Ent.refl _) (by simp [resD, resL, resV]; rfl) (Ent.trans (Ent.giveG (t := 0) (n := 40) (e := .tup [.agg [iD r.op, iD p.1, sD r.name, iD r.n, iD r.d, .sl 6 ((rulesR c r.kids).1.map ruleD)], bV (p.2 && (rulesR c r.kids).2)]) (hp' := _) rfl (by simp [Sx.give, giveL, hb, hrl, hkt]; rfl)) (Ent.sub [] [] (by simp [sub, subSl, subHp, place, mp, mpL, mpO, mpG]; rfl))) rfl rfl (by simp)
-- END
theorem walk51 (c : Cat) (hn : c.courses.length ≤ 1048576) (r : Rule) (hr : (partsOf r).length ≤ 1048576) : Does Try.prog 51 [.agg (catD c), .agg (ruleD r)] (.dat (.tup [.agg (ruleD (ruleR c r).1), bV (ruleR c r).2])) [] := by
  obtain ⟨n, hm⟩ : ∃ n, (partsOf r).length = n := ⟨_, rfl⟩
  induction n using Nat.strongRecOn generalizing r with
  | ind n ih => exact step51 c r hn hr fun x hx => ih _ (by omega) x (by omega) rfl

end Go.Proofs.Ytbkkekbeaabokaa
