/- The names: the data of a catalogue, and what the smaller functions compute. -/
import Derived.Test.YtbkkekbeaabokaaSyR
import Derived.Test.YtbkkekbeaabokaaSyS
import Derived.Test.YtbkkekbeaabokaaSyP
import Derived.Test.YtbkkekbeaabokaaInfo
set_option linter.unusedVariables false
set_option linter.unusedSimpArgs false
namespace Go.Proofs.Ytbkkekbeaabokaa
open Go Go.Proofs.Ytbkkekbeaabokaa.Sx

abbrev iD (n : Int) : Dat := .val (.int .i64 n)
abbrev sD (s : ByteArray) : Dat := .val (.string s)
abbrev bV (b : Bool) : Dat := .val (.bool b)
abbrev eS : ByteArray := ⟨#[]⟩
inductive Rule where
  | mk (op course : Int) (name : ByteArray) (n d : Int) (kids : List Rule)
def Rule.op : Rule → Int | .mk a _ _ _ _ _ => a
def Rule.course : Rule → Int | .mk _ a _ _ _ _ => a
def Rule.name : Rule → ByteArray | .mk _ _ a _ _ _ => a
def Rule.n : Rule → Int | .mk _ _ _ a _ _ => a
def Rule.d : Rule → Int | .mk _ _ _ _ a _ => a
def Rule.kids : Rule → List Rule | .mk _ _ _ _ _ a => a
mutual
def kidsD : Rule → List (List Dat)
  | .mk _ _ _ _ _ kids => rulesD kids
def rulesD : List Rule → List (List Dat)
  | [] => []
  | r :: rs => [iD r.op, iD r.course, sD r.name, iD r.n, iD r.d, .sl 6 (kidsD r)] :: rulesD rs
end
/-- A rule's cells. -/
abbrev ruleD (r : Rule) : List Dat := [iD r.op, iD r.course, sD r.name, iD r.n, iD r.d, .sl 6 (kidsD r)]
theorem rulesD_map : ∀ l : List Rule, rulesD l = l.map ruleD
  | [] => by simp [rulesD]
  | r :: rs => by simp [rulesD, rulesD_map rs]
theorem kidsD_map (r : Rule) : kidsD r = r.kids.map ruleD := by
  cases r
  simp [kidsD, Rule.kids, rulesD_map]
structure Course where
  name : ByteArray
  number : Int
  credits : Int
  rep : Int
  need : Rule
  bar : Rule
abbrev courseD (x : Course) : List Dat := [sD x.name, iD x.number, iD x.credits, iD x.rep, iD x.need.op, iD x.need.course, sD x.need.name, iD x.need.n, iD x.need.d, .sl 6 (kidsD x.need), iD x.bar.op, iD x.bar.course, sD x.bar.name, iD x.bar.n, iD x.bar.d, .sl 6 (kidsD x.bar)]
structure Pair where
  a : ByteArray
  b : ByteArray
  x : Int
  y : Int
abbrev pairD (p : Pair) : List Dat := [sD p.a, sD p.b, iD p.x, iD p.y]
structure Req where
  name : ByteArray
  credits : Int
  grade : Int
  home : Bool
  names : List ByteArray
  frm : List Int
abbrev strs (l : List ByteArray) : Dat := .sl 1 (l.map fun s => [sD s])
abbrev ints (l : List Int) : Dat := .sl 1 (l.map fun n => [iD n])
abbrev bools (l : List Bool) : Dat := .sl 1 (l.map fun b => [bV b])
abbrev reqD (q : Req) : List Dat := [sD q.name, iD q.credits, iD q.grade, bV q.home, strs q.names, ints q.frm]
structure Prog where
  name : ByteArray
  number : Int
  uses : Int
  earn : Int
  num : Int
  den : Int
  reqs : List Req
abbrev progD (p : Prog) : List Dat := [sD p.name, iD p.number, iD p.uses, iD p.earn, iD p.num, iD p.den, .sl 6 (p.reqs.map reqD)]
structure Class where
  name : ByteArray
  earn : Int
  num : Int
  den : Int
abbrev classD (x : Class) : List Dat := [sD x.name, iD x.earn, iD x.num, iD x.den]
structure Fee where
  name : ByteArray
  credits : Int
abbrev feeD (x : Fee) : List Dat := [sD x.name, iD x.credits]
structure Clause where
  kind : Int
  on_ : Int
  action : Int
  lim : Int
abbrev clauseD (x : Clause) : List Dat := [iD x.kind, iD x.on_, iD x.action, iD x.lim]
structure Cat where
  courses : List Course
  same : List Pair
  progs : List Prog
  classes : List Class
  fees : List Fee
  honours : List Class
  clauses : List Clause
abbrev catD (c : Cat) : List Dat := [.sl 16 (c.courses.map courseD), .sl 4 (c.same.map pairD), .sl 7 (c.progs.map progD), .sl 4 (c.classes.map classD), .sl 2 (c.fees.map feeD), .sl 4 (c.honours.map classD), .sl 4 (c.clauses.map clauseD)]

abbrev maxI : Nat := 9223372036854775807
theorem take_next {α : Type} {l : List α} {z : Nat} {x : α} (h : l[z]? = some x) : l.take (z + 1) = l.take z ++ [x] := by
  rw [List.take_add_one, h]; rfl
theorem drop_next {α : Type} {l : List α} {z : Nat} {x : α} (h : l[z]? = some x) : l.drop z = x :: l.drop (z + 1) := by
  obtain ⟨hz, rfl⟩ := List.getElem?_eq_some_iff.1 h
  exact List.drop_eq_getElem_cons hz
theorem wr1 {z n : Nat} (h : z < n) (hn : n ≤ 9223372036854775807) : IntKind.i64.wrap ((z : Int) + 1) = (z : Int) + 1 := wr (by omega)
theorem kids_get {r : Rule} {i : Nat} {x : Rule} (h : r.kids[i]? = some x) : (kidsD r)[i]? = some (ruleD x) := by
  rw [kidsD_map, List.getElem?_map, h]; rfl
theorem kids_len (r : Rule) : (kidsD r).length = r.kids.length := by rw [kidsD_map, List.length_map]

section
variable {P : Program} {N : Nat} {s0 s : S} {cnt : Nat → Nat} {i e : Nat} {K : Ex → S → Prop}
theorem RBN (h : s.st = cnt (i + 1)) : roundKB s0 cnt i K .normal s := h
theorem RBR (h : K .ret { s0 with st := s.st }) : roundKB s0 cnt i K .ret s := h
theorem RBE (h : K (.exit e) { s0 with st := s.st }) : roundKB s0 cnt i K (.exit e) s := h
end

@[simp] theorem take_map_len {α β : Type} (f : α → β) (l : List α) : List.take l.length (l.map f) = l.map f := List.take_of_length_le (by simp)
@[simp] theorem datL_map : ∀ l : List Dat, datL (l.map D.dat) = some l
  | [] => rfl
  | d :: r => by simp [datL, datOf, datL_map r]

/-! ### What the functions compute -/
/-- The place of the first that p holds of, or -1. -/
def idx {α : Type} (p : α → Bool) : List α → Int → Int
  | [], _ => -1
  | x :: r, k => if p x then k else idx p r (k + 1)
theorem idx_at {α : Type} {p : α → Bool} {l : List α} {z : Nat} {x : α} (h : l[z]? = some x) : idx p (l.drop z) z = if p x then (z : Int) else idx p (l.drop (z + 1)) ((z + 1 : Nat) : Int) := by
  rw [drop_next h]
  rfl
theorem idx_end {α : Type} {p : α → Bool} {l : List α} {z : Nat} (h : l.length ≤ z) : idx p (l.drop z) z = -1 := by
  rw [List.drop_of_length_le h]; rfl
theorem idx_range {α : Type} {p : α → Bool} : ∀ {l : List α} {k : Nat}, idx p l k = -1 ∨ ∃ i x, idx p l k = ((k + i : Nat) : Int) ∧ l[i]? = some x ∧ p x = true
  | [], k => .inl rfl
  | x :: r, k => by
    simp only [idx]
    by_cases h : p x = true
    · exact .inr ⟨0, x, by simp [h], rfl, h⟩
    · rw [if_neg h]
      rcases idx_range (p := p) (l := r) (k := k + 1) with h1 | ⟨i, y, h1, h2, h3⟩
      · left; exact_mod_cast h1
      · right
        refine ⟨i + 1, y, ?_, by simpa using h2, h3⟩
        have : ((k + 1 : Nat) : Int) = (k : Int) + 1 := by omega
        rw [this] at h1
        rw [h1]; omega
/-- The course that is meant. -/
def meansB (name : ByteArray) (number : Int) (x : Course) : Bool := if name == eS then x.number == number else x.name == name
def meant (c : Cat) (name : ByteArray) (number : Int) : Int := idx (meansB name number) c.courses 0
/-- The number of the course at a place. -/
def numAt (c : Cat) (i : Int) : Int := match c.courses[i.toNat]? with
  | some x => x.number
  | none => 0
def findOf (c : Cat) (name : ByteArray) : Int × Bool := if idx (fun x => x.name == name) c.courses 0 < 0 then (0, false) else (numAt c (idx (fun x => x.name == name) c.courses 0), true)
/-- The number that a reference gets. -/
def numberOf (c : Cat) (name : ByteArray) (old : Int) : Option Int := if name == eS then some old else if meant c name 0 < 0 then none else some (numAt c (meant c name 0))
theorem numAt_get {c : Cat} {i : Nat} {x : Course} (h : c.courses[i]? = some x) : numAt c (i : Int) = x.number := by simp [numAt, h]
/-- What is thrown. -/
abbrev thrown (e : Int) : Value := .iface 124 (.agg #[.int .i64 e])
def has (l : List Int) (n : Int) : Bool := l.any (· == n)
theorem has_next {l : List Int} {n x : Int} {z : Nat} (h : l[z]? = some x) : has (l.take (z + 1)) n = (has (l.take z) n || x == n) := by
  simp [has, take_next h]
/-- Something stands twice in a list. -/
def twiceGo {α : Type} [BEq α] (seen : List α) : List α → Bool
  | [] => false
  | x :: r => seen.any (x == ·) || twiceGo (seen ++ [x]) r
def twiceB {α : Type} [BEq α] (l : List α) : Bool := twiceGo [] l
theorem twice_next {α : Type} [BEq α] {l : List α} {z : Nat} {x : α} (h : l[z]? = some x) : twiceGo (l.take z) (l.drop z) = ((l.take z).any (x == ·) || twiceGo (l.take (z + 1)) (l.drop (z + 1))) := by
  rw [drop_next h, take_next h]; rfl
theorem twice_end {α : Type} [BEq α] {l : List α} {z : Nat} (h : l.length ≤ z) : twiceGo (l.take z) (l.drop z) = false := by
  rw [List.drop_of_length_le h]; rfl
theorem any_next {α : Type} {l : List α} {k : Nat} {y : α} {p : α → Bool} (h : l[k]? = some y) : (l.take (k + 1)).any p = ((l.take k).any p || p y) := by
  simp [take_next h]
theorem any_at {α : Type} {l : List α} {z k : Nat} {y : α} {p : α → Bool} (h : l[k]? = some y) (hk : k < z) (hp : p y = true) : (l.take z).any p = true := by
  rw [List.any_eq_true]
  refine ⟨y, ?_, hp⟩
  rw [List.mem_iff_getElem?]
  exact ⟨k, by rw [List.getElem?_take, if_pos hk, h]⟩
theorem idx_any {α : Type} {p : α → Bool} : ∀ (l : List α) (k : Nat), decide (0 ≤ idx p l k) = l.any p
  | [], k => rfl
  | x :: r, k => by
    simp only [idx, List.any_cons]
    by_cases h : p x = true
    · simp [h]
    · have := idx_any (p := p) r (k + 1)
      rw [show ((k + 1 : Nat) : Int) = (k : Int) + 1 by omega] at this
      simp [h, this]
/-! ### Rules -/
mutual
def partsOf : Rule → List Rule
  | .mk a b c d e kids => .mk a b c d e kids :: partsL kids
def partsL : List Rule → List Rule
  | [] => []
  | r :: rs => partsOf r ++ partsL rs
end
theorem partsOf_eq (r : Rule) : partsOf r = r :: partsL r.kids := by cases r; simp [partsOf, Rule.kids]
theorem partsL_app (a b : List Rule) : partsL (a ++ b) = partsL a ++ partsL b := by
  induction a with
  | nil => simp [partsL]
  | cons x r ih => simp [partsL, ih]
theorem partsL_next {l : List Rule} {z : Nat} {x : Rule} (h : l[z]? = some x) : partsL (l.take (z + 1)) = partsL (l.take z) ++ partsOf x := by
  rw [take_next h, partsL_app]; simp [partsL]
theorem partsL_split {l : List Rule} {z : Nat} {x : Rule} (h : l[z]? = some x) : partsL l = partsL (l.take z) ++ (partsOf x ++ partsL (l.drop (z + 1))) := by
  have : l = l.take z ++ (x :: l.drop (z + 1)) := by rw [← drop_next h, List.take_append_drop]
  conv => lhs; rw [this]
  rw [partsL_app]; simp [partsL]
theorem partsL_len {l : List Rule} {z : Nat} {x : Rule} (h : l[z]? = some x) : (partsL (l.take z)).length + (partsOf x).length ≤ (partsL l).length := by
  rw [partsL_split h]; simp
theorem kids_le : ∀ (l : List Rule), l.length ≤ (partsL l).length
  | [] => Nat.le_refl _
  | r :: rs => by
    have := kids_le rs
    simp only [partsL, List.length_append, List.length_cons, partsOf_eq]
    omega
theorem parts_at {r x p : Rule} {z i : Nat} (h : r.kids[z]? = some x) (h2 : (partsOf x)[i]? = some p) : (partsOf r)[1 + (partsL (r.kids.take z)).length + i]? = some p := by
  rw [partsOf_eq, partsL_split h, show 1 + (partsL (r.kids.take z)).length + i = ((partsL (r.kids.take z)).length + i) + 1 by omega, List.getElem?_cons_succ, List.getElem?_append_right (by omega), Nat.add_sub_cancel_left, List.getElem?_append_left (List.getElem?_eq_some_iff.1 h2).1]
  exact h2
/-- The course that a part needs. -/
def need1 (c : Cat) (p : Rule) : Option Int := if p.op == 5 || p.op == 6 then (if 0 ≤ meant c p.name p.course then some (meant c p.name p.course) else none) else none
def needsL (c : Cat) (l : List Rule) : List Int := l.filterMap (need1 c)
theorem needsL_next {c : Cat} {l : List Rule} {z : Nat} {x : Rule} (h : l[z]? = some x) : needsL c (l.take (z + 1)) = needsL c (l.take z) ++ (need1 c x).toList := by
  rw [take_next h, needsL, needsL, List.filterMap_append]
  cases hn : need1 c x <;> simp [hn]
theorem needsL_len (c : Cat) (l : List Rule) : (needsL c l).length ≤ l.length := List.length_filterMap_le _ _
theorem needsL_at {c : Cat} {l : List Rule} {z : Nat} {x : Rule} {n : Int} (h : l[z]? = some x) (hn : need1 c x = some n) : (needsL c l)[(needsL c (l.take z)).length]? = some n := by
  have : l = l.take z ++ (x :: l.drop (z + 1)) := by rw [← drop_next h, List.take_append_drop]
  conv => lhs; rw [this]
  simp only [needsL, List.filterMap_append, List.filterMap_cons, hn]
  conv => lhs; rw [← this]
  simp
/-- Whatever the caller hands in is small. -/
structure Cat.fit (c : Cat) : Prop where
  courses : c.courses.length ≤ 1048576
  need : ∀ y ∈ c.courses, (partsOf y.need).length ≤ 1048576 ∧ (partsOf y.bar).length ≤ 1048576
  same : c.same.length ≤ 1048576
  progs : c.progs.length ≤ 1048576
  reqs : ∀ p ∈ c.progs, p.reqs.length ≤ 1048576 ∧ ∀ q ∈ p.reqs, q.names.length ≤ 1048576 ∧ q.frm.length ≤ 1048576
  classes : c.classes.length ≤ 1048576
  fees : c.fees.length ≤ 1048576
  honours : c.honours.length ≤ 1048576
  clauses : c.clauses.length ≤ 1048576
theorem weak_ints (l : List Int) : ∀ (i : Nat) (x : List Dat), (l.map fun n => [iD n])[i]? = some x → Weak x [iD (l.getD i 0)] := by
  intro i x h
  simp only [List.getElem?_map, Option.map_eq_some_iff] at h
  obtain ⟨n, hn, rfl⟩ := h
  have : l.getD i 0 = n := by simp [List.getD_eq_getElem?_getD, hn]
  rw [this]
  refine ⟨rfl, fun ok ok' w w' j d e v h1 h2 h3 => ?_⟩
  cases j with
  | succ j => simp at h1
  | zero =>
    simp at h1 h2
    subst h1; subst h2
    cases h3
    exact .val _
/-! ### The listing -/
/-- What the course at a place needs. -/
def needsAt (c : Cat) (i : Nat) : List Int := match c.courses[i]? with
  | some y => needsL c (partsOf y.need)
  | none => []
theorem meant_range {c : Cat} {name : ByteArray} {number : Int} (h : 0 ≤ meant c name number) : ∃ (k : Nat) (x : Course), meant c name number = (k : Int) ∧ c.courses[k]? = some x ∧ meansB name number x = true := by
  unfold meant at h ⊢
  rcases idx_range (p := meansB name number) (l := c.courses) (k := 0) with hi | ⟨i, y, hi, hy, hpy⟩
  · rw [show ((0 : Nat) : Int) = 0 from rfl] at hi
    omega
  · exact ⟨i, y, by simpa using hi, hy, hpy⟩
theorem need1_range {c : Cat} {p : Rule} {n : Int} (h : need1 c p = some n) : ∃ (k : Nat), n = (k : Int) ∧ k < c.courses.length := by
  unfold need1 at h
  split at h
  · split at h
    · rename_i h1
      obtain ⟨k, x, hk, hx, _⟩ := meant_range h1
      injection h with h
      exact ⟨k, by rw [← h, hk], (List.getElem?_eq_some_iff.1 hx).1⟩
    · cases h
  · cases h
theorem needsL_range {c : Cat} {l : List Rule} {n : Int} (h : n ∈ needsL c l) : ∃ (k : Nat), n = (k : Int) ∧ k < c.courses.length := by
  simp only [needsL, List.mem_filterMap] at h
  obtain ⟨p, _, hp⟩ := h
  exact need1_range hp
def allH (out L : List Int) : Bool := L.all (has out)
theorem allH_next {out L : List Int} {k : Nat} {y : Int} (h : L[k]? = some y) : allH out (L.take (k + 1)) = (allH out (L.take k) && has out y) := by
  simp only [allH, take_next h, List.all_append, List.all_cons, List.all_nil, Bool.and_true]
theorem allH_off {out L : List Int} {k : Nat} {y : Int} (h : L[k]? = some y) (hp : has out y = false) : allH out L = false := by
  cases ha : allH out L with
  | false => rfl
  | true => rw [allH, List.all_eq_true] at ha; have := ha y (List.mem_of_getElem? h); rw [hp] at this; cases this
/-- Whether a course is ready when these are listed. -/
def readyB (c : Cat) (out : List Int) (i : Nat) : Bool := allH out (needsAt c i) && !has out i
def isOf (c : Cat) (out : List Int) : List Bool := (List.range c.courses.length).map fun (k : Nat) => has out (k : Int)
theorem isOf_get {c : Cat} {out : List Int} {k : Nat} (h : k < c.courses.length) : (isOf c out)[k]? = some (has out k) := by
  simp [isOf, h]
theorem isOf_len (c : Cat) (out : List Int) : (isOf c out).length = c.courses.length := by simp [isOf]
theorem all_next {α : Type} {l : List α} {k : Nat} {y : α} {p : α → Bool} (h : l[k]? = some y) : (l.take (k + 1)).all p = ((l.take k).all p && p y) := by
  simp [take_next h]
theorem all_off {α : Type} {l : List α} {k : Nat} {y : α} {p : α → Bool} (h : l[k]? = some y) (hp : p y = false) : l.all p = false := by
  cases ha : l.all p with
  | false => rfl
  | true => rw [List.all_eq_true] at ha; have := ha y (List.mem_of_getElem? h); rw [hp] at this; cases this
theorem has_app (l : List Int) (n m : Int) : has (l ++ [n]) m = (has l m || n == m) := by simp [has]
theorem isOf_set {c : Cat} {out : List Int} {i : Nat} (h : i < c.courses.length) : (isOf c out).set i true = isOf c (out ++ [(i : Int)]) := by
  apply List.ext_getElem?
  intro k
  rw [List.getElem?_set]
  by_cases hk : k < c.courses.length
  · by_cases e : i = k
    · subst e
      rw [if_pos rfl, if_pos (by rw [isOf_len]; exact h), isOf_get h, has_app]
      simp
    · rw [if_neg e, isOf_get hk, isOf_get hk, has_app]
      have : ((i : Int) == (k : Int)) = false := by simp; omega
      rw [this, Bool.or_false]
  · rw [List.getElem?_eq_none (l := isOf c (out ++ [(i : Int)])) (by rw [isOf_len]; omega)]
    by_cases e : i = k
    · subst e; omega
    · rw [if_neg e, List.getElem?_eq_none (by rw [isOf_len]; omega)]
theorem isOf_nil (c : Cat) : isOf c [] = List.replicate c.courses.length false := by
  apply List.ext_getElem?
  intro k
  by_cases hk : k < c.courses.length
  · rw [isOf_get hk]; simp [hk, has]
  · rw [List.getElem?_eq_none (by rw [isOf_len]; omega), List.getElem?_eq_none (by simp; omega)]
theorem wr0 : IntKind.i64.wrap 0 = 0 := wr (by omega)
def nextR (c : Cat) (out : List Int) : Option Nat := (List.range c.courses.length).find? (readyB c out)
def listGo (c : Cat) : Nat → List Int → List Int
  | 0, out => out
  | k + 1, out => match nextR c out with
    | some i => listGo c k (out ++ [(i : Int)])
    | none => out
def listOf (c : Cat) : List Int := listGo c c.courses.length []
theorem nodup_le : ∀ (n : Nat) (l : List Int), l.Nodup → (∀ x ∈ l, ∃ k : Nat, x = (k : Int) ∧ k < n) → l.length ≤ n
  | 0, l, _, h => by
    cases l with
    | nil => simp
    | cons x r => obtain ⟨k, _, hk⟩ := h x (by simp); omega
  | n + 1, l, hn, h => by
    have h1 := nodup_le n (l.erase (n : Int)) (hn.erase _) (fun x hx => by
      obtain ⟨hne, hm⟩ := (List.Nodup.mem_erase_iff hn).1 hx
      obtain ⟨k, hk, hlt⟩ := h x hm
      refine ⟨k, hk, ?_⟩
      have : k ≠ n := fun e => hne (by rw [hk, e])
      omega)
    have := List.length_erase_le (a := (n : Int)) (l := l)
    by_cases hm : (n : Int) ∈ l
    · rw [List.length_erase_of_mem hm] at h1
      omega
    · rw [List.erase_of_not_mem hm] at h1
      omega
theorem has_mem {l : List Int} {n : Int} : has l n = true ↔ n ∈ l := by simp [has]
/-- On the way. -/
structure ListI (c : Cat) (out : List Int) (i : Nat) : Prop where
  le : i ≤ c.courses.length
  nodup : out.Nodup
  range : ∀ x ∈ out, ∃ k : Nat, x = (k : Int) ∧ k < c.courses.length
  go : listOf c = listGo c (c.courses.length - out.length) out
  off : ∀ k, k < i → readyB c out k = false
theorem ListI.start (c : Cat) : ListI c [] 0 := ⟨Nat.zero_le _, List.nodup_nil, fun x h => by simp at h, rfl, fun k h => by omega⟩
theorem find_range {p : Nat → Bool} {n i : Nat} (hi : i < n) (hp : p i = true) (h : ∀ k, k < i → p k = false) : (List.range n).find? p = some i := by
  rw [List.find?_range_eq_some]
  exact ⟨hp, by simpa using hi, fun j hj => by rw [h j hj]; rfl⟩
theorem ListI.lt {c : Cat} {out : List Int} {i : Nat} (h : ListI c out i) (hi : i < c.courses.length) (hr : readyB c out i = true) : out.length < c.courses.length := by
  have hni : (i : Int) ∉ out := fun hm => by
    unfold readyB at hr
    rw [has_mem.2 hm] at hr
    simp at hr
  have := nodup_le c.courses.length ((i : Int) :: out) (List.nodup_cons.2 ⟨hni, h.nodup⟩) (fun x hx => by
    rcases List.mem_cons.1 hx with rfl | hx
    · exact ⟨i, rfl, hi⟩
    · exact h.range x hx)
  simp at this
  omega
theorem ListI.yes {c : Cat} {out : List Int} {i : Nat} (h : ListI c out i) (hi : i < c.courses.length) (hr : readyB c out i = true) : ListI c (out ++ [(i : Int)]) 0 := by
  have hlt := h.lt hi hr
  have hni : (i : Int) ∉ out := fun hm => by
    unfold readyB at hr
    rw [has_mem.2 hm] at hr
    simp at hr
  refine ⟨Nat.zero_le _, ?_, fun x hx => ?_, ?_, fun k hk => by omega⟩
  · rw [List.nodup_append]
    exact ⟨h.nodup, by simp, fun a ha b hb => by simp at hb; subst hb; exact fun e => hni (e ▸ ha)⟩
  · rcases List.mem_append.1 hx with hx | hx
    · exact h.range x hx
    · simp at hx; exact ⟨i, hx, hi⟩
  · rw [h.go, show c.courses.length - out.length = (c.courses.length - (out ++ [(i : Int)]).length) + 1 by simp; omega]
    simp only [listGo, nextR]
    rw [find_range hi hr h.off]
theorem ListI.no {c : Cat} {out : List Int} {i : Nat} (h : ListI c out i) (hi : i < c.courses.length) (hr : readyB c out i = false) : ListI c out (i + 1) :=
  ⟨hi, h.nodup, h.range, h.go, fun k hk => by
    rcases Nat.lt_or_ge k i with h1 | h1
    · exact h.off k h1
    · rw [show k = i by omega]; exact hr⟩
theorem ListI.done {c : Cat} {out : List Int} (h : ListI c out c.courses.length) : listOf c = out := by
  rw [h.go]
  cases c.courses.length - out.length with
  | zero => rfl
  | succ k =>
    simp only [listGo]
    have : nextR c out = none := by
      simp only [nextR, List.find?_eq_none, List.mem_range, Bool.not_eq_true]
      exact h.off
    rw [this]
def muL (c : Cat) (z : List Int × Nat) : Nat := (c.courses.length - z.1.length) * (c.courses.length + 1) + (c.courses.length - z.2)
theorem muL_no {c : Cat} {out : List Int} {i : Nat} (hi : i < c.courses.length) : muL c (out, i + 1) < muL c (out, i) := by simp only [muL]; omega
theorem muL_yes {c : Cat} {out : List Int} {i : Nat} (hi : i < c.courses.length) (hl : out.length < c.courses.length) : muL c (out ++ [(i : Int)], 0) < muL c (out, i) := by
  simp only [muL, List.length_append, List.length_cons, List.length_nil]
  have : c.courses.length - out.length = (c.courses.length - (out.length + (0 + 1))) + 1 := by omega
  rw [this, Nat.add_mul]
  omega
attribute [simp] roundKB kids_len
end Go.Proofs.Ytbkkekbeaabokaa
