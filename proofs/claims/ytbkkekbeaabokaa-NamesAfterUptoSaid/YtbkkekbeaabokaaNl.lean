/- The names: what Resolve gives. -/
import Derived.Test.YtbkkekbeaabokaaSyU
import Derived.Test.YtbkkekbeaabokaaNj
import Derived.Test.YtbkkekbeaabokaaNk
set_option linter.unusedVariables false
set_option linter.unusedSimpArgs false
namespace Go.Proofs.Ytbkkekbeaabokaa
open Go Go.Proofs.Ytbkkekbeaabokaa.Sx

/-- Each element turned, and whether all could be. -/
def mapX {α : Type} (f : α → α × Bool) (l : List α) : List α × Bool := (l.map fun x => (f x).1, l.all fun x => (f x).2)
theorem mapX_next {α : Type} {f : α → α × Bool} {l : List α} {z : Nat} {x : α} (h : l[z]? = some x) : mapX f (l.take (z + 1)) = ((mapX f (l.take z)).1 ++ [(f x).1], (mapX f (l.take z)).2 && (f x).2) := by
  simp [mapX, take_next h]
theorem mapX_len {α : Type} (f : α → α × Bool) (l : List α) : (mapX f l).1.length = l.length := by simp [mapX]
theorem mapX_nil {α : Type} (f : α → α × Bool) : mapX f [] = ([], true) := rfl
def courseX (c : Cat) (y : Course) : Course × Bool := ({ y with need := (ruleR c y.need).1, bar := (ruleR c y.bar).1 }, (ruleR c y.need).2 && (ruleR c y.bar).2)
def pairX (c : Cat) (p : Pair) : Pair × Bool := ({ p with x := (numberR c p.a p.x).1, y := (numberR c p.b p.y).1 }, (numberR c p.a p.x).2 && (numberR c p.b p.y).2)
def numsR (c : Cat) : List ByteArray → List Int → List Int × Bool
  | n :: ns, f :: fs => ((numberR c n f).1 :: (numsR c ns fs).1, (numberR c n f).2 && (numsR c ns fs).2)
  | _, _ => ([], true)
theorem numsR_snoc (c : Cat) : ∀ (ns : List ByteArray) (fs : List Int) (n : ByteArray) (f : Int), ns.length = fs.length → numsR c (ns ++ [n]) (fs ++ [f]) = ((numsR c ns fs).1 ++ [(numberR c n f).1], (numsR c ns fs).2 && (numberR c n f).2)
  | [], [], n, f, _ => by simp [numsR]
  | a :: ns, b :: fs, n, f, h => by simp [numsR, numsR_snoc c ns fs n f (by simpa using h), Bool.and_assoc]
  | [], _ :: _, _, _, h => by simp at h
  | _ :: _, [], _, _, h => by simp at h
theorem numsR_next {c : Cat} {ns : List ByteArray} {fs : List Int} {z : Nat} {n : ByteArray} {f : Int} (hn : ns[z]? = some n) (hf : fs[z]? = some f) : numsR c (ns.take (z + 1)) (fs.take (z + 1)) = ((numsR c (ns.take z) (fs.take z)).1 ++ [(numberR c n f).1], (numsR c (ns.take z) (fs.take z)).2 && (numberR c n f).2) := by
  have h1 := (List.getElem?_eq_some_iff.1 hn).1
  have h2 := (List.getElem?_eq_some_iff.1 hf).1
  rw [take_next hn, take_next hf, numsR_snoc c _ _ _ _ (by simp; omega)]
theorem numsR_len (c : Cat) : ∀ (ns : List ByteArray) (fs : List Int), ns.length = fs.length → (numsR c ns fs).1.length = fs.length
  | [], [], _ => rfl
  | a :: ns, b :: fs, h => by simp [numsR, numsR_len c ns fs (by simpa using h)]
  | [], _ :: _, h => by simp at h
  | _ :: _, [], h => by simp at h
def reqX (c : Cat) (q : Req) : Req × Bool := ({ q with frm := (numsR c q.names q.frm).1 }, (numsR c q.names q.frm).2)
def progX (c : Cat) (p : Prog) : Prog × Bool := ({ p with reqs := (mapX (reqX c) p.reqs).1 }, (mapX (reqX c) p.reqs).2)
def resR (c : Cat) : Cat := { c with courses := (mapX (courseX c) c.courses).1, same := (mapX (pairX c) c.same).1, progs := (mapX (progX c) c.progs).1 }
def goodB (c : Cat) : Bool := ((mapX (courseX c) c.courses).2 && (mapX (pairX c) c.same).2) && (mapX (progX c) c.progs).2
def argQ (q : Req) : Bool := !(q.names.length == q.frm.length)
def argP (p : Prog) : Bool := p.reqs.any argQ
def argB (c : Cat) : Bool := c.progs.any argP
def zeroCat : Cat := ⟨[], [], [], [], [], [], []⟩
def resolveOf (c : Cat) : Cat × Int := if argB c then (zeroCat, 1) else if twiceC c then (zeroCat, 111) else if !goodB c then (zeroCat, 110) else if (orderOf c).2 != 0 then (zeroCat, (orderOf c).2) else (resR c, 0)
theorem res_arg {c : Cat} (h : argB c = true) : resolveOf c = (zeroCat, 1) := by simp [resolveOf, h]
theorem res_twice {c : Cat} (h : argB c = false) (h2 : twiceC c = true) : resolveOf c = (zeroCat, 111) := by simp [resolveOf, h, h2]
theorem res_name {c : Cat} (h : argB c = false) (h2 : twiceC c = false) (h3 : goodB c = false) : resolveOf c = (zeroCat, 110) := by simp [resolveOf, h, h2, h3]
theorem res_order {c : Cat} (h : argB c = false) (h2 : twiceC c = false) (h3 : goodB c = true) (h4 : (orderOf c).2 ≠ 0) : resolveOf c = (zeroCat, (orderOf c).2) := by simp [resolveOf, h, h2, h3, h4]
theorem res_ok {c : Cat} (h : argB c = false) (h2 : twiceC c = false) (h3 : goodB c = true) (h4 : (orderOf c).2 = 0) : resolveOf c = (resR c, 0) := by simp [resolveOf, h, h2, h3, h4]
theorem arg_no {c : Cat} {p : Prog} {q : Req} {u v : Nat} (h : argB c = false) (hp : c.progs[u]? = some p) (hq : p.reqs[v]? = some q) : q.names.length = q.frm.length := by
  cases h1 : argQ q with
  | true => rw [show argB c = true from any_yes hp (any_yes hq h1)] at h; cases h
  | false => simpa [argQ] using h1
abbrev nilS : Dat := .val (.slice none 0 0)
theorem zeroImp (n : Int) : DatImp (.tup [.agg [nilS, nilS, nilS, nilS, nilS, nilS, nilS], iD n]) (.tup [.agg (catD zeroCat), iD n]) :=
  .tup (.cons (.agg (.cons (.nil 16) (.cons (.nil 4) (.cons (.nil 7) (.cons (.nil 4) (.cons (.nil 2) (.cons (.nil 4) (.cons (.nil 4) .nil)))))))) (.refl _))

end Go.Proofs.Ytbkkekbeaabokaa
