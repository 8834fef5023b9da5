/- The names: what Resolve, Order and Cycle give is small. -/
import Derived.Test.YtbkkekbeaabokaaNp
set_option linter.unusedVariables false
set_option linter.unusedSimpArgs false
namespace Go.Proofs.Ytbkkekbeaabokaa
open Go Go.Proofs.Ytbkkekbeaabokaa.Sx

/-! ### What Resolve gives is small too -/
mutual
theorem parts_rule (c : Cat) : ∀ r : Rule, (partsOf (ruleR c r).1).length = (partsOf r).length
  | .mk a b d e f kids => by simp [ruleR, partsOf, parts_rules c kids]
theorem parts_rules (c : Cat) : ∀ l : List Rule, (partsL (rulesR c l).1).length = (partsL l).length
  | [] => rfl
  | r :: rs => by simp [rulesR, partsL, parts_rule c r, parts_rules c rs]
end
theorem numsR_le (c : Cat) : ∀ (ns : List ByteArray) (fs : List Int), (numsR c ns fs).1.length ≤ fs.length
  | [], fs => by simp [numsR]
  | a :: ns, [] => by simp [numsR]
  | a :: ns, b :: fs => by simpa [numsR] using numsR_le c ns fs
theorem fit_zero : zeroCat.fit := fit0
theorem fit_resR {c : Cat} (h : c.fit) : (resR c).fit := by
  refine ⟨by simpa [resR, mapX] using h.courses, fun y hy => ?_, by simpa [resR, mapX] using h.same, by simpa [resR, mapX] using h.progs, fun p hp => ?_, h.classes, h.fees, h.honours, h.clauses⟩
  · simp only [resR, mapX, List.mem_map] at hy
    obtain ⟨x, hx, rfl⟩ := hy
    simp only [courseX, parts_rule]
    exact h.need x hx
  · simp only [resR, mapX, List.mem_map] at hp
    obtain ⟨x, hx, rfl⟩ := hp
    refine ⟨by simpa [progX, mapX] using (h.reqs x hx).1, fun q hq => ?_⟩
    simp only [progX, mapX, List.mem_map] at hq
    obtain ⟨u, hu, rfl⟩ := hq
    have := (h.reqs x hx).2 u hu
    exact ⟨this.1, Nat.le_trans (numsR_le c _ _) this.2⟩
theorem fit_res {c : Cat} (h : c.fit) : (resolveOf c).1.fit := by
  unfold resolveOf
  split
  · exact fit_zero
  · split
    · exact fit_zero
    · split
      · exact fit_zero
      · split
        · exact fit_zero
        · exact fit_resR h
theorem wayGo_len (c : Cat) : ∀ (k : Nat) (way : List Int) (a : Int), (wayGo c k way a).1.length ≤ way.length + k
  | 0, way, a => Nat.le_refl _
  | k + 1, way, a => by
    simp only [wayGo]
    split
    · simp
    · have := wayGo_len c k (way ++ [a]) (stepC c a)
      simp at this
      omega
theorem cycOf_len (c : Cat) : (cycOf c).length ≤ c.courses.length + 1 := by
  unfold cycOf
  split
  · simp
  · have := wayGo_len c (c.courses.length + 1) [] (firstC c)
    simp only [List.length_map, List.length_drop, wayOf] at this ⊢
    simp at this
    omega
theorem orderOf_len (c : Cat) : (orderOf c).1.length ≤ c.courses.length := by
  unfold orderOf
  split
  · simp
  · simpa using listOf_len c
end Go.Proofs.Ytbkkekbeaabokaa
