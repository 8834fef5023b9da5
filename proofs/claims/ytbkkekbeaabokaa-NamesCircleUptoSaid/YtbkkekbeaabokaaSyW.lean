/- Sy, part W: one cell of a variable of one's own is given up. -/
import Derived.Test.YtbkkekbeaabokaaSyV
set_option linter.unusedVariables false
set_option linter.unusedSimpArgs false
namespace Go.Proofs.Ytbkkekbeaabokaa.Sx
open Go Go.RowKit

variable {P : Program} {β : Bs} {G : Nat → Prop} {w w' : World} {ι ι' : Nat → Loc} {s s' : S} {a : Act} {N : Nat}

/-- A cell of a variable is given up: it is data now. -/
theorem Ent.giveV {b k m : Nat} {cs : List D} {d : D} {e : Dat} {hp' : List (Nat × HO)} (hb : lk b s.hp = some (.var cs)) (hk : cs[k]? = some d) (hg : Sx.give m d s.hp = some (e, hp')) (hb' : lk b hp' = some (.var cs)) : Ent s { s with hp := up b (.var (cs.set k (.dat e))) hp' } := by
  refine ⟨rfl, fun β ι a w N h => ?_⟩
  cases h.heap b _ hb with
  | var _ B C t hι hC hl h1 hU =>
    obtain ⟨ι', hle, hR, hD⟩ := h.give (hU k d hk) hg
    refine ⟨ι', hR.reHp hb' ?_⟩
    cases hR.heap b _ hb' with
    | var _ B' C' t' hι' hC' hl' h1' hU' =>
      have hB : B' = B := by
        rcases hle.loc b with e1 | e1
        · rw [e1] at hι'; cases hι'
        · rw [e1, hι] at hι'; injection hι' with hι'; exact hι'.symm
      subst hB
      have hCC : C' = C := by
        have := hC'.symm.trans hC
        injection this with this
        injection this
      subst hCC
      refine .var _ B' C' t' hι' hC' (by simpa using hl') h1' (fun j x hj => ?_)
      rw [List.getElem?_set] at hj
      by_cases e1 : k = j
      · subst e1
        have hlt : k < cs.length := (List.getElem?_eq_some_iff.1 hk).1
        rw [if_pos rfl, if_pos hlt] at hj
        injection hj with hj
        subst hj
        exact .dat hD
      · rw [if_neg e1] at hj
        exact hU' j x hj
end Go.Proofs.Ytbkkekbeaabokaa.Sx
