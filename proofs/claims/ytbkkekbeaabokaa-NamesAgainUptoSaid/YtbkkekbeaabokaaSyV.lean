/- Sy, part V: cells of a variable of one's own, seen in another way: nil as a row of one's own, data as other data. -/
import Derived.Test.YtbkkekbeaabokaaSyU
set_option linter.unusedVariables false
set_option linter.unusedSimpArgs false
namespace Go.Proofs.Ytbkkekbeaabokaa.Sx
open Go Go.RowKit

variable {P : Program} {β : Bs} {G : Nat → Prop} {w w' : World} {ι ι' : Nat → Loc} {s s' : S} {a : Act} {N : Nat}

/-- A nil slice in a variable, seen as a row of one's own. -/
theorem Ent.nilC {b k : Nat} {cs : List D} (ty : TypeId) (n : Nat) (hb : lk b s.hp = some (.var cs)) (hk : cs[k]? = some (.dat (.val (.slice none 0 0)))) :
    Ent s { s with hp := up b (.var (cs.set k (.own s.nx n 0))) ((s.nx, .row ty n []) :: s.hp), nx := s.nx + 1 } := by
  refine ⟨rfl, fun β ι a w N h => ?_⟩
  have hne : b ≠ s.nx := fun e => by have := h.fresh b (by omega); rw [this] at hb; cases hb
  have hR := h.newNil ty n
  have hb' : lk b ((s.nx, HO.row ty n []) :: s.hp) = some (.var cs) := by simp only [lk]; rw [if_neg hne]; exact hb
  refine ⟨_, hR.reHp hb' ?_⟩
  cases hR.heap b _ hb' with
  | var _ B C t hι hC hl h1 hU =>
    refine .var _ B C t hι hC (by simpa using hl) h1 (fun j d hj => ?_)
    rw [List.getElem?_set] at hj
    by_cases e : k = j
    · subst e
      have hlt : k < cs.length := (List.getElem?_eq_some_iff.1 hk).1
      rw [if_pos rfl, if_pos hlt] at hj
      injection hj with hj
      subst hj
      rw [val_eq (hU k _ hk)]
      exact .own_nil _ _ (Nat.lt_succ_self _) (by simp [name])
    · rw [if_neg e] at hj
      exact hU j d hj
/-- Data in a variable, seen as other data. -/
theorem Ent.datC {b k : Nat} {cs : List D} {d d' : Dat} (hb : lk b s.hp = some (.var cs)) (hk : cs[k]? = some (.dat d)) (hi : DatImp d d') : Ent s { s with hp := up b (.var (cs.set k (.dat d'))) s.hp } := by
  refine ⟨rfl, fun β ι a w N h => ⟨ι, h.reHp hb ?_⟩⟩
  cases h.heap b _ hb with
  | var _ B C t hι hC hl h1 hU =>
    refine .var _ B C t hι hC (by simpa using hl) h1 (fun j e hj => ?_)
    rw [List.getElem?_set] at hj
    by_cases e1 : k = j
    · subst e1
      have hlt : k < cs.length := (List.getElem?_eq_some_iff.1 hk).1
      rw [if_pos rfl, if_pos hlt] at hj
      injection hj with hj
      subst hj
      have := hU k _ hk
      cases this with
      | dat h => exact .dat (hi _ _ _ h)
    · rw [if_neg e1] at hj
      exact hU j e hj
theorem DatImps.at_ {l l' : List Dat} (h : DatImps l l') {j : Nat} {d d' : Dat} (h1 : l[j]? = some d) (h2 : l'[j]? = some d') : DatImp d d' := by
  obtain ⟨d1, h3, h4⟩ := h.get.2 j d' h2
  rw [h1] at h3
  injection h3 with h3
  rw [h3]
  exact h4
/-- Rows of data. -/
theorem DatImp.sl {n : Nat} {es es' : List (List Dat)} (hl : es'.length = es.length) (h : ∀ (i : Nat) (cs cs' : List Dat), es[i]? = some cs → es'[i]? = some cs' → DatImps cs cs') : DatImp (.sl n es) (.sl n es') := by
  intro ok w v hv
  have get : ∀ (i : Nat) (cs' : List Dat), es'[i]? = some cs' → ∃ cs, es[i]? = some cs ∧ DatImps cs cs' := fun i cs' hi => by
    have hlt := (List.getElem?_eq_some_iff.1 hi).1
    rw [hl] at hlt
    exact ⟨es[i], List.getElem?_eq_getElem hlt, h i _ _ (List.getElem?_eq_getElem hlt) hi⟩
  cases hv with
  | slnil _ A c =>
    have : es' = [] := by cases es' with | nil => rfl | cons => simp at hl
    subst this
    exact .slnil n A c
  | sl _ _ B o c U hlen hc hm hok hcell hU =>
    have := DatR.sl (ok := ok) (w := w) n es' B o c U (fun cs' hcs' => ?_) (by omega) (by omega) hok (fun i cs' hi j d' hj => ?_) (fun i cs' hi j d' hj => ?_)
    · rwa [hl] at this
    · obtain ⟨i, hi⟩ := List.mem_iff_getElem?.1 hcs'
      obtain ⟨cs, h1, h2⟩ := get i cs' hi
      rw [h2.get.1]
      exact hlen cs (List.mem_of_getElem? h1)
    · obtain ⟨cs, h1, h2⟩ := get i cs' hi
      obtain ⟨d, h3, _⟩ := h2.get.2 j d' hj
      exact hcell i cs h1 j d h3
    · obtain ⟨cs, h1, h2⟩ := get i cs' hi
      obtain ⟨d, h3, h4⟩ := h2.get.2 j d' hj
      exact h4 _ _ _ (hU i cs h1 j d h3)
/-- A contract for arguments that say more. -/
theorem Does.imp {g : FuncId} {args args' : List Dat} {d : D} {h : List HO} (hi : DatImps args args') (hf : Does P g args' d h) : Does P g args d h :=
  ⟨hf.body, fun ok w vs hok hl hU => hf.calls ok w vs hok (by rw [hl, hi.get.1]) (fun j e hj => by
    obtain ⟨d0, h3, h4⟩ := hi.get.2 j e hj
    exact h4 _ _ _ (hU j d0 h3))⟩
theorem DoesP.imp {g : FuncId} {args args' : List Dat} {v : Value} (hi : DatImps args args') (hf : DoesP P g args' v) : DoesP P g args v :=
  ⟨hf.body, fun ok w vs hok hl hU => hf.calls ok w vs hok (by rw [hl, hi.get.1]) (fun j e hj => by
    obtain ⟨d0, h3, h4⟩ := hi.get.2 j e hj
    exact h4 _ _ _ (hU j d0 h3))⟩
/-- Names in a row of data but for one. -/
theorem mpL_dat (ρ : Nat → Option Nat) : ∀ l : List Dat, mpL ρ (l.map .dat) = some (l.map .dat)
  | [] => rfl
  | d :: r => by simp [mpL, mp, mpL_dat ρ r]
theorem mpLL_dat (ρ : Nat → Option Nat) : ∀ es : List (List Dat), mpLL ρ (es.map (fun x => x.map D.dat)) = some (es.map (fun x => x.map D.dat))
  | [] => rfl
  | l :: r => by simp [mpLL, mpL_dat, mpLL_dat ρ r]
theorem mpLL_set {ρ : Nat → Option Nat} : ∀ {es : List (List Dat)} {v : Nat}, v < es.length → ∀ cs : List D, mpLL ρ ((es.map (fun x => x.map D.dat)).set v cs) = (mpL ρ cs).map fun k => (es.map (fun x => x.map D.dat)).set v k
  | [], v, h, cs => by simp at h
  | l :: r, 0, h, cs => by
    simp only [List.map_cons, List.set_cons_zero, mpLL, mpLL_dat]
    cases mpL ρ cs <;> rfl
  | l :: r, v + 1, h, cs => by
    simp only [List.map_cons, List.set_cons_succ, mpLL, mpL_dat, mpLL_set (v := v) (by simpa using h) cs]
    cases mpL ρ cs <;> rfl
end Go.Proofs.Ytbkkekbeaabokaa.Sx
