/- The terms, part d: the plain law of sets of terms; no program in sight. -/
import Derived.Test.YtehboominkoldaaTc
set_option linter.unusedVariables false
set_option linter.unusedSimpArgs false
namespace Go.Proofs.Ytehboominkoldaa
open Go Go.Proofs.Ytehboominkoldaa.Sx

/-! ### The different numbers of a list, in order -/
theorem compact_inv (d : Array Int) (hs : ∀ j, j + 1 < d.size → d[j]! ≤ d[j + 1]!) : ∀ m, m ≤ d.size →
    (Lib.compactUpTo d m).Pairwise (· < ·) ∧ (∀ x, x ∈ Lib.compactUpTo d m ↔ ∃ j, j < m ∧ d[j]! = x) ∧ (∀ x ∈ Lib.compactUpTo d m, x ≤ d[m - 1]!)
  | 0, _ => by simp [Lib.compactUpTo]
  | m + 1, hm => by
    obtain ⟨h1, h2, h3⟩ := compact_inv d hs m (by omega)
    rw [Lib.compactUpTo_succ]
    by_cases hk : Lib.keeps d m = true
    · simp only [hk, if_true]
      have hlt : ∀ x ∈ Lib.compactUpTo d m, x < d[m]! := by
        intro x hx
        by_cases h0 : m = 0
        · subst h0; simp [Lib.compactUpTo] at hx
        · simp only [Lib.keeps, decide_eq_true_eq] at hk
          have := hk.resolve_left h0
          have h4 := h3 x hx
          have h5 := hs (m - 1) (by omega)
          rw [show m - 1 + 1 = m by omega] at h5
          omega
      refine ⟨List.pairwise_append.2 ⟨h1, by simp, fun x hx y hy => by simp at hy; subst hy; exact hlt x hx⟩, fun x => ?_, fun x hx => ?_⟩
      · rw [List.mem_append, h2]
        constructor
        · rintro (⟨j, hj, e⟩ | h)
          · exact ⟨j, by omega, e⟩
          · simp at h; exact ⟨m, by omega, h.symm⟩
        · rintro ⟨j, hj, e⟩
          by_cases e' : j = m
          · subst e'; right; simp [e]
          · exact .inl ⟨j, by omega, e⟩
      · simp only [Nat.add_sub_cancel]
        rcases List.mem_append.1 hx with hx | hx
        · exact Int.le_of_lt (hlt x hx)
        · simp at hx; subst hx; exact Int.le_refl _
    · have hk' : m ≠ 0 ∧ d[m]! = d[m - 1]! := by
        simp only [Lib.keeps, decide_eq_true_eq, not_or, Classical.not_not] at hk
        exact hk
      rw [if_neg hk, List.append_nil]
      refine ⟨h1, fun x => ?_, fun x hx => ?_⟩
      · rw [h2]
        constructor
        · rintro ⟨j, hj, e⟩; exact ⟨j, by omega, e⟩
        · rintro ⟨j, hj, e⟩
          by_cases e' : j = m
          · subst e'; exact ⟨j - 1, by omega, by rw [← hk'.2]; exact e⟩
          · exact ⟨j, by omega, e⟩
      · simp only [Nat.add_sub_cancel]
        rw [hk'.2]
        exact h3 x hx
theorem uniq_props (l : List Int) : (uniq l).Pairwise (· < ·) ∧ ∀ x, x ∈ uniq l ↔ x ∈ l := by
  obtain ⟨s, hs⟩ : ∃ s, s = l.mergeSort fun x y => decide (x ≤ y) := ⟨_, rfl⟩
  have hp : s.Pairwise (fun x y => x ≤ y) := by
    have := List.pairwise_mergeSort (le := fun x y : Int => decide (x ≤ y)) (fun a b c h1 h2 => by simp at *; omega) (fun a b => by simp; omega) l
    rw [← hs] at this
    exact this.imp fun h => by simpa using h
  have hm : ∀ x, x ∈ s ↔ x ∈ l := fun x => by rw [hs]; exact List.mem_mergeSort
  have hj : ∀ j, j + 1 < s.toArray.size → s.toArray[j]! ≤ s.toArray[j + 1]! := by
    intro j hj
    have hj' : j + 1 < s.length := by simpa using hj
    have := List.pairwise_iff_getElem.1 hp j (j + 1) (by omega) hj' (by omega)
    simpa [getElem!_pos, hj', show j < s.length by omega] using this
  obtain ⟨h1, h2, _⟩ := compact_inv s.toArray hj s.length (by simp)
  have hu : uniq l = Lib.compactUpTo s.toArray s.length := by rw [hs]; rfl
  rw [hu]
  refine ⟨h1, fun x => ?_⟩
  rw [h2, ← hm, List.mem_iff_getElem]
  constructor
  · rintro ⟨j, hj, e⟩
    exact ⟨j, hj, by simpa [getElem!_pos, hj] using e⟩
  · rintro ⟨j, hj, e⟩
    exact ⟨j, hj, by simpa [getElem!_pos, hj] using e⟩

/-! ### Valid lists -/
abbrev mem (l : List Sp) (t : Int) : Bool := l.any (inSp t)
theorem inSp_iff {t : Int} {p : Sp} : inSp t p = true ↔ p.1 ≤ t ∧ t < p.2 := by simp [inSp]
theorem chk_cons {last : Int} {p : Sp} {r : List Sp} : chk last (p :: r) = true ↔ (last < p.1 ∧ 0 ≤ p.1 ∧ p.1 < p.2 ∧ p.2 ≤ 1024) ∧ chk p.2 r = true := by
  simp only [chk, badSp, Bool.and_eq_true, Bool.not_eq_true', Bool.or_eq_false_iff, decide_eq_false_iff_not]
  constructor
  · rintro ⟨⟨⟨⟨h1, h2⟩, h3⟩, h4⟩, h5⟩; exact ⟨by omega, h5⟩
  · rintro ⟨h, h5⟩; exact ⟨by omega, h5⟩
theorem mem_cons {p : Sp} {r : List Sp} {t : Int} : mem (p :: r) t = true ↔ (p.1 ≤ t ∧ t < p.2) ∨ mem r t = true := by
  simp [mem, inSp]
theorem chk_mem : ∀ {l : List Sp} {last t : Int}, chk last l = true → mem l t = true → last < t ∧ 0 ≤ t ∧ t < 1024
  | [], _, _, _, h => by simp [mem] at h
  | p :: r, last, t, hc, hm => by
    obtain ⟨h1, h2⟩ := chk_cons.1 hc
    rcases mem_cons.1 hm with h | h
    · omega
    · have := chk_mem h2 h; omega
theorem chk_unique : ∀ {l m : List Sp} {last : Int}, chk last l = true → chk last m = true → (∀ t, mem l t = mem m t) → l = m
  | [], [], _, _, _, _ => rfl
  | [], p :: r, last, _, hm, h => by
    obtain ⟨h1, _⟩ := chk_cons.1 hm
    have := h p.1
    rw [(mem_cons (t := p.1)).2 (.inl (by omega))] at this
    simp [mem] at this
  | p :: r, [], last, hl, _, h => by
    obtain ⟨h1, _⟩ := chk_cons.1 hl
    have := h p.1
    rw [(mem_cons (t := p.1)).2 (.inl (by omega))] at this
    simp [mem] at this
  | p :: r, p' :: r', last, hl, hm, h => by
    obtain ⟨h1, h2⟩ := chk_cons.1 hl
    obtain ⟨g1, g2⟩ := chk_cons.1 hm
    have low : ∀ {p : Sp} {r : List Sp} {t : Int}, p.1 < p.2 → chk p.2 r = true → mem (p :: r) t = true → p.1 ≤ t := by
      intro p r t hp hc ht
      rcases mem_cons.1 ht with e | e
      · exact e.1
      · have := chk_mem hc e; omega
    have e1 : p.1 = p'.1 := by
      have a1 := low (by omega) g2 ((h p.1).symm.trans (mem_cons.2 (.inl (by omega))))
      have a2 := low (by omega) h2 ((h p'.1).trans (mem_cons.2 (.inl (by omega))))
      omega
    have out : ∀ {p : Sp} {r : List Sp}, chk p.2 r = true → mem (p :: r) p.2 = false := by
      intro p r hc
      cases hx : mem (p :: r) p.2 with
      | false => rfl
      | true =>
        rcases mem_cons.1 hx with e | e
        · omega
        · have := chk_mem hc e; omega
    have e2 : p.2 = p'.2 := by
      rcases Int.lt_trichotomy p.2 p'.2 with e | e | e
      · have := h p.2
        rw [out h2, (mem_cons (t := p.2)).2 (.inl (by omega))] at this
        cases this
      · exact e
      · have := h p'.2
        rw [out g2, (mem_cons (t := p'.2)).2 (.inl (by omega))] at this
        cases this
    have e3 : p = p' := Prod.ext e1 e2
    subst e3
    have : r = r' := chk_unique h2 g2 fun t => by
      have ht := h t
      by_cases hin : p.2 < t
      · have k1 : ∀ q : List Sp, mem (p :: q) t = mem q t := by
          intro q
          rw [Bool.eq_iff_iff, mem_cons]
          constructor
          · rintro (e | e)
            · omega
            · exact e
          · exact .inr
        rw [← k1 r, ← k1 r']
        exact ht
      · have k2 : ∀ q : List Sp, chk p.2 q = true → mem q t = false := by
          intro q hq
          cases hx : mem q t with
          | false => rfl
          | true => exact absurd (chk_mem hq hx).1 hin
        rw [k2 r h2, k2 r' g2]
    rw [this]

/-! ### A span more -/
def lastEnd (last : Int) : List Sp → Int
  | [] => last
  | p :: r => lastEnd p.2 r
theorem chk_snoc : ∀ {l : List Sp} {last : Int} {p : Sp}, chk last (l ++ [p]) = true ↔ chk last l = true ∧ lastEnd last l < p.1 ∧ 0 ≤ p.1 ∧ p.1 < p.2 ∧ p.2 ≤ 1024
  | [], last, p => by rw [List.nil_append, chk_cons]; simp [chk, lastEnd]
  | q :: r, last, p => by
    rw [List.cons_append, chk_cons, chk_cons, chk_snoc]
    simp only [lastEnd]
    constructor
    · rintro ⟨h1, h2, h3⟩; exact ⟨⟨h1, h2⟩, h3⟩
    · rintro ⟨⟨h1, h2⟩, h3⟩; exact ⟨h1, h2, h3⟩
theorem lastEnd_snoc : ∀ (l : List Sp) (last : Int) (p : Sp), lastEnd last (l ++ [p]) = p.2
  | [], _, _ => rfl
  | q :: r, last, p => by simp only [List.cons_append, lastEnd]; exact lastEnd_snoc r q.2 p
theorem mem_snoc {l : List Sp} {p : Sp} {t : Int} : mem (l ++ [p]) t = true ↔ mem l t = true ∨ (p.1 ≤ t ∧ t < p.2) := by
  simp [mem, inSp]
theorem ext_nil (f t : Int) : ext [] f t = [(f, t)] := rfl
theorem ext_snoc (l : List Sp) (p : Sp) (f t : Int) : ext (l ++ [p]) f t = if p.2 = f then l ++ [(p.1, t)] else l ++ [p] ++ [(f, t)] := by
  unfold ext
  have h1 : (l ++ [p])[(l ++ [p]).length - 1]? = some p := by simp
  rw [h1]
  simp only
  split
  · simp [List.set_append]
  · rfl
theorem snoc_cases (l : List Sp) : l = [] ∨ ∃ r p, l = r ++ [p] := by
  rcases List.eq_nil_or_concat l with h | ⟨r, p, h⟩
  · exact .inl h
  · exact .inr ⟨r, p, by simpa using h⟩
/-- What a span more does: the list stays valid, and holds just its terms more. -/
theorem ext_law {acc : List Sp} {f t : Int} (hc : chk (-1) acc = true) (hl : lastEnd (-1) acc ≤ f) (h0 : 0 ≤ f) (hft : f < t) (ht : t ≤ 1024) :
    chk (-1) (ext acc f t) = true ∧ lastEnd (-1) (ext acc f t) = t ∧ ∀ x, mem (ext acc f t) x = true ↔ mem acc x = true ∨ (f ≤ x ∧ x < t) := by
  rcases snoc_cases acc with rfl | ⟨r, p, rfl⟩
  · rw [ext_nil]
    refine ⟨chk_cons.2 ⟨by simp; omega, rfl⟩, rfl, fun x => ?_⟩
    rw [mem_cons]
    simp [mem]
  · obtain ⟨c1, c2⟩ := chk_snoc.1 hc
    rw [lastEnd_snoc] at hl
    rw [ext_snoc]
    split
    · rename_i e
      refine ⟨chk_snoc.2 ⟨c1, by simp; omega⟩, lastEnd_snoc _ _ _, fun x => ?_⟩
      rw [mem_snoc, mem_snoc]
      simp only
      constructor
      · rintro (h | h)
        · exact .inl (.inl h)
        · by_cases hx : x < f
          · exact .inl (.inr (by omega))
          · exact .inr (by omega)
      · rintro ((h | h) | h)
        · exact .inl h
        · exact .inr (by omega)
        · exact .inr (by omega)
    · rename_i e
      refine ⟨chk_snoc.2 ⟨hc, by rw [lastEnd_snoc]; simp; omega⟩, lastEnd_snoc _ _ _, fun x => ?_⟩
      rw [mem_snoc]
end Go.Proofs.Ytehboominkoldaa
