/- The terms, part e: the plain law, second half: the two ways to combine sets agree, and what their results hold. -/
import Derived.Test.YtehboominkoldaaTd
set_option linter.unusedVariables false
set_option linter.unusedSimpArgs false
namespace Go.Proofs.Ytehboominkoldaa
open Go Go.Proofs.Ytehboominkoldaa.Sx

theorem inc_get {u : List Int} (hu : u.Pairwise (· < ·)) {i j : Nat} {x y : Int} (hi : u[i]? = some x) (hj : u[j]? = some y) (h : i < j) : x < y := by
  obtain ⟨h1, rfl⟩ := List.getElem?_eq_some_iff.1 hi
  obtain ⟨h2, rfl⟩ := List.getElem?_eq_some_iff.1 hj
  exact List.pairwise_iff_getElem.1 hu i j h1 h2 h
theorem comb_law {u : List Int} (hu : u.Pairwise (· < ·)) (hr : ∀ x ∈ u, 0 ≤ x ∧ x ≤ 1024) (q : Int → Bool) : ∀ i, i < u.length → chk (-1) (comb u q i) = true ∧ (∀ f, u[i]? = some f → lastEnd (-1) (comb u q i) ≤ f) ∧
    ∀ x, mem (comb u q i) x = true ↔ ∃ j f t, j < i ∧ u[j]? = some f ∧ u[j + 1]? = some t ∧ q f = true ∧ f ≤ x ∧ x < t
  | 0, h => by
    refine ⟨rfl, fun f hf => ?_, fun x => ?_⟩
    · have := hr f (List.mem_of_getElem? hf); simp [comb, lastEnd]; omega
    · simp [comb, mem]
  | i + 1, h => by
    obtain ⟨c1, c2, c3⟩ := comb_law hu hr q i (by omega)
    obtain ⟨f, hf⟩ : ∃ f, u[i]? = some f := ⟨_, List.getElem?_eq_getElem (by omega)⟩
    obtain ⟨t, ht⟩ : ∃ t, u[i + 1]? = some t := ⟨_, List.getElem?_eq_getElem h⟩
    have hft := inc_get hu hf ht (by omega)
    have hf0 := hr f (List.mem_of_getElem? hf)
    have ht0 := hr t (List.mem_of_getElem? ht)
    rw [comb_step hf ht]
    by_cases hq : q f = true
    · rw [if_pos hq]
      obtain ⟨e1, e2, e3⟩ := ext_law c1 (c2 f hf) hf0.1 hft ht0.2
      refine ⟨e1, fun f' hf' => ?_, fun x => ?_⟩
      · rw [ht] at hf'; injection hf' with hf'; rw [e2, hf']; exact Int.le_refl _
      · rw [e3, c3]
        constructor
        · rintro (⟨j, f1, t1, hj, h1, h2, h3⟩ | hx)
          · exact ⟨j, f1, t1, by omega, h1, h2, h3⟩
          · exact ⟨i, f, t, by omega, hf, ht, hq, hx⟩
        · rintro ⟨j, f1, t1, hj, h1, h2, h3, h4⟩
          by_cases e : j = i
          · subst e
            rw [hf] at h1; injection h1 with h1; subst h1
            rw [ht] at h2; injection h2 with h2; subst h2
            exact .inr h4
          · exact .inl ⟨j, f1, t1, by omega, h1, h2, h3, h4⟩
    · rw [if_neg hq]
      refine ⟨c1, fun f' hf' => ?_, fun x => ?_⟩
      · rw [ht] at hf'; injection hf' with hf'; have := c2 f hf; omega
      · rw [c3]
        constructor
        · rintro ⟨j, f1, t1, hj, h1, h2, h3⟩
          exact ⟨j, f1, t1, by omega, h1, h2, h3⟩
        · rintro ⟨j, f1, t1, hj, h1, h2, h3, h4⟩
          by_cases e : j = i
          · subst e
            rw [hf] at h1; injection h1 with h1; subst h1
            exact absurd h3 hq
          · exact ⟨j, f1, t1, by omega, h1, h2, h3, h4⟩
theorem bnd_mem {l : List Sp} {x : Int} : x ∈ bnd l ↔ ∃ p ∈ l, x = p.1 ∨ x = p.2 := by
  induction l with
  | nil => simp [bnd]
  | cons p r ih =>
    simp only [bnd, List.mem_cons, ih]
    constructor
    · rintro (h | h | ⟨q, hq, h⟩)
      · exact ⟨p, .inl rfl, .inl h⟩
      · exact ⟨p, .inl rfl, .inr h⟩
      · exact ⟨q, .inr hq, h⟩
    · rintro ⟨q, rfl | hq, h⟩
      · rcases h with h | h
        · exact .inl h
        · exact .inr (.inl h)
      · exact .inr (.inr ⟨q, hq, h⟩)
theorem chk_range : ∀ {l : List Sp} {last : Int}, chk last l = true → ∀ p ∈ l, 0 ≤ p.1 ∧ p.1 < p.2 ∧ p.2 ≤ 1024
  | [], _, _, p, hp => by cases hp
  | q :: r, last, h, p, hp => by
    obtain ⟨h1, h2⟩ := chk_cons.1 h
    rcases List.mem_cons.1 hp with rfl | hp
    · omega
    · exact chk_range h2 p hp
/-- Between two boundaries nothing changes. -/
theorem mem_same {l : List Sp} {f x : Int} (hfx : f ≤ x) (h : ∀ y ∈ bnd l, ¬ (f < y ∧ y ≤ x)) : mem l f = mem l x := by
  have : ∀ p ∈ l, inSp f p = inSp x p := by
    intro p hp
    have h1 := h p.1 (bnd_mem.2 ⟨p, hp, .inl rfl⟩)
    have h2 := h p.2 (bnd_mem.2 ⟨p, hp, .inr rfl⟩)
    rw [Bool.eq_iff_iff, inSp_iff, inSp_iff]
    omega
  simp only [mem]
  rw [Bool.eq_iff_iff, List.any_eq_true, List.any_eq_true]
  constructor
  · rintro ⟨p, hp, e⟩; exact ⟨p, hp, by rw [← this p hp]; exact e⟩
  · rintro ⟨p, hp, e⟩; exact ⟨p, hp, by rw [this p hp]; exact e⟩
theorem between {u : List Int} : ∀ (d i : Nat) (lo hi x : Int), u[i]? = some lo → u[i + d]? = some hi → lo ≤ x → x < hi → ∃ j f t, u[j]? = some f ∧ u[j + 1]? = some t ∧ f ≤ x ∧ x < t
  | 0, i, lo, hi, x, h1, h2, h3, h4 => by
    rw [Nat.add_zero, h1] at h2; injection h2 with h2; omega
  | d + 1, i, lo, hi, x, h1, h2, h3, h4 => by
    have hl : i + 1 < u.length := by have := (List.getElem?_eq_some_iff.1 h2).1; omega
    obtain ⟨m, hm⟩ : ∃ m, u[i + 1]? = some m := ⟨_, List.getElem?_eq_getElem hl⟩
    by_cases hx : x < m
    · exact ⟨i, lo, m, h1, hm, h3, hx⟩
    · exact between d (i + 1) m hi x hm (by rw [show i + 1 + d = i + (d + 1) by omega]; exact h2) (by omega) h4
theorem cat_two (a b : List Int) : ∀ x, x ∈ cat [a, b] ↔ x ∈ a ∨ x ∈ b := by simp [cat]

/-- The combined set is valid, and its terms are those that k selects. -/
theorem combOf_law {k : Bool → Bool → Bool} (hk : k false false = false) {a b : List Sp} (ha : chk (-1) a = true) (hb : chk (-1) b = true) :
    chk (-1) (combOf k a b) = true ∧ ∀ x, mem (combOf k a b) x = k (mem a x) (mem b x) := by
  obtain ⟨hu, hm⟩ := uniq_props (cat [bnd a, bnd b])
  have hres : combOf k a b = comb (uniq (cat [bnd a, bnd b])) (fun t => k (a.any (inSp t)) (b.any (inSp t))) ((uniq (cat [bnd a, bnd b])).length - 1) := by simp [combOf, ha, hb]
  rw [hres]
  generalize uniq (cat [bnd a, bnd b]) = u at hu hm
  have hin : ∀ l : List Sp, l = a ∨ l = b → ∀ y ∈ bnd l, y ∈ u := by
    rintro l (rfl | rfl) y hy
    · exact (hm y).2 ((cat_two _ _ y).2 (.inl hy))
    · exact (hm y).2 ((cat_two _ _ y).2 (.inr hy))
  have hr : ∀ x ∈ u, 0 ≤ x ∧ x ≤ 1024 := by
    intro x hx
    rcases (cat_two _ _ x).1 ((hm x).1 hx) with h | h
    · obtain ⟨p, hp, e⟩ := bnd_mem.1 h; have := chk_range ha p hp; omega
    · obtain ⟨p, hp, e⟩ := bnd_mem.1 h; have := chk_range hb p hp; omega
  by_cases h0 : u = []
  · subst h0
    have hn : ∀ l : List Sp, l = a ∨ l = b → l = [] := by
      intro l hl
      cases l with
      | nil => rfl
      | cons p r => have := hin _ hl p.1 (bnd_mem.2 ⟨p, by simp, .inl rfl⟩); cases this
    have := hn a (.inl rfl)
    have := hn b (.inr rfl)
    subst_vars
    exact ⟨rfl, fun x => by simp [comb, mem, hk]⟩
  · have hl : u.length - 1 < u.length := by have := List.length_pos_iff.2 h0; omega
    obtain ⟨c1, _, c3⟩ := comb_law hu hr (fun t => k (a.any (inSp t)) (b.any (inSp t))) _ hl
    refine ⟨c1, fun x => ?_⟩
    have same : ∀ {j : Nat} {f t : Int}, u[j]? = some f → u[j + 1]? = some t → f ≤ x → x < t → ∀ l : List Sp, l = a ∨ l = b → mem l f = mem l x := by
      intro j f t hf ht h1 h2 l hl
      refine mem_same h1 fun y hy ⟨g1, g2⟩ => ?_
      obtain ⟨i, hi, rfl⟩ := List.mem_iff_getElem.1 (hin l hl y hy)
      have hi' := List.getElem?_eq_getElem hi
      rcases Nat.lt_trichotomy i j with e | e | e
      · have := inc_get hu hi' hf e; omega
      · subst e; rw [hf] at hi'; injection hi' with hi'; omega
      · by_cases e' : i = j + 1
        · subst e'; rw [ht] at hi'; injection hi' with hi'; omega
        · have := inc_get hu ht hi' (by omega); omega
    rw [Bool.eq_iff_iff, c3]
    constructor
    · rintro ⟨j, f, t, _, hf, ht, hq, h1, h2⟩
      have e1 := same hf ht h1 h2 a (.inl rfl)
      have e2 := same hf ht h1 h2 b (.inr rfl)
      simp only [mem] at e1 e2 ⊢
      rw [← e1, ← e2]
      exact hq
    · intro hx
      have hcov : ∃ l : List Sp, (l = a ∨ l = b) ∧ mem l x = true := by
        cases e1 : mem a x with
        | true => exact ⟨a, .inl rfl, e1⟩
        | false =>
          cases e2 : mem b x with
          | true => exact ⟨b, .inr rfl, e2⟩
          | false => rw [e1, e2, hk] at hx; cases hx
      obtain ⟨l, hl', hml⟩ := hcov
      obtain ⟨p, hp, hpx⟩ := List.any_eq_true.1 hml
      rw [inSp_iff] at hpx
      obtain ⟨i1, hi1, e1⟩ := List.mem_iff_getElem.1 (hin l hl' p.1 (bnd_mem.2 ⟨p, hp, .inl rfl⟩))
      obtain ⟨i2, hi2, e2⟩ := List.mem_iff_getElem.1 (hin l hl' p.2 (bnd_mem.2 ⟨p, hp, .inr rfl⟩))
      have hi12 : i1 ≤ i2 := by
        rcases Nat.lt_or_ge i2 i1 with h | h
        · have := inc_get hu (List.getElem?_eq_getElem hi2) (List.getElem?_eq_getElem hi1) h; omega
        · exact h
      obtain ⟨j, f, t, hf, ht, h1, h2⟩ := between (u := u) (i2 - i1) i1 p.1 p.2 x (by rw [List.getElem?_eq_getElem hi1, e1]) (by rw [show i1 + (i2 - i1) = i2 by omega, List.getElem?_eq_getElem hi2, e2]) hpx.1 hpx.2
      refine ⟨j, f, t, ?_, hf, ht, ?_, h1, h2⟩
      · have := (List.getElem?_eq_some_iff.1 ht).1; omega
      · have e1 := same hf ht h1 h2 a (.inl rfl)
        have e2 := same hf ht h1 h2 b (.inr rfl)
        simp only [mem] at e1 e2 hx ⊢
        rw [e1, e2]
        exact hx
theorem ofAt_law (fs : List Bool) : ∀ i, i ≤ 1024 → chk (-1) (ofAt fs i) = true ∧ lastEnd (-1) (ofAt fs i) ≤ i ∧ ∀ x, mem (ofAt fs i) x = true ↔ ∃ j : Nat, j < i ∧ fs[j]? = some true ∧ x = j
  | 0, _ => by simp [ofAt, chk, lastEnd, mem]
  | i + 1, h => by
    obtain ⟨c1, c2, c3⟩ := ofAt_law fs i (by omega)
    simp only [ofAt]
    by_cases hq : fs[i]? = some true
    · rw [if_pos hq]
      obtain ⟨e1, e2, e3⟩ := ext_law (f := i) (t := i + 1) c1 c2 (by omega) (by omega) (by omega)
      refine ⟨e1, by rw [e2]; simp, fun x => ?_⟩
      rw [e3, c3]
      constructor
      · rintro (⟨j, hj, h1, h2⟩ | hx)
        · exact ⟨j, by omega, h1, h2⟩
        · exact ⟨i, by omega, hq, by omega⟩
      · rintro ⟨j, hj, h1, h2⟩
        by_cases e : j = i
        · subst e; right; omega
        · exact .inl ⟨j, by omega, h1, h2⟩
    · rw [if_neg hq]
      refine ⟨c1, by push_cast; omega, fun x => ?_⟩
      rw [c3]
      constructor
      · rintro ⟨j, hj, h1, h2⟩; exact ⟨j, by omega, h1, h2⟩
      · rintro ⟨j, hj, h1, h2⟩
        by_cases e : j = i
        · subst e; exact absurd h1 hq
        · exact ⟨j, by omega, h1, h2⟩
/-- The specification's way comes to the same list. -/
theorem refOf_eq {k : Bool → Bool → Bool} {o : Int} (hko : ∀ x y, kf o x y = k x y) (hk : k false false = false) (a b : List Sp) : refOf o a b = combOf k a b := by
  by_cases h : (chk (-1) a && chk (-1) b) = true
  · have hab : chk (-1) a = true ∧ chk (-1) b = true := by simpa using h
    obtain ⟨c1, c2⟩ := combOf_law hk hab.1 hab.2
    have hr : refOf o a b = ofAt ((List.range 1024).map fun p : Nat => kf o (a.any (inSp (p : Int))) (b.any (inSp (p : Int)))) 1024 := by rw [refOf, if_pos h]
    rw [hr]
    obtain ⟨d1, _, d3⟩ := ofAt_law ((List.range 1024).map fun p : Nat => kf o (a.any (inSp (p : Int))) (b.any (inSp (p : Int)))) 1024 (Nat.le_refl _)
    refine chk_unique d1 c1 fun x => ?_
    rw [Bool.eq_iff_iff, d3, c2]
    constructor
    · rintro ⟨j, hj, h1, rfl⟩
      rw [List.getElem?_map, List.getElem?_range hj] at h1
      simp only [Option.map_some, Option.some.injEq] at h1
      rw [← hko]
      exact h1
    · intro hx
      have hcov : 0 ≤ x ∧ x < 1024 := by
        cases e1 : mem a x with
        | true => have := chk_mem hab.1 e1; omega
        | false =>
          cases e2 : mem b x with
          | true => have := chk_mem hab.2 e2; omega
          | false => rw [e1, e2, hk] at hx; cases hx
      refine ⟨x.toNat, by omega, ?_, by omega⟩
      rw [List.getElem?_map, List.getElem?_range (by omega)]
      simp only [Option.map_some, Option.some.injEq]
      rw [hko, show ((x.toNat : Nat) : Int) = x by omega]
      exact hx
  · rw [refOf, combOf, if_neg h, if_neg h]

/-! ### Sizes -/
def cnt (f : Int → Bool) : Nat → Int
  | 0 => 0
  | n + 1 => cnt f n + (if f n then 1 else 0)
theorem cnt_or_and (f g : Int → Bool) : ∀ n, cnt (fun x => f x || g x) n + cnt (fun x => f x && g x) n = cnt f n + cnt g n
  | 0 => rfl
  | n + 1 => by
    have := cnt_or_and f g n
    simp only [cnt]
    by_cases h1 : f n = true <;> by_cases h2 : g n = true <;> simp [h1, h2] <;> omega
theorem cnt_none {f : Int → Bool} (h : ∀ x, f x = false) : ∀ n, cnt f n = 0
  | 0 => rfl
  | n + 1 => by simp [cnt, cnt_none h n, h]
theorem cnt_span {p : Sp} (h0 : 0 ≤ p.1) (h1 : p.1 < p.2) : ∀ n : Nat, cnt (fun x => inSp x p) n = if (n : Int) ≤ p.1 then 0 else if (n : Int) ≤ p.2 then n - p.1 else p.2 - p.1
  | 0 => by simp [cnt]; omega
  | n + 1 => by
    have := cnt_span h0 h1 n
    simp only [cnt, this]
    by_cases hx : inSp n p = true
    · rw [if_pos hx]; rw [inSp_iff] at hx; push_cast; repeat' split
      all_goals omega
    · rw [if_neg hx]; rw [inSp_iff] at hx; push_cast; repeat' split
      all_goals omega
theorem sumOf_cnt : ∀ {l : List Sp} {last : Int}, chk last l = true → sumOf l = cnt (mem l) 1024
  | [], _, _ => by rw [cnt_none (fun x => by simp [mem])]; rfl
  | p :: r, last, h => by
    obtain ⟨h1, h2⟩ := chk_cons.1 h
    have e1 : cnt (mem (p :: r)) 1024 = cnt (fun x => inSp x p || mem r x) 1024 := by
      congr 1
    have e2 := cnt_or_and (fun x => inSp x p) (mem r) 1024
    have e3 : cnt (fun x => inSp x p && mem r x) 1024 = 0 := cnt_none (fun x => by
      cases hx : inSp x p with
      | false => rfl
      | true =>
        cases hm : mem r x with
        | false => rfl
        | true => rw [inSp_iff] at hx; have := chk_mem h2 hm; omega) 1024
    have e4 := cnt_span (p := p) (by omega) (by omega) 1024
    rw [if_neg (by omega)] at e4
    simp only [sumOf, sumOf_cnt h2]
    rw [e1]
    split at e4 <;> omega
end Go.Proofs.Ytehboominkoldaa
