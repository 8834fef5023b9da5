/- The names: plain laws of what Resolve, Order and Cycle give. No program in sight. -/
import Derived.Test.YtbkkekbeaabokaaNq0
set_option linter.unusedVariables false
set_option linter.unusedSimpArgs false
namespace Go.Proofs.Ytbkkekbeaabokaa
open Go Go.Proofs.Ytbkkekbeaabokaa.Sx

/-! ### Places -/
theorem idx_map {α β : Type} (p : β → Bool) (f : α → β) : ∀ (l : List α) (k : Int), idx p (l.map f) k = idx (fun x => p (f x)) l k
  | [], k => rfl
  | x :: r, k => by simp only [List.map_cons, idx, idx_map p f r]
theorem idx_congr {α : Type} {p q : α → Bool} : ∀ {l : List α} {k : Int}, (∀ x ∈ l, p x = q x) → idx p l k = idx q l k
  | [], k, _ => rfl
  | x :: r, k, h => by
    simp only [idx, h x (by simp), idx_congr (l := r) fun y hy => h y (List.mem_cons_of_mem _ hy)]
theorem idx_of {α : Type} {p : α → Bool} : ∀ {l : List α} {k i : Nat} {x : α}, l[i]? = some x → p x = true → (∀ (j : Nat) (y : α), j < i → l[j]? = some y → p y = false) → idx p l k = ((k + i : Nat) : Int)
  | [], k, i, x, h, _, _ => by simp at h
  | z :: r, k, 0, x, h, hp, _ => by
    simp at h
    subst h
    simp [idx, hp]
  | z :: r, k, i + 1, x, h, hp, hn => by
    have h0 := hn 0 z (by omega) rfl
    simp only [idx, h0, Bool.false_eq_true, if_false]
    have := idx_of (p := p) (l := r) (k := k + 1) (i := i) (x := x) (by simpa using h) hp (fun j y hj hy => hn (j + 1) y (by omega) (by simpa using hy))
    rw [show ((k + 1 : Nat) : Int) = (k : Int) + 1 by omega] at this
    rw [this]; omega
theorem idx_none {α : Type} {p : α → Bool} : ∀ {l : List α} {k : Int}, (∀ x ∈ l, p x = false) → idx p l k = -1
  | [], k, _ => rfl
  | x :: r, k, h => by
    simp only [idx, h x (by simp), Bool.false_eq_true, if_false]
    exact idx_none fun y hy => h y (List.mem_cons_of_mem _ hy)
theorem idx_some {α : Type} {p : α → Bool} {l : List α} (h : ∃ x ∈ l, p x = true) : ∃ (i : Nat) (x : α), idx p l 0 = (i : Int) ∧ l[i]? = some x ∧ p x = true := by
  rcases idx_range (p := p) (l := l) (k := 0) with hi | ⟨i, x, h1, h2, h3⟩
  · obtain ⟨x, hx, hp⟩ := h
    have := idx_any (p := p) l 0
    have ha : l.any p = true := List.any_eq_true.2 ⟨x, hx, hp⟩
    rw [ha, hi] at this
    simp at this
  · exact ⟨i, x, by simpa using h1, h2, h3⟩
theorem twiceGo_iff {α : Type} [BEq α] [LawfulBEq α] : ∀ (l seen : List α), twiceGo seen l = false ↔ (∀ x ∈ l, x ∉ seen) ∧ l.Nodup
  | [], seen => by simp [twiceGo]
  | x :: r, seen => by
    have hs : seen.any (x == ·) = false ↔ x ∉ seen := by
      rw [← Bool.not_eq_true, not_congr]
      rw [List.any_eq_true]
      constructor
      · rintro ⟨y, hy, e⟩
        rw [eq_of_beq e]; exact hy
      · intro h; exact ⟨x, h, by simp⟩
    simp only [twiceGo, Bool.or_eq_false_iff, hs, twiceGo_iff r (seen ++ [x]), List.mem_cons, List.nodup_cons, List.mem_append]
    constructor
    · rintro ⟨h1, h2, h3⟩
      refine ⟨?_, ⟨fun hx => (h2 x hx) (.inr (by simp)), h3⟩⟩
      rintro y (rfl | hy)
      · exact h1
      · exact fun hs => h2 y hy (.inl hs)
    · rintro ⟨h1, h2, h3⟩
      refine ⟨h1 x (.inl rfl), fun y hy hs => ?_, h3⟩
      rcases hs with hs | hs
      · exact h1 y (.inr hy) hs
      · simp at hs
        exact h2 (hs ▸ hy)
theorem twice_nodup {α : Type} [BEq α] [LawfulBEq α] {l : List α} : twiceB l = false ↔ l.Nodup := by
  simp [twiceB, twiceGo_iff]
theorem nodup_at {α β : Type} {f : α → β} {l : List α} (h : (l.map f).Nodup) {i j : Nat} {x y : α} (hi : l[i]? = some x) (hj : l[j]? = some y) (he : f x = f y) : i = j := by
  have h1 : (l.map f)[i]? = some (f x) := by rw [List.getElem?_map, hi]; rfl
  have h2 : (l.map f)[j]? = some (f y) := by rw [List.getElem?_map, hj]; rfl
  obtain ⟨hl1, e1⟩ := List.getElem?_eq_some_iff.1 h1
  obtain ⟨hl2, e2⟩ := List.getElem?_eq_some_iff.1 h2
  exact (List.getElem_inj h).1 (e1.trans (he ▸ e2.symm))
theorem nodup_idx {α β : Type} [BEq β] [LawfulBEq β] {f : α → β} {l : List α} (h : (l.map f).Nodup) {i : Nat} {y : α} (hi : l[i]? = some y) : idx (fun x => f x == f y) l 0 = (i : Int) := by
  have := idx_of (p := fun x => f x == f y) (l := l) (k := 0) hi (by simp) (fun j z hj hz => by
    cases hb : f z == f y with
    | false => rfl
    | true => have := nodup_at h hz hi (eq_of_beq hb); omega)
  simpa using this

/-! ### Names and numbers -/
def keyC (y : Course) : ByteArray × Int := (y.name, y.number)
def meansP (name : ByteArray) (number : Int) (k : ByteArray × Int) : Bool := if name == eS then k.2 == number else k.1 == name
theorem meant_key (c : Cat) (name : ByteArray) (number : Int) : meant c name number = idx (meansP name number) (c.courses.map keyC) 0 := by
  rw [idx_map]; rfl
theorem numAt_key (c : Cat) (i : Int) : numAt c i = (((c.courses.map keyC)[i.toNat]?).map (·.2)).getD 0 := by
  unfold numAt
  rw [List.getElem?_map]
  cases c.courses[i.toNat]? <;> rfl
theorem meant_same {c x : Cat} (h : x.courses.map keyC = c.courses.map keyC) (name : ByteArray) (number : Int) : meant x name number = meant c name number := by
  rw [meant_key, meant_key, h]
theorem numAt_same {c x : Cat} (h : x.courses.map keyC = c.courses.map keyC) (i : Int) : numAt x i = numAt c i := by
  rw [numAt_key, numAt_key, h]
theorem numberR_same {c x : Cat} (h : x.courses.map keyC = c.courses.map keyC) (name : ByteArray) (old : Int) : numberR x name old = numberR c name old := by
  unfold numberR
  rw [meant_same h, numAt_same h]
theorem numberR_free (c : Cat) {name : ByteArray} (a b : Int) (hn : (name == eS) = false) : numberR c name a = numberR c name b := by
  unfold numberR
  rw [hn, meant_name (c := c) (a := a) (b := b) hn]
  rfl
theorem numberR_again (c : Cat) (name : ByteArray) (old : Int) (h : (numberR c name old).2 = true) : numberR c name (numberR c name old).1 = ((numberR c name old).1, true) := by
  cases hn : name == eS with
  | true => simp [numberR, hn]
  | false =>
    rw [numberR_free c _ old hn]
    exact Prod.ext rfl h
theorem courseR_again (c : Cat) (op course : Int) (name : ByteArray) (h : (courseR c op course name).2 = true) : courseR c op (courseR c op course name).1 name = ((courseR c op course name).1, true) := by
  cases hm : mentB op with
  | false => simp [courseR, hm]
  | true =>
    simp only [courseR, hm, if_true] at h ⊢
    exact numberR_again c name course h
mutual
theorem ruleR_again (c : Cat) : ∀ r : Rule, (ruleR c r).2 = true → ruleR c (ruleR c r).1 = ((ruleR c r).1, true)
  | .mk op course name n d kids, h => by
    simp only [ruleR, Bool.and_eq_true] at h
    simp only [ruleR, courseR_again c op course name h.1, rulesR_again c kids h.2, Bool.and_self]
theorem rulesR_again (c : Cat) : ∀ l : List Rule, (rulesR c l).2 = true → rulesR c (rulesR c l).1 = ((rulesR c l).1, true)
  | [], _ => rfl
  | r :: rs, h => by
    simp only [rulesR, Bool.and_eq_true] at h
    simp only [rulesR, ruleR_again c r h.1, rulesR_again c rs h.2, Bool.and_self]
end
mutual
theorem ruleR_same {c x : Cat} (h : x.courses.map keyC = c.courses.map keyC) : ∀ r : Rule, ruleR x r = ruleR c r
  | .mk op course name n d kids => by simp only [ruleR, courseR, numberR_same h, rulesR_same h kids]
theorem rulesR_same {c x : Cat} (h : x.courses.map keyC = c.courses.map keyC) : ∀ l : List Rule, rulesR x l = rulesR c l
  | [] => rfl
  | r :: rs => by simp only [rulesR, ruleR_same h r, rulesR_same h rs]
end
theorem numsR_same {c x : Cat} (h : x.courses.map keyC = c.courses.map keyC) : ∀ (ns : List ByteArray) (fs : List Int), numsR x ns fs = numsR c ns fs
  | [], _ => by simp [numsR]
  | _ :: _, [] => by simp [numsR]
  | n :: ns, f :: fs => by simp only [numsR, numberR_same h, numsR_same h ns fs]
theorem numsR_again (c : Cat) : ∀ (ns : List ByteArray) (fs : List Int), (numsR c ns fs).2 = true → numsR c ns (numsR c ns fs).1 = ((numsR c ns fs).1, true)
  | [], _, _ => by simp [numsR]
  | _ :: _, [], _ => by simp [numsR]
  | n :: ns, f :: fs, h => by
    simp only [numsR, Bool.and_eq_true] at h
    simp only [numsR, numberR_again c n f h.1, numsR_again c ns fs h.2, Bool.and_self]
theorem mapX_again {α : Type} {f : α → α × Bool} (hf : ∀ a, (f a).2 = true → f (f a).1 = ((f a).1, true)) {l : List α} (h : (mapX f l).2 = true) : mapX f (mapX f l).1 = ((mapX f l).1, true) := by
  simp only [mapX, List.all_eq_true] at h
  simp only [mapX, List.map_map, Prod.mk.injEq]
  refine ⟨List.map_congr_left fun a ha => by simp [hf a (h a ha)], ?_⟩
  rw [List.all_eq_true]
  intro b hb
  obtain ⟨a, ha, rfl⟩ := List.mem_map.1 hb
  rw [hf a (h a ha)]
theorem courseX_again (c : Cat) (y : Course) (h : (courseX c y).2 = true) : courseX c (courseX c y).1 = ((courseX c y).1, true) := by
  simp only [courseX, Bool.and_eq_true] at h
  simp only [courseX, ruleR_again c _ h.1, ruleR_again c _ h.2, Bool.and_self]
theorem pairX_again (c : Cat) (p : Pair) (h : (pairX c p).2 = true) : pairX c (pairX c p).1 = ((pairX c p).1, true) := by
  simp only [pairX, Bool.and_eq_true] at h
  simp only [pairX, numberR_again c _ _ h.1, numberR_again c _ _ h.2, Bool.and_self]
theorem reqX_again (c : Cat) (q : Req) (h : (reqX c q).2 = true) : reqX c (reqX c q).1 = ((reqX c q).1, true) := by
  simp only [reqX] at h
  simp only [reqX, numsR_again c _ _ h]
theorem progX_again (c : Cat) (p : Prog) (h : (progX c p).2 = true) : progX c (progX c p).1 = ((progX c p).1, true) := by
  simp only [progX] at h
  simp only [progX, mapX_again (reqX_again c) h]
theorem resR_key (c : Cat) : (resR c).courses.map keyC = c.courses.map keyC := by
  simp [resR, mapX, Function.comp_def, keyC, courseX]
theorem courseX_same {c x : Cat} (h : x.courses.map keyC = c.courses.map keyC) : courseX x = courseX c := by
  funext y
  simp only [courseX, ruleR_same h]
theorem pairX_same {c x : Cat} (h : x.courses.map keyC = c.courses.map keyC) : pairX x = pairX c := by
  funext y
  simp only [pairX, numberR_same h]
theorem reqX_same {c x : Cat} (h : x.courses.map keyC = c.courses.map keyC) : reqX x = reqX c := by
  funext y
  simp only [reqX, numsR_same h]
theorem progX_same {c x : Cat} (h : x.courses.map keyC = c.courses.map keyC) : progX x = progX c := by
  funext y
  simp only [progX, reqX_same h]
theorem resR_again {c : Cat} (h : goodB c = true) : resR (resR c) = resR c ∧ goodB (resR c) = true := by
  have hk := resR_key c
  simp only [goodB, Bool.and_eq_true] at h
  obtain ⟨⟨h1, h2⟩, h3⟩ := h
  have e1 := mapX_again (courseX_again c) h1
  have e2 := mapX_again (pairX_again c) h2
  have e3 := mapX_again (progX_again c) h3
  constructor
  · show ({ resR c with courses := (mapX (courseX (resR c)) (resR c).courses).1, same := (mapX (pairX (resR c)) (resR c).same).1, progs := (mapX (progX (resR c)) (resR c).progs).1 } : Cat) = resR c
    rw [courseX_same hk, pairX_same hk, progX_same hk]
    show ({ resR c with courses := (mapX (courseX c) (mapX (courseX c) c.courses).1).1, same := (mapX (pairX c) (mapX (pairX c) c.same).1).1, progs := (mapX (progX c) (mapX (progX c) c.progs).1).1 } : Cat) = resR c
    rw [e1, e2, e3]
    rfl
  · simp only [goodB]
    rw [courseX_same hk, pairX_same hk, progX_same hk]
    show (((mapX (courseX c) (mapX (courseX c) c.courses).1).2 && (mapX (pairX c) (mapX (pairX c) c.same).1).2) && (mapX (progX c) (mapX (progX c) c.progs).1).2) = true
    rw [e1, e2, e3]
    rfl
theorem argB_again {c : Cat} (h : argB c = false) : argB (resR c) = false := by
  simp only [argB, resR, mapX, List.any_map]
  rw [← Bool.not_eq_true, List.any_eq_true]
  rintro ⟨p, hp, hq⟩
  simp only [Function.comp_apply, progX, argP, mapX, List.any_map] at hq
  rw [List.any_eq_true] at hq
  obtain ⟨q, hqm, hq⟩ := hq
  have h0 : argQ q = false := by
    cases ha : argQ q with
    | false => rfl
    | true =>
      have h1 : argP p = true := List.any_eq_true.2 ⟨q, hqm, ha⟩
      have h2 : argB c = true := List.any_eq_true.2 ⟨p, hp, h1⟩
      rw [h] at h2; cases h2
  have hl : q.names.length = q.frm.length := by simpa [argQ] using h0
  simp only [Function.comp_apply, reqX, argQ] at hq
  rw [numsR_len c _ _ hl] at hq
  simp [hl] at hq
theorem twiceC_again (c : Cat) : twiceC (resR c) = twiceC c := by
  have e : twiceP = fun p : Prog => twiceB (p.reqs.map (·.name)) := rfl
  simp [twiceC, resR, mapX, Function.comp_def, courseX, progX, e, reqX, List.any_map]

/-! ### What is needed, again -/
mutual
theorem partsOf_rule (c : Cat) : ∀ r : Rule, partsOf (ruleR c r).1 = (partsOf r).map fun p => (ruleR c p).1
  | .mk op course name n d kids => by
    have h := partsL_rules c kids
    simp only [ruleR, partsOf, List.map_cons, h]
theorem partsL_rules (c : Cat) : ∀ l : List Rule, partsL (rulesR c l).1 = (partsL l).map fun p => (ruleR c p).1
  | [] => rfl
  | r :: rs => by simp only [rulesR, partsL, partsOf_rule c r, partsL_rules c rs, List.map_append]
end
theorem need1_again (c : Cat) (p : Rule) : need1 (resR c) (ruleR c p).1 = need1 c p := by
  cases p with
  | mk op course name n d kids =>
    show (if (op == 5 || op == 6) = true then (if 0 ≤ meant (resR c) name (courseR c op course name).1 then some (meant (resR c) name (courseR c op course name).1) else none) else none) = (if (op == 5 || op == 6) = true then (if 0 ≤ meant c name course then some (meant c name course) else none) else none)
    by_cases ho : (op == 5 || op == 6) = true
    · rw [if_pos ho, if_pos ho]
      have hm : mentB op = true := by
        simp only [mentB]
        revert ho
        cases op == 5 <;> cases op == 6 <;> simp
      simp only [courseR, hm, if_true]
      have e : meant (resR c) name (numberR c name course).1 = meant c name course := by
        rw [meant_same (resR_key c)]
        cases hn : name == eS with
        | false => exact meant_name hn
        | true => simp [numberR, hn]
      rw [e]
    · rw [if_neg ho, if_neg ho]
theorem needsL_again (c : Cat) (l : List Rule) : needsL (resR c) (l.map fun p => (ruleR c p).1) = needsL c l := by
  simp only [needsL, List.filterMap_map]
  congr 1
  funext p
  exact need1_again c p
theorem needsAt_again (c : Cat) (i : Nat) : needsAt (resR c) i = needsAt c i := by
  unfold needsAt
  simp only [resR, mapX, List.getElem?_map]
  cases c.courses[i]? with
  | none => rfl
  | some y =>
    simp only [Option.map_some, courseX, partsOf_rule]
    exact needsL_again c _
theorem listOf_same {c x : Cat} (hl : x.courses.length = c.courses.length) (hn : ∀ i, needsAt x i = needsAt c i) : listOf x = listOf c := by
  have hr : ∀ out, nextR x out = nextR c out := fun out => by
    unfold nextR
    rw [hl]
    congr 1
    funext i
    simp only [readyB, hn]
  have hg : ∀ (k : Nat) (out : List Int), listGo x k out = listGo c k out := by
    intro k
    induction k with
    | zero => intro out; rfl
    | succ k ih =>
      intro out
      simp only [listGo, hr]
      split
      · exact ih _
      · rfl
  unfold listOf
  rw [hl, hg]
theorem orderOf_again (c : Cat) : orderOf (resR c) = orderOf c := by
  have hl : (resR c).courses.length = c.courses.length := by simp [resR, mapX]
  unfold orderOf
  rw [listOf_same hl (needsAt_again c), hl]
  split
  · rfl
  · simp only [Prod.mk.injEq, and_true]
    exact List.map_congr_left fun a _ => numAt_same (resR_key c) a
/-- What is resolved stays as it is. -/
theorem resolve_again {c x : Cat} (h : resolveOf c = (x, 0)) : resolveOf x = (x, 0) ∧ x = resR c ∧ twiceC c = false ∧ goodB c = true := by
  cases hA : argB c with
  | true => rw [res_arg hA] at h; simp at h
  | false =>
    cases hT : twiceC c with
    | true => rw [res_twice hA hT] at h; simp at h
    | false =>
      cases hG : goodB c with
      | false => rw [res_name hA hT hG] at h; simp at h
      | true =>
        by_cases hO : (orderOf c).2 = 0
        · rw [res_ok hA hT hG hO] at h
          injection h with h _
          subst h
          obtain ⟨e1, e2⟩ := resR_again hG
          refine ⟨?_, rfl, rfl, rfl⟩
          rw [res_ok (argB_again hA) (by rw [twiceC_again]; exact hT) e2 (by rw [orderOf_again]; exact hO), e1]
        · rw [res_order hA hT hG hO] at h
          injection h with _ h
          exact absurd h hO
theorem resolve_fail {c : Cat} (h : (resolveOf c).2 ≠ 0) : (resolveOf c).1 = zeroCat := by
  cases hA : argB c with
  | true => rw [res_arg hA]
  | false =>
    cases hT : twiceC c with
    | true => rw [res_twice hA hT]
    | false =>
      cases hG : goodB c with
      | false => rw [res_name hA hT hG]
      | true =>
        by_cases hO : (orderOf c).2 = 0
        · rw [res_ok hA hT hG hO] at h; exact absurd rfl h
        · rw [res_order hA hT hG hO]
theorem names_nodup {c : Cat} (h : twiceC c = false) : (c.courses.map (·.name)).Nodup ∧ (c.courses.map (·.number)).Nodup := by
  simp only [twiceC, Bool.or_eq_false_iff] at h
  exact ⟨twice_nodup.1 h.1.1.1, twice_nodup.1 h.1.1.2⟩
theorem find_key (c : Cat) (name : ByteArray) : findOf c name = if idx (fun k : ByteArray × Int => k.1 == name) (c.courses.map keyC) 0 < 0 then (0, false) else (numAt c (idx (fun k : ByteArray × Int => k.1 == name) (c.courses.map keyC) 0), true) := by
  unfold findOf
  rw [idx_map]; rfl
theorem find_same {c x : Cat} (h : x.courses.map keyC = c.courses.map keyC) (name : ByteArray) : findOf x name = findOf c name := by
  rw [find_key, find_key, h, numAt_same h]
theorem find_own {c : Cat} (h : twiceC c = false) {i : Nat} {y : Course} (hi : c.courses[i]? = some y) : findOf c y.name = (y.number, true) := by
  have e : idx (fun x : Course => x.name == y.name) c.courses 0 = (i : Int) := nodup_idx (names_nodup h).1 hi
  unfold findOf
  rw [e, if_neg (by omega)]
  rw [numAt_get hi]
theorem find_number {c : Cat} {name : ByteArray} {old : Int} (hn : (name == eS) = false) (h : (numberR c name old).2 = true) : findOf c name = ((numberR c name old).1, true) := by
  have e : meant c name old = idx (fun x : Course => x.name == name) c.courses 0 := by
    unfold meant
    exact idx_congr fun x _ => by simp [meansB, hn]
  unfold numberR at h ⊢
  rw [hn] at h ⊢
  simp only [Bool.false_eq_true, if_false, e] at h ⊢
  unfold findOf
  split
  · rename_i hlt; rw [if_pos hlt] at h; cases h
  · rfl
end Go.Proofs.Ytbkkekbeaabokaa
