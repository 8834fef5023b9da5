/- Sx, part B: the steps of the state: a slot is written, a block is made, given up, written; rows are appended to. -/
import Derived.Test.YtehboominkoldaaSxA
set_option linter.unusedVariables false
namespace Go.Proofs.Ytehboominkoldaa.Sx
open Go Go.RowKit

variable {G : Nat → Prop} {w0 w w' : World} {ι ι' : Nat → Loc} {s s' : S} {a : Act} {N : Nat}

theorem Fr.refl (G : Nat → Prop) (ι : Nat → Loc) (nx : Nat) (w : World) : Fr G ι nx w ι nx w := ⟨Nat.le_refl _, fun B h => ⟨h, rfl⟩, fun b _ => .inr ⟨rfl, fun B _ C t h => ⟨C, h, rfl⟩⟩⟩

theorem getElem?_lt {α : Type} {xs : Array α} {i : Nat} {x : α} (h : xs[i]? = some x) : i < xs.size := by
  rcases Nat.lt_or_ge i xs.size with h' | h'
  · exact h'
  · simp [Array.getElem?_eq_none h'] at h

theorem put_getD (a : Act) (t k : Nat) (v : Value) (ht : t < a.tmps.size) : (a.put (some t) v).tmps.getD k undef = if k = t then v else a.tmps.getD k undef := by
  simp only [Act.put, Array.getD_eq_getD_getElem?, Array.getElem?_setIfInBounds]
  by_cases h : k = t
  · subst h; simp [ht]
  · simp [Ne.symm h, h]

/-- A slot is written. -/
theorem Rel.put (h : Rel G w0 ι s a w N) {d : D} {v : Value} (t : Nat) (ht : t < N) (hd : RelD G ι s.nx w d v) : Rel G w0 ι { s with sl := up t d s.sl } (a.put (some t) v) w N := by
  refine ⟨h.below, by simp [Act.put, h.size], by simp [Act.put, h.defers], fun k d' hk => ?_, h.heap, h.inside, h.inj, h.dead, h.fresh, h.gr⟩
  rw [lk_up] at hk
  rw [put_getD _ _ _ _ (by rw [h.size]; exact ht)]
  by_cases hkt : k = t
  · simp only [if_pos hkt] at hk ⊢
    injection hk with hk
    subst hk
    exact ⟨hkt ▸ ht, hd⟩
  · simp only [if_neg hkt] at hk ⊢
    exact h.slots k d' hk

/-- A slot is written of which nothing is to be known. -/
theorem Rel.putBad (h : Rel G w0 ι s a w N) (v : Value) (t : Nat) : Rel G w0 ι { s with sl := dl t s.sl } (a.put (some t) v) w N := by
  refine ⟨h.below, by simp [Act.put, h.size], by simp [Act.put, h.defers], fun k d' hk => ?_, h.heap, h.inside, h.inj, h.dead, h.fresh, h.gr⟩
  rw [lk_dl] at hk
  by_cases hkt : k = t
  · simp [hkt] at hk
  · simp only [if_neg hkt] at hk
    have h' := h.slots k d' hk
    refine ⟨h'.1, ?_⟩
    have : (a.put (some t) v).tmps.getD k undef = a.tmps.getD k undef := by
      simp only [Act.put, Array.getD_eq_getD_getElem?, Array.getElem?_setIfInBounds]
      simp [Ne.symm hkt]
    rw [this]
    exact h'.2

/-- Fewer slots. -/
theorem Rel.fewer (h : Rel G w0 ι s a w N) (sl : List (Nat × D)) (hs : ∀ t d, lk t sl = some d → lk t s.sl = some d) : Rel G w0 ι { s with sl := sl } a w N :=
  ⟨h.below, h.size, h.defers, fun t d ht => h.slots t d (hs t d ht), h.heap, h.inside, h.inj, h.dead, h.fresh, h.gr⟩

/-- The world has gone on, the slots stand. -/
theorem Rel.go (h : Rel G w0 ι s a w N) {hp : List (Nat × HO)} {nx : Nat} (f : Fr G ι s.nx w ι' nx w') (hb : Below w0.heap.size w w')
    (heap : ∀ b o, lk b hp = some o → RelO G ι' nx w' b o) (inside : ∀ b B, ι' b = .at B → w0.heap.size ≤ B ∧ B < w'.heap.size)
    (inj : ∀ b b' B, ι' b = .at B → ι' b' = .at B → b = b') (dead : ∀ b, lk b hp = none → ι' b = .dead) (fresh : ∀ b, nx ≤ b → lk b hp = none) :
    Rel G w0 ι' { s with hp := hp, nx := nx } a w' N :=
  ⟨h.below.trans hb, h.size, h.defers, fun t d ht => ⟨(h.slots t d ht).1, f.relD (h.slots t d ht).2⟩, heap, inside, inj, dead, fresh, h.gr⟩

/-! ### A block is given up -/
def kill (ι : Nat → Loc) (b : Nat) : Nat → Loc := fun x => if x = b then .dead else ι x
theorem Fr.kill (G : Nat → Prop) (ι : Nat → Loc) (nx : Nat) (w : World) (b : Nat) : Fr G ι nx w (kill ι b) nx w := by
  refine ⟨Nat.le_refl _, fun B h => ⟨⟨h.1, fun x hx => ?_⟩, rfl⟩, fun x _ => ?_⟩
  · by_cases e : x = b
    · simp [Sx.kill, e] at hx
    · simp only [Sx.kill, if_neg e] at hx
      exact h.2 x hx
  · by_cases e : x = b
    · exact .inl (by simp [Sx.kill, e])
    · exact .inr ⟨by simp [Sx.kill, e], fun B _ C t h => ⟨C, h, rfl⟩⟩
theorem Rel.kill (h : Rel G w0 ι s a w N) (b : Nat) : Rel G w0 (kill ι b) { s with hp := dl b s.hp } a w N := by
  refine h.go (Fr.kill G ι s.nx w b) (Below.refl _ _) (fun x o hx => ?_) (fun x B hx => ?_) (fun x y B hx hy => ?_) (fun x hx => ?_) (fun x hx => ?_)
  · rw [lk_dl] at hx
    by_cases e : x = b
    · simp [e] at hx
    · simp only [if_neg e] at hx
      exact (Fr.kill G ι s.nx w b).relO (h.heap x o hx) (by simp [Sx.kill, e]) (fun _ _ => rfl)
  · by_cases e : x = b
    · simp [Sx.kill, e] at hx
    · simp only [Sx.kill, if_neg e] at hx
      exact h.inside x B hx
  · by_cases e : x = b
    · simp [Sx.kill, e] at hx
    · by_cases e' : y = b
      · simp [Sx.kill, e'] at hy
      · simp only [Sx.kill, if_neg e] at hx
        simp only [Sx.kill, if_neg e'] at hy
        exact h.inj x y B hx hy
  · rw [lk_dl] at hx
    by_cases e : x = b
    · simp [Sx.kill, e]
    · simp only [if_neg e] at hx
      simpa [Sx.kill, e] using h.dead x hx
  · rw [lk_dl]
    split
    · rfl
    · exact h.fresh x hx

/-! ### A new block -/
def name (ι : Nat → Loc) (b : Nat) (l : Loc) : Nat → Loc := fun x => if x = b then l else ι x
theorem Fr.new (h : Rel G w0 ι s a w N) (C : Array Value) (t : TypeId) : Fr G ι s.nx w (name ι s.nx (.at w.heap.size)) (s.nx + 1) (w.alloc (.cells C t)) := by
  refine ⟨Nat.le_succ _, fun B hB => ⟨⟨⟨by rw [World.size_alloc]; exact Nat.lt_succ_of_lt hB.1.1, hB.1.2⟩, fun x hx => ?_⟩, Below.heap_alloc _ _ _ hB.1.1⟩, fun x hx => .inr ⟨by simp only [name]; rw [if_neg (by omega)], fun B hB C' t' hC => ⟨C', ?_, rfl⟩⟩⟩
  · by_cases e : x = s.nx
    · simp only [name, if_pos e] at hx
      injection hx with hx
      have := hB.1.1
      omega
    · simp only [name, if_neg e] at hx
      exact hB.2 x hx
  · rw [Below.heap_alloc _ _ _ (getElem?_lt hC)]
    exact hC
theorem Rel.new (h : Rel G w0 ι s a w N) (C : Array Value) (t : TypeId) {o : HO} (ho : ∀ ι' w', Fr G ι s.nx w ι' (s.nx + 1) w' → ι' s.nx = .at w.heap.size → w'.heap[w.heap.size]? = some (.cells C t (0, 0)) → RelO G ι' (s.nx + 1) w' s.nx o) :
    Rel G w0 (name ι s.nx (.at w.heap.size)) { s with hp := (s.nx, o) :: s.hp, nx := s.nx + 1 } a (w.alloc (.cells C t)) N := by
  have f := Fr.new h C t
  have hb : Below w0.heap.size w (w.alloc (.cells C t)) := (Below.refl _ w).alloc h.below.size _
  refine h.go f hb (fun x o' hx => ?_) (fun x B hx => ?_) (fun x y B hx hy => ?_) (fun x hx => ?_) (fun x hx => ?_)
  · simp only [lk] at hx
    by_cases e : x = s.nx
    · simp only [if_pos e] at hx
      injection hx with hx
      subst hx
      subst e
      exact ho _ _ f (by simp [name]) (heap_alloc_new w _)
    · simp only [if_neg e] at hx
      exact f.relO (h.heap x o' hx) (by simp [name, e]) (fun B hB => Below.heap_alloc _ _ _ (h.inside x B hB).2)
  · by_cases e : x = s.nx
    · simp only [name, if_pos e] at hx
      injection hx with hx
      subst hx
      exact ⟨h.below.size, by simp⟩
    · simp only [name, if_neg e] at hx
      have := h.inside x B hx
      exact ⟨this.1, by rw [World.size_alloc]; omega⟩
  · by_cases e : x = s.nx
    · by_cases e' : y = s.nx
      · exact e.trans e'.symm
      · simp only [name, if_pos e] at hx
        simp only [name, if_neg e'] at hy
        injection hx with hx
        have := (h.inside y B hy).2
        omega
    · by_cases e' : y = s.nx
      · simp only [name, if_neg e] at hx
        simp only [name, if_pos e'] at hy
        injection hy with hy
        have := (h.inside x B hx).2
        omega
      · simp only [name, if_neg e] at hx
        simp only [name, if_neg e'] at hy
        exact h.inj x y B hx hy
  · simp only [lk] at hx
    by_cases e : x = s.nx
    · simp [e] at hx
    · simp only [if_neg e] at hx
      simpa [name, e] using h.dead x hx
  · simp only [lk]
    rw [if_neg (by omega)]
    exact h.fresh x (by omega)

/-- A row that is not there yet: nil. -/
theorem Rel.newNil (h : Rel G w0 ι s a w N) (t : TypeId) (size : Nat) : Rel G w0 (name ι s.nx .nil) { s with hp := (s.nx, .row t size []) :: s.hp, nx := s.nx + 1 } a w N := by
  have f : Fr G ι s.nx w (name ι s.nx .nil) (s.nx + 1) w := by
    refine ⟨Nat.le_succ _, fun B hB => ⟨⟨hB.1, fun x hx => ?_⟩, rfl⟩, fun x hx => .inr ⟨by simp only [name]; rw [if_neg (by omega)], fun B hB C' t' hC => ⟨C', hC, rfl⟩⟩⟩
    by_cases e : x = s.nx
    · simp [name, e] at hx
    · simp only [name, if_neg e] at hx
      exact hB.2 x hx
  refine h.go f (Below.refl _ _) (fun x o' hx => ?_) (fun x B hx => ?_) (fun x y B hx hy => ?_) (fun x hx => ?_) (fun x hx => ?_)
  · simp only [lk] at hx
    by_cases e : x = s.nx
    · simp only [if_pos e] at hx
      injection hx with hx
      subst hx
      subst e
      exact .nil t size (by simp [name])
    · simp only [if_neg e] at hx
      exact f.relO (h.heap x o' hx) (by simp [name, e]) (fun _ _ => rfl)
  · by_cases e : x = s.nx
    · simp [name, e] at hx
    · simp only [name, if_neg e] at hx
      exact h.inside x B hx
  · by_cases e : x = s.nx
    · simp [name, e] at hx
    · by_cases e' : y = s.nx
      · simp [name, e'] at hy
      · simp only [name, if_neg e] at hx
        simp only [name, if_neg e'] at hy
        exact h.inj x y B hx hy
  · simp only [lk] at hx
    by_cases e : x = s.nx
    · simp [e] at hx
    · simp only [if_neg e] at hx
      simpa [name, e] using h.dead x hx
  · simp only [lk]
    rw [if_neg (by omega)]
    exact h.fresh x (by omega)

/-! ### A block is written -/
/-- Block B's cells are others now, as many as before. -/
theorem Rel.write (h : Rel G w0 ι s a w N) {b B : Nat} {C C' : Array Value} {t : TypeId} (hb : ι b = .at B) (hC : w.heap[B]? = some (.cells C t (0, 0))) (hC' : w'.heap[B]? = some (.cells C' t (0, 0))) (hsz : C'.size = C.size)
    (hw : ∀ k, k < w.heap.size → k ≠ B → w'.heap[k]? = w.heap[k]?) (hos : w'.os = w.os) (htp : w'.tape = w.tape) (hout : w'.output = w.output) (hz : w.heap.size ≤ w'.heap.size) {o : HO}
    (ho : Fr G ι s.nx w ι s.nx w' → RelO G ι s.nx w' b o) : Rel G w0 ι { s with hp := up b o s.hp } a w' N := by
  have f : Fr G ι s.nx w ι s.nx w' := by
    refine ⟨Nat.le_refl _, fun K hK => ⟨⟨⟨Nat.lt_of_lt_of_le hK.1.1 hz, hK.1.2⟩, hK.2⟩, hw K hK.1.1 (fun e => hK.2 b (by rw [e]; exact hb))⟩, fun x hx => .inr ⟨rfl, fun K hK C1 t1 hC1 => ?_⟩⟩
    by_cases e : K = B
    · subst e
      rw [hC] at hC1
      injection hC1 with hC1
      injection hC1 with e1 e2
      subst e1; subst e2
      exact ⟨C', hC', hsz⟩
    · exact ⟨C1, (hw K (h.inside x K hK).2 e).trans hC1, rfl⟩
  have hbl : b < s.nx := by
    rcases Nat.lt_or_ge b s.nx with h1 | h1
    · exact h1
    · have := h.dead b (h.fresh b h1)
      simp [this] at hb
  refine h.go f ⟨hos, htp, hout, hz, fun k hk => hw k (Nat.lt_of_lt_of_le hk h.below.size) (fun e => by have := (h.inside b B hb).1; omega)⟩ (fun x o' hx => ?_) (fun x K hx => ?_) h.inj (fun x hx => ?_) (fun x hx => ?_)
  · rw [lk_up] at hx
    by_cases e : x = b
    · simp only [if_pos e] at hx
      injection hx with hx
      subst hx
      subst e
      exact ho f
    · simp only [if_neg e] at hx
      exact f.relO (h.heap x o' hx) rfl (fun K hK => hw K (h.inside x K hK).2 (fun e1 => e (h.inj x b B (by rw [← e1]; exact hK) hb)))
  · have := h.inside x K hx
    exact ⟨this.1, Nat.lt_of_lt_of_le this.2 hz⟩
  · rw [lk_up] at hx
    by_cases e : x = b
    · simp [e] at hx
    · simp only [if_neg e] at hx
      exact h.dead x hx
  · rw [lk_up, if_neg (by omega)]
    exact h.fresh x hx

/-- Orders have been drawn. -/
theorem Rel.drew (h : Rel G w0 ι s a w N) : Rel G w0 ι s a { w with drawn := w.drawn + 1 } N := by
  have f : Fr G ι s.nx w ι s.nx { w with drawn := w.drawn + 1 } := ⟨Nat.le_refl _, fun B hB => ⟨hB, rfl⟩, fun b _ => .inr ⟨rfl, fun B _ C t hC => ⟨C, hC, rfl⟩⟩⟩
  exact h.go f ⟨rfl, rfl, rfl, Nat.le_refl _, fun _ _ => rfl⟩ (fun b o hb => f.relO (h.heap b o hb) rfl (fun _ _ => rfl)) h.inside h.inj h.dead h.fresh

end Go.Proofs.Ytehboominkoldaa.Sx
