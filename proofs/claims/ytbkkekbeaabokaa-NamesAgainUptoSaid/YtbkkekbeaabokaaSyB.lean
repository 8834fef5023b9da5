/- Sy, part B: the steps of the state: a slot is written, a block is made, given up, written; rows are appended to. -/
import Derived.Test.YtbkkekbeaabokaaSyA
set_option linter.unusedVariables false
namespace Go.Proofs.Ytbkkekbeaabokaa.Sx
open Go Go.RowKit

variable {β : Bs} {G : Nat → Prop} {w w' : World} {ι ι' : Nat → Loc} {s s' : S} {a : Act} {N : Nat}

theorem Fr.refl (G : Nat → Prop) (ι : Nat → Loc) (nx : Nat) (w : World) : Fr G ι nx w ι nx w := ⟨Nat.le_refl _, fun B h => ⟨h, rfl⟩, fun b _ => .inr ⟨rfl, fun B _ C t h => ⟨C, h, rfl⟩⟩⟩

theorem getElem?_lt {α : Type} {xs : Array α} {i : Nat} {x : α} (h : xs[i]? = some x) : i < xs.size := by
  rcases Nat.lt_or_ge i xs.size with h' | h'
  · exact h'
  · simp [Array.getElem?_eq_none h'] at h

theorem put_getD (a : Act) (t k : Nat) (v : Value) (ht : t < a.tmps.size) : (a.put (some t) v).tmps.getD k undef = if k = t then v else a.tmps.getD k undef := by
  simp only [Act.put, Array.getD_eq_getD_getElem?, Array.getElem?_setIfInBounds]
  by_cases h : k = t
  · subst h; simp [ht]
  · simp [Ne.symm h, h]

theorem Go.refl (β : Bs) (w : World) : Go β w w := ⟨rfl, rfl, rfl, Nat.le_refl _, fun _ _ _ => rfl⟩
theorem Go.below (h : Below w.heap.size w w') : Go β w w' := ⟨h.os, h.tape, h.output, h.size, fun B hB _ => h.block B hB⟩
theorem Go.trans {w'' : World} (h : Go β w w') (k : Go β w' w'') : Go β w w'' :=
  ⟨k.os.trans h.os, k.tape.trans h.tape, k.output.trans h.output, Nat.le_trans h.size k.size, fun B hB hz => (k.same B (Nat.lt_of_lt_of_le hB h.size) hz).trans (h.same B hB hz)⟩
theorem Go.alloc (β : Bs) (w : World) (o : Obj) : Go β w (w.alloc o) := Go.below ((Below.refl _ w).alloc (Nat.le_refl _) _)

/-- A slot is written. -/
theorem Rel.put (h : Rel β ι s a w N) {d : D} {v : Value} (t : Nat) (ht : t < N) (hd : RelD β.G ι s.nx w d v) : Rel β ι { s with sl := up t d s.sl } (a.put (some t) v) w N := by
  refine ⟨h.env, h.kept, h.apart, by simp [Act.put, h.size], h.marks, fun k d' hk => ?_, h.ghosts, h.heap, h.inside, h.inj, h.dead, h.fresh, h.gr⟩
  rw [lk_up] at hk
  rw [put_getD _ _ _ _ (by rw [h.size]; exact ht)]
  by_cases hkt : k = t
  · simp only [if_pos hkt] at hk ⊢
    injection hk with hk
    subst hk
    exact ⟨hkt ▸ ht, hd⟩
  · simp only [if_neg hkt] at hk ⊢
    exact h.slots k d' hk

/-- Fewer slots. -/
theorem Rel.fewer (h : Rel β ι s a w N) (sl : List (Nat × D)) (hs : ∀ t d, lk t sl = some d → lk t s.sl = some d) : Rel β ι { s with sl := sl } a w N :=
  ⟨h.env, h.kept, h.apart, h.size, h.marks, fun t d ht => h.slots t d (hs t d ht), h.ghosts, h.heap, h.inside, h.inj, h.dead, h.fresh, h.gr⟩

theorem Rel.out (h : Rel β ι s a w N) {B : Nat} (hB : w.heap.size ≤ B) : β.Q B := by
  have k : ∀ o, ¬ w.heap[B]? = some o := fun o ho => by have := getElem?_lt ho; omega
  refine ⟨?_, ?_, fun hD => k _ (h.marks.2.2 B hD).1⟩
  · cases hz : β.Z B with
    | none => rfl
    | some o => exact absurd (h.kept B o (.inl hz)) (k o)
  · cases hz : β.F B with
    | none => rfl
    | some o => exact absurd (h.kept B o (.inr hz)) (k o)

/-- The world has gone on, the slots stand. -/
theorem Rel.go (h : Rel β ι s a w N) {hp : List (Nat × HO)} {nx : Nat} (f : Fr β.G ι s.nx w ι' nx w') (hg : Go β w w')
    (heap : ∀ b o, lk b hp = some o → RelO β.G ι' nx w' b o) (inside : ∀ b B, ι' b = .at B → B < w'.heap.size ∧ ((∃ b', ι b' = .at B) ∨ w.heap.size ≤ B))
    (inj : ∀ b b' B, ι' b = .at B → ι' b' = .at B → b = b') (dead : ∀ b, lk b hp = none → ι' b = .dead) (fresh : ∀ b, nx ≤ b → lk b hp = none) :
    Rel β ι' { s with hp := hp, nx := nx } a w' N := by
  refine ⟨⟨hg.os.trans h.env.1, hg.tape.trans h.env.2.1, hg.output.trans h.env.2.2.1, Nat.le_trans h.env.2.2.2 hg.size⟩, fun B o hz => ?_, h.apart, h.size, ⟨h.marks.1, h.marks.2.1, fun D hD => ?_⟩, fun t d ht => ⟨(h.slots t d ht).1, f.relD (h.slots t d ht).2⟩, fun t d ht => f.relD (h.ghosts t d ht), heap, fun b B hb => ?_, inj, dead, fresh, fun B hB => ?_⟩
  · have := h.kept B o hz
    refine (hg.same B (getElem?_lt this) (fun hQ => ?_)).trans this
    rcases hz with hz | hz
    · rw [hQ.1] at hz; cases hz
    · rw [hQ.2.1] at hz; cases hz
  · obtain ⟨h1, h2⟩ := h.marks.2.2 D hD
    exact ⟨(hg.same D (getElem?_lt h1) (fun hQ => hQ.2.2 hD)).trans h1, h2⟩
  · obtain ⟨h1, h2⟩ := inside b B hb
    refine ⟨h1, ?_⟩
    rcases h2 with ⟨b', hb'⟩ | h2
    · exact (h.inside b' B hb').2
    · exact h.out h2
  · rcases hB with ⟨b, hb⟩ | hB
    · rcases (inside b B hb).2 with h2 | h2
      · exact h.gr B (.inl h2)
      · exact h.gr B (.inr h2)
    · exact h.gr B (.inr (Nat.le_trans hg.size hB))

/-! ### A block is given up -/
def kill (ι : Nat → Loc) (b : Nat) : Nat → Loc := fun x => if x = b then .dead else ι x
theorem Fr.kill (G : Nat → Prop) (ι : Nat → Loc) (nx : Nat) (w : World) (b : Nat) : Fr G ι nx w (kill ι b) nx w := by
  refine ⟨Nat.le_refl _, fun B h => ⟨⟨h.1, fun x hx => ?_⟩, rfl⟩, fun x _ => ?_⟩
  · by_cases e : x = b
    · simp [Sx.kill, e] at hx
    · simp only [Sx.kill, if_neg e] at hx
      exact h.2 x hx
  · by_cases e : x = b
    · exact .inl (by simp [Sx.kill, e])
    · exact .inr ⟨by simp [Sx.kill, e], fun B _ C t h => ⟨C, h, rfl⟩⟩
theorem Rel.kill (h : Rel β ι s a w N) (b : Nat) : Rel β (kill ι b) { s with hp := dl b s.hp } a w N := by
  refine h.go (Fr.kill β.G ι s.nx w b) (Go.refl _ _) (fun x o hx => ?_) (fun x B hx => ?_) (fun x y B hx hy => ?_) (fun x hx => ?_) (fun x hx => ?_)
  · rw [lk_dl] at hx
    by_cases e : x = b
    · simp [e] at hx
    · simp only [if_neg e] at hx
      exact (Fr.kill β.G ι s.nx w b).relO (h.heap x o hx) (by simp [Sx.kill, e]) (fun _ _ => rfl)
  · by_cases e : x = b
    · simp [Sx.kill, e] at hx
    · simp only [Sx.kill, if_neg e] at hx
      exact ⟨(h.inside x B hx).1, .inl ⟨x, hx⟩⟩
  · by_cases e : x = b
    · simp [Sx.kill, e] at hx
    · by_cases e' : y = b
      · simp [Sx.kill, e'] at hy
      · simp only [Sx.kill, if_neg e] at hx
        simp only [Sx.kill, if_neg e'] at hy
        exact h.inj x y B hx hy
  · rw [lk_dl] at hx
    by_cases e : x = b
    · simp [Sx.kill, e]
    · simp only [if_neg e] at hx
      simpa [Sx.kill, e] using h.dead x hx
  · rw [lk_dl]
    split
    · rfl
    · exact h.fresh x hx

/-! ### A new block -/
def name (ι : Nat → Loc) (b : Nat) (l : Loc) : Nat → Loc := fun x => if x = b then l else ι x
theorem Fr.new (h : Rel β ι s a w N) (ob : Obj) : Fr β.G ι s.nx w (name ι s.nx (.at w.heap.size)) (s.nx + 1) (w.alloc ob) := by
  refine ⟨Nat.le_succ _, fun B hB => ⟨⟨⟨by rw [World.size_alloc]; exact Nat.lt_succ_of_lt hB.1.1, hB.1.2⟩, fun x hx => ?_⟩, Below.heap_alloc _ _ _ hB.1.1⟩, fun x hx => .inr ⟨by simp only [name]; rw [if_neg (by omega)], fun B hB C' t' hC => ⟨C', ?_, rfl⟩⟩⟩
  · by_cases e : x = s.nx
    · simp only [name, if_pos e] at hx
      injection hx with hx
      have := hB.1.1
      omega
    · simp only [name, if_neg e] at hx
      exact hB.2 x hx
  · rw [Below.heap_alloc _ _ _ (getElem?_lt hC)]
    exact hC
theorem Rel.newObj (h : Rel β ι s a w N) (ob : Obj) {o : HO} (ho : ∀ ι' w', Fr β.G ι s.nx w ι' (s.nx + 1) w' → ι' s.nx = .at w.heap.size → w'.heap[w.heap.size]? = some ob → RelO β.G ι' (s.nx + 1) w' s.nx o) :
    Rel β (name ι s.nx (.at w.heap.size)) { s with hp := (s.nx, o) :: s.hp, nx := s.nx + 1 } a (w.alloc ob) N := by
  have f := Fr.new h ob
  refine h.go f (Go.alloc β w ob) (fun x o' hx => ?_) (fun x B hx => ?_) (fun x y B hx hy => ?_) (fun x hx => ?_) (fun x hx => ?_)
  · simp only [lk] at hx
    by_cases e : x = s.nx
    · simp only [if_pos e] at hx
      injection hx with hx
      subst hx
      subst e
      exact ho _ _ f (by simp [name]) (by show (w.heap.push ob)[w.heap.size]? = some ob; simp)
    · simp only [if_neg e] at hx
      exact f.relO (h.heap x o' hx) (by simp [name, e]) (fun B hB => Below.heap_alloc _ _ _ (h.inside x B hB).1)
  · by_cases e : x = s.nx
    · simp only [name, if_pos e] at hx
      injection hx with hx
      subst hx
      exact ⟨by simp, .inr (Nat.le_refl _)⟩
    · simp only [name, if_neg e] at hx
      have := h.inside x B hx
      exact ⟨by rw [World.size_alloc]; omega, .inl ⟨x, hx⟩⟩
  · by_cases e : x = s.nx
    · by_cases e' : y = s.nx
      · exact e.trans e'.symm
      · simp only [name, if_pos e] at hx
        simp only [name, if_neg e'] at hy
        injection hx with hx
        have := (h.inside y B hy).1
        omega
    · by_cases e' : y = s.nx
      · simp only [name, if_neg e] at hx
        simp only [name, if_pos e'] at hy
        injection hy with hy
        have := (h.inside x B hx).1
        omega
      · simp only [name, if_neg e] at hx
        simp only [name, if_neg e'] at hy
        exact h.inj x y B hx hy
  · simp only [lk] at hx
    by_cases e : x = s.nx
    · simp [e] at hx
    · simp only [if_neg e] at hx
      simpa [name, e] using h.dead x hx
  · simp only [lk]
    rw [if_neg (by omega)]
    exact h.fresh x (by omega)

theorem Rel.new (h : Rel β ι s a w N) (C : Array Value) (t : TypeId) {o : HO} (ho : ∀ ι' w', Fr β.G ι s.nx w ι' (s.nx + 1) w' → ι' s.nx = .at w.heap.size → w'.heap[w.heap.size]? = some (.cells C t (0, 0)) → RelO β.G ι' (s.nx + 1) w' s.nx o) :
    Rel β (name ι s.nx (.at w.heap.size)) { s with hp := (s.nx, o) :: s.hp, nx := s.nx + 1 } a (w.alloc (.cells C t)) N := h.newObj _ ho

/-- A row that is not there yet: nil. -/
theorem Rel.newNil (h : Rel β ι s a w N) (t : TypeId) (size : Nat) : Rel β (name ι s.nx .nil) { s with hp := (s.nx, .row t size []) :: s.hp, nx := s.nx + 1 } a w N := by
  have f : Fr β.G ι s.nx w (name ι s.nx .nil) (s.nx + 1) w := by
    refine ⟨Nat.le_succ _, fun B hB => ⟨⟨hB.1, fun x hx => ?_⟩, rfl⟩, fun x hx => .inr ⟨by simp only [name]; rw [if_neg (by omega)], fun B hB C' t' hC => ⟨C', hC, rfl⟩⟩⟩
    by_cases e : x = s.nx
    · simp [name, e] at hx
    · simp only [name, if_neg e] at hx
      exact hB.2 x hx
  refine h.go f (Go.refl _ _) (fun x o' hx => ?_) (fun x B hx => ?_) (fun x y B hx hy => ?_) (fun x hx => ?_) (fun x hx => ?_)
  · simp only [lk] at hx
    by_cases e : x = s.nx
    · simp only [if_pos e] at hx
      injection hx with hx
      subst hx
      subst e
      exact .nil t size (by simp [name])
    · simp only [if_neg e] at hx
      exact f.relO (h.heap x o' hx) (by simp [name, e]) (fun _ _ => rfl)
  · by_cases e : x = s.nx
    · simp [name, e] at hx
    · simp only [name, if_neg e] at hx
      exact ⟨(h.inside x B hx).1, .inl ⟨x, hx⟩⟩
  · by_cases e : x = s.nx
    · simp [name, e] at hx
    · by_cases e' : y = s.nx
      · simp [name, e'] at hy
      · simp only [name, if_neg e] at hx
        simp only [name, if_neg e'] at hy
        exact h.inj x y B hx hy
  · simp only [lk] at hx
    by_cases e : x = s.nx
    · simp [e] at hx
    · simp only [if_neg e] at hx
      simpa [name, e] using h.dead x hx
  · simp only [lk]
    rw [if_neg (by omega)]
    exact h.fresh x (by omega)

/-! ### A block is written -/
/-- Block B is another now; cells are as many as before. -/
theorem Rel.writeObj (h : Rel β ι s a w N) {b B : Nat} {ob ob' : Obj} (hb : ι b = .at B) (hC : w.heap[B]? = some ob) (hC' : w'.heap[B]? = some ob') (hsz : ∀ C t, ob = .cells C t (0, 0) → ∃ C', ob' = .cells C' t (0, 0) ∧ C'.size = C.size)
    (hw : ∀ k, k < w.heap.size → k ≠ B → w'.heap[k]? = w.heap[k]?) (hos : w'.os = w.os) (htp : w'.tape = w.tape) (hout : w'.output = w.output) (hz : w.heap.size ≤ w'.heap.size) {o : HO}
    (ho : Fr β.G ι s.nx w ι s.nx w' → RelO β.G ι s.nx w' b o) : Rel β ι { s with hp := up b o s.hp } a w' N := by
  have f : Fr β.G ι s.nx w ι s.nx w' := by
    refine ⟨Nat.le_refl _, fun K hK => ⟨⟨⟨Nat.lt_of_lt_of_le hK.1.1 hz, hK.1.2⟩, hK.2⟩, hw K hK.1.1 (fun e => hK.2 b (by rw [e]; exact hb))⟩, fun x hx => .inr ⟨rfl, fun K hK C1 t1 hC1 => ?_⟩⟩
    by_cases e : K = B
    · subst e
      rw [hC] at hC1
      injection hC1 with hC1
      obtain ⟨C2, e1, e2⟩ := hsz C1 t1 hC1
      exact ⟨C2, hC'.trans (by rw [e1]), e2⟩
    · exact ⟨C1, (hw K (h.inside x K hK).1 e).trans hC1, rfl⟩
  have hbl : b < s.nx := by
    rcases Nat.lt_or_ge b s.nx with h1 | h1
    · exact h1
    · have := h.dead b (h.fresh b h1)
      simp [this] at hb
  refine h.go f ⟨hos, htp, hout, hz, fun k hk hzf => hw k hk (fun e => by subst e; exact hzf (h.inside b k hb).2)⟩ (fun x o' hx => ?_) (fun x K hx => ?_) h.inj (fun x hx => ?_) (fun x hx => ?_)
  · rw [lk_up] at hx
    by_cases e : x = b
    · simp only [if_pos e] at hx
      injection hx with hx
      subst hx
      subst e
      exact ho f
    · simp only [if_neg e] at hx
      exact f.relO (h.heap x o' hx) rfl (fun K hK => hw K (h.inside x K hK).1 (fun e1 => e (h.inj x b B (by rw [← e1]; exact hK) hb)))
  · have := h.inside x K hx
    exact ⟨Nat.lt_of_lt_of_le this.1 hz, .inl ⟨x, hx⟩⟩
  · rw [lk_up] at hx
    by_cases e : x = b
    · simp [e] at hx
    · simp only [if_neg e] at hx
      exact h.dead x hx
  · rw [lk_up, if_neg (by omega)]
    exact h.fresh x hx

/-- Block B's cells are others now, as many as before. -/
theorem Rel.write (h : Rel β ι s a w N) {b B : Nat} {C C' : Array Value} {t : TypeId} (hb : ι b = .at B) (hC : w.heap[B]? = some (.cells C t (0, 0))) (hC' : w'.heap[B]? = some (.cells C' t (0, 0))) (hsz : C'.size = C.size)
    (hw : ∀ k, k < w.heap.size → k ≠ B → w'.heap[k]? = w.heap[k]?) (hos : w'.os = w.os) (htp : w'.tape = w.tape) (hout : w'.output = w.output) (hz : w.heap.size ≤ w'.heap.size) {o : HO}
    (ho : Fr β.G ι s.nx w ι s.nx w' → RelO β.G ι s.nx w' b o) : Rel β ι { s with hp := up b o s.hp } a w' N :=
  h.writeObj hb hC hC' (fun C1 t1 e => by injection e with e1 e2; subst e1; subst e2; exact ⟨C', rfl, hsz⟩) hw hos htp hout hz ho

/-- Orders have been drawn. -/
theorem Rel.drew (h : Rel β ι s a w N) : Rel β ι s a { w with drawn := w.drawn + 1 } N := by
  have f : Fr β.G ι s.nx w ι s.nx { w with drawn := w.drawn + 1 } := ⟨Nat.le_refl _, fun B hB => ⟨hB, rfl⟩, fun b _ => .inr ⟨rfl, fun B _ C t hC => ⟨C, hC, rfl⟩⟩⟩
  exact h.go f ⟨rfl, rfl, rfl, Nat.le_refl _, fun _ _ _ => rfl⟩ (fun b o hb => f.relO (h.heap b o hb) rfl (fun _ _ => rfl)) (fun b B hb => ⟨(h.inside b B hb).1, .inl ⟨b, hb⟩⟩) h.inj h.dead h.fresh

end Go.Proofs.Ytbkkekbeaabokaa.Sx
