/- Sy, part L: regions and the code over the state, in an activation of a function or in a round of a loop over a function; a function's contract out of its code. -/
import Derived.Test.YtbkkekbeaabokaaSyK
import Derived.RangeFuncNested
import Derived.OrdersIn
set_option linter.unusedVariables false
set_option linter.unusedSimpArgs false
namespace Go.Proofs.Ytbkkekbeaabokaa.Sx
open Go Go.RowKit

variable {P : Program} {β : Bs} {G G' : Nat → Prop} {w w' : World} {ι ι' : Nat → Loc} {s s' : S} {a : Act} {N : Nat}

def S.put (s : S) (dst : Option Nat) (d : D) : S := match dst with
  | none => s
  | some t => { s with sl := up t d s.sl }
def dstOk (dst : Option Nat) (N : Nat) : Bool := match dst with
  | none => true
  | some t => decide (t < N)
theorem Rel.putO (h : Rel β ι s a w N) {dst : Option Nat} {d : D} {v : Value} (hd : dstOk dst N = true) (hr : RelD β.G ι s.nx w d v) : Rel β ι (s.put dst d) (a.put dst v) w N := by
  cases dst with
  | none => exact h
  | some t => exact h.put t (by simpa [dstOk] using hd) hr
@[simp] theorem S.put_st (s : S) (dst : Option Nat) (d : D) : (s.put dst d).st = s.st := by cases dst <;> rfl

/-! ### Where a call stands, and where it is -/
/-- What holds of a call from its begin to its end. Θ i F: when i elements have been handed over, another's blocks are as F says. -/
structure Sit where
  Θ : Nat → (Nat → Option Obj) → Prop
  V : Nat → Prop
  Z : Nat → Option Obj
  e : World
  gv : Nat → Value
  dfs : List Deferred
def Sit.at (σ : Sit) (F : Nat → Option Obj) (Ds : List Nat) : Bs := { S := σ.V, Z := σ.Z, F := F, Ds := Ds, e := σ.e, gv := σ.gv, dfs := σ.dfs }
def At (σ : Sit) (s : S) (a : Act) (w : World) (N : Nat) : Prop := ∃ ι F Ds, σ.Θ s.st F ∧ Rel (σ.at F Ds) ι s a w N
theorem Ent.at {σ : Sit} (h : Ent s s') (k : At σ s a w N) : At σ s' a w N := by
  obtain ⟨ι, F, Ds, h1, h2⟩ := k
  obtain ⟨ι', h3⟩ := h.go _ ι a w N h2
  exact ⟨ι', F, Ds, by rw [h.st]; exact h1, h3⟩

/-- What one round keeps and makes. -/
structure Turn (F F' : Nat → Option Obj) (W W' : World) : Prop where
  os : W'.os = W.os
  tape : W'.tape = W.tape
  output : W'.output = W.output
  size : W.heap.size ≤ W'.heap.size
  same : ∀ B, B < W.heap.size → F B = none → W'.heap[B]? = W.heap[B]?
  has : ∀ B o, F' B = some o → W'.heap[B]? = some o
  new : ∀ B, F' B ≠ none → F B ≠ none ∨ W.heap.size ≤ B
/-- What may be asked of the yield of loop l: the elements xs come in turn. -/
def YR (P : Program) (σ : Sit) (l : Nat) (xs : List (List Dat)) : Prop :=
  ∀ (i : Nat) (x : List Dat) (F : Nat → Option Obj) (W : World) (vs : List Value), σ.Θ i F → (∀ B o, (σ.Z B = some o ∨ F B = some o) → W.heap[B]? = some o) → (W.os = σ.e.os ∧ W.tape = σ.e.tape ∧ W.output = σ.e.output ∧ σ.e.heap.size ≤ W.heap.size) →
    xs[i]? = some x → vs.length = x.length → (∀ j e, x[j]? = some e → DatR (fun B => B < W.heap.size ∧ F B = none) W e (vs.getD j undef)) →
    YieldAt Fence.wide 0 P l vs.toArray W fun e W' => ∃ F', Turn F F' W W' ∧ ((e = .returned (.bool true) ∧ σ.Θ (i + 1) F') ∨ (e = .returned (.bool false) ∧ σ.Θ (xs.length + 1) F'))
/-- In which loop's round one is; whose yield one may call. -/
structure Pr where
  round : Option Nat := none
  y : Option (Nat × List (List Dat)) := none
structure Pr.Ok (P : Program) (pr : Pr) (σ : Sit) : Prop where
  loop : ∀ l, pr.round = some l → ∃ r, σ.Z l = some (.loop r)
  yield : ∀ l xs, pr.y = some (l, xs) → YR P σ l xs
def FW (ρ : Option Nat) : Fence := { Fence.wide with round := ρ }
theorem room_FW (ρ : Option Nat) (n : Nat) : (FW ρ).room n := room_wide n
theorem depth_FW (ρ : Option Nat) {k : Nat} : (FW ρ).depth.isSome = true → 1 ≤ k := fun h => by cases h
theorem callsFW {ρ : Option Nat} {n : Nat} {f : FuncId} {args : Array Value} {R : Ending → World → Prop} (h : Calls P f args w R) : CallsIn (FW ρ) n P f args w R := callsIn_wide.2 h

theorem mp_id : ∀ d : D, mp some d = some d := by
  intro d
  induction d using D.rec (motive_2 := fun l => mpL some l = some l) with
  | dat d => rfl
  | own b n l => rfl
  | vw b n o l => rfl
  | ptr b o => rfl
  | ept b n i j => rfl
  | fn g cs ih => simp [mp, ih]
  | agg cs ih => simp [mp, ih]
  | tup cs ih => simp [mp, ih]
  | mapb b => rfl
  | bad => rfl
  | nil => rfl
  | cons d r ih1 ih2 => simp [mpL, ih1, ih2]
theorem mpL_id (l : List D) : mpL some l = some l := by
  induction l with
  | nil => rfl
  | cons d r ih => simp [mpL, mp_id, ih]
theorem mpO_id (o : HO) : mpO some o = some o := by
  have hL := mpL_id
  have hLL : ∀ l, mpLL some l = some l := by
    intro l
    induction l with
    | nil => rfl
    | cons d r ih => simp [mpLL, hL, ih]
  cases o with
  | var cs => simp [mpO, hL]
  | row t n es => rfl
  | rowD t n es => simp [mpO, hLL]
  | map es => rfl

/-- From one ground to another, over a stretch in which what is ok in both stays. -/
theorem Rel.turn (h : Rel β ι s a w N) {F' : Nat → Option Obj} (t : Turn β.F F' w w') : Rel { β with F := F' } ι s a w' N := by
  have hF' : ∀ B, B < w.heap.size → β.F B = none → F' B = none := by
    intro B hB h0
    cases hq : F' B with
    | none => rfl
    | some o => rcases t.new B (by rw [hq]; simp) with h1 | h1
                · exact absurd h0 h1
                · omega
  have r1 : Ren some β.G ι s.nx (fun B => β.G B ∧ F' B = none) ι s.nx w := ⟨fun B hB => ⟨⟨hB.1.1, hB.1.2, hF' B hB.1.1 hB.1.2.2.1⟩, hB.2⟩, fun b b' hb e => by injection e with e; subst e; exact ⟨hb, rfl⟩⟩
  have f : Fr (fun B => β.G B ∧ F' B = none) ι s.nx w ι s.nx w' := ⟨Nat.le_refl _, fun B hB => ⟨⟨⟨Nat.lt_of_lt_of_le hB.1.1 t.size, hB.1.2⟩, hB.2⟩, t.same B hB.1.1 hB.1.2.1.2.1⟩, fun b _ => .inr ⟨rfl, fun B hB C ty hC => ⟨C, (t.same B (h.inside b B hB).1 (h.inside b B hB).2.2.1).trans hC, rfl⟩⟩⟩
  have r2 : Ren some (fun B => β.G B ∧ F' B = none) ι s.nx ({ β with F := F' } : Bs).G ι s.nx w' := ⟨fun B hB => ⟨⟨hB.1.1, hB.1.2.1.1, hB.1.2.2, hB.1.2.1.2.2⟩, hB.2⟩, fun b b' hb e => by injection e with e; subst e; exact ⟨hb, rfl⟩⟩
  have rd : ∀ {d v}, RelD β.G ι s.nx w d v → RelD ({ β with F := F' } : Bs).G ι s.nx w' d v := fun hd => r2.relD (f.relD (r1.relD hd (mp_id _))) (mp_id _)
  have ro : ∀ {b o}, RelO β.G ι s.nx w b o → RelO ({ β with F := F' } : Bs).G ι s.nx w' b o := fun {b o} hd =>
    r2.relO (f.relO (r1.relO hd rfl (mpO_id _)) rfl (fun B hB => t.same B (h.inside b B hB).1 (h.inside b B hB).2.2.1)) rfl (mpO_id _)
  refine ⟨⟨t.os.trans h.env.1, t.tape.trans h.env.2.1, t.output.trans h.env.2.2.1, Nat.le_trans h.env.2.2.2 t.size⟩, fun B o hz => ?_, fun B hz => ?_, h.size, ⟨h.marks.1, h.marks.2.1, fun D hD => ?_⟩, fun t d ht => ⟨(h.slots t d ht).1, rd (h.slots t d ht).2⟩, fun t d ht => rd (h.ghosts t d ht), fun b o hb => ro (h.heap b o hb), fun b B hb => ?_, h.inj, h.dead, h.fresh, fun B hB => ?_⟩
  · rcases hz with hz | hz
    · have hk := h.kept B o (.inl hz)
      exact (t.same B (getElem?_lt hk) (h.apart B (by rw [hz]; simp)).1).trans hk
    · exact t.has B o hz
  · obtain ⟨h1, h2⟩ := h.apart B hz
    refine ⟨?_, h2⟩
    cases ho : β.Z B with
    | none => exact absurd ho hz
    | some o => exact hF' B (getElem?_lt (h.kept B o (.inl ho))) h1
  · obtain ⟨h1, h2⟩ := h.marks.2.2 D hD
    exact ⟨(t.same D (getElem?_lt h1) h2).trans h1, hF' D (getElem?_lt h1) h2⟩
  · obtain ⟨h1, h2⟩ := h.inside b B hb
    exact ⟨Nat.lt_of_lt_of_le h1 t.size, h2.1, hF' B h1 h2.2.1, h2.2.2⟩
  · rcases hB with hB | hB
    · exact h.gr B (.inl hB)
    · exact h.gr B (.inr (Nat.le_trans t.size hB))

/-- The contract of a call that panics with this very value. -/
structure DoesP (P : Program) (g : FuncId) (args : List Dat) (pv : Value) : Prop where
  body : Body P g
  calls : ∀ (ok : Nat → Prop) (w : World) (vs : List Value), (∀ B, ok B → B < w.heap.size) → vs.length = args.length → (∀ j e, args[j]? = some e → DatR ok w e (vs.getD j undef)) →
    Calls P g vs.toArray w fun e w' => e = .panicked [{ v := pv, recovered := false }] ∧ Below w.heap.size w w'

/-! ### A call in the state -/
inductive CallS (P : Program) (N : Nat) (g : FuncId) (args : List D) (s : S) (dst : Option Nat) (n : S → Prop) (p : Value → S → Prop) : Prop where
  | dat {ds : List Dat} {d d' : D} {h h' : List HO} (hf : Does P g ds d h) (h1 : datL args = some ds) (h2 : mp (sh s.nx) d = some d') (h3 : mpH (sh s.nx) h = some h') (h4 : dstOk dst N = true)
      (k : n ({ s with hp := enum s.nx h' ++ s.hp, nx := s.nx + h.length }.put dst d')) : CallS P N g args s dst n p
  | lend {ds : List Dat} {d : D} (hf : Does P g ds d []) (h1 : lendL s args = some ds) (h2 : flat d = true) (h4 : dstOk dst N = true) (k : n (s.put dst d)) : CallS P N g args s dst n p
  | pan {ds : List Dat} {pv : Value} (hf : DoesP P g ds pv) (h1 : lendL s args = some ds) (k : p pv s) : CallS P N g args s dst n p
  | gen (hb : Body P g) (h4 : dstOk dst N = true) (h : ∀ (β : Bs) (ι : Nat → Loc) (a : Act) (w : World) (vs : List Value), Rel β ι s a w N → vs.length = args.length → (∀ j e, args[j]? = some e → RelD β.G ι s.nx w e (vs.getD j undef)) →
      Calls P g vs.toArray w fun e w' => ∃ v d s' ι', e = .returned v ∧ s'.st = s.st ∧ Rel β ι' s' a w' N ∧ RelD β.G ι' s'.nx w' d v ∧ n (s'.put dst d)) : CallS P N g args s dst n p
/-- Yield is called. -/
inductive YieldS (pr : Pr) (N : Nat) (l : Nat) (args : List D) (s : S) (dst : Option Nat) (n : S → Prop) : Prop where
  | mk {xs : List (List Dat)} {x : List Dat} (hy : pr.y = some (l, xs)) (hx : xs[s.st]? = some x) (ha : datL args = some x) (hd : dstOk dst N = true)
      (h1 : n ({ s with st := s.st + 1 }.put dst (.dat (.val (.bool true))))) (h0 : n ({ s with st := xs.length + 1 }.put dst (.dat (.val (.bool false))))) : YieldS pr N l args s dst n

/-! ### A region, in the order of its text -/
def wantedD (ops : Array Oper) (o : Oper) (s : S) : Option Bool := match o.guard with
  | none => some true
  | some (j, want) => match (ops[j]?).bind (·.dst) with
    | some t => match lk t s.sl with
      | some (.dat (.val (.bool b))) => some (b == want)
      | some (.dat (.val (.tuple vs))) => if vs.isEmpty then some false else none
      | _ => none
    | none => none
def Step (P : Program) (pr : Pr) (N : Nat) (o : Oper) (s : S) (n : S → Prop) (p : Value → S → Prop) : Prop := match o.op with
  | .panic x => match ev s x with
    | .dat (.val (.iface t v)) => p (.iface t v) s
    | _ => False
  | op => match aop P op s with
    | .ok d s' => dstOk o.dst N = true ∧ n (s'.put o.dst d)
    | .call g args => CallS P N g args s o.dst n p
    | .yield l args => YieldS pr N l args s o.dst n
    | .nilq q1 q2 neg => dstOk o.dst N = true ∧ (q1 = true → n (s.put o.dst (.dat (.val (.bool (if neg then false else true)))))) ∧ (q2 = true → n (s.put o.dst (.dat (.val (.bool (if neg then true else false))))))
    | .stuck => False
theorem wantedD_ok (h : Rel β ι s a w N) {ops : Array Oper} {o : Oper} {q : Bool} (hq : wantedD ops o s = some q) : Region.wanted o (yielded ops a.tmps) = q := by
  unfold wantedD at hq
  unfold Region.wanted
  split at hq
  · rename_i hg
    injection hq with hq
    subst hq
    simp [hg]
  · rename_i j want hg
    simp only [hg]
    split at hq
    · rename_i t ht
      have key : ∀ v, lk t s.sl = some (.dat (.val v)) → yielded ops a.tmps j = match v with | .bool b => some b | _ => none := by
        intro v hv
        obtain ⟨hlt, hr⟩ := h.slots t _ hv
        have := val_eq hr
        unfold yielded
        rw [ht]
        simp only [Option.bind_some]
        have hlt' : t < a.tmps.size := by rw [h.size]; exact hlt
        rw [Array.getElem?_eq_getElem hlt']
        rw [Array.getD_eq_getD_getElem?, Array.getElem?_eq_getElem hlt'] at this
        simp only [Option.getD_some] at this
        rw [this]
        cases v <;> rfl
      split at hq
      · rename_i b hb
        injection hq with hq
        subst hq
        rw [key _ hb]
        cases b <;> cases want <;> rfl
      · rename_i vs hb
        split at hq
        · injection hq with hq
          subst hq
          rw [key _ hb]
          rfl
        · cases hq
      · cases hq
    · cases hq

/-- Where the machine comes to. -/
def PostN (σ : Sit) (N : Nat) (n : S → Prop) : Act → World → Prop := fun a w => ∃ s, n s ∧ At σ s a w N
def PostP (σ : Sit) (N : Nat) (p : Value → S → Prop) : List PanicEntry → Act → World → Prop := fun chain a w => ∃ v s, chain = [{ v := v, recovered := false }] ∧ p v s ∧ At σ s a w N

theorem Rel.below (h : Rel β ι s a w N) (hb : Below w.heap.size w w') : Rel β ι s a w' N := by
  have f : Fr β.G ι s.nx w ι s.nx w' := ⟨Nat.le_refl _, fun B hB => ⟨⟨⟨Nat.lt_of_lt_of_le hB.1.1 hb.size, hB.1.2⟩, hB.2⟩, hb.block B hB.1.1⟩, fun b hbl => .inr ⟨rfl, fun B hB C t hC => ⟨C, (hb.block B (h.inside b B hB).1).trans hC, rfl⟩⟩⟩
  exact h.go f (Go.below hb) (fun x o hx => f.relO (h.heap x o hx) rfl (fun B hB => hb.block B (h.inside x B hB).1)) (fun x B hx => ⟨Nat.lt_of_lt_of_le (h.inside x B hx).1 hb.size, .inl ⟨x, hx⟩⟩) h.inj h.dead h.fresh

/-- One operation, in its own place. -/
theorem step_ok {σ : Sit} {pr : Pr} (hσ : pr.Ok P σ) (hA : At σ s a w N) {o : Oper} {n : S → Prop} {p : Value → S → Prop} (hs : Step P pr N o s n p) {next : Act → World → Prop} {Q : Exit → Act → World → Prop} (hn : ∀ a w, PostN σ N n a w → next a w) (hp : ∀ chain a w, PostP σ N p chain a w → Q (.panic chain) a w) :
    o.wpIn (FW pr.round) 0 P a w next Q := by
  obtain ⟨ι, F, Ds, hΘ, h⟩ := hA
  have hsem : (∀ c, o.op ≠ .defer c) → (o.semAt (FW pr.round).round a.eval).run P w = (execOp a.eval o).run P w := fun hd => by rw [Oper.semAt_eq _ _ _ hd]
  refine ⟨fun _ _ => trivial, ?_⟩
  have nop : ∀ {d : D} {s' : S}, (∀ c, o.op ≠ .defer c) → s'.st = s.st → Good (σ.at F Ds) P o a w N d s' → dstOk o.dst N = true → n (s'.put o.dst d) → o.uponIn (FW pr.round) 0 P a next Q ((o.semAt (FW pr.round).round a.eval).run P w) := by
    intro d s' hnd hst ⟨v, w', ι', hr, hR, hD⟩ hd hk
    rw [hsem hnd]
    rcases hr with hr | ⟨hr, rfl⟩
    · rw [hr]
      exact hn _ _ ⟨_, hk, ι', F, Ds, by rw [S.put_st, hst]; exact hΘ, hR.putO hd hD⟩
    · rw [hr]
      exact hn _ _ ⟨_, hk, ι', F, Ds, by rw [S.put_st, hst]; exact hΘ, hR.putO hd hD⟩
  unfold Step at hs
  split at hs
  · rename_i x hop
    split at hs
    · rename_i t v he
      have hx := ev_rel h x
      rw [he] at hx
      have hv := val_eq hx
      have : (execOp a.eval o).run P w = .halt (.panic (.iface t v)) w := by
        unfold execOp
        simp only [hop, hv, Instr.panic]
        simp [Result.andThen]
      rw [hsem (fun c e => by rw [hop] at e; cases e), this]
      exact hp _ _ _ ⟨_, s, rfl, hs, ι, F, Ds, hΘ, h⟩
    · exact hs.elim
  · have hnd : aop P o.op s ≠ .stuck → ∀ c, o.op ≠ .defer c := fun hne c e => hne (by rw [e]; rfl)
    split at hs
    · rename_i d s' ha
      exact nop (hnd (by rw [ha]; simp)) (aop_keeps ha).2.2 (aop_ok h ha) hs.1 hs.2
    · rename_i g args ha
      rw [hsem (hnd (by rw [ha]; simp))]
      cases hs with
      | dat hf h1 h2 h3 h4 k =>
        obtain ⟨vs, hl, hU, hr⟩ := aop_call h ha hf.body
        rw [hr]
        obtain ⟨e1, e2⟩ := datL_rel hU h1
        refine ⟨depth_FW _, callsFW (Calls.mono (hf.calls (okB (σ.at F Ds).G ι w) w vs (fun B hB => hB.1.1) (hl.trans e1.symm) e2) ?_)⟩
        rintro e w' ⟨v, ι1, rfl, hb, hH, hD⟩
        obtain ⟨hR, hD'⟩ := h.back hb hH hD (fun B hB _ => hB) h2 h3
        exact hn _ _ ⟨_, k, _, F, Ds, by rw [S.put_st]; exact hΘ, hR.putO h4 hD'⟩
      | lend hf h1 h2 h4 k =>
        obtain ⟨vs, hl, hU, hr⟩ := aop_call h ha hf.body
        rw [hr]
        obtain ⟨e1, e2⟩ := lendL_rel h hU h1
        refine ⟨depth_FW _, callsFW (Calls.mono (hf.calls (fun B => B < w.heap.size ∧ (σ.at F Ds).F B = none) w vs (fun B hB => hB.1) (hl.trans e1.symm) e2) ?_)⟩
        rintro e w' ⟨v, ι1, rfl, hb, hH, hD⟩
        exact hn _ _ ⟨_, k, ι, F, Ds, by rw [S.put_st]; exact hΘ, (h.below hb).putO h4 (flat_rel h2 hD)⟩
      | pan hf h1 k =>
        obtain ⟨vs, hl, hU, hr⟩ := aop_call h ha hf.body
        rw [hr]
        obtain ⟨e1, e2⟩ := lendL_rel h hU h1
        refine ⟨depth_FW _, callsFW (Calls.mono (hf.calls (fun B => B < w.heap.size ∧ (σ.at F Ds).F B = none) w vs (fun B hB => hB.1) (hl.trans e1.symm) e2) ?_)⟩
        rintro e w' ⟨rfl, hb⟩
        exact hp _ _ _ ⟨_, s, rfl, k, ι, F, Ds, hΘ, h.below hb⟩
      | gen hb h4 hf =>
        obtain ⟨vs, hl, hU, hr⟩ := aop_call h ha hb
        rw [hr]
        refine ⟨depth_FW _, callsFW (Calls.mono (hf _ ι a w vs h hl hU) ?_)⟩
        rintro e w' ⟨v, d, s', ι', rfl, hst, hR, hD, k⟩
        exact hn _ _ ⟨_, k, ι', F, Ds, by rw [S.put_st, hst]; exact hΘ, hR.putO h4 hD⟩
    · rename_i l args ha
      rw [hsem (hnd (by rw [ha]; simp))]
      cases hs with
      | @mk xs x hy hx hda hd h1 h0 =>
        obtain ⟨vs, hl, hU, hr⟩ := aop_yield h ha
        rw [hr]
        obtain ⟨e1, e2⟩ := datL_rel hU hda
        have hyr := hσ.yield _ _ hy s.st _ F w vs hΘ h.kept h.env hx (hl.trans e1.symm) (fun j e hj => (e2 j e hj).mono (fun B hB => ⟨hB.1.1, hB.1.2.2.1⟩) (fun _ _ => rfl))
        obtain ⟨fn, tmps, assign, body, hyy, hR⟩ := hyr
        rw [hyy]
        refine ⟨depth_FW _, ?_⟩
        refine RoundIn.mono (F := FW pr.round) (n := 0) hR ?_
        rintro e w' ⟨F', ht, (⟨rfl, hθ⟩ | ⟨rfl, hθ⟩)⟩
        · have hR' := Rel.turn (β := σ.at F Ds) h ht
          exact hn _ _ ⟨_, h1, ι, F', Ds, by rw [S.put_st]; exact hθ, (show Rel (σ.at F' Ds) ι { s with st := s.st + 1 } a w' N from ⟨hR'.env, hR'.kept, hR'.apart, hR'.size, hR'.marks, hR'.slots, hR'.ghosts, hR'.heap, hR'.inside, hR'.inj, hR'.dead, hR'.fresh, hR'.gr⟩).putO hd (.dat (.val _))⟩
        · have hR' := Rel.turn (β := σ.at F Ds) h ht
          exact hn _ _ ⟨_, h0, ι, F', Ds, by rw [S.put_st]; exact hθ, (show Rel (σ.at F' Ds) ι { s with st := xs.length + 1 } a w' N from ⟨hR'.env, hR'.kept, hR'.apart, hR'.size, hR'.marks, hR'.slots, hR'.ghosts, hR'.heap, hR'.inside, hR'.inj, hR'.dead, hR'.fresh, hR'.gr⟩).putO hd (.dat (.val _))⟩
    · rename_i q1 q2 neg ha
      obtain ⟨q, hq, hg⟩ := aop_nilq h ha
      obtain ⟨hd, k1, k2⟩ := hs
      refine nop (hnd (by rw [ha]; simp)) rfl hg hd ?_
      rcases hq with ⟨rfl, hq⟩ | ⟨rfl, hq⟩
      · have := k1 hq
        cases neg <;> simpa using this
      · have := k2 hq
        cases neg <;> simpa using this
    · exact hs.elim

/-- The operations of these places, one behind the other, whatever comes behind them. -/
def TOps (P : Program) (pr : Pr) (N : Nat) (ops : Array Oper) (is : List Nat) (s : S) (n : S → Prop) (p : Value → S → Prop) : Prop :=
  ∀ (σ : Sit) (Q : Exit → Act → World → Prop) (rest : List Nat), pr.Ok P σ → (∀ a w, PostN σ N n a w → wpOpsIn (FW pr.round) 0 P ops Q rest a w) → (∀ chain a w, PostP σ N p chain a w → Q (.panic chain) a w) →
    ∀ (a : Act) (w : World), At σ s a w N → wpOpsIn (FW pr.round) 0 P ops Q (is ++ rest) a w

section
variable {pr : Pr} {ops : Array Oper} {o : Oper} {i : Nat} {r is1 is2 : List Nat} {n : S → Prop} {p : Value → S → Prop}
theorem T_end (h : n s) : TOps P pr N ops [] s n p := fun σ Q rest hσ hn hp a w hR => hn a w ⟨s, h, hR⟩
theorem T_opsEnt {s2 : S} (hE : Ent s s2) (h : TOps P pr N ops r s2 n p) : TOps P pr N ops r s n p := fun σ Q rest hσ hn hp a w hR => h σ Q rest hσ hn hp a w (hE.at hR)
theorem T_opsM (M : S → Prop) (h1 : TOps P pr N ops is1 s M p) (h2 : ∀ s', M s' → TOps P pr N ops is2 s' n p) : TOps P pr N ops (is1 ++ is2) s n p := by
  intro σ Q rest hσ hn hp a w hR
  rw [List.append_assoc]
  exact h1 σ Q (is2 ++ rest) hσ (fun a w ⟨s', hk, hR'⟩ => h2 s' hk σ Q rest hσ hn hp a w hR') hp a w hR
theorem T_opsCut (s1 : S) (h1 : TOps P pr N ops is1 s (fun s' => Ent s' s1) p) (h2 : TOps P pr N ops is2 s1 n p) : TOps P pr N ops (is1 ++ is2) s n p := T_opsM _ h1 fun _ h => T_opsEnt h h2
theorem T_opsMono {n' : S → Prop} (hk : ∀ s, n s → n' s) (h : TOps P pr N ops r s n p) : TOps P pr N ops r s n' p := fun σ Q rest hσ hn hp a w hR => h σ Q rest hσ (fun a w ⟨s', h, hR'⟩ => hn a w ⟨s', hk _ h, hR'⟩) hp a w hR

theorem wantedA {σ : Sit} (hA : At σ s a w N) {q : Bool} (hq : wantedD ops o s = some q) : Region.wanted o (yielded ops a.tmps) = q := by
  obtain ⟨ι, F, Ds, _, h⟩ := hA
  exact wantedD_ok h hq
theorem At.putU {σ : Sit} (hA : At σ s a w N) {dst : Option Nat} (hd : dstOk dst N = true) : At σ (s.put dst (.dat (.val (.tuple #[])))) (a.put dst undef) w N := by
  obtain ⟨ι, F, Ds, hΘ, h⟩ := hA
  exact ⟨ι, F, Ds, by rw [S.put_st]; exact hΘ, h.putO hd (.dat (.val undef))⟩
theorem T_go (ho : ops[i]? = some o) (hw : wantedD ops o s = some true) (h : ∀ c : S → Prop, (∀ s, TOps P pr N ops r s n p → c s) → Step P pr N o s c p) : TOps P pr N ops (i :: r) s n p := by
  intro σ Q rest hσ hn hp a w hR
  simp only [List.cons_append, wpOpsIn, ho, wantedA hR hw, if_true]
  exact step_ok hσ hR (h _ fun _ h => h) (fun a w ⟨s', hk, hR'⟩ => hk σ Q rest hσ hn hp a w hR') hp
theorem T_pass (ho : ops[i]? = some o) (hw : wantedD ops o s = some false) (hd : dstOk o.dst N = true) (h : TOps P pr N ops r (s.put o.dst (.dat (.val (.tuple #[])))) n p) : TOps P pr N ops (i :: r) s n p := by
  intro σ Q rest hσ hn hp a w hR
  simp only [List.cons_append, wpOpsIn, ho, wantedA hR hw, Bool.false_eq_true, if_false]
  exact ⟨fun _ _ => trivial, h σ Q rest hσ hn hp _ w (hR.putU hd)⟩
end

/-! ### The code -/
inductive Ex where
  | normal | ret
  | exit (id : Nat)
  | panic (v : Value)
def thenK (n : S → Prop) (K : Ex → S → Prop) : Ex → S → Prop
  | .normal, s => n s
  | .ret, s => K .ret s
  | .exit i, s => K (.exit i) s
  | .panic v, s => K (.panic v) s
def blockK (id : Nat) (K : Ex → S → Prop) : Ex → S → Prop
  | .normal, s => K .normal s
  | .ret, s => K .ret s
  | .exit i, s => if i = id then K .normal s else K (.exit i) s
  | .panic v, s => K (.panic v) s
def PostK (σ : Sit) (N : Nat) (K : Ex → S → Prop) : Exit → Act → World → Prop
  | .normal, a, w => ∃ s, K .normal s ∧ At σ s a w N
  | .ret, a, w => ∃ s, K .ret s ∧ At σ s a w N
  | .exit i, a, w => ∃ s, K (.exit i) s ∧ At σ s a w N
  | .panic chain, a, w => ∃ v s, chain = [{ v := v, recovered := false }] ∧ K (.panic v) s ∧ At σ s a w N
  | _, _, _ => False

/-- The code, walked from a machine that is in the state s. -/
def TCode (P : Program) (pr : Pr) (N : Nat) (c : Code) (s : S) (K : Ex → S → Prop) : Prop :=
  ∀ (σ : Sit) (a : Act) (w : World), pr.Ok P σ → At σ s a w N → c.wpIn (FW pr.round) 0 P (PostK σ N K) a w

theorem PostK.mono {σ : Sit} {K K' : Ex → S → Prop} (h : ∀ e s, K e s → K' e s) : ∀ (e : Exit) (a : Act) (w : World), PostK σ N K e a w → PostK σ N K' e a w
  | .normal, _, _, ⟨s, k, r⟩ => ⟨s, h _ _ k, r⟩
  | .ret, _, _, ⟨s, k, r⟩ => ⟨s, h _ _ k, r⟩
  | .exit _, _, _, ⟨s, k, r⟩ => ⟨s, h _ _ k, r⟩
  | .panic _, _, _, ⟨v, s, e, k, r⟩ => ⟨v, s, e, h _ _ k, r⟩
  | .goto _, _, _, h => h.elim
  | .outgrown, _, _, h => h.elim

section
variable {pr : Pr} {K K' : Ex → S → Prop} {x y c : Code}
theorem T_mono (h : ∀ e s, K e s → K' e s) (ht : TCode P pr N c s K) : TCode P pr N c s K' := fun σ a w hσ hR => wpIn_mono (ht σ a w hσ hR) (PostK.mono h)
theorem T_ent {s2 : S} (hE : Ent s s2) (h : TCode P pr N c s2 K) : TCode P pr N c s K := fun σ a w hσ hR => h σ a w hσ (hE.at hR)
theorem T_skip (h : K .normal s) : TCode P pr N .skip s K := fun _ _ _ _ hR => wpIn_skip ⟨s, h, hR⟩
theorem T_ret (h : K .ret s) : TCode P pr N .ret s K := fun _ _ _ _ hR => wpIn_ret ⟨s, h, hR⟩
theorem T_exit {id : Nat} (h : K (.exit id) s) : TCode P pr N (.exit id) s K := fun _ _ _ _ hR => wpIn_exit ⟨s, h, hR⟩
theorem T_seqM (M : S → Prop) (hx : TCode P pr N x s (thenK M K)) (hy : ∀ s', M s' → TCode P pr N y s' K) : TCode P pr N (.seq x y) s K := by
  intro σ a w hσ hR
  refine wpIn_seq (wpIn_mono (hx σ a w hσ hR) ?_)
  intro e a' w' hq
  cases e with
  | normal => obtain ⟨s', hk, hR⟩ := hq; exact hy s' hk σ a' w' hσ hR
  | ret => exact hq
  | exit i => exact hq
  | panic chain => exact hq
  | goto l => exact hq
  | outgrown => exact hq
theorem T_seq (h : TCode P pr N x s (thenK (fun s' => TCode P pr N y s' K) K)) : TCode P pr N (.seq x y) s K := T_seqM _ h fun _ h => h
/-- x leads to s1, whatever else there is. -/
theorem T_cut (s1 : S) (hx : TCode P pr N x s (thenK (fun s' => Ent s' s1) K)) (hy : TCode P pr N y s1 K) : TCode P pr N (.seq x y) s K := T_seqM _ hx fun _ h => T_ent h hy
/-- x leads to one of several states. -/
theorem T_cutM {α : Type} (st : α → S) (I : α → Prop) (hx : TCode P pr N x s (thenK (fun s' => ∃ z, I z ∧ Ent s' (st z)) K)) (hy : ∀ z, I z → TCode P pr N y (st z) K) : TCode P pr N (.seq x y) s K := T_seqM _ hx fun _ ⟨z, hz, h⟩ => T_ent h (hy z hz)
theorem T_then {n : S → Prop} (h : n s) : thenK n K .normal s := h
theorem T_block {id : Nat} (h : TCode P pr N x s (blockK id K)) : TCode P pr N (.block id x) s K := by
  intro σ a w hσ hR
  refine wpIn_block (wpIn_mono (h σ a w hσ hR) ?_)
  intro e a' w' hq
  cases e with
  | normal => exact hq
  | ret => exact hq
  | exit i =>
    obtain ⟨s', hk, hR⟩ := hq
    simp only [blockK] at hk
    simp only [Exit.inBlock]
    split
    · rename_i e
      rw [if_pos e] at hk
      exact ⟨s', hk, hR⟩
    · rename_i e
      rw [if_neg e] at hk
      exact ⟨s', hk, hR⟩
  | panic chain => exact hq
  | goto l => exact hq
  | outgrown => exact hq
theorem T_cond {cc : Operand} {q : Bool} (hq : asB (ev s cc) = some q) (h1 : q = true → TCode P pr N x s K) (h2 : q = false → TCode P pr N y s K) : TCode P pr N (.cond cc x y) s K := by
  intro σ a w hσ hA
  obtain ⟨ι, F, Ds, _, hR⟩ := id hA
  exact wpIn_cond_split (asB_rel (ev_rel hR cc) hq) (fun e => h1 e σ a w hσ hA) (fun e => h2 e σ a w hσ hA)
theorem T_true {c : Operand} (hq : asB (ev s c) = some true) (h : TCode P pr N x s K) : TCode P pr N (.cond c x y) s K := T_cond hq (fun _ => h) (fun e => by cases e)
theorem T_false {c : Operand} (hq : asB (ev s c) = some false) (h : TCode P pr N y s K) : TCode P pr N (.cond c x y) s K := T_cond hq (fun e => by cases e) (fun _ => h)
theorem T_region {id : Nat} {ops : Array Oper} {is : List Nat} (hi : List.range ops.size = is) (h : ∀ (n : S → Prop) (p : Value → S → Prop), (∀ s, K .normal s → n s) → (∀ v s, K (.panic v) s → p v s) → TOps P pr N ops is s n p) : TCode P pr N (.region id ops false) s K := by
  intro σ a w hσ hR
  refine wpIn_region ?_
  have := h (K .normal) (fun v => K (.panic v)) (fun _ h => h) (fun _ _ h => h) σ (PostK σ N K) [] hσ (fun a w h => h) (fun chain a w h => h) a w hR
  rw [hi]
  simpa using this

def loopK {α : Type} (st : α → S) (I : α → Prop) (μ : α → Nat) (m : Nat) (K : Ex → S → Prop) : Ex → S → Prop
  | .normal, s => ∃ z, Ent s (st z) ∧ I z ∧ μ z < m
  | .ret, s => K .ret s
  | .exit i, s => K (.exit i) s
  | .panic v, s => K (.panic v) s
theorem T_loop {α : Type} (st : α → S) (I : α → Prop) (μ : α → Nat) (z0 : α) (h0 : Ent s (st z0)) (hI : I z0) (hr : ∀ z, I z → TCode P pr N c (st z) (loopK st I μ (μ z) K)) : TCode P pr N (.loop c) s K := by
  intro σ a w hσ h
  have key : ∀ (m : Nat) (z : α) (a : Act) (w : World), μ z = m → I z → At σ (st z) a w N → ∀ (b : Frame) (k : List Item) (cs : List Frame), b.roundOf = (FW pr.round).round → (FW pr.round).fn b.fn → (FW pr.round).room (cs.length + 1 + 0) →
      ∃ e a' w', PostK σ N K e a' w' ∧ ArrivesIn (Machine.fenced P (FW pr.round)) P (lone (b.atR a (.code c :: .inLoop c :: k)) cs w) b k cs e a' w' := by
    intro m
    induction m using Nat.strongRecOn with
    | _ m ihm =>
      intro z a w hm hI hR b k cs hro hb hrm
      obtain ⟨e, a1, w1, hq, harr⟩ := hr z hI σ a w hσ hR b (.inLoop c :: k) cs hro hb hrm
      cases e with
      | normal =>
        obtain ⟨s', ⟨z2, hE, hI2, hlt⟩, hR'⟩ := hq
        obtain ⟨e2, a2, w2, hq2, harr2⟩ := ihm (μ z2) (by omega) z2 a1 w1 rfl hI2 (hE.at hR') b k cs hro hb hrm
        exact ⟨e2, a2, w2, hq2, .of_steps (StepsIn.trans harr (.one (fenced_calm hb hrm rfl) stepR_inLoop)) harr2⟩
      | exit id => exact ⟨.exit id, a1, w1, (show PostK σ N K (.exit id) a1 w1 from hq), .pass (x := .inLoop c) rfl (fun _ _ => .inl (by simp)) harr⟩
      | ret => exact ⟨.ret, a1, w1, (show PostK σ N K .ret a1 w1 from hq), .pass (x := .inLoop c) rfl (fun _ _ => .inl (by simp)) harr⟩
      | panic ch => exact ⟨.panic ch, a1, w1, (show PostK σ N K (.panic ch) a1 w1 from hq), .pass (x := .inLoop c) rfl (fun _ _ => .inl (by simp)) harr⟩
      | goto l => exact hq.elim
      | outgrown => exact hq.elim
  intro b k cs hro hb hrm
  obtain ⟨e, a', w', hq, harr⟩ := key _ z0 a w rfl hI (h0.at h) b k cs hro hb hrm
  exact ⟨e, a', w', hq, .of_steps (.one (fenced_calm hb hrm rfl) stepR_loop) harr⟩
end

/-! ### A function -/
def argSl (k : Nat) : List Dat → List (Nat × D)
  | [] => []
  | d :: r => (k, .dat d) :: argSl (k + 1) r
theorem lk_argSl : ∀ (l : List Dat) (k t : Nat), lk t (argSl k l) = if k ≤ t then (l[t - k]?).map .dat else none
  | [], k, t => by simp [argSl, lk]
  | d :: r, k, t => by
    simp only [argSl, lk, lk_argSl r (k + 1) t]
    by_cases e : t = k
    · subst e; simp
    · rw [if_neg e]
      by_cases h1 : k + 1 ≤ t
      · rw [if_pos h1, if_pos (by omega), show t - k = (t - (k + 1)) + 1 by omega]
        simp
      · rw [if_neg h1, if_neg (by omega)]
def resV (P : Program) (s : S) : ResultVar → Option D
  | .tmp t => lk t s.sl
  | .cell q t => match infoOf P t, lk q s.sl with
    | some i, some (.ptr b off) => match lk b s.hp with
      | some (.var cs) => takeAt i (cs.drop off)
      | _ => none
    | _, _ => none
def resL (P : Program) (s : S) : List ResultVar → Option (List D)
  | [] => some []
  | r :: rs => match resV P s r, resL P s rs with
    | some d, some l => some (d :: l)
    | _, _ => none
def resD (P : Program) (s : S) (rs : List ResultVar) : Option D := match rs with
  | [r] => resV P s r
  | rs => (resL P s rs).map .tup
/-- The end: the results read as d, over just the blocks h; d1: as they stand, before what lies below is given up. -/
def Fin (P : Program) (rs : List ResultVar) (d : D) (h : List HO) (s : S) : Prop := ∃ s1 d1 s2, Ent s s1 ∧ resD P s1 rs = some d1 ∧ Ent { s1 with gh := [(0, d1)] } s2 ∧ s2.hp = enum 0 h ∧ s2.nx = h.length ∧ lk 0 s2.gh = some d
theorem finI {P : Program} {rs : List ResultVar} {d d1 : D} {h : List HO} {s s1 s2 : S} (h1 : Ent s s1) (h2 : resD P s1 rs = some d1) (h3 : Ent { s1 with gh := [(0, d1)] } s2) (h4 : s2.hp = enum 0 h) (h5 : s2.nx = h.length) (h6 : lk 0 s2.gh = some d) : Fin P rs d h s := ⟨s1, d1, s2, h1, h2, h3, h4, h5, h6⟩
def start (args : List Dat) : S := { sl := argSl 0 args, hp := [], nx := 0 }

/-- Where a function begins that hands nothing over. -/
def sit0 (ok : Nat → Prop) (w : World) : Sit := { Θ := fun i F => i = 0 ∧ F = fun _ => none, V := fun B => ok B ∨ w.heap.size ≤ B, Z := fun B => w.heap[B]?, e := w, gv := fun _ => undef, dfs := [] }
theorem start_rel {ok : Nat → Prop} {σ : Sit} {args : List Dat} {vs : List Value} {F : Nat → Option Obj} (hS : ∀ B, ok B ∨ w.heap.size ≤ B → σ.V B) (hZ : ∀ B o, (σ.Z B = some o ∨ F B = some o) → w.heap[B]? = some o) (hap : ∀ B, σ.Z B ≠ none → F B = none) (hF : ∀ B, ok B → F B = none) (he : w.os = σ.e.os ∧ w.tape = σ.e.tape ∧ w.output = σ.e.output ∧ σ.e.heap.size ≤ w.heap.size) (hdf : σ.dfs = [])
    (hok : ∀ B, ok B → B < w.heap.size) (hl : vs.length = args.length) (hU : ∀ j e, args[j]? = some e → DatR ok w e (vs.getD j undef)) (hN : args.length ≤ N) :
    Rel (σ.at F []) (fun _ => .dead) (start args) { tmps := vs.toArray ++ Array.replicate (N - vs.toArray.size) undef, defers := [] } w N := by
  refine ⟨he, hZ, fun B hB => ⟨hap B hB, by simp [Sit.at]⟩, by simp [hl]; omega, ⟨by simp [Sit.at, hdf], by simp [Sit.at], fun D hD => by simp [Sit.at] at hD⟩, fun t d ht => ?_, fun t d ht => by simp [start, lk] at ht, fun b o hb => by simp [start, lk] at hb, fun b B hb => by simp at hb, fun b b' B hb _ => by simp at hb, fun b _ => rfl, fun b _ => rfl, fun B hB => ?_⟩
  · simp only [start] at ht
    rw [lk_argSl] at ht
    simp only [Nat.zero_le, if_true, Nat.sub_zero, Option.map_eq_some_iff] at ht
    obtain ⟨e, he, rfl⟩ := ht
    have hlt := (List.getElem?_eq_some_iff.1 he).1
    refine ⟨by omega, .dat ?_⟩
    have : ({ tmps := vs.toArray ++ Array.replicate (N - vs.toArray.size) undef, defers := [] } : Act).tmps.getD t undef = vs.getD t undef := by
      simp only [Array.getD_eq_getD_getElem?, getD_get?]
      rw [Array.getElem?_append_left (by simp; omega)]
      simp
    rw [this]
    exact (hU t e he).mono (fun B hB => ⟨⟨hok B hB, hS B (.inl hB), hF B hB, by simp [Sit.at]⟩, fun b hb => by simp at hb⟩) (fun _ _ => rfl)
  · rcases hB with ⟨b, hb⟩ | hB
    · simp at hb
    · exact hS B (.inr hB)

theorem load_var (h : Rel β ι s a w N) {t : TypeId} {i : TI} (hi : infoOf P t = some i) {b off : Nat} {v : Value} {cs : List D} {d : D} (hx : RelD β.G ι s.nx w (.ptr b off) v) (hb : lk b s.hp = some (.var cs)) (hd : takeAt i (cs.drop off) = some d) :
    ∃ B u, v = .pointer (some ⟨B, off, none⟩) ∧ (loadVar t ⟨B, off, none⟩).run P w = .ok u w ∧ RelD β.G ι s.nx w d u := by
  have hO := h.heap b _ hb
  cases hO with
  | var _ B C ty hι hC hl h1 hU =>
    cases hx with
    | ptr_dead _ _ _ _ _ he => simp [he] at hι
    | ptr_nil _ _ _ _ _ he => simp [he] at hι
    | ptr_at _ _ B' _ he =>
      rw [hι] at he
      injection he with he
      subst he
      have hcell : ∀ j u, (C.toList.drop off)[j]? = some u → w.cell? ⟨B, off + j, none⟩ = some u := by
        intro j u hj
        simp only [List.getElem?_drop, Array.getElem?_toList] at hj
        simp [World.cell?, hC, hj]
      unfold takeAt at hd
      split at hd
      · rename_i hg
        split at hd
        · rename_i hsz
          injection hd with hd
          subst hd
          have hlen : i.size ≤ C.toList.length - off := by simp at hsz ⊢; omega
          refine ⟨B, _, rfl, run_loadVar_at hi B off ((C.toList.drop off).take i.size) (fun j u hj => ?_) (by simp [hg]; simp at hlen; omega), ?_⟩
          · rw [List.getElem?_take] at hj
            split at hj
            · exact hcell j u hj
            · cases hj
          · simp only [hg, if_true]
            refine mkAgg_rel (by simp; omega) (fun v hv => h1 v (List.mem_of_mem_drop (List.mem_of_mem_take hv))) (fun j d' hj => ?_)
            rw [List.getElem?_take] at hj
            split at hj
            · rename_i hlt
              rw [List.getElem?_drop] at hj
              have := hU _ _ hj
              rw [getD_get?] at this ⊢
              rw [List.getElem?_take, if_pos hlt, List.getElem?_drop]
              exact this
            · cases hj
        · cases hd
      · rename_i hg
        have h0 := head_getD hd
        rw [List.getElem?_drop] at h0
        have hlt : off < C.toList.length := by
          have := (List.getElem?_eq_some_iff.1 h0).1
          simp; omega
        have hget : (C.toList.drop off)[0]? = some (C.toList.getD off undef) := by
          rw [List.getElem?_drop, Nat.add_zero, getD_get?, List.getElem?_eq_getElem hlt]
          rfl
        refine ⟨B, _, rfl, run_loadVar_at hi B off [C.toList.getD off undef] (fun j u hj => ?_) (by simp [hg]), ?_⟩
        · cases j with
          | zero =>
            simp only [List.getElem?_cons_zero, Option.some.injEq] at hj
            subst hj
            exact hcell 0 _ hget
          | succ j => simp at hj
        · simp only [hg, Bool.false_eq_true, if_false, List.headD_cons]
          exact hU off d (by simpa using h0)

theorem resV_ok (h : Rel β ι s a w N) {r : ResultVar} {d : D} (hd : resV P s r = some d) : ∃ v, (match r with | .tmp t => pure (a.tmps.getD t undef) | .cell q t => do loadVar t (← asAddr (a.tmps.getD q undef)) : Sem Value).run P w = .ok v w ∧ RelD β.G ι s.nx w d v := by
  cases r with
  | tmp t => exact ⟨_, rfl, (h.slots t d hd).2⟩
  | cell q t =>
    simp only [resV] at hd
    split at hd
    · rename_i i b off hi hq
      split at hd
      · rename_i cs hb
        obtain ⟨B, u, e1, e2, e3⟩ := load_var h hi (h.slots q _ hq).2 hb hd
        refine ⟨u, ?_, e3⟩
        simp only [e1, asAddr, Sem.run_bind, Sem.run_pure, Result.andThen_ok, e2]
      · cases hd
    · cases hd
theorem results_ok {fn : Func} {rs : List ResultVar} (hr : fn.results = rs.toArray) (h : Rel β ι s a w N) {d : D} (hd : resD P s rs = some d) : ∃ v, (results fn a.tmps).run P w = .ok v w ∧ RelD β.G ι s.nx w d v := by
  have many : ∀ {l : List ResultVar} {ds : List D}, resL P s l = some ds → ∃ vs : List Value, (l.mapM (fun r => (match r with | .tmp t => pure (a.tmps.getD t undef) | .cell q t => do loadVar t (← asAddr (a.tmps.getD q undef)) : Sem Value)) : Sem (List Value)).run P w = .ok vs w ∧ vs.length = ds.length ∧ l.length = ds.length ∧ ∀ j d, ds[j]? = some d → RelD β.G ι s.nx w d (vs.getD j undef) := by
    intro l
    induction l with
    | nil => intro ds h; simp only [resL, Option.some.injEq] at h; subst h; exact ⟨[], by simp, rfl, rfl, fun j d h => by simp at h⟩
    | cons x r ih =>
      intro ds hds
      simp only [resL] at hds
      split at hds
      · rename_i d1 l1 h1 h2
        injection hds with hds
        subst hds
        obtain ⟨vs, i1, i2, i4, i3⟩ := ih h2
        obtain ⟨v, k1, k2⟩ := resV_ok h h1
        refine ⟨v :: vs, ?_, by simp [i2], by simp [i4], fun j d hj => ?_⟩
        · rw [List.mapM_cons, Sem.run_bind, k1]
          simp only [Result.andThen_ok, Sem.run_bind, i1, Sem.run_pure]
        · cases j with
          | zero => simp at hj; subst hj; simpa using k2
          | succ j => simpa using i3 j d (by simpa using hj)
      · cases hds
  have hrun : ∀ (vs : List Value), (rs.mapM (fun r => (match r with | .tmp t => pure (a.tmps.getD t undef) | .cell q t => do loadVar t (← asAddr (a.tmps.getD q undef)) : Sem Value)) : Sem (List Value)).run P w = .ok vs w →
      (results fn a.tmps).run P w = .ok (if h : vs.toArray.size = 1 then vs.toArray[0] else .tuple vs.toArray) w := by
    intro vs hvs
    unfold results
    rw [hr, List.mapM_toArray, Sem.run_bind]
    have : (List.toArray <$> rs.mapM (fun r => (match r with | .tmp t => pure (a.tmps.getD t undef) | .cell q t => do loadVar t (← asAddr (a.tmps.getD q undef)) : Sem Value)) : Sem (Array Value)).run P w = .ok vs.toArray w := by
      rw [map_eq_pure_bind, Sem.run_bind, hvs]
      rfl
    refine (congrArg (fun z => Result.andThen z _) this).trans ?_
    rfl
  have pos : ∀ {l : List ResultVar}, resL P s l = resL P s l := rfl
  match rs, hd, hrun with
  | [r], hd, hrun =>
    simp only [resD] at hd
    have h1 : resL P s [r] = some [d] := by simp [resL, hd]
    obtain ⟨vs, k1, k2, _, k3⟩ := many h1
    have k0 := hrun _ k1
    match vs, k2 with
    | [v], _ => exact ⟨v, k0, by simpa using k3 0 d rfl⟩
  | [], hd, hrun =>
    simp only [resD, resL, Option.map_some, Option.some.injEq] at hd
    subst hd
    exact ⟨_, hrun [] (by simp), .tup [] [] rfl (fun j d h => by simp at h)⟩
  | r1 :: r2 :: r3, hd, hrun =>
    simp only [resD, Option.map_eq_some_iff] at hd
    obtain ⟨ds, hds, rfl⟩ := hd
    obtain ⟨vs, k1, k2, k4, k3⟩ := many hds
    refine ⟨.tuple vs.toArray, ?_, .tup ds vs k2 k3⟩
    rw [hrun _ k1, dif_neg (by simp [k2, ← k4])]

/-- The marks are taken up, one after the other. -/
theorem leave_marks {fn : Func} {tmps : Array Value} {R : Ending → World → Prop} {u : FrameMode} (hu : u ≠ .run) {ds : List Deferred} : ∀ (Ds : List Nat) (w : World), Ds.Nodup → (∀ D ∈ Ds, w.heap[D]? = some (.deferred (some []))) →
    (∀ w', w'.os = w.os → w'.tape = w.tape → w'.output = w.output → w'.heap.size = w.heap.size → (∀ B, B ∉ Ds → w'.heap[B]? = w.heap[B]?) → LeavesInM Fence.wide 0 P fn tmps R ds u w') →
    LeavesInM Fence.wide 0 P fn tmps R (Ds.map mark ++ ds) u w
  | [], w, _, _, h => h w rfl rfl rfl rfl (fun _ _ => rfl)
  | D :: Ds, w, hnd, hD, h => by
    have h0 := hD D (by simp)
    refine ⟨hu, .inl ⟨D, _, rfl, run_takeDeferred h0, ?_⟩⟩
    simp only [List.nodup_cons] at hnd
    refine leave_marks hu Ds _ hnd.2 (fun D' hD' => ?_) (fun w' e1 e2 e3 e4 e5 => ?_)
    · rw [World.putObj_heap_other (fun e => by subst e; exact hnd.1 hD')]
      exact hD D' (by simp [hD'])
    · refine h w' e1 e2 e3 (e4.trans (by simp)) (fun B hB => ?_)
      rw [e5 B (fun hm => hB (by simp [hm])), World.putObj_heap_other (fun e => hB (by simp [e]))]

/-- At the end of a function: the marks are taken up, what there is stands. -/
theorem Rel.shut (h : Rel β ι s a w N) (e1 : w'.os = w.os) (e2 : w'.tape = w.tape) (e3 : w'.output = w.output) (e4 : w'.heap.size = w.heap.size) (e5 : ∀ B, B ∉ β.Ds → w'.heap[B]? = w.heap[B]?) :
    Rel { β with Ds := [] } ι s { a with defers := β.dfs } w' N := by
  have f : Fr β.G ι s.nx w ι s.nx w' := ⟨Nat.le_refl _, fun B hB => ⟨⟨⟨by rw [e4]; exact hB.1.1, hB.1.2⟩, hB.2⟩, e5 B hB.1.2.2.2⟩, fun b hbl => .inr ⟨rfl, fun B hB C t hC => ⟨C, (e5 B (h.inside b B hB).2.2.2).trans hC, rfl⟩⟩⟩
  have r : Ren some β.G ι s.nx ({ β with Ds := [] } : Bs).G ι s.nx w' := ⟨fun B hB => ⟨⟨hB.1.1, hB.1.2.1, hB.1.2.2.1, by simp⟩, hB.2⟩, fun b b' hb e => by injection e with e; subst e; exact ⟨hb, rfl⟩⟩
  refine ⟨⟨e1.trans h.env.1, e2.trans h.env.2.1, e3.trans h.env.2.2.1, by rw [e4]; exact h.env.2.2.2⟩, fun B o hz => ?_, fun B hz => ⟨(h.apart B hz).1, by simp⟩, h.size, ⟨by simp, by simp, fun D hD => by simp at hD⟩, fun t d ht => ⟨(h.slots t d ht).1, r.relD (f.relD (h.slots t d ht).2) (mp_id _)⟩, fun t d ht => r.relD (f.relD (h.ghosts t d ht)) (mp_id _),
    fun b o hb => r.relO (f.relO (h.heap b o hb) rfl (fun B hB => e5 B (h.inside b B hB).2.2.2)) rfl (mpO_id _), fun b B hb => ⟨by rw [e4]; exact (h.inside b B hb).1, (h.inside b B hb).2.1, (h.inside b B hb).2.2.1, by simp⟩, h.inj, h.dead, h.fresh, fun B hB => h.gr B (by rw [← e4]; exact hB)⟩
  have : B ∉ β.Ds := fun hm => by
    rcases hz with hz | hz
    · exact (h.apart B (by rw [hz]; simp)).2 hm
    · have := (h.marks.2.2 B hm).2; rw [hz] at this; cases this
  exact (e5 B this).trans (h.kept B o hz)

theorem leaves_at {σ : Sit} {fn : Func} {R : Ending → World → Prop} {u : FrameMode} (hu : u ≠ .run) (hA : At σ s a w N) (h : ∀ ι F w', σ.Θ s.st F → Rel (σ.at F []) ι s { a with defers := σ.dfs } w' N → LeavesInM Fence.wide 0 P fn a.tmps R σ.dfs u w') :
    LeavesInM Fence.wide 0 P fn a.tmps R a.defers u w := by
  obtain ⟨ι, F, Ds, hΘ, hR⟩ := hA
  rw [hR.marks.1]
  exact leave_marks hu Ds w hR.marks.2.1 (fun D hD => (hR.marks.2.2 D hD).1) fun w' e1 e2 e3 e4 e5 => h ι F w' hΘ (Rel.shut (β := σ.at F Ds) hR e1 e2 e3 e4 e5)

/-- Nothing that was there has turned. -/
theorem below_of {ok : Nat → Prop} {w0 : World} {F : Nat → Option Obj} (hR : Rel ((sit0 ok w0).at F []) ι s a w N) : Below w0.heap.size w0 w :=
  ⟨hR.env.1, hR.env.2.1, hR.env.2.2.1, hR.env.2.2.2, fun B hB => by
    obtain ⟨o, ho⟩ : ∃ o, w0.heap[B]? = some o := ⟨_, Array.getElem?_eq_getElem hB⟩
    rw [ho]
    exact hR.kept B o (.inl ho)⟩

theorem Does.intro {g : FuncId} {fn : Func} {c : Code} {args : List Dat} {d : D} {hs : List HO} {N : Nat} (rs : List ResultVar) (hf : P.funcs[g]? = some fn) (hb : fn.body = some c) (hn : (fn.name == "runtime.NumGoroutine") = false) (hN : fn.ntmps = N)
    (hr : fn.results = rs.toArray) (ha : args.length ≤ N) (h : TCode P {} N c (start args) (fun e s' => match e with | .normal => Fin P rs d hs s' | .ret => Fin P rs d hs s' | _ => False)) : Does P g args d hs := by
  refine ⟨⟨fn, c, hf, hb, hn⟩, fun ok w vs hok hl hU => (callsIn_wide (n := 0)).1 (callsIn_of_wp_marks hf hb trivial ?_)⟩
  rw [hN]
  have hA : At (sit0 ok w) (start args) { tmps := vs.toArray ++ Array.replicate (N - vs.toArray.size) undef, defers := [] } w N :=
    ⟨_, fun _ => none, [], ⟨rfl, rfl⟩, start_rel (fun B hB => hB) (fun B o hz => by rcases hz with hz | hz; exact hz; cases hz) (fun _ _ => rfl) (fun _ _ => rfl) ⟨rfl, rfl, rfl, Nat.le_refl _⟩ rfl hok hl hU ha⟩
  refine wpIn_mono (h (sit0 ok w) _ w ⟨fun l h => (by cases h), fun l xs h => (by cases h)⟩ hA) ?_
  intro e a' w' hq
  have fin : ∀ s, Fin P rs d hs s → At (sit0 ok w) s a' w' N → bodyPostM Fence.wide 0 P fn (Ret (fun B => ok B ∨ w.heap.size ≤ B) w d hs) .normal a' w' := by
    rintro s ⟨s1, d1, s2, hE, h3, hE2, h1, h2, h4⟩ hA
    refine leaves_at (by simp) (hE.at hA) fun ι1 F w'' hΘ hR1 => ?_
    obtain ⟨v, hv, hD1⟩ := results_ok (P := P) hr hR1 h3
    obtain ⟨_, rfl⟩ := hΘ
    have hG1 : Rel { (sit0 ok w).at (fun _ => none) [] with gv := fun _ => v } ι1 { s1 with gh := [(0, d1)] } _ w'' N := ⟨hR1.env, hR1.kept, hR1.apart, hR1.size, hR1.marks, hR1.slots, fun t d ht => (by
      simp only [lk] at ht
      split at ht
      · injection ht with ht; subst ht; exact hD1
      · cases ht), hR1.heap, hR1.inside, hR1.inj, hR1.dead, hR1.fresh, hR1.gr⟩
    obtain ⟨ι, hR⟩ := hE2.go _ ι1 _ _ _ hG1
    have hD := hR.ghosts 0 d h4
    have r : Ren some ((sit0 ok w).at (fun _ => none) []).G ι s2.nx (fun B => ok B ∨ w.heap.size ≤ B) ι s2.nx w'' := ⟨fun B hB => ⟨⟨hB.1.1, hB.1.2.1⟩, hB.2⟩, fun b b' hb e => by injection e with e; subst e; exact ⟨hb, rfl⟩⟩
    refine ⟨v, hv, v, ι, rfl, below_of hR1, ⟨fun b o hb => ?_, fun b B hb => ⟨?_, (hR.inside b B hb).1⟩, hR.inj, fun b hb => hR.dead b (by rw [h1]; exact hb), fun b hb => by rw [← h1]; exact hR.fresh b (by rw [h2]; exact hb), fun b B hb => hR.gr B (.inl ⟨b, hb⟩)⟩, by rw [← h2]; exact r.relD hD (mp_id _)⟩
    · rw [← h2]
      exact r.relO (hR.heap b o (by rw [h1]; exact hb)) rfl (mpO_id _)
    · rcases Nat.lt_or_ge B w.heap.size with hlt | hge
      · have := (hR.inside b B hb).2.1
        simp only [sit0, Sit.at] at this
        rw [Array.getElem?_eq_getElem hlt] at this
        cases this
      · exact hge
  cases e with
  | normal => obtain ⟨s, hk, hR⟩ := hq; exact fin s hk hR
  | ret => obtain ⟨s, hk, hR⟩ := hq; exact fin s hk hR
  | exit i => obtain ⟨s, hk, hR⟩ := hq; exact hk.elim
  | panic chain => obtain ⟨v, s, _, hk, hR⟩ := hq; exact hk.elim
  | goto l => exact hq.elim
  | outgrown => exact hq.elim

theorem DoesP.intro {g : FuncId} {fn : Func} {c : Code} {args : List Dat} {pv : Value} {N : Nat} (hf : P.funcs[g]? = some fn) (hb : fn.body = some c) (hn : (fn.name == "runtime.NumGoroutine") = false) (hN : fn.ntmps = N) (ha : args.length ≤ N)
    (h : TCode P {} N c (start args) (fun e s' => match e with | .panic v => v = pv | _ => False)) : DoesP P g args pv := by
  refine ⟨⟨fn, c, hf, hb, hn⟩, fun ok w vs hok hl hU => (callsIn_wide (n := 0)).1 (callsIn_of_wp_marks hf hb trivial ?_)⟩
  rw [hN]
  have hA : At (sit0 ok w) (start args) { tmps := vs.toArray ++ Array.replicate (N - vs.toArray.size) undef, defers := [] } w N :=
    ⟨_, fun _ => none, [], ⟨rfl, rfl⟩, start_rel (fun B hB => hB) (fun B o hz => by rcases hz with hz | hz; exact hz; cases hz) (fun _ _ => rfl) (fun _ _ => rfl) ⟨rfl, rfl, rfl, Nat.le_refl _⟩ rfl hok hl hU ha⟩
  refine wpIn_mono (h (sit0 ok w) _ w ⟨fun l h => (by cases h), fun l xs h => (by cases h)⟩ hA) ?_
  intro e a' w' hq
  cases e with
  | normal => obtain ⟨s, hk, hR⟩ := hq; exact hk.elim
  | ret => obtain ⟨s, hk, hR⟩ := hq; exact hk.elim
  | exit i => obtain ⟨s, hk, hR⟩ := hq; exact hk.elim
  | panic chain =>
    obtain ⟨v, s, rfl, hk, hA⟩ := hq
    simp only at hk
    subst hk
    exact leaves_at (by simp) hA fun ι F w'' hΘ hR => ⟨rfl, below_of hR⟩
  | goto l => exact hq.elim
  | outgrown => exact hq.elim

/-! ### Iterators -/
/-- The contract of an iterator: it hands over the elements xs, in turn, till it is told to stop. -/
structure Iter (P : Program) (g : FuncId) (caps : List Dat) (xs : List (List Dat)) : Prop where
  body : Body P g
  calls : ∀ (ok : Nat → Prop) (σ : Sit) (F : Nat → Option Obj) (l : Nat) (W : World) (vs : List Value), (∀ B, ok B → B < W.heap.size ∧ F B = none) → σ.Θ 0 F → (∀ B o, F B = some o → W.heap[B]? = some o) → σ.Z = (fun B => if (F B).isSome then none else W.heap[B]?) → σ.e = W →
    YR P σ l xs → vs.length = caps.length → (∀ j e, caps[j]? = some e → DatR ok W e (vs.getD j undef)) →
    Calls P g (.func (.yield l) #[] #[] :: vs).toArray W fun e W' => (∃ v, e = .returned v) ∧ ∃ F', (σ.Θ xs.length F' ∨ σ.Θ (xs.length + 1) F') ∧ Turn F F' W W'

theorem Iter.intro {g : FuncId} {fn : Func} {c : Code} {caps : List Dat} {xs : List (List Dat)} {N : Nat} (hf : P.funcs[g]? = some fn) (hb : fn.body = some c) (hn : (fn.name == "runtime.NumGoroutine") = false) (hN : fn.ntmps = N)
    (hr : fn.results = #[]) (ha : caps.length + 1 ≤ N) (h : ∀ l, TCode P { y := some (l, xs) } N c (start (.val (.func (.yield l) #[] #[]) :: caps)) (fun e s' => match e with | .normal => s'.st = xs.length ∨ s'.st = xs.length + 1 | .ret => s'.st = xs.length ∨ s'.st = xs.length + 1 | _ => False)) : Iter P g caps xs := by
  refine ⟨⟨fn, c, hf, hb, hn⟩, fun ok σ0 F l W vs hok hΘ hF hZ he hY hl hU => (callsIn_wide (n := 0)).1 (callsIn_of_wp_marks hf hb trivial ?_)⟩
  rw [hN]
  obtain ⟨σ, hσ⟩ : ∃ σ : Sit, σ = { Θ := fun i F' => σ0.Θ i F' ∧ ∀ B, F' B ≠ none → F B ≠ none ∨ W.heap.size ≤ B, V := fun B => ok B ∨ W.heap.size ≤ B, Z := σ0.Z, e := W, gv := fun _ => undef, dfs := [] } := ⟨_, rfl⟩
  have hYσ : YR P σ l xs := by
    intro i x F1 W1 vs1 h1 h2 h3 h4 h5 h6
    subst hσ
    obtain ⟨fn', tmps, assign, body, hy, hR⟩ := hY i x F1 W1 vs1 h1.1 h2 (by rw [he]; exact h3) h4 h5 h6
    refine ⟨fn', tmps, assign, body, hy, RoundIn.mono hR ?_⟩
    rintro e W' ⟨F', ht, hq⟩
    have hnew : ∀ B, F' B ≠ none → F B ≠ none ∨ W.heap.size ≤ B := fun B hB => by
      rcases ht.new B hB with k | k
      · exact h1.2 B k
      · exact .inr (Nat.le_trans h3.2.2.2 k)
    rcases hq with ⟨e1, hq⟩ | ⟨e1, hq⟩
    · exact ⟨F', ht, .inl ⟨e1, hq, hnew⟩⟩
    · exact ⟨F', ht, .inr ⟨e1, hq, hnew⟩⟩
  have hA : At σ (start (.val (.func (.yield l) #[] #[]) :: caps)) { tmps := (.func (.yield l) #[] #[] :: vs).toArray ++ Array.replicate (N - (Value.func (.yield l) #[] #[] :: vs).toArray.size) undef, defers := [] } W N := by
    refine ⟨_, F, [], by rw [hσ]; exact ⟨hΘ, fun B hB => .inl hB⟩, start_rel (ok := ok) (by rw [hσ]; exact fun B hB => hB) (fun B o hz => ?_) (fun B hz => ?_) (fun B hB => (hok B hB).2) (by rw [hσ]; exact ⟨rfl, rfl, rfl, Nat.le_refl _⟩) (by rw [hσ]) (fun B hB => (hok B hB).1) (by simp [hl]) (fun j e hj => ?_) (by simpa using ha)⟩
    · rcases hz with hz | hz
      · rw [hσ] at hz
        simp only [hZ] at hz
        split at hz
        · cases hz
        · exact hz
      · exact hF B o hz
    · rw [hσ] at hz
      simp only [hZ] at hz
      split at hz
      · exact absurd rfl hz
      · rename_i hs
        simpa using hs
    · cases j with
      | zero => simp at hj; subst hj; exact .val _
      | succ j => simpa using hU j e (by simpa using hj)
  refine wpIn_mono (h l σ _ W ⟨fun l h => (by cases h), fun l' xs' h => by simp only [Option.some.injEq, Prod.mk.injEq] at h; obtain ⟨rfl, rfl⟩ := h; exact hYσ⟩ hA) ?_
  intro e a' w' hq
  have fin : ∀ s, (s.st = xs.length ∨ s.st = xs.length + 1) → At σ s a' w' N → bodyPostM Fence.wide 0 P fn (fun e W' => (∃ v, e = .returned v) ∧ ∃ F', (σ0.Θ xs.length F' ∨ σ0.Θ (xs.length + 1) F') ∧ Turn F F' W W') .normal a' w' := by
    rintro s hs hA
    have : σ.dfs = [] := by rw [hσ]
    refine leaves_at (by simp) hA fun ι F' w'' hΘ' hR => ?_
    rw [this]
    refine ⟨_, results_none hr _ _ _, ⟨_, rfl⟩, F', ?_, ?_⟩
    · rw [hσ] at hΘ'
      rcases hs with hs | hs
      · rw [hs] at hΘ'; exact .inl hΘ'.1
      · rw [hs] at hΘ'; exact .inr hΘ'.1
    · have henv := hR.env
      have hk := hR.kept
      rw [hσ] at hΘ' henv hk
      refine ⟨henv.1, henv.2.1, henv.2.2.1, henv.2.2.2, fun B hB h0 => ?_, fun B o hB => hk B o (.inr hB), hΘ'.2⟩
      obtain ⟨o, ho⟩ : ∃ o, W.heap[B]? = some o := ⟨_, Array.getElem?_eq_getElem hB⟩
      rw [ho]
      exact hk B o (.inl (by simp only [Sit.at, hZ, h0]; simpa using ho))
  cases e with
  | normal => obtain ⟨s, hk, hR⟩ := hq; exact fin s hk hR
  | ret => obtain ⟨s, hk, hR⟩ := hq; exact fin s hk hR
  | exit i => obtain ⟨s, hk, hR⟩ := hq; exact hk.elim
  | panic chain => obtain ⟨v, s, _, hk, hR⟩ := hq; exact hk.elim
  | goto l => exact hq.elim
  | outgrown => exact hq.elim

end Go.Proofs.Ytbkkekbeaabokaa.Sx
