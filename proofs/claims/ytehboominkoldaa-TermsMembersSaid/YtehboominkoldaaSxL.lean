/- Sx, part L: regions and the code over the state; a function's contract out of its code. -/
import Derived.Test.YtehboominkoldaaSxK
set_option linter.unusedVariables false
set_option linter.unusedSimpArgs false
namespace Go.Proofs.Ytehboominkoldaa.Sx
open Go Go.RowKit

variable {P : Program} {G G' : Nat → Prop} {w0 w w' : World} {ι ι' : Nat → Loc} {s s' : S} {a : Act} {N : Nat}

def S.put (s : S) (dst : Option Nat) (d : D) : S := match dst with
  | none => s
  | some t => { s with sl := up t d s.sl }
def dstOk (dst : Option Nat) (N : Nat) : Bool := match dst with
  | none => true
  | some t => decide (t < N)
theorem Rel.putO (h : Rel G w0 ι s a w N) {dst : Option Nat} {d : D} {v : Value} (hd : dstOk dst N = true) (hr : RelD G ι s.nx w d v) : Rel G w0 ι (s.put dst d) (a.put dst v) w N := by
  cases dst with
  | none => exact h
  | some t => exact h.put t (by simpa [dstOk] using hd) hr

/-- The contract of a call that panics with this very value. -/
structure DoesP (P : Program) (g : FuncId) (args : List Dat) (pv : Value) : Prop where
  body : Body P g
  calls : ∀ (ok : Nat → Prop) (w : World) (vs : List Value), (∀ B, ok B → B < w.heap.size) → vs.length = args.length → (∀ j e, args[j]? = some e → DatR ok w e (vs.getD j undef)) →
    Calls P g vs.toArray w fun e w' => e = .panicked [{ v := pv, recovered := false }] ∧ Below w.heap.size w w'

/-! ### A call in the state -/
inductive CallS (P : Program) (N : Nat) (g : FuncId) (args : List D) (s : S) (dst : Option Nat) (n : S → Prop) (p : Value → S → Prop) : Prop where
  | dat {ds : List Dat} {d d' : D} {h h' : List HO} (hf : Does P g ds d h) (h1 : datL args = some ds) (h2 : mp (sh s.nx) d = some d') (h3 : mpH (sh s.nx) h = some h') (h4 : dstOk dst N = true)
      (k : n ({ s with hp := enum s.nx h' ++ s.hp, nx := s.nx + h.length }.put dst d')) : CallS P N g args s dst n p
  | lend {ds : List Dat} {d : D} (hf : Does P g ds d []) (h1 : lendL s args = some ds) (h2 : flat d = true) (h4 : dstOk dst N = true) (k : n (s.put dst d)) : CallS P N g args s dst n p
  | pan {ds : List Dat} {pv : Value} (hf : DoesP P g ds pv) (h1 : lendL s args = some ds) (k : p pv s) : CallS P N g args s dst n p
  | gen (hb : Body P g) (h4 : dstOk dst N = true) (h : ∀ (G : Nat → Prop) (w0 : World) (ι : Nat → Loc) (a : Act) (w : World) (vs : List Value), Rel G w0 ι s a w N → vs.length = args.length → (∀ j e, args[j]? = some e → RelD G ι s.nx w e (vs.getD j undef)) →
      Calls P g vs.toArray w fun e w' => ∃ v d s' ι', e = .returned v ∧ Rel G w0 ι' s' a w' N ∧ RelD G ι' s'.nx w' d v ∧ n (s'.put dst d)) : CallS P N g args s dst n p

/-! ### A region, in the order of its text -/
def wantedD (ops : Array Oper) (o : Oper) (s : S) : Option Bool := match o.guard with
  | none => some true
  | some (j, want) => match (ops[j]?).bind (·.dst) with
    | some t => match lk t s.sl with
      | some (.dat (.val (.bool b))) => some (b == want)
      | some (.dat (.val (.tuple vs))) => if vs.isEmpty then some false else none
      | _ => none
    | none => none
def Step (P : Program) (N : Nat) (o : Oper) (s : S) (n : S → Prop) (p : Value → S → Prop) : Prop := match o.op with
  | .panic x => match ev s x with
    | .dat (.val (.iface t v)) => p (.iface t v) s
    | _ => False
  | op => match aop P op s with
    | .ok d s' => dstOk o.dst N = true ∧ n (s'.put o.dst d)
    | .call g args => CallS P N g args s o.dst n p
    | .stuck => False
theorem wantedD_ok (h : Rel G w0 ι s a w N) {ops : Array Oper} {o : Oper} {q : Bool} (hq : wantedD ops o s = some q) : Region.wanted o (yielded ops a.tmps) = q := by
  unfold wantedD at hq
  unfold Region.wanted
  split at hq
  · rename_i hg
    injection hq with hq
    subst hq
    simp [hg]
  · rename_i j want hg
    simp only [hg]
    split at hq
    · rename_i t ht
      have key : ∀ v, lk t s.sl = some (.dat (.val v)) → yielded ops a.tmps j = match v with | .bool b => some b | _ => none := by
        intro v hv
        obtain ⟨hlt, hr⟩ := h.slots t _ hv
        have := val_eq hr
        unfold yielded
        rw [ht]
        simp only [Option.bind_some]
        have hlt' : t < a.tmps.size := by rw [h.size]; exact hlt
        rw [Array.getElem?_eq_getElem hlt']
        rw [Array.getD_eq_getD_getElem?, Array.getElem?_eq_getElem hlt'] at this
        simp only [Option.getD_some] at this
        rw [this]
        cases v <;> rfl
      split at hq
      · rename_i b hb
        injection hq with hq
        subst hq
        rw [key _ hb]
        cases b <;> cases want <;> rfl
      · rename_i vs hb
        split at hq
        · injection hq with hq
          subst hq
          rw [key _ hb]
          rfl
        · cases hq
      · cases hq
    · cases hq

/-- Where the machine comes to. -/
def PostN (G : Nat → Prop) (w0 : World) (N : Nat) (n : S → Prop) : Act → World → Prop := fun a w => ∃ s ι, n s ∧ Rel G w0 ι s a w N
def PostP (G : Nat → Prop) (w0 : World) (N : Nat) (p : Value → S → Prop) : List PanicEntry → Act → World → Prop := fun chain a w => ∃ v s ι, chain = [{ v := v, recovered := false }] ∧ p v s ∧ Rel G w0 ι s a w N

/-- One operation, in its own place. -/
theorem step_ok (h : Rel G w0 ι s a w N) {o : Oper} {n : S → Prop} {p : Value → S → Prop} (hs : Step P N o s n p) {next : Act → World → Prop} {Q : Exit → Act → World → Prop} (hn : ∀ a w, PostN G w0 N n a w → next a w) (hp : ∀ chain a w, PostP G w0 N p chain a w → Q (.panic chain) a w) :
    o.wp P a w next Q := by
  unfold Oper.wp
  have nop : ∀ {d : D} {s' : S}, Good G P o a w0 w N d s' → dstOk o.dst N = true → n (s'.put o.dst d) → o.upon P a next Q ((execOp a.eval o).run P w) := by
    intro d s' ⟨v, w', ι', hr, hR, hD⟩ hd hk
    rcases hr with hr | ⟨hr, rfl⟩
    · rw [hr]
      exact hn _ _ ⟨_, ι', hk, hR.putO hd hD⟩
    · rw [hr]
      exact hn _ _ ⟨_, ι', hk, hR.putO hd hD⟩
  unfold Step at hs
  split at hs
  · rename_i x hop
    split at hs
    · rename_i t v he
      have hx := ev_rel h x
      rw [he] at hx
      have hv := val_eq hx
      have : (execOp a.eval o).run P w = .halt (.panic (.iface t v)) w := by
        unfold execOp
        simp only [hop, hv, Instr.panic]
        simp [Result.andThen]
      rw [this]
      exact hp _ _ _ ⟨_, s, ι, rfl, hs, h⟩
    · exact hs.elim
  · split at hs
    · rename_i d s' ha
      exact nop (aop_ok h ha) hs.1 hs.2
    · rename_i g args ha
      cases hs with
      | dat hf h1 h2 h3 h4 k =>
        obtain ⟨vs, hl, hU, hr⟩ := aop_call h ha hf.body
        rw [hr]
        obtain ⟨e1, e2⟩ := datL_rel hU h1
        refine Calls.mono (hf.calls (okB G ι w) w vs (fun B hB => hB.1.1) (hl.trans e1.symm) e2) ?_
        rintro e w' ⟨v, ι1, rfl, hb, hH, hD⟩
        obtain ⟨hR, hD'⟩ := h.back hb hH hD (fun B hB _ => hB) h2 h3
        exact hn _ _ ⟨_, _, k, hR.putO h4 hD'⟩
      | lend hf h1 h2 h4 k =>
        obtain ⟨vs, hl, hU, hr⟩ := aop_call h ha hf.body
        rw [hr]
        obtain ⟨e1, e2⟩ := lendL_rel h hU h1
        refine Calls.mono (hf.calls (fun B => B < w.heap.size) w vs (fun B hB => hB) (hl.trans e1.symm) e2) ?_
        rintro e w' ⟨v, ι1, rfl, hb, hH, hD⟩
        have f : Fr G ι s.nx w ι s.nx w' := ⟨Nat.le_refl _, fun B hB => ⟨⟨⟨Nat.lt_of_lt_of_le hB.1.1 hb.size, hB.1.2⟩, hB.2⟩, hb.block B hB.1.1⟩, fun b hbl => .inr ⟨rfl, fun B hB C t hC => ⟨C, (hb.block B (h.inside b B hB).2).trans hC, rfl⟩⟩⟩
        have hR : Rel G w0 ι s a w' N := h.go f (hb.mono h.below.size) (fun x o hx => f.relO (h.heap x o hx) rfl (fun B hB => hb.block B (h.inside x B hB).2)) (fun x B hx => ⟨(h.inside x B hx).1, Nat.lt_of_lt_of_le (h.inside x B hx).2 hb.size⟩) h.inj h.dead h.fresh
        exact hn _ _ ⟨_, ι, k, hR.putO h4 (flat_rel h2 hD)⟩
      | pan hf h1 k =>
        obtain ⟨vs, hl, hU, hr⟩ := aop_call h ha hf.body
        rw [hr]
        obtain ⟨e1, e2⟩ := lendL_rel h hU h1
        refine Calls.mono (hf.calls (fun B => B < w.heap.size) w vs (fun B hB => hB) (hl.trans e1.symm) e2) ?_
        rintro e w' ⟨rfl, hb⟩
        have f : Fr G ι s.nx w ι s.nx w' := ⟨Nat.le_refl _, fun B hB => ⟨⟨⟨Nat.lt_of_lt_of_le hB.1.1 hb.size, hB.1.2⟩, hB.2⟩, hb.block B hB.1.1⟩, fun b hbl => .inr ⟨rfl, fun B hB C t hC => ⟨C, (hb.block B (h.inside b B hB).2).trans hC, rfl⟩⟩⟩
        have hR : Rel G w0 ι s a w' N := h.go f (hb.mono h.below.size) (fun x o hx => f.relO (h.heap x o hx) rfl (fun B hB => hb.block B (h.inside x B hB).2)) (fun x B hx => ⟨(h.inside x B hx).1, Nat.lt_of_lt_of_le (h.inside x B hx).2 hb.size⟩) h.inj h.dead h.fresh
        exact hp _ _ _ ⟨_, s, ι, rfl, k, hR⟩
      | gen hb h4 hf =>
        obtain ⟨vs, hl, hU, hr⟩ := aop_call h ha hb
        rw [hr]
        refine Calls.mono (hf G w0 ι a w vs h hl hU) ?_
        rintro e w' ⟨v, d, s', ι', rfl, hR, hD, k⟩
        exact hn _ _ ⟨_, ι', k, hR.putO h4 hD⟩
    · exact hs.elim

/-- The operations of these places, one behind the other, whatever comes behind them. -/
def TOps (P : Program) (N : Nat) (ops : Array Oper) (is : List Nat) (s : S) (n : S → Prop) (p : Value → S → Prop) : Prop :=
  ∀ (G : Nat → Prop) (w0 : World) (Q : Exit → Act → World → Prop) (rest : List Nat), (∀ a w, PostN G w0 N n a w → wpOps P ops Q rest a w) → (∀ chain a w, PostP G w0 N p chain a w → Q (.panic chain) a w) →
    ∀ (ι : Nat → Loc) (a : Act) (w : World), Rel G w0 ι s a w N → wpOps P ops Q (is ++ rest) a w

section
variable {ops : Array Oper} {o : Oper} {i : Nat} {r is1 is2 : List Nat} {n : S → Prop} {p : Value → S → Prop}
theorem T_end (h : n s) : TOps P N ops [] s n p := fun G w0 Q rest hn hp ι a w hR => hn a w ⟨s, ι, h, hR⟩
theorem T_opsEnt {s2 : S} (hE : Ent s s2) (h : TOps P N ops r s2 n p) : TOps P N ops r s n p := fun G w0 Q rest hn hp ι a w hR => let ⟨ι', hR'⟩ := hE G w0 ι a w N hR; h G w0 Q rest hn hp ι' a w hR'
theorem T_opsM (M : S → Prop) (h1 : TOps P N ops is1 s M p) (h2 : ∀ s', M s' → TOps P N ops is2 s' n p) : TOps P N ops (is1 ++ is2) s n p := by
  intro G w0 Q rest hn hp ι a w hR
  rw [List.append_assoc]
  exact h1 G w0 Q (is2 ++ rest) (fun a w ⟨s', ι', hk, hR'⟩ => h2 s' hk G w0 Q rest hn hp ι' a w hR') hp ι a w hR
theorem T_opsCut (s1 : S) (h1 : TOps P N ops is1 s (fun s' => Ent s' s1) p) (h2 : TOps P N ops is2 s1 n p) : TOps P N ops (is1 ++ is2) s n p := T_opsM _ h1 fun _ h => T_opsEnt h h2
theorem T_opsMono {n' : S → Prop} (hk : ∀ s, n s → n' s) (h : TOps P N ops r s n p) : TOps P N ops r s n' p := fun G w0 Q rest hn hp ι a w hR => h G w0 Q rest (fun a w ⟨s', ι', h, hR'⟩ => hn a w ⟨s', ι', hk _ h, hR'⟩) hp ι a w hR

theorem T_go (ho : ops[i]? = some o) (hw : wantedD ops o s = some true) (h : ∀ c : S → Prop, (∀ s, TOps P N ops r s n p → c s) → Step P N o s c p) : TOps P N ops (i :: r) s n p := by
  intro G w0 Q rest hn hp ι a w hR
  simp only [List.cons_append, wpOps, ho, wantedD_ok hR hw, if_true]
  exact .inl (step_ok hR (h _ fun _ h => h) (fun a w ⟨s', ι', hk, hR'⟩ => hk G w0 Q rest hn hp ι' a w hR') hp)
theorem T_pass (ho : ops[i]? = some o) (hw : wantedD ops o s = some false) (hd : dstOk o.dst N = true) (h : TOps P N ops r (s.put o.dst (.dat (.val (.tuple #[])))) n p) : TOps P N ops (i :: r) s n p := by
  intro G w0 Q rest hn hp ι a w hR
  simp only [List.cons_append, wpOps, ho, wantedD_ok hR hw, Bool.false_eq_true, if_false]
  exact h G w0 Q rest hn hp ι _ w (hR.putO hd (.dat (.val undef)))
end

/-! ### The code -/
inductive Ex where
  | normal | ret
  | exit (id : Nat)
  | panic (v : Value)
/-- A region whose order is drawn: told elsewhere. -/
def TDraw (P : Program) (N : Nat) (ops : Array Oper) (s : S) (n : S → Prop) (p : Value → S → Prop) : Prop :=
  ∀ (G : Nat → Prop) (w0 : World) (Q : Exit → Act → World → Prop), (∀ a w, PostN G w0 N n a w → Q .normal a w) → (∀ chain a w, PostP G w0 N p chain a w → Q (.panic chain) a w) →
    ∀ (ι : Nat → Loc) (a : Act) (w : World) (t : Nat), Rel G w0 ι s a w N → wpOps P ops Q (Region.schedule (P.follows .mixedOrders) ops t) a w
def thenK (n : S → Prop) (K : Ex → S → Prop) : Ex → S → Prop
  | .normal, s => n s
  | .ret, s => K .ret s
  | .exit i, s => K (.exit i) s
  | .panic v, s => K (.panic v) s
def blockK (id : Nat) (K : Ex → S → Prop) : Ex → S → Prop
  | .normal, s => K .normal s
  | .ret, s => K .ret s
  | .exit i, s => if i = id then K .normal s else K (.exit i) s
  | .panic v, s => K (.panic v) s
def PostK (G : Nat → Prop) (w0 : World) (N : Nat) (K : Ex → S → Prop) : Exit → Act → World → Prop
  | .normal, a, w => ∃ s ι, K .normal s ∧ Rel G w0 ι s a w N
  | .ret, a, w => ∃ s ι, K .ret s ∧ Rel G w0 ι s a w N
  | .exit i, a, w => ∃ s ι, K (.exit i) s ∧ Rel G w0 ι s a w N
  | .panic chain, a, w => ∃ v s ι, chain = [{ v := v, recovered := false }] ∧ K (.panic v) s ∧ Rel G w0 ι s a w N
  | _, _, _ => False

/-- The code, walked from a machine that is in the state s. -/
def TCode (P : Program) (N : Nat) (c : Code) (s : S) (K : Ex → S → Prop) : Prop :=
  ∀ (G : Nat → Prop) (w0 : World) (ι : Nat → Loc) (a : Act) (w : World), Rel G w0 ι s a w N → c.wp P (PostK G w0 N K) a w

theorem PostK.mono {K K' : Ex → S → Prop} (h : ∀ e s, K e s → K' e s) : ∀ (e : Exit) (a : Act) (w : World), PostK G w0 N K e a w → PostK G w0 N K' e a w
  | .normal, _, _, ⟨s, ι, k, r⟩ => ⟨s, ι, h _ _ k, r⟩
  | .ret, _, _, ⟨s, ι, k, r⟩ => ⟨s, ι, h _ _ k, r⟩
  | .exit _, _, _, ⟨s, ι, k, r⟩ => ⟨s, ι, h _ _ k, r⟩
  | .panic _, _, _, ⟨v, s, ι, e, k, r⟩ => ⟨v, s, ι, e, h _ _ k, r⟩
  | .goto _, _, _, h => h.elim
  | .outgrown, _, _, h => h.elim

section
variable {K K' : Ex → S → Prop} {x y c : Code}
theorem T_mono (h : ∀ e s, K e s → K' e s) (ht : TCode P N c s K) : TCode P N c s K' := fun G w0 ι a w hR => wp_mono (ht G w0 ι a w hR) (PostK.mono h)
theorem T_ent {s2 : S} (hE : Ent s s2) (h : TCode P N c s2 K) : TCode P N c s K := fun G w0 ι a w hR => let ⟨ι', hR'⟩ := hE G w0 ι a w N hR; h G w0 ι' a w hR'
theorem T_skip (h : K .normal s) : TCode P N .skip s K := fun _ _ ι _ _ hR => wp_skip ⟨s, ι, h, hR⟩
theorem T_ret (h : K .ret s) : TCode P N .ret s K := fun _ _ ι _ _ hR => wp_ret ⟨s, ι, h, hR⟩
theorem T_exit {id : Nat} (h : K (.exit id) s) : TCode P N (.exit id) s K := fun _ _ ι _ _ hR => wp_exit ⟨s, ι, h, hR⟩
theorem T_seqM (M : S → Prop) (hx : TCode P N x s (thenK M K)) (hy : ∀ s', M s' → TCode P N y s' K) : TCode P N (.seq x y) s K := by
  intro G w0 ι a w hR
  refine wp_seq (wp_mono (hx G w0 ι a w hR) ?_)
  intro e a' w' hq
  cases e with
  | normal => obtain ⟨s', ι', hk, hR⟩ := hq; exact hy s' hk G w0 ι' a' w' hR
  | ret => exact hq
  | exit i => exact hq
  | panic chain => exact hq
  | goto l => exact hq
  | outgrown => exact hq
theorem T_seq (h : TCode P N x s (thenK (fun s' => TCode P N y s' K) K)) : TCode P N (.seq x y) s K := T_seqM _ h fun _ h => h
/-- x leads to s1, whatever else there is. -/
theorem T_cut (s1 : S) (hx : TCode P N x s (thenK (fun s' => Ent s' s1) K)) (hy : TCode P N y s1 K) : TCode P N (.seq x y) s K := T_seqM _ hx fun _ h => T_ent h hy
theorem T_then {n : S → Prop} (h : n s) : thenK n K .normal s := h
theorem T_block {id : Nat} (h : TCode P N x s (blockK id K)) : TCode P N (.block id x) s K := by
  intro G w0 ι a w hR
  refine wp_block (wp_mono (h G w0 ι a w hR) ?_)
  intro e a' w' hq
  cases e with
  | normal => exact hq
  | ret => exact hq
  | exit i =>
    obtain ⟨s', ι', hk, hR⟩ := hq
    simp only [blockK] at hk
    simp only [Exit.inBlock]
    split
    · rename_i e
      rw [if_pos e] at hk
      exact ⟨s', ι', hk, hR⟩
    · rename_i e
      rw [if_neg e] at hk
      exact ⟨s', ι', hk, hR⟩
  | panic chain => exact hq
  | goto l => exact hq
  | outgrown => exact hq
theorem T_cond {cc : Operand} {q : Bool} (hq : asB (ev s cc) = some q) (h1 : q = true → TCode P N x s K) (h2 : q = false → TCode P N y s K) : TCode P N (.cond cc x y) s K := by
  intro G w0 ι a w hR
  exact wp_cond_split (asB_rel (ev_rel hR cc) hq) (fun e => h1 e G w0 ι a w hR) (fun e => h2 e G w0 ι a w hR)
theorem T_true {c : Operand} (hq : asB (ev s c) = some true) (h : TCode P N x s K) : TCode P N (.cond c x y) s K := T_cond hq (fun _ => h) (fun e => by cases e)
theorem T_false {c : Operand} (hq : asB (ev s c) = some false) (h : TCode P N y s K) : TCode P N (.cond c x y) s K := T_cond hq (fun e => by cases e) (fun _ => h)
theorem T_region {id : Nat} {ops : Array Oper} {is : List Nat} (hi : List.range ops.size = is) (h : ∀ (n : S → Prop) (p : Value → S → Prop), (∀ s, K .normal s → n s) → (∀ v s, K (.panic v) s → p v s) → TOps P N ops is s n p) : TCode P N (.region id ops false) s K := by
  intro G w0 ι a w hR
  refine wp_region ?_
  have := h (K .normal) (fun v => K (.panic v)) (fun _ h => h) (fun _ _ h => h) G w0 (PostK G w0 N K) [] (fun a w h => h) (fun chain a w h => h) ι a w hR
  rw [hi]
  simpa using this
theorem T_draw {id : Nat} {ops : Array Oper} (h : TDraw P N ops s (K .normal) (fun v => K (.panic v))) : TCode P N (.region id ops true) s K := by
  intro G w0 ι a w hR
  refine wp_region_draw fun t => ?_
  exact h G w0 (PostK G w0 N K) (fun a w h => h) (fun chain a w h => h) ι a _ t hR.drew

def loopK {α : Type} (st : α → S) (I : α → Prop) (μ : α → Nat) (m : Nat) (K : Ex → S → Prop) : Ex → S → Prop
  | .normal, s => ∃ z, Ent s (st z) ∧ I z ∧ μ z < m
  | .ret, s => K .ret s
  | .exit i, s => K (.exit i) s
  | .panic v, s => K (.panic v) s
theorem T_loop {α : Type} (st : α → S) (I : α → Prop) (μ : α → Nat) (z0 : α) (h0 : Ent s (st z0)) (hI : I z0) (hr : ∀ z, I z → TCode P N c (st z) (loopK st I μ (μ z) K)) : TCode P N (.loop c) s K := by
  intro G w0 ι a w h
  have key : ∀ (m : Nat) (z : α) (ι : Nat → Loc) (a : Act) (w : World), μ z = m → I z → Rel G w0 ι (st z) a w N → ∀ (b : Frame) (k : List Item) (cs : List Frame),
      ∃ e a' w', PostK G w0 N K e a' w' ∧ Arrives P (lone (b.at a (.code c :: .inLoop c :: k)) cs w) b k cs e a' w' := by
    intro m
    induction m using Nat.strongRecOn with
    | _ m ihm =>
      intro z ι a w hm hI hR b k cs
      obtain ⟨e, a1, w1, hq, harr⟩ := hr z hI G w0 ι a w hR b (.inLoop c :: k) cs
      cases e with
      | normal =>
        obtain ⟨s', ι', ⟨z2, hE, hI2, hlt⟩, hR'⟩ := hq
        obtain ⟨ι2, hR2⟩ := hE G w0 ι' a1 w1 N hR'
        obtain ⟨e2, a2, w2, hq2, harr2⟩ := ihm (μ z2) (by omega) z2 ι2 a1 w1 rfl hI2 hR2 b k cs
        exact ⟨e2, a2, w2, hq2, .of_steps (Steps.trans harr (.one step_inLoop)) harr2⟩
      | exit id => exact ⟨.exit id, a1, w1, (show PostK G w0 N K (.exit id) a1 w1 from hq), .pass (x := .inLoop c) rfl (fun _ _ => .inl (by simp)) harr⟩
      | ret => exact ⟨.ret, a1, w1, (show PostK G w0 N K .ret a1 w1 from hq), .pass (x := .inLoop c) rfl (fun _ _ => .inl (by simp)) harr⟩
      | panic ch => exact ⟨.panic ch, a1, w1, (show PostK G w0 N K (.panic ch) a1 w1 from hq), .pass (x := .inLoop c) rfl (fun _ _ => .inl (by simp)) harr⟩
      | goto l => exact hq.elim
      | outgrown => exact hq.elim
  intro b k cs
  obtain ⟨ι0, hR0⟩ := h0 G w0 ι a w N h
  obtain ⟨e, a', w', hq, harr⟩ := key _ z0 ι0 a w rfl hI hR0 b k cs
  exact ⟨e, a', w', hq, .of_steps (.one step_loop) harr⟩
end

/-! ### A function -/
def argSl (k : Nat) : List Dat → List (Nat × D)
  | [] => []
  | d :: r => (k, .dat d) :: argSl (k + 1) r
theorem lk_argSl : ∀ (l : List Dat) (k t : Nat), lk t (argSl k l) = if k ≤ t then (l[t - k]?).map .dat else none
  | [], k, t => by simp [argSl, lk]
  | d :: r, k, t => by
    simp only [argSl, lk, lk_argSl r (k + 1) t]
    by_cases e : t = k
    · subst e; simp
    · rw [if_neg e]
      by_cases h1 : k + 1 ≤ t
      · rw [if_pos h1, if_pos (by omega), show t - k = (t - (k + 1)) + 1 by omega]
        simp
      · rw [if_neg h1, if_neg (by omega)]
def resL (s : S) : List Nat → Option (List D)
  | [] => some []
  | r :: rs => match lk r s.sl, resL s rs with
    | some d, some l => some (d :: l)
    | _, _ => none
def resD (s : S) (rs : List Nat) : Option D := match rs with
  | [r] => lk r s.sl
  | rs => (resL s rs).map .tup
/-- The end: the results read as d, over just the blocks h. -/
def Fin (rs : List Nat) (d : D) (h : List HO) (s : S) : Prop := ∃ s2, Ent s s2 ∧ s2.hp = enum 0 h ∧ s2.nx = h.length ∧ resD s2 rs = some d
def start (args : List Dat) : S := { sl := argSl 0 args, hp := [], nx := 0 }

theorem start_rel {ok : Nat → Prop} {args : List Dat} {vs : List Value} {N : Nat} (hok : ∀ B, ok B → B < w.heap.size) (hl : vs.length = args.length) (hU : ∀ j e, args[j]? = some e → DatR ok w e (vs.getD j undef)) (hN : args.length ≤ N) :
    Rel (fun B => ok B ∨ w.heap.size ≤ B) w (fun _ => .dead) (start args) { tmps := vs.toArray ++ Array.replicate (N - vs.toArray.size) undef, defers := [] } w N := by
  refine ⟨Below.refl _ _, by simp [hl]; omega, rfl, fun t d ht => ?_, fun b o hb => by simp [start, lk] at hb, fun b B hb => by simp at hb, fun b b' B hb _ => by simp at hb, fun b _ => rfl, fun b _ => rfl, fun B hB => .inr hB⟩
  simp only [start] at ht
  rw [lk_argSl] at ht
  simp only [Nat.zero_le, if_true, Nat.sub_zero, Option.map_eq_some_iff] at ht
  obtain ⟨e, he, rfl⟩ := ht
  have hlt := (List.getElem?_eq_some_iff.1 he).1
  refine ⟨by omega, .dat ?_⟩
  have : ({ tmps := vs.toArray ++ Array.replicate (N - vs.toArray.size) undef, defers := [] } : Act).tmps.getD t undef = vs.getD t undef := by
    simp only [Array.getD_eq_getD_getElem?, getD_get?]
    rw [Array.getElem?_append_left (by simp; omega)]
    simp
  rw [this]
  exact (hU t e he).mono (fun B hB => ⟨⟨hok B hB, .inl hB⟩, fun b hb => by simp at hb⟩) (fun _ _ => rfl)

theorem results_ok {fn : Func} {rs : List Nat} (hr : fn.results = (rs.map ResultVar.tmp).toArray) (h3 : rs.length ≤ 3) {s : S} (h : Rel G w0 ι s a w N) {d : D} (hd : resD s rs = some d) : ∃ v, (results fn a.tmps).run P w = .ok v w ∧ RelD G ι s.nx w d v := by
  have many : ∀ {l : List Nat} {ds : List D}, resL s l = some ds → ds.length = l.length ∧ ∀ j d, ds[j]? = some d → RelD G ι s.nx w d ((l.map fun r => a.tmps.getD r undef).getD j undef) := by
    intro l
    induction l with
    | nil => intro ds h; simp only [resL, Option.some.injEq] at h; subst h; exact ⟨rfl, fun j d h => by simp at h⟩
    | cons x r ih =>
      intro ds hds
      simp only [resL] at hds
      split at hds
      · rename_i d1 l1 h1 h2
        injection hds with hds
        subst hds
        obtain ⟨i1, i2⟩ := ih h2
        refine ⟨by simp [i1], fun j d hj => ?_⟩
        cases j with
        | zero => simp at hj; subst hj; simpa using (h.slots x _ h1).2
        | succ j => simpa using i2 j d (by simpa using hj)
      · cases hds
  match rs, hr, h3, hd with
  | [], hr, _, hd =>
    simp only [resD, Option.map_eq_some_iff] at hd
    obtain ⟨ds, hds, rfl⟩ := hd
    obtain ⟨i1, i2⟩ := many hds
    exact ⟨_, results_none hr a.tmps P w, .tup ds [] (by simpa using i1.symm) (fun j d hj => by simpa using i2 j d hj)⟩
  | [r], hr, _, hd =>
    simp only [resD] at hd
    exact ⟨_, results_tmp hr a.tmps P w, (h.slots r d hd).2⟩
  | [r1, r2], hr, _, hd =>
    simp only [resD, Option.map_eq_some_iff] at hd
    obtain ⟨ds, hds, rfl⟩ := hd
    obtain ⟨i1, i2⟩ := many hds
    exact ⟨_, results_tmp2 hr a.tmps P w, .tup ds [_, _] (by simpa using i1.symm) i2⟩
  | [r1, r2, r3], hr, _, hd =>
    simp only [resD, Option.map_eq_some_iff] at hd
    obtain ⟨ds, hds, rfl⟩ := hd
    obtain ⟨i1, i2⟩ := many hds
    exact ⟨_, results_tmp3 hr a.tmps P w, .tup ds [_, _, _] (by simpa using i1.symm) i2⟩
  | _ :: _ :: _ :: _ :: _, _, h3, _ => simp at h3

theorem Does.intro {g : FuncId} {fn : Func} {c : Code} {args : List Dat} {d : D} {hs : List HO} {N : Nat} (rs : List Nat) (hf : P.funcs[g]? = some fn) (hb : fn.body = some c) (hn : (fn.name == "runtime.NumGoroutine") = false) (hN : fn.ntmps = N)
    (hr : fn.results = (rs.map ResultVar.tmp).toArray) (hl3 : rs.length ≤ 3) (ha : args.length ≤ N) (h : TCode P N c (start args) (fun e s' => match e with | .normal => Fin rs d hs s' | .ret => Fin rs d hs s' | _ => False)) : Does P g args d hs := by
  refine ⟨⟨fn, c, hf, hb, hn⟩, fun ok w vs hok hl hU => ?_⟩
  refine calls_of_wp hf hb ?_
  rw [hN]
  refine wp_mono (h _ _ _ _ w (start_rel hok hl hU ha)) ?_
  intro e a' w' hq
  have fin : ∀ s ι, Fin rs d hs s → Rel (fun B => ok B ∨ w.heap.size ≤ B) w ι s a' w' N → bodyPost P fn (Ret (fun B => ok B ∨ w.heap.size ≤ B) w d hs) .normal a' w' := by
    rintro s ι ⟨s2, hE, h1, h2, h3⟩ hR
    obtain ⟨ι2, hR2⟩ := hE _ _ _ _ _ _ hR
    obtain ⟨v, hv, hD⟩ := results_ok (P := P) hr hl3 hR2 h3
    refine ⟨hR2.defers, v, hv, v, ι2, rfl, hR2.below, ?_, by rw [← h2]; exact hD⟩
    have := hR2.toH
    rw [h1, h2] at this
    exact this
  cases e with
  | normal => obtain ⟨s, ι, hk, hR⟩ := hq; exact fin s ι hk hR
  | ret => obtain ⟨s, ι, hk, hR⟩ := hq; exact fin s ι hk hR
  | exit i => obtain ⟨s, ι, hk, hR⟩ := hq; exact hk.elim
  | panic chain => obtain ⟨v, s, ι, _, hk, hR⟩ := hq; exact hk.elim
  | goto l => exact hq.elim
  | outgrown => exact hq.elim

theorem DoesP.intro {g : FuncId} {fn : Func} {c : Code} {args : List Dat} {pv : Value} {N : Nat} (hf : P.funcs[g]? = some fn) (hb : fn.body = some c) (hn : (fn.name == "runtime.NumGoroutine") = false) (hN : fn.ntmps = N) (ha : args.length ≤ N)
    (h : TCode P N c (start args) (fun e s' => match e with | .panic v => v = pv | _ => False)) : DoesP P g args pv := by
  refine ⟨⟨fn, c, hf, hb, hn⟩, fun ok w vs hok hl hU => ?_⟩
  refine calls_of_wp hf hb ?_
  rw [hN]
  refine wp_mono (h _ _ _ _ w (start_rel hok hl hU ha)) ?_
  intro e a' w' hq
  cases e with
  | normal => obtain ⟨s, ι, hk, hR⟩ := hq; exact hk.elim
  | ret => obtain ⟨s, ι, hk, hR⟩ := hq; exact hk.elim
  | exit i => obtain ⟨s, ι, hk, hR⟩ := hq; exact hk.elim
  | panic chain =>
    obtain ⟨v, s, ι, rfl, hk, hR⟩ := hq
    simp only at hk
    subst hk
    exact ⟨hR.defers, rfl, hR.below⟩
  | goto l => exact hq.elim
  | outgrown => exact hq.elim

end Go.Proofs.Ytehboominkoldaa.Sx
