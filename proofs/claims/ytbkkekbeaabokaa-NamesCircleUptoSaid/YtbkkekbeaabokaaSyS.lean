/- Sy, part S: the rules for a region that draws its order. -/
import Derived.Test.YtbkkekbeaabokaaSyO
set_option linter.unusedVariables false
set_option linter.unusedSimpArgs false
namespace Go.Proofs.Ytbkkekbeaabokaa.Sx
open Go Go.RowKit

variable {P : Program} {pr : Pr} {w w' : World} {ι ι' : Nat → Loc} {s s' s2 : S} {a : Act} {N : Nat} {ops : Array Oper} {o : Oper} {i k : Nat} {r : List Nat} {n : S → Prop} {p : Value → S → Prop}

abbrev Hp := List (Nat × HO) × Nat
/-- The operations from place k on, in the order of the text. q: the place that panics, and with what; fx: the heap there, once one is there; acc: what is known of the operations before k, the last first; n: of the end; pq: of the heap where it panics. -/
def TDraw (P : Program) (N : Nat) (ops : Array Oper) (q : Option (Nat × Value)) (fx : Option Hp) (k : Nat) (is : List Nat) (s : S) (acc : List Inf) (n : S → Prop) (pq : Hp → Prop) : Prop :=
  ∃ hp I s1, (∀ x, fx = some x → x = hp) ∧ (fx = none → pq hp) ∧ Run2 P N ops (tblGo ops.toList []) (q.map fun x => ⟨x.1, x.2, hp.1, hp.2⟩) k is s I s1 ∧ drawOk ops (tblGo ops.toList []) (acc.reverse ++ I) = true ∧ n s1
def liveQ (ops : Array Oper) (q : Option (Nat × Value)) (j : Nat) : Bool := match q with
  | none => true
  | some x => !(j == x.1 || ((tblGo ops.toList []).getD j []).contains x.1)
theorem live_of {q : Option (Nat × Value)} {hp : Hp} : live (tblGo ops.toList []) (q.map fun x => ⟨x.1, x.2, hp.1, hp.2⟩) k = liveQ ops q k := by
  cases q <;> rfl
def StepD (P : Program) (N : Nat) (o : Oper) (s : S) (n : S → Prop) : Prop := match aop P o.op s with
  | .ok d s' => dstOk o.dst N = true ∧ n (s'.put o.dst d)
  | _ => False

section
variable {q : Option (Nat × Value)} {fx : Option Hp} {acc : List Inf} {pq : Hp → Prop}
theorem D_end {x : Hp} (hf : fx = some x) (hD : drawOk ops (tblGo ops.toList []) acc.reverse = true) (h : n s) : TDraw P N ops q fx k [] s acc n pq :=
  ⟨x, [], s, fun y e => by rw [hf] at e; injection e with e; exact e.symm, fun e => by (rw [hf] at e; cases e), .nil, by rw [List.append_nil]; exact hD, h⟩
theorem D_step {inf : Inf} {s' : S} (h : TDraw P N ops q fx (k + 1) r s' (inf :: acc) n pq) (hr : ∀ (hp : Hp) I s1, Run2 P N ops (tblGo ops.toList []) (q.map fun x => ⟨x.1, x.2, hp.1, hp.2⟩) (k + 1) r s' I s1 → Run2 P N ops (tblGo ops.toList []) (q.map fun x => ⟨x.1, x.2, hp.1, hp.2⟩) k (k :: r) s (inf :: I) s1) : TDraw P N ops q fx k (k :: r) s acc n pq := by
  obtain ⟨hp, I, s1, h1, h2, h3, h4, h5⟩ := h
  exact ⟨hp, inf :: I, s1, h1, h2, hr hp I s1 h3, by rw [← h4, List.reverse_cons, List.append_assoc]; rfl, h5⟩
/-- An operation that only looks. -/
theorem D_op (ho : ops[k]? = some o) (hg : o.guard = none) (hp : pureOp o.op = true) (hl : liveQ ops q k = true) (h : ∀ c : S → Prop, (∀ s', TDraw P N ops q fx (k + 1) r s' ((lookN o s, 0) :: acc) n pq → c s') → StepD P N o s c) : TDraw P N ops q fx k (k :: r) s acc n pq := by
  have := h _ fun _ h => h
  unfold StepD at this
  split at this
  · rename_i d s' he
    obtain ⟨h1, h2⟩ := this
    obtain ⟨rfl, _⟩ := aop_congr (s2 := s) hp he (fun _ _ => rfl) (fun _ _ _ _ => rfl)
    exact D_step h2 fun hp' I s1 hr => .pure (live_of.trans hl) ho ⟨true, d, by simp only [wantedD, hg], fun _ => .op hp he, rfl, h1⟩ rfl hr
  · exact this.elim
/-- An operation under a guard that only looks, at no more than its own operands. -/
theorem D_pure {d : D} (ho : ops[k]? = some o) (hs : PStep2 P N ops o s d) (hl : liveQ ops q k = true) (c : ∀ c : S → Prop, (∀ s', TDraw P N ops q fx (k + 1) r s' ((lookN o s, 0) :: acc) n pq → c s') → c (s.put o.dst d)) : TDraw P N ops q fx k (k :: r) s acc n pq :=
  D_step (c _ fun _ h => h) fun hp' I s1 hr => .pure (live_of.trans hl) ho hs rfl hr
/-- A call with data for data: it only looks. -/
theorem D_call {g : FuncId} {args : List D} {ds : List Dat} {d : Dat} (ho : ops[k]? = some o) (hg : o.guard = none) (hd : dstOk o.dst N = true) (h : aop P o.op s = .call g args) (hf : Does P g ds (.dat d) []) (h1 : datL args = some ds) (hl : liveQ ops q k = true) (c : ∀ c : S → Prop, (∀ s', TDraw P N ops q fx (k + 1) r s' ((lookN o s, 0) :: acc) n pq → c s') → c (s.put o.dst (.dat d))) : TDraw P N ops q fx k (k :: r) s acc n pq :=
  D_pure ho ⟨true, .dat d, by simp only [wantedD, hg], fun _ => .dat h hf h1, rfl, hd⟩ hl c
/-- It only looks, at whatever lies behind; no other makes or writes beside it. -/
theorem D_deep {d : D} (ho : ops[k]? = some o) (hs : PStep P N ops o s d) (hl : liveQ ops q k = true) (c : ∀ c : S → Prop, (∀ s', TDraw P N ops q fx (k + 1) r s' (([], 2) :: acc) n pq → c s') → c (s.put o.dst d)) : TDraw P N ops q fx k (k :: r) s acc n pq :=
  D_step (c _ fun _ h => h) fun hp' I s1 hr => .deep (live_of.trans hl) ho hs hr
theorem D_lend {g : FuncId} {args : List D} {ds : List Dat} {d : D} (ho : ops[k]? = some o) (hg : o.guard = none) (hd : dstOk o.dst N = true) (h : aop P o.op s = .call g args) (hf : Does P g ds d []) (h1 : lendL s args = some ds) (h2 : flat d = true) (hl : liveQ ops q k = true) (c : ∀ c : S → Prop, (∀ s', TDraw P N ops q fx (k + 1) r s' (([], 2) :: acc) n pq → c s') → c (s.put o.dst d)) : TDraw P N ops q fx k (k :: r) s acc n pq :=
  D_deep ho ⟨true, d, by simp only [wantedD, hg], fun _ => .lend h hf h1 h2, rfl, hd⟩ hl c
/-- It makes or writes: the blocks of tau. -/
theorem D_eff (tau : List Nat) (ho : ops[k]? = some o) (hg : o.guard = none) (hl : liveQ ops q k = true) (h : ∀ c : S → Prop, (∀ s', (∀ b, b ∉ tau → lk b s'.hp = lk b s.hp) → TDraw P N ops q fx (k + 1) r s' ((tau, 1) :: acc) n pq → c s') → StepD P N o s c) : TDraw P N ops q fx k (k :: r) s acc n pq := by
  have := h (fun s' => (∀ b, b ∉ tau → lk b s'.hp = lk b s.hp) ∧ TDraw P N ops q fx (k + 1) r s' ((tau, 1) :: acc) n pq) fun _ h1 h2 => ⟨h1, h2⟩
  unfold StepD at this
  split at this
  · rename_i d s' he
    obtain ⟨h1, h2, h3⟩ := this
    refine D_step h3 fun hp' I s1 hr => .eff (live_of.trans hl) ho hg h1 (.op he) (fun b hb => ?_) hr
    have := h2 b hb
    cases hd : o.dst <;> simpa [S.put, hd] using this
  · exact this.elim
/-- A call with data for what is one's own. -/
theorem D_effc {g : FuncId} {args : List D} {ds : List Dat} {d d' : D} {hs hs' : List HO} (ho : ops[k]? = some o) (hg : o.guard = none) (hd : dstOk o.dst N = true) (h : aop P o.op s = .call g args) (hf : Does P g ds d hs) (h1 : datL args = some ds) (h2 : mp (sh s.nx) d = some d') (h3 : mpH (sh s.nx) hs = some hs') (hl : liveQ ops q k = true)
    (c : ∀ c : S → Prop, (∀ s', TDraw P N ops q fx (k + 1) r s' ((List.range' s.nx hs'.length, 1) :: acc) n pq → c s') → c ({ s with hp := enum s.nx hs' ++ s.hp, nx := s.nx + hs.length }.put o.dst d')) : TDraw P N ops q fx k (k :: r) s acc n pq := by
  refine D_step (c _ fun _ h => h) fun hp' I s1 hr => .eff (live_of.trans hl) ho hg hd (.call h hf h1 h2 h3) (fun b hb => ?_) hr
  rw [lk_app, lk_enum]
  simp only [List.mem_range'_1, not_and, Nat.not_lt] at hb
  by_cases hk : s.nx ≤ b
  · rw [if_pos hk, List.getElem?_eq_none (by have := hb hk; omega)]
  · rw [if_neg hk]
/-- Here it panics. -/
theorem D_pan {pv : Value} (hq : q = some (k, pv)) (hf : fx = none) (ho : ops[k]? = some o) (hg : o.guard = none) (h : PanS P o s pv) (hpq : pq (s.hp, s.nx)) (c : TDraw P N ops q (some (s.hp, s.nx)) (k + 1) r s (([], 1) :: acc) n pq) : TDraw P N ops q fx k (k :: r) s acc n pq := by
  obtain ⟨hp, I, s1, h1, h2, h3, h4, h5⟩ := c
  have := h1 _ rfl
  subst this
  refine ⟨(s.hp, s.nx), ([], 1) :: I, s1, fun x e => by (rw [hf] at e; cases e), fun _ => hpq, .pan (pv := pv) (by rw [hq]; rfl) ho hg h h3, by rw [← h4, List.reverse_cons, List.append_assoc]; rfl, h5⟩
theorem D_skip (hl : liveQ ops q k = false) (hk : (match q with | some x => x.1 != k | none => true) = true) (c : TDraw P N ops q fx (k + 1) r s (([], 0) :: acc) n pq) : TDraw P N ops q fx k (k :: r) s acc n pq := by
  refine D_step c fun hp' I s1 hr => .skip (live_of.trans hl) (fun x hx => ?_) hr
  cases q with
  | none => cases hx
  | some y => injection hx with hx; subst hx; simpa using hk
end

/-- A drawn region, and what comes behind it. -/
theorem T_seqDraw {is : List Nat} {id : Nat} {y : Code} {K : Ex → S → Prop} (hi : List.range ops.size = is) (hm : P.follows .mixedOrders = true) (h : ∀ n : S → Prop, (∀ s1, TCode P pr N y s1 K → n s1) → TDraw P N ops none (some ([], 0)) 0 is s [] n (fun _ => True)) : TCode P pr N (.seq (.region id ops true) y) s K := by
  obtain ⟨hp, I, s1, _, _, h3, h4, h2⟩ := h _ (fun _ h => h)
  refine T_seqM (fun s' => Ent s' s1) ?_ fun s' hE => T_ent hE h2
  subst hi
  exact draw_ok (pk := none) hm h4 h3 (fun x e => by cases e) (fun _ s' hE => hE) (fun x e => by cases e)
theorem T_draw' {is : List Nat} {id : Nat} {K : Ex → S → Prop} (hi : List.range ops.size = is) (hm : P.follows .mixedOrders = true) (hK : ∀ s' s1, Ent s' s1 → K .normal s1 → K .normal s') (h : ∀ n : S → Prop, (∀ s1, K .normal s1 → n s1) → TDraw P N ops none (some ([], 0)) 0 is s [] n (fun _ => True)) : TCode P pr N (.region id ops true) s K := by
  obtain ⟨hp, I, s1, _, _, h3, h4, h2⟩ := h _ (fun _ h => h)
  subst hi
  exact draw_ok (pk := none) hm h4 h3 (fun x e => by cases e) (fun _ s' hE => hK _ _ hE h2) (fun x e => by cases e)
def freeOf (ops : Array Oper) (ks : List Nat) : Bool := ops.toList.all fun o => match o.dst with
  | some t => !ks.contains t
  | none => true
theorem freeOf_ok {ks : List Nat} (h : freeOf ops ks = true) {t : Nat} (ht : t ∈ ks) {j : Nat} {o : Oper} (ho : ops[j]? = some o) : o.dst ≠ some t := by
  intro e
  have := List.all_eq_true.1 h o (Array.mem_toList_iff.2 (Array.mem_of_getElem? ho))
  rw [e] at this
  simp [ht] at this
/-- A drawn region that panics at its place q, with v; the slots ks stand. -/
theorem T_drawPan (q : Nat) (v : Value) (ks : List Nat) {is : List Nat} {id : Nat} {K : Ex → S → Prop} (hi : List.range ops.size = is) (hq : decide (q < ops.size) = true) (hks : freeOf ops ks = true) (hm : P.follows .mixedOrders = true)
    (h : ∀ pq : Hp → Prop, (∀ hp nx, (∀ s' : S, s'.gh = s.gh → s'.st = s.st → s'.hp = hp → s'.nx = nx → (∀ t ∈ ks, lk t s'.sl = lk t s.sl) → K (.panic v) s') → pq (hp, nx)) → TDraw P N ops (some (q, v)) none 0 is s [] (fun _ => True) pq) : TCode P pr N (.region id ops true) s K := by
  obtain ⟨hp, I, s1, _, h1, h3, h4, h2⟩ := h (fun hp => ∀ s' : S, s'.gh = s.gh → s'.st = s.st → s'.hp = hp.1 → s'.nx = hp.2 → (∀ t ∈ ks, lk t s'.sl = lk t s.sl) → K (.panic v) s') (fun hp nx h => h)
  subst hi
  refine draw_ok (pk := some ⟨q, v, hp.1, hp.2⟩) hm h4 h3 (fun x e => ?_) (fun e => by cases e) (fun x e s' hsl e1 e2 e3 e4 => ?_)
  · injection e with e; subst e; simpa using hq
  · injection e with e; subst e; exact h1 rfl s' e1 e2 e3 e4 fun t ht => hsl t fun j o ho => freeOf_ok hks ht ho
theorem T_seqDrawPan (q : Nat) (v : Value) (ks : List Nat) {is : List Nat} {id : Nat} {y : Code} {K : Ex → S → Prop} (hi : List.range ops.size = is) (hq : decide (q < ops.size) = true) (hks : freeOf ops ks = true) (hm : P.follows .mixedOrders = true)
    (h : ∀ pq : Hp → Prop, (∀ hp nx, (∀ s' : S, s'.gh = s.gh → s'.st = s.st → s'.hp = hp → s'.nx = nx → (∀ t ∈ ks, lk t s'.sl = lk t s.sl) → K (.panic v) s') → pq (hp, nx)) → TDraw P N ops (some (q, v)) none 0 is s [] (fun _ => True) pq) : TCode P pr N (.seq (.region id ops true) y) s K :=
  T_seq (T_drawPan q v ks hi hq hks hm h)
attribute [simp] StepD

end Go.Proofs.Ytbkkekbeaabokaa.Sx
