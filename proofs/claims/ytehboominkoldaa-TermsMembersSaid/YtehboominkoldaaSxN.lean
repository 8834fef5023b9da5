/- Sx, part N: operations that only look: guarded ones without a split, regions that draw their order. -/
import Derived.Test.YtehboominkoldaaSxM
import Derived.Orders
set_option linter.unusedVariables false
set_option linter.unusedSimpArgs false
namespace Go.Proofs.Ytehboominkoldaa.Sx
open Go Go.RowKit

variable {P : Program} {G : Nat → Prop} {w0 w w' : World} {ι ι' : Nat → Loc} {s s' : S} {a : Act} {N : Nat} {ops : Array Oper} {o : Oper} {i : Nat} {r : List Nat} {n : S → Prop} {p : Value → S → Prop}

def pureOp : Op → Bool
  | .move _ | .assign _ | .pick .. | .load .. | .nilCheck _ | .binOp .. | .unOp .. | .convert .. | .makeFunc .. | .slice .. | .fieldAddr .. | .indexAddr .. | .extract .. | .build .. => true
  | .call { callee := .builtin .len, .. } => true
  | _ => false
def S.at (s : S) (sl : List (Nat × D)) : S := { s with sl := sl }

theorem ofD_ok {s s1 : S} {x : Option D} {d : D} (h : ofD s x = .ok d s1) : s1 = s ∧ x = some d := by
  cases x with
  | none => simp [ofD] at h
  | some e => simp [ofD] at h; exact ⟨h.2.symm, by rw [h.1]⟩

theorem aop_congr {op : Op} {s1 : S} {d : D} {sl' : List (Nat × D)} (hp : pureOp op = true) (h : aop P op s = .ok d s1) (he : ∀ x ∈ op.operands, ev (s.at sl') x = ev s x) : s1 = s ∧ aop P op (s.at sl') = .ok d (s.at sl') := by
  unfold pureOp at hp
  split at hp
  case h_1 x => simp only [aop, Out.ok.injEq] at h ⊢; exact ⟨h.2.symm, by rw [he _ (by simp [Op.operands]), h.1], trivial⟩
  case h_2 x => simp only [aop, Out.ok.injEq] at h ⊢; exact ⟨h.2.symm, by rw [he _ (by simp [Op.operands]), h.1], trivial⟩
  case h_3 c x y =>
    simp only [aop] at h ⊢
    rw [he c (by simp [Op.operands]), he x (by simp [Op.operands]), he y (by simp [Op.operands])]
    split at h
    · injection h with h1 h2
      exact ⟨h2.symm, by rw [h1]⟩
    · cases h
  case h_4 t x =>
    simp only [aop] at h ⊢
    obtain ⟨h1, h2⟩ := ofD_ok h
    refine ⟨h1, ?_⟩
    rw [he x (by simp [Op.operands]), show aLoad P (s.at sl') t (ev s x) = aLoad P s t (ev s x) from rfl, h2]
    rfl
  case h_5 x =>
    simp only [aop] at h ⊢
    obtain ⟨h1, h2⟩ := ofD_ok h
    refine ⟨h1, ?_⟩
    rw [he x (by simp [Op.operands]), show aNil (s.at sl') (ev s x) = aNil s (ev s x) from rfl, h2]
    rfl
  case h_6 op t x y t' =>
    simp only [aop] at h ⊢
    obtain ⟨h1, h2⟩ := ofD_ok h
    refine ⟨h1, ?_⟩
    rw [he x (by simp [Op.operands]), he y (by simp [Op.operands]), h2]
    rfl
  case h_7 op t x =>
    simp only [aop] at h ⊢
    obtain ⟨h1, h2⟩ := ofD_ok h
    refine ⟨h1, ?_⟩
    rw [he x (by simp [Op.operands]), h2]
    rfl
  case h_8 t t' x =>
    simp only [aop] at h ⊢
    rw [he x (by simp [Op.operands])]
    split at h
    · rename_i hi
      obtain ⟨h1, h2⟩ := ofD_ok h
      refine ⟨h1, ?_⟩
      rw [if_pos hi, h2]
      rfl
    · cases h
  case h_9 f first caps =>
    cases f with
    | func g =>
      simp only [aop] at h ⊢
      split at h
      · rename_i hf
        injection h with h1 h2
        refine ⟨h2.symm, ?_⟩
        rw [if_pos hf, ← h1]
        congr 2
        refine List.map_congr_left fun x hx => he x ?_
        simp only [Op.operands, Array.mem_append]
        exact .inr (Array.mem_toList_iff.1 hx)
      · cases h
    | _ => simp [aop] at h
  case h_10 t x lo hi mx =>
    cases mx with
    | some m => simp [aop] at h
    | none =>
      simp only [aop] at h ⊢
      obtain ⟨h1, h2⟩ := ofD_ok h
      refine ⟨h1, ?_⟩
      have e1 : lo.map (ev (s.at sl')) = lo.map (ev s) := by
        cases lo with
        | none => rfl
        | some l => simp only [Option.map_some, he l (by simp [Op.operands])]
      have e2 : hi.map (ev (s.at sl')) = hi.map (ev s) := by
        cases hi with
        | none => rfl
        | some l => simp only [Option.map_some, he l (by simp [Op.operands])]
      rw [he x (by simp [Op.operands]), e1, e2, show aSlice P (s.at sl') t (ev s x) (lo.map (ev s)) (hi.map (ev s)) = aSlice P s t (ev s x) (lo.map (ev s)) (hi.map (ev s)) from rfl, h2]
      rfl
  case h_11 t x f =>
    simp only [aop] at h ⊢
    obtain ⟨h1, h2⟩ := ofD_ok h
    refine ⟨h1, ?_⟩
    rw [he x (by simp [Op.operands]), show aField P (s.at sl') t f (ev s x) = aField P s t f (ev s x) from rfl, h2]
    rfl
  case h_12 t x y =>
    simp only [aop] at h ⊢
    obtain ⟨h1, h2⟩ := ofD_ok h
    refine ⟨h1, ?_⟩
    rw [he x (by simp [Op.operands]), he y (by simp [Op.operands]), show aIndex P (s.at sl') t (ev s x) (ev s y) = aIndex P s t (ev s x) (ev s y) from rfl, h2]
    rfl
  case h_13 x f =>
    simp only [aop] at h ⊢
    obtain ⟨h1, h2⟩ := ofD_ok h
    refine ⟨h1, ?_⟩
    rw [he x (by simp [Op.operands]), h2]
    rfl
  case h_14 t ps =>
    simp only [aop] at h ⊢
    obtain ⟨h1, h2⟩ := ofD_ok h
    refine ⟨h1, ?_⟩
    have e : (ps.toList.map fun p => (p.1, ev (s.at sl') p.2)) = ps.toList.map fun p => (p.1, ev s p.2) := by
      refine List.map_congr_left fun q hq => ?_
      rw [he q.2 (by simp only [Op.operands, List.mem_toArray, List.mem_map]; exact ⟨q, hq, rfl⟩)]
    have : aBuild P (s.at sl') t ps.toList = aBuild P s t ps.toList := by simp only [aBuild, e]
    rw [this, h2]
    rfl
  case h_15 args ts =>
    simp only [aop] at h ⊢
    split at h
    · rename_i x t h1 h2
      obtain ⟨h3, h4⟩ := ofD_ok h
      refine ⟨h3, ?_⟩
      have hx : x ∈ args := Array.mem_toList_iff.1 (by rw [h1]; simp)
      rw [he x (by simp only [Op.operands, Call.operands, Array.mem_append]; exact .inr hx), show aLen P (s.at sl') t (ev s x) = aLen P s t (ev s x) from rfl, h4]
      rfl
    · cases h
  all_goals simp at hp

theorem ofD_no {x : Option D} {g : FuncId} {args : List D} : ofD s x ≠ .call g args := by cases x <;> simp [ofD]
theorem ofP_no {x : Option (D × S)} {g : FuncId} {args : List D} : ofP x ≠ .call g args := by cases x <;> simp [ofP]
theorem pure_no {op : Op} {g : FuncId} {args : List D} (hp : pureOp op = true) : aop P op s ≠ .call g args := by
  intro ha
  unfold pureOp at hp
  split at hp
  case h_9 f first caps =>
    cases f with
    | func g => simp only [aop] at ha; split at ha <;> cases ha
    | _ => simp [aop] at ha
  case h_10 t x lo hi mx =>
    cases mx with
    | some m => simp [aop] at ha
    | none => simp only [aop] at ha; exact absurd ha ofD_no
  case h_15 args ts =>
    simp only [aop] at ha
    split at ha
    · exact absurd ha ofD_no
    · cases ha
  case h_3 => simp only [aop] at ha; split at ha <;> cases ha
  case h_8 => simp only [aop] at ha; split at ha <;> first | exact absurd ha ofD_no | cases ha
  all_goals first
    | (cases hp; done)
    | (simp only [aop] at ha; first | exact absurd ha ofD_no | cases ha)
theorem aop_call_congr {op : Op} {g : FuncId} {args : List D} {sl' : List (Nat × D)} (h : aop P op s = .call g args) (he : ∀ x ∈ op.operands, ev (s.at sl') x = ev s x) : aop P op (s.at sl') = .call g args := by
  have key : ∀ f args' ts, op = .call { callee := .value f, args := args', argTypes := ts } → aop P op (s.at sl') = .call g args := by
    intro f args' ts e
    subst e
    simp only [aop] at h ⊢
    rw [he f (by simp [Op.operands, Call.operands])]
    have e : args'.toList.map (ev (s.at sl')) = args'.toList.map (ev s) := by
      refine List.map_congr_left fun x hx => he x ?_
      simp only [Op.operands, Call.operands, Array.mem_append]
      exact .inr (Array.mem_toList_iff.1 hx)
    rw [e]
    exact h
  unfold aop at h
  split at h
  all_goals first
    | exact key _ _ _ rfl
    | (exact absurd h ofD_no)
    | (exact absurd h ofP_no)
    | (cases h; done)
    | (split at h <;> first | exact absurd h ofD_no | exact absurd h ofP_no | (cases h; done) | (split at h <;> first | exact absurd h ofD_no | exact absurd h ofP_no | (cases h; done)))

/-! ### An operation under a guard -/
/-- A slot that is written only where q holds. -/
def onD (q : Bool) (d : D) : D := if q then d else .dat (.val (.tuple #[]))
@[simp] theorem onD_true (d : D) : onD true d = d := rfl
theorem onD_false (d : D) : onD false d = .dat (.val (.tuple #[])) := rfl

inductive Pure1 (P : Program) (op : Op) (s : S) : D → Prop where
  | op {d : D} (hp : pureOp op = true) (h : aop P op s = .ok d s) : Pure1 P op s d
  | lend {g : FuncId} {args : List D} {ds : List Dat} {d : D} (h : aop P op s = .call g args) (hf : Does P g ds d []) (h1 : lendL s args = some ds) (h2 : flat d = true) : Pure1 P op s d
  | dat {g : FuncId} {args : List D} {ds : List Dat} {d : Dat} (h : aop P op s = .call g args) (hf : Does P g ds (.dat d) []) (h1 : datL args = some ds) : Pure1 P op s (.dat d)
def PStep (P : Program) (N : Nat) (ops : Array Oper) (o : Oper) (s : S) (d : D) : Prop := ∃ q d1, wantedD ops o s = some q ∧ (q = true → Pure1 P o.op s d1) ∧ d = onD q d1 ∧ dstOk o.dst N = true

theorem Pure1.step {d : D} (h : Pure1 P o.op s d) (hd : dstOk o.dst N = true) : Step P N o s (fun s' => s' = s.put o.dst d) (fun _ _ => False) := by
  unfold Step
  split
  · rename_i x hx
    cases h with
    | op hp h => rw [hx] at hp; simp [pureOp] at hp
    | lend h => rw [hx] at h; simp only [aop] at h; cases h
    | dat h => rw [hx] at h; simp only [aop] at h; cases h
  · cases h with
    | op hp h => rw [h]; exact ⟨hd, rfl⟩
    | lend h hf h1 h2 => rw [h]; exact .lend hf h1 h2 hd rfl
    | dat h hf h1 =>
      rw [h]
      exact .dat (d' := .dat _) (h' := []) hf h1 rfl rfl hd rfl

theorem PStep.ok (h : Rel G w0 ι s a w N) {d : D} (hs : PStep P N ops o s d) (ho : ops[i]? = some o) {Q : Exit → Act → World → Prop} {K : Act → World → Prop} (hk : ∀ ι' a' w', Rel G w0 ι' (s.put o.dst d) a' w' N → K a' w') : wpOp P ops Q i K a w := by
  obtain ⟨q, d1, hw, hr, rfl, hd⟩ := hs
  simp only [wpOp, ho, wantedD_ok h hw]
  cases q with
  | true =>
    simp only [if_true]
    refine .inl (step_ok h ((hr rfl).step hd) (fun a' w' ⟨s', ι', e, hR⟩ => ?_) (fun chain a' w' ⟨v, s', ι', _, e, _⟩ => e.elim))
    subst e
    exact hk ι' a' w' hR
  | false =>
    simp only [Bool.false_eq_true, if_false]
    exact hk ι _ w (h.putO hd (.dat (.val undef)))

theorem wantedD_congr {sl' : List (Nat × D)} (h : ∀ t ∈ o.looksAt ops, lk t sl' = lk t s.sl) : wantedD ops o (s.at sl') = wantedD ops o s := by
  unfold wantedD
  cases hg : o.guard with
  | none => rfl
  | some jw =>
    obtain ⟨j, want⟩ := jw
    simp only
    cases ht : (ops[j]?).bind (·.dst) with
    | none => rfl
    | some t =>
      simp only
      have : lk t (s.at sl').sl = lk t s.sl := h t (by simp [Oper.looksAt, hg, ht])
      rw [this]
theorem ev_congr {sl' : List (Nat × D)} (h : ∀ t ∈ o.looksAt ops, lk t sl' = lk t s.sl) : ∀ x ∈ o.op.operands, ev (s.at sl') x = ev s x := by
  intro x hx
  cases x with
  | tmp t =>
    simp only [ev, S.at]
    rw [h t (by
      simp only [Oper.looksAt, List.mem_append, List.mem_filterMap]
      exact .inl ⟨.tmp t, Array.mem_toList_iff.2 hx, rfl⟩)]
  | _ => rfl
theorem lendL_at {sl' : List (Nat × D)} : ∀ {l : List D}, lendL (s.at sl') l = lendL s l
  | [] => rfl
  | d :: r => by simp only [lendL, lendL_at (l := r)]; rfl
theorem PStep.congr {d : D} {sl' : List (Nat × D)} (hs : PStep P N ops o s d) (h : ∀ t ∈ o.looksAt ops, lk t sl' = lk t s.sl) : PStep P N ops o (s.at sl') d := by
  obtain ⟨q, d1, hw, hr, rfl, hd⟩ := hs
  refine ⟨q, d1, (wantedD_congr h).trans hw, fun e => ?_, rfl, hd⟩
  have he := ev_congr h
  cases hr e with
  | op hp h1 => exact .op hp (aop_congr hp h1 he).2
  | lend h1 hf h2 h3 => exact .lend (aop_call_congr h1 he) hf (lendL_at.trans h2) h3
  | dat h1 hf h2 => exact .dat (aop_call_congr h1 he) hf h2

/-! ### The rules -/
theorem wanted_bool {j t : Nat} {want b : Bool} (hg : o.guard = some (j, want)) (ht : (ops[j]?).bind (·.dst) = some t) (hl : lk t s.sl = some (.dat (.val (.bool b)))) : wantedD ops o s = some (b == want) := by
  simp only [wantedD, hg, ht, hl]
/-- A slot that is written only where every guard holds. -/
def onL : List (Bool × Bool) → D → D
  | [], d => d
  | (b, w) :: r, d => if b == w then onL r d else .dat (.val (.tuple #[]))
@[simp] theorem onL_nil (d : D) : onL [] d = d := rfl
@[simp] theorem onL_tt (r : List (Bool × Bool)) (d : D) : onL ((true, true) :: r) d = onL r d := rfl
@[simp] theorem onL_ff (r : List (Bool × Bool)) (d : D) : onL ((false, false) :: r) d = onL r d := rfl
theorem onL_one (b w : Bool) (d : D) : onD (b == w) d = onL [(b, w)] d := rfl
theorem onL_two (b0 w0 b w : Bool) (d : D) : onD ((b0 == w0) && (b == w)) d = onL [(b0, w0), (b, w)] d := by cases b0 <;> cases w0 <;> rfl
theorem onL_three (b0 w0 b1 w1 b w : Bool) (d : D) : onD ((b0 == w0) && ((b1 == w1) && (b == w))) d = onL [(b0, w0), (b1, w1), (b, w)] d := by cases b0 <;> cases w0 <;> cases b1 <;> cases w1 <;> rfl
theorem wanted_one {j t : Nat} {want b0 w0 b : Bool} (hg : o.guard = some (j, want)) (ht : (ops[j]?).bind (·.dst) = some t) (hl : lk t s.sl = some (onL [(b0, w0)] (.dat (.val (.bool b))))) : wantedD ops o s = some ((b0 == w0) && (b == want)) := by
  simp only [wantedD, hg, ht, hl]
  cases b0 <;> cases w0 <;> rfl
theorem wanted_two {j t : Nat} {want b0 w0 b1 w1 b : Bool} (hg : o.guard = some (j, want)) (ht : (ops[j]?).bind (·.dst) = some t) (hl : lk t s.sl = some (onL [(b0, w0), (b1, w1)] (.dat (.val (.bool b))))) : wantedD ops o s = some ((b0 == w0) && ((b1 == w1) && (b == want))) := by
  simp only [wantedD, hg, ht, hl]
  cases b0 <;> cases w0 <;> cases b1 <;> cases w1 <;> rfl
theorem T_pure {d : D} (ho : ops[i]? = some o) (hs : PStep P N ops o s d) (k : ∀ c : S → Prop, (∀ s', TOps P N ops r s' n p → c s') → c (s.put o.dst d)) : TOps P N ops (i :: r) s n p := by
  intro G w0 Q rest hn hp ι a w hR
  rw [List.cons_append, wpOps_cons]
  exact hs.ok hR ho fun ι' a' w' hR' => k _ (fun _ h => h) G w0 Q rest hn hp ι' a' w' hR'
theorem pstep_one {j t : Nat} {want b : Bool} {d1 : D} (hg : o.guard = some (j, want)) (ht : (ops[j]?).bind (·.dst) = some t) (hl : lk t s.sl = some (.dat (.val (.bool b)))) (hd : dstOk o.dst N = true) (h : b = want → Pure1 P o.op s d1) : PStep P N ops o s (onL [(b, want)] d1) :=
  ⟨_, d1, wanted_bool hg ht hl, fun e => h (by simpa using e), rfl, hd⟩
theorem pstep_two {j t : Nat} {want b0 w0 b : Bool} {d1 : D} (hg : o.guard = some (j, want)) (ht : (ops[j]?).bind (·.dst) = some t) (hl : lk t s.sl = some (onL [(b0, w0)] (.dat (.val (.bool b))))) (hd : dstOk o.dst N = true) (h : b0 = w0 → b = want → Pure1 P o.op s d1) : PStep P N ops o s (onL [(b0, w0), (b, want)] d1) :=
  ⟨_, d1, wanted_one hg ht hl, fun e => by simp only [Bool.and_eq_true, beq_iff_eq] at e; exact h e.1 e.2, (onL_two ..).symm, hd⟩
theorem pstep_three {j t : Nat} {want b0 w0 b1 w1 b : Bool} {d1 : D} (hg : o.guard = some (j, want)) (ht : (ops[j]?).bind (·.dst) = some t) (hl : lk t s.sl = some (onL [(b0, w0), (b1, w1)] (.dat (.val (.bool b))))) (hd : dstOk o.dst N = true) (h : b0 = w0 → b1 = w1 → b = want → Pure1 P o.op s d1) : PStep P N ops o s (onL [(b0, w0), (b1, w1), (b, want)] d1) :=
  ⟨_, d1, wanted_two hg ht hl, fun e => by simp only [Bool.and_eq_true, beq_iff_eq] at e; exact h e.1 e.2.1 e.2.2, (onL_three ..).symm, hd⟩

@[simp] theorem pick_and (b q : Bool) : aPick b (onL [(b, true)] (.dat (.val (.bool q)))) (.dat (.val (.bool false))) = .dat (.val (.bool (b && q))) := by cases b <;> rfl
@[simp] theorem pick_or (b q : Bool) : aPick b (.dat (.val (.bool true))) (onL [(b, false)] (.dat (.val (.bool q)))) = .dat (.val (.bool (b || q))) := by cases b <;> rfl

/-! ### A region that draws its order, and whose operations only look -/
inductive RunP (P : Program) (N : Nat) (ops : Array Oper) : List Nat → S → S → Prop where
  | nil (s : S) : RunP P N ops [] s s
  | cons {i : Nat} {r : List Nat} {o : Oper} {s s1 : S} {d : D} (ho : ops[i]? = some o) (h : PStep P N ops o s d) (k : RunP P N ops r (s.put o.dst d) s1) : RunP P N ops (i :: r) s s1
def TRun (P : Program) (N : Nat) (ops : Array Oper) (is : List Nat) (s : S) (n : S → Prop) : Prop := ∃ s1, RunP P N ops is s s1 ∧ n s1
theorem D_end (h : n s) : TRun P N ops [] s n := ⟨s, .nil s, h⟩
theorem D_pure {d : D} (ho : ops[i]? = some o) (hs : PStep P N ops o s d) (k : ∀ c : S → Prop, (∀ s', TRun P N ops r s' n → c s') → c (s.put o.dst d)) : TRun P N ops (i :: r) s n := by
  obtain ⟨s1, h1, h2⟩ := k _ (fun _ h => h)
  exact ⟨s1, .cons ho hs h1, h2⟩
theorem D_op (ho : ops[i]? = some o) (hg : o.guard = none) (hp : pureOp o.op = true) (h : ∀ c : S → Prop, (∀ s', TRun P N ops r s' n → c s') → Step P N o s c (fun _ _ => False)) : TRun P N ops (i :: r) s n := by
  have := h _ (fun _ h => h)
  unfold Step at this
  split at this
  · rename_i x hx
    rw [hx] at hp
    simp [pureOp] at hp
  · split at this
    · rename_i d s' ha
      obtain ⟨rfl, _⟩ := aop_congr (sl' := s.sl) hp ha (fun _ _ => rfl)
      exact D_pure ho ⟨true, d, by simp only [wantedD, hg], fun _ => .op hp ha, rfl, this.1⟩ fun c hc => hc _ this.2
    · rename_i ha
      exact absurd ha (pure_no hp)
    · exact this.elim
end Go.Proofs.Ytehboominkoldaa.Sx
