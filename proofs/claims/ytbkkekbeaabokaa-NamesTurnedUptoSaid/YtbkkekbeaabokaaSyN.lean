/- Sy, part N: operations that only look, and those that make or write: what they depend on; guarded ones without a split. -/
import Derived.Test.YtbkkekbeaabokaaSyM
set_option linter.unusedVariables false
set_option linter.unusedSimpArgs false
namespace Go.Proofs.Ytbkkekbeaabokaa.Sx
open Go Go.RowKit

variable {P : Program} {pr : Pr} {w w' : World} {ι ι' : Nat → Loc} {s s' s2 : S} {a : Act} {N : Nat} {ops : Array Oper} {o : Oper} {i : Nat} {r : List Nat} {n : S → Prop} {p : Value → S → Prop}

def pureOp : Op → Bool
  | .move _ | .assign _ | .pick .. | .load .. | .nilCheck _ | .binOp .. | .unOp .. | .convert .. | .makeFunc .. | .slice .. | .fieldAddr .. | .indexAddr .. | .extract .. | .build .. | .lookup .. | .makeInterface .. => true
  | .call { callee := .builtin .len, .. } => true
  | _ => false
def S.at (s : S) (sl : List (Nat × D)) : S := { s with sl := sl }

/-- The block that is looked at through it. -/
def topB : D → List Nat
  | .own b _ _ | .vw b _ _ _ | .ptr b _ | .ept b _ _ _ | .mapb b => [b]
  | _ => []
section
variable {x : D} (h : ∀ b ∈ topB x, lk b s2.hp = lk b s.hp)
include h
theorem elems_hp {n : Nat} : elems s2 n x = elems s n x := by
  unfold elems
  split
  all_goals (try simp only [topB, List.mem_singleton, forall_eq] at h)
  all_goals first | rfl | (simp only [h]; done) | (split <;> simp_all)
theorem mapOf_hp : mapOf s2 x = mapOf s x := by
  unfold mapOf
  split
  all_goals (try simp only [topB, List.mem_singleton, forall_eq] at h)
  all_goals first | rfl | (simp only [h]; done) | (split <;> simp_all)
theorem aLoad0_hp {t : TypeId} : aLoad0 P s2 t x = aLoad0 P s t x := by
  unfold aLoad0
  split
  all_goals (try simp only [topB, List.mem_singleton, forall_eq] at h)
  all_goals first | rfl | (simp only [h]; done) | (split <;> simp_all)
theorem aLoadArr_hp {t : TypeId} : aLoadArr P s2 t x = aLoadArr P s t x := by
  unfold aLoadArr
  split
  all_goals (try simp only [topB, List.mem_singleton, forall_eq] at h)
  all_goals first | rfl | (simp only [h]; done) | (split <;> simp_all)
theorem aLoad_hp {t : TypeId} : aLoad P s2 t x = aLoad P s t x := by simp only [aLoad, aLoad0_hp h, aLoadArr_hp h]
theorem aNil_hp : aNil s2 x = aNil s x := by
  unfold aNil
  split
  all_goals (try simp only [topB, List.mem_singleton, forall_eq] at h)
  all_goals first | rfl | (simp only [h]; done) | (split <;> simp_all)
theorem aField_hp {t : TypeId} {f : Nat} : aField P s2 t f x = aField P s t f x := by
  unfold aField
  cases infoOf P t with
  | none => rfl
  | some i =>
    simp only
    cases i.kd with
    | struct fs =>
      simp only
      cases fs[f]? with
      | none => rfl
      | some q =>
        obtain ⟨off, _, sz⟩ := q
        simp only
        split
        · rfl
        · split
          all_goals (try simp only [topB, List.mem_singleton, forall_eq] at h)
          all_goals first | rfl | (simp only [h]; done) | (split <;> simp_all)
    | _ => rfl
theorem aIndex_hp {t : TypeId} {k : D} : aIndex P s2 t x k = aIndex P s t x k := by
  unfold aIndex
  split
  · rename_i i _ n _
    cases i.kd with
    | slice e esz =>
      simp only
      split
      all_goals (try simp only [topB, List.mem_singleton, forall_eq] at h)
      all_goals first | rfl | (simp only [h]; done) | (split <;> simp_all)
    | array m e esz =>
      simp only
      split
      all_goals (try simp only [topB, List.mem_singleton, forall_eq] at h)
      all_goals first | rfl | (simp only [h]; done) | (split <;> simp_all)
    | _ => rfl
  · rfl
theorem aSlice_hp {t : TypeId} {lo hi : Option D} : aSlice P s2 t x lo hi = aSlice P s t x lo hi := by
  simp only [aSlice, elems_hp h]
  cases x <;> first | rfl | (simp only [cutD])
theorem aLen_hp {t : TypeId} : aLen P s2 t x = aLen P s t x := by
  have he := fun n => elems_hp (n := n) h
  unfold aLen
  cases infoOf P t with
  | none => rfl
  | some i =>
    simp only
    generalize i.kd = kd
    cases kd with
    | slice e esz => simp only [he]
    | string =>
      cases x with
      | dat d =>
        cases d with
        | val v => cases v <;> rfl
        | _ => rfl
      | _ => rfl
    | _ => rfl
theorem aMapLen_hp {t : TypeId} : aMapLen P s2 t x = aMapLen P s t x := by
  simp only [aMapLen, mapOf_hp h]
theorem aLookup_hp {t : TypeId} {k : D} {c : Bool} : aLookup P s2 t x k c = aLookup P s t x k c := by
  simp only [aLookup, mapOf_hp h]
end

theorem ofD_ok {s s1 : S} {x : Option D} {d : D} (h : ofD s x = .ok d s1) : s1 = s ∧ x = some d := by
  cases x with
  | none => simp [ofD] at h
  | some e => simp [ofD] at h; exact ⟨h.2.symm, by rw [h.1]⟩

/-- What an operation that only looks says depends on its operands and on the blocks that it looks at. -/
theorem aop_congr {op : Op} {s1 : S} {d : D} (hp : pureOp op = true) (h : aop P op s = .ok d s1) (he : ∀ x ∈ op.operands, ev s2 x = ev s x) (hh : ∀ x ∈ op.operands, ∀ b ∈ topB (ev s x), lk b s2.hp = lk b s.hp) : s1 = s ∧ aop P op s2 = .ok d s2 := by
  unfold pureOp at hp
  split at hp
  case h_1 x => simp only [aop, Out.ok.injEq] at h ⊢; exact ⟨h.2.symm, by rw [he _ (by simp [Op.operands]), h.1], trivial⟩
  case h_2 x => simp only [aop, Out.ok.injEq] at h ⊢; exact ⟨h.2.symm, by rw [he _ (by simp [Op.operands]), h.1], trivial⟩
  case h_3 c x y =>
    simp only [aop] at h ⊢
    rw [he c (by simp [Op.operands]), he x (by simp [Op.operands]), he y (by simp [Op.operands])]
    split at h
    · injection h with h1 h2
      exact ⟨h2.symm, by rw [h1]⟩
    · cases h
  case h_4 t x =>
    simp only [aop] at h ⊢
    obtain ⟨h1, h2⟩ := ofD_ok h
    refine ⟨h1, ?_⟩
    rw [he x (by simp [Op.operands]), aLoad_hp (hh x (by simp [Op.operands])), h2]
    rfl
  case h_5 x =>
    simp only [aop] at h ⊢
    obtain ⟨h1, h2⟩ := ofD_ok h
    refine ⟨h1, ?_⟩
    rw [he x (by simp [Op.operands]), aNil_hp (hh x (by simp [Op.operands])), h2]
    rfl
  case h_6 op t x y t' =>
    simp only [aop] at h ⊢
    rw [he x (by simp [Op.operands]), he y (by simp [Op.operands])]
    split at h
    · rename_i d1 hd1
      injection h with e1 e2
      refine ⟨e2.symm, ?_⟩
      rw [e1]
    · split at h <;> cases h
  case h_7 op t x =>
    simp only [aop] at h ⊢
    obtain ⟨h1, h2⟩ := ofD_ok h
    refine ⟨h1, ?_⟩
    rw [he x (by simp [Op.operands]), h2]
    rfl
  case h_8 t t' x =>
    simp only [aop] at h ⊢
    rw [he x (by simp [Op.operands])]
    split at h
    · rename_i hi
      obtain ⟨h1, h2⟩ := ofD_ok h
      refine ⟨h1, ?_⟩
      rw [if_pos hi, h2]
      rfl
    · cases h
  case h_9 f first caps =>
    cases f with
    | func g =>
      simp only [aop] at h ⊢
      split at h
      · rename_i hf
        injection h with h1 h2
        refine ⟨h2.symm, ?_⟩
        rw [if_pos hf, ← h1]
        congr 2
        refine List.map_congr_left fun x hx => he x ?_
        simp only [Op.operands, Array.mem_append]
        exact .inr (Array.mem_toList_iff.1 hx)
      · cases h
    | _ => simp [aop] at h
  case h_10 t x lo hi mx =>
    cases mx with
    | some m => simp [aop] at h
    | none =>
      simp only [aop] at h ⊢
      obtain ⟨h1, h2⟩ := ofD_ok h
      refine ⟨h1, ?_⟩
      have e1 : lo.map (ev s2) = lo.map (ev s) := by
        cases lo with
        | none => rfl
        | some l => simp only [Option.map_some, he l (by simp [Op.operands])]
      have e2 : hi.map (ev s2) = hi.map (ev s) := by
        cases hi with
        | none => rfl
        | some l => simp only [Option.map_some, he l (by simp [Op.operands])]
      rw [he x (by simp [Op.operands]), e1, e2, aSlice_hp (hh x (by simp [Op.operands])), h2]
      rfl
  case h_11 t x f =>
    simp only [aop] at h ⊢
    obtain ⟨h1, h2⟩ := ofD_ok h
    refine ⟨h1, ?_⟩
    rw [he x (by simp [Op.operands]), aField_hp (hh x (by simp [Op.operands])), h2]
    rfl
  case h_12 t x y =>
    simp only [aop] at h ⊢
    obtain ⟨h1, h2⟩ := ofD_ok h
    refine ⟨h1, ?_⟩
    rw [he x (by simp [Op.operands]), he y (by simp [Op.operands]), aIndex_hp (hh x (by simp [Op.operands])), h2]
    rfl
  case h_13 x f =>
    simp only [aop] at h ⊢
    obtain ⟨h1, h2⟩ := ofD_ok h
    refine ⟨h1, ?_⟩
    rw [he x (by simp [Op.operands]), h2]
    rfl
  case h_14 t ps =>
    simp only [aop] at h ⊢
    obtain ⟨h1, h2⟩ := ofD_ok h
    refine ⟨h1, ?_⟩
    have e : (ps.toList.map fun p => (p.1, ev s2 p.2)) = ps.toList.map fun p => (p.1, ev s p.2) := by
      refine List.map_congr_left fun q hq => ?_
      rw [he q.2 (by simp only [Op.operands, List.mem_toArray, List.mem_map]; exact ⟨q, hq, rfl⟩)]
    have : aBuild P s2 t ps.toList = aBuild P s t ps.toList := by simp only [aBuild, e]
    rw [this, h2]
    rfl
  case h_15 t x k c =>
    simp only [aop] at h ⊢
    obtain ⟨h1, h2⟩ := ofD_ok h
    refine ⟨h1, ?_⟩
    rw [he x (by simp [Op.operands]), he k (by simp [Op.operands]), aLookup_hp (hh x (by simp [Op.operands])), h2]
    rfl
  case h_16 t x =>
    simp only [aop] at h ⊢
    obtain ⟨h1, h2⟩ := ofD_ok h
    refine ⟨h1, ?_⟩
    rw [he x (by simp [Op.operands]), h2]
    rfl
  case h_17 args ts =>
    simp only [aop] at h ⊢
    split at h
    · rename_i x t h1 h2
      have hx : x ∈ args := Array.mem_toList_iff.1 (by rw [h1]; simp)
      have hxo : x ∈ (Op.call { callee := .builtin .len, args := args, argTypes := ts }).operands := by simp only [Op.operands, Call.operands, Array.mem_append]; exact .inr hx
      rw [he x hxo, aLen_hp (hh x hxo), aMapLen_hp (hh x hxo)]
      split at h
      · rename_i d1 hd1
        injection h with e1 e2
        refine ⟨e2.symm, ?_⟩
        rw [e1]
      · rename_i hd1
        obtain ⟨h3, h4⟩ := ofD_ok h
        refine ⟨h3, ?_⟩
        rw [h4]
        rfl
    · cases h
  all_goals simp at hp

theorem ofD_no {x : Option D} {g : FuncId} {args : List D} : ofD s x ≠ .call g args := by cases x <;> simp [ofD]
theorem ofP_no {x : Option (D × S)} {g : FuncId} {args : List D} : ofP x ≠ .call g args := by cases x <;> simp [ofP]
theorem aop_call_inv {op : Op} {g : FuncId} {args : List D} (h : aop P op s = .call g args) : ∃ f args' ts, op = .call { callee := .value f, args := args', argTypes := ts } := by
  unfold aop at h
  split at h
  all_goals first
    | exact ⟨_, _, _, rfl⟩
    | (exact absurd h ofD_no)
    | (exact absurd h ofP_no)
    | (cases h; done)
    | (split at h <;> first | exact absurd h ofD_no | exact absurd h ofP_no | (cases h; done) | (split at h <;> first | exact absurd h ofD_no | exact absurd h ofP_no | (cases h; done)))
theorem pure_no {op : Op} {g : FuncId} {args : List D} (hp : pureOp op = true) : aop P op s ≠ .call g args := by
  intro ha
  obtain ⟨f, args', ts, rfl⟩ := aop_call_inv ha
  simp [pureOp] at hp
theorem aop_call_congr {op : Op} {g : FuncId} {args : List D} (h : aop P op s = .call g args) (he : ∀ x ∈ op.operands, ev s2 x = ev s x) : aop P op s2 = .call g args := by
  obtain ⟨f, args', ts, rfl⟩ := aop_call_inv h
  simp only [aop] at h ⊢
  rw [he f (by simp [Op.operands, Call.operands])]
  have e : args'.toList.map (ev s2) = args'.toList.map (ev s) := by
    refine List.map_congr_left fun x hx => he x ?_
    simp only [Op.operands, Call.operands, Array.mem_append]
    exact .inr (Array.mem_toList_iff.1 hx)
  rw [e]
  exact h

/-! ### An operation under a guard -/
/-- A slot that is written only where q holds. -/
def onD (q : Bool) (d : D) : D := if q then d else .dat (.val (.tuple #[]))
@[simp] theorem onD_true (d : D) : onD true d = d := rfl
theorem onD_false (d : D) : onD false d = .dat (.val (.tuple #[])) := rfl

inductive Pure1 (P : Program) (op : Op) (s : S) : D → Prop where
  | op {d : D} (hp : pureOp op = true) (h : aop P op s = .ok d s) : Pure1 P op s d
  | lend {g : FuncId} {args : List D} {ds : List Dat} {d : D} (h : aop P op s = .call g args) (hf : Does P g ds d []) (h1 : lendL s args = some ds) (h2 : flat d = true) : Pure1 P op s d
  | dat {g : FuncId} {args : List D} {ds : List Dat} {d : Dat} (h : aop P op s = .call g args) (hf : Does P g ds (.dat d) []) (h1 : datL args = some ds) : Pure1 P op s (.dat d)
def PStep (P : Program) (N : Nat) (ops : Array Oper) (o : Oper) (s : S) (d : D) : Prop := ∃ q d1, wantedD ops o s = some q ∧ (q = true → Pure1 P o.op s d1) ∧ d = onD q d1 ∧ dstOk o.dst N = true

theorem Pure1.step {d : D} (h : Pure1 P o.op s d) (hd : dstOk o.dst N = true) : Step P pr N o s (fun s' => s' = s.put o.dst d) (fun _ _ => False) := by
  unfold Step
  split
  · rename_i x hx
    cases h with
    | op hp h => rw [hx] at hp; simp [pureOp] at hp
    | lend h => rw [hx] at h; simp only [aop] at h; cases h
    | dat h => rw [hx] at h; simp only [aop] at h; cases h
  · cases h with
    | op hp h => rw [h]; exact ⟨hd, rfl⟩
    | lend h hf h1 h2 => rw [h]; exact .lend hf h1 h2 hd rfl
    | dat h hf h1 =>
      rw [h]
      exact .dat (d' := .dat _) (h' := []) hf h1 rfl rfl hd rfl

theorem PStep.ok {σ : Sit} (hσ : pr.Ok P σ) (h : At σ s a w N) {d : D} (hs : PStep P N ops o s d) (ho : ops[i]? = some o) {Q : Exit → Act → World → Prop} {K : Act → World → Prop} (hk : ∀ a' w', At σ (s.put o.dst d) a' w' N → K a' w') : wpOpIn (FW pr.round) 0 P ops Q i K a w := by
  obtain ⟨q, d1, hw, hr, rfl, hd⟩ := hs
  simp only [wpOpIn, ho, wantedA h hw]
  cases q with
  | true =>
    simp only [if_true]
    refine step_ok hσ h ((hr rfl).step hd) (fun a' w' ⟨s', e, hR⟩ => ?_) (fun chain a' w' ⟨v, s', _, e, _⟩ => e.elim)
    subst e
    exact hk a' w' hR
  | false =>
    simp only [Bool.false_eq_true, if_false]
    exact ⟨fun _ _ => trivial, hk _ w (h.putU hd)⟩

theorem wantedD_congr (h : ∀ t ∈ o.looksAt ops, lk t s2.sl = lk t s.sl) : wantedD ops o s2 = wantedD ops o s := by
  unfold wantedD
  cases hg : o.guard with
  | none => rfl
  | some jw =>
    obtain ⟨j, want⟩ := jw
    simp only
    cases ht : (ops[j]?).bind (·.dst) with
    | none => rfl
    | some t =>
      simp only
      have : lk t s2.sl = lk t s.sl := h t (by simp [Oper.looksAt, hg, ht])
      rw [this]
theorem ev_congr (h : ∀ t ∈ o.looksAt ops, lk t s2.sl = lk t s.sl) : ∀ x ∈ o.op.operands, ev s2 x = ev s x := by
  intro x hx
  cases x with
  | tmp t =>
    simp only [ev]
    rw [h t (by
      simp only [Oper.looksAt, List.mem_append, List.mem_filterMap]
      exact .inl ⟨.tmp t, Array.mem_toList_iff.2 hx, rfl⟩)]
  | _ => rfl
theorem lendL_hp (h : s2.hp = s.hp) : ∀ {l : List D}, lendL s2 l = lendL s l
  | [] => rfl
  | d :: r => by simp only [lendL, lendL_hp h (l := r), lend, h]

/-! ### The rules -/
theorem wanted_bool {j t : Nat} {want b : Bool} (hg : o.guard = some (j, want)) (ht : (ops[j]?).bind (·.dst) = some t) (hl : lk t s.sl = some (.dat (.val (.bool b)))) : wantedD ops o s = some (b == want) := by
  simp only [wantedD, hg, ht, hl]
/-- A slot that is written only where every guard holds. -/
def onL : List (Bool × Bool) → D → D
  | [], d => d
  | (b, w) :: r, d => if b == w then onL r d else .dat (.val (.tuple #[]))
@[simp] theorem onL_nil (d : D) : onL [] d = d := rfl
@[simp] theorem onL_tt (r : List (Bool × Bool)) (d : D) : onL ((true, true) :: r) d = onL r d := rfl
@[simp] theorem onL_ff (r : List (Bool × Bool)) (d : D) : onL ((false, false) :: r) d = onL r d := rfl
theorem onL_one (b w : Bool) (d : D) : onD (b == w) d = onL [(b, w)] d := rfl
theorem onL_two (b0 w0 b w : Bool) (d : D) : onD ((b0 == w0) && (b == w)) d = onL [(b0, w0), (b, w)] d := by cases b0 <;> cases w0 <;> rfl
theorem onL_three (b0 w0 b1 w1 b w : Bool) (d : D) : onD ((b0 == w0) && ((b1 == w1) && (b == w))) d = onL [(b0, w0), (b1, w1), (b, w)] d := by cases b0 <;> cases w0 <;> cases b1 <;> cases w1 <;> rfl
theorem wanted_one {j t : Nat} {want b0 w0 b : Bool} (hg : o.guard = some (j, want)) (ht : (ops[j]?).bind (·.dst) = some t) (hl : lk t s.sl = some (onL [(b0, w0)] (.dat (.val (.bool b))))) : wantedD ops o s = some ((b0 == w0) && (b == want)) := by
  simp only [wantedD, hg, ht, hl]
  cases b0 <;> cases w0 <;> rfl
theorem wanted_two {j t : Nat} {want b0 w0 b1 w1 b : Bool} (hg : o.guard = some (j, want)) (ht : (ops[j]?).bind (·.dst) = some t) (hl : lk t s.sl = some (onL [(b0, w0), (b1, w1)] (.dat (.val (.bool b))))) : wantedD ops o s = some ((b0 == w0) && ((b1 == w1) && (b == want))) := by
  simp only [wantedD, hg, ht, hl]
  cases b0 <;> cases w0 <;> cases b1 <;> cases w1 <;> rfl
theorem T_pure {d : D} (ho : ops[i]? = some o) (hs : PStep P N ops o s d) (k : ∀ c : S → Prop, (∀ s', TOps P pr N ops r s' n p → c s') → c (s.put o.dst d)) : TOps P pr N ops (i :: r) s n p := by
  intro σ Q rest hσ hn hp a w hR
  rw [List.cons_append, wpOpsIn_cons]
  exact hs.ok hσ hR ho fun a' w' hR' => k _ (fun _ h => h) σ Q rest hσ hn hp a' w' hR'
theorem pstep_one {j t : Nat} {want b : Bool} {d1 : D} (hg : o.guard = some (j, want)) (ht : (ops[j]?).bind (·.dst) = some t) (hl : lk t s.sl = some (.dat (.val (.bool b)))) (hd : dstOk o.dst N = true) (h : b = want → Pure1 P o.op s d1) : PStep P N ops o s (onL [(b, want)] d1) :=
  ⟨_, d1, wanted_bool hg ht hl, fun e => h (by simpa using e), rfl, hd⟩
theorem pstep_two {j t : Nat} {want b0 w0 b : Bool} {d1 : D} (hg : o.guard = some (j, want)) (ht : (ops[j]?).bind (·.dst) = some t) (hl : lk t s.sl = some (onL [(b0, w0)] (.dat (.val (.bool b))))) (hd : dstOk o.dst N = true) (h : b0 = w0 → b = want → Pure1 P o.op s d1) : PStep P N ops o s (onL [(b0, w0), (b, want)] d1) :=
  ⟨_, d1, wanted_one hg ht hl, fun e => by simp only [Bool.and_eq_true, beq_iff_eq] at e; exact h e.1 e.2, (onL_two ..).symm, hd⟩
theorem pstep_three {j t : Nat} {want b0 w0 b1 w1 b : Bool} {d1 : D} (hg : o.guard = some (j, want)) (ht : (ops[j]?).bind (·.dst) = some t) (hl : lk t s.sl = some (onL [(b0, w0), (b1, w1)] (.dat (.val (.bool b))))) (hd : dstOk o.dst N = true) (h : b0 = w0 → b1 = w1 → b = want → Pure1 P o.op s d1) : PStep P N ops o s (onL [(b0, w0), (b1, w1), (b, want)] d1) :=
  ⟨_, d1, wanted_two hg ht hl, fun e => by simp only [Bool.and_eq_true, beq_iff_eq] at e; exact h e.1 e.2.1 e.2.2, (onL_three ..).symm, hd⟩

@[simp] theorem pick_and (b q : Bool) : aPick b (onL [(b, true)] (.dat (.val (.bool q)))) (.dat (.val (.bool false))) = .dat (.val (.bool (b && q))) := by cases b <;> rfl
@[simp] theorem pick_or (b q : Bool) : aPick b (.dat (.val (.bool true))) (onL [(b, false)] (.dat (.val (.bool q)))) = .dat (.val (.bool (b || q))) := by cases b <;> rfl

end Go.Proofs.Ytbkkekbeaabokaa.Sx
