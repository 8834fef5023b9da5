/- Sy, part O: a region that draws its order: operations that only look in any order, those that make or write in the order of the text. -/
import Derived.Test.YtbkkekbeaabokaaSyN
set_option linter.unusedVariables false
set_option linter.unusedSimpArgs false
namespace Go.Proofs.Ytbkkekbeaabokaa.Sx
open Go Go.RowKit

variable {P : Program} {pr : Pr} {w w' : World} {ι ι' : Nat → Loc} {s s' s2 : S} {a : Act} {N : Nat} {ops : Array Oper} {o : Oper} {i : Nat} {r : List Nat} {n : S → Prop} {p : Value → S → Prop}

/-! ### What an operation does, whatever else the slots hold -/
section
variable {sl' : List (Nat × D)}
def atP (sl' : List (Nat × D)) (q : D × S) : D × S := (q.1, q.2.at sl')
theorem aNew_at {t : TypeId} {cs : List D} : aNew P (s.at sl') t cs = (aNew P s t cs).map (atP sl') := by
  unfold aNew
  simp only [S.at]
  repeat' (first | rfl | split)
theorem aAlloc_at {t : TypeId} : aAlloc P (s.at sl') t = (aAlloc P s t).map (atP sl') := by
  unfold aAlloc
  cases infoOf P t with
  | none => rfl
  | some i =>
    simp only
    split
    · exact aNew_at
    · rfl
theorem aBox_at {t : TypeId} {x : D} : aBox P (s.at sl') t x = (aBox P s t x).map (atP sl') := by
  unfold aBox
  cases cellsOf x with
  | none => rfl
  | some cs => exact aNew_at
theorem aBuildSlice_at {t : TypeId} {len : Nat} {ps : List (Nat × Operand)} (he : (ps.map fun p => (p.1, ev (s.at sl') p.2)) = ps.map fun p => (p.1, ev s p.2)) : aBuildSlice P (s.at sl') t len ps = (aBuildSlice P s t len ps).map (atP sl') := by
  unfold aBuildSlice
  rw [he]
  simp only [S.at]
  repeat' (first | rfl | split)
theorem aStore_at {t : TypeId} {x y : D} : aStore P (s.at sl') t x y = (aStore P s t x y).map (·.at sl') := by
  have h0 : aStore0 P (s.at sl') t x y = (aStore0 P s t x y).map (·.at sl') := by
    unfold aStore0
    simp only [S.at]
    repeat' (first | rfl | split)
  have h1 : aStoreArr P (s.at sl') t x y = (aStoreArr P s t x y).map (·.at sl') := by
    unfold aStoreArr
    simp only [S.at]
    repeat' (first | rfl | split)
  unfold aStore
  rw [h0, h1]
  cases aStore0 P s t x y <;> rfl
theorem elems_at {k : Nat} {x : D} : elems (s.at sl') k x = elems s k x := rfl
theorem aAppendOwn_at {s : S} {e : TypeId} {b len : Nat} {y : D} : aAppendOwn P (s.at sl') e b len y = (aAppendOwn P s e b len y).map (atP sl') := by
  unfold aAppendOwn
  simp only [elems_at]
  simp only [S.at]
  repeat' (first | rfl | split)
theorem aAppend_at {t : TypeId} {x y : D} : aAppend P (s.at sl') t x y = (aAppend P s t x y).map (atP sl') := by
  unfold aAppend
  cases infoOf P t with
  | none => rfl
  | some i =>
    simp only
    cases i.kd with
    | slice e esz =>
      simp only
      split
      · split
        · exact aAppendOwn_at
        · rfl
      · exact aAppendOwn_at (s := { s with hp := (s.nx, .row e esz []) :: s.hp, nx := s.nx + 1 })
      · rfl
    | _ => rfl
theorem aMore_at {t t' : TypeId} {x y : D} : aMore P (s.at sl') t t' x y = (aMore P s t t' x y).map (atP sl') := by
  unfold aMore
  simp only [S.at]
  repeat' (first | rfl | split)
theorem aMapUpd_at {t : TypeId} {m k v : D} : aMapUpd P (s.at sl') t m k v = (aMapUpd P s t m k v).map (·.at sl') := by
  unfold aMapUpd
  simp only [S.at]
  repeat' (first | rfl | split)
theorem aMakeSlice_at {t : TypeId} {x y : D} : aMakeSlice P (s.at sl') t x y = (aMakeSlice P s t x y).map (atP sl') := by
  unfold aMakeSlice
  simp only [S.at]
  repeat' (first | rfl | split)
theorem ofP_at {x : Option (D × S)} {d : D} {s1 : S} (h : ofP x = .ok d s1) : ofP (x.map (atP sl')) = .ok d (s1.at sl') := by
  cases x with
  | none => cases h
  | some q => obtain ⟨q1, q2⟩ := q; simp only [ofP, Out.ok.injEq] at h; obtain ⟨rfl, rfl⟩ := h; rfl
theorem ofS_at {x : Option S} {d : D} {s1 : S} (h : (match x with | some s1 => Out.ok .bad s1 | none => .stuck) = .ok d s1) : (match x.map (·.at sl') with | some s1 => Out.ok .bad s1 | none => .stuck) = .ok d (s1.at sl') := by
  cases x with
  | none => cases h
  | some q => simp only [Out.ok.injEq] at h; obtain ⟨rfl, rfl⟩ := h; rfl

theorem aop_at {op : Op} {d : D} {s1 : S} (h : aop P op s = .ok d s1) (he : ∀ x ∈ op.operands, ev (s.at sl') x = ev s x) : aop P op (s.at sl') = .ok d (s1.at sl') := by
  by_cases hp : pureOp op = true
  · obtain ⟨rfl, h2⟩ := aop_congr (s2 := s.at sl') hp h he (fun _ _ _ _ => rfl)
    exact h2
  · cases op with
    | alloc t => simp only [aop] at h ⊢; rw [aAlloc_at]; exact ofP_at h
    | box t x => simp only [aop] at h ⊢; rw [he x (by simp [Op.operands]), aBox_at]; exact ofP_at h
    | buildSlice t k ps =>
      simp only [aop] at h ⊢
      rw [aBuildSlice_at (List.map_congr_left fun q hq => by rw [he q.2 (by simp only [Op.operands, List.mem_toArray, List.mem_map]; exact ⟨q, hq, rfl⟩)])]
      exact ofP_at h
    | store t x y => simp only [aop] at h ⊢; rw [he x (by simp [Op.operands]), he y (by simp [Op.operands]), aStore_at]; exact ofS_at h
    | makeMap t q =>
      cases q with
      | none => simp only [aop] at h ⊢; exact ofP_at (x := some (aMakeMap s)) h
      | some x => simp [aop] at h
    | mapUpdate t m k v => simp only [aop] at h ⊢; rw [he m (by simp [Op.operands]), he k (by simp [Op.operands]), he v (by simp [Op.operands]), aMapUpd_at]; exact ofS_at h
    | makeSlice t x y => simp only [aop] at h ⊢; rw [he x (by simp [Op.operands]), he y (by simp [Op.operands]), aMakeSlice_at]; exact ofP_at h
    | call c =>
      obtain ⟨callee, args, ts⟩ := c
      have hmem : ∀ x ∈ args, ev (s.at sl') x = ev s x := fun x hx => he x (by simp only [Op.operands, Call.operands, Array.mem_append]; exact .inr hx)
      cases callee with
      | builtin b =>
        cases b with
        | append =>
          simp only [aop] at h ⊢
          split at h
          · rename_i x y t t' h1 h2
            have hx : x ∈ args := Array.mem_toList_iff.1 (by rw [h1]; simp)
            have hy : y ∈ args := Array.mem_toList_iff.1 (by rw [h1]; simp)
            rw [hmem x hx, hmem y hy, aAppend_at, aMore_at]
            split at h
            · rename_i e; rw [if_pos e]; exact ofP_at h
            · rename_i e; rw [if_neg e]; exact ofP_at h
          · cases h
        | cap =>
          simp only [aop] at h ⊢
          split at h
          · rename_i x t h1 h2
            have hx : x ∈ args := Array.mem_toList_iff.1 (by rw [h1]; simp)
            obtain ⟨h3, h4⟩ := ofD_ok h
            subst h3
            rw [hmem x hx, h4]
            rfl
          · cases h
        | len => simp [pureOp] at hp
        | _ => simp [aop] at h
      | value f =>
        simp only [aop] at h
        split at h
        · cases h
        · cases h
        · split at h <;> cases h
        · cases h
      | _ => simp [aop] at h
    | binOp => simp [pureOp] at hp
    | slice t x lo hi mx => cases mx <;> simp [pureOp] at hp
    | makeFunc f => simp [pureOp] at hp
    | _ => first | (simp [aop] at h; done) | (simp [pureOp] at hp; done)
end

/-! ### The text's run -/
def lookN (o : Oper) (s : S) : List Nat := o.op.operands.toList.flatMap fun x => topB (ev s x)
/-- An operation that makes or writes: what it says, and where it comes to. -/
inductive EStep (P : Program) (o : Oper) (s : S) : D → S → Prop where
  | op {d : D} {s1 : S} (h : aop P o.op s = .ok d s1) : EStep P o s d s1
  | call {g : FuncId} {args : List D} {ds : List Dat} {d d' : D} {hs hs' : List HO} (h : aop P o.op s = .call g args) (hf : Does P g ds d hs) (h1 : datL args = some ds) (h2 : mp (sh s.nx) d = some d') (h3 : mpH (sh s.nx) hs = some hs') :
      EStep P o s d' { s with hp := enum s.nx hs' ++ s.hp, nx := s.nx + hs.length }
theorem EStep.at {d : D} {s1 : S} {sl' : List (Nat × D)} (h : EStep P o s d s1) (he : ∀ x ∈ o.op.operands, ev (s.at sl') x = ev s x) : EStep P o (s.at sl') d (s1.at sl') := by
  cases h with
  | op h => exact .op (aop_at h he)
  | call h hf h1 h2 h3 => exact .call (aop_call_congr h he) hf h1 h2 h3
theorem EStep.step {d : D} {s1 : S} (h : EStep P o s d s1) (hd : dstOk o.dst N = true) : Step P pr N o s (fun s' => s' = s1.put o.dst d) (fun _ _ => False) := by
  unfold Step
  split
  · rename_i x hx
    cases h with
    | op h => rw [hx] at h; simp [aop] at h
    | call h => rw [hx] at h; simp [aop] at h
  · cases h with
    | op h => rw [h]; exact ⟨hd, rfl⟩
    | call h hf h1 h2 h3 => rw [h]; exact .dat hf h1 h2 h3 hd rfl
/-- A call that panics. -/
def PanS (P : Program) (o : Oper) (s : S) (pv : Value) : Prop := ∃ g args ds, aop P o.op s = .call g args ∧ DoesP P g ds pv ∧ lendL s args = some ds
theorem PanS.step {pv : Value} (h : PanS P o s pv) : Step P pr N o s (fun _ => False) (fun v s' => v = pv ∧ s' = s) := by
  obtain ⟨g, args, ds, h1, h2, h3⟩ := h
  unfold Step
  split
  · rename_i x hx
    rw [hx] at h1; simp [aop] at h1
  · rw [h1]; exact .pan h2 h3 ⟨rfl, rfl⟩

/-- Only looking, and at no more than the first block of each operand. -/
inductive Pure2 (P : Program) (op : Op) (s : S) : D → Prop where
  | op {d : D} (hp : pureOp op = true) (h : aop P op s = .ok d s) : Pure2 P op s d
  | dat {g : FuncId} {args : List D} {ds : List Dat} {d : Dat} (h : aop P op s = .call g args) (hf : Does P g ds (.dat d) []) (h1 : datL args = some ds) : Pure2 P op s (.dat d)
def PStep2 (P : Program) (N : Nat) (ops : Array Oper) (o : Oper) (s : S) (d : D) : Prop := ∃ q d1, wantedD ops o s = some q ∧ (q = true → Pure2 P o.op s d1) ∧ d = onD q d1 ∧ dstOk o.dst N = true
theorem PStep2.to {d : D} (h : PStep2 P N ops o s d) : PStep P N ops o s d := by
  obtain ⟨q, d1, h1, h2, h3, h4⟩ := h
  refine ⟨q, d1, h1, fun e => ?_, h3, h4⟩
  cases h2 e with
  | op hp h => exact .op hp h
  | dat h hf h1 => exact .dat h hf h1
theorem PStep2.congr {d : D} (h : PStep2 P N ops o s d) (ht : ∀ t ∈ o.looksAt ops, lk t s2.sl = lk t s.sl) (hh : ∀ b ∈ lookN o s, lk b s2.hp = lk b s.hp) : PStep2 P N ops o s2 d := by
  obtain ⟨q, d1, h1, h2, h3, h4⟩ := h
  have he := ev_congr ht
  refine ⟨q, d1, (wantedD_congr ht).trans h1, fun e => ?_, h3, h4⟩
  cases h2 e with
  | op hp h => exact .op hp (aop_congr hp h he (fun x hx b hb => hh b (List.mem_flatMap.2 ⟨x, Array.mem_toList_iff.2 hx, hb⟩))).2
  | dat h hf h1 => exact .dat (aop_call_congr h he) hf h1
theorem PStep.congrS {d : D} {sl' : List (Nat × D)} (h : PStep P N ops o s d) (ht : ∀ t ∈ o.looksAt ops, lk t sl' = lk t s.sl) : PStep P N ops o (s.at sl') d := by
  obtain ⟨q, d1, h1, h2, h3, h4⟩ := h
  have he := ev_congr (s2 := s.at sl') ht
  refine ⟨q, d1, (wantedD_congr (s2 := s.at sl') ht).trans h1, fun e => ?_, h3, h4⟩
  cases h2 e with
  | op hp h => exact .op hp (aop_congr hp h he (fun _ _ _ _ => rfl)).2
  | lend h hf h1 h2 => exact .lend (aop_call_congr h he) hf ((lendL_hp (s := s) (s2 := s.at sl') rfl).trans h1) h2
  | dat h hf h1 => exact .dat (aop_call_congr h he) hf h1

def tblGo : List Oper → List (List Nat) → List (List Nat)
  | [], T => T
  | o :: r, T => tblGo r (T ++ [((o.after.toList.filter fun e => Region.binds .any e).flatMap fun e => e.on :: T.getD e.on []).eraseDups])
def opAt (ops : Array Oper) (T : List (List Nat)) (i : Nat) (o : Oper) : Bool :=
  o.after.toList.all (fun e => !Region.binds .any e || decide (e.on < i)) &&
  (T.getD i []).all (fun j => o.after.toList.any fun e => Region.binds .any e && (e.on == j || (T.getD e.on []).contains j)) &&
  (o.looksAt ops).all (fun t => (List.range ops.size).all fun j => match ops[j]? with
    | none => true
    | some oj => if oj.dst == some t then (if j < i then (T.getD i []).contains j else (j == i || (T.getD j []).contains i)) else true) &&
  (List.range ops.size).all (fun j => j == i || o.dst == none || match ops[j]? with
    | none => true
    | some oj => oj.dst != o.dst)
/-- What is known of an operation: the blocks that it looks at, or may have turned; 0: it only looks; 1: it makes or writes; 2: it only looks, at whatever lies behind. -/
abbrev Inf := List Nat × Nat
def apartB (T : List (List Nat)) (I : List Inf) (q e : Nat) : Bool :=
  q == e || (T.getD q []).contains e || (T.getD e []).contains q || ((I.getD q ([], 0)).2 == 0 && (I.getD q ([], 0)).1.all fun b => !(I.getD e ([], 0)).1.contains b)
def drawOk (ops : Array Oper) (T : List (List Nat)) (I : List Inf) : Bool :=
  ((List.range ops.size).all fun i => match ops[i]? with
    | none => false
    | some o => opAt ops T i o) &&
  (List.range ops.size).all fun e => (I.getD e ([], 0)).2 != 1 || (List.range ops.size).all fun q => apartB T I q e

section
variable {T : List (List Nat)} {I : List Inf} (hD : drawOk ops T I = true)
include hD
theorem drawOk_at (ho : ops[i]? = some o) : opAt ops T i o = true := by
  simp only [drawOk, Bool.and_eq_true] at hD
  have := List.all_eq_true.1 hD.1 i (List.mem_range.2 (Array.getElem?_eq_some_iff.1 ho).1)
  simpa [ho] using this
theorem draw_apart {q e : Nat} (he : e < ops.size) (hq : q < ops.size) (h1 : (I.getD e ([], 0)).2 = 1) : apartB T I q e = true := by
  simp only [drawOk, Bool.and_eq_true] at hD
  have := List.all_eq_true.1 hD.2 e (List.mem_range.2 he)
  rw [h1] at this
  simp only [bne_self_eq_false, Bool.false_or] at this
  exact List.all_eq_true.1 this q (List.mem_range.2 hq)
theorem draw_lt (ho : ops[i]? = some o) {e : Edge} (he : e ∈ o.after) (hb : Region.binds .any e = true) : e.on < i := by
  have := drawOk_at hD ho
  simp only [opAt, Bool.and_eq_true] at this
  have := List.all_eq_true.1 this.1.1.1 e (Array.mem_toList_iff.2 he)
  simpa [hb] using this
theorem draw_Tlt : ∀ (i : Nat) (o : Oper), ops[i]? = some o → ∀ j, (T.getD i []).contains j = true → j < i := by
  intro i
  induction i using Nat.strongRecOn with
  | _ i ih =>
    intro o ho j hj
    have := drawOk_at hD ho
    simp only [opAt, Bool.and_eq_true] at this
    have h2 := List.all_eq_true.1 this.1.1.2 j (List.contains_iff_mem.1 hj)
    rw [List.any_eq_true] at h2
    obtain ⟨e, he, h3⟩ := h2
    simp only [Bool.and_eq_true, Bool.or_eq_true, beq_iff_eq] at h3
    have hlt := draw_lt hD ho (Array.mem_toList_iff.1 he) h3.1
    rcases h3.2 with h4 | h4
    · omega
    · have hi : i < ops.size := (Array.getElem?_eq_some_iff.1 ho).1
      have := ih e.on hlt ops[e.on] (Array.getElem?_eq_getElem (by omega)) j h4
      omega
/-- What is laid down for i's sake stands in every set that holds i's own grounds. -/
theorem draw_tbl (L : Nat → Prop) (hL : ∀ i o, ops[i]? = some o → L i → ∀ e ∈ o.after, Region.binds .any e = true → L e.on) : ∀ (i : Nat) (o : Oper), ops[i]? = some o → (∀ e ∈ o.after, Region.binds .any e = true → L e.on) → ∀ j, (T.getD i []).contains j = true → L j := by
  intro i
  induction i using Nat.strongRecOn with
  | _ i ih =>
    intro o ho hi j hj
    have := drawOk_at hD ho
    simp only [opAt, Bool.and_eq_true] at this
    have h2 := List.all_eq_true.1 this.1.1.2 j (List.contains_iff_mem.1 hj)
    rw [List.any_eq_true] at h2
    obtain ⟨e, he, h3⟩ := h2
    simp only [Bool.and_eq_true, Bool.or_eq_true, beq_iff_eq] at h3
    have hLe := hi e (Array.mem_toList_iff.1 he) h3.1
    rcases h3.2 with h4 | h4
    · exact h4 ▸ hLe
    · have hlt := draw_lt hD ho (Array.mem_toList_iff.1 he) h3.1
      have hsz : e.on < ops.size := by have := (Array.getElem?_eq_some_iff.1 ho).1; omega
      exact ih e.on hlt ops[e.on] (Array.getElem?_eq_getElem hsz) (hL e.on _ (Array.getElem?_eq_getElem hsz) hLe) j h4
theorem draw_look {t j : Nat} {oj : Oper} (ho : ops[i]? = some o) (ht : t ∈ o.looksAt ops) (hj : ops[j]? = some oj) (hd : oj.dst = some t) : if j < i then (T.getD i []).contains j = true else j = i ∨ (T.getD j []).contains i = true := by
  have := drawOk_at hD ho
  simp only [opAt, Bool.and_eq_true] at this
  have := List.all_eq_true.1 (List.all_eq_true.1 this.1.2 t ht) j (List.mem_range.2 (Array.getElem?_eq_some_iff.1 hj).1)
  simp only [hj, hd, beq_self_eq_true, if_true] at this
  split
  · rename_i h
    rw [if_pos h] at this
    exact this
  · rename_i h
    rw [if_neg h] at this
    simpa using this
theorem draw_dst {t j : Nat} {oj : Oper} (ho : ops[i]? = some o) (ht : o.dst = some t) (hj : ops[j]? = some oj) (hd : oj.dst = some t) : j = i := by
  have := drawOk_at hD ho
  simp only [opAt, Bool.and_eq_true] at this
  have := List.all_eq_true.1 this.2 j (List.mem_range.2 (Array.getElem?_eq_some_iff.1 hj).1)
  simp only [hj, hd, ht, Bool.or_eq_true, beq_iff_eq] at this
  rcases this with (h | h) | h
  · exact h
  · simp at h
  · simp at h
end

/-- The slots, when the operations of L are done. -/
structure Vw (ops : Array Oper) (F : Nat → D) (sl0 : List (Nat × D)) (L : Nat → Prop) (sl : List (Nat × D)) : Prop where
  done : ∀ j o t, ops[j]? = some o → L j → o.dst = some t → lk t sl = some (F j)
  rest : ∀ t, (∀ j o, ops[j]? = some o → o.dst = some t → ¬ L j) → lk t sl = lk t sl0
def upO (dst : Option Nat) (d : D) (sl : List (Nat × D)) : List (Nat × D) := match dst with
  | none => sl
  | some t => up t d sl
theorem put_upO (s : S) (dst : Option Nat) (d : D) : s.put dst d = s.at (upO dst d s.sl) := by cases dst <;> rfl
theorem Vw.put {T : List (List Nat)} {I : List Inf} (hD : drawOk ops T I = true) {F : Nat → D} {sl0 sl : List (Nat × D)} {L : Nat → Prop} (h : Vw ops F sl0 L sl) (ho : ops[i]? = some o) : Vw ops F sl0 (fun j => j = i ∨ L j) (upO o.dst (F i) sl) := by
  refine ⟨fun j oj t hj hL ht => ?_, fun t hn => ?_⟩
  · cases hd : o.dst with
    | none =>
      simp only [upO]
      rcases hL with rfl | hL
      · rw [ho] at hj; injection hj with hj; subst hj; rw [hd] at ht; cases ht
      · exact h.done j oj t hj hL ht
    | some k =>
      simp only [upO, lk_up]
      by_cases e : t = k
      · subst e
        rw [if_pos rfl, draw_dst hD ho hd hj ht]
      · rw [if_neg e]
        rcases hL with rfl | hL
        · rw [ho] at hj; injection hj with hj; subst hj; rw [hd] at ht; injection ht with ht; exact absurd ht.symm e
        · exact h.done j oj t hj hL ht
  · cases hd : o.dst with
    | none => exact h.rest t fun j oj hj ht hL => hn j oj hj ht (.inr hL)
    | some k =>
      simp only [upO, lk_up]
      by_cases e : t = k
      · subst e; exact absurd (.inl rfl) (hn i o ho hd)
      · rw [if_neg e]; exact h.rest t fun j oj hj ht hL => hn j oj hj ht (.inr hL)
theorem Vw.agree {F : Nat → D} {sl0 sl sl' : List (Nat × D)} {L L' : Nat → Prop} (h : Vw ops F sl0 L sl) (h' : Vw ops F sl0 L' sl') {t : Nat} (hE : ∀ j oj, ops[j]? = some oj → oj.dst = some t → (L j ↔ L' j)) : lk t sl = lk t sl' := by
  by_cases hx : ∃ j oj, ops[j]? = some oj ∧ oj.dst = some t ∧ L j
  · obtain ⟨j, oj, hj, ht, hL⟩ := hx
    rw [h.done j oj t hj hL ht, h'.done j oj t hj ((hE j oj hj ht).1 hL) ht]
  · have h1 : ∀ j oj, ops[j]? = some oj → oj.dst = some t → ¬ L j := fun j oj hj ht hL => hx ⟨j, oj, hj, ht, hL⟩
    rw [h.rest t h1, h'.rest t fun j oj hj ht hL => h1 j oj hj ht ((hE j oj hj ht).2 hL)]
theorem Vw.iff {F : Nat → D} {sl0 sl : List (Nat × D)} {L L' : Nat → Prop} (h : Vw ops F sl0 L sl) (hE : ∀ j, j < ops.size → (L j ↔ L' j)) : Vw ops F sl0 L' sl :=
  ⟨fun j o t hj hL ht => h.done j o t hj ((hE j (Array.getElem?_eq_some_iff.1 hj).1).2 hL) ht, fun t hn => h.rest t fun j o hj ht hL => hn j o hj ht ((hE j (Array.getElem?_eq_some_iff.1 hj).1).1 hL)⟩

/-- Where a call panics: its place, with what, and the heap there; the others that wait for it are never reached. -/
structure PK where
  q : Nat
  v : Value
  hp : List (Nat × HO)
  nx : Nat
def live (T : List (List Nat)) (pk : Option PK) (j : Nat) : Bool := match pk with
  | none => true
  | some x => !(j == x.q || (T.getD j []).contains x.q)

/-- The operations in the order of the text, and what is known of each. -/
inductive Run2 (P : Program) (N : Nat) (ops : Array Oper) (T : List (List Nat)) (pk : Option PK) : Nat → List Nat → S → List Inf → S → Prop where
  | nil {k : Nat} {s : S} : Run2 P N ops T pk k [] s [] s
  | pure {k : Nat} {r : List Nat} {o : Oper} {s s1 : S} {d : D} {lam : List Nat} {I : List Inf} (hl : live T pk k = true) (ho : ops[k]? = some o) (h : PStep2 P N ops o s d) (hm : lookN o s = lam) (c : Run2 P N ops T pk (k + 1) r (s.put o.dst d) I s1) : Run2 P N ops T pk k (k :: r) s ((lam, 0) :: I) s1
  | deep {k : Nat} {r : List Nat} {o : Oper} {s s1 : S} {d : D} {I : List Inf} (hl : live T pk k = true) (ho : ops[k]? = some o) (h : PStep P N ops o s d) (c : Run2 P N ops T pk (k + 1) r (s.put o.dst d) I s1) : Run2 P N ops T pk k (k :: r) s (([], 2) :: I) s1
  | eff {k : Nat} {r : List Nat} {o : Oper} {s s' s1 : S} {d : D} {tau : List Nat} {I : List Inf} (hl : live T pk k = true) (ho : ops[k]? = some o) (hg : o.guard = none) (hd : dstOk o.dst N = true) (h : EStep P o s d s') (ht : ∀ b, b ∉ tau → lk b s'.hp = lk b s.hp) (c : Run2 P N ops T pk (k + 1) r (s'.put o.dst d) I s1) : Run2 P N ops T pk k (k :: r) s ((tau, 1) :: I) s1
  | pan {k : Nat} {r : List Nat} {o : Oper} {s s1 : S} {pv : Value} {I : List Inf} (hk : pk = some ⟨k, pv, s.hp, s.nx⟩) (ho : ops[k]? = some o) (hg : o.guard = none) (h : PanS P o s pv) (c : Run2 P N ops T pk (k + 1) r s I s1) : Run2 P N ops T pk k (k :: r) s (([], 1) :: I) s1
  | skip {k : Nat} {r : List Nat} {s s1 : S} {I : List Inf} (hl : live T pk k = false) (hk : ∀ x, pk = some x → x.q ≠ k) (c : Run2 P N ops T pk (k + 1) r s I s1) : Run2 P N ops T pk k (k :: r) s (([], 0) :: I) s1

/-- What the run says of its place j. -/
inductive Fact (P : Program) (N : Nat) (ops : Array Oper) (T : List (List Nat)) (pk : Option PK) (sl0 : List (Nat × D)) (F : Nat → D) (H : Nat → S) (I : Nat → Inf) (j : Nat) : Prop where
  | pure {o : Oper} {sl : List (Nat × D)} (hl : live T pk j = true) (ho : ops[j]? = some o) (hV : Vw ops F sl0 (fun i => i < j ∧ live T pk i = true) sl) (h : PStep2 P N ops o ((H j).at sl) (F j)) (hm : ∀ b ∈ lookN o ((H j).at sl), b ∈ (I j).1) (hI : (I j).2 = 0) (hH : H (j + 1) = H j)
  | deep {o : Oper} {sl : List (Nat × D)} (hl : live T pk j = true) (ho : ops[j]? = some o) (hV : Vw ops F sl0 (fun i => i < j ∧ live T pk i = true) sl) (h : PStep P N ops o ((H j).at sl) (F j)) (hI : (I j).2 = 2) (hH : H (j + 1) = H j)
  | eff {o : Oper} {sl : List (Nat × D)} (hl : live T pk j = true) (ho : ops[j]? = some o) (hV : Vw ops F sl0 (fun i => i < j ∧ live T pk i = true) sl) (hg : o.guard = none) (hd : dstOk o.dst N = true) (h : EStep P o ((H j).at sl) (F j) ((H (j + 1)).at sl)) (ht : ∀ b, b ∉ (I j).1 → lk b (H (j + 1)).hp = lk b (H j).hp) (hI : (I j).2 = 1)
  | pan {o : Oper} {sl : List (Nat × D)} {pv : Value} (hk : pk = some ⟨j, pv, (H j).hp, (H j).nx⟩) (ho : ops[j]? = some o) (hV : Vw ops F sl0 (fun i => i < j ∧ live T pk i = true) sl) (hg : o.guard = none) (h : PanS P o ((H j).at sl) pv) (hI : (I j).2 = 1) (hH : H (j + 1) = H j)
  | skip (hl : live T pk j = false) (hk : ∀ x, pk = some x → x.q ≠ j) (hI : (I j).2 = 0) (hH : H (j + 1) = H j)

theorem Vw.ext {F F' : Nat → D} {sl0 sl : List (Nat × D)} {L : Nat → Prop} (h : Vw ops F sl0 L sl) (he : ∀ j, L j → F' j = F j) : Vw ops F' sl0 L sl :=
  ⟨fun j o t hj hL ht => by rw [he j hL]; exact h.done j o t hj hL ht, h.rest⟩

theorem Run2.get {T : List (List Nat)} {I0 : List Inf} (hD : drawOk ops T I0 = true) {pk : Option PK} {s0 : S} : ∀ {m k : Nat} {s s1 : S} {F : Nat → D} {I : List Inf}, k + m = ops.size → Run2 P N ops T pk k ((List.range m).map (k + ·)) s I s1 → Vw ops F s0.sl (fun i => i < k ∧ live T pk i = true) s.sl → s.gh = s0.gh → s.st = s0.st →
    ∃ (F' : Nat → D) (H : Nat → S), (∀ j, j < k → F' j = F j) ∧ (∀ j, (H j).sl = s0.sl ∧ (H j).gh = s0.gh ∧ (H j).st = s0.st) ∧ H k = s.at s0.sl ∧ (∀ j, k ≤ j → j < ops.size → Fact P N ops T pk s0.sl F' H (fun j => I.getD (j - k) ([], 0)) j) ∧ Vw ops F' s0.sl (fun i => i < ops.size ∧ live T pk i = true) s1.sl ∧ H ops.size = s1.at s0.sl
  | 0, k, s, s1, F, I, hk, h, hV, hg, hst => by
    simp only [List.range_zero, List.map_nil] at h
    cases h
    have : ops.size = k := by omega
    exact ⟨F, fun _ => s.at s0.sl, fun _ _ => rfl, fun j => ⟨rfl, hg, hst⟩, rfl, fun j h1 h2 => by omega, by rw [this]; exact hV, rfl⟩
  | m + 1, k, s, s1, F, I, hk, h, hV, hg, hst => by
    have e2 : (List.range (m + 1)).map (k + ·) = k :: (List.range m).map (k + 1 + ·) := by
      rw [List.range_succ_eq_map, List.map_cons, List.map_map]
      simp only [Nat.add_zero, List.cons.injEq, true_and]
      congr 1
      funext j
      simp only [Function.comp]
      omega
    rw [e2] at h
    have shift : ∀ {I1 : List Inf} {x : Inf} {j : Nat}, k < j → (x :: I1).getD (j - k) ([], 0) = I1.getD (j - (k + 1)) ([], 0) := by
      intro I1 x j hj
      rw [show j - k = (j - (k + 1)) + 1 by omega]
      rfl
    -- a step that makes the slot d, or none
    have go : ∀ {s' s'' : S} {d : D} {o : Oper} {x : Inf} {I1 : List Inf}, live T pk k = true → ops[k]? = some o → s'.sl = s.sl → s'.gh = s.gh → s'.st = s.st → I = x :: I1 → Run2 P N ops T pk (k + 1) ((List.range m).map (k + 1 + ·)) (s'.put o.dst d) I1 s1 →
        (∀ (F' : Nat → D) (H : Nat → S), F' k = d → (∀ j, j < k → F' j = F j) → H k = s.at s0.sl → H (k + 1) = s'.at s0.sl → (∀ j, k < j → True) → Fact P N ops T pk s0.sl F' H (fun j => I.getD (j - k) ([], 0)) k) →
        ∃ (F' : Nat → D) (H : Nat → S), (∀ j, j < k → F' j = F j) ∧ (∀ j, (H j).sl = s0.sl ∧ (H j).gh = s0.gh ∧ (H j).st = s0.st) ∧ H k = s.at s0.sl ∧ (∀ j, k ≤ j → j < ops.size → Fact P N ops T pk s0.sl F' H (fun j => I.getD (j - k) ([], 0)) j) ∧ Vw ops F' s0.sl (fun i => i < ops.size ∧ live T pk i = true) s1.sl ∧ H ops.size = s1.at s0.sl := by
      intro s' s'' d o x I1 hl ho e1 e3 e4 eI hr hf
      subst eI
      let F1 : Nat → D := fun j => if j = k then d else F j
      have hV1 : Vw ops F1 s0.sl (fun i => i < k ∧ live T pk i = true) s.sl := hV.ext fun j hj => if_neg (by omega)
      have hV2 := hV1.put hD ho
      have hd : F1 k = d := if_pos rfl
      rw [hd] at hV2
      have hV3 : Vw ops F1 s0.sl (fun i => i < k + 1 ∧ live T pk i = true) (upO o.dst d s.sl) := hV2.iff fun j _ => by
        by_cases e : j = k
        · subst e; simp [hl]
        · simp only [e, false_or]
          exact ⟨fun h => ⟨by omega, h.2⟩, fun h => ⟨by omega, h.2⟩⟩
      have hput : (s'.put o.dst d).sl = upO o.dst d s.sl := by rw [put_upO, ← e1]; rfl
      obtain ⟨F', H, h1, h2, h3, h4, h5, h6⟩ := Run2.get (s0 := s0) (k := k + 1) (F := F1) hD (by omega) hr (by rw [hput]; exact hV3) (by rw [put_upO]; exact e3.trans hg) (by rw [put_upO]; exact e4.trans hst)
      have h3' : H (k + 1) = s'.at s0.sl := by rw [h3, put_upO]; rfl
      let H1 : Nat → S := fun j => if j = k then s.at s0.sl else H j
      have hHk : H1 k = s.at s0.sl := if_pos rfl
      have hHn : ∀ j, j ≠ k → H1 j = H j := fun j hj => if_neg hj
      refine ⟨F', H1, fun j hj => (h1 j (by omega)).trans (if_neg (by omega)), fun j => ?_, hHk, fun j hj hjn => ?_, h5, ?_⟩
      · by_cases e : j = k
        · subst e; rw [hHk]; exact ⟨rfl, hg, hst⟩
        · rw [hHn j e]; exact h2 j
      · by_cases e : j = k
        · subst e
          exact hf F' H1 ((h1 j (by omega)).trans hd) (fun i hi => (h1 i (by omega)).trans (if_neg (by omega))) hHk ((hHn _ (by omega)).trans h3') (fun _ _ => trivial)
        · have := h4 j (by omega) hjn
          have e1' : H1 j = H j := hHn j e
          have e2' : H1 (j + 1) = H (j + 1) := hHn _ (by omega)
          have eI : (x :: I1).getD (j - k) ([], 0) = I1.getD (j - (k + 1)) ([], 0) := shift (by omega)
          cases this with
          | pure hl ho hV h hm hI hH => exact .pure hl ho hV (by rw [e1']; exact h) (by rw [e1', eI]; exact hm) (by rw [eI]; exact hI) (by rw [e1', e2']; exact hH)
          | deep hl ho hV h hI hH => exact .deep hl ho hV (by rw [e1']; exact h) (by rw [eI]; exact hI) (by rw [e1', e2']; exact hH)
          | eff hl ho hV hg hd h ht hI => exact .eff hl ho hV hg hd (by rw [e1', e2']; exact h) (by rw [e1', e2', eI]; exact ht) (by rw [eI]; exact hI)
          | pan hk ho hV hg h hI hH => exact .pan (by rw [e1']; exact hk) ho hV hg (by rw [e1']; exact h) (by rw [eI]; exact hI) (by rw [e1', e2']; exact hH)
          | skip hl hk hI hH => exact .skip hl hk (by rw [eI]; exact hI) (by rw [e1', e2']; exact hH)
      · by_cases e : ops.size = k
        · have := (Array.getElem?_eq_some_iff.1 ho).1; omega
        · rw [hHn _ e]; exact h6
    -- a step that does nothing here
    have no : ∀ {x : Inf} {I1 : List Inf}, live T pk k = false → I = x :: I1 → Run2 P N ops T pk (k + 1) ((List.range m).map (k + 1 + ·)) s I1 s1 →
        (∀ (F' : Nat → D) (H : Nat → S), (∀ j, j < k → F' j = F j) → H k = s.at s0.sl → H (k + 1) = s.at s0.sl → Fact P N ops T pk s0.sl F' H (fun j => I.getD (j - k) ([], 0)) k) →
        ∃ (F' : Nat → D) (H : Nat → S), (∀ j, j < k → F' j = F j) ∧ (∀ j, (H j).sl = s0.sl ∧ (H j).gh = s0.gh ∧ (H j).st = s0.st) ∧ H k = s.at s0.sl ∧ (∀ j, k ≤ j → j < ops.size → Fact P N ops T pk s0.sl F' H (fun j => I.getD (j - k) ([], 0)) j) ∧ Vw ops F' s0.sl (fun i => i < ops.size ∧ live T pk i = true) s1.sl ∧ H ops.size = s1.at s0.sl := by
      intro x I1 hl eI hr hf
      subst eI
      have hV3 : Vw ops F s0.sl (fun i => i < k + 1 ∧ live T pk i = true) s.sl := hV.iff fun j _ => by
        refine ⟨fun h => ⟨by omega, h.2⟩, fun h => ⟨?_, h.2⟩⟩
        have : j ≠ k := fun e => by subst e; rw [hl] at h; exact absurd h.2 (by simp)
        omega
      obtain ⟨F', H, h1, h2, h3, h4, h5, h6⟩ := Run2.get (s0 := s0) (k := k + 1) (F := F) hD (by omega) hr hV3 hg hst
      let H1 : Nat → S := fun j => if j = k then s.at s0.sl else H j
      have hHk : H1 k = s.at s0.sl := if_pos rfl
      have hHn : ∀ j, j ≠ k → H1 j = H j := fun j hj => if_neg hj
      refine ⟨F', H1, fun j hj => h1 j (by omega), fun j => ?_, hHk, fun j hj hjn => ?_, h5, ?_⟩
      · by_cases e : j = k
        · subst e; rw [hHk]; exact ⟨rfl, hg, hst⟩
        · rw [hHn j e]; exact h2 j
      · by_cases e : j = k
        · subst e
          exact hf F' H1 (fun i hi => h1 i (by omega)) hHk ((hHn _ (by omega)).trans h3)
        · have := h4 j (by omega) hjn
          have e1' : H1 j = H j := hHn j e
          have e2' : H1 (j + 1) = H (j + 1) := hHn _ (by omega)
          have eI : (x :: I1).getD (j - k) ([], 0) = I1.getD (j - (k + 1)) ([], 0) := shift (by omega)
          cases this with
          | pure hl ho hV h hm hI hH => exact .pure hl ho hV (by rw [e1']; exact h) (by rw [e1', eI]; exact hm) (by rw [eI]; exact hI) (by rw [e1', e2']; exact hH)
          | deep hl ho hV h hI hH => exact .deep hl ho hV (by rw [e1']; exact h) (by rw [eI]; exact hI) (by rw [e1', e2']; exact hH)
          | eff hl ho hV hg hd h ht hI => exact .eff hl ho hV hg hd (by rw [e1', e2']; exact h) (by rw [e1', e2', eI]; exact ht) (by rw [eI]; exact hI)
          | pan hk ho hV hg h hI hH => exact .pan (by rw [e1']; exact hk) ho hV hg (by rw [e1']; exact h) (by rw [eI]; exact hI) (by rw [e1', e2']; exact hH)
          | skip hl hk hI hH => exact .skip hl hk (by rw [eI]; exact hI) (by rw [e1', e2']; exact hH)
      · by_cases e : ops.size = k
        · omega
        · rw [hHn _ e]; exact h6
    have hs0 : (s.at s0.sl).at s.sl = s := by cases s; rfl
    cases h with
    | pure hl ho h hm c =>
      refine go (s' := s) (s'' := s) hl ho rfl rfl rfl rfl c fun F' H h1 h2 h3 h4 _ => .pure hl ho (hV.ext fun j hj => h2 j hj.1) ?_ ?_ (by simp) (h4.trans h3.symm)
      · rw [h3, h1, hs0]; exact h
      · rw [h3, hs0]; simp [hm]
    | deep hl ho h c =>
      refine go (s' := s) (s'' := s) hl ho rfl rfl rfl rfl c fun F' H h1 h2 h3 h4 _ => .deep hl ho (hV.ext fun j hj => h2 j hj.1) ?_ (by simp) (h4.trans h3.symm)
      rw [h3, h1, hs0]; exact h
    | @eff _ _ o _ s' _ d tau I1 hl ho hg' hd h ht c =>
      have hk : s'.sl = s.sl ∧ s'.gh = s.gh ∧ s'.st = s.st := by
        cases h with
        | op h => exact aop_keeps h
        | call => exact ⟨rfl, rfl, rfl⟩
      refine go (s' := s') (s'' := s) hl ho hk.1 hk.2.1 hk.2.2 rfl c fun F' H h1 h2 h3 h4 _ => .eff hl ho (hV.ext fun j hj => h2 j hj.1) hg' hd ?_ ?_ (by simp)
      · have : (s'.at s0.sl).at s.sl = s' := by rw [← hk.1]; cases s'; rfl
        rw [h3, h4, h1, hs0, this]; exact h
      · intro b hb
        rw [h3, h4]
        exact ht b (by simpa using hb)
    | pan hk ho hg' h c =>
      have hl : live T pk k = false := by rw [hk]; simp [live]
      refine no hl rfl c fun F' H h2 h3 h4 => .pan (by rw [h3]; exact hk) ho (hV.ext fun j hj => h2 j hj.1) hg' ?_ (by simp) (h4.trans h3.symm)
      rw [h3, hs0]; exact h
    | skip hl hk c => exact no hl rfl c fun F' H h2 h3 h4 => .skip hl hk (by simp) (h4.trans h3.symm)

theorem ready_nil {T : List (List Nat)} {I : List Inf} (hD : drawOk ops T I = true) {listed : Array Bool} (hsz : listed.size = ops.size) (h : Region.ready .any ops listed = []) : ∀ i, i < ops.size → listed.getD i false = true := by
  intro i
  induction i using Nat.strongRecOn with
  | _ i ih =>
    intro hi
    cases hl : listed.getD i false with
    | true => rfl
    | false =>
      exfalso
      have : i ∈ Region.ready .any ops listed := mem_ready.2 ⟨by
        rw [Array.getD_eq_getD_getElem?, Array.getElem?_eq_getElem (by omega)] at hl ⊢
        simpa using hl, ops[i], Array.getElem?_eq_getElem hi, fun e he hb => by
        have := draw_lt hD (Array.getElem?_eq_getElem hi) he hb
        exact ih e.on this (by omega)⟩
      rw [h] at this
      cases this

theorem next_eff (isE : Nat → Prop) [DecidablePred isE] (n : Nat) : ∀ (m k : Nat), k + m = n → ∃ c, k ≤ c ∧ c ≤ n ∧ (∀ e, k ≤ e → e < c → ¬ isE e) ∧ (c < n → isE c)
  | 0, k, h => ⟨k, Nat.le_refl _, by omega, fun e h1 h2 => by omega, fun h => by omega⟩
  | m + 1, k, h => by
    by_cases hk : isE k
    · exact ⟨k, Nat.le_refl _, by omega, fun e h1 h2 => by omega, fun _ => hk⟩
    · obtain ⟨c, h1, h2, h3, h4⟩ := next_eff isE n m (k + 1) (by omega)
      refine ⟨c, by omega, h2, fun e e1 e2 => ?_, h4⟩
      by_cases ek : e = k
      · subst ek; exact hk
      · exact h3 e (by omega) e2

theorem any_ok {σ : Sit} (hσ : pr.Ok P σ) {T : List (List Nat)} {I : List Inf} (hD : drawOk ops T I = true) {pk : Option PK} {F : Nat → D} {H : Nat → S} {sl0 : List (Nat × D)} {Q : Exit → Act → World → Prop}
    (hF : ∀ j, j < ops.size → Fact P N ops T pk sl0 F H (fun j => I.getD j ([], 0)) j)
    (hQ : ∀ (sl : List (Nat × D)) (a : Act) (w : World), pk = none → Vw ops F sl0 (· < ops.size) sl → At σ ((H ops.size).at sl) a w N → Q .normal a w)
    (hP : ∀ (x : PK) (sl : List (Nat × D)) (a : Act) (w : World), pk = some x → (∀ t, (∀ (j : Nat) (o : Oper), ops[j]? = some o → o.dst ≠ some t) → lk t sl = lk t sl0) → x.hp = (H x.q).hp → x.nx = (H x.q).nx → At σ ((H x.q).at sl) a w N → Q (.panic [{ v := x.v, recovered := false }]) a w)
    (hpk : ∀ x, pk = some x → x.q < ops.size) :
    ∀ (fuel : Nat) (listed : Array Bool) (c : Nat) (sl : List (Nat × D)) (a : Act) (w : World), listed.size = ops.size → listed.toList.count false ≤ fuel → (∀ i o, ops[i]? = some o → listed.getD i false = true → ∀ e ∈ o.after, Region.binds .any e = true → listed.getD e.on false = true) →
      (∀ j, listed.getD j false = true → live T pk j = true) → c ≤ ops.size → (∀ e, e < c → (I.getD e ([], 0)).2 = 1 → listed.getD e false = true) → (c < ops.size → (I.getD c ([], 0)).2 = 1 ∧ listed.getD c false = false) →
      Vw ops F sl0 (fun j => listed.getD j false = true) sl → At σ ((H c).at sl) a w N → wpAnyIn (FW pr.round) 0 P .any ops Q fuel listed a w := by
  have hlt_of : ∀ {j o}, ops[j]? = some o → j < ops.size := fun h => (Array.getElem?_eq_some_iff.1 h).1
  -- no effect between: the heap is the same
  have hconst : ∀ m k, (∀ e, k ≤ e → e < k + m → e < ops.size) → (∀ e, k ≤ e → e < k + m → (I.getD e ([], 0)).2 ≠ 1) → H (k + m) = H k := by
    intro m
    induction m with
    | zero => intro k _ _; rfl
    | succ m ihm =>
      intro k h1 h2
      rw [show k + (m + 1) = (k + m) + 1 by omega, ← ihm k (fun e e1 e2 => h1 e e1 (by omega)) (fun e e1 e2 => h2 e e1 (by omega))]
      have := h2 (k + m) (by omega) (by omega)
      cases hF (k + m) (h1 _ (by omega) (by omega)) with
      | pure _ _ _ _ _ _ hH => exact hH
      | deep _ _ _ _ _ hH => exact hH
      | eff _ _ _ _ _ _ _ hI => exact absurd hI this
      | pan _ _ _ _ _ hI _ => exact absurd hI this
      | skip _ _ _ hH => exact hH
  have hstep : ∀ e, e < ops.size → ∀ b, ((I.getD e ([], 0)).2 = 1 → b ∉ (I.getD e ([], 0)).1) → lk b (H (e + 1)).hp = lk b (H e).hp := by
    intro e he b hb
    cases hF e he with
    | pure _ _ _ _ _ _ hH => rw [hH]
    | deep _ _ _ _ _ hH => rw [hH]
    | eff _ _ _ _ _ _ ht hI => exact ht b (hb hI)
    | pan _ _ _ _ _ _ hH => rw [hH]
    | skip _ _ _ hH => rw [hH]
  have hchain : ∀ m k b, (∀ e, k ≤ e → e < k + m → e < ops.size ∧ ((I.getD e ([], 0)).2 = 1 → b ∉ (I.getD e ([], 0)).1)) → lk b (H (k + m)).hp = lk b (H k).hp := by
    intro m
    induction m with
    | zero => intro k b _; rfl
    | succ m ihm =>
      intro k b h1
      rw [show k + (m + 1) = (k + m) + 1 by omega]
      exact (hstep (k + m) (h1 _ (by omega) (by omega)).1 b (h1 _ (by omega) (by omega)).2).trans (ihm k b fun e e1 e2 => h1 e e1 (by omega))
  have hnopk : ∀ {listed : Array Bool} {x : PK}, (∀ j, listed.getD j false = true → live T pk j = true) → pk = some x → listed.getD x.q false = false := by
    intro listed x hlv e
    cases hl : listed.getD x.q false with
    | false => rfl
    | true => have := hlv x.q hl; rw [e] at this; simp [live] at this
  have fin : ∀ (listed : Array Bool) (c : Nat) (sl : List (Nat × D)) (a : Act) (w : World), listed.size = ops.size → (∀ j, listed.getD j false = true → live T pk j = true) → (c < ops.size → (I.getD c ([], 0)).2 = 1 ∧ listed.getD c false = false) → c ≤ ops.size → Vw ops F sl0 (fun j => listed.getD j false = true) sl → At σ ((H c).at sl) a w N → Region.ready .any ops listed = [] → Q .normal a w := by
    intro listed c sl a w hsz hlv hc hcn hV hA h0
    have hall := ready_nil hD hsz h0
    have hc' : c = ops.size := by
      rcases Nat.lt_or_ge c ops.size with h1 | h1
      · have := (hc h1).2; rw [hall c h1] at this; cases this
      · omega
    subst hc'
    cases hpke : pk with
    | some x =>
      have := hnopk hlv hpke
      rw [hall x.q (hpk x hpke)] at this
      cases this
    | none => exact hQ sl a w hpke (hV.iff fun j hj => ⟨fun _ => hj, fun _ => hall j hj⟩) hA
  intro fuel
  induction fuel with
  | zero =>
    intro listed c sl a w hsz hcnt hdown hlv hcn hc1 hc2 hV hA
    have h0 : Region.ready .any ops listed = [] := by
      refine List.eq_nil_iff_forall_not_mem.2 fun i hi => ?_
      obtain ⟨h1, o, ho, _⟩ := mem_ready.1 hi
      have hlt : i < listed.size := by have := (Array.getElem?_eq_some_iff.1 ho).1; omega
      rw [Array.getD_eq_getD_getElem?, Array.getElem?_eq_getElem hlt] at h1
      simp only [Option.getD_some] at h1
      have : false ∈ listed.toList := by rw [← h1]; simp
      have := List.count_pos_iff.2 this
      omega
    exact ⟨h0, fin listed c sl a w hsz hlv hc2 hcn hV hA h0⟩
  | succ fuel ih =>
    intro listed c sl a w hsz hcnt hdown hlv hcn hc1 hc2 hV hA
    refine ⟨fin listed c sl a w hsz hlv hc2 hcn hV hA, fun i hi => ?_⟩
    obtain ⟨h1, o, ho, hafter⟩ := mem_ready.1 hi
    have hlt : i < ops.size := hlt_of ho
    have hlt' : i < listed.size := by omega
    have hun : listed.getD i false = false := by
      rw [Array.getD_eq_getD_getElem?, Array.getElem?_eq_getElem hlt'] at h1 ⊢
      simpa using h1
    have hTi : ∀ j, (T.getD i []).contains j = true → listed.getD j false = true := draw_tbl hD (fun j => listed.getD j false = true) hdown i o ho hafter
    have hTL : ∀ j, j < ops.size → listed.getD j false = true → ∀ k, (T.getD j []).contains k = true → listed.getD k false = true := fun j hj hL => draw_tbl hD (fun j => listed.getD j false = true) hdown j ops[j] (Array.getElem?_eq_getElem hj) (hdown j _ (Array.getElem?_eq_getElem hj) hL)
    have agree : ∀ {sli : List (Nat × D)}, live T pk i = true → Vw ops F sl0 (fun k => k < i ∧ live T pk k = true) sli → ∀ t ∈ o.looksAt ops, lk t sl = lk t sli := by
      intro sli hli hVi t ht
      refine hV.agree hVi fun j oj hj hd => ?_
      have := draw_look hD ho ht hj hd
      by_cases hji : j < i
      · rw [if_pos hji] at this
        exact ⟨fun hL => ⟨hji, hlv j hL⟩, fun _ => hTi j this⟩
      · rw [if_neg hji] at this
        refine ⟨fun hL => ?_, fun h => absurd h.1 hji⟩
        rcases this with rfl | this
        · rw [hun] at hL; cases hL
        · have := hTL j (hlt_of hj) hL i this
          rw [hun] at this; cases this
    have hset : ∀ j, (listed.setIfInBounds i true).getD j false = true ↔ j = i ∨ listed.getD j false = true := by
      intro j
      by_cases e : i = j
      · subst e; simp [hlt']
      · rw [getD_set_ne false e]
        exact ⟨.inr, fun h => h.resolve_left fun e' => e e'.symm⟩
    -- what comes behind i
    have next : ∀ (c' : Nat) (a' : Act) (w' : World), live T pk i = true → c' ≤ ops.size → (∀ e, e < c' → (I.getD e ([], 0)).2 = 1 → e = i ∨ listed.getD e false = true) → (c' < ops.size → (I.getD c' ([], 0)).2 = 1 ∧ c' ≠ i ∧ listed.getD c' false = false) → At σ ((H c').at (upO o.dst (F i) sl)) a' w' N →
        wpAnyIn (FW pr.round) 0 P .any ops Q fuel (listed.setIfInBounds i true) a' w' := by
      intro c' a' w' hli hc'n hc1' hc2' hA'
      refine ih _ c' _ a' w' (by simp [hsz]) ?_ (fun j oj hj hL e he hb => ?_) (fun j hL => ?_) hc'n (fun e e1 e2 => (hset e).2 (hc1' e e1 e2)) (fun h => ?_) ((hV.put hD ho).iff fun j _ => (hset j).symm) hA'
      · rw [Array.toList_setIfInBounds]
        have h2 : listed.toList[i]? = some false := by
          rw [Array.getD_eq_getD_getElem?, Array.getElem?_eq_getElem hlt'] at hun
          simp only [Option.getD_some] at hun
          rw [Array.getElem?_toList, Array.getElem?_eq_getElem hlt', hun]
        have hl3 : i < listed.toList.length := by simpa using hlt'
        have h3 : listed.toList[i] = false := by
          rw [List.getElem?_eq_getElem hl3] at h2
          injection h2
        have h4 : 0 < listed.toList.count false := List.count_pos_iff.2 (h3 ▸ List.getElem_mem hl3)
        have h5 : (listed.toList.set i true).count false = listed.toList.count false - 1 := by
          rw [List.count_set hl3, h3]
          simp
        omega
      · rw [hset] at hL ⊢
        rcases hL with rfl | hL
        · rw [ho] at hj; injection hj with hj; subst hj
          exact .inr (hafter e he hb)
        · exact .inr (hdown j oj hj hL e he hb)
      · rw [hset] at hL
        rcases hL with rfl | hL
        · exact hli
        · exact hlv j hL
      · obtain ⟨k1, k2, k3⟩ := hc2' h
        refine ⟨k1, ?_⟩
        cases hq : (listed.setIfInBounds i true).getD c' false with
        | false => rfl
        | true =>
          rcases (hset c').1 hq with k | k
          · exact absurd k k2
          · rw [k3] at k; cases k
    -- an effect that may come now is the next one
    have effc : (I.getD i ([], 0)).2 = 1 → i = c := by
      intro hIi
      rcases Nat.lt_trichotomy i c with h2 | h2 | h2
      · have := hc1 i h2 hIi; rw [hun] at this; cases this
      · exact h2
      · exfalso
        have hcl : c < ops.size := by omega
        obtain ⟨k1, k2⟩ := hc2 hcl
        have hap := draw_apart hD hcl hlt k1
        simp only [apartB, Bool.or_eq_true, beq_iff_eq, Bool.and_eq_true] at hap
        rcases hap with ((h3 | h3) | h3) | h3
        · omega
        · rw [hTi c h3] at k2; cases k2
        · have := draw_Tlt hD c ops[c] (Array.getElem?_eq_getElem hcl) i h3; omega
        · rw [hIi] at h3; simp at h3
    -- which effects stand between a looker and where one is
    have between : (I.getD i ([], 0)).2 ≠ 1 → ∀ e, (c ≤ e ∧ e < i ∨ i ≤ e ∧ e < c) → e < ops.size ∧ ((I.getD e ([], 0)).2 = 1 → (I.getD i ([], 0)).2 = 0 ∧ ∀ b ∈ (I.getD i ([], 0)).1, b ∉ (I.getD e ([], 0)).1) := by
      intro hIi e he
      have hel : e < ops.size := by rcases he with he | he <;> omega
      refine ⟨hel, fun hIe => ?_⟩
      have hap := draw_apart hD hel hlt hIe
      simp only [apartB, Bool.or_eq_true, beq_iff_eq, Bool.and_eq_true] at hap
      rcases hap with ((h3 | h3) | h3) | h3
      · subst h3; exact absurd hIe hIi
      · exfalso
        have hle := hTi e h3
        rcases he with he | he
        · by_cases e1 : e = c
          · subst e1
            have := (hc2 hel).2; rw [hle] at this; cases this
          · have hcl : c < ops.size := by omega
            obtain ⟨k1, k2⟩ := hc2 hcl
            have hap := draw_apart hD hcl hel k1
            simp only [apartB, Bool.or_eq_true, beq_iff_eq, Bool.and_eq_true] at hap
            rcases hap with ((h4 | h4) | h4) | h4
            · omega
            · have := hTL e hel hle c h4; rw [k2] at this; cases this
            · have := draw_Tlt hD c ops[c] (Array.getElem?_eq_getElem hcl) e h4; omega
            · rw [hIe] at h4; simp at h4
        · have := draw_Tlt hD i o ho e h3; omega
      · exfalso
        rcases he with he | he
        · have := draw_Tlt hD e ops[e] (Array.getElem?_eq_getElem hel) i h3; omega
        · have hle := hc1 e he.2 hIe
          have := hTL e hel hle i h3; rw [hun] at this; cases this
      · refine ⟨h3.1, fun b hb => ?_⟩
        have := List.all_eq_true.1 h3.2 b hb
        simpa using this
    have same : (I.getD i ([], 0)).2 ≠ 1 → ∀ e, e < c → (I.getD e ([], 0)).2 = 1 → e = i ∨ listed.getD e false = true := fun _ e e1 e2 => .inr (hc1 e e1 e2)
    have same2 : (I.getD i ([], 0)).2 ≠ 1 → c < ops.size → (I.getD c ([], 0)).2 = 1 ∧ c ≠ i ∧ listed.getD c false = false := fun hIi h => ⟨(hc2 h).1, fun e => hIi (by rw [← e]; exact (hc2 h).1), (hc2 h).2⟩
    cases hF i hlt with
    | @pure o' sli hli ho' hVi hs hm hI hH =>
      rw [ho] at ho'
      injection ho' with ho'
      subst ho'
      have hI1 : (I.getD i ([], 0)).2 ≠ 1 := by rw [hI]; decide
      have hheap : ∀ b ∈ lookN o ((H i).at sli), lk b (H c).hp = lk b (H i).hp := by
        intro b hb
        have hb' := hm b hb
        rcases Nat.le_total c i with hci | hci
        · have := hchain (i - c) c b fun e e1 e2 => by
            obtain ⟨k1, k2⟩ := between hI1 e (.inl ⟨e1, by omega⟩)
            exact ⟨k1, fun k => (k2 k).2 b hb'⟩
          rw [show c + (i - c) = i by omega] at this
          exact this.symm
        · have := hchain (c - i) i b fun e e1 e2 => by
            obtain ⟨k1, k2⟩ := between hI1 e (.inr ⟨e1, by omega⟩)
            exact ⟨k1, fun k => (k2 k).2 b hb'⟩
          rw [show i + (c - i) = c by omega] at this
          exact this
      have hs' : PStep2 P N ops o ((H c).at sl) (F i) := hs.congr (s2 := (H c).at sl) (fun t ht => agree hli hVi t ht) hheap
      refine hs'.to.ok hσ hA ho fun a' w' hA' => ?_
      rw [put_upO] at hA'
      exact next c a' w' hli hcn (same hI1) (same2 hI1) hA'
    | @deep o' sli hli ho' hVi hs hI hH =>
      rw [ho] at ho'
      injection ho' with ho'
      subst ho'
      have hI1 : (I.getD i ([], 0)).2 ≠ 1 := by rw [hI]; decide
      have hHc : H c = H i := by
        have hno : ∀ e, (c ≤ e ∧ e < i ∨ i ≤ e ∧ e < c) → e < ops.size ∧ (I.getD e ([], 0)).2 ≠ 1 := fun e he => by
          obtain ⟨k1, k2⟩ := between hI1 e he
          exact ⟨k1, fun k => by have := (k2 k).1; rw [hI] at this; cases this⟩
        rcases Nat.le_total c i with hci | hci
        · have := hconst (i - c) c (fun e e1 e2 => (hno e (.inl ⟨e1, by omega⟩)).1) (fun e e1 e2 => (hno e (.inl ⟨e1, by omega⟩)).2)
          rw [show c + (i - c) = i by omega] at this
          exact this.symm
        · have := hconst (c - i) i (fun e e1 e2 => (hno e (.inr ⟨e1, by omega⟩)).1) (fun e e1 e2 => (hno e (.inr ⟨e1, by omega⟩)).2)
          rw [show i + (c - i) = c by omega] at this
          exact this
      have hs' : PStep P N ops o ((H c).at sl) (F i) := by
        rw [hHc]
        exact hs.congrS (sl' := sl) (fun t ht => agree hli hVi t ht)
      refine hs'.ok hσ hA ho fun a' w' hA' => ?_
      rw [put_upO] at hA'
      exact next c a' w' hli hcn (same hI1) (same2 hI1) hA'
    | @eff o' sli hli ho' hVi hg hd hs ht hI =>
      rw [ho] at ho'
      injection ho' with ho'
      subst ho'
      have hic := effc hI
      subst hic
      have hs' : EStep P o ((H i).at sl) (F i) ((H (i + 1)).at sl) := hs.at (sl' := sl) (ev_congr (s2 := ((H i).at sli).at sl) (fun t ht => agree hli hVi t ht))
      simp only [wpOpIn, ho, wantedA hA (show wantedD ops o ((H i).at sl) = some true by simp only [wantedD, hg]), if_true]
      refine step_ok hσ hA (hs'.step hd) (fun a' w' ⟨s', e, hA'⟩ => ?_) (fun chain a' w' ⟨v, s', _, e, _⟩ => e.elim)
      subst e
      rw [put_upO] at hA'
      obtain ⟨c', k1, k2, k3, k4⟩ := next_eff (fun e => (I.getD e ([], 0)).2 = 1) ops.size (ops.size - (i + 1)) (i + 1) (by omega)
      have hHc : H c' = H (i + 1) := by
        have := hconst (c' - (i + 1)) (i + 1) (fun e e1 e2 => by omega) (fun e e1 e2 => k3 e e1 (by omega))
        rw [show i + 1 + (c' - (i + 1)) = c' by omega] at this
        exact this
      refine next c' a' w' hli k2 (fun e e1 e2 => ?_) (fun h => ⟨k4 h, by omega, ?_⟩) (by rw [hHc]; exact hA')
      · rcases Nat.lt_trichotomy e i with h2 | h2 | h2
        · exact .inr (hc1 e h2 e2)
        · exact .inl h2
        · exact absurd e2 (k3 e (by omega) e1)
      · cases hq : listed.getD c' false with
        | false => rfl
        | true =>
          exfalso
          have hap := draw_apart hD hlt h hI
          simp only [apartB, Bool.or_eq_true, beq_iff_eq, Bool.and_eq_true] at hap
          rcases hap with ((h3 | h3) | h3) | h3
          · omega
          · have := hTL c' h hq i h3; rw [hun] at this; cases this
          · have := draw_Tlt hD i o ho c' h3; omega
          · rw [k4 h] at h3; simp at h3
    | @pan o' sli pv hk ho' hVi hg hs hI hH =>
      rw [ho] at ho'
      injection ho' with ho'
      subst ho'
      have hic := effc hI
      subst hic
      -- what i looks at has been done
      have hag : ∀ t ∈ o.looksAt ops, lk t sl = lk t sli := by
        intro t ht
        refine hV.agree hVi fun j oj hj hd => ?_
        have := draw_look hD ho ht hj hd
        by_cases hji : j < i
        · rw [if_pos hji] at this
          exact ⟨fun hL => ⟨hji, hlv j hL⟩, fun _ => hTi j this⟩
        · rw [if_neg hji] at this
          refine ⟨fun hL => ?_, fun h => absurd h.1 hji⟩
          rcases this with rfl | this
          · rw [hun] at hL; cases hL
          · have := hTL j (hlt_of hj) hL i this
            rw [hun] at this; cases this
      obtain ⟨g, args, ds, e1, e2, e3⟩ := hs
      have hs' : PanS P o ((H i).at sl) pv := ⟨g, args, ds, aop_call_congr e1 (ev_congr (s2 := (H i).at sl) hag), e2, (lendL_hp (s := (H i).at sli) (s2 := (H i).at sl) rfl).trans e3⟩
      simp only [wpOpIn, ho, wantedA hA (show wantedD ops o ((H i).at sl) = some true by simp only [wantedD, hg]), if_true]
      refine step_ok hσ hA hs'.step (fun a' w' ⟨s', e, hA'⟩ => e.elim) (fun chain a' w' ⟨v, s', e1, e2, hA'⟩ => ?_)
      obtain ⟨rfl, rfl⟩ := e2
      subst e1
      exact hP _ sl a' w' hk (fun t ht => hV.rest t fun j oj hj hd => absurd hd (ht j oj hj)) rfl rfl hA'
    | skip hl hk hI hH =>
      exfalso
      cases hpke : pk with
      | none => rw [hpke] at hl; simp [live] at hl
      | some x =>
        rw [hpke] at hl
        simp only [live, Bool.not_eq_false', Bool.or_eq_true, beq_iff_eq] at hl
        rcases hl with hl | hl
        · exact hk x hpke hl.symm
        · have := hTi x.q hl
          rw [hnopk hlv hpke] at this
          cases this

theorem draw_ok {T : List (List Nat)} {pk : Option PK} {I : List Inf} (hm : P.follows .mixedOrders = true) (hD : drawOk ops T I = true) {s1 : S} (h : Run2 P N ops T pk 0 (List.range ops.size) s I s1) (hpk : ∀ x, pk = some x → x.q < ops.size) {id : Nat} {K : Ex → S → Prop}
    (hK : pk = none → ∀ s', Ent s' s1 → K .normal s') (hP : ∀ x, pk = some x → ∀ s', (∀ t, (∀ (j : Nat) (o : Oper), ops[j]? = some o → o.dst ≠ some t) → lk t s'.sl = lk t s.sl) → s'.gh = s.gh → s'.st = s.st → s'.hp = x.hp → s'.nx = x.nx → K (.panic x.v) s') : TCode P pr N (.region id ops true) s K := by
  intro σ a w hσ hA
  have h' : Run2 P N ops T pk 0 ((List.range ops.size).map (0 + ·)) s I s1 := by simpa using h
  obtain ⟨F, H, _, hH, hH0, hF, hV1, hHn⟩ := Run2.get (s0 := s) (F := fun _ => .bad) hD (by omega) h' ⟨fun j o t _ hL _ => by simp at hL, fun t _ => rfl⟩ rfl rfl
  refine wpIn_region_any hm ?_
  obtain ⟨c, k1, k2, k3, k4⟩ := next_eff (fun e => (I.getD e ([], 0)).2 = 1) ops.size ops.size 0 (by omega)
  have hF' : ∀ j, j < ops.size → Fact P N ops T pk s.sl F H (fun j => I.getD j ([], 0)) j := fun j hj => by simpa using hF j (Nat.zero_le _) hj
  have hHc : H c = H 0 := by
    have : ∀ m, m ≤ c → H m = H 0 := by
      intro m
      induction m with
      | zero => intro _; rfl
      | succ m ihm =>
        intro hmc
        have := k3 m (Nat.zero_le _) (by omega)
        rw [← ihm (by omega)]
        cases hF' m (by omega) with
        | pure _ _ _ _ _ _ hH => exact hH
        | deep _ _ _ _ _ hH => exact hH
        | eff _ _ _ _ _ _ _ hI => exact absurd hI this
        | pan _ _ _ _ _ hI _ => exact absurd hI this
        | skip _ _ _ hH => exact hH
    exact this c (Nat.le_refl _)
  have hs : (s.at s.sl).at s.sl = s := by cases s; rfl
  have hAd : At σ s a { w with drawn := w.drawn + 1 } N := by
    obtain ⟨ι, F, Ds, h1, h2⟩ := hA
    exact ⟨ι, F, Ds, h1, h2.drew⟩
  refine any_ok hσ hD hF' (fun sl a w hpn hV hA => ?_) (fun x sl a w hpe hsl e1 e2 hA => ?_) hpk ops.size _ c s.sl a _ (by simp) (by simp) (fun i o ho hL => ?_) (fun j hL => ?_) k2 (fun e e1 e2 => absurd e2 (k3 e (Nat.zero_le _) e1)) (fun hc => ⟨k4 hc, by simp [Array.getD_eq_getD_getElem?, hc]⟩) ⟨fun j o t hj hL _ => ?_, fun t _ => rfl⟩ (by rw [hHc, hH0]; rw [hs]; exact hAd)
  · refine ⟨_, hK hpn _ ?_, hA⟩
    rw [hHn]
    have hl : ∀ i, live T pk i = true := fun i => by rw [hpn]; rfl
    have hh := hH ops.size
    rw [hHn] at hh
    refine ⟨by simp [S.at], fun β ι' a' w' N' hR' => ⟨ι', ?_⟩⟩
    have := hR'.fewer (sl := s1.sl) fun t d ht => by
      rw [← ht]
      exact hV.agree hV1 fun j oj hj _ => ⟨fun h => ⟨h, hl j⟩, fun h => h.1⟩
    exact this
  · exact ⟨x.v, _, rfl, hP x hpe ((H x.q).at sl) hsl (hH x.q).2.1 (hH x.q).2.2 e1.symm e2.symm, hA⟩
  · have hlt := (Array.getElem?_eq_some_iff.1 ho).1
    simp [Array.getD_eq_getD_getElem?, hlt] at hL
  · rcases Nat.lt_or_ge j ops.size with hlt | hge
    · simp [Array.getD_eq_getD_getElem?, hlt] at hL
    · simp [Array.getD_eq_getD_getElem?, hge] at hL
  · have hlt := (Array.getElem?_eq_some_iff.1 hj).1
    simp [Array.getD_eq_getD_getElem?, hlt] at hL
end Go.Proofs.Ytbkkekbeaabokaa.Sx
