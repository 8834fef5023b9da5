/- Sy, part K: contracts of functions, calls, regions, the code. -/
import Derived.Test.YtbkkekbeaabokaaSyK1
set_option linter.unusedVariables false
set_option linter.unusedSimpArgs false
namespace Go.Proofs.Ytbkkekbeaabokaa.Sx
open Go Go.RowKit

variable {P : Program} {β : Bs} {G G' : Nat → Prop} {w w' : World} {ι ι' : Nat → Loc} {s s' : S} {a : Act} {N : Nat}

/-! ### Contracts -/
def enum (k : Nat) : List HO → List (Nat × HO)
  | [] => []
  | o :: r => (k, o) :: enum (k + 1) r
theorem lk_enum : ∀ (h : List HO) (k x : Nat), lk x (enum k h) = if k ≤ x then h[x - k]? else none
  | [], k, x => by simp [enum, lk]
  | o :: r, k, x => by
    simp only [enum, lk, lk_enum r (k + 1) x]
    by_cases e : x = k
    · subst e; simp
    · rw [if_neg e]
      by_cases h1 : k + 1 ≤ x
      · rw [if_pos h1, if_pos (by omega), show x - k = (x - (k + 1)) + 1 by omega]
        simp
      · rw [if_neg h1, if_neg (by omega)]

/-- What has come back: a value that reads as d, over the new blocks h; nothing that was there has turned. -/
def Ret (G : Nat → Prop) (w : World) (d : D) (h : List HO) : Ending → World → Prop := fun e w' =>
  ∃ v ι', e = .returned v ∧ Below w.heap.size w w' ∧ RelH G (w.heap.size ≤ ·) ι' (enum 0 h) h.length w' ∧ RelD G ι' h.length w' d v
def Body (P : Program) (g : FuncId) : Prop := ∃ fn c, P.funcs[g]? = some fn ∧ fn.body = some c ∧ (fn.name == "runtime.NumGoroutine") = false
/-- The contract: called with what reads as args, the function comes back with d, over the new blocks h. -/
structure Does (P : Program) (g : FuncId) (args : List Dat) (d : D) (h : List HO) : Prop where
  body : Body P g
  calls : ∀ (ok : Nat → Prop) (w : World) (vs : List Value), (∀ B, ok B → B < w.heap.size) → vs.length = args.length → (∀ j e, args[j]? = some e → DatR ok w e (vs.getD j undef)) →
    Calls P g vs.toArray w (Ret (fun B => ok B ∨ w.heap.size ≤ B) w d h)

theorem run_callFunc {g : FuncId} (h : Body P g) (args : Array Value) (w : World) : (callFunc g args).run P w = .ok (.enter g args) w := by
  obtain ⟨fn, c, h1, h2, h3⟩ := h
  have h3' : ¬ fn.name = "runtime.NumGoroutine" := by simpa using h3
  simp [callFunc, h1, h2, h3']

/-- The names of what has come back, behind one's own. -/
def sh (k : Nat) : Nat → Option Nat := fun b => some (b + k)
def both (ι ι1 : Nat → Loc) (k : Nat) : Nat → Loc := fun b => if b < k then ι b else ι1 (b - k)
def shHp (k : Nat) : List HO → Option (List (Nat × HO))
  | [] => some []
  | o :: r => match mpO (sh k) o, shHp (k) r with
    | some o', some l => some ((0, o') :: l)
    | _, _ => none
def mpH (ρ : Nat → Option Nat) : List HO → Option (List HO)
  | [] => some []
  | o :: r => match mpO ρ o, mpH ρ r with
    | some o', some l => some (o' :: l)
    | _, _ => none
theorem mpH_spec {ρ : Nat → Option Nat} : ∀ {l l' : List HO}, mpH ρ l = some l' → l'.length = l.length ∧ ∀ (j : Nat) (o' : HO), l'[j]? = some o' → ∃ o, l[j]? = some o ∧ mpO ρ o = some o'
  | [], l', h => by simp only [mpH, Option.some.injEq] at h; subst h; exact ⟨rfl, fun j d' h => by simp at h⟩
  | d :: r, l', h => by
    simp only [mpH] at h
    split at h
    · rename_i d1 r1 h1 h2
      injection h with h
      subst h
      obtain ⟨i1, i2⟩ := mpH_spec h2
      refine ⟨by simp [i1], fun j d' hj => ?_⟩
      cases j with
      | zero => simp at hj; subst hj; exact ⟨d, rfl, h1⟩
      | succ j => simpa using i2 j d' (by simpa using hj)
    · cases h

theorem lk_app {α : Type} (x : Nat) : ∀ (l r : List (Nat × α)), lk x (l ++ r) = match lk x l with | some a => some a | none => lk x r
  | [], r => rfl
  | (k, a) :: l, r => by
    simp only [List.cons_append, lk]
    split
    · rfl
    · exact lk_app x l r

/-- BEHIND A CALL. Go: the ground of the call; what is ok there is ok here. -/
theorem Rel.back (h : Rel β ι s a w N) {G1 : Nat → Prop} {d d' : D} {hs hs' : List HO} {v : Value} {ι1 : Nat → Loc} (hb : Below w.heap.size w w') (hH : RelH G1 (w.heap.size ≤ ·) ι1 (enum 0 hs) hs.length w') (hd : RelD G1 ι1 hs.length w' d v)
    (hG : ∀ B, G1 B → okB G1 ι1 w' B → okB β.G ι w B ∨ w.heap.size ≤ B) (hm : mp (sh s.nx) d = some d') (hmh : mpH (sh s.nx) hs = some hs') :
    Rel β (both ι ι1 s.nx) { s with hp := enum s.nx hs' ++ s.hp, nx := s.nx + hs.length } a w' N ∧ RelD β.G (both ι ι1 s.nx) (s.nx + hs.length) w' d' v := by
  obtain ⟨m1, m2⟩ := mpH_spec hmh
  have hlo : ∀ b, b < s.nx → both ι ι1 s.nx b = ι b := fun b hb => by simp [both, hb]
  have hhi : ∀ b, s.nx ≤ b → both ι ι1 s.nx b = ι1 (b - s.nx) := fun b hb => by simp [both]; omega
  have hdead1 : ∀ b, hs.length ≤ b → ι1 b = .dead := fun b hb => hH.dead b (hH.fresh b hb)
  have f : Fr β.G ι s.nx w (both ι ι1 s.nx) (s.nx + hs.length) w' := by
    refine ⟨Nat.le_add_right _ _, fun B hB => ⟨⟨⟨Nat.lt_of_lt_of_le hB.1.1 hb.size, hB.1.2⟩, fun b hbB => ?_⟩, hb.block B hB.1.1⟩, fun b hbl => .inr ⟨hlo b hbl, fun B hB C t hC => ⟨C, (hb.block B (h.inside b B hB).1).trans hC, rfl⟩⟩⟩
    rcases Nat.lt_or_ge b s.nx with h1 | h1
    · rw [hlo b h1] at hbB; exact hB.2 b hbB
    · rw [hhi b h1] at hbB
      have := (hH.inside _ B hbB).1
      have := hB.1.1
      omega
  have r : Ren (sh s.nx) G1 ι1 hs.length β.G (both ι ι1 s.nx) (s.nx + hs.length) w' := by
    refine ⟨fun B hB => ?_, fun b b' hbl hbb => ?_⟩
    · rcases hG B hB.1.2 hB with h1 | h1
      · exact (f.ok B h1).1
      · refine ⟨⟨hB.1.1, ⟨h.gr B (.inr h1), (h.out h1).2⟩⟩, fun b hbB => ?_⟩
        rcases Nat.lt_or_ge b s.nx with h2 | h2
        · rw [hlo b h2] at hbB
          have := (h.inside b B hbB).1
          omega
        · rw [hhi b h2] at hbB
          exact hB.2 _ hbB
    · simp only [sh, Option.some.injEq] at hbb
      subst hbb
      refine ⟨by omega, ?_⟩
      rw [hhi _ (by omega)]
      simp
  refine ⟨h.go f (Go.below hb) (fun x o hx => ?_) (fun x B hx => ?_) (fun x y B hx hy => ?_) (fun x hx => ?_) (fun x hx => ?_), r.relD hd hm⟩
  · rw [lk_app, lk_enum] at hx
    by_cases h1 : s.nx ≤ x
    · rw [if_pos h1] at hx
      cases hq : hs'[x - s.nx]? with
      | none =>
        rw [hq] at hx
        simp only [h.fresh x h1] at hx
        cases hx
      | some o' =>
        rw [hq] at hx
        simp only [Option.some.injEq] at hx
        subst hx
        obtain ⟨o1, ho1, hm1⟩ := m2 _ _ hq
        exact r.relO (hH.heap (x - s.nx) o1 (by rw [lk_enum]; simpa using ho1)) (by rw [hhi x h1]) hm1
    · rw [if_neg h1] at hx
      simp only at hx
      exact f.relO (h.heap x o hx) (hlo x (by omega)) (fun B hB => hb.block B (h.inside x B hB).1)
  · rcases Nat.lt_or_ge x s.nx with h1 | h1
    · rw [hlo x h1] at hx
      have := h.inside x B hx
      exact ⟨Nat.lt_of_lt_of_le this.1 hb.size, .inl ⟨x, hx⟩⟩
    · rw [hhi x h1] at hx
      have := hH.inside _ B hx
      exact ⟨this.2, .inr this.1⟩
  · rcases Nat.lt_or_ge x s.nx with h1 | h1
    · rw [hlo x h1] at hx
      rcases Nat.lt_or_ge y s.nx with h2 | h2
      · rw [hlo y h2] at hy
        exact h.inj x y B hx hy
      · rw [hhi y h2] at hy
        have := (h.inside x B hx).1
        have := (hH.inside _ B hy).1
        omega
    · rw [hhi x h1] at hx
      rcases Nat.lt_or_ge y s.nx with h2 | h2
      · rw [hlo y h2] at hy
        have := (h.inside y B hy).1
        have := (hH.inside _ B hx).1
        omega
      · rw [hhi y h2] at hy
        have := hH.inj _ _ B hx hy
        omega
  · rw [lk_app, lk_enum] at hx
    rcases Nat.lt_or_ge x s.nx with h1 | h1
    · rw [hlo x h1]
      rw [if_neg (by omega)] at hx
      exact h.dead x hx
    · rw [hhi x h1]
      rw [if_pos h1] at hx
      cases hq : hs'[x - s.nx]? with
      | some o' => rw [hq] at hx; cases hx
      | none =>
        refine hdead1 _ ?_
        have := List.getElem?_eq_none_iff.1 hq
        omega
  · rw [lk_app, lk_enum, if_pos (by omega)]
    rw [List.getElem?_eq_none (by omega)]
    exact h.fresh x (by omega)

/-! ### Arguments -/
def datOf : D → Option Dat
  | .dat d => some d
  | _ => none
/-- Lent: seen as data for the time of a call. -/
def lend (s : S) (d : D) : Option Dat := (give 40 d s.hp).map (·.1)
def lendL (s : S) : List D → Option (List Dat)
  | [] => some []
  | d :: r => match lend s d, lendL s r with
    | some e, some l => some (e :: l)
    | _, _ => none
def datL : List D → Option (List Dat)
  | [] => some []
  | d :: r => match datOf d, datL r with
    | some e, some l => some (e :: l)
    | _, _ => none
theorem lend_rel (h : Rel β ι s a w N) {d : D} {v : Value} {e : Dat} (hd : RelD β.G ι s.nx w d v) (he : lend s d = some e) : DatR (fun B => B < w.heap.size ∧ β.F B = none) w e v := by
  simp only [lend, Option.map_eq_some_iff] at he
  obtain ⟨⟨e', hp'⟩, hg, rfl⟩ := he
  obtain ⟨ι', _, _, hD⟩ := h.give hd hg
  exact hD.mono (fun B hB => ⟨hB.1.1, hB.1.2.2.1⟩) (fun _ _ => rfl)
theorem lendL_rel (h : Rel β ι s a w N) : ∀ {l : List D} {vs : List Value} {es : List Dat}, (∀ j d, l[j]? = some d → RelD β.G ι s.nx w d (vs.getD j undef)) → lendL s l = some es → es.length = l.length ∧ ∀ j e, es[j]? = some e → DatR (fun B => B < w.heap.size ∧ β.F B = none) w e (vs.getD j undef)
  | [], vs, es, hU, h1 => by simp only [lendL, Option.some.injEq] at h1; subst h1; exact ⟨rfl, fun j e hj => by simp at hj⟩
  | d :: r, vs, es, hU, h1 => by
    simp only [lendL] at h1
    split at h1
    · rename_i e l he hl
      injection h1 with h1
      subst h1
      obtain ⟨i1, i2⟩ := lendL_rel h (vs := vs.tail) (fun j d' hj => by
        have := hU (j + 1) d' (by simpa using hj)
        cases vs <;> simpa using this) hl
      refine ⟨by simp [i1], fun j e' hj => ?_⟩
      cases j with
      | zero => simp at hj; subst hj; exact lend_rel h (hU 0 d rfl) he
      | succ j =>
        have := i2 j e' (by simpa using hj)
        cases vs <;> simpa using this
    · cases h1
theorem datL_rel {nx : Nat} : ∀ {l : List D} {vs : List Value} {es : List Dat}, (∀ j d, l[j]? = some d → RelD G ι nx w d (vs.getD j undef)) → datL l = some es → es.length = l.length ∧ ∀ j e, es[j]? = some e → DatR (okB G ι w) w e (vs.getD j undef)
  | [], vs, es, hU, h1 => by simp only [datL, Option.some.injEq] at h1; subst h1; exact ⟨rfl, fun j e hj => by simp at hj⟩
  | d :: r, vs, es, hU, h1 => by
    simp only [datL] at h1
    split at h1
    · rename_i e l he hl
      injection h1 with h1
      subst h1
      obtain ⟨i1, i2⟩ := datL_rel (vs := vs.tail) (fun j d' hj => by
        have := hU (j + 1) d' (by simpa using hj)
        cases vs <;> simpa using this) hl
      refine ⟨by simp [i1], fun j e' hj => ?_⟩
      cases j with
      | zero =>
        simp at hj
        subst hj
        cases d with
        | dat d =>
          simp only [datOf, Option.some.injEq] at he
          subst he
          obtain ⟨h⟩ := hU 0 _ rfl
          exact h
        | _ => simp [datOf] at he
      | succ j =>
        have := i2 j e' (by simpa using hj)
        cases vs <;> simpa using this
    · cases h1

/-- A result that holds no memory. -/
def flat : D → Bool
  | .dat (.val _) => true
  | .tup ds => ds.all fun d => match d with | .dat (.val _) => true | _ => false
  | _ => false
theorem flat_rel {G' : Nat → Prop} {nx nx' : Nat} {ι' : Nat → Loc} {d : D} {v : Value} {w' : World} (hf : flat d = true) (h : RelD G ι nx w d v) : RelD G' ι' nx' w' d v := by
  cases d with
  | dat d =>
    cases d with
    | val u => obtain ⟨h⟩ := h; cases h; exact .dat (.val _)
    | _ => simp [flat] at hf
  | tup ds =>
    cases h with
    | tup _ vs hl hU =>
      refine .tup ds vs hl (fun j d hj => ?_)
      have := (List.all_eq_true.1 (by simpa [flat] using hf)) d (List.mem_of_getElem? hj)
      have hr := hU j d hj
      generalize vs.getD j undef = u at hr
      cases d with
      | dat d =>
        cases d with
        | val u => obtain ⟨hr⟩ := hr; cases hr; exact .dat (.val _)
        | _ => simp at this
      | _ => simp at this
  | _ => simp [flat] at hf

/-! ### The operations together -/
inductive Out where
  | ok (d : D) (s : S)
  | call (g : FuncId) (args : List D)
  | yield (l : Nat) (args : List D)
  | nilq (q1 q2 neg : Bool)
  | stuck
def ofD (s : S) : Option D → Out
  | some d => .ok d s
  | none => .stuck
def ofP : Option (D × S) → Out
  | some (d, s) => .ok d s
  | none => .stuck
def aop (P : Program) (o : Op) (s : S) : Out := match o with
  | .move x => .ok (ev s x) s
  | .assign x => .ok (ev s x) s
  | .pick c x y => match asB (ev s c) with
    | some q => .ok (aPick q (ev s x) (ev s y)) s
    | none => .stuck
  | .alloc t => ofP (aAlloc P s t)
  | .box t x => ofP (aBox P s t (ev s x))
  | .build t ps => ofD s (aBuild P s t ps.toList)
  | .buildSlice t n ps => ofP (aBuildSlice P s t n ps.toList)
  | .load t x => ofD s (aLoad P s t (ev s x))
  | .store t x y => match aStore P s t (ev s x) (ev s y) with
    | some s' => .ok .bad s'
    | none => .stuck
  | .nilCheck x => ofD s (aNil s (ev s x))
  | .binOp op t x y _ => match aBin P op t (ev s x) (ev s y) with
    | some d => .ok d s
    | none => match op, aNilq P t (ev s x) (ev s y) with
      | .eql, some (q1, q2) => .nilq q1 q2 false
      | .neq, some (q1, q2) => .nilq q1 q2 true
      | _, _ => .stuck
  | .unOp op _ x => ofD s (aUn op (ev s x))
  | .convert src dst x => if (infoOf P src).isSome then ofD s (aConv P dst (ev s x)) else .stuck
  | .makeFunc (.func g) first caps => if first.isEmpty then .ok (.fn g (caps.toList.map (ev s))) s else .stuck
  | .slice t x lo hi none => ofD s (aSlice P s t (ev s x) (lo.map (ev s)) (hi.map (ev s)))
  | .fieldAddr t x f => ofD s (aField P s t f (ev s x))
  | .indexAddr t x i => ofD s (aIndex P s t (ev s x) (ev s i))
  | .extract x i => ofD s (aExt (ev s x) i)
  | .call { callee := .builtin .append, args := args, argTypes := ts } => match args.toList, ts.toList with
    | [x, y], [t, t'] => if t = t' then ofP (aAppend P s t (ev s x) (ev s y)) else ofP (aMore P s t t' (ev s x) (ev s y))
    | _, _ => .stuck
  | .call { callee := .builtin .len, args := args, argTypes := ts } => match args.toList, ts.toList with
    | [x], [t] => match aLen P s t (ev s x) with
      | some d => .ok d s
      | none => ofD s (aMapLen P s t (ev s x))
    | _, _ => .stuck
  | .call { callee := .builtin .cap, args := args, argTypes := ts } => match args.toList, ts.toList with
    | [x], [t] => ofD s (aCap P t (ev s x))
    | _, _ => .stuck
  | .call { callee := .value f, args := args, argTypes := _ } => match ev s f with
    | .fn g caps => .call g (args.toList.map (ev s) ++ caps)
    | .dat (.fn g caps) => .call g (args.toList.map (ev s) ++ caps.map .dat)
    | .dat (.val (.func (.yield l) first caps)) => if first.isEmpty && caps.isEmpty then .yield l (args.toList.map (ev s)) else .stuck
    | _ => .stuck
  | .makeMap t none => ofP (some (aMakeMap s))
  | .lookup t x k c => ofD s (aLookup P s t (ev s x) (ev s k) c)
  | .mapUpdate t m k v => match aMapUpd P s t (ev s m) (ev s k) (ev s v) with
    | some s' => .ok .bad s'
    | none => .stuck
  | .makeSlice t x y => ofP (aMakeSlice P s t (ev s x) (ev s y))
  | .makeInterface t x => ofD s (aIface P t (ev s x))
  | _ => .stuck

theorem aop_ok (h : Rel β ι s a w N) {o : Oper} {d : D} (ho : aop P o.op s = .ok d s') : Good β P o a w N d s' := by
  have oD : ∀ {x : Option D}, ofD s x = .ok d s' → x = some d ∧ s' = s := by
    intro x hx
    cases x with
    | none => cases hx
    | some e => simp only [ofD, Out.ok.injEq] at hx; exact ⟨by rw [hx.1], hx.2.symm⟩
  have oP : ∀ {x : Option (D × S)}, ofP x = .ok d s' → x = some (d, s') := by
    intro x hx
    cases x with
    | none => cases hx
    | some e => obtain ⟨e1, e2⟩ := e; simp only [ofP, Out.ok.injEq] at hx; rw [hx.1, hx.2]
  generalize hop : o.op = op at ho
  unfold aop at ho
  split at ho
  · simp only [Out.ok.injEq] at ho; obtain ⟨rfl, rfl⟩ := ho; exact ok_move h (.inl hop)
  · simp only [Out.ok.injEq] at ho; obtain ⟨rfl, rfl⟩ := ho; exact ok_move h (.inr hop)
  · split at ho
    · rename_i q hq
      simp only [Out.ok.injEq] at ho; obtain ⟨rfl, rfl⟩ := ho; exact ok_pick h hop hq
    · cases ho
  · exact ok_alloc h hop (oP ho)
  · exact ok_box h hop (oP ho)
  · obtain ⟨h1, rfl⟩ := oD ho; exact ok_build h hop h1
  · exact ok_buildSlice h hop (oP ho)
  · obtain ⟨h1, rfl⟩ := oD ho; exact ok_load h hop h1
  · split at ho
    · rename_i s1 hs1
      simp only [Out.ok.injEq] at ho; obtain ⟨rfl, rfl⟩ := ho; exact ok_store h hop hs1
    · cases ho
  · obtain ⟨h1, rfl⟩ := oD ho; exact ok_nil h hop h1
  · split at ho
    · rename_i d1 hd1
      simp only [Out.ok.injEq] at ho
      obtain ⟨rfl, rfl⟩ := ho
      exact ok_bin h hop hd1
    · split at ho <;> cases ho
  · obtain ⟨h1, rfl⟩ := oD ho; exact ok_un h hop h1
  · split at ho
    · rename_i hi
      obtain ⟨si, hsi⟩ := Option.isSome_iff_exists.1 hi
      obtain ⟨h1, rfl⟩ := oD ho; exact ok_conv h hop hsi h1
    · cases ho
  · rename_i g first caps
    split at ho
    · rename_i he
      have he' : first = #[] := by simpa using he
      subst he'
      simp only [Out.ok.injEq] at ho; obtain ⟨rfl, rfl⟩ := ho; exact ok_func h hop
    · cases ho
  · obtain ⟨h1, rfl⟩ := oD ho; exact ok_slice h hop h1
  · obtain ⟨h1, rfl⟩ := oD ho; exact ok_field h hop h1
  · obtain ⟨h1, rfl⟩ := oD ho; exact ok_index h hop h1
  · obtain ⟨h1, rfl⟩ := oD ho; exact ok_ext h hop h1
  · rename_i args ts
    split at ho
    · rename_i x y t t' h1 h2
      split at ho
      · rename_i e
        subst e
        have e1 : args = #[x, y] := Array.toList_inj.1 h1
        have e2 : ts = #[t, t] := Array.toList_inj.1 h2
        subst e1; subst e2
        exact ok_append h hop (oP ho)
      · have e1 : args = #[x, y] := Array.toList_inj.1 h1
        have e2 : ts = #[t, t'] := Array.toList_inj.1 h2
        subst e1; subst e2
        exact ok_more h hop (oP ho)
    · cases ho
  · rename_i args ts
    split at ho
    · rename_i x t h1 h2
      have e1 : args = #[x] := Array.toList_inj.1 h1
      have e2 : ts = #[t] := Array.toList_inj.1 h2
      subst e1; subst e2
      split at ho
      · rename_i d1 hd1
        simp only [Out.ok.injEq] at ho
        obtain ⟨rfl, rfl⟩ := ho
        exact ok_len h hop hd1
      · obtain ⟨h3, rfl⟩ := oD ho
        exact ok_mapLen h hop h3
    · cases ho
  · rename_i args ts
    split at ho
    · rename_i x t h1 h2
      have e1 : args = #[x] := Array.toList_inj.1 h1
      have e2 : ts = #[t] := Array.toList_inj.1 h2
      subst e1; subst e2
      obtain ⟨h3, rfl⟩ := oD ho
      exact ok_cap h hop h3
    · cases ho
  · split at ho
    · cases ho
    · cases ho
    · split at ho <;> cases ho
    · cases ho
  · exact ok_makeMap h hop (Option.some.inj (oP ho))
  · obtain ⟨h1, rfl⟩ := oD ho; exact ok_lookup h hop h1
  · split at ho
    · rename_i s1 hs1
      simp only [Out.ok.injEq] at ho; obtain ⟨rfl, rfl⟩ := ho; exact ok_mapUpd h hop hs1
    · cases ho
  · exact ok_makeSlice h hop (oP ho)
  · obtain ⟨h1, rfl⟩ := oD ho; exact ok_iface h hop h1
  · cases ho

theorem aop_call (h : Rel β ι s a w N) {o : Oper} {g : FuncId} {args : List D} (ho : aop P o.op s = .call g args) (hb : Body P g) :
    ∃ vs : List Value, vs.length = args.length ∧ (∀ j d, args[j]? = some d → RelD β.G ι s.nx w d (vs.getD j undef)) ∧ (execOp a.eval o).run P w = .ok (.enter g vs.toArray) w := by
  have nD : ∀ {x : Option D}, ofD s x ≠ .call g args := by intro x hx; cases x <;> cases hx
  have nP : ∀ {x : Option (D × S)}, ofP x ≠ .call g args := by intro x hx; cases x <;> cases hx
  generalize hop : o.op = op at ho
  unfold aop at ho
  split at ho
  all_goals first
    | (cases ho; done)
    | exact absurd ho nD
    | exact absurd ho nP
    | (split at ho <;> first | (cases ho; done) | exact absurd ho nD | exact absurd ho nP | (split at ho <;> first | (cases ho; done) | exact absurd ho nD | exact absurd ho nP))
    | skip
  · rename_i f oargs ats
    have hf := ev_rel h f
    have fin : ∀ (caps : List D) (vs : List Value), vs.length = caps.length → (∀ j d, caps[j]? = some d → RelD β.G ι s.nx w d (vs.getD j undef)) → a.eval f = .func (.func g) #[] vs.toArray → args = oargs.toList.map (ev s) ++ caps →
        ∃ vs : List Value, vs.length = args.length ∧ (∀ j d, args[j]? = some d → RelD β.G ι s.nx w d (vs.getD j undef)) ∧ (execOp a.eval o).run P w = .ok (.enter g vs.toArray) w := by
      intro caps vs hl hU he hargs
      subst hargs
      refine ⟨oargs.toList.map a.eval ++ vs, by simp [hl], fun j d hj => ?_, ?_⟩
      · by_cases hjl : j < oargs.size
        · rw [List.getElem?_append_left (by simpa using hjl)] at hj
          rw [getD_get?, List.getElem?_append_left (by simpa using hjl)]
          simp only [List.getElem?_map, Option.map_eq_some_iff] at hj ⊢
          obtain ⟨y, hy, rfl⟩ := hj
          rw [hy]
          exact ev_rel h y
        · rw [List.getElem?_append_right (by simp; omega)] at hj
          rw [getD_get?, List.getElem?_append_right (by simp; omega), ← getD_get?]
          simpa using hU _ d (by simpa using hj)
      · unfold execOp
        simp only [hop, resolve, Deferred.ofValue, he, Sem.run_bind, Sem.run_pure, Result.andThen_ok, invoke]
        have e : (#[] ++ oargs.map a.eval ++ vs.toArray : Array Value) = (oargs.toList.map a.eval ++ vs).toArray := by
          apply Array.toList_inj.1
          simp
        rw [e]
        exact run_callFunc hb _ w
    split at ho
    · rename_i g' caps hfe
      simp only [Out.call.injEq] at ho
      obtain ⟨rfl, rfl⟩ := ho
      rw [hfe] at hf
      generalize hv : a.eval f = v at hf fin
      cases hf with
      | fn _ _ vs hl hU => exact fin caps vs hl hU rfl rfl
    · rename_i g' caps hfe
      simp only [Out.call.injEq] at ho
      obtain ⟨rfl, rfl⟩ := ho
      rw [hfe] at hf
      obtain ⟨hf⟩ := hf
      generalize hv : a.eval f = v at hf fin
      cases hf with
      | fn _ _ vs hl hU => exact fin (caps.map .dat) vs (by simpa using hl) (fun j d hj => by
          simp only [List.getElem?_map, Option.map_eq_some_iff] at hj
          obtain ⟨e, he, rfl⟩ := hj
          exact .dat (hU j e he)) rfl rfl
    · split at ho <;> cases ho
    · cases ho

theorem aop_yield (h : Rel β ι s a w N) {o : Oper} {l : Nat} {args : List D} (ho : aop P o.op s = .yield l args) :
    ∃ vs : List Value, vs.length = args.length ∧ (∀ j d, args[j]? = some d → RelD β.G ι s.nx w d (vs.getD j undef)) ∧ (execOp a.eval o).run P w = (Instr.yield l vs.toArray).run P w := by
  have nD : ∀ {x : Option D}, ofD s x ≠ .yield l args := by intro x hx; cases x <;> cases hx
  have nP : ∀ {x : Option (D × S)}, ofP x ≠ .yield l args := by intro x hx; cases x <;> cases hx
  generalize hop : o.op = op at ho
  unfold aop at ho
  split at ho
  all_goals first
    | (cases ho; done)
    | exact absurd ho nD
    | exact absurd ho nP
    | (split at ho <;> first | (cases ho; done) | exact absurd ho nD | exact absurd ho nP | (split at ho <;> first | (cases ho; done) | exact absurd ho nD | exact absurd ho nP))
    | skip
  · rename_i f oargs ats
    have hf := ev_rel h f
    split at ho
    · cases ho
    · cases ho
    · rename_i l' first caps hfe
      split at ho
      · rename_i hc
        simp only [Bool.and_eq_true, Array.isEmpty_iff] at hc
        obtain ⟨rfl, rfl⟩ := hc
        simp only [Out.yield.injEq] at ho
        obtain ⟨rfl, rfl⟩ := ho
        rw [hfe] at hf
        have hv := val_eq hf
        refine ⟨oargs.toList.map a.eval, by simp, fun j d hj => ?_, ?_⟩
        · simp only [List.getElem?_map, Option.map_eq_some_iff] at hj
          obtain ⟨y, hy, rfl⟩ := hj
          rw [getD_get?, List.getElem?_map, hy]
          exact ev_rel h y
        · unfold execOp
          simp only [hop, resolve, Deferred.ofValue, hv, Sem.run_bind, Sem.run_pure, Result.andThen_ok, invoke]
          congr 2
          apply Array.toList_inj.1
          simp
      · cases ho
    · cases ho

/-- An operation touches nothing of the state but the heap and the next name. -/
theorem aop_keeps {op : Op} {d : D} (h : aop P op s = .ok d s') : s'.sl = s.sl ∧ s'.gh = s.gh ∧ s'.st = s.st := by
  have oD : ∀ {x : Option D}, ofD s x = .ok d s' → s' = s := by
    intro x hx
    cases x with
    | none => cases hx
    | some e => simp only [ofD, Out.ok.injEq] at hx; exact hx.2.symm
  have fD : ∀ {x : Option D}, ofD s x = .ok d s' → s'.sl = s.sl ∧ s'.gh = s.gh ∧ s'.st = s.st := fun hx => by rw [oD hx]; exact ⟨rfl, rfl, rfl⟩
  have oP : ∀ {x : Option (D × S)}, (∀ d1 s1, x = some (d1, s1) → s1.sl = s.sl ∧ s1.gh = s.gh ∧ s1.st = s.st) → ofP x = .ok d s' → s'.sl = s.sl ∧ s'.gh = s.gh ∧ s'.st = s.st := by
    intro x hk hx
    cases x with
    | none => cases hx
    | some e => obtain ⟨e1, e2⟩ := e; simp only [ofP, Out.ok.injEq] at hx; rw [← hx.2]; exact hk e1 e2 rfl
  have oS : ∀ {x : Option S}, (∀ s1, x = some s1 → s1.sl = s.sl ∧ s1.gh = s.gh ∧ s1.st = s.st) → (match x with | some s1 => Out.ok .bad s1 | none => .stuck) = .ok d s' → s'.sl = s.sl ∧ s'.gh = s.gh ∧ s'.st = s.st := by
    intro x hk hx
    cases x with
    | none => cases hx
    | some e => simp only [Out.ok.injEq] at hx; rw [← hx.2]; exact hk e rfl
  have newK : ∀ {t : TypeId} {cs : List D} d1 s1, aNew P s t cs = some (d1, s1) → s1.sl = s.sl ∧ s1.gh = s.gh ∧ s1.st = s.st := by
    intro t cs d1 s1 hx
    unfold aNew at hx
    split at hx
    · split at hx
      · split at hx
        · split at hx
          · simp only [Option.some.injEq, Prod.mk.injEq] at hx; rw [← hx.2]; exact ⟨rfl, rfl, rfl⟩
          · cases hx
        · cases hx
      · simp only [Option.some.injEq, Prod.mk.injEq] at hx; rw [← hx.2]; exact ⟨rfl, rfl, rfl⟩
    · cases hx
  have appK : ∀ {s0 : S} {e : TypeId} {b len : Nat} {y : D} d1 s1, aAppendOwn P s0 e b len y = some (d1, s1) → s1.sl = s0.sl ∧ s1.gh = s0.gh ∧ s1.st = s0.st := by
    intro s0 e b len y d1 s1 hx
    unfold aAppendOwn at hx
    split at hx
    · split at hx
      · split at hx
        · simp only [Option.some.injEq, Prod.mk.injEq] at hx; rw [← hx.2]; exact ⟨rfl, rfl, rfl⟩
        · cases hx
      · cases hx
    · cases hx
  unfold aop at h
  split at h
  · simp only [Out.ok.injEq] at h; rw [← h.2]; exact ⟨rfl, rfl, rfl⟩
  · simp only [Out.ok.injEq] at h; rw [← h.2]; exact ⟨rfl, rfl, rfl⟩
  · split at h
    · simp only [Out.ok.injEq] at h; rw [← h.2]; exact ⟨rfl, rfl, rfl⟩
    · cases h
  · refine oP (fun d1 s1 hx => ?_) h
    unfold aAlloc at hx
    split at hx
    · split at hx
      · exact newK _ _ hx
      · cases hx
    · cases hx
  · refine oP (fun d1 s1 hx => ?_) h
    unfold aBox at hx
    split at hx
    · exact newK _ _ hx
    · cases hx
  · exact fD h
  · refine oP (fun d1 s1 hx => ?_) h
    unfold aBuildSlice at hx
    split at hx
    · split at hx
      · split at hx
        · split at hx
          · split at hx
            · split at hx
              · simp only [Option.some.injEq, Prod.mk.injEq] at hx; rw [← hx.2]; exact ⟨rfl, rfl, rfl⟩
              · cases hx
            · cases hx
          · cases hx
        · cases hx
      · cases hx
    · cases hx
  · exact fD h
  · refine oS (fun s1 hx => ?_) h
    unfold aStore at hx
    split at hx
    · rename_i s2 hs2
      injection hx with hx
      subst hx
      unfold aStore0 at hs2
      repeat' split at hs2
      all_goals first
        | (cases hs2; done)
        | (injection hs2 with hs2; rw [← hs2]; exact ⟨rfl, rfl, rfl⟩)
    · unfold aStoreArr at hx
      repeat' split at hx
      all_goals first
        | (cases hx; done)
        | (injection hx with hx; rw [← hx]; exact ⟨rfl, rfl, rfl⟩)
  · exact fD h
  · split at h
    · simp only [Out.ok.injEq] at h; rw [← h.2]; exact ⟨rfl, rfl, rfl⟩
    · split at h <;> cases h
  · exact fD h
  · split at h
    · exact fD h
    · cases h
  · split at h
    · simp only [Out.ok.injEq] at h; rw [← h.2]; exact ⟨rfl, rfl, rfl⟩
    · cases h
  · exact fD h
  · exact fD h
  · exact fD h
  · exact fD h
  · split at h
    · split at h
      · refine oP (fun d1 s1 hx => ?_) h
        unfold aAppend at hx
        split at hx
        · split at hx
          · split at hx
            · split at hx
              · exact appK _ _ hx
              · cases hx
            · have hk := @appK _ _ _ _ _ _ _ hx
              exact hk
            · cases hx
          · cases hx
        · cases hx
      · refine oP (fun d1 s1 hx => ?_) h
        unfold aMore at hx
        repeat' split at hx
        all_goals first
          | (cases hx; done)
          | (simp only [Option.some.injEq, Prod.mk.injEq] at hx; rw [← hx.2]; exact ⟨rfl, rfl, rfl⟩)
    · cases h
  · split at h
    · split at h
      · simp only [Out.ok.injEq] at h; rw [← h.2]; exact ⟨rfl, rfl, rfl⟩
      · exact fD h
    · cases h
  · split at h
    · exact fD h
    · cases h
  · split at h
    · cases h
    · cases h
    · split at h <;> cases h
    · cases h
  · refine oP (fun d1 s1 hx => ?_) h
    simp only [aMakeMap, Option.some.injEq, Prod.mk.injEq] at hx
    rw [← hx.2]
    exact ⟨rfl, rfl, rfl⟩
  · exact fD h
  · refine oS (fun s1 hx => ?_) h
    unfold aMapUpd at hx
    repeat' split at hx
    all_goals first
      | (cases hx; done)
      | (injection hx with hx; rw [← hx]; exact ⟨rfl, rfl, rfl⟩)
  · refine oP (fun d1 s1 hx => ?_) h
    unfold aMakeSlice at hx
    repeat' split at hx
    all_goals first
      | (cases hx; done)
      | (simp only [Option.some.injEq, Prod.mk.injEq] at hx; rw [← hx.2]; exact ⟨rfl, rfl, rfl⟩)
  · exact fD h
  · cases h

theorem aop_nilq (h : Rel β ι s a w N) {o : Oper} {q1 q2 neg : Bool} (ho : aop P o.op s = .nilq q1 q2 neg) :
    ∃ q : Bool, ((q = true ∧ q1 = true) ∨ (q = false ∧ q2 = true)) ∧ Good β P o a w N (.dat (.val (.bool (if neg then !q else q)))) s := by
  have nD : ∀ {x : Option D}, ofD s x ≠ .nilq q1 q2 neg := by intro x hx; cases x <;> cases hx
  have nP : ∀ {x : Option (D × S)}, ofP x ≠ .nilq q1 q2 neg := by intro x hx; cases x <;> cases hx
  generalize hop : o.op = op at ho
  unfold aop at ho
  split at ho
  case h_11 =>
    split at ho
    · cases ho
    · split at ho
      · rename_i q1' q2' hq _
        simp only [Out.nilq.injEq] at ho
        obtain ⟨rfl, rfl, rfl⟩ := ho
        obtain ⟨q, h1, h2⟩ := ok_nilq h hop (.inl rfl) hq
        exact ⟨q, h1, by simpa using h2⟩
      · rename_i q1' q2' hq _
        simp only [Out.nilq.injEq] at ho
        obtain ⟨rfl, rfl, rfl⟩ := ho
        obtain ⟨q, h1, h2⟩ := ok_nilq h hop (.inr rfl) hq
        exact ⟨q, h1, by simpa using h2⟩
      · cases ho
  all_goals first
    | (cases ho; done)
    | exact absurd ho nD
    | exact absurd ho nP
    | (split at ho <;> first | (cases ho; done) | exact absurd ho nD | exact absurd ho nP | (split at ho <;> first | (cases ho; done) | exact absurd ho nD | exact absurd ho nP))

end Go.Proofs.Ytbkkekbeaabokaa.Sx
