/- Sy, part G: numbers, strings, bools, equality of structs; lengths, cuts, function values, results. -/
import Derived.Test.YtbkkekbeaabokaaSyF
import Derived.Laws.Slices
import Derived.IntWalk
set_option linter.unusedVariables false
set_option linter.unusedSimpArgs false
namespace Go.Proofs.Ytbkkekbeaabokaa.Sx
open Go Go.RowKit

variable {P : Program} {β : Bs} {G : Nat → Prop} {w w' : World} {ι ι' : Nat → Loc} {s s' : S} {a : Act} {N : Nat}

theorem good_of {o : Oper} {d : D} {v : Value} {x : Sem Value} (h : Rel β ι s a w N) (he : execOp a.eval o = (do pure (.value (← x)))) (hr : x.run P w = .ok v w) (hd : RelD β.G ι s.nx w d v) : Good β P o a w N d s :=
  ⟨v, w, ι, .inl (by rw [he]; exact run_value hr), h, hd⟩

theorem ok_move (h : Rel β ι s a w N) {o : Oper} {x : Operand} (ho : o.op = .move x ∨ o.op = .assign x) : Good β P o a w N (ev s x) s := by
  refine ⟨a.eval x, w, ι, .inl ?_, h, ev_rel h x⟩
  unfold execOp
  rcases ho with ho | ho <;> simp only [ho] <;> rfl

def asB : D → Option Bool
  | .dat (.val (.bool b)) => some b
  | _ => none
theorem asB_rel {d : D} {v : Value} {b : Bool} (h : RelD G ι s.nx w d v) (hb : asB d = some b) : v = .bool b := by
  unfold asB at hb
  split at hb
  · injection hb with hb; subst hb; obtain ⟨h⟩ := h; cases h; rfl
  · cases hb
def aPick (c : Bool) (x y : D) : D := match asB x, asB y with
  | some p, some q => .dat (.val (.bool (if c then p else q)))
  | _, _ => if c then x else y
theorem ok_pick (h : Rel β ι s a w N) {o : Oper} {c x y : Operand} (ho : o.op = .pick c x y) {q : Bool} (hq : asB (ev s c) = some q) : Good β P o a w N (aPick q (ev s x) (ev s y)) s := by
  have hc := asB_rel (ev_rel h c) hq
  have hx := ev_rel h x
  have hy := ev_rel h y
  refine ⟨if q then a.eval x else a.eval y, w, ι, .inl ?_, h, ?_⟩
  · unfold execOp
    simp only [ho, hc, asBool]
    cases q <;> rfl
  · unfold aPick
    split
    · rename_i p r hp hr
      have e1 := asB_rel hx hp
      have e2 := asB_rel hy hr
      rw [e1, e2]
      cases q <;> exact .dat (.val _)
    · cases q
      · simpa using hy
      · simpa using hx

/-! ### == on data -/
def eqPlain (P : Program) (t : TypeId) : Bool := !P.stoodInHeld t && !P.eqGuardType P.depth t && (P.fieldsOf t).toList.all fun f => f.name != "_"
def scEq : Value → Value → Option Bool
  | .int k a, .int k' b => if k = k' then some (a == b) else none
  | .string a, .string b => some (a == b)
  | .bool a, .bool b => some (a == b)
  | _, _ => none
mutual
def aEq (P : Program) : Nat → TypeId → List Dat → List Dat → Option Bool
  | 0, _, _, _ => none
  | n + 1, t, xs, ys => match infoOf P t with
    | some i => match i.kd, xs, ys with
      | .int _, .val (.int k a) :: _, .val (.int k' b) :: _ => if k = k' then some (a == b) else none
      | .string, .val (.string a) :: _, .val (.string b) :: _ => some (a == b)
      | .bool, .val (.bool a) :: _, .val (.bool b) :: _ => some (a == b)
      | .struct fs, xs, ys => if eqPlain P t then aEqF P n fs xs ys else none
      | _, _, _ => none
    | none => none
def aEqF (P : Program) : Nat → List (Nat × TypeId × Nat) → List Dat → List Dat → Option Bool
  | 0, _, _, _ => none
  | _ + 1, [], _, _ => some true
  | n + 1, (off, ft, sz) :: r, xs, ys => match aEq P n ft ((xs.drop off).take sz) ((ys.drop off).take sz), aEqF P n r xs ys with
    | some p, some q => some (p && q)
    | _, _ => none
end

def LikeV (xs : List Dat) (us : List Value) : Prop := ∀ (j : Nat) (v : Value), xs[j]? = some (Dat.val v) → us[j]? = some v
def valAt (i : TI) (us : List Value) : Value := if i.kd.agg then .agg us.toArray else us.headD undef
theorem LikeV.cut {xs : List Dat} {us : List Value} (h : LikeV xs us) (off sz : Nat) : LikeV ((xs.drop off).take sz) ((us.drop off).take sz) := by
  intro j v hj
  rw [List.getElem?_take] at hj ⊢
  split at hj
  · rename_i hlt
    rw [if_pos hlt, List.getElem?_drop]
    rw [List.getElem?_drop] at hj
    exact h _ v hj
  · cases hj
theorem LikeV.head {x : Value} {xs : List Dat} {us : List Value} (h : LikeV (.val x :: xs) us) : us.headD undef = x := by
  have := h 0 x rfl
  cases us with
  | nil => simp at this
  | cons u r => simpa using this

theorem equalIn_ok (w : World) : ∀ n : Nat, (∀ (t : TypeId) (i : TI) (xs ys : List Dat) (us vs : List Value) (r : Bool) (d : Nat), infoOf P t = some i → aEq P n t xs ys = some r → n ≤ d → LikeV xs us → LikeV ys vs → (Op.equalIn d t (valAt i us) (valAt i vs)).run P w = .ok r w) ∧
    (∀ (fs : List Field) (xs ys : List Dat) (us vs : List Value) (r : Bool) (d : Nat), fs.all (fun f => f.name != "_") = true → aEqF P n (fs.map fun f => (f.offset, f.type, szOf P f.type)) xs ys = some r → n ≤ d → LikeV xs us → LikeV ys vs → (Op.eqFields d us.toArray vs.toArray fs).run P w = .ok r w) := by
  intro n
  induction n with
  | zero => exact ⟨fun _ _ _ _ _ _ _ _ _ h => by simp [aEq] at h, fun _ _ _ _ _ _ _ _ h => by simp [aEqF] at h⟩
  | succ n ih =>
    obtain ⟨ih1, ih2⟩ := ih
    refine ⟨fun t i xs ys us vs r d hi he hd hx hy => ?_, fun fs xs ys us vs r d hf he hd hx hy => ?_⟩
    · obtain ⟨d, rfl⟩ : ∃ m, d = m + 1 := ⟨d - 1, by omega⟩
      simp only [aEq, hi] at he
      obtain ⟨ti, ds, z, g1, g2, g3, hk, _⟩ := infoOf_spec hi
      split at he
      · rename_i k k1 p _ k2 q _ hkk
        split at he
        · rename_i e
          subst e
          injection he with he
          subst he
          have e1 := hx.head
          have e2 := hy.head
          have hu : P.underlying t = some (.int k) := by rw [g2]; rw [hkk] at hk; cases ds <;> simp [kdOf] at hk; rw [hk]
          simp only [valAt, hkk, TK.agg, Bool.false_eq_true, if_false, e1, e2]
          simp only [Op.equalIn, Sem.run_bind, run_underlying hu, Result.andThen_ok, if_true, Sem.run_pure]
        · cases he
      · rename_i p _ q _ hkk
        injection he with he
        subst he
        have e1 := hx.head
        have e2 := hy.head
        have hu : P.underlying t = some .string := by rw [g2]; rw [hkk] at hk; cases ds <;> simp [kdOf] at hk; rfl
        simp only [valAt, hkk, TK.agg, Bool.false_eq_true, if_false, e1, e2]
        simp only [Op.equalIn, Sem.run_bind, run_underlying hu, Result.andThen_ok, Sem.run_pure]
      · rename_i p _ q _ hkk
        injection he with he
        subst he
        have e1 := hx.head
        have e2 := hy.head
        have hu : P.underlying t = some .bool := by rw [g2]; rw [hkk] at hk; cases ds <;> simp [kdOf] at hk; rfl
        simp only [valAt, hkk, TK.agg, Bool.false_eq_true, if_false, e1, e2]
        simp only [Op.equalIn, Sem.run_bind, run_underlying hu, Result.andThen_ok, Sem.run_pure]
      · rename_i fs _ _ hkk
        split at he
        · rename_i hp
          obtain ⟨F, hu, rfl⟩ := kd_struct hi hkk
          have hF : P.fieldsOf t = F := by simp [Program.fieldsOf, hu]
          simp only [eqPlain, Bool.and_eq_true, Bool.not_eq_true'] at hp
          obtain ⟨⟨hp1, _⟩, hp3⟩ := hp
          simp only [valAt, hkk, TK.agg, if_true]
          rw [run_equalIn_struct w d t _ _ (by rw [hF]; exact hu) hp1]
          rw [hF] at hp3 ⊢
          exact ih2 F.toList _ _ us vs r d hp3 he (by omega) hx hy
        · cases he
      · cases he
    · cases fs with
      | nil =>
        simp only [List.map_nil, aEqF, Option.some.injEq] at he
        subst he
        rfl
      | cons f fs =>
        simp only [List.map_cons, aEqF] at he
        split at he
        · rename_i p q hp hq
          injection he with he
          subst he
          simp only [List.all_cons, Bool.and_eq_true, bne_iff_ne, ne_eq] at hf
          cases hfi : infoOf P f.type with
          | none =>
            exfalso
            cases n with
            | zero => simp [aEq] at hp
            | succ n => simp [aEq, hfi] at hp
          | some fi =>
            have hpart : ∀ zs : List Value, (fi.kd.agg = true ∨ ∃ u, ((zs.drop f.offset).take (szOf P f.type)).head? = some u) → (part f.type zs.toArray f.offset).run P w = .ok (valAt fi ((zs.drop f.offset).take (szOf P f.type))) w := by
              intro zs hz
              unfold part
              rw [Sem.run_bind, run_isAgg' hfi]
              simp only [Result.andThen_ok]
              by_cases hg : fi.kd.agg = true
              · simp only [hg, if_true, Sem.run_bind, run_sizeOf' hfi, Result.andThen_ok, Sem.run_pure, valAt, sz_of_info hfi]
                congr 1
                simp [List.extract_toArray, List.extract_eq_take_drop]
              · simp only [hg, Bool.false_eq_true, if_false, valAt]
                obtain ⟨u, hu⟩ := hz.resolve_left hg
                have h0 := head_getD hu
                rw [List.getElem?_take] at h0
                split at h0
                · rw [List.getElem?_drop, Nat.add_zero] at h0
                  simp only [List.getElem?_toArray, h0, Sem.run_pure]
                  congr 1
                  cases hl : List.take (szOf P f.type) (List.drop f.offset zs) with
                  | nil => simp [hl] at hu
                  | cons x r => simp [hl] at hu; simp [hu]
                · cases h0
            have hhead : ∀ (xs ys : List Dat) (us : List Value), (∃ r, aEq P n f.type ((xs.drop f.offset).take (szOf P f.type)) ((ys.drop f.offset).take (szOf P f.type)) = some r ∨ aEq P n f.type ((ys.drop f.offset).take (szOf P f.type)) ((xs.drop f.offset).take (szOf P f.type)) = some r) → LikeV xs us → fi.kd.agg = true ∨ ∃ u, ((us.drop f.offset).take (szOf P f.type)).head? = some u := by
              intro xs ys us ⟨r, hr⟩ hx
              by_cases hg : fi.kd.agg = true
              · exact .inl hg
              · refine .inr ?_
                have hlv := hx.cut f.offset (szOf P f.type)
                generalize (xs.drop f.offset).take (szOf P f.type) = xs' at hr hlv
                generalize (ys.drop f.offset).take (szOf P f.type) = ys' at hr
                cases n with
                | zero => simp [aEq] at hr
                | succ n =>
                  have : ∃ v rest, xs' = .val v :: rest := by
                    rcases hr with hr | hr
                    · simp only [aEq, hfi] at hr
                      split at hr
                      · exact ⟨_, _, rfl⟩
                      · exact ⟨_, _, rfl⟩
                      · exact ⟨_, _, rfl⟩
                      · rename_i hkk; simp [hkk, TK.agg] at hg
                      · cases hr
                    · simp only [aEq, hfi] at hr
                      split at hr
                      · exact ⟨_, _, rfl⟩
                      · exact ⟨_, _, rfl⟩
                      · exact ⟨_, _, rfl⟩
                      · rename_i hkk; simp [hkk, TK.agg] at hg
                      · cases hr
                  obtain ⟨v, rest, rfl⟩ := this
                  have := hlv 0 v rfl
                  rw [← List.head?_eq_getElem?] at this
                  exact ⟨v, this⟩
            have h1 := hpart us (hhead xs ys us ⟨p, .inl hp⟩ hx)
            have h2 := hpart vs (hhead ys xs vs ⟨p, .inr hp⟩ hy)
            have h3 := ih1 f.type fi _ _ _ _ p d hfi hp (by omega) (hx.cut f.offset (szOf P f.type)) (hy.cut f.offset (szOf P f.type))
            have h4 := ih2 fs xs ys us vs q d hf.2 hq (by omega) hx hy
            simp only [Op.eqFields, ne_eq, hf.1, not_false_eq_true, if_true, Sem.run_bind, h1, h2, h3, Result.andThen_ok, Sem.run_ite, Sem.run_pure, h4]
            cases p <;> simp
        · cases he

/-! ### Two operands -/
def bop : BinOp → Value → Value → Option Value
  | op, .int k x, .int k' y => if k = k' then (match op with
    | .add => some (.int k (k.wrap (x + y)))
    | .sub => some (.int k (k.wrap (x - y)))
    | .mul => some (.int k (k.wrap (x * y)))
    | .rem => if y = 0 then none else some (.int k (x.tmod y))
    | .eql => some (.bool (x == y))
    | .neq => some (.bool (x != y))
    | .lss => some (.bool (decide (x < y)))
    | .leq => some (.bool (decide (x ≤ y)))
    | .gtr => some (.bool (decide (y < x)))
    | .geq => some (.bool (decide (y ≤ x)))
    | _ => none) else none
  | .eql, .string x, .string y => some (.bool (x == y))
  | .neq, .string x, .string y => some (.bool (!(x == y)))
  | _, _, _ => none

theorem bop_run (op : BinOp) (t : TypeId) (x y : Operand) (v u r : Value) (h : bop op v u = some r) (w : World) : (do eqGuard op t x y v u; binOp op t v u : Sem Value).run P w = .ok r w := by
  unfold bop at h
  split at h
  · rename_i k p k' q
    have hg : eqGuard op t x y (.int k p) (.int k' q) = pure () := by cases op <;> rfl
    rw [hg]
    simp only [Sem.run_bind, Sem.run_pure, Result.andThen_ok]
    split at h
    · rename_i e
      subst e
      cases op <;> simp at h <;> (try subst h)
      case rem =>
        obtain ⟨h0, rfl⟩ := h
        simp [binOp, Op.intDiv, h0]
      all_goals simp [binOp, Op.intArith, Op.intCmp]
    · cases h
  · rename_i p q
    injection h with h
    subst h
    have hg : eqGuard .eql t x y (.string p) (.string q) = pure () := rfl
    rw [hg]
    simp [binOp, Op.stringOp, beq_toListBytes]
  · rename_i p q
    injection h with h
    subst h
    have hg : eqGuard .neq t x y (.string p) (.string q) = pure () := rfl
    rw [hg]
    simp [binOp, Op.stringOp, beq_toListBytes]
  · cases h

def aBin (P : Program) (op : BinOp) (t : TypeId) (x y : D) : Option D :=
  match x, y with
  | .dat (.val v), .dat (.val u) => match bop op v u with
    | some r => some (.dat (.val r))
    | none => match op, v, u with
      | .eql, .bool p, .bool q => match infoOf P t with
        | some i => match i.kd with
          | .bool => some (.dat (.val (.bool (p == q))))
          | _ => none
        | none => none
      | .neq, .bool p, .bool q => match infoOf P t with
        | some i => match i.kd with
          | .bool => some (.dat (.val (.bool (!(p == q)))))
          | _ => none
        | none => none
      | _, _, _ => none
  | .dat (.agg xs), .dat (.agg ys) => match infoOf P t with
    | some i => if i.kd.agg && eqPlain P t then (match op, aEq P 9 t xs ys with
      | .eql, some r => some (.dat (.val (.bool r)))
      | .neq, some r => some (.dat (.val (.bool !r)))
      | _, _ => none) else none
    | none => none
  | _, _ => none

theorem kd_bool {t : TypeId} {i : TI} (hi : infoOf P t = some i) (hk : i.kd = .bool) : P.underlying t = some .bool := by
  obtain ⟨ti, d, z, _, h2, _, hk', _⟩ := infoOf_spec hi
  rw [hk'] at hk
  cases d <;> simp [kdOf] at hk
  exact h2

theorem run_equal_bool {t : TypeId} (hu : P.underlying t = some .bool) (p q : Bool) (w : World) : (Op.equal t (.bool p) (.bool q)).run P w = .ok (p == q) w := by
  have : ∀ d, 0 < d → (Op.equalIn d t (.bool p) (.bool q)).run P w = .ok (p == q) w := by
    intro d hd
    obtain ⟨d, rfl⟩ : ∃ m, d = m + 1 := ⟨d - 1, by omega⟩
    simp only [Op.equalIn, Sem.run_bind, run_underlying hu, Result.andThen_ok, Sem.run_pure]
  exact this _ (by decide)

theorem ok_bin (h : Rel β ι s a w N) {o : Oper} {op : BinOp} {t t' : TypeId} {x y : Operand} (ho : o.op = .binOp op t x y t') {d : D} (hd : aBin P op t (ev s x) (ev s y) = some d) : Good β P o a w N d s := by
  have hx := ev_rel h x
  have hy := ev_rel h y
  have he : execOp a.eval o = (do pure (.value (← (do eqGuard op t x y (a.eval x) (a.eval y); binOp op t (a.eval x) (a.eval y))))) := by unfold execOp; simp only [ho]
  generalize ev s x = dx at hx hd
  generalize ev s y = dy at hy hd
  unfold aBin at hd
  split at hd
  · rename_i v u
    have e1 : a.eval x = v := by obtain ⟨hx⟩ := hx; generalize a.eval x = z at hx; cases hx; rfl
    have e2 : a.eval y = u := by obtain ⟨hy⟩ := hy; generalize a.eval y = z at hy; cases hy; rfl
    rw [e1, e2] at he
    split at hd
    · rename_i r hr
      injection hd with hd
      subst hd
      exact good_of h he (bop_run op t x y v u r hr w) (.dat (.val r))
    · split at hd
      · rename_i p q _
        split at hd
        · rename_i i hi
          split at hd
          · rename_i hk
            injection hd with hd
            subst hd
            refine good_of (v := .bool (p == q)) h he ?_ (.dat (.val _))
            rw [eqGuard_at_bool]
            simp [binOp, run_equal_bool (kd_bool hi hk)]
          · cases hd
        · cases hd
      · rename_i p q _
        split at hd
        · rename_i i hi
          split at hd
          · rename_i hk
            injection hd with hd
            subst hd
            refine good_of (v := .bool (!(p == q))) h he ?_ (.dat (.val _))
            rw [eqGuard_at_bool]
            simp [binOp, run_equal_bool (kd_bool hi hk)]
          · cases hd
        · cases hd
      · cases hd
  · rename_i xs ys
    split at hd
    · rename_i i hi
      split at hd
      · rename_i hg
        simp only [Bool.and_eq_true] at hg
        obtain ⟨hagg, hp⟩ := hg
        have hgm : P.eqGuardType P.depth t = false := by simp only [eqPlain, Bool.and_eq_true, Bool.not_eq_true'] at hp; exact hp.1.2
        have like : ∀ (zs : List Dat) (v : Value), DatR (okB β.G ι w) w (.agg zs) v → ∃ us : List Value, v = .agg us.toArray ∧ LikeV zs us := by
          intro zs v hz
          cases hz with
          | agg _ us hl h1 hU =>
            refine ⟨us, rfl, fun j u hj => ?_⟩
            have hlt : j < us.length := by rw [hl]; exact (List.getElem?_eq_some_iff.1 hj).1
            have := hU j _ hj
            rw [getD_get?, List.getElem?_eq_getElem hlt] at this
            rw [List.getElem?_eq_getElem hlt]
            simp only [Option.getD_some] at this
            generalize us[j] = z at this
            cases this
            rfl
        obtain ⟨hx⟩ := hx
        obtain ⟨hy⟩ := hy
        obtain ⟨us, e1, l1⟩ := like xs _ hx
        obtain ⟨vs, e2, l2⟩ := like ys _ hy
        rw [e1, e2] at he
        have hval : ∀ zs : List Value, valAt i zs = .agg zs.toArray := fun zs => by simp [valAt, hagg]
        split at hd
        · rename_i r hr
          injection hd with hd
          subst hd
          have := (equalIn_ok (P := P) w 9).1 t i xs ys us vs r 10000 hi hr (by decide) l1 l2
          rw [hval, hval] at this
          refine good_of (v := .bool r) h he ?_ (.dat (.val _))
          rw [Sem.run_bind, run_eqGuard_agg _ _ _ _ _ _ _ hgm]
          simp only [Result.andThen_ok, binOp, Sem.run_bind, Op.equal, Op.maxDepth, this, Sem.run_pure]
        · rename_i r hr
          injection hd with hd
          subst hd
          have := (equalIn_ok (P := P) w 9).1 t i xs ys us vs r 10000 hi hr (by decide) l1 l2
          rw [hval, hval] at this
          refine good_of (v := .bool !r) h he ?_ (.dat (.val _))
          rw [Sem.run_bind, run_eqGuard_agg _ _ _ _ _ _ _ hgm]
          simp only [Result.andThen_ok, binOp, Sem.run_bind, Op.equal, Op.maxDepth, this, Sem.run_pure]
        · cases hd
      · cases hd
    · cases hd
  · cases hd

end Go.Proofs.Ytbkkekbeaabokaa.Sx
