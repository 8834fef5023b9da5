/- Sy, part C: the operations on the state, and that the machine's operations follow them (first lot: operands, loads, stores, addresses, integers, new variables). -/
import Derived.Test.YtbkkekbeaabokaaSyB
set_option linter.unusedVariables false
namespace Go.Proofs.Ytbkkekbeaabokaa.Sx
open Go Go.RowKit

variable {P : Program} {β : Bs} {G : Nat → Prop} {w w' : World} {ι ι' : Nat → Loc} {s s' : S} {a : Act} {N : Nat}

/-! ### What is asked of a type -/
inductive TK where
  | one | bool | string | int (k : IntKind)
  | struct (fs : List (Nat × TypeId × Nat))
  | array (n : Nat) (e : TypeId) (esz : Nat)
  | slice (e : TypeId) (esz : Nat)
  | map (k e : TypeId)
structure TI where
  kd : TK
  size : Nat
  bytes : Nat
  zero : List Value
def szOf (P : Program) (t : TypeId) : Nat := ((P.info? t).map (·.size)).getD 0
def kdOf (P : Program) : TypeDesc → TK
  | .bool => .bool
  | .string => .string
  | .int k => .int k
  | .struct fs => .struct (fs.toList.map fun f => (f.offset, f.type, szOf P f.type))
  | .array n e => .array n e (szOf P e)
  | .slice e => .slice e (szOf P e)
  | .map k e => .map k e
  | _ => .one
def infoOf (P : Program) (t : TypeId) : Option TI :=
  match P.info? t, P.underlying t with
  | some ti, some d => match ti.zero with
    | some z => some { kd := kdOf P d, size := ti.size, bytes := ti.bytes, zero := z.cells.toList }
    | none => none
  | _, _ => none
def TK.agg : TK → Bool
  | .struct _ | .array .. => true
  | _ => false

theorem infoOf_spec {t : TypeId} {i : TI} (h : infoOf P t = some i) : ∃ ti d z, P.info? t = some ti ∧ P.underlying t = some d ∧ ti.zero = some z ∧ i.kd = kdOf P d ∧ ti.size = i.size ∧ ti.bytes = i.bytes ∧ z.cells.toList = i.zero := by
  unfold infoOf at h
  split at h
  · rename_i ti d h1 h2
    split at h
    · rename_i z hz
      injection h with h
      subst h
      exact ⟨ti, d, z, h1, h2, hz, rfl, rfl, rfl, rfl⟩
    · cases h
  · cases h
theorem run_isAgg' {t : TypeId} {i : TI} (h : infoOf P t = some i) (w : World) : (isAgg t).run P w = .ok i.kd.agg w := by
  obtain ⟨ti, d, z, h1, h2, _, hk, _⟩ := infoOf_spec h
  unfold isAgg
  rw [Sem.run_bind, run_underlying h2 w, hk]
  cases d <;> rfl
theorem run_sizeOf' {t : TypeId} {i : TI} (h : infoOf P t = some i) (w : World) : (sizeOf t).run P w = .ok i.size w := by
  obtain ⟨ti, d, z, h1, _, _, _, hs, _⟩ := infoOf_spec h
  simp [sizeOf, typeInfo, h1, hs]
theorem run_zero' {t : TypeId} {i : TI} (h : infoOf P t = some i) (w : World) : ∃ z, (zeroValue t).run P w = .ok z w ∧ z.cells.toList = i.zero := by
  obtain ⟨ti, d, z, h1, _, hz, _, _, _, hz'⟩ := infoOf_spec h
  exact ⟨z, by simp [zeroValue, typeInfo, h1, hz], hz'⟩
theorem sz_of_info {t : TypeId} {i : TI} (h : infoOf P t = some i) : szOf P t = i.size := by
  obtain ⟨ti, d, z, h1, _, _, _, hs, _⟩ := infoOf_spec h
  simp [szOf, h1, hs]

/-! ### Operands -/
def ev (s : S) : Operand → D
  | .tmp t => (lk t s.sl).getD .bad
  | .const v => .dat (.val v)
  | .func f => .dat (.fn f [])
  | .global _ => .bad
theorem ev_rel (h : Rel β ι s a w N) (x : Operand) : RelD β.G ι s.nx w (ev s x) (a.eval x) := by
  cases x with
  | tmp t =>
    simp only [ev, Act.eval]
    cases hk : lk t s.sl with
    | none => exact .bad _
    | some d => exact (h.slots t d hk).2
  | const v => exact .dat (.val v)
  | global g => exact .bad _
  | func f => exact .dat (.fn f [] [] rfl (fun j d h => by simp at h))

/-! ### The cells of a value -/
def cellsOf : D → Option (List D)
  | .dat (.agg cs) => some (cs.map .dat)
  | .agg cs => some cs
  | .dat (.val v) => if v.oneCell' then some [.dat (.val v)] else none
  | .dat (.sl n es) => some [.dat (.sl n es)]
  | .dat (.ref cs) => some [.dat (.ref cs)]
  | .dat (.fn g cs) => some [.dat (.fn g cs)]
  | .own b n l => some [.own b n l]
  | .vw b n o l => some [.vw b n o l]
  | .ptr b o => some [.ptr b o]
  | .ept b n i j => some [.ept b n i j]
  | .fn g cs => some [.fn g cs]
  | .mapb b => some [.mapb b]
  | .dat (.map es) => some [.dat (.map es)]
  | _ => none
theorem one_cells {v : Value} (h : v.oneCell' = true) : v.cells = #[v] := by cases v <;> first | rfl | (simp [Value.oneCell'] at h)
theorem cells_single {d : D} {v : Value} (h : RelD G ι s.nx w d v) (h1 : v.oneCell' = true) : v.cells.size = [d].length ∧ (∀ u ∈ v.cells.toList, u.oneCell' = true) ∧ ∀ j d', [d][j]? = some d' → RelD G ι s.nx w d' (v.cells.toList.getD j undef) := by
  rw [one_cells h1]
  refine ⟨rfl, by simpa using h1, fun j d' hj => ?_⟩
  cases j with
  | zero => simp at hj; subst hj; exact h
  | succ j => simp at hj
theorem cells_rel {d : D} {v : Value} {cs : List D} (h : RelD G ι s.nx w d v) (hc : cellsOf d = some cs) : v.cells.size = cs.length ∧ (∀ u ∈ v.cells.toList, u.oneCell' = true) ∧ ∀ j d', cs[j]? = some d' → RelD G ι s.nx w d' (v.cells.toList.getD j undef) := by
  cases d with
  | dat d =>
    cases d with
    | agg ds =>
      simp only [cellsOf, Option.some.injEq] at hc
      subst hc
      obtain ⟨h⟩ := h
      cases h with
      | agg _ vs hl h1 hU =>
        refine ⟨by simp [Value.cells, hl], by simpa [Value.cells] using h1, fun j d' hj => ?_⟩
        simp only [List.getElem?_map, Option.map_eq_some_iff] at hj
        obtain ⟨e, he, rfl⟩ := hj
        exact .dat (hU j e he)
    | val u =>
      simp only [cellsOf] at hc
      split at hc
      · rename_i h1
        injection hc with hc
        subst hc
        have hv : v = u := by obtain ⟨h⟩ := h; cases h; rfl
        subst hv
        exact cells_single h h1
      · cases hc
    | sl n es =>
      simp only [cellsOf, Option.some.injEq] at hc
      subst hc
      exact cells_single h (by obtain ⟨h⟩ := h; cases h <;> rfl)
    | ref ds =>
      simp only [cellsOf, Option.some.injEq] at hc
      subst hc
      exact cells_single h (by obtain ⟨h⟩ := h; cases h; rfl)
    | fn g ds =>
      simp only [cellsOf, Option.some.injEq] at hc
      subst hc
      exact cells_single h (by obtain ⟨h⟩ := h; cases h; rfl)
    | tup _ => simp [cellsOf] at hc
    | map es =>
      simp only [cellsOf, Option.some.injEq] at hc
      subst hc
      exact cells_single h (by obtain ⟨h⟩ := h; cases h; rfl)
    | bad => simp [cellsOf] at hc
  | agg ds =>
    simp only [cellsOf, Option.some.injEq] at hc
    subst hc
    cases h with
    | agg _ vs hl h1 hU => exact ⟨by simp [Value.cells, hl], by simpa [Value.cells] using h1, fun j d' hj => by simpa [Value.cells] using hU j d' hj⟩
  | own b n l =>
    simp only [cellsOf, Option.some.injEq] at hc
    subst hc
    exact cells_single h (by cases h <;> first | rfl | assumption)
  | vw b n o l =>
    simp only [cellsOf, Option.some.injEq] at hc
    subst hc
    exact cells_single h (by cases h <;> first | rfl | assumption)
  | ptr b o =>
    simp only [cellsOf, Option.some.injEq] at hc
    subst hc
    exact cells_single h (by cases h <;> first | rfl | assumption)
  | ept b n i j =>
    simp only [cellsOf, Option.some.injEq] at hc
    subst hc
    exact cells_single h (by cases h <;> first | rfl | assumption)
  | fn g cs =>
    simp only [cellsOf, Option.some.injEq] at hc
    subst hc
    exact cells_single h (by cases h; rfl)
  | mapb b =>
    simp only [cellsOf, Option.some.injEq] at hc
    subst hc
    exact cells_single h (by cases h <;> first | rfl | assumption)
  | tup _ => simp [cellsOf] at hc
  | bad => simp [cellsOf] at hc

/-- An aggregate of cells: data where all of them are. -/
def allDat : List D → Option (List Dat)
  | [] => some []
  | .dat d :: r => (allDat r).map (d :: ·)
  | _ :: _ => none
theorem allDat_spec : ∀ {cs : List D} {ds : List Dat}, allDat cs = some ds → cs = ds.map .dat
  | [], ds, h => by simp [allDat] at h; subst h; rfl
  | .dat d :: r, ds, h => by
    simp only [allDat, Option.map_eq_some_iff] at h
    obtain ⟨e, he, rfl⟩ := h
    simp [allDat_spec he]
  | .own .. :: _, _, h | .vw .. :: _, _, h | .ptr .. :: _, _, h | .ept .. :: _, _, h | .fn .. :: _, _, h | .agg .. :: _, _, h | .tup .. :: _, _, h | .mapb .. :: _, _, h | .bad :: _, _, h => by simp [allDat] at h
theorem allDat_map (ds : List Dat) : allDat (ds.map .dat) = some ds := by
  induction ds with
  | nil => rfl
  | cons d r ih => simp [allDat, ih]
def mkAgg (cs : List D) : D := match allDat cs with
  | some ds => .dat (.agg ds)
  | none => .agg cs
theorem mkAgg_rel {cs : List D} {vs : List Value} (hl : vs.length = cs.length) (h1 : ∀ v ∈ vs, v.oneCell' = true) (hU : ∀ j d, cs[j]? = some d → RelD G ι s.nx w d (vs.getD j undef)) : RelD G ι s.nx w (mkAgg cs) (.agg vs.toArray) := by
  unfold mkAgg
  split
  · rename_i ds hds
    have := allDat_spec hds
    subst this
    refine .dat (.agg ds vs (by simpa using hl) h1 (fun j d hj => ?_))
    have := hU j (.dat d) (by simp [hj])
    cases this with
    | dat h => exact h
  · exact .agg cs vs hl h1 hU

/-! ### What an operation comes to -/
/-- The machine's operation gives a value that reads as d, and comes to a world that s' tells of. -/
def Good (β : Bs) (P : Program) (o : Oper) (a : Act) (w : World) (N : Nat) (d : D) (s' : S) : Prop :=
  ∃ v w' ι', ((execOp a.eval o).run P w = .ok (.value v) w' ∨ ((execOp a.eval o).run P w = .ok .skip w' ∧ v = undef)) ∧ Rel β ι' s' a w' N ∧ RelD β.G ι' s'.nx w' d v

theorem run_value {x : Sem Value} {v : Value} (h : x.run P w = .ok v w') : (do pure (Next.value (← x)) : Sem Next).run P w = .ok (.value v) w' := by simp [h, Result.andThen]
theorem run_unit {x : Sem Unit} (h : x.run P w = .ok () w') : (do x; pure Next.skip : Sem Next).run P w = .ok .skip w' := by simp [h, Result.andThen]

/-! ### load -/
def takeAt (i : TI) (cs : List D) : Option D :=
  if i.kd.agg then (if i.size ≤ cs.length then some (mkAgg (cs.take i.size)) else none) else cs.head?
def aLoad0 (P : Program) (s : S) (t : TypeId) (x : D) : Option D :=
  match infoOf P t, x with
  | some i, .dat (.ref cs) => if i.kd.agg then (if i.size ≤ cs.length then some (.dat (.agg (cs.take i.size))) else none) else cs.head?.map .dat
  | some i, .ptr b off => match lk b s.hp with
    | some (.var cs) => takeAt i (cs.drop off)
    | _ => none
  | some i, .ept b n k j => match lk b s.hp with
    | some (.row _ n' es) => if n = n' then (match es[k]? with
      | some cs => if i.kd.agg then (if i.size ≤ (cs.drop j).length then some (.dat (.agg ((cs.drop j).take i.size))) else none) else (cs.drop j).head?.map .dat
      | none => none) else none
    | some (.rowD _ n' es) => if n = n' ∧ i.kd.agg = false then (es[k]?).bind (fun cs => cs[j]?) else none
    | _ => none
  | _, _ => none

/-- Cells that lie one behind the other are loaded. -/
theorem run_loadVar_at {t : TypeId} {i : TI} (hi : infoOf P t = some i) (B o : Nat) (vs : List Value) (hv : ∀ j u, vs[j]? = some u → w.cell? ⟨B, o + j, none⟩ = some u) (hl : if i.kd.agg then i.size = vs.length else 1 ≤ vs.length) :
    (loadVar t ⟨B, o, none⟩).run P w = .ok (if i.kd.agg then .agg vs.toArray else vs.headD undef) w := by
  unfold loadVar
  rw [Sem.run_bind, run_isAgg' hi]
  simp only [Result.andThen_ok]
  by_cases hg : i.kd.agg = true
  · simp only [hg, if_true] at hl ⊢
    have hlc := run_loadCells_list (P := P) w ⟨B, o, none⟩ vs (fun j v h => by rw [Addr.add_mid]; exact hv j v h)
    rw [Sem.run_bind, run_sizeOf' hi]
    simp only [Result.andThen_ok, Sem.run_bind, hl, hlc, Sem.run_pure]
  · simp only [hg, Bool.false_eq_true, if_false] at hl ⊢
    cases vs with
    | nil => simp at hl
    | cons u r =>
      have := hv 0 u rfl
      rw [Nat.add_zero] at this
      simp [this]

theorem head_getD {α : Type} {cs : List α} {d : α} (h : cs.head? = some d) : cs[0]? = some d := by cases cs <;> simp_all

theorem ok_load0 (h : Rel β ι s a w N) {o : Oper} {t : TypeId} {x : Operand} (ho : o.op = .load t x) {d : D} (hd : aLoad0 P s t (ev s x) = some d) : Good β P o a w N d s := by
  have hx := ev_rel h x
  have fin : ∀ v, (Instr.loadAt t (a.eval x)).run P w = .ok v w → RelD β.G ι s.nx w d v → Good β P o a w N d s := fun v hr hd => ⟨v, w, ι, .inl (by unfold execOp; simp only [ho]; exact run_value hr), h, hd⟩
  have load : ∀ B off, a.eval x = .pointer (some ⟨B, off, none⟩) → ∀ i, infoOf P t = some i → ∀ vs : List Value, (∀ j u, vs[j]? = some u → w.cell? ⟨B, off + j, none⟩ = some u) → (if i.kd.agg then i.size = vs.length else 1 ≤ vs.length) →
      (Instr.loadAt t (a.eval x)).run P w = .ok (if i.kd.agg then .agg vs.toArray else vs.headD undef) w := by
    intro B off hp i hi vs hv hl
    rw [hp]
    unfold Instr.loadAt
    simp only [Instr.sureAddr, Sem.run_bind, Sem.run_pure, Result.andThen_ok]
    exact run_loadVar_at hi B off vs hv hl
  generalize ev s x = dx at hx hd
  unfold aLoad0 at hd
  split at hd
  · -- a reference
    rename_i i cs hi
    obtain ⟨hx⟩ := hx
    generalize hvx : a.eval x = vx at hx load fin
    cases hx with
    | ref _ B off U hok hcell hU =>
      split at hd
      · rename_i hg
        split at hd
        · rename_i hsz
          injection hd with hd
          subst hd
          refine fin _ (load B off rfl i hi ((List.range i.size).map U) (fun j u hj => ?_) (by simp [hg])) ?_
          · simp only [List.getElem?_map, Option.map_eq_some_iff] at hj
            obtain ⟨k, hk, rfl⟩ := hj
            have hk' := List.getElem?_eq_some_iff.1 hk
            obtain ⟨hlt, rfl⟩ := hk'
            simp only [List.getElem_range]
            have : j < i.size := by simpa using hlt
            exact (hcell j cs[j] (List.getElem?_eq_getElem (by omega))).1
          · simp only [hg, if_true]
            refine .dat (.agg _ _ (by simp; omega) (fun v hv => ?_) (fun j d' hj => ?_))
            · simp only [List.mem_map, List.mem_range] at hv
              obtain ⟨k, hk, rfl⟩ := hv
              exact (hcell k cs[k] (List.getElem?_eq_getElem (by omega))).2
            · rw [List.getElem?_take] at hj
              split at hj
              · rename_i hlt
                rw [List.getD_eq_getElem?_getD, List.getElem?_map, List.getElem?_range hlt]
                exact hU j d' hj
              · cases hj
        · cases hd
      · rename_i hg
        simp only [Option.map_eq_some_iff] at hd
        obtain ⟨e, he, rfl⟩ := hd
        have h0 := head_getD he
        refine fin _ (load B off rfl i hi [U 0] (fun j u hj => ?_) (by simp [hg])) ?_
        · cases j with
          | zero => simp at hj; subst hj; exact (hcell 0 e h0).1
          | succ j => simp at hj
        · simp only [hg, Bool.false_eq_true, if_false]
          exact .dat (hU 0 e h0)
  · -- a variable of one's own
    rename_i i b off hi
    split at hd
    · rename_i cs hb
      have hO := h.heap b _ hb
      cases hO with
      | var _ B C ty hι hC hl h1 hU =>
        generalize hvx : a.eval x = vx at hx load fin
        cases hx with
        | ptr_dead _ _ _ _ _ he => simp [he] at hι
        | ptr_nil _ _ _ _ _ he => simp [he] at hι
        | ptr_at _ _ B' _ he =>
          rw [hι] at he
          injection he with he
          subst he
          have hcell : ∀ j u, (C.toList.drop off)[j]? = some u → w.cell? ⟨B, off + j, none⟩ = some u := by
            intro j u hj
            simp only [List.getElem?_drop, Array.getElem?_toList] at hj
            simp [World.cell?, hC, hj]
          unfold takeAt at hd
          split at hd
          · rename_i hg
            split at hd
            · rename_i hsz
              injection hd with hd
              subst hd
              have hlen : i.size ≤ C.toList.length - off := by simp at hsz ⊢; omega
              refine fin _ (load B off rfl i hi ((C.toList.drop off).take i.size) (fun j u hj => ?_) (by simp [hg]; simp at hlen; omega)) ?_
              · rw [List.getElem?_take] at hj
                split at hj
                · exact hcell j u hj
                · cases hj
              · simp only [hg, if_true]
                refine mkAgg_rel (by simp; omega) (fun v hv => h1 v (List.mem_of_mem_drop (List.mem_of_mem_take hv))) (fun j d' hj => ?_)
                rw [List.getElem?_take] at hj
                split at hj
                · rename_i hlt
                  rw [List.getElem?_drop] at hj
                  have := hU _ _ hj
                  rw [List.getD_eq_getElem?_getD, List.getElem?_take, if_pos hlt, List.getElem?_drop]
                  rwa [List.getD_eq_getElem?_getD] at this
                · cases hj
            · cases hd
          · rename_i hg
            have h0 := head_getD hd
            rw [List.getElem?_drop] at h0
            have hlt : off < C.size := by rw [hl]; exact (List.getElem?_eq_some_iff.1 h0).1
            refine fin _ (load B off rfl i hi [C.toList.getD off undef] (fun j u hj => ?_) (by simp [hg])) ?_
            · cases j with
              | zero =>
                simp at hj
                subst hj
                refine hcell 0 _ ?_
                simp [hlt]
              | succ j => simp at hj
            · simp only [hg, Bool.false_eq_true, if_false]
              exact hU _ _ h0
    · cases hd
  · -- an element of a row of one's own
    rename_i i b n k j hi
    split at hd
    · rename_i ty n' es hb
      split at hd
      · rename_i hn
        subst hn
        split at hd
        · rename_i cs hk
          have hO := h.heap b _ hb
          cases hO with
          | nil _ _ hι => simp at hk
          | row _ _ _ B C hι hC hlen hs hl h1 hU =>
            generalize hvx : a.eval x = vx at hx load fin
            cases hx with
            | ept_dead _ _ _ _ _ _ _ he => simp [he] at hι
            | ept_nil _ _ _ _ _ _ _ he => simp [he] at hι
            | ept_at _ _ _ _ B' _ he =>
              rw [hι] at he
              injection he with he
              subst he
              have hcl : cs.length = n := hlen cs (List.mem_of_getElem? hk)
              have hkl : k < es.length := (List.getElem?_eq_some_iff.1 hk).1
              have hbig : k * n + n ≤ C.size := Nat.le_trans (by rw [← Nat.succ_mul]; exact Nat.mul_le_mul_right _ hkl) hl
              have hcell : ∀ q, q < n - j → w.cell? ⟨B, k * n + j + q, none⟩ = some (C.toList.getD (k * n + (j + q)) undef) := by
                intro q hq
                have : k * n + (j + q) < C.size := by omega
                simp [World.cell?, hC, Nat.add_assoc, this]
              split at hd
              · rename_i hg
                split at hd
                · rename_i hsz
                  injection hd with hd
                  subst hd
                  have hsz' : i.size ≤ n - j := by simp at hsz; omega
                  refine fin _ (load B (k * n + j) rfl i hi ((List.range i.size).map fun q => C.toList.getD (k * n + (j + q)) undef) (fun q u hq => ?_) (by simp [hg])) ?_
                  · simp only [List.getElem?_map, Option.map_eq_some_iff] at hq
                    obtain ⟨q', hq', rfl⟩ := hq
                    obtain ⟨hlt, rfl⟩ := List.getElem?_eq_some_iff.1 hq'
                    simp only [List.getElem_range]
                    exact hcell q (by simp at hlt; omega)
                  · simp only [hg, if_true]
                    refine .dat (.agg _ _ (by simp; omega) (fun v hv => ?_) (fun q d' hq => ?_))
                    · simp only [List.mem_map, List.mem_range] at hv
                      obtain ⟨q, hq, rfl⟩ := hv
                      exact h1 k cs hk (j + q) cs[j + q] (List.getElem?_eq_getElem (by omega))
                    · rw [List.getElem?_take] at hq
                      split at hq
                      · rename_i hlt
                        rw [List.getElem?_drop] at hq
                        rw [List.getD_eq_getElem?_getD, List.getElem?_map, List.getElem?_range hlt]
                        exact hU k cs hk (j + q) d' hq
                      · cases hq
                · cases hd
              · rename_i hg
                simp only [Option.map_eq_some_iff] at hd
                obtain ⟨e, he, rfl⟩ := hd
                have h0 := head_getD he
                rw [List.getElem?_drop, Nat.add_zero] at h0
                have hj : j < n := by rw [← hcl]; exact (List.getElem?_eq_some_iff.1 h0).1
                refine fin _ (load B (k * n + j) rfl i hi [C.toList.getD (k * n + j) undef] (fun q u hq => ?_) (by simp [hg])) ?_
                · cases q with
                  | zero =>
                    simp only [List.getElem?_cons_zero, Option.some.injEq] at hq
                    subst hq
                    have := hcell 0 (by omega)
                    simpa using this
                  | succ q => simp at hq
                · simp only [hg, Bool.false_eq_true, if_false]
                  exact .dat (hU k cs hk j e h0)
        · cases hd
      · cases hd
    · rename_i ty n' es hb
      split at hd
      · rename_i hng
        obtain ⟨hn, hg⟩ := hng
        subst hn
        simp only [Option.bind_eq_some_iff] at hd
        obtain ⟨cs, hk, h0⟩ := hd
        have hO := h.heap b _ hb
        cases hO with
        | rowD _ _ _ B C hι hC hlen hs hl h1 hU =>
          generalize hvx : a.eval x = vx at hx load fin
          cases hx with
          | ept_dead _ _ _ _ _ _ _ he => simp [he] at hι
          | ept_nil _ _ _ _ _ _ _ he => simp [he] at hι
          | ept_at _ _ _ _ B' _ he =>
            rw [hι] at he
            injection he with he
            subst he
            have hcl : cs.length = n := hlen cs (List.mem_of_getElem? hk)
            have hkl : k < es.length := (List.getElem?_eq_some_iff.1 hk).1
            have hbig : k * n + n ≤ C.size := Nat.le_trans (by rw [← Nat.succ_mul]; exact Nat.mul_le_mul_right _ hkl) hl
            have hj : j < n := by rw [← hcl]; exact (List.getElem?_eq_some_iff.1 h0).1
            refine fin _ (load B (k * n + j) rfl i hi [C.toList.getD (k * n + j) undef] (fun q u hq => ?_) (by simp [hg])) ?_
            · cases q with
              | zero =>
                simp only [List.getElem?_cons_zero, Option.some.injEq] at hq
                subst hq
                have : k * n + j < C.size := by omega
                simp [World.cell?, hC, this]
              | succ q => simp at hq
            · simp only [hg, Bool.false_eq_true, if_false]
              exact hU k cs hk j d h0
      · cases hd
    · cases hd
  · cases hd

end Go.Proofs.Ytbkkekbeaabokaa.Sx
