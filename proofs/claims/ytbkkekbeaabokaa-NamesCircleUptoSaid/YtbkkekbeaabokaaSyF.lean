/- Sy, part F: new variables, aggregates, rows; numbers, strings and bools; function values. -/
import Derived.Test.YtbkkekbeaabokaaSyE
import Derived.Laws.StructEq
import Derived.Laws.Tables
set_option linter.unusedVariables false
set_option linter.unusedSimpArgs false
namespace Go.Proofs.Ytbkkekbeaabokaa.Sx
open Go Go.RowKit

variable {P : Program} {β : Bs} {G : Nat → Prop} {w w' : World} {ι ι' : Nat → Loc} {s s' : S} {a : Act} {N : Nat}

/-! ### A new variable -/
def aNew (P : Program) (s : S) (t : TypeId) (cs : List D) : Option (D × S) :=
  match infoOf P t with
  | some i => match i.kd with
    | .array m e esz => match giveC cs s.hp with
      | some (ds, hp') => if esz = 1 then some (.ept s.nx 1 0 0, { s with hp := (s.nx, .row t 1 (ds.map ([·]))) :: hp', nx := s.nx + 1 }) else none
      | none => none
    | _ => some (.ptr s.nx 0, { s with hp := (s.nx, .var cs) :: s.hp, nx := s.nx + 1 })
  | none => none

theorem new_rel (h : Rel β ι s a w N) {t : TypeId} {cs : List D} {v : Value} (hl : v.cells.size = cs.length) (h1 : ∀ u ∈ v.cells.toList, u.oneCell' = true) (hU : ∀ j d, cs[j]? = some d → RelD β.G ι s.nx w d (v.cells.toList.getD j undef)) {d : D} (hn : aNew P s t cs = some (d, s')) :
    ∃ ι', Rel β ι' s' a (w.alloc (.cells v.cells t)) N ∧ RelD β.G ι' s'.nx (w.alloc (.cells v.cells t)) d (.pointer (some ⟨w.heap.size, 0, none⟩)) := by
  unfold aNew at hn
  split at hn
  · rename_i i hi
    split at hn
    · rename_i m e esz hk
      split at hn
      · rename_i ds hp' hg
        split at hn
        · rename_i he
          subst he
          simp only [Option.some.injEq, Prod.mk.injEq] at hn
          obtain ⟨rfl, rfl⟩ := hn
          obtain ⟨ι1, hl1, hR1, hdl, hds⟩ := h.giveC (by simpa using hl) hU hg
          refine ⟨_, hR1.new v.cells t (o := .row t 1 (ds.map ([·]))) (fun ι' w' f hι hC => ?_), ?_⟩
          · refine .row t 1 _ _ _ hι hC (fun c hc => ?_) (by omega) (by simp; omega) (fun i cs' hi' j d hj => ?_) (fun i cs' hi' j d hj => ?_)
            · simp only [List.mem_map] at hc
              obtain ⟨q, _, rfl⟩ := hc
              rfl
            · simp only [List.getElem?_map, Option.map_eq_some_iff] at hi'
              obtain ⟨q, hq, rfl⟩ := hi'
              cases j with
              | zero =>
                have hlt : i < v.cells.size := by have := (List.getElem?_eq_some_iff.1 hq).1; omega
                refine h1 _ ?_
                simp [getD_get?, hlt]
              | succ j => simp at hj
            · simp only [List.getElem?_map, Option.map_eq_some_iff] at hi'
              obtain ⟨q, hq, rfl⟩ := hi'
              cases j with
              | zero =>
                simp at hj
                subst hj
                simpa using f.datR (hds i q hq)
              | succ j => simp at hj
          · exact .ept_at _ 1 0 0 _ (Nat.lt_succ_self _) (by simp [name])
        · cases hn
      · cases hn
    · simp only [Option.some.injEq, Prod.mk.injEq] at hn
      obtain ⟨rfl, rfl⟩ := hn
      refine ⟨_, h.new v.cells t (o := .var cs) (fun ι' w' f hι hC => ?_), ?_⟩
      · exact .var cs _ _ t hι hC hl h1 (fun j d hj => f.relD (hU j d hj))
      · exact .ptr_at _ 0 _ (Nat.lt_succ_self _) (by simp [name])
  · cases hn

def aBox (P : Program) (s : S) (t : TypeId) (x : D) : Option (D × S) := match cellsOf x with
  | some cs => aNew P s t cs
  | none => none
theorem ok_box (h : Rel β ι s a w N) {o : Oper} {t : TypeId} {x : Operand} (ho : o.op = .box t x) {d : D} (hd : aBox P s t (ev s x) = some (d, s')) : Good β P o a w N d s' := by
  have hx := ev_rel h x
  unfold aBox at hd
  split at hd
  · rename_i cs hc
    obtain ⟨hl, h1, hU⟩ := cells_rel hx hc
    obtain ⟨ι', hR, hD⟩ := new_rel h hl h1 hU hd
    refine ⟨_, _, ι', .inl ?_, hR, hD⟩
    unfold execOp
    simp only [ho]
    exact run_value rfl
  · cases hd

def aAlloc (P : Program) (s : S) (t : TypeId) : Option (D × S) := match infoOf P t with
  | some i => if i.zero.all Value.oneCell' then aNew P s t (i.zero.map fun v => .dat (.val v)) else none
  | none => none
theorem ok_alloc (h : Rel β ι s a w N) {o : Oper} {t : TypeId} (ho : o.op = .alloc t) {d : D} (hd : aAlloc P s t = some (d, s')) : Good β P o a w N d s' := by
  unfold aAlloc at hd
  split at hd
  · rename_i i hi
    split at hd
    · rename_i h1
      obtain ⟨z, hz, hzc⟩ := run_zero' hi w
      obtain ⟨ι', hR, hD⟩ := new_rel (v := z) h (by simp [← hzc]) (by rw [hzc]; simpa using h1) (fun j d hj => by
        simp only [List.getElem?_map, Option.map_eq_some_iff] at hj
        obtain ⟨u, hu, rfl⟩ := hj
        rw [hzc, getD_get?, hu]
        exact .dat (.val u)) hd
      refine ⟨_, _, ι', .inl ?_, hR, hD⟩
      unfold execOp
      simp only [ho]
      refine run_value ?_
      simp only [Instr.alloc, Sem.run_bind, hz, Result.andThen_ok, Sem.run_pure, newVar, newRow, run_newObj]
      rfl
    · cases hd
  · cases hd

/-! ### Parts are laid into cells -/
def fillD (place : Nat → Option (Nat × Nat)) (cells : List D) : List (Nat × D) → Option (List D)
  | [] => some cells
  | (i, d) :: r => match place i, cellsOf d with
    | some (off, size), some cs => if cs.length = size ∧ off + cs.length ≤ cells.length then fillD place (splice off cs cells) r else none
    | _, _ => none

theorem fold_set (off : Nat) : ∀ (l : List Value) (k : Nat) (cells : Array Value), off + k + l.length ≤ cells.size →
    ((l.zipIdx k).foldl (fun cs (p : Value × Nat) => cs.setIfInBounds (off + p.2) p.1) cells).toList = splice (off + k) l cells.toList
  | [], k, cells, h => by simp [splice]
  | v :: r, k, cells, h => by
    simp only [List.zipIdx_cons, List.foldl_cons]
    rw [fold_set off r (k + 1) _ (by simp at h ⊢; omega)]
    apply List.ext_getElem?
    intro j
    have hl : off + k + (r.length + 1) ≤ cells.size := by simpa using h
    rw [splice_get (by simp; omega), splice_get (by simp; omega)]
    simp only [Array.toList_setIfInBounds, List.getElem?_set, List.length_cons, Array.length_toList]
    by_cases h1 : j = off + k
    · subst h1
      have hlt : off + k < cells.size := by omega
      simp [hlt]
      intro hc
      omega
    · by_cases h2 : off + k < j ∧ j < off + k + (r.length + 1)
      · rw [if_pos (by omega), if_pos (by omega), show j - (off + k) = (j - (off + (k + 1))) + 1 by omega]
        simp
      · rw [if_neg (by omega), if_neg (by omega), if_neg (by omega)]

theorem fill_step (place : Nat → Option (Nat × Nat)) (cells : Array Value) (i off size : Nat) (v : Value) (rest : List (Nat × Value)) (hp : place i = some (off, size)) (hs : v.cells.size = size) (hf : off + v.cells.size ≤ cells.size) :
    Instr.fill place cells ((i, v) :: rest) = Instr.fill place (splice off v.cells.toList cells.toList).toArray rest := by
  simp only [Instr.fill, hp]
  rw [if_neg (by simp [hs]; omega)]
  congr 1
  apply Array.toList_inj.1
  have := fold_set off v.cells.toList 0 cells (by simp; omega)
  rw [Nat.add_zero] at this
  rw [List.toList_toArray, ← this, ← Array.foldl_toList, Array.toList_zipIdx]

def D.good : D → Bool
  | .bad => false
  | _ => true
def RelC (G : Nat → Prop) (ι : Nat → Loc) (nx : Nat) (w : World) (cells : List D) (vals : List Value) : Prop :=
  vals.length = cells.length ∧ ∀ j d, cells[j]? = some d → RelD G ι nx w d (vals.getD j undef) ∧ (d.good = true → (vals.getD j undef).oneCell' = true)

theorem fill_rel (place : Nat → Option (Nat × Nat)) (a : Act) (s : S) (h : Rel β ι s a w N) : ∀ (ps : List (Nat × Operand)) (cells out : List D) (vals : Array Value), RelC β.G ι s.nx w cells vals.toList →
    fillD place cells (ps.map fun p => (p.1, ev s p.2)) = some out → ∃ vout : Array Value, Instr.fill place vals (ps.map fun p => (p.1, a.eval p.2)) = some vout ∧ RelC β.G ι s.nx w out vout.toList
  | [], cells, out, vals, hC, hf => by
    simp only [List.map_nil, fillD, Option.some.injEq] at hf
    subst hf
    exact ⟨vals, rfl, hC⟩
  | (i, x) :: r, cells, out, vals, hC, hf => by
    simp only [List.map_cons, fillD] at hf
    split at hf
    · rename_i off size cs hp hc
      split at hf
      · rename_i hcond
        obtain ⟨hsz, h1, hU⟩ := cells_rel (ev_rel h x) hc
        have hvl : vals.toList.length = cells.length := hC.1
        have hfit : off + (a.eval x).cells.toList.length ≤ vals.toList.length := by rw [hvl, Array.length_toList]; omega
        have hC' : RelC β.G ι s.nx w (splice off cs cells) (splice off (a.eval x).cells.toList vals.toList) := by
          refine ⟨by rw [splice_length hfit, splice_length hcond.2, hvl], fun j d hj => ?_⟩
          rw [splice_get hcond.2] at hj
          rw [getD_get?, splice_get hfit]
          have : (a.eval x).cells.toList.length = cs.length := by simpa using hsz
          rw [this]
          split at hj
          · rename_i hin
            rw [if_pos hin, ← getD_get?]
            refine ⟨hU _ d hj, fun _ => h1 _ ?_⟩
            have hlt : j - off < (a.eval x).cells.toList.length := by rw [this]; omega
            rw [getD_get?, List.getElem?_eq_getElem hlt]
            simp
          · rename_i hin
            rw [if_neg hin, ← getD_get?]
            exact hC.2 j d hj
        obtain ⟨vout, hv, hR⟩ := fill_rel place a s h r _ out (splice off (a.eval x).cells.toList vals.toList).toArray hC' hf
        refine ⟨vout, ?_, hR⟩
        rw [List.map_cons, fill_step place vals i off size (a.eval x) _ hp (by omega) (by simpa using hfit)]
        exact hv
      · cases hf
    · cases hf

def placesS (fs : List (Nat × TypeId × Nat)) : Nat → Option (Nat × Nat) := fun i => (fs[i]?).map fun p => (p.1, p.2.2)
def aBuild (P : Program) (s : S) (t : TypeId) (parts : List (Nat × Operand)) : Option D :=
  match infoOf P t with
  | some i => if i.zero.all Value.oneCell' then (match i.kd with
    | .struct fs => if fs.all (fun p => p.2.2 != 0) then ((fillD (placesS fs) (i.zero.map fun v => .dat (.val v)) (parts.map fun p => (p.1, ev s p.2))).bind fun out => if out.all D.good then some (mkAgg out) else none) else none
    | .array _ _ esz => if parts.isEmpty && esz != 0 then some (.dat (.agg (i.zero.map .val))) else none
    | _ => none) else none
  | none => none

theorem built_struct {t : TypeId} {i : TI} (hi : infoOf P t = some i) {fs : List (Nat × TypeId × Nat)} (hk : i.kd = .struct fs) (hz : fs.all (fun p => p.2.2 != 0) = true) (parts : List (Nat × Value)) :
    ∃ z : Value, z.cells.toList = i.zero ∧ P.built t parts = Instr.fill (placesS fs) z.cells parts := by
  obtain ⟨ti, d, z, h1, h2, h3, _, _, _, hzc⟩ := infoOf_spec hi
  obtain ⟨F, hu, rfl⟩ := kd_struct hi hk
  refine ⟨z, hzc, ?_⟩
  unfold Program.built
  rw [h1, hu]
  simp only [h3]
  have hm : F.toList.mapM (fun f => (P.info? f.type).map fun i => (f.offset, i.size)) = some (F.toList.map fun f => (f.offset, szOf P f.type)) := by
    generalize F.toList = l at hz
    clear hu
    induction l with
    | nil => rfl
    | cons f r ih =>
      simp only [List.map_cons, List.all_cons, Bool.and_eq_true, bne_iff_ne, ne_eq] at hz
      rw [List.mapM_cons, ih hz.2]
      have := hz.1
      unfold szOf at this ⊢
      cases hq : P.info? f.type with
      | none => simp [hq] at this
      | some q => simp [hq]
  rw [hm]
  simp only
  congr 1
  funext j
  simp [placesS, List.getElem?_map]
  cases F[j]? <;> rfl

theorem ok_build (h : Rel β ι s a w N) {o : Oper} {t : TypeId} {parts : Array (Nat × Operand)} (ho : o.op = .build t parts) {d : D} (hd : aBuild P s t parts.toList = some d) : Good β P o a w N d s := by
  unfold aBuild at hd
  split at hd
  · rename_i i hi
    split at hd
    · rename_i hz1
      split at hd
      · rename_i fs hk
        split at hd
        · rename_i hz
          simp only [Option.bind_eq_some_iff] at hd
          obtain ⟨out, hf, hd⟩ := hd
          split at hd
          · rename_i hgood
            simp only [Option.some.injEq] at hd
            subst hd
            obtain ⟨z, hzc, hb⟩ := built_struct hi hk hz (parts.map fun p => (p.1, a.eval p.2)).toList
            have hzr : RelC β.G ι s.nx w (i.zero.map fun v => .dat (.val v)) z.cells.toList := by
              refine ⟨by simp [hzc], fun j d hj => ?_⟩
              simp only [List.getElem?_map, Option.map_eq_some_iff] at hj
              obtain ⟨u, hu, rfl⟩ := hj
              rw [hzc, getD_get?, hu]
              exact ⟨.dat (.val u), fun _ => (List.all_eq_true.1 hz1) u (List.mem_of_getElem? hu)⟩
            obtain ⟨vout, hv, hR⟩ := fill_rel (placesS fs) a s h parts.toList _ out z.cells hzr hf
            have hrun := run_build (P := P) w t (parts.map fun p => (p.1, a.eval p.2)) vout (by rw [hb]; simpa using hv)
            refine ⟨.agg vout, w, ι, .inl ?_, h, ?_⟩
            · unfold execOp
              simp only [ho]
              exact run_value hrun
            · have := mkAgg_rel (s := s) (ι := ι) (w := w) (cs := out) (vs := vout.toList) hR.1 (fun u hu => ?_) (fun j d hj => (hR.2 j d hj).1)
              · simpa using this
              · obtain ⟨j, hj⟩ := List.mem_iff_getElem?.1 hu
                have hlt := (List.getElem?_eq_some_iff.1 hj).1
                have hlt' : j < out.length := by rw [← hR.1]; exact hlt
                have := (hR.2 j out[j] (List.getElem?_eq_getElem hlt')).2 ((List.all_eq_true.1 hgood) _ (List.getElem_mem hlt'))
                rwa [getD_get?, hj] at this
          · cases hd
        · cases hd
      · rename_i m e esz hk
        split at hd
        · rename_i hc
          simp only [Option.some.injEq] at hd
          subst hd
          simp only [Bool.and_eq_true, List.isEmpty_iff, bne_iff_ne, ne_eq] at hc
          obtain ⟨hp, hne⟩ := hc
          obtain ⟨ti, d, z, g1, g2, g3, _, _, _, hzc⟩ := infoOf_spec hi
          obtain ⟨hu, hez⟩ := kd_array hi hk
          have hb : P.built t (parts.map fun p => (p.1, a.eval p.2)).toList = some z.cells := by
            unfold Program.built
            rw [g1, hu]
            simp only [g3]
            cases hq : P.info? e with
            | none => simp [szOf, hq] at hez; exact absurd hez hne
            | some q => simp [hp, Instr.fill]
          have hrun := run_build (P := P) w t (parts.map fun p => (p.1, a.eval p.2)) z.cells hb
          refine ⟨.agg z.cells, w, ι, .inl ?_, h, .dat ?_⟩
          · unfold execOp
            simp only [ho]
            exact run_value hrun
          · have := DatR.agg (ok := okB β.G ι w) (w := w) (i.zero.map .val) z.cells.toList (by simp [← hzc]) (by rw [hzc]; simpa using hz1) (fun j d hj => by
              simp only [List.getElem?_map, Option.map_eq_some_iff] at hj
              obtain ⟨u, hu, rfl⟩ := hj
              rw [hzc, getD_get?, hu]
              exact .val u)
            simpa using this
        · cases hd
      · cases hd
    · cases hd
  · cases hd

/-! ### A slice literal -/
def chunk (size : Nat) (l : List Dat) (n : Nat) : List (List Dat) := (List.range n).map fun i => (l.drop (i * size)).take size
def aBuildSlice (P : Program) (s : S) (t : TypeId) (len : Nat) (parts : List (Nat × Operand)) : Option (D × S) :=
  match infoOf P t with
  | some i => match i.kd with
    | .slice e esz => match infoOf P e with
      | some ei => if 0 < esz ∧ len * esz ≤ 16777216 ∧ ei.zero.length = esz then (match fillD (fun i => some (i * esz, esz)) (List.replicate (len * esz) .bad) (parts.map fun p => (p.1, ev s p.2)) with
        | some out => match giveC out s.hp with
          | some (ds, hp') => some (.own s.nx esz len, { s with hp := (s.nx, .row e esz (chunk esz ds len)) :: hp', nx := s.nx + 1 })
          | none => none
        | none => none) else none
      | none => none
    | _ => none
  | none => none

theorem giveL_good : ∀ (n : Nat) (l : List D) (hp hp' : List (Nat × HO)) (ds : List Dat), giveL n l hp = some (ds, hp') → ∀ d ∈ l, d.good = true
  | 0, _, _, _, _, h => by simp [giveL] at h
  | n + 1, [], _, _, _, _ => by simp
  | n + 1, x :: r, hp, hp', ds, h => by
    simp only [giveL] at h
    split at h
    · rename_i e hp1 h1
      split at h
      · rename_i es hp2 h2
        intro d hd
        rcases List.mem_cons.1 hd with rfl | hd
        · cases n with
          | zero => simp [give] at h1
          | succ n => cases d <;> first | rfl | simp [give] at h1
        · exact giveL_good n r _ _ _ h2 d hd
      · cases h
    · cases h

theorem giveC_good {l : List D} {hp hp' : List (Nat × HO)} {ds : List Dat} (h : giveC l hp = some (ds, hp')) : ∀ d ∈ l, d.good = true := by
  unfold giveC at h
  split at h
  · rename_i es he
    have := allDat_spec he
    subst this
    intro d hd
    simp only [List.mem_map] at hd
    obtain ⟨e, _, rfl⟩ := hd
    rfl
  · exact giveL_good _ _ _ _ _ h

theorem ok_buildSlice (h : Rel β ι s a w N) {o : Oper} {t : TypeId} {len : Nat} {parts : Array (Nat × Operand)} (ho : o.op = .buildSlice t len parts) {d : D} (hd : aBuildSlice P s t len parts.toList = some (d, s')) : Good β P o a w N d s' := by
  unfold aBuildSlice at hd
  split at hd
  · rename_i i hi
    split at hd
    · rename_i e esz hk
      split at hd
      · rename_i ei hei
        split at hd
        · rename_i hc
          obtain ⟨hpos, hlim, hzl⟩ := hc
          split at hd
          · rename_i out hf
            split at hd
            · rename_i ds hp' hg
              simp only [Option.some.injEq, Prod.mk.injEq] at hd
              obtain ⟨rfl, rfl⟩ := hd
              obtain ⟨hu, hez⟩ := kd_slice hi hk
              obtain ⟨z, hz, hzc⟩ := run_zero' hei w
              have hsz : ei.size = esz := by rw [hez, sz_of_info hei]
              -- the zero cells that the machine lays first
              obtain ⟨Z, hZ⟩ : ∃ Z : Array Value, Z = (Array.range (len * esz)).map (fun q => (if len * esz = 0 then (#[] : Array Value) else z.cells)[q % (if len * esz = 0 then (#[] : Array Value) else z.cells).size]!) := ⟨_, rfl⟩
              have hZl : Z.size = len * esz := by simp [hZ]
              have hC0 : RelC β.G ι s.nx w (List.replicate (len * esz) .bad) Z.toList := by
                refine ⟨by simp [hZl], fun j d hj => ?_⟩
                rw [List.getElem?_replicate] at hj
                split at hj
                · injection hj with hj
                  subst hj
                  exact ⟨.bad _, fun hb => by simp [D.good] at hb⟩
                · cases hj
              obtain ⟨vout, hv, hR⟩ := fill_rel (fun i => some (i * esz, esz)) a s h parts.toList _ out Z hC0 hf
              have hrun : (Instr.buildSlice t len (parts.map fun p => (p.1, a.eval p.2))).run P w = .ok (.slice (some ⟨w.heap.size, 0, none⟩) len len) (w.alloc (.cells vout e)) := by
                have g1 := run_underlying hu w
                have g2 := run_sizeOf' hei w
                unfold Instr.buildSlice
                simp only [Sem.run_bind, g1, Result.andThen_ok, g2, hsz]
                rw [if_neg (by omega)]
                have hfill : Instr.fill (fun i => some (i * esz, esz)) ((Array.range (len * esz)).map (fun q => (if len * esz = 0 then (#[] : Array Value) else z.cells)[q % (if len * esz = 0 then (#[] : Array Value) else z.cells).size]!)) (parts.map fun p => (p.1, a.eval p.2)).toList = some vout := by
                  rw [← hZ]
                  simpa using hv
                by_cases h0 : len * esz = 0
                · rw [if_pos h0]
                  simp only [if_pos h0] at hfill
                  simp only [Sem.run_bind, Sem.run_pure, Result.andThen_ok]
                  rw [hfill]
                  simp only [newRow, Sem.run_bind, run_newObj, Result.andThen_ok, Sem.run_pure]
                  rfl
                · rw [if_neg h0]
                  simp only [if_neg h0] at hfill
                  simp only [Sem.run_bind, Sem.run_pure, Result.andThen_ok, hz]
                  rw [hfill]
                  simp only [newRow, Sem.run_bind, run_newObj, Result.andThen_ok, Sem.run_pure]
                  rfl
              obtain ⟨ι1, hl1, hR1, hdl, hds⟩ := h.giveC hR.1 (fun j d hj => (hR.2 j d hj).1) hg
              have hol : out.length = len * esz := by
                have : ∀ (ps : List (Nat × D)) (cells out : List D), fillD (fun i => some (i * esz, esz)) cells ps = some out → out.length = cells.length := by
                  intro ps
                  induction ps with
                  | nil => intro cells out hf; simp only [fillD, Option.some.injEq] at hf; rw [hf]
                  | cons p r ih =>
                    intro cells out hf
                    obtain ⟨q, x⟩ := p
                    simp only [fillD] at hf
                    split at hf
                    · split at hf
                      · rename_i hcond
                        rw [ih _ _ hf, splice_length hcond.2]
                      · cases hf
                    · cases hf
                rw [this _ _ _ hf, List.length_replicate]
              have hvl : vout.size = len * esz := by have := hR.1; simpa [hol] using this
              refine ⟨.slice (some ⟨w.heap.size, 0, none⟩) len len, _, _, .inl ?_, hR1.new vout e (o := .row e esz (chunk esz ds len)) (fun ι' w' f hι hC => ?_), ?_⟩
              · unfold execOp
                simp only [ho]
                exact run_value hrun
              · have helem : ∀ i' cs, (chunk esz ds len)[i']? = some cs → i' < len ∧ cs = (ds.drop (i' * esz)).take esz := by
                  intro i' cs hi'
                  simp only [chunk, List.getElem?_map, Option.map_eq_some_iff] at hi'
                  obtain ⟨q, hq, rfl⟩ := hi'
                  obtain ⟨hlt, rfl⟩ := List.getElem?_eq_some_iff.1 hq
                  simp at hlt ⊢
                  exact hlt
                have hat : ∀ i' cs, (chunk esz ds len)[i']? = some cs → ∀ j d, cs[j]? = some d → ds[i' * esz + j]? = some d := by
                  intro i' cs hi' j d hj
                  obtain ⟨_, rfl⟩ := helem i' cs hi'
                  rw [List.getElem?_take] at hj
                  split at hj
                  · rwa [List.getElem?_drop] at hj
                  · cases hj
                refine .row e esz _ _ _ hι hC (fun c hc => ?_) hpos (by simp [chunk, hvl]) (fun i' cs hi' j d hj => ?_) (fun i' cs hi' j d hj => f.datR (hds _ d (hat i' cs hi' j d hj)))
                · obtain ⟨q, hq⟩ := List.mem_iff_getElem?.1 hc
                  obtain ⟨hlt, rfl⟩ := helem q c hq
                  have hlt' : q * esz + esz ≤ len * esz := by rw [← Nat.succ_mul]; exact Nat.mul_le_mul_right _ hlt
                  rw [List.length_take, List.length_drop, hdl, hol]
                  omega
                · have hd := hat i' cs hi' j d hj
                  have hlt : i' * esz + j < out.length := by rw [← hdl]; exact (List.getElem?_eq_some_iff.1 hd).1
                  exact (hR.2 _ out[i' * esz + j] (List.getElem?_eq_getElem hlt)).2 (giveC_good hg _ (List.getElem_mem hlt))
              · exact .own_at _ esz len _ len (Nat.lt_succ_self _) (by simp [name]) vout e (heap_alloc_new w _) (Nat.le_refl _) (by simp only [maxLen]; have : len * 1 ≤ len * esz := Nat.mul_le_mul_left _ hpos; omega) hvl
            · cases hd
          · cases hd
        · cases hd
      · cases hd
    · cases hd
  · cases hd

end Go.Proofs.Ytbkkekbeaabokaa.Sx
