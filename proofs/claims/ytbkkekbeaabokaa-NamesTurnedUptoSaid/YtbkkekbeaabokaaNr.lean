/- The names: a catalogue that the caller hands over, within the bound of the second form, is data, and small. -/
import Derived.Test.YtbkkekbeaabokaaNq0
import Derived.Test.YtbkkekbeaabokaaSyQ
import Derived.Test.YtbkkekbeaabokaaRows
import Derived.Test.YtbkkekbeaabokaaChecked
import Derived.JoinedCond
set_option linter.unusedVariables false
set_option linter.unusedSimpArgs false
namespace Go.Proofs.Ytbkkekbeaabokaa
open Go Go.Proofs.Ytbkkekbeaabokaa.Sx Go.ChangeShapes Go.WideShapes Go.ChangeAt Go.RowKit

theorem ownT : ownKnob Try.prog.godebug = none := by kernel_rfl
theorem laidT : laidOutB Try.prog = true := by kernel_rfl
abbrev argT : List TypeId := [29, 22, 23, 24, 25, 26, 27, 36, 37, 39, 41, 45, 51, 59, 60, 62, 64, 80, 84, 109, 3, 4, 9, 54]
theorem plainAll : plainB Try.prog argT = true := by kernel_rfl
theorem bulk_one {H : Type} (d : DataW H) : 1 ≤ Rows.uptoBulk d := by
  cases d with
  | lit l => cases l <;> simp [Rows.uptoBulk]
  | _ => simp [Rows.uptoBulk]
def bulkT (H : Type) : Bulk H where
  b := Rows.uptoBulk
  bl := Rows.uptoBulkAll
  one := bulk_one
  cons d r := by simp [Rows.uptoBulkAll]
  slice es sp := by simp only [Rows.uptoBulk]; omega
  agg ps := by simp only [Rows.uptoBulk]; omega
/-- An argument is data of its type, of its bulk. -/
theorem arg_data {H : Type} {enc : TypeId × Value → H} {W : World} {t : TypeId} {v : Value} {d0 : DataW H} {p : List MemPlace} (ht : argT.contains t = true) (h0 : DataW.Trod enc Try.prog W 0 (fun _ => true) true t v d0 p) :
    ∃ ds, CellsR (· < W.heap.size) W ds v.cells.toList ∧ Shaped Try.prog t ds ∧ dszL ds ≤ Rows.uptoBulk d0 := by
  obtain ⟨fuel, hf⟩ := h0
  exact open_cells (bulkT H) plainAll fuel t _ _ ht hf
theorem small1 {H : Type} {d : DataW H} (hk : Rows.uptoSmall H ([d] ++ []) = true) : Rows.uptoBulk d ≤ 1048576 := by
  have h := of_decide_eq_true hk
  simp only [Rows.uptoBulkAll, List.append_nil] at h
  omega
theorem small2 {H : Type} {d e : DataW H} (hk : Rows.uptoSmall H ([d, e] ++ []) = true) : Rows.uptoBulk d ≤ 1048576 ∧ Rows.uptoBulk e ≤ 1048576 := by
  have h := of_decide_eq_true hk
  simp only [Rows.uptoBulkAll, List.append_nil] at h
  omega
theorem small3 {H : Type} {d e f : DataW H} (hk : Rows.uptoSmall H ([d, e, f] ++ []) = true) : Rows.uptoBulk d ≤ 1048576 ∧ Rows.uptoBulk e ≤ 1048576 ∧ Rows.uptoBulk f ≤ 1048576 := by
  have h := of_decide_eq_true hk
  simp only [Rows.uptoBulkAll, List.append_nil] at h
  omega

theorem c3 : Try.prog.cellsOf 3 = 1 := by kernel_rfl
theorem c9 : Try.prog.cellsOf 9 = 1 := by kernel_rfl
theorem c4 : Try.prog.cellsOf 4 = 1 := by kernel_rfl
theorem c37 : Try.prog.cellsOf 37 = 1 := by kernel_rfl
theorem c36 : Try.prog.cellsOf 36 = 1 := by kernel_rfl
theorem c45 : Try.prog.cellsOf 45 = 1 := by kernel_rfl
theorem c60 : Try.prog.cellsOf 60 = 1 := by kernel_rfl
theorem c39 : Try.prog.cellsOf 39 = 6 := by kernel_rfl
theorem c41 : Try.prog.cellsOf 41 = 16 := by kernel_rfl
theorem c51 : Try.prog.cellsOf 51 = 4 := by kernel_rfl
theorem c64 : Try.prog.cellsOf 64 = 6 := by kernel_rfl
theorem c59 : Try.prog.cellsOf 59 = 2 := by kernel_rfl
theorem c80 : Try.prog.cellsOf 80 = 4 := by kernel_rfl
theorem c84 : Try.prog.cellsOf 84 = 2 := by kernel_rfl
theorem c109 : Try.prog.cellsOf 109 = 4 := by kernel_rfl
theorem c62 : Try.prog.cellsOf 62 = 7 := by kernel_rfl
theorem len1 {α : Type} {l : List α} {a : α} {n : Nat} (h : l[n]? = some a) : (l.drop n).take 1 = [a] := by
  obtain ⟨hn, rfl⟩ := List.getElem?_eq_some_iff.1 h
  rw [List.drop_eq_getElem_cons hn]; rfl
mutual
def ruleSz : Rule → Nat
  | .mk _ _ _ _ _ kids => 6 + ruleSzL kids
def ruleSzL : List Rule → Nat
  | [] => 0
  | r :: rs => ruleSz r + ruleSzL rs
end
theorem parts_pos (r : Rule) : 1 ≤ (partsOf r).length := by rw [partsOf_eq]; simp
set_option maxRecDepth 100000 in
/-- A rule. -/
theorem shaped_rule : ∀ (n : Nat) (ds : List Dat), dszL ds ≤ n → Shaped Try.prog 39 ds → ∃ r : Rule, ds = ruleD r ∧ (partsOf r).length ≤ dszL ds
  | 0, ds, hn, h => by
    have := (shaped_struct Try.underlying39 h).1
    rw [c39] at this
    have := dszL_len ds
    omega
  | n + 1, ds, hn, h => by
    obtain ⟨hl, hf⟩ := shaped_struct Try.underlying39 h
    rw [c39] at hl
    obtain ⟨a0, h0, _⟩ := shaped_int Try.underlying3 (hf 0 _ rfl)
    obtain ⟨a1, h1, _⟩ := shaped_int Try.underlying3 (hf 1 _ rfl)
    obtain ⟨a2, h2, _⟩ := shaped_string Try.underlying9 (hf 2 _ rfl)
    obtain ⟨a3, h3, _⟩ := shaped_int Try.underlying3 (hf 3 _ rfl)
    obtain ⟨a4, h4, _⟩ := shaped_int Try.underlying3 (hf 4 _ rfl)
    obtain ⟨es, h5, _, hes⟩ := shaped_slice Try.underlying37 (hf 5 _ rfl)
    match ds, hl with
    | [x0, x1, x2, x3, x4, x5], _ =>
      simp [c3, c9, c37, c39] at h0 h1 h2 h3 h4 h5
      subst h0 h1 h2 h3 h4 h5
      have hz : dszLL es + 6 ≤ n + 1 := by simp only [dszL, dsz] at hn; omega
      have key : ∀ es : List (List Dat), dszLL es ≤ n → (∀ cs ∈ es, Shaped Try.prog 39 cs) → ∃ l : List Rule, es = l.map ruleD ∧ (partsL l).length ≤ dszLL es := by
        intro es
        induction es with
        | nil => exact fun _ _ => ⟨[], rfl, Nat.le_refl _⟩
        | cons cs r ih =>
          intro hz hs
          simp only [dszLL] at hz
          obtain ⟨x, rfl, hx⟩ := shaped_rule n cs (by omega) (hs cs (by simp))
          obtain ⟨l, rfl, hl⟩ := ih (by omega) (fun c hc => hs c (List.mem_cons_of_mem _ hc))
          refine ⟨x :: l, rfl, ?_⟩
          simp only [partsL, List.length_append, dszLL]
          omega
      obtain ⟨l, rfl, hl⟩ := key es (by omega) hes
      refine ⟨.mk a0 a1 a2 a3 a4 l, by simp [ruleD, kidsD, rulesD_map, Rule.op, Rule.course, Rule.name, Rule.n, Rule.d], ?_⟩
      simp only [partsOf, List.length_cons, dszL, dsz]
      omega
set_option maxRecDepth 100000 in
theorem shaped_course {M : Nat} {ds : List Dat} (h : Shaped Try.prog 41 ds) (hz : dszL ds ≤ M) : ∃ y : Course, ds = courseD y ∧ (partsOf y.need).length ≤ M ∧ (partsOf y.bar).length ≤ M := by
  obtain ⟨hl, hf⟩ := shaped_struct Try.underlying41 h
  rw [c41] at hl
  obtain ⟨a0, h0, _⟩ := shaped_string Try.underlying9 (hf 0 _ rfl)
  obtain ⟨a1, h1, _⟩ := shaped_int Try.underlying3 (hf 1 _ rfl)
  obtain ⟨a2, h2, _⟩ := shaped_int Try.underlying3 (hf 2 _ rfl)
  obtain ⟨a3, h3, _⟩ := shaped_int Try.underlying3 (hf 3 _ rfl)
  obtain ⟨r, h4, z4⟩ := shaped_rule _ _ (Nat.le_refl _) (hf 4 _ rfl)
  obtain ⟨b, h5, z5⟩ := shaped_rule _ _ (Nat.le_refl _) (hf 5 _ rfl)
  match ds, hl with
  | [x0, x1, x2, x3, x4, x5, x6, x7, x8, x9, y0, y1, y2, y3, y4, y5], _ =>
    simp [c3, c9, c39] at h0 h1 h2 h3 h4 h5 z4 z5
    obtain ⟨rfl, rfl, rfl, rfl, rfl, rfl⟩ := h4
    obtain ⟨rfl, rfl, rfl, rfl, rfl, rfl⟩ := h5
    subst h0 h1 h2 h3
    refine ⟨⟨a0, a1, a2, a3, r, b⟩, rfl, ?_, ?_⟩
    · show (partsOf r).length ≤ M; simp only [dszL, dsz] at z4 hz; omega
    · show (partsOf b).length ≤ M; simp only [dszL, dsz] at z5 hz; omega
set_option maxRecDepth 100000 in
theorem shaped_pair {ds : List Dat} (h : Shaped Try.prog 51 ds) : ∃ y : Pair, ds = pairD y := by
  obtain ⟨hl, hf⟩ := shaped_struct Try.underlying51 h
  rw [c51] at hl
  obtain ⟨a0, h0, _⟩ := shaped_string Try.underlying9 (hf 0 _ rfl)
  obtain ⟨a1, h1, _⟩ := shaped_string Try.underlying9 (hf 1 _ rfl)
  obtain ⟨a2, h2, _⟩ := shaped_int Try.underlying3 (hf 2 _ rfl)
  obtain ⟨a3, h3, _⟩ := shaped_int Try.underlying3 (hf 3 _ rfl)
  match ds, hl with
  | [x0, x1, x2, x3], _ =>
    simp [c3, c9] at h0 h1 h2 h3
    subst h0 h1 h2 h3
    exact ⟨⟨a0, a1, a2, a3⟩, rfl⟩
set_option maxRecDepth 100000 in
theorem shaped_class {ds : List Dat} (h : Shaped Try.prog 80 ds) : ∃ y : Class, ds = classD y := by
  obtain ⟨hl, hf⟩ := shaped_struct Try.underlying80 h
  rw [c80] at hl
  obtain ⟨a0, h0, _⟩ := shaped_string Try.underlying9 (hf 0 _ rfl)
  obtain ⟨a1, h1, _⟩ := shaped_int Try.underlying3 (hf 1 _ rfl)
  obtain ⟨hl2, hf2⟩ := shaped_struct Try.underlying59 (hf 2 _ rfl)
  obtain ⟨a2, h2, _⟩ := shaped_int Try.underlying3 (hf2 0 _ rfl)
  obtain ⟨a3, h3, _⟩ := shaped_int Try.underlying3 (hf2 1 _ rfl)
  match ds, hl with
  | [x0, x1, x2, x3], _ =>
    simp [c3, c9, c59] at h0 h1 h2 h3
    subst h0 h1 h2 h3
    exact ⟨⟨a0, a1, a2, a3⟩, rfl⟩
set_option maxRecDepth 100000 in
theorem shaped_fee {ds : List Dat} (h : Shaped Try.prog 84 ds) : ∃ y : Fee, ds = feeD y := by
  obtain ⟨hl, hf⟩ := shaped_struct Try.underlying84 h
  rw [c84] at hl
  obtain ⟨a0, h0, _⟩ := shaped_string Try.underlying9 (hf 0 _ rfl)
  obtain ⟨a1, h1, _⟩ := shaped_int Try.underlying3 (hf 1 _ rfl)
  match ds, hl with
  | [x0, x1], _ =>
    simp [c3, c9] at h0 h1
    subst h0 h1
    exact ⟨⟨a0, a1⟩, rfl⟩
set_option maxRecDepth 100000 in
theorem shaped_clause {ds : List Dat} (h : Shaped Try.prog 109 ds) : ∃ y : Clause, ds = clauseD y := by
  obtain ⟨hl, hf⟩ := shaped_struct Try.underlying109 h
  rw [c109] at hl
  obtain ⟨a0, h0, _⟩ := shaped_int Try.underlying3 (hf 0 _ rfl)
  obtain ⟨a1, h1, _⟩ := shaped_int Try.underlying3 (hf 1 _ rfl)
  obtain ⟨a2, h2, _⟩ := shaped_int Try.underlying3 (hf 2 _ rfl)
  obtain ⟨a3, h3, _⟩ := shaped_int Try.underlying3 (hf 3 _ rfl)
  match ds, hl with
  | [x0, x1, x2, x3], _ =>
    simp [c3] at h0 h1 h2 h3
    subst h0 h1 h2 h3
    exact ⟨⟨a0, a1, a2, a3⟩, rfl⟩
theorem shaped_strs {es : List (List Dat)} (h : ∀ cs ∈ es, Shaped Try.prog 9 cs) : ∃ l : List ByteArray, es = l.map fun s => [sD s] := by
  obtain ⟨l, h1, _⟩ := shaped_rows (f := fun s : ByteArray => [sD s]) (Q := fun _ => True) h (Nat.le_refl _) (fun cs hs _ => by
    obtain ⟨s, hs, _⟩ := shaped_string Try.underlying9 hs
    exact ⟨s, hs, trivial⟩)
  exact ⟨l, h1⟩
theorem shaped_ints {es : List (List Dat)} (h : ∀ cs ∈ es, Shaped Try.prog 3 cs) : ∃ l : List Int, es = l.map fun n => [iD n] := by
  obtain ⟨l, h1, _⟩ := shaped_rows (f := fun n : Int => [iD n]) (Q := fun _ => True) h (Nat.le_refl _) (fun cs hs _ => by
    obtain ⟨s, hs, _⟩ := shaped_int Try.underlying3 hs
    exact ⟨s, hs, trivial⟩)
  exact ⟨l, h1⟩
theorem map_len {α : Type} {f : α → List Dat} {l : List α} {M : Nat} (hf : ∀ a, 0 < (f a).length) (h : dszLL (l.map f) ≤ M) : l.length ≤ M := by
  have := dszLL_len (es := l.map f) (fun cs hcs => by
    obtain ⟨a, _, rfl⟩ := List.mem_map.1 hcs
    exact hf a)
  simp only [List.length_map] at this
  omega
set_option maxRecDepth 100000 in
theorem shaped_req {M : Nat} {ds : List Dat} (h : Shaped Try.prog 64 ds) (hz : dszL ds ≤ M) : ∃ q : Req, ds = reqD q ∧ q.names.length ≤ M ∧ q.frm.length ≤ M := by
  obtain ⟨hl, hf⟩ := shaped_struct Try.underlying64 h
  rw [c64] at hl
  obtain ⟨a0, h0, _⟩ := shaped_string Try.underlying9 (hf 0 _ rfl)
  obtain ⟨a1, h1, _⟩ := shaped_int Try.underlying3 (hf 1 _ rfl)
  obtain ⟨a2, h2, _⟩ := shaped_int Try.underlying3 (hf 2 _ rfl)
  obtain ⟨a3, h3⟩ := shaped_bool Try.underlying4 (hf 3 _ rfl)
  obtain ⟨es, h4, _, hes⟩ := shaped_slice Try.underlying36 (hf 4 _ rfl)
  obtain ⟨fs, h5, _, hfs⟩ := shaped_slice Try.underlying45 (hf 5 _ rfl)
  obtain ⟨ns, rfl⟩ := shaped_strs hes
  obtain ⟨is, rfl⟩ := shaped_ints hfs
  match ds, hl with
  | [x0, x1, x2, x3, x4, x5], _ =>
    simp [c3, c4, c9, c36, c45] at h0 h1 h2 h3 h4 h5
    subst h0 h1 h2 h3 h4 h5
    simp only [dszL, dsz] at hz
    have m1 : ns.length ≤ M := map_len (f := fun s => [sD s]) (by simp) (by omega)
    have m2 : is.length ≤ M := map_len (f := fun s => [iD s]) (by simp) (by omega)
    exact ⟨⟨a0, a1, a2, a3, ns, is⟩, rfl, m1, m2⟩
set_option maxRecDepth 100000 in
theorem shaped_prog {M : Nat} {ds : List Dat} (h : Shaped Try.prog 62 ds) (hz : dszL ds ≤ M) : ∃ p : Prog, ds = progD p ∧ p.reqs.length ≤ M ∧ ∀ q ∈ p.reqs, q.names.length ≤ M ∧ q.frm.length ≤ M := by
  obtain ⟨hl, hf⟩ := shaped_struct Try.underlying62 h
  rw [c62] at hl
  obtain ⟨a0, h0, _⟩ := shaped_string Try.underlying9 (hf 0 _ rfl)
  obtain ⟨a1, h1, _⟩ := shaped_int Try.underlying3 (hf 1 _ rfl)
  obtain ⟨a2, h2, _⟩ := shaped_int Try.underlying3 (hf 2 _ rfl)
  obtain ⟨a3, h3, _⟩ := shaped_int Try.underlying3 (hf 3 _ rfl)
  obtain ⟨hl4, hf4⟩ := shaped_struct Try.underlying59 (hf 4 _ rfl)
  obtain ⟨a4, h4, _⟩ := shaped_int Try.underlying3 (hf4 0 _ rfl)
  obtain ⟨a5, h5, _⟩ := shaped_int Try.underlying3 (hf4 1 _ rfl)
  obtain ⟨es, h6, _, hes⟩ := shaped_slice Try.underlying60 (hf 5 _ rfl)
  match ds, hl with
  | [x0, x1, x2, x3, x4, x5, x6], _ =>
    simp [c3, c9, c59, c60, c64] at h0 h1 h2 h3 h4 h5 h6
    subst h0 h1 h2 h3 h4 h5 h6
    simp only [dszL, dsz] at hz
    obtain ⟨l, rfl, hq⟩ := shaped_rows (f := reqD) (M := M) hes (by omega) (fun cs hs hz => shaped_req hs hz)
    have m1 : l.length ≤ M := map_len (f := reqD) (by simp) (by omega)
    exact ⟨⟨a0, a1, a2, a3, a4, a5, l⟩, rfl, m1, hq⟩
theorem shaped_list {e : TypeId} {α : Type} {f : α → List Dat} {es : List (List Dat)} (hf : ∀ ds, Shaped Try.prog e ds → ∃ a, ds = f a) (h : ∀ cs ∈ es, Shaped Try.prog e cs) : ∃ l : List α, es = l.map f := by
  obtain ⟨l, h1, _⟩ := shaped_rows (f := f) (Q := fun _ => True) h (Nat.le_refl _) (fun cs hs _ => by
    obtain ⟨a, ha⟩ := hf cs hs
    exact ⟨a, ha, trivial⟩)
  exact ⟨l, h1⟩
theorem c29 : Try.prog.cellsOf 29 = 7 := by kernel_rfl
theorem c22 : Try.prog.cellsOf 22 = 1 := by kernel_rfl
theorem c23 : Try.prog.cellsOf 23 = 1 := by kernel_rfl
theorem c24 : Try.prog.cellsOf 24 = 1 := by kernel_rfl
theorem c25 : Try.prog.cellsOf 25 = 1 := by kernel_rfl
theorem c26 : Try.prog.cellsOf 26 = 1 := by kernel_rfl
theorem c27 : Try.prog.cellsOf 27 = 1 := by kernel_rfl
set_option maxRecDepth 100000 in
/-- A catalogue. -/
theorem shaped_cat {ds : List Dat} (h : Shaped Try.prog 29 ds) (hz : dszL ds ≤ 1048576) : ∃ c : Cat, ds = catD c ∧ c.fit := by
  obtain ⟨hl, hf⟩ := shaped_struct Try.underlying29 h
  rw [c29] at hl
  obtain ⟨e0, h0, _, k0⟩ := shaped_slice Try.underlying22 (hf 0 _ rfl)
  obtain ⟨e1, h1, _, k1⟩ := shaped_slice Try.underlying23 (hf 1 _ rfl)
  obtain ⟨e2, h2, _, k2⟩ := shaped_slice Try.underlying24 (hf 2 _ rfl)
  obtain ⟨e3, h3, _, k3⟩ := shaped_slice Try.underlying25 (hf 3 _ rfl)
  obtain ⟨e4, h4, _, k4⟩ := shaped_slice Try.underlying26 (hf 4 _ rfl)
  obtain ⟨e5, h5, _, k5⟩ := shaped_slice Try.underlying25 (hf 5 _ rfl)
  obtain ⟨e6, h6, _, k6⟩ := shaped_slice Try.underlying27 (hf 6 _ rfl)
  obtain ⟨l1, rfl⟩ := shaped_list (f := pairD) (fun _ h => shaped_pair h) k1
  obtain ⟨l3, rfl⟩ := shaped_list (f := classD) (fun _ h => shaped_class h) k3
  obtain ⟨l4, rfl⟩ := shaped_list (f := feeD) (fun _ h => shaped_fee h) k4
  obtain ⟨l5, rfl⟩ := shaped_list (f := classD) (fun _ h => shaped_class h) k5
  obtain ⟨l6, rfl⟩ := shaped_list (f := clauseD) (fun _ h => shaped_clause h) k6
  match ds, hl with
  | [x0, x1, x2, x3, x4, x5, x6], _ =>
    simp [c22, c23, c24, c25, c26, c27, c41, c51, c62, c80, c84, c109] at h0 h1 h2 h3 h4 h5 h6
    subst h0 h1 h2 h3 h4 h5 h6
    simp only [dszL, dsz] at hz
    obtain ⟨l0, rfl, q0⟩ := shaped_rows (f := courseD) (M := 1048576) k0 (by omega) (fun cs hs hz => shaped_course hs hz)
    obtain ⟨l2, rfl, q2⟩ := shaped_rows (f := progD) (M := 1048576) k2 (by omega) (fun cs hs hz => shaped_prog hs hz)
    have m0 : l0.length ≤ 1048576 := map_len (f := courseD) (by simp) (by omega)
    have m1 : l1.length ≤ 1048576 := map_len (f := pairD) (by simp) (by omega)
    have m2 : l2.length ≤ 1048576 := map_len (f := progD) (by simp) (by omega)
    have m3 : l3.length ≤ 1048576 := map_len (f := classD) (by simp) (by omega)
    have m4 : l4.length ≤ 1048576 := map_len (f := feeD) (by simp) (by omega)
    have m5 : l5.length ≤ 1048576 := map_len (f := classD) (by simp) (by omega)
    have m6 : l6.length ≤ 1048576 := map_len (f := clauseD) (by simp) (by omega)
    exact ⟨⟨l0, l1, l2, l3, l4, l5, l6⟩, rfl, m0, q0, m1, m2, q2, m3, m4, m5, m6⟩
theorem cells_agg {W : World} {ds : List Dat} {v : Array Value} (h : CellsR (· < W.heap.size) W ds (Value.agg v).cells.toList) : DatR (· < W.heap.size) W (.agg ds) (.agg v) := by
  have := DatR.agg (ok := (· < W.heap.size)) (w := W) ds v.toList (by have := h.len; simpa [Value.cells] using this.symm) (fun u hu => ?_) (fun j d hj => (h.at_ j d hj).1)
  · simpa using this
  · obtain ⟨j, hj⟩ := List.mem_iff_getElem?.1 hu
    have hl := h.len
    have hlt := (List.getElem?_eq_some_iff.1 hj).1
    have h2 := (h.at_ j _ (List.getElem?_eq_getElem (by rw [hl]; exact hlt))).2
    have : (Value.agg v).cells.toList.getD j undef = u := by
      simp only [Value.cells, List.getD_eq_getElem?_getD]
      rw [hj]; rfl
    rwa [this] at h2
theorem cells_one {W : World} {d : Dat} {v : Value} (h : CellsR (· < W.heap.size) W [d] v.cells.toList) (h1 : v.oneCell' = true) : DatR (· < W.heap.size) W d v := by
  have := (h.at_ 0 d rfl).1
  rw [one_cells h1] at this
  exact this
set_option maxRecDepth 100000 in
/-- A catalogue that the caller hands over. -/
theorem cat_arg {H : Type} {enc : TypeId × Value → H} {W : World} {cs : Array Value} {d0 : DataW H} {p : List MemPlace} (hk : Rows.uptoBulk d0 ≤ 1048576) (h0 : DataW.Trod enc Try.prog W 0 (fun _ => true) true 29 (.agg cs) d0 p) :
    ∃ c : Cat, DatR (· < W.heap.size) W (.agg (catD c)) (.agg cs) ∧ c.fit := by
  obtain ⟨ds, hc, hs, hz⟩ := arg_data (by decide) h0
  obtain ⟨c, rfl, hf⟩ := shaped_cat hs (Nat.le_trans hz hk)
  exact ⟨c, cells_agg hc, hf⟩
end Go.Proofs.Ytbkkekbeaabokaa
