/- Sy, part Q: an argument, as the statement reads it, is data. -/
import Derived.Test.YtbkkekbeaabokaaSyP
import Derived.ProofKit
set_option linter.unusedVariables false
set_option linter.unusedSimpArgs false
namespace Go.Proofs.Ytbkkekbeaabokaa.Sx
open Go Go.RowKit

variable {P : Program} {w : World}

/-- The data of a type, cell by cell. -/
inductive Shaped (P : Program) : TypeId → List Dat → Prop where
  | int {t : TypeId} {k : IntKind} (ht : P.underlying t = some (.int k)) (n : Int) (hn : (Lit.int k n).wf = true) : Shaped P t [.val (.int k n)]
  | bool {t : TypeId} (ht : P.underlying t = some .bool) (b : Bool) : Shaped P t [.val (.bool b)]
  | string {t : TypeId} (ht : P.underlying t = some .string) (s : ByteArray) (hs : s.size ≤ maxLen) : Shaped P t [.val (.string s)]
  | slice {t e : TypeId} (ht : P.underlying t = some (.slice e)) (es : List (List Dat)) (hl : es.length ≤ 9223372036854775807) (h : ∀ cs ∈ es, Shaped P e cs) : Shaped P t [.sl (P.cellsOf e) es]
  | struct {t : TypeId} {fs : Array Field} (ht : P.underlying t = some (.struct fs)) (cs : List Dat) (hl : cs.length = P.cellsOf t) (h : ∀ (i : Nat) (f : Field), fs[i]? = some f → Shaped P f.type ((cs.drop f.offset).take (P.cellsOf f.type))) : Shaped P t cs

/-- The cells read as the data. -/
structure CellsR (ok : Nat → Prop) (w : World) (ds : List Dat) (cs : List Value) : Prop where
  len : ds.length = cs.length
  at_ : ∀ j d, ds[j]? = some d → DatR ok w d (cs.getD j undef) ∧ (cs.getD j undef).oneCell' = true

/-! ### How much data is -/
mutual
def dsz : Dat → Nat
  | .sl _ es => dszLL es + 1
  | _ => 1
def dszL : List Dat → Nat
  | [] => 0
  | d :: r => dsz d + dszL r
def dszLL : List (List Dat) → Nat
  | [] => 0
  | cs :: r => dszL cs + dszLL r
end
theorem dsz_one (d : Dat) : 1 ≤ dsz d := by cases d <;> simp [dsz]
theorem dszL_len : ∀ l : List Dat, l.length ≤ dszL l
  | [] => Nat.le_refl _
  | d :: r => by
    have := dsz_one d
    have := dszL_len r
    simp only [dszL, List.length_cons]; omega
theorem dszL_app : ∀ a b : List Dat, dszL (a ++ b) = dszL a + dszL b
  | [], b => by simp [dszL]
  | d :: r, b => by simp only [List.cons_append, dszL, dszL_app r b]; omega
theorem dszLL_len : ∀ {es : List (List Dat)}, (∀ cs ∈ es, 0 < cs.length) → es.length ≤ dszLL es
  | [], _ => Nat.le_refl _
  | cs :: r, h => by
    have := dszLL_len (es := r) fun c hc => h c (List.mem_cons_of_mem _ hc)
    have := h cs (by simp)
    have := dszL_len cs
    simp only [dszLL, List.length_cons]; omega
theorem dszLL_mem : ∀ {es : List (List Dat)} {cs : List Dat}, cs ∈ es → dszL cs ≤ dszLL es
  | c :: r, cs, h => by
    rcases List.mem_cons.1 h with rfl | h
    · simp [dszLL]
    · have := dszLL_mem h
      simp only [dszLL]; omega
/-- What a reading's bulk is to be. -/
structure Bulk (H : Type) where
  b : DataW H → Nat
  bl : List (DataW H) → Nat
  one : ∀ d, 1 ≤ b d
  cons : ∀ d r, bl (d :: r) = b d + bl r
  slice : ∀ es sp, bl es + 1 ≤ b (.slice es sp)
  agg : ∀ ps, bl ps ≤ b (.agg ps)

/-- The fields lie one behind the other, and fill the struct. -/
def tile (P : Program) (off total : Nat) : List Field → Bool
  | [] => off == total
  | f :: r => f.offset == off && tile P (off + P.cellsOf f.type) total r
theorem tile_le {P : Program} {total : Nat} : ∀ {fs : List Field} {off : Nat}, tile P off total fs = true → off ≤ total
  | [], off, h => by simp [tile] at h; omega
  | f :: r, off, h => by simp [tile] at h; have := tile_le h.2; omega
theorem tile_mem {P : Program} {total : Nat} : ∀ {fs : List Field} {off : Nat}, tile P off total fs = true → ∀ f ∈ fs, off ≤ f.offset
  | [], off, h, f, hf => by cases hf
  | g :: r, off, h, f, hf => by
    simp [tile] at h
    rcases List.mem_cons.1 hf with rfl | hf
    · omega
    · have := tile_mem h.2 f hf; omega
theorem open_fields {H : Type} (Bk : Bulk H) {ok : Nat → Prop} {cs : List Value} {total : Nat} (hc : cs.length = total) : ∀ (fs : List Field) (xs : List (DataW H)) (off : Nat), fs.length = xs.length → tile P off total fs = true →
    (∀ (i : Nat) (f : Field) (x : DataW H), fs[i]? = some f → xs[i]? = some x → ∃ ds, CellsR ok w ds ((cs.drop f.offset).take (P.cellsOf f.type)) ∧ Shaped P f.type ds ∧ dszL ds ≤ Bk.b x) →
    ∃ ds, CellsR ok w ds (cs.drop off) ∧ (∀ f ∈ fs, Shaped P f.type ((ds.drop (f.offset - off)).take (P.cellsOf f.type))) ∧ dszL ds ≤ Bk.bl xs
  | [], _, off, _, ht, _ => by
    have : off = total := by simpa [tile] using ht
    refine ⟨[], ⟨by simp; omega, fun j d hj => by simp at hj⟩, (fun f hf => by cases hf), by simp [dszL]⟩
  | f :: r, [], off, hl, _, _ => by simp at hl
  | f :: r, x :: xs, off, hxl, ht, h => by
    have ht' := ht
    simp only [tile, Bool.and_eq_true, beq_iff_eq] at ht'
    obtain ⟨ho, hr⟩ := ht'
    have hle := tile_le hr
    obtain ⟨d1, c1, s1, z1⟩ := h 0 f x rfl rfl
    obtain ⟨d2, c2, s2, z2⟩ := open_fields Bk hc r xs _ (by simpa using hxl) hr (fun i g y hg hy => h (i + 1) g y (by simpa using hg) (by simpa using hy))
    rw [ho] at c1
    have hl1 : d1.length = P.cellsOf f.type := by rw [c1.len]; simp; omega
    have hsplit : cs.drop off = (cs.drop off).take (P.cellsOf f.type) ++ cs.drop (off + P.cellsOf f.type) := by
      rw [← List.drop_drop, List.take_append_drop]
    refine ⟨d1 ++ d2, ⟨by rw [hsplit, List.length_append, List.length_append, c1.len, c2.len], fun j d hj => ?_⟩, fun g hg => ?_, by rw [dszL_app, Bk.cons]; omega⟩
    · by_cases hjl : j < d1.length
      · rw [List.getElem?_append_left hjl] at hj
        have := c1.at_ j d hj
        rw [hsplit, getD_get?, List.getElem?_append_left (by rw [← c1.len]; exact hjl), ← getD_get?]
        exact this
      · rw [List.getElem?_append_right (by omega)] at hj
        have := c2.at_ _ d hj
        rw [hsplit, getD_get?, List.getElem?_append_right (by rw [← c1.len]; omega), ← c1.len, ← getD_get?]
        exact this
    · rcases List.mem_cons.1 hg with rfl | hg
      · rw [ho, Nat.sub_self, List.drop_zero, List.take_append_of_le_length (by omega), List.take_of_length_le (by omega)]
        exact s1
      · have hge := tile_mem hr g hg
        have := s2 g hg
        rw [List.drop_append, List.drop_of_length_le (by omega), List.nil_append, hl1, Nat.sub_sub]
        exact this

/-- Types whose parts are among them. -/
def plainT (P : Program) (T : List TypeId) (t : TypeId) : Bool := match P.underlying t with
  | some .bool | some .string | some (.int _) => true
  | some (.slice e) => decide (0 < P.cellsOf e) && T.contains e
  | some (.struct fs) => tile P 0 (P.cellsOf t) fs.toList && fs.toList.all fun f => T.contains f.type
  | _ => false
def plainB (P : Program) (T : List TypeId) : Bool := T.all (plainT P T)
theorem bulk_rows {H : Type} (Bk : Bulk H) : ∀ (es : List (List Dat)) (xs : List (DataW H)), es.length = xs.length → (∀ (i : Nat) (cs : List Dat) (x : DataW H), es[i]? = some cs → xs[i]? = some x → dszL cs ≤ Bk.b x) → dszLL es ≤ Bk.bl xs
  | [], _, _, _ => by simp [dszLL]
  | cs :: r, [], h, _ => by simp at h
  | cs :: r, x :: xs, h, hz => by
    have h1 := bulk_rows Bk r xs (by simpa using h) (fun i c y hc hy => hz (i + 1) c y (by simpa using hc) (by simpa using hy))
    have h2 := hz 0 cs x rfl rfl
    simp only [dszLL, Bk.cons]; omega

section
variable {H : Type} {enc : TypeId × Value → H} {base : Nat} {spare : Nat → Bool} {held : Bool}
theorem plain_at {a : Addr} {v : Value} (h : w.cell? a = some v) : a.spot = none ∧ a.block < w.heap.size := by
  unfold World.cell? at h
  split at h
  · rename_i c e fr hc
    refine ⟨?_, (Array.getElem?_eq_some_iff.1 hc).1⟩
    by_cases hs : a.spot.isSome = true
    · rw [if_pos hs] at h; cases h
    · cases h2 : a.spot with
      | none => rfl
      | some _ => rw [h2] at hs; simp at hs
  · cases h
theorem open_cells (Bk : Bulk H) {T : List TypeId} (hT : plainB P T = true) : ∀ (fuel : Nat) (t : TypeId) (cs : List Value) (x : DataW H × List MemPlace), T.contains t = true → DataW.trod enc P w base spare held fuel t cs = some x → ∃ ds, CellsR (· < w.heap.size) w ds cs ∧ Shaped P t ds ∧ dszL ds ≤ Bk.b x.1
  | 0, _, _, _, _, h => by simp [DataW.trod] at h
  | n + 1, t, cs, x, ht0, h => by
    have hp : plainT P T t = true := by
      simp only [plainB, List.all_eq_true] at hT
      exact hT t (by simpa using ht0)
    have h1z : ∀ d : Dat, dsz d = 1 → dszL [d] ≤ Bk.b x.1 := fun d hd => by simp only [dszL, hd]; exact Bk.one _
    unfold plainT at hp
    split at hp
    · rename_i ht
      obtain ⟨b, rfl, _⟩ := DataW.trod_bool ht h
      exact ⟨[.val (.bool b)], ⟨rfl, fun j d hj => by
        cases j with
        | zero => simp at hj; subst hj; exact ⟨.val _, rfl⟩
        | succ j => simp at hj⟩, .bool ht b, h1z _ rfl⟩
    · rename_i ht
      obtain ⟨s, rfl, _, hs⟩ := DataW.trod_string ht h
      exact ⟨[.val (.string s)], ⟨rfl, fun j d hj => by
        cases j with
        | zero => simp at hj; subst hj; exact ⟨.val _, rfl⟩
        | succ j => simp at hj⟩, .string ht s hs, h1z _ rfl⟩
    · rename_i k ht
      obtain ⟨m, rfl, _, hm⟩ := DataW.trod_int ht h
      exact ⟨[.val (.int k m)], ⟨rfl, fun j d hj => by
        cases j with
        | zero => simp at hj; subst hj; exact ⟨.val _, rfl⟩
        | succ j => simp at hj⟩, .int ht m hm, h1z _ rfl⟩
    · rename_i e ht
      simp only [Bool.and_eq_true, decide_eq_true_eq] at hp
      obtain ⟨hpos, hpe⟩ := hp
      rcases DataW.trod_slice ht h with ⟨rfl, _⟩ | ⟨a, len, cap, elems, rest, m, hm0, rfl, hx0, _, hlc, hcm, hel, hat, _, _⟩
      · exact ⟨[.sl (P.cellsOf e) []], ⟨rfl, fun j d hj => by
          cases j with
          | zero => simp at hj; subst hj; exact ⟨.slnil _ _ _, rfl⟩
          | succ j => simp at hj⟩, .slice ht [] (by simp) (fun cs hcs => by cases hcs), h1z _ rfl⟩
      · have elem : ∀ i, i < len → ∃ ds cs', w.cells? base (a.add (i * P.cellsOf e)) (P.cellsOf e) = some cs' ∧ CellsR (· < w.heap.size) w ds cs' ∧ Shaped P e ds ∧ ∀ y, elems[i]? = some y → dszL ds ≤ Bk.b y.1 := by
          intro i hi
          have h1 := hat i hi
          rw [List.getElem?_eq_getElem (by omega)] at h1
          obtain ⟨cs', h2, h3⟩ := Option.bind_eq_some_iff.1 h1
          obtain rfl : n = m := by omega
          obtain ⟨ds, h4, h5, h6⟩ := open_cells Bk hT n e cs' _ hpe h3
          exact ⟨ds, cs', h2, h4, h5, fun y hy => by rw [List.getElem?_eq_getElem (by omega)] at hy; injection hy with hy; rw [← hy]; exact h6⟩
        obtain ⟨D, hD⟩ : ∃ D : Nat → List Dat × List Value, ∀ i, i < len → w.cells? base (a.add (i * P.cellsOf e)) (P.cellsOf e) = some (D i).2 ∧ CellsR (· < w.heap.size) w (D i).1 (D i).2 ∧ Shaped P e (D i).1 ∧ ∀ y, elems[i]? = some y → dszL (D i).1 ≤ Bk.b y.1 := by
          classical
          refine ⟨fun i => if hi : i < len then ((elem i hi).choose, (elem i hi).choose_spec.choose) else ([], []), fun i hi => ?_⟩
          simp only [dif_pos hi]
          exact (elem i hi).choose_spec.choose_spec
        by_cases h0 : len = 0
        · subst h0
          exact ⟨[.sl (P.cellsOf e) []], ⟨rfl, fun j d hj => by
            cases j with
            | zero => simp at hj; subst hj; exact ⟨.slnil _ _ _, rfl⟩
            | succ j => simp at hj⟩, .slice ht [] (by simp) (fun cs hcs => by cases hcs), h1z _ rfl⟩
        · obtain ⟨q1, q2, q3⟩ := hD 0 (by omega)
          obtain ⟨_, hl0, hc0⟩ := World.cells?_some q1
          have hc00 := hc0 0 hpos
          rw [List.getElem?_eq_getElem (by omega)] at hc00
          have ha : (a.add (0 * P.cellsOf e)).add 0 = a := by rw [Nat.zero_mul]; rfl
          rw [ha] at hc00
          obtain ⟨hsp, hbl⟩ := plain_at hc00
          obtain ⟨B, o, sp⟩ := a
          simp only at hsp hbl
          subst hsp
          have hdl : ∀ i, i < len → (D i).1.length = P.cellsOf e := fun i hi => by rw [(hD i hi).2.1.len]; exact (World.cells?_some (hD i hi).1).2.1
          have hes : ∀ (i : Nat) (cs : List Dat), ((List.range len).map fun i => (D i).1)[i]? = some cs → i < len ∧ cs = (D i).1 := by
            intro i cs hi
            simp only [List.getElem?_map, Option.map_eq_some_iff] at hi
            obtain ⟨q, hq, rfl⟩ := hi
            obtain ⟨hlt, rfl⟩ := List.getElem?_eq_some_iff.1 hq
            simp at hlt ⊢
            exact hlt
          have hmem : ∀ cs ∈ (List.range len).map fun i => (D i).1, ∃ i, i < len ∧ cs = (D i).1 := by
            intro cs hcs
            obtain ⟨i, hi⟩ := List.mem_iff_getElem?.1 hcs
            exact ⟨i, hes i cs hi⟩
          have hmx : maxLen = 9223372036854775807 := rfl
          have hll : ((List.range len).map fun i => (D i).1).length = len := by simp
          refine ⟨[.sl (P.cellsOf e) ((List.range len).map fun i => (D i).1)], ⟨rfl, fun j d hj => ?_⟩, .slice ht _ (by rw [hll]; omega) (fun cs hcs => ?_), ?_⟩
          · cases j with
            | succ j => simp at hj
            | zero =>
              simp at hj
              subst hj
              refine ⟨?_, rfl⟩
              have := DatR.sl (ok := (· < w.heap.size)) (w := w) (P.cellsOf e) ((List.range len).map fun i => (D i).1) B o cap (fun i j => (D i).2.getD j undef) (fun cs hcs => by obtain ⟨i, hi, rfl⟩ := hmem cs hcs; exact hdl i hi) (by rw [hll]; exact hlc) (by rw [hll]; omega) hbl (fun i cs hi j d hj => by
                obtain ⟨hlt, rfl⟩ := hes i cs hi
                obtain ⟨_, hl1, hc1⟩ := World.cells?_some (hD i hlt).1
                have hjl : j < P.cellsOf e := by rw [← hdl i hlt]; exact (List.getElem?_eq_some_iff.1 hj).1
                have h1 := hc1 j hjl
                rw [Addr.add_mid, Addr.add_mid, Nat.add_assoc, List.getElem?_eq_getElem (by omega)] at h1
                refine ⟨?_, ((hD i hlt).2.1.at_ j d hj).2⟩
                rw [h1, getD_get?, List.getElem?_eq_getElem (by omega)]
                rfl) (fun i cs hi j d hj => by
                obtain ⟨hlt, rfl⟩ := hes i cs hi
                exact ((hD i hlt).2.1.at_ j d hj).1)
              rw [hll] at this
              exact this
          · obtain ⟨i, hi, rfl⟩ := hmem cs hcs
            exact (hD i hi).2.2.1
          · have hz := bulk_rows Bk ((List.range len).map fun i => (D i).1) (elems.map (·.1)) (by simp; omega) (fun i c y hc hy => by
              obtain ⟨hlt, rfl⟩ := hes i c hc
              simp only [List.getElem?_map, Option.map_eq_some_iff] at hy
              obtain ⟨y0, hy0, rfl⟩ := hy
              exact (hD i hlt).2.2.2 y0 hy0)
            have := Bk.slice (elems.map (·.1)) (rest.map (·.1))
            rw [hx0]
            simp only [dszL, dsz]
            simp only at hz this ⊢
            omega
    · rename_i fs ht
      simp only [Bool.and_eq_true, List.all_eq_true] at hp
      obtain ⟨htile, hpf⟩ := hp
      obtain ⟨xs, m, hm0, hx0, hl, hxl, hx⟩ := DataW.trod_struct ht h
      obtain rfl : n = m := by omega
      obtain ⟨ds, hc, hs, hz⟩ := open_fields Bk (ok := (· < w.heap.size)) hl fs.toList (xs.map (·.1)) 0 (by simp [hxl]) htile (fun i f x' hf hx' => by
        have hi' : fs[i]? = some f := by simpa using hf
        have h1 := hx i f hi'
        simp only [List.getElem?_map, Option.map_eq_some_iff] at hx'
        obtain ⟨x1, hx1, rfl⟩ := hx'
        rw [hx1] at h1
        exact open_cells Bk hT n f.type _ _ (hpf f (List.mem_of_getElem? hf)) h1)
      refine ⟨ds, by simpa using hc, .struct ht ds ?_ fun i f hi => ?_, by rw [hx0]; exact Nat.le_trans hz (Bk.agg _)⟩
      · have := hc.len; simp at this; omega
      · have := hs f (List.mem_of_getElem? (by simpa using hi))
        simpa using this
    · cases hp
end

/-! ### The shapes -/
theorem shaped_int {P : Program} {t : TypeId} {k : IntKind} {ds : List Dat} (ht : P.underlying t = some (.int k)) (h : Shaped P t ds) : ∃ n, ds = [.val (.int k n)] ∧ (Lit.int k n).wf = true := by
  cases h with
  | int ht' n hn => rw [ht] at ht'; injection ht' with ht'; injection ht' with ht'; subst ht'; exact ⟨n, rfl, hn⟩
  | bool ht' => rw [ht] at ht'; cases ht'
  | string ht' => rw [ht] at ht'; cases ht'
  | slice ht' => rw [ht] at ht'; cases ht'
  | struct ht' => rw [ht] at ht'; cases ht'
theorem shaped_bool {P : Program} {t : TypeId} {ds : List Dat} (ht : P.underlying t = some .bool) (h : Shaped P t ds) : ∃ b, ds = [.val (.bool b)] := by
  cases h with
  | bool _ b => exact ⟨b, rfl⟩
  | int ht' => rw [ht] at ht'; cases ht'
  | string ht' => rw [ht] at ht'; cases ht'
  | slice ht' => rw [ht] at ht'; cases ht'
  | struct ht' => rw [ht] at ht'; cases ht'
theorem shaped_string {P : Program} {t : TypeId} {ds : List Dat} (ht : P.underlying t = some .string) (h : Shaped P t ds) : ∃ s, ds = [.val (.string s)] ∧ s.size ≤ maxLen := by
  cases h with
  | string _ s hs => exact ⟨s, rfl, hs⟩
  | bool ht' => rw [ht] at ht'; cases ht'
  | int ht' => rw [ht] at ht'; cases ht'
  | slice ht' => rw [ht] at ht'; cases ht'
  | struct ht' => rw [ht] at ht'; cases ht'
theorem shaped_slice {P : Program} {t e : TypeId} {ds : List Dat} (ht : P.underlying t = some (.slice e)) (h : Shaped P t ds) : ∃ es, ds = [.sl (P.cellsOf e) es] ∧ es.length ≤ 9223372036854775807 ∧ ∀ cs ∈ es, Shaped P e cs := by
  cases h with
  | slice ht' es hl h => rw [ht] at ht'; injection ht' with ht'; injection ht' with ht'; subst ht'; exact ⟨es, rfl, hl, h⟩
  | bool ht' => rw [ht] at ht'; cases ht'
  | string ht' => rw [ht] at ht'; cases ht'
  | int ht' => rw [ht] at ht'; cases ht'
  | struct ht' => rw [ht] at ht'; cases ht'
theorem shaped_struct {P : Program} {t : TypeId} {fs : Array Field} {ds : List Dat} (ht : P.underlying t = some (.struct fs)) (h : Shaped P t ds) : ds.length = P.cellsOf t ∧ ∀ (i : Nat) (f : Field), fs[i]? = some f → Shaped P f.type ((ds.drop f.offset).take (P.cellsOf f.type)) := by
  cases h with
  | struct ht' _ hl h => rw [ht] at ht'; injection ht' with ht'; injection ht' with ht'; subst ht'; exact ⟨hl, h⟩
  | bool ht' => rw [ht] at ht'; cases ht'
  | string ht' => rw [ht] at ht'; cases ht'
  | int ht' => rw [ht] at ht'; cases ht'
  | slice ht' => rw [ht] at ht'; cases ht'
/-- Rows of a shape, within a bound. -/
theorem shaped_rows {P : Program} {e : TypeId} {α : Type} {f : α → List Dat} {Q : α → Prop} {M : Nat} : ∀ {es : List (List Dat)}, (∀ cs ∈ es, Shaped P e cs) → dszLL es ≤ M → (∀ cs, Shaped P e cs → dszL cs ≤ M → ∃ a, cs = f a ∧ Q a) → ∃ l : List α, es = l.map f ∧ ∀ a ∈ l, Q a
  | [], _, _, _ => ⟨[], rfl, fun a h => by simp at h⟩
  | cs :: r, h, hz, hf => by
    simp only [dszLL] at hz
    obtain ⟨a, rfl, ha⟩ := hf cs (h cs (by simp)) (by omega)
    obtain ⟨l, rfl, hl⟩ := shaped_rows (es := r) (fun c hc => h c (List.mem_cons_of_mem _ hc)) (by omega) hf
    exact ⟨a :: l, rfl, fun x hx => by
      rcases List.mem_cons.1 hx with rfl | hx
      · exact ha
      · exact hl x hx⟩
end Go.Proofs.Ytbkkekbeaabokaa.Sx
