/- The terms, part g: 'TermsCountSpec': for every list of spans and every term, Check, Has and Count match the specification. No condition. -/
import Derived.Test.YtehboominkoldaaTf
import Derived.Test.YtehboominkoldaaSxQ
import Derived.Test.YtehboominkoldaaRows
import Derived.Test.YtehboominkoldaaChecked
import Derived.ProofKit
set_option linter.unusedVariables false
set_option linter.unusedSimpArgs false
namespace Go.Proofs.Ytehboominkoldaa
open Go Go.Proofs.Ytehboominkoldaa.Sx Go.ChangeShapes Go.WideShapes Go.ChangeAt Go.RowKit

theorem ownT : ownKnob Try.prog.godebug = none := by kernel_rfl
theorem laidT : laidOutB Try.prog = true := by kernel_rfl
theorem plain22 : plainB Try.prog 5 22 = true := by kernel_rfl

theorem shaped_int {P : Program} {t : TypeId} {k : IntKind} {ds : List Dat} (ht : P.underlying t = some (.int k)) (h : Shaped P t ds) : ∃ n, ds = [.val (.int k n)] := by
  cases h with
  | int ht' n _ => rw [ht] at ht'; injection ht' with ht'; injection ht' with ht'; subst ht'; exact ⟨n, rfl⟩
  | bool ht' => rw [ht] at ht'; cases ht'
  | string ht' => rw [ht] at ht'; cases ht'
  | slice ht' => rw [ht] at ht'; cases ht'
  | struct ht' => rw [ht] at ht'; cases ht'
theorem shaped_slice {P : Program} {t e : TypeId} {ds : List Dat} (ht : P.underlying t = some (.slice e)) (h : Shaped P t ds) : ∃ es, ds = [.sl (P.cellsOf e) es] ∧ ∀ cs ∈ es, Shaped P e cs := by
  cases h with
  | slice ht' es hl h => rw [ht] at ht'; injection ht' with ht'; injection ht' with ht'; subst ht'; exact ⟨es, rfl, h⟩
  | bool ht' => rw [ht] at ht'; cases ht'
  | string ht' => rw [ht] at ht'; cases ht'
  | int ht' => rw [ht] at ht'; cases ht'
  | struct ht' => rw [ht] at ht'; cases ht'
theorem shaped_struct {P : Program} {t : TypeId} {fs : Array Field} {ds : List Dat} (ht : P.underlying t = some (.struct fs)) (h : Shaped P t ds) : ds.length = P.cellsOf t ∧ ∀ (i : Nat) (f : Field), fs[i]? = some f → Shaped P f.type ((ds.drop f.offset).take (P.cellsOf f.type)) := by
  cases h with
  | struct ht' _ hl h => rw [ht] at ht'; injection ht' with ht'; injection ht' with ht'; subst ht'; exact ⟨hl, h⟩
  | bool ht' => rw [ht] at ht'; cases ht'
  | string ht' => rw [ht] at ht'; cases ht'
  | int ht' => rw [ht] at ht'; cases ht'
  | slice ht' => rw [ht] at ht'; cases ht'
theorem shaped_span {ds : List Dat} (h : Shaped Try.prog 35 ds) : ∃ p : Sp, ds = spD p := by
  obtain ⟨hl, hf⟩ := shaped_struct Try.underlying35 h
  have c3 : Try.prog.cellsOf 3 = 1 := by kernel_rfl
  have c35 : Try.prog.cellsOf 35 = 2 := by kernel_rfl
  obtain ⟨n, hn⟩ := shaped_int Try.underlying3 (hf 0 _ rfl)
  obtain ⟨m, hm⟩ := shaped_int Try.underlying3 (hf 1 _ rfl)
  rw [c35] at hl
  match ds, hl with
  | [x, y], _ =>
    simp [c3] at hn hm
    exact ⟨(n, m), by rw [hn, hm]⟩
theorem all_spans {es : List (List Dat)} (h : ∀ cs ∈ es, Shaped Try.prog 35 cs) : ∃ l : List Sp, es = l.map spD := by
  induction es with
  | nil => exact ⟨[], rfl⟩
  | cons cs r ih =>
    obtain ⟨p, rfl⟩ := shaped_span (h cs (by simp))
    obtain ⟨l, rfl⟩ := ih fun c hc => h c (List.mem_cons_of_mem _ hc)
    exact ⟨p :: l, rfl⟩
/-- A list of spans that the caller hands over. -/
theorem span_arg {H : Type} {enc : TypeId × Value → H} {W : World} {a0 : Option Addr} {len cap : Nat} {d0 : DataW H} {p : List MemPlace} (h0 : DataW.Trod enc Try.prog W 0 (fun _ => true) true 22 (.slice a0 len cap) d0 p) :
    ∃ l : List Sp, DatR (· < W.heap.size) W (spans l) (.slice a0 len cap) := by
  obtain ⟨fuel, hf⟩ := h0
  obtain ⟨ds, hc, hs⟩ := open_cells 5 fuel 22 _ _ plain22 hf
  obtain ⟨es, rfl, hes⟩ := shaped_slice Try.underlying22 hs
  obtain ⟨l, rfl⟩ := all_spans hes
  have c35 : Try.prog.cellsOf 35 = 2 := by kernel_rfl
  rw [c35] at hc
  exact ⟨l, (hc.at_ 0 _ rfl).1⟩

set_option maxHeartbeats 800000 in
set_option maxRecDepth 100000 in
theorem count_lifted (os : Os) (started : os.Started) (H : Type) (enc : TypeId × Value → H) :
    ReturnsInHanded {} Try.checked os 3 .any (Rows.termsCountSpecSpec.pre6 enc Try.prog Try.f3 Rows.termsCountSpecRow.domain false) (Rows.termsCountSpecSpec.post enc Try.prog Try.f3 false true false false) := by
  refine returnsInHanded_of_change (C := Try.checked) ownT started (by kernel_rfl) Try.func3
    (ChangeSpec.witness6 (enc := enc) (C := Try.checked) false ⟨#[], #[.slice none 0 0, .int .i64 0], []⟩ 8 (by kernel_rfl) (by kernel_rfl) (by kernel_rfl) (by kernel_rfl)) ?_
  intro W base args ds gs before hval0 hW _ _
  have hval : ∀ (j : Nat) t v, Try.f3.params[j]? = some t → args[j]? = some v → Value.okWide Try.prog W .any base t v := hval0
  have hW' := hW
  obtain ⟨p, q, hA0, hV, rfl, _, _⟩ := hW
  have hA : DataW.TrodAll enc Try.prog W 0 (fun _ => true) true Try.f3.params.toList args.toList ds p := hA0
  rw [Try.params3] at hA hval
  obtain ⟨v0, v1, d0, d1, p0, p1, rfl, rfl, rfl, h0, h1⟩ := trodAll_two hA
  obtain ⟨rfl, rfl⟩ := trodVars_none hV
  obtain ⟨a0, len0, cap0, rfl⟩ := okWide_slice Try.underlying22 (hval 0 22 v0 rfl rfl)
  obtain ⟨t, rfl, rfl, rfl, wt⟩ := open_int Try.underlying3 (hval 1 3 v1 rfl rfl) h1
  clear hA0 hval0
  simp only [List.append_nil] at hW'
  have hlt : ∀ x ∈ p0, x.block < W.heap.size := fun x hx => by simpa using hW'.lt x hx
  obtain ⟨l, hl⟩ := span_arg h0
  refine ((walk3 l t).calls (· < W.heap.size) W [.slice a0 len0 cap0, .int .i64 t] (fun B h => h) rfl (fun j e hj => ?_)).mono ?_
  · match j, hj with
    | 0, hj => simp at hj; subst hj; exact hl
    | 1, hj => simp at hj; subst hj; exact .val _
  · rintro e W' ⟨v, ι', rfl, hb, _, hD⟩
    cases hD with
    | dat hD =>
    cases hD
    have harg0 : DataW.Trod enc Try.prog W' 0 (fun b => decide (b < W.heap.size)) true 22 (.slice a0 len0 cap0) d0 p0 :=
      Below.trod laidT (by kernel_rfl) (of_decide_eq_true (by kernel_rfl)) h0 hb hlt
    refine ⟨_, rfl, _, _, _, [], _, [], hW', ?_, trodAll_mk2 harg0 (shut_int Try.underlying3 wt), rfl, hb.frame _, fun h => by cases h⟩
    exact trodAll_mk1 (shut_bool Try.underlying4 _)

/-- The statement. -/
theorem count_holds : Rows.TermsCountSpecSaid :=
  OpenClaim.holds_of_wide 3 Try.f3 rfl rfl rfl rfl rfl rfl rfl ⟨rfl, rfl, rfl, rfl, rfl⟩ rfl rfl rfl rfl rfl (by kernel_rfl) Try.func3 (by kernel_rfl)
    (of_decide_eq_true (by kernel_rfl)) (by unfold Func.isWrapper; first | (rw [if_pos (by decide +kernel)]; kernel_rfl) | (rw [if_neg (by decide +kernel)]; exact ⟨rfl, rfl⟩))
    (fun os started H enc _ => count_lifted os started H enc)
end Go.Proofs.Ytehboominkoldaa
