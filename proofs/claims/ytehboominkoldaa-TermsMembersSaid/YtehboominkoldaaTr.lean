/- The terms: a list of spans that the caller hands over is data. For every such list, without condition. -/
import Derived.Test.YtehboominkoldaaTa
import Derived.Test.YtehboominkoldaaSxQ
import Derived.Test.YtehboominkoldaaRows
import Derived.Test.YtehboominkoldaaChecked
import Derived.ProofKit
set_option linter.unusedVariables false
set_option linter.unusedSimpArgs false
namespace Go.Proofs.Ytehboominkoldaa
open Go Go.Proofs.Ytehboominkoldaa.Sx Go.ChangeShapes Go.WideShapes Go.ChangeAt Go.RowKit

theorem ownT : ownKnob Try.prog.godebug = none := by kernel_rfl
theorem laidT : laidOutB Try.prog = true := by kernel_rfl
theorem plain22 : plainB Try.prog 5 22 = true := by kernel_rfl

theorem shaped_int {P : Program} {t : TypeId} {k : IntKind} {ds : List Dat} (ht : P.underlying t = some (.int k)) (h : Shaped P t ds) : ∃ n, ds = [.val (.int k n)] := by
  cases h with
  | int ht' n _ => rw [ht] at ht'; injection ht' with ht'; injection ht' with ht'; subst ht'; exact ⟨n, rfl⟩
  | bool ht' => rw [ht] at ht'; cases ht'
  | string ht' => rw [ht] at ht'; cases ht'
  | slice ht' => rw [ht] at ht'; cases ht'
  | struct ht' => rw [ht] at ht'; cases ht'
theorem shaped_slice {P : Program} {t e : TypeId} {ds : List Dat} (ht : P.underlying t = some (.slice e)) (h : Shaped P t ds) : ∃ es, ds = [.sl (P.cellsOf e) es] ∧ ∀ cs ∈ es, Shaped P e cs := by
  cases h with
  | slice ht' es hl h => rw [ht] at ht'; injection ht' with ht'; injection ht' with ht'; subst ht'; exact ⟨es, rfl, h⟩
  | bool ht' => rw [ht] at ht'; cases ht'
  | string ht' => rw [ht] at ht'; cases ht'
  | int ht' => rw [ht] at ht'; cases ht'
  | struct ht' => rw [ht] at ht'; cases ht'
theorem shaped_struct {P : Program} {t : TypeId} {fs : Array Field} {ds : List Dat} (ht : P.underlying t = some (.struct fs)) (h : Shaped P t ds) : ds.length = P.cellsOf t ∧ ∀ (i : Nat) (f : Field), fs[i]? = some f → Shaped P f.type ((ds.drop f.offset).take (P.cellsOf f.type)) := by
  cases h with
  | struct ht' _ hl h => rw [ht] at ht'; injection ht' with ht'; injection ht' with ht'; subst ht'; exact ⟨hl, h⟩
  | bool ht' => rw [ht] at ht'; cases ht'
  | string ht' => rw [ht] at ht'; cases ht'
  | int ht' => rw [ht] at ht'; cases ht'
  | slice ht' => rw [ht] at ht'; cases ht'
theorem shaped_span {ds : List Dat} (h : Shaped Try.prog 35 ds) : ∃ p : Sp, ds = spD p := by
  obtain ⟨hl, hf⟩ := shaped_struct Try.underlying35 h
  have c3 : Try.prog.cellsOf 3 = 1 := by kernel_rfl
  have c35 : Try.prog.cellsOf 35 = 2 := by kernel_rfl
  obtain ⟨n, hn⟩ := shaped_int Try.underlying3 (hf 0 _ rfl)
  obtain ⟨m, hm⟩ := shaped_int Try.underlying3 (hf 1 _ rfl)
  rw [c35] at hl
  match ds, hl with
  | [x, y], _ =>
    simp [c3] at hn hm
    exact ⟨(n, m), by rw [hn, hm]⟩
theorem all_spans {es : List (List Dat)} (h : ∀ cs ∈ es, Shaped Try.prog 35 cs) : ∃ l : List Sp, es = l.map spD := by
  induction es with
  | nil => exact ⟨[], rfl⟩
  | cons cs r ih =>
    obtain ⟨p, rfl⟩ := shaped_span (h cs (by simp))
    obtain ⟨l, rfl⟩ := ih fun c hc => h c (List.mem_cons_of_mem _ hc)
    exact ⟨p :: l, rfl⟩
/-- A list of spans that the caller hands over. -/
theorem span_arg {H : Type} {enc : TypeId × Value → H} {W : World} {a0 : Option Addr} {len cap : Nat} {d0 : DataW H} {p : List MemPlace} (h0 : DataW.Trod enc Try.prog W 0 (fun _ => true) true 22 (.slice a0 len cap) d0 p) :
    ∃ l : List Sp, DatR (· < W.heap.size) W (spans l) (.slice a0 len cap) := by
  obtain ⟨fuel, hf⟩ := h0
  obtain ⟨ds, hc, hs⟩ := open_cells 5 fuel 22 _ _ plain22 hf
  obtain ⟨es, rfl, hes⟩ := shaped_slice Try.underlying22 hs
  obtain ⟨l, rfl⟩ := all_spans hes
  have c35 : Try.prog.cellsOf 35 = 2 := by kernel_rfl
  rw [c35] at hc
  exact ⟨l, (hc.at_ 0 _ rfl).1⟩

end Go.Proofs.Ytehboominkoldaa
