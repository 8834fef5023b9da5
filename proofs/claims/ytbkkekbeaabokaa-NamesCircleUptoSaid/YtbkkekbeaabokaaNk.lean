/- The names: the deferred call that recovers. -/
import Derived.Test.YtbkkekbeaabokaaSyT
import Derived.Test.YtbkkekbeaabokaaNa
import Derived.WalkKit
import Derived.ProofKit
import Derived.OneCell
set_option linter.unusedVariables false
set_option linter.unusedSimpArgs false
namespace Go.Proofs.Ytbkkekbeaabokaa
open Go Go.Proofs.Ytbkkekbeaabokaa.Sx Go.RowKit

theorem caught_nil (p : Value) (w : World) : Calls Try.prog 28 #[.nilIface, p] w fun e w' => (∃ v, e = .returned v) ∧ w' = w := by
  go_enter Try.func28, Try.ntmps28
  go_wp2
  all_goals go_end0
  exact ⟨⟨_, rfl⟩, rfl⟩
theorem assert124 (v : Value) (w : World) : (Instr.typeAssert (.iface 124 v) 20 124 true).run Try.prog w = .ok (.tuple #[v, .bool true]) w := by
  simp [Instr.typeAssert, run_underlying Try.underlying124, go_sem, Result.andThen]
set_option maxRecDepth 20000 in
theorem caught_err (n : Int) (B : Nat) (u : Value) (t : TypeId) (w : World) (hC : w.heap[B]? = some (.cells #[u] t (0, 0))) : Calls Try.prog 28 #[thrown n, .pointer (some ⟨B, 0, none⟩)] w fun e w' => (∃ v, e = .returned v) ∧ Caught w w' B t n := by
  have hlt : B < w.heap.size := (Array.getElem?_eq_some_iff.1 hC).1
  have hA : (w.alloc (.cells #[Value.int .i64 n] 124)).heap[B]? = some (.cells #[u] t (0, 0)) := by
    simp only [World.alloc]
    rw [Array.getElem?_push_lt hlt, ← hC, Array.getElem?_eq_getElem hlt]
  have hfr : ¬ (w.alloc (.cells #[Value.int .i64 n] 124)).frozen? ⟨B, 0, none⟩ = true := by simp [World.frozen?, hA]
  have hce : ¬ (w.alloc (.cells #[Value.int .i64 n] 124)).cell? ⟨B, 0, none⟩ = none := by simp [World.cell?, hA]
  have hce2 : ¬ w.cell? ⟨B, 0, none⟩ = none := by simp [World.cell?, hC]
  go_enter Try.func28, Try.ntmps28
  go_wp2
  rw [assert124]
  go_wp2
  all_goals go_end0
  have hsz : (w.setCell ⟨B, 0, none⟩ (.int .i64 n)).heap.size = w.heap.size := by simp [World.setCell]
  refine ⟨⟨_, rfl⟩, rfl, rfl, rfl, by simp [World.alloc, hsz], ?_, fun k hk hne => ?_⟩
  · have h1 := one_setCell (u := Value.int .i64 n) hC
    simp only [World.alloc]
    rw [Array.getElem?_push_lt (by rw [hsz]; exact hlt), ← Array.getElem?_eq_getElem, h1]
  · simp only [World.alloc]
    rw [Array.getElem?_push_lt (by rw [hsz]; exact hk), ← Array.getElem?_eq_getElem]
    exact Below.heap_setCell w ⟨B, 0, none⟩ _ k hne

theorem last_call {m : Nat} {v p : Value} {a : Act} {w : World} {Q : Exit → Act → World → Prop} {ops : Array Oper} {o : Oper} {ts : Array TypeId} (ho : ops[1]? = some o) (hg : o.guard = none) (hop : o.op = .call { callee := .value (.func 28), args := #[.tmp 1, .tmp 0], argTypes := ts })
    (h1 : a.eval (.tmp 1) = v) (h0 : a.eval (.tmp 0) = p) (h : Calls Try.prog 28 #[v, p] w fun e w' => ∃ x, e = .returned x ∧ Q .normal (a.put o.dst x) w') : wpOpsIn Fence.wide m Try.prog ops Q [1] a w := by
  have hb : Body Try.prog 28 := Body.of Try.func28 rfl (by kernel_rfl)
  have eg := run_callFunc hb #[v, p] w
  have hr : (execOp a.eval o).run Try.prog w = .ok (.enter 28 #[v, p]) w := by
    have h1' : a.tmps.getD 1 undef = v := h1
    have h0' : a.tmps.getD 0 undef = p := h0
    unfold execOp
    simp only [hop]
    simp [resolve, invoke, go_sem, eg, Act.eval, h1', h0']
  have hw : Region.wanted o (yielded ops a.tmps) = true := by simp [Region.wanted, hg]
  simp only [wpOpsIn, ho, hw, if_true]
  refine ⟨fun _ _ => trivial, ?_⟩
  rw [Oper.semAt_eq _ _ _ (fun c e => by rw [hop] at e; cases e), hr]
  refine ⟨fun hd => by simp [Fence.wide] at hd, callsIn_wide.2 (Calls.mono h ?_)⟩
  rintro e w' ⟨x, rfl, hq⟩
  exact hq

/-- The deferred call, where nothing has been thrown. -/
theorem resolved_nil {F : Fence} {m : Nat} (p : Value) (w : World) {R : Ending → FrameMode → World → Prop} (hF : F = Fence.wide) (hR : ∀ v, R (.returned v) .returning w) : CallsDIn F m Try.prog 27 #[p] .returning w R := by
  subst hF
  refine callsDIn_of_wpSIn Try.func27 rfl trivial fun c₀ cs hu => ?_
  refine wpS_recover (rest := [1]) rfl rfl rfl (fun _ _ => trivial) rfl rfl fun v cs' hv => ?_
  have hnone : recoverD (c₀ :: cs) = none := by simp [recoverD, hu]
  rcases hv with hv | ⟨_, rfl, rfl⟩
  · rw [hnone] at hv; cases hv
  · refine last_call (v := .nilIface) (p := p) rfl rfl rfl rfl rfl ((caught_nil p w).mono ?_)
    rintro e w' ⟨⟨x, rfl⟩, rfl⟩
    exact ⟨x, rfl, rfl, .returning, by rw [← hu], _, results_none rfl _ _ _, hR _⟩
/-- The deferred call, where an error has been thrown. -/
theorem resolved_err {F : Fence} {m : Nat} (n : Int) (B : Nat) (u : Value) (t : TypeId) (w : World) (hC : w.heap[B]? = some (.cells #[u] t (0, 0))) {R : Ending → FrameMode → World → Prop} (hF : F = Fence.wide)
    (hR : ∀ v w', Caught w w' B t n → R (.returned v) (.panicking [{ v := thrown n, recovered := true }]) w') : CallsDIn F m Try.prog 27 #[.pointer (some ⟨B, 0, none⟩)] (.panicking [{ v := thrown n, recovered := false }]) w R := by
  subst hF
  refine callsDIn_of_wpSIn Try.func27 rfl trivial fun c₀ cs hu => ?_
  refine wpS_recover (rest := [1]) rfl rfl rfl (fun _ _ => trivial) rfl rfl fun v cs' hv => ?_
  have hsome : recoverD (c₀ :: cs) = some (thrown n, { c₀ with mode := .panicking [{ v := thrown n, recovered := true }] } :: cs) := by simp [recoverD, hu]
  rcases hv with hv | ⟨hv, _⟩
  · rw [hsome] at hv
    injection hv with hv
    injection hv with h1 h2
    subst h1; subst h2
    refine last_call (v := thrown n) (p := .pointer (some ⟨B, 0, none⟩)) rfl rfl rfl rfl rfl ((caught_err n B u t w hC).mono ?_)
    rintro e w' ⟨⟨x, rfl⟩, hc⟩
    exact ⟨x, rfl, rfl, _, rfl, _, results_none rfl _ _ _, hR _ _ hc⟩
  · rw [hsome] at hv; cases hv
theorem recov27 : Recov Try.prog 27 thrown :=
  ⟨Body.of Try.func27 rfl (by kernel_rfl), fun h => resolved_nil _ _ rfl h, fun hC h => resolved_err _ _ _ _ _ hC rfl h⟩

end Go.Proofs.Ytbkkekbeaabokaa
