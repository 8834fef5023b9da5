/- Sy, part M: one operation after the other. -/
import Derived.Test.YtbkkekbeaabokaaSyL
set_option linter.unusedVariables false
set_option linter.unusedSimpArgs false
namespace Go.Proofs.Ytbkkekbeaabokaa.Sx
open Go Go.RowKit

variable {P : Program} {pr : Pr} {s s' : S} {N : Nat} {ops : Array Oper} {o : Oper} {i : Nat} {r is1 : List Nat} {n : S → Prop} {p : Value → S → Prop}

/-- The next operation is done: what comes after it is out of sight. -/
theorem T_op (ho : ops[i]? = some o) (hg : o.guard = none) (h : ∀ c : S → Prop, (∀ s, TOps P pr N ops r s n p → c s) → Step P pr N o s c p) : TOps P pr N ops (i :: r) s n p :=
  T_go ho (by simp only [wantedD, hg]) h
theorem T_on {j t : Nat} {want b : Bool} (ho : ops[i]? = some o) (hg : o.guard = some (j, want)) (ht : (ops[j]?).bind (·.dst) = some t) (hl : lk t s.sl = some (.dat (.val (.bool b)))) (hb : b = want)
    (h : ∀ c : S → Prop, (∀ s, TOps P pr N ops r s n p → c s) → Step P pr N o s c p) : TOps P pr N ops (i :: r) s n p :=
  T_go ho (by simp only [wantedD, hg, ht, hl, hb]; simp) h
theorem T_off {j t : Nat} {want b : Bool} (ho : ops[i]? = some o) (hg : o.guard = some (j, want)) (ht : (ops[j]?).bind (·.dst) = some t) (hl : lk t s.sl = some (.dat (.val (.bool b)))) (hb : b = !want)
    (hd : dstOk o.dst N = true) (h : TOps P pr N ops r (s.put o.dst (.dat (.val (.tuple #[])))) n p) : TOps P pr N ops (i :: r) s n p :=
  T_pass ho (by simp only [wantedD, hg, ht, hl, hb]; cases want <;> rfl) hd h
theorem T_offU {j t : Nat} {want : Bool} (ho : ops[i]? = some o) (hg : o.guard = some (j, want)) (ht : (ops[j]?).bind (·.dst) = some t) (hl : lk t s.sl = some (.dat (.val (.tuple #[]))))
    (hd : dstOk o.dst N = true) (h : TOps P pr N ops r (s.put o.dst (.dat (.val (.tuple #[])))) n p) : TOps P pr N ops (i :: r) s n p :=
  T_pass ho (by simp only [wantedD, hg, ht, hl]; rfl) hd h

/-- Every slot of the one lies so in the other. -/
def Has (sl : List (Nat × D)) : List (Nat × D) → Prop
  | [] => True
  | (t, d) :: r => lk t sl = some d ∧ Has sl r
theorem Has.lk {sl : List (Nat × D)} : ∀ {l : List (Nat × D)}, Has sl l → ∀ t d, Sx.lk t l = some d → Sx.lk t sl = some d
  | [], _, t, d, h => by simp [Sx.lk] at h
  | (k, e) :: r, hh, t, d, h => by
    simp only [Sx.lk] at h
    split at h
    · rename_i e'
      subst e'
      injection h with h
      subst h
      exact hh.1
    · exact hh.2.lk t d h
theorem Ent.keep {s s' : S} (h1 : s'.hp = s.hp) (h2 : s'.nx = s.nx) (h : Has s.sl s'.sl) (h3 : s'.gh = s.gh := by rfl) (h4 : s'.st = s.st := by rfl) : Ent s s' := by
  refine ⟨h4, fun β ι a w N hR => ?_⟩
  have := hR.fewer (sl := s'.sl) (fun t d ht => h.lk t d ht)
  refine ⟨ι, ?_⟩
  cases s'
  simp only at h1 h2 h3 h4
  subst h1
  subst h2
  subst h3
  subst h4
  exact this

theorem datL_map : ∀ ds : List Dat, datL (ds.map .dat) = some ds
  | [] => rfl
  | d :: r => by simp [datL, datOf, datL_map r]

/-! ### Where one comes out -/
section
variable {K : Ex → S → Prop} {id k : Nat} {α : Type} {st : α → S} {I : α → Prop} {μ : α → Nat} {m : Nat} {n' : S → Prop}
theorem X_thenE (h : K (.exit k) s) : thenK n' K (.exit k) s := h
theorem X_thenR (h : K .ret s) : thenK n' K .ret s := h
theorem X_blockN (h : K .normal s) : blockK id K .normal s := h
theorem X_blockR (h : K .ret s) : blockK id K .ret s := h
theorem X_hit (h : K .normal s) : blockK id K (.exit id) s := by simp only [blockK, if_true]; exact h
theorem X_miss (hk : k ≠ id) (h : K (.exit k) s) : blockK id K (.exit k) s := by simp only [blockK, if_neg hk]; exact h
theorem X_loopN (z : α) (h : Ent s (st z)) (hI : I z) (hm : μ z < m) : loopK st I μ m K .normal s := ⟨z, h, hI, hm⟩
theorem X_loopE (h : K (.exit k) s) : loopK st I μ m K (.exit k) s := h
theorem X_loopR (h : K .ret s) : loopK st I μ m K .ret s := h
end

/-! ### A few cells given -/
section
variable {hp : List (Nat × HO)} {a b c d e f g h : Dat}
theorem gl0 : giveL 9 [] hp = some ([], hp) := by rfl
theorem gl1 : giveL 9 [.dat a] hp = some ([a], hp) := by rfl
theorem gl2 : giveL 9 [.dat a, .dat b] hp = some ([a, b], hp) := by rfl
theorem gl3 : giveL 9 [.dat a, .dat b, .dat c] hp = some ([a, b, c], hp) := by rfl
theorem gl4 : giveL 9 [.dat a, .dat b, .dat c, .dat d] hp = some ([a, b, c, d], hp) := by rfl
theorem gl5 : giveL 9 [.dat a, .dat b, .dat c, .dat d, .dat e] hp = some ([a, b, c, d, e], hp) := by rfl
theorem gl6 : giveL 9 [.dat a, .dat b, .dat c, .dat d, .dat e, .dat f] hp = some ([a, b, c, d, e, f], hp) := by rfl
theorem gl7 : giveL 9 [.dat a, .dat b, .dat c, .dat d, .dat e, .dat f, .dat g] hp = some ([a, b, c, d, e, f, g], hp) := by rfl
theorem gl8 : giveL 9 [.dat a, .dat b, .dat c, .dat d, .dat e, .dat f, .dat g, .dat h] hp = some ([a, b, c, d, e, f, g, h], hp) := by rfl
theorem gv : Sx.give 9 (.dat a) hp = some (a, hp) := by rfl
theorem gv40 : Sx.give 40 (.dat a) hp = some (a, hp) := by rfl
end

section
variable {k : Nat} {l : List Dat}
theorem ck0 : chunk k l 0 = [] := by rfl
theorem ck1 : chunk k l 1 = [(l.drop (0 * k)).take k] := by rfl
theorem ck2 : chunk k l 2 = [(l.drop (0 * k)).take k, (l.drop (1 * k)).take k] := by rfl
theorem ck3 : chunk k l 3 = [(l.drop (0 * k)).take k, (l.drop (1 * k)).take k, (l.drop (2 * k)).take k] := by rfl
theorem ck4 : chunk k l 4 = [(l.drop (0 * k)).take k, (l.drop (1 * k)).take k, (l.drop (2 * k)).take k, (l.drop (3 * k)).take k] := by rfl
theorem ck5 : chunk k l 5 = [(l.drop (0 * k)).take k, (l.drop (1 * k)).take k, (l.drop (2 * k)).take k, (l.drop (3 * k)).take k, (l.drop (4 * k)).take k] := by rfl
theorem ck6 : chunk k l 6 = [(l.drop (0 * k)).take k, (l.drop (1 * k)).take k, (l.drop (2 * k)).take k, (l.drop (3 * k)).take k, (l.drop (4 * k)).take k, (l.drop (5 * k)).take k] := by rfl
theorem ck7 : chunk k l 7 = [(l.drop (0 * k)).take k, (l.drop (1 * k)).take k, (l.drop (2 * k)).take k, (l.drop (3 * k)).take k, (l.drop (4 * k)).take k, (l.drop (5 * k)).take k, (l.drop (6 * k)).take k] := by rfl
theorem ck8 : chunk k l 8 = [(l.drop (0 * k)).take k, (l.drop (1 * k)).take k, (l.drop (2 * k)).take k, (l.drop (3 * k)).take k, (l.drop (4 * k)).take k, (l.drop (5 * k)).take k, (l.drop (6 * k)).take k, (l.drop (7 * k)).take k] := by rfl
theorem ck9 : chunk k l 9 = [(l.drop (0 * k)).take k, (l.drop (1 * k)).take k, (l.drop (2 * k)).take k, (l.drop (3 * k)).take k, (l.drop (4 * k)).take k, (l.drop (5 * k)).take k, (l.drop (6 * k)).take k, (l.drop (7 * k)).take k, (l.drop (8 * k)).take k] := by rfl
theorem ck10 : chunk k l 10 = [(l.drop (0 * k)).take k, (l.drop (1 * k)).take k, (l.drop (2 * k)).take k, (l.drop (3 * k)).take k, (l.drop (4 * k)).take k, (l.drop (5 * k)).take k, (l.drop (6 * k)).take k, (l.drop (7 * k)).take k, (l.drop (8 * k)).take k, (l.drop (9 * k)).take k] := by rfl
theorem ck11 : chunk k l 11 = [(l.drop (0 * k)).take k, (l.drop (1 * k)).take k, (l.drop (2 * k)).take k, (l.drop (3 * k)).take k, (l.drop (4 * k)).take k, (l.drop (5 * k)).take k, (l.drop (6 * k)).take k, (l.drop (7 * k)).take k, (l.drop (8 * k)).take k, (l.drop (9 * k)).take k, (l.drop (10 * k)).take k] := by rfl
theorem ck12 : chunk k l 12 = [(l.drop (0 * k)).take k, (l.drop (1 * k)).take k, (l.drop (2 * k)).take k, (l.drop (3 * k)).take k, (l.drop (4 * k)).take k, (l.drop (5 * k)).take k, (l.drop (6 * k)).take k, (l.drop (7 * k)).take k, (l.drop (8 * k)).take k, (l.drop (9 * k)).take k, (l.drop (10 * k)).take k, (l.drop (11 * k)).take k] := by rfl
end
theorem allDat_comp {α : Type} (f : α → Dat) (l : List α) : allDat (l.map (D.dat ∘ f)) = some (l.map f) := by
  rw [← List.map_map]
  exact allDat_map _
@[simp] theorem pick_tt (p q : Bool) : aPick true (.dat (.val (.bool p))) (.dat (.val (.bool q))) = .dat (.val (.bool p)) := rfl
@[simp] theorem pick_ff (p q : Bool) : aPick false (.dat (.val (.bool p))) (.dat (.val (.bool q))) = .dat (.val (.bool q)) := rfl
theorem wr {n : Int} (h : -9223372036854775808 ≤ n ∧ n ≤ 9223372036854775807) : IntKind.i64.wrap n = n := by
  unfold IntKind.wrap
  simp [IntKind.bits, IntKind.signed]
  omega
attribute [simp] mapOf aLookup aMapUpd aMakeMap aMapLen aMakeSlice aIface aNilq allVal mpG Value.oneCell' Step aop ofD ofP ev lk up dl aBox aAlloc cellsOf aNew takeAt TK.agg aLoad aLoad0 aLoadArr aStore aStore0 aStoreArr giveC allDat_replicate allDat_map allDat_comp aField aIndex aBin bop asB asI S.put dstOk Sx.start argSl aLen aCap aMore elems aBuild aBuildSlice aAppend aAppendOwn fillD splice gl0 gl1 gl2 gl3 gl4 gl5 gl6 gl7 gl8 gv gv40 ck0 ck1 ck2 ck3 ck4 ck5 ck6 ck7 ck8 ck9 ck10 ck11 ck12 mkAgg allDat aSlice cutD aUn aConv aNil aExt aEq aEqF

end Go.Proofs.Ytbkkekbeaabokaa.Sx
