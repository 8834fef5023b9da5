/- Sy, part P: a row of numbers that a callee has turned in place; a row that is read shorter. -/
import Derived.Test.YtbkkekbeaabokaaSyO
import Derived.Sort.Row
import Derived.Sort.Grow
set_option linter.unusedVariables false
set_option linter.unusedSimpArgs false
namespace Go.Proofs.Ytbkkekbeaabokaa.Sx
open Go Go.RowKit

variable {P : Program} {β : Bs} {G : Nat → Prop} {w w' : World} {ι ι' : Nat → Loc} {s s' : S} {a : Act} {N : Nat}

theorem Body.of {g : FuncId} {fn : Func} (hf : P.funcs[g]? = some fn) (h : fn.body.isSome = true) (hn : (fn.name == "runtime.NumGoroutine") = false) : Body P g := by
  obtain ⟨c, hc⟩ := Option.isSome_iff_exists.1 h
  exact ⟨fn, c, hf, hc, hn⟩
theorem Rel.shrink (h : Rel β ι s a w N) {b n : Nat} {t : TypeId} {es : List (List Dat)} (k : Nat) (hb : lk b s.hp = some (.row t n es)) : Rel β ι { s with hp := up b (.row t n (es.take k)) s.hp } a w N := by
  refine { env := h.env, kept := h.kept, apart := h.apart, size := h.size, marks := h.marks, slots := h.slots, ghosts := h.ghosts, inside := h.inside, inj := h.inj, gr := h.gr, heap := fun x o hx => ?_, dead := fun x hx => ?_, fresh := fun x hx => ?_ }
  · simp only [lk_up] at hx
    by_cases e : x = b
    · rw [if_pos e] at hx
      injection hx with hx
      subst hx
      subst e
      cases h.heap x _ hb with
      | nil _ _ hι => simpa using RelO.nil t n hι
      | row _ _ _ B C hι hC hlen hs hl h1 hU =>
        refine .row t n _ B C hι hC (fun cs hcs => hlen cs (List.mem_of_mem_take hcs)) hs (Nat.le_trans (Nat.mul_le_mul_right _ (by simp; omega)) hl) (fun i cs hi => ?_) (fun i cs hi => ?_)
        · rw [List.getElem?_take] at hi
          split at hi
          · exact h1 i cs hi
          · cases hi
        · rw [List.getElem?_take] at hi
          split at hi
          · exact hU i cs hi
          · cases hi
    · rw [if_neg e] at hx; exact h.heap x o hx
  · simp only [lk_up] at hx
    by_cases e : x = b
    · simp [e] at hx
    · rw [if_neg e] at hx; exact h.dead x hx
  · replace hx : s.nx ≤ x := hx
    simp only [lk_up]
    have hne : x ≠ b := fun e => by have := h.fresh b (by rw [← e]; exact hx); rw [this] at hb; cases hb
    rw [if_neg hne]
    exact h.fresh x hx

theorem Ent.shrink {b n : Nat} {t : TypeId} {es : List (List Dat)} (k : Nat) (hb : lk b s.hp = some (.row t n es)) : Ent s { s with hp := up b (.row t n (es.take k)) s.hp } := ⟨rfl, fun _ ι _ _ _ h => ⟨ι, h.shrink k hb⟩⟩

theorem Rel.named (h : Rel β ι s a w N) {b : Nat} (hb : ι b ≠ .dead) : b < s.nx := by
  rcases Nat.lt_or_ge b s.nx with h1 | h1
  · exact h1
  · exact absurd (h.dead b (h.fresh b h1)) hb

/-- The nil slice is an empty one. -/
theorem Ent.nilDat {t : Nat} (n : Nat) (hd : lk t s.sl = some (.dat (.val (.slice none 0 0)))) : Ent s { s with sl := up t (.dat (.sl n [])) s.sl } := by
  refine ⟨rfl, fun β ι a w N h => ⟨ι, ?_⟩⟩
  refine { env := h.env, kept := h.kept, apart := h.apart, size := h.size, marks := h.marks, slots := fun k d hk => ?_, ghosts := h.ghosts, inside := h.inside, inj := h.inj, gr := h.gr, heap := h.heap, dead := h.dead, fresh := h.fresh }
  simp only [lk_up] at hk
  by_cases e : k = t
  · rw [if_pos e] at hk
    injection hk with hk
    subst hk
    subst e
    obtain ⟨h1, h2⟩ := h.slots k _ hd
    refine ⟨h1, ?_⟩
    rw [val_eq h2]
    exact .dat (.slnil _ _ _)
  · rw [if_neg e] at hk
    exact h.slots k d hk

/-- A nil slice is as good as an empty one. -/
theorem Does.nil1 {g : FuncId} {n : Nat} {d : D} {h : List HO} (hf : Does P g [.sl n []] d h) : Does P g [.val (.slice none 0 0)] d h :=
  ⟨hf.body, fun ok w vs hok hl hU => hf.calls ok w vs hok hl fun j e hj => by
    cases j with
    | succ j => simp at hj
    | zero =>
      simp at hj
      subst hj
      have := hU 0 _ rfl
      cases hv : vs.getD 0 undef <;> rw [hv] at this <;> cases this
      exact .slnil _ _ _⟩

abbrev intRow (zs : List Int) : List (List Dat) := zs.map fun n => [Dat.val (.int .i64 n)]
/-- Where a row of numbers lies. -/
theorem ints_at (h : Rel β ι s a w N) {b : Nat} {t : TypeId} {zs : List Int} {v : Value} (hb : lk b s.hp = some (.row t 1 (intRow zs))) (hv : RelD β.G ι s.nx w (.own b 1 zs.length) v) :
    (zs = [] ∧ v = .slice none 0 0 ∧ ι b = .nil) ∨ ∃ B c C, ι b = .at B ∧ v = .slice (some ⟨B, 0, none⟩) zs.length c ∧ w.heap[B]? = some (.cells C t (0, 0)) ∧ C.size = c ∧ zs.length ≤ c ∧ c ≤ maxLen ∧ ∀ (i : Nat) (z : Int), zs[i]? = some z → C.toList[i]? = some (Value.int .i64 z) := by
  have hO := h.heap b _ hb
  generalize hL : zs.length = L at hv
  generalize hR : intRow zs = R at hO
  cases hO with
  | nil _ _ hι =>
    cases zs with
    | cons _ _ => simp at hR
    | nil =>
      simp only [List.length_nil] at hL
      subst hL
      cases hv with
      | own_dead _ _ _ _ _ _ he => simp [he] at hι
      | own_nil _ _ _ he => exact .inl ⟨rfl, rfl, hι⟩
      | own_at _ _ _ _ _ _ he => simp [he] at hι
  | row _ _ _ B C hι hC hlens hs hl h1 hU =>
    cases hv with
    | own_dead _ _ _ _ _ _ he => simp [he] at hι
    | own_nil _ _ _ he => simp [he] at hι
    | own_at _ _ _ B' cap _ he C' t' hC' hlc hcm hsz' =>
      rw [hι] at he
      injection he with he
      subst he
      rw [hC] at hC'
      injection hC' with hC'
      injection hC' with e1 e2
      subst e1; subst e2
      subst hL
      refine .inr ⟨B, cap, C, hι, rfl, hC, by simpa using hsz', hlc, hcm, fun i z hz => ?_⟩
      subst hR
      have hlt : i < C.size := by have := (List.getElem?_eq_some_iff.1 hz).1; simp at hl; omega
      have := hU i [.val (.int .i64 z)] (by simp [hz]) 0 _ rfl
      simp only [Nat.mul_one, Nat.add_zero] at this
      rw [getD_get?] at this
      rw [List.getElem?_eq_getElem (by simpa using hlt)] at this ⊢
      simp only [Option.getD_some] at this
      generalize C.toList[i] = u at this
      cases this
      rfl

/-- The row's first numbers are d now. -/
theorem set_ints (h : Rel β ι s a w N) {b B : Nat} {C : Array Value} {t : TypeId} {es0 : List (List Dat)} (hb : lk b s.hp = some (.row t 1 es0)) (hι : ι b = .at B) (hC : w.heap[B]? = some (.cells C t (0, 0))) (d : List Int) (hd : d.length ≤ C.size) (q : Nat) (os : Array Obj)
    (hw : w' = Go.Sort.grow (Go.Sort.putRow (Value.int .i64) (Go.Sort.ahead w q) B 0 d.toArray) os) : Rel β ι { s with hp := up b (.row t 1 (intRow d)) s.hp } a w' N ∧ ∃ C', w'.heap[B]? = some (.cells C' t (0, 0)) ∧ C'.size = C.size := by
  have hlt : B < w.heap.size := (h.inside b B hι).1
  have hheap : ∀ k, k < w.heap.size → w'.heap[k]? = if k = B then some (.cells (Go.Sort.putCells (Value.int .i64) 0 d.toArray C) t (0, 0)) else w.heap[k]? := by
    intro k hk
    rw [hw]
    simp only [Go.Sort.grow, Go.Sort.putRow, Go.Sort.mapBlock, Go.Sort.ahead]
    rw [Array.getElem?_append_left (by simpa using hk), Array.getElem?_modify]
    by_cases e : B = k
    · subst e
      rw [if_pos rfl, if_pos rfl, hC]
      rfl
    · rw [if_neg e, if_neg (fun e' => e e'.symm)]
  have hat : ∀ (i : Nat) (z : Int), d[i]? = some z → (Go.Sort.putCells (Value.int .i64) 0 d.toArray C).toList[i]? = some (Value.int .i64 z) := by
    intro i z hz
    have hi := (List.getElem?_eq_some_iff.1 hz).1
    rw [Array.getElem?_toList]
    simp only [Go.Sort.putCells, Array.getElem?_mapIdx]
    rw [Array.getElem?_eq_getElem (by omega)]
    simp only [Option.map_some, Nat.zero_le, true_and, Nat.zero_add, List.size_toArray, Nat.sub_zero]
    rw [if_pos hi, getElem!_pos _ i (by simpa using hi)]
    have := (List.getElem?_eq_some_iff.1 hz).2
    simp [this]
  refine ⟨?_, _, (hheap B hlt).trans (if_pos rfl), by simp [Go.Sort.putCells]⟩
  refine h.write (o := .row t 1 (intRow d)) hι hC ((hheap B hlt).trans (if_pos rfl)) (by simp [Go.Sort.putCells]) (fun k hk hne => (hheap k hk).trans (if_neg hne)) (by rw [hw]; rfl) (by rw [hw]; rfl) (by rw [hw]; rfl) (by rw [hw]; simp [Go.Sort.grow, Go.Sort.putRow, Go.Sort.mapBlock, Go.Sort.ahead]) fun f => ?_
  have hrow : ∀ (i : Nat) (cs : List Dat), (intRow d)[i]? = some cs → ∀ (j : Nat) (e : Dat), cs[j]? = some e → ∃ z, e = .val (.int .i64 z) ∧ (Go.Sort.putCells (Value.int .i64) 0 d.toArray C).toList.getD (i * 1 + j) undef = Value.int .i64 z := by
    intro i cs hi j e hj
    simp only [List.getElem?_map, Option.map_eq_some_iff] at hi
    obtain ⟨z, hz, rfl⟩ := hi
    cases j with
    | succ j => simp at hj
    | zero =>
      simp at hj
      exact ⟨z, hj.symm, by rw [getD_get?, show i * 1 + 0 = i by omega, hat i z hz]; rfl⟩
  refine .row t 1 _ B (Go.Sort.putCells (Value.int .i64) 0 d.toArray C) hι ((hheap B hlt).trans (if_pos rfl)) (fun cs hcs => ?_) (by omega) (by simpa [Go.Sort.putCells] using hd) (fun i cs hi j e hj => ?_) (fun i cs hi j e hj => ?_)
  · simp only [List.mem_map] at hcs
    obtain ⟨z, _, rfl⟩ := hcs
    rfl
  · obtain ⟨z, _, hz⟩ := hrow i cs hi j e hj
    rw [hz]
    rfl
  · obtain ⟨z, rfl, hz⟩ := hrow i cs hi j e hj
    rw [hz]
    exact .val _
/-- The numbers, as the library's contracts hold them. -/
theorem holds_ints {B : Nat} {C : Array Value} {t : TypeId} {zs : List Int} (hC : w.heap[B]? = some (.cells C t (0, 0))) (hat : ∀ (i : Nat) (z : Int), zs[i]? = some z → C.toList[i]? = some (Value.int .i64 z)) : Go.Sort.Holds (Value.int .i64) w B 0 zs.toArray := by
  intro j hj
  have hj' : j < zs.length := by simpa using hj
  refine ⟨?_, ?_⟩
  · have h1 := hat j _ (List.getElem?_eq_getElem hj')
    rw [Array.getElem?_toList] at h1
    simp [World.cell?, hC, h1, getElem!_pos, hj']
  · simp [World.frozen?, hC]

end Go.Proofs.Ytbkkekbeaabokaa.Sx
