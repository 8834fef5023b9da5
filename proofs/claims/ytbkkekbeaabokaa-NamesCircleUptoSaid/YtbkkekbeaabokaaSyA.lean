/- Sy, part A: data, their reading in memory, the abstract state of a call and its relation to the machine's. Plain definitions and theorems about the model alone, of no program. -/
import Derived.Below
import Derived.OwnWalk
import Derived.Maps.AppendAt
import Derived.Deep.MidRow
import Derived.Laws.BytesArg
import Derived.KernelRfl
import Derived.Deep.Draws
set_option linter.unusedVariables false
namespace Go.Proofs.Ytbkkekbeaabokaa.Sx
open Go Go.RowKit

instance instLawfulBytes : LawfulBEq ByteArray where
  eq_of_beq {a b} h := by
    cases a
    cases b
    rename_i x y
    have : (x == y) = true := h
    rw [eq_of_beq this]
  rfl {a} := by
    cases a
    rename_i x
    show (x == x) = true
    simp

/-- Data that nobody writes. -/
inductive Dat where
  | val (v : Value)
  | sl (size : Nat) (es : List (List Dat))
  | ref (cs : List Dat)
  | fn (g : FuncId) (caps : List Dat)
  | agg (cs : List Dat)
  | tup (cs : List Dat)
  | map (es : List (Value × Value))
  | bad
instance : Inhabited Dat := ⟨.bad⟩

/-- Where an abstract block lies. -/
inductive Loc where
  | dead | nil | at (B : Nat)

abbrev big : Nat := 140737488355328

/-- 'd' is what the value says; only blocks that are ok are looked at. -/
inductive DatR (ok : Nat → Prop) (w : World) : Dat → Value → Prop where
  | val (v : Value) : DatR ok w (.val v) v
  | slnil (size : Nat) (A : Option Addr) (c : Nat) : DatR ok w (.sl size []) (.slice A 0 c)
  | sl (size : Nat) (es : List (List Dat)) (B o c : Nat) (U : Nat → Nat → Value) (hlen : ∀ cs ∈ es, cs.length = size) (hc : es.length ≤ c) (hm : es.length ≤ 9223372036854775807) (hok : ok B)
      (hcell : ∀ i cs, es[i]? = some cs → ∀ j d, cs[j]? = some d → w.cell? ⟨B, o + (i * size + j), none⟩ = some (U i j) ∧ (U i j).oneCell' = true)
      (hU : ∀ i cs, es[i]? = some cs → ∀ j d, cs[j]? = some d → DatR ok w d (U i j)) : DatR ok w (.sl size es) (.slice (some ⟨B, o, none⟩) es.length c)
  | ref (cs : List Dat) (B o : Nat) (U : Nat → Value) (hok : ok B) (hcell : ∀ j d, cs[j]? = some d → w.cell? ⟨B, o + j, none⟩ = some (U j) ∧ (U j).oneCell' = true)
      (hU : ∀ j d, cs[j]? = some d → DatR ok w d (U j)) : DatR ok w (.ref cs) (.pointer (some ⟨B, o, none⟩))
  | fn (g : FuncId) (caps : List Dat) (vs : List Value) (hl : vs.length = caps.length) (hU : ∀ j d, caps[j]? = some d → DatR ok w d (vs.getD j undef)) : DatR ok w (.fn g caps) (.func (.func g) #[] vs.toArray)
  | agg (cs : List Dat) (vs : List Value) (hl : vs.length = cs.length) (h1 : ∀ v ∈ vs, v.oneCell' = true) (hU : ∀ j d, cs[j]? = some d → DatR ok w d (vs.getD j undef)) : DatR ok w (.agg cs) (.agg vs.toArray)
  | tup (cs : List Dat) (vs : List Value) (hl : vs.length = cs.length) (hU : ∀ j d, cs[j]? = some d → DatR ok w d (vs.getD j undef)) : DatR ok w (.tup cs) (.tuple vs.toArray)
  | map (es : List (Value × Value)) (B : Nat) (E : Array MapEntry) (k : Nat) (hok : ok B) (hE : w.heap[B]? = some (.map E k)) (he : E.toList.map (fun e => (e.key, e.val)) = es) : DatR ok w (.map es) (.map (some B))
  | bad (v : Value) : DatR ok w .bad v

theorem DatR.mono {ok ok' : Nat → Prop} {w w' : World} (hok : ∀ B, ok B → ok' B) (hh : ∀ B, ok B → w'.heap[B]? = w.heap[B]?) {d : Dat} {v : Value} (h : DatR ok w d v) : DatR ok' w' d v := by
  induction h with
  | val v => exact .val v
  | slnil s A c => exact .slnil s A c
  | sl size es B o c U hlen hc hm hokB hcell _ ih =>
    exact .sl size es B o c U hlen hc hm (hok _ hokB) (fun i cs hi j d hj => by
      have h := hcell i cs hi j d hj
      exact ⟨(World.cell?_of_block (w := w) (hh B hokB)).trans h.1, h.2⟩) ih
  | ref cs B o U hokB hcell _ ih =>
    exact .ref cs B o U (hok _ hokB) (fun j d hj => by
      have h := hcell j d hj
      exact ⟨(World.cell?_of_block (w := w) (hh B hokB)).trans h.1, h.2⟩) ih
  | fn g caps vs hl _ ih => exact .fn g caps vs hl ih
  | agg cs vs hl h1 _ ih => exact .agg cs vs hl h1 ih
  | tup cs vs hl _ ih => exact .tup cs vs hl ih
  | map es B E k hokB hE he => exact .map es B E k (hok _ hokB) ((hh B hokB).trans hE) he
  | bad v => exact .bad v

/-- What a slot or a cell of the call's own holds. -/
inductive D where
  | dat (d : Dat)
  | own (b size len : Nat)
  | vw (b size off len : Nat)
  | ptr (b off : Nat)
  | ept (b size i j : Nat)
  | fn (g : FuncId) (caps : List D)
  | agg (cs : List D)
  | tup (cs : List D)
  | mapb (b : Nat)
  | bad
instance : Inhabited D := ⟨.bad⟩

/-- A block of the call's own: a variable's cells, or a row of elements. -/
inductive HO where
  | var (cs : List D)
  | row (t : TypeId) (size : Nat) (es : List (List Dat))
  | rowD (t : TypeId) (size : Nat) (es : List (List D))
  | map (es : List (Value × Value))

/-- A block that may be looked at for ever: it is of the ground, and nobody's own. -/
def okB (G : Nat → Prop) (ι : Nat → Loc) (w : World) (B : Nat) : Prop := (B < w.heap.size ∧ G B) ∧ ∀ b, ι b ≠ .at B

inductive RelD (G : Nat → Prop) (ι : Nat → Loc) (nx : Nat) (w : World) : D → Value → Prop where
  | dat {d : Dat} {v : Value} (h : DatR (okB G ι w) w d v) : RelD G ι nx w (.dat d) v
  | own_dead (b size len : Nat) (v : Value) (h1 : v.oneCell' = true) (hb : b < nx) (h : ι b = .dead) : RelD G ι nx w (.own b size len) v
  | own_nil (b size : Nat) (hb : b < nx) (h : ι b = .nil) : RelD G ι nx w (.own b size 0) (.slice none 0 0)
  | own_at (b size len B c : Nat) (hb : b < nx) (h : ι b = .at B) (C : Array Value) (t : TypeId) (hC : w.heap[B]? = some (.cells C t (0, 0))) (hlen : len ≤ c) (hc : c ≤ maxLen) (hsz : C.size = c * size) : RelD G ι nx w (.own b size len) (.slice (some ⟨B, 0, none⟩) len c)
  | vw_dead (b size off len : Nat) (v : Value) (h1 : v.oneCell' = true) (hb : b < nx) (h : ι b = .dead) : RelD G ι nx w (.vw b size off len) v
  | vw_nil (b size off : Nat) (hb : b < nx) (h : ι b = .nil) (A : Option Addr) (c : Nat) : RelD G ι nx w (.vw b size off 0) (.slice A 0 c)
  | vw_at (b size off len B c : Nat) (A : Option Addr) (hb : b < nx) (h : ι b = .at B) (hA : 0 < len → A = some ⟨B, off * size, none⟩) (hlen : len ≤ c) (hc : c ≤ maxLen) : RelD G ι nx w (.vw b size off len) (.slice A len c)
  | ptr_dead (b off : Nat) (v : Value) (h1 : v.oneCell' = true) (hb : b < nx) (h : ι b = .dead) : RelD G ι nx w (.ptr b off) v
  | ptr_nil (b off : Nat) (v : Value) (h1 : v.oneCell' = true) (hb : b < nx) (h : ι b = .nil) : RelD G ι nx w (.ptr b off) v
  | ptr_at (b off B : Nat) (hb : b < nx) (h : ι b = .at B) : RelD G ι nx w (.ptr b off) (.pointer (some ⟨B, off, none⟩))
  | ept_dead (b size i j : Nat) (v : Value) (h1 : v.oneCell' = true) (hb : b < nx) (h : ι b = .dead) : RelD G ι nx w (.ept b size i j) v
  | ept_nil (b size i j : Nat) (v : Value) (h1 : v.oneCell' = true) (hb : b < nx) (h : ι b = .nil) : RelD G ι nx w (.ept b size i j) v
  | ept_at (b size i j B : Nat) (hb : b < nx) (h : ι b = .at B) : RelD G ι nx w (.ept b size i j) (.pointer (some ⟨B, i * size + j, none⟩))
  | fn (g : FuncId) (caps : List D) (vs : List Value) (hl : vs.length = caps.length) (hU : ∀ j d, caps[j]? = some d → RelD G ι nx w d (vs.getD j undef)) : RelD G ι nx w (.fn g caps) (.func (.func g) #[] vs.toArray)
  | agg (cs : List D) (vs : List Value) (hl : vs.length = cs.length) (h1 : ∀ v ∈ vs, v.oneCell' = true) (hU : ∀ j d, cs[j]? = some d → RelD G ι nx w d (vs.getD j undef)) : RelD G ι nx w (.agg cs) (.agg vs.toArray)
  | tup (cs : List D) (vs : List Value) (hl : vs.length = cs.length) (hU : ∀ j d, cs[j]? = some d → RelD G ι nx w d (vs.getD j undef)) : RelD G ι nx w (.tup cs) (.tuple vs.toArray)
  | map_dead (b : Nat) (v : Value) (h1 : v.oneCell' = true) (hb : b < nx) (h : ι b = .dead) : RelD G ι nx w (.mapb b) v
  | map_nil (b : Nat) (v : Value) (h1 : v.oneCell' = true) (hb : b < nx) (h : ι b = .nil) : RelD G ι nx w (.mapb b) v
  | map_at (b B : Nat) (hb : b < nx) (h : ι b = .at B) : RelD G ι nx w (.mapb b) (.map (some B))
  | bad (v : Value) : RelD G ι nx w .bad v

inductive RelO (G : Nat → Prop) (ι : Nat → Loc) (nx : Nat) (w : World) (b : Nat) : HO → Prop where
  | var (cs : List D) (B : Nat) (C : Array Value) (t : TypeId) (hb : ι b = .at B) (hC : w.heap[B]? = some (.cells C t (0, 0))) (hl : C.size = cs.length) (h1 : ∀ v ∈ C.toList, v.oneCell' = true)
      (hU : ∀ j d, cs[j]? = some d → RelD G ι nx w d (C.toList.getD j undef)) : RelO G ι nx w b (.var cs)
  | nil (t : TypeId) (size : Nat) (hb : ι b = .nil) : RelO G ι nx w b (.row t size [])
  | row (t : TypeId) (size : Nat) (es : List (List Dat)) (B : Nat) (C : Array Value) (hb : ι b = .at B) (hC : w.heap[B]? = some (.cells C t (0, 0))) (hlen : ∀ cs ∈ es, cs.length = size) (hs : 0 < size)
      (hl : es.length * size ≤ C.size) (h1 : ∀ i cs, es[i]? = some cs → ∀ j d, cs[j]? = some d → ((C.toList.getD (i * size + j) undef).oneCell' = true))
      (hU : ∀ i cs, es[i]? = some cs → ∀ j d, cs[j]? = some d → DatR (okB G ι w) w d (C.toList.getD (i * size + j) undef)) : RelO G ι nx w b (.row t size es)
  | rowD (t : TypeId) (size : Nat) (es : List (List D)) (B : Nat) (C : Array Value) (hb : ι b = .at B) (hC : w.heap[B]? = some (.cells C t (0, 0))) (hlen : ∀ cs ∈ es, cs.length = size) (hs : 0 < size)
      (hl : es.length * size ≤ C.size) (h1 : ∀ i cs, es[i]? = some cs → ∀ j d, cs[j]? = some d → ((C.toList.getD (i * size + j) undef).oneCell' = true))
      (hU : ∀ i cs, es[i]? = some cs → ∀ j d, cs[j]? = some d → RelD G ι nx w d (C.toList.getD (i * size + j) undef)) : RelO G ι nx w b (.rowD t size es)
  | map (es : List (Value × Value)) (B : Nat) (E : Array MapEntry) (k : Nat) (hb : ι b = .at B) (hE : w.heap[B]? = some (.map E k)) (he : E.toList.map (fun e => (e.key, e.val)) = es) : RelO G ι nx w b (.map es)

/-- From (ι, nx, w) to (ι', nx', w'): what is ok stays as it is, and ok; what is named keeps its place and its size, or is dead. -/
structure Fr (G : Nat → Prop) (ι : Nat → Loc) (nx : Nat) (w : World) (ι' : Nat → Loc) (nx' : Nat) (w' : World) : Prop where
  le : nx ≤ nx'
  ok : ∀ B, okB G ι w B → okB G ι' w' B ∧ w'.heap[B]? = w.heap[B]?
  loc : ∀ b, b < nx → ι' b = .dead ∨ (ι' b = ι b ∧ ∀ B, ι b = .at B → ∀ C t, w.heap[B]? = some (.cells C t (0, 0)) → ∃ C', w'.heap[B]? = some (.cells C' t (0, 0)) ∧ C'.size = C.size)

theorem Fr.datR {G : Nat → Prop} {ι ι' : Nat → Loc} {nx nx' : Nat} {w w' : World} (f : Fr G ι nx w ι' nx' w') {d : Dat} {v : Value} (h : DatR (okB G ι w) w d v) : DatR (okB G ι' w') w' d v :=
  h.mono (fun B hB => (f.ok B hB).1) (fun B hB => (f.ok B hB).2)

theorem Fr.relD {G : Nat → Prop} {ι ι' : Nat → Loc} {nx nx' : Nat} {w w' : World} (f : Fr G ι nx w ι' nx' w') {d : D} {v : Value} (h : RelD G ι nx w d v) : RelD G ι' nx' w' d v := by
  have lt : ∀ {b}, b < nx → b < nx' := fun h => Nat.lt_of_lt_of_le h f.le
  induction h with
  | dat h => exact .dat (f.datR h)
  | own_dead b s l v h1 hb h =>
    rcases f.loc b hb with e | ⟨e, _⟩
    · exact .own_dead b s l v h1 (lt hb) e
    · exact .own_dead b s l v h1 (lt hb) (e.trans h)
  | own_nil b s hb h =>
    rcases f.loc b hb with e | ⟨e, _⟩
    · exact .own_dead b s 0 _ rfl (lt hb) e
    · exact .own_nil b s (lt hb) (e.trans h)
  | own_at b s l B c hb h C t hC hlen hc hsz =>
    rcases f.loc b hb with e | ⟨e, k⟩
    · exact .own_dead b s l _ rfl (lt hb) e
    · obtain ⟨C', h1, h2⟩ := k B h C t hC
      exact .own_at b s l B c (lt hb) (e.trans h) C' t h1 hlen hc (h2.trans hsz)
  | vw_dead b s o l v h1 hb h =>
    rcases f.loc b hb with e | ⟨e, _⟩
    · exact .vw_dead b s o l v h1 (lt hb) e
    · exact .vw_dead b s o l v h1 (lt hb) (e.trans h)
  | vw_nil b s o hb h A c =>
    rcases f.loc b hb with e | ⟨e, _⟩
    · exact .vw_dead b s o 0 _ rfl (lt hb) e
    · exact .vw_nil b s o (lt hb) (e.trans h) A c
  | vw_at b s o l B c A hb h hA hlen hc =>
    rcases f.loc b hb with e | ⟨e, _⟩
    · exact .vw_dead b s o l _ rfl (lt hb) e
    · exact .vw_at b s o l B c A (lt hb) (e.trans h) hA hlen hc
  | ptr_dead b o v h1 hb h =>
    rcases f.loc b hb with e | ⟨e, _⟩
    · exact .ptr_dead b o v h1 (lt hb) e
    · exact .ptr_dead b o v h1 (lt hb) (e.trans h)
  | ptr_nil b o v h1 hb h =>
    rcases f.loc b hb with e | ⟨e, _⟩
    · exact .ptr_dead b o v h1 (lt hb) e
    · exact .ptr_nil b o v h1 (lt hb) (e.trans h)
  | ptr_at b o B hb h =>
    rcases f.loc b hb with e | ⟨e, _⟩
    · exact .ptr_dead b o _ rfl (lt hb) e
    · exact .ptr_at b o B (lt hb) (e.trans h)
  | ept_dead b s i j v h1 hb h =>
    rcases f.loc b hb with e | ⟨e, _⟩
    · exact .ept_dead b s i j v h1 (lt hb) e
    · exact .ept_dead b s i j v h1 (lt hb) (e.trans h)
  | ept_nil b s i j v h1 hb h =>
    rcases f.loc b hb with e | ⟨e, _⟩
    · exact .ept_dead b s i j v h1 (lt hb) e
    · exact .ept_nil b s i j v h1 (lt hb) (e.trans h)
  | ept_at b s i j B hb h =>
    rcases f.loc b hb with e | ⟨e, _⟩
    · exact .ept_dead b s i j _ rfl (lt hb) e
    · exact .ept_at b s i j B (lt hb) (e.trans h)
  | fn g caps vs hl _ ih => exact .fn g caps vs hl ih
  | agg cs vs hl h1 _ ih => exact .agg cs vs hl h1 ih
  | tup cs vs hl _ ih => exact .tup cs vs hl ih
  | map_dead b v h1 hb h =>
    rcases f.loc b hb with e | ⟨e, _⟩
    · exact .map_dead b v h1 (lt hb) e
    · exact .map_dead b v h1 (lt hb) (e.trans h)
  | map_nil b v h1 hb h =>
    rcases f.loc b hb with e | ⟨e, _⟩
    · exact .map_dead b v h1 (lt hb) e
    · exact .map_nil b v h1 (lt hb) (e.trans h)
  | map_at b B hb h =>
    rcases f.loc b hb with e | ⟨e, _⟩
    · exact .map_dead b _ rfl (lt hb) e
    · exact .map_at b B (lt hb) (e.trans h)
  | bad v => exact .bad v

/-- A block that is as it was. -/
theorem Fr.relO {G : Nat → Prop} {ι ι' : Nat → Loc} {nx nx' : Nat} {w w' : World} (f : Fr G ι nx w ι' nx' w') {b : Nat} {o : HO} (h : RelO G ι nx w b o) (hι : ι' b = ι b) (hB : ∀ B, ι b = .at B → w'.heap[B]? = w.heap[B]?) : RelO G ι' nx' w' b o := by
  cases h with
  | var cs B C t hb hC hl h1 hU => exact .var cs B C t (hι.trans hb) ((hB B hb).trans hC) hl h1 (fun j d hj => f.relD (hU j d hj))
  | nil t size hb => exact .nil t size (hι.trans hb)
  | row t size es B C hb hC hlen hs hl h1 hU => exact .row t size es B C (hι.trans hb) ((hB B hb).trans hC) hlen hs hl h1 (fun i cs hi j d hj => f.datR (hU i cs hi j d hj))
  | rowD t size es B C hb hC hlen hs hl h1 hU => exact .rowD t size es B C (hι.trans hb) ((hB B hb).trans hC) hlen hs hl h1 (fun i cs hi j d hj => f.relD (hU i cs hi j d hj))
  | map es B E k hb hE he => exact .map es B E k (hι.trans hb) ((hB B hb).trans hE) he

/-! ### The state -/
def lk {α : Type} (t : Nat) : List (Nat × α) → Option α
  | [] => none
  | (k, a) :: r => if t = k then some a else lk t r
def dl {α : Type} (t : Nat) : List (Nat × α) → List (Nat × α)
  | [] => []
  | (k, a) :: r => if t = k then dl t r else (k, a) :: dl t r
def up {α : Type} (t : Nat) (a : α) : List (Nat × α) → List (Nat × α)
  | [] => [(t, a)]
  | (k, x) :: r => if t = k then (t, a) :: r else (k, x) :: up t a r

theorem lk_up {α : Type} (t k : Nat) (a : α) : ∀ l : List (Nat × α), lk k (up t a l) = if k = t then some a else lk k l
  | [] => by simp [up, lk]
  | (q, x) :: r => by
    simp only [up]
    by_cases h : t = q
    · subst h
      simp only [if_true, lk]
      by_cases hk : k = t <;> simp [hk]
    · simp only [if_neg h, lk, lk_up t k a r]
      by_cases hk : k = q
      · subst hk
        simp [Ne.symm h]
      · simp [hk]
theorem lk_dl {α : Type} (t k : Nat) : ∀ l : List (Nat × α), lk k (dl t l) = if k = t then none else lk k l
  | [] => by simp [dl, lk]
  | (q, x) :: r => by
    simp only [dl]
    by_cases h : t = q
    · subst h
      simp only [if_true, lk_dl t k r, lk]
      by_cases hk : k = t <;> simp [hk]
    · simp only [if_neg h, lk, lk_dl t k r]
      by_cases hk : k = q
      · subst hk
        simp [Ne.symm h]
      · simp [hk]

/-- Slots, one's own blocks, the next name; ghosts: values that lie in no slot; and how far one has come (of an iterator: how many have been handed over). -/
structure S where
  sl : List (Nat × D)
  hp : List (Nat × HO)
  nx : Nat
  gh : List (Nat × D) := []
  st : Nat := 0

/-- What a call stands on: S: blocks that may be looked at; Z: what stays as it is; F: what is another's, and stays till that other has its turn; Ds: the blocks of the loops over functions; e: the world's rest; gv: the ghosts' values; dfs: deferred calls below. -/
structure Bs where
  S : Nat → Prop
  Z : Nat → Option Obj
  F : Nat → Option Obj
  Ds : List Nat
  e : World
  gv : Nat → Value
  dfs : List Deferred
def Bs.G (β : Bs) : Nat → Prop := fun B => β.S B ∧ β.F B = none ∧ B ∉ β.Ds
/-- No block that stays. -/
def Bs.Q (β : Bs) : Nat → Prop := fun B => β.Z B = none ∧ β.F B = none ∧ B ∉ β.Ds

/-- From w to w' nothing of what stays has turned. -/
structure Go (β : Bs) (w w' : World) : Prop where
  os : w'.os = w.os
  tape : w'.tape = w.tape
  output : w'.output = w.output
  size : w.heap.size ≤ w'.heap.size
  same : ∀ B, B < w.heap.size → ¬ β.Q B → w'.heap[B]? = w.heap[B]?

def mark (D : Nat) : Deferred := { target := .collected D, args := #[] }

structure Rel (β : Bs) (ι : Nat → Loc) (s : S) (a : Act) (w : World) (N : Nat) : Prop where
  env : w.os = β.e.os ∧ w.tape = β.e.tape ∧ w.output = β.e.output ∧ β.e.heap.size ≤ w.heap.size
  kept : ∀ B o, (β.Z B = some o ∨ β.F B = some o) → w.heap[B]? = some o
  apart : ∀ B, β.Z B ≠ none → β.F B = none ∧ B ∉ β.Ds
  size : a.tmps.size = N
  marks : a.defers = β.Ds.map mark ++ β.dfs ∧ β.Ds.Nodup ∧ ∀ D ∈ β.Ds, w.heap[D]? = some (.deferred (some [])) ∧ β.F D = none
  slots : ∀ t d, lk t s.sl = some d → t < N ∧ RelD β.G ι s.nx w d (a.tmps.getD t undef)
  ghosts : ∀ t d, lk t s.gh = some d → RelD β.G ι s.nx w d (β.gv t)
  heap : ∀ b o, lk b s.hp = some o → RelO β.G ι s.nx w b o
  inside : ∀ b B, ι b = .at B → B < w.heap.size ∧ β.Q B
  inj : ∀ b b' B, ι b = .at B → ι b' = .at B → b = b'
  dead : ∀ b, lk b s.hp = none → ι b = .dead
  fresh : ∀ b, s.nx ≤ b → lk b s.hp = none
  gr : ∀ B, ((∃ b, ι b = .at B) ∨ w.heap.size ≤ B) → β.S B

end Go.Proofs.Ytbkkekbeaabokaa.Sx
