/- Sy, part I: the operations together; a region of them; the code; contracts of functions. -/
import Derived.Test.YtbkkekbeaabokaaSyH
import Derived.Lib.AppendZerosOnto
set_option linter.unusedVariables false
set_option linter.unusedSimpArgs false
namespace Go.Proofs.Ytbkkekbeaabokaa.Sx
open Go Go.RowKit

variable {P : Program} {β : Bs} {G : Nat → Prop} {w w' : World} {ι ι' : Nat → Loc} {s s' : S} {a : Act} {N : Nat}

theorem ok_append (h : Rel β ι s a w N) {o : Oper} {t : TypeId} {x y : Operand} (ho : o.op = .call { callee := .builtin .append, args := #[x, y], argTypes := #[t, t] }) {d : D} (hd : aAppend P s t (ev s x) (ev s y) = some (d, s')) : Good β P o a w N d s' := by
  have hx := ev_rel h x
  have hy := ev_rel h y
  have fin : ∀ v w' ι', (Builtin.append_ #[t, t] o.type #[a.eval x, a.eval y]).run P w = .ok v w' → Rel β ι' s' a w' N → RelD β.G ι' s'.nx w' d v → Good β P o a w N d s' := by
    intro v w' ι' hr hR hD
    refine ⟨v, w', ι', .inl ?_, hR, hD⟩
    unfold execOp
    simp only [ho, resolve, invoke, builtin, Sem.run_bind, Sem.run_pure, Result.andThen_ok, List.map_toArray, List.map_cons, List.map_nil, hr]
  unfold aAppend at hd
  split at hd
  · rename_i i hi
    split at hd
    · rename_i e esz hk
      obtain ⟨hu, hez⟩ := kd_slice hi hk
      split at hd
      · rename_i b size len hxe
        split at hd
        · rename_i hsz
          subst hsz
          rw [hxe] at hx
          rw [hez] at hx
          obtain ⟨v, w', ι', hr, hR, hD⟩ := append_rel (ty := o.type) h hu hx hy hd
          exact fin v w' ι' hr hR hD
        · cases hd
      · rename_i hxe
        rw [hxe] at hx
        have hv : a.eval x = .slice none 0 0 := by obtain ⟨hx⟩ := hx; generalize a.eval x = z at hx; cases hx; rfl
        have h1 := h.newNil e esz
        have f : Fr β.G ι s.nx w (name ι s.nx .nil) (s.nx + 1) w := by
          refine ⟨Nat.le_succ _, fun B hB => ⟨⟨hB.1, fun x hx => ?_⟩, rfl⟩, fun x hx => .inr ⟨by simp only [name]; rw [if_neg (by omega)], fun B hB C' t' hC => ⟨C', hC, rfl⟩⟩⟩
          by_cases e : x = s.nx
          · simp [name, e] at hx
          · simp only [name, if_neg e] at hx
            exact hB.2 x hx
        have hy1 := f.relD hy
        have hx1 : RelD β.G (name ι s.nx .nil) (s.nx + 1) w (.own s.nx (szOf P e) 0) (a.eval x) := by
          rw [hv]
          exact .own_nil _ _ (Nat.lt_succ_self _) (by simp [name])
        obtain ⟨v, w', ι', hr, hR, hD⟩ := append_rel (ty := o.type) h1 hu hx1 hy1 hd
        exact fin v w' ι' hr hR hD
      · cases hd
    · cases hd
  · cases hd

/-! ### len -/
def aLen (P : Program) (s : S) (t : TypeId) (x : D) : Option D :=
  match infoOf P t with
  | some i => match i.kd, x with
    | .slice e esz, x => (elems s esz x).map fun es => .dat (.val (.int .i64 es.length))
    | .string, .dat (.val (.string b)) => some (.dat (.val (.int .i64 b.size)))
    | _, _ => none
  | none => none
theorem kd_string {t : TypeId} {i : TI} (hi : infoOf P t = some i) (hk : i.kd = .string) : P.underlying t = some .string := by
  obtain ⟨ti, d, z, _, h2, _, hk', _⟩ := infoOf_spec hi
  rw [hk'] at hk
  cases d <;> simp [kdOf] at hk
  exact h2
theorem ok_len (h : Rel β ι s a w N) {o : Oper} {t : TypeId} {x : Operand} (ho : o.op = .call { callee := .builtin .len, args := #[x], argTypes := #[t] }) {d : D} (hd : aLen P s t (ev s x) = some d) : Good β P o a w N d s := by
  have hx := ev_rel h x
  have fin : ∀ v, (Builtin.len_ #[t] o.type #[a.eval x]).run P w = .ok v w → RelD β.G ι s.nx w d v → Good β P o a w N d s := by
    intro v hr hD
    refine ⟨v, w, ι, .inl ?_, h, hD⟩
    unfold execOp
    simp only [ho, resolve, invoke, builtin, Sem.run_bind, Sem.run_pure, Result.andThen_ok, List.map_toArray, List.map_cons, List.map_nil, hr]
  generalize ev s x = dx at hx hd
  unfold aLen at hd
  split at hd
  · rename_i i hi
    split at hd
    · rename_i e esz _ hk
      simp only [Option.map_eq_some_iff] at hd
      obtain ⟨es, hes, rfl⟩ := hd
      obtain ⟨hu, hez⟩ := kd_slice hi hk
      obtain ⟨A, c, U, hv, hc, _⟩ := elems_rel h hx hes
      refine fin (.int .i64 es.length) ?_ (.dat (.val _))
      rw [hv]
      simp [Builtin.len_, run_underlying hu, goInt]
    · rename_i b hk
      injection hd with hd
      subst hd
      have hv : a.eval x = .string b := by obtain ⟨hx⟩ := hx; generalize a.eval x = z at hx; cases hx; rfl
      refine fin (.int .i64 b.size) ?_ (.dat (.val _))
      rw [hv]
      simp [Builtin.len_, run_underlying (kd_string hi hk), goInt]
    · cases hd
  · cases hd

/-! ### a cut -/
def asI : D → Option Int
  | .dat (.val (.int _ n)) => some n
  | _ => none
def cutD (s : S) (esz : Nat) (lo hi : Nat) (x : D) : Option D := match x with
  | .dat (.sl size es) => if size = esz then some (.dat (.sl size ((es.take hi).drop lo))) else none
  | .own b size len => if size = esz then (if lo = 0 then some (.own b size hi) else some (.vw b size lo (hi - lo))) else none
  | .vw b size off len => if size = esz then some (.vw b size (off + lo) (hi - lo)) else none
  | .dat (.val (.slice none 0 0)) => some (.dat (.val (.slice none 0 0)))
  | _ => none
def aSlice (P : Program) (s : S) (t : TypeId) (x : D) (lo hi : Option D) : Option D :=
  match infoOf P t with
  | some i => match i.kd with
    | .slice e esz => match elems s esz x, (match lo with | none => some 0 | some d => asI d), (match hi with | none => (elems s esz x).map fun es => (es.length : Int) | some d => asI d) with
      | some es, some l, some h => if 0 ≤ l ∧ l ≤ h ∧ h ≤ es.length ∧ 0 < esz then cutD s esz l.toNat h.toNat x else none
      | _, _, _ => none
    | _ => none
  | none => none
theorem asI_rel {d : D} {v : Value} {n : Int} (h : RelD G ι s.nx w d v) (hn : asI d = some n) : ∃ k, v = .int k n := by
  unfold asI at hn
  split at hn
  · injection hn with hn; subst hn; obtain ⟨h⟩ := h; cases h; exact ⟨_, rfl⟩
  · cases hn

theorem run_cut {t e : TypeId} (hu : P.underlying t = some (.slice e)) (hne : szOf P e ≠ 0) (A : Option Addr) (len cap : Nat) (hlc : len ≤ cap) (lo hi : Option Value) (l h : Int) (hlo : (lo = none ∧ l = 0) ∨ ∃ k, lo = some (.int k l)) (hhi : (hi = none ∧ h = len) ∨ ∃ k, hi = some (.int k h)) (h0 : 0 ≤ l) (h1 : l ≤ h) (h2 : h ≤ len) :
    (Instr.sliceAt t (.slice A len cap) lo hi none).run P w = .ok (.slice (if cap = l.toNat then A else A.map (·.add (l.toNat * szOf P e))) (h.toNat - l.toNat) (cap - l.toNat)) w := by
  have hel : P.elem t = e := by simp [Program.elem, hu]
  have hu' : P.underlying t = some (.slice (P.elem t)) := by rw [hel]; exact hu
  rw [run_sliceAt_slice w t _ _ _ _ hu']
  have hs := run_sizeOf_sz hne w
  rcases hlo with ⟨rfl, rfl⟩ | ⟨k, rfl⟩
  · rcases hhi with ⟨rfl, rfl⟩ | ⟨k', rfl⟩
    · rw [run_slice_all w t A len cap hu', hel, hs]
      simp [Result.andThen, sliced]
    · rw [run_slice_h w t A len cap hu' k' h (by omega) (by omega), hel, hs]
      simp [Result.andThen, sliced]
  · rcases hhi with ⟨rfl, rfl⟩ | ⟨k', rfl⟩
    · rw [run_slice_l w t A len cap hu' k l h0 (by omega), hel, hs]
      simp [Result.andThen, sliced]
    · rw [run_slice_lh w t A len cap hu' k k' l h h0 h1 (by omega), hel, hs]
      simp [Result.andThen, sliced]

theorem val_eq0 {v u : Value} (h : RelD G ι s.nx w (.dat (.val v)) u) : u = v := by obtain ⟨h⟩ := h; cases h; rfl
theorem kd_int0 {t : TypeId} {i : TI} {k : IntKind} (hi : infoOf P t = some i) (hk : i.kd = .int k) : P.underlying t = some (.int k) := by
  obtain ⟨ti, d, z, g1, g2, g3, g4, _⟩ := infoOf_spec hi
  rw [hk] at g4
  rw [g2]
  cases d <;> simp [kdOf] at g4 <;> simp [g4]
theorem ok_slice (h : Rel β ι s a w N) {o : Oper} {t : TypeId} {x : Operand} {lo hi : Option Operand} (ho : o.op = .slice t x lo hi none) {d : D} (hd : aSlice P s t (ev s x) (lo.map (ev s)) (hi.map (ev s)) = some d) : Good β P o a w N d s := by
  have hx := ev_rel h x
  unfold aSlice at hd
  split at hd
  · rename_i i hi'
    split at hd
    · rename_i e esz hk
      obtain ⟨hu, hez⟩ := kd_slice hi' hk
      split at hd
      · rename_i es l hh hes hl hhv
        split at hd
        · rename_i hc
          obtain ⟨h0, h1, h2, hpos⟩ := hc
          obtain ⟨A, c, U, hv, hlc, hlies⟩ := elems_rel h hx hes
          have hlo : (lo.map a.eval = none ∧ l = 0) ∨ ∃ k, lo.map a.eval = some (.int k l) := by
            cases lo with
            | none => simp at hl; exact .inl ⟨rfl, hl.symm⟩
            | some y => simp at hl; obtain ⟨k, hk⟩ := asI_rel (ev_rel h y) hl; exact .inr ⟨k, by simp [hk]⟩
          have hhi : (hi.map a.eval = none ∧ hh = es.length) ∨ ∃ k, hi.map a.eval = some (.int k hh) := by
            cases hi with
            | none => simp [hes] at hhv; exact .inl ⟨rfl, hhv.symm⟩
            | some y => simp at hhv; obtain ⟨k, hk⟩ := asI_rel (ev_rel h y) hhv; exact .inr ⟨k, by simp [hk]⟩
          have hrun := run_cut (P := P) (w := w) hu (by omega) A es.length c hlc _ _ l hh hlo hhi h0 h1 h2
          refine ⟨.slice (if c = l.toNat then A else A.map (·.add (l.toNat * szOf P e))) (hh.toNat - l.toNat) (c - l.toNat), w, ι, .inl ?_, h, ?_⟩
          · unfold execOp
            simp only [ho, hv, Option.map_none]
            exact run_value hrun
          · -- what the new value reads as
            rw [hv] at hx
            unfold cutD at hd
            split at hd
            · rename_i size es' hxe
              split at hd
              · rename_i hsz
                subst hsz
                injection hd with hd
                subst hd
                rw [hxe] at hx hes
                simp only [elems, if_true, Option.some.injEq] at hes
                subst hes
                have hlen : ((es'.take hh.toNat).drop l.toNat).length = hh.toNat - l.toNat := by simp; omega
                obtain ⟨hx⟩ := hx
                refine .dat ?_
                by_cases hz : hh.toNat - l.toNat = 0
                · rw [hz]
                  rw [List.eq_nil_of_length_eq_zero (hlen.trans hz)]
                  exact .slnil _ _ _
                · have hcl : c ≠ l.toNat := by omega
                  generalize hel : es'.length = L at hx
                  cases hx with
                  | slnil => simp at h2; omega
                  | sl _ _ B q c' U' hlens hc' hm hok hcell hU =>
                    rw [if_neg hcl]
                    simp only [Option.map_some, Addr.add_mid]
                    have hbg : es'.length ≤ 9223372036854775807 := by first | exact hm | omega
                    have hll : ((es'.take hh.toNat).drop l.toNat).length ≤ c - l.toNat := by rw [hlen]; omega
                    have hlb : ((es'.take hh.toNat).drop l.toNat).length ≤ 9223372036854775807 := by rw [hlen]; omega
                    rw [← hlen]
                    refine .sl _ _ B _ _ (fun i j => U' (l.toNat + i) j) (fun cs hcs => hlens cs (List.mem_of_mem_take (List.mem_of_mem_drop hcs))) hll hlb hok (fun i cs hi j d hj => ?_) (fun i cs hi j d hj => ?_)
                    · rw [List.getElem?_drop, List.getElem?_take] at hi
                      split at hi
                      · have := hcell _ cs hi j d hj
                        rw [← hez, show q + l.toNat * size + (i * size + j) = q + ((l.toNat + i) * size + j) by rw [Nat.add_mul]; omega]
                        exact this
                      · cases hi
                    · rw [List.getElem?_drop, List.getElem?_take] at hi
                      split at hi
                      · exact hU _ cs hi j d hj
                      · cases hi
              · cases hd
            · rename_i b size len hxe
              split at hd
              · rename_i hsz
                subst hsz
                split at hd
                · rename_i hl0
                  injection hd with hd
                  subst hd
                  rw [hxe] at hx
                  rw [hl0]
                  generalize hel : es.length = L at hx h2
                  cases hx with
                  | own_dead _ _ _ _ _ hb he => exact .own_dead b _ _ _ rfl hb he
                  | own_nil _ _ hb he =>
                    have e2 : hh.toNat = 0 := by omega
                    rw [e2]
                    exact .own_nil b _ hb he
                  | own_at _ _ _ B _ hb he C t' hC hlc' hcm hsz' =>
                    have e3 : (if c = 0 then (some ⟨B, 0, none⟩ : Option Addr) else (some (⟨B, 0, none⟩ : Addr)).map (·.add (0 * szOf P e))) = some ⟨B, 0, none⟩ := by
                      split
                      · rfl
                      · simp [Addr.add_mid]
                    rw [e3]
                    exact .own_at b _ _ B _ hb he C t' hC (by omega) (by simpa using hcm) (by simpa using hsz')
                · injection hd with hd
                  subst hd
                  rw [hxe] at hx
                  generalize hel : es.length = L at hx h2
                  cases hx with
                  | own_dead _ _ _ _ _ hb he => exact .vw_dead b _ _ _ _ rfl hb he
                  | own_nil _ _ hb he =>
                    have e1 : l.toNat = 0 := by omega
                    have e2 : hh.toNat = 0 := by omega
                    rw [e1, e2]
                    exact .vw_nil b _ _ hb he _ _
                  | own_at _ _ _ B _ hb he C t' hC hlc' hcm hsz' =>
                    refine .vw_at b _ _ _ B _ _ hb he (fun hp => ?_) (by omega) (by omega)
                    rw [if_neg (by omega)]
                    simp [Addr.add_mid, hez]
              · cases hd
            · rename_i b size off len hxe
              split at hd
              · rename_i hsz
                subst hsz
                injection hd with hd
                subst hd
                rw [hxe] at hx
                generalize hel : es.length = L at hx h2
                cases hx with
                | vw_dead _ _ _ _ _ _ hb he => exact .vw_dead b _ _ _ _ rfl hb he
                | vw_nil _ _ _ hb he =>
                  have e1 : l.toNat = 0 := by omega
                  have e2 : hh.toNat = 0 := by omega
                  rw [e1, e2]
                  exact .vw_nil b _ _ hb he _ _
                | vw_at _ _ _ _ B _ _ hb he hA hlc' hcm =>
                  refine .vw_at b _ _ _ B _ _ hb he (fun hp => ?_) (by omega) (by omega)
                  rw [if_neg (by omega), hA (by omega)]
                  simp only [Option.map_some, Addr.add_mid, hez, Nat.add_mul]
              · cases hd
            · rename_i hxe
              injection hd with hd
              subst hd
              rw [hxe] at hx hes
              simp only [elems, Option.some.injEq] at hes
              subst hes
              have e1 : l.toNat = 0 := by simp at h2; omega
              have e2 : hh.toNat = 0 := by simp at h2; omega
              have hx2 := val_eq0 hx
              simp only [Value.slice.injEq, List.length_nil] at hx2
              obtain ⟨rfl, _, rfl⟩ := hx2
              rw [e1, e2]
              simp only [if_true]
              exact .dat (.val _)
            · cases hd
        · cases hd
      · cases hd
    · cases hd
  · cases hd

/-! ### small ones -/
def aUn (op : UnOp) (x : D) : Option D := match op, x with
  | .not, .dat (.val (.bool b)) => some (.dat (.val (.bool !b)))
  | .neg, .dat (.val (.int k n)) => some (.dat (.val (.int k (k.wrap (0 - n)))))
  | _, _ => none
theorem val_eq {v u : Value} (h : RelD G ι s.nx w (.dat (.val v)) u) : u = v := by obtain ⟨h⟩ := h; cases h; rfl
theorem ok_un (h : Rel β ι s a w N) {o : Oper} {op : UnOp} {t : TypeId} {x : Operand} (ho : o.op = .unOp op t x) {d : D} (hd : aUn op (ev s x) = some d) : Good β P o a w N d s := by
  have hx := ev_rel h x
  generalize ev s x = dx at hx hd
  unfold aUn at hd
  split at hd
  · injection hd with hd
    subst hd
    exact ⟨_, w, ι, .inl (by unfold execOp; simp only [ho, val_eq hx]; exact run_value rfl), h, .dat (.val _)⟩
  · injection hd with hd
    subst hd
    exact ⟨_, w, ι, .inl (by unfold execOp; simp only [ho, val_eq hx]; exact run_value rfl), h, .dat (.val _)⟩
  · cases hd

def aConv (P : Program) (dst : TypeId) (x : D) : Option D := match infoOf P dst, x with
  | some i, .dat (.val (.int _ n)) => match i.kd with
    | .int k => some (.dat (.val (.int k (k.wrap n))))
    | _ => none
  | some i, .dat (.val (.string b)) => match i.kd with
    | .string => some (.dat (.val (.string b)))
    | _ => none
  | _, _ => none
theorem kd_int {t : TypeId} {i : TI} {k : IntKind} (hi : infoOf P t = some i) (hk : i.kd = .int k) : P.underlying t = some (.int k) := by
  obtain ⟨ti, d, z, _, h2, _, hk', _⟩ := infoOf_spec hi
  rw [hk'] at hk
  cases d <;> simp [kdOf] at hk
  rw [h2, hk]
theorem ok_conv (h : Rel β ι s a w N) {o : Oper} {src dst : TypeId} {x : Operand} (ho : o.op = .convert src dst x) {si : TI} (hs : infoOf P src = some si) {d : D} (hd : aConv P dst (ev s x) = some d) : Good β P o a w N d s := by
  have hx := ev_rel h x
  generalize ev s x = dx at hx hd
  obtain ⟨_, sd, _, _, hsu, _⟩ := infoOf_spec hs
  unfold aConv at hd
  split at hd
  · rename_i i k n hi
    split at hd
    · rename_i k' hk
      injection hd with hd
      subst hd
      refine ⟨.int k' (k'.wrap n), w, ι, .inl ?_, h, .dat (.val _)⟩
      unfold execOp
      simp only [ho, val_eq hx]
      refine run_value ?_
      simp [convert, run_underlying hsu, run_underlying (kd_int hi hk), Conv.intToInt]
    · cases hd
  · rename_i i b hi
    split at hd
    · rename_i hk
      injection hd with hd
      subst hd
      refine ⟨.string b, w, ι, .inl ?_, h, .dat (.val _)⟩
      unfold execOp
      simp only [ho, val_eq hx]
      refine run_value ?_
      simp [convert, run_underlying hsu, run_underlying (kd_string hi hk)]
    · cases hd
  · cases hd

def aNil (s : S) (x : D) : Option D := match x with
  | .dat (.ref cs) => some (.dat (.ref cs))
  | .ptr b o => match lk b s.hp with
    | some (.var _) => some (.ptr b o)
    | _ => none
  | _ => none
theorem ok_nil (h : Rel β ι s a w N) {o : Oper} {x : Operand} (ho : o.op = .nilCheck x) {d : D} (hd : aNil s (ev s x) = some d) : Good β P o a w N d s := by
  have hx := ev_rel h x
  generalize ev s x = dx at hx hd
  unfold aNil at hd
  split at hd
  · injection hd with hd
    subst hd
    refine ⟨a.eval x, w, ι, .inl ?_, h, hx⟩
    obtain ⟨hx⟩ := hx
    generalize hv : a.eval x = v at hx
    cases hx with
    | ref => unfold execOp; simp only [ho, hv]; rfl
  · split at hd
    · rename_i b q cs hb
      injection hd with hd
      subst hd
      refine ⟨a.eval x, w, ι, .inl ?_, h, hx⟩
      obtain ⟨B, hι⟩ := h.kd hb
      generalize hv : a.eval x = v at hx
      cases hx with
      | ptr_dead _ _ _ _ _ he => simp [he] at hι
      | ptr_nil _ _ _ _ _ he => simp [he] at hι
      | ptr_at => unfold execOp; simp only [ho, hv]; rfl
    · cases hd
  · cases hd

theorem ok_func (h : Rel β ι s a w N) {o : Oper} {g : FuncId} {caps : Array Operand} (ho : o.op = .makeFunc (.func g) #[] caps) : Good β P o a w N (.fn g (caps.toList.map (ev s))) s := by
  refine ⟨.func (.func g) #[] (caps.toList.map a.eval).toArray, w, ι, .inl ?_, h, .fn g _ _ (by simp) (fun j d hj => ?_)⟩
  · unfold execOp
    simp only [ho]
    refine run_value ?_
    simp [Instr.makeFunc, List.map_toArray]
    apply Array.toList_inj.1
    simp
  · simp only [List.getElem?_map, Option.map_eq_some_iff] at hj
    obtain ⟨y, hy, rfl⟩ := hj
    rw [getD_get?, List.getElem?_map, hy]
    exact ev_rel h y

def aExt (x : D) (i : Nat) : Option D := match x with
  | .tup ds => ds[i]?
  | .dat (.tup ds) => (ds[i]?).map .dat
  | _ => none
theorem ok_ext (h : Rel β ι s a w N) {o : Oper} {x : Operand} {i : Nat} (ho : o.op = .extract x i) {d : D} (hd : aExt (ev s x) i = some d) : Good β P o a w N d s := by
  have hx := ev_rel h x
  generalize ev s x = dx at hx hd
  have fin : ∀ vs : List Value, a.eval x = .tuple vs.toArray → ∀ v, vs[i]? = some v → RelD β.G ι s.nx w d v → Good β P o a w N d s := by
    intro vs he v hv hD
    refine ⟨v, w, ι, .inl ?_, h, hD⟩
    unfold execOp
    simp only [ho, he]
    refine run_value ?_
    simp [Instr.extract, hv]
  unfold aExt at hd
  split at hd
  · rename_i ds
    generalize he : a.eval x = z at hx fin
    cases hx with
    | tup _ vs hl hU =>
      have hlt : i < vs.length := by rw [hl]; exact (List.getElem?_eq_some_iff.1 hd).1
      have := hU i d hd
      rw [getD_get?, List.getElem?_eq_getElem hlt] at this
      exact fin vs rfl _ (List.getElem?_eq_getElem hlt) this
  · rename_i ds
    simp only [Option.map_eq_some_iff] at hd
    obtain ⟨e, he', rfl⟩ := hd
    obtain ⟨hx⟩ := hx
    generalize he : a.eval x = z at hx fin
    cases hx with
    | tup _ vs hl hU =>
      have hlt : i < vs.length := by rw [hl]; exact (List.getElem?_eq_some_iff.1 he').1
      have := hU i e he'
      rw [getD_get?, List.getElem?_eq_getElem hlt] at this
      exact fin vs rfl _ (List.getElem?_eq_getElem hlt) (.dat this)
  · cases hd

/-! ### cap of nil; append of a make to nil -/
def aCap (P : Program) (t : TypeId) (x : D) : Option D := match infoOf P t, x with
  | some i, .dat (.val (.slice none 0 0)) => match i.kd with
    | .slice _ _ => some (.dat (.val (.int .i64 0)))
    | _ => none
  | _, _ => none
theorem ok_cap (h : Rel β ι s a w N) {o : Oper} {t : TypeId} {x : Operand} (ho : o.op = .call { callee := .builtin .cap, args := #[x], argTypes := #[t] }) {d : D} (hd : aCap P t (ev s x) = some d) : Good β P o a w N d s := by
  have hx := ev_rel h x
  unfold aCap at hd
  split at hd
  · rename_i i hi hxe
    split at hd
    · rename_i e esz hk
      injection hd with hd
      subst hd
      rw [hxe] at hx
      have hv := val_eq0 hx
      have hu := run_underlying (kd_slice hi hk).1 w
      refine ⟨.int .i64 0, w, ι, .inl ?_, h, .dat (.val _)⟩
      unfold execOp
      simp [ho, resolve, invoke, builtin, Sem.run_bind, Sem.run_pure, Result.andThen_ok, hv, Builtin.cap_, goInt, hu]
    · cases hd
  · cases hd
def aMore (P : Program) (s : S) (t t' : TypeId) (x y : D) : Option (D × S) :=
  match infoOf P t, infoOf P t' with
  | some i, some i' => match i.kd, i'.kd with
    | .slice e esz, .int _ => match infoOf P e with
      | some ei => match x, y with
        | .dat (.val (.slice none 0 0)), .dat (.val (.int _ n)) => if 0 < n ∧ 0 < esz ∧ ei.zero.length = esz ∧ ei.zero.all Value.oneCell' = true ∧ n.toNat * ei.bytes ≤ big ∧ n ≤ 4611686018427387904 then
            some (.own s.nx esz n.toNat, { s with hp := (s.nx, .row e esz (List.replicate n.toNat (ei.zero.map .val))) :: s.hp, nx := s.nx + 1 }) else none
        | _, _ => none
      | none => none
    | _, _ => none
  | _, _ => none
theorem ok_more (h : Rel β ι s a w N) {o : Oper} {t t' : TypeId} {x y : Operand} (ho : o.op = .call { callee := .builtin .append, args := #[x, y], argTypes := #[t, t'] }) {d : D} (hd : aMore P s t t' (ev s x) (ev s y) = some (d, s')) : Good β P o a w N d s' := by
  have hx := ev_rel h x
  have hy := ev_rel h y
  unfold aMore at hd
  split at hd
  · rename_i i i' hi hi'
    split at hd
    · rename_i e esz kk hk hk'
      split at hd
      · rename_i ei hei
        split at hd
        · rename_i k n hxe hye
          split at hd
          · rename_i hc
            obtain ⟨hn, hpos, hzl, hz1, hbg, hn63⟩ := hc
            simp only [Option.some.injEq, Prod.mk.injEq] at hd
            obtain ⟨rfl, rfl⟩ := hd
            rw [hxe] at hx
            rw [hye] at hy
            have hxv := val_eq0 hx
            have hyv := val_eq0 hy
            obtain ⟨hu, hez⟩ := kd_slice hi hk
            obtain ⟨ti, dd, z, g1, g2, g3, g4, g5, g6, g7⟩ := infoOf_spec hei
            have hti : ti.size = esz := by rw [g5, hez, sz_of_info hei]
            have hzs : z.cells.size = esz := by rw [← hzl, ← g7]; simp
            obtain ⟨m, rfl⟩ : ∃ m : Nat, n = m := ⟨n.toNat, by omega⟩
            have hm : 0 < m := by omega
            have hs : (m : Int).toNat = m := by omega
            rw [hs] at hbg ⊢
            have hbg' : m * ti.bytes ≤ 140737488355328 := by rw [g6]; exact hbg
            have hnc : Builtin.nextslicecap (0 + m) 0 = m := by unfold Builtin.nextslicecap; rw [if_pos (by omega)]; omega
            have hrun := Go.Lib.run_append_grow_zeros (P := P) w t t' o.type e ti z k kk hu (kd_int0 hi' hk') g1 g3 none 0 0 [] (by simp [Builtin.firstCells]) m hm (by omega) (by omega) (by omega) (by omega) (by rw [hnc]; omega)
            obtain ⟨Z, hZ⟩ : ∃ Z, Z = Builtin.zeroCells z.cells m ++ Builtin.zeroCells z.cells (grownCap w (0 + m) 0 e - (0 + m)) := ⟨_, rfl⟩
            have hcap : m ≤ grownCap w (0 + m) 0 e ∧ grownCap w (0 + m) 0 e ≤ maxLen := by
              have h1 : grownCap w (0 + m) 0 e = (0 + m) + (w.tape w.drawn (.appendCap (0 + m) 0 e)) % (2 ^ 63 - (0 + m)) := rfl
              have h2 : (w.tape w.drawn (.appendCap (0 + m) 0 e)) % (2 ^ 63 - (0 + m)) < 2 ^ 63 - (0 + m) := Nat.mod_lt _ (by omega)
              rw [h1]
              simp only [maxLen]
              omega
            have hZs : Z.size = grownCap w (0 + m) 0 e * esz := by
              rw [hZ]
              simp only [Builtin.zeroCells, Array.size_append, Array.size_map, Array.size_range, hzs]
              rw [← Nat.add_mul]
              congr 1
              omega
            have hZat : ∀ i j, i < m → j < esz → Z.toList.getD (i * esz + j) undef = z.cells.toList.getD j undef := by
              intro i j hi hj
              have hlt : i * esz + j < m * esz := by
                have : i * esz + esz ≤ m * esz := by rw [← Nat.succ_mul]; exact Nat.mul_le_mul_right _ hi
                omega
              rw [getD_get?, getD_get?, Array.getElem?_toList, hZ, Array.getElem?_append_left (by simp [Builtin.zeroCells, hzs]; exact hlt)]
              simp only [Builtin.zeroCells, Array.getElem?_map, hzs]
              rw [Array.getElem?_range, if_pos hlt]
              simp only [Option.map_some, Option.getD_some]
              rw [show (i * esz + j) % esz = j by rw [Nat.mul_comm, Nat.mul_add_mod, Nat.mod_eq_of_lt hj], Array.getElem?_toList, Array.getElem?_eq_getElem (by omega)]
              simp [getElem!_pos, hzs, hj]
            have hrun' : (Builtin.append_ #[t, t'] o.type #[.slice none 0 0, .int k m]).run P w = .ok (.slice (some ⟨w.heap.size, 0, none⟩) m (grownCap w (0 + m) 0 e)) (World.alloc { w with drawn := w.drawn + 1 } (.cells Z e)) := by
              rw [hrun, hZ]
              simp only [Nat.zero_add, List.toArray, Array.empty_append]
              first | rfl | (congr 1; simp; rfl) | skip
            refine ⟨.slice (some ⟨w.heap.size, 0, none⟩) m (grownCap w (0 + m) 0 e), _, _, .inl ?_, h.drew.new Z e (o := .row e esz (List.replicate m (ei.zero.map .val))) (fun ι' w' f hι hC => ?_), ?_⟩
            · unfold execOp
              simp only [ho, resolve, invoke, builtin, Sem.run_bind, Sem.run_pure, Result.andThen_ok, List.map_toArray, List.map_cons, List.map_nil, hxv, hyv, hrun']
            · have hel : ∀ i cs, (List.replicate m (ei.zero.map Dat.val))[i]? = some cs → i < m ∧ cs = ei.zero.map Dat.val := by
                intro i cs hi
                rw [List.getElem?_replicate] at hi
                split at hi
                · rename_i hlt
                  injection hi with hi
                  exact ⟨hlt, hi.symm⟩
                · cases hi
              have hval : ∀ i cs, (List.replicate m (ei.zero.map Dat.val))[i]? = some cs → ∀ j d, cs[j]? = some d → ∃ v, d = .val v ∧ Z.toList.getD (i * esz + j) undef = v ∧ v ∈ ei.zero := by
                intro i cs hi j d hj
                obtain ⟨hlt, rfl⟩ := hel i cs hi
                rw [List.getElem?_map, Option.map_eq_some_iff] at hj
                obtain ⟨v, hv, rfl⟩ := hj
                have hjl : j < esz := by rw [← hzl]; exact (List.getElem?_eq_some_iff.1 hv).1
                refine ⟨v, rfl, ?_, List.mem_of_getElem? hv⟩
                rw [hZat i j hlt hjl, g7, getD_get?, hv]
                rfl
              refine .row e esz _ _ Z hι hC (fun cs hcs => ?_) hpos ?_ (fun i cs hi j d hj => ?_) (fun i cs hi j d hj => ?_)
              · obtain ⟨q, hq⟩ := List.mem_iff_getElem?.1 hcs
                rw [(hel q cs hq).2, List.length_map, hzl]
              · rw [hZs, List.length_replicate]; exact Nat.mul_le_mul_right _ hcap.1
              · obtain ⟨v, _, hv, hm⟩ := hval i cs hi j d hj
                rw [hv]
                exact List.all_eq_true.1 hz1 v hm
              · obtain ⟨v, rfl, hv, _⟩ := hval i cs hi j d hj
                rw [hv]
                exact .val v
            · refine .own_at s.nx esz m w.heap.size _ (Nat.lt_succ_self _) (by simp [name]) Z e (by simp [World.alloc]) hcap.1 hcap.2 hZs
          · cases hd
        · cases hd
      · cases hd
    · cases hd
  · cases hd

end Go.Proofs.Ytbkkekbeaabokaa.Sx
