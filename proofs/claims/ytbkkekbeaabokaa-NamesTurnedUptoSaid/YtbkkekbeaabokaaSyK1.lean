/- Sy, part K1: maps, made rows, values of interfaces, a slice held against nil. -/
import Derived.Test.YtbkkekbeaabokaaSyJ
import Derived.MapKept
set_option linter.unusedVariables false
set_option linter.unusedSimpArgs false
namespace Go.Proofs.Ytbkkekbeaabokaa.Sx
open Go Go.RowKit

variable {P : Program} {β : Bs} {w w' : World} {ι ι' : Nat → Loc} {s s' : S} {a : Act} {N : Nat}

theorem getMap {B : Nat} {E : Array MapEntry} {c : Nat} (h : w.heap[B]? = some (.map E c)) : (getObj B).run P w = .ok (.map E c) w := by simp [getObj, Sem.run, h]
theorem setMap {B : Nat} {E : Array MapEntry} {c : Nat} (o : Obj) (h : w.heap[B]? = some (.map E c)) : (setObj B o).run P w = .ok () { w with heap := w.heap.setIfInBounds B o } := by simp [setObj, Sem.run, h]

/-! ### Maps whose keys are plain -/
def kEq : Value → Value → Bool
  | .int _ a, .int _ b => a == b
  | .string a, .string b => a == b
  | .bool a, .bool b => a == b
  | _, _ => false
def keyOk : TK → Value → Bool
  | .int k, .int k' _ => decide (k = k')
  | .string, .string _ => true
  | .bool, .bool _ => true
  | _, _ => false
def mget (k : Value) : List (Value × Value) → Option Value
  | [] => none
  | (k', v) :: r => if kEq k k' then some v else mget k r
def mset (k v : Value) : List (Value × Value) → List (Value × Value)
  | [] => [(k, v)]
  | (k', v') :: r => if kEq k k' then (k, v) :: r else (k', v') :: mset k v r
def mfind (k : Value) : List MapEntry → Nat → Option (Nat × Value)
  | [], _ => none
  | e :: r, i => if kEq k e.key then some (i, e.val) else mfind k r (i + 1)
def entP (e : MapEntry) : Value × Value := (e.key, e.val)

theorem sameNow_ok {d : TypeDesc} {k k' : Value} (h1 : keyOk (kdOf P d) k = true) (h2 : keyOk (kdOf P d) k' = true) : Instr.sameNow d k k' = some (kEq k k') := by
  cases d <;> simp only [kdOf] at h1 h2 <;> cases k <;> simp only [keyOk, decide_eq_true_eq, Bool.false_eq_true] at h1 <;> cases k' <;> simp only [keyOk, decide_eq_true_eq, Bool.false_eq_true] at h2
  · rfl
  · subst h1; subst h2; simp [Instr.sameNow, kEq]
  · rfl
theorem findNow_ok {d : TypeDesc} {k : Value} (hk : keyOk (kdOf P d) k = true) : ∀ (E : List MapEntry) (i : Nat), (∀ e ∈ E, keyOk (kdOf P d) e.key = true) → Instr.findNow d k E i = some (mfind k E i)
  | [], i, _ => rfl
  | e :: r, i, h => by
    simp only [Instr.findNow, mfind, sameNow_ok hk (h e (by simp))]
    cases kEq k e.key with
    | true => rfl
    | false => simpa using findNow_ok hk r (i + 1) (fun x hx => h x (by simp [hx]))
theorem mfind_get (k : Value) : ∀ (E : List MapEntry) (i : Nat), (mfind k E i).map (·.2) = mget k (E.map entP)
  | [], i => rfl
  | e :: r, i => by
    simp only [mfind, List.map_cons, entP, mget]
    split
    · rfl
    · exact mfind_get k r (i + 1)
theorem mfind_some {k v : Value} : ∀ (E : List MapEntry) (i0 : Nat) {i : Nat} {u : Value}, mfind k E i0 = some (i, u) → ∃ j e, i = i0 + j ∧ E[j]? = some e ∧ kEq k e.key = true ∧ (E.modify j (fun e : MapEntry => { e with key := k, val := v })).map entP = mset k v (E.map entP)
  | [], i0, i, u, h => by simp [mfind] at h
  | e :: r, i0, i, u, h => by
    simp only [mfind] at h
    split at h
    · rename_i hk
      simp only [Option.some.injEq, Prod.mk.injEq] at h
      exact ⟨0, e, h.1.symm, rfl, hk, by simp [mset, entP, hk]⟩
    · rename_i hk
      obtain ⟨j, e', h1, h2, h3, h4⟩ := mfind_some r (i0 + 1) h
      exact ⟨j + 1, e', by omega, by simpa using h2, h3, by simp [mset, entP, hk] at h4 ⊢; exact h4⟩
theorem mfind_none {k v : Value} {c : Nat} : ∀ (E : List MapEntry) (i0 : Nat), mfind k E i0 = none → (E ++ [({ key := k, val := v, born := c } : MapEntry)]).map entP = mset k v (E.map entP)
  | [], i0, h => rfl
  | e :: r, i0, h => by
    simp only [mfind] at h
    split at h
    · cases h
    · rename_i hk
      have := mfind_none (v := v) (c := c) r (i0 + 1) h
      simp [mset, entP, hk] at this ⊢
      exact this
theorem sameBits_ok {t : TK} {k k' : Value} (h1 : keyOk t k = true) (h2 : keyOk t k' = true) (h : kEq k k' = true) (n : Nat) : Instr.sameBits n k' k = true := by
  cases t <;> cases k <;> simp only [keyOk, decide_eq_true_eq, Bool.false_eq_true] at h1 <;> cases k' <;> simp only [keyOk, decide_eq_true_eq, Bool.false_eq_true] at h2 <;> simp only [kEq, beq_iff_eq] at h
  · subst h; simp [Instr.sameBits]
  · subst h; simp [Instr.sameBits]
  · subst h1; subst h2; subst h; simp [Instr.sameBits]

theorem run_checkKey {kt : TypeId} {d : TypeDesc} {k : Value} (hu : P.underlying kt = some d) (hk : keyOk (kdOf P d) k = true) (b : Bool) (n : Nat) : (Instr.checkKey b (n + 1) kt k).run P w = .ok () w := by
  unfold Instr.checkKey
  rw [Sem.run_bind, run_underlying hu w]
  cases d <;> simp only [kdOf] at hk <;> cases k <;> simp only [keyOk, decide_eq_true_eq, Bool.false_eq_true] at hk <;> simp
theorem run_findKey {kt : TypeId} {d : TypeDesc} {k : Value} {E : List MapEntry} (hu : P.underlying kt = some d) (hk : keyOk (kdOf P d) k = true) (hE : ∀ e ∈ E, keyOk (kdOf P d) e.key = true) : (Instr.findKey kt k E).run P w = .ok (mfind k E 0) w := by
  unfold Instr.findKey
  rw [Sem.run_bind, run_underlying hu w]
  simp [findNow_ok hk E 0 hE]

/-- The zero value of a type. -/
def zeroOf (P : Program) (t : TypeId) : Option Value := (P.info? t).bind (·.zero)
theorem run_zeroOf {t : TypeId} {z : Value} (h : zeroOf P t = some z) (w : World) : (zeroValue t).run P w = .ok z w := by
  simp only [zeroOf, Option.bind_eq_some_iff] at h
  obtain ⟨ti, h1, h2⟩ := h
  simp [zeroValue, typeInfo, h1, h2]
theorem kd_map {t : TypeId} {i : TI} {k e : TypeId} (hi : infoOf P t = some i) (hk : i.kd = .map k e) : P.underlying t = some (.map k e) := by
  obtain ⟨ti, d, z, _, h2, _, hk', _⟩ := infoOf_spec hi
  rw [hk'] at hk
  cases d <;> simp [kdOf] at hk
  obtain ⟨rfl, rfl⟩ := hk
  exact h2
theorem kd_any {t : TypeId} {i : TI} (hi : infoOf P t = some i) : ∃ d, P.underlying t = some d ∧ i.kd = kdOf P d := by
  obtain ⟨ti, d, z, _, h2, _, hk', _⟩ := infoOf_spec hi
  exact ⟨d, h2, hk'⟩

def mapOf (s : S) : D → Option (List (Value × Value))
  | .mapb b => match lk b s.hp with
    | some (.map es) => some es
    | _ => none
  | .dat (.map es) => some es
  | .dat (.val (.map none)) => some []
  | _ => none
theorem mapOf_rel (h : Rel β ι s a w N) {d : D} {v : Value} {es : List (Value × Value)} (hd : RelD β.G ι s.nx w d v) (he : mapOf s d = some es) :
    (v = .map none ∧ es = []) ∨ ∃ B E c, v = .map (some B) ∧ w.heap[B]? = some (.map E c) ∧ E.toList.map entP = es := by
  unfold mapOf at he
  split at he
  · rename_i b
    split at he
    · rename_i es' hb
      injection he with he
      subst he
      have hO := h.heap b _ hb
      cases hO with
      | map _ B E k hι hE hes =>
        cases hd with
        | map_dead _ _ _ _ h0 => simp [h0] at hι
        | map_nil _ _ _ _ h0 => simp [h0] at hι
        | map_at _ B' _ h0 =>
          rw [hι] at h0
          injection h0 with h0
          subst h0
          exact .inr ⟨B, E, k, rfl, hE, hes⟩
    · cases he
  · injection he with he
    subst he
    obtain ⟨hd⟩ := hd
    cases hd with
    | map _ B E k hok hE hes => exact .inr ⟨B, E, k, rfl, hE, hes⟩
  · injection he with he
    subst he
    exact .inl ⟨val_eq hd, rfl⟩
  · cases he

theorem keys_all {t : TK} {E : Array MapEntry} {es : List (Value × Value)} (hE : E.toList.map entP = es) (h : es.all (fun e => keyOk t e.1) = true) : ∀ e ∈ E.toList, keyOk t e.key = true := by
  intro e he
  have := List.all_eq_true.1 h (entP e) (by rw [← hE]; exact List.mem_map_of_mem he)
  exact this

def aLookup (P : Program) (s : S) (t : TypeId) (x k : D) (c : Bool) : Option D :=
  match infoOf P t, mapOf s x, k with
  | some i, some es, .dat (.val kv) => match i.kd with
    | .map kt et => match infoOf P kt, zeroOf P et with
      | some ki, some z => if keyOk ki.kd kv && es.all (fun e => keyOk ki.kd e.1) then
          some (if c then .tup [.dat (.val ((mget kv es).getD z)), .dat (.val (.bool (mget kv es).isSome))] else .dat (.val ((mget kv es).getD z))) else none
      | _, _ => none
    | _ => none
  | _, _, _ => none
theorem ok_lookup (h : Rel β ι s a w N) {o : Oper} {t : TypeId} {x k : Operand} {c : Bool} (ho : o.op = .lookup t x k c) {d : D} (hd : aLookup P s t (ev s x) (ev s k) c = some d) : Good β P o a w N d s := by
  have hx := ev_rel h x
  have hk := ev_rel h k
  unfold aLookup at hd
  split at hd
  · rename_i i es kv hi hm hkd
    rw [hkd] at hk
    have hkv := val_eq hk
    split at hd
    · rename_i kt et hkm
      split at hd
      · rename_i ki z hki hz
        split at hd
        · rename_i hc
          simp only [Bool.and_eq_true] at hc
          injection hd with hd
          obtain ⟨dk, hu, hkk⟩ := kd_any hki
          rw [hkk] at hc
          have hrun : (Instr.lookup t (a.eval x) (a.eval k) c).run P w = .ok (if c then Value.tuple #[(mget kv es).getD z, .bool (mget kv es).isSome] else (mget kv es).getD z) w := by
            unfold Instr.lookup
            rw [Sem.run_bind, run_underlying (kd_map hi hkm) w]
            simp only [Result.andThen_ok]
            rw [hkv]
            rcases mapOf_rel h hx hm with ⟨e1, e2⟩ | ⟨B, E, c', e1, e2, e3⟩
            · rw [e1, e2]
              have hck := run_checkKey (w := w) hu hc.1 (#[] : Array MapEntry).isEmpty 9999
              have hfk := run_findKey (w := w) (E := []) hu hc.1 (by simp)
              simp only [Sem.run_bind, Sem.run_pure, Result.andThen_ok, hck, hfk, mfind, run_zeroOf hz, mget, Option.getD_none, Option.isSome_none]
            · rw [e1]
              have h1 := mfind_get kv E.toList 0
              rw [e3] at h1
              have hck := run_checkKey (w := w) hu hc.1 E.isEmpty 9999
              have hfk := run_findKey (w := w) hu hc.1 (keys_all e3 hc.2)
              simp only [Sem.run_bind, getMap e2, Sem.run_pure, Result.andThen_ok, hck, hfk]
              cases hf : mfind kv E.toList 0 with
              | none =>
                rw [hf] at h1
                simp only [Option.map_none] at h1
                simp [← h1, run_zeroOf hz]
              | some p =>
                obtain ⟨p1, p2⟩ := p
                rw [hf] at h1
                simp only [Option.map_some] at h1
                simp [← h1]
          refine ⟨_, w, ι, .inl (by unfold execOp; simp only [ho]; exact run_value hrun), h, ?_⟩
          subst hd
          cases c with
          | true =>
            refine .tup _ [_, _] rfl (fun j d hj => ?_)
            match j, hj with
            | 0, hj => simp at hj; subst hj; exact .dat (.val _)
            | 1, hj => simp at hj; subst hj; exact .dat (.val _)
          | false => exact .dat (.val _)
        · cases hd
      · cases hd
    · cases hd
  · cases hd

def aMapUpd (P : Program) (s : S) (t : TypeId) (m k v : D) : Option S :=
  match infoOf P t, m, k, v with
  | some i, .mapb b, .dat (.val kv), .dat (.val vv) => match i.kd with
    | .map kt et => match infoOf P kt, lk b s.hp with
      | some ki, some (.map es) => if keyOk ki.kd kv && es.all (fun e => keyOk ki.kd e.1) then some { s with hp := up b (.map (mset kv vv es)) s.hp } else none
      | _, _ => none
    | _ => none
  | _, _, _, _ => none
theorem ok_mapUpd (h : Rel β ι s a w N) {o : Oper} {t : TypeId} {m k v : Operand} (ho : o.op = .mapUpdate t m k v) (hd : aMapUpd P s t (ev s m) (ev s k) (ev s v) = some s') : Good β P o a w N .bad s' := by
  have hm := ev_rel h m
  have hk := ev_rel h k
  have hv := ev_rel h v
  unfold aMapUpd at hd
  split at hd
  · rename_i i b kv vv hi e1 e2 e3
    rw [e1] at hm
    rw [e2] at hk
    rw [e3] at hv
    have hkv := val_eq hk
    have hvv := val_eq hv
    split at hd
    · rename_i kt et hkm
      split at hd
      · rename_i ki es hki hb
        split at hd
        · rename_i hc
          simp only [Bool.and_eq_true] at hc
          injection hd with hd
          subst hd
          obtain ⟨dk, hu, hkk⟩ := kd_any hki
          rw [hkk] at hc
          have hO := h.heap b _ hb
          cases hO with
          | map _ B E c hι hE hes =>
            replace hes : E.toList.map entP = es := hes
            generalize hvm : a.eval m = vm at hm
            cases hm with
            | map_dead _ _ _ _ h0 => simp [h0] at hι
            | map_nil _ _ _ _ h0 => simp [h0] at hι
            | map_at _ B' _ h0 =>
              rw [hι] at h0
              injection h0 with h0
              subst h0
              have hall := keys_all hes hc.2
              have hlt : B < w.heap.size := getElem?_lt hE
              have hrun : ∃ E' c', (Instr.mapUpdate t (.map (some B)) kv vv).run P w = .ok () { w with heap := w.heap.setIfInBounds B (.map E' c') } ∧ E'.toList.map entP = mset kv vv es := by
                unfold Instr.mapUpdate
                cases hf : mfind kv E.toList 0 with
                | none =>
                  refine ⟨E.push { key := kv, val := vv, born := c }, c + 1, ?_, ?_⟩
                  · simp only [Sem.run_bind, run_underlying (kd_map hi hkm) w, getMap hE, run_checkKey (w := w) hu hc.1 false 9999, run_findKey (w := w) hu hc.1 hall, hf, Result.andThen_ok, setMap _ hE]
                  · rw [Array.toList_push, mfind_none E.toList 0 hf, hes]
                | some p =>
                  obtain ⟨p1, p2⟩ := p
                  obtain ⟨j, e, j1, j2, j3, j4⟩ := mfind_some (v := vv) E.toList 0 hf
                  have hp1 : p1 = j := by omega
                  subst hp1
                  have hkey : keyOk (kdOf P dk) e.key = true := hall e (List.mem_of_getElem? j2)
                  refine ⟨E.modify p1 fun e => { e with key := kv, val := vv }, c, ?_, ?_⟩
                  · have hek : (E[p1]?.map (·.key)).getD kv = e.key := by rw [← Array.getElem?_toList, j2]; rfl
                    simp only [Sem.run_bind, run_underlying (kd_map hi hkm) w, getMap hE, run_checkKey (w := w) hu hc.1 false 9999, run_findKey (w := w) hu hc.1 hall, hf, Result.andThen_ok, hek, Instr.keyThatStays, sameBits_ok hc.1 hkey j3, if_true, Sem.run_pure, setMap _ hE]
                  · rw [Array.toList_modify, j4, hes]
              obtain ⟨E', c', hrun, hE'⟩ := hrun
              have hset : ({ w with heap := w.heap.setIfInBounds B (.map E' c') } : World).heap[B]? = some (.map E' c') := by simp [hlt]
              have hR := h.writeObj (w' := { w with heap := w.heap.setIfInBounds B (.map E' c') }) hι hE hset (fun C t e => by cases e) (fun k hk hne => by simp [Array.getElem?_setIfInBounds_ne (Ne.symm hne)]) rfl rfl rfl (by simp) (o := .map (mset kv vv es)) (fun f => .map _ B E' c' hι hset hE')
              exact ⟨_, _, ι, .inr ⟨by unfold execOp; simp only [ho, hvm, hkv, hvv]; exact run_unit hrun, rfl⟩, hR, .bad _⟩
        · cases hd
      · cases hd
    · cases hd
  · cases hd

def aMakeMap (s : S) : D × S := (.mapb s.nx, { s with hp := (s.nx, .map []) :: s.hp, nx := s.nx + 1 })
theorem ok_makeMap (h : Rel β ι s a w N) {o : Oper} {t : TypeId} (ho : o.op = .makeMap t none) {d : D} (hd : aMakeMap s = (d, s')) : Good β P o a w N d s' := by
  simp only [aMakeMap, Prod.mk.injEq] at hd
  obtain ⟨rfl, rfl⟩ := hd
  have hrun : (Instr.makeMap t none).run P w = .ok (.map (some w.heap.size)) (w.alloc (.map #[] 0)) := rfl
  refine ⟨_, _, _, .inl (by unfold execOp; simp only [ho]; exact run_value hrun), h.newObj (.map #[] 0) (o := .map []) (fun ι' w' f h1 h2 => .map [] _ #[] 0 h1 h2 rfl), .map_at _ _ (Nat.lt_succ_self _) (by simp [name])⟩

def aMapLen (P : Program) (s : S) (t : TypeId) (x : D) : Option D :=
  match infoOf P t with
  | some i => match i.kd with
    | .map _ _ => (mapOf s x).map fun es => .dat (.val (.int .i64 es.length))
    | _ => none
  | none => none
theorem ok_mapLen (h : Rel β ι s a w N) {o : Oper} {t : TypeId} {x : Operand} (ho : o.op = .call { callee := .builtin .len, args := #[x], argTypes := #[t] }) {d : D} (hd : aMapLen P s t (ev s x) = some d) : Good β P o a w N d s := by
  have hx := ev_rel h x
  have fin : ∀ v, (Builtin.len_ #[t] o.type #[a.eval x]).run P w = .ok v w → RelD β.G ι s.nx w d v → Good β P o a w N d s := by
    intro v hr hd
    refine ⟨v, w, ι, .inl ?_, h, hd⟩
    unfold execOp
    simp only [ho, resolve, invoke, builtin, Sem.run_bind, Sem.run_pure, Result.andThen_ok, List.map_toArray, List.map_cons, List.map_nil, hr]
  unfold aMapLen at hd
  split at hd
  · rename_i i hi
    split at hd
    · rename_i kt et hk
      simp only [Option.map_eq_some_iff] at hd
      obtain ⟨es, he, rfl⟩ := hd
      have hu := kd_map hi hk
      refine fin (.int .i64 es.length) ?_ (.dat (.val _))
      rcases mapOf_rel h hx he with ⟨e1, e2⟩ | ⟨B, E, c, e1, e2, e3⟩
      · subst e2
        rw [e1]
        simp [Builtin.len_, run_underlying hu, goInt]
      · rw [e1]
        have : es.length = E.size := by rw [← e3]; simp
        rw [this]
        simp [Builtin.len_, run_underlying hu, getMap e2, goInt]
    · cases hd
  · cases hd

/-! ### A made row -/
def aMakeSlice (P : Program) (s : S) (t : TypeId) (x y : D) : Option (D × S) :=
  match infoOf P t with
  | some i => match i.kd with
    | .slice e esz => match infoOf P e, x, y with
      | some ei, .dat (.val (.int _ n)), .dat (.val (.int _ m)) => if n = m ∧ 0 ≤ n ∧ 0 < esz ∧ ei.zero.length = esz ∧ ei.zero.all Value.oneCell' = true ∧ n.toNat * ei.bytes ≤ big ∧ n ≤ 4611686018427387904 then
          some (.own s.nx esz n.toNat, { s with hp := (s.nx, .row e esz (List.replicate n.toNat (ei.zero.map .val))) :: s.hp, nx := s.nx + 1 }) else none
      | _, _, _ => none
    | _ => none
  | none => none
theorem ok_makeSlice (h : Rel β ι s a w N) {o : Oper} {t : TypeId} {x y : Operand} (ho : o.op = .makeSlice t x y) {d : D} (hd : aMakeSlice P s t (ev s x) (ev s y) = some (d, s')) : Good β P o a w N d s' := by
  have hx := ev_rel h x
  have hy := ev_rel h y
  unfold aMakeSlice at hd
  split at hd
  · rename_i i hi
    split at hd
    · rename_i e esz hk
      split at hd
      · rename_i ei kx n ky m hei e1 e2
        rw [e1] at hx
        rw [e2] at hy
        have hxv := val_eq hx
        have hyv := val_eq hy
        split at hd
        · rename_i hc
          obtain ⟨rfl, h0, hpos, hzl, hz1, hbig, h63⟩ := hc
          simp only [Option.some.injEq, Prod.mk.injEq] at hd
          obtain ⟨rfl, rfl⟩ := hd
          obtain ⟨hu, hesz⟩ := kd_slice hi hk
          obtain ⟨ti, dd, z, g1, g2, g3, g4, g5, g6, g7⟩ := infoOf_spec hei
          have hsz : ei.size = esz := by rw [hesz]; exact (sz_of_info hei).symm
          have hb : (ti.bytes : Int) * n ≤ 281474976710656 := by
            have : n.toNat * ei.bytes ≤ 140737488355328 := hbig
            rw [← g6] at this
            have h2 : ((n.toNat * ti.bytes : Nat) : Int) ≤ 140737488355328 := by omega
            rw [Int.natCast_mul, Int.toNat_of_nonneg h0, Int.mul_comm] at h2
            omega
          have hrun := run_make (P := P) w t e ti z hu g1 g3 kx ky n n h0 (Int.le_refl _) hb (by omega)
          have hlen : z.cells.size = esz := by rw [← Array.length_toList, g7]; exact hzl
          have hC : ∀ q, q < n.toNat * esz → (madeCells z.cells (n.toNat * ti.size)).toList.getD q undef = ei.zero.getD (q % esz) undef := by
            intro q hq
            have hq' : q < n.toNat * ti.size := by rw [g5, hsz]; exact hq
            simp only [madeCells, getD_get?, Array.getElem?_toList, Array.getElem?_map]
            rw [Array.getElem?_eq_getElem (by simpa using hq')]
            simp only [Array.getElem_range, Option.map_some, Option.getD_some]
            rw [← g7, hlen]
            have hm : q % esz < z.cells.size := by rw [hlen]; exact Nat.mod_lt _ hpos
            rw [Array.getElem?_toList, getElem!_pos z.cells (q % esz) hm, Array.getElem?_eq_getElem hm]
            rfl
          have hzi : ∀ (k j : Nat), j < esz → (k * esz + j) % esz = j := fun k j hj => by
            rw [Nat.add_comm, Nat.add_mul_mod_self_right]; exact Nat.mod_eq_of_lt hj
          have hrow : ∀ (k : Nat) (cs : List Dat), (List.replicate n.toNat (ei.zero.map Dat.val))[k]? = some cs → k < n.toNat ∧ cs = ei.zero.map Dat.val := fun k cs hk => by
            have h1 := (List.getElem?_eq_some_iff.1 hk).1
            rw [List.length_replicate] at h1
            rw [List.getElem?_replicate_of_lt h1] at hk
            exact ⟨h1, (Option.some.inj hk).symm⟩
          have hcell : ∀ (k : Nat) (cs : List Dat), (List.replicate n.toNat (ei.zero.map Dat.val))[k]? = some cs → ∀ (j : Nat) (d : Dat), cs[j]? = some d → ∃ u, d = .val u ∧ u.oneCell' = true ∧ (madeCells z.cells (n.toNat * ti.size)).toList.getD (k * esz + j) undef = u := by
            intro k cs hk j d hj
            obtain ⟨hkl, rfl⟩ := hrow k cs hk
            simp only [List.getElem?_map, Option.map_eq_some_iff] at hj
            obtain ⟨u, hu1, rfl⟩ := hj
            have hjl : j < esz := by rw [← hzl]; exact (List.getElem?_eq_some_iff.1 hu1).1
            have hlt : k * esz + j < n.toNat * esz := by
              have : k * esz + esz ≤ n.toNat * esz := by rw [← Nat.succ_mul]; exact Nat.mul_le_mul_right _ hkl
              omega
            refine ⟨u, rfl, List.all_eq_true.1 hz1 u (List.mem_of_getElem? hu1), ?_⟩
            rw [hC _ hlt, hzi k j hjl, getD_get?, hu1]
            rfl
          have hR := h.new (madeCells z.cells (n.toNat * ti.size)) e (o := .row e esz (List.replicate n.toNat (ei.zero.map .val))) (fun ι' w' f h1 h2 => by
            refine .row e esz _ w.heap.size (madeCells z.cells (n.toNat * ti.size)) h1 h2 (fun cs hcs => ?_) hpos (by simp [madeCells, g5, hsz]) (fun k cs hk j d hj => ?_) (fun k cs hk j d hj => ?_)
            · rw [(List.mem_replicate.1 hcs).2]; simpa using hzl
            · obtain ⟨u, rfl, h3, h4⟩ := hcell k cs hk j d hj
              rw [h4]; exact h3
            · obtain ⟨u, rfl, h3, h4⟩ := hcell k cs hk j d hj
              rw [h4]; exact .val u)
          refine ⟨_, _, _, .inl (by unfold execOp; simp only [ho, hxv, hyv]; exact run_value hrun), hR, ?_⟩
          refine .own_at _ _ _ w.heap.size _ (Nat.lt_succ_self _) (by simp [name]) (madeCells z.cells (n.toNat * ti.size)) e (by show (w.heap.push _)[w.heap.size]? = _; simp) (Nat.le_refl _) (by simp only [maxLen]; omega) (by simp [madeCells, g5, hsz])
        · cases hd
      · cases hd
    · cases hd
  · cases hd

/-! ### A value, seen through an interface -/
def allVal : List Dat → Option (List Value)
  | [] => some []
  | .val v :: r => (allVal r).map (v :: ·)
  | _ :: _ => none
theorem allVal_rel {ok : Nat → Prop} : ∀ {ds : List Dat} {vs us : List Value}, allVal ds = some vs → us.length = ds.length → (∀ j d, ds[j]? = some d → DatR ok w d (us.getD j undef)) → us = vs
  | [], vs, us, h, hl, hU => by simp only [allVal, Option.some.injEq] at h; subst h; simpa using hl
  | .val v :: r, vs, us, h, hl, hU => by
    simp only [allVal, Option.map_eq_some_iff] at h
    obtain ⟨l, h1, rfl⟩ := h
    cases us with
    | nil => simp at hl
    | cons u us =>
      have h0 := hU 0 _ rfl
      simp only [List.getD_cons_zero] at h0
      cases h0
      rw [allVal_rel (us := us) h1 (by simpa using hl) (fun j d hj => by simpa using hU (j + 1) d (by simpa using hj))]
  | .sl .. :: _, _, _, h, _, _ | .ref .. :: _, _, _, h, _, _ | .fn .. :: _, _, _, h, _, _ | .agg .. :: _, _, _, h, _, _ | .tup .. :: _, _, _, h, _, _ | .map .. :: _, _, _, h, _, _ | .bad :: _, _, _, h, _, _ => by simp [allVal] at h
def aIface (P : Program) (t : TypeId) (x : D) : Option D :=
  match infoOf P t with
  | some i => match i.kd, x with
    | .struct _, .dat (.agg ds) => (allVal ds).map fun vs => .dat (.val (.iface t (.agg vs.toArray)))
    | .int _, .dat (.val v) => some (.dat (.val (.iface t v)))
    | .string, .dat (.val v) => some (.dat (.val (.iface t v)))
    | _, _ => none
  | none => none
theorem ok_iface (h : Rel β ι s a w N) {o : Oper} {t : TypeId} {x : Operand} (ho : o.op = .makeInterface t x) {d : D} (hd : aIface P t (ev s x) = some d) : Good β P o a w N d s := by
  have hx := ev_rel h x
  have run : ∀ dd, P.underlying t = some dd → (∀ ms, dd ≠ .interface ms) → (Instr.makeInterface t (a.eval x)).run P w = .ok (.iface t (a.eval x)) w := by
    intro dd hu hni
    unfold Instr.makeInterface
    rw [Sem.run_bind, run_underlying hu w]
    cases dd <;> first | rfl | exact absurd rfl (hni _)
  have fin : ∀ dd, P.underlying t = some dd → (∀ ms, dd ≠ .interface ms) → RelD β.G ι s.nx w d (.iface t (a.eval x)) → Good β P o a w N d s := fun dd hu hni hr =>
    ⟨_, w, ι, .inl (by unfold execOp; simp only [ho]; exact run_value (run dd hu hni)), h, hr⟩
  unfold aIface at hd
  split at hd
  · rename_i i hi
    obtain ⟨dd, hu, hkk⟩ := kd_any hi
    split at hd
    · rename_i fs ds hk hxe
      simp only [Option.map_eq_some_iff] at hd
      obtain ⟨vs, hvs, rfl⟩ := hd
      rw [hxe] at hx
      obtain ⟨hx⟩ := hx
      refine fin dd hu (fun ms e => by subst e; rw [hk] at hkk; cases hkk) ?_
      generalize a.eval x = u at hx
      cases hx with
      | agg _ us hl h1 hU =>
        rw [allVal_rel hvs hl hU]
        exact .dat (.val _)
    · rename_i k v hk hxe
      injection hd with hd
      subst hd
      rw [hxe] at hx
      refine fin dd hu (fun ms e => by subst e; rw [hk] at hkk; cases hkk) ?_
      rw [val_eq hx]
      exact .dat (.val _)
    · rename_i v hk hxe
      injection hd with hd
      subst hd
      rw [hxe] at hx
      refine fin dd hu (fun ms e => by subst e; rw [hk] at hkk; cases hkk) ?_
      rw [val_eq hx]
      exact .dat (.val _)
    · cases hd
  · cases hd

/-! ### A slice, held against nil -/
/-- What is known of it: surely nil; or whether it has elements. -/
def aNilq (P : Program) (t : TypeId) (x y : D) : Option (Bool × Bool) :=
  match infoOf P t, y with
  | some i, .dat (.val (.slice none 0 0)) => match i.kd, x with
    | .slice _ _, .dat (.val (.slice none 0 0)) => some (true, false)
    | .slice _ _, .dat (.sl _ es) => some (es.isEmpty, true)
    | _, _ => none
  | _, _ => none
theorem ok_nilq (h : Rel β ι s a w N) {o : Oper} {op : BinOp} {t t' : TypeId} {x y : Operand} (ho : o.op = .binOp op t x y t') (hop : op = .eql ∨ op = .neq) {q1 q2 : Bool} (hd : aNilq P t (ev s x) (ev s y) = some (q1, q2)) :
    ∃ q : Bool, ((q = true ∧ q1 = true) ∨ (q = false ∧ q2 = true)) ∧ Good β P o a w N (.dat (.val (.bool (if op = .eql then q else !q)))) s := by
  have hx := ev_rel h x
  have hy := ev_rel h y
  have he : execOp a.eval o = (do pure (.value (← (do eqGuard op t x y (a.eval x) (a.eval y); binOp op t (a.eval x) (a.eval y))))) := by unfold execOp; simp only [ho]
  unfold aNilq at hd
  split at hd
  · rename_i i hi hye
    rw [hye] at hy
    have hyv := val_eq hy
    have main : ∀ (A : Option Addr) (l c : Nat) (q : Bool), P.underlying t ≠ none → (∃ e, P.underlying t = some (.slice e)) → a.eval x = .slice A l c → q = A.isNone → Good β P o a w N (.dat (.val (.bool (if op = .eql then q else !q)))) s := by
      intro A l c q _ ⟨e, hu⟩ hxv hq
      have heq : (Op.equal t (.slice A l c) (.slice none 0 0)).run P w = .ok q w := by
        have : ∀ d, 0 < d → (Op.equalIn d t (.slice A l c) (.slice none 0 0)).run P w = .ok q w := by
          intro d hd
          obtain ⟨d, rfl⟩ : ∃ m, d = m + 1 := ⟨d - 1, by omega⟩
          subst hq
          cases A <;> simp only [Op.equalIn, Sem.run_bind, run_underlying hu, Result.andThen_ok, Sem.run_pure] <;> rfl
        exact this _ (by decide)
      refine good_of (v := .bool (if op = .eql then q else !q)) h he ?_ (.dat (.val _))
      rw [hxv, hyv]
      rcases hop with rfl | rfl
      · have hg : eqGuard .eql t x y (.slice A l c) (.slice none 0 0) = pure () := rfl
        rw [hg]
        simp [binOp, heq]
      · have hg : eqGuard .neq t x y (.slice A l c) (.slice none 0 0) = pure () := rfl
        rw [hg]
        simp [binOp, heq]
    split at hd
    · rename_i e n hk hxe
      simp only [Option.some.injEq, Prod.mk.injEq] at hd
      obtain ⟨rfl, rfl⟩ := hd
      rw [hxe] at hx
      obtain ⟨hu, _⟩ := kd_slice hi hk
      exact ⟨true, .inl ⟨rfl, rfl⟩, main none 0 0 true (by rw [hu]; simp) ⟨_, hu⟩ (val_eq hx) rfl⟩
    · rename_i e n n' es hk hxe
      simp only [Option.some.injEq, Prod.mk.injEq] at hd
      obtain ⟨rfl, rfl⟩ := hd
      rw [hxe] at hx
      obtain ⟨hu, _⟩ := kd_slice hi hk
      obtain ⟨hx⟩ := hx
      generalize hvx : a.eval x = u at hx
      cases hx with
      | slnil _ A c =>
        cases A with
        | none => exact ⟨true, .inl ⟨rfl, rfl⟩, main none 0 c true (by rw [hu]; simp) ⟨_, hu⟩ hvx rfl⟩
        | some p => exact ⟨false, .inr ⟨rfl, rfl⟩, main (some p) 0 c false (by rw [hu]; simp) ⟨_, hu⟩ hvx rfl⟩
      | sl _ _ B o c U _ _ _ _ _ _ => exact ⟨false, .inr ⟨rfl, rfl⟩, main _ _ c false (by rw [hu]; simp) ⟨_, hu⟩ hvx rfl⟩
    · cases hd
  · cases hd

end Go.Proofs.Ytbkkekbeaabokaa.Sx
