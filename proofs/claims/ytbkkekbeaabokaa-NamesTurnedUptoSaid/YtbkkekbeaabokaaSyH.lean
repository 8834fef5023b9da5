/- Sy, part H: append, len, cuts, conversions, function values, results. -/
import Derived.Test.YtbkkekbeaabokaaSyG
set_option linter.unusedVariables false
set_option linter.unusedSimpArgs false
namespace Go.Proofs.Ytbkkekbeaabokaa.Sx
open Go Go.RowKit

variable {P : Program} {β : Bs} {G : Nat → Prop} {w w' : World} {ι ι' : Nat → Loc} {s s' : S} {a : Act} {N : Nat}

/-! ### Slices, however they are held -/
/-- The elements of a slice: its size of an element, and the elements. -/
def elems (s : S) (n : Nat) : D → Option (List (List Dat))
  | .dat (.sl size es) => if size = n then some es else none
  | .dat (.val (.slice none 0 0)) => some []
  | .own b size len => match lk b s.hp with
    | some (.row _ size' es) => if size = n ∧ size' = n ∧ len ≤ es.length then some (es.take len) else none
    | _ => none
  | .vw b size off len => match lk b s.hp with
    | some (.row _ size' es) => if size = n ∧ size' = n ∧ off + len ≤ es.length then some ((es.drop off).take len) else none
    | _ => none
  | _ => none

/-- Where the elements lie. -/
structure Lies (G : Nat → Prop) (ι : Nat → Loc) (w : World) (n : Nat) (A : Option Addr) (es : List (List Dat)) (U : Nat → Nat → Value) : Prop where
  len : ∀ cs ∈ es, cs.length = n
  at_ : es ≠ [] → ∃ B o, A = some ⟨B, o, none⟩ ∧ ∀ i cs, es[i]? = some cs → ∀ j d, cs[j]? = some d → w.cell? ⟨B, o + (i * n + j), none⟩ = some (U i j)
  one : ∀ i cs, es[i]? = some cs → ∀ j d, cs[j]? = some d → (U i j).oneCell' = true ∧ DatR (okB G ι w) w d (U i j)

theorem elems_rel (h : Rel β ι s a w N) {n : Nat} {d : D} {v : Value} {es : List (List Dat)} (hd : RelD β.G ι s.nx w d v) (he : elems s n d = some es) : ∃ A c U, v = .slice A es.length c ∧ es.length ≤ c ∧ Lies β.G ι w n A es U := by
  unfold elems at he
  split at he
  · rename_i size es'
    split at he
    · rename_i hn
      subst hn
      injection he with he
      subst he
      obtain ⟨hd⟩ := hd
      cases hd with
      | slnil _ A c => exact ⟨A, c, fun _ _ => undef, rfl, Nat.zero_le _, ⟨by simp, fun h => absurd rfl h, fun i cs hi => by simp at hi⟩⟩
      | sl _ _ B o c U hlen hc hm hok hcell hU => exact ⟨_, c, U, rfl, hc, ⟨hlen, fun _ => ⟨B, o, rfl, fun i cs hi j d hj => (hcell i cs hi j d hj).1⟩, fun i cs hi j d hj => ⟨(hcell i cs hi j d hj).2, hU i cs hi j d hj⟩⟩⟩
    · cases he
  · injection he with he
    subst he
    obtain ⟨hd⟩ := hd
    cases hd
    exact ⟨none, 0, fun _ _ => undef, rfl, Nat.le_refl _, ⟨by simp, fun h => absurd rfl h, fun i cs hi => by simp at hi⟩⟩
  · rename_i b size len
    split at he
    · rename_i ty size' es' hb
      split at he
      · rename_i hc
        obtain ⟨rfl, rfl, hle⟩ := hc
        injection he with he
        subst he
        have hO := h.heap b _ hb
        have htl : (es'.take len).length = len := by simp; omega
        cases hO with
        | nil _ _ hι =>
          cases hd with
          | own_dead _ _ _ _ _ _ he => simp [he] at hι
          | own_nil => exact ⟨none, 0, fun _ _ => undef, by simp, by simp, ⟨by simp, fun h => by simp at h, fun i cs hi => by simp at hi⟩⟩
          | own_at _ _ _ _ _ _ he => simp [he] at hι
        | row _ _ _ B C hι hC hlens hs hl h1 hU =>
          cases hd with
          | own_dead _ _ _ _ _ _ he => simp [he] at hι
          | own_nil _ _ _ he => simp [he] at hι
          | own_at _ _ _ B' c _ he C' t' hC' hlc hcm hsz =>
            rw [hι] at he
            injection he with he
            subst he
            refine ⟨_, c, fun i j => C.toList.getD (i * size' + j) undef, by rw [htl], by rw [htl]; exact hlc, ⟨fun cs hcs => hlens cs (List.mem_of_mem_take hcs), fun _ => ⟨B, 0, rfl, fun i cs hi j d hj => ?_⟩, fun i cs hi j d hj => ?_⟩⟩
            · rw [List.getElem?_take] at hi
              split at hi
              · have hcl : cs.length = size' := hlens cs (List.mem_of_getElem? hi)
                have hj' : j < size' := by rw [← hcl]; exact (List.getElem?_eq_some_iff.1 hj).1
                have hil : i < es'.length := (List.getElem?_eq_some_iff.1 hi).1
                have : i * size' + size' ≤ C.size := Nat.le_trans (by rw [← Nat.succ_mul]; exact Nat.mul_le_mul_right _ hil) hl
                have : i * size' + j < C.size := by omega
                simp [World.cell?, hC, this]
              · cases hi
            · rw [List.getElem?_take] at hi
              split at hi
              · exact ⟨h1 i cs hi j d hj, hU i cs hi j d hj⟩
              · cases hi
      · cases he
    · cases he
  · rename_i b size off len
    split at he
    · rename_i ty size' es' hb
      split at he
      · rename_i hc
        obtain ⟨rfl, rfl, hle⟩ := hc
        injection he with he
        subst he
        have hO := h.heap b _ hb
        have htl : ((es'.drop off).take len).length = len := by simp; omega
        cases hO with
        | nil _ _ hι =>
          simp at hle
          obtain ⟨rfl, rfl⟩ := hle
          cases hd with
          | vw_dead _ _ _ _ _ _ _ he => simp [he] at hι
          | vw_nil _ _ _ _ _ A c => exact ⟨A, c, fun _ _ => undef, by simp, by simp, ⟨by simp, fun h => by simp at h, fun i cs hi => by simp at hi⟩⟩
          | vw_at _ _ _ _ _ _ _ _ he => simp [he] at hι
        | row _ _ _ B C hι hC hlens hs hl h1 hU =>
          cases hd with
          | vw_dead _ _ _ _ _ _ _ he => simp [he] at hι
          | vw_nil _ _ _ _ he => simp [he] at hι
          | vw_at _ _ _ _ B' c A _ he hA hlc hcm =>
            rw [hι] at he
            injection he with he
            subst he
            refine ⟨A, c, fun i j => C.toList.getD ((off + i) * size' + j) undef, by rw [htl], by rw [htl]; exact hlc, ⟨fun cs hcs => hlens cs (List.mem_of_mem_drop (List.mem_of_mem_take hcs)), fun hne => ⟨B, off * size', hA ?_, fun i cs hi j d hj => ?_⟩, fun i cs hi j d hj => ?_⟩⟩
            · rcases Nat.eq_zero_or_pos len with h0 | h0
              · subst h0; simp at hne
              · exact h0
            · rw [List.getElem?_take] at hi
              split at hi
              · rw [List.getElem?_drop] at hi
                have hcl : cs.length = size' := hlens cs (List.mem_of_getElem? hi)
                have hj' : j < size' := by rw [← hcl]; exact (List.getElem?_eq_some_iff.1 hj).1
                have hil : off + i < es'.length := (List.getElem?_eq_some_iff.1 hi).1
                have : (off + i) * size' + size' ≤ C.size := Nat.le_trans (by rw [← Nat.succ_mul]; exact Nat.mul_le_mul_right _ hil) hl
                have : (off + i) * size' + j < C.size := by omega
                rw [show off * size' + (i * size' + j) = (off + i) * size' + j by rw [Nat.add_mul]; omega]
                simp [World.cell?, hC, this]
              · cases hi
            · rw [List.getElem?_take] at hi
              split at hi
              · rw [List.getElem?_drop] at hi
                exact ⟨h1 _ cs hi j d hj, hU _ cs hi j d hj⟩
              · cases hi
      · cases he
    · cases he
  · cases he

/-! ### append -/
def aAppendOwn (P : Program) (s : S) (e : TypeId) (b len : Nat) (y : D) : Option (D × S) :=
  match infoOf P e, lk b s.hp with
  | some ei, some (.row ty size es) => match elems s ei.size y with
    | some ns => if ty = e ∧ size = ei.size ∧ 0 < ei.size ∧ len = es.length ∧ ei.zero.length = ei.size ∧ (len + ns.length) * ei.bytes ≤ big ∧ 0 < ei.bytes then
        some (.own s.nx ei.size (len + ns.length), { s with hp := (s.nx, .row e ei.size (es ++ ns)) :: dl b s.hp, nx := s.nx + 1 }) else none
    | none => none
  | _, _ => none
def aAppend (P : Program) (s : S) (t : TypeId) (x y : D) : Option (D × S) :=
  match infoOf P t with
  | some i => match i.kd with
    | .slice e esz => match x with
      | .own b size len => if size = esz then aAppendOwn P s e b len y else none
      | .dat (.val (.slice none 0 0)) => aAppendOwn P { s with hp := (s.nx, .row e esz []) :: s.hp, nx := s.nx + 1 } e s.nx 0 y
      | _ => none
    | _ => none
  | none => none

theorem run_append_zero {base : Nat} {t ty e : TypeId} {i : TypeInfo} (size : Nat) (ht : P.underlying t = some (.slice e)) (hi : P.info? e = some i) {v : Value} {n : Nat} {xs : List Value} (hown : w.ownsRow base e size v n xs) (A : Option Addr) (c : Nat) :
    (Builtin.append_ #[t, t] ty #[v, .slice A 0 c]).run P w = .ok v w := by
  cases A with
  | none =>
    rcases hown.2 with ⟨rfl, rfl⟩ | ⟨g, cap, cur, rfl, _, _, hnc, _⟩
    · simp [Builtin.append_, run_underlying ht, sizeOf, typeInfo, hi, Builtin.lenOf, Builtin.firstCells]
    · simp [Builtin.append_, run_underlying ht, sizeOf, typeInfo, hi, Builtin.lenOf, Builtin.firstCells, hnc, storeCells]
  | some ad =>
    rcases hown.2 with ⟨rfl, rfl⟩ | ⟨g, cap, cur, rfl, _, _, hnc, _⟩
    · simp [Builtin.append_, run_underlying ht, sizeOf, typeInfo, hi, Builtin.lenOf, Builtin.firstCells, loadCells, loadCellsFrom]
    · simp [Builtin.append_, run_underlying ht, sizeOf, typeInfo, hi, Builtin.lenOf, Builtin.firstCells, hnc, storeCells, loadCells, loadCellsFrom]

theorem append_rel (h : Rel β ι s a w N) {t ty e : TypeId} {b len : Nat} {y d : D} {v u : Value} (ht : P.underlying t = some (.slice e)) (hx : RelD β.G ι s.nx w (.own b (szOf P e) len) v) (hy : RelD β.G ι s.nx w y u) (hd : aAppendOwn P s e b len y = some (d, s')) :
    ∃ v' w' ι', (Builtin.append_ #[t, t] ty #[v, u]).run P w = .ok v' w' ∧ Rel β ι' s' a w' N ∧ RelD β.G ι' s'.nx w' d v' := by
  unfold aAppendOwn at hd
  split at hd
  · rename_i ei ty' size es hei hb
    split at hd
    · rename_i ns hns
      split at hd
      · rename_i hc
        obtain ⟨rfl, rfl, hpos, rfl, hzl, hlim, hbpos⟩ := hc
        simp only [Option.some.injEq, Prod.mk.injEq] at hd
        obtain ⟨rfl, rfl⟩ := hd
        obtain ⟨ti, dd, z, g1, g2, g3, g4, g5, g6, g7⟩ := infoOf_spec hei
        have hsz : szOf P ty' = ei.size := sz_of_info hei
        rw [hsz] at hx
        have hzs : z.cells.size = ei.size := by rw [← hzl, ← g7]; simp
        obtain ⟨A, c, U, rfl, hnc, hlies⟩ := elems_rel h hy hns
        have hO := h.heap b _ hb
        -- the row, in the kit's word
        have hown : ∃ xs, w.ownsRow 0 ty' ei.size v es.length xs ∧ (∀ i cs, es[i]? = some cs → ∀ j d, cs[j]? = some d → (xs.getD (i * ei.size + j) undef).oneCell' = true ∧ DatR (okB β.G ι w) w d (xs.getD (i * ei.size + j) undef)) ∧ (∀ cs ∈ es, cs.length = ei.size) ∧
            ((ι b = .nil ∧ v = .slice none 0 0) ∨ ∃ B, ι b = .at B ∧ v.ownBlock = some B) := by
          cases hO with
          | nil _ _ hι =>
            cases hx with
            | own_dead _ _ _ _ _ _ he => simp [he] at hι
            | own_nil => exact ⟨[], World.ownsRow_nil _ _ _ _, by simp, by simp, .inl ⟨hι, rfl⟩⟩
            | own_at _ _ _ _ _ _ he => simp [he] at hι
          | row _ _ _ B C hι hC hlens hs hl h1 hU =>
            generalize hL : es.length = L at hx
            cases hx with
            | own_dead _ _ _ _ _ _ he => simp [he] at hι
            | own_nil _ _ _ he => simp [he] at hι
            | own_at _ _ _ B' cap _ he C' t' hC' hlc hcm hsz' =>
              rw [hι] at he
              injection he with he
              subst he
              rw [hC] at hC'
              injection hC' with hC'
              injection hC' with e1 e2
              subst e1; subst e2
              subst hL
              refine ⟨C.toList.take (es.length * ei.size), ⟨by simp; omega, .inr ⟨B, cap, C, rfl, Nat.zero_le _, hC, hlc, hcm, hsz', rfl⟩⟩, fun i cs hi j d hj => ?_, hlens, .inr ⟨B, hι, rfl⟩⟩
              have hcl : cs.length = ei.size := hlens cs (List.mem_of_getElem? hi)
              have hj' : j < ei.size := by rw [← hcl]; exact (List.getElem?_eq_some_iff.1 hj).1
              have hil : i < es.length := (List.getElem?_eq_some_iff.1 hi).1
              have hlt : i * ei.size + j < es.length * ei.size := by
                have : i * ei.size + ei.size ≤ es.length * ei.size := by rw [← Nat.succ_mul]; exact Nat.mul_le_mul_right _ hil
                omega
              have : (C.toList.take (es.length * ei.size)).getD (i * ei.size + j) undef = C.toList.getD (i * ei.size + j) undef := by
                rw [getD_get?, getD_get?, List.getElem?_take, if_pos hlt]
              rw [this]
              exact ⟨h1 i cs hi j d hj, hU i cs hi j d hj⟩
        obtain ⟨xs, hown, hxs, hlens, hloc⟩ := hown
        -- the cells that are appended
        obtain ⟨news, hnl, hnu⟩ : ∃ news : List Value, news.length = ns.length * ei.size ∧ ∀ i cs, ns[i]? = some cs → ∀ j d, cs[j]? = some d → news[i * ei.size + j]? = some (U i j) := by
          refine ⟨(List.range (ns.length * ei.size)).map fun q => U (q / ei.size) (q % ei.size), by simp, fun i cs hi j d hj => ?_⟩
          have hcl : cs.length = ei.size := hlies.len cs (List.mem_of_getElem? hi)
          have hj' : j < ei.size := by rw [← hcl]; exact (List.getElem?_eq_some_iff.1 hj).1
          have hil : i < ns.length := (List.getElem?_eq_some_iff.1 hi).1
          have hlt : i * ei.size + j < ns.length * ei.size := by
            have : i * ei.size + ei.size ≤ ns.length * ei.size := by rw [← Nat.succ_mul]; exact Nat.mul_le_mul_right _ hil
            omega
          rw [List.getElem?_map, List.getElem?_range hlt]
          simp only [Option.map_some]
          rw [show (i * ei.size + j) / ei.size = i by rw [Nat.mul_comm, Nat.mul_add_div hpos, Nat.div_eq_of_lt hj']; rfl, show (i * ei.size + j) % ei.size = j by rw [Nat.mul_comm, Nat.mul_add_mod, Nat.mod_eq_of_lt hj']]
        have hback : ∀ q u, news[q]? = some u → ∃ i cs j d, ns[i]? = some cs ∧ cs[j]? = some d ∧ q = i * ei.size + j ∧ u = U i j := by
          intro q u hq
          have hlt : q < ns.length * ei.size := by rw [← hnl]; exact (List.getElem?_eq_some_iff.1 hq).1
          have hi : q / ei.size < ns.length := Nat.div_lt_of_lt_mul (by rw [Nat.mul_comm]; exact hlt)
          have hcl : ns[q / ei.size].length = ei.size := hlies.len _ (List.getElem_mem hi)
          have hj : q % ei.size < ns[q / ei.size].length := by rw [hcl]; exact Nat.mod_lt _ hpos
          have e := Nat.div_add_mod q ei.size
          rw [Nat.mul_comm] at e
          refine ⟨q / ei.size, _, q % ei.size, _, List.getElem?_eq_getElem hi, List.getElem?_eq_getElem hj, e.symm, ?_⟩
          have := hnu _ _ (List.getElem?_eq_getElem hi) _ _ (List.getElem?_eq_getElem hj)
          rw [e, hq] at this
          exact Option.some.inj this
        have hrun : ∃ v1 w1, (Builtin.append_ #[t, t] ty #[v, .slice A ns.length c]).run P w = .ok v1 w1 ∧ w1.ownsRow 0 ty' ei.size v1 (es.length + ns.length) (xs ++ news) ∧ w.grownBy w1 v.ownBlock ∧ (v1.ownBlock = v.ownBlock ∨ v1.ownBlock = some w.heap.size) := by
          by_cases hne : ns = []
          · subst hne
            have hn0 : news = [] := List.eq_nil_of_length_eq_zero (by simpa using hnl)
            subst hn0
            exact ⟨v, w, by simpa using run_append_zero ei.size ht g1 hown A c, by simpa using hown, World.grownBy.refl w _, .inl rfl⟩
          · obtain ⟨B, o, rfl, hcell⟩ := hlies.at_ hne
            have hle : es.length + ns.length ≤ big := Nat.le_trans (Nat.le_mul_of_pos_right _ hbpos) hlim
            obtain ⟨v1, w1, r1, r2, r3, _, r5⟩ := run_append_own_at (P := P) w 0 t ty ty' ti z ei.size ei.bytes ht g1 g3 g5 g6 hzs hpos v es.length xs hown ⟨B, o, none⟩ ns.length c news (by simpa using hnl) (fun q u hq => by
                obtain ⟨i, cs, j, d, h1, h2, rfl, rfl⟩ := hback q u hq
                rw [Addr.add_mid]
                exact hcell i cs h1 j d h2)
              (fun u hu => by
                obtain ⟨q, hq⟩ := List.mem_iff_getElem?.1 hu
                obtain ⟨i, cs, j, d, h1, h2, rfl, rfl⟩ := hback q u hq
                exact (hlies.one i cs h1 j d h2).1) (by simp only [maxLen]; have hbg : big = 140737488355328 := rfl; omega) hlim (Nat.zero_le _)
            exact ⟨v1, w1, r1, r2, r3, r5⟩
        obtain ⟨v1, w1, hr, hown1, hg, hat⟩ := hrun
        -- the block that may have been written is not ok, and nobody else's
        have hvB : ∀ B, v.ownBlock = some B → ι b = .at B := by
          intro B hB
          rcases hloc with ⟨_, rfl⟩ | ⟨B', hι, hB'⟩
          · simp [Value.ownBlock] at hB
          · rw [hB'] at hB; injection hB with hB; subst hB; exact hι
        have hok : ∀ B, B < w.heap.size → ι b ≠ .at B → w1.heap[B]? = w.heap[B]? := fun B hB hne => hg.block B hB (fun e => hne (hvB B e.symm))
        obtain ⟨L, hL⟩ : ∃ L : Loc, (L = .nil ∧ v1 = .slice none 0 0 ∧ es.length + ns.length = 0) ∨ ∃ B cap C, L = .at B ∧ v1 = .slice (some ⟨B, 0, none⟩) (es.length + ns.length) cap ∧ 0 ≤ B ∧ w1.heap[B]? = some (.cells C ty' (0, 0)) ∧ es.length + ns.length ≤ cap ∧ cap ≤ maxLen ∧ C.size = cap * ei.size ∧ C.toList.take ((es.length + ns.length) * ei.size) = xs ++ news ∧ (ι b = .at B ∨ B = w.heap.size) := by
          rcases hown1.2 with ⟨e1, e2⟩ | ⟨B, cap, C, e1, e2, e3, e4, e5, e6, e7⟩
          · exact ⟨.nil, .inl ⟨rfl, e1, e2⟩⟩
          · refine ⟨.at B, .inr ⟨B, cap, C, rfl, e1, e2, e3, e4, e5, e6, e7, ?_⟩⟩
            subst e1
            simp only [Value.ownBlock] at hat
            rcases hat with hat | hat
            · exact .inl (hvB B hat.symm)
            · injection hat with hat; exact .inr hat
        have hbl : b < s.nx := by
          rcases Nat.lt_or_ge b s.nx with h1 | h1
          · exact h1
          · have := h.fresh b h1; rw [hb] at this; cases this
        have hι2 : ∀ x, name (Sx.kill ι b) s.nx L x = if x = s.nx then L else if x = b then .dead else ι x := fun x => by simp [name, Sx.kill]
        have hLB : ∀ B, L = .at B → B < w1.heap.size ∧ 0 ≤ B ∧ (ι b = .at B ∨ B = w.heap.size) := by
          intro B hB
          rcases hL with ⟨rfl, _⟩ | ⟨B', cap, C, rfl, _, e2, e3, _, _, _, _, e8⟩
          · cases hB
          · injection hB with hB; subst hB
            exact ⟨getElem?_lt e3, e2, e8⟩
        have f : Fr β.G ι s.nx w (name (Sx.kill ι b) s.nx L) (s.nx + 1) w1 := by
          refine ⟨Nat.le_succ _, fun B hB => ⟨⟨⟨Nat.lt_of_lt_of_le hB.1.1 hg.size, hB.1.2⟩, fun x hx => ?_⟩, hok B hB.1.1 (hB.2 b)⟩, fun x hx => ?_⟩
          · rw [hι2] at hx
            by_cases e1 : x = s.nx
            · rw [if_pos e1] at hx
              obtain ⟨_, _, h3⟩ := hLB B hx
              rcases h3 with h3 | h3
              · exact hB.2 b h3
              · have := hB.1.1; omega
            · rw [if_neg e1] at hx
              by_cases e2 : x = b
              · rw [if_pos e2] at hx; cases hx
              · rw [if_neg e2] at hx; exact hB.2 x hx
          · rw [hι2, if_neg (by omega)]
            by_cases e2 : x = b
            · exact .inl (by rw [if_pos e2])
            · refine .inr ⟨by rw [if_neg e2], fun B hB C t' hC => ⟨C, ?_, rfl⟩⟩
              rw [hok B (h.inside x B hB).1 (fun e => e2 (h.inj x b B hB e))]
              exact hC
        refine ⟨v1, w1, name (Sx.kill ι b) s.nx L, hr, h.go f ⟨hg.os, hg.tape, hg.output, hg.size, fun k hk hzf => hok k hk (fun e => hzf (h.inside b k e).2)⟩ (fun x o hx => ?_) (fun x B hx => ?_) (fun x x' B hx hx' => ?_) (fun x hx => ?_) (fun x hx => ?_), ?_⟩
        · simp only [lk] at hx
          by_cases e1 : x = s.nx
          · rw [if_pos e1] at hx
            injection hx with hx
            subst hx
            subst e1
            rcases hL with ⟨rfl, _, h0⟩ | ⟨B, cap, C, rfl, _, e2, e3, e4, e5, e6, e7, _⟩
            · have h1 : es = [] := List.eq_nil_of_length_eq_zero (by omega)
              have h2 : ns = [] := List.eq_nil_of_length_eq_zero (by omega)
              subst h1; subst h2
              exact .nil ty' ei.size (by rw [hι2, if_pos rfl])
            · have hcap : (es.length + ns.length) * ei.size ≤ C.size := by rw [e6]; exact Nat.mul_le_mul_right _ e4
              have hget : ∀ q, q < (es.length + ns.length) * ei.size → C.toList.getD q undef = (xs ++ news).getD q undef := by
                intro q hq
                rw [← e7, getD_get?, getD_get?, List.getElem?_take, if_pos hq]
              have hxl : xs.length = es.length * ei.size := hown.1
              have key : ∀ i cs, (es ++ ns)[i]? = some cs → ∀ j d, cs[j]? = some d → (C.toList.getD (i * ei.size + j) undef).oneCell' = true ∧ DatR (okB β.G (name (Sx.kill ι b) s.nx (.at B)) w1) w1 d (C.toList.getD (i * ei.size + j) undef) := by
                intro i cs hi j d hj
                have hil : i < es.length + ns.length := by have := (List.getElem?_eq_some_iff.1 hi).1; simpa using this
                have hcl : cs.length = ei.size := by
                  rcases List.mem_append.1 (List.mem_of_getElem? hi) with hm | hm
                  · exact hlens cs hm
                  · exact hlies.len cs hm
                have hj' : j < ei.size := by rw [← hcl]; exact (List.getElem?_eq_some_iff.1 hj).1
                have hlt : i * ei.size + j < (es.length + ns.length) * ei.size := by
                  have : i * ei.size + ei.size ≤ (es.length + ns.length) * ei.size := by rw [← Nat.succ_mul]; exact Nat.mul_le_mul_right _ hil
                  omega
                rw [hget _ hlt]
                by_cases h1 : i < es.length
                · rw [List.getElem?_append_left h1] at hi
                  have hlt' : i * ei.size + j < xs.length := by
                    rw [hxl]
                    have : i * ei.size + ei.size ≤ es.length * ei.size := by rw [← Nat.succ_mul]; exact Nat.mul_le_mul_right _ h1
                    omega
                  rw [getD_get?, List.getElem?_append_left hlt', ← getD_get?]
                  exact ⟨(hxs i cs hi j d hj).1, f.datR (hxs i cs hi j d hj).2⟩
                · rw [List.getElem?_append_right (by omega)] at hi
                  have hge : xs.length ≤ i * ei.size + j := by
                    rw [hxl]
                    have := Nat.mul_le_mul_right ei.size (show es.length ≤ i by omega)
                    omega
                  have hidx : i * ei.size + j - xs.length = (i - es.length) * ei.size + j := by
                    rw [hxl, Nat.sub_mul]
                    have := Nat.mul_le_mul_right ei.size (show es.length ≤ i by omega)
                    omega
                  rw [getD_get?, List.getElem?_append_right hge, hidx, hnu _ cs hi j d hj]
                  exact ⟨(hlies.one _ cs hi j d hj).1, f.datR (hlies.one _ cs hi j d hj).2⟩
              refine .row ty' ei.size _ B C (by rw [hι2, if_pos rfl]) e3 (fun cs hcs => ?_) hpos (by simpa using hcap) (fun i cs hi j d hj => (key i cs hi j d hj).1) (fun i cs hi j d hj => (key i cs hi j d hj).2)
              rcases List.mem_append.1 hcs with hm | hm
              · exact hlens cs hm
              · exact hlies.len cs hm
          · rw [if_neg e1, lk_dl] at hx
            by_cases e2 : x = b
            · rw [if_pos e2] at hx; cases hx
            · rw [if_neg e2] at hx
              exact f.relO (h.heap x o hx) (by rw [hι2, if_neg e1, if_neg e2]) (fun B hB => hok B (h.inside x B hB).1 (fun e => e2 (h.inj x b B hB e)))
        · rw [hι2] at hx
          by_cases e1 : x = s.nx
          · rw [if_pos e1] at hx
            obtain ⟨h1, h2, h3⟩ := hLB B hx
            refine ⟨h1, ?_⟩
            rcases h3 with h3 | h3
            · exact .inl ⟨b, h3⟩
            · exact .inr (by omega)
          · rw [if_neg e1] at hx
            by_cases e2 : x = b
            · rw [if_pos e2] at hx; cases hx
            · rw [if_neg e2] at hx
              have := h.inside x B hx
              exact ⟨Nat.lt_of_lt_of_le this.1 hg.size, .inl ⟨x, hx⟩⟩
        · have key : ∀ y, y ≠ s.nx → name (Sx.kill ι b) s.nx L y = .at B → y ≠ b ∧ ι y = .at B := by
            intro y hy hyB
            rw [hι2, if_neg hy] at hyB
            by_cases e2 : y = b
            · rw [if_pos e2] at hyB; cases hyB
            · rw [if_neg e2] at hyB; exact ⟨e2, hyB⟩
          have apart : ∀ y, y ≠ s.nx → name (Sx.kill ι b) s.nx L y = .at B → L ≠ .at B := by
            intro y hy hyB hLe
            obtain ⟨h1, h2⟩ := key y hy hyB
            obtain ⟨_, _, h3⟩ := hLB B hLe
            rcases h3 with h3 | h3
            · exact h1 (h.inj y b B h2 h3)
            · have := (h.inside y B h2).1; omega
          by_cases e1 : x = s.nx
          · by_cases e1' : x' = s.nx
            · exact e1.trans e1'.symm
            · rw [hι2, if_pos e1] at hx
              exact absurd hx (apart x' e1' hx')
          · by_cases e1' : x' = s.nx
            · rw [hι2, if_pos e1'] at hx'
              exact absurd hx' (apart x e1 hx)
            · exact h.inj x x' B (key x e1 hx).2 (key x' e1' hx').2
        · simp only [lk] at hx
          by_cases e1 : x = s.nx
          · rw [if_pos e1] at hx; cases hx
          · rw [if_neg e1, lk_dl] at hx
            rw [hι2, if_neg e1]
            by_cases e2 : x = b
            · rw [if_pos e2]
            · rw [if_neg e2] at hx ⊢
              exact h.dead x hx
        · simp only [lk]
          rw [if_neg (by omega), lk_dl]
          split
          · rfl
          · exact h.fresh x (by omega)
        · rcases hL with ⟨rfl, e1, h0⟩ | ⟨B, cap, C, rfl, e1, e2, e3, e4, e5, e6, e7, _⟩
          · rw [e1, h0]
            exact .own_nil _ _ (Nat.lt_succ_self _) (by rw [hι2, if_pos rfl])
          · rw [e1]
            exact .own_at _ _ _ B cap (Nat.lt_succ_self _) (by rw [hι2, if_pos rfl]) C ty' e3 e4 e5 e6
      · cases hd
    · cases hd
  · cases hd

end Go.Proofs.Ytbkkekbeaabokaa.Sx
