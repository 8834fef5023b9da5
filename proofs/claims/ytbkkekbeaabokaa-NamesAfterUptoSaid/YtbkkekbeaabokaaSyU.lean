/- Sy, part U: a row whose cells are one's own; nil for empty, wherever it lies. -/
import Derived.Test.YtbkkekbeaabokaaSyT
import Derived.Test.YtbkkekbeaabokaaSyS
set_option linter.unusedVariables false
set_option linter.unusedSimpArgs false
namespace Go.Proofs.Ytbkkekbeaabokaa.Sx
open Go Go.RowKit

variable {P : Program} {β : Bs} {G : Nat → Prop} {w w' : World} {ι ι' : Nat → Loc} {s s' : S} {a : Act} {N : Nat}

theorem Rel.reHp (h : Rel β ι s a w N) {b : Nat} {o0 o : HO} (hb : lk b s.hp = some o0) (ho : RelO β.G ι s.nx w b o) : Rel β ι { s with hp := up b o s.hp } a w N := by
  refine ⟨h.env, h.kept, h.apart, h.size, h.marks, h.slots, h.ghosts, fun x o' hx => ?_, h.inside, h.inj, fun x hx => ?_, fun x hx => ?_, h.gr⟩
  · simp only [lk_up] at hx
    by_cases e : x = b
    · rw [if_pos e] at hx
      injection hx with hx
      subst hx; subst e
      exact ho
    · rw [if_neg e] at hx; exact h.heap x o' hx
  · simp only [lk_up] at hx
    by_cases e : x = b
    · simp [e] at hx
    · rw [if_neg e] at hx; exact h.dead x hx
  · replace hx : s.nx ≤ x := hx
    simp only [lk_up]
    have hne : x ≠ b := fun e => by have := h.fresh b (by rw [← e]; exact hx); rw [this] at hb; cases hb
    rw [if_neg hne]
    exact h.fresh x hx
/-- A row of data is a row of one's own cells. -/
theorem Ent.toD {b n : Nat} {t : TypeId} {es : List (List Dat)} (hb : lk b s.hp = some (.row t n es)) (hne : es ≠ []) : Ent s { s with hp := up b (.rowD t n (es.map (·.map .dat))) s.hp } := by
  refine ⟨rfl, fun β ι a w N h => ⟨ι, h.reHp hb ?_⟩⟩
  cases h.heap b _ hb with
  | nil _ _ hι => exact absurd rfl hne
  | row _ _ _ B C hι hC hlen hs hl h1 hU =>
    have get : ∀ (i : Nat) (cs : List D), (es.map (·.map D.dat))[i]? = some cs → ∃ cs0, es[i]? = some cs0 ∧ cs = cs0.map .dat := by
      intro i cs hi
      simp only [List.getElem?_map, Option.map_eq_some_iff] at hi
      obtain ⟨cs0, h0, rfl⟩ := hi
      exact ⟨cs0, h0, rfl⟩
    refine .rowD t n _ B C hι hC (fun cs hcs => ?_) hs (by simpa using hl) (fun i cs hi j d hj => ?_) (fun i cs hi j d hj => ?_)
    · obtain ⟨cs0, h0, rfl⟩ := List.mem_map.1 hcs
      simpa using hlen cs0 h0
    · obtain ⟨cs0, h0, rfl⟩ := get i cs hi
      simp only [List.getElem?_map, Option.map_eq_some_iff] at hj
      obtain ⟨d0, hd0, rfl⟩ := hj
      exact h1 i cs0 h0 j d0 hd0
    · obtain ⟨cs0, h0, rfl⟩ := get i cs hi
      simp only [List.getElem?_map, Option.map_eq_some_iff] at hj
      obtain ⟨d0, hd0, rfl⟩ := hj
      exact .dat (hU i cs0 h0 j d0 hd0)
/-- A row of one's own cells of which one alone is no data: that one is given up. -/
theorem Ent.ofD {b k j n m : Nat} {t : TypeId} {es : List (List Dat)} {es' : List (List D)} {cs : List D} {d : D} {e : Dat} {hp' : List (Nat × HO)} (hb : lk b s.hp = some (.rowD t n es')) (hk : es'[k]? = some cs) (hj : cs[j]? = some d) (hg : Sx.give m d s.hp = some (e, hp')) (hb' : lk b hp' = some (.rowD t n es'))
    (hl : es.length = es'.length) (hes : ∀ (i : Nat) (c : List Dat), es[i]? = some c → ∃ c', es'[i]? = some c' ∧ c.length = c'.length ∧ ∀ (q : Nat) (x : Dat), c[q]? = some x → c'[q]? = some (.dat x) ∨ (i = k ∧ q = j ∧ x = e)) : Ent s { s with hp := up b (.row t n es) hp' } := by
  refine ⟨rfl, fun β ι a w N h => ?_⟩
  cases h.heap b _ hb with
  | rowD _ _ _ B C hι hC hlen hs hl1 h1 hU =>
    obtain ⟨ι', hl2, hR, hD⟩ := h.give (hU k cs hk j d hj) hg
    refine ⟨ι', hR.reHp (s := { s with hp := hp' }) hb' ?_⟩
    cases hR.heap b _ hb' with
    | rowD _ _ _ B2 C2 hι2 hC2 hlen2 hs2 hl3 h12 hU2 =>
      have hB : B2 = B := by
        rcases hl2.loc b with e | e
        · rw [hι2] at e; cases e
        · rw [hι2, hι] at e; injection e
      subst hB
      rw [hC] at hC2
      injection hC2 with hC2
      injection hC2 with e1 e2
      subst e1
      refine .row _ n _ B2 C hι2 hC (fun c hc => ?_) hs (by rw [hl]; exact hl1) (fun i c hi q x hq => ?_) (fun i c hi q x hq => ?_)
      · obtain ⟨i, hi⟩ := List.mem_iff_getElem?.1 hc
        obtain ⟨c', hc', hlc, _⟩ := hes i c hi
        rw [hlc]
        exact hlen c' (List.mem_of_getElem? hc')
      · obtain ⟨c', hc', hlc, hx⟩ := hes i c hi
        rcases hx q x hq with h2 | ⟨rfl, rfl, rfl⟩
        · exact h1 i c' hc' q _ h2
        · exact h1 i cs hk q d hj
      · obtain ⟨c', hc', hlc, hx⟩ := hes i c hi
        rcases hx q x hq with h2 | ⟨rfl, rfl, rfl⟩
        · have := hU2 i c' hc' q _ h2
          obtain ⟨this⟩ := this
          exact this
        · exact hD

/-- Whatever reads as d reads as d'. -/
def DatImp (d d' : Dat) : Prop := ∀ (ok : Nat → Prop) (w : World) (v : Value), DatR ok w d v → DatR ok w d' v
theorem DatImp.refl (d : Dat) : DatImp d d := fun _ _ _ h => h
theorem DatImp.nil (n : Nat) : DatImp (.val (.slice none 0 0)) (.sl n []) := fun ok w v h => by cases h; exact .slnil _ _ _
inductive DatImps : List Dat → List Dat → Prop where
  | nil : DatImps [] []
  | cons {d d' : Dat} {l l' : List Dat} (h : DatImp d d') (t : DatImps l l') : DatImps (d :: l) (d' :: l')
theorem DatImps.get {l l' : List Dat} (h : DatImps l l') : l'.length = l.length ∧ ∀ (j : Nat) (d' : Dat), l'[j]? = some d' → ∃ d, l[j]? = some d ∧ DatImp d d' := by
  induction h with
  | nil => exact ⟨rfl, fun j d' hj => by simp at hj⟩
  | cons h t ih =>
    refine ⟨by simp [ih.1], fun j d' hj => ?_⟩
    cases j with
    | zero => simp at hj; subst hj; exact ⟨_, rfl, h⟩
    | succ j => simpa using ih.2 j d' (by simpa using hj)
theorem DatImps.refl : ∀ l : List Dat, DatImps l l
  | [] => .nil
  | d :: r => .cons (.refl d) (DatImps.refl r)
theorem DatImp.agg {l l' : List Dat} (h : DatImps l l') : DatImp (.agg l) (.agg l') := by
  intro ok w v hv
  obtain ⟨h1, h2⟩ := h.get
  cases hv with
  | agg _ vs hl hc hU => exact .agg _ vs (hl.trans h1.symm) hc fun j d' hj => by obtain ⟨d, hd, hi⟩ := h2 j d' hj; exact hi _ _ _ (hU j d hd)
theorem DatImp.tup {l l' : List Dat} (h : DatImps l l') : DatImp (.tup l) (.tup l') := by
  intro ok w v hv
  obtain ⟨h1, h2⟩ := h.get
  cases hv with
  | tup _ vs hl hU => exact .tup _ vs (hl.trans h1.symm) fun j d' hj => by obtain ⟨d, hd, hi⟩ := h2 j d' hj; exact hi _ _ _ (hU j d hd)
theorem Ent.datG {t : Nat} {d d' : Dat} (hd : lk t s.gh = some (.dat d)) (h : DatImp d d') : Ent s { s with gh := up t (.dat d') s.gh } := by
  refine ⟨rfl, fun β ι a w N hR => ⟨ι, hR.env, hR.kept, hR.apart, hR.size, hR.marks, hR.slots, fun k x hk => ?_, hR.heap, hR.inside, hR.inj, hR.dead, hR.fresh, hR.gr⟩⟩
  simp only [lk_up] at hk
  by_cases e : k = t
  · rw [if_pos e] at hk
    injection hk with hk
    subst hk; subst e
    obtain ⟨hr⟩ := hR.ghosts k _ hd
    exact .dat (h _ _ _ hr)
  · rw [if_neg e] at hk
    exact hR.ghosts k x hk
theorem Ent.datS {t : Nat} {d d' : Dat} (hd : lk t s.sl = some (.dat d)) (h : DatImp d d') : Ent s { s with sl := up t (.dat d') s.sl } := by
  refine ⟨rfl, fun β ι a w N hR => ⟨ι, hR.env, hR.kept, hR.apart, hR.size, hR.marks, fun k x hk => ?_, hR.ghosts, hR.heap, hR.inside, hR.inj, hR.dead, hR.fresh, hR.gr⟩⟩
  simp only [lk_up] at hk
  by_cases e : k = t
  · rw [if_pos e] at hk
    injection hk with hk
    subst hk; subst e
    obtain ⟨h1, h2⟩ := hR.slots k _ hd
    obtain ⟨hr⟩ := h2
    exact ⟨h1, .dat (h _ _ _ hr)⟩
  · rw [if_neg e] at hk
    exact hR.slots k x hk
/-- Several results, all data. -/
theorem Does.datTup {g : FuncId} {args ds : List Dat} {h : List HO} (hf : Does P g args (.tup (ds.map .dat)) h) : Does P g args (.dat (.tup ds)) h :=
  ⟨hf.body, fun ok w vs hok hl hU => Calls.mono (hf.calls ok w vs hok hl hU) fun e w' ⟨v, ι', h1, h2, h3, h4⟩ => ⟨v, ι', h1, h2, h3, by
    cases h4 with
    | tup _ us hl hU =>
      refine .dat (.tup _ us (by simpa using hl) fun j d hj => ?_)
      obtain ⟨hd⟩ := hU j (.dat d) (by simp [hj])
      exact hd⟩⟩
end Go.Proofs.Ytbkkekbeaabokaa.Sx
