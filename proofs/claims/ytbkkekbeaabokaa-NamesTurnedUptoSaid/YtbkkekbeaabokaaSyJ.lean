/- Sy, part J: names are changed; what a state entails; contracts of functions; a call. -/
import Derived.Test.YtbkkekbeaabokaaSyI
set_option linter.unusedVariables false
set_option linter.unusedSimpArgs false
namespace Go.Proofs.Ytbkkekbeaabokaa.Sx
open Go Go.RowKit

variable {P : Program} {β : Bs} {G G' : Nat → Prop} {w w' : World} {ι ι' : Nat → Loc} {s s' : S} {a : Act} {N : Nat}

/-! ### Names are changed -/
mutual
def mp (ρ : Nat → Option Nat) : D → Option D
  | .dat d => some (.dat d)
  | .own b n l => (ρ b).map fun b' => .own b' n l
  | .vw b n o l => (ρ b).map fun b' => .vw b' n o l
  | .ptr b o => (ρ b).map fun b' => .ptr b' o
  | .ept b n i j => (ρ b).map fun b' => .ept b' n i j
  | .fn g cs => (mpL ρ cs).map (.fn g)
  | .agg cs => (mpL ρ cs).map .agg
  | .tup cs => (mpL ρ cs).map .tup
  | .mapb b => (ρ b).map .mapb
  | .bad => some .bad
def mpL (ρ : Nat → Option Nat) : List D → Option (List D)
  | [] => some []
  | d :: r => match mp ρ d, mpL ρ r with
    | some d', some r' => some (d' :: r')
    | _, _ => none
end
def mpLL (ρ : Nat → Option Nat) : List (List D) → Option (List (List D))
  | [] => some []
  | l :: r => match mpL ρ l, mpLL ρ r with
    | some l', some r' => some (l' :: r')
    | _, _ => none
def mpO (ρ : Nat → Option Nat) : HO → Option HO
  | .var cs => (mpL ρ cs).map .var
  | .row t n es => some (.row t n es)
  | .rowD t n es => (mpLL ρ es).map (.rowD t n)
  | .map es => some (.map es)
def mpG (ρ : Nat → Option Nat) : List (Nat × D) → Option (List (Nat × D))
  | [] => some []
  | (t, d) :: r => match mp ρ d, mpG ρ r with
    | some d', some r' => some ((t, d') :: r')
    | _, _ => none
theorem mpG_spec {ρ : Nat → Option Nat} : ∀ {l l' : List (Nat × D)}, mpG ρ l = some l' → ∀ t d', lk t l' = some d' → ∃ d, lk t l = some d ∧ mp ρ d = some d'
  | [], l', h, t, d', hl => by simp only [mpG, Option.some.injEq] at h; subst h; simp [lk] at hl
  | (k, d) :: r, l', h, t, d', hl => by
    simp only [mpG] at h
    split at h
    · rename_i d1 r1 h1 h2
      injection h with h
      subst h
      simp only [lk] at hl ⊢
      split
      · rename_i e
        rw [if_pos e] at hl
        injection hl with hl
        subst hl
        exact ⟨d, rfl, h1⟩
      · rename_i e
        rw [if_neg e] at hl
        exact mpG_spec h2 t d' hl
    · cases h

theorem mpL_spec {ρ : Nat → Option Nat} : ∀ {l l' : List D}, mpL ρ l = some l' → l'.length = l.length ∧ ∀ (j : Nat) (d' : D), l'[j]? = some d' → ∃ d, l[j]? = some d ∧ mp ρ d = some d'
  | [], l', h => by simp only [mpL, Option.some.injEq] at h; subst h; exact ⟨rfl, fun j d' h => by simp at h⟩
  | d :: r, l', h => by
    simp only [mpL] at h
    split at h
    · rename_i d1 r1 h1 h2
      injection h with h
      subst h
      obtain ⟨i1, i2⟩ := mpL_spec h2
      refine ⟨by simp [i1], fun j d' hj => ?_⟩
      cases j with
      | zero => simp at hj; subst hj; exact ⟨d, rfl, h1⟩
      | succ j => simpa using i2 j d' (by simpa using hj)
    · cases h

theorem mpLL_spec {ρ : Nat → Option Nat} : ∀ {l l' : List (List D)}, mpLL ρ l = some l' → l'.length = l.length ∧ ∀ (j : Nat) (d' : List D), l'[j]? = some d' → ∃ d, l[j]? = some d ∧ mpL ρ d = some d'
  | [], l', h => by simp only [mpLL, Option.some.injEq] at h; subst h; exact ⟨rfl, fun j d' h => by simp at h⟩
  | d :: r, l', h => by
    simp only [mpLL] at h
    split at h
    · rename_i d1 r1 h1 h2
      injection h with h
      subst h
      obtain ⟨i1, i2⟩ := mpLL_spec h2
      refine ⟨by simp [i1], fun j d' hj => ?_⟩
      cases j with
      | zero => simp at hj; subst hj; exact ⟨d, rfl, h1⟩
      | succ j => simpa using i2 j d' (by simpa using hj)
    · cases h

/-- From (G, ι, nx) to (G', ι', nx') in one world, names as ρ says. -/
structure Ren (ρ : Nat → Option Nat) (G : Nat → Prop) (ι : Nat → Loc) (nx : Nat) (G' : Nat → Prop) (ι' : Nat → Loc) (nx' : Nat) (w : World) : Prop where
  ok : ∀ B, okB G ι w B → okB G' ι' w B
  loc : ∀ b b', b < nx → ρ b = some b' → b' < nx' ∧ ι' b' = ι b

theorem Ren.datR {ρ : Nat → Option Nat} {nx nx' : Nat} (r : Ren ρ G ι nx G' ι' nx' w) {d : Dat} {v : Value} (h : DatR (okB G ι w) w d v) : DatR (okB G' ι' w) w d v := h.mono r.ok (fun _ _ => rfl)
theorem Ren.relD {ρ : Nat → Option Nat} {nx nx' : Nat} (r : Ren ρ G ι nx G' ι' nx' w) {d d' : D} {v : Value} (h : RelD G ι nx w d v) (hm : mp ρ d = some d') : RelD G' ι' nx' w d' v := by
  induction h generalizing d' with
  | dat h => simp only [mp, Option.some.injEq] at hm; subst hm; exact .dat (r.datR h)
  | own_dead b n l v h1 hb he =>
    simp only [mp, Option.map_eq_some_iff] at hm; obtain ⟨b', hb', rfl⟩ := hm; obtain ⟨h2, h3⟩ := r.loc b b' hb hb'
    exact .own_dead b' n l v h1 h2 (h3.trans he)
  | own_nil b n hb he =>
    simp only [mp, Option.map_eq_some_iff] at hm; obtain ⟨b', hb', rfl⟩ := hm; obtain ⟨h2, h3⟩ := r.loc b b' hb hb'
    exact .own_nil b' n h2 (h3.trans he)
  | own_at b n l B c hb he C t hC hl hc hs =>
    simp only [mp, Option.map_eq_some_iff] at hm; obtain ⟨b', hb', rfl⟩ := hm; obtain ⟨h2, h3⟩ := r.loc b b' hb hb'
    exact .own_at b' n l B c h2 (h3.trans he) C t hC hl hc hs
  | vw_dead b n o l v h1 hb he =>
    simp only [mp, Option.map_eq_some_iff] at hm; obtain ⟨b', hb', rfl⟩ := hm; obtain ⟨h2, h3⟩ := r.loc b b' hb hb'
    exact .vw_dead b' n o l v h1 h2 (h3.trans he)
  | vw_nil b n o hb he A c =>
    simp only [mp, Option.map_eq_some_iff] at hm; obtain ⟨b', hb', rfl⟩ := hm; obtain ⟨h2, h3⟩ := r.loc b b' hb hb'
    exact .vw_nil b' n o h2 (h3.trans he) A c
  | vw_at b n o l B c A hb he hA hl hc =>
    simp only [mp, Option.map_eq_some_iff] at hm; obtain ⟨b', hb', rfl⟩ := hm; obtain ⟨h2, h3⟩ := r.loc b b' hb hb'
    exact .vw_at b' n o l B c A h2 (h3.trans he) hA hl hc
  | ptr_dead b o v h1 hb he =>
    simp only [mp, Option.map_eq_some_iff] at hm; obtain ⟨b', hb', rfl⟩ := hm; obtain ⟨h2, h3⟩ := r.loc b b' hb hb'
    exact .ptr_dead b' o v h1 h2 (h3.trans he)
  | ptr_nil b o v h1 hb he =>
    simp only [mp, Option.map_eq_some_iff] at hm; obtain ⟨b', hb', rfl⟩ := hm; obtain ⟨h2, h3⟩ := r.loc b b' hb hb'
    exact .ptr_nil b' o v h1 h2 (h3.trans he)
  | ptr_at b o B hb he =>
    simp only [mp, Option.map_eq_some_iff] at hm; obtain ⟨b', hb', rfl⟩ := hm; obtain ⟨h2, h3⟩ := r.loc b b' hb hb'
    exact .ptr_at b' o B h2 (h3.trans he)
  | ept_dead b n i j v h1 hb he =>
    simp only [mp, Option.map_eq_some_iff] at hm; obtain ⟨b', hb', rfl⟩ := hm; obtain ⟨h2, h3⟩ := r.loc b b' hb hb'
    exact .ept_dead b' n i j v h1 h2 (h3.trans he)
  | ept_nil b n i j v h1 hb he =>
    simp only [mp, Option.map_eq_some_iff] at hm; obtain ⟨b', hb', rfl⟩ := hm; obtain ⟨h2, h3⟩ := r.loc b b' hb hb'
    exact .ept_nil b' n i j v h1 h2 (h3.trans he)
  | ept_at b n i j B hb he =>
    simp only [mp, Option.map_eq_some_iff] at hm; obtain ⟨b', hb', rfl⟩ := hm; obtain ⟨h2, h3⟩ := r.loc b b' hb hb'
    exact .ept_at b' n i j B h2 (h3.trans he)
  | fn g cs vs hl _ ih =>
    simp only [mp, Option.map_eq_some_iff] at hm; obtain ⟨cs', hcs, rfl⟩ := hm; obtain ⟨k1, k2⟩ := mpL_spec hcs
    exact .fn g cs' vs (hl.trans k1.symm) (fun j d' hj => by obtain ⟨d, hd, hm⟩ := k2 j d' hj; exact ih j d hd hm)
  | agg cs vs hl h1 _ ih =>
    simp only [mp, Option.map_eq_some_iff] at hm; obtain ⟨cs', hcs, rfl⟩ := hm; obtain ⟨k1, k2⟩ := mpL_spec hcs
    exact .agg cs' vs (hl.trans k1.symm) h1 (fun j d' hj => by obtain ⟨d, hd, hm⟩ := k2 j d' hj; exact ih j d hd hm)
  | tup cs vs hl _ ih =>
    simp only [mp, Option.map_eq_some_iff] at hm; obtain ⟨cs', hcs, rfl⟩ := hm; obtain ⟨k1, k2⟩ := mpL_spec hcs
    exact .tup cs' vs (hl.trans k1.symm) (fun j d' hj => by obtain ⟨d, hd, hm⟩ := k2 j d' hj; exact ih j d hd hm)
  | map_dead b v h1 hb he =>
    simp only [mp, Option.map_eq_some_iff] at hm; obtain ⟨b', hb', rfl⟩ := hm; obtain ⟨h2, h3⟩ := r.loc b b' hb hb'
    exact .map_dead b' v h1 h2 (h3.trans he)
  | map_nil b v h1 hb he =>
    simp only [mp, Option.map_eq_some_iff] at hm; obtain ⟨b', hb', rfl⟩ := hm; obtain ⟨h2, h3⟩ := r.loc b b' hb hb'
    exact .map_nil b' v h1 h2 (h3.trans he)
  | map_at b B hb he =>
    simp only [mp, Option.map_eq_some_iff] at hm; obtain ⟨b', hb', rfl⟩ := hm; obtain ⟨h2, h3⟩ := r.loc b b' hb hb'
    exact .map_at b' B h2 (h3.trans he)
  | bad v => simp only [mp, Option.some.injEq] at hm; subst hm; exact .bad v

theorem Ren.relO {ρ : Nat → Option Nat} {nx nx' : Nat} (r : Ren ρ G ι nx G' ι' nx' w) {b b' : Nat} {o o' : HO} (h : RelO G ι nx w b o) (hb : ι' b' = ι b) (hm : mpO ρ o = some o') : RelO G' ι' nx' w b' o' := by
  cases h with
  | var cs B C t hι hC hl h1 hU =>
    simp only [mpO, Option.map_eq_some_iff] at hm
    obtain ⟨cs', hcs, rfl⟩ := hm
    obtain ⟨k1, k2⟩ := mpL_spec hcs
    exact .var cs' B C t (hb.trans hι) hC (hl.trans k1.symm) h1 (fun j d' hj => by obtain ⟨d, hd, hm⟩ := k2 j d' hj; exact r.relD (hU j d hd) hm)
  | nil t size hι => simp only [mpO, Option.some.injEq] at hm; subst hm; exact .nil t size (hb.trans hι)
  | row t size es B C hι hC hlen hs hl h1 hU =>
    simp only [mpO, Option.some.injEq] at hm
    subst hm
    exact .row t size es B C (hb.trans hι) hC hlen hs hl h1 (fun i cs hi j d hj => r.datR (hU i cs hi j d hj))
  | rowD t size es B C hι hC hlen hs hl h1 hU =>
    simp only [mpO, Option.map_eq_some_iff] at hm
    obtain ⟨es', hes, rfl⟩ := hm
    obtain ⟨k1, k2⟩ := mpLL_spec hes
    refine .rowD t size es' B C (hb.trans hι) hC (fun cs hcs => ?_) hs (by rw [k1]; exact hl) (fun i cs hi j d hj => ?_) (fun i cs hi j d hj => ?_)
    · obtain ⟨i, hi⟩ := List.getElem?_of_mem hcs
      obtain ⟨cs0, h1', h2'⟩ := k2 i cs hi
      exact (mpL_spec h2').1.trans (hlen cs0 (List.mem_of_getElem? h1'))
    · obtain ⟨cs0, h1', h2'⟩ := k2 i cs hi
      obtain ⟨d0, h3, _⟩ := (mpL_spec h2').2 j d hj
      exact h1 i cs0 h1' j d0 h3
    · obtain ⟨cs0, h1', h2'⟩ := k2 i cs hi
      obtain ⟨d0, h3, h4⟩ := (mpL_spec h2').2 j d hj
      exact r.relD (hU i cs0 h1' j d0 h3) h4
  | map es B E k hι hE he =>
    simp only [mpO, Option.some.injEq] at hm
    subst hm
    exact .map es B E k (hb.trans hι) hE he

/-! ### What a state entails -/
structure Ent (s s' : S) : Prop where
  st : s'.st = s.st
  go : ∀ (β : Bs) (ι : Nat → Loc) (a : Act) (w : World) (N : Nat), Rel β ι s a w N → ∃ ι', Rel β ι' s' a w N
theorem Ent.refl (s : S) : Ent s s := ⟨rfl, fun _ ι _ _ _ h => ⟨ι, h⟩⟩
theorem Ent.trans {s1 s2 s3 : S} (h : Ent s1 s2) (k : Ent s2 s3) : Ent s1 s3 := ⟨k.st.trans h.st, fun β ι a w N r => by
  obtain ⟨ι1, r1⟩ := h.go β ι a w N r
  exact k.go β ι1 a w N r1⟩
/-- What a slot holds is given up for data. -/
theorem Ent.give {s : S} {t n : Nat} {d : D} {e : Dat} {hp' : List (Nat × HO)} (hd : lk t s.sl = some d) (hg : Sx.give n d s.hp = some (e, hp')) : Ent s { s with sl := up t (.dat e) s.sl, hp := hp' } := by
  refine ⟨rfl, fun β ι a w N h => ?_⟩
  obtain ⟨hlt, hr⟩ := h.slots t d hd
  obtain ⟨ι', hl, hR, hD⟩ := h.give hr hg
  refine ⟨ι', hR.env, hR.kept, hR.apart, hR.size, hR.marks, fun k d' hk => ?_, hR.ghosts, hR.heap, hR.inside, hR.inj, hR.dead, hR.fresh, hR.gr⟩
  rw [lk_up] at hk
  by_cases e1 : k = t
  · rw [if_pos e1] at hk
    injection hk with hk
    subst hk
    exact ⟨e1 ▸ hlt, by rw [e1]; exact .dat hD⟩
  · rw [if_neg e1] at hk
    exact hR.slots k d' hk
/-- What a ghost holds is given up for data. -/
theorem Ent.giveG {s : S} {t n : Nat} {d : D} {e : Dat} {hp' : List (Nat × HO)} (hd : lk t s.gh = some d) (hg : Sx.give n d s.hp = some (e, hp')) : Ent s { s with gh := up t (.dat e) s.gh, hp := hp' } := by
  refine ⟨rfl, fun β ι a w N h => ?_⟩
  obtain ⟨ι', hl, hR, hD⟩ := h.give (h.ghosts t d hd) hg
  refine ⟨ι', hR.env, hR.kept, hR.apart, hR.size, hR.marks, hR.slots, fun k d' hk => ?_, hR.heap, hR.inside, hR.inj, hR.dead, hR.fresh, hR.gr⟩
  rw [lk_up] at hk
  by_cases e1 : k = t
  · rw [if_pos e1] at hk
    injection hk with hk
    subst hk
    rw [e1]
    exact .dat hD
  · rw [if_neg e1] at hk
    exact hR.ghosts k d' hk
/-- A nil slice, seen as a row of one's own. -/
theorem Ent.nil {s : S} {t : Nat} (ty : TypeId) (n : Nat) (hd : lk t s.sl = some (.dat (.val (.slice none 0 0)))) : Ent s { s with sl := up t (.own s.nx n 0) s.sl, hp := (s.nx, .row ty n []) :: s.hp, nx := s.nx + 1 } := by
  refine ⟨rfl, fun β ι a w N h => ?_⟩
  have hR := h.newNil ty n
  obtain ⟨hlt, hr⟩ := h.slots t _ hd
  refine ⟨_, hR.env, hR.kept, hR.apart, hR.size, hR.marks, fun k d' hk => ?_, hR.ghosts, hR.heap, hR.inside, hR.inj, hR.dead, hR.fresh, hR.gr⟩
  rw [lk_up] at hk
  by_cases e1 : k = t
  · rw [if_pos e1] at hk
    injection hk with hk
    subst hk
    refine ⟨e1 ▸ hlt, ?_⟩
    rw [e1, val_eq hr]
    exact .own_nil _ _ (Nat.lt_succ_self _) (by simp [name])
  · rw [if_neg e1] at hk
    exact hR.slots k d' hk

/-- Names out of a list: the new name of b is its place. -/
def place (σ : List Nat) (b : Nat) : Option Nat := match σ with
  | [] => none
  | x :: r => if b = x then some 0 else (place r b).map (· + 1)
theorem place_spec : ∀ {σ : List Nat} {b i : Nat}, place σ b = some i → σ[i]? = some b
  | [], b, i, h => by simp [place] at h
  | x :: r, b, i, h => by
    simp only [place] at h
    split at h
    · rename_i e
      injection h with h
      subst h
      simp [e]
    · simp only [Option.map_eq_some_iff] at h
      obtain ⟨j, hj, rfl⟩ := h
      simpa using place_spec hj
/-- Slots and blocks that are kept, under their new names. -/
def subSl (ρ : Nat → Option Nat) (sl : List (Nat × D)) : List Nat → Option (List (Nat × D))
  | [] => some []
  | t :: r => match lk t sl, subSl ρ sl r with
    | some d, some l => (mp ρ d).map fun d' => (t, d') :: l
    | _, _ => none
def subHp (ρ : Nat → Option Nat) (hp : List (Nat × HO)) : Nat → List Nat → Option (List (Nat × HO))
  | _, [] => some []
  | k, b :: r => match lk b hp, subHp ρ hp (k + 1) r with
    | some o, some l => (mpO ρ o).map fun o' => (k, o') :: l
    | _, _ => none
/-- The state of these slots and these blocks alone; the blocks are named 0, 1, .. in their order. -/
def sub (s : S) (ts σ : List Nat) : Option S := match subSl (place σ) s.sl ts, subHp (place σ) s.hp 0 σ, mpG (place σ) s.gh with
  | some sl, some hp, some gh => if σ.Nodup then some { sl := sl, hp := hp, nx := σ.length, gh := gh, st := s.st } else none
  | _, _, _ => none
theorem subSl_spec {ρ : Nat → Option Nat} {sl : List (Nat × D)} : ∀ {ts : List Nat} {l : List (Nat × D)}, subSl ρ sl ts = some l → ∀ t d', lk t l = some d' → ∃ d, lk t sl = some d ∧ mp ρ d = some d'
  | [], l, h, t, d', hl => by simp only [subSl, Option.some.injEq] at h; subst h; simp [lk] at hl
  | u :: r, l, h, t, d', hl => by
    simp only [subSl] at h
    split at h
    · rename_i d l1 h1 h2
      simp only [Option.map_eq_some_iff] at h
      obtain ⟨d1, hd1, rfl⟩ := h
      simp only [lk] at hl
      split at hl
      · rename_i e
        injection hl with hl
        subst hl
        exact ⟨d, e ▸ h1, hd1⟩
      · exact subSl_spec h2 t d' hl
    · cases h
theorem subHp_spec {ρ : Nat → Option Nat} {hp : List (Nat × HO)} : ∀ {σ : List Nat} {k : Nat} {l : List (Nat × HO)}, subHp ρ hp k σ = some l → (∀ x o', lk x l = some o' → k ≤ x ∧ ∃ b o, σ[x - k]? = some b ∧ lk b hp = some o ∧ mpO ρ o = some o') ∧ (∀ x, k ≤ x → x < k + σ.length → (lk x l).isSome) ∧ (∀ x, x < k → lk x l = none)
  | [], k, l, h => by simp only [subHp, Option.some.injEq] at h; subst h; exact ⟨fun x o' h => by simp [lk] at h, fun x h1 h2 => by simp at h2; omega, fun x hx => rfl⟩
  | b :: r, k, l, h => by
    simp only [subHp] at h
    split at h
    · rename_i o l1 h1 h2
      simp only [Option.map_eq_some_iff] at h
      obtain ⟨o1, ho1, rfl⟩ := h
      obtain ⟨i1, i2, i3⟩ := subHp_spec h2
      refine ⟨fun x o' hx => ?_, fun x hx1 hx2 => ?_, fun x hx => ?_⟩
      · simp only [lk] at hx
        split at hx
        · rename_i e
          injection hx with hx
          subst hx
          exact ⟨by omega, b, o, by simp [e], h1, ho1⟩
        · obtain ⟨j1, b', o2, j2, j3, j4⟩ := i1 x o' hx
          refine ⟨by omega, b', o2, ?_, j3, j4⟩
          rw [show x - k = (x - (k + 1)) + 1 by omega]
          simpa using j2
      · simp only [lk]
        split
        · rfl
        · exact i2 x (by omega) (by simp at hx2; omega)
      · simp only [lk]
        rw [if_neg (by omega)]
        exact i3 x (by omega)
    · cases h

theorem Ent.sub {s s' : S} (ts σ : List Nat) (h : Sx.sub s ts σ = some s') : Ent s s' := by
  unfold Sx.sub at h
  split at h
  · rename_i sl hp gh hsl hhp hgh
    split at h
    · rename_i hnd
      injection h with h
      subst h
      refine ⟨rfl, fun β ι a w N hR => ?_⟩
      obtain ⟨i1, i2, i3⟩ := subHp_spec hhp
      have hσ : ∀ (i b : Nat), σ[i]? = some b → ∃ o, lk b s.hp = some o := by
        intro i b hi
        have hlt := (List.getElem?_eq_some_iff.1 hi).1
        obtain ⟨o', ho'⟩ := Option.isSome_iff_exists.1 (i2 i (Nat.zero_le _) (by omega))
        obtain ⟨_, b', o, j1, j2, _⟩ := i1 i o' ho'
        rw [Nat.sub_zero, hi] at j1
        injection j1 with j1
        subst j1
        exact ⟨o, j2⟩
      obtain ⟨ι', hι'⟩ : ∃ ι' : Nat → Loc, ι' = fun i => match σ[i]? with | some b => ι b | none => .dead := ⟨_, rfl⟩
      have r : Ren (place σ) β.G ι s.nx β.G ι' σ.length w := by
        refine ⟨fun B hB => ⟨hB.1, fun i hi => ?_⟩, fun b i hb hi => ?_⟩
        · rw [hι'] at hi
          simp only at hi
          split at hi
          · exact hB.2 _ hi
          · cases hi
        · have := place_spec hi
          exact ⟨(List.getElem?_eq_some_iff.1 this).1, by rw [hι']; simp [this]⟩
      have hat : ∀ i B, ι' i = .at B → ∃ b, ι b = .at B := by
        intro i B hx
        rw [hι'] at hx
        simp only at hx
        split at hx
        · exact ⟨_, hx⟩
        · cases hx
      refine ⟨ι', hR.env, hR.kept, hR.apart, hR.size, hR.marks, fun t d' ht => ?_, fun t d' ht => ?_, fun x o' hx => ?_, fun x B hx => ?_, fun x y B hx hy => ?_, fun x hx => ?_, fun x hx => ?_, fun B hB => hR.gr B ?_⟩
      · obtain ⟨d, hd, hm⟩ := subSl_spec hsl t d' ht
        exact ⟨(hR.slots t d hd).1, r.relD (hR.slots t d hd).2 hm⟩
      · obtain ⟨d, hd, hm⟩ := mpG_spec hgh t d' ht
        exact r.relD (hR.ghosts t d hd) hm
      · obtain ⟨_, b, o, j1, j2, j3⟩ := i1 x o' hx
        rw [Nat.sub_zero] at j1
        exact r.relO (hR.heap b o j2) (by rw [hι']; simp [j1]) j3
      · rw [hι'] at hx
        simp only at hx
        split at hx
        · exact hR.inside _ B hx
        · cases hx
      · rw [hι'] at hx hy
        simp only at hx hy
        split at hx
        · rename_i b hb
          split at hy
          · rename_i b' hb'
            have e := hR.inj b b' B hx hy
            subst e
            have h1 := (List.getElem?_eq_some_iff.1 hb).1
            exact (List.getElem?_inj h1 hnd).1 (hb.trans hb'.symm)
          · cases hy
        · cases hx
      · rw [hι']
        simp only
        split
        · rename_i b hb
          have hlt := (List.getElem?_eq_some_iff.1 hb).1
          have := i2 x (Nat.zero_le _) (by omega)
          simp only at hx
          rw [hx] at this
          cases this
        · rfl
      · simp only at hx ⊢
        cases hk : lk x hp with
        | none => rfl
        | some o' =>
          obtain ⟨_, b, o, j1, _⟩ := i1 x o' hk
          rw [Nat.sub_zero] at j1
          have := (List.getElem?_eq_some_iff.1 j1).1
          omega
      · rcases hB with ⟨i, hi⟩ | hB
        · exact .inl (hat i B hi)
        · exact .inr hB
    · cases h
  · cases h

end Go.Proofs.Ytbkkekbeaabokaa.Sx
