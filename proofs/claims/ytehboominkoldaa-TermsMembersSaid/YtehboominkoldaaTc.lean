/- The terms, part c: the two ways to combine sets. -/
import Derived.Test.YtehboominkoldaaTb
set_option linter.unusedVariables false
set_option linter.unusedSimpArgs false
namespace Go.Proofs.Ytehboominkoldaa
open Go Go.Proofs.Ytehboominkoldaa.Sx

/-- A span is put behind the others, or makes the last one longer. -/
def ext (acc : List Sp) (f t : Int) : List Sp := match acc[acc.length - 1]? with
  | some p => if p.2 = f then acc.set (acc.length - 1) (p.1, t) else acc ++ [(f, t)]
  | none => acc ++ [(f, t)]
theorem ext_app {acc : List Sp} {y : Sp} {f t : Int} (hy : 0 < acc.length → acc[acc.length - 1]? = some y) (h : ¬ (0 < acc.length ∧ y.2 = f)) : ext acc f t = acc ++ [(f, t)] := by
  unfold ext
  split
  · rename_i p hp
    have h0 : 0 < acc.length := by have := (List.getElem?_eq_some_iff.1 hp).1; omega
    have := hy h0
    rw [hp] at this
    injection this with this
    subst this
    rw [if_neg (fun e => h ⟨h0, e⟩)]
  · rfl
theorem ext_len (acc : List Sp) (f t : Int) : (ext acc f t).length ≤ acc.length + 1 := by
  unfold ext
  split
  · split <;> simp
  · simp
def comb (u : List Int) (q : Int → Bool) : Nat → List Sp
  | 0 => []
  | i + 1 => match u[i]?, u[i + 1]? with
    | some f, some t => if q f then ext (comb u q i) f t else comb u q i
    | _, _ => comb u q i
theorem comb_step {u : List Int} {q : Int → Bool} {i : Nat} {f t : Int} (h1 : u[i]? = some f) (h2 : u[i + 1]? = some t) : comb u q (i + 1) = if q f then ext (comb u q i) f t else comb u q i := by
  simp only [comb, h1, h2]
theorem comb_len (u : List Int) (q : Int → Bool) : ∀ i, (comb u q i).length ≤ i
  | 0 => by simp [comb]
  | i + 1 => by
    have := comb_len u q i
    simp only [comb]
    split
    · split
      · have := ext_len (comb u q i) ‹_› ‹_›
        rename_i f t _ _ _
        have := ext_len (comb u q i) f t
        omega
      · omega
    · omega
def combErr (a b : List Sp) : Int := if chk (-1) a && chk (-1) b then 0 else 60
def combOf (k : Bool → Bool → Bool) (a b : List Sp) : List Sp := if chk (-1) a && chk (-1) b then
  comb (uniq (cat [bnd a, bnd b])) (fun t => k (a.any (inSp t)) (b.any (inSp t))) ((uniq (cat [bnd a, bnd b])).length - 1) else []
theorem uniq_len (l : List Int) : (uniq l).length ≤ l.length := by
  have := Lib.compact_length_le (l.mergeSort fun x y => decide (x ≤ y))
  simpa [uniq] using this
def ofAt (fs : List Bool) : Nat → List Sp
  | 0 => []
  | i + 1 => if fs[i]? = some true then ext (ofAt fs i) i (i + 1) else ofAt fs i
theorem ofAt_len (fs : List Bool) : ∀ i, (ofAt fs i).length ≤ i
  | 0 => by simp [ofAt]
  | i + 1 => by
    have := ofAt_len fs i
    have := ext_len (ofAt fs i) i (i + 1)
    simp only [ofAt]
    split <;> omega
def kf (o : Int) (x y : Bool) : Bool := if o = 1 then x || y else if o = 2 then x && y else x && !y
def refOf (o : Int) (a b : List Sp) : List Sp := if chk (-1) a && chk (-1) b then ofAt ((List.range 1024).map fun p : Nat => kf o (a.any (inSp (p : Int))) (b.any (inSp (p : Int)))) 1024 else []
theorem flat_sing {α β : Type} (f : α → β) : ∀ l : List α, (l.map fun x => [f x]).flatten = l.map f
  | [] => rfl
  | x :: r => by simp [flat_sing f r]
theorem set_at {fs : List Bool} {F : Nat → Bool} {z : Nat} (hz : z < fs.length) (hat : ∀ p, p < 1024 → fs[p]? = some (if p < z then F p else false)) : ∀ p, p < 1024 → (fs.set z (F z))[p]? = some (if p < z + 1 then F p else false) := by
  intro p hp
  rw [List.getElem?_set]
  by_cases e : z = p
  · subst e; simp [hz]
  · rw [if_neg e, hat p hp]
    by_cases h : p < z
    · rw [if_pos h, if_pos (by omega)]
    · rw [if_neg h, if_neg (by omega)]
theorem all_at {fs : List Bool} {F : Nat → Bool} (hl : fs.length = 1024) (hat : ∀ p, p < 1024 → fs[p]? = some (if p < 1024 then F p else false)) : fs = (List.range 1024).map F := by
  apply List.ext_getElem?
  intro p
  by_cases hp : p < 1024
  · rw [hat p hp, if_pos hp, List.getElem?_map, List.getElem?_range hp]; rfl
  · rw [List.getElem?_eq_none (by omega), List.getElem?_eq_none (by simp; omega)]
-- WALKS (printed by skel.py)
-- sizar/terms.combine
theorem walk29 (k : Bool → Bool → Bool) (g : FuncId) (hg : ∀ x y, Does Try.prog g [bV x, bV y] (.dat (bV (k x y))) []) (a b : List Sp) (ha : a.length ≤ 4096) (hb : b.length ≤ 4096) : Does Try.prog 29 [spans a, spans b, .fn g []] (.tup [.dat (spans (combOf k a b)), .dat (iD (combErr a b))]) [] := by
  have hcat : (cat [bnd a, bnd b]).length ≤ 16384 := by simp [cat, bnd_len]; omega
  have w35 := walk35 (bnd a) (bnd b) (by omega)
  have hul := uniq_len (cat [bnd a, bnd b])
  have hres : combOf k a b = if chk (-1) a && chk (-1) b then comb (uniq (cat [bnd a, bnd b])) (fun t => k (a.any (inSp t)) (b.any (inSp t))) ((uniq (cat [bnd a, bnd b])).length - 1) else [] := rfl
  generalize uniq (cat [bnd a, bnd b]) = u at w35 hul hres
  obtain ⟨q, hq⟩ : ∃ q : Int → Bool, q = fun t => k (a.any (inSp t)) (b.any (inSp t)) := ⟨_, rfl⟩
  rw [← hq] at hres
  refine Does.intro [6, 7] Try.func29 rfl (by kernel_rfl) Try.ntmps29 rfl (by decide) (Nat.le_of_ble_eq_true rfl) ?_
  refine T_seq ?_
  -- region 0
  refine T_region (is := [0, 1]) rfl fun n p hn hp => ?_
  refine T_op rfl rfl fun c hc => ?_  -- 6 := assign nil
  simp; refine hc _ ?_; clear hc c
  refine T_op rfl rfl fun c hc => ?_  -- 7 := assign 0
  simp; refine hc _ ?_; clear hc c
  refine T_end (hn _ ?_); clear hn hp n p
  refine T_then ?_
  refine T_seq ?_
  refine T_seq ?_
  -- region 1
  refine T_region (is := [0, 1, 2]) rfl fun n p hn hp => ?_
  refine T_op rfl rfl fun c hc => ?_  -- 15 := move t0
  simp; refine hc _ ?_; clear hc c
  refine T_op rfl rfl fun c hc => ?_  -- 16 := call value F14 (t15) [22]
  simp
  refine CallS.dat (walk14 a (by omega)) rfl rfl rfl rfl ?_
  simp [enum]; refine hc _ ?_; clear hc c
  refine T_op rfl rfl fun c hc => ?_  -- 8 := assign t16
  simp; refine hc _ ?_; clear hc c
  refine T_end (hn _ ?_); clear hn hp n p
  refine T_then ?_
  refine T_seq ?_
  -- region 2
  refine T_region (is := [0, 1]) rfl fun n p hn hp => ?_
  refine T_op rfl rfl fun c hc => ?_  -- 17 := move t8
  simp; refine hc _ ?_; clear hc c
  refine T_op rfl rfl fun c hc => ?_  -- 18 := binOp 25 t17 != 0
  simp; refine hc _ ?_; clear hc c
  refine T_end (hn _ ?_); clear hn hp n p
  refine T_then ?_
  refine T_cond rfl (fun b1 => ?_) (fun b1 => ?_)  -- t18
  · skip
    have hka : chk (-1) a = false := by simpa [errOf] using b1
    have hkb : True := trivial
    refine T_seq ?_
    -- region 3
    refine T_region (is := [0, 1, 2]) rfl fun n p hn hp => ?_
    refine T_op rfl rfl fun c hc => ?_  -- 19 := move t8
    simp; refine hc _ ?_; clear hc c
    refine T_op rfl rfl fun c hc => ?_  -- 6 := assign nil
    simp; refine hc _ ?_; clear hc c
    refine T_op rfl rfl fun c hc => ?_  -- 7 := assign t19
    simp; refine hc _ ?_; clear hc c
    refine T_end (hn _ ?_); clear hn hp n p
    refine T_then ?_
    refine T_ret ?_
    refine X_thenR ?_
    exact ⟨_, Ent.trans (Ent.nilDat (t := 6) 2 rfl) (Ent.sub [6, 7] [] (by simp [sub, subSl, subHp, place, mp, mpL, mpO]; rfl)), rfl, rfl, by simp [resD, resL, combOf, combErr, hka, hkb, errOf]⟩
  · skip
    have hka : chk (-1) a = true := by simpa [errOf] using b1
    refine T_skip ?_
    refine T_then ?_
    refine T_seq ?_
    refine T_seq ?_
    -- region 4
    refine T_region (is := [0, 1, 2]) rfl fun n p hn hp => ?_
    refine T_op rfl rfl fun c hc => ?_  -- 20 := move t1
    simp; refine hc _ ?_; clear hc c
    refine T_op rfl rfl fun c hc => ?_  -- 21 := call value F14 (t20) [22]
    simp
    refine CallS.dat (walk14 b (by omega)) rfl rfl rfl rfl ?_
    simp [enum]; refine hc _ ?_; clear hc c
    refine T_op rfl rfl fun c hc => ?_  -- 9 := assign t21
    simp; refine hc _ ?_; clear hc c
    refine T_end (hn _ ?_); clear hn hp n p
    refine T_then ?_
    refine T_seq ?_
    -- region 5
    refine T_region (is := [0, 1]) rfl fun n p hn hp => ?_
    refine T_op rfl rfl fun c hc => ?_  -- 22 := move t9
    simp; refine hc _ ?_; clear hc c
    refine T_op rfl rfl fun c hc => ?_  -- 23 := binOp 25 t22 != 0
    simp; refine hc _ ?_; clear hc c
    refine T_end (hn _ ?_); clear hn hp n p
    refine T_then ?_
    refine T_cond rfl (fun b2 => ?_) (fun b2 => ?_)  -- t23
    · skip
      have hkb : chk (-1) b = false := by simpa [errOf] using b2
      refine T_seq ?_
      -- region 6
      refine T_region (is := [0, 1, 2]) rfl fun n p hn hp => ?_
      refine T_op rfl rfl fun c hc => ?_  -- 24 := move t9
      simp; refine hc _ ?_; clear hc c
      refine T_op rfl rfl fun c hc => ?_  -- 6 := assign nil
      simp; refine hc _ ?_; clear hc c
      refine T_op rfl rfl fun c hc => ?_  -- 7 := assign t24
      simp; refine hc _ ?_; clear hc c
      refine T_end (hn _ ?_); clear hn hp n p
      refine T_then ?_
      refine T_ret ?_
      refine X_thenR ?_
      exact ⟨_, Ent.trans (Ent.nilDat (t := 6) 2 rfl) (Ent.sub [6, 7] [] (by simp [sub, subSl, subHp, place, mp, mpL, mpO]; rfl)), rfl, rfl, by simp [resD, resL, combOf, combErr, hka, hkb, errOf]⟩
    · skip
      have hkb : chk (-1) b = true := by simpa [errOf] using b2
      refine T_skip ?_
      refine T_then ?_
      refine T_seq ?_
      -- region 7
      refine T_region (is := [0, 1, 2, 3, 4, 5, 6]) rfl fun n p hn hp => ?_
      refine T_op rfl rfl fun c hc => ?_  -- 25 := move t0
      simp; refine hc _ ?_; clear hc c
      refine T_op rfl rfl fun c hc => ?_  -- 26 := call value F36 (t25) [22]
      simp
      refine CallS.dat (walk36 a ha) rfl rfl rfl rfl ?_
      simp [enum]; refine hc _ ?_; clear hc c
      refine T_op rfl rfl fun c hc => ?_  -- 27 := move t1
      simp; refine hc _ ?_; clear hc c
      refine T_op rfl rfl fun c hc => ?_  -- 28 := call value F36 (t27) [22]
      simp
      refine CallS.dat (walk36 b hb) rfl rfl rfl rfl ?_
      simp [enum]; refine hc _ ?_; clear hc c
      refine T_op rfl rfl fun c hc => ?_  -- 29 := buildSlice 48 2 [(0, t26), (1, t28)]
      simp; refine hc _ ?_; clear hc c
      refine T_opsEnt (Ent.give (t := 29) (n := 9) (e := .sl 1 [[.sl 1 (ints (bnd a))], [.sl 1 (ints (bnd b))]]) (hp' := []) rfl (by simp [Sx.give, big])) ?_
      refine T_op rfl rfl fun c hc => ?_  -- 30 := call value F35 (t29) [48]
      simp
      refine CallS.dat (w35) rfl rfl rfl rfl ?_
      simp [enum]; refine hc _ ?_; clear hc c
      refine T_op rfl rfl fun c hc => ?_  -- 10 := assign t30
      simp; refine hc _ ?_; clear hc c
      refine T_end (hn _ ?_); clear hn hp n p
      refine T_then ?_
      refine T_seq ?_
      refine T_seq ?_
      -- region 8
      refine T_region (is := [0]) rfl fun n p hn hp => ?_
      refine T_op rfl rfl fun c hc => ?_  -- 11 := assign 0
      simp; refine hc _ ?_; clear hc c
      refine T_end (hn _ ?_); clear hn hp n p
      refine T_then ?_
      refine T_block ?_  -- block 0
      refine T_loop (fun z : Nat × List Sp => { sl := [(0, .dat (spans a)), (1, .dat (spans b)), (2, .dat (.fn g [])), (10, .dat (.sl 1 (ints u))), (11, .dat (iD z.1)), (6, .own 0 2 z.2.length)], hp := [(0, .row 35 2 (z.2.map spD))], nx := 1 }) (fun z => z.2 = comb u q z.1 ∧ (z.1 = 0 ∨ z.1 + 1 ≤ u.length)) (fun z => u.length - z.1) (0, []) (Ent.trans (Ent.nil (t := 6) 35 2 rfl) (Ent.sub [0, 1, 2, 10, 11, 6] [1] (by simp [sub, subSl, subHp, place, mp, mpL, mpO]))) ⟨rfl, .inl rfl⟩ fun z hz => ?_  -- loop 0
      obtain ⟨z, acc⟩ := z
      obtain ⟨hacc, hz⟩ := hz
      simp only at hacc hz
      have hzb : z ≤ 16384 := by omega
      have hal : acc.length ≤ z := by rw [hacc]; exact comb_len u q z
      have e1 : IntKind.i64.wrap ((z : Int) + 1) = (z : Int) + 1 := wr (by omega)
      refine T_seq ?_
      refine T_seq ?_
      -- region 9
      refine T_region (is := [0, 1, 2, 3, 4]) rfl fun n p hn hp => ?_
      refine T_op rfl rfl fun c hc => ?_  -- 31 := move t11
      simp; refine hc _ ?_; clear hc c
      refine T_op rfl rfl fun c hc => ?_  -- 32 := binOp 3 t31 + 1
      simp [e1]; refine hc _ ?_; clear hc c
      refine T_op rfl rfl fun c hc => ?_  -- 33 := move t10
      simp; refine hc _ ?_; clear hc c
      refine T_op rfl rfl fun c hc => ?_  -- 34 := call len (t33) [43]
      simp; refine hc _ ?_; clear hc c
      refine T_op rfl rfl fun c hc => ?_  -- 35 := binOp 3 t32 < t34
      simp; refine hc _ ?_; clear hc c
      refine T_end (hn _ ?_); clear hn hp n p
      refine T_then ?_
      refine T_cond rfl (fun b3 => ?_) (fun b3 => ?_)  -- t35
      · skip
        have hlt : z + 1 < u.length := by simp at b3; omega
        obtain ⟨f, hf⟩ : ∃ f, u[z]? = some f := ⟨_, List.getElem?_eq_getElem (by omega)⟩
        obtain ⟨t, ht⟩ : ∃ t, u[z + 1]? = some t := ⟨_, List.getElem?_eq_getElem hlt⟩
        have hstep := comb_step (q := q) hf ht
        rw [← hacc] at hstep
        have e5 : (0 : Int) ≤ (z : Int) + 1 := by omega
        refine T_skip ?_
        refine T_then ?_
        refine T_cut { sl := [(0, .dat (spans a)), (1, .dat (spans b)), (2, .dat (.fn g [])), (10, .dat (.sl 1 (ints u))), (11, .dat (iD z)), (6, .own 0 2 (comb u q (z + 1)).length)], hp := [(0, .row 35 2 ((comb u q (z + 1)).map spD))], nx := 1 } ?_ ?_  -- cut 0
        · skip
          refine T_block ?_  -- block 1
          -- region 11, drawn
          refine T_seqDraw (is := [0, 1, 2, 3, 4, 5, 6, 7, 8, 9, 10]) rfl (by kernel_rfl) (by kernel_rfl) fun n hn => ?_
          refine D_op rfl rfl rfl fun c hc => ?_  -- 38 := move t10
          simp; refine hc _ ?_; clear hc c
          refine D_op rfl rfl rfl fun c hc => ?_  -- 39 := move t11
          simp; refine hc _ ?_; clear hc c
          refine D_op rfl rfl rfl fun c hc => ?_  -- 40 := indexAddr 43 t38 t39
          simp [hf]; refine hc _ ?_; clear hc c
          refine D_op rfl rfl rfl fun c hc => ?_  -- 41 := load 3 t40
          simp; refine hc _ ?_; clear hc c
          refine D_op rfl rfl rfl fun c hc => ?_  -- 42 := move t10
          simp; refine hc _ ?_; clear hc c
          refine D_op rfl rfl rfl fun c hc => ?_  -- 43 := move t11
          simp; refine hc _ ?_; clear hc c
          refine D_op rfl rfl rfl fun c hc => ?_  -- 44 := binOp 3 t43 + 1
          simp [e1]; refine hc _ ?_; clear hc c
          refine D_op rfl rfl rfl fun c hc => ?_  -- 45 := indexAddr 43 t42 t44
          simp [e5, ht]; refine hc _ ?_; clear hc c
          refine D_op rfl rfl rfl fun c hc => ?_  -- 46 := load 3 t45
          simp; refine hc _ ?_; clear hc c
          refine D_op rfl rfl rfl fun c hc => ?_  -- 12 := assign t41
          simp; refine hc _ ?_; clear hc c
          refine D_op rfl rfl rfl fun c hc => ?_  -- 13 := assign t46
          simp; refine hc _ ?_; clear hc c
          refine D_end (hn _ ?_); clear hn n
          refine T_seq ?_
          refine T_seq ?_
          -- region 12
          refine T_region (is := [0, 1, 2, 3, 4, 5, 6, 7, 8]) rfl fun n p hn hp => ?_
          refine T_op rfl rfl fun c hc => ?_  -- 47 := move t2
          simp; refine hc _ ?_; clear hc c
          refine T_op rfl rfl fun c hc => ?_  -- 48 := move t0
          simp; refine hc _ ?_; clear hc c
          refine T_op rfl rfl fun c hc => ?_  -- 49 := move t12
          simp; refine hc _ ?_; clear hc c
          refine T_op rfl rfl fun c hc => ?_  -- 50 := call value F16 (t48 t49) [22, 3]
          simp
          refine CallS.dat (walk16 a (by omega) f) rfl rfl rfl rfl ?_
          simp [enum]; refine hc _ ?_; clear hc c
          refine T_op rfl rfl fun c hc => ?_  -- 51 := move t1
          simp; refine hc _ ?_; clear hc c
          refine T_op rfl rfl fun c hc => ?_  -- 52 := move t12
          simp; refine hc _ ?_; clear hc c
          refine T_op rfl rfl fun c hc => ?_  -- 53 := call value F16 (t51 t52) [22, 3]
          simp
          refine CallS.dat (walk16 b (by omega) f) rfl rfl rfl rfl ?_
          simp [enum]; refine hc _ ?_; clear hc c
          refine T_op rfl rfl fun c hc => ?_  -- 54 := call value t47 (t50 t53) [4, 4]
          simp
          refine CallS.dat (hg (a.any (inSp f)) (b.any (inSp f))) rfl rfl rfl rfl ?_
          simp [enum]; refine hc _ ?_; clear hc c
          refine T_op rfl rfl fun c hc => ?_  -- 55 := unOp 4 t54
          simp; refine hc _ ?_; clear hc c
          refine T_end (hn _ ?_); clear hn hp n p
          refine T_then ?_
          refine T_cond rfl (fun b4 => ?_) (fun b4 => ?_)  -- t55
          · skip
            have hnk : comb u q (z + 1) = acc := by rw [hstep, hq]; simp at b4; simp [b4]
            refine T_exit ?_
            refine X_thenE ?_
            refine X_hit ?_
            refine T_then ?_
            exact Ent.sub [0, 1, 2, 10, 11, 6] [0] (by simp [sub, subSl, subHp, place, mp, mpL, mpO, hnk])
          · skip
            have hk1 : q f = true := by rw [hq]; simpa using b4
            rw [hk1] at hstep
            simp only [if_true] at hstep
            obtain ⟨y, hy⟩ : ∃ y, 0 < acc.length → acc[acc.length - 1]? = some y := by
              by_cases h0 : 0 < acc.length
              · exact ⟨acc[acc.length - 1], fun _ => List.getElem?_eq_getElem (by omega)⟩
              · exact ⟨(0, 0), fun h => absurd h h0⟩
            have e6 : IntKind.i64.wrap ((acc.length : Int) - 1) = (acc.length : Int) - 1 := wr (by omega)
            refine T_skip ?_
            refine T_then ?_
            refine T_seq ?_
            -- region 13
            refine T_region (is := [0, 1, 2]) rfl fun n p hn hp => ?_
            refine T_op rfl rfl fun c hc => ?_  -- 56 := move t6
            simp; refine hc _ ?_; clear hc c
            refine T_op rfl rfl fun c hc => ?_  -- 57 := call len (t56) [22]
            simp; refine hc _ ?_; clear hc c
            refine T_op rfl rfl fun c hc => ?_  -- 14 := assign t57
            simp; refine hc _ ?_; clear hc c
            refine T_end (hn _ ?_); clear hn hp n p
            refine T_then ?_
            refine T_seq ?_
            -- region 14
            refine T_region (is := [0, 1, 2, 3, 4, 5, 6, 7, 8, 9, 10, 11]) rfl fun n p hn hp => ?_
            refine T_op rfl rfl fun c hc => ?_  -- 58 := move t14
            simp; refine hc _ ?_; clear hc c
            refine T_op rfl rfl fun c hc => ?_  -- 59 := binOp 3 t58 > 0
            simp; refine hc _ ?_; clear hc c
            refine T_op rfl rfl fun c hc => ?_  -- 60 := move t59
            simp; refine hc _ ?_; clear hc c
            refine T_pure rfl (pstep_one rfl rfl rfl rfl fun g0 => .op rfl (by simp [g0]; rfl)) fun c hc => ?_  -- 61 := move t6
            simp; refine hc _ ?_; clear hc c
            refine T_pure rfl (pstep_one rfl rfl rfl rfl fun g0 => .op rfl (by simp [g0]; rfl)) fun c hc => ?_  -- 62 := move t14
            simp; refine hc _ ?_; clear hc c
            refine T_pure rfl (pstep_one rfl rfl rfl rfl fun g0 => .op rfl (by simp [g0, e6]; rfl)) fun c hc => ?_  -- 63 := binOp 3 t62 - 1
            simp; refine hc _ ?_; clear hc c
            refine T_pure rfl (pstep_one rfl rfl rfl rfl fun g0 => .op rfl (by simp [g0, (show (1 : Int) ≤ (acc.length : Int) by simp at g0; omega), (show (acc.length : Int) - 1 < acc.length by omega)]; rfl)) fun c hc => ?_  -- 64 := indexAddr 22 t61 t63
            simp; refine hc _ ?_; clear hc c
            refine T_pure rfl (pstep_one rfl rfl rfl rfl fun g0 => .op rfl (by simp [g0, (show acc.length - 1 < acc.length by simp at g0; omega)]; rfl)) fun c hc => ?_  -- 65 := fieldAddr 35 t64 1
            simp; refine hc _ ?_; clear hc c
            refine T_pure rfl (pstep_one rfl rfl rfl rfl fun g0 => .op rfl (by simp [g0, hy (by simpa using g0)]; rfl)) fun c hc => ?_  -- 66 := load 3 t65
            simp; refine hc _ ?_; clear hc c
            refine T_pure rfl (pstep_one rfl rfl rfl rfl fun g0 => .op rfl (by simp [g0]; rfl)) fun c hc => ?_  -- 67 := move t12
            simp; refine hc _ ?_; clear hc c
            refine T_pure rfl (pstep_one rfl rfl rfl rfl fun g0 => .op rfl (by simp [g0]; rfl)) fun c hc => ?_  -- 68 := binOp 3 t66 == t67
            simp; refine hc _ ?_; clear hc c
            refine T_op rfl rfl fun c hc => ?_  -- 69 := pick t60 t68 false
            simp; refine hc _ ?_; clear hc c
            refine T_end (hn _ ?_); clear hn hp n p
            refine T_then ?_
            refine T_cond rfl (fun b5 => ?_) (fun b5 => ?_)  -- t69
            · skip
              have hpos : 0 < acc.length ∧ y.2 = f := by simpa using b5
              have hy1 := hy hpos.1
              have hset : comb u q (z + 1) = acc.set (acc.length - 1) (y.1, t) := by rw [hstep]; simp [ext, hy1, hpos.2]
              have hp1 := hpos.1
              -- region 15
              refine T_region (is := [0, 1, 2, 3, 4, 5, 6]) rfl fun n p hn hp => ?_
              refine T_op rfl rfl fun c hc => ?_  -- 70 := move t6
              simp; refine hc _ ?_; clear hc c
              refine T_op rfl rfl fun c hc => ?_  -- 71 := move t14
              simp; refine hc _ ?_; clear hc c
              refine T_op rfl rfl fun c hc => ?_  -- 72 := binOp 3 t71 - 1
              simp [e6]; refine hc _ ?_; clear hc c
              refine T_op rfl rfl fun c hc => ?_  -- 73 := move t13
              simp; refine hc _ ?_; clear hc c
              refine T_op rfl rfl fun c hc => ?_  -- 74 := indexAddr 22 t70 t72
              simp [(show (1 : Int) ≤ (acc.length : Int) by omega), (show (acc.length : Int) - 1 < acc.length by omega)]; refine hc _ ?_; clear hc c
              refine T_op rfl rfl fun c hc => ?_  -- 75 := fieldAddr 35 t74 1
              simp [(show acc.length - 1 < acc.length by omega)]; refine hc _ ?_; clear hc c
              refine T_op rfl rfl fun c hc => ?_  -- None := store 3 t75 t73
              simp [hy1]; refine hc _ ?_; clear hc c
              refine T_end (hn _ ?_); clear hn hp n p
              refine X_blockN ?_
              refine T_then ?_
              exact Ent.sub [0, 1, 2, 10, 11, 6] [0] (by simp [sub, subSl, subHp, place, mp, mpL, mpO, hset, List.map_set])
            · skip
              have hset : comb u q (z + 1) = acc ++ [(f, t)] := by rw [hstep]; exact ext_app hy (by simpa using b5)
              have e7 : (acc.length + 1) * 16 ≤ big := by simp only [big]; omega
              -- region 16
              refine T_region (is := [0, 1, 2, 3, 4, 5, 6]) rfl fun n p hn hp => ?_
              refine T_op rfl rfl fun c hc => ?_  -- 76 := move t6
              simp; refine hc _ ?_; clear hc c
              refine T_op rfl rfl fun c hc => ?_  -- 77 := move t12
              simp; refine hc _ ?_; clear hc c
              refine T_op rfl rfl fun c hc => ?_  -- 78 := move t13
              simp; refine hc _ ?_; clear hc c
              refine T_op rfl rfl fun c hc => ?_  -- 79 := build 35 [(0, t77), (1, t78)]
              simp; refine hc _ ?_; clear hc c
              refine T_op rfl rfl fun c hc => ?_  -- 80 := buildSlice 22 1 [(0, t79)]
              simp; refine hc _ ?_; clear hc c
              refine T_op rfl rfl fun c hc => ?_  -- 81 := call append (t76 t80) [22, 22]
              simp [e7]; refine hc _ ?_; clear hc c
              refine T_op rfl rfl fun c hc => ?_  -- 6 := assign t81
              simp; refine hc _ ?_; clear hc c
              refine T_end (hn _ ?_); clear hn hp n p
              refine X_blockN ?_
              refine T_then ?_
              exact Ent.sub [0, 1, 2, 10, 11, 6] [2] (by simp [sub, subSl, subHp, place, mp, mpL, mpO, hset])
        -- region 10
        refine T_region (is := [0, 1, 2]) rfl fun n p hn hp => ?_
        refine T_op rfl rfl fun c hc => ?_  -- 36 := move t11
        simp; refine hc _ ?_; clear hc c
        refine T_op rfl rfl fun c hc => ?_  -- 37 := binOp 3 t36 + 1
        simp [e1]; refine hc _ ?_; clear hc c
        refine T_op rfl rfl fun c hc => ?_  -- 11 := assign t37
        simp; refine hc _ ?_; clear hc c
        refine T_end (hn _ ?_); clear hn hp n p
        exact X_loopN (z + 1, comb u q (z + 1)) (Ent.sub [0, 1, 2, 10, 11, 6] [0] (by simp [sub, subSl, subHp, place, mp, mpL, mpO])) ⟨rfl, .inr (by omega)⟩ (by omega)
      · skip
        have hend : z = u.length - 1 := by simp at b3; omega
        refine T_exit ?_
        refine X_thenE ?_
        refine X_loopE ?_
        refine X_hit ?_
        refine T_then ?_
        refine T_seq ?_
        -- region 17
        refine T_region (is := [0, 1, 2]) rfl fun n p hn hp => ?_
        refine T_op rfl rfl fun c hc => ?_  -- 82 := move t6
        simp; refine hc _ ?_; clear hc c
        refine T_op rfl rfl fun c hc => ?_  -- 6 := assign t82
        simp; refine hc _ ?_; clear hc c
        refine T_op rfl rfl fun c hc => ?_  -- 7 := assign 0
        simp; refine hc _ ?_; clear hc c
        refine T_end (hn _ ?_); clear hn hp n p
        refine T_then ?_
        refine T_ret ?_
        have hab : acc.length ≤ big := by simp only [big]; omega
        exact ⟨_, Ent.trans (Ent.give (t := 6) (n := 9) (e := spans acc) (hp' := []) rfl (by simp [Sx.give, hab]; exact List.take_of_length_le (by simp))) (Ent.sub [6, 7] [] (by simp [sub, subSl, subHp, place, mp, mpL, mpO]; rfl)), rfl, rfl, by simp [resD, resL, hres, combErr, hka, hkb, hacc, hend]⟩
-- sizar/terms.Union
theorem walk19 (a b : List Sp) (ha : a.length ≤ 4096) (hb : b.length ≤ 4096) : Does Try.prog 19 [spans a, spans b] (.tup [.dat (spans (combOf ((· || ·)) a b)), .dat (iD (combErr a b))]) [] := by
  refine Does.intro [4, 5] Try.func19 rfl (by kernel_rfl) Try.ntmps19 rfl (by decide) (Nat.le_of_ble_eq_true rfl) ?_
  refine T_seq ?_
  -- region 0
  refine T_region (is := [0, 1]) rfl fun n p hn hp => ?_
  refine T_op rfl rfl fun c hc => ?_  -- 4 := assign nil
  simp; refine hc _ ?_; clear hc c
  refine T_op rfl rfl fun c hc => ?_  -- 5 := assign 0
  simp; refine hc _ ?_; clear hc c
  refine T_end (hn _ ?_); clear hn hp n p
  refine T_then ?_
  refine T_seq ?_
  -- region 1
  refine T_region (is := [0, 1, 2, 3, 4, 5, 6]) rfl fun n p hn hp => ?_
  refine T_op rfl rfl fun c hc => ?_  -- 6 := move t0
  simp; refine hc _ ?_; clear hc c
  refine T_op rfl rfl fun c hc => ?_  -- 7 := move t1
  simp; refine hc _ ?_; clear hc c
  refine T_op rfl rfl fun c hc => ?_  -- 8 := call value F29 (t6 t7 F30) [22, 22, 40]
  simp
  refine CallS.dat (walk29 ((· || ·)) 30 walk30 a b ha hb) rfl rfl rfl rfl ?_
  simp [enum]; refine hc _ ?_; clear hc c
  refine T_op rfl rfl fun c hc => ?_  -- 9 := extract t8 0
  simp; refine hc _ ?_; clear hc c
  refine T_op rfl rfl fun c hc => ?_  -- 10 := extract t8 1
  simp; refine hc _ ?_; clear hc c
  refine T_op rfl rfl fun c hc => ?_  -- 4 := assign t9
  simp; refine hc _ ?_; clear hc c
  refine T_op rfl rfl fun c hc => ?_  -- 5 := assign t10
  simp; refine hc _ ?_; clear hc c
  refine T_end (hn _ ?_); clear hn hp n p
  refine T_then ?_
  refine T_ret ?_
  exact ⟨_, Ent.sub [4, 5] [] (by simp [sub, subSl, subHp, place, mp, mpL, mpO]; rfl), rfl, rfl, by simp [resD, resL]; try omega⟩
-- sizar/terms.Meet
theorem walk21 (a b : List Sp) (ha : a.length ≤ 4096) (hb : b.length ≤ 4096) : Does Try.prog 21 [spans a, spans b] (.tup [.dat (spans (combOf ((· && ·)) a b)), .dat (iD (combErr a b))]) [] := by
  refine Does.intro [4, 5] Try.func21 rfl (by kernel_rfl) Try.ntmps21 rfl (by decide) (Nat.le_of_ble_eq_true rfl) ?_
  refine T_seq ?_
  -- region 0
  refine T_region (is := [0, 1]) rfl fun n p hn hp => ?_
  refine T_op rfl rfl fun c hc => ?_  -- 4 := assign nil
  simp; refine hc _ ?_; clear hc c
  refine T_op rfl rfl fun c hc => ?_  -- 5 := assign 0
  simp; refine hc _ ?_; clear hc c
  refine T_end (hn _ ?_); clear hn hp n p
  refine T_then ?_
  refine T_seq ?_
  -- region 1
  refine T_region (is := [0, 1, 2, 3, 4, 5, 6]) rfl fun n p hn hp => ?_
  refine T_op rfl rfl fun c hc => ?_  -- 6 := move t0
  simp; refine hc _ ?_; clear hc c
  refine T_op rfl rfl fun c hc => ?_  -- 7 := move t1
  simp; refine hc _ ?_; clear hc c
  refine T_op rfl rfl fun c hc => ?_  -- 8 := call value F29 (t6 t7 F32) [22, 22, 40]
  simp
  refine CallS.dat (walk29 ((· && ·)) 32 walk32 a b ha hb) rfl rfl rfl rfl ?_
  simp [enum]; refine hc _ ?_; clear hc c
  refine T_op rfl rfl fun c hc => ?_  -- 9 := extract t8 0
  simp; refine hc _ ?_; clear hc c
  refine T_op rfl rfl fun c hc => ?_  -- 10 := extract t8 1
  simp; refine hc _ ?_; clear hc c
  refine T_op rfl rfl fun c hc => ?_  -- 4 := assign t9
  simp; refine hc _ ?_; clear hc c
  refine T_op rfl rfl fun c hc => ?_  -- 5 := assign t10
  simp; refine hc _ ?_; clear hc c
  refine T_end (hn _ ?_); clear hn hp n p
  refine T_then ?_
  refine T_ret ?_
  exact ⟨_, Ent.sub [4, 5] [] (by simp [sub, subSl, subHp, place, mp, mpL, mpO]; rfl), rfl, rfl, by simp [resD, resL]; try omega⟩
-- sizar/terms.Minus
theorem walk23 (a b : List Sp) (ha : a.length ≤ 4096) (hb : b.length ≤ 4096) : Does Try.prog 23 [spans a, spans b] (.tup [.dat (spans (combOf (fun x y => x && !y) a b)), .dat (iD (combErr a b))]) [] := by
  refine Does.intro [4, 5] Try.func23 rfl (by kernel_rfl) Try.ntmps23 rfl (by decide) (Nat.le_of_ble_eq_true rfl) ?_
  refine T_seq ?_
  -- region 0
  refine T_region (is := [0, 1]) rfl fun n p hn hp => ?_
  refine T_op rfl rfl fun c hc => ?_  -- 4 := assign nil
  simp; refine hc _ ?_; clear hc c
  refine T_op rfl rfl fun c hc => ?_  -- 5 := assign 0
  simp; refine hc _ ?_; clear hc c
  refine T_end (hn _ ?_); clear hn hp n p
  refine T_then ?_
  refine T_seq ?_
  -- region 1
  refine T_region (is := [0, 1, 2, 3, 4, 5, 6]) rfl fun n p hn hp => ?_
  refine T_op rfl rfl fun c hc => ?_  -- 6 := move t0
  simp; refine hc _ ?_; clear hc c
  refine T_op rfl rfl fun c hc => ?_  -- 7 := move t1
  simp; refine hc _ ?_; clear hc c
  refine T_op rfl rfl fun c hc => ?_  -- 8 := call value F29 (t6 t7 F33) [22, 22, 40]
  simp
  refine CallS.dat (walk29 (fun x y => x && !y) 33 walk33 a b ha hb) rfl rfl rfl rfl ?_
  simp [enum]; refine hc _ ?_; clear hc c
  refine T_op rfl rfl fun c hc => ?_  -- 9 := extract t8 0
  simp; refine hc _ ?_; clear hc c
  refine T_op rfl rfl fun c hc => ?_  -- 10 := extract t8 1
  simp; refine hc _ ?_; clear hc c
  refine T_op rfl rfl fun c hc => ?_  -- 4 := assign t9
  simp; refine hc _ ?_; clear hc c
  refine T_op rfl rfl fun c hc => ?_  -- 5 := assign t10
  simp; refine hc _ ?_; clear hc c
  refine T_end (hn _ ?_); clear hn hp n p
  refine T_then ?_
  refine T_ret ?_
  exact ⟨_, Ent.sub [4, 5] [] (by simp [sub, subSl, subHp, place, mp, mpL, mpO]; rfl), rfl, rfl, by simp [resD, resL]; try omega⟩
-- sizar/sizarref06.Of
theorem walk37 (fs : List Bool) (hfs : fs.length = 1024) : Does Try.prog 37 [.agg (fs.map bV)] (.dat (spans (ofAt fs 1024))) [] := by
  have hne : fs ≠ [] := by intro h; subst h; simp at hfs
  refine Does.intro [2] Try.func37 rfl (by kernel_rfl) Try.ntmps37 rfl (by decide) (Nat.le_of_ble_eq_true rfl) ?_
  refine T_seq ?_
  -- region 0
  refine T_region (is := [0, 1]) rfl fun n p hn hp => ?_
  refine T_op rfl rfl fun c hc => ?_  -- 1 := box 46 t0
  simp [-List.reduceReplicate, t46]; refine hc _ ?_; clear hc c
  refine T_op rfl rfl fun c hc => ?_  -- 2 := assign nil
  simp; refine hc _ ?_; clear hc c
  refine T_end (hn _ ?_); clear hn hp n p
  refine T_then ?_
  refine T_seq ?_
  -- region 1
  refine T_region (is := [0, 1]) rfl fun n p hn hp => ?_
  refine T_op rfl rfl fun c hc => ?_  -- 5 := buildSlice 22 0 []
  simp; refine hc _ ?_; clear hc c
  refine T_op rfl rfl fun c hc => ?_  -- 3 := assign t5
  simp; refine hc _ ?_; clear hc c
  refine T_end (hn _ ?_); clear hn hp n p
  refine T_then ?_
  refine T_seq ?_
  refine T_seq ?_
  -- region 2
  refine T_region (is := [0]) rfl fun n p hn hp => ?_
  refine T_op rfl rfl fun c hc => ?_  -- 4 := assign 0
  simp; refine hc _ ?_; clear hc c
  refine T_end (hn _ ?_); clear hn hp n p
  refine T_then ?_
  refine T_block ?_  -- block 0
  refine T_loop (fun z : Nat × List Sp => { sl := [(1, .ept 0 1 0 0), (4, .dat (iD z.1)), (3, .own 1 2 z.2.length)], hp := [(0, .row 46 1 (fs.map fun b => [bV b])), (1, .row 35 2 (z.2.map spD))], nx := 2 }) (fun z => z.1 ≤ 1024 ∧ z.2 = ofAt fs z.1) (fun z => 1024 - z.1) (0, []) (Ent.sub [1, 4, 3] [0, 1] (by simp [sub, subSl, subHp, place, mp, mpL, mpO, Function.comp_def])) ⟨by decide, rfl⟩ fun z hz => ?_  -- loop 0
  obtain ⟨z, acc⟩ := z
  obtain ⟨hz, hacc⟩ := hz
  simp only at hacc hz
  have hal : acc.length ≤ z := by rw [hacc]; exact ofAt_len fs z
  have e1 : IntKind.i64.wrap ((z : Int) + 1) = (z : Int) + 1 := wr (by omega)
  refine T_seq ?_
  refine T_seq ?_
  -- region 3
  refine T_region (is := [0, 1]) rfl fun n p hn hp => ?_
  refine T_op rfl rfl fun c hc => ?_  -- 6 := move t4
  simp; refine hc _ ?_; clear hc c
  refine T_op rfl rfl fun c hc => ?_  -- 7 := binOp 3 t6 < 1024
  simp; refine hc _ ?_; clear hc c
  refine T_end (hn _ ?_); clear hn hp n p
  refine T_then ?_
  refine T_cond rfl (fun b1 => ?_) (fun b1 => ?_)  -- t7
  · skip
    have hlt : z < 1024 := by simp at b1; omega
    have hlti : (z : Int) < 1024 := by omega
    obtain ⟨v, hx⟩ : ∃ v, fs[z]? = some v := ⟨_, List.getElem?_eq_getElem (by omega)⟩
    refine T_skip ?_
    refine T_then ?_
    refine T_cut { sl := [(1, .ept 0 1 0 0), (4, .dat (iD z)), (3, .own 1 2 (ofAt fs (z + 1)).length)], hp := [(0, .row 46 1 (fs.map fun b => [bV b])), (1, .row 35 2 ((ofAt fs (z + 1)).map spD))], nx := 2 } ?_ ?_  -- cut 0
    · skip
      refine T_block ?_  -- block 1
      refine T_seq ?_
      refine T_seq ?_
      -- region 5
      refine T_region (is := [0, 1, 2, 3]) rfl fun n p hn hp => ?_
      refine T_op rfl rfl fun c hc => ?_  -- 10 := move t4
      simp; refine hc _ ?_; clear hc c
      refine T_op rfl rfl fun c hc => ?_  -- 11 := indexAddr 46 t1 t10
      simp [-List.reduceReplicate, t46, hne, hlti, hlt]; refine hc _ ?_; clear hc c
      refine T_op rfl rfl fun c hc => ?_  -- 12 := load 4 t11
      simp [hx]; refine hc _ ?_; clear hc c
      refine T_op rfl rfl fun c hc => ?_  -- 13 := unOp 4 t12
      simp; refine hc _ ?_; clear hc c
      refine T_end (hn _ ?_); clear hn hp n p
      refine T_then ?_
      refine T_cond rfl (fun b2 => ?_) (fun b2 => ?_)  -- t13
      · skip
        have hv : v = false := by simpa using b2
        have hnk : ofAt fs (z + 1) = acc := by simp [ofAt, hx, hv, hacc]
        refine T_exit ?_
        refine X_thenE ?_
        refine X_hit ?_
        refine T_then ?_
        exact Ent.sub [1, 4, 3] [0, 1] (by simp [sub, subSl, subHp, place, mp, mpL, mpO, hnk])
      · skip
        have hv : v = true := by simpa using b2
        have hstep : ofAt fs (z + 1) = ext acc z (z + 1) := by simp [ofAt, hx, hv, hacc]
        obtain ⟨y, hy⟩ : ∃ y, 0 < acc.length → acc[acc.length - 1]? = some y := by
          by_cases h0 : 0 < acc.length
          · exact ⟨acc[acc.length - 1], fun _ => List.getElem?_eq_getElem (by omega)⟩
          · exact ⟨(0, 0), fun h => absurd h h0⟩
        have e6 : IntKind.i64.wrap ((acc.length : Int) - 1) = (acc.length : Int) - 1 := wr (by omega)
        refine T_skip ?_
        refine T_then ?_
        refine T_seq ?_
        -- region 6
        refine T_region (is := [0, 1, 2, 3, 4, 5, 6, 7, 8, 9, 10, 11, 12, 13]) rfl fun n p hn hp => ?_
        refine T_op rfl rfl fun c hc => ?_  -- 14 := move t3
        simp; refine hc _ ?_; clear hc c
        refine T_op rfl rfl fun c hc => ?_  -- 15 := call len (t14) [22]
        simp; refine hc _ ?_; clear hc c
        refine T_op rfl rfl fun c hc => ?_  -- 16 := binOp 3 t15 > 0
        simp; refine hc _ ?_; clear hc c
        refine T_op rfl rfl fun c hc => ?_  -- 17 := move t16
        simp; refine hc _ ?_; clear hc c
        refine T_pure rfl (pstep_one rfl rfl rfl rfl fun g0 => .op rfl (by simp [g0]; rfl)) fun c hc => ?_  -- 18 := move t3
        simp; refine hc _ ?_; clear hc c
        refine T_pure rfl (pstep_one rfl rfl rfl rfl fun g0 => .op rfl (by simp [g0]; rfl)) fun c hc => ?_  -- 19 := move t3
        simp; refine hc _ ?_; clear hc c
        refine T_pure rfl (pstep_one rfl rfl rfl rfl fun g0 => .op rfl (by simp [g0]; rfl)) fun c hc => ?_  -- 20 := call len (t19) [22]
        simp; refine hc _ ?_; clear hc c
        refine T_pure rfl (pstep_one rfl rfl rfl rfl fun g0 => .op rfl (by simp [g0, e6]; rfl)) fun c hc => ?_  -- 21 := binOp 3 t20 - 1
        simp; refine hc _ ?_; clear hc c
        refine T_pure rfl (pstep_one rfl rfl rfl rfl fun g0 => .op rfl (by simp [g0, (show (1 : Int) ≤ (acc.length : Int) by simp at g0; omega), (show (acc.length : Int) - 1 < acc.length by omega)]; rfl)) fun c hc => ?_  -- 22 := indexAddr 22 t18 t21
        simp; refine hc _ ?_; clear hc c
        refine T_pure rfl (pstep_one rfl rfl rfl rfl fun g0 => .op rfl (by simp [g0, (show acc.length - 1 < acc.length by simp at g0; omega)]; rfl)) fun c hc => ?_  -- 23 := fieldAddr 35 t22 1
        simp; refine hc _ ?_; clear hc c
        refine T_pure rfl (pstep_one rfl rfl rfl rfl fun g0 => .op rfl (by simp [g0, hy (by simpa using g0)]; rfl)) fun c hc => ?_  -- 24 := load 3 t23
        simp; refine hc _ ?_; clear hc c
        refine T_pure rfl (pstep_one rfl rfl rfl rfl fun g0 => .op rfl (by simp [g0]; rfl)) fun c hc => ?_  -- 25 := move t4
        simp; refine hc _ ?_; clear hc c
        refine T_pure rfl (pstep_one rfl rfl rfl rfl fun g0 => .op rfl (by simp [g0]; rfl)) fun c hc => ?_  -- 26 := binOp 3 t24 == t25
        simp; refine hc _ ?_; clear hc c
        refine T_op rfl rfl fun c hc => ?_  -- 27 := pick t17 t26 false
        simp; refine hc _ ?_; clear hc c
        refine T_end (hn _ ?_); clear hn hp n p
        refine T_then ?_
        refine T_cond rfl (fun b3 => ?_) (fun b3 => ?_)  -- t27
        · skip
          have hpos : 0 < acc.length ∧ y.2 = z := by simpa using b3
          have hy1 := hy hpos.1
          have hset : ofAt fs (z + 1) = acc.set (acc.length - 1) (y.1, (z : Int) + 1) := by rw [hstep]; simp [ext, hy1, hpos.2]
          have hp1 := hpos.1
          -- region 7
          refine T_region (is := [0, 1, 2, 3, 4, 5, 6, 7, 8]) rfl fun n p hn hp => ?_
          refine T_op rfl rfl fun c hc => ?_  -- 28 := move t3
          simp; refine hc _ ?_; clear hc c
          refine T_op rfl rfl fun c hc => ?_  -- 29 := move t3
          simp; refine hc _ ?_; clear hc c
          refine T_op rfl rfl fun c hc => ?_  -- 30 := call len (t29) [22]
          simp; refine hc _ ?_; clear hc c
          refine T_op rfl rfl fun c hc => ?_  -- 31 := binOp 3 t30 - 1
          simp [e6]; refine hc _ ?_; clear hc c
          refine T_op rfl rfl fun c hc => ?_  -- 32 := move t4
          simp; refine hc _ ?_; clear hc c
          refine T_op rfl rfl fun c hc => ?_  -- 33 := binOp 3 t32 + 1
          simp [e1]; refine hc _ ?_; clear hc c
          refine T_op rfl rfl fun c hc => ?_  -- 34 := indexAddr 22 t28 t31
          simp [(show (1 : Int) ≤ (acc.length : Int) by omega), (show (acc.length : Int) - 1 < acc.length by omega)]; refine hc _ ?_; clear hc c
          refine T_op rfl rfl fun c hc => ?_  -- 35 := fieldAddr 35 t34 1
          simp [(show acc.length - 1 < acc.length by omega)]; refine hc _ ?_; clear hc c
          refine T_op rfl rfl fun c hc => ?_  -- None := store 3 t35 t33
          simp [hy1]; refine hc _ ?_; clear hc c
          refine T_end (hn _ ?_); clear hn hp n p
          refine X_blockN ?_
          refine T_then ?_
          exact Ent.sub [1, 4, 3] [0, 1] (by simp [sub, subSl, subHp, place, mp, mpL, mpO, hset, List.map_set])
        · skip
          have hset : ofAt fs (z + 1) = acc ++ [((z : Int), (z : Int) + 1)] := by rw [hstep]; exact ext_app hy (by simpa using b3)
          have e7 : (acc.length + 1) * 16 ≤ big := by simp only [big]; omega
          -- region 8
          refine T_region (is := [0, 1, 2, 3, 4, 5, 6, 7]) rfl fun n p hn hp => ?_
          refine T_op rfl rfl fun c hc => ?_  -- 36 := move t3
          simp; refine hc _ ?_; clear hc c
          refine T_op rfl rfl fun c hc => ?_  -- 37 := move t4
          simp; refine hc _ ?_; clear hc c
          refine T_op rfl rfl fun c hc => ?_  -- 38 := move t4
          simp; refine hc _ ?_; clear hc c
          refine T_op rfl rfl fun c hc => ?_  -- 39 := binOp 3 t38 + 1
          simp [e1]; refine hc _ ?_; clear hc c
          refine T_op rfl rfl fun c hc => ?_  -- 40 := build 35 [(0, t37), (1, t39)]
          simp; refine hc _ ?_; clear hc c
          refine T_op rfl rfl fun c hc => ?_  -- 41 := buildSlice 22 1 [(0, t40)]
          simp; refine hc _ ?_; clear hc c
          refine T_op rfl rfl fun c hc => ?_  -- 42 := call append (t36 t41) [22, 22]
          simp [e7]; refine hc _ ?_; clear hc c
          refine T_op rfl rfl fun c hc => ?_  -- 3 := assign t42
          simp; refine hc _ ?_; clear hc c
          refine T_end (hn _ ?_); clear hn hp n p
          refine X_blockN ?_
          refine T_then ?_
          exact Ent.sub [1, 4, 3] [0, 3] (by simp [sub, subSl, subHp, place, mp, mpL, mpO, hset])
    -- region 4
    refine T_region (is := [0, 1, 2]) rfl fun n p hn hp => ?_
    refine T_op rfl rfl fun c hc => ?_  -- 8 := move t4
    simp; refine hc _ ?_; clear hc c
    refine T_op rfl rfl fun c hc => ?_  -- 9 := binOp 3 t8 + 1
    simp [e1]; refine hc _ ?_; clear hc c
    refine T_op rfl rfl fun c hc => ?_  -- 4 := assign t9
    simp; refine hc _ ?_; clear hc c
    refine T_end (hn _ ?_); clear hn hp n p
    exact X_loopN (z + 1, ofAt fs (z + 1)) (Ent.sub [1, 4, 3] [0, 1] (by simp [sub, subSl, subHp, place, mp, mpL, mpO])) ⟨by omega, rfl⟩ (by omega)
  · skip
    have hend : z = 1024 := by simp at b1; omega
    subst hend
    refine T_exit ?_
    refine X_thenE ?_
    refine X_loopE ?_
    refine X_hit ?_
    refine T_then ?_
    refine T_seq ?_
    -- region 9
    refine T_region (is := [0, 1]) rfl fun n p hn hp => ?_
    refine T_op rfl rfl fun c hc => ?_  -- 43 := move t3
    simp; refine hc _ ?_; clear hc c
    refine T_op rfl rfl fun c hc => ?_  -- 2 := assign t43
    simp; refine hc _ ?_; clear hc c
    refine T_end (hn _ ?_); clear hn hp n p
    refine T_then ?_
    refine T_ret ?_
    have hab : acc.length ≤ big := by simp only [big]; omega
    exact ⟨_, Ent.trans (Ent.give (t := 2) (n := 9) (e := spans acc) (hp' := [(0, .row 46 1 (fs.map fun b => [bV b]))]) rfl (by simp [Sx.give, hab]; exact List.take_of_length_le (by simp))) (Ent.sub [2] [] (by simp [sub, subSl, subHp, place, mp, mpL, mpO]; rfl)), rfl, rfl, by simp [resD, resL, hacc]⟩
-- sizar/sizarref06.combine
theorem walk31 (o : Int) (ho : o = 1 ∨ o = 2 ∨ o = 3) (a b : List Sp) (ha : a.length ≤ 4096) (hb : b.length ≤ 4096) : Does Try.prog 31 [spans a, spans b, iD o] (.tup [.dat (spans (refOf o a b)), .dat (iD (combErr a b))]) [] := by
  obtain ⟨F, hFd⟩ : ∃ F : Nat → Bool, F = fun p : Nat => kf o (a.any (inSp (p : Int))) (b.any (inSp (p : Int))) := ⟨_, rfl⟩
  refine Does.intro [6, 7] Try.func31 rfl (by kernel_rfl) Try.ntmps31 rfl (by decide) (Nat.le_of_ble_eq_true rfl) ?_
  refine T_seq ?_
  -- region 0
  refine T_region (is := [0, 1]) rfl fun n p hn hp => ?_
  refine T_op rfl rfl fun c hc => ?_  -- 6 := assign nil
  simp; refine hc _ ?_; clear hc c
  refine T_op rfl rfl fun c hc => ?_  -- 7 := assign 0
  simp; refine hc _ ?_; clear hc c
  refine T_end (hn _ ?_); clear hn hp n p
  refine T_then ?_
  refine T_seq ?_
  -- region 1
  refine T_region (is := [0, 1, 2]) rfl fun n p hn hp => ?_
  refine T_op rfl rfl fun c hc => ?_  -- 14 := move t0
  simp; refine hc _ ?_; clear hc c
  refine T_op rfl rfl fun c hc => ?_  -- 15 := call value F15 (t14) [22]
  simp
  refine CallS.dat (walk15 a (by omega)) rfl rfl rfl rfl ?_
  simp [enum]; refine hc _ ?_; clear hc c
  refine T_op rfl rfl fun c hc => ?_  -- 8 := assign t15
  simp; refine hc _ ?_; clear hc c
  refine T_end (hn _ ?_); clear hn hp n p
  refine T_then ?_
  refine T_seq ?_
  refine T_seq ?_
  -- region 2
  refine T_region (is := [0, 1]) rfl fun n p hn hp => ?_
  refine T_op rfl rfl fun c hc => ?_  -- 16 := move t8
  simp; refine hc _ ?_; clear hc c
  refine T_op rfl rfl fun c hc => ?_  -- 17 := binOp 25 t16 != 0
  simp; refine hc _ ?_; clear hc c
  refine T_end (hn _ ?_); clear hn hp n p
  refine T_then ?_
  refine T_cond rfl (fun b1 => ?_) (fun b1 => ?_)  -- t17
  · skip
    have hka : chk (-1) a = false := by simpa [errOf] using b1
    have hkb : True := trivial
    refine T_seq ?_
    -- region 3
    refine T_region (is := [0, 1, 2]) rfl fun n p hn hp => ?_
    refine T_op rfl rfl fun c hc => ?_  -- 18 := move t8
    simp; refine hc _ ?_; clear hc c
    refine T_op rfl rfl fun c hc => ?_  -- 6 := assign nil
    simp; refine hc _ ?_; clear hc c
    refine T_op rfl rfl fun c hc => ?_  -- 7 := assign t18
    simp; refine hc _ ?_; clear hc c
    refine T_end (hn _ ?_); clear hn hp n p
    refine T_then ?_
    refine T_ret ?_
    refine X_thenR ?_
    exact ⟨_, Ent.trans (Ent.nilDat (t := 6) 2 rfl) (Ent.sub [6, 7] [] (by simp [sub, subSl, subHp, place, mp, mpL, mpO]; rfl)), rfl, rfl, by simp [resD, resL, refOf, combErr, hka, hkb, errOf]⟩
  · skip
    have hka : chk (-1) a = true := by simpa [errOf] using b1
    refine T_skip ?_
    refine T_then ?_
    refine T_seq ?_
    -- region 4
    refine T_region (is := [0, 1, 2]) rfl fun n p hn hp => ?_
    refine T_op rfl rfl fun c hc => ?_  -- 19 := move t1
    simp; refine hc _ ?_; clear hc c
    refine T_op rfl rfl fun c hc => ?_  -- 20 := call value F15 (t19) [22]
    simp
    refine CallS.dat (walk15 b (by omega)) rfl rfl rfl rfl ?_
    simp [enum]; refine hc _ ?_; clear hc c
    refine T_op rfl rfl fun c hc => ?_  -- 9 := assign t20
    simp; refine hc _ ?_; clear hc c
    refine T_end (hn _ ?_); clear hn hp n p
    refine T_then ?_
    refine T_seq ?_
    refine T_seq ?_
    -- region 5
    refine T_region (is := [0, 1]) rfl fun n p hn hp => ?_
    refine T_op rfl rfl fun c hc => ?_  -- 21 := move t9
    simp; refine hc _ ?_; clear hc c
    refine T_op rfl rfl fun c hc => ?_  -- 22 := binOp 25 t21 != 0
    simp; refine hc _ ?_; clear hc c
    refine T_end (hn _ ?_); clear hn hp n p
    refine T_then ?_
    refine T_cond rfl (fun b2 => ?_) (fun b2 => ?_)  -- t22
    · skip
      have hkb : chk (-1) b = false := by simpa [errOf] using b2
      refine T_seq ?_
      -- region 6
      refine T_region (is := [0, 1, 2]) rfl fun n p hn hp => ?_
      refine T_op rfl rfl fun c hc => ?_  -- 23 := move t9
      simp; refine hc _ ?_; clear hc c
      refine T_op rfl rfl fun c hc => ?_  -- 6 := assign nil
      simp; refine hc _ ?_; clear hc c
      refine T_op rfl rfl fun c hc => ?_  -- 7 := assign t23
      simp; refine hc _ ?_; clear hc c
      refine T_end (hn _ ?_); clear hn hp n p
      refine T_then ?_
      refine T_ret ?_
      refine X_thenR ?_
      exact ⟨_, Ent.trans (Ent.nilDat (t := 6) 2 rfl) (Ent.sub [6, 7] [] (by simp [sub, subSl, subHp, place, mp, mpL, mpO]; rfl)), rfl, rfl, by simp [resD, resL, refOf, combErr, hka, hkb, errOf]⟩
    · skip
      have hkb : chk (-1) b = true := by simpa [errOf] using b2
      refine T_skip ?_
      refine T_then ?_
      refine T_seq ?_
      -- region 7
      refine T_region (is := [0, 1, 2]) rfl fun n p hn hp => ?_
      refine T_op rfl rfl fun c hc => ?_  -- 24 := build 46 []
      simp [-List.reduceReplicate, t46]; refine hc _ ?_; clear hc c
      refine T_op rfl rfl fun c hc => ?_  -- 10 := alloc 46
      simp [-List.reduceReplicate, t46]; refine hc _ ?_; clear hc c
      refine T_op rfl rfl fun c hc => ?_  -- None := store 46 t10 t24
      simp [-List.reduceReplicate, t46]; refine hc _ ?_; clear hc c
      refine T_end (hn _ ?_); clear hn hp n p
      refine T_then ?_
      refine T_seq ?_
      refine T_seq ?_
      -- region 8
      refine T_region (is := [0]) rfl fun n p hn hp => ?_
      refine T_op rfl rfl fun c hc => ?_  -- 11 := assign 0
      simp [-List.reduceReplicate]; refine hc _ ?_; clear hc c
      refine T_end (hn _ ?_); clear hn hp n p
      refine T_then ?_
      refine T_block ?_  -- block 0
      refine T_loop (fun z : Nat × List Bool => { sl := [(0, .dat (spans a)), (1, .dat (spans b)), (2, .dat (iD o)), (10, .ept 0 1 0 0), (11, .dat (iD z.1))], hp := [(0, .row 46 1 (z.2.map fun b => [bV b]))], nx := 1 }) (fun z => z.1 ≤ 1024 ∧ z.2.length = 1024 ∧ ∀ p, p < 1024 → z.2[p]? = some (if p < z.1 then F p else false)) (fun z => 1024 - z.1) (0, List.replicate 1024 false) (Ent.sub [0, 1, 2, 10, 11] [0] (by simp [sub, subSl, subHp, place, mp, mpL, mpO, -List.reduceReplicate])) ⟨by decide, List.length_replicate, fun p hp => by rw [List.getElem?_replicate, if_pos hp]; simp⟩ fun z hz => ?_  -- loop 0
      obtain ⟨z, fs⟩ := z
      obtain ⟨hz, hfs, hat⟩ := hz
      simp only at hat hz hfs
      have hne : fs ≠ [] := by intro h; subst h; simp at hfs
      have e1 : IntKind.i64.wrap ((z : Int) + 1) = (z : Int) + 1 := wr (by omega)
      refine T_seq ?_
      refine T_seq ?_
      -- region 9
      refine T_region (is := [0, 1]) rfl fun n p hn hp => ?_
      refine T_op rfl rfl fun c hc => ?_  -- 25 := move t11
      simp; refine hc _ ?_; clear hc c
      refine T_op rfl rfl fun c hc => ?_  -- 26 := binOp 3 t25 < 1024
      simp; refine hc _ ?_; clear hc c
      refine T_end (hn _ ?_); clear hn hp n p
      refine T_then ?_
      refine T_cond rfl (fun b3 => ?_) (fun b3 => ?_)  -- t26
      · skip
        have hlt : z < 1024 := by simp at b3; omega
        have hlti : (z : Int) < 1024 := by omega
        obtain ⟨v, hx⟩ : ∃ v, fs[z]? = some v := ⟨_, List.getElem?_eq_getElem (by omega)⟩
        refine T_skip ?_
        refine T_then ?_
        refine T_cut { sl := [(0, .dat (spans a)), (1, .dat (spans b)), (2, .dat (iD o)), (10, .ept 0 1 0 0), (11, .dat (iD z))], hp := [(0, .row 46 1 ((fs.set z (F z)).map fun b => [bV b]))], nx := 1 } ?_ ?_  -- cut 0
        · skip
          refine T_block ?_  -- block 1
          refine T_seq ?_
          -- region 11
          refine T_region (is := [0, 1, 2, 3]) rfl fun n p hn hp => ?_
          refine T_op rfl rfl fun c hc => ?_  -- 29 := move t0
          simp; refine hc _ ?_; clear hc c
          refine T_op rfl rfl fun c hc => ?_  -- 30 := move t11
          simp; refine hc _ ?_; clear hc c
          refine T_op rfl rfl fun c hc => ?_  -- 31 := call value F17 (t29 t30) [22, 3]
          simp
          refine CallS.dat (walk17 a (by omega) z) rfl rfl rfl rfl ?_
          simp [enum]; refine hc _ ?_; clear hc c
          refine T_op rfl rfl fun c hc => ?_  -- 12 := assign t31
          simp; refine hc _ ?_; clear hc c
          refine T_end (hn _ ?_); clear hn hp n p
          refine T_then ?_
          refine T_seq ?_
          -- region 12
          refine T_region (is := [0, 1, 2, 3]) rfl fun n p hn hp => ?_
          refine T_op rfl rfl fun c hc => ?_  -- 32 := move t1
          simp; refine hc _ ?_; clear hc c
          refine T_op rfl rfl fun c hc => ?_  -- 33 := move t11
          simp; refine hc _ ?_; clear hc c
          refine T_op rfl rfl fun c hc => ?_  -- 34 := call value F17 (t32 t33) [22, 3]
          simp
          refine CallS.dat (walk17 b (by omega) z) rfl rfl rfl rfl ?_
          simp [enum]; refine hc _ ?_; clear hc c
          refine T_op rfl rfl fun c hc => ?_  -- 13 := assign t34
          simp; refine hc _ ?_; clear hc c
          refine T_end (hn _ ?_); clear hn hp n p
          refine T_then ?_
          refine T_seq ?_
          -- region 13
          refine T_region (is := [0]) rfl fun n p hn hp => ?_
          refine T_op rfl rfl fun c hc => ?_  -- 35 := move t2
          simp; refine hc _ ?_; clear hc c
          refine T_end (hn _ ?_); clear hn hp n p
          refine T_then ?_
          refine T_block ?_  -- block 2
          refine T_seq ?_
          -- region 14
          refine T_region (is := [0, 1]) rfl fun n p hn hp => ?_
          refine T_op rfl rfl fun c hc => ?_  -- 37 := binOp 3 t35 == 1
          simp; refine hc _ ?_; clear hc c
          refine T_op rfl rfl fun c hc => ?_  -- 36 := assign t37
          simp; refine hc _ ?_; clear hc c
          refine T_end (hn _ ?_); clear hn hp n p
          refine T_then ?_
          refine T_cond rfl (fun b4 => ?_) (fun b4 => ?_)  -- t36
          · skip
            have ho1 : o = 1 := by simpa using b4
            have hF : F z = (a.any (inSp z) || b.any (inSp z)) := by rw [hFd]; simp [kf, ho1]
            -- region 15
            refine T_region (is := [0, 1, 2, 3, 4, 5, 6]) rfl fun n p hn hp => ?_
            refine T_op rfl rfl fun c hc => ?_  -- 38 := move t11
            simp; refine hc _ ?_; clear hc c
            refine T_op rfl rfl fun c hc => ?_  -- 39 := move t12
            simp; refine hc _ ?_; clear hc c
            refine T_op rfl rfl fun c hc => ?_  -- 40 := move t39
            simp; refine hc _ ?_; clear hc c
            refine T_pure rfl (pstep_one rfl rfl rfl rfl fun g0 => .op rfl (by simp [g0]; rfl)) fun c hc => ?_  -- 41 := move t13
            simp; refine hc _ ?_; clear hc c
            refine T_op rfl rfl fun c hc => ?_  -- 42 := pick t40 true t41
            simp; refine hc _ ?_; clear hc c
            refine T_op rfl rfl fun c hc => ?_  -- 43 := indexAddr 46 t10 t38
            simp [-List.reduceReplicate, t46, hne, hlti, hlt]; refine hc _ ?_; clear hc c
            refine T_op rfl rfl fun c hc => ?_  -- None := store 4 t43 t42
            simp [hx]; refine hc _ ?_; clear hc c
            refine T_end (hn _ ?_); clear hn hp n p
            refine X_blockN ?_
            refine X_blockN ?_
            refine T_then ?_
            exact Ent.sub [0, 1, 2, 10, 11] [0] (by simp [sub, subSl, subHp, place, mp, mpL, mpO, hF, List.map_set])
          · skip
            have ho1 : o ≠ 1 := by simpa using b4
            refine T_seq ?_
            -- region 16
            refine T_region (is := [0, 1]) rfl fun n p hn hp => ?_
            refine T_op rfl rfl fun c hc => ?_  -- 45 := binOp 3 t35 == 2
            simp; refine hc _ ?_; clear hc c
            refine T_op rfl rfl fun c hc => ?_  -- 44 := assign t45
            simp; refine hc _ ?_; clear hc c
            refine T_end (hn _ ?_); clear hn hp n p
            refine T_then ?_
            refine T_cond rfl (fun b5 => ?_) (fun b5 => ?_)  -- t44
            · skip
              have ho2 : o = 2 := by simpa using b5
              have hF : F z = (a.any (inSp z) && b.any (inSp z)) := by rw [hFd]; simp [kf, ho2]
              -- region 17
              refine T_region (is := [0, 1, 2, 3, 4, 5, 6]) rfl fun n p hn hp => ?_
              refine T_op rfl rfl fun c hc => ?_  -- 46 := move t11
              simp; refine hc _ ?_; clear hc c
              refine T_op rfl rfl fun c hc => ?_  -- 47 := move t12
              simp; refine hc _ ?_; clear hc c
              refine T_op rfl rfl fun c hc => ?_  -- 48 := move t47
              simp; refine hc _ ?_; clear hc c
              refine T_pure rfl (pstep_one rfl rfl rfl rfl fun g0 => .op rfl (by simp [g0]; rfl)) fun c hc => ?_  -- 49 := move t13
              simp; refine hc _ ?_; clear hc c
              refine T_op rfl rfl fun c hc => ?_  -- 50 := pick t48 t49 false
              simp; refine hc _ ?_; clear hc c
              refine T_op rfl rfl fun c hc => ?_  -- 51 := indexAddr 46 t10 t46
              simp [-List.reduceReplicate, t46, hne, hlti, hlt]; refine hc _ ?_; clear hc c
              refine T_op rfl rfl fun c hc => ?_  -- None := store 4 t51 t50
              simp [hx]; refine hc _ ?_; clear hc c
              refine T_end (hn _ ?_); clear hn hp n p
              refine X_blockN ?_
              refine X_blockN ?_
              refine T_then ?_
              exact Ent.sub [0, 1, 2, 10, 11] [0] (by simp [sub, subSl, subHp, place, mp, mpL, mpO, hF, List.map_set])
            · skip
              have ho2 : o ≠ 2 := by simpa using b5
              refine T_seq ?_
              -- region 18
              refine T_region (is := [0, 1]) rfl fun n p hn hp => ?_
              refine T_op rfl rfl fun c hc => ?_  -- 53 := binOp 3 t35 == 3
              simp; refine hc _ ?_; clear hc c
              refine T_op rfl rfl fun c hc => ?_  -- 52 := assign t53
              simp; refine hc _ ?_; clear hc c
              refine T_end (hn _ ?_); clear hn hp n p
              refine T_then ?_
              refine T_cond rfl (fun b6 => ?_) (fun b6 => ?_)  -- t52
              · skip
                have ho3 : o = 3 := by simpa using b6
                have hF : F z = (a.any (inSp z) && !b.any (inSp z)) := by rw [hFd]; simp [kf, ho3]
                -- region 19
                refine T_region (is := [0, 1, 2, 3, 4, 5, 6, 7]) rfl fun n p hn hp => ?_
                refine T_op rfl rfl fun c hc => ?_  -- 54 := move t11
                simp; refine hc _ ?_; clear hc c
                refine T_op rfl rfl fun c hc => ?_  -- 55 := move t12
                simp; refine hc _ ?_; clear hc c
                refine T_op rfl rfl fun c hc => ?_  -- 56 := move t55
                simp; refine hc _ ?_; clear hc c
                refine T_pure rfl (pstep_one rfl rfl rfl rfl fun g0 => .op rfl (by simp [g0]; rfl)) fun c hc => ?_  -- 57 := move t13
                simp; refine hc _ ?_; clear hc c
                refine T_pure rfl (pstep_one rfl rfl rfl rfl fun g0 => .op rfl (by simp [g0]; rfl)) fun c hc => ?_  -- 58 := unOp 4 t57
                simp; refine hc _ ?_; clear hc c
                refine T_op rfl rfl fun c hc => ?_  -- 59 := pick t56 t58 false
                simp; refine hc _ ?_; clear hc c
                refine T_op rfl rfl fun c hc => ?_  -- 60 := indexAddr 46 t10 t54
                simp [-List.reduceReplicate, t46, hne, hlti, hlt]; refine hc _ ?_; clear hc c
                refine T_op rfl rfl fun c hc => ?_  -- None := store 4 t60 t59
                simp [hx]; refine hc _ ?_; clear hc c
                refine T_end (hn _ ?_); clear hn hp n p
                refine X_blockN ?_
                refine X_blockN ?_
                refine T_then ?_
                exact Ent.sub [0, 1, 2, 10, 11] [0] (by simp [sub, subSl, subHp, place, mp, mpL, mpO, hF, List.map_set])
              · skip
                exfalso; simp at b6; omega
        -- region 10
        refine T_region (is := [0, 1, 2]) rfl fun n p hn hp => ?_
        refine T_op rfl rfl fun c hc => ?_  -- 27 := move t11
        simp; refine hc _ ?_; clear hc c
        refine T_op rfl rfl fun c hc => ?_  -- 28 := binOp 3 t27 + 1
        simp [e1]; refine hc _ ?_; clear hc c
        refine T_op rfl rfl fun c hc => ?_  -- 11 := assign t28
        simp [-List.reduceReplicate]; refine hc _ ?_; clear hc c
        refine T_end (hn _ ?_); clear hn hp n p
        exact X_loopN (z + 1, fs.set z (F z)) (Ent.sub [0, 1, 2, 10, 11] [0] (by simp [sub, subSl, subHp, place, mp, mpL, mpO])) ⟨by omega, by simp [hfs], fun p hp => set_at (by omega) hat p hp⟩ (by omega)
      · skip
        have hend : z = 1024 := by simp at b3; omega
        subst hend
        obtain ⟨v0, hv0⟩ : ∃ v, fs[0]? = some v := ⟨_, List.getElem?_eq_getElem (by omega)⟩
        have hfin : fs = (List.range 1024).map F := all_at hfs hat
        refine T_exit ?_
        refine X_thenE ?_
        refine X_loopE ?_
        refine X_hit ?_
        refine T_then ?_
        refine T_seq ?_
        -- region 20
        refine T_region (is := [0, 1, 2, 3]) rfl fun n p hn hp => ?_
        refine T_op rfl rfl fun c hc => ?_  -- 61 := load 46 t10
        simp [-List.reduceReplicate, t46, hv0, hfs, hne, flat_sing]; refine hc _ ?_; clear hc c
        refine T_op rfl rfl fun c hc => ?_  -- 62 := call value F37 (t61) [46]
        simp
        refine CallS.dat (walk37 fs hfs) rfl rfl rfl rfl ?_
        simp [enum]; refine hc _ ?_; clear hc c
        refine T_op rfl rfl fun c hc => ?_  -- 6 := assign t62
        simp; refine hc _ ?_; clear hc c
        refine T_op rfl rfl fun c hc => ?_  -- 7 := assign 0
        simp; refine hc _ ?_; clear hc c
        refine T_end (hn _ ?_); clear hn hp n p
        refine T_then ?_
        refine T_ret ?_
        exact ⟨_, Ent.sub [6, 7] [] (by simp [sub, subSl, subHp, place, mp, mpL, mpO]; rfl), rfl, rfl, by simp [resD, resL, refOf, combErr, hka, hkb, hfin, hFd]; try omega⟩
-- sizar/sizarref06.Union
theorem walk20 (a b : List Sp) (ha : a.length ≤ 4096) (hb : b.length ≤ 4096) : Does Try.prog 20 [spans a, spans b] (.tup [.dat (spans (refOf 1 a b)), .dat (iD (combErr a b))]) [] := by
  refine Does.intro [4, 5] Try.func20 rfl (by kernel_rfl) Try.ntmps20 rfl (by decide) (Nat.le_of_ble_eq_true rfl) ?_
  refine T_seq ?_
  -- region 0
  refine T_region (is := [0, 1]) rfl fun n p hn hp => ?_
  refine T_op rfl rfl fun c hc => ?_  -- 4 := assign nil
  simp; refine hc _ ?_; clear hc c
  refine T_op rfl rfl fun c hc => ?_  -- 5 := assign 0
  simp; refine hc _ ?_; clear hc c
  refine T_end (hn _ ?_); clear hn hp n p
  refine T_then ?_
  refine T_seq ?_
  -- region 1
  refine T_region (is := [0, 1, 2, 3, 4, 5, 6]) rfl fun n p hn hp => ?_
  refine T_op rfl rfl fun c hc => ?_  -- 6 := move t0
  simp; refine hc _ ?_; clear hc c
  refine T_op rfl rfl fun c hc => ?_  -- 7 := move t1
  simp; refine hc _ ?_; clear hc c
  refine T_op rfl rfl fun c hc => ?_  -- 8 := call value F31 (t6 t7 1) [22, 22, 3]
  simp
  refine CallS.dat (walk31 1 (by decide) a b ha hb) rfl rfl rfl rfl ?_
  simp [enum]; refine hc _ ?_; clear hc c
  refine T_op rfl rfl fun c hc => ?_  -- 9 := extract t8 0
  simp; refine hc _ ?_; clear hc c
  refine T_op rfl rfl fun c hc => ?_  -- 10 := extract t8 1
  simp; refine hc _ ?_; clear hc c
  refine T_op rfl rfl fun c hc => ?_  -- 4 := assign t9
  simp; refine hc _ ?_; clear hc c
  refine T_op rfl rfl fun c hc => ?_  -- 5 := assign t10
  simp; refine hc _ ?_; clear hc c
  refine T_end (hn _ ?_); clear hn hp n p
  refine T_then ?_
  refine T_ret ?_
  exact ⟨_, Ent.sub [4, 5] [] (by simp [sub, subSl, subHp, place, mp, mpL, mpO]; rfl), rfl, rfl, by simp [resD, resL]; try omega⟩
-- sizar/sizarref06.Meet
theorem walk22 (a b : List Sp) (ha : a.length ≤ 4096) (hb : b.length ≤ 4096) : Does Try.prog 22 [spans a, spans b] (.tup [.dat (spans (refOf 2 a b)), .dat (iD (combErr a b))]) [] := by
  refine Does.intro [4, 5] Try.func22 rfl (by kernel_rfl) Try.ntmps22 rfl (by decide) (Nat.le_of_ble_eq_true rfl) ?_
  refine T_seq ?_
  -- region 0
  refine T_region (is := [0, 1]) rfl fun n p hn hp => ?_
  refine T_op rfl rfl fun c hc => ?_  -- 4 := assign nil
  simp; refine hc _ ?_; clear hc c
  refine T_op rfl rfl fun c hc => ?_  -- 5 := assign 0
  simp; refine hc _ ?_; clear hc c
  refine T_end (hn _ ?_); clear hn hp n p
  refine T_then ?_
  refine T_seq ?_
  -- region 1
  refine T_region (is := [0, 1, 2, 3, 4, 5, 6]) rfl fun n p hn hp => ?_
  refine T_op rfl rfl fun c hc => ?_  -- 6 := move t0
  simp; refine hc _ ?_; clear hc c
  refine T_op rfl rfl fun c hc => ?_  -- 7 := move t1
  simp; refine hc _ ?_; clear hc c
  refine T_op rfl rfl fun c hc => ?_  -- 8 := call value F31 (t6 t7 2) [22, 22, 3]
  simp
  refine CallS.dat (walk31 2 (by decide) a b ha hb) rfl rfl rfl rfl ?_
  simp [enum]; refine hc _ ?_; clear hc c
  refine T_op rfl rfl fun c hc => ?_  -- 9 := extract t8 0
  simp; refine hc _ ?_; clear hc c
  refine T_op rfl rfl fun c hc => ?_  -- 10 := extract t8 1
  simp; refine hc _ ?_; clear hc c
  refine T_op rfl rfl fun c hc => ?_  -- 4 := assign t9
  simp; refine hc _ ?_; clear hc c
  refine T_op rfl rfl fun c hc => ?_  -- 5 := assign t10
  simp; refine hc _ ?_; clear hc c
  refine T_end (hn _ ?_); clear hn hp n p
  refine T_then ?_
  refine T_ret ?_
  exact ⟨_, Ent.sub [4, 5] [] (by simp [sub, subSl, subHp, place, mp, mpL, mpO]; rfl), rfl, rfl, by simp [resD, resL]; try omega⟩
-- sizar/sizarref06.Minus
theorem walk24 (a b : List Sp) (ha : a.length ≤ 4096) (hb : b.length ≤ 4096) : Does Try.prog 24 [spans a, spans b] (.tup [.dat (spans (refOf 3 a b)), .dat (iD (combErr a b))]) [] := by
  refine Does.intro [4, 5] Try.func24 rfl (by kernel_rfl) Try.ntmps24 rfl (by decide) (Nat.le_of_ble_eq_true rfl) ?_
  refine T_seq ?_
  -- region 0
  refine T_region (is := [0, 1]) rfl fun n p hn hp => ?_
  refine T_op rfl rfl fun c hc => ?_  -- 4 := assign nil
  simp; refine hc _ ?_; clear hc c
  refine T_op rfl rfl fun c hc => ?_  -- 5 := assign 0
  simp; refine hc _ ?_; clear hc c
  refine T_end (hn _ ?_); clear hn hp n p
  refine T_then ?_
  refine T_seq ?_
  -- region 1
  refine T_region (is := [0, 1, 2, 3, 4, 5, 6]) rfl fun n p hn hp => ?_
  refine T_op rfl rfl fun c hc => ?_  -- 6 := move t0
  simp; refine hc _ ?_; clear hc c
  refine T_op rfl rfl fun c hc => ?_  -- 7 := move t1
  simp; refine hc _ ?_; clear hc c
  refine T_op rfl rfl fun c hc => ?_  -- 8 := call value F31 (t6 t7 3) [22, 22, 3]
  simp
  refine CallS.dat (walk31 3 (by decide) a b ha hb) rfl rfl rfl rfl ?_
  simp [enum]; refine hc _ ?_; clear hc c
  refine T_op rfl rfl fun c hc => ?_  -- 9 := extract t8 0
  simp; refine hc _ ?_; clear hc c
  refine T_op rfl rfl fun c hc => ?_  -- 10 := extract t8 1
  simp; refine hc _ ?_; clear hc c
  refine T_op rfl rfl fun c hc => ?_  -- 4 := assign t9
  simp; refine hc _ ?_; clear hc c
  refine T_op rfl rfl fun c hc => ?_  -- 5 := assign t10
  simp; refine hc _ ?_; clear hc c
  refine T_end (hn _ ?_); clear hn hp n p
  refine T_then ?_
  refine T_ret ?_
  exact ⟨_, Ent.sub [4, 5] [] (by simp [sub, subSl, subHp, place, mp, mpL, mpO]; rfl), rfl, rfl, by simp [resD, resL]; try omega⟩
end Go.Proofs.Ytehboominkoldaa
