/- The terms, part l: what the statement about uniqueness runs. -/
import Derived.Test.YtehboominkoldaaTh2
set_option linter.unusedVariables false
set_option linter.unusedSimpArgs false
namespace Go.Proofs.Ytehboominkoldaa
open Go Go.Proofs.Ytehboominkoldaa.Sx
theorem same_next {a b : List Sp} {z : Nat} {s : Bool} (h : s = true ↔ ∀ t : Nat, t < z → mem a t = mem b t) : (s && (mem a z == mem b z)) = true ↔ ∀ t : Nat, t < z + 1 → mem a t = mem b t := by
  rw [Bool.and_eq_true, beq_iff_eq, h]
  constructor
  · rintro ⟨h1, h2⟩ t ht
    by_cases e : t = z
    · subst e; exact h2
    · exact h1 t (by omega)
  · intro h1
    exact ⟨fun t ht => h1 t (by omega), h1 z (by omega)⟩
theorem eq_next {a b : List Sp} {z : Nat} {e : Bool} {x y : Sp} (hx : a[z]? = some x) (hy : z < b.length → b[z]? = some y) (h : e = true ↔ a.length = b.length ∧ a.take z = b.take z) : (e && decide (z < b.length) && decide (x = y)) = true ↔ a.length = b.length ∧ a.take (z + 1) = b.take (z + 1) := by
  have hz := (List.getElem?_eq_some_iff.1 hx).1
  rw [Bool.and_eq_true, Bool.and_eq_true, h, decide_eq_true_eq, decide_eq_true_eq]
  constructor
  · rintro ⟨⟨⟨h1, h2⟩, h3⟩, h4⟩
    refine ⟨h1, ?_⟩
    rw [take_next hx, take_next (hy h3), h2, h4]
  · rintro ⟨h1, h2⟩
    have h3 : z < b.length := by omega
    rw [take_next hx, take_next (hy h3)] at h2
    have h4 := List.append_inj h2 (by simp; omega)
    exact ⟨⟨⟨h1, h4.1⟩, h3⟩, by simpa using h4.2⟩
theorem lenEq (a b : List Sp) : ((a.length : Int) == (b.length : Int)) = decide (a.length = b.length) := by
  rw [Bool.eq_iff_iff]; simp; omega
theorem pairEq (x y : Sp) : (x.1 == y.1 && x.2 == y.2) = decide (x = y) := by
  rw [Bool.eq_iff_iff]; simp [Prod.ext_iff]
theorem uniq_iff {a b : List Sp} (ka : chk (-1) a = true) (kb : chk (-1) b = true) : (∀ t : Nat, t < 1024 → mem a t = mem b t) ↔ a.length = b.length ∧ a.take a.length = b.take a.length := by
  constructor
  · intro h
    have : a = b := chk_unique ka kb fun t => by
      by_cases ht : 0 ≤ t ∧ t < 1024
      · have := h t.toNat (by omega)
        rwa [show ((t.toNat : Nat) : Int) = t by omega] at this
      · cases h1 : mem a t with
        | true => exact absurd (chk_mem ka h1) (by omega)
        | false => cases h2 : mem b t with
          | true => exact absurd (chk_mem kb h2) (by omega)
          | false => rfl
    subst this
    exact ⟨rfl, rfl⟩
  · rintro ⟨h1, h2⟩
    have : a = b := by rw [List.take_length] at h2; rw [h2, h1, List.take_length]
    subst this
    exact fun _ _ => rfl
-- WALKS (printed by skel.py)
-- sizar/sizarlaw06.TermsUnique
theorem walk6 (a b : List Sp) : Does Try.prog 6 [spans a, spans b] (.dat (bV true)) [] := by
  refine Does.intro [4] Try.func6 rfl (by kernel_rfl) Try.ntmps6 rfl (by decide) (Nat.le_of_ble_eq_true rfl) ?_
  refine T_seq ?_
  -- region 0
  refine T_region (is := [0]) rfl fun n p hn hp => ?_
  refine T_op rfl rfl fun c hc => ?_  -- 4 := assign false
  simp; refine hc _ ?_; clear hc c
  refine T_end (hn _ ?_); clear hn hp n p
  refine T_then ?_
  refine T_seq ?_
  refine T_seq ?_
  -- region 1
  refine T_region (is := [0, 1]) rfl fun n p hn hp => ?_
  refine T_op rfl rfl fun c hc => ?_  -- 9 := call value F10 () []
  simp
  refine CallS.dat (walk10) rfl rfl rfl rfl ?_
  simp [enum]; refine hc _ ?_; clear hc c
  refine T_op rfl rfl fun c hc => ?_  -- 10 := unOp 4 t9
  simp; refine hc _ ?_; clear hc c
  refine T_end (hn _ ?_); clear hn hp n p
  refine T_then ?_
  refine T_false (by simp) ?_  -- t10
  refine T_skip ?_
  refine T_then ?_
  refine T_seq ?_
  refine T_seq ?_
  -- region 3
  refine T_region (is := [0, 1, 2, 3, 4, 5, 6, 7, 8, 9, 10, 11, 12, 13]) rfl fun n p hn hp => ?_
  refine T_op rfl rfl fun c hc => ?_  -- 11 := move t0
  simp; refine hc _ ?_; clear hc c
  refine T_op rfl rfl fun c hc => ?_  -- 12 := move t1
  simp; refine hc _ ?_; clear hc c
  refine T_op rfl rfl fun c hc => ?_  -- 13 := call value F18 (t11 t12) [22, 22]
  simp
  refine CallS.dat (walk18 a b) rfl rfl rfl rfl ?_
  simp [enum]; refine hc _ ?_; clear hc c
  refine T_op rfl rfl fun c hc => ?_  -- 14 := unOp 4 t13
  simp; refine hc _ ?_; clear hc c
  refine T_op rfl rfl fun c hc => ?_  -- 15 := move t14
  simp; refine hc _ ?_; clear hc c
  refine T_pure rfl (pstep_one rfl rfl rfl rfl fun g0 => .op rfl (by simp [g0]; rfl)) fun c hc => ?_  -- 16 := move t0
  simp; refine hc _ ?_; clear hc c
  refine T_pure rfl (pstep_one rfl rfl rfl rfl fun g0 => .dat (by simp [g0]; exact ⟨rfl, rfl⟩) (by exact walk14 a (by simp at g0; omega)) (by rfl)) fun c hc => ?_  -- 17 := call value F14 (t16) [22]
  simp; refine hc _ ?_; clear hc c
  refine T_pure rfl (pstep_one rfl rfl rfl rfl fun g0 => .op rfl (by simp [g0]; rfl)) fun c hc => ?_  -- 18 := binOp 25 t17 != 0
  simp; refine hc _ ?_; clear hc c
  refine T_op rfl rfl fun c hc => ?_  -- 19 := pick t15 true t18
  simp; refine hc _ ?_; clear hc c
  refine T_op rfl rfl fun c hc => ?_  -- 20 := move t19
  simp; refine hc _ ?_; clear hc c
  refine T_pure rfl (pstep_one rfl rfl rfl rfl fun g0 => .op rfl (by simp [g0]; rfl)) fun c hc => ?_  -- 21 := move t1
  simp; refine hc _ ?_; clear hc c
  refine T_pure rfl (pstep_one rfl rfl rfl rfl fun g0 => .dat (by simp [g0]; exact ⟨rfl, rfl⟩) (by exact walk14 b (by simp at g0; omega)) (by rfl)) fun c hc => ?_  -- 22 := call value F14 (t21) [22]
  simp; refine hc _ ?_; clear hc c
  refine T_pure rfl (pstep_one rfl rfl rfl rfl fun g0 => .op rfl (by simp [g0]; rfl)) fun c hc => ?_  -- 23 := binOp 25 t22 != 0
  simp; refine hc _ ?_; clear hc c
  refine T_op rfl rfl fun c hc => ?_  -- 24 := pick t20 true t23
  simp; refine hc _ ?_; clear hc c
  refine T_end (hn _ ?_); clear hn hp n p
  refine T_then ?_
  refine T_cond rfl (fun b2 => ?_) (fun b2 => ?_)  -- t24
  · skip
    refine T_seq ?_
    -- region 4
    refine T_region (is := [0]) rfl fun n p hn hp => ?_
    refine T_op rfl rfl fun c hc => ?_  -- 4 := assign true
    simp; refine hc _ ?_; clear hc c
    refine T_end (hn _ ?_); clear hn hp n p
    refine T_then ?_
    refine T_ret ?_
    refine X_thenR ?_
    exact ⟨_, Ent.sub [4] [] (by simp [sub, subSl, subHp, place, mp, mpL, mpO]; rfl), rfl, rfl, by simp [resD, resL]; try omega⟩
  · skip
    have hF := b2
    simp at hF
    have hla : a.length ≤ 40 := by omega
    have hlb : b.length ≤ 40 := by omega
    have hka : chk (-1) a = true := errOf_zero.1 (by omega)
    have hkb : chk (-1) b = true := errOf_zero.1 (by omega)
    have hU := setU_len a b
    have hM := setM_len a b
    have hD := setD_len a b
    obtain ⟨kU, mU⟩ := setU_law hka hkb
    obtain ⟨kM, mM⟩ := setM_law hka hkb
    obtain ⟨kD, mD⟩ := setD_law hka hkb
    refine T_skip ?_
    refine T_then ?_
    refine T_seq ?_
    -- region 5
    refine T_region (is := [0]) rfl fun n p hn hp => ?_
    refine T_op rfl rfl fun c hc => ?_  -- 5 := assign true
    simp; refine hc _ ?_; clear hc c
    refine T_end (hn _ ?_); clear hn hp n p
    refine T_then ?_
    refine T_seq ?_
    refine T_seq ?_
    -- region 6
    refine T_region (is := [0]) rfl fun n p hn hp => ?_
    refine T_op rfl rfl fun c hc => ?_  -- 25 := move 0
    simp; refine hc _ ?_; clear hc c
    refine T_end (hn _ ?_); clear hn hp n p
    refine T_then ?_
    refine T_block ?_  -- block 0
    refine T_loop (fun z : Nat × Bool => { sl := [(0, .dat (spans a)), (1, .dat (spans b)), (25, .dat (iD z.1)), (5, .dat (bV z.2))], hp := [], nx := 0 }) (fun z => z.1 ≤ 1024 ∧ (z.2 = true ↔ ∀ t : Nat, t < z.1 → mem a t = mem b t)) (fun z => 1024 - z.1) (0, true) (Ent.sub [0, 1, 25, 5] [] (by simp [sub, subSl, subHp, place, mp, mpL, mpO])) ⟨by decide, by simp⟩ fun z hz => ?_  -- loop 0
    obtain ⟨z, s⟩ := z
    obtain ⟨hz, hs⟩ := hz
    simp only at hz hs
    refine T_seq ?_
    -- region 7
    refine T_region (is := [0]) rfl fun n p hn hp => ?_
    refine T_op rfl rfl fun c hc => ?_  -- 26 := binOp 3 t25 < 1024
    simp; refine hc _ ?_; clear hc c
    refine T_end (hn _ ?_); clear hn hp n p
    refine T_then ?_
    refine T_seq ?_
    refine T_cond rfl (fun b3 => ?_) (fun b3 => ?_)  -- t26
    · skip
      have hlt : z < 1024 := by simp at b3; omega
      have e1 : IntKind.i64.wrap ((z : Int) + 1) = (z : Int) + 1 := wr (by omega)
      refine T_skip ?_
      refine T_then ?_
      refine T_seq ?_
      refine T_block ?_  -- block 1
      refine T_seq ?_
      -- region 8
      refine T_region (is := [0, 1]) rfl fun n p hn hp => ?_
      refine T_op rfl rfl fun c hc => ?_  -- 27 := move t25
      simp; refine hc _ ?_; clear hc c
      refine T_op rfl rfl fun c hc => ?_  -- 6 := assign t27
      simp; refine hc _ ?_; clear hc c
      refine T_end (hn _ ?_); clear hn hp n p
      refine T_then ?_
      -- region 9
      refine T_region (is := [0, 1, 2, 3, 4, 5, 6, 7, 8, 9, 10]) rfl fun n p hn hp => ?_
      refine T_op rfl rfl fun c hc => ?_  -- 28 := move t5
      simp; refine hc _ ?_; clear hc c
      refine T_op rfl rfl fun c hc => ?_  -- 29 := move t28
      simp; refine hc _ ?_; clear hc c
      refine T_pure rfl (pstep_one rfl rfl rfl rfl fun g0 => .op rfl (by simp [g0]; rfl)) fun c hc => ?_  -- 30 := move t0
      simp; refine hc _ ?_; clear hc c
      refine T_pure rfl (pstep_one rfl rfl rfl rfl fun g0 => .op rfl (by simp [g0]; rfl)) fun c hc => ?_  -- 31 := move t6
      simp; refine hc _ ?_; clear hc c
      refine T_pure rfl (pstep_one rfl rfl rfl rfl fun g0 => .dat (by simp [g0]; exact ⟨rfl, rfl⟩) (by exact walk16 a (by omega) z) (by rfl)) fun c hc => ?_  -- 32 := call value F16 (t30 t31) [22, 3]
      simp; refine hc _ ?_; clear hc c
      refine T_pure rfl (pstep_one rfl rfl rfl rfl fun g0 => .op rfl (by simp [g0]; rfl)) fun c hc => ?_  -- 33 := move t1
      simp; refine hc _ ?_; clear hc c
      refine T_pure rfl (pstep_one rfl rfl rfl rfl fun g0 => .op rfl (by simp [g0]; rfl)) fun c hc => ?_  -- 34 := move t6
      simp; refine hc _ ?_; clear hc c
      refine T_pure rfl (pstep_one rfl rfl rfl rfl fun g0 => .dat (by simp [g0]; exact ⟨rfl, rfl⟩) (by exact walk16 b (by omega) z) (by rfl)) fun c hc => ?_  -- 35 := call value F16 (t33 t34) [22, 3]
      simp; refine hc _ ?_; clear hc c
      refine T_pure rfl (pstep_one rfl rfl rfl rfl fun g0 => .op rfl (by simp [g0]; rfl)) fun c hc => ?_  -- 36 := binOp 4 t32 == t35
      simp; refine hc _ ?_; clear hc c
      refine T_op rfl rfl fun c hc => ?_  -- 37 := pick t29 t36 false
      simp; refine hc _ ?_; clear hc c
      refine T_op rfl rfl fun c hc => ?_  -- 5 := assign t37
      simp; refine hc _ ?_; clear hc c
      refine T_end (hn _ ?_); clear hn hp n p
      refine X_blockN ?_
      refine T_then ?_
      -- region 10
      refine T_region (is := [0, 1]) rfl fun n p hn hp => ?_
      refine T_op rfl rfl fun c hc => ?_  -- 38 := binOp 3 t25 + 1
      simp [e1]; refine hc _ ?_; clear hc c
      refine T_op rfl rfl fun c hc => ?_  -- 25 := move t38
      simp; refine hc _ ?_; clear hc c
      refine T_end (hn _ ?_); clear hn hp n p
      exact X_loopN (z + 1, s && (mem a z == mem b z)) (Ent.sub [0, 1, 25, 5] [] (by simp [sub, subSl, subHp, place, mp, mpL, mpO])) ⟨hlt, same_next hs⟩ (by omega)
    · skip
      have hend : z = 1024 := by simp at b3; omega
      subst hend
      refine T_exit ?_
      refine X_thenE ?_
      refine X_loopE ?_
      refine X_hit ?_
      refine T_then ?_
      refine T_seq ?_
      -- region 11
      refine T_region (is := [0, 1, 2, 3, 4, 5]) rfl fun n p hn hp => ?_
      refine T_op rfl rfl fun c hc => ?_  -- 39 := move t0
      simp; refine hc _ ?_; clear hc c
      refine T_op rfl rfl fun c hc => ?_  -- 40 := call len (t39) [22]
      simp; refine hc _ ?_; clear hc c
      refine T_op rfl rfl fun c hc => ?_  -- 41 := move t1
      simp; refine hc _ ?_; clear hc c
      refine T_op rfl rfl fun c hc => ?_  -- 42 := call len (t41) [22]
      simp; refine hc _ ?_; clear hc c
      refine T_op rfl rfl fun c hc => ?_  -- 43 := binOp 3 t40 == t42
      simp; refine hc _ ?_; clear hc c
      refine T_op rfl rfl fun c hc => ?_  -- 7 := assign t43
      simp; refine hc _ ?_; clear hc c
      refine T_end (hn _ ?_); clear hn hp n p
      refine T_then ?_
      refine T_seq ?_
      refine T_seq ?_
      -- region 12
      refine T_region (is := [0, 1, 2]) rfl fun n p hn hp => ?_
      refine T_op rfl rfl fun c hc => ?_  -- 44 := move t0
      simp; refine hc _ ?_; clear hc c
      refine T_op rfl rfl fun c hc => ?_  -- 45 := call len (t44) [22]
      simp; refine hc _ ?_; clear hc c
      refine T_op rfl rfl fun c hc => ?_  -- 46 := move 0
      simp; refine hc _ ?_; clear hc c
      refine T_end (hn _ ?_); clear hn hp n p
      refine T_then ?_
      refine T_block ?_  -- block 2
      refine T_loop (fun z : Nat × Bool => { sl := [(0, .dat (spans a)), (1, .dat (spans b)), (5, .dat (bV s)), (7, .dat (bV z.2)), (45, .dat (iD a.length)), (46, .dat (iD z.1))], hp := [], nx := 0 }) (fun z => z.1 ≤ a.length ∧ (z.2 = true ↔ a.length = b.length ∧ a.take z.1 = b.take z.1)) (fun z => a.length - z.1) (0, decide (a.length = b.length)) (Ent.sub [0, 1, 5, 7, 45, 46] [] (by simp [sub, subSl, subHp, place, mp, mpL, mpO, lenEq])) ⟨Nat.zero_le _, by simp⟩ fun z hz => ?_  -- loop 1
      obtain ⟨z, e⟩ := z
      obtain ⟨hz, he⟩ := hz
      simp only at hz he
      refine T_seq ?_
      -- region 13
      refine T_region (is := [0]) rfl fun n p hn hp => ?_
      refine T_op rfl rfl fun c hc => ?_  -- 47 := binOp 3 t46 < t45
      simp; refine hc _ ?_; clear hc c
      refine T_end (hn _ ?_); clear hn hp n p
      refine T_then ?_
      refine T_seq ?_
      refine T_cond rfl (fun b4 => ?_) (fun b4 => ?_)  -- t47
      · skip
        have hlt : z < a.length := by simpa using b4
        have e1 : IntKind.i64.wrap ((z : Int) + 1) = (z : Int) + 1 := wr (by omega)
        obtain ⟨x, hx⟩ : ∃ x, a[z]? = some x := ⟨_, List.getElem?_eq_getElem hlt⟩
        obtain ⟨y, hy⟩ : ∃ y, z < b.length → b[z]? = some y := by
          by_cases h0 : z < b.length
          · exact ⟨b[z], fun _ => List.getElem?_eq_getElem h0⟩
          · exact ⟨(0, 0), fun h => absurd h h0⟩
        refine T_skip ?_
        refine T_then ?_
        refine T_seq ?_
        refine T_block ?_  -- block 3
        refine T_seq ?_
        -- region 14
        refine T_region (is := [0, 1]) rfl fun n p hn hp => ?_
        refine T_op rfl rfl fun c hc => ?_  -- 48 := move t46
        simp; refine hc _ ?_; clear hc c
        refine T_op rfl rfl fun c hc => ?_  -- 8 := assign t48
        simp; refine hc _ ?_; clear hc c
        refine T_end (hn _ ?_); clear hn hp n p
        refine T_then ?_
        -- region 15, drawn, last
        refine T_draw' (is := [0, 1, 2, 3, 4, 5, 6, 7, 8, 9, 10, 11, 12, 13, 14, 15, 16, 17, 18]) rfl (by kernel_rfl) (by kernel_rfl) (fun _ _ hE h => T_ent hE h) fun n hn => ?_
        refine D_op rfl rfl rfl fun c hc => ?_  -- 49 := move t7
        simp; refine hc _ ?_; clear hc c
        refine D_op rfl rfl rfl fun c hc => ?_  -- 50 := move t49
        simp; refine hc _ ?_; clear hc c
        refine D_pure rfl (pstep_one rfl rfl rfl rfl fun g0 => .op rfl (by simp [g0]; rfl)) fun c hc => ?_  -- 51 := move t8
        simp; refine hc _ ?_; clear hc c
        refine D_pure rfl (pstep_one rfl rfl rfl rfl fun g0 => .op rfl (by simp [g0]; rfl)) fun c hc => ?_  -- 52 := move t1
        simp; refine hc _ ?_; clear hc c
        refine D_pure rfl (pstep_one rfl rfl rfl rfl fun g0 => .op rfl (by simp [g0]; rfl)) fun c hc => ?_  -- 53 := call len (t52) [22]
        simp; refine hc _ ?_; clear hc c
        refine D_pure rfl (pstep_one rfl rfl rfl rfl fun g0 => .op rfl (by simp [g0]; rfl)) fun c hc => ?_  -- 54 := binOp 3 t51 < t53
        simp; refine hc _ ?_; clear hc c
        refine D_op rfl rfl rfl fun c hc => ?_  -- 55 := pick t50 t54 false
        simp; refine hc _ ?_; clear hc c
        refine D_op rfl rfl rfl fun c hc => ?_  -- 56 := move t55
        simp; refine hc _ ?_; clear hc c
        refine D_pure rfl (pstep_one rfl rfl rfl rfl fun g0 => .op rfl (by simp [g0]; rfl)) fun c hc => ?_  -- 57 := move t0
        simp; refine hc _ ?_; clear hc c
        refine D_pure rfl (pstep_one rfl rfl rfl rfl fun g0 => .op rfl (by simp [g0]; rfl)) fun c hc => ?_  -- 58 := move t8
        simp; refine hc _ ?_; clear hc c
        refine D_pure rfl (pstep_one rfl rfl rfl rfl fun g0 => .op rfl (by simp [g0, hx]; rfl)) fun c hc => ?_  -- 59 := indexAddr 22 t57 t58
        simp; refine hc _ ?_; clear hc c
        refine D_pure rfl (pstep_one rfl rfl rfl rfl fun g0 => .op rfl (by simp [g0]; rfl)) fun c hc => ?_  -- 60 := load 35 t59
        simp; refine hc _ ?_; clear hc c
        refine D_pure rfl (pstep_one rfl rfl rfl rfl fun g0 => .op rfl (by simp [g0]; rfl)) fun c hc => ?_  -- 61 := move t1
        simp; refine hc _ ?_; clear hc c
        refine D_pure rfl (pstep_one rfl rfl rfl rfl fun g0 => .op rfl (by simp [g0]; rfl)) fun c hc => ?_  -- 62 := move t8
        simp; refine hc _ ?_; clear hc c
        refine D_pure rfl (pstep_one rfl rfl rfl rfl fun g0 => .op rfl (by simp [g0, hy (by simp at g0; omega)]; rfl)) fun c hc => ?_  -- 63 := indexAddr 22 t61 t62
        simp; refine hc _ ?_; clear hc c
        refine D_pure rfl (pstep_one rfl rfl rfl rfl fun g0 => .op rfl (by simp [g0]; rfl)) fun c hc => ?_  -- 64 := load 35 t63
        simp; refine hc _ ?_; clear hc c
        refine D_pure rfl (pstep_one rfl rfl rfl rfl fun g0 => .op rfl (by simp [g0]; rfl)) fun c hc => ?_  -- 65 := binOp 35 t60 == t64
        simp; refine hc _ ?_; clear hc c
        refine D_op rfl rfl rfl fun c hc => ?_  -- 66 := pick t56 t65 false
        simp; refine hc _ ?_; clear hc c
        refine D_op rfl rfl rfl fun c hc => ?_  -- 7 := assign t66
        simp; refine hc _ ?_; clear hc c
        refine D_end (hn _ ?_); clear hn n
        refine X_blockN ?_
        refine T_then ?_
        -- region 16
        refine T_region (is := [0, 1]) rfl fun n p hn hp => ?_
        refine T_op rfl rfl fun c hc => ?_  -- 67 := binOp 3 t46 + 1
        simp [e1]; refine hc _ ?_; clear hc c
        refine T_op rfl rfl fun c hc => ?_  -- 46 := move t67
        simp; refine hc _ ?_; clear hc c
        refine T_end (hn _ ?_); clear hn hp n p
        exact X_loopN (z + 1, e && decide (z < b.length) && (x.1 == y.1 && x.2 == y.2)) (Ent.sub [0, 1, 5, 7, 45, 46] [] (by simp [sub, subSl, subHp, place, mp, mpL, mpO])) ⟨hlt, by rw [pairEq]; exact eq_next hx hy he⟩ (by omega)
      · skip
        have hend : z = a.length := by simp at b4; omega
        subst hend
        have hse : s = e := by rw [Bool.eq_iff_iff, hs, he]; exact uniq_iff hka hkb
        refine T_exit ?_
        refine X_thenE ?_
        refine X_loopE ?_
        refine X_hit ?_
        refine T_then ?_
        refine T_seq ?_
        -- region 17
        refine T_region (is := [0, 1, 2, 3]) rfl fun n p hn hp => ?_
        refine T_op rfl rfl fun c hc => ?_  -- 68 := move t5
        simp; refine hc _ ?_; clear hc c
        refine T_op rfl rfl fun c hc => ?_  -- 69 := move t7
        simp; refine hc _ ?_; clear hc c
        refine T_op rfl rfl fun c hc => ?_  -- 70 := binOp 4 t68 == t69
        simp; refine hc _ ?_; clear hc c
        refine T_op rfl rfl fun c hc => ?_  -- 4 := assign t70
        simp; refine hc _ ?_; clear hc c
        refine T_end (hn _ ?_); clear hn hp n p
        refine T_then ?_
        refine T_ret ?_
        exact ⟨_, Ent.sub [4] [] (by simp [sub, subSl, subHp, place, mp, mpL, mpO]; rfl), rfl, rfl, by simp [resD, resL]; try omega⟩
end Go.Proofs.Ytehboominkoldaa
