/- The terms, part b: the library's sort and compaction, Grow, Concat, distinct. -/
import Derived.Test.YtehboominkoldaaTa
import Derived.Test.YtehboominkoldaaSxP
import Derived.Test.YtehboominkoldaaShelf
import Derived.Lib.RowBridge
set_option linter.unusedVariables false
set_option linter.unusedSimpArgs false
namespace Go.Proofs.Ytehboominkoldaa
open Go Go.Proofs.Ytehboominkoldaa.Sx

section
variable {s : S} {N : Nat} {n : S → Prop} {p : Value → S → Prop} {dst : Option Nat}
theorem sort_call {b : Nat} {ty : TypeId} {zs : List Int} (hb : lk b s.hp = some (.row ty 1 (intRow zs))) {len : Nat} (hlen : len = zs.length) (hz : zs.length < 4611686018427387904) (hd : dstOk dst N = true)
    (k : n ({ s with hp := up b (.row ty 1 (intRow (zs.mergeSort fun x y => decide (x ≤ y)))) s.hp }.put dst (.dat (.val (.tuple #[]))))) : CallS Try.prog N 39 [.own b 1 len] s dst n p := by
  subst hlen
  refine .gen (Body.of Try.func39 rfl (by decide)) hd fun G w0 ι a w vs hR hl hU => ?_
  obtain ⟨v, rfl⟩ : ∃ v, vs = [v] := by
    match vs, hl with
    | [v], _ => exact ⟨v, rfl⟩
  have hv : RelD G ι s.nx w (.own b 1 zs.length) v := hU 0 _ rfl
  rcases ints_at hR hb hv with ⟨rfl, rfl, hι⟩ | ⟨B, c, C, hι, rfl, hC, hCs, hlc, hcm, hat⟩
  · refine Calls.mono (Try.slices_Sort_int_none none 0 w) ?_
    rintro e w' ⟨rfl, rfl⟩
    exact ⟨_, _, _, ι, rfl, hR.shrink 0 hb, .dat (.val _), (by simpa using k)⟩
  · refine Calls.mono (Try.slices_Sort_int B 0 c zs w (holds_ints hC hat) (hR.inside b B hι).2 hz) ?_
    rintro e w' ⟨rfl, q, os, hw⟩
    exact ⟨_, _, _, ι, rfl, (set_ints hR hb hι hC _ (by simp; omega) q os hw).1, .dat (.val _), k⟩
theorem compact_call {b : Nat} {ty : TypeId} {zs : List Int} (hb : lk b s.hp = some (.row ty 1 (intRow zs))) {len : Nat} (hlen : len = zs.length) (hz : zs.length < 4611686018427387904) (hd : dstOk dst N = true)
    (k : n ({ s with hp := up b (.row ty 1 (intRow (Lib.compact zs ++ List.replicate (zs.length - (Lib.compact zs).length) 0))) s.hp }.put dst (.own b 1 (Lib.compact zs).length))) : CallS Try.prog N 40 [.own b 1 len] s dst n p := by
  subst hlen
  refine .gen (Body.of Try.func40 rfl (by decide)) hd fun G w0 ι a w vs hR hl hU => ?_
  obtain ⟨v, rfl⟩ : ∃ v, vs = [v] := by
    match vs, hl with
    | [v], _ => exact ⟨v, rfl⟩
  have hv : RelD G ι s.nx w (.own b 1 zs.length) v := hU 0 _ rfl
  rcases ints_at hR hb hv with ⟨rfl, rfl, hι⟩ | ⟨B, c, C, hι, rfl, hC, hCs, hlc, hcm, hat⟩
  · refine Calls.mono (Try.slices_Compact_int_empty none 0 w) ?_
    rintro e w' ⟨rfl, rfl⟩
    refine ⟨_, _, _, ι, rfl, hR.shrink 0 hb, ?_, k⟩
    exact .own_nil b 1 (hR.named (by rw [hι]; simp)) hι
  · refine Calls.mono (Try.slices_Compact_int B 0 c zs w (holds_ints hC hat) (by omega) hlc) ?_
    rintro e w' ⟨rfl, q, hw⟩
    have hcl : (Lib.compact zs).length ≤ zs.length := Lib.compact_length_le zs
    have hd0 : (Lib.compact zs ++ List.replicate (zs.length - (Lib.compact zs).length) 0).length ≤ C.size := by simp; omega
    obtain ⟨hR', C', hC', hs'⟩ := set_ints (w' := w') hR hb hι hC _ hd0 q #[] (by rw [hw]; simp [Go.Sort.grow]; rfl)
    exact ⟨_, _, _, ι, rfl, hR', .own_at b 1 _ B c (hR.named (by rw [hι]; simp)) hι C' ty hC' (by omega) hcm (by omega), k⟩
end
def cat : List (List Int) → List Int
  | [] => []
  | l :: r => l ++ cat r
theorem cat_snoc : ∀ (ls : List (List Int)) (x : List Int), cat (ls ++ [x]) = cat ls ++ x
  | [], x => by simp [cat]
  | l :: r, x => by simp [cat, cat_snoc r x]
theorem cat_next {ls : List (List Int)} {z : Nat} {x : List Int} (h : ls[z]? = some x) : (cat (ls.take z)).length + x.length ≤ (cat ls).length := by
  have e : ls = ls.take z ++ [x] ++ ls.drop (z + 1) := by
    rw [List.append_assoc, List.singleton_append, ← drop_next h, List.take_append_drop]
  have h2 : ∀ l m : List (List Int), cat (l ++ m) = cat l ++ cat m := by
    intro l m
    induction l with
    | nil => rfl
    | cons a r ih => simp [cat, ih]
  conv => rhs; rw [e]
  rw [h2, cat_snoc]
  simp
/-- The different numbers, in their order. -/
def uniq (l : List Int) : List Int := Lib.compact (l.mergeSort fun x y => decide (x ≤ y))
-- WALKS (printed by skel.py)
-- slices.Grow[[]int,int]
theorem walk41 (k : Nat) (hk : k ≤ 1000000) : Does Try.prog 41 [.val (.slice none 0 0), iD k] (.own 0 1 0) [.row 3 1 []] := by
  have e0 : IntKind.i64.wrap 0 = 0 := wr (by decide)
  have e1 : IntKind.i64.wrap (k : Int) = k := wr (by omega)
  have e2 : k * 8 ≤ big := by simp only [big]; omega
  have e3 : (k : Int) ≤ 4611686018427387904 := by omega
  refine Does.intro [4] Try.func41 rfl (by kernel_rfl) Try.ntmps41 rfl (by decide) (Nat.le_of_ble_eq_true rfl) ?_
  refine T_seq ?_
  -- region 0
  refine T_region (is := [0]) rfl fun n p hn hp => ?_
  refine T_op rfl rfl fun c hc => ?_  -- 4 := assign nil
  simp; refine hc _ ?_; clear hc c
  refine T_end (hn _ ?_); clear hn hp n p
  refine T_then ?_
  refine T_seq ?_
  refine T_seq ?_
  -- region 1
  refine T_region (is := [0, 1]) rfl fun n p hn hp => ?_
  refine T_op rfl rfl fun c hc => ?_  -- 5 := move t1
  simp; refine hc _ ?_; clear hc c
  refine T_op rfl rfl fun c hc => ?_  -- 6 := binOp 3 t5 < 0
  simp; refine hc _ ?_; clear hc c
  refine T_end (hn _ ?_); clear hn hp n p
  refine T_then ?_
  refine T_cond rfl (fun b1 => ?_) (fun b1 => ?_)  -- t6
  · skip
    exfalso; simp at b1; omega
  · skip
    refine T_skip ?_
    refine T_then ?_
    refine T_cut { sl := [(0, .own 0 1 0)], hp := [(0, .row 3 1 [])], nx := 1 } ?_ ?_  -- cut 0
    · skip
      refine T_seq ?_
      -- region 3
      refine T_region (is := [0, 1, 2, 3, 4, 5, 6, 7]) rfl fun n p hn hp => ?_
      refine T_op rfl rfl fun c hc => ?_  -- 8 := move t1
      simp; refine hc _ ?_; clear hc c
      refine T_op rfl rfl fun c hc => ?_  -- 9 := move t0
      simp; refine hc _ ?_; clear hc c
      refine T_op rfl rfl fun c hc => ?_  -- 10 := call cap (t9) [43]
      simp; refine hc _ ?_; clear hc c
      refine T_op rfl rfl fun c hc => ?_  -- 11 := move t0
      simp; refine hc _ ?_; clear hc c
      refine T_op rfl rfl fun c hc => ?_  -- 12 := call len (t11) [43]
      simp; refine hc _ ?_; clear hc c
      refine T_op rfl rfl fun c hc => ?_  -- 13 := binOp 3 t10 - t12
      simp [e0]; refine hc _ ?_; clear hc c
      refine T_op rfl rfl fun c hc => ?_  -- 14 := binOp 3 t8 - t13
      simp [e1]; refine hc _ ?_; clear hc c
      refine T_op rfl rfl fun c hc => ?_  -- 1 := assign t14
      simp; refine hc _ ?_; clear hc c
      refine T_end (hn _ ?_); clear hn hp n p
      refine T_then ?_
      refine T_seq ?_
      -- region 4
      refine T_region (is := [0, 1]) rfl fun n p hn hp => ?_
      refine T_op rfl rfl fun c hc => ?_  -- 15 := move t1
      simp; refine hc _ ?_; clear hc c
      refine T_op rfl rfl fun c hc => ?_  -- 16 := binOp 3 t15 > 0
      simp; refine hc _ ?_; clear hc c
      refine T_end (hn _ ?_); clear hn hp n p
      refine T_then ?_
      refine T_cond rfl (fun b2 => ?_) (fun b2 => ?_)  -- t16
      · skip
        have hk0 : 0 < k := by simp at b2; omega
        -- region 5
        refine T_region (is := [0, 1, 2, 3, 4, 5, 6, 7, 8, 9]) rfl fun n p hn hp => ?_
        refine T_op rfl rfl fun c hc => ?_  -- 17 := move t0
        simp; refine hc _ ?_; clear hc c
        refine T_op rfl rfl fun c hc => ?_  -- 18 := move t0
        simp; refine hc _ ?_; clear hc c
        refine T_op rfl rfl fun c hc => ?_  -- 19 := call cap (t18) [43]
        simp; refine hc _ ?_; clear hc c
        refine T_op rfl rfl fun c hc => ?_  -- 20 := slice 43 t17 [- : t19 : -]
        simp; refine hc _ ?_; clear hc c
        refine T_op rfl rfl fun c hc => ?_  -- 21 := move t1
        simp; refine hc _ ?_; clear hc c
        refine T_op rfl rfl fun c hc => ?_  -- 22 := call append (t20 t21) [43, 3]
        simp [hk0, e2, e3]; refine hc _ ?_; clear hc c
        refine T_op rfl rfl fun c hc => ?_  -- 23 := move t0
        simp; refine hc _ ?_; clear hc c
        refine T_op rfl rfl fun c hc => ?_  -- 24 := call len (t23) [43]
        simp; refine hc _ ?_; clear hc c
        refine T_op rfl rfl fun c hc => ?_  -- 25 := slice 43 t22 [- : t24 : -]
        simp; refine hc _ ?_; clear hc c
        refine T_op rfl rfl fun c hc => ?_  -- 0 := assign t25
        simp; refine hc _ ?_; clear hc c
        refine T_end (hn _ ?_); clear hn hp n p
        refine T_then ?_
        exact Ent.trans (Ent.shrink (b := 0) 0 rfl) (Ent.sub [0] [0] (by simp [sub, subSl, subHp, place, mp, mpL, mpO]))
      · skip
        have hk0 : k = 0 := by simp at b2; omega
        refine T_skip ?_
        refine T_then ?_
        exact Ent.trans (Ent.nil (t := 0) 3 1 rfl) (Ent.sub [0] [0] (by simp [sub, subSl, subHp, place, mp, mpL, mpO]))
    refine T_seq ?_
    -- region 6
    refine T_region (is := [0, 1]) rfl fun n p hn hp => ?_
    refine T_op rfl rfl fun c hc => ?_  -- 26 := move t0
    simp; refine hc _ ?_; clear hc c
    refine T_op rfl rfl fun c hc => ?_  -- 4 := assign t26
    simp; refine hc _ ?_; clear hc c
    refine T_end (hn _ ?_); clear hn hp n p
    refine T_then ?_
    refine T_ret ?_
    exact ⟨_, Ent.sub [4] [0] (by simp [sub, subSl, subHp, place, mp, mpL, mpO]; rfl), rfl, rfl, by simp [resD, resL]; try omega⟩
-- slices.Concat[[]int,int]
theorem walk38 (ls : List (List Int)) (hl : ls.length ≤ 1000) (ht : (cat ls).length ≤ 1000000) : Does Try.prog 38 [.sl 1 (ls.map fun l => [.sl 1 (ints l)])] (.own 0 1 (cat ls).length) [.row 3 1 (ints (cat ls))] := by
  refine Does.intro [2] Try.func38 rfl (by kernel_rfl) Try.ntmps38 rfl (by decide) (Nat.le_of_ble_eq_true rfl) ?_
  refine T_seq ?_
  -- region 0
  refine T_region (is := [0]) rfl fun n p hn hp => ?_
  refine T_op rfl rfl fun c hc => ?_  -- 2 := assign nil
  simp; refine hc _ ?_; clear hc c
  refine T_end (hn _ ?_); clear hn hp n p
  refine T_then ?_
  refine T_seq ?_
  -- region 1
  refine T_region (is := [0]) rfl fun n p hn hp => ?_
  refine T_op rfl rfl fun c hc => ?_  -- 3 := assign 0
  simp; refine hc _ ?_; clear hc c
  refine T_end (hn _ ?_); clear hn hp n p
  refine T_then ?_
  refine T_seq ?_
  refine T_seq ?_
  -- region 2
  refine T_region (is := [0, 1, 2]) rfl fun n p hn hp => ?_
  refine T_op rfl rfl fun c hc => ?_  -- 9 := move t0
  simp; refine hc _ ?_; clear hc c
  refine T_op rfl rfl fun c hc => ?_  -- 10 := call len (t9) [48]
  simp; refine hc _ ?_; clear hc c
  refine T_op rfl rfl fun c hc => ?_  -- 11 := move 0
  simp; refine hc _ ?_; clear hc c
  refine T_end (hn _ ?_); clear hn hp n p
  refine T_then ?_
  refine T_block ?_  -- block 0
  refine T_loop (fun z : Nat => { sl := [(0, .dat (.sl 1 (ls.map fun l => [.sl 1 (ints l)]))), (9, .dat (.sl 1 (ls.map fun l => [.sl 1 (ints l)]))), (10, .dat (iD ls.length)), (11, .dat (iD z)), (3, .dat (iD (cat (ls.take z)).length))], hp := [], nx := 0 }) (fun z => z ≤ ls.length) (fun z => ls.length - z) 0 (Ent.sub [0, 9, 10, 11, 3] [] (by simp [sub, subSl, subHp, place, mp, mpL, mpO, cat])) (Nat.zero_le _) fun z hz => ?_  -- loop 0
  refine T_seq ?_
  -- region 3
  refine T_region (is := [0]) rfl fun n p hn hp => ?_
  refine T_op rfl rfl fun c hc => ?_  -- 12 := binOp 3 t11 < t10
  simp; refine hc _ ?_; clear hc c
  refine T_end (hn _ ?_); clear hn hp n p
  refine T_then ?_
  refine T_seq ?_
  refine T_cond rfl (fun b1 => ?_) (fun b1 => ?_)  -- t12
  · skip
    have hz' : z < ls.length := by simpa using b1
    obtain ⟨x, hx⟩ : ∃ x, ls[z]? = some x := ⟨_, List.getElem?_eq_getElem hz'⟩
    have e1 : IntKind.i64.wrap ((z : Int) + 1) = ((z + 1 : Nat) : Int) := by rw [wr (by omega)]; rfl
    have hc : (cat (ls.take z)).length + x.length ≤ (cat ls).length := cat_next hx
    have e2 : IntKind.i64.wrap (((cat (ls.take z)).length : Int) + x.length) = ((cat (ls.take z)).length : Int) + x.length := wr (by omega)
    refine T_skip ?_
    refine T_then ?_
    refine T_seq ?_
    refine T_block ?_  -- block 1
    refine T_seq ?_
    -- region 4
    refine T_region (is := [0, 1, 2]) rfl fun n p hn hp => ?_
    refine T_op rfl rfl fun c hc => ?_  -- 13 := indexAddr 48 t9 t11
    simp [hx]; refine hc _ ?_; clear hc c
    refine T_op rfl rfl fun c hc => ?_  -- 14 := load 43 t13
    simp; refine hc _ ?_; clear hc c
    refine T_op rfl rfl fun c hc => ?_  -- 5 := assign t14
    simp; refine hc _ ?_; clear hc c
    refine T_end (hn _ ?_); clear hn hp n p
    refine T_then ?_
    refine T_seq ?_
    -- region 5
    refine T_region (is := [0, 1, 2, 3, 4]) rfl fun n p hn hp => ?_
    refine T_op rfl rfl fun c hc => ?_  -- 15 := move t3
    simp; refine hc _ ?_; clear hc c
    refine T_op rfl rfl fun c hc => ?_  -- 16 := move t5
    simp; refine hc _ ?_; clear hc c
    refine T_op rfl rfl fun c hc => ?_  -- 17 := call len (t16) [43]
    simp; refine hc _ ?_; clear hc c
    refine T_op rfl rfl fun c hc => ?_  -- 18 := binOp 3 t15 + t17
    simp [e2]; refine hc _ ?_; clear hc c
    refine T_op rfl rfl fun c hc => ?_  -- 3 := assign t18
    simp; refine hc _ ?_; clear hc c
    refine T_end (hn _ ?_); clear hn hp n p
    refine T_then ?_
    refine T_seq ?_
    -- region 6
    refine T_region (is := [0, 1]) rfl fun n p hn hp => ?_
    refine T_op rfl rfl fun c hc => ?_  -- 19 := move t3
    simp; refine hc _ ?_; clear hc c
    refine T_op rfl rfl fun c hc => ?_  -- 20 := binOp 3 t19 < 0
    simp; refine hc _ ?_; clear hc c
    refine T_end (hn _ ?_); clear hn hp n p
    refine T_then ?_
    refine T_cond rfl (fun b2 => ?_) (fun b2 => ?_)  -- t20
    · skip
      exfalso; simp at b2; omega
    · skip
      refine T_skip ?_
      refine X_blockN ?_
      refine T_then ?_
      -- region 8
      refine T_region (is := [0, 1]) rfl fun n p hn hp => ?_
      refine T_op rfl rfl fun c hc => ?_  -- 22 := binOp 3 t11 + 1
      simp; refine hc _ ?_; clear hc c
      refine T_op rfl rfl fun c hc => ?_  -- 11 := move t22
      simp; refine hc _ ?_; clear hc c
      refine T_end (hn _ ?_); clear hn hp n p
      exact X_loopN (z + 1) (Ent.sub [0, 9, 10, 11, 3] [] (by simp [sub, subSl, subHp, place, mp, mpL, mpO, e1, take_next hx, cat_snoc])) hz' (by omega)
  · skip
    have hz' : z = ls.length := by simp at b1; omega
    subst hz'
    refine T_exit ?_
    refine X_thenE ?_
    refine X_loopE ?_
    refine X_hit ?_
    refine T_then ?_
    refine T_seq ?_
    -- region 9
    refine T_region (is := [0, 1, 2]) rfl fun n p hn hp => ?_
    refine T_op rfl rfl fun c hc => ?_  -- 23 := move t3
    simp; refine hc _ ?_; clear hc c
    refine T_op rfl rfl fun c hc => ?_  -- 24 := call value F41 (nil t23) [43, 3]
    simp
    refine CallS.dat (walk41 (cat ls).length ht) rfl rfl rfl rfl ?_
    simp [enum]; refine hc _ ?_; clear hc c
    refine T_op rfl rfl fun c hc => ?_  -- 6 := assign t24
    simp; refine hc _ ?_; clear hc c
    refine T_end (hn _ ?_); clear hn hp n p
    refine T_then ?_
    refine T_seq ?_
    refine T_seq ?_
    -- region 10
    refine T_region (is := [0, 1, 2]) rfl fun n p hn hp => ?_
    refine T_op rfl rfl fun c hc => ?_  -- 25 := move t0
    simp; refine hc _ ?_; clear hc c
    refine T_op rfl rfl fun c hc => ?_  -- 26 := call len (t25) [48]
    simp; refine hc _ ?_; clear hc c
    refine T_op rfl rfl fun c hc => ?_  -- 27 := move 0
    simp; refine hc _ ?_; clear hc c
    refine T_end (hn _ ?_); clear hn hp n p
    refine T_then ?_
    refine T_block ?_  -- block 2
    refine T_loop (fun z : Nat => { sl := [(25, .dat (.sl 1 (ls.map fun l => [.sl 1 (ints l)]))), (26, .dat (iD ls.length)), (27, .dat (iD z)), (6, .own 0 1 (cat (ls.take z)).length)], hp := [(0, .row 3 1 (ints (cat (ls.take z))))], nx := 1 }) (fun z => z ≤ ls.length) (fun z => ls.length - z) 0 (Ent.sub [25, 26, 27, 6] [0] (by simp [sub, subSl, subHp, place, mp, mpL, mpO, cat])) (Nat.zero_le _) fun z hz => ?_  -- loop 1
    refine T_seq ?_
    -- region 11
    refine T_region (is := [0]) rfl fun n p hn hp => ?_
    refine T_op rfl rfl fun c hc => ?_  -- 28 := binOp 3 t27 < t26
    simp; refine hc _ ?_; clear hc c
    refine T_end (hn _ ?_); clear hn hp n p
    refine T_then ?_
    refine T_seq ?_
    refine T_cond rfl (fun b3 => ?_) (fun b3 => ?_)  -- t28
    · skip
      have hz' : z < ls.length := by simpa using b3
      obtain ⟨x, hx⟩ : ∃ x, ls[z]? = some x := ⟨_, List.getElem?_eq_getElem hz'⟩
      have e1 : IntKind.i64.wrap ((z : Int) + 1) = ((z + 1 : Nat) : Int) := by rw [wr (by omega)]; rfl
      have hc : (cat (ls.take z)).length + x.length ≤ (cat ls).length := cat_next hx
      have e3 : ((cat (ls.take z)).length + x.length) * 8 ≤ big := by simp only [big]; omega
      refine T_skip ?_
      refine T_then ?_
      refine T_seq ?_
      refine T_block ?_  -- block 3
      refine T_seq ?_
      -- region 12
      refine T_region (is := [0, 1, 2]) rfl fun n p hn hp => ?_
      refine T_op rfl rfl fun c hc => ?_  -- 29 := indexAddr 48 t25 t27
      simp [hx]; refine hc _ ?_; clear hc c
      refine T_op rfl rfl fun c hc => ?_  -- 30 := load 43 t29
      simp; refine hc _ ?_; clear hc c
      refine T_op rfl rfl fun c hc => ?_  -- 8 := assign t30
      simp; refine hc _ ?_; clear hc c
      refine T_end (hn _ ?_); clear hn hp n p
      refine T_then ?_
      -- region 13
      refine T_region (is := [0, 1, 2, 3]) rfl fun n p hn hp => ?_
      refine T_op rfl rfl fun c hc => ?_  -- 31 := move t6
      simp; refine hc _ ?_; clear hc c
      refine T_op rfl rfl fun c hc => ?_  -- 32 := move t8
      simp; refine hc _ ?_; clear hc c
      refine T_op rfl rfl fun c hc => ?_  -- 33 := call append (t31 t32) [43, 43]
      simp [e3]; refine hc _ ?_; clear hc c
      refine T_op rfl rfl fun c hc => ?_  -- 6 := assign t33
      simp; refine hc _ ?_; clear hc c
      refine T_end (hn _ ?_); clear hn hp n p
      refine X_blockN ?_
      refine T_then ?_
      -- region 14
      refine T_region (is := [0, 1]) rfl fun n p hn hp => ?_
      refine T_op rfl rfl fun c hc => ?_  -- 34 := binOp 3 t27 + 1
      simp; refine hc _ ?_; clear hc c
      refine T_op rfl rfl fun c hc => ?_  -- 27 := move t34
      simp; refine hc _ ?_; clear hc c
      refine T_end (hn _ ?_); clear hn hp n p
      exact X_loopN (z + 1) (Ent.sub [25, 26, 27, 6] [1] (by simp [sub, subSl, subHp, place, mp, mpL, mpO, e1, take_next hx, cat_snoc])) hz' (by omega)
    · skip
      have hz' : z = ls.length := by simp at b3; omega
      subst hz'
      refine T_exit ?_
      refine X_thenE ?_
      refine X_loopE ?_
      refine X_hit ?_
      refine T_then ?_
      refine T_seq ?_
      -- region 15
      refine T_region (is := [0, 1]) rfl fun n p hn hp => ?_
      refine T_op rfl rfl fun c hc => ?_  -- 35 := move t6
      simp; refine hc _ ?_; clear hc c
      refine T_op rfl rfl fun c hc => ?_  -- 2 := assign t35
      simp; refine hc _ ?_; clear hc c
      refine T_end (hn _ ?_); clear hn hp n p
      refine T_then ?_
      refine T_ret ?_
      exact ⟨_, Ent.sub [2] [0] (by simp [sub, subSl, subHp, place, mp, mpL, mpO]; rfl), rfl, rfl, by simp [resD, resL]; try omega⟩
-- sizar/terms.distinct[int]
theorem walk35 (a b : List Int) (ht : (cat [a, b]).length ≤ 1000000) : Does Try.prog 35 [.sl 1 [[.sl 1 (ints a)], [.sl 1 (ints b)]]] (.dat (.sl 1 (ints (uniq (cat [a, b]))))) [] := by
  refine Does.intro [2] Try.func35 rfl (by kernel_rfl) Try.ntmps35 rfl (by decide) (Nat.le_of_ble_eq_true rfl) ?_
  refine T_seq ?_
  -- region 0
  refine T_region (is := [0]) rfl fun n p hn hp => ?_
  refine T_op rfl rfl fun c hc => ?_  -- 2 := assign nil
  simp; refine hc _ ?_; clear hc c
  refine T_end (hn _ ?_); clear hn hp n p
  refine T_then ?_
  refine T_seq ?_
  -- region 1
  refine T_region (is := [0, 1, 2]) rfl fun n p hn hp => ?_
  refine T_op rfl rfl fun c hc => ?_  -- 4 := move t0
  simp; refine hc _ ?_; clear hc c
  refine T_op rfl rfl fun c hc => ?_  -- 5 := call value F38 (t4) [48]
  simp
  refine CallS.dat (walk38 [a, b] (by simp) ht) rfl rfl rfl rfl ?_
  simp [enum]; refine hc _ ?_; clear hc c
  refine T_op rfl rfl fun c hc => ?_  -- 3 := assign t5
  simp; refine hc _ ?_; clear hc c
  refine T_end (hn _ ?_); clear hn hp n p
  refine T_then ?_
  refine T_seq ?_
  -- region 2
  refine T_region (is := [0, 1]) rfl fun n p hn hp => ?_
  refine T_op rfl rfl fun c hc => ?_  -- 6 := move t3
  simp; refine hc _ ?_; clear hc c
  refine T_op rfl rfl fun c hc => ?_  -- 7 := call value F39 (t6) [43]
  simp
  refine sort_call (b := 0) (ty := 3) (zs := cat [a, b]) rfl rfl (by omega) rfl ?_
  simp [enum]; refine hc _ ?_; clear hc c
  refine T_end (hn _ ?_); clear hn hp n p
  refine T_then ?_
  refine T_seq ?_
  -- region 3
  refine T_region (is := [0, 1, 2]) rfl fun n p hn hp => ?_
  refine T_op rfl rfl fun c hc => ?_  -- 8 := move t3
  simp; refine hc _ ?_; clear hc c
  refine T_op rfl rfl fun c hc => ?_  -- 9 := call value F40 (t8) [43]
  simp
  refine compact_call (b := 0) (ty := 3) (zs := (cat [a, b]).mergeSort fun x y => decide (x ≤ y)) rfl (by simp) (by simp; omega) rfl ?_
  simp [enum]; refine hc _ ?_; clear hc c
  refine T_op rfl rfl fun c hc => ?_  -- 2 := assign t9
  simp; refine hc _ ?_; clear hc c
  refine T_end (hn _ ?_); clear hn hp n p
  refine T_then ?_
  refine T_ret ?_
  have hcl := Lib.compact_length_le ((cat [a, b]).mergeSort fun x y => decide (x ≤ y))
  have hb : (Lib.compact ((cat [a, b]).mergeSort fun x y => decide (x ≤ y))).length ≤ big := by simp only [big]; simp at hcl; omega
  exact ⟨_, Ent.trans (Ent.give (t := 2) (n := 9) (e := .sl 1 (ints (uniq (cat [a, b])))) (hp' := []) rfl (by simp [Sx.give, hb, uniq])) (Ent.sub [2] [] (by simp [sub, subSl, subHp, place, mp, mpL, mpO]; rfl)), rfl, rfl, by simp [resD]⟩
-- sizar/terms.Union$1
theorem walk30 (x y : Bool) : Does Try.prog 30 [bV x, bV y] (.dat (bV (x || y))) [] := by
  refine Does.intro [4] Try.func30 rfl (by kernel_rfl) Try.ntmps30 rfl (by decide) (Nat.le_of_ble_eq_true rfl) ?_
  refine T_seq ?_
  -- region 0
  refine T_region (is := [0]) rfl fun n p hn hp => ?_
  refine T_op rfl rfl fun c hc => ?_  -- 4 := assign false
  simp; refine hc _ ?_; clear hc c
  refine T_end (hn _ ?_); clear hn hp n p
  refine T_then ?_
  refine T_seq ?_
  -- region 1
  refine T_region (is := [0, 1, 2, 3, 4]) rfl fun n p hn hp => ?_
  refine T_op rfl rfl fun c hc => ?_  -- 5 := move t0
  simp; refine hc _ ?_; clear hc c
  refine T_op rfl rfl fun c hc => ?_  -- 6 := move t5
  simp; refine hc _ ?_; clear hc c
  refine T_pure rfl (pstep_one rfl rfl rfl rfl fun g0 => .op rfl (by simp [g0]; rfl)) fun c hc => ?_  -- 7 := move t1
  simp; refine hc _ ?_; clear hc c
  refine T_op rfl rfl fun c hc => ?_  -- 8 := pick t6 true t7
  simp; refine hc _ ?_; clear hc c
  refine T_op rfl rfl fun c hc => ?_  -- 4 := assign t8
  simp; refine hc _ ?_; clear hc c
  refine T_end (hn _ ?_); clear hn hp n p
  refine T_then ?_
  refine T_ret ?_
  exact ⟨_, Ent.sub [4] [] (by simp [sub, subSl, subHp, place, mp, mpL, mpO]; rfl), rfl, rfl, by simp [resD, resL]; try omega⟩
-- sizar/terms.Meet$1
theorem walk32 (x y : Bool) : Does Try.prog 32 [bV x, bV y] (.dat (bV (x && y))) [] := by
  refine Does.intro [4] Try.func32 rfl (by kernel_rfl) Try.ntmps32 rfl (by decide) (Nat.le_of_ble_eq_true rfl) ?_
  refine T_seq ?_
  -- region 0
  refine T_region (is := [0]) rfl fun n p hn hp => ?_
  refine T_op rfl rfl fun c hc => ?_  -- 4 := assign false
  simp; refine hc _ ?_; clear hc c
  refine T_end (hn _ ?_); clear hn hp n p
  refine T_then ?_
  refine T_seq ?_
  -- region 1
  refine T_region (is := [0, 1, 2, 3, 4]) rfl fun n p hn hp => ?_
  refine T_op rfl rfl fun c hc => ?_  -- 5 := move t0
  simp; refine hc _ ?_; clear hc c
  refine T_op rfl rfl fun c hc => ?_  -- 6 := move t5
  simp; refine hc _ ?_; clear hc c
  refine T_pure rfl (pstep_one rfl rfl rfl rfl fun g0 => .op rfl (by simp [g0]; rfl)) fun c hc => ?_  -- 7 := move t1
  simp; refine hc _ ?_; clear hc c
  refine T_op rfl rfl fun c hc => ?_  -- 8 := pick t6 t7 false
  simp; refine hc _ ?_; clear hc c
  refine T_op rfl rfl fun c hc => ?_  -- 4 := assign t8
  simp; refine hc _ ?_; clear hc c
  refine T_end (hn _ ?_); clear hn hp n p
  refine T_then ?_
  refine T_ret ?_
  exact ⟨_, Ent.sub [4] [] (by simp [sub, subSl, subHp, place, mp, mpL, mpO]; rfl), rfl, rfl, by simp [resD, resL]; try omega⟩
-- sizar/terms.Minus$1
theorem walk33 (x y : Bool) : Does Try.prog 33 [bV x, bV y] (.dat (bV (x && !y))) [] := by
  refine Does.intro [4] Try.func33 rfl (by kernel_rfl) Try.ntmps33 rfl (by decide) (Nat.le_of_ble_eq_true rfl) ?_
  refine T_seq ?_
  -- region 0
  refine T_region (is := [0]) rfl fun n p hn hp => ?_
  refine T_op rfl rfl fun c hc => ?_  -- 4 := assign false
  simp; refine hc _ ?_; clear hc c
  refine T_end (hn _ ?_); clear hn hp n p
  refine T_then ?_
  refine T_seq ?_
  -- region 1
  refine T_region (is := [0, 1, 2, 3, 4, 5]) rfl fun n p hn hp => ?_
  refine T_op rfl rfl fun c hc => ?_  -- 5 := move t0
  simp; refine hc _ ?_; clear hc c
  refine T_op rfl rfl fun c hc => ?_  -- 6 := move t5
  simp; refine hc _ ?_; clear hc c
  refine T_pure rfl (pstep_one rfl rfl rfl rfl fun g0 => .op rfl (by simp [g0]; rfl)) fun c hc => ?_  -- 7 := move t1
  simp; refine hc _ ?_; clear hc c
  refine T_pure rfl (pstep_one rfl rfl rfl rfl fun g0 => .op rfl (by simp [g0]; rfl)) fun c hc => ?_  -- 8 := unOp 4 t7
  simp; refine hc _ ?_; clear hc c
  refine T_op rfl rfl fun c hc => ?_  -- 9 := pick t6 t8 false
  simp; refine hc _ ?_; clear hc c
  refine T_op rfl rfl fun c hc => ?_  -- 4 := assign t9
  simp; refine hc _ ?_; clear hc c
  refine T_end (hn _ ?_); clear hn hp n p
  refine T_then ?_
  refine T_ret ?_
  exact ⟨_, Ent.sub [4] [] (by simp [sub, subSl, subHp, place, mp, mpL, mpO]; rfl), rfl, rfl, by simp [resD, resL]; try omega⟩
end Go.Proofs.Ytehboominkoldaa
