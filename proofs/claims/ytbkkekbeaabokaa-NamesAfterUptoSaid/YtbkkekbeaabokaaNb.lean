/- The names: the smaller functions. -/
import Derived.Test.YtbkkekbeaabokaaNa
set_option linter.unusedVariables false
set_option linter.unusedSimpArgs false
namespace Go.Proofs.Ytbkkekbeaabokaa
open Go Go.Proofs.Ytbkkekbeaabokaa.Sx

-- WALKS
-- sizar/names.Find$1
theorem walk67 (x : Course) (name : ByteArray) : Does Try.prog 67 [.agg (courseD x), .ref [sD name]] (.dat (bV (x.name == name))) [] := by
  refine Does.intro [.tmp 3] Try.func67 rfl (by kernel_rfl) Try.ntmps67 rfl (Nat.le_of_ble_eq_true rfl) ?_
  refine T_seq ?_
  refine T_region (is := [0, 1]) rfl fun kn kp hn hp => ?_
  refine T_op rfl rfl fun kc hc => ?_
  simp; refine hc _ ?_; clear hc kc
  refine T_op rfl rfl fun kc hc => ?_
  simp; refine hc _ ?_; clear hc kc
  refine T_end (hn _ ?_); clear hn hp kn kp
  refine T_then ?_
  refine T_seq ?_
  refine T_region (is := [0, 1, 2, 3, 4]) rfl fun kn kp hn hp => ?_
  refine T_op rfl rfl fun kc hc => ?_
  simp; refine hc _ ?_; clear hc kc
  refine T_op rfl rfl fun kc hc => ?_
  simp; refine hc _ ?_; clear hc kc
  refine T_op rfl rfl fun kc hc => ?_
  simp; refine hc _ ?_; clear hc kc
  refine T_op rfl rfl fun kc hc => ?_
  simp; refine hc _ ?_; clear hc kc
  refine T_op rfl rfl fun kc hc => ?_
  simp; refine hc _ ?_; clear hc kc
  refine T_end (hn _ ?_); clear hn hp kn kp
  refine T_then ?_
  refine T_ret ?_
  exact finI (Ent.refl _) (by simp [resD, resL, resV]; rfl) (Ent.sub [] [] (by simp [sub, subSl, subHp, place, mp, mpL, mpO, mpG]; rfl)) rfl rfl (by simp)
-- sizar/names.meant$1
theorem walk86 (x : Course) (name : ByteArray) (number : Int) : Does Try.prog 86 [.agg (courseD x), .ref [sD name], .ref [iD number]] (.dat (bV (meansB name number x))) [] := by
  refine Does.intro [.tmp 4] Try.func86 rfl (by kernel_rfl) Try.ntmps86 rfl (Nat.le_of_ble_eq_true rfl) ?_
  refine T_seq ?_
  refine T_region (is := [0, 1]) rfl fun kn kp hn hp => ?_
  refine T_op rfl rfl fun kc hc => ?_
  simp; refine hc _ ?_; clear hc kc
  refine T_op rfl rfl fun kc hc => ?_
  simp; refine hc _ ?_; clear hc kc
  refine T_end (hn _ ?_); clear hn hp kn kp
  refine T_then ?_
  refine T_seq ?_
  refine T_seq ?_
  refine T_region (is := [0, 1]) rfl fun kn kp hn hp => ?_
  refine T_op rfl rfl fun kc hc => ?_
  simp; refine hc _ ?_; clear hc kc
  refine T_op rfl rfl fun kc hc => ?_
  simp; refine hc _ ?_; clear hc kc
  refine T_end (hn _ ?_); clear hn hp kn kp
  refine T_then ?_
  refine T_cond rfl (fun b1 => ?_) (fun b1 => ?_)
  · skip
    refine T_seq ?_
    refine T_region (is := [0, 1, 2, 3, 4]) rfl fun kn kp hn hp => ?_
    refine T_op rfl rfl fun kc hc => ?_
    simp; refine hc _ ?_; clear hc kc
    refine T_op rfl rfl fun kc hc => ?_
    simp; refine hc _ ?_; clear hc kc
    refine T_op rfl rfl fun kc hc => ?_
    simp; refine hc _ ?_; clear hc kc
    refine T_op rfl rfl fun kc hc => ?_
    simp; refine hc _ ?_; clear hc kc
    refine T_op rfl rfl fun kc hc => ?_
    simp; refine hc _ ?_; clear hc kc
    refine T_end (hn _ ?_); clear hn hp kn kp
    refine T_then ?_
    refine T_ret ?_
    refine X_thenR ?_
    have hm : meansB name number x = (x.name == name) := by simp at b1; simp [meansB, b1]
    exact finI (Ent.refl _) (by simp [resD, resL, resV]; rfl) (Ent.sub [] [] (by simp [sub, subSl, subHp, place, mp, mpL, mpO, mpG]; rfl)) rfl rfl (by simp [hm])
  · skip
    refine T_skip ?_
    refine T_then ?_
    refine T_seq ?_
    refine T_region (is := [0, 1, 2, 3, 4]) rfl fun kn kp hn hp => ?_
    refine T_op rfl rfl fun kc hc => ?_
    simp; refine hc _ ?_; clear hc kc
    refine T_op rfl rfl fun kc hc => ?_
    simp; refine hc _ ?_; clear hc kc
    refine T_op rfl rfl fun kc hc => ?_
    simp; refine hc _ ?_; clear hc kc
    refine T_op rfl rfl fun kc hc => ?_
    simp; refine hc _ ?_; clear hc kc
    refine T_op rfl rfl fun kc hc => ?_
    simp; refine hc _ ?_; clear hc kc
    refine T_end (hn _ ?_); clear hn hp kn kp
    refine T_then ?_
    refine T_ret ?_
    have hm : meansB name number x = (x.number == number) := by simp at b1; simp [meansB, b1]
    exact finI (Ent.refl _) (by simp [resD, resL, resV]; rfl) (Ent.sub [] [] (by simp [sub, subSl, subHp, place, mp, mpL, mpO, mpG]; rfl)) rfl rfl (by simp [hm])
-- slices.IndexFunc[[]sizar/api.Course,sizar/api.Course]
theorem walk66 (l : List Course) (g : FuncId) (caps : List Dat) (p : Course → Bool) (hg : ∀ x, Does Try.prog g (.agg (courseD x) :: caps) (.dat (bV (p x))) []) (hl : l.length ≤ 9223372036854775807) : Does Try.prog 66 [.sl 16 (l.map courseD), .fn g caps] (.dat (iD (idx p l 0))) [] := by
  refine Does.intro [.tmp 4] Try.func66 rfl (by kernel_rfl) Try.ntmps66 rfl (Nat.le_of_ble_eq_true rfl) ?_
  refine T_seq ?_
  refine T_region (is := [0]) rfl fun kn kp hn hp => ?_
  refine T_op rfl rfl fun kc hc => ?_
  simp; refine hc _ ?_; clear hc kc
  refine T_end (hn _ ?_); clear hn hp kn kp
  refine T_then ?_
  refine T_seq ?_
  refine T_seq ?_
  refine T_region (is := [0, 1, 2]) rfl fun kn kp hn hp => ?_
  refine T_op rfl rfl fun kc hc => ?_
  simp; refine hc _ ?_; clear hc kc
  refine T_op rfl rfl fun kc hc => ?_
  simp; refine hc _ ?_; clear hc kc
  refine T_op rfl rfl fun kc hc => ?_
  simp; refine hc _ ?_; clear hc kc
  refine T_end (hn _ ?_); clear hn hp kn kp
  refine T_then ?_
  refine T_block ?_
  refine T_loop (fun z : Nat => { sl := [(0, .dat (.sl 16 (l.map courseD))), (1, .dat (.fn g caps)), (6, .dat (.sl 16 (l.map courseD))), (7, .dat (iD l.length)), (8, .dat (iD z))], hp := [], nx := 0 }) (fun z => z ≤ l.length ∧ idx p l 0 = idx p (l.drop z) z) (fun z => l.length - z) 0 (Ent.sub [0, 1, 6, 7, 8] [] (by simp [sub, subSl, subHp, place, mp, mpL, mpO, mpG])) ⟨Nat.zero_le _, rfl⟩ fun z hz => ?_
  obtain ⟨hz, hk⟩ := hz
  refine T_seq ?_
  refine T_region (is := [0]) rfl fun kn kp hn hp => ?_
  refine T_op rfl rfl fun kc hc => ?_
  simp; refine hc _ ?_; clear hc kc
  refine T_end (hn _ ?_); clear hn hp kn kp
  refine T_then ?_
  refine T_seq ?_
  refine T_cond rfl (fun b1 => ?_) (fun b1 => ?_)
  · skip
    have hz' : z < l.length := by simpa using b1
    obtain ⟨x, hx⟩ : ∃ x, l[z]? = some x := ⟨_, List.getElem?_eq_getElem hz'⟩
    have e1 : IntKind.i64.wrap ((z : Int) + 1) = (z : Int) + 1 := wr1 hz' hl
    refine T_skip ?_
    refine T_then ?_
    refine T_seq ?_
    refine T_block ?_
    refine T_seq ?_
    refine T_region (is := [0, 1]) rfl fun kn kp hn hp => ?_
    refine T_op rfl rfl fun kc hc => ?_
    simp; refine hc _ ?_; clear hc kc
    refine T_op rfl rfl fun kc hc => ?_
    simp; refine hc _ ?_; clear hc kc
    refine T_end (hn _ ?_); clear hn hp kn kp
    refine T_then ?_
    refine T_seq ?_
    refine T_region (is := [0, 1, 2, 3, 4, 5]) rfl fun kn kp hn hp => ?_
    refine T_op rfl rfl fun kc hc => ?_
    simp; refine hc _ ?_; clear hc kc
    refine T_op rfl rfl fun kc hc => ?_
    simp; refine hc _ ?_; clear hc kc
    refine T_op rfl rfl fun kc hc => ?_
    simp; refine hc _ ?_; clear hc kc
    refine T_op rfl rfl fun kc hc => ?_
    simp [hx]; refine hc _ ?_; clear hc kc
    refine T_op rfl rfl fun kc hc => ?_
    simp; refine hc _ ?_; clear hc kc
    refine T_op rfl rfl fun kc hc => ?_
    simp
    refine CallS.dat (hg x) (by simp [datL, datOf]) rfl rfl rfl ?_
    simp [enum]; refine hc _ ?_; clear hc kc
    refine T_end (hn _ ?_); clear hn hp kn kp
    refine T_then ?_
    refine T_cond rfl (fun b2 => ?_) (fun b2 => ?_)
    · skip
      have hpx : p x = true := by simpa using b2
      have hres : idx p l 0 = z := by rw [hk, idx_at hx, hpx]; rfl
      refine T_seq ?_
      refine T_region (is := [0, 1]) rfl fun kn kp hn hp => ?_
      refine T_op rfl rfl fun kc hc => ?_
      simp; refine hc _ ?_; clear hc kc
      refine T_op rfl rfl fun kc hc => ?_
      simp; refine hc _ ?_; clear hc kc
      refine T_end (hn _ ?_); clear hn hp kn kp
      refine T_then ?_
      refine T_ret ?_
      refine X_blockR ?_
      refine X_thenR ?_
      refine X_loopR ?_
      refine X_blockR ?_
      refine X_thenR ?_
      exact finI (Ent.refl _) (by simp [resD, resL, resV]; rfl) (Ent.sub [] [] (by simp [sub, subSl, subHp, place, mp, mpL, mpO, mpG]; rfl)) rfl rfl (by simp [hres])
    · skip
      have hpx : p x = false := by simpa using b2
      refine T_skip ?_
      refine X_blockN ?_
      refine T_then ?_
      refine T_region (is := [0, 1]) rfl fun kn kp hn hp => ?_
      refine T_op rfl rfl fun kc hc => ?_
      simp [e1]; refine hc _ ?_; clear hc kc
      refine T_op rfl rfl fun kc hc => ?_
      simp; refine hc _ ?_; clear hc kc
      refine T_end (hn _ ?_); clear hn hp kn kp
      exact X_loopN (z + 1) (Ent.sub [0, 1, 6, 7, 8] [] (by simp [sub, subSl, subHp, place, mp, mpL, mpO, mpG, e1])) ⟨hz', by rw [hk, idx_at hx, hpx]; rfl⟩ (by omega)
  · skip
    have hz' : z = l.length := by simp at b1; omega
    have hend : idx p l 0 = -1 := by rw [hk]; exact idx_end (by omega)
    refine T_exit ?_
    refine X_thenE ?_
    refine X_loopE ?_
    refine X_hit ?_
    refine T_then ?_
    refine T_seq ?_
    refine T_region (is := [0]) rfl fun kn kp hn hp => ?_
    refine T_op rfl rfl fun kc hc => ?_
    simp; refine hc _ ?_; clear hc kc
    refine T_end (hn _ ?_); clear hn hp kn kp
    refine T_then ?_
    refine T_ret ?_
    exact finI (Ent.refl _) (by simp [resD, resL, resV]; rfl) (Ent.sub [] [] (by simp [sub, subSl, subHp, place, mp, mpL, mpO, mpG]; rfl)) rfl rfl (by simp [hend])
-- sizar/names.Find
theorem walk15 (c : Cat) (name : ByteArray) (hl : c.courses.length ≤ 9223372036854775807) : Does Try.prog 15 [.agg (catD c), sD name] (.tup [.dat (iD (findOf c name).1), .dat (bV (findOf c name).2)]) [] := by
  have w66 := walk66 c.courses 67 [.ref [sD name]] (fun y => y.name == name) (fun y => walk67 y name) hl
  refine Does.intro [.tmp 4, .tmp 5] Try.func15 rfl (by kernel_rfl) Try.ntmps15 rfl (Nat.le_of_ble_eq_true rfl) ?_
  refine T_seq ?_
  refine T_region (is := [0, 1, 2, 3]) rfl fun kn kp hn hp => ?_
  refine T_op rfl rfl fun kc hc => ?_
  simp; refine hc _ ?_; clear hc kc
  refine T_op rfl rfl fun kc hc => ?_
  simp; refine hc _ ?_; clear hc kc
  refine T_op rfl rfl fun kc hc => ?_
  simp; refine hc _ ?_; clear hc kc
  refine T_op rfl rfl fun kc hc => ?_
  simp; refine hc _ ?_; clear hc kc
  refine T_end (hn _ ?_); clear hn hp kn kp
  refine T_then ?_
  refine T_seq ?_
  refine T_region (is := [0, 1, 2, 3, 4]) rfl fun kn kp hn hp => ?_
  refine T_op rfl rfl fun kc hc => ?_
  simp; refine hc _ ?_; clear hc kc
  refine T_op rfl rfl fun kc hc => ?_
  simp; refine hc _ ?_; clear hc kc
  refine T_op rfl rfl fun kc hc => ?_
  simp; refine hc _ ?_; clear hc kc
  refine T_op rfl rfl fun kc hc => ?_
  simp
  refine CallS.lend (w66) (rfl) rfl rfl ?_
  simp [enum]; refine hc _ ?_; clear hc kc
  refine T_op rfl rfl fun kc hc => ?_
  simp; refine hc _ ?_; clear hc kc
  refine T_end (hn _ ?_); clear hn hp kn kp
  refine T_then ?_
  refine T_seq ?_
  refine T_seq ?_
  refine T_region (is := [0, 1]) rfl fun kn kp hn hp => ?_
  refine T_op rfl rfl fun kc hc => ?_
  simp; refine hc _ ?_; clear hc kc
  refine T_op rfl rfl fun kc hc => ?_
  simp; refine hc _ ?_; clear hc kc
  refine T_end (hn _ ?_); clear hn hp kn kp
  refine T_then ?_
  refine T_cond rfl (fun b1 => ?_) (fun b1 => ?_)
  · skip
    have hn : idx (fun y => y.name == name) c.courses 0 < 0 := by simpa using b1
    refine T_seq ?_
    refine T_region (is := [0, 1]) rfl fun kn kp hn hp => ?_
    refine T_op rfl rfl fun kc hc => ?_
    simp; refine hc _ ?_; clear hc kc
    refine T_op rfl rfl fun kc hc => ?_
    simp; refine hc _ ?_; clear hc kc
    refine T_end (hn _ ?_); clear hn hp kn kp
    refine T_then ?_
    refine T_ret ?_
    refine X_thenR ?_
    exact finI (Ent.refl _) (by simp [resD, resL, resV]; rfl) (Ent.sub [] [] (by simp [sub, subSl, subHp, place, mp, mpL, mpO, mpG]; rfl)) rfl rfl (by simp [findOf, hn])
  · skip
    rcases idx_range (p := fun y => y.name == name) (l := c.courses) (k := 0) with hi | ⟨i, y, hi, hy, hpy⟩
    · exfalso; simp at b1; rw [show ((0 : Nat) : Int) = 0 from rfl] at hi; omega
    simp at hi
    have hn : ¬ idx (fun y => y.name == name) c.courses 0 < 0 := by omega
    refine T_skip ?_
    refine T_then ?_
    refine T_seq ?_
    refine T_region (is := [0, 1, 2, 3, 4, 5, 6, 7]) rfl fun kn kp hn hp => ?_
    refine T_op rfl rfl fun kc hc => ?_
    simp; refine hc _ ?_; clear hc kc
    refine T_op rfl rfl fun kc hc => ?_
    simp; refine hc _ ?_; clear hc kc
    refine T_op rfl rfl fun kc hc => ?_
    simp; refine hc _ ?_; clear hc kc
    refine T_op rfl rfl fun kc hc => ?_
    simp [hi, hy]; refine hc _ ?_; clear hc kc
    refine T_op rfl rfl fun kc hc => ?_
    simp; refine hc _ ?_; clear hc kc
    refine T_op rfl rfl fun kc hc => ?_
    simp; refine hc _ ?_; clear hc kc
    refine T_op rfl rfl fun kc hc => ?_
    simp; refine hc _ ?_; clear hc kc
    refine T_op rfl rfl fun kc hc => ?_
    simp; refine hc _ ?_; clear hc kc
    refine T_end (hn _ ?_); clear hn hp kn kp
    refine T_then ?_
    refine T_ret ?_
    exact finI (Ent.refl _) (by simp [resD, resL, resV]; rfl) (Ent.sub [] [] (by simp [sub, subSl, subHp, place, mp, mpL, mpO, mpG]; rfl)) rfl rfl (by simp [findOf, hi, numAt, hy, (show ¬ ((i : Int) < 0) by omega)])
-- sizar/names.meant
theorem walk80 (c : Cat) (name : ByteArray) (number : Int) (hl : c.courses.length ≤ 9223372036854775807) : Does Try.prog 80 [.agg (catD c), sD name, iD number] (.dat (iD (meant c name number))) [] := by
  have w66 := walk66 c.courses 86 [.ref [sD name], .ref [iD number]] (meansB name number) (fun y => walk86 y name number) hl
  refine Does.intro [.tmp 6] Try.func80 rfl (by kernel_rfl) Try.ntmps80 rfl (Nat.le_of_ble_eq_true rfl) ?_
  refine T_seq ?_
  refine T_region (is := [0, 1, 2, 3]) rfl fun kn kp hn hp => ?_
  refine T_op rfl rfl fun kc hc => ?_
  simp; refine hc _ ?_; clear hc kc
  refine T_op rfl rfl fun kc hc => ?_
  simp; refine hc _ ?_; clear hc kc
  refine T_op rfl rfl fun kc hc => ?_
  simp; refine hc _ ?_; clear hc kc
  refine T_op rfl rfl fun kc hc => ?_
  simp; refine hc _ ?_; clear hc kc
  refine T_end (hn _ ?_); clear hn hp kn kp
  refine T_then ?_
  refine T_seq ?_
  refine T_region (is := [0, 1, 2, 3, 4]) rfl fun kn kp hn hp => ?_
  refine T_op rfl rfl fun kc hc => ?_
  simp; refine hc _ ?_; clear hc kc
  refine T_op rfl rfl fun kc hc => ?_
  simp; refine hc _ ?_; clear hc kc
  refine T_op rfl rfl fun kc hc => ?_
  simp; refine hc _ ?_; clear hc kc
  refine T_op rfl rfl fun kc hc => ?_
  simp
  refine CallS.lend (w66) (rfl) rfl rfl ?_
  simp [enum]; refine hc _ ?_; clear hc kc
  refine T_op rfl rfl fun kc hc => ?_
  simp; refine hc _ ?_; clear hc kc
  refine T_end (hn _ ?_); clear hn hp kn kp
  refine T_then ?_
  refine T_ret ?_
  exact finI (Ent.refl _) (by simp [resD, resL, resV]; rfl) (Ent.sub [] [] (by simp [sub, subSl, subHp, place, mp, mpL, mpO, mpG]; rfl)) rfl rfl (by simp [meant])
-- sizar/sizarref11.meant
theorem walk78 (c : Cat) (name : ByteArray) (number : Int) (hl : c.courses.length ≤ 9223372036854775807) : Does Try.prog 78 [.agg (catD c), sD name, iD number] (.dat (iD (meant c name number))) [] := by
  refine Does.intro [.tmp 6] Try.func78 rfl (by kernel_rfl) Try.ntmps78 rfl (Nat.le_of_ble_eq_true rfl) ?_
  refine T_seq ?_
  refine T_region (is := [0, 1]) rfl fun kn kp hn hp => ?_
  refine T_op rfl rfl fun kc hc => ?_
  simp; refine hc _ ?_; clear hc kc
  refine T_op rfl rfl fun kc hc => ?_
  simp; refine hc _ ?_; clear hc kc
  refine T_end (hn _ ?_); clear hn hp kn kp
  refine T_then ?_
  refine T_seq ?_
  refine T_seq ?_
  refine T_region (is := [0]) rfl fun kn kp hn hp => ?_
  refine T_op rfl rfl fun kc hc => ?_
  simp; refine hc _ ?_; clear hc kc
  refine T_end (hn _ ?_); clear hn hp kn kp
  refine T_then ?_
  refine T_block ?_
  refine T_loop (fun z : Nat => { sl := [(1, .dat (sD name)), (2, .dat (iD number)), (3, .ptr 0 0), (7, .dat (iD z))], hp := [(0, .var ((catD c).map .dat))], nx := 1 }) (fun z => z ≤ c.courses.length ∧ meant c name number = idx (meansB name number) (c.courses.drop z) z) (fun z => c.courses.length - z) 0 (Ent.sub [1, 2, 3, 7] [0] (by simp [sub, subSl, subHp, place, mp, mpL, mpO, mpG])) ⟨Nat.zero_le _, rfl⟩ fun z hz => ?_
  obtain ⟨hz, hk⟩ := hz
  refine T_seq ?_
  refine T_seq ?_
  refine T_region (is := [0, 1, 2, 3, 4]) rfl fun kn kp hn hp => ?_
  refine T_op rfl rfl fun kc hc => ?_
  simp; refine hc _ ?_; clear hc kc
  refine T_op rfl rfl fun kc hc => ?_
  simp; refine hc _ ?_; clear hc kc
  refine T_op rfl rfl fun kc hc => ?_
  simp; refine hc _ ?_; clear hc kc
  refine T_op rfl rfl fun kc hc => ?_
  simp; refine hc _ ?_; clear hc kc
  refine T_op rfl rfl fun kc hc => ?_
  simp; refine hc _ ?_; clear hc kc
  refine T_end (hn _ ?_); clear hn hp kn kp
  refine T_then ?_
  refine T_cond rfl (fun b1 => ?_) (fun b1 => ?_)
  · skip
    have hz' : z < c.courses.length := by simpa using b1
    obtain ⟨x, hx⟩ : ∃ x, c.courses[z]? = some x := ⟨_, List.getElem?_eq_getElem hz'⟩
    have e1 : IntKind.i64.wrap ((z : Int) + 1) = (z : Int) + 1 := wr1 hz' hl
    refine T_skip ?_
    refine T_then ?_
    refine T_seq ?_
    refine T_block ?_
    refine T_seq ?_
    refine T_region (is := [0, 1, 2, 3, 4, 5, 6, 7, 8, 9, 10, 11, 12, 13, 14, 15, 16, 17, 18, 19, 20, 21, 22, 23, 24, 25]) rfl fun kn kp hn hp => ?_
    refine T_op rfl rfl fun kc hc => ?_
    simp; refine hc _ ?_; clear hc kc
    refine T_op rfl rfl fun kc hc => ?_
    simp; refine hc _ ?_; clear hc kc
    refine T_op rfl rfl fun kc hc => ?_
    simp; refine hc _ ?_; clear hc kc
    refine T_pure rfl (pstep_one rfl rfl rfl rfl fun g0 => .op rfl (by simp [g0]; rfl)) fun kc hc => ?_
    simp; refine hc _ ?_; clear hc kc
    refine T_pure rfl (pstep_one rfl rfl rfl rfl fun g0 => .op rfl (by simp [g0]; rfl)) fun kc hc => ?_
    simp; refine hc _ ?_; clear hc kc
    refine T_pure rfl (pstep_one rfl rfl rfl rfl fun g0 => .op rfl (by simp [g0]; rfl)) fun kc hc => ?_
    simp; refine hc _ ?_; clear hc kc
    refine T_pure rfl (pstep_one rfl rfl rfl rfl fun g0 => .op rfl (by simp [g0, hx]; rfl)) fun kc hc => ?_
    simp; refine hc _ ?_; clear hc kc
    refine T_pure rfl (pstep_one rfl rfl rfl rfl fun g0 => .op rfl (by simp [g0]; rfl)) fun kc hc => ?_
    simp; refine hc _ ?_; clear hc kc
    refine T_pure rfl (pstep_one rfl rfl rfl rfl fun g0 => .op rfl (by simp [g0]; rfl)) fun kc hc => ?_
    simp; refine hc _ ?_; clear hc kc
    refine T_pure rfl (pstep_one rfl rfl rfl rfl fun g0 => .op rfl (by simp [g0]; rfl)) fun kc hc => ?_
    simp; refine hc _ ?_; clear hc kc
    refine T_pure rfl (pstep_one rfl rfl rfl rfl fun g0 => .op rfl (by simp [g0]; rfl)) fun kc hc => ?_
    simp; refine hc _ ?_; clear hc kc
    refine T_op rfl rfl fun kc hc => ?_
    simp; refine hc _ ?_; clear hc kc
    refine T_op rfl rfl fun kc hc => ?_
    simp; refine hc _ ?_; clear hc kc
    refine T_pure rfl (pstep_one rfl rfl rfl rfl fun g0 => .op rfl (by simp [g0]; rfl)) fun kc hc => ?_
    simp; refine hc _ ?_; clear hc kc
    refine T_pure rfl (pstep_one rfl rfl rfl rfl fun g0 => .op rfl (by simp [g0]; rfl)) fun kc hc => ?_
    simp; refine hc _ ?_; clear hc kc
    refine T_pure rfl (pstep_one rfl rfl rfl rfl fun g0 => .op rfl (by simp [g0]; rfl)) fun kc hc => ?_
    simp; refine hc _ ?_; clear hc kc
    refine T_pure rfl (pstep_two rfl rfl rfl rfl fun g0 g1 => .op rfl (by simp [g0, g1]; rfl)) fun kc hc => ?_
    simp; refine hc _ ?_; clear hc kc
    refine T_pure rfl (pstep_two rfl rfl rfl rfl fun g0 g1 => .op rfl (by simp [g0, g1]; rfl)) fun kc hc => ?_
    simp; refine hc _ ?_; clear hc kc
    refine T_pure rfl (pstep_two rfl rfl rfl rfl fun g0 g1 => .op rfl (by simp [g0, g1]; rfl)) fun kc hc => ?_
    simp; refine hc _ ?_; clear hc kc
    refine T_pure rfl (pstep_two rfl rfl rfl rfl fun g0 g1 => .op rfl (by simp [g0, g1, hx]; rfl)) fun kc hc => ?_
    simp; refine hc _ ?_; clear hc kc
    refine T_pure rfl (pstep_two rfl rfl rfl rfl fun g0 g1 => .op rfl (by simp [g0, g1]; rfl)) fun kc hc => ?_
    simp; refine hc _ ?_; clear hc kc
    refine T_pure rfl (pstep_two rfl rfl rfl rfl fun g0 g1 => .op rfl (by simp [g0, g1]; rfl)) fun kc hc => ?_
    simp; refine hc _ ?_; clear hc kc
    refine T_pure rfl (pstep_two rfl rfl rfl rfl fun g0 g1 => .op rfl (by simp [g0, g1]; rfl)) fun kc hc => ?_
    simp; refine hc _ ?_; clear hc kc
    refine T_pure rfl (pstep_two rfl rfl rfl rfl fun g0 g1 => .op rfl (by simp [g0, g1]; rfl)) fun kc hc => ?_
    simp; refine hc _ ?_; clear hc kc
    refine T_pure rfl (pstep_one rfl rfl rfl rfl fun g0 => .op rfl (by simp [g0]; rfl)) fun kc hc => ?_
    simp; refine hc _ ?_; clear hc kc
    refine T_op rfl rfl fun kc hc => ?_
    simp; refine hc _ ?_; clear hc kc
    refine T_end (hn _ ?_); clear hn hp kn kp
    refine T_then ?_
    refine T_cond rfl (fun b2 => ?_) (fun b2 => ?_)
    · skip
      have hpx : meansB name number x = true := by unfold meansB; cases he : name == eS <;> simp [he] at b2 ⊢ <;> simp [b2]
      have hres : meant c name number = z := by rw [hk, idx_at hx, hpx]; rfl
      refine T_seq ?_
      refine T_region (is := [0, 1]) rfl fun kn kp hn hp => ?_
      refine T_op rfl rfl fun kc hc => ?_
      simp; refine hc _ ?_; clear hc kc
      refine T_op rfl rfl fun kc hc => ?_
      simp; refine hc _ ?_; clear hc kc
      refine T_end (hn _ ?_); clear hn hp kn kp
      refine T_then ?_
      refine T_ret ?_
      refine X_blockR ?_
      refine X_thenR ?_
      refine X_loopR ?_
      refine X_blockR ?_
      refine X_thenR ?_
      exact finI (Ent.refl _) (by simp [resD, resL, resV]; rfl) (Ent.sub [] [] (by simp [sub, subSl, subHp, place, mp, mpL, mpO, mpG]; rfl)) rfl rfl (by simp [hres])
    · skip
      have hpx : meansB name number x = false := by unfold meansB; cases he : name == eS <;> simp [he] at b2 ⊢ <;> simp [b2]
      refine T_skip ?_
      refine X_blockN ?_
      refine T_then ?_
      refine T_region (is := [0, 1, 2]) rfl fun kn kp hn hp => ?_
      refine T_op rfl rfl fun kc hc => ?_
      simp; refine hc _ ?_; clear hc kc
      refine T_op rfl rfl fun kc hc => ?_
      simp [e1]; refine hc _ ?_; clear hc kc
      refine T_op rfl rfl fun kc hc => ?_
      simp; refine hc _ ?_; clear hc kc
      refine T_end (hn _ ?_); clear hn hp kn kp
      exact X_loopN (z + 1) (Ent.sub [1, 2, 3, 7] [0] (by simp [sub, subSl, subHp, place, mp, mpL, mpO, mpG, e1])) ⟨hz', by rw [hk, idx_at hx, hpx]; rfl⟩ (by omega)
  · skip
    have hz' : z = c.courses.length := by simp at b1; omega
    have hend : meant c name number = -1 := by rw [hk]; exact idx_end (by omega)
    refine T_exit ?_
    refine X_thenE ?_
    refine X_loopE ?_
    refine X_hit ?_
    refine T_then ?_
    refine T_seq ?_
    refine T_region (is := [0]) rfl fun kn kp hn hp => ?_
    refine T_op rfl rfl fun kc hc => ?_
    simp; refine hc _ ?_; clear hc kc
    refine T_end (hn _ ?_); clear hn hp kn kp
    refine T_then ?_
    refine T_ret ?_
    exact finI (Ent.refl _) (by simp [resD, resL, resV]; rfl) (Ent.sub [] [] (by simp [sub, subSl, subHp, place, mp, mpL, mpO, mpG]; rfl)) rfl rfl (by simp [hend])
-- sizar/sizarref11.Find
theorem walk16 (c : Cat) (name : ByteArray) (hl : c.courses.length ≤ 9223372036854775807) : Does Try.prog 16 [.agg (catD c), sD name] (.tup [.dat (iD (findOf c name).1), .dat (bV (findOf c name).2)]) [] := by
  refine Does.intro [.tmp 4, .tmp 5] Try.func16 rfl (by kernel_rfl) Try.ntmps16 rfl (Nat.le_of_ble_eq_true rfl) ?_
  refine T_seq ?_
  refine T_region (is := [0, 1, 2]) rfl fun kn kp hn hp => ?_
  refine T_op rfl rfl fun kc hc => ?_
  simp; refine hc _ ?_; clear hc kc
  refine T_op rfl rfl fun kc hc => ?_
  simp; refine hc _ ?_; clear hc kc
  refine T_op rfl rfl fun kc hc => ?_
  simp; refine hc _ ?_; clear hc kc
  refine T_end (hn _ ?_); clear hn hp kn kp
  refine T_then ?_
  refine T_seq ?_
  refine T_seq ?_
  refine T_region (is := [0]) rfl fun kn kp hn hp => ?_
  refine T_op rfl rfl fun kc hc => ?_
  simp; refine hc _ ?_; clear hc kc
  refine T_end (hn _ ?_); clear hn hp kn kp
  refine T_then ?_
  refine T_block ?_
  refine T_loop (fun z : Nat => { sl := [(1, .dat (sD name)), (2, .ptr 0 0), (6, .dat (iD z))], hp := [(0, .var ((catD c).map .dat))], nx := 1 }) (fun z => z ≤ c.courses.length ∧ idx (fun y => y.name == name) c.courses 0 = idx (fun y => y.name == name) (c.courses.drop z) z) (fun z => c.courses.length - z) 0 (Ent.sub [1, 2, 6] [0] (by simp [sub, subSl, subHp, place, mp, mpL, mpO, mpG])) ⟨Nat.zero_le _, rfl⟩ fun z hz => ?_
  obtain ⟨hz, hk⟩ := hz
  refine T_seq ?_
  refine T_seq ?_
  refine T_region (is := [0, 1, 2, 3, 4]) rfl fun kn kp hn hp => ?_
  refine T_op rfl rfl fun kc hc => ?_
  simp; refine hc _ ?_; clear hc kc
  refine T_op rfl rfl fun kc hc => ?_
  simp; refine hc _ ?_; clear hc kc
  refine T_op rfl rfl fun kc hc => ?_
  simp; refine hc _ ?_; clear hc kc
  refine T_op rfl rfl fun kc hc => ?_
  simp; refine hc _ ?_; clear hc kc
  refine T_op rfl rfl fun kc hc => ?_
  simp; refine hc _ ?_; clear hc kc
  refine T_end (hn _ ?_); clear hn hp kn kp
  refine T_then ?_
  refine T_cond rfl (fun b1 => ?_) (fun b1 => ?_)
  · skip
    have hz' : z < c.courses.length := by simpa using b1
    obtain ⟨x, hx⟩ : ∃ x, c.courses[z]? = some x := ⟨_, List.getElem?_eq_getElem hz'⟩
    have e1 : IntKind.i64.wrap ((z : Int) + 1) = (z : Int) + 1 := wr1 hz' hl
    refine T_skip ?_
    refine T_then ?_
    refine T_seq ?_
    refine T_block ?_
    refine T_seq ?_
    refine T_region (is := [0, 1, 2, 3, 4, 5, 6, 7]) rfl fun kn kp hn hp => ?_
    refine T_op rfl rfl fun kc hc => ?_
    simp; refine hc _ ?_; clear hc kc
    refine T_op rfl rfl fun kc hc => ?_
    simp; refine hc _ ?_; clear hc kc
    refine T_op rfl rfl fun kc hc => ?_
    simp; refine hc _ ?_; clear hc kc
    refine T_op rfl rfl fun kc hc => ?_
    simp [hx]; refine hc _ ?_; clear hc kc
    refine T_op rfl rfl fun kc hc => ?_
    simp; refine hc _ ?_; clear hc kc
    refine T_op rfl rfl fun kc hc => ?_
    simp; refine hc _ ?_; clear hc kc
    refine T_op rfl rfl fun kc hc => ?_
    simp; refine hc _ ?_; clear hc kc
    refine T_op rfl rfl fun kc hc => ?_
    simp; refine hc _ ?_; clear hc kc
    refine T_end (hn _ ?_); clear hn hp kn kp
    refine T_then ?_
    refine T_cond rfl (fun b2 => ?_) (fun b2 => ?_)
    · skip
      have hpx : (x.name == name) = true := by simpa using b2
      have hres : idx (fun y => y.name == name) c.courses 0 = z := by rw [hk, idx_at hx, hpx]; rfl
      refine T_seq ?_
      refine T_region (is := [0, 1, 2, 3, 4, 5, 6, 7]) rfl fun kn kp hn hp => ?_
      refine T_op rfl rfl fun kc hc => ?_
      simp; refine hc _ ?_; clear hc kc
      refine T_op rfl rfl fun kc hc => ?_
      simp; refine hc _ ?_; clear hc kc
      refine T_op rfl rfl fun kc hc => ?_
      simp; refine hc _ ?_; clear hc kc
      refine T_op rfl rfl fun kc hc => ?_
      simp [hx]; refine hc _ ?_; clear hc kc
      refine T_op rfl rfl fun kc hc => ?_
      simp; refine hc _ ?_; clear hc kc
      refine T_op rfl rfl fun kc hc => ?_
      simp; refine hc _ ?_; clear hc kc
      refine T_op rfl rfl fun kc hc => ?_
      simp; refine hc _ ?_; clear hc kc
      refine T_op rfl rfl fun kc hc => ?_
      simp; refine hc _ ?_; clear hc kc
      refine T_end (hn _ ?_); clear hn hp kn kp
      refine T_then ?_
      refine T_ret ?_
      refine X_blockR ?_
      refine X_thenR ?_
      refine X_loopR ?_
      refine X_blockR ?_
      refine X_thenR ?_
      exact finI (Ent.refl _) (by simp [resD, resL, resV]; rfl) (Ent.sub [] [] (by simp [sub, subSl, subHp, place, mp, mpL, mpO, mpG]; rfl)) rfl rfl (by simp [findOf, hres, numAt_get hx, (show ¬ ((z : Int) < 0) by omega)])
    · skip
      have hpx : (x.name == name) = false := by simpa using b2
      refine T_skip ?_
      refine X_blockN ?_
      refine T_then ?_
      refine T_region (is := [0, 1, 2]) rfl fun kn kp hn hp => ?_
      refine T_op rfl rfl fun kc hc => ?_
      simp; refine hc _ ?_; clear hc kc
      refine T_op rfl rfl fun kc hc => ?_
      simp [e1]; refine hc _ ?_; clear hc kc
      refine T_op rfl rfl fun kc hc => ?_
      simp; refine hc _ ?_; clear hc kc
      refine T_end (hn _ ?_); clear hn hp kn kp
      exact X_loopN (z + 1) (Ent.sub [1, 2, 6] [0] (by simp [sub, subSl, subHp, place, mp, mpL, mpO, mpG, e1])) ⟨hz', by rw [hk, idx_at hx, hpx]; rfl⟩ (by omega)
  · skip
    have hz' : z = c.courses.length := by simp at b1; omega
    have hend : idx (fun y => y.name == name) c.courses 0 = -1 := by rw [hk]; exact idx_end (by omega)
    refine T_exit ?_
    refine X_thenE ?_
    refine X_loopE ?_
    refine X_hit ?_
    refine T_then ?_
    refine T_seq ?_
    refine T_region (is := [0, 1]) rfl fun kn kp hn hp => ?_
    refine T_op rfl rfl fun kc hc => ?_
    simp; refine hc _ ?_; clear hc kc
    refine T_op rfl rfl fun kc hc => ?_
    simp; refine hc _ ?_; clear hc kc
    refine T_end (hn _ ?_); clear hn hp kn kp
    refine T_then ?_
    refine T_ret ?_
    exact finI (Ent.refl _) (by simp [resD, resL, resV]; rfl) (Ent.sub [] [] (by simp [sub, subSl, subHp, place, mp, mpL, mpO, mpG]; rfl)) rfl rfl (by simp [findOf, hend])
-- sizar/names.demand
theorem walk29 (e : Int) : Does Try.prog 29 [bV true, iD e] (.tup []) [] := by
  refine Does.intro [] Try.func29 rfl (by kernel_rfl) Try.ntmps29 rfl (Nat.le_of_ble_eq_true rfl) ?_
  refine T_seq ?_
  refine T_region (is := [0, 1]) rfl fun kn kp hn hp => ?_
  refine T_op rfl rfl fun kc hc => ?_
  simp; refine hc _ ?_; clear hc kc
  refine T_op rfl rfl fun kc hc => ?_
  simp; refine hc _ ?_; clear hc kc
  refine T_end (hn _ ?_); clear hn hp kn kp
  refine T_then ?_
  refine T_false (by simp) ?_
  refine T_skip ?_
  exact finI (Ent.refl _) (by simp [resD, resL, resV]; rfl) (Ent.sub [] [] (by simp [sub, subSl, subHp, place, mp, mpL, mpO, mpG]; rfl)) rfl rfl (by simp)
-- sizar/names.demand
theorem pan29 (e : Int) : DoesP Try.prog 29 [bV false, iD e] (thrown e) := by
  refine DoesP.intro Try.func29 rfl (by kernel_rfl) Try.ntmps29 (Nat.le_of_ble_eq_true rfl) ?_
  refine T_seq ?_
  refine T_region (is := [0, 1]) rfl fun kn kp hn hp => ?_
  refine T_op rfl rfl fun kc hc => ?_
  simp; refine hc _ ?_; clear hc kc
  refine T_op rfl rfl fun kc hc => ?_
  simp; refine hc _ ?_; clear hc kc
  refine T_end (hn _ ?_); clear hn hp kn kp
  refine T_then ?_
  refine T_true (by simp) ?_
  refine T_region (is := [0, 1, 2, 3]) rfl fun kn kp hn hp => ?_
  refine T_op rfl rfl fun kc hc => ?_
  simp; refine hc _ ?_; clear hc kc
  refine T_op rfl rfl fun kc hc => ?_
  simp; refine hc _ ?_; clear hc kc
  refine T_op rfl rfl fun kc hc => ?_
  simp; refine hc _ ?_; clear hc kc
  refine T_op rfl rfl fun kc hc => ?_
  simp
  refine hp _ _ ?_
  rfl
-- sizar/sizarref11.mentions
theorem walk81 (o : Int) : Does Try.prog 81 [iD o] (.dat (bV (o == 5 || (o == 6 || o == 9)))) [] := by
  refine Does.intro [.tmp 2] Try.func81 rfl (by kernel_rfl) Try.ntmps81 rfl (Nat.le_of_ble_eq_true rfl) ?_
  refine T_seq ?_
  refine T_region (is := [0]) rfl fun kn kp hn hp => ?_
  refine T_op rfl rfl fun kc hc => ?_
  simp; refine hc _ ?_; clear hc kc
  refine T_end (hn _ ?_); clear hn hp kn kp
  refine T_then ?_
  refine T_seq ?_
  refine T_region (is := [0, 1, 2, 3, 4, 5, 6, 7, 8, 9, 10]) rfl fun kn kp hn hp => ?_
  refine T_op rfl rfl fun kc hc => ?_
  simp; refine hc _ ?_; clear hc kc
  refine T_op rfl rfl fun kc hc => ?_
  simp; refine hc _ ?_; clear hc kc
  refine T_op rfl rfl fun kc hc => ?_
  simp; refine hc _ ?_; clear hc kc
  refine T_pure rfl (pstep_one rfl rfl rfl rfl fun g0 => .op rfl (by simp [g0]; rfl)) fun kc hc => ?_
  simp; refine hc _ ?_; clear hc kc
  refine T_pure rfl (pstep_one rfl rfl rfl rfl fun g0 => .op rfl (by simp [g0]; rfl)) fun kc hc => ?_
  simp; refine hc _ ?_; clear hc kc
  refine T_op rfl rfl fun kc hc => ?_
  simp; refine hc _ ?_; clear hc kc
  refine T_op rfl rfl fun kc hc => ?_
  simp; refine hc _ ?_; clear hc kc
  refine T_pure rfl (pstep_one rfl rfl rfl rfl fun g0 => .op rfl (by simp [g0]; rfl)) fun kc hc => ?_
  simp; refine hc _ ?_; clear hc kc
  refine T_pure rfl (pstep_one rfl rfl rfl rfl fun g0 => .op rfl (by simp [g0]; rfl)) fun kc hc => ?_
  simp; refine hc _ ?_; clear hc kc
  refine T_op rfl rfl fun kc hc => ?_
  simp; refine hc _ ?_; clear hc kc
  refine T_op rfl rfl fun kc hc => ?_
  simp; refine hc _ ?_; clear hc kc
  refine T_end (hn _ ?_); clear hn hp kn kp
  refine T_then ?_
  refine T_ret ?_
  exact finI (Ent.refl _) (by simp [resD, resL, resV]; rfl) (Ent.sub [] [] (by simp [sub, subSl, subHp, place, mp, mpL, mpO, mpG]; rfl)) rfl rfl (by simp; cases o == 5 <;> cases o == 6 <;> rfl)
-- sizar/sizarref11.has
theorem walk74 (l : List Int) (n : Int) (hl : l.length ≤ 9223372036854775807) : Does Try.prog 74 [ints l, iD n] (.dat (bV (has l n))) [] := by
  refine Does.intro [.tmp 4] Try.func74 rfl (by kernel_rfl) Try.ntmps74 rfl (Nat.le_of_ble_eq_true rfl) ?_
  refine T_seq ?_
  refine T_region (is := [0]) rfl fun kn kp hn hp => ?_
  refine T_op rfl rfl fun kc hc => ?_
  simp; refine hc _ ?_; clear hc kc
  refine T_end (hn _ ?_); clear hn hp kn kp
  refine T_then ?_
  refine T_seq ?_
  refine T_seq ?_
  refine T_region (is := [0]) rfl fun kn kp hn hp => ?_
  refine T_op rfl rfl fun kc hc => ?_
  simp; refine hc _ ?_; clear hc kc
  refine T_end (hn _ ?_); clear hn hp kn kp
  refine T_then ?_
  refine T_block ?_
  refine T_loop (fun z : Nat => { sl := [(0, .dat (ints l)), (1, .dat (iD n)), (5, .dat (iD z))], hp := [], nx := 0 }) (fun z => z ≤ l.length ∧ has (l.take z) n = false) (fun z => l.length - z) 0 (Ent.sub [0, 1, 5] [] (by simp [sub, subSl, subHp, place, mp, mpL, mpO, mpG])) ⟨Nat.zero_le _, rfl⟩ fun z hz => ?_
  obtain ⟨hz, hk⟩ := hz
  refine T_seq ?_
  refine T_seq ?_
  refine T_region (is := [0, 1, 2, 3]) rfl fun kn kp hn hp => ?_
  refine T_op rfl rfl fun kc hc => ?_
  simp; refine hc _ ?_; clear hc kc
  refine T_op rfl rfl fun kc hc => ?_
  simp; refine hc _ ?_; clear hc kc
  refine T_op rfl rfl fun kc hc => ?_
  simp; refine hc _ ?_; clear hc kc
  refine T_op rfl rfl fun kc hc => ?_
  simp; refine hc _ ?_; clear hc kc
  refine T_end (hn _ ?_); clear hn hp kn kp
  refine T_then ?_
  refine T_cond rfl (fun b1 => ?_) (fun b1 => ?_)
  · skip
    have hz' : z < l.length := by simpa using b1
    obtain ⟨x, hx⟩ : ∃ x, l[z]? = some x := ⟨_, List.getElem?_eq_getElem hz'⟩
    have e1 : IntKind.i64.wrap ((z : Int) + 1) = (z : Int) + 1 := wr1 hz' hl
    refine T_skip ?_
    refine T_then ?_
    refine T_seq ?_
    refine T_block ?_
    refine T_seq ?_
    refine T_region (is := [0, 1, 2, 3, 4, 5]) rfl fun kn kp hn hp => ?_
    refine T_op rfl rfl fun kc hc => ?_
    simp; refine hc _ ?_; clear hc kc
    refine T_op rfl rfl fun kc hc => ?_
    simp; refine hc _ ?_; clear hc kc
    refine T_op rfl rfl fun kc hc => ?_
    simp [hx]; refine hc _ ?_; clear hc kc
    refine T_op rfl rfl fun kc hc => ?_
    simp; refine hc _ ?_; clear hc kc
    refine T_op rfl rfl fun kc hc => ?_
    simp; refine hc _ ?_; clear hc kc
    refine T_op rfl rfl fun kc hc => ?_
    simp; refine hc _ ?_; clear hc kc
    refine T_end (hn _ ?_); clear hn hp kn kp
    refine T_then ?_
    refine T_cond rfl (fun b2 => ?_) (fun b2 => ?_)
    · skip
      have hpx : (x == n) = true := by simpa using b2
      have hres : has l n = true := by simp only [has, List.any_eq_true]; exact ⟨x, List.mem_of_getElem? hx, hpx⟩
      refine T_seq ?_
      refine T_region (is := [0]) rfl fun kn kp hn hp => ?_
      refine T_op rfl rfl fun kc hc => ?_
      simp; refine hc _ ?_; clear hc kc
      refine T_end (hn _ ?_); clear hn hp kn kp
      refine T_then ?_
      refine T_ret ?_
      refine X_blockR ?_
      refine X_thenR ?_
      refine X_loopR ?_
      refine X_blockR ?_
      refine X_thenR ?_
      exact finI (Ent.refl _) (by simp [resD, resL, resV]; rfl) (Ent.sub [] [] (by simp [sub, subSl, subHp, place, mp, mpL, mpO, mpG]; rfl)) rfl rfl (by simp [hres])
    · skip
      have hpx : (x == n) = false := by simpa using b2
      refine T_skip ?_
      refine X_blockN ?_
      refine T_then ?_
      refine T_region (is := [0, 1, 2]) rfl fun kn kp hn hp => ?_
      refine T_op rfl rfl fun kc hc => ?_
      simp; refine hc _ ?_; clear hc kc
      refine T_op rfl rfl fun kc hc => ?_
      simp [e1]; refine hc _ ?_; clear hc kc
      refine T_op rfl rfl fun kc hc => ?_
      simp; refine hc _ ?_; clear hc kc
      refine T_end (hn _ ?_); clear hn hp kn kp
      exact X_loopN (z + 1) (Ent.sub [0, 1, 5] [] (by simp [sub, subSl, subHp, place, mp, mpL, mpO, mpG, e1])) ⟨hz', by rw [has_next hx, hk, hpx]; rfl⟩ (by omega)
  · skip
    have hz' : z = l.length := by simp at b1; omega
    have hend : has l n = false := by rw [← hk, hz', List.take_length]
    refine T_exit ?_
    refine X_thenE ?_
    refine X_loopE ?_
    refine X_hit ?_
    refine T_then ?_
    refine T_seq ?_
    refine T_region (is := [0]) rfl fun kn kp hn hp => ?_
    refine T_op rfl rfl fun kc hc => ?_
    simp; refine hc _ ?_; clear hc kc
    refine T_end (hn _ ?_); clear hn hp kn kp
    refine T_then ?_
    refine T_ret ?_
    exact finI (Ent.refl _) (by simp [resD, resL, resV]; rfl) (Ent.sub [] [] (by simp [sub, subSl, subHp, place, mp, mpL, mpO, mpG]; rfl)) rfl rfl (by simp [hend])
-- slices.Index[[]int,int]
theorem walk73 (l : List Int) (n : Int) (hl : l.length ≤ 9223372036854775807) : Does Try.prog 73 [ints l, iD n] (.dat (iD (idx (fun x => n == x) l 0))) [] := by
  refine Does.intro [.tmp 4] Try.func73 rfl (by kernel_rfl) Try.ntmps73 rfl (Nat.le_of_ble_eq_true rfl) ?_
  refine T_seq ?_
  refine T_region (is := [0]) rfl fun kn kp hn hp => ?_
  refine T_op rfl rfl fun kc hc => ?_
  simp; refine hc _ ?_; clear hc kc
  refine T_end (hn _ ?_); clear hn hp kn kp
  refine T_then ?_
  refine T_seq ?_
  refine T_seq ?_
  refine T_region (is := [0, 1, 2]) rfl fun kn kp hn hp => ?_
  refine T_op rfl rfl fun kc hc => ?_
  simp; refine hc _ ?_; clear hc kc
  refine T_op rfl rfl fun kc hc => ?_
  simp; refine hc _ ?_; clear hc kc
  refine T_op rfl rfl fun kc hc => ?_
  simp; refine hc _ ?_; clear hc kc
  refine T_end (hn _ ?_); clear hn hp kn kp
  refine T_then ?_
  refine T_block ?_
  refine T_loop (fun z : Nat => { sl := [(0, .dat (ints l)), (1, .dat (iD n)), (6, .dat (ints l)), (7, .dat (iD l.length)), (8, .dat (iD z))], hp := [], nx := 0 }) (fun z => z ≤ l.length ∧ idx (fun x => n == x) l 0 = idx (fun x => n == x) (l.drop z) z) (fun z => l.length - z) 0 (Ent.sub [0, 1, 6, 7, 8] [] (by simp [sub, subSl, subHp, place, mp, mpL, mpO, mpG])) ⟨Nat.zero_le _, rfl⟩ fun z hz => ?_
  obtain ⟨hz, hk⟩ := hz
  refine T_seq ?_
  refine T_region (is := [0]) rfl fun kn kp hn hp => ?_
  refine T_op rfl rfl fun kc hc => ?_
  simp; refine hc _ ?_; clear hc kc
  refine T_end (hn _ ?_); clear hn hp kn kp
  refine T_then ?_
  refine T_seq ?_
  refine T_cond rfl (fun b1 => ?_) (fun b1 => ?_)
  · skip
    have hz' : z < l.length := by simpa using b1
    obtain ⟨x, hx⟩ : ∃ x, l[z]? = some x := ⟨_, List.getElem?_eq_getElem hz'⟩
    have e1 : IntKind.i64.wrap ((z : Int) + 1) = (z : Int) + 1 := wr1 hz' hl
    refine T_skip ?_
    refine T_then ?_
    refine T_seq ?_
    refine T_block ?_
    refine T_seq ?_
    refine T_region (is := [0, 1]) rfl fun kn kp hn hp => ?_
    refine T_op rfl rfl fun kc hc => ?_
    simp; refine hc _ ?_; clear hc kc
    refine T_op rfl rfl fun kc hc => ?_
    simp; refine hc _ ?_; clear hc kc
    refine T_end (hn _ ?_); clear hn hp kn kp
    refine T_then ?_
    refine T_seq ?_
    refine T_region (is := [0, 1, 2, 3, 4, 5]) rfl fun kn kp hn hp => ?_
    refine T_op rfl rfl fun kc hc => ?_
    simp; refine hc _ ?_; clear hc kc
    refine T_op rfl rfl fun kc hc => ?_
    simp; refine hc _ ?_; clear hc kc
    refine T_op rfl rfl fun kc hc => ?_
    simp; refine hc _ ?_; clear hc kc
    refine T_op rfl rfl fun kc hc => ?_
    simp [hx]; refine hc _ ?_; clear hc kc
    refine T_op rfl rfl fun kc hc => ?_
    simp; refine hc _ ?_; clear hc kc
    refine T_op rfl rfl fun kc hc => ?_
    simp; refine hc _ ?_; clear hc kc
    refine T_end (hn _ ?_); clear hn hp kn kp
    refine T_then ?_
    refine T_cond rfl (fun b2 => ?_) (fun b2 => ?_)
    · skip
      have hpx : (n == x) = true := by simpa using b2
      have hres : idx (fun x => n == x) l 0 = z := by rw [hk, idx_at hx, hpx]; rfl
      refine T_seq ?_
      refine T_region (is := [0, 1]) rfl fun kn kp hn hp => ?_
      refine T_op rfl rfl fun kc hc => ?_
      simp; refine hc _ ?_; clear hc kc
      refine T_op rfl rfl fun kc hc => ?_
      simp; refine hc _ ?_; clear hc kc
      refine T_end (hn _ ?_); clear hn hp kn kp
      refine T_then ?_
      refine T_ret ?_
      refine X_blockR ?_
      refine X_thenR ?_
      refine X_loopR ?_
      refine X_blockR ?_
      refine X_thenR ?_
      exact finI (Ent.refl _) (by simp [resD, resL, resV]; rfl) (Ent.sub [] [] (by simp [sub, subSl, subHp, place, mp, mpL, mpO, mpG]; rfl)) rfl rfl (by simp [hres])
    · skip
      have hpx : (n == x) = false := by simpa using b2
      refine T_skip ?_
      refine X_blockN ?_
      refine T_then ?_
      refine T_region (is := [0, 1]) rfl fun kn kp hn hp => ?_
      refine T_op rfl rfl fun kc hc => ?_
      simp [e1]; refine hc _ ?_; clear hc kc
      refine T_op rfl rfl fun kc hc => ?_
      simp; refine hc _ ?_; clear hc kc
      refine T_end (hn _ ?_); clear hn hp kn kp
      exact X_loopN (z + 1) (Ent.sub [0, 1, 6, 7, 8] [] (by simp [sub, subSl, subHp, place, mp, mpL, mpO, mpG, e1])) ⟨hz', by rw [hk, idx_at hx, hpx]; rfl⟩ (by omega)
  · skip
    have hz' : z = l.length := by simp at b1; omega
    have hend : idx (fun x => n == x) l 0 = -1 := by rw [hk]; exact idx_end (by omega)
    refine T_exit ?_
    refine X_thenE ?_
    refine X_loopE ?_
    refine X_hit ?_
    refine T_then ?_
    refine T_seq ?_
    refine T_region (is := [0]) rfl fun kn kp hn hp => ?_
    refine T_op rfl rfl fun kc hc => ?_
    simp; refine hc _ ?_; clear hc kc
    refine T_end (hn _ ?_); clear hn hp kn kp
    refine T_then ?_
    refine T_ret ?_
    exact finI (Ent.refl _) (by simp [resD, resL, resV]; rfl) (Ent.sub [] [] (by simp [sub, subSl, subHp, place, mp, mpL, mpO, mpG]; rfl)) rfl rfl (by simp [hend])
-- slices.Index[[]bool,bool]
theorem walk70 (l : List Bool) (n : Bool) (hl : l.length ≤ 9223372036854775807) : Does Try.prog 70 [bools l, bV n] (.dat (iD (idx (fun x => n == x) l 0))) [] := by
  refine Does.intro [.tmp 4] Try.func70 rfl (by kernel_rfl) Try.ntmps70 rfl (Nat.le_of_ble_eq_true rfl) ?_
  refine T_seq ?_
  refine T_region (is := [0]) rfl fun kn kp hn hp => ?_
  refine T_op rfl rfl fun kc hc => ?_
  simp; refine hc _ ?_; clear hc kc
  refine T_end (hn _ ?_); clear hn hp kn kp
  refine T_then ?_
  refine T_seq ?_
  refine T_seq ?_
  refine T_region (is := [0, 1, 2]) rfl fun kn kp hn hp => ?_
  refine T_op rfl rfl fun kc hc => ?_
  simp; refine hc _ ?_; clear hc kc
  refine T_op rfl rfl fun kc hc => ?_
  simp; refine hc _ ?_; clear hc kc
  refine T_op rfl rfl fun kc hc => ?_
  simp; refine hc _ ?_; clear hc kc
  refine T_end (hn _ ?_); clear hn hp kn kp
  refine T_then ?_
  refine T_block ?_
  refine T_loop (fun z : Nat => { sl := [(0, .dat (bools l)), (1, .dat (bV n)), (6, .dat (bools l)), (7, .dat (iD l.length)), (8, .dat (iD z))], hp := [], nx := 0 }) (fun z => z ≤ l.length ∧ idx (fun x => n == x) l 0 = idx (fun x => n == x) (l.drop z) z) (fun z => l.length - z) 0 (Ent.sub [0, 1, 6, 7, 8] [] (by simp [sub, subSl, subHp, place, mp, mpL, mpO, mpG])) ⟨Nat.zero_le _, rfl⟩ fun z hz => ?_
  obtain ⟨hz, hk⟩ := hz
  refine T_seq ?_
  refine T_region (is := [0]) rfl fun kn kp hn hp => ?_
  refine T_op rfl rfl fun kc hc => ?_
  simp; refine hc _ ?_; clear hc kc
  refine T_end (hn _ ?_); clear hn hp kn kp
  refine T_then ?_
  refine T_seq ?_
  refine T_cond rfl (fun b1 => ?_) (fun b1 => ?_)
  · skip
    have hz' : z < l.length := by simpa using b1
    obtain ⟨x, hx⟩ : ∃ x, l[z]? = some x := ⟨_, List.getElem?_eq_getElem hz'⟩
    have e1 : IntKind.i64.wrap ((z : Int) + 1) = (z : Int) + 1 := wr1 hz' hl
    refine T_skip ?_
    refine T_then ?_
    refine T_seq ?_
    refine T_block ?_
    refine T_seq ?_
    refine T_region (is := [0, 1]) rfl fun kn kp hn hp => ?_
    refine T_op rfl rfl fun kc hc => ?_
    simp; refine hc _ ?_; clear hc kc
    refine T_op rfl rfl fun kc hc => ?_
    simp; refine hc _ ?_; clear hc kc
    refine T_end (hn _ ?_); clear hn hp kn kp
    refine T_then ?_
    refine T_seq ?_
    refine T_region (is := [0, 1, 2, 3, 4, 5]) rfl fun kn kp hn hp => ?_
    refine T_op rfl rfl fun kc hc => ?_
    simp; refine hc _ ?_; clear hc kc
    refine T_op rfl rfl fun kc hc => ?_
    simp; refine hc _ ?_; clear hc kc
    refine T_op rfl rfl fun kc hc => ?_
    simp; refine hc _ ?_; clear hc kc
    refine T_op rfl rfl fun kc hc => ?_
    simp [hx]; refine hc _ ?_; clear hc kc
    refine T_op rfl rfl fun kc hc => ?_
    simp; refine hc _ ?_; clear hc kc
    refine T_op rfl rfl fun kc hc => ?_
    simp; refine hc _ ?_; clear hc kc
    refine T_end (hn _ ?_); clear hn hp kn kp
    refine T_then ?_
    refine T_cond rfl (fun b2 => ?_) (fun b2 => ?_)
    · skip
      have hpx : (n == x) = true := by simpa using b2
      have hres : idx (fun x => n == x) l 0 = z := by rw [hk, idx_at hx, hpx]; rfl
      refine T_seq ?_
      refine T_region (is := [0, 1]) rfl fun kn kp hn hp => ?_
      refine T_op rfl rfl fun kc hc => ?_
      simp; refine hc _ ?_; clear hc kc
      refine T_op rfl rfl fun kc hc => ?_
      simp; refine hc _ ?_; clear hc kc
      refine T_end (hn _ ?_); clear hn hp kn kp
      refine T_then ?_
      refine T_ret ?_
      refine X_blockR ?_
      refine X_thenR ?_
      refine X_loopR ?_
      refine X_blockR ?_
      refine X_thenR ?_
      exact finI (Ent.refl _) (by simp [resD, resL, resV]; rfl) (Ent.sub [] [] (by simp [sub, subSl, subHp, place, mp, mpL, mpO, mpG]; rfl)) rfl rfl (by simp [hres])
    · skip
      have hpx : (n == x) = false := by simpa using b2
      refine T_skip ?_
      refine X_blockN ?_
      refine T_then ?_
      refine T_region (is := [0, 1]) rfl fun kn kp hn hp => ?_
      refine T_op rfl rfl fun kc hc => ?_
      simp [e1]; refine hc _ ?_; clear hc kc
      refine T_op rfl rfl fun kc hc => ?_
      simp; refine hc _ ?_; clear hc kc
      refine T_end (hn _ ?_); clear hn hp kn kp
      exact X_loopN (z + 1) (Ent.sub [0, 1, 6, 7, 8] [] (by simp [sub, subSl, subHp, place, mp, mpL, mpO, mpG, e1])) ⟨hz', by rw [hk, idx_at hx, hpx]; rfl⟩ (by omega)
  · skip
    have hz' : z = l.length := by simp at b1; omega
    have hend : idx (fun x => n == x) l 0 = -1 := by rw [hk]; exact idx_end (by omega)
    refine T_exit ?_
    refine X_thenE ?_
    refine X_loopE ?_
    refine X_hit ?_
    refine T_then ?_
    refine T_seq ?_
    refine T_region (is := [0]) rfl fun kn kp hn hp => ?_
    refine T_op rfl rfl fun kc hc => ?_
    simp; refine hc _ ?_; clear hc kc
    refine T_end (hn _ ?_); clear hn hp kn kp
    refine T_then ?_
    refine T_ret ?_
    exact finI (Ent.refl _) (by simp [resD, resL, resV]; rfl) (Ent.sub [] [] (by simp [sub, subSl, subHp, place, mp, mpL, mpO, mpG]; rfl)) rfl rfl (by simp [hend])
-- slices.Contains[[]int,int]
theorem walk71 (l : List Int) (n : Int) (hl : l.length ≤ 9223372036854775807) : Does Try.prog 71 [ints l, iD n] (.dat (bV (l.any fun x => n == x))) [] := by
  refine Does.intro [.tmp 4] Try.func71 rfl (by kernel_rfl) Try.ntmps71 rfl (Nat.le_of_ble_eq_true rfl) ?_
  refine T_seq ?_
  refine T_region (is := [0]) rfl fun kn kp hn hp => ?_
  refine T_op rfl rfl fun kc hc => ?_
  simp; refine hc _ ?_; clear hc kc
  refine T_end (hn _ ?_); clear hn hp kn kp
  refine T_then ?_
  refine T_seq ?_
  refine T_region (is := [0, 1, 2, 3, 4]) rfl fun kn kp hn hp => ?_
  refine T_op rfl rfl fun kc hc => ?_
  simp; refine hc _ ?_; clear hc kc
  refine T_op rfl rfl fun kc hc => ?_
  simp; refine hc _ ?_; clear hc kc
  refine T_op rfl rfl fun kc hc => ?_
  simp
  refine CallS.dat (walk73 l n hl) (rfl) rfl rfl rfl ?_
  simp [enum]; refine hc _ ?_; clear hc kc
  refine T_op rfl rfl fun kc hc => ?_
  simp; refine hc _ ?_; clear hc kc
  refine T_op rfl rfl fun kc hc => ?_
  simp; refine hc _ ?_; clear hc kc
  refine T_end (hn _ ?_); clear hn hp kn kp
  refine T_then ?_
  refine T_ret ?_
  have hany := idx_any (p := fun x => n == x) l 0
  exact finI (Ent.refl _) (by simp [resD, resL, resV]; rfl) (Ent.sub [] [] (by simp [sub, subSl, subHp, place, mp, mpL, mpO, mpG]; rfl)) rfl rfl (by simp [← hany])
-- sizar/sizarref11.twice
theorem walk75 (l : List ByteArray) (hl : l.length ≤ 9223372036854775807) : Does Try.prog 75 [strs l] (.dat (bV (twiceB l))) [] := by
  refine Does.intro [.tmp 2] Try.func75 rfl (by kernel_rfl) Try.ntmps75 rfl (Nat.le_of_ble_eq_true rfl) ?_
  refine T_seq ?_
  refine T_region (is := [0]) rfl fun kn kp hn hp => ?_
  refine T_op rfl rfl fun kc hc => ?_
  simp; refine hc _ ?_; clear hc kc
  refine T_end (hn _ ?_); clear hn hp kn kp
  refine T_then ?_
  refine T_seq ?_
  refine T_seq ?_
  refine T_region (is := [0]) rfl fun kn kp hn hp => ?_
  refine T_op rfl rfl fun kc hc => ?_
  simp; refine hc _ ?_; clear hc kc
  refine T_end (hn _ ?_); clear hn hp kn kp
  refine T_then ?_
  refine T_block ?_
  refine T_loop (fun z : Nat => { sl := [(0, .dat (strs l)), (3, .dat (iD z))], hp := [], nx := 0 }) (fun z => z ≤ l.length ∧ twiceB l = twiceGo (l.take z) (l.drop z)) (fun z => l.length - z) 0 (Ent.sub [0, 3] [] (by simp [sub, subSl, subHp, place, mp, mpL, mpO, mpG])) ⟨Nat.zero_le _, rfl⟩ fun z hz => ?_
  obtain ⟨hz, hk⟩ := hz
  refine T_seq ?_
  refine T_seq ?_
  refine T_region (is := [0, 1, 2, 3]) rfl fun kn kp hn hp => ?_
  refine T_op rfl rfl fun kc hc => ?_
  simp; refine hc _ ?_; clear hc kc
  refine T_op rfl rfl fun kc hc => ?_
  simp; refine hc _ ?_; clear hc kc
  refine T_op rfl rfl fun kc hc => ?_
  simp; refine hc _ ?_; clear hc kc
  refine T_op rfl rfl fun kc hc => ?_
  simp; refine hc _ ?_; clear hc kc
  refine T_end (hn _ ?_); clear hn hp kn kp
  refine T_then ?_
  refine T_cond rfl (fun b1 => ?_) (fun b1 => ?_)
  · skip
    have hz' : z < l.length := by simpa using b1
    obtain ⟨x, hx⟩ : ∃ x, l[z]? = some x := ⟨_, List.getElem?_eq_getElem hz'⟩
    have e1 : IntKind.i64.wrap ((z : Int) + 1) = (z : Int) + 1 := wr1 hz' hl
    have hk0 := hk
    refine T_skip ?_
    refine T_then ?_
    refine T_seq ?_
    refine T_block ?_
    refine T_seq ?_
    refine T_region (is := [0]) rfl fun kn kp hn hp => ?_
    refine T_op rfl rfl fun kc hc => ?_
    simp; refine hc _ ?_; clear hc kc
    refine T_end (hn _ ?_); clear hn hp kn kp
    refine T_then ?_
    refine T_block ?_
    refine T_loop (fun k : Nat => { sl := [(0, .dat (strs l)), (3, .dat (iD z)), (4, .dat (iD k))], hp := [], nx := 0 }) (fun k => k ≤ z ∧ (l.take k).any (x == ·) = false) (fun k => z - k) 0 (Ent.sub [0, 3, 4] [] (by simp [sub, subSl, subHp, place, mp, mpL, mpO, mpG])) ⟨Nat.zero_le _, rfl⟩ fun k hk => ?_
    obtain ⟨hkz, hka⟩ := hk
    refine T_seq ?_
    refine T_seq ?_
    refine T_region (is := [0, 1, 2]) rfl fun kn kp hn hp => ?_
    refine T_op rfl rfl fun kc hc => ?_
    simp; refine hc _ ?_; clear hc kc
    refine T_op rfl rfl fun kc hc => ?_
    simp; refine hc _ ?_; clear hc kc
    refine T_op rfl rfl fun kc hc => ?_
    simp; refine hc _ ?_; clear hc kc
    refine T_end (hn _ ?_); clear hn hp kn kp
    refine T_then ?_
    refine T_cond rfl (fun b2 => ?_) (fun b2 => ?_)
    · skip
      have hkl : k < z := by simpa using b2
      obtain ⟨y, hy⟩ : ∃ y, l[k]? = some y := ⟨_, List.getElem?_eq_getElem (by omega)⟩
      have e2 : IntKind.i64.wrap ((k : Int) + 1) = (k : Int) + 1 := wr1 hkl (by omega)
      refine T_skip ?_
      refine T_then ?_
      refine T_seq ?_
      refine T_block ?_
      refine T_seqDraw (is := [0, 1, 2, 3, 4, 5, 6, 7, 8]) rfl (by kernel_rfl) fun kn hn => ?_
      refine D_op rfl rfl rfl rfl fun kc hc => ?_
      simp; refine hc _ ?_; clear hc kc
      refine D_op rfl rfl rfl rfl fun kc hc => ?_
      simp; refine hc _ ?_; clear hc kc
      refine D_op rfl rfl rfl rfl fun kc hc => ?_
      simp [hx]; refine hc _ ?_; clear hc kc
      refine D_op rfl rfl rfl rfl fun kc hc => ?_
      simp; refine hc _ ?_; clear hc kc
      refine D_op rfl rfl rfl rfl fun kc hc => ?_
      simp; refine hc _ ?_; clear hc kc
      refine D_op rfl rfl rfl rfl fun kc hc => ?_
      simp; refine hc _ ?_; clear hc kc
      refine D_op rfl rfl rfl rfl fun kc hc => ?_
      simp [hy]; refine hc _ ?_; clear hc kc
      refine D_op rfl rfl rfl rfl fun kc hc => ?_
      simp; refine hc _ ?_; clear hc kc
      refine D_op rfl rfl rfl rfl fun kc hc => ?_
      simp; refine hc _ ?_; clear hc kc
      refine D_end rfl (by kernel_rfl) (hn _ ?_); clear hn kn
      refine T_cond rfl (fun b3 => ?_) (fun b3 => ?_)
      · skip
        have hpy : (x == y) = true := by simpa using b3
        have hres : twiceB l = true := by rw [hk0, twice_next hx, any_at hy hkl hpy]; rfl
        refine T_seq ?_
        refine T_region (is := [0]) rfl fun kn kp hn hp => ?_
        refine T_op rfl rfl fun kc hc => ?_
        simp; refine hc _ ?_; clear hc kc
        refine T_end (hn _ ?_); clear hn hp kn kp
        refine T_then ?_
        refine T_ret ?_
        refine X_blockR ?_
        refine X_thenR ?_
        refine X_loopR ?_
        refine X_blockR ?_
        refine X_blockR ?_
        refine X_thenR ?_
        refine X_loopR ?_
        refine X_blockR ?_
        refine X_thenR ?_
        exact finI (Ent.refl _) (by simp [resD, resL, resV]; rfl) (Ent.sub [] [] (by simp [sub, subSl, subHp, place, mp, mpL, mpO, mpG]; rfl)) rfl rfl (by simp [hres])
      · skip
        have hpy : (x == y) = false := by simpa using b3
        refine T_skip ?_
        refine X_blockN ?_
        refine T_then ?_
        refine T_region (is := [0, 1, 2]) rfl fun kn kp hn hp => ?_
        refine T_op rfl rfl fun kc hc => ?_
        simp; refine hc _ ?_; clear hc kc
        refine T_op rfl rfl fun kc hc => ?_
        simp [e2]; refine hc _ ?_; clear hc kc
        refine T_op rfl rfl fun kc hc => ?_
        simp; refine hc _ ?_; clear hc kc
        refine T_end (hn _ ?_); clear hn hp kn kp
        exact X_loopN (k + 1) (Ent.sub [0, 3, 4] [] (by simp [sub, subSl, subHp, place, mp, mpL, mpO, mpG, e2])) ⟨by omega, by rw [any_next hy, hka, hpy]; rfl⟩ (by omega)
    · skip
      have hke : k = z := by simp at b2; omega
      have hfin : (l.take z).any (x == ·) = false := by rw [← hke]; exact hka
      refine T_exit ?_
      refine X_thenE ?_
      refine X_loopE ?_
      refine X_hit ?_
      refine X_blockN ?_
      refine T_then ?_
      refine T_region (is := [0, 1, 2]) rfl fun kn kp hn hp => ?_
      refine T_op rfl rfl fun kc hc => ?_
      simp; refine hc _ ?_; clear hc kc
      refine T_op rfl rfl fun kc hc => ?_
      simp [e1]; refine hc _ ?_; clear hc kc
      refine T_op rfl rfl fun kc hc => ?_
      simp; refine hc _ ?_; clear hc kc
      refine T_end (hn _ ?_); clear hn hp kn kp
      exact X_loopN (z + 1) (Ent.sub [0, 3] [] (by simp [sub, subSl, subHp, place, mp, mpL, mpO, mpG, e1])) ⟨hz', by rw [hk, twice_next hx, hfin]; rfl⟩ (by omega)
  · skip
    have hz' : z = l.length := by simp at b1; omega
    have hend : twiceB l = false := by rw [hk]; exact twice_end (by omega)
    refine T_exit ?_
    refine X_thenE ?_
    refine X_loopE ?_
    refine X_hit ?_
    refine T_then ?_
    refine T_seq ?_
    refine T_region (is := [0]) rfl fun kn kp hn hp => ?_
    refine T_op rfl rfl fun kc hc => ?_
    simp; refine hc _ ?_; clear hc kc
    refine T_end (hn _ ?_); clear hn hp kn kp
    refine T_then ?_
    refine T_ret ?_
    exact finI (Ent.refl _) (by simp [resD, resL, resV]; rfl) (Ent.sub [] [] (by simp [sub, subSl, subHp, place, mp, mpL, mpO, mpG]; rfl)) rfl rfl (by simp [hend])
-- sizar/sizarref11.twiceInt
theorem walk76 (l : List Int) (hl : l.length ≤ 9223372036854775807) : Does Try.prog 76 [ints l] (.dat (bV (twiceB l))) [] := by
  refine Does.intro [.tmp 2] Try.func76 rfl (by kernel_rfl) Try.ntmps76 rfl (Nat.le_of_ble_eq_true rfl) ?_
  refine T_seq ?_
  refine T_region (is := [0]) rfl fun kn kp hn hp => ?_
  refine T_op rfl rfl fun kc hc => ?_
  simp; refine hc _ ?_; clear hc kc
  refine T_end (hn _ ?_); clear hn hp kn kp
  refine T_then ?_
  refine T_seq ?_
  refine T_seq ?_
  refine T_region (is := [0]) rfl fun kn kp hn hp => ?_
  refine T_op rfl rfl fun kc hc => ?_
  simp; refine hc _ ?_; clear hc kc
  refine T_end (hn _ ?_); clear hn hp kn kp
  refine T_then ?_
  refine T_block ?_
  refine T_loop (fun z : Nat => { sl := [(0, .dat (ints l)), (3, .dat (iD z))], hp := [], nx := 0 }) (fun z => z ≤ l.length ∧ twiceB l = twiceGo (l.take z) (l.drop z)) (fun z => l.length - z) 0 (Ent.sub [0, 3] [] (by simp [sub, subSl, subHp, place, mp, mpL, mpO, mpG])) ⟨Nat.zero_le _, rfl⟩ fun z hz => ?_
  obtain ⟨hz, hk⟩ := hz
  refine T_seq ?_
  refine T_seq ?_
  refine T_region (is := [0, 1, 2, 3]) rfl fun kn kp hn hp => ?_
  refine T_op rfl rfl fun kc hc => ?_
  simp; refine hc _ ?_; clear hc kc
  refine T_op rfl rfl fun kc hc => ?_
  simp; refine hc _ ?_; clear hc kc
  refine T_op rfl rfl fun kc hc => ?_
  simp; refine hc _ ?_; clear hc kc
  refine T_op rfl rfl fun kc hc => ?_
  simp; refine hc _ ?_; clear hc kc
  refine T_end (hn _ ?_); clear hn hp kn kp
  refine T_then ?_
  refine T_cond rfl (fun b1 => ?_) (fun b1 => ?_)
  · skip
    have hz' : z < l.length := by simpa using b1
    obtain ⟨x, hx⟩ : ∃ x, l[z]? = some x := ⟨_, List.getElem?_eq_getElem hz'⟩
    have e1 : IntKind.i64.wrap ((z : Int) + 1) = (z : Int) + 1 := wr1 hz' hl
    have hk0 := hk
    refine T_skip ?_
    refine T_then ?_
    refine T_seq ?_
    refine T_block ?_
    refine T_seq ?_
    refine T_region (is := [0]) rfl fun kn kp hn hp => ?_
    refine T_op rfl rfl fun kc hc => ?_
    simp; refine hc _ ?_; clear hc kc
    refine T_end (hn _ ?_); clear hn hp kn kp
    refine T_then ?_
    refine T_block ?_
    refine T_loop (fun k : Nat => { sl := [(0, .dat (ints l)), (3, .dat (iD z)), (4, .dat (iD k))], hp := [], nx := 0 }) (fun k => k ≤ z ∧ (l.take k).any (x == ·) = false) (fun k => z - k) 0 (Ent.sub [0, 3, 4] [] (by simp [sub, subSl, subHp, place, mp, mpL, mpO, mpG])) ⟨Nat.zero_le _, rfl⟩ fun k hk => ?_
    obtain ⟨hkz, hka⟩ := hk
    refine T_seq ?_
    refine T_seq ?_
    refine T_region (is := [0, 1, 2]) rfl fun kn kp hn hp => ?_
    refine T_op rfl rfl fun kc hc => ?_
    simp; refine hc _ ?_; clear hc kc
    refine T_op rfl rfl fun kc hc => ?_
    simp; refine hc _ ?_; clear hc kc
    refine T_op rfl rfl fun kc hc => ?_
    simp; refine hc _ ?_; clear hc kc
    refine T_end (hn _ ?_); clear hn hp kn kp
    refine T_then ?_
    refine T_cond rfl (fun b2 => ?_) (fun b2 => ?_)
    · skip
      have hkl : k < z := by simpa using b2
      obtain ⟨y, hy⟩ : ∃ y, l[k]? = some y := ⟨_, List.getElem?_eq_getElem (by omega)⟩
      have e2 : IntKind.i64.wrap ((k : Int) + 1) = (k : Int) + 1 := wr1 hkl (by omega)
      refine T_skip ?_
      refine T_then ?_
      refine T_seq ?_
      refine T_block ?_
      refine T_seqDraw (is := [0, 1, 2, 3, 4, 5, 6, 7, 8]) rfl (by kernel_rfl) fun kn hn => ?_
      refine D_op rfl rfl rfl rfl fun kc hc => ?_
      simp; refine hc _ ?_; clear hc kc
      refine D_op rfl rfl rfl rfl fun kc hc => ?_
      simp; refine hc _ ?_; clear hc kc
      refine D_op rfl rfl rfl rfl fun kc hc => ?_
      simp [hx]; refine hc _ ?_; clear hc kc
      refine D_op rfl rfl rfl rfl fun kc hc => ?_
      simp; refine hc _ ?_; clear hc kc
      refine D_op rfl rfl rfl rfl fun kc hc => ?_
      simp; refine hc _ ?_; clear hc kc
      refine D_op rfl rfl rfl rfl fun kc hc => ?_
      simp; refine hc _ ?_; clear hc kc
      refine D_op rfl rfl rfl rfl fun kc hc => ?_
      simp [hy]; refine hc _ ?_; clear hc kc
      refine D_op rfl rfl rfl rfl fun kc hc => ?_
      simp; refine hc _ ?_; clear hc kc
      refine D_op rfl rfl rfl rfl fun kc hc => ?_
      simp; refine hc _ ?_; clear hc kc
      refine D_end rfl (by kernel_rfl) (hn _ ?_); clear hn kn
      refine T_cond rfl (fun b3 => ?_) (fun b3 => ?_)
      · skip
        have hpy : (x == y) = true := by simpa using b3
        have hres : twiceB l = true := by rw [hk0, twice_next hx, any_at hy hkl hpy]; rfl
        refine T_seq ?_
        refine T_region (is := [0]) rfl fun kn kp hn hp => ?_
        refine T_op rfl rfl fun kc hc => ?_
        simp; refine hc _ ?_; clear hc kc
        refine T_end (hn _ ?_); clear hn hp kn kp
        refine T_then ?_
        refine T_ret ?_
        refine X_blockR ?_
        refine X_thenR ?_
        refine X_loopR ?_
        refine X_blockR ?_
        refine X_blockR ?_
        refine X_thenR ?_
        refine X_loopR ?_
        refine X_blockR ?_
        refine X_thenR ?_
        exact finI (Ent.refl _) (by simp [resD, resL, resV]; rfl) (Ent.sub [] [] (by simp [sub, subSl, subHp, place, mp, mpL, mpO, mpG]; rfl)) rfl rfl (by simp [hres])
      · skip
        have hpy : (x == y) = false := by simpa using b3
        refine T_skip ?_
        refine X_blockN ?_
        refine T_then ?_
        refine T_region (is := [0, 1, 2]) rfl fun kn kp hn hp => ?_
        refine T_op rfl rfl fun kc hc => ?_
        simp; refine hc _ ?_; clear hc kc
        refine T_op rfl rfl fun kc hc => ?_
        simp [e2]; refine hc _ ?_; clear hc kc
        refine T_op rfl rfl fun kc hc => ?_
        simp; refine hc _ ?_; clear hc kc
        refine T_end (hn _ ?_); clear hn hp kn kp
        exact X_loopN (k + 1) (Ent.sub [0, 3, 4] [] (by simp [sub, subSl, subHp, place, mp, mpL, mpO, mpG, e2])) ⟨by omega, by rw [any_next hy, hka, hpy]; rfl⟩ (by omega)
    · skip
      have hke : k = z := by simp at b2; omega
      have hfin : (l.take z).any (x == ·) = false := by rw [← hke]; exact hka
      refine T_exit ?_
      refine X_thenE ?_
      refine X_loopE ?_
      refine X_hit ?_
      refine X_blockN ?_
      refine T_then ?_
      refine T_region (is := [0, 1, 2]) rfl fun kn kp hn hp => ?_
      refine T_op rfl rfl fun kc hc => ?_
      simp; refine hc _ ?_; clear hc kc
      refine T_op rfl rfl fun kc hc => ?_
      simp [e1]; refine hc _ ?_; clear hc kc
      refine T_op rfl rfl fun kc hc => ?_
      simp; refine hc _ ?_; clear hc kc
      refine T_end (hn _ ?_); clear hn hp kn kp
      exact X_loopN (z + 1) (Ent.sub [0, 3] [] (by simp [sub, subSl, subHp, place, mp, mpL, mpO, mpG, e1])) ⟨hz', by rw [hk, twice_next hx, hfin]; rfl⟩ (by omega)
  · skip
    have hz' : z = l.length := by simp at b1; omega
    have hend : twiceB l = false := by rw [hk]; exact twice_end (by omega)
    refine T_exit ?_
    refine X_thenE ?_
    refine X_loopE ?_
    refine X_hit ?_
    refine T_then ?_
    refine T_seq ?_
    refine T_region (is := [0]) rfl fun kn kp hn hp => ?_
    refine T_op rfl rfl fun kc hc => ?_
    simp; refine hc _ ?_; clear hc kc
    refine T_end (hn _ ?_); clear hn hp kn kp
    refine T_then ?_
    refine T_ret ?_
    exact finI (Ent.refl _) (by simp [resD, resL, resV]; rfl) (Ent.sub [] [] (by simp [sub, subSl, subHp, place, mp, mpL, mpO, mpG]; rfl)) rfl rfl (by simp [hend])
-- sizar/sizarref11.classes
theorem walk77 (l : List Class) (hl : l.length ≤ 1048576) : Does Try.prog 77 [.sl 4 (l.map classD)] (.dat (strs (l.map (·.name)))) [] := by
  refine Does.intro [.tmp 2] Try.func77 rfl (by kernel_rfl) Try.ntmps77 rfl (Nat.le_of_ble_eq_true rfl) ?_
  refine T_seq ?_
  refine T_region (is := [0]) rfl fun kn kp hn hp => ?_
  refine T_op rfl rfl fun kc hc => ?_
  simp; refine hc _ ?_; clear hc kc
  refine T_end (hn _ ?_); clear hn hp kn kp
  refine T_then ?_
  refine T_seq ?_
  refine T_region (is := [0, 1]) rfl fun kn kp hn hp => ?_
  refine T_op rfl rfl fun kc hc => ?_
  simp; refine hc _ ?_; clear hc kc
  refine T_op rfl rfl fun kc hc => ?_
  simp; refine hc _ ?_; clear hc kc
  refine T_end (hn _ ?_); clear hn hp kn kp
  refine T_then ?_
  refine T_seq ?_
  refine T_seq ?_
  refine T_region (is := [0]) rfl fun kn kp hn hp => ?_
  refine T_op rfl rfl fun kc hc => ?_
  simp; refine hc _ ?_; clear hc kc
  refine T_end (hn _ ?_); clear hn hp kn kp
  refine T_then ?_
  refine T_block ?_
  refine T_loop (fun z : Nat => { sl := [(0, .dat (.sl 4 (l.map classD))), (3, .own 0 1 z), (4, .dat (iD z))], hp := [(0, .row 9 1 ((l.take z).map fun x => [sD x.name]))], nx := 1 }) (fun z => z ≤ l.length) (fun z => l.length - z) 0 (Ent.sub [0, 3, 4] [0] (by simp [sub, subSl, subHp, place, mp, mpL, mpO, mpG])) (Nat.zero_le _) fun z hz => ?_
  refine T_seq ?_
  refine T_seq ?_
  refine T_region (is := [0, 1, 2, 3]) rfl fun kn kp hn hp => ?_
  refine T_op rfl rfl fun kc hc => ?_
  simp; refine hc _ ?_; clear hc kc
  refine T_op rfl rfl fun kc hc => ?_
  simp; refine hc _ ?_; clear hc kc
  refine T_op rfl rfl fun kc hc => ?_
  simp; refine hc _ ?_; clear hc kc
  refine T_op rfl rfl fun kc hc => ?_
  simp; refine hc _ ?_; clear hc kc
  refine T_end (hn _ ?_); clear hn hp kn kp
  refine T_then ?_
  refine T_cond rfl (fun b1 => ?_) (fun b1 => ?_)
  · skip
    have hz' : z < l.length := by simpa using b1
    obtain ⟨x, hx⟩ : ∃ x, l[z]? = some x := ⟨_, List.getElem?_eq_getElem hz'⟩
    have e1 : IntKind.i64.wrap ((z : Int) + 1) = (z : Int) + 1 := wr1 hz' (by omega)
    have e7 : (z + 1) * 16 ≤ big := by simp only [big]; omega
    refine T_skip ?_
    refine T_then ?_
    refine T_seq ?_
    refine T_block ?_
    refine T_region (is := [0, 1, 2, 3, 4, 5, 6, 7, 8]) rfl fun kn kp hn hp => ?_
    refine T_op rfl rfl fun kc hc => ?_
    simp; refine hc _ ?_; clear hc kc
    refine T_op rfl rfl fun kc hc => ?_
    simp; refine hc _ ?_; clear hc kc
    refine T_op rfl rfl fun kc hc => ?_
    simp; refine hc _ ?_; clear hc kc
    refine T_op rfl rfl fun kc hc => ?_
    simp [hx]; refine hc _ ?_; clear hc kc
    refine T_op rfl rfl fun kc hc => ?_
    simp; refine hc _ ?_; clear hc kc
    refine T_op rfl rfl fun kc hc => ?_
    simp; refine hc _ ?_; clear hc kc
    refine T_op rfl rfl fun kc hc => ?_
    simp; refine hc _ ?_; clear hc kc
    refine T_op rfl rfl fun kc hc => ?_
    simp [e7, Nat.min_eq_left hz]; refine hc _ ?_; clear hc kc
    refine T_op rfl rfl fun kc hc => ?_
    simp; refine hc _ ?_; clear hc kc
    refine T_end (hn _ ?_); clear hn hp kn kp
    refine X_blockN ?_
    refine T_then ?_
    refine T_region (is := [0, 1, 2]) rfl fun kn kp hn hp => ?_
    refine T_op rfl rfl fun kc hc => ?_
    simp; refine hc _ ?_; clear hc kc
    refine T_op rfl rfl fun kc hc => ?_
    simp [e1]; refine hc _ ?_; clear hc kc
    refine T_op rfl rfl fun kc hc => ?_
    simp; refine hc _ ?_; clear hc kc
    refine T_end (hn _ ?_); clear hn hp kn kp
    exact X_loopN (z + 1) (Ent.sub [0, 3, 4] [2] (by simp [sub, subSl, subHp, place, mp, mpL, mpO, mpG, e1, take_next hx])) hz' (by omega)
  · skip
    have hz' : z = l.length := by simp at b1; omega
    subst hz'
    have hb : l.length ≤ big := by simp only [big]; omega
    refine T_exit ?_
    refine X_thenE ?_
    refine X_loopE ?_
    refine X_hit ?_
    refine T_then ?_
    refine T_seq ?_
    refine T_region (is := [0, 1]) rfl fun kn kp hn hp => ?_
    refine T_op rfl rfl fun kc hc => ?_
    simp; refine hc _ ?_; clear hc kc
    refine T_op rfl rfl fun kc hc => ?_
    simp; refine hc _ ?_; clear hc kc
    refine T_end (hn _ ?_); clear hn hp kn kp
    refine T_then ?_
    refine T_ret ?_
    exact finI (Ent.give (t := 2) (n := 9) (e := strs (l.map (·.name))) (hp' := []) rfl (by simp [Sx.give, hb])) (by simp [resD, resL, resV]; rfl) (Ent.sub [] [] (by simp [sub, subSl, subHp, place, mp, mpL, mpO, mpG]; rfl)) rfl rfl (by simp)
-- sizar/names.number
theorem walk48 (c : Cat) (name : ByteArray) (old n : Int) (h : numberOf c name old = some n) (hl : c.courses.length ≤ 9223372036854775807) : Does Try.prog 48 [.agg (catD c), sD name, iD old] (.dat (iD n)) [] := by
  refine Does.intro [.tmp 6] Try.func48 rfl (by kernel_rfl) Try.ntmps48 rfl (Nat.le_of_ble_eq_true rfl) ?_
  refine T_seq ?_
  refine T_region (is := [0, 1]) rfl fun kn kp hn hp => ?_
  refine T_op rfl rfl fun kc hc => ?_
  simp; refine hc _ ?_; clear hc kc
  refine T_op rfl rfl fun kc hc => ?_
  simp; refine hc _ ?_; clear hc kc
  refine T_end (hn _ ?_); clear hn hp kn kp
  refine T_then ?_
  refine T_seq ?_
  refine T_seq ?_
  refine T_region (is := [0, 1]) rfl fun kn kp hn hp => ?_
  refine T_op rfl rfl fun kc hc => ?_
  simp; refine hc _ ?_; clear hc kc
  refine T_op rfl rfl fun kc hc => ?_
  simp; refine hc _ ?_; clear hc kc
  refine T_end (hn _ ?_); clear hn hp kn kp
  refine T_then ?_
  refine T_cond rfl (fun b1 => ?_) (fun b1 => ?_)
  · skip
    have hn : n = old := by simp at b1; simp [numberOf, b1] at h; exact h.symm
    refine T_seq ?_
    refine T_region (is := [0, 1]) rfl fun kn kp hn hp => ?_
    refine T_op rfl rfl fun kc hc => ?_
    simp; refine hc _ ?_; clear hc kc
    refine T_op rfl rfl fun kc hc => ?_
    simp; refine hc _ ?_; clear hc kc
    refine T_end (hn _ ?_); clear hn hp kn kp
    refine T_then ?_
    refine T_ret ?_
    refine X_thenR ?_
    exact finI (Ent.refl _) (by simp [resD, resL, resV]; rfl) (Ent.sub [] [] (by simp [sub, subSl, subHp, place, mp, mpL, mpO, mpG]; rfl)) rfl rfl (by simp [hn])
  · skip
    have hb : (name == eS) = false := by simpa using b1
    have hge : 0 ≤ meant c name 0 := by simp [numberOf, hb] at h; omega
    have hn : n = numAt c (meant c name 0) := by simp [numberOf, hb] at h; exact h.2.symm
    rcases idx_range (p := meansB name 0) (l := c.courses) (k := 0) with hi | ⟨i, y, hi, hy, hpy⟩
    · exfalso; rw [show ((0 : Nat) : Int) = 0 from rfl] at hi; simp only [meant] at hge; omega
    have hi : meant c name 0 = (i : Int) := by simpa [meant] using hi
    have hn : n = y.number := by rw [hn, hi]; exact numAt_get hy
    refine T_skip ?_
    refine T_then ?_
    refine T_seq ?_
    refine T_region (is := [0, 1, 2, 3]) rfl fun kn kp hn hp => ?_
    refine T_op rfl rfl fun kc hc => ?_
    simp; refine hc _ ?_; clear hc kc
    refine T_op rfl rfl fun kc hc => ?_
    simp; refine hc _ ?_; clear hc kc
    refine T_op rfl rfl fun kc hc => ?_
    simp
    refine CallS.dat (walk80 c name 0 hl) (rfl) rfl rfl rfl ?_
    simp [enum]; refine hc _ ?_; clear hc kc
    refine T_op rfl rfl fun kc hc => ?_
    simp; refine hc _ ?_; clear hc kc
    refine T_end (hn _ ?_); clear hn hp kn kp
    refine T_then ?_
    refine T_seq ?_
    refine T_region (is := [0, 1, 2]) rfl fun kn kp hn hp => ?_
    refine T_op rfl rfl fun kc hc => ?_
    simp; refine hc _ ?_; clear hc kc
    refine T_op rfl rfl fun kc hc => ?_
    simp [hi]; refine hc _ ?_; clear hc kc
    refine T_op rfl rfl fun kc hc => ?_
    simp
    refine CallS.dat (walk29 110) (rfl) rfl rfl rfl ?_
    simp [enum]; refine hc _ ?_; clear hc kc
    refine T_end (hn _ ?_); clear hn hp kn kp
    refine T_then ?_
    refine T_seq ?_
    refine T_region (is := [0, 1, 2, 3, 4, 5, 6]) rfl fun kn kp hn hp => ?_
    refine T_op rfl rfl fun kc hc => ?_
    simp; refine hc _ ?_; clear hc kc
    refine T_op rfl rfl fun kc hc => ?_
    simp; refine hc _ ?_; clear hc kc
    refine T_op rfl rfl fun kc hc => ?_
    simp; refine hc _ ?_; clear hc kc
    refine T_op rfl rfl fun kc hc => ?_
    simp [hi, hy]; refine hc _ ?_; clear hc kc
    refine T_op rfl rfl fun kc hc => ?_
    simp; refine hc _ ?_; clear hc kc
    refine T_op rfl rfl fun kc hc => ?_
    simp; refine hc _ ?_; clear hc kc
    refine T_op rfl rfl fun kc hc => ?_
    simp; refine hc _ ?_; clear hc kc
    refine T_end (hn _ ?_); clear hn hp kn kp
    refine T_then ?_
    refine T_ret ?_
    exact finI (Ent.refl _) (by simp [resD, resL, resV]; rfl) (Ent.sub [] [] (by simp [sub, subSl, subHp, place, mp, mpL, mpO, mpG]; rfl)) rfl rfl (by simp [hn])
-- sizar/names.number
theorem pan48 (c : Cat) (name : ByteArray) (old : Int) (h : numberOf c name old = none) (hl : c.courses.length ≤ 9223372036854775807) : DoesP Try.prog 48 [.agg (catD c), sD name, iD old] (thrown 110) := by
  refine DoesP.intro Try.func48 rfl (by kernel_rfl) Try.ntmps48 (Nat.le_of_ble_eq_true rfl) ?_
  refine T_seq ?_
  refine T_region (is := [0, 1]) rfl fun kn kp hn hp => ?_
  refine T_op rfl rfl fun kc hc => ?_
  simp; refine hc _ ?_; clear hc kc
  refine T_op rfl rfl fun kc hc => ?_
  simp; refine hc _ ?_; clear hc kc
  refine T_end (hn _ ?_); clear hn hp kn kp
  refine T_then ?_
  refine T_seq ?_
  refine T_seq ?_
  refine T_region (is := [0, 1]) rfl fun kn kp hn hp => ?_
  refine T_op rfl rfl fun kc hc => ?_
  simp; refine hc _ ?_; clear hc kc
  refine T_op rfl rfl fun kc hc => ?_
  simp; refine hc _ ?_; clear hc kc
  refine T_end (hn _ ?_); clear hn hp kn kp
  refine T_then ?_
  refine T_cond rfl (fun b1 => ?_) (fun b1 => ?_)
  · skip
    exfalso; simp at b1; simp [numberOf, b1] at h
  · skip
    have hb : (name == eS) = false := by simpa using b1
    have hlt : ¬ 0 ≤ meant c name 0 := by simp [numberOf, hb] at h; omega
    refine T_skip ?_
    refine T_then ?_
    refine T_seq ?_
    refine T_region (is := [0, 1, 2, 3]) rfl fun kn kp hn hp => ?_
    refine T_op rfl rfl fun kc hc => ?_
    simp; refine hc _ ?_; clear hc kc
    refine T_op rfl rfl fun kc hc => ?_
    simp; refine hc _ ?_; clear hc kc
    refine T_op rfl rfl fun kc hc => ?_
    simp
    refine CallS.dat (walk80 c name 0 hl) (rfl) rfl rfl rfl ?_
    simp [enum]; refine hc _ ?_; clear hc kc
    refine T_op rfl rfl fun kc hc => ?_
    simp; refine hc _ ?_; clear hc kc
    refine T_end (hn _ ?_); clear hn hp kn kp
    refine T_then ?_
    refine T_seq ?_
    refine T_region (is := [0, 1, 2]) rfl fun kn kp hn hp => ?_
    refine T_op rfl rfl fun kc hc => ?_
    simp; refine hc _ ?_; clear hc kc
    refine T_op rfl rfl fun kc hc => ?_
    simp [hlt]; refine hc _ ?_; clear hc kc
    refine T_op rfl rfl fun kc hc => ?_
    simp
    refine CallS.pan (pan29 110) (rfl) ?_
    refine hp _ _ ?_
    exact rfl

end Go.Proofs.Ytbkkekbeaabokaa
