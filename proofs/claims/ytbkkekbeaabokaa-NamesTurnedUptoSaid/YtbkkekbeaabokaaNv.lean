/- The names: the statement Turned, walked. -/
import Derived.Test.YtbkkekbeaabokaaNt
import Derived.Test.YtbkkekbeaabokaaSyW
set_option linter.unusedVariables false
set_option linter.unusedSimpArgs false
namespace Go.Proofs.Ytbkkekbeaabokaa
open Go Go.Proofs.Ytbkkekbeaabokaa.Sx

/-- Turned by so many places. -/
def rot {α : Type} (k : Nat) (l : List α) : List α := l.drop k ++ l.take k
theorem rot_perm {α : Type} (k : Nat) (l : List α) : l.Perm (rot k l) := by
  have := List.perm_append_comm (l₁ := l.take k) (l₂ := l.drop k)
  rw [List.take_append_drop] at this
  exact this
def turnC (c : Cat) (t : Nat) : Cat := { c with courses := rot (t % c.courses.length) c.courses, progs := rot (t % c.progs.length) c.progs, classes := rot (t % c.classes.length) c.classes }
theorem turned_of (c : Cat) (t : Nat) : Turned c (turnC c t) := ⟨rot_perm _ _, rfl, rot_perm _ _, rot_perm _ _, rfl, rfl⟩
theorem fit_turn {c : Cat} (h : c.fit) (t : Nat) : (turnC c t).fit :=
  ⟨Nat.le_trans (Nat.le_of_eq (rot_perm _ c.courses).length_eq.symm) h.courses, fun y hy => h.need y ((rot_perm _ c.courses).mem_iff.2 hy), h.same, Nat.le_trans (Nat.le_of_eq (rot_perm _ c.progs).length_eq.symm) h.progs, fun p hp => h.reqs p ((rot_perm _ c.progs).mem_iff.2 hp), Nat.le_trans (Nat.le_of_eq (rot_perm _ c.classes).length_eq.symm) h.classes, h.fees, h.honours, h.clauses⟩
theorem wru {n : Nat} (h : n < 18446744073709551616) : IntKind.u64.wrap (n : Int) = (n : Int) := by
  simp only [IntKind.wrap, IntKind.signed, IntKind.bits]
  simp
  omega

-- WALK 9
-- sizar/sizarlaw11.NamesTurned
set_option maxHeartbeats 4000000 in
theorem walk9 (c : Cat) (t : Nat) (hf : c.fit) : Does Try.prog 9 [.agg (catD c), .val (.int .u64 t)] (.dat (bV true)) [] := by
  have h1 := hf.courses
  have h2 := hf.progs
  have h3 := hf.classes
  obtain ⟨he, hs⟩ := (turned_of c t).resolve
  have w12 := walk12 c hf
  have w12x := walk12 _ (fit_turn hf t)
  rw [he] at w12x
  have hAs := (fit_res hf).same
  generalize (resolveOf c).1 = A at w12 hs hAs
  generalize (resolveOf (turnC c t)).1 = B at w12x hs
  generalize (resolveOf c).2 = e at w12 w12x
  refine Does.intro [.tmp 4] Try.func9 rfl (by kernel_rfl) Try.ntmps9 rfl (Nat.le_of_ble_eq_true rfl) ?_
  refine T_seq ?_
  refine T_region (is := [0, 1]) rfl fun kn kp hn hp => ?_
  refine T_op rfl rfl fun kc hc => ?_
  simp; refine hc _ ?_; clear hc kc
  refine T_op rfl rfl fun kc hc => ?_
  simp; refine hc _ ?_; clear hc kc
  refine T_end (hn _ ?_); clear hn hp kn kp
  refine T_then ?_
  refine T_seq ?_
  refine T_seq ?_
  refine T_region (is := [0, 1]) rfl fun kn kp hn hp => ?_
  refine T_op rfl rfl fun kc hc => ?_
  simp
  refine CallS.dat (walk10) (rfl) rfl rfl rfl ?_
  simp [enum]; refine hc _ ?_; clear hc kc
  refine T_op rfl rfl fun kc hc => ?_
  simp; refine hc _ ?_; clear hc kc
  refine T_end (hn _ ?_); clear hn hp kn kp
  refine T_then ?_
  refine T_false (by simp) ?_
  refine T_skip ?_
  refine T_then ?_
  refine T_seq ?_
  refine T_seq ?_
  refine T_region (is := [0, 1, 2]) rfl fun kn kp hn hp => ?_
  refine T_op rfl rfl fun kc hc => ?_
  simp; refine hc _ ?_; clear hc kc
  refine T_op rfl rfl fun kc hc => ?_
  simp
  refine CallS.dat (walk11 c hf) (rfl) rfl rfl rfl ?_
  simp [enum]; refine hc _ ?_; clear hc kc
  refine T_op rfl rfl fun kc hc => ?_
  simp; refine hc _ ?_; clear hc kc
  refine T_end (hn _ ?_); clear hn hp kn kp
  refine T_then ?_
  refine T_cond rfl (fun b2 => ?_) (fun b2 => ?_)
  · skip
    refine T_seq ?_
    refine T_region (is := [0]) rfl fun kn kp hn hp => ?_
    refine T_op rfl rfl fun kc hc => ?_
    simp; refine hc _ ?_; clear hc kc
    refine T_end (hn _ ?_); clear hn hp kn kp
    refine T_then ?_
    refine T_ret ?_
    refine X_thenR ?_
    exact finI (Ent.refl _) (by simp [resD, resL, resV]; rfl) (Ent.sub [] [] (by simp [sub, subSl, subHp, place, mp, mpL, mpO, mpG]; rfl)) rfl rfl (by simp)
  · skip
    have hfew : fewB c = true := by simpa using b2
    refine T_skip ?_
    refine T_then ?_
    refine T_seq ?_
    refine T_region (is := [0, 1, 2]) rfl fun kn kp hn hp => ?_
    refine T_op rfl rfl fun kc hc => ?_
    simp; refine hc _ ?_; clear hc kc
    refine T_op rfl rfl fun kc hc => ?_
    simp; refine hc _ ?_; clear hc kc
    refine T_op rfl rfl fun kc hc => ?_
    simp; refine hc _ ?_; clear hc kc
    refine T_end (hn _ ?_); clear hn hp kn kp
    refine T_then ?_
    refine T_cut { sl := [(1, .dat (.val (.int .u64 t))), (2, .ptr 0 0), (5, .ptr 1 0)], hp := [(0, .var ((catD c).map .dat)), (1, .var ((catD { c with courses := rot (t % c.courses.length) c.courses }).map .dat))], nx := 2 } ?_ ?_
    · skip
      refine T_seq ?_
      refine T_region (is := [0, 1, 2, 3]) rfl fun kn kp hn hp => ?_
      refine T_op rfl rfl fun kc hc => ?_
      simp; refine hc _ ?_; clear hc kc
      refine T_op rfl rfl fun kc hc => ?_
      simp; refine hc _ ?_; clear hc kc
      refine T_op rfl rfl fun kc hc => ?_
      simp; refine hc _ ?_; clear hc kc
      refine T_op rfl rfl fun kc hc => ?_
      simp; refine hc _ ?_; clear hc kc
      refine T_end (hn _ ?_); clear hn hp kn kp
      refine T_then ?_
      refine T_seq ?_
      refine T_region (is := [0, 1]) rfl fun kn kp hn hp => ?_
      refine T_op rfl rfl fun kc hc => ?_
      simp; refine hc _ ?_; clear hc kc
      refine T_op rfl rfl fun kc hc => ?_
      simp; refine hc _ ?_; clear hc kc
      refine T_end (hn _ ?_); clear hn hp kn kp
      refine T_then ?_
      refine T_cond rfl (fun b3 => ?_) (fun b3 => ?_)
      · skip
        have hcne : ¬ c.courses = [] := fun e => by rw [e] at b3; simp at b3
        have hpos : 0 < c.courses.length := List.length_pos_iff.2 hcne
        obtain ⟨r, hr⟩ : ∃ r, r = t % c.courses.length := ⟨_, rfl⟩
        have hrl : r < c.courses.length := by rw [hr]; exact Nat.mod_lt _ hpos
        have eu : IntKind.u64.wrap (c.courses.length : Int) = (c.courses.length : Int) := wru (by omega)
        have em : ((t : Int)).tmod (c.courses.length : Int) = (r : Int) := by rw [hr]; rfl
        have ei : IntKind.i64.wrap (r : Int) = (r : Int) := wr (by omega)
        have er : r ≤ c.courses.length := by omega
        have e7 : (c.courses.length - r) * 184 ≤ big := Nat.le_trans (Nat.mul_le_mul_right 184 (show c.courses.length - r ≤ 1048576 by omega)) (by decide)
        have esub : c.courses.length - r + r = c.courses.length := by omega
        have e8 : c.courses.length * 184 ≤ big := Nat.le_trans (Nat.mul_le_mul_right 184 (show c.courses.length ≤ 1048576 by omega)) (by decide)
        have hb : c.courses.length ≤ big := by simp only [big]; omega
        have htk : List.take c.courses.length (List.drop r (List.map courseD c.courses) ++ List.take r (List.map courseD c.courses)) = List.drop r (List.map courseD c.courses) ++ List.take r (List.map courseD c.courses) := List.take_of_length_le (by simp; omega)
        refine T_seq ?_
        refine T_region (is := [0, 1, 2, 3, 4, 5]) rfl fun kn kp hn hp => ?_
        refine T_op rfl rfl fun kc hc => ?_
        simp; refine hc _ ?_; clear hc kc
        refine T_op rfl rfl fun kc hc => ?_
        simp; refine hc _ ?_; clear hc kc
        refine T_op rfl rfl fun kc hc => ?_
        simp [eu]; refine hc _ ?_; clear hc kc
        refine T_op rfl rfl fun kc hc => ?_
        simp [hcne, em]; refine hc _ ?_; clear hc kc
        refine T_op rfl rfl fun kc hc => ?_
        simp [ei]; refine hc _ ?_; clear hc kc
        refine T_op rfl rfl fun kc hc => ?_
        simp; refine hc _ ?_; clear hc kc
        refine T_end (hn _ ?_); clear hn hp kn kp
        refine T_then ?_
        refine T_draw' (is := [0, 1, 2, 3, 4, 5, 6, 7, 8, 9, 10, 11, 12]) rfl (by kernel_rfl) (fun _ _ hE h => Ent.trans hE h) fun kn hn => ?_
        refine D_eff [2] rfl rfl rfl fun kc hc => ?_
        simp
        refine hc _ (fun b hb => by simp at hb; simp [lk, hb]) ?_; clear hc kc
        refine D_op rfl rfl rfl rfl fun kc hc => ?_
        simp; refine hc _ ?_; clear hc kc
        refine D_op rfl rfl rfl rfl fun kc hc => ?_
        simp; refine hc _ ?_; clear hc kc
        refine D_op rfl rfl rfl rfl fun kc hc => ?_
        simp; refine hc _ ?_; clear hc kc
        refine D_op rfl rfl rfl rfl fun kc hc => ?_
        simp [er]; refine hc _ ?_; clear hc kc
        refine D_eff [2, 3] rfl rfl rfl fun kc hc => ?_
        simp [e7]
        refine hc _ (fun b hb => by simp at hb; simp [lk, hb]) ?_; clear hc kc
        refine D_op rfl rfl rfl rfl fun kc hc => ?_
        simp; refine hc _ ?_; clear hc kc
        refine D_op rfl rfl rfl rfl fun kc hc => ?_
        simp; refine hc _ ?_; clear hc kc
        refine D_op rfl rfl rfl rfl fun kc hc => ?_
        simp; refine hc _ ?_; clear hc kc
        refine D_op rfl rfl rfl rfl fun kc hc => ?_
        simp [er]; refine hc _ ?_; clear hc kc
        refine D_eff [3, 4] rfl rfl rfl fun kc hc => ?_
        simp [Nat.min_eq_left er, esub, e8]
        refine hc _ (fun b hb => by simp at hb; simp [lk, hb]) ?_; clear hc kc
        refine D_op rfl rfl rfl rfl fun kc hc => ?_
        simp; refine hc _ ?_; clear hc kc
        refine D_eff [1] rfl rfl rfl fun kc hc => ?_
        simp
        refine hc _ (fun b hb => by simp at hb; simp [lk, hb]) ?_; clear hc kc
        refine D_end rfl (by kernel_rfl) (hn _ ?_); clear hn kn
        refine T_then ?_
        exact Ent.trans (Ent.giveV (b := 1) (k := 0) (m := 9) (e := .sl 16 ((c.courses.drop r ++ c.courses.take r).map courseD)) (hp' := _) rfl rfl (by simp [Sx.give, er, hb, htk] <;> first | rfl | exact ⟨rfl, rfl⟩) rfl) (Ent.sub [1, 2, 5] [0, 1] (by simp [sub, subSl, subHp, place, mp, mpL, mpO, mpG, hr, rot]))
      · skip
        have hce : c.courses = [] := by cases hq : c.courses with | nil => rfl | cons => rw [hq] at b3; simp at b3
        refine T_skip ?_
        refine T_then ?_
        exact Ent.sub [1, 2, 5] [0, 1] (by simp [sub, subSl, subHp, place, mp, mpL, mpO, mpG, rot, hce])
    refine T_cut { sl := [(1, .dat (.val (.int .u64 t))), (2, .ptr 0 0), (5, .ptr 1 0)], hp := [(0, .var ((catD c).map .dat)), (1, .var ((catD { c with courses := rot (t % c.courses.length) c.courses, progs := rot (t % c.progs.length) c.progs }).map .dat))], nx := 2 } ?_ ?_
    · skip
      refine T_seq ?_
      refine T_region (is := [0, 1, 2, 3]) rfl fun kn kp hn hp => ?_
      refine T_op rfl rfl fun kc hc => ?_
      simp; refine hc _ ?_; clear hc kc
      refine T_op rfl rfl fun kc hc => ?_
      simp; refine hc _ ?_; clear hc kc
      refine T_op rfl rfl fun kc hc => ?_
      simp; refine hc _ ?_; clear hc kc
      refine T_op rfl rfl fun kc hc => ?_
      simp; refine hc _ ?_; clear hc kc
      refine T_end (hn _ ?_); clear hn hp kn kp
      refine T_then ?_
      refine T_seq ?_
      refine T_region (is := [0, 1]) rfl fun kn kp hn hp => ?_
      refine T_op rfl rfl fun kc hc => ?_
      simp; refine hc _ ?_; clear hc kc
      refine T_op rfl rfl fun kc hc => ?_
      simp; refine hc _ ?_; clear hc kc
      refine T_end (hn _ ?_); clear hn hp kn kp
      refine T_then ?_
      refine T_cond rfl (fun b4 => ?_) (fun b4 => ?_)
      · skip
        have hcne : ¬ c.progs = [] := fun e => by rw [e] at b4; simp at b4
        have hpos : 0 < c.progs.length := List.length_pos_iff.2 hcne
        obtain ⟨r, hr⟩ : ∃ r, r = t % c.progs.length := ⟨_, rfl⟩
        have hrl : r < c.progs.length := by rw [hr]; exact Nat.mod_lt _ hpos
        have eu : IntKind.u64.wrap (c.progs.length : Int) = (c.progs.length : Int) := wru (by omega)
        have em : ((t : Int)).tmod (c.progs.length : Int) = (r : Int) := by rw [hr]; rfl
        have ei : IntKind.i64.wrap (r : Int) = (r : Int) := wr (by omega)
        have er : r ≤ c.progs.length := by omega
        have e7 : (c.progs.length - r) * 80 ≤ big := Nat.le_trans (Nat.mul_le_mul_right 80 (show c.progs.length - r ≤ 1048576 by omega)) (by decide)
        have esub : c.progs.length - r + r = c.progs.length := by omega
        have e8 : c.progs.length * 80 ≤ big := Nat.le_trans (Nat.mul_le_mul_right 80 (show c.progs.length ≤ 1048576 by omega)) (by decide)
        have hb : c.progs.length ≤ big := by simp only [big]; omega
        have htk : List.take c.progs.length (List.drop r (List.map progD c.progs) ++ List.take r (List.map progD c.progs)) = List.drop r (List.map progD c.progs) ++ List.take r (List.map progD c.progs) := List.take_of_length_le (by simp; omega)
        refine T_seq ?_
        refine T_region (is := [0, 1, 2, 3, 4, 5]) rfl fun kn kp hn hp => ?_
        refine T_op rfl rfl fun kc hc => ?_
        simp; refine hc _ ?_; clear hc kc
        refine T_op rfl rfl fun kc hc => ?_
        simp; refine hc _ ?_; clear hc kc
        refine T_op rfl rfl fun kc hc => ?_
        simp [eu]; refine hc _ ?_; clear hc kc
        refine T_op rfl rfl fun kc hc => ?_
        simp [hcne, em]; refine hc _ ?_; clear hc kc
        refine T_op rfl rfl fun kc hc => ?_
        simp [ei]; refine hc _ ?_; clear hc kc
        refine T_op rfl rfl fun kc hc => ?_
        simp; refine hc _ ?_; clear hc kc
        refine T_end (hn _ ?_); clear hn hp kn kp
        refine T_then ?_
        refine T_draw' (is := [0, 1, 2, 3, 4, 5, 6, 7, 8, 9, 10, 11, 12]) rfl (by kernel_rfl) (fun _ _ hE h => Ent.trans hE h) fun kn hn => ?_
        refine D_eff [2] rfl rfl rfl fun kc hc => ?_
        simp
        refine hc _ (fun b hb => by simp at hb; simp [lk, hb]) ?_; clear hc kc
        refine D_op rfl rfl rfl rfl fun kc hc => ?_
        simp; refine hc _ ?_; clear hc kc
        refine D_op rfl rfl rfl rfl fun kc hc => ?_
        simp; refine hc _ ?_; clear hc kc
        refine D_op rfl rfl rfl rfl fun kc hc => ?_
        simp; refine hc _ ?_; clear hc kc
        refine D_op rfl rfl rfl rfl fun kc hc => ?_
        simp [er]; refine hc _ ?_; clear hc kc
        refine D_eff [2, 3] rfl rfl rfl fun kc hc => ?_
        simp [e7]
        refine hc _ (fun b hb => by simp at hb; simp [lk, hb]) ?_; clear hc kc
        refine D_op rfl rfl rfl rfl fun kc hc => ?_
        simp; refine hc _ ?_; clear hc kc
        refine D_op rfl rfl rfl rfl fun kc hc => ?_
        simp; refine hc _ ?_; clear hc kc
        refine D_op rfl rfl rfl rfl fun kc hc => ?_
        simp; refine hc _ ?_; clear hc kc
        refine D_op rfl rfl rfl rfl fun kc hc => ?_
        simp [er]; refine hc _ ?_; clear hc kc
        refine D_eff [3, 4] rfl rfl rfl fun kc hc => ?_
        simp [Nat.min_eq_left er, esub, e8]
        refine hc _ (fun b hb => by simp at hb; simp [lk, hb]) ?_; clear hc kc
        refine D_op rfl rfl rfl rfl fun kc hc => ?_
        simp; refine hc _ ?_; clear hc kc
        refine D_eff [1] rfl rfl rfl fun kc hc => ?_
        simp
        refine hc _ (fun b hb => by simp at hb; simp [lk, hb]) ?_; clear hc kc
        refine D_end rfl (by kernel_rfl) (hn _ ?_); clear hn kn
        refine T_then ?_
        exact Ent.trans (Ent.giveV (b := 1) (k := 2) (m := 9) (e := .sl 7 ((c.progs.drop r ++ c.progs.take r).map progD)) (hp' := _) rfl rfl (by simp [Sx.give, er, hb, htk] <;> first | rfl | exact ⟨rfl, rfl⟩) rfl) (Ent.sub [1, 2, 5] [0, 1] (by simp [sub, subSl, subHp, place, mp, mpL, mpO, mpG, hr, rot]))
      · skip
        have hce : c.progs = [] := by cases hq : c.progs with | nil => rfl | cons => rw [hq] at b4; simp at b4
        refine T_skip ?_
        refine T_then ?_
        exact Ent.sub [1, 2, 5] [0, 1] (by simp [sub, subSl, subHp, place, mp, mpL, mpO, mpG, rot, hce])
    refine T_cut { sl := [(1, .dat (.val (.int .u64 t))), (2, .ptr 0 0), (5, .ptr 1 0)], hp := [(0, .var ((catD c).map .dat)), (1, .var ((catD { c with courses := rot (t % c.courses.length) c.courses, progs := rot (t % c.progs.length) c.progs, classes := rot (t % c.classes.length) c.classes }).map .dat))], nx := 2 } ?_ ?_
    · skip
      refine T_seq ?_
      refine T_region (is := [0, 1, 2, 3]) rfl fun kn kp hn hp => ?_
      refine T_op rfl rfl fun kc hc => ?_
      simp; refine hc _ ?_; clear hc kc
      refine T_op rfl rfl fun kc hc => ?_
      simp; refine hc _ ?_; clear hc kc
      refine T_op rfl rfl fun kc hc => ?_
      simp; refine hc _ ?_; clear hc kc
      refine T_op rfl rfl fun kc hc => ?_
      simp; refine hc _ ?_; clear hc kc
      refine T_end (hn _ ?_); clear hn hp kn kp
      refine T_then ?_
      refine T_seq ?_
      refine T_region (is := [0, 1]) rfl fun kn kp hn hp => ?_
      refine T_op rfl rfl fun kc hc => ?_
      simp; refine hc _ ?_; clear hc kc
      refine T_op rfl rfl fun kc hc => ?_
      simp; refine hc _ ?_; clear hc kc
      refine T_end (hn _ ?_); clear hn hp kn kp
      refine T_then ?_
      refine T_cond rfl (fun b5 => ?_) (fun b5 => ?_)
      · skip
        have hcne : ¬ c.classes = [] := fun e => by rw [e] at b5; simp at b5
        have hpos : 0 < c.classes.length := List.length_pos_iff.2 hcne
        obtain ⟨r, hr⟩ : ∃ r, r = t % c.classes.length := ⟨_, rfl⟩
        have hrl : r < c.classes.length := by rw [hr]; exact Nat.mod_lt _ hpos
        have eu : IntKind.u64.wrap (c.classes.length : Int) = (c.classes.length : Int) := wru (by omega)
        have em : ((t : Int)).tmod (c.classes.length : Int) = (r : Int) := by rw [hr]; rfl
        have ei : IntKind.i64.wrap (r : Int) = (r : Int) := wr (by omega)
        have er : r ≤ c.classes.length := by omega
        have e7 : (c.classes.length - r) * 40 ≤ big := Nat.le_trans (Nat.mul_le_mul_right 40 (show c.classes.length - r ≤ 1048576 by omega)) (by decide)
        have esub : c.classes.length - r + r = c.classes.length := by omega
        have e8 : c.classes.length * 40 ≤ big := Nat.le_trans (Nat.mul_le_mul_right 40 (show c.classes.length ≤ 1048576 by omega)) (by decide)
        have hb : c.classes.length ≤ big := by simp only [big]; omega
        have htk : List.take c.classes.length (List.drop r (List.map classD c.classes) ++ List.take r (List.map classD c.classes)) = List.drop r (List.map classD c.classes) ++ List.take r (List.map classD c.classes) := List.take_of_length_le (by simp; omega)
        refine T_seq ?_
        refine T_region (is := [0, 1, 2, 3, 4, 5]) rfl fun kn kp hn hp => ?_
        refine T_op rfl rfl fun kc hc => ?_
        simp; refine hc _ ?_; clear hc kc
        refine T_op rfl rfl fun kc hc => ?_
        simp; refine hc _ ?_; clear hc kc
        refine T_op rfl rfl fun kc hc => ?_
        simp [eu]; refine hc _ ?_; clear hc kc
        refine T_op rfl rfl fun kc hc => ?_
        simp [hcne, em]; refine hc _ ?_; clear hc kc
        refine T_op rfl rfl fun kc hc => ?_
        simp [ei]; refine hc _ ?_; clear hc kc
        refine T_op rfl rfl fun kc hc => ?_
        simp; refine hc _ ?_; clear hc kc
        refine T_end (hn _ ?_); clear hn hp kn kp
        refine T_then ?_
        refine T_draw' (is := [0, 1, 2, 3, 4, 5, 6, 7, 8, 9, 10, 11, 12]) rfl (by kernel_rfl) (fun _ _ hE h => Ent.trans hE h) fun kn hn => ?_
        refine D_eff [2] rfl rfl rfl fun kc hc => ?_
        simp
        refine hc _ (fun b hb => by simp at hb; simp [lk, hb]) ?_; clear hc kc
        refine D_op rfl rfl rfl rfl fun kc hc => ?_
        simp; refine hc _ ?_; clear hc kc
        refine D_op rfl rfl rfl rfl fun kc hc => ?_
        simp; refine hc _ ?_; clear hc kc
        refine D_op rfl rfl rfl rfl fun kc hc => ?_
        simp; refine hc _ ?_; clear hc kc
        refine D_op rfl rfl rfl rfl fun kc hc => ?_
        simp [er]; refine hc _ ?_; clear hc kc
        refine D_eff [2, 3] rfl rfl rfl fun kc hc => ?_
        simp [e7]
        refine hc _ (fun b hb => by simp at hb; simp [lk, hb]) ?_; clear hc kc
        refine D_op rfl rfl rfl rfl fun kc hc => ?_
        simp; refine hc _ ?_; clear hc kc
        refine D_op rfl rfl rfl rfl fun kc hc => ?_
        simp; refine hc _ ?_; clear hc kc
        refine D_op rfl rfl rfl rfl fun kc hc => ?_
        simp; refine hc _ ?_; clear hc kc
        refine D_op rfl rfl rfl rfl fun kc hc => ?_
        simp [er]; refine hc _ ?_; clear hc kc
        refine D_eff [3, 4] rfl rfl rfl fun kc hc => ?_
        simp [Nat.min_eq_left er, esub, e8]
        refine hc _ (fun b hb => by simp at hb; simp [lk, hb]) ?_; clear hc kc
        refine D_op rfl rfl rfl rfl fun kc hc => ?_
        simp; refine hc _ ?_; clear hc kc
        refine D_eff [1] rfl rfl rfl fun kc hc => ?_
        simp
        refine hc _ (fun b hb => by simp at hb; simp [lk, hb]) ?_; clear hc kc
        refine D_end rfl (by kernel_rfl) (hn _ ?_); clear hn kn
        refine T_then ?_
        exact Ent.trans (Ent.giveV (b := 1) (k := 3) (m := 9) (e := .sl 4 ((c.classes.drop r ++ c.classes.take r).map classD)) (hp' := _) rfl rfl (by simp [Sx.give, er, hb, htk] <;> first | rfl | exact ⟨rfl, rfl⟩) rfl) (Ent.sub [1, 2, 5] [0, 1] (by simp [sub, subSl, subHp, place, mp, mpL, mpO, mpG, hr, rot]))
      · skip
        have hce : c.classes = [] := by cases hq : c.classes with | nil => rfl | cons => rw [hq] at b5; simp at b5
        refine T_skip ?_
        refine T_then ?_
        exact Ent.sub [1, 2, 5] [0, 1] (by simp [sub, subSl, subHp, place, mp, mpL, mpO, mpG, rot, hce])
    refine T_seq ?_
    refine T_region (is := [0, 1, 2, 3, 4, 5, 6, 7]) rfl fun kn kp hn hp => ?_
    refine T_op rfl rfl fun kc hc => ?_
    simp; refine hc _ ?_; clear hc kc
    refine T_op rfl rfl fun kc hc => ?_
    simp
    refine CallS.dat (w12) (rfl) rfl rfl rfl ?_
    simp [enum]; refine hc _ ?_; clear hc kc
    refine T_op rfl rfl fun kc hc => ?_
    simp; refine hc _ ?_; clear hc kc
    refine T_op rfl rfl fun kc hc => ?_
    simp; refine hc _ ?_; clear hc kc
    refine T_op rfl rfl fun kc hc => ?_
    simp; refine hc _ ?_; clear hc kc
    refine T_op rfl rfl fun kc hc => ?_
    simp; refine hc _ ?_; clear hc kc
    refine T_op rfl rfl fun kc hc => ?_
    simp; refine hc _ ?_; clear hc kc
    refine T_op rfl rfl fun kc hc => ?_
    simp; refine hc _ ?_; clear hc kc
    refine T_end (hn _ ?_); clear hn hp kn kp
    refine T_then ?_
    refine T_seq ?_
    refine T_region (is := [0, 1, 2, 3, 4, 5, 6, 7]) rfl fun kn kp hn hp => ?_
    refine T_op rfl rfl fun kc hc => ?_
    simp; refine hc _ ?_; clear hc kc
    refine T_op rfl rfl fun kc hc => ?_
    simp
    refine CallS.dat (w12x) (rfl) rfl rfl rfl ?_
    simp [enum]; refine hc _ ?_; clear hc kc
    refine T_op rfl rfl fun kc hc => ?_
    simp; refine hc _ ?_; clear hc kc
    refine T_op rfl rfl fun kc hc => ?_
    simp; refine hc _ ?_; clear hc kc
    refine T_op rfl rfl fun kc hc => ?_
    simp; refine hc _ ?_; clear hc kc
    refine T_op rfl rfl fun kc hc => ?_
    simp; refine hc _ ?_; clear hc kc
    refine T_op rfl rfl fun kc hc => ?_
    simp; refine hc _ ?_; clear hc kc
    refine T_op rfl rfl fun kc hc => ?_
    simp; refine hc _ ?_; clear hc kc
    refine T_end (hn _ ?_); clear hn hp kn kp
    refine T_then ?_
    refine T_seq ?_
    refine T_seq ?_
    refine T_region (is := [0, 1, 2, 3, 4, 5, 6, 7, 8, 9, 10, 11]) rfl fun kn kp hn hp => ?_
    refine T_op rfl rfl fun kc hc => ?_
    simp; refine hc _ ?_; clear hc kc
    refine T_op rfl rfl fun kc hc => ?_
    simp; refine hc _ ?_; clear hc kc
    refine T_op rfl rfl fun kc hc => ?_
    simp; refine hc _ ?_; clear hc kc
    refine T_op rfl rfl fun kc hc => ?_
    simp; refine hc _ ?_; clear hc kc
    refine T_on rfl rfl rfl rfl rfl fun kc hc => ?_
    simp; refine hc _ ?_; clear hc kc
    refine T_on rfl rfl rfl rfl rfl fun kc hc => ?_
    simp; refine hc _ ?_; clear hc kc
    refine T_on rfl rfl rfl rfl rfl fun kc hc => ?_
    simp; refine hc _ ?_; clear hc kc
    refine T_on rfl rfl rfl rfl rfl fun kc hc => ?_
    simp; refine hc _ ?_; clear hc kc
    refine T_on rfl rfl rfl rfl rfl fun kc hc => ?_
    simp; refine hc _ ?_; clear hc kc
    refine T_on rfl rfl rfl rfl rfl fun kc hc => ?_
    simp; refine hc _ ?_; clear hc kc
    refine T_on rfl rfl rfl rfl rfl fun kc hc => ?_
    simp [hs]; refine hc _ ?_; clear hc kc
    refine T_op rfl rfl fun kc hc => ?_
    simp [hs]; refine hc _ ?_; clear hc kc
    refine T_end (hn _ ?_); clear hn hp kn kp
    refine T_then ?_
    refine T_false (by simp [hs]) ?_
    refine T_skip ?_
    refine T_then ?_
    refine T_seq ?_
    refine T_seq ?_
    refine T_region (is := [0]) rfl fun kn kp hn hp => ?_
    refine T_op rfl rfl fun kc hc => ?_
    simp; refine hc _ ?_; clear hc kc
    refine T_end (hn _ ?_); clear hn hp kn kp
    refine T_then ?_
    refine T_block ?_
    refine T_loop (fun z : Nat => { sl := [(12, .ptr 0 0), (14, .ptr 1 0), (16, .dat (iD z))], hp := [(0, .var ((catD A).map .dat)), (1, .var ((catD B).map .dat))], nx := 2 }) (fun z => z ≤ A.same.length) (fun z => A.same.length - z) 0 (Ent.sub [12, 14, 16] [2, 3] (by simp [sub, subSl, subHp, place, mp, mpL, mpO, mpG, hs])) (Nat.zero_le _) fun z hz => ?_
    refine T_seq ?_
    refine T_seq ?_
    refine T_region (is := [0, 1, 2, 3, 4]) rfl fun kn kp hn hp => ?_
    refine T_op rfl rfl fun kc hc => ?_
    simp; refine hc _ ?_; clear hc kc
    refine T_op rfl rfl fun kc hc => ?_
    simp; refine hc _ ?_; clear hc kc
    refine T_op rfl rfl fun kc hc => ?_
    simp; refine hc _ ?_; clear hc kc
    refine T_op rfl rfl fun kc hc => ?_
    simp; refine hc _ ?_; clear hc kc
    refine T_op rfl rfl fun kc hc => ?_
    simp; refine hc _ ?_; clear hc kc
    refine T_end (hn _ ?_); clear hn hp kn kp
    refine T_then ?_
    refine T_cond rfl (fun b7 => ?_) (fun b7 => ?_)
    · skip
      have hz' : z < A.same.length := by simpa using b7
      obtain ⟨p, hxp⟩ : ∃ x, A.same[z]? = some x := ⟨_, List.getElem?_eq_getElem hz'⟩
      have ez : IntKind.i64.wrap ((z : Int) + 1) = (z : Int) + 1 := wr1 hz' (by omega)
      refine T_skip ?_
      refine T_then ?_
      refine T_seq ?_
      refine T_block ?_
      refine T_seqDraw (is := [0, 1, 2, 3, 4, 5, 6, 7, 8, 9, 10]) rfl (by kernel_rfl) fun kn hn => ?_
      refine D_op rfl rfl rfl rfl fun kc hc => ?_
      simp; refine hc _ ?_; clear hc kc
      refine D_op rfl rfl rfl rfl fun kc hc => ?_
      simp; refine hc _ ?_; clear hc kc
      refine D_op rfl rfl rfl rfl fun kc hc => ?_
      simp; refine hc _ ?_; clear hc kc
      refine D_op rfl rfl rfl rfl fun kc hc => ?_
      simp [hxp]; refine hc _ ?_; clear hc kc
      refine D_op rfl rfl rfl rfl fun kc hc => ?_
      simp [hxp]; refine hc _ ?_; clear hc kc
      refine D_op rfl rfl rfl rfl fun kc hc => ?_
      simp; refine hc _ ?_; clear hc kc
      refine D_op rfl rfl rfl rfl fun kc hc => ?_
      simp; refine hc _ ?_; clear hc kc
      refine D_op rfl rfl rfl rfl fun kc hc => ?_
      simp; refine hc _ ?_; clear hc kc
      refine D_op rfl rfl rfl rfl fun kc hc => ?_
      simp [hs, hxp]; refine hc _ ?_; clear hc kc
      refine D_op rfl rfl rfl rfl fun kc hc => ?_
      simp [hs, hxp]; refine hc _ ?_; clear hc kc
      refine D_op rfl rfl rfl rfl fun kc hc => ?_
      simp; refine hc _ ?_; clear hc kc
      refine D_end rfl (by kernel_rfl) (hn _ ?_); clear hn kn
      refine T_false (by simp [hxp]) ?_
      refine T_skip ?_
      refine X_blockN ?_
      refine T_then ?_
      refine T_region (is := [0, 1, 2]) rfl fun kn kp hn hp => ?_
      refine T_op rfl rfl fun kc hc => ?_
      simp; refine hc _ ?_; clear hc kc
      refine T_op rfl rfl fun kc hc => ?_
      simp [ez]; refine hc _ ?_; clear hc kc
      refine T_op rfl rfl fun kc hc => ?_
      simp; refine hc _ ?_; clear hc kc
      refine T_end (hn _ ?_); clear hn hp kn kp
      exact X_loopN (z + 1) (Ent.sub [12, 14, 16] [0, 1] (by simp [sub, subSl, subHp, place, mp, mpL, mpO, mpG, ez, hs])) hz' (by omega)
    · skip
      have hz' : z = A.same.length := by simp at b7; omega
      subst hz'
      refine T_exit ?_
      refine X_thenE ?_
      refine X_loopE ?_
      refine X_hit ?_
      refine T_then ?_
      refine T_seq ?_
      refine T_region (is := [0]) rfl fun kn kp hn hp => ?_
      refine T_op rfl rfl fun kc hc => ?_
      simp; refine hc _ ?_; clear hc kc
      refine T_end (hn _ ?_); clear hn hp kn kp
      refine T_then ?_
      refine T_ret ?_
      exact finI (Ent.refl _) (by simp [resD, resL, resV]; rfl) (Ent.sub [] [] (by simp [sub, subSl, subHp, place, mp, mpL, mpO, mpG]; rfl)) rfl rfl (by simp)
-- END

end Go.Proofs.Ytbkkekbeaabokaa
