/- The names: what is small, what is defined twice, what is the same. -/
import Derived.Test.YtbkkekbeaabokaaNh
set_option linter.unusedVariables false
set_option linter.unusedSimpArgs false
namespace Go.Proofs.Ytbkkekbeaabokaa
open Go Go.Proofs.Ytbkkekbeaabokaa.Sx

def lensB (c : Cat) : Bool := (((((decide (8 < c.courses.length) || decide (6 < c.same.length)) || decide (4 < c.progs.length)) || decide (6 < c.classes.length)) || decide (6 < c.fees.length)) || decide (6 < c.honours.length)) || decide (6 < c.clauses.length)
def bigC (y : Course) : Bool := decide (20 < (partsOf y.need).length) || decide (20 < (partsOf y.bar).length)
def bigQ (q : Req) : Bool := decide (8 < q.names.length) || decide (8 < q.frm.length)
def bigP (p : Prog) : Bool := decide (5 < p.reqs.length) || p.reqs.any bigQ
def fewB (c : Cat) : Bool := !lensB c && (!c.courses.any bigC && !c.progs.any bigP)
def twiceP (p : Prog) : Bool := twiceB (p.reqs.map (·.name))
def twiceC (c : Cat) : Bool := ((twiceB (c.courses.map (·.name)) || twiceB (c.courses.map (·.number))) || c.progs.any twiceP) || (((((twiceB (c.progs.map (·.name)) || twiceB (c.progs.map (·.number))) || twiceB (c.classes.map (·.name))) || twiceB (c.fees.map (·.name))) || twiceB (c.honours.map (·.name))))
theorem any_yes {α : Type} {p : α → Bool} {l : List α} {z : Nat} {x : α} (h : l[z]? = some x) (hp : p x = true) : l.any p = true := by
  rw [List.any_eq_true]
  exact ⟨x, List.mem_of_getElem? h, hp⟩

-- WALK 11
-- sizar/sizarref11.Few
theorem walk11 (c : Cat) (hf : c.fit) : Does Try.prog 11 [.agg (catD c)] (.dat (bV (fewB c))) [] := by
  have h1 := hf.courses
  have h2 := hf.progs
  refine Does.intro [.tmp 2] Try.func11 rfl (by kernel_rfl) Try.ntmps11 rfl (Nat.le_of_ble_eq_true rfl) ?_
  refine T_seq ?_
  refine T_region (is := [0, 1]) rfl fun kn kp hn hp => ?_
  refine T_op rfl rfl fun kc hc => ?_
  simp; refine hc _ ?_; clear hc kc
  refine T_op rfl rfl fun kc hc => ?_
  simp; refine hc _ ?_; clear hc kc
  refine T_end (hn _ ?_); clear hn hp kn kp
  refine T_then ?_
  refine T_seq ?_
  refine T_seq ?_
  refine T_region (is := [0, 1, 2, 3, 4, 5, 6, 7, 8, 9, 10, 11, 12, 13, 14, 15, 16, 17, 18, 19, 20, 21, 22, 23, 24, 25, 26, 27, 28, 29, 30, 31, 32, 33, 34, 35, 36, 37, 38, 39]) rfl fun kn kp hn hp => ?_
  refine T_op rfl rfl fun kc hc => ?_
  simp; refine hc _ ?_; clear hc kc
  refine T_op rfl rfl fun kc hc => ?_
  simp; refine hc _ ?_; clear hc kc
  refine T_op rfl rfl fun kc hc => ?_
  simp; refine hc _ ?_; clear hc kc
  refine T_op rfl rfl fun kc hc => ?_
  simp; refine hc _ ?_; clear hc kc
  refine T_op rfl rfl fun kc hc => ?_
  simp; refine hc _ ?_; clear hc kc
  refine T_pure rfl (pstep_one rfl rfl rfl rfl fun g0 => .op rfl (by simp [g0]; rfl)) fun kc hc => ?_
  simp; refine hc _ ?_; clear hc kc
  refine T_pure rfl (pstep_one rfl rfl rfl rfl fun g0 => .op rfl (by simp [g0]; rfl)) fun kc hc => ?_
  simp; refine hc _ ?_; clear hc kc
  refine T_pure rfl (pstep_one rfl rfl rfl rfl fun g0 => .op rfl (by simp [g0]; rfl)) fun kc hc => ?_
  simp; refine hc _ ?_; clear hc kc
  refine T_pure rfl (pstep_one rfl rfl rfl rfl fun g0 => .op rfl (by simp [g0]; rfl)) fun kc hc => ?_
  simp; refine hc _ ?_; clear hc kc
  refine T_op rfl rfl fun kc hc => ?_
  simp; refine hc _ ?_; clear hc kc
  refine T_op rfl rfl fun kc hc => ?_
  simp; refine hc _ ?_; clear hc kc
  refine T_pure rfl (pstep_one rfl rfl rfl rfl fun g0 => .op rfl (by simp [g0]; rfl)) fun kc hc => ?_
  simp; refine hc _ ?_; clear hc kc
  refine T_pure rfl (pstep_one rfl rfl rfl rfl fun g0 => .op rfl (by simp [g0]; rfl)) fun kc hc => ?_
  simp; refine hc _ ?_; clear hc kc
  refine T_pure rfl (pstep_one rfl rfl rfl rfl fun g0 => .op rfl (by simp [g0]; rfl)) fun kc hc => ?_
  simp; refine hc _ ?_; clear hc kc
  refine T_pure rfl (pstep_one rfl rfl rfl rfl fun g0 => .op rfl (by simp [g0]; rfl)) fun kc hc => ?_
  simp; refine hc _ ?_; clear hc kc
  refine T_op rfl rfl fun kc hc => ?_
  simp; refine hc _ ?_; clear hc kc
  refine T_op rfl rfl fun kc hc => ?_
  simp; refine hc _ ?_; clear hc kc
  refine T_pure rfl (pstep_one rfl rfl rfl rfl fun g0 => .op rfl (by simp [g0]; rfl)) fun kc hc => ?_
  simp; refine hc _ ?_; clear hc kc
  refine T_pure rfl (pstep_one rfl rfl rfl rfl fun g0 => .op rfl (by simp [g0]; rfl)) fun kc hc => ?_
  simp; refine hc _ ?_; clear hc kc
  refine T_pure rfl (pstep_one rfl rfl rfl rfl fun g0 => .op rfl (by simp [g0]; rfl)) fun kc hc => ?_
  simp; refine hc _ ?_; clear hc kc
  refine T_pure rfl (pstep_one rfl rfl rfl rfl fun g0 => .op rfl (by simp [g0]; rfl)) fun kc hc => ?_
  simp; refine hc _ ?_; clear hc kc
  refine T_op rfl rfl fun kc hc => ?_
  simp; refine hc _ ?_; clear hc kc
  refine T_op rfl rfl fun kc hc => ?_
  simp; refine hc _ ?_; clear hc kc
  refine T_pure rfl (pstep_one rfl rfl rfl rfl fun g0 => .op rfl (by simp [g0]; rfl)) fun kc hc => ?_
  simp; refine hc _ ?_; clear hc kc
  refine T_pure rfl (pstep_one rfl rfl rfl rfl fun g0 => .op rfl (by simp [g0]; rfl)) fun kc hc => ?_
  simp; refine hc _ ?_; clear hc kc
  refine T_pure rfl (pstep_one rfl rfl rfl rfl fun g0 => .op rfl (by simp [g0]; rfl)) fun kc hc => ?_
  simp; refine hc _ ?_; clear hc kc
  refine T_pure rfl (pstep_one rfl rfl rfl rfl fun g0 => .op rfl (by simp [g0]; rfl)) fun kc hc => ?_
  simp; refine hc _ ?_; clear hc kc
  refine T_op rfl rfl fun kc hc => ?_
  simp; refine hc _ ?_; clear hc kc
  refine T_op rfl rfl fun kc hc => ?_
  simp; refine hc _ ?_; clear hc kc
  refine T_pure rfl (pstep_one rfl rfl rfl rfl fun g0 => .op rfl (by simp [g0]; rfl)) fun kc hc => ?_
  simp; refine hc _ ?_; clear hc kc
  refine T_pure rfl (pstep_one rfl rfl rfl rfl fun g0 => .op rfl (by simp [g0]; rfl)) fun kc hc => ?_
  simp; refine hc _ ?_; clear hc kc
  refine T_pure rfl (pstep_one rfl rfl rfl rfl fun g0 => .op rfl (by simp [g0]; rfl)) fun kc hc => ?_
  simp; refine hc _ ?_; clear hc kc
  refine T_pure rfl (pstep_one rfl rfl rfl rfl fun g0 => .op rfl (by simp [g0]; rfl)) fun kc hc => ?_
  simp; refine hc _ ?_; clear hc kc
  refine T_op rfl rfl fun kc hc => ?_
  simp; refine hc _ ?_; clear hc kc
  refine T_op rfl rfl fun kc hc => ?_
  simp; refine hc _ ?_; clear hc kc
  refine T_pure rfl (pstep_one rfl rfl rfl rfl fun g0 => .op rfl (by simp [g0]; rfl)) fun kc hc => ?_
  simp; refine hc _ ?_; clear hc kc
  refine T_pure rfl (pstep_one rfl rfl rfl rfl fun g0 => .op rfl (by simp [g0]; rfl)) fun kc hc => ?_
  simp; refine hc _ ?_; clear hc kc
  refine T_pure rfl (pstep_one rfl rfl rfl rfl fun g0 => .op rfl (by simp [g0]; rfl)) fun kc hc => ?_
  simp; refine hc _ ?_; clear hc kc
  refine T_pure rfl (pstep_one rfl rfl rfl rfl fun g0 => .op rfl (by simp [g0]; rfl)) fun kc hc => ?_
  simp; refine hc _ ?_; clear hc kc
  refine T_op rfl rfl fun kc hc => ?_
  simp; refine hc _ ?_; clear hc kc
  refine T_end (hn _ ?_); clear hn hp kn kp
  refine T_then ?_
  refine T_cond rfl (fun b1 => ?_) (fun b1 => ?_)
  · skip
    have hl : lensB c = true := by simp [lensB]; simp at b1; omega
    refine T_seq ?_
    refine T_region (is := [0]) rfl fun kn kp hn hp => ?_
    refine T_op rfl rfl fun kc hc => ?_
    simp; refine hc _ ?_; clear hc kc
    refine T_end (hn _ ?_); clear hn hp kn kp
    refine T_then ?_
    refine T_ret ?_
    refine X_thenR ?_
    exact finI (Ent.refl _) (by simp [resD, resL, resV]; rfl) (Ent.sub [] [] (by simp [sub, subSl, subHp, place, mp, mpL, mpO, mpG]; rfl)) rfl rfl (by simp [fewB, hl])
  · skip
    have hl : lensB c = false := by simp [lensB]; simp at b1; omega
    refine T_skip ?_
    refine T_then ?_
    refine T_seq ?_
    refine T_seq ?_
    refine T_region (is := [0]) rfl fun kn kp hn hp => ?_
    refine T_op rfl rfl fun kc hc => ?_
    simp; refine hc _ ?_; clear hc kc
    refine T_end (hn _ ?_); clear hn hp kn kp
    refine T_then ?_
    refine T_block ?_
    refine T_loop (fun z : Nat => { sl := [(1, .ptr 0 0), (3, .dat (iD z))], hp := [(0, .var ((catD c).map .dat))], nx := 1 }) (fun z => z ≤ c.courses.length ∧ (c.courses.take z).any bigC = false) (fun z => c.courses.length - z) 0 (Ent.sub [1, 3] [0] (by simp [sub, subSl, subHp, place, mp, mpL, mpO, mpG])) ⟨Nat.zero_le _, rfl⟩ fun z hz => ?_
    obtain ⟨hz, hza⟩ := hz
    refine T_seq ?_
    refine T_seq ?_
    refine T_region (is := [0, 1, 2, 3, 4]) rfl fun kn kp hn hp => ?_
    refine T_op rfl rfl fun kc hc => ?_
    simp; refine hc _ ?_; clear hc kc
    refine T_op rfl rfl fun kc hc => ?_
    simp; refine hc _ ?_; clear hc kc
    refine T_op rfl rfl fun kc hc => ?_
    simp; refine hc _ ?_; clear hc kc
    refine T_op rfl rfl fun kc hc => ?_
    simp; refine hc _ ?_; clear hc kc
    refine T_op rfl rfl fun kc hc => ?_
    simp; refine hc _ ?_; clear hc kc
    refine T_end (hn _ ?_); clear hn hp kn kp
    refine T_then ?_
    refine T_cond rfl (fun b2 => ?_) (fun b2 => ?_)
    · skip
      have hz' : z < c.courses.length := by simpa using b2
      obtain ⟨y, hxy⟩ : ∃ x, c.courses[z]? = some x := ⟨_, List.getElem?_eq_getElem hz'⟩
      have ez : IntKind.i64.wrap ((z : Int) + 1) = (z : Int) + 1 := wr1 hz' (by omega)
      have hyn := hf.need y (List.mem_of_getElem? hxy)
      refine T_skip ?_
      refine T_then ?_
      refine T_seq ?_
      refine T_block ?_
      refine T_seq ?_
      refine T_region (is := [0, 1, 2, 3, 4, 5, 6, 7, 8, 9, 10, 11, 12, 13, 14, 15, 16, 17, 18, 19]) rfl fun kn kp hn hp => ?_
      refine T_op rfl rfl fun kc hc => ?_
      simp; refine hc _ ?_; clear hc kc
      refine T_op rfl rfl fun kc hc => ?_
      simp; refine hc _ ?_; clear hc kc
      refine T_op rfl rfl fun kc hc => ?_
      simp; refine hc _ ?_; clear hc kc
      refine T_op rfl rfl fun kc hc => ?_
      simp [hxy]; refine hc _ ?_; clear hc kc
      refine T_op rfl rfl fun kc hc => ?_
      simp; refine hc _ ?_; clear hc kc
      refine T_op rfl rfl fun kc hc => ?_
      simp; refine hc _ ?_; clear hc kc
      refine T_op rfl rfl fun kc hc => ?_
      simp
      refine CallS.dat (walk26 y.need hyn.1) (rfl) rfl rfl rfl ?_
      simp [enum]; refine hc _ ?_; clear hc kc
      refine T_op rfl rfl fun kc hc => ?_
      simp; refine hc _ ?_; clear hc kc
      refine T_op rfl rfl fun kc hc => ?_
      simp; refine hc _ ?_; clear hc kc
      refine T_op rfl rfl fun kc hc => ?_
      simp; refine hc _ ?_; clear hc kc
      refine T_pure rfl (pstep_one rfl rfl rfl rfl fun g0 => .op rfl (by simp [g0]; rfl)) fun kc hc => ?_
      simp; refine hc _ ?_; clear hc kc
      refine T_pure rfl (pstep_one rfl rfl rfl rfl fun g0 => .op rfl (by simp [g0]; rfl)) fun kc hc => ?_
      simp; refine hc _ ?_; clear hc kc
      refine T_pure rfl (pstep_one rfl rfl rfl rfl fun g0 => .op rfl (by simp [g0]; rfl)) fun kc hc => ?_
      simp; refine hc _ ?_; clear hc kc
      refine T_pure rfl (pstep_one rfl rfl rfl rfl fun g0 => .op rfl (by simp [g0, hxy]; rfl)) fun kc hc => ?_
      simp; refine hc _ ?_; clear hc kc
      refine T_pure rfl (pstep_one rfl rfl rfl rfl fun g0 => .op rfl (by simp [g0]; rfl)) fun kc hc => ?_
      simp; refine hc _ ?_; clear hc kc
      refine T_pure rfl (pstep_one rfl rfl rfl rfl fun g0 => .op rfl (by simp [g0]; rfl)) fun kc hc => ?_
      simp; refine hc _ ?_; clear hc kc
      refine T_pure rfl (pstep_one rfl rfl rfl rfl fun g0 => .dat (by simp [g0] <;> first | exact ⟨rfl, rfl⟩ | rfl) (by exact walk26 y.bar hyn.2) (by rfl)) fun kc hc => ?_
      simp; refine hc _ ?_; clear hc kc
      refine T_pure rfl (pstep_one rfl rfl rfl rfl fun g0 => .op rfl (by simp [g0]; rfl)) fun kc hc => ?_
      simp; refine hc _ ?_; clear hc kc
      refine T_pure rfl (pstep_one rfl rfl rfl rfl fun g0 => .op rfl (by simp [g0]; rfl)) fun kc hc => ?_
      simp; refine hc _ ?_; clear hc kc
      refine T_op rfl rfl fun kc hc => ?_
      simp; refine hc _ ?_; clear hc kc
      refine T_end (hn _ ?_); clear hn hp kn kp
      refine T_then ?_
      refine T_cond rfl (fun b3 => ?_) (fun b3 => ?_)
      · skip
        have hby : bigC y = true := by simp [bigC]; simp at b3; omega
        have hres : fewB c = false := by simp [fewB, any_yes hxy hby]
        refine T_seq ?_
        refine T_region (is := [0]) rfl fun kn kp hn hp => ?_
        refine T_op rfl rfl fun kc hc => ?_
        simp; refine hc _ ?_; clear hc kc
        refine T_end (hn _ ?_); clear hn hp kn kp
        refine T_then ?_
        refine T_ret ?_
        refine X_blockR ?_
        refine X_thenR ?_
        refine X_loopR ?_
        refine X_blockR ?_
        refine X_thenR ?_
        exact finI (Ent.refl _) (by simp [resD, resL, resV]; rfl) (Ent.sub [] [] (by simp [sub, subSl, subHp, place, mp, mpL, mpO, mpG]; rfl)) rfl rfl (by simp [hres])
      · skip
        have hby : bigC y = false := by simp [bigC]; simp at b3; omega
        refine T_skip ?_
        refine X_blockN ?_
        refine T_then ?_
        refine T_region (is := [0, 1, 2]) rfl fun kn kp hn hp => ?_
        refine T_op rfl rfl fun kc hc => ?_
        simp; refine hc _ ?_; clear hc kc
        refine T_op rfl rfl fun kc hc => ?_
        simp [ez]; refine hc _ ?_; clear hc kc
        refine T_op rfl rfl fun kc hc => ?_
        simp; refine hc _ ?_; clear hc kc
        refine T_end (hn _ ?_); clear hn hp kn kp
        exact X_loopN (z + 1) (Ent.sub [1, 3] [0] (by simp [sub, subSl, subHp, place, mp, mpL, mpO, mpG, ez])) ⟨hz', by rw [any_next hxy, hza, hby]; rfl⟩ (by omega)
    · skip
      have hz' : z = c.courses.length := by simp at b2; omega
      have hca : c.courses.any bigC = false := by rw [hz', List.take_length] at hza; exact hza
      refine T_exit ?_
      refine X_thenE ?_
      refine X_loopE ?_
      refine X_hit ?_
      refine T_then ?_
      refine T_seq ?_
      refine T_seq ?_
      refine T_region (is := [0]) rfl fun kn kp hn hp => ?_
      refine T_op rfl rfl fun kc hc => ?_
      simp; refine hc _ ?_; clear hc kc
      refine T_end (hn _ ?_); clear hn hp kn kp
      refine T_then ?_
      refine T_block ?_
      refine T_loop (fun u : Nat => { sl := [(1, .ptr 0 0), (4, .dat (iD u))], hp := [(0, .var ((catD c).map .dat))], nx := 1 }) (fun u => u ≤ c.progs.length ∧ (c.progs.take u).any bigP = false) (fun u => c.progs.length - u) 0 (Ent.sub [1, 4] [0] (by simp [sub, subSl, subHp, place, mp, mpL, mpO, mpG])) ⟨Nat.zero_le _, rfl⟩ fun u hu => ?_
      obtain ⟨hu, hua⟩ := hu
      refine T_seq ?_
      refine T_seq ?_
      refine T_region (is := [0, 1, 2, 3, 4]) rfl fun kn kp hn hp => ?_
      refine T_op rfl rfl fun kc hc => ?_
      simp; refine hc _ ?_; clear hc kc
      refine T_op rfl rfl fun kc hc => ?_
      simp; refine hc _ ?_; clear hc kc
      refine T_op rfl rfl fun kc hc => ?_
      simp; refine hc _ ?_; clear hc kc
      refine T_op rfl rfl fun kc hc => ?_
      simp; refine hc _ ?_; clear hc kc
      refine T_op rfl rfl fun kc hc => ?_
      simp; refine hc _ ?_; clear hc kc
      refine T_end (hn _ ?_); clear hn hp kn kp
      refine T_then ?_
      refine T_cond rfl (fun b4 => ?_) (fun b4 => ?_)
      · skip
        have hz' : u < c.progs.length := by simpa using b4
        obtain ⟨p, hxp⟩ : ∃ x, c.progs[u]? = some x := ⟨_, List.getElem?_eq_getElem hz'⟩
        have eu : IntKind.i64.wrap ((u : Int) + 1) = (u : Int) + 1 := wr1 hz' (by omega)
        have hul := hz'
        have hpr := (hf.reqs p (List.mem_of_getElem? hxp)).1
        clear hz'
        refine T_skip ?_
        refine T_then ?_
        refine T_seq ?_
        refine T_block ?_
        refine T_seq ?_
        refine T_seq ?_
        refine T_region (is := [0, 1, 2, 3, 4, 5, 6, 7]) rfl fun kn kp hn hp => ?_
        refine T_op rfl rfl fun kc hc => ?_
        simp; refine hc _ ?_; clear hc kc
        refine T_op rfl rfl fun kc hc => ?_
        simp; refine hc _ ?_; clear hc kc
        refine T_op rfl rfl fun kc hc => ?_
        simp; refine hc _ ?_; clear hc kc
        refine T_op rfl rfl fun kc hc => ?_
        simp [hxp]; refine hc _ ?_; clear hc kc
        refine T_op rfl rfl fun kc hc => ?_
        simp; refine hc _ ?_; clear hc kc
        refine T_op rfl rfl fun kc hc => ?_
        simp; refine hc _ ?_; clear hc kc
        refine T_op rfl rfl fun kc hc => ?_
        simp; refine hc _ ?_; clear hc kc
        refine T_op rfl rfl fun kc hc => ?_
        simp; refine hc _ ?_; clear hc kc
        refine T_end (hn _ ?_); clear hn hp kn kp
        refine T_then ?_
        refine T_cond rfl (fun b5 => ?_) (fun b5 => ?_)
        · skip
          have hbp : bigP p = true := by simp at b5; simp [bigP]; left; omega
          have hres : fewB c = false := by simp [fewB, any_yes hxp hbp]
          refine T_seq ?_
          refine T_region (is := [0]) rfl fun kn kp hn hp => ?_
          refine T_op rfl rfl fun kc hc => ?_
          simp; refine hc _ ?_; clear hc kc
          refine T_end (hn _ ?_); clear hn hp kn kp
          refine T_then ?_
          refine T_ret ?_
          refine X_thenR ?_
          refine X_blockR ?_
          refine X_thenR ?_
          refine X_loopR ?_
          refine X_blockR ?_
          refine X_thenR ?_
          exact finI (Ent.refl _) (by simp [resD, resL, resV]; rfl) (Ent.sub [] [] (by simp [sub, subSl, subHp, place, mp, mpL, mpO, mpG]; rfl)) rfl rfl (by simp [hres])
        · skip
          have hb5 : decide (5 < p.reqs.length) = false := by simp at b5 ⊢; omega
          refine T_skip ?_
          refine T_then ?_
          refine T_seq ?_
          refine T_region (is := [0]) rfl fun kn kp hn hp => ?_
          refine T_op rfl rfl fun kc hc => ?_
          simp; refine hc _ ?_; clear hc kc
          refine T_end (hn _ ?_); clear hn hp kn kp
          refine T_then ?_
          refine T_block ?_
          refine T_loop (fun v : Nat => { sl := [(1, .ptr 0 0), (4, .dat (iD u)), (5, .dat (iD v))], hp := [(0, .var ((catD c).map .dat))], nx := 1 }) (fun v => v ≤ p.reqs.length ∧ (p.reqs.take v).any bigQ = false) (fun v => p.reqs.length - v) 0 (Ent.sub [1, 4, 5] [0] (by simp [sub, subSl, subHp, place, mp, mpL, mpO, mpG])) ⟨Nat.zero_le _, rfl⟩ fun v hv => ?_
          obtain ⟨hv, hva⟩ := hv
          refine T_seq ?_
          refine T_seq ?_
          refine T_region (is := [0, 1, 2, 3, 4, 5, 6, 7, 8]) rfl fun kn kp hn hp => ?_
          refine T_op rfl rfl fun kc hc => ?_
          simp; refine hc _ ?_; clear hc kc
          refine T_op rfl rfl fun kc hc => ?_
          simp; refine hc _ ?_; clear hc kc
          refine T_op rfl rfl fun kc hc => ?_
          simp; refine hc _ ?_; clear hc kc
          refine T_op rfl rfl fun kc hc => ?_
          simp; refine hc _ ?_; clear hc kc
          refine T_op rfl rfl fun kc hc => ?_
          simp [hxp]; refine hc _ ?_; clear hc kc
          refine T_op rfl rfl fun kc hc => ?_
          simp; refine hc _ ?_; clear hc kc
          refine T_op rfl rfl fun kc hc => ?_
          simp; refine hc _ ?_; clear hc kc
          refine T_op rfl rfl fun kc hc => ?_
          simp; refine hc _ ?_; clear hc kc
          refine T_op rfl rfl fun kc hc => ?_
          simp; refine hc _ ?_; clear hc kc
          refine T_end (hn _ ?_); clear hn hp kn kp
          refine T_then ?_
          refine T_cond rfl (fun b6 => ?_) (fun b6 => ?_)
          · skip
            have hz' : v < p.reqs.length := by simpa using b6
            obtain ⟨q, hxq⟩ : ∃ x, p.reqs[v]? = some x := ⟨_, List.getElem?_eq_getElem hz'⟩
            have ev : IntKind.i64.wrap ((v : Int) + 1) = (v : Int) + 1 := wr1 hz' (by omega)
            refine T_skip ?_
            refine T_then ?_
            refine T_seq ?_
            refine T_block ?_
            refine T_seq ?_
            refine T_region (is := [0, 1, 2, 3, 4, 5, 6, 7, 8, 9, 10, 11, 12, 13, 14, 15, 16, 17, 18, 19, 20, 21, 22, 23, 24, 25]) rfl fun kn kp hn hp => ?_
            refine T_op rfl rfl fun kc hc => ?_
            simp; refine hc _ ?_; clear hc kc
            refine T_op rfl rfl fun kc hc => ?_
            simp; refine hc _ ?_; clear hc kc
            refine T_op rfl rfl fun kc hc => ?_
            simp; refine hc _ ?_; clear hc kc
            refine T_op rfl rfl fun kc hc => ?_
            simp [hxp]; refine hc _ ?_; clear hc kc
            refine T_op rfl rfl fun kc hc => ?_
            simp; refine hc _ ?_; clear hc kc
            refine T_op rfl rfl fun kc hc => ?_
            simp; refine hc _ ?_; clear hc kc
            refine T_op rfl rfl fun kc hc => ?_
            simp; refine hc _ ?_; clear hc kc
            refine T_op rfl rfl fun kc hc => ?_
            simp [hxq]; refine hc _ ?_; clear hc kc
            refine T_op rfl rfl fun kc hc => ?_
            simp; refine hc _ ?_; clear hc kc
            refine T_op rfl rfl fun kc hc => ?_
            simp; refine hc _ ?_; clear hc kc
            refine T_op rfl rfl fun kc hc => ?_
            simp; refine hc _ ?_; clear hc kc
            refine T_op rfl rfl fun kc hc => ?_
            simp; refine hc _ ?_; clear hc kc
            refine T_op rfl rfl fun kc hc => ?_
            simp; refine hc _ ?_; clear hc kc
            refine T_pure rfl (pstep_one rfl rfl rfl rfl fun g0 => .op rfl (by simp [g0]; rfl)) fun kc hc => ?_
            simp; refine hc _ ?_; clear hc kc
            refine T_pure rfl (pstep_one rfl rfl rfl rfl fun g0 => .op rfl (by simp [g0]; rfl)) fun kc hc => ?_
            simp; refine hc _ ?_; clear hc kc
            refine T_pure rfl (pstep_one rfl rfl rfl rfl fun g0 => .op rfl (by simp [g0]; rfl)) fun kc hc => ?_
            simp; refine hc _ ?_; clear hc kc
            refine T_pure rfl (pstep_one rfl rfl rfl rfl fun g0 => .op rfl (by simp [g0, hxp]; rfl)) fun kc hc => ?_
            simp; refine hc _ ?_; clear hc kc
            refine T_pure rfl (pstep_one rfl rfl rfl rfl fun g0 => .op rfl (by simp [g0]; rfl)) fun kc hc => ?_
            simp; refine hc _ ?_; clear hc kc
            refine T_pure rfl (pstep_one rfl rfl rfl rfl fun g0 => .op rfl (by simp [g0]; rfl)) fun kc hc => ?_
            simp; refine hc _ ?_; clear hc kc
            refine T_pure rfl (pstep_one rfl rfl rfl rfl fun g0 => .op rfl (by simp [g0]; rfl)) fun kc hc => ?_
            simp; refine hc _ ?_; clear hc kc
            refine T_pure rfl (pstep_one rfl rfl rfl rfl fun g0 => .op rfl (by simp [g0, hxq]; rfl)) fun kc hc => ?_
            simp; refine hc _ ?_; clear hc kc
            refine T_pure rfl (pstep_one rfl rfl rfl rfl fun g0 => .op rfl (by simp [g0]; rfl)) fun kc hc => ?_
            simp; refine hc _ ?_; clear hc kc
            refine T_pure rfl (pstep_one rfl rfl rfl rfl fun g0 => .op rfl (by simp [g0]; rfl)) fun kc hc => ?_
            simp; refine hc _ ?_; clear hc kc
            refine T_pure rfl (pstep_one rfl rfl rfl rfl fun g0 => .op rfl (by simp [g0]; rfl)) fun kc hc => ?_
            simp; refine hc _ ?_; clear hc kc
            refine T_pure rfl (pstep_one rfl rfl rfl rfl fun g0 => .op rfl (by simp [g0]; rfl)) fun kc hc => ?_
            simp; refine hc _ ?_; clear hc kc
            refine T_op rfl rfl fun kc hc => ?_
            simp; refine hc _ ?_; clear hc kc
            refine T_end (hn _ ?_); clear hn hp kn kp
            refine T_then ?_
            refine T_cond rfl (fun b7 => ?_) (fun b7 => ?_)
            · skip
              have hbq : bigQ q = true := by simp at b7; simp [bigQ]; omega
              have hres : fewB c = false := by simp [fewB, any_yes hxp (show bigP p = true by simp only [bigP, any_yes hxq hbq, Bool.or_true])]
              refine T_seq ?_
              refine T_region (is := [0]) rfl fun kn kp hn hp => ?_
              refine T_op rfl rfl fun kc hc => ?_
              simp; refine hc _ ?_; clear hc kc
              refine T_end (hn _ ?_); clear hn hp kn kp
              refine T_then ?_
              refine T_ret ?_
              refine X_blockR ?_
              refine X_thenR ?_
              refine X_loopR ?_
              refine X_blockR ?_
              refine X_blockR ?_
              refine X_thenR ?_
              refine X_loopR ?_
              refine X_blockR ?_
              refine X_thenR ?_
              exact finI (Ent.refl _) (by simp [resD, resL, resV]; rfl) (Ent.sub [] [] (by simp [sub, subSl, subHp, place, mp, mpL, mpO, mpG]; rfl)) rfl rfl (by simp [hres])
            · skip
              have hbq : bigQ q = false := by simp at b7; simp [bigQ]; omega
              refine T_skip ?_
              refine X_blockN ?_
              refine T_then ?_
              refine T_region (is := [0, 1, 2]) rfl fun kn kp hn hp => ?_
              refine T_op rfl rfl fun kc hc => ?_
              simp; refine hc _ ?_; clear hc kc
              refine T_op rfl rfl fun kc hc => ?_
              simp [ev]; refine hc _ ?_; clear hc kc
              refine T_op rfl rfl fun kc hc => ?_
              simp; refine hc _ ?_; clear hc kc
              refine T_end (hn _ ?_); clear hn hp kn kp
              exact X_loopN (v + 1) (Ent.sub [1, 4, 5] [0] (by simp [sub, subSl, subHp, place, mp, mpL, mpO, mpG, ev])) ⟨hz', by rw [any_next hxq, hva, hbq]; rfl⟩ (by omega)
          · skip
            have hz' : v = p.reqs.length := by simp at b6; omega
            have hqa : p.reqs.any bigQ = false := by rw [hz', List.take_length] at hva; exact hva
            have hbp : bigP p = false := by simp only [bigP, hb5, hqa]; rfl
            refine T_exit ?_
            refine X_thenE ?_
            refine X_loopE ?_
            refine X_hit ?_
            refine X_blockN ?_
            refine T_then ?_
            refine T_region (is := [0, 1, 2]) rfl fun kn kp hn hp => ?_
            refine T_op rfl rfl fun kc hc => ?_
            simp; refine hc _ ?_; clear hc kc
            refine T_op rfl rfl fun kc hc => ?_
            simp [eu]; refine hc _ ?_; clear hc kc
            refine T_op rfl rfl fun kc hc => ?_
            simp; refine hc _ ?_; clear hc kc
            refine T_end (hn _ ?_); clear hn hp kn kp
            exact X_loopN (u + 1) (Ent.sub [1, 4] [0] (by simp [sub, subSl, subHp, place, mp, mpL, mpO, mpG, eu])) ⟨hul, by rw [any_next hxp, hua, hbp]; rfl⟩ (by omega)
      · skip
        have hz' : u = c.progs.length := by simp at b4; omega
        have hpa : c.progs.any bigP = false := by rw [hz', List.take_length] at hua; exact hua
        have hres : fewB c = true := by simp only [fewB, hl, hca, hpa]; rfl
        refine T_exit ?_
        refine X_thenE ?_
        refine X_loopE ?_
        refine X_hit ?_
        refine T_then ?_
        refine T_seq ?_
        refine T_region (is := [0]) rfl fun kn kp hn hp => ?_
        refine T_op rfl rfl fun kc hc => ?_
        simp; refine hc _ ?_; clear hc kc
        refine T_end (hn _ ?_); clear hn hp kn kp
        refine T_then ?_
        refine T_ret ?_
        exact finI (Ent.refl _) (by simp [resD, resL, resV]; rfl) (Ent.sub [] [] (by simp [sub, subSl, subHp, place, mp, mpL, mpO, mpG]; rfl)) rfl rfl (by simp [hres])
-- END
-- WALK 22 19 23
-- sizar/sizarref11.Twice
theorem walk22 (c : Cat) (hf : c.fit) : Does Try.prog 22 [.agg (catD c)] (.dat (bV (twiceC c))) [] := by
  have h1 := hf.courses
  have h2 := hf.progs
  have h3 := hf.classes
  have h4 := hf.fees
  have h5 := hf.honours
  have hb1 : c.courses.length ≤ big := by simp only [big]; omega
  have hb2 : c.progs.length ≤ big := by simp only [big]; omega
  have hb4 : c.fees.length ≤ big := by simp only [big]; omega
  refine Does.intro [.tmp 2] Try.func22 rfl (by kernel_rfl) Try.ntmps22 rfl (Nat.le_of_ble_eq_true rfl) ?_
  refine T_seq ?_
  refine T_region (is := [0, 1]) rfl fun kn kp hn hp => ?_
  refine T_op rfl rfl fun kc hc => ?_
  simp; refine hc _ ?_; clear hc kc
  refine T_op rfl rfl fun kc hc => ?_
  simp; refine hc _ ?_; clear hc kc
  refine T_end (hn _ ?_); clear hn hp kn kp
  refine T_then ?_
  refine T_seq ?_
  refine T_region (is := [0, 1]) rfl fun kn kp hn hp => ?_
  refine T_op rfl rfl fun kc hc => ?_
  simp; refine hc _ ?_; clear hc kc
  refine T_op rfl rfl fun kc hc => ?_
  simp; refine hc _ ?_; clear hc kc
  refine T_end (hn _ ?_); clear hn hp kn kp
  refine T_then ?_
  refine T_seq ?_
  refine T_region (is := [0, 1]) rfl fun kn kp hn hp => ?_
  refine T_op rfl rfl fun kc hc => ?_
  simp; refine hc _ ?_; clear hc kc
  refine T_op rfl rfl fun kc hc => ?_
  simp; refine hc _ ?_; clear hc kc
  refine T_end (hn _ ?_); clear hn hp kn kp
  refine T_then ?_
  refine T_seq ?_
  refine T_seq ?_
  refine T_region (is := [0]) rfl fun kn kp hn hp => ?_
  refine T_op rfl rfl fun kc hc => ?_
  simp; refine hc _ ?_; clear hc kc
  refine T_end (hn _ ?_); clear hn hp kn kp
  refine T_then ?_
  refine T_block ?_
  refine T_loop (fun z : Nat => { sl := [(1, .ptr 0 0), (3, .own 1 1 z), (4, .own 2 1 z), (5, .dat (iD z))], hp := [(0, .var ((catD c).map .dat)), (1, .row 9 1 ((c.courses.take z).map fun y => [sD y.name])), (2, .row 3 1 ((c.courses.take z).map fun y => [iD y.number]))], nx := 3 }) (fun z => z ≤ c.courses.length) (fun z => c.courses.length - z) 0 (Ent.sub [1, 3, 4, 5] [0, 1, 2] (by simp [sub, subSl, subHp, place, mp, mpL, mpO, mpG])) (Nat.zero_le _) fun z hz => ?_
  refine T_seq ?_
  refine T_seq ?_
  refine T_region (is := [0, 1, 2, 3, 4]) rfl fun kn kp hn hp => ?_
  refine T_op rfl rfl fun kc hc => ?_
  simp; refine hc _ ?_; clear hc kc
  refine T_op rfl rfl fun kc hc => ?_
  simp; refine hc _ ?_; clear hc kc
  refine T_op rfl rfl fun kc hc => ?_
  simp; refine hc _ ?_; clear hc kc
  refine T_op rfl rfl fun kc hc => ?_
  simp; refine hc _ ?_; clear hc kc
  refine T_op rfl rfl fun kc hc => ?_
  simp; refine hc _ ?_; clear hc kc
  refine T_end (hn _ ?_); clear hn hp kn kp
  refine T_then ?_
  refine T_cond rfl (fun b1 => ?_) (fun b1 => ?_)
  · skip
    have hz' : z < c.courses.length := by simpa using b1
    obtain ⟨y, hxy⟩ : ∃ x, c.courses[z]? = some x := ⟨_, List.getElem?_eq_getElem hz'⟩
    have ez : IntKind.i64.wrap ((z : Int) + 1) = (z : Int) + 1 := wr1 hz' (by omega)
    have hml := Nat.min_eq_left hz
    have e7 : (z + 1) * 16 ≤ big := by simp only [big]; omega
    have e8 : (z + 1) * 8 ≤ big := by simp only [big]; omega
    refine T_skip ?_
    refine T_then ?_
    refine T_seq ?_
    refine T_block ?_
    refine T_seq ?_
    refine T_region (is := [0, 1, 2, 3, 4, 5, 6, 7, 8, 9]) rfl fun kn kp hn hp => ?_
    refine T_op rfl rfl fun kc hc => ?_
    simp; refine hc _ ?_; clear hc kc
    refine T_op rfl rfl fun kc hc => ?_
    simp; refine hc _ ?_; clear hc kc
    refine T_op rfl rfl fun kc hc => ?_
    simp; refine hc _ ?_; clear hc kc
    refine T_op rfl rfl fun kc hc => ?_
    simp; refine hc _ ?_; clear hc kc
    refine T_op rfl rfl fun kc hc => ?_
    simp [hxy]; refine hc _ ?_; clear hc kc
    refine T_op rfl rfl fun kc hc => ?_
    simp; refine hc _ ?_; clear hc kc
    refine T_op rfl rfl fun kc hc => ?_
    simp; refine hc _ ?_; clear hc kc
    refine T_op rfl rfl fun kc hc => ?_
    simp; refine hc _ ?_; clear hc kc
    refine T_op rfl rfl fun kc hc => ?_
    simp [e7, hml]; refine hc _ ?_; clear hc kc
    refine T_op rfl rfl fun kc hc => ?_
    simp; refine hc _ ?_; clear hc kc
    refine T_end (hn _ ?_); clear hn hp kn kp
    refine T_then ?_
    refine T_region (is := [0, 1, 2, 3, 4, 5, 6, 7, 8, 9]) rfl fun kn kp hn hp => ?_
    refine T_op rfl rfl fun kc hc => ?_
    simp; refine hc _ ?_; clear hc kc
    refine T_op rfl rfl fun kc hc => ?_
    simp; refine hc _ ?_; clear hc kc
    refine T_op rfl rfl fun kc hc => ?_
    simp; refine hc _ ?_; clear hc kc
    refine T_op rfl rfl fun kc hc => ?_
    simp; refine hc _ ?_; clear hc kc
    refine T_op rfl rfl fun kc hc => ?_
    simp [hxy]; refine hc _ ?_; clear hc kc
    refine T_op rfl rfl fun kc hc => ?_
    simp; refine hc _ ?_; clear hc kc
    refine T_op rfl rfl fun kc hc => ?_
    simp; refine hc _ ?_; clear hc kc
    refine T_op rfl rfl fun kc hc => ?_
    simp; refine hc _ ?_; clear hc kc
    refine T_op rfl rfl fun kc hc => ?_
    simp [e8, hml]; refine hc _ ?_; clear hc kc
    refine T_op rfl rfl fun kc hc => ?_
    simp; refine hc _ ?_; clear hc kc
    refine T_end (hn _ ?_); clear hn hp kn kp
    refine X_blockN ?_
    refine T_then ?_
    refine T_region (is := [0, 1, 2]) rfl fun kn kp hn hp => ?_
    refine T_op rfl rfl fun kc hc => ?_
    simp; refine hc _ ?_; clear hc kc
    refine T_op rfl rfl fun kc hc => ?_
    simp [ez]; refine hc _ ?_; clear hc kc
    refine T_op rfl rfl fun kc hc => ?_
    simp; refine hc _ ?_; clear hc kc
    refine T_end (hn _ ?_); clear hn hp kn kp
    exact X_loopN (z + 1) (Ent.sub [1, 3, 4, 5] [0, 4, 6] (by simp [sub, subSl, subHp, place, mp, mpL, mpO, mpG, ez, take_next hxy])) hz' (by omega)
  · skip
    have hz' : z = c.courses.length := by simp at b1; omega
    subst hz'
    refine T_exit ?_
    refine X_thenE ?_
    refine X_loopE ?_
    refine X_hit ?_
    refine T_then ?_
    refine T_seq ?_
    refine T_seq ?_
    refine T_region (is := [0, 1, 2, 3, 4, 5]) rfl fun kn kp hn hp => ?_
    refine T_op rfl rfl fun kc hc => ?_
    simp; refine hc _ ?_; clear hc kc
    refine T_op rfl rfl fun kc hc => ?_
    simp
    refine CallS.lend (walk75 (c.courses.map (·.name)) (by simp; omega)) (by simp [lendL, lend, Sx.give, giveL, hb1]) rfl rfl ?_
    simp [enum]; refine hc _ ?_; clear hc kc
    refine T_op rfl rfl fun kc hc => ?_
    simp; refine hc _ ?_; clear hc kc
    refine T_pure rfl (pstep_one rfl rfl rfl rfl fun g0 => .op rfl (by simp [g0]; rfl)) fun kc hc => ?_
    simp; refine hc _ ?_; clear hc kc
    refine T_pure rfl (pstep_one rfl rfl rfl rfl fun g0 => .lend (by simp [g0] <;> first | exact ⟨rfl, rfl⟩ | rfl) (by exact walk76 (c.courses.map (·.number)) (by simp; omega)) (by simp [lendL, lend, Sx.give, giveL, hb1]) (by rfl)) fun kc hc => ?_
    simp; refine hc _ ?_; clear hc kc
    refine T_op rfl rfl fun kc hc => ?_
    simp; refine hc _ ?_; clear hc kc
    refine T_end (hn _ ?_); clear hn hp kn kp
    refine T_then ?_
    refine T_cond rfl (fun b2 => ?_) (fun b2 => ?_)
    · skip
      have hA : (twiceB (c.courses.map (·.name)) || twiceB (c.courses.map (·.number))) = true := by simpa using b2
      refine T_seq ?_
      refine T_region (is := [0]) rfl fun kn kp hn hp => ?_
      refine T_op rfl rfl fun kc hc => ?_
      simp; refine hc _ ?_; clear hc kc
      refine T_end (hn _ ?_); clear hn hp kn kp
      refine T_then ?_
      refine T_ret ?_
      refine X_thenR ?_
      exact finI (Ent.refl _) (by simp [resD, resL, resV]; rfl) (Ent.sub [] [] (by simp [sub, subSl, subHp, place, mp, mpL, mpO, mpG]; rfl)) rfl rfl (by simp [twiceC, hA])
    · skip
      have hA : (twiceB (c.courses.map (·.name)) || twiceB (c.courses.map (·.number))) = false := by simpa using b2
      refine T_skip ?_
      refine T_then ?_
      refine T_seq ?_
      refine T_region (is := [0, 1]) rfl fun kn kp hn hp => ?_
      refine T_op rfl rfl fun kc hc => ?_
      simp; refine hc _ ?_; clear hc kc
      refine T_op rfl rfl fun kc hc => ?_
      simp; refine hc _ ?_; clear hc kc
      refine T_end (hn _ ?_); clear hn hp kn kp
      refine T_then ?_
      refine T_seq ?_
      refine T_region (is := [0, 1]) rfl fun kn kp hn hp => ?_
      refine T_op rfl rfl fun kc hc => ?_
      simp; refine hc _ ?_; clear hc kc
      refine T_op rfl rfl fun kc hc => ?_
      simp; refine hc _ ?_; clear hc kc
      refine T_end (hn _ ?_); clear hn hp kn kp
      refine T_then ?_
      refine T_seq ?_
      refine T_seq ?_
      refine T_region (is := [0]) rfl fun kn kp hn hp => ?_
      refine T_op rfl rfl fun kc hc => ?_
      simp; refine hc _ ?_; clear hc kc
      refine T_end (hn _ ?_); clear hn hp kn kp
      refine T_then ?_
      refine T_block ?_
      refine T_loop (fun u : Nat => { sl := [(1, .ptr 0 0), (3, .own 1 1 u), (4, .own 2 1 u), (6, .dat (iD u))], hp := [(0, .var ((catD c).map .dat)), (1, .row 9 1 ((c.progs.take u).map fun y => [sD y.name])), (2, .row 3 1 ((c.progs.take u).map fun y => [iD y.number]))], nx := 3 }) (fun u => u ≤ c.progs.length ∧ (c.progs.take u).any twiceP = false) (fun u => c.progs.length - u) 0 (Ent.sub [1, 3, 4, 6] [0, 3, 4] (by simp [sub, subSl, subHp, place, mp, mpL, mpO, mpG])) ⟨Nat.zero_le _, rfl⟩ fun u hu => ?_
      obtain ⟨hu, hua⟩ := hu
      refine T_seq ?_
      refine T_seq ?_
      refine T_region (is := [0, 1, 2, 3, 4]) rfl fun kn kp hn hp => ?_
      refine T_op rfl rfl fun kc hc => ?_
      simp; refine hc _ ?_; clear hc kc
      refine T_op rfl rfl fun kc hc => ?_
      simp; refine hc _ ?_; clear hc kc
      refine T_op rfl rfl fun kc hc => ?_
      simp; refine hc _ ?_; clear hc kc
      refine T_op rfl rfl fun kc hc => ?_
      simp; refine hc _ ?_; clear hc kc
      refine T_op rfl rfl fun kc hc => ?_
      simp; refine hc _ ?_; clear hc kc
      refine T_end (hn _ ?_); clear hn hp kn kp
      refine T_then ?_
      refine T_cond rfl (fun b3 => ?_) (fun b3 => ?_)
      · skip
        have hz' : u < c.progs.length := by simpa using b3
        obtain ⟨p, hxp⟩ : ∃ x, c.progs[u]? = some x := ⟨_, List.getElem?_eq_getElem hz'⟩
        have eu : IntKind.i64.wrap ((u : Int) + 1) = (u : Int) + 1 := wr1 hz' (by omega)
        have hul := hz'
        have hpr := (hf.reqs p (List.mem_of_getElem? hxp)).1
        have hml := Nat.min_eq_left hu
        have e7 : (u + 1) * 16 ≤ big := by simp only [big]; omega
        have e8 : (u + 1) * 8 ≤ big := by simp only [big]; omega
        clear hz'
        refine T_skip ?_
        refine T_then ?_
        refine T_seq ?_
        refine T_block ?_
        refine T_seq ?_
        refine T_region (is := [0, 1, 2, 3, 4, 5, 6, 7, 8, 9]) rfl fun kn kp hn hp => ?_
        refine T_op rfl rfl fun kc hc => ?_
        simp; refine hc _ ?_; clear hc kc
        refine T_op rfl rfl fun kc hc => ?_
        simp; refine hc _ ?_; clear hc kc
        refine T_op rfl rfl fun kc hc => ?_
        simp; refine hc _ ?_; clear hc kc
        refine T_op rfl rfl fun kc hc => ?_
        simp; refine hc _ ?_; clear hc kc
        refine T_op rfl rfl fun kc hc => ?_
        simp [hxp]; refine hc _ ?_; clear hc kc
        refine T_op rfl rfl fun kc hc => ?_
        simp; refine hc _ ?_; clear hc kc
        refine T_op rfl rfl fun kc hc => ?_
        simp; refine hc _ ?_; clear hc kc
        refine T_op rfl rfl fun kc hc => ?_
        simp; refine hc _ ?_; clear hc kc
        refine T_op rfl rfl fun kc hc => ?_
        simp [e7, hml]; refine hc _ ?_; clear hc kc
        refine T_op rfl rfl fun kc hc => ?_
        simp; refine hc _ ?_; clear hc kc
        refine T_end (hn _ ?_); clear hn hp kn kp
        refine T_then ?_
        refine T_seq ?_
        refine T_region (is := [0, 1, 2, 3, 4, 5, 6, 7, 8, 9]) rfl fun kn kp hn hp => ?_
        refine T_op rfl rfl fun kc hc => ?_
        simp; refine hc _ ?_; clear hc kc
        refine T_op rfl rfl fun kc hc => ?_
        simp; refine hc _ ?_; clear hc kc
        refine T_op rfl rfl fun kc hc => ?_
        simp; refine hc _ ?_; clear hc kc
        refine T_op rfl rfl fun kc hc => ?_
        simp; refine hc _ ?_; clear hc kc
        refine T_op rfl rfl fun kc hc => ?_
        simp [hxp]; refine hc _ ?_; clear hc kc
        refine T_op rfl rfl fun kc hc => ?_
        simp; refine hc _ ?_; clear hc kc
        refine T_op rfl rfl fun kc hc => ?_
        simp; refine hc _ ?_; clear hc kc
        refine T_op rfl rfl fun kc hc => ?_
        simp; refine hc _ ?_; clear hc kc
        refine T_op rfl rfl fun kc hc => ?_
        simp [e8, hml]; refine hc _ ?_; clear hc kc
        refine T_op rfl rfl fun kc hc => ?_
        simp; refine hc _ ?_; clear hc kc
        refine T_end (hn _ ?_); clear hn hp kn kp
        refine T_then ?_
        refine T_seq ?_
        refine T_region (is := [0, 1]) rfl fun kn kp hn hp => ?_
        refine T_op rfl rfl fun kc hc => ?_
        simp; refine hc _ ?_; clear hc kc
        refine T_op rfl rfl fun kc hc => ?_
        simp; refine hc _ ?_; clear hc kc
        refine T_end (hn _ ?_); clear hn hp kn kp
        refine T_then ?_
        refine T_seq ?_
        refine T_seq ?_
        refine T_region (is := [0]) rfl fun kn kp hn hp => ?_
        refine T_op rfl rfl fun kc hc => ?_
        simp; refine hc _ ?_; clear hc kc
        refine T_end (hn _ ?_); clear hn hp kn kp
        refine T_then ?_
        refine T_block ?_
        refine T_loop (fun v : Nat => { sl := [(1, .ptr 0 0), (3, .own 1 1 (u + 1)), (4, .own 2 1 (u + 1)), (6, .dat (iD u)), (7, .own 3 1 v), (8, .dat (iD v))], hp := [(0, .var ((catD c).map .dat)), (1, .row 9 1 ((c.progs.take (u + 1)).map fun y => [sD y.name])), (2, .row 3 1 ((c.progs.take (u + 1)).map fun y => [iD y.number])), (3, .row 9 1 ((p.reqs.take v).map fun y => [sD y.name]))], nx := 4 }) (fun v => v ≤ p.reqs.length) (fun v => p.reqs.length - v) 0 (Ent.sub [1, 3, 4, 6, 7, 8] [0, 4, 6, 7] (by simp [sub, subSl, subHp, place, mp, mpL, mpO, mpG, take_next hxp])) (Nat.zero_le _) fun v hv => ?_
        refine T_seq ?_
        refine T_seq ?_
        refine T_region (is := [0, 1, 2, 3, 4, 5, 6, 7, 8]) rfl fun kn kp hn hp => ?_
        refine T_op rfl rfl fun kc hc => ?_
        simp; refine hc _ ?_; clear hc kc
        refine T_op rfl rfl fun kc hc => ?_
        simp; refine hc _ ?_; clear hc kc
        refine T_op rfl rfl fun kc hc => ?_
        simp; refine hc _ ?_; clear hc kc
        refine T_op rfl rfl fun kc hc => ?_
        simp; refine hc _ ?_; clear hc kc
        refine T_op rfl rfl fun kc hc => ?_
        simp [hxp]; refine hc _ ?_; clear hc kc
        refine T_op rfl rfl fun kc hc => ?_
        simp; refine hc _ ?_; clear hc kc
        refine T_op rfl rfl fun kc hc => ?_
        simp; refine hc _ ?_; clear hc kc
        refine T_op rfl rfl fun kc hc => ?_
        simp; refine hc _ ?_; clear hc kc
        refine T_op rfl rfl fun kc hc => ?_
        simp; refine hc _ ?_; clear hc kc
        refine T_end (hn _ ?_); clear hn hp kn kp
        refine T_then ?_
        refine T_cond rfl (fun b4 => ?_) (fun b4 => ?_)
        · skip
          have hz' : v < p.reqs.length := by simpa using b4
          obtain ⟨q, hxq⟩ : ∃ x, p.reqs[v]? = some x := ⟨_, List.getElem?_eq_getElem hz'⟩
          have ev : IntKind.i64.wrap ((v : Int) + 1) = (v : Int) + 1 := wr1 hz' (by omega)
          have hml := Nat.min_eq_left hv
          have e7 : (v + 1) * 16 ≤ big := by simp only [big]; omega
          refine T_skip ?_
          refine T_then ?_
          refine T_seq ?_
          refine T_block ?_
          refine T_region (is := [0, 1, 2, 3, 4, 5, 6, 7, 8, 9, 10, 11, 12, 13]) rfl fun kn kp hn hp => ?_
          refine T_op rfl rfl fun kc hc => ?_
          simp; refine hc _ ?_; clear hc kc
          refine T_op rfl rfl fun kc hc => ?_
          simp; refine hc _ ?_; clear hc kc
          refine T_op rfl rfl fun kc hc => ?_
          simp; refine hc _ ?_; clear hc kc
          refine T_op rfl rfl fun kc hc => ?_
          simp; refine hc _ ?_; clear hc kc
          refine T_op rfl rfl fun kc hc => ?_
          simp [hxp]; refine hc _ ?_; clear hc kc
          refine T_op rfl rfl fun kc hc => ?_
          simp; refine hc _ ?_; clear hc kc
          refine T_op rfl rfl fun kc hc => ?_
          simp; refine hc _ ?_; clear hc kc
          refine T_op rfl rfl fun kc hc => ?_
          simp; refine hc _ ?_; clear hc kc
          refine T_op rfl rfl fun kc hc => ?_
          simp [hxq]; refine hc _ ?_; clear hc kc
          refine T_op rfl rfl fun kc hc => ?_
          simp; refine hc _ ?_; clear hc kc
          refine T_op rfl rfl fun kc hc => ?_
          simp; refine hc _ ?_; clear hc kc
          refine T_op rfl rfl fun kc hc => ?_
          simp; refine hc _ ?_; clear hc kc
          refine T_op rfl rfl fun kc hc => ?_
          simp [e7, hml]; refine hc _ ?_; clear hc kc
          refine T_op rfl rfl fun kc hc => ?_
          simp; refine hc _ ?_; clear hc kc
          refine T_end (hn _ ?_); clear hn hp kn kp
          refine X_blockN ?_
          refine T_then ?_
          refine T_region (is := [0, 1, 2]) rfl fun kn kp hn hp => ?_
          refine T_op rfl rfl fun kc hc => ?_
          simp; refine hc _ ?_; clear hc kc
          refine T_op rfl rfl fun kc hc => ?_
          simp [ev]; refine hc _ ?_; clear hc kc
          refine T_op rfl rfl fun kc hc => ?_
          simp; refine hc _ ?_; clear hc kc
          refine T_end (hn _ ?_); clear hn hp kn kp
          exact X_loopN (v + 1) (Ent.sub [1, 3, 4, 6, 7, 8] [0, 1, 2, 5] (by simp [sub, subSl, subHp, place, mp, mpL, mpO, mpG, ev, take_next hxq])) hz' (by omega)
        · skip
          have hz' : v = p.reqs.length := by simp at b4; omega
          subst hz'
          have hbq : p.reqs.length ≤ big := by simp only [big]; omega
          refine T_exit ?_
          refine X_thenE ?_
          refine X_loopE ?_
          refine X_hit ?_
          refine T_then ?_
          refine T_seq ?_
          refine T_region (is := [0, 1]) rfl fun kn kp hn hp => ?_
          refine T_op rfl rfl fun kc hc => ?_
          simp; refine hc _ ?_; clear hc kc
          refine T_op rfl rfl fun kc hc => ?_
          simp
          refine CallS.lend (walk75 (p.reqs.map (·.name)) (by simp; omega)) (by simp [lendL, lend, Sx.give, giveL, hbq]) rfl rfl ?_
          simp [enum]; refine hc _ ?_; clear hc kc
          refine T_end (hn _ ?_); clear hn hp kn kp
          refine T_then ?_
          refine T_cond rfl (fun b5 => ?_) (fun b5 => ?_)
          · skip
            have htp : twiceP p = true := by simpa [twiceP] using b5
            have hP := any_yes hxp htp
            refine T_seq ?_
            refine T_region (is := [0]) rfl fun kn kp hn hp => ?_
            refine T_op rfl rfl fun kc hc => ?_
            simp; refine hc _ ?_; clear hc kc
            refine T_end (hn _ ?_); clear hn hp kn kp
            refine T_then ?_
            refine T_ret ?_
            refine X_blockR ?_
            refine X_thenR ?_
            refine X_loopR ?_
            refine X_blockR ?_
            refine X_thenR ?_
            exact finI (Ent.refl _) (by simp [resD, resL, resV]; rfl) (Ent.sub [] [] (by simp [sub, subSl, subHp, place, mp, mpL, mpO, mpG]; rfl)) rfl rfl (by simp [twiceC, hA, hP])
          · skip
            have htp : twiceP p = false := by simpa [twiceP] using b5
            refine T_skip ?_
            refine X_blockN ?_
            refine T_then ?_
            refine T_region (is := [0, 1, 2]) rfl fun kn kp hn hp => ?_
            refine T_op rfl rfl fun kc hc => ?_
            simp; refine hc _ ?_; clear hc kc
            refine T_op rfl rfl fun kc hc => ?_
            simp [eu]; refine hc _ ?_; clear hc kc
            refine T_op rfl rfl fun kc hc => ?_
            simp; refine hc _ ?_; clear hc kc
            refine T_end (hn _ ?_); clear hn hp kn kp
            exact X_loopN (u + 1) (Ent.sub [1, 3, 4, 6] [0, 1, 2] (by simp [sub, subSl, subHp, place, mp, mpL, mpO, mpG, eu])) ⟨hul, by rw [any_next hxp, hua, htp]; rfl⟩ (by omega)
      · skip
        have hz' : u = c.progs.length := by simp at b3; omega
        have hP : c.progs.any twiceP = false := by rw [hz', List.take_length] at hua; exact hua
        subst hz'
        refine T_exit ?_
        refine X_thenE ?_
        refine X_loopE ?_
        refine X_hit ?_
        refine T_then ?_
        refine T_seq ?_
        refine T_region (is := [0, 1]) rfl fun kn kp hn hp => ?_
        refine T_op rfl rfl fun kc hc => ?_
        simp; refine hc _ ?_; clear hc kc
        refine T_op rfl rfl fun kc hc => ?_
        simp; refine hc _ ?_; clear hc kc
        refine T_end (hn _ ?_); clear hn hp kn kp
        refine T_then ?_
        refine T_seq ?_
        refine T_seq ?_
        refine T_region (is := [0]) rfl fun kn kp hn hp => ?_
        refine T_op rfl rfl fun kc hc => ?_
        simp; refine hc _ ?_; clear hc kc
        refine T_end (hn _ ?_); clear hn hp kn kp
        refine T_then ?_
        refine T_block ?_
        refine T_loop (fun t : Nat => { sl := [(1, .ptr 0 0), (3, .own 1 1 c.progs.length), (4, .own 2 1 c.progs.length), (9, .own 3 1 t), (10, .dat (iD t))], hp := [(0, .var ((catD c).map .dat)), (1, .row 9 1 (c.progs.map fun y => [sD y.name])), (2, .row 3 1 (c.progs.map fun y => [iD y.number])), (3, .row 9 1 ((c.fees.take t).map fun y => [sD y.name]))], nx := 4 }) (fun t => t ≤ c.fees.length) (fun t => c.fees.length - t) 0 (Ent.sub [1, 3, 4, 9, 10] [0, 1, 2, 3] (by simp [sub, subSl, subHp, place, mp, mpL, mpO, mpG])) (Nat.zero_le _) fun t ht => ?_
        refine T_seq ?_
        refine T_seq ?_
        refine T_region (is := [0, 1, 2, 3, 4]) rfl fun kn kp hn hp => ?_
        refine T_op rfl rfl fun kc hc => ?_
        simp; refine hc _ ?_; clear hc kc
        refine T_op rfl rfl fun kc hc => ?_
        simp; refine hc _ ?_; clear hc kc
        refine T_op rfl rfl fun kc hc => ?_
        simp; refine hc _ ?_; clear hc kc
        refine T_op rfl rfl fun kc hc => ?_
        simp; refine hc _ ?_; clear hc kc
        refine T_op rfl rfl fun kc hc => ?_
        simp; refine hc _ ?_; clear hc kc
        refine T_end (hn _ ?_); clear hn hp kn kp
        refine T_then ?_
        refine T_cond rfl (fun b6 => ?_) (fun b6 => ?_)
        · skip
          have hz' : t < c.fees.length := by simpa using b6
          obtain ⟨f, hxf⟩ : ∃ x, c.fees[t]? = some x := ⟨_, List.getElem?_eq_getElem hz'⟩
          have et : IntKind.i64.wrap ((t : Int) + 1) = (t : Int) + 1 := wr1 hz' (by omega)
          have hml := Nat.min_eq_left ht
          have e7 : (t + 1) * 16 ≤ big := by simp only [big]; omega
          refine T_skip ?_
          refine T_then ?_
          refine T_seq ?_
          refine T_block ?_
          refine T_region (is := [0, 1, 2, 3, 4, 5, 6, 7, 8, 9]) rfl fun kn kp hn hp => ?_
          refine T_op rfl rfl fun kc hc => ?_
          simp; refine hc _ ?_; clear hc kc
          refine T_op rfl rfl fun kc hc => ?_
          simp; refine hc _ ?_; clear hc kc
          refine T_op rfl rfl fun kc hc => ?_
          simp; refine hc _ ?_; clear hc kc
          refine T_op rfl rfl fun kc hc => ?_
          simp; refine hc _ ?_; clear hc kc
          refine T_op rfl rfl fun kc hc => ?_
          simp [hxf]; refine hc _ ?_; clear hc kc
          refine T_op rfl rfl fun kc hc => ?_
          simp; refine hc _ ?_; clear hc kc
          refine T_op rfl rfl fun kc hc => ?_
          simp; refine hc _ ?_; clear hc kc
          refine T_op rfl rfl fun kc hc => ?_
          simp; refine hc _ ?_; clear hc kc
          refine T_op rfl rfl fun kc hc => ?_
          simp [e7, hml]; refine hc _ ?_; clear hc kc
          refine T_op rfl rfl fun kc hc => ?_
          simp; refine hc _ ?_; clear hc kc
          refine T_end (hn _ ?_); clear hn hp kn kp
          refine X_blockN ?_
          refine T_then ?_
          refine T_region (is := [0, 1, 2]) rfl fun kn kp hn hp => ?_
          refine T_op rfl rfl fun kc hc => ?_
          simp; refine hc _ ?_; clear hc kc
          refine T_op rfl rfl fun kc hc => ?_
          simp [et]; refine hc _ ?_; clear hc kc
          refine T_op rfl rfl fun kc hc => ?_
          simp; refine hc _ ?_; clear hc kc
          refine T_end (hn _ ?_); clear hn hp kn kp
          exact X_loopN (t + 1) (Ent.sub [1, 3, 4, 9, 10] [0, 1, 2, 5] (by simp [sub, subSl, subHp, place, mp, mpL, mpO, mpG, et, take_next hxf])) hz' (by omega)
        · skip
          have hz' : t = c.fees.length := by simp at b6; omega
          subst hz'
          refine T_exit ?_
          refine X_thenE ?_
          refine X_loopE ?_
          refine X_hit ?_
          refine T_then ?_
          refine T_seq ?_
          refine T_region (is := [0, 1, 2, 3, 4, 5, 6, 7, 8, 9, 10, 11, 12, 13, 14, 15, 16, 17, 18, 19, 20, 21, 22]) rfl fun kn kp hn hp => ?_
          refine T_op rfl rfl fun kc hc => ?_
          simp; refine hc _ ?_; clear hc kc
          refine T_op rfl rfl fun kc hc => ?_
          simp
          refine CallS.lend (walk75 (c.progs.map (·.name)) (by simp; omega)) (by simp [lendL, lend, Sx.give, giveL, hb2]) rfl rfl ?_
          simp [enum]; refine hc _ ?_; clear hc kc
          refine T_op rfl rfl fun kc hc => ?_
          simp; refine hc _ ?_; clear hc kc
          refine T_pure rfl (pstep_one rfl rfl rfl rfl fun g0 => .op rfl (by simp [g0]; rfl)) fun kc hc => ?_
          simp; refine hc _ ?_; clear hc kc
          refine T_pure rfl (pstep_one rfl rfl rfl rfl fun g0 => .lend (by simp [g0] <;> first | exact ⟨rfl, rfl⟩ | rfl) (by exact walk76 (c.progs.map (·.number)) (by simp; omega)) (by simp [lendL, lend, Sx.give, giveL, hb2]) (by rfl)) fun kc hc => ?_
          simp; refine hc _ ?_; clear hc kc
          refine T_op rfl rfl fun kc hc => ?_
          simp; refine hc _ ?_; clear hc kc
          refine T_op rfl rfl fun kc hc => ?_
          simp; refine hc _ ?_; clear hc kc
          refine T_pure rfl (pstep_one rfl rfl rfl rfl fun g0 => .op rfl (by simp [g0]; rfl)) fun kc hc => ?_
          simp; refine hc _ ?_; clear hc kc
          refine T_pure rfl (pstep_one rfl rfl rfl rfl fun g0 => .op rfl (by simp [g0]; rfl)) fun kc hc => ?_
          simp; refine hc _ ?_; clear hc kc
          refine T_pure rfl (pstep_one rfl rfl rfl rfl fun g0 => .dat (by simp [g0] <;> first | exact ⟨rfl, rfl⟩ | rfl) (by exact walk77 c.classes (by omega)) (by rfl)) fun kc hc => ?_
          simp; refine hc _ ?_; clear hc kc
          refine T_pure rfl (pstep_one rfl rfl rfl rfl fun g0 => .dat (by simp [g0] <;> first | exact ⟨rfl, rfl⟩ | rfl) (by exact walk75 (c.classes.map (·.name)) (by simp; omega)) (by rfl)) fun kc hc => ?_
          simp; refine hc _ ?_; clear hc kc
          refine T_op rfl rfl fun kc hc => ?_
          simp; refine hc _ ?_; clear hc kc
          refine T_op rfl rfl fun kc hc => ?_
          simp; refine hc _ ?_; clear hc kc
          refine T_pure rfl (pstep_one rfl rfl rfl rfl fun g0 => .op rfl (by simp [g0]; rfl)) fun kc hc => ?_
          simp; refine hc _ ?_; clear hc kc
          refine T_pure rfl (pstep_one rfl rfl rfl rfl fun g0 => .lend (by simp [g0] <;> first | exact ⟨rfl, rfl⟩ | rfl) (by exact walk75 (c.fees.map (·.name)) (by simp; omega)) (by simp [lendL, lend, Sx.give, giveL, hb4]) (by rfl)) fun kc hc => ?_
          simp; refine hc _ ?_; clear hc kc
          refine T_op rfl rfl fun kc hc => ?_
          simp; refine hc _ ?_; clear hc kc
          refine T_op rfl rfl fun kc hc => ?_
          simp; refine hc _ ?_; clear hc kc
          refine T_pure rfl (pstep_one rfl rfl rfl rfl fun g0 => .op rfl (by simp [g0]; rfl)) fun kc hc => ?_
          simp; refine hc _ ?_; clear hc kc
          refine T_pure rfl (pstep_one rfl rfl rfl rfl fun g0 => .op rfl (by simp [g0]; rfl)) fun kc hc => ?_
          simp; refine hc _ ?_; clear hc kc
          refine T_pure rfl (pstep_one rfl rfl rfl rfl fun g0 => .dat (by simp [g0] <;> first | exact ⟨rfl, rfl⟩ | rfl) (by exact walk77 c.honours (by omega)) (by rfl)) fun kc hc => ?_
          simp; refine hc _ ?_; clear hc kc
          refine T_pure rfl (pstep_one rfl rfl rfl rfl fun g0 => .dat (by simp [g0] <;> first | exact ⟨rfl, rfl⟩ | rfl) (by exact walk75 (c.honours.map (·.name)) (by simp; omega)) (by rfl)) fun kc hc => ?_
          simp; refine hc _ ?_; clear hc kc
          refine T_op rfl rfl fun kc hc => ?_
          simp; refine hc _ ?_; clear hc kc
          refine T_op rfl rfl fun kc hc => ?_
          simp; refine hc _ ?_; clear hc kc
          refine T_end (hn _ ?_); clear hn hp kn kp
          refine T_then ?_
          refine T_ret ?_
          exact finI (Ent.refl _) (by simp [resD, resL, resV]; rfl) (Ent.sub [] [] (by simp [sub, subSl, subHp, place, mp, mpL, mpO, mpG]; rfl)) rfl rfl (by simp [twiceC, hA, hP])
-- sizar/sizarref11.SameInts
theorem walk19 (l : List Int) (hl : l.length ≤ 9223372036854775807) : Does Try.prog 19 [ints l, ints l] (.dat (bV true)) [] := by
  refine Does.intro [.tmp 4] Try.func19 rfl (by kernel_rfl) Try.ntmps19 rfl (Nat.le_of_ble_eq_true rfl) ?_
  refine T_seq ?_
  refine T_region (is := [0]) rfl fun kn kp hn hp => ?_
  refine T_op rfl rfl fun kc hc => ?_
  simp; refine hc _ ?_; clear hc kc
  refine T_end (hn _ ?_); clear hn hp kn kp
  refine T_then ?_
  refine T_seq ?_
  refine T_seq ?_
  refine T_region (is := [0, 1, 2, 3, 4]) rfl fun kn kp hn hp => ?_
  refine T_op rfl rfl fun kc hc => ?_
  simp; refine hc _ ?_; clear hc kc
  refine T_op rfl rfl fun kc hc => ?_
  simp; refine hc _ ?_; clear hc kc
  refine T_op rfl rfl fun kc hc => ?_
  simp; refine hc _ ?_; clear hc kc
  refine T_op rfl rfl fun kc hc => ?_
  simp; refine hc _ ?_; clear hc kc
  refine T_op rfl rfl fun kc hc => ?_
  simp; refine hc _ ?_; clear hc kc
  refine T_end (hn _ ?_); clear hn hp kn kp
  refine T_then ?_
  refine T_false (by simp) ?_
  refine T_skip ?_
  refine T_then ?_
  refine T_seq ?_
  refine T_seq ?_
  refine T_region (is := [0]) rfl fun kn kp hn hp => ?_
  refine T_op rfl rfl fun kc hc => ?_
  simp; refine hc _ ?_; clear hc kc
  refine T_end (hn _ ?_); clear hn hp kn kp
  refine T_then ?_
  refine T_block ?_
  refine T_loop (fun z : Nat => { sl := [(0, .dat (ints l)), (1, .dat (ints l)), (5, .dat (iD z))], hp := [], nx := 0 }) (fun z => z ≤ l.length) (fun z => l.length - z) 0 (Ent.sub [0, 1, 5] [] (by simp [sub, subSl, subHp, place, mp, mpL, mpO, mpG])) (Nat.zero_le _) fun z hz => ?_
  refine T_seq ?_
  refine T_seq ?_
  refine T_region (is := [0, 1, 2, 3]) rfl fun kn kp hn hp => ?_
  refine T_op rfl rfl fun kc hc => ?_
  simp; refine hc _ ?_; clear hc kc
  refine T_op rfl rfl fun kc hc => ?_
  simp; refine hc _ ?_; clear hc kc
  refine T_op rfl rfl fun kc hc => ?_
  simp; refine hc _ ?_; clear hc kc
  refine T_op rfl rfl fun kc hc => ?_
  simp; refine hc _ ?_; clear hc kc
  refine T_end (hn _ ?_); clear hn hp kn kp
  refine T_then ?_
  refine T_cond rfl (fun b2 => ?_) (fun b2 => ?_)
  · skip
    have hz' : z < l.length := by simpa using b2
    obtain ⟨x, hxx⟩ : ∃ x, l[z]? = some x := ⟨_, List.getElem?_eq_getElem hz'⟩
    have ez : IntKind.i64.wrap ((z : Int) + 1) = (z : Int) + 1 := wr1 hz' (by omega)
    refine T_skip ?_
    refine T_then ?_
    refine T_seq ?_
    refine T_block ?_
    refine T_seqDraw (is := [0, 1, 2, 3, 4, 5, 6, 7, 8]) rfl (by kernel_rfl) fun kn hn => ?_
    refine D_op rfl rfl rfl rfl fun kc hc => ?_
    simp; refine hc _ ?_; clear hc kc
    refine D_op rfl rfl rfl rfl fun kc hc => ?_
    simp; refine hc _ ?_; clear hc kc
    refine D_op rfl rfl rfl rfl fun kc hc => ?_
    simp [hxx]; refine hc _ ?_; clear hc kc
    refine D_op rfl rfl rfl rfl fun kc hc => ?_
    simp; refine hc _ ?_; clear hc kc
    refine D_op rfl rfl rfl rfl fun kc hc => ?_
    simp; refine hc _ ?_; clear hc kc
    refine D_op rfl rfl rfl rfl fun kc hc => ?_
    simp; refine hc _ ?_; clear hc kc
    refine D_op rfl rfl rfl rfl fun kc hc => ?_
    simp [hxx]; refine hc _ ?_; clear hc kc
    refine D_op rfl rfl rfl rfl fun kc hc => ?_
    simp; refine hc _ ?_; clear hc kc
    refine D_op rfl rfl rfl rfl fun kc hc => ?_
    simp; refine hc _ ?_; clear hc kc
    refine D_end rfl (by kernel_rfl) (hn _ ?_); clear hn kn
    refine T_false (by simp) ?_
    refine T_skip ?_
    refine X_blockN ?_
    refine T_then ?_
    refine T_region (is := [0, 1, 2]) rfl fun kn kp hn hp => ?_
    refine T_op rfl rfl fun kc hc => ?_
    simp; refine hc _ ?_; clear hc kc
    refine T_op rfl rfl fun kc hc => ?_
    simp [ez]; refine hc _ ?_; clear hc kc
    refine T_op rfl rfl fun kc hc => ?_
    simp; refine hc _ ?_; clear hc kc
    refine T_end (hn _ ?_); clear hn hp kn kp
    exact X_loopN (z + 1) (Ent.sub [0, 1, 5] [] (by simp [sub, subSl, subHp, place, mp, mpL, mpO, mpG, ez])) hz' (by omega)
  · skip
    have hz' : z = l.length := by simp at b2; omega
    refine T_exit ?_
    refine X_thenE ?_
    refine X_loopE ?_
    refine X_hit ?_
    refine T_then ?_
    refine T_seq ?_
    refine T_region (is := [0]) rfl fun kn kp hn hp => ?_
    refine T_op rfl rfl fun kc hc => ?_
    simp; refine hc _ ?_; clear hc kc
    refine T_end (hn _ ?_); clear hn hp kn kp
    refine T_then ?_
    refine T_ret ?_
    exact finI (Ent.refl _) (by simp [resD, resL, resV]; rfl) (Ent.sub [] [] (by simp [sub, subSl, subHp, place, mp, mpL, mpO, mpG]; rfl)) rfl rfl (by simp)
-- sizar/sizarlaw11.place
theorem walk23 (l : List Int) (n : Int) (hl : l.length ≤ 9223372036854775807) : Does Try.prog 23 [ints l, iD n] (.dat (iD (idx (fun x => x == n) l 0))) [] := by
  refine Does.intro [.tmp 4] Try.func23 rfl (by kernel_rfl) Try.ntmps23 rfl (Nat.le_of_ble_eq_true rfl) ?_
  refine T_seq ?_
  refine T_region (is := [0]) rfl fun kn kp hn hp => ?_
  refine T_op rfl rfl fun kc hc => ?_
  simp; refine hc _ ?_; clear hc kc
  refine T_end (hn _ ?_); clear hn hp kn kp
  refine T_then ?_
  refine T_seq ?_
  refine T_seq ?_
  refine T_region (is := [0]) rfl fun kn kp hn hp => ?_
  refine T_op rfl rfl fun kc hc => ?_
  simp; refine hc _ ?_; clear hc kc
  refine T_end (hn _ ?_); clear hn hp kn kp
  refine T_then ?_
  refine T_block ?_
  refine T_loop (fun z : Nat => { sl := [(0, .dat (ints l)), (1, .dat (iD n)), (5, .dat (iD z))], hp := [], nx := 0 }) (fun z => z ≤ l.length ∧ idx (fun x => x == n) l 0 = idx (fun x => x == n) (l.drop z) z) (fun z => l.length - z) 0 (Ent.sub [0, 1, 5] [] (by simp [sub, subSl, subHp, place, mp, mpL, mpO, mpG])) ⟨Nat.zero_le _, rfl⟩ fun z hz => ?_
  obtain ⟨hz, hk⟩ := hz
  refine T_seq ?_
  refine T_seq ?_
  refine T_region (is := [0, 1, 2, 3]) rfl fun kn kp hn hp => ?_
  refine T_op rfl rfl fun kc hc => ?_
  simp; refine hc _ ?_; clear hc kc
  refine T_op rfl rfl fun kc hc => ?_
  simp; refine hc _ ?_; clear hc kc
  refine T_op rfl rfl fun kc hc => ?_
  simp; refine hc _ ?_; clear hc kc
  refine T_op rfl rfl fun kc hc => ?_
  simp; refine hc _ ?_; clear hc kc
  refine T_end (hn _ ?_); clear hn hp kn kp
  refine T_then ?_
  refine T_cond rfl (fun b1 => ?_) (fun b1 => ?_)
  · skip
    have hz' : z < l.length := by simpa using b1
    obtain ⟨x, hx⟩ : ∃ x, l[z]? = some x := ⟨_, List.getElem?_eq_getElem hz'⟩
    have e1 : IntKind.i64.wrap ((z : Int) + 1) = (z : Int) + 1 := wr1 hz' hl
    refine T_skip ?_
    refine T_then ?_
    refine T_seq ?_
    refine T_block ?_
    refine T_seq ?_
    refine T_region (is := [0, 1, 2, 3, 4, 5]) rfl fun kn kp hn hp => ?_
    refine T_op rfl rfl fun kc hc => ?_
    simp; refine hc _ ?_; clear hc kc
    refine T_op rfl rfl fun kc hc => ?_
    simp; refine hc _ ?_; clear hc kc
    refine T_op rfl rfl fun kc hc => ?_
    simp [hx]; refine hc _ ?_; clear hc kc
    refine T_op rfl rfl fun kc hc => ?_
    simp; refine hc _ ?_; clear hc kc
    refine T_op rfl rfl fun kc hc => ?_
    simp; refine hc _ ?_; clear hc kc
    refine T_op rfl rfl fun kc hc => ?_
    simp; refine hc _ ?_; clear hc kc
    refine T_end (hn _ ?_); clear hn hp kn kp
    refine T_then ?_
    refine T_cond rfl (fun b2 => ?_) (fun b2 => ?_)
    · skip
      have hpx : (x == n) = true := by simpa using b2
      have hres : idx (fun x => x == n) l 0 = z := by rw [hk, idx_at hx, hpx]; rfl
      refine T_seq ?_
      refine T_region (is := [0, 1]) rfl fun kn kp hn hp => ?_
      refine T_op rfl rfl fun kc hc => ?_
      simp; refine hc _ ?_; clear hc kc
      refine T_op rfl rfl fun kc hc => ?_
      simp; refine hc _ ?_; clear hc kc
      refine T_end (hn _ ?_); clear hn hp kn kp
      refine T_then ?_
      refine T_ret ?_
      refine X_blockR ?_
      refine X_thenR ?_
      refine X_loopR ?_
      refine X_blockR ?_
      refine X_thenR ?_
      exact finI (Ent.refl _) (by simp [resD, resL, resV]; rfl) (Ent.sub [] [] (by simp [sub, subSl, subHp, place, mp, mpL, mpO, mpG]; rfl)) rfl rfl (by simp [hres])
    · skip
      have hpx : (x == n) = false := by simpa using b2
      refine T_skip ?_
      refine X_blockN ?_
      refine T_then ?_
      refine T_region (is := [0, 1, 2]) rfl fun kn kp hn hp => ?_
      refine T_op rfl rfl fun kc hc => ?_
      simp; refine hc _ ?_; clear hc kc
      refine T_op rfl rfl fun kc hc => ?_
      simp [e1]; refine hc _ ?_; clear hc kc
      refine T_op rfl rfl fun kc hc => ?_
      simp; refine hc _ ?_; clear hc kc
      refine T_end (hn _ ?_); clear hn hp kn kp
      exact X_loopN (z + 1) (Ent.sub [0, 1, 5] [] (by simp [sub, subSl, subHp, place, mp, mpL, mpO, mpG, e1])) ⟨hz', by rw [hk, idx_at hx, hpx]; rfl⟩ (by omega)
  · skip
    have hz' : z = l.length := by simp at b1; omega
    have hend : idx (fun x => x == n) l 0 = -1 := by rw [hk]; exact idx_end (by omega)
    refine T_exit ?_
    refine X_thenE ?_
    refine X_loopE ?_
    refine X_hit ?_
    refine T_then ?_
    refine T_seq ?_
    refine T_region (is := [0]) rfl fun kn kp hn hp => ?_
    refine T_op rfl rfl fun kc hc => ?_
    simp; refine hc _ ?_; clear hc kc
    refine T_end (hn _ ?_); clear hn hp kn kp
    refine T_then ?_
    refine T_ret ?_
    exact finI (Ent.refl _) (by simp [resD, resL, resV]; rfl) (Ent.sub [] [] (by simp [sub, subSl, subHp, place, mp, mpL, mpO, mpG]; rfl)) rfl rfl (by simp [hend])
-- END

end Go.Proofs.Ytbkkekbeaabokaa
