/- The names: Resolve. -/
import Derived.Test.YtbkkekbeaabokaaNm
import Derived.Test.YtbkkekbeaabokaaSyV
set_option linter.unusedVariables false
set_option linter.unusedSimpArgs false
namespace Go.Proofs.Ytbkkekbeaabokaa
open Go Go.Proofs.Ytbkkekbeaabokaa.Sx

/-- Where an error is thrown: what Resolve comes back with. -/
theorem pan12 {c : Cat} {s : S} {n : Int} {x : D} (h0 : s.gh = [(0, .ptr 2 0)]) (h1 : lk 1 s.hp = some (.var [.dat nilS, .dat nilS, .dat nilS, .dat nilS, .dat nilS, .dat nilS, .dat nilS])) (h2 : lk 2 s.hp = some (.var [x])) (k2 : lk 2 s.sl = some (.ptr 1 0)) (k3 : lk 3 s.sl = some (.ptr 2 0)) (hr : resolveOf c = (zeroCat, n)) :
    ∃ n' b2 x', thrown n = thrown n' ∧ lk 0 s.gh = some (.ptr b2 0) ∧ lk b2 s.hp = some (.var [x']) ∧ Fin Try.prog [.cell 2 29, .cell 3 32] (.dat (.tup [.agg (catD (resolveOf c).1), iD (resolveOf c).2])) [] { s with hp := up b2 (.var [.dat (.val (.int .i64 n'))]) s.hp } := by
  refine ⟨n, 2, x, rfl, by rw [h0]; rfl, h2, ?_⟩
  rw [hr]
  have e : Ent { s with hp := up 2 (.var [.dat (.val (.int .i64 n))]) s.hp } { sl := [(2, .ptr 0 0), (3, .ptr 1 0)], hp := [(0, .var [.dat nilS, .dat nilS, .dat nilS, .dat nilS, .dat nilS, .dat nilS, .dat nilS]), (1, .var [.dat (iD n)])], nx := 2, gh := [(0, .ptr 1 0)], st := s.st } := by
    refine Ent.sub [2, 3] [1, 2] ?_
    simp [-up, -lk, sub, subSl, subHp, place, mp, mpL, mpO, mpG, lk_up, h0, h1, k2, k3]
  refine finI e (by simp [resD, resL, resV]; rfl) (Ent.trans (Ent.giveG (t := 0) (n := 40) (e := .tup [.agg [nilS, nilS, nilS, nilS, nilS, nilS, nilS], iD n]) (hp' := _) rfl (by simp [Sx.give, giveL]; rfl)) (Ent.trans (Ent.datG (t := 0) rfl (zeroImp n)) (Ent.sub [] [] (by simp [sub, subSl, subHp, place, mp, mpL, mpO, mpG]; rfl)))) rfl rfl rfl

theorem mapX_bad {α : Type} {f : α → α × Bool} {l : List α} {z : Nat} {x : α} (h : l[z]? = some x) (hb : (f x).2 = false) : (mapX f l).2 = false := by
  cases ha : (mapX f l).2 with
  | false => rfl
  | true =>
    simp only [mapX, List.all_eq_true] at ha
    have := ha x (List.mem_of_getElem? h)
    rw [hb] at this; cases this
theorem mapX_get {α : Type} {f : α → α × Bool} {l : List α} {z : Nat} {x : α} (h : l[z]? = some x) : (mapX f l).1[z]? = some (f x).1 := by
  simp [mapX, h]
theorem numsR_bad {c : Cat} : ∀ {ns : List ByteArray} {fs : List Int} {z : Nat} {n : ByteArray} {f : Int}, ns[z]? = some n → fs[z]? = some f → (numberR c n f).2 = false → (numsR c ns fs).2 = false
  | [], _, z, n, f, h, _, _ => by simp at h
  | _ :: _, [], z, n, f, _, h, _ => by simp at h
  | a :: ns, b :: fs, z, n, f, h1, h2, h3 => by
    cases z with
    | zero => simp at h1 h2; subst h1; subst h2; simp [numsR, h3]
    | succ z => simp [numsR, numsR_bad (z := z) (by simpa using h1) (by simpa using h2) h3]
theorem numsR_get {c : Cat} : ∀ {ns : List ByteArray} {fs : List Int} {z : Nat} {n : ByteArray} {f : Int}, ns[z]? = some n → fs[z]? = some f → (numsR c ns fs).1[z]? = some (numberR c n f).1
  | [], _, z, n, f, h, _ => by simp at h
  | _ :: _, [], z, n, f, _, h => by simp at h
  | a :: ns, b :: fs, z, n, f, h1, h2 => by
    cases z with
    | zero => simp at h1 h2; subst h1; subst h2; simp [numsR]
    | succ z => simpa [numsR] using numsR_get (z := z) (by simpa using h1) (by simpa using h2)
theorem num_some {c : Cat} {n : ByteArray} {f : Int} (h : (numberR c n f).2 = true) : numberOf c n f = some (numberR c n f).1 := by rw [numberR_eq, h]; rfl
theorem num_none {c : Cat} {n : ByteArray} {f : Int} (h : (numberR c n f).2 = false) : numberOf c n f = none := by rw [numberR_eq, h]; rfl
theorem rule_some {c : Cat} {r : Rule} (h : (ruleR c r).2 = true) : ruleOf c r = some (ruleR c r).1 := by rw [ruleR_eq, h]; rfl
theorem rule_none {c : Cat} {r : Rule} (h : (ruleR c r).2 = false) : ruleOf c r = none := by rw [ruleR_eq, h]; rfl
theorem bad_course {c : Cat} {z : Nat} {y : Course} (h : c.courses[z]? = some y) (hb : (ruleR c y.need).2 = false ∨ (ruleR c y.bar).2 = false) : goodB c = false := by
  have : (mapX (courseX c) c.courses).2 = false := mapX_bad h (by simp only [courseX]; rcases hb with hb | hb <;> simp [hb])
  simp [goodB, this]
theorem bad_pair {c : Cat} {z : Nat} {p : Pair} (h : c.same[z]? = some p) (hb : (numberR c p.a p.x).2 = false ∨ (numberR c p.b p.y).2 = false) : goodB c = false := by
  have : (mapX (pairX c) c.same).2 = false := mapX_bad h (by simp only [pairX]; rcases hb with hb | hb <;> simp [hb])
  simp [goodB, this]
theorem bad_from {c : Cat} {u v j : Nat} {p : Prog} {q : Req} {n : ByteArray} {f : Int} (h : c.progs[u]? = some p) (h2 : p.reqs[v]? = some q) (h3 : q.names[j]? = some n) (h4 : q.frm[j]? = some f) (hb : (numberR c n f).2 = false) : goodB c = false := by
  have h5 : (mapX (reqX c) p.reqs).2 = false := mapX_bad h2 (numsR_bad h3 h4 hb)
  have : (mapX (progX c) c.progs).2 = false := mapX_bad h h5
  simp [goodB, this]

theorem argQ_f {q : Req} (h : argQ q = false) : ((q.names.length : Int) == (q.frm.length : Int)) = true := by
  simp [argQ] at h; simp; omega
theorem argQ_t {q : Req} (h : argQ q = true) : ((q.names.length : Int) == (q.frm.length : Int)) = false := by
  simp [argQ] at h; simp; omega

theorem ofD_req {es es2 : List (List Dat)} {v : Nat} {q : Req} {e : Dat} {cs : List D} (hg : es[v]? = some (reqD q)) (hset : es.set v [sD q.name, iD q.credits, iD q.grade, bV q.home, strs q.names, e] = es2) {x : D} (hcs : cs = [.dat (sD q.name), .dat (iD q.credits), .dat (iD q.grade), .dat (bV q.home), .dat (strs q.names), x] := by rfl) :
    ∀ (i : Nat) (c : List Dat), es2[i]? = some c → ∃ c', ((es.map (·.map D.dat)).set v cs)[i]? = some c' ∧ c.length = c'.length ∧ ∀ (p : Nat) (y : Dat), c[p]? = some y → c'[p]? = some (.dat y) ∨ (i = v ∧ p = 5 ∧ y = e) := by
  intro i c hc
  have hv := (List.getElem?_eq_some_iff.1 hg).1
  subst hset
  rw [List.getElem?_set] at hc ⊢
  by_cases h : v = i
  · subst h
    rw [if_pos rfl, if_pos hv] at hc
    rw [if_pos rfl, if_pos (by simpa using hv)]
    injection hc with hc
    subst hc
    refine ⟨cs, rfl, by rw [hcs]; rfl, fun p y hy => ?_⟩
    subst hcs
    match p, hy with
    | 0, hy => simp at hy; subst hy; exact .inl rfl
    | 1, hy => simp at hy; subst hy; exact .inl rfl
    | 2, hy => simp at hy; subst hy; exact .inl rfl
    | 3, hy => simp at hy; subst hy; exact .inl rfl
    | 4, hy => simp at hy; subst hy; exact .inl rfl
    | 5, hy => simp at hy; subst hy; exact .inr ⟨rfl, rfl, rfl⟩
    | n + 6, hy => simp at hy
  · rw [if_neg h] at hc
    rw [if_neg h]
    refine ⟨c.map .dat, by rw [List.getElem?_map, hc]; rfl, by simp, fun p y hy => .inl (by simp [hy])⟩

-- WALK 12
-- sizar/names.Resolve
set_option maxHeartbeats 8000000 in
theorem walk12 (c : Cat) (hf : c.fit) : Does Try.prog 12 [.agg (catD c)] (.dat (.tup [.agg (catD (resolveOf c).1), iD (resolveOf c).2])) [] := by
  have h1 := hf.courses
  have h2 := hf.progs
  have h3 := hf.classes
  have h4 := hf.fees
  have h5 := hf.honours
  have h7 := hf.same
  refine Does.introR (t := 23) (b := 2) (sA := { sl := [(1, .ptr 0 0), (2, .ptr 1 0), (3, .ptr 2 0)], hp := [(0, .var ((catD c).map .dat)), (1, .var [.dat nilS, .dat nilS, .dat nilS, .dat nilS, .dat nilS, .dat nilS, .dat nilS]), (2, .var [.dat (iD 0)])], nx := 3 }) (sB := { sl := [(1, .ptr 0 0), (2, .ptr 1 0), (3, .ptr 2 0), (23, .fn 27 [.ptr 2 0])], hp := [(0, .var ((catD c).map .dat)), (1, .var [.dat nilS, .dat nilS, .dat nilS, .dat nilS, .dat nilS, .dat nilS, .dat nilS]), (2, .var [.dat (iD 0)])], nx := 3 }) [.cell 2 29, .cell 3 32] recov27 Try.func12 rfl (by kernel_rfl) Try.ntmps12 rfl (Nat.le_of_ble_eq_true rfl) rfl rfl rfl rfl rfl ?_ (fun kn hn => ?_) rfl rfl ⟨_, rfl⟩ ?_
  · skip
    refine T_region (is := [0, 1, 2]) rfl fun kn kp hn hp => ?_
    refine T_op rfl rfl fun kc hc => ?_
    simp; refine hc _ ?_; clear hc kc
    refine T_op rfl rfl fun kc hc => ?_
    simp; refine hc _ ?_; clear hc kc
    refine T_op rfl rfl fun kc hc => ?_
    simp; refine hc _ ?_; clear hc kc
    refine T_end (hn _ ?_); clear hn hp kn kp
    exact Ent.sub [1, 2, 3] [0, 1, 2] (by simp [sub, subSl, subHp, place, mp, mpL, mpO, mpG])
  · skip
    refine T_op rfl rfl fun kc hc => ?_
    simp; refine hc _ ?_; clear hc kc
    exact T_end (hn _ (Ent.sub [1, 2, 3, 23] [0, 1, 2] (by simp [sub, subSl, subHp, place, mp, mpL, mpO, mpG])))
  refine T_seq ?_
  refine T_seq ?_
  refine T_region (is := [0, 1, 2, 3]) rfl fun kn kp hn hp => ?_
  refine T_op rfl rfl fun kc hc => ?_
  simp; refine hc _ ?_; clear hc kc
  refine T_op rfl rfl fun kc hc => ?_
  simp; refine hc _ ?_; clear hc kc
  refine T_op rfl rfl fun kc hc => ?_
  simp; refine hc _ ?_; clear hc kc
  refine T_op rfl rfl fun kc hc => ?_
  simp; refine hc _ ?_; clear hc kc
  refine T_end (hn _ ?_); clear hn hp kn kp
  refine T_then ?_
  refine T_block ?_
  refine T_loop (fun z : Nat => { sl := [(1, .ptr 0 0), (2, .ptr 1 0), (3, .ptr 2 0), (25, .dat (.sl 7 (c.progs.map progD))), (26, .dat (iD c.progs.length)), (27, .dat (iD z))], hp := [(0, .var ((catD c).map .dat)), (1, .var [.dat nilS, .dat nilS, .dat nilS, .dat nilS, .dat nilS, .dat nilS, .dat nilS]), (2, .var [.dat (iD 0)])], nx := 3, gh := [(0, .ptr 2 0)] }) (fun z => z ≤ c.progs.length ∧ (c.progs.take z).any argP = false) (fun z => c.progs.length - z) 0 (Ent.sub [1, 2, 3, 25, 26, 27] [0, 1, 2] (by simp [sub, subSl, subHp, place, mp, mpL, mpO, mpG])) ⟨Nat.zero_le _, rfl⟩ fun z hz => ?_
  obtain ⟨hz, hza⟩ := hz
  refine T_seq ?_
  refine T_region (is := [0]) rfl fun kn kp hn hp => ?_
  refine T_op rfl rfl fun kc hc => ?_
  simp; refine hc _ ?_; clear hc kc
  refine T_end (hn _ ?_); clear hn hp kn kp
  refine T_then ?_
  refine T_seq ?_
  refine T_cond rfl (fun b1 => ?_) (fun b1 => ?_)
  · skip
    have hz' : z < c.progs.length := by simpa using b1
    obtain ⟨p, hxp⟩ : ∃ x, c.progs[z]? = some x := ⟨_, List.getElem?_eq_getElem hz'⟩
    have ez : IntKind.i64.wrap ((z : Int) + 1) = (z : Int) + 1 := wr1 hz' (by omega)
    have hzl := hz'
    have hpr := (hf.reqs p (List.mem_of_getElem? hxp)).1
    clear hz'
    refine T_skip ?_
    refine T_then ?_
    refine T_seq ?_
    refine T_block ?_
    refine T_seq ?_
    refine T_region (is := [0, 1, 2, 3]) rfl fun kn kp hn hp => ?_
    refine T_op rfl rfl fun kc hc => ?_
    simp [hxp]; refine hc _ ?_; clear hc kc
    refine T_op rfl rfl fun kc hc => ?_
    simp [hxp]; refine hc _ ?_; clear hc kc
    refine T_op rfl rfl fun kc hc => ?_
    simp; refine hc _ ?_; clear hc kc
    refine T_op rfl rfl fun kc hc => ?_
    simp; refine hc _ ?_; clear hc kc
    refine T_end (hn _ ?_); clear hn hp kn kp
    refine T_then ?_
    refine T_seq ?_
    refine T_region (is := [0, 1, 2, 3]) rfl fun kn kp hn hp => ?_
    refine T_op rfl rfl fun kc hc => ?_
    simp; refine hc _ ?_; clear hc kc
    refine T_op rfl rfl fun kc hc => ?_
    simp; refine hc _ ?_; clear hc kc
    refine T_op rfl rfl fun kc hc => ?_
    simp; refine hc _ ?_; clear hc kc
    refine T_op rfl rfl fun kc hc => ?_
    simp; refine hc _ ?_; clear hc kc
    refine T_end (hn _ ?_); clear hn hp kn kp
    refine T_then ?_
    refine T_block ?_
    refine T_loop (fun v : Nat => { sl := [(1, .ptr 0 0), (2, .ptr 1 0), (3, .ptr 2 0), (25, .dat (.sl 7 (c.progs.map progD))), (26, .dat (iD c.progs.length)), (27, .dat (iD z)), (32, .dat (.sl 6 (p.reqs.map reqD))), (33, .dat (iD p.reqs.length)), (34, .dat (iD v))], hp := [(0, .var ((catD c).map .dat)), (1, .var [.dat nilS, .dat nilS, .dat nilS, .dat nilS, .dat nilS, .dat nilS, .dat nilS]), (2, .var [.dat (iD 0)])], nx := 3, gh := [(0, .ptr 2 0)] }) (fun v => v ≤ p.reqs.length ∧ (p.reqs.take v).any argQ = false) (fun v => p.reqs.length - v) 0 (Ent.sub [1, 2, 3, 25, 26, 27, 32, 33, 34] [0, 1, 2] (by simp [sub, subSl, subHp, place, mp, mpL, mpO, mpG])) ⟨Nat.zero_le _, rfl⟩ fun v hv => ?_
    obtain ⟨hv, hva⟩ := hv
    refine T_seq ?_
    refine T_region (is := [0]) rfl fun kn kp hn hp => ?_
    refine T_op rfl rfl fun kc hc => ?_
    simp; refine hc _ ?_; clear hc kc
    refine T_end (hn _ ?_); clear hn hp kn kp
    refine T_then ?_
    refine T_seq ?_
    refine T_cond rfl (fun b2 => ?_) (fun b2 => ?_)
    · skip
      have hz' : v < p.reqs.length := by simpa using b2
      obtain ⟨q, hxq⟩ : ∃ x, p.reqs[v]? = some x := ⟨_, List.getElem?_eq_getElem hz'⟩
      have ev : IntKind.i64.wrap ((v : Int) + 1) = (v : Int) + 1 := wr1 hz' (by omega)
      refine T_skip ?_
      refine T_then ?_
      refine T_seq ?_
      refine T_block ?_
      refine T_seq ?_
      refine T_region (is := [0, 1, 2, 3]) rfl fun kn kp hn hp => ?_
      refine T_op rfl rfl fun kc hc => ?_
      simp [hxq]; refine hc _ ?_; clear hc kc
      refine T_op rfl rfl fun kc hc => ?_
      simp [hxq]; refine hc _ ?_; clear hc kc
      refine T_op rfl rfl fun kc hc => ?_
      simp; refine hc _ ?_; clear hc kc
      refine T_op rfl rfl fun kc hc => ?_
      simp; refine hc _ ?_; clear hc kc
      refine T_end (hn _ ?_); clear hn hp kn kp
      refine T_then ?_
      refine T_region (is := [0, 1, 2, 3, 4, 5, 6, 7]) rfl fun kn kp hn hp => ?_
      refine T_op rfl rfl fun kc hc => ?_
      simp; refine hc _ ?_; clear hc kc
      refine T_op rfl rfl fun kc hc => ?_
      simp; refine hc _ ?_; clear hc kc
      refine T_op rfl rfl fun kc hc => ?_
      simp; refine hc _ ?_; clear hc kc
      refine T_op rfl rfl fun kc hc => ?_
      simp; refine hc _ ?_; clear hc kc
      refine T_op rfl rfl fun kc hc => ?_
      simp; refine hc _ ?_; clear hc kc
      refine T_op rfl rfl fun kc hc => ?_
      simp; refine hc _ ?_; clear hc kc
      refine T_op rfl rfl fun kc hc => ?_
      simp; refine hc _ ?_; clear hc kc
      refine T_op rfl rfl fun kc hc => ?_
      simp
      cases haq : argQ q
      · skip
        refine CallS.dat (walk29 1) (by simp [datL, datOf, argQ_f haq]) rfl rfl rfl ?_
        simp [enum]; refine hc _ ?_; clear hc kc
        refine T_end (hn _ ?_); clear hn hp kn kp
        refine X_blockN ?_
        refine T_then ?_
        refine T_region (is := [0, 1]) rfl fun kn kp hn hp => ?_
        refine T_op rfl rfl fun kc hc => ?_
        simp [ev]; refine hc _ ?_; clear hc kc
        refine T_op rfl rfl fun kc hc => ?_
        simp; refine hc _ ?_; clear hc kc
        refine T_end (hn _ ?_); clear hn hp kn kp
        exact X_loopN (v + 1) (Ent.sub [1, 2, 3, 25, 26, 27, 32, 33, 34] [0, 1, 2] (by simp [sub, subSl, subHp, place, mp, mpL, mpO, mpG, ev])) ⟨hz', by rw [any_next hxq, hva, haq]; rfl⟩ (by omega)
      · skip
        refine CallS.pan (pan29 1) (by simp [lendL, lend, argQ_t haq]) ?_
        refine hp _ _ ?_
        exact pan12 rfl rfl rfl rfl rfl (res_arg (any_yes hxp (any_yes hxq haq)))
    · skip
      have hz' : v = p.reqs.length := by simp at b2; omega
      have hap : argP p = false := by rw [hz', List.take_length] at hva; exact hva
      refine T_exit ?_
      refine X_thenE ?_
      refine X_loopE ?_
      refine X_hit ?_
      refine X_blockN ?_
      refine T_then ?_
      refine T_region (is := [0, 1]) rfl fun kn kp hn hp => ?_
      refine T_op rfl rfl fun kc hc => ?_
      simp [ez]; refine hc _ ?_; clear hc kc
      refine T_op rfl rfl fun kc hc => ?_
      simp; refine hc _ ?_; clear hc kc
      refine T_end (hn _ ?_); clear hn hp kn kp
      exact X_loopN (z + 1) (Ent.sub [1, 2, 3, 25, 26, 27] [0, 1, 2] (by simp [sub, subSl, subHp, place, mp, mpL, mpO, mpG, ez])) ⟨hzl, by rw [any_next hxp, hza, hap]; rfl⟩ (by omega)
  · skip
    have hz' : z = c.progs.length := by simp at b1; omega
    have hA : argB c = false := by rw [hz', List.take_length] at hza; exact hza
    clear hz hza hz'
    refine T_exit ?_
    refine X_thenE ?_
    refine X_loopE ?_
    refine X_hit ?_
    refine T_then ?_
    refine T_seq ?_
    refine T_region (is := [0, 1, 2]) rfl fun kn kp hn hp => ?_
    refine T_op rfl rfl fun kc hc => ?_
    simp; refine hc _ ?_; clear hc kc
    refine T_op rfl rfl fun kc hc => ?_
    simp; refine hc _ ?_; clear hc kc
    refine T_op rfl rfl fun kc hc => ?_
    simp
    cases hu1 : twiceB (c.courses.map (·.name))
    · skip
      refine CallS.dat (walk30 c.courses 31 [] (·.name) walk31 h1 hu1) (rfl) rfl rfl rfl ?_
      simp [enum]; refine hc _ ?_; clear hc kc
      refine T_end (hn _ ?_); clear hn hp kn kp
      refine T_then ?_
      refine T_seq ?_
      refine T_region (is := [0, 1, 2]) rfl fun kn kp hn hp => ?_
      refine T_op rfl rfl fun kc hc => ?_
      simp; refine hc _ ?_; clear hc kc
      refine T_op rfl rfl fun kc hc => ?_
      simp; refine hc _ ?_; clear hc kc
      refine T_op rfl rfl fun kc hc => ?_
      simp
      cases hu2 : twiceB (c.courses.map (·.number))
      · skip
        refine CallS.dat (walk32 c.courses 33 [] (·.number) walk33 h1 hu2) (rfl) rfl rfl rfl ?_
        simp [enum]; refine hc _ ?_; clear hc kc
        refine T_end (hn _ ?_); clear hn hp kn kp
        refine T_then ?_
        refine T_seq ?_
        refine T_region (is := [0, 1, 2]) rfl fun kn kp hn hp => ?_
        refine T_op rfl rfl fun kc hc => ?_
        simp; refine hc _ ?_; clear hc kc
        refine T_op rfl rfl fun kc hc => ?_
        simp; refine hc _ ?_; clear hc kc
        refine T_op rfl rfl fun kc hc => ?_
        simp
        cases hu3 : twiceB (c.progs.map (·.name))
        · skip
          refine CallS.dat (walk34 c.progs 35 [] (·.name) walk35 h2 hu3) (rfl) rfl rfl rfl ?_
          simp [enum]; refine hc _ ?_; clear hc kc
          refine T_end (hn _ ?_); clear hn hp kn kp
          refine T_then ?_
          refine T_seq ?_
          refine T_region (is := [0, 1, 2]) rfl fun kn kp hn hp => ?_
          refine T_op rfl rfl fun kc hc => ?_
          simp; refine hc _ ?_; clear hc kc
          refine T_op rfl rfl fun kc hc => ?_
          simp; refine hc _ ?_; clear hc kc
          refine T_op rfl rfl fun kc hc => ?_
          simp
          cases hu4 : twiceB (c.progs.map (·.number))
          · skip
            refine CallS.dat (walk36 c.progs 37 [] (·.number) walk37 h2 hu4) (rfl) rfl rfl rfl ?_
            simp [enum]; refine hc _ ?_; clear hc kc
            refine T_end (hn _ ?_); clear hn hp kn kp
            refine T_then ?_
            refine T_seq ?_
            refine T_seq ?_
            refine T_region (is := [0, 1, 2, 3]) rfl fun kn kp hn hp => ?_
            refine T_op rfl rfl fun kc hc => ?_
            simp; refine hc _ ?_; clear hc kc
            refine T_op rfl rfl fun kc hc => ?_
            simp; refine hc _ ?_; clear hc kc
            refine T_op rfl rfl fun kc hc => ?_
            simp; refine hc _ ?_; clear hc kc
            refine T_op rfl rfl fun kc hc => ?_
            simp; refine hc _ ?_; clear hc kc
            refine T_end (hn _ ?_); clear hn hp kn kp
            refine T_then ?_
            refine T_block ?_
            refine T_loop (fun z : Nat => { sl := [(1, .ptr 0 0), (2, .ptr 1 0), (3, .ptr 2 0), (61, .dat (.sl 7 (c.progs.map progD))), (62, .dat (iD c.progs.length)), (63, .dat (iD z))], hp := [(0, .var ((catD c).map .dat)), (1, .var [.dat nilS, .dat nilS, .dat nilS, .dat nilS, .dat nilS, .dat nilS, .dat nilS]), (2, .var [.dat (iD 0)])], nx := 3, gh := [(0, .ptr 2 0)] }) (fun z => z ≤ c.progs.length ∧ (c.progs.take z).any twiceP = false) (fun z => c.progs.length - z) 0 (Ent.sub [1, 2, 3, 61, 62, 63] [0, 1, 2] (by simp [sub, subSl, subHp, place, mp, mpL, mpO, mpG])) ⟨Nat.zero_le _, rfl⟩ fun z hz => ?_
            obtain ⟨hz, hza⟩ := hz
            refine T_seq ?_
            refine T_region (is := [0]) rfl fun kn kp hn hp => ?_
            refine T_op rfl rfl fun kc hc => ?_
            simp; refine hc _ ?_; clear hc kc
            refine T_end (hn _ ?_); clear hn hp kn kp
            refine T_then ?_
            refine T_seq ?_
            refine T_cond rfl (fun b3 => ?_) (fun b3 => ?_)
            · skip
              have hz' : z < c.progs.length := by simpa using b3
              obtain ⟨p, hxp⟩ : ∃ x, c.progs[z]? = some x := ⟨_, List.getElem?_eq_getElem hz'⟩
              have ez : IntKind.i64.wrap ((z : Int) + 1) = (z : Int) + 1 := wr1 hz' (by omega)
              have hpr := (hf.reqs p (List.mem_of_getElem? hxp)).1
              refine T_skip ?_
              refine T_then ?_
              refine T_seq ?_
              refine T_block ?_
              refine T_seq ?_
              refine T_region (is := [0, 1, 2, 3]) rfl fun kn kp hn hp => ?_
              refine T_op rfl rfl fun kc hc => ?_
              simp [hxp]; refine hc _ ?_; clear hc kc
              refine T_op rfl rfl fun kc hc => ?_
              simp [hxp]; refine hc _ ?_; clear hc kc
              refine T_op rfl rfl fun kc hc => ?_
              simp; refine hc _ ?_; clear hc kc
              refine T_op rfl rfl fun kc hc => ?_
              simp; refine hc _ ?_; clear hc kc
              refine T_end (hn _ ?_); clear hn hp kn kp
              refine T_then ?_
              refine T_region (is := [0, 1, 2]) rfl fun kn kp hn hp => ?_
              refine T_op rfl rfl fun kc hc => ?_
              simp; refine hc _ ?_; clear hc kc
              refine T_op rfl rfl fun kc hc => ?_
              simp; refine hc _ ?_; clear hc kc
              refine T_op rfl rfl fun kc hc => ?_
              simp
              cases htp : twiceP p
              · skip
                refine CallS.dat (walk38 p.reqs 39 [] (·.name) walk39 hpr htp) (rfl) rfl rfl rfl ?_
                simp [enum]; refine hc _ ?_; clear hc kc
                refine T_end (hn _ ?_); clear hn hp kn kp
                refine X_blockN ?_
                refine T_then ?_
                refine T_region (is := [0, 1]) rfl fun kn kp hn hp => ?_
                refine T_op rfl rfl fun kc hc => ?_
                simp [ez]; refine hc _ ?_; clear hc kc
                refine T_op rfl rfl fun kc hc => ?_
                simp; refine hc _ ?_; clear hc kc
                refine T_end (hn _ ?_); clear hn hp kn kp
                exact X_loopN (z + 1) (Ent.sub [1, 2, 3, 61, 62, 63] [0, 1, 2] (by simp [sub, subSl, subHp, place, mp, mpL, mpO, mpG, ez])) ⟨hz', by rw [any_next hxp, hza, htp]; rfl⟩ (by omega)
              · skip
                refine CallS.pan (pan38 p.reqs 39 [] (·.name) walk39 hpr htp) (rfl) ?_
                refine hp _ _ ?_
                exact pan12 rfl rfl rfl rfl rfl (res_twice hA (by simp [twiceC, any_yes hxp htp]))
            · skip
              have hz' : z = c.progs.length := by simp at b3; omega
              have hP : c.progs.any twiceP = false := by rw [hz', List.take_length] at hza; exact hza
              clear hz hza hz'
              have w44 := walk44 (c.courses.map courseD) (by simpa using h1) (by simp)
              have w45 := walk45 (c.same.map pairD) (by simpa using h7) (by simp)
              have w46 := walk46 (c.progs.map progD) (by simpa using h2) (by simp)
              rw [List.length_map] at w44 w45 w46
              refine T_exit ?_
              refine X_thenE ?_
              refine X_loopE ?_
              refine X_hit ?_
              refine T_then ?_
              refine T_seq ?_
              refine T_region (is := [0, 1, 2]) rfl fun kn kp hn hp => ?_
              refine T_op rfl rfl fun kc hc => ?_
              simp; refine hc _ ?_; clear hc kc
              refine T_op rfl rfl fun kc hc => ?_
              simp; refine hc _ ?_; clear hc kc
              refine T_op rfl rfl fun kc hc => ?_
              simp
              cases hu5 : twiceB (c.classes.map (·.name))
              · skip
                refine CallS.dat (walk40 c.classes 41 [] (·.name) walk41 h3 hu5) (rfl) rfl rfl rfl ?_
                simp [enum]; refine hc _ ?_; clear hc kc
                refine T_end (hn _ ?_); clear hn hp kn kp
                refine T_then ?_
                refine T_seq ?_
                refine T_region (is := [0, 1, 2]) rfl fun kn kp hn hp => ?_
                refine T_op rfl rfl fun kc hc => ?_
                simp; refine hc _ ?_; clear hc kc
                refine T_op rfl rfl fun kc hc => ?_
                simp; refine hc _ ?_; clear hc kc
                refine T_op rfl rfl fun kc hc => ?_
                simp
                cases hu6 : twiceB (c.fees.map (·.name))
                · skip
                  refine CallS.dat (walk42 c.fees 43 [] (·.name) walk43 h4 hu6) (rfl) rfl rfl rfl ?_
                  simp [enum]; refine hc _ ?_; clear hc kc
                  refine T_end (hn _ ?_); clear hn hp kn kp
                  refine T_then ?_
                  refine T_seq ?_
                  refine T_region (is := [0, 1, 2]) rfl fun kn kp hn hp => ?_
                  refine T_op rfl rfl fun kc hc => ?_
                  simp; refine hc _ ?_; clear hc kc
                  refine T_op rfl rfl fun kc hc => ?_
                  simp; refine hc _ ?_; clear hc kc
                  refine T_op rfl rfl fun kc hc => ?_
                  simp
                  cases hu7 : twiceB (c.honours.map (·.name))
                  · skip
                    refine CallS.dat (walk40 c.honours 41 [] (·.name) walk41 h5 hu7) (rfl) rfl rfl rfl ?_
                    simp [enum]; refine hc _ ?_; clear hc kc
                    refine T_end (hn _ ?_); clear hn hp kn kp
                    refine T_then ?_
                    refine T_seq ?_
                    refine T_region (is := [0, 1, 2]) rfl fun kn kp hn hp => ?_
                    have hT : twiceC c = false := by simp only [twiceC, hu1, hu2, hu3, hu4, hu5, hu6, hu7, hP]; rfl
                    refine T_op rfl rfl fun kc hc => ?_
                    simp; refine hc _ ?_; clear hc kc
                    refine T_op rfl rfl fun kc hc => ?_
                    simp; refine hc _ ?_; clear hc kc
                    refine T_op rfl rfl fun kc hc => ?_
                    simp; refine hc _ ?_; clear hc kc
                    refine T_end (hn _ ?_); clear hn hp kn kp
                    refine T_then ?_
                    refine T_seqDraw (is := [0, 1, 2, 3, 4, 5, 6, 7, 8, 9, 10, 11, 12, 13, 14]) rfl (by kernel_rfl) fun kn hn => ?_
                    refine D_op rfl rfl rfl rfl fun kc hc => ?_
                    simp; refine hc _ ?_; clear hc kc
                    refine D_op rfl rfl rfl rfl fun kc hc => ?_
                    simp; refine hc _ ?_; clear hc kc
                    refine D_effc rfl rfl rfl (by simp <;> first | exact ⟨rfl, rfl⟩ | rfl) (w44) (by rfl) rfl rfl rfl fun kc hc => ?_
                    simp [enum]; refine hc _ ?_; clear hc kc
                    refine D_op rfl rfl rfl rfl fun kc hc => ?_
                    simp; refine hc _ ?_; clear hc kc
                    refine D_op rfl rfl rfl rfl fun kc hc => ?_
                    simp; refine hc _ ?_; clear hc kc
                    refine D_effc rfl rfl rfl (by simp <;> first | exact ⟨rfl, rfl⟩ | rfl) (w45) (by rfl) rfl rfl rfl fun kc hc => ?_
                    simp [enum]; refine hc _ ?_; clear hc kc
                    refine D_op rfl rfl rfl rfl fun kc hc => ?_
                    simp; refine hc _ ?_; clear hc kc
                    refine D_op rfl rfl rfl rfl fun kc hc => ?_
                    simp; refine hc _ ?_; clear hc kc
                    refine D_effc rfl rfl rfl (by simp <;> first | exact ⟨rfl, rfl⟩ | rfl) (w46) (by rfl) rfl rfl rfl fun kc hc => ?_
                    simp [enum]; refine hc _ ?_; clear hc kc
                    refine D_op rfl rfl rfl rfl fun kc hc => ?_
                    simp; refine hc _ ?_; clear hc kc
                    refine D_eff [3] rfl rfl rfl fun kc hc => ?_
                    simp
                    refine hc _ (fun b hb => by simp at hb; simp [lk, hb]) ?_; clear hc kc
                    refine D_op rfl rfl rfl rfl fun kc hc => ?_
                    simp; refine hc _ ?_; clear hc kc
                    refine D_eff [3] rfl rfl rfl fun kc hc => ?_
                    simp
                    refine hc _ (fun b hb => by simp at hb; simp [lk, hb]) ?_; clear hc kc
                    refine D_op rfl rfl rfl rfl fun kc hc => ?_
                    simp; refine hc _ ?_; clear hc kc
                    refine D_eff [3] rfl rfl rfl fun kc hc => ?_
                    simp
                    refine hc _ (fun b hb => by simp at hb; simp [lk, hb]) ?_; clear hc kc
                    refine D_end rfl (by kernel_rfl) (hn _ ?_); clear hn kn
                    refine T_seq ?_
                    refine T_seq ?_
                    refine T_region (is := [0, 1, 2, 3]) rfl fun kn kp hn hp => ?_
                    refine T_op rfl rfl fun kc hc => ?_
                    simp; refine hc _ ?_; clear hc kc
                    refine T_op rfl rfl fun kc hc => ?_
                    simp; refine hc _ ?_; clear hc kc
                    refine T_op rfl rfl fun kc hc => ?_
                    simp; refine hc _ ?_; clear hc kc
                    refine T_op rfl rfl fun kc hc => ?_
                    simp; refine hc _ ?_; clear hc kc
                    refine T_end (hn _ ?_); clear hn hp kn kp
                    refine T_then ?_
                    refine T_block ?_
                    refine T_loop (fun z : Nat => { sl := [(1, .ptr 0 0), (2, .ptr 1 0), (3, .ptr 2 0), (10, .ptr 3 0), (95, .dat (iD c.courses.length)), (96, .dat (iD z))], hp := [(0, .var ((catD c).map .dat)), (1, .var [.dat nilS, .dat nilS, .dat nilS, .dat nilS, .dat nilS, .dat nilS, .dat nilS]), (2, .var [.dat (iD 0)]), (3, .var [.own 4 16 c.courses.length, .own 5 4 c.same.length, .own 6 7 c.progs.length, .dat (.sl 4 (c.classes.map classD)), .dat (.sl 2 (c.fees.map feeD)), .dat (.sl 4 (c.honours.map classD)), .dat (.sl 4 (c.clauses.map clauseD))]), (4, .row 41 16 (halfD courseD (mapX (courseX c) c.courses).1 c.courses z)), (5, .row 51 4 (c.same.map pairD)), (6, .row 62 7 (c.progs.map progD))], nx := 7, gh := [(0, .ptr 2 0)] }) (fun z => z ≤ c.courses.length ∧ (mapX (courseX c) (c.courses.take z)).2 = true) (fun z => c.courses.length - z) 0 (Ent.sub [1, 2, 3, 10, 95, 96] [0, 1, 2, 3, 4, 5, 6] (by simp [sub, subSl, subHp, place, mp, mpL, mpO, mpG, halfD_zero])) ⟨Nat.zero_le _, rfl⟩ fun z hz => ?_
                    obtain ⟨hz, hzg⟩ := hz
                    refine T_seq ?_
                    refine T_region (is := [0]) rfl fun kn kp hn hp => ?_
                    refine T_op rfl rfl fun kc hc => ?_
                    simp; refine hc _ ?_; clear hc kc
                    refine T_end (hn _ ?_); clear hn hp kn kp
                    refine T_then ?_
                    refine T_seq ?_
                    refine T_cond rfl (fun b4 => ?_) (fun b4 => ?_)
                    · skip
                      have hz' : z < c.courses.length := by simpa using b4
                      obtain ⟨y, hxy⟩ : ∃ x, c.courses[z]? = some x := ⟨_, List.getElem?_eq_getElem hz'⟩
                      have ez : IntKind.i64.wrap ((z : Int) + 1) = (z : Int) + 1 := wr1 hz' (by omega)
                      have hyn := hf.need y (List.mem_of_getElem? hxy)
                      have hy1 := mapX_get (f := courseX c) hxy
                      have hxl := mapX_len (courseX c) c.courses
                      have hgl := halfD_len (f := courseD) (a := (mapX (courseX c) c.courses).1) (b := c.courses) (by omega) hz
                      have hgg := halfD_get (f := courseD) (a := (mapX (courseX c) c.courses).1) (by omega) hxy
                      have hset := halfD_set (f := courseD) hy1 hz'
                      simp only [courseX] at hset
                      refine T_skip ?_
                      refine T_then ?_
                      refine T_seq ?_
                      refine T_block ?_
                      refine T_seq ?_
                      refine T_region (is := [0, 1]) rfl fun kn kp hn hp => ?_
                      refine T_op rfl rfl fun kc hc => ?_
                      simp; refine hc _ ?_; clear hc kc
                      refine T_op rfl rfl fun kc hc => ?_
                      simp; refine hc _ ?_; clear hc kc
                      refine T_end (hn _ ?_); clear hn hp kn kp
                      refine T_then ?_
                      rcases (show (ruleR c y.need).2 = false ∨ ((ruleR c y.need).2 = true ∧ (ruleR c y.bar).2 = false) ∨ ((ruleR c y.need).2 = true ∧ (ruleR c y.bar).2 = true) by cases (ruleR c y.need).2 <;> cases (ruleR c y.bar).2 <;> simp) with hr1 | ⟨hr1, hr2⟩ | ⟨hr1, hr2⟩
                      · skip
                        refine T_drawPan 13 (thrown 110) [2, 3] (is := [0, 1, 2, 3, 4, 5, 6, 7, 8, 9, 10, 11, 12, 13, 14, 15, 16, 17, 18, 19, 20, 21, 22, 23, 24, 25, 26, 27]) rfl rfl rfl (by kernel_rfl) fun pq hpq => ?_
                        refine D_op rfl rfl rfl rfl fun kc hc => ?_
                        simp; refine hc _ ?_; clear hc kc
                        refine D_op rfl rfl rfl rfl fun kc hc => ?_
                        simp; refine hc _ ?_; clear hc kc
                        refine D_op rfl rfl rfl rfl fun kc hc => ?_
                        simp; refine hc _ ?_; clear hc kc
                        refine D_op rfl rfl rfl rfl fun kc hc => ?_
                        simp; refine hc _ ?_; clear hc kc
                        refine D_op rfl rfl rfl rfl fun kc hc => ?_
                        simp; refine hc _ ?_; clear hc kc
                        refine D_op rfl rfl rfl rfl fun kc hc => ?_
                        simp; refine hc _ ?_; clear hc kc
                        refine D_op rfl rfl rfl rfl fun kc hc => ?_
                        simp; refine hc _ ?_; clear hc kc
                        refine D_op rfl rfl rfl rfl fun kc hc => ?_
                        simp; refine hc _ ?_; clear hc kc
                        refine D_op rfl rfl rfl rfl fun kc hc => ?_
                        simp; refine hc _ ?_; clear hc kc
                        refine D_op rfl rfl rfl rfl fun kc hc => ?_
                        simp; refine hc _ ?_; clear hc kc
                        refine D_op rfl rfl rfl rfl fun kc hc => ?_
                        simp [hxy]; refine hc _ ?_; clear hc kc
                        refine D_op rfl rfl rfl rfl fun kc hc => ?_
                        simp; refine hc _ ?_; clear hc kc
                        refine D_op rfl rfl rfl rfl fun kc hc => ?_
                        simp; refine hc _ ?_; clear hc kc
                        refine D_pan rfl rfl rfl rfl ⟨_, _, _, by simp <;> first | exact ⟨rfl, rfl⟩ | rfl, pan47 c y.need h1 hyn.1 (rule_none hr1), by rfl⟩ (hpq _ _ fun s1 e1 e2 e3 e4 e5 => ?_) ?_
                        · skip
                          exact pan12 e1 (by rw [e3]; rfl) (by rw [e3]; rfl) ((e5 2 (by simp)).trans rfl) ((e5 3 (by simp)).trans rfl) (res_name hA hT (bad_course hxy (.inl hr1)))
                        refine D_op rfl rfl rfl rfl fun kc hc => ?_
                        simp; refine hc _ ?_; clear hc kc
                        refine D_op rfl rfl rfl rfl fun kc hc => ?_
                        simp; refine hc _ ?_; clear hc kc
                        refine D_op rfl rfl rfl rfl fun kc hc => ?_
                        simp; refine hc _ ?_; clear hc kc
                        refine D_op rfl rfl rfl rfl fun kc hc => ?_
                        simp; refine hc _ ?_; clear hc kc
                        refine D_op rfl rfl rfl rfl fun kc hc => ?_
                        simp [hxy]; refine hc _ ?_; clear hc kc
                        refine D_op rfl rfl rfl rfl fun kc hc => ?_
                        simp; refine hc _ ?_; clear hc kc
                        refine D_op rfl rfl rfl rfl fun kc hc => ?_
                        simp; refine hc _ ?_; clear hc kc
                        refine D_skip rfl rfl ?_
                        refine D_skip rfl rfl ?_
                        refine D_skip rfl rfl ?_
                        refine D_skip rfl rfl ?_
                        refine D_skip rfl rfl ?_
                        refine D_skip rfl rfl ?_
                        refine D_skip rfl rfl ?_
                        exact D_end rfl (by kernel_rfl) trivial
                      · skip
                        refine T_drawPan 21 (thrown 110) [2, 3] (is := [0, 1, 2, 3, 4, 5, 6, 7, 8, 9, 10, 11, 12, 13, 14, 15, 16, 17, 18, 19, 20, 21, 22, 23, 24, 25, 26, 27]) rfl rfl rfl (by kernel_rfl) fun pq hpq => ?_
                        refine D_op rfl rfl rfl rfl fun kc hc => ?_
                        simp; refine hc _ ?_; clear hc kc
                        refine D_op rfl rfl rfl rfl fun kc hc => ?_
                        simp; refine hc _ ?_; clear hc kc
                        refine D_op rfl rfl rfl rfl fun kc hc => ?_
                        simp; refine hc _ ?_; clear hc kc
                        refine D_op rfl rfl rfl rfl fun kc hc => ?_
                        simp; refine hc _ ?_; clear hc kc
                        refine D_op rfl rfl rfl rfl fun kc hc => ?_
                        simp; refine hc _ ?_; clear hc kc
                        refine D_op rfl rfl rfl rfl fun kc hc => ?_
                        simp; refine hc _ ?_; clear hc kc
                        refine D_op rfl rfl rfl rfl fun kc hc => ?_
                        simp; refine hc _ ?_; clear hc kc
                        refine D_op rfl rfl rfl rfl fun kc hc => ?_
                        simp; refine hc _ ?_; clear hc kc
                        refine D_op rfl rfl rfl rfl fun kc hc => ?_
                        simp; refine hc _ ?_; clear hc kc
                        refine D_op rfl rfl rfl rfl fun kc hc => ?_
                        simp; refine hc _ ?_; clear hc kc
                        refine D_op rfl rfl rfl rfl fun kc hc => ?_
                        simp [hxy]; refine hc _ ?_; clear hc kc
                        refine D_op rfl rfl rfl rfl fun kc hc => ?_
                        simp; refine hc _ ?_; clear hc kc
                        refine D_op rfl rfl rfl rfl fun kc hc => ?_
                        simp; refine hc _ ?_; clear hc kc
                        refine D_call rfl rfl rfl (by simp <;> first | exact ⟨rfl, rfl⟩ | rfl) (walk47 c y.need _ h1 hyn.1 (rule_some hr1)) (by rfl) rfl fun kc hc => ?_
                        simp [enum]; refine hc _ ?_; clear hc kc
                        refine D_op rfl rfl rfl rfl fun kc hc => ?_
                        simp; refine hc _ ?_; clear hc kc
                        refine D_op rfl rfl rfl rfl fun kc hc => ?_
                        simp; refine hc _ ?_; clear hc kc
                        refine D_op rfl rfl rfl rfl fun kc hc => ?_
                        simp; refine hc _ ?_; clear hc kc
                        refine D_op rfl rfl rfl rfl fun kc hc => ?_
                        simp; refine hc _ ?_; clear hc kc
                        refine D_op rfl rfl rfl rfl fun kc hc => ?_
                        simp [hxy]; refine hc _ ?_; clear hc kc
                        refine D_op rfl rfl rfl rfl fun kc hc => ?_
                        simp; refine hc _ ?_; clear hc kc
                        refine D_op rfl rfl rfl rfl fun kc hc => ?_
                        simp; refine hc _ ?_; clear hc kc
                        refine D_pan rfl rfl rfl rfl ⟨_, _, _, by simp <;> first | exact ⟨rfl, rfl⟩ | rfl, pan47 c y.bar h1 hyn.2 (rule_none hr2), by rfl⟩ (hpq _ _ fun s1 e1 e2 e3 e4 e5 => ?_) ?_
                        · skip
                          exact pan12 e1 (by rw [e3]; rfl) (by rw [e3]; rfl) ((e5 2 (by simp)).trans rfl) ((e5 3 (by simp)).trans rfl) (res_name hA hT (bad_course hxy (.inr hr2)))
                        refine D_skip rfl rfl ?_
                        refine D_skip rfl rfl ?_
                        refine D_skip rfl rfl ?_
                        refine D_skip rfl rfl ?_
                        refine D_skip rfl rfl ?_
                        refine D_skip rfl rfl ?_
                        exact D_end rfl (by kernel_rfl) trivial
                      · skip
                        refine T_draw' (is := [0, 1, 2, 3, 4, 5, 6, 7, 8, 9, 10, 11, 12, 13, 14, 15, 16, 17, 18, 19, 20, 21, 22, 23, 24, 25, 26, 27]) rfl (by kernel_rfl) (fun _ _ hE h => T_ent hE h) fun kn hn => ?_
                        refine D_op rfl rfl rfl rfl fun kc hc => ?_
                        simp; refine hc _ ?_; clear hc kc
                        refine D_op rfl rfl rfl rfl fun kc hc => ?_
                        simp; refine hc _ ?_; clear hc kc
                        refine D_op rfl rfl rfl rfl fun kc hc => ?_
                        simp; refine hc _ ?_; clear hc kc
                        refine D_op rfl rfl rfl rfl fun kc hc => ?_
                        simp; refine hc _ ?_; clear hc kc
                        refine D_op rfl rfl rfl rfl fun kc hc => ?_
                        simp; refine hc _ ?_; clear hc kc
                        refine D_op rfl rfl rfl rfl fun kc hc => ?_
                        simp; refine hc _ ?_; clear hc kc
                        refine D_op rfl rfl rfl rfl fun kc hc => ?_
                        simp; refine hc _ ?_; clear hc kc
                        refine D_op rfl rfl rfl rfl fun kc hc => ?_
                        simp; refine hc _ ?_; clear hc kc
                        refine D_op rfl rfl rfl rfl fun kc hc => ?_
                        simp; refine hc _ ?_; clear hc kc
                        refine D_op rfl rfl rfl rfl fun kc hc => ?_
                        simp; refine hc _ ?_; clear hc kc
                        refine D_op rfl rfl rfl rfl fun kc hc => ?_
                        simp [hxy]; refine hc _ ?_; clear hc kc
                        refine D_op rfl rfl rfl rfl fun kc hc => ?_
                        simp; refine hc _ ?_; clear hc kc
                        refine D_op rfl rfl rfl rfl fun kc hc => ?_
                        simp; refine hc _ ?_; clear hc kc
                        refine D_call rfl rfl rfl (by simp <;> first | exact ⟨rfl, rfl⟩ | rfl) (walk47 c y.need _ h1 hyn.1 (rule_some hr1)) (by rfl) rfl fun kc hc => ?_
                        simp [enum]; refine hc _ ?_; clear hc kc
                        refine D_op rfl rfl rfl rfl fun kc hc => ?_
                        simp; refine hc _ ?_; clear hc kc
                        refine D_op rfl rfl rfl rfl fun kc hc => ?_
                        simp; refine hc _ ?_; clear hc kc
                        refine D_op rfl rfl rfl rfl fun kc hc => ?_
                        simp; refine hc _ ?_; clear hc kc
                        refine D_op rfl rfl rfl rfl fun kc hc => ?_
                        simp; refine hc _ ?_; clear hc kc
                        refine D_op rfl rfl rfl rfl fun kc hc => ?_
                        simp [hxy]; refine hc _ ?_; clear hc kc
                        refine D_op rfl rfl rfl rfl fun kc hc => ?_
                        simp; refine hc _ ?_; clear hc kc
                        refine D_op rfl rfl rfl rfl fun kc hc => ?_
                        simp; refine hc _ ?_; clear hc kc
                        refine D_call rfl rfl rfl (by simp <;> first | exact ⟨rfl, rfl⟩ | rfl) (walk47 c y.bar _ h1 hyn.2 (rule_some hr2)) (by rfl) rfl fun kc hc => ?_
                        simp [enum]; refine hc _ ?_; clear hc kc
                        refine D_op rfl rfl rfl rfl fun kc hc => ?_
                        simp [hz', hgl]; refine hc _ ?_; clear hc kc
                        refine D_op rfl rfl rfl rfl fun kc hc => ?_
                        simp [hz', hgl]; refine hc _ ?_; clear hc kc
                        refine D_eff [4] rfl rfl rfl fun kc hc => ?_
                        simp [hgg]
                        refine hc _ (fun b hb => by simp at hb; simp [lk, hb]) ?_; clear hc kc
                        refine D_op rfl rfl rfl rfl fun kc hc => ?_
                        simp [hz', hgl]; refine hc _ ?_; clear hc kc
                        refine D_op rfl rfl rfl rfl fun kc hc => ?_
                        simp [hz', hgl]; refine hc _ ?_; clear hc kc
                        refine D_eff [4] rfl rfl rfl fun kc hc => ?_
                        simp [hgg, hgl, hz']
                        refine hc _ (fun b hb => by simp at hb; simp [lk, hb]) ?_; clear hc kc
                        refine D_end rfl (by kernel_rfl) (hn _ ?_); clear hn kn
                        refine X_blockN ?_
                        refine T_then ?_
                        refine T_region (is := [0, 1]) rfl fun kn kp hn hp => ?_
                        refine T_op rfl rfl fun kc hc => ?_
                        simp [ez]; refine hc _ ?_; clear hc kc
                        refine T_op rfl rfl fun kc hc => ?_
                        simp; refine hc _ ?_; clear hc kc
                        refine T_end (hn _ ?_); clear hn hp kn kp
                        exact X_loopN (z + 1) (Ent.sub [1, 2, 3, 10, 95, 96] [0, 1, 2, 3, 4, 5, 6] (by simp [sub, subSl, subHp, place, mp, mpL, mpO, mpG, ez, List.set_set, hset])) ⟨hz', by rw [mapX_next hxy]; simp [hzg, courseX, hr1, hr2]⟩ (by omega)
                    · skip
                      have hz' : z = c.courses.length := by simp at b4; omega
                      have hGc : (mapX (courseX c) c.courses).2 = true := by rw [hz', List.take_length] at hzg; exact hzg
                      clear hzg
                      subst hz'
                      have hce := halfD_end (f := courseD) (mapX_len (courseX c) c.courses)
                      refine T_exit ?_
                      refine X_thenE ?_
                      refine X_loopE ?_
                      refine X_hit ?_
                      refine T_then ?_
                      refine T_seq ?_
                      refine T_seq ?_
                      refine T_region (is := [0, 1, 2, 3]) rfl fun kn kp hn hp => ?_
                      refine T_op rfl rfl fun kc hc => ?_
                      simp; refine hc _ ?_; clear hc kc
                      refine T_op rfl rfl fun kc hc => ?_
                      simp; refine hc _ ?_; clear hc kc
                      refine T_op rfl rfl fun kc hc => ?_
                      simp; refine hc _ ?_; clear hc kc
                      refine T_op rfl rfl fun kc hc => ?_
                      simp; refine hc _ ?_; clear hc kc
                      refine T_end (hn _ ?_); clear hn hp kn kp
                      refine T_then ?_
                      refine T_block ?_
                      refine T_loop (fun z : Nat => { sl := [(1, .ptr 0 0), (2, .ptr 1 0), (3, .ptr 2 0), (10, .ptr 3 0), (127, .own 5 4 c.same.length), (128, .dat (iD c.same.length)), (129, .dat (iD z))], hp := [(0, .var ((catD c).map .dat)), (1, .var [.dat nilS, .dat nilS, .dat nilS, .dat nilS, .dat nilS, .dat nilS, .dat nilS]), (2, .var [.dat (iD 0)]), (3, .var [.own 4 16 c.courses.length, .own 5 4 c.same.length, .own 6 7 c.progs.length, .dat (.sl 4 (c.classes.map classD)), .dat (.sl 2 (c.fees.map feeD)), .dat (.sl 4 (c.honours.map classD)), .dat (.sl 4 (c.clauses.map clauseD))]), (4, .row 41 16 ((mapX (courseX c) c.courses).1.map courseD)), (5, .row 51 4 (halfD pairD (mapX (pairX c) c.same).1 c.same z)), (6, .row 62 7 (c.progs.map progD))], nx := 7, gh := [(0, .ptr 2 0)] }) (fun z => z ≤ c.same.length ∧ (mapX (pairX c) (c.same.take z)).2 = true) (fun z => c.same.length - z) 0 (Ent.sub [1, 2, 3, 10, 127, 128, 129] [0, 1, 2, 3, 4, 5, 6] (by simp [sub, subSl, subHp, place, mp, mpL, mpO, mpG, halfD_zero, hce])) ⟨Nat.zero_le _, rfl⟩ fun z hz => ?_
                      obtain ⟨hz, hzg⟩ := hz
                      refine T_seq ?_
                      refine T_region (is := [0]) rfl fun kn kp hn hp => ?_
                      refine T_op rfl rfl fun kc hc => ?_
                      simp; refine hc _ ?_; clear hc kc
                      refine T_end (hn _ ?_); clear hn hp kn kp
                      refine T_then ?_
                      refine T_seq ?_
                      refine T_cond rfl (fun b5 => ?_) (fun b5 => ?_)
                      · skip
                        have hz' : z < c.same.length := by simpa using b5
                        obtain ⟨s, hxs⟩ : ∃ x, c.same[z]? = some x := ⟨_, List.getElem?_eq_getElem hz'⟩
                        have ez : IntKind.i64.wrap ((z : Int) + 1) = (z : Int) + 1 := wr1 hz' (by omega)
                        have hy1 := mapX_get (f := pairX c) hxs
                        have hxl := mapX_len (pairX c) c.same
                        have hgl := halfD_len (f := pairD) (a := (mapX (pairX c) c.same).1) (b := c.same) (by omega) hz
                        have hgg := halfD_get (f := pairD) (a := (mapX (pairX c) c.same).1) (by omega) hxs
                        have hset := halfD_set (f := pairD) hy1 hz'
                        simp only [pairX] at hset
                        refine T_skip ?_
                        refine T_then ?_
                        refine T_seq ?_
                        refine T_block ?_
                        refine T_seq ?_
                        refine T_region (is := [0, 1, 2, 3, 4, 5]) rfl fun kn kp hn hp => ?_
                        refine T_op rfl rfl fun kc hc => ?_
                        simp; refine hc _ ?_; clear hc kc
                        refine T_op rfl rfl fun kc hc => ?_
                        simp [hz', hgl]; refine hc _ ?_; clear hc kc
                        refine T_op rfl rfl fun kc hc => ?_
                        simp [hgg]; refine hc _ ?_; clear hc kc
                        refine T_op rfl rfl fun kc hc => ?_
                        simp; refine hc _ ?_; clear hc kc
                        refine T_op rfl rfl fun kc hc => ?_
                        simp; refine hc _ ?_; clear hc kc
                        refine T_op rfl rfl fun kc hc => ?_
                        simp; refine hc _ ?_; clear hc kc
                        refine T_end (hn _ ?_); clear hn hp kn kp
                        refine T_then ?_
                        rcases (show (numberR c s.a s.x).2 = false ∨ ((numberR c s.a s.x).2 = true ∧ (numberR c s.b s.y).2 = false) ∨ ((numberR c s.a s.x).2 = true ∧ (numberR c s.b s.y).2 = true) by cases (numberR c s.a s.x).2 <;> cases (numberR c s.b s.y).2 <;> simp) with hr1 | ⟨hr1, hr2⟩ | ⟨hr1, hr2⟩
                        · skip
                          refine T_drawPan 11 (thrown 110) [2, 3] (is := [0, 1, 2, 3, 4, 5, 6, 7, 8, 9, 10, 11, 12, 13, 14, 15, 16, 17, 18, 19, 20, 21, 22, 23]) rfl rfl rfl (by kernel_rfl) fun pq hpq => ?_
                          refine D_op rfl rfl rfl rfl fun kc hc => ?_
                          simp; refine hc _ ?_; clear hc kc
                          refine D_op rfl rfl rfl rfl fun kc hc => ?_
                          simp; refine hc _ ?_; clear hc kc
                          refine D_op rfl rfl rfl rfl fun kc hc => ?_
                          simp; refine hc _ ?_; clear hc kc
                          refine D_op rfl rfl rfl rfl fun kc hc => ?_
                          simp; refine hc _ ?_; clear hc kc
                          refine D_op rfl rfl rfl rfl fun kc hc => ?_
                          simp; refine hc _ ?_; clear hc kc
                          refine D_op rfl rfl rfl rfl fun kc hc => ?_
                          simp; refine hc _ ?_; clear hc kc
                          refine D_op rfl rfl rfl rfl fun kc hc => ?_
                          simp; refine hc _ ?_; clear hc kc
                          refine D_op rfl rfl rfl rfl fun kc hc => ?_
                          simp; refine hc _ ?_; clear hc kc
                          refine D_op rfl rfl rfl rfl fun kc hc => ?_
                          simp; refine hc _ ?_; clear hc kc
                          refine D_op rfl rfl rfl rfl fun kc hc => ?_
                          simp; refine hc _ ?_; clear hc kc
                          refine D_op rfl rfl rfl rfl fun kc hc => ?_
                          simp; refine hc _ ?_; clear hc kc
                          refine D_pan rfl rfl rfl rfl ⟨_, _, _, by simp <;> first | exact ⟨rfl, rfl⟩ | rfl, pan48 c s.a s.x (num_none hr1) (by omega), by rfl⟩ (hpq _ _ fun s1 e1 e2 e3 e4 e5 => ?_) ?_
                          · skip
                            exact pan12 e1 (by rw [e3]; rfl) (by rw [e3]; rfl) ((e5 2 (by simp)).trans rfl) ((e5 3 (by simp)).trans rfl) (res_name hA hT (bad_pair hxs (.inl hr1)))
                          refine D_op rfl rfl rfl rfl fun kc hc => ?_
                          simp; refine hc _ ?_; clear hc kc
                          refine D_op rfl rfl rfl rfl fun kc hc => ?_
                          simp; refine hc _ ?_; clear hc kc
                          refine D_op rfl rfl rfl rfl fun kc hc => ?_
                          simp; refine hc _ ?_; clear hc kc
                          refine D_op rfl rfl rfl rfl fun kc hc => ?_
                          simp; refine hc _ ?_; clear hc kc
                          refine D_op rfl rfl rfl rfl fun kc hc => ?_
                          simp; refine hc _ ?_; clear hc kc
                          refine D_skip rfl rfl ?_
                          refine D_skip rfl rfl ?_
                          refine D_skip rfl rfl ?_
                          refine D_skip rfl rfl ?_
                          refine D_skip rfl rfl ?_
                          refine D_skip rfl rfl ?_
                          refine D_skip rfl rfl ?_
                          exact D_end rfl (by kernel_rfl) trivial
                        · skip
                          refine T_drawPan 17 (thrown 110) [2, 3] (is := [0, 1, 2, 3, 4, 5, 6, 7, 8, 9, 10, 11, 12, 13, 14, 15, 16, 17, 18, 19, 20, 21, 22, 23]) rfl rfl rfl (by kernel_rfl) fun pq hpq => ?_
                          refine D_op rfl rfl rfl rfl fun kc hc => ?_
                          simp; refine hc _ ?_; clear hc kc
                          refine D_op rfl rfl rfl rfl fun kc hc => ?_
                          simp; refine hc _ ?_; clear hc kc
                          refine D_op rfl rfl rfl rfl fun kc hc => ?_
                          simp; refine hc _ ?_; clear hc kc
                          refine D_op rfl rfl rfl rfl fun kc hc => ?_
                          simp; refine hc _ ?_; clear hc kc
                          refine D_op rfl rfl rfl rfl fun kc hc => ?_
                          simp; refine hc _ ?_; clear hc kc
                          refine D_op rfl rfl rfl rfl fun kc hc => ?_
                          simp; refine hc _ ?_; clear hc kc
                          refine D_op rfl rfl rfl rfl fun kc hc => ?_
                          simp; refine hc _ ?_; clear hc kc
                          refine D_op rfl rfl rfl rfl fun kc hc => ?_
                          simp; refine hc _ ?_; clear hc kc
                          refine D_op rfl rfl rfl rfl fun kc hc => ?_
                          simp; refine hc _ ?_; clear hc kc
                          refine D_op rfl rfl rfl rfl fun kc hc => ?_
                          simp; refine hc _ ?_; clear hc kc
                          refine D_op rfl rfl rfl rfl fun kc hc => ?_
                          simp; refine hc _ ?_; clear hc kc
                          refine D_call rfl rfl rfl (by simp <;> first | exact ⟨rfl, rfl⟩ | rfl) (walk48 c s.a s.x _ (num_some hr1) (by omega)) (by rfl) rfl fun kc hc => ?_
                          simp [enum]; refine hc _ ?_; clear hc kc
                          refine D_op rfl rfl rfl rfl fun kc hc => ?_
                          simp; refine hc _ ?_; clear hc kc
                          refine D_op rfl rfl rfl rfl fun kc hc => ?_
                          simp; refine hc _ ?_; clear hc kc
                          refine D_op rfl rfl rfl rfl fun kc hc => ?_
                          simp; refine hc _ ?_; clear hc kc
                          refine D_op rfl rfl rfl rfl fun kc hc => ?_
                          simp; refine hc _ ?_; clear hc kc
                          refine D_op rfl rfl rfl rfl fun kc hc => ?_
                          simp; refine hc _ ?_; clear hc kc
                          refine D_pan rfl rfl rfl rfl ⟨_, _, _, by simp <;> first | exact ⟨rfl, rfl⟩ | rfl, pan48 c s.b s.y (num_none hr2) (by omega), by rfl⟩ (hpq _ _ fun s1 e1 e2 e3 e4 e5 => ?_) ?_
                          · skip
                            exact pan12 e1 (by rw [e3]; rfl) (by rw [e3]; rfl) ((e5 2 (by simp)).trans rfl) ((e5 3 (by simp)).trans rfl) (res_name hA hT (bad_pair hxs (.inr hr2)))
                          refine D_skip rfl rfl ?_
                          refine D_skip rfl rfl ?_
                          refine D_skip rfl rfl ?_
                          refine D_skip rfl rfl ?_
                          refine D_skip rfl rfl ?_
                          refine D_skip rfl rfl ?_
                          exact D_end rfl (by kernel_rfl) trivial
                        · skip
                          refine T_draw' (is := [0, 1, 2, 3, 4, 5, 6, 7, 8, 9, 10, 11, 12, 13, 14, 15, 16, 17, 18, 19, 20, 21, 22, 23]) rfl (by kernel_rfl) (fun _ _ hE h => T_ent hE h) fun kn hn => ?_
                          refine D_op rfl rfl rfl rfl fun kc hc => ?_
                          simp; refine hc _ ?_; clear hc kc
                          refine D_op rfl rfl rfl rfl fun kc hc => ?_
                          simp; refine hc _ ?_; clear hc kc
                          refine D_op rfl rfl rfl rfl fun kc hc => ?_
                          simp; refine hc _ ?_; clear hc kc
                          refine D_op rfl rfl rfl rfl fun kc hc => ?_
                          simp; refine hc _ ?_; clear hc kc
                          refine D_op rfl rfl rfl rfl fun kc hc => ?_
                          simp; refine hc _ ?_; clear hc kc
                          refine D_op rfl rfl rfl rfl fun kc hc => ?_
                          simp; refine hc _ ?_; clear hc kc
                          refine D_op rfl rfl rfl rfl fun kc hc => ?_
                          simp; refine hc _ ?_; clear hc kc
                          refine D_op rfl rfl rfl rfl fun kc hc => ?_
                          simp; refine hc _ ?_; clear hc kc
                          refine D_op rfl rfl rfl rfl fun kc hc => ?_
                          simp; refine hc _ ?_; clear hc kc
                          refine D_op rfl rfl rfl rfl fun kc hc => ?_
                          simp; refine hc _ ?_; clear hc kc
                          refine D_op rfl rfl rfl rfl fun kc hc => ?_
                          simp; refine hc _ ?_; clear hc kc
                          refine D_call rfl rfl rfl (by simp <;> first | exact ⟨rfl, rfl⟩ | rfl) (walk48 c s.a s.x _ (num_some hr1) (by omega)) (by rfl) rfl fun kc hc => ?_
                          simp [enum]; refine hc _ ?_; clear hc kc
                          refine D_op rfl rfl rfl rfl fun kc hc => ?_
                          simp; refine hc _ ?_; clear hc kc
                          refine D_op rfl rfl rfl rfl fun kc hc => ?_
                          simp; refine hc _ ?_; clear hc kc
                          refine D_op rfl rfl rfl rfl fun kc hc => ?_
                          simp; refine hc _ ?_; clear hc kc
                          refine D_op rfl rfl rfl rfl fun kc hc => ?_
                          simp; refine hc _ ?_; clear hc kc
                          refine D_op rfl rfl rfl rfl fun kc hc => ?_
                          simp; refine hc _ ?_; clear hc kc
                          refine D_call rfl rfl rfl (by simp <;> first | exact ⟨rfl, rfl⟩ | rfl) (walk48 c s.b s.y _ (num_some hr2) (by omega)) (by rfl) rfl fun kc hc => ?_
                          simp [enum]; refine hc _ ?_; clear hc kc
                          refine D_op rfl rfl rfl rfl fun kc hc => ?_
                          simp [hz', hgl]; refine hc _ ?_; clear hc kc
                          refine D_op rfl rfl rfl rfl fun kc hc => ?_
                          simp [hz', hgl]; refine hc _ ?_; clear hc kc
                          refine D_eff [5] rfl rfl rfl fun kc hc => ?_
                          simp [hgg]
                          refine hc _ (fun b hb => by simp at hb; simp [lk, hb]) ?_; clear hc kc
                          refine D_op rfl rfl rfl rfl fun kc hc => ?_
                          simp [hz', hgl]; refine hc _ ?_; clear hc kc
                          refine D_op rfl rfl rfl rfl fun kc hc => ?_
                          simp [hz', hgl]; refine hc _ ?_; clear hc kc
                          refine D_eff [5] rfl rfl rfl fun kc hc => ?_
                          simp [hgg, hgl, hz']
                          refine hc _ (fun b hb => by simp at hb; simp [lk, hb]) ?_; clear hc kc
                          refine D_end rfl (by kernel_rfl) (hn _ ?_); clear hn kn
                          refine X_blockN ?_
                          refine T_then ?_
                          refine T_region (is := [0, 1]) rfl fun kn kp hn hp => ?_
                          refine T_op rfl rfl fun kc hc => ?_
                          simp [ez]; refine hc _ ?_; clear hc kc
                          refine T_op rfl rfl fun kc hc => ?_
                          simp; refine hc _ ?_; clear hc kc
                          refine T_end (hn _ ?_); clear hn hp kn kp
                          exact X_loopN (z + 1) (Ent.sub [1, 2, 3, 10, 127, 128, 129] [0, 1, 2, 3, 4, 5, 6] (by simp [sub, subSl, subHp, place, mp, mpL, mpO, mpG, ez, List.set_set, hset])) ⟨hz', by rw [mapX_next hxs]; simp [hzg, pairX, hr1, hr2]⟩ (by omega)
                      · skip
                        have hz' : z = c.same.length := by simp at b5; omega
                        have hGs : (mapX (pairX c) c.same).2 = true := by rw [hz', List.take_length] at hzg; exact hzg
                        clear hzg
                        subst hz'
                        have hse := halfD_end (f := pairD) (mapX_len (pairX c) c.same)
                        refine T_exit ?_
                        refine X_thenE ?_
                        refine X_loopE ?_
                        refine X_hit ?_
                        refine T_then ?_
                        refine T_seq ?_
                        refine T_seq ?_
                        refine T_region (is := [0, 1, 2, 3]) rfl fun kn kp hn hp => ?_
                        refine T_op rfl rfl fun kc hc => ?_
                        simp; refine hc _ ?_; clear hc kc
                        refine T_op rfl rfl fun kc hc => ?_
                        simp; refine hc _ ?_; clear hc kc
                        refine T_op rfl rfl fun kc hc => ?_
                        simp; refine hc _ ?_; clear hc kc
                        refine T_op rfl rfl fun kc hc => ?_
                        simp; refine hc _ ?_; clear hc kc
                        refine T_end (hn _ ?_); clear hn hp kn kp
                        refine T_then ?_
                        refine T_block ?_
                        refine T_loop (fun u : Nat => { sl := [(1, .ptr 0 0), (2, .ptr 1 0), (3, .ptr 2 0), (10, .ptr 3 0), (158, .own 6 7 c.progs.length), (159, .dat (iD c.progs.length)), (160, .dat (iD u))], hp := [(0, .var ((catD c).map .dat)), (1, .var [.dat nilS, .dat nilS, .dat nilS, .dat nilS, .dat nilS, .dat nilS, .dat nilS]), (2, .var [.dat (iD 0)]), (3, .var [.own 4 16 c.courses.length, .own 5 4 c.same.length, .own 6 7 c.progs.length, .dat (.sl 4 (c.classes.map classD)), .dat (.sl 2 (c.fees.map feeD)), .dat (.sl 4 (c.honours.map classD)), .dat (.sl 4 (c.clauses.map clauseD))]), (4, .row 41 16 ((mapX (courseX c) c.courses).1.map courseD)), (5, .row 51 4 ((mapX (pairX c) c.same).1.map pairD)), (6, .row 62 7 (halfD progD (mapX (progX c) c.progs).1 c.progs u))], nx := 7, gh := [(0, .ptr 2 0)] }) (fun u => u ≤ c.progs.length ∧ (mapX (progX c) (c.progs.take u)).2 = true) (fun u => c.progs.length - u) 0 (Ent.sub [1, 2, 3, 10, 158, 159, 160] [0, 1, 2, 3, 4, 5, 6] (by simp [sub, subSl, subHp, place, mp, mpL, mpO, mpG, halfD_zero, hse])) ⟨Nat.zero_le _, rfl⟩ fun u hu => ?_
                        obtain ⟨hu, hug⟩ := hu
                        refine T_seq ?_
                        refine T_region (is := [0]) rfl fun kn kp hn hp => ?_
                        refine T_op rfl rfl fun kc hc => ?_
                        simp; refine hc _ ?_; clear hc kc
                        refine T_end (hn _ ?_); clear hn hp kn kp
                        refine T_then ?_
                        refine T_seq ?_
                        refine T_cond rfl (fun b6 => ?_) (fun b6 => ?_)
                        · skip
                          have hz' : u < c.progs.length := by simpa using b6
                          obtain ⟨p, hxp⟩ : ∃ x, c.progs[u]? = some x := ⟨_, List.getElem?_eq_getElem hz'⟩
                          have eu : IntKind.i64.wrap ((u : Int) + 1) = (u : Int) + 1 := wr1 hz' (by omega)
                          have hul := hz'
                          have hpr := hf.reqs p (List.mem_of_getElem? hxp)
                          have hy1 := mapX_get (f := progX c) hxp
                          have hxl := mapX_len (progX c) c.progs
                          have hglp := halfD_len (f := progD) (a := (mapX (progX c) c.progs).1) (b := c.progs) (by omega) hu
                          have hggp := halfD_get (f := progD) (a := (mapX (progX c) c.progs).1) (by omega) hxp
                          have hset := halfD_set (f := progD) hy1 hz'
                          simp only [progX] at hset
                          clear hz'
                          have w49 := walk49 (p.reqs.map reqD) (by simpa using hpr.1) (by simp)
                          rw [List.length_map] at w49
                          refine T_skip ?_
                          refine T_then ?_
                          refine T_seq ?_
                          refine T_block ?_
                          refine T_seq ?_
                          refine T_region (is := [0, 1, 2, 3, 4, 5]) rfl fun kn kp hn hp => ?_
                          refine T_op rfl rfl fun kc hc => ?_
                          simp; refine hc _ ?_; clear hc kc
                          refine T_op rfl rfl fun kc hc => ?_
                          simp [hul, hglp]; refine hc _ ?_; clear hc kc
                          refine T_op rfl rfl fun kc hc => ?_
                          simp [hggp]; refine hc _ ?_; clear hc kc
                          refine T_op rfl rfl fun kc hc => ?_
                          simp; refine hc _ ?_; clear hc kc
                          refine T_op rfl rfl fun kc hc => ?_
                          simp; refine hc _ ?_; clear hc kc
                          refine T_op rfl rfl fun kc hc => ?_
                          simp; refine hc _ ?_; clear hc kc
                          refine T_end (hn _ ?_); clear hn hp kn kp
                          refine T_then ?_
                          refine T_seq ?_
                          refine T_region (is := [0, 1, 2, 3]) rfl fun kn kp hn hp => ?_
                          refine T_op rfl rfl fun kc hc => ?_
                          simp; refine hc _ ?_; clear hc kc
                          refine T_op rfl rfl fun kc hc => ?_
                          simp; refine hc _ ?_; clear hc kc
                          refine T_op rfl rfl fun kc hc => ?_
                          simp
                          refine CallS.dat (w49) (rfl) rfl rfl rfl ?_
                          simp [enum]; refine hc _ ?_; clear hc kc
                          refine T_op rfl rfl fun kc hc => ?_
                          simp; refine hc _ ?_; clear hc kc
                          refine T_end (hn _ ?_); clear hn hp kn kp
                          refine T_then ?_
                          refine T_seq ?_
                          refine T_seq ?_
                          refine T_region (is := [0, 1, 2]) rfl fun kn kp hn hp => ?_
                          refine T_op rfl rfl fun kc hc => ?_
                          simp; refine hc _ ?_; clear hc kc
                          refine T_op rfl rfl fun kc hc => ?_
                          simp; refine hc _ ?_; clear hc kc
                          refine T_op rfl rfl fun kc hc => ?_
                          simp; refine hc _ ?_; clear hc kc
                          refine T_end (hn _ ?_); clear hn hp kn kp
                          refine T_then ?_
                          refine T_block ?_
                          refine T_loop (fun v : Nat => { sl := [(1, .ptr 0 0), (2, .ptr 1 0), (3, .ptr 2 0), (10, .ptr 3 0), (14, .dat (iD u)), (16, .own 7 6 p.reqs.length), (158, .own 6 7 c.progs.length), (159, .dat (iD c.progs.length)), (160, .dat (iD u)), (168, .own 7 6 p.reqs.length), (169, .dat (iD p.reqs.length)), (170, .dat (iD v))], hp := [(0, .var ((catD c).map .dat)), (1, .var [.dat nilS, .dat nilS, .dat nilS, .dat nilS, .dat nilS, .dat nilS, .dat nilS]), (2, .var [.dat (iD 0)]), (3, .var [.own 4 16 c.courses.length, .own 5 4 c.same.length, .own 6 7 c.progs.length, .dat (.sl 4 (c.classes.map classD)), .dat (.sl 2 (c.fees.map feeD)), .dat (.sl 4 (c.honours.map classD)), .dat (.sl 4 (c.clauses.map clauseD))]), (4, .row 41 16 ((mapX (courseX c) c.courses).1.map courseD)), (5, .row 51 4 ((mapX (pairX c) c.same).1.map pairD)), (6, .row 62 7 (halfD progD (mapX (progX c) c.progs).1 c.progs u)), (7, .row 64 6 (halfD reqD (mapX (reqX c) p.reqs).1 p.reqs v))], nx := 8, gh := [(0, .ptr 2 0)] }) (fun v => v ≤ p.reqs.length ∧ (mapX (reqX c) (p.reqs.take v)).2 = true) (fun v => p.reqs.length - v) 0 (Ent.sub [1, 2, 3, 10, 14, 16, 158, 159, 160, 168, 169, 170] [0, 1, 2, 3, 4, 5, 6, 8] (by simp [sub, subSl, subHp, place, mp, mpL, mpO, mpG, halfD_zero])) ⟨Nat.zero_le _, rfl⟩ fun v hv => ?_
                          obtain ⟨hv, hvg⟩ := hv
                          refine T_seq ?_
                          refine T_region (is := [0]) rfl fun kn kp hn hp => ?_
                          refine T_op rfl rfl fun kc hc => ?_
                          simp; refine hc _ ?_; clear hc kc
                          refine T_end (hn _ ?_); clear hn hp kn kp
                          refine T_then ?_
                          refine T_seq ?_
                          refine T_cond rfl (fun b7 => ?_) (fun b7 => ?_)
                          · skip
                            have hz' : v < p.reqs.length := by simpa using b7
                            obtain ⟨q, hxq⟩ : ∃ x, p.reqs[v]? = some x := ⟨_, List.getElem?_eq_getElem hz'⟩
                            have ev : IntKind.i64.wrap ((v : Int) + 1) = (v : Int) + 1 := wr1 hz' (by omega)
                            have hvl := hz'
                            have hpq := hpr.2 q (List.mem_of_getElem? hxq)
                            have hqa := arg_no hA hxp hxq
                            have hy2 := mapX_get (f := reqX c) hxq
                            have hxl2 := mapX_len (reqX c) p.reqs
                            have hgl := halfD_len (f := reqD) (a := (mapX (reqX c) p.reqs).1) (b := p.reqs) (by omega) hv
                            have hgl2 := halfD_len (f := reqD) (a := (mapX (reqX c) p.reqs).1) (b := p.reqs) (z := v + 1) (by omega) (by omega)
                            have hgg := halfD_get (f := reqD) (a := (mapX (reqX c) p.reqs).1) (by omega) hxq
                            have hse2 := halfD_set (f := reqD) hy2 hz'
                            simp only [reqX] at hse2
                            clear hz'
                            have w50 := walk50 (q.frm.map fun n => [iD n]) (by simpa using hpq.2) (by simp)
                            rw [List.length_map] at w50
                            have hml : ∀ (ρ : Nat → Option Nat) (cs : List D), mpLL ρ (((halfD reqD (mapX (reqX c) p.reqs).1 p.reqs v).map (·.map D.dat)).set v cs) = (mpL ρ cs).map fun k => ((halfD reqD (mapX (reqX c) p.reqs).1 p.reqs v).map (·.map D.dat)).set v k := fun ρ cs => mpLL_set (by rw [hgl]; exact hvl) cs
                            have hog : ((halfD reqD (mapX (reqX c) p.reqs).1 p.reqs v).map (·.map D.dat))[v]? = some ((reqD q).map .dat) := by rw [List.getElem?_map, hgg]; rfl
                            have hrd : (((halfD reqD (mapX (reqX c) p.reqs).1 p.reqs v).map (·.map D.dat)).set v [.dat (sD q.name), .dat (iD q.credits), .dat (iD q.grade), .dat (bV q.home), .dat (strs q.names), .own 9 1 q.frm.length])[v]? = some _ := List.getElem?_set_self (by rw [List.length_map, hgl]; exact hvl)
                            refine T_skip ?_
                            refine T_then ?_
                            refine T_seq ?_
                            refine T_block ?_
                            refine T_seq ?_
                            refine T_region (is := [0, 1, 2, 3, 4, 5]) rfl fun kn kp hn hp => ?_
                            refine T_op rfl rfl fun kc hc => ?_
                            simp; refine hc _ ?_; clear hc kc
                            refine T_op rfl rfl fun kc hc => ?_
                            simp [hvl, hgl]; refine hc _ ?_; clear hc kc
                            refine T_op rfl rfl fun kc hc => ?_
                            simp [hgg]; refine hc _ ?_; clear hc kc
                            refine T_op rfl rfl fun kc hc => ?_
                            simp; refine hc _ ?_; clear hc kc
                            refine T_op rfl rfl fun kc hc => ?_
                            simp; refine hc _ ?_; clear hc kc
                            refine T_op rfl rfl fun kc hc => ?_
                            simp; refine hc _ ?_; clear hc kc
                            refine T_end (hn _ ?_); clear hn hp kn kp
                            refine T_then ?_
                            refine T_seq ?_
                            refine T_region (is := [0, 1, 2, 3, 4, 5, 6, 7]) rfl fun kn kp hn hp => ?_
                            refine T_op rfl rfl fun kc hc => ?_
                            simp; refine hc _ ?_; clear hc kc
                            refine T_op rfl rfl fun kc hc => ?_
                            simp; refine hc _ ?_; clear hc kc
                            refine T_op rfl rfl fun kc hc => ?_
                            simp; refine hc _ ?_; clear hc kc
                            refine T_op rfl rfl fun kc hc => ?_
                            simp; refine hc _ ?_; clear hc kc
                            refine T_op rfl rfl fun kc hc => ?_
                            simp
                            refine CallS.dat (w50) (rfl) rfl rfl rfl ?_
                            simp [enum]; refine hc _ ?_; clear hc kc
                            refine T_op rfl rfl fun kc hc => ?_
                            simp [hvl, hgl]; refine hc _ ?_; clear hc kc
                            refine T_op rfl rfl fun kc hc => ?_
                            simp [hvl, hgl]; refine hc _ ?_; clear hc kc
                            refine T_opsEnt (Ent.toD (b := 7) rfl (fun e => by rw [e] at hgl; simp at hgl; omega)) ?_
                            refine T_op rfl rfl fun kc hc => ?_
                            simp [hog]; refine hc _ ?_; clear hc kc
                            refine T_end (hn _ ?_); clear hn hp kn kp
                            refine T_then ?_
                            refine T_seq ?_
                            refine T_region (is := [0, 1, 2, 3]) rfl fun kn kp hn hp => ?_
                            refine T_op rfl rfl fun kc hc => ?_
                            simp; refine hc _ ?_; clear hc kc
                            refine T_op rfl rfl fun kc hc => ?_
                            simp; refine hc _ ?_; clear hc kc
                            refine T_op rfl rfl fun kc hc => ?_
                            simp; refine hc _ ?_; clear hc kc
                            refine T_op rfl rfl fun kc hc => ?_
                            simp; refine hc _ ?_; clear hc kc
                            refine T_end (hn _ ?_); clear hn hp kn kp
                            refine T_then ?_
                            refine T_block ?_
                            refine T_loop (fun j : Nat => { sl := [(1, .ptr 0 0), (2, .ptr 1 0), (3, .ptr 2 0), (10, .ptr 3 0), (14, .dat (iD u)), (16, .own 7 6 p.reqs.length), (158, .own 6 7 c.progs.length), (159, .dat (iD c.progs.length)), (160, .dat (iD u)), (168, .own 7 6 p.reqs.length), (169, .dat (iD p.reqs.length)), (170, .dat (iD v)), (17, .dat (iD v)), (18, .ptr 8 0), (183, .dat (strs q.names)), (184, .dat (iD q.names.length)), (185, .dat (iD j))], hp := [(0, .var ((catD c).map .dat)), (1, .var [.dat nilS, .dat nilS, .dat nilS, .dat nilS, .dat nilS, .dat nilS, .dat nilS]), (2, .var [.dat (iD 0)]), (3, .var [.own 4 16 c.courses.length, .own 5 4 c.same.length, .own 6 7 c.progs.length, .dat (.sl 4 (c.classes.map classD)), .dat (.sl 2 (c.fees.map feeD)), .dat (.sl 4 (c.honours.map classD)), .dat (.sl 4 (c.clauses.map clauseD))]), (4, .row 41 16 ((mapX (courseX c) c.courses).1.map courseD)), (5, .row 51 4 ((mapX (pairX c) c.same).1.map pairD)), (6, .row 62 7 (halfD progD (mapX (progX c) c.progs).1 c.progs u)), (7, .rowD 64 6 (((halfD reqD (mapX (reqX c) p.reqs).1 p.reqs v).map (·.map D.dat)).set v [.dat (sD q.name), .dat (iD q.credits), .dat (iD q.grade), .dat (bV q.home), .dat (strs q.names), .own 9 1 q.frm.length])), (8, .var ((reqD q).map .dat)), (9, .row 3 1 (halfD (fun n => [iD n]) (numsR c q.names q.frm).1 q.frm j))], nx := 10, gh := [(0, .ptr 2 0)] }) (fun j => j ≤ q.names.length ∧ (numsR c (q.names.take j) (q.frm.take j)).2 = true) (fun j => q.names.length - j) 0 (Ent.sub [1, 2, 3, 10, 14, 16, 158, 159, 160, 168, 169, 170, 17, 18, 183, 184, 185] [0, 1, 2, 3, 4, 5, 6, 7, 8, 9] (by simp [sub, subSl, subHp, place, mp, mpL, mpO, mpG, halfD_zero, hml])) ⟨Nat.zero_le _, by simp [numsR]⟩ fun j hj => ?_
                            obtain ⟨hj, hjg⟩ := hj
                            refine T_seq ?_
                            refine T_region (is := [0]) rfl fun kn kp hn hp => ?_
                            refine T_op rfl rfl fun kc hc => ?_
                            simp; refine hc _ ?_; clear hc kc
                            refine T_end (hn _ ?_); clear hn hp kn kp
                            refine T_then ?_
                            refine T_seq ?_
                            refine T_cond rfl (fun b8 => ?_) (fun b8 => ?_)
                            · skip
                              have hz' : j < q.names.length := by simpa using b8
                              obtain ⟨n, hxn⟩ : ∃ x, q.names[j]? = some x := ⟨_, List.getElem?_eq_getElem hz'⟩
                              have ej : IntKind.i64.wrap ((j : Int) + 1) = (j : Int) + 1 := wr1 hz' (by omega)
                              have hjl := hz'
                              have hjf : j < q.frm.length := by omega
                              obtain ⟨f, hxf⟩ : ∃ f, q.frm[j]? = some f := ⟨_, List.getElem?_eq_getElem (by omega)⟩
                              have hmf := numsR_len c q.names q.frm hqa
                              have hgln := halfD_len (f := fun n : Int => [iD n]) (a := (numsR c q.names q.frm).1) (b := q.frm) (z := j) (by omega) (by omega)
                              have hggn := halfD_get (f := fun n : Int => [iD n]) (a := (numsR c q.names q.frm).1) (by omega) hxf
                              have hsetn := halfD_set (f := fun n : Int => [iD n]) (numsR_get (c := c) hxn hxf) (show j < q.frm.length by omega)
                              refine T_skip ?_
                              refine T_then ?_
                              refine T_seq ?_
                              refine T_block ?_
                              refine T_seq ?_
                              refine T_region (is := [0, 1, 2, 3, 4]) rfl fun kn kp hn hp => ?_
                              refine T_op rfl rfl fun kc hc => ?_
                              simp; refine hc _ ?_; clear hc kc
                              refine T_op rfl rfl fun kc hc => ?_
                              simp [hxn]; refine hc _ ?_; clear hc kc
                              refine T_op rfl rfl fun kc hc => ?_
                              simp [hxn]; refine hc _ ?_; clear hc kc
                              refine T_op rfl rfl fun kc hc => ?_
                              simp; refine hc _ ?_; clear hc kc
                              refine T_op rfl rfl fun kc hc => ?_
                              simp; refine hc _ ?_; clear hc kc
                              refine T_end (hn _ ?_); clear hn hp kn kp
                              refine T_then ?_
                              cases hr1 : (numberR c n f).2
                              · skip
                                refine T_drawPan 13 (thrown 110) [2, 3] (is := [0, 1, 2, 3, 4, 5, 6, 7, 8, 9, 10, 11, 12, 13, 14, 15]) rfl rfl rfl (by kernel_rfl) fun pq hpq => ?_
                                refine D_op rfl rfl rfl rfl fun kc hc => ?_
                                simp; refine hc _ ?_; clear hc kc
                                refine D_op rfl rfl rfl rfl fun kc hc => ?_
                                simp; refine hc _ ?_; clear hc kc
                                refine D_op rfl rfl rfl rfl fun kc hc => ?_
                                simp [hvl, hgl]; refine hc _ ?_; clear hc kc
                                refine D_op rfl rfl rfl rfl fun kc hc => ?_
                                simp [hvl, hgl]; refine hc _ ?_; clear hc kc
                                refine D_op rfl rfl rfl rfl fun kc hc => ?_
                                simp [hrd]; refine hc _ ?_; clear hc kc
                                refine D_op rfl rfl rfl rfl fun kc hc => ?_
                                simp; refine hc _ ?_; clear hc kc
                                refine D_op rfl rfl rfl rfl fun kc hc => ?_
                                simp; refine hc _ ?_; clear hc kc
                                refine D_op rfl rfl rfl rfl fun kc hc => ?_
                                simp; refine hc _ ?_; clear hc kc
                                refine D_op rfl rfl rfl rfl fun kc hc => ?_
                                simp; refine hc _ ?_; clear hc kc
                                refine D_op rfl rfl rfl rfl fun kc hc => ?_
                                simp; refine hc _ ?_; clear hc kc
                                refine D_op rfl rfl rfl rfl fun kc hc => ?_
                                simp; refine hc _ ?_; clear hc kc
                                refine D_op rfl rfl rfl rfl fun kc hc => ?_
                                simp [hxf]; refine hc _ ?_; clear hc kc
                                refine D_op rfl rfl rfl rfl fun kc hc => ?_
                                simp [hxf]; refine hc _ ?_; clear hc kc
                                refine D_pan rfl rfl rfl rfl ⟨_, _, _, by simp <;> first | exact ⟨rfl, rfl⟩ | rfl, pan48 c n f (num_none hr1) (by omega), by rfl⟩ (hpq _ _ fun s1 e1 e2 e3 e4 e5 => ?_) ?_
                                · skip
                                  exact pan12 e1 (by rw [e3]; rfl) (by rw [e3]; rfl) ((e5 2 (by simp)).trans rfl) ((e5 3 (by simp)).trans rfl) (res_name hA hT (bad_from hxp hxq hxn hxf hr1))
                                refine D_skip rfl rfl ?_
                                refine D_skip rfl rfl ?_
                                exact D_end rfl (by kernel_rfl) trivial
                              · skip
                                refine T_draw' (is := [0, 1, 2, 3, 4, 5, 6, 7, 8, 9, 10, 11, 12, 13, 14, 15]) rfl (by kernel_rfl) (fun _ _ hE h => T_ent hE h) fun kn hn => ?_
                                refine D_op rfl rfl rfl rfl fun kc hc => ?_
                                simp; refine hc _ ?_; clear hc kc
                                refine D_op rfl rfl rfl rfl fun kc hc => ?_
                                simp; refine hc _ ?_; clear hc kc
                                refine D_op rfl rfl rfl rfl fun kc hc => ?_
                                simp [hvl, hgl]; refine hc _ ?_; clear hc kc
                                refine D_op rfl rfl rfl rfl fun kc hc => ?_
                                simp [hvl, hgl]; refine hc _ ?_; clear hc kc
                                refine D_op rfl rfl rfl rfl fun kc hc => ?_
                                simp [hrd]; refine hc _ ?_; clear hc kc
                                refine D_op rfl rfl rfl rfl fun kc hc => ?_
                                simp; refine hc _ ?_; clear hc kc
                                refine D_op rfl rfl rfl rfl fun kc hc => ?_
                                simp; refine hc _ ?_; clear hc kc
                                refine D_op rfl rfl rfl rfl fun kc hc => ?_
                                simp; refine hc _ ?_; clear hc kc
                                refine D_op rfl rfl rfl rfl fun kc hc => ?_
                                simp; refine hc _ ?_; clear hc kc
                                refine D_op rfl rfl rfl rfl fun kc hc => ?_
                                simp; refine hc _ ?_; clear hc kc
                                refine D_op rfl rfl rfl rfl fun kc hc => ?_
                                simp; refine hc _ ?_; clear hc kc
                                refine D_op rfl rfl rfl rfl fun kc hc => ?_
                                simp [hxf]; refine hc _ ?_; clear hc kc
                                refine D_op rfl rfl rfl rfl fun kc hc => ?_
                                simp [hxf]; refine hc _ ?_; clear hc kc
                                refine D_call rfl rfl rfl (by simp <;> first | exact ⟨rfl, rfl⟩ | rfl) (walk48 c n f _ (num_some hr1) (by omega)) (by rfl) rfl fun kc hc => ?_
                                simp [enum]; refine hc _ ?_; clear hc kc
                                refine D_op rfl rfl rfl rfl fun kc hc => ?_
                                simp [hjf, hgln]; refine hc _ ?_; clear hc kc
                                refine D_eff [9] rfl rfl rfl fun kc hc => ?_
                                simp [hggn]
                                refine hc _ (fun b hb => by simp at hb; simp [lk, hb]) ?_; clear hc kc
                                refine D_end rfl (by kernel_rfl) (hn _ ?_); clear hn kn
                                refine X_blockN ?_
                                refine T_then ?_
                                refine T_region (is := [0, 1]) rfl fun kn kp hn hp => ?_
                                refine T_op rfl rfl fun kc hc => ?_
                                simp [ej]; refine hc _ ?_; clear hc kc
                                refine T_op rfl rfl fun kc hc => ?_
                                simp; refine hc _ ?_; clear hc kc
                                refine T_end (hn _ ?_); clear hn hp kn kp
                                exact X_loopN (j + 1) (Ent.sub [1, 2, 3, 10, 14, 16, 158, 159, 160, 168, 169, 170, 17, 18, 183, 184, 185] [0, 1, 2, 3, 4, 5, 6, 7, 8, 9] (by simp [sub, subSl, subHp, place, mp, mpL, mpO, mpG, ej, hsetn, hml])) ⟨hz', by rw [numsR_next hxn hxf]; simp [hjg, hr1]⟩ (by omega)
                            · skip
                              have hz' : j = q.names.length := by simp at b8; omega
                              have hgn : (numsR c q.names q.frm).2 = true := by rw [hz', List.take_length, hqa, List.take_length] at hjg; exact hjg
                              clear hjg
                              have hmf := numsR_len c q.names q.frm hqa
                              subst hz'
                              have hne : halfD (fun n : Int => [iD n]) (numsR c q.names q.frm).1 q.frm q.names.length = (numsR c q.names q.frm).1.map fun n => [iD n] := by rw [hqa]; exact halfD_end hmf
                              have hbf : q.frm.length ≤ big := by simp only [big]; omega
                              have htf : ∀ f : Int → List Dat, List.take q.frm.length ((numsR c q.names q.frm).1.map f) = (numsR c q.names q.frm).1.map f := fun f => List.take_of_length_le (by simp [hmf])
                              refine T_exit ?_
                              refine X_thenE ?_
                              refine X_loopE ?_
                              refine X_hit ?_
                              refine X_blockN ?_
                              refine T_then ?_
                              refine T_region (is := [0, 1]) rfl fun kn kp hn hp => ?_
                              refine T_op rfl rfl fun kc hc => ?_
                              simp [ev]; refine hc _ ?_; clear hc kc
                              refine T_op rfl rfl fun kc hc => ?_
                              simp; refine hc _ ?_; clear hc kc
                              refine T_end (hn _ ?_); clear hn hp kn kp
                              exact X_loopN (v + 1) (Ent.trans (Ent.ofD (b := 7) (k := v) (j := 5) (m := 9) (d := .own 9 1 q.frm.length) (e := ints (numsR c q.names q.frm).1) (es := halfD reqD (mapX (reqX c) p.reqs).1 p.reqs (v + 1)) (hp' := _) rfl hrd rfl (by simp [Sx.give, hbf, hne, htf, hmf]; rfl) rfl (by simp [hgl, hgl2]) (ofD_req hgg hse2)) (Ent.sub [1, 2, 3, 10, 14, 16, 158, 159, 160, 168, 169, 170] [0, 1, 2, 3, 4, 5, 6, 7] (by simp [sub, subSl, subHp, place, mp, mpL, mpO, mpG, ev]))) ⟨hvl, by rw [mapX_next hxq]; simp [hvg, reqX, hgn]⟩ (by omega)
                          · skip
                            have hz' : v = p.reqs.length := by simp at b7; omega
                            have hgr : (mapX (reqX c) p.reqs).2 = true := by rw [hz', List.take_length] at hvg; exact hvg
                            clear hvg
                            subst hz'
                            have hre := halfD_end (f := reqD) (mapX_len (reqX c) p.reqs)
                            have hbr : p.reqs.length ≤ big := by simp only [big]; omega
                            have hmr := mapX_len (reqX c) p.reqs
                            have htr : ∀ f : Req → List Dat, List.take p.reqs.length ((mapX (reqX c) p.reqs).1.map f) = (mapX (reqX c) p.reqs).1.map f := fun f => List.take_of_length_le (by simp [hmr])
                            refine T_exit ?_
                            refine X_thenE ?_
                            refine X_loopE ?_
                            refine X_hit ?_
                            refine T_then ?_
                            refine T_region (is := [0, 1, 2, 3, 4, 5, 6]) rfl fun kn kp hn hp => ?_
                            refine T_op rfl rfl fun kc hc => ?_
                            simp; refine hc _ ?_; clear hc kc
                            refine T_op rfl rfl fun kc hc => ?_
                            simp; refine hc _ ?_; clear hc kc
                            refine T_op rfl rfl fun kc hc => ?_
                            simp; refine hc _ ?_; clear hc kc
                            refine T_op rfl rfl fun kc hc => ?_
                            simp; refine hc _ ?_; clear hc kc
                            refine T_op rfl rfl fun kc hc => ?_
                            simp [hul, hglp]; refine hc _ ?_; clear hc kc
                            refine T_op rfl rfl fun kc hc => ?_
                            simp [hul, hglp]; refine hc _ ?_; clear hc kc
                            refine T_op rfl rfl fun kc hc => ?_
                            simp [giveL, Sx.give, hbr, hmr, htr, hre, hggp]; refine hc _ ?_; clear hc kc
                            refine T_end (hn _ ?_); clear hn hp kn kp
                            refine X_blockN ?_
                            refine T_then ?_
                            refine T_region (is := [0, 1]) rfl fun kn kp hn hp => ?_
                            refine T_op rfl rfl fun kc hc => ?_
                            simp [eu]; refine hc _ ?_; clear hc kc
                            refine T_op rfl rfl fun kc hc => ?_
                            simp; refine hc _ ?_; clear hc kc
                            refine T_end (hn _ ?_); clear hn hp kn kp
                            exact X_loopN (u + 1) (Ent.sub [1, 2, 3, 10, 158, 159, 160] [0, 1, 2, 3, 4, 5, 6] (by simp [sub, subSl, subHp, place, mp, mpL, mpO, mpG, eu, hset])) ⟨hul, by rw [mapX_next hxp]; simp [hug, progX, hgr]⟩ (by omega)
                        · skip
                          have hz' : u = c.progs.length := by simp at b6; omega
                          have hGp : (mapX (progX c) c.progs).2 = true := by rw [hz', List.take_length] at hug; exact hug
                          clear hug
                          subst hz'
                          have hpe := halfD_end (f := progD) (mapX_len (progX c) c.progs)
                          have hG : goodB c = true := by simp [goodB, hGc, hGs, hGp]
                          refine T_exit ?_
                          refine X_thenE ?_
                          refine X_loopE ?_
                          refine X_hit ?_
                          refine T_then ?_
                          refine T_seq ?_
                          refine T_region (is := [0, 1, 2, 3, 4, 5, 6]) rfl fun kn kp hn hp => ?_
                          refine T_op rfl rfl fun kc hc => ?_
                          simp; refine hc _ ?_; clear hc kc
                          refine T_op rfl rfl fun kc hc => ?_
                          simp
                          refine CallS.dat (walk17 c hf) (rfl) rfl rfl rfl ?_
                          simp [enum]; refine hc _ ?_; clear hc kc
                          refine T_op rfl rfl fun kc hc => ?_
                          simp; refine hc _ ?_; clear hc kc
                          refine T_op rfl rfl fun kc hc => ?_
                          simp; refine hc _ ?_; clear hc kc
                          refine T_op rfl rfl fun kc hc => ?_
                          simp; refine hc _ ?_; clear hc kc
                          refine T_op rfl rfl fun kc hc => ?_
                          simp; refine hc _ ?_; clear hc kc
                          refine T_op rfl rfl fun kc hc => ?_
                          simp; refine hc _ ?_; clear hc kc
                          refine T_end (hn _ ?_); clear hn hp kn kp
                          refine T_then ?_
                          refine T_seq ?_
                          refine T_region (is := [0, 1, 2, 3]) rfl fun kn kp hn hp => ?_
                          refine T_op rfl rfl fun kc hc => ?_
                          simp; refine hc _ ?_; clear hc kc
                          refine T_op rfl rfl fun kc hc => ?_
                          simp; refine hc _ ?_; clear hc kc
                          refine T_op rfl rfl fun kc hc => ?_
                          simp; refine hc _ ?_; clear hc kc
                          refine T_op rfl rfl fun kc hc => ?_
                          simp
                          cases ho : (orderOf c).2 == 0
                          · skip
                            refine CallS.pan (pan29 (orderOf c).2) (by simp [lendL, lend, Sx.give, ho]) ?_
                            refine hp _ _ ?_
                            exact pan12 rfl rfl rfl rfl rfl (res_order hA hT hG (by simpa using ho))
                          · skip
                            refine CallS.dat (walk29 (orderOf c).2) (by simp [datL, datOf, ho]) rfl rfl rfl ?_
                            simp [enum]; refine hc _ ?_; clear hc kc
                            refine T_end (hn _ ?_); clear hn hp kn kp
                            refine T_then ?_
                            refine T_seq ?_
                            refine T_region (is := [0, 1, 2]) rfl fun kn kp hn hp => ?_
                            refine T_op rfl rfl fun kc hc => ?_
                            simp; refine hc _ ?_; clear hc kc
                            refine T_op rfl rfl fun kc hc => ?_
                            simp; refine hc _ ?_; clear hc kc
                            refine T_op rfl rfl fun kc hc => ?_
                            simp; refine hc _ ?_; clear hc kc
                            refine T_end (hn _ ?_); clear hn hp kn kp
                            refine T_then ?_
                            refine T_ret ?_
                            have hres := res_ok hA hT hG (by simpa using ho)
                            have hbc : c.courses.length ≤ big := by simp only [big]; omega
                            have hbs : c.same.length ≤ big := by simp only [big]; omega
                            have hbp : c.progs.length ≤ big := by simp only [big]; omega
                            have hmc := mapX_len (courseX c) c.courses
                            have hms := mapX_len (pairX c) c.same
                            have hmp := mapX_len (progX c) c.progs
                            have htc : ∀ f : Course → List Dat, List.take c.courses.length ((mapX (courseX c) c.courses).1.map f) = (mapX (courseX c) c.courses).1.map f := fun f => List.take_of_length_le (by simp [hmc])
                            have hts : ∀ f : Pair → List Dat, List.take c.same.length ((mapX (pairX c) c.same).1.map f) = (mapX (pairX c) c.same).1.map f := fun f => List.take_of_length_le (by simp [hms])
                            have htp : ∀ f : Prog → List Dat, List.take c.progs.length ((mapX (progX c) c.progs).1.map f) = (mapX (progX c) c.progs).1.map f := fun f => List.take_of_length_le (by simp [hmp])
                            exact finI (Ent.refl _) (by simp [resD, resL, resV]; rfl) (Ent.trans (Ent.giveG (t := 0) (n := 40) (e := .tup [.agg (catD (resR c)), iD 0]) (hp' := _) rfl (by simp [Sx.give, giveL, hbc, hbs, hbp, hmc, hms, hmp, hce, hse, hpe, htc, hts, htp, resR]; rfl)) (Ent.sub [] [] (by simp [sub, subSl, subHp, place, mp, mpL, mpO, mpG]; rfl))) rfl rfl (by simp [hres])
                  · skip
                    refine CallS.pan (pan40 c.honours 41 [] (·.name) walk41 h5 hu7) (rfl) ?_
                    refine hp _ _ ?_
                    exact pan12 rfl rfl rfl rfl rfl (res_twice hA (by simp [twiceC, hu7]))
                · skip
                  refine CallS.pan (pan42 c.fees 43 [] (·.name) walk43 h4 hu6) (rfl) ?_
                  refine hp _ _ ?_
                  exact pan12 rfl rfl rfl rfl rfl (res_twice hA (by simp [twiceC, hu6]))
              · skip
                refine CallS.pan (pan40 c.classes 41 [] (·.name) walk41 h3 hu5) (rfl) ?_
                refine hp _ _ ?_
                exact pan12 rfl rfl rfl rfl rfl (res_twice hA (by simp [twiceC, hu5]))
          · skip
            refine CallS.pan (pan36 c.progs 37 [] (·.number) walk37 h2 hu4) (rfl) ?_
            refine hp _ _ ?_
            exact pan12 rfl rfl rfl rfl rfl (res_twice hA (by simp [twiceC, hu4]))
        · skip
          refine CallS.pan (pan34 c.progs 35 [] (·.name) walk35 h2 hu3) (rfl) ?_
          refine hp _ _ ?_
          exact pan12 rfl rfl rfl rfl rfl (res_twice hA (by simp [twiceC, hu3]))
      · skip
        refine CallS.pan (pan32 c.courses 33 [] (·.number) walk33 h1 hu2) (rfl) ?_
        refine hp _ _ ?_
        exact pan12 rfl rfl rfl rfl rfl (res_twice hA (by simp [twiceC, hu2]))
    · skip
      refine CallS.pan (pan30 c.courses 31 [] (·.name) walk31 h1 hu1) (rfl) ?_
      refine hp _ _ ?_
      exact pan12 rfl rfl rfl rfl rfl (res_twice hA (by simp [twiceC, hu1]))
-- END

end Go.Proofs.Ytbkkekbeaabokaa
