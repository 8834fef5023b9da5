/- The terms: the operations on valid lists give no error. -/
import Derived.Test.YtehboominkoldaaTh
set_option linter.unusedVariables false
set_option linter.unusedSimpArgs false
namespace Go.Proofs.Ytehboominkoldaa
open Go Go.Proofs.Ytehboominkoldaa.Sx
theorem errOf_zero {l : List Sp} : errOf l = 0 ↔ chk (-1) l = true := by
  unfold errOf
  split <;> simp_all
theorem d19 {a b : List Sp} (ha : a.length ≤ 4096) (hb : b.length ≤ 4096) (ka : chk (-1) a = true) (kb : chk (-1) b = true) : Does Try.prog 19 [spans a, spans b] (.tup [.dat (spans (setU a b)), .dat (iD 0)]) [] := by
  have := c19 a b ha hb
  rwa [err_ok ka kb] at this
theorem d21 {a b : List Sp} (ha : a.length ≤ 4096) (hb : b.length ≤ 4096) (ka : chk (-1) a = true) (kb : chk (-1) b = true) : Does Try.prog 21 [spans a, spans b] (.tup [.dat (spans (setM a b)), .dat (iD 0)]) [] := by
  have := c21 a b ha hb
  rwa [err_ok ka kb] at this
theorem d23 {a b : List Sp} (ha : a.length ≤ 4096) (hb : b.length ≤ 4096) (ka : chk (-1) a = true) (kb : chk (-1) b = true) : Does Try.prog 23 [spans a, spans b] (.tup [.dat (spans (setD a b)), .dat (iD 0)]) [] := by
  have := c23 a b ha hb
  rwa [err_ok ka kb] at this
theorem s25 {l m : List Sp} (h : l = m) (hl : l.length ≤ 1000000) : Does Try.prog 25 [spans l, spans m] (.dat (bV true)) [] := by
  subst h
  exact u25 l hl
end Go.Proofs.Ytehboominkoldaa
