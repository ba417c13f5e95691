/- Maxima of lists; pictures that are made. -/
import Derived.Test.YtkojmlpaamdhoaaMaximaOfG
namespace Go.Proofs.Ytkojmlpaamdhoaa
open Go.Gx
set_option maxRecDepth 100000
set_option linter.unusedSimpArgs false
set_option linter.unusedVariables false

theorem s_MaximaOf_law {H : Heap} {v0 : Value} {xs0 : List Nat} (A : AF H v0 xs0) : ACalls Try.prog n_s_MaximaOf [v0] H fun r H' => ListR iv t_int64 H (isLongF xs0) (maximaL xs0 xs0.length) r H' := by
  cases hl : isLongF xs0
  · refine (s_MaximaOf_no A.rd A.le hl).mono ?_
    rintro _ _ ⟨rfl, e⟩
    exact .no rfl e
  · refine (s_MaximaOf_yes A.rd A.le A.w hl).mono ?_
    rintro _ H' ⟨e, h, h1, h2, rfl, hb⟩
    exact .yes rfl e (.mk hb (by simp) h1 h2 h2) (Nat.le_trans (maximaL_len _ _) A.le)
theorem i_MaximaOf_law {H : Heap} {v0 : Value} {xs0 : List Nat} (A : AF H v0 xs0) : ACalls Try.prog n_i_MaximaOf [v0] H fun r H' => ListR iv t_int64 H (isLongF xs0) (maximaL xs0 xs0.length) r H' := by
  cases hl : isLongF xs0
  · refine (i_MaximaOf_no A.rd A.le hl).mono ?_
    rintro _ _ ⟨rfl, e⟩
    exact .no rfl e
  · refine (i_MaximaOf_yes A.rd A.le A.w hl).mono ?_
    rintro _ H' ⟨e, h, h1, h2, rfl, hb⟩
    exact .yes rfl e (.mk hb (by simp) h1 h2 h2) (Nat.le_trans (maximaL_len _ _) A.le)
end Go.Proofs.Ytkojmlpaamdhoaa
