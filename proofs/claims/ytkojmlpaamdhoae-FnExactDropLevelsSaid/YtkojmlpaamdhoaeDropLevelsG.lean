/- The laws' helpers, over lists of the call's own. -/
import Derived.Test.YtkojmlpaamdhoaeDropLevelsB
namespace Go.Proofs.Ytkojmlpaamdhoae
open Go.Gx
set_option maxRecDepth 100000
set_option linter.unusedSimpArgs false
set_option linter.unusedVariables false

theorem acalls_ext {P : Program} {f : FuncId} {args : List Value} {H : Heap} {v : Value} (h : ACalls P f args H fun r H' => r = v ∧ H' = H) : ACalls P f args H fun r H' => r = v ∧ Ext H H' :=
  h.mono (by rintro _ _ ⟨rfl, rfl⟩; exact ⟨rfl, .refl _⟩)
theorem w_markInt64S_ow {lo hi : Nat} {H : Heap} {ty : TypeId} {v : Value} {l : List Value} {k : Int} (o : OwL lo hi H ty v l) (h0 : 0 ≤ k) (h1 : k ≤ 2 ^ 61) (hn : l.length ≤ 2 ^ 61) :
    ACalls Try.prog n_w_markInt64S [v, .int .i64 k] H fun r H' => r = .int .i64 (k + l.length) ∧ OwL lo hi H' ty v ((List.range l.length).map (markI k)) ∧ Fr v H H' := by
  rcases o with ⟨rfl, rfl⟩ | ⟨h, rfl, g1, g2, g3, hb⟩
  · refine w_markInt64S_nil.mono ?_
    rintro _ _ ⟨rfl, rfl⟩
    exact ⟨by simp, .nil, .refl _ _⟩
  · refine (w_markInt64S_ok hb rfl h0 h1 hn).mono ?_
    rintro _ _ ⟨rfl, rfl⟩
    exact ⟨rfl, .mk (hput_self _ _ _) (by simp) g1 g2 (by rw [put_n]; exact g3), ⟨rfl, fun i hi => hput_other _ _ _ _ fun e => hi (by rw [e]; rfl)⟩⟩
theorem w_heldInt64S_ow {lo hi n : Nat} {H : Heap} {ty : TypeId} {v : Value} {k : Int} (o : OwL lo hi H ty v ((List.range n).map (markI k))) (h0 : 0 ≤ k) (h1 : k ≤ 2 ^ 61) (hn : n ≤ 2 ^ 61) :
    ACalls Try.prog n_w_heldInt64S [v, .int .i64 k] H fun r H' => r = .int .i64 (k + n) ∧ Ext H H' := by
  rcases o with ⟨rfl, e⟩ | ⟨h, rfl, g1, g2, g3, hb⟩
  · have : n = 0 := by simpa using e
    subst this
    refine (acalls_ext w_heldInt64S_nil).mono ?_
    rintro _ _ ⟨rfl, e⟩
    exact ⟨by simp, e⟩
  · have := acalls_ext (w_heldInt64S_ok (n := n) hb h0 h1 hn)
    simpa using this
theorem w_eqInt64S_ow {H : Heap} {v u : Value} {xs : List Int} (hv : IS H v xs) (hu : IS H u xs) (hn : xs.length ≤ 2 ^ 40) :
    ACalls Try.prog n_w_eqInt64S [v, u] H fun r H' => r = .bool true ∧ Ext H H' := acalls_ext (w_eqInt64S_ok hv hu hn)
end Go.Proofs.Ytkojmlpaamdhoae
