/- The laws' helpers, over lists of the call's own. -/
import Derived.Test.YtkojmlpaamdhoacFrameOfF
namespace Go.Proofs.Ytkojmlpaamdhoac
open Go.Gx
set_option maxRecDepth 100000
set_option linter.unusedSimpArgs false
set_option linter.unusedVariables false

theorem acalls_ext {P : Program} {f : FuncId} {args : List Value} {H : Heap} {v : Value} (h : ACalls P f args H fun r H' => r = v ∧ H' = H) : ACalls P f args H fun r H' => r = v ∧ Ext H H' :=
  h.mono (by rintro _ _ ⟨rfl, rfl⟩; exact ⟨rfl, .refl _⟩)
theorem w_markFloat32S_ow {lo hi : Nat} {H : Heap} {ty : TypeId} {v : Value} {l : List Value} {k : Int} (o : OwL lo hi H ty v l) (h0 : 0 ≤ k) (h1 : k ≤ 2 ^ 61) (hn : l.length ≤ 2 ^ 61) :
    ACalls Try.prog n_w_markFloat32S [v, .int .i64 k] H fun r H' => r = .int .i64 (k + l.length) ∧ OwL lo hi H' ty v ((List.range l.length).map (markF k)) ∧ Fr v H H' := by
  rcases o with ⟨rfl, rfl⟩ | ⟨h, rfl, g1, g2, g3, hb⟩
  · refine w_markFloat32S_nil.mono ?_
    rintro _ _ ⟨rfl, rfl⟩
    exact ⟨by simp, .nil, .refl _ _⟩
  · refine (w_markFloat32S_ok hb rfl h0 h1 hn).mono ?_
    rintro _ _ ⟨rfl, rfl⟩
    exact ⟨rfl, .mk (hput_self _ _ _) (by simp) g1 g2 (by rw [put_n]; exact g3), ⟨rfl, fun i hi => hput_other _ _ _ _ fun e => hi (by rw [e]; rfl)⟩⟩
theorem w_heldFloat32S_ow {lo hi n : Nat} {H : Heap} {ty : TypeId} {v : Value} {k : Int} (o : OwL lo hi H ty v ((List.range n).map (markF k))) (h0 : 0 ≤ k) (h1 : k ≤ 2 ^ 61) (hn : n ≤ 2 ^ 61) :
    ACalls Try.prog n_w_heldFloat32S [v, .int .i64 k] H fun r H' => r = .int .i64 (k + n) ∧ Ext H H' := by
  rcases o with ⟨rfl, e⟩ | ⟨h, rfl, g1, g2, g3, hb⟩
  · have : n = 0 := by simpa using e
    subst this
    refine (acalls_ext w_heldFloat32S_nil).mono ?_
    rintro _ _ ⟨rfl, e⟩
    exact ⟨by simp, e⟩
  · have := acalls_ext (w_heldFloat32S_ok (n := n) hb h0 h1 hn)
    simpa using this
theorem w_toFloat32S_ow {H : Heap} {v : Value} {xs : List Nat} (hv : FS H v xs) (hn : xs.length ≤ 2 ^ 40) :
    ACalls Try.prog n_w_toFloat32S [v] H fun r H' => Ext H H' ∧ OwL H.n H'.n H' t_float32 r (xs.map fv) := by
  refine (w_toFloat32S_ok hv hn).mono ?_
  rintro _ _ ⟨rfl, rfl⟩
  exact ⟨.new _ _, .mk (new_self _ _) (by simp) (Nat.le_refl _) (by simp [new_n]) (by simp [new_n])⟩
theorem w_eqFloat32S_ow {H : Heap} {v u : Value} {xs : List Nat} (hv : FS H v xs) (hu : FS H u xs) (hn : xs.length ≤ 2 ^ 40) :
    ACalls Try.prog n_w_eqFloat32S [v, u] H fun r H' => r = .bool true ∧ Ext H H' := acalls_ext (w_eqFloat32S_ok hv hu hn)
end Go.Proofs.Ytkojmlpaamdhoac
