/- The laws' helpers, over lists of the call's own. -/
import Derived.Test.YtkojmlpaamdhoabRoughestPlaceC
namespace Go.Proofs.Ytkojmlpaamdhoab
open Go.Gx
set_option maxRecDepth 100000
set_option linter.unusedSimpArgs false
set_option linter.unusedVariables false

theorem acalls_ext {P : Program} {f : FuncId} {args : List Value} {H : Heap} {v : Value} (h : ACalls P f args H fun r H' => r = v ∧ H' = H) : ACalls P f args H fun r H' => r = v ∧ Ext H H' :=
  h.mono (by rintro _ _ ⟨rfl, rfl⟩; exact ⟨rfl, .refl _⟩)
theorem w_toFloat32S_ow {H : Heap} {v : Value} {xs : List Nat} (hv : FS H v xs) (hn : xs.length ≤ 2 ^ 40) :
    ACalls Try.prog n_w_toFloat32S [v] H fun r H' => Ext H H' ∧ OwL H.n H'.n H' t_float32 r (xs.map fv) := by
  refine (w_toFloat32S_ok hv hn).mono ?_
  rintro _ _ ⟨rfl, rfl⟩
  exact ⟨.new _ _, .mk (new_self _ _) (by simp) (Nat.le_refl _) (by simp [new_n]) (by simp [new_n])⟩
theorem w_eqFloat32S_ow {H : Heap} {v u : Value} {xs : List Nat} (hv : FS H v xs) (hu : FS H u xs) (hn : xs.length ≤ 2 ^ 40) :
    ACalls Try.prog n_w_eqFloat32S [v, u] H fun r H' => r = .bool true ∧ Ext H H' := acalls_ext (w_eqFloat32S_ok hv hu hn)
theorem w_toPicture_ow {H : Heap} {a b : Int} {v : Value} {xs : List Nat} (hv : FS H v xs) (hn : xs.length ≤ 2 ^ 40) :
    ACalls Try.prog n_w_toPicture [.agg #[.int .i64 a, .int .i64 b, v]] H fun r H' => Ext H H' ∧ ∃ u, r = .agg #[.int .i64 a, .int .i64 b, u] ∧ OwL H.n H'.n H' t_float32 u (xs.map fv) := by
  refine (w_toPicture_ok hv hn).mono ?_
  rintro _ H' ⟨e, h, h1, h2, rfl, hb⟩
  exact ⟨e, _, rfl, .mk hb (by simp) h1 h2 h2⟩
theorem w_eqPicture_ow {H : Heap} {a b : Int} {v u : Value} {xs : List Nat} (hv : FS H v xs) (hu : FS H u xs) (hn : xs.length ≤ 2 ^ 40) :
    ACalls Try.prog n_w_eqPicture [.agg #[.int .i64 a, .int .i64 b, v], .agg #[.int .i64 a, .int .i64 b, u]] H fun r H' => r = .bool true ∧ Ext H H' := w_eqPicture_ok hv hu hn
theorem w_szPicture_ow {H : Heap} {a b : Int} {v : Value} {xs : List Nat} {n : Int} (hv : FS H v xs) (h0 : 0 ≤ n) (h1 : n ≤ 1048576) (hx : xs.length ≤ 9223372036854775807) :
    ACalls Try.prog n_w_szPicture [.agg #[.int .i64 a, .int .i64 b, v], .int .i64 n] H fun r H' => r = .int .i64 (if n < xs.length then -1 else n - xs.length) ∧ Ext H H' := w_szPicture_ok hv h0 h1 hx
end Go.Proofs.Ytkojmlpaamdhoab
