/- FnExactRoughnessOf of the given program returns true for every input, and each argument reads behind the call as it read before; no condition. -/
import Derived.Test.YtkojmlpaamdhoaeRows
import Derived.Test.YtkojmlpaamdhoaeRoughnessOfWalk
import Derived.Test.YtkojmlpaamdhoaeGxRow3
namespace Go.Proofs.Ytkojmlpaamdhoae.fnExactRoughnessOf
open Go.ChangeShapes Go.WideShapes Go.ChangeAt Go.RowKit Go.Gx
set_option linter.unusedVariables false
set_option linter.unusedSimpArgs false
theorem own : ownKnob Try.prog.godebug = none := by kernel_rfl
theorem laid : laidOutB Try.prog = true := by kernel_rfl
set_option maxHeartbeats 4000000 in
set_option maxRecDepth 100000 in
theorem lifted (os : Os) (started : os.Started) (H : Type) (enc : TypeId × Value → H) :
    ReturnsInHanded {} Try.checked os 4 .any (Rows.fnExactRoughnessOfSpec.pre6 enc Try.prog Try.f4 Rows.fnExactRoughnessOfRow.domain false) (Rows.fnExactRoughnessOfSpec.post enc Try.prog Try.f4 false true false false) := by
  refine returnsInHanded_of_change_sized (C := Try.checked) own started (by kernel_rfl) Try.func4
    (ChangeSpec.witness6 (enc := enc) (C := Try.checked) false ⟨#[], #[.agg #[.slice none 0 0, .slice none 0 0]], []⟩ 8 (by kernel_rfl) (by kernel_rfl) (by kernel_rfl) (by kernel_rfl)) ?_
  intro W base args ds gs before hval0 hW hcnd hsz0 _
  have hval : ∀ (j : Nat) t v, Try.f4.params[j]? = some t → args[j]? = some v → Value.okWide Try.prog W .any base t v := hval0
  have hW' := hW
  obtain ⟨p, q, hA0, hV, rfl, hfz, hnd⟩ := hW
  have hA : DataW.TrodAll enc Try.prog W 0 (fun _ => true) true Try.f4.params.toList args.toList ds p := hA0
  rw [Try.params4] at hA hval
  obtain ⟨v0, vs0, d0, ds0, p0, q0, hargs, rfl, rfl, h0, r0⟩ := trodAll_cons hA
  obtain ⟨rfl, rfl, rfl⟩ := trodAll_nil r0
  obtain rfl : args = #[v0] := by cases args; simp_all
  obtain ⟨rfl, rfl⟩ := trodVars_none hV
  have hlt0 : ∀ x ∈ p0, x.block < W.heap.size := fun x hx => by simpa using hW'.lt x (by simp [hx])
  have k0 := h0
  obtain ⟨A0, c0, l0, xs0, B0, e0, m0, Ls0, ys0, rfl, x0, y0, z0⟩ := open_bandsV Try.underlying35 (by kernel_rfl) (by kernel_rfl) Try.underlying32 Try.underlying37 (by kernel_rfl) Try.underlying33 (by kernel_rfl) Try.underlying32 Try.underlying37 (by kernel_rfl) (hval 0 35 v0 rfl rfl) h0
  clear hA0 hval0 hsz0
  have t0 : AtL ([xs0.map fv] ++ (blksG fv (1 + 0) ys0 ++ [])) 0 ([xs0.map fv]) := AtL.here
  have u0 : AtR (inMap ([l0] ++ ((m0 :: Ls0) ++ []))) 0 [l0] := AtR.here
  have t1 : AtL ([xs0.map fv] ++ (blksG fv (1 + 0) ys0 ++ [])) (1 + 0) (blksG fv (1 + 0) ys0) := (AtL.skip (n := 1) rfl AtL.here)
  have u1 : AtR (inMap ([l0] ++ ((m0 :: Ls0) ++ []))) (1 + 0) (m0 :: Ls0) := (AtR.skip (n := 1) rfl AtR.here)
  have hrow := calls_rowN (W := W) (w_FnExactRoughnessOf_ok (fs_at t0) x0.word x0.max (ss_at t1) z0 y0.max y0.rows) (in_app (k' := (1 + 0)) (in_one (x0.here u0.one)) (by simp [blksG_length] <;> omega) (in_app (y0.here t1 u1) rfl in_nil)) (args_cons (rel_agg2 (x0.rel t0.one u0.one) (y0.rel t1 u1)) args_nil)
  refine hrow.mono fun e W' ⟨he, bel⟩ => ?_
  subst he
  exact ⟨_, rfl, _, _, _, [], _, [], hW', trodAll_mk1 (shut_bool Try.underlying4 _), (trodAll_cons_mk (Below.trod laid (by kernel_rfl) (of_decide_eq_true (by kernel_rfl)) k0 bel hlt0) trodAll_mk0), rfl, bel.frame _, fun h => by cases h⟩
theorem over : Rows.fnExactRoughnessOfRow.holds Try.pinned (OpenSpec.ofChange Rows.fnExactRoughnessOfSpec) :=
  OpenClaim.holds_of_wide 4 Try.f4 rfl rfl rfl rfl rfl rfl rfl ⟨rfl, rfl, rfl, rfl, rfl⟩ rfl rfl rfl rfl rfl (by kernel_rfl) Try.func4 (by kernel_rfl)
    (of_decide_eq_true (by kernel_rfl)) (by unfold Func.isWrapper; first | (rw [if_pos (by decide +kernel)]; kernel_rfl) | (rw [if_neg (by decide +kernel)]; exact ⟨rfl, rfl⟩))
    (fun os started H enc _ => lifted os started H enc)
theorem proved : Rows.FnExactRoughnessOfSaid := over
end Go.Proofs.Ytkojmlpaamdhoae.fnExactRoughnessOf
namespace Go.Proofs.Ytkojmlpaamdhoae
/-- The row, under a short name, for the claim. -/
theorem fnExactRoughnessOf_holds : Rows.FnExactRoughnessOfSaid := fnExactRoughnessOf.proved
end Go.Proofs.Ytkojmlpaamdhoae
