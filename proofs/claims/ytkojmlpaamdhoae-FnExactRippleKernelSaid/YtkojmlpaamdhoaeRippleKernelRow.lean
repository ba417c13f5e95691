/- FnExactRippleKernel of the given program returns true for every input, and each argument reads behind the call as it read before; no condition. -/
import Derived.Test.YtkojmlpaamdhoaeRows
import Derived.Test.YtkojmlpaamdhoaeRippleKernelWalk
import Derived.Test.YtkojmlpaamdhoaeGxRow3
namespace Go.Proofs.Ytkojmlpaamdhoae.fnExactRippleKernel
open Go.ChangeShapes Go.WideShapes Go.ChangeAt Go.RowKit Go.Gx
set_option linter.unusedVariables false
set_option linter.unusedSimpArgs false
theorem own : ownKnob Try.prog.godebug = none := by kernel_rfl
theorem laid : laidOutB Try.prog = true := by kernel_rfl
set_option maxHeartbeats 4000000 in
set_option maxRecDepth 100000 in
theorem lifted (os : Os) (started : os.Started) (H : Type) (enc : TypeId × Value → H) :
    ReturnsInHanded {} Try.checked os 7 .any (Rows.fnExactRippleKernelSpec.pre6 enc Try.prog Try.f7 Rows.fnExactRippleKernelRow.domain false) (Rows.fnExactRippleKernelSpec.post enc Try.prog Try.f7 false true false false) := by
  refine returnsInHanded_of_change_sized (C := Try.checked) own started (by kernel_rfl) Try.func7
    (ChangeSpec.witness6 (enc := enc) (C := Try.checked) false ⟨#[], #[.float .f32 0], []⟩ 8 (by kernel_rfl) (by kernel_rfl) (by kernel_rfl) (by kernel_rfl)) ?_
  intro W base args ds gs before hval0 hW hcnd hsz0 _
  have hval : ∀ (j : Nat) t v, Try.f7.params[j]? = some t → args[j]? = some v → Value.okWide Try.prog W .any base t v := hval0
  have hW' := hW
  obtain ⟨p, q, hA0, hV, rfl, hfz, hnd⟩ := hW
  have hA : DataW.TrodAll enc Try.prog W 0 (fun _ => true) true Try.f7.params.toList args.toList ds p := hA0
  rw [Try.params7] at hA hval
  obtain ⟨v0, vs0, d0, ds0, p0, q0, hargs, rfl, rfl, h0, r0⟩ := trodAll_cons hA
  obtain ⟨rfl, rfl, rfl⟩ := trodAll_nil r0
  obtain rfl : args = #[v0] := by cases args; simp_all
  obtain ⟨rfl, rfl⟩ := trodVars_none hV
  have hlt0 : ∀ x ∈ p0, x.block < W.heap.size := fun x hx => by simpa using hW'.lt x (by simp [hx])
  have k0 := h0
  obtain ⟨a0, rfl, _, _, w0⟩ := open_float Try.underlying37 (hval 0 37 v0 rfl rfl) h0
  clear hA0 hval0 hsz0
  have hrow := calls_row (ls := []) (ρ := inMap []) (W := W) (w_FnExactRippleKernel_ok (canon_lt (k := .f32) (wf_f32 w0))) in_nil (args_cons (.float ⟨rfl, wf_f32 w0⟩) args_nil)
  refine hrow.mono fun e W' ⟨he, bel⟩ => ?_
  subst he
  exact ⟨_, rfl, _, _, _, [], _, [], hW', trodAll_mk1 (shut_bool Try.underlying4 _), (trodAll_cons_mk (Below.trod laid (by kernel_rfl) (of_decide_eq_true (by kernel_rfl)) k0 bel hlt0) trodAll_mk0), rfl, bel.frame _, fun h => by cases h⟩
theorem over : Rows.fnExactRippleKernelRow.holds Try.pinned (OpenSpec.ofChange Rows.fnExactRippleKernelSpec) :=
  OpenClaim.holds_of_wide 7 Try.f7 rfl rfl rfl rfl rfl rfl rfl ⟨rfl, rfl, rfl, rfl, rfl⟩ rfl rfl rfl rfl rfl (by kernel_rfl) Try.func7 (by kernel_rfl)
    (of_decide_eq_true (by kernel_rfl)) (by unfold Func.isWrapper; first | (rw [if_pos (by decide +kernel)]; kernel_rfl) | (rw [if_neg (by decide +kernel)]; exact ⟨rfl, rfl⟩))
    (fun os started H enc _ => lifted os started H enc)
theorem proved : Rows.FnExactRippleKernelSaid := over
end Go.Proofs.Ytkojmlpaamdhoae.fnExactRippleKernel
namespace Go.Proofs.Ytkojmlpaamdhoae
/-- The row, under a short name, for the claim. -/
theorem fnExactRippleKernel_holds : Rows.FnExactRippleKernelSaid := fnExactRippleKernel.proved
end Go.Proofs.Ytkojmlpaamdhoae
