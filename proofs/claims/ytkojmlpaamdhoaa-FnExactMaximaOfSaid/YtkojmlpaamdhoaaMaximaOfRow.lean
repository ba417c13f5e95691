/- FnExactMaximaOf of the given program returns true for every input, and each argument reads behind the call as it read before; no condition. -/
import Derived.Test.YtkojmlpaamdhoaaRows
import Derived.Test.YtkojmlpaamdhoaaMaximaOfWalk
import Derived.Test.YtkojmlpaamdhoaaGxRow2
namespace Go.Proofs.Ytkojmlpaamdhoaa.fnExactMaximaOf
open Go.ChangeShapes Go.WideShapes Go.ChangeAt Go.RowKit Go.Gx
set_option linter.unusedVariables false
set_option linter.unusedSimpArgs false
theorem own : ownKnob Try.prog.godebug = none := by kernel_rfl
theorem laid : laidOutB Try.prog = true := by kernel_rfl
set_option maxHeartbeats 4000000 in
set_option maxRecDepth 100000 in
theorem lifted (os : Os) (started : os.Started) (H : Type) (enc : TypeId × Value → H) :
    ReturnsInHanded {} Try.checked os 13 .any (Rows.fnExactMaximaOfSpec.pre6 enc Try.prog Try.f13 Rows.fnExactMaximaOfRow.domain false) (Rows.fnExactMaximaOfSpec.post enc Try.prog Try.f13 false true false false) := by
  refine returnsInHanded_of_change_sized (C := Try.checked) own started (by kernel_rfl) Try.func13
    (ChangeSpec.witness6 (enc := enc) (C := Try.checked) false ⟨#[], #[.slice none 0 0], []⟩ 8 (by kernel_rfl) (by kernel_rfl) (by kernel_rfl) (by kernel_rfl)) ?_
  intro W base args ds gs before hval0 hW hcnd hsz0 _
  have hval : ∀ (j : Nat) t v, Try.f13.params[j]? = some t → args[j]? = some v → Value.okWide Try.prog W .any base t v := hval0
  have hW' := hW
  obtain ⟨p, q, hA0, hV, rfl, hfz, hnd⟩ := hW
  have hA : DataW.TrodAll enc Try.prog W 0 (fun _ => true) true Try.f13.params.toList args.toList ds p := hA0
  rw [Try.params13] at hA hval
  obtain ⟨v0, vs0, d0, ds0, p0, q0, hargs, rfl, rfl, h0, r0⟩ := trodAll_cons hA
  obtain ⟨rfl, rfl, rfl⟩ := trodAll_nil r0
  obtain rfl : args = #[v0] := by cases args; simp_all
  obtain ⟨rfl, rfl⟩ := trodVars_none hV
  have hlt0 : ∀ x ∈ p0, x.block < W.heap.size := fun x hx => by simpa using hW'.lt x (by simp [hx])
  have k0 := h0
  obtain ⟨A0, c0, l0, xs0, rfl, x0⟩ := open_fsV Try.underlying22 Try.underlying63 (by kernel_rfl) (hval 0 22 v0 rfl rfl) h0
  clear hA0 hval0 hsz0
  have hrow := calls_row (ls := [xs0.map fv]) (ρ := inMap [l0]) (W := W) (w_FnExactMaximaOf_ok (fs_in (j := 0) rfl) x0.word x0.max) (in_cons (x0.here rfl) in_nil) (args_cons (x0.rel (j := 0) rfl rfl) args_nil)
  refine hrow.mono fun e W' ⟨he, bel⟩ => ?_
  subst he
  exact ⟨_, rfl, _, _, _, [], _, [], hW', trodAll_mk1 (shut_bool Try.underlying4 _), (trodAll_cons_mk (Below.trod laid (by kernel_rfl) (of_decide_eq_true (by kernel_rfl)) k0 bel hlt0) trodAll_mk0), rfl, bel.frame _, fun h => by cases h⟩
theorem over : Rows.fnExactMaximaOfRow.holds Try.pinned (OpenSpec.ofChange Rows.fnExactMaximaOfSpec) :=
  OpenClaim.holds_of_wide 13 Try.f13 rfl rfl rfl rfl rfl rfl rfl ⟨rfl, rfl, rfl, rfl, rfl⟩ rfl rfl rfl rfl rfl (by kernel_rfl) Try.func13 (by kernel_rfl)
    (of_decide_eq_true (by kernel_rfl)) (by unfold Func.isWrapper; first | (rw [if_pos (by decide +kernel)]; kernel_rfl) | (rw [if_neg (by decide +kernel)]; exact ⟨rfl, rfl⟩))
    (fun os started H enc _ => lifted os started H enc)
theorem proved : Rows.FnExactMaximaOfSaid := over
end Go.Proofs.Ytkojmlpaamdhoaa.fnExactMaximaOf
namespace Go.Proofs.Ytkojmlpaamdhoaa
/-- The row, under a short name, for the claim. -/
theorem fnExactMaximaOf_holds : Rows.FnExactMaximaOfSaid := fnExactMaximaOf.proved
end Go.Proofs.Ytkojmlpaamdhoaa
