/- FnExactDropDeep of the given program returns true for every input, and each argument reads behind the call as it read before; no condition. -/
import Derived.Test.YtkojmlpaamdhoaeRows
import Derived.Test.YtkojmlpaamdhoaeDropDeepWalk
import Derived.Test.YtkojmlpaamdhoaeGxRow3
namespace Go.Proofs.Ytkojmlpaamdhoae.fnExactDropDeep
open Go.ChangeShapes Go.WideShapes Go.ChangeAt Go.RowKit Go.Gx
set_option linter.unusedVariables false
set_option linter.unusedSimpArgs false
theorem own : ownKnob Try.prog.godebug = none := by kernel_rfl
theorem laid : laidOutB Try.prog = true := by kernel_rfl
set_option maxHeartbeats 4000000 in
set_option maxRecDepth 100000 in
theorem lifted (os : Os) (started : os.Started) (H : Type) (enc : TypeId × Value → H) :
    ReturnsInHanded {} Try.checked os 6 .any (Rows.fnExactDropDeepSpec.pre6 enc Try.prog Try.f6 Rows.fnExactDropDeepRow.domain false) (Rows.fnExactDropDeepSpec.post enc Try.prog Try.f6 false true false false) := by
  refine returnsInHanded_of_change_sized (C := Try.checked) own started (by kernel_rfl) Try.func6
    (ChangeSpec.witness6 (enc := enc) (C := Try.checked) false ⟨#[], #[.agg #[.slice none 0 0, .float .f32 0], .slice none 0 0], []⟩ 8 (by kernel_rfl) (by kernel_rfl) (by kernel_rfl) (by kernel_rfl)) ?_
  intro W base args ds gs before hval0 hW hcnd hsz0 _
  have hval : ∀ (j : Nat) t v, Try.f6.params[j]? = some t → args[j]? = some v → Value.okWide Try.prog W .any base t v := hval0
  have hW' := hW
  obtain ⟨p, q, hA0, hV, rfl, hfz, hnd⟩ := hW
  have hA : DataW.TrodAll enc Try.prog W 0 (fun _ => true) true Try.f6.params.toList args.toList ds p := hA0
  rw [Try.params6] at hA hval
  obtain ⟨v0, vs0, d0, ds0, p0, q0, hargs, rfl, rfl, h0, r0⟩ := trodAll_cons hA
  obtain ⟨v1, vs1, d1, ds1, p1, q1, rfl, rfl, rfl, h1, r1⟩ := trodAll_cons r0
  obtain ⟨rfl, rfl, rfl⟩ := trodAll_nil r1
  obtain rfl : args = #[v0, v1] := by cases args; simp_all
  obtain ⟨rfl, rfl⟩ := trodVars_none hV
  have hlt0 : ∀ x ∈ p0, x.block < W.heap.size := fun x hx => by simpa using hW'.lt x (by simp [hx])
  have k0 := h0
  obtain ⟨A0, c0, l0, xs0, a0, rfl, w0, x0⟩ := open_schemeV Try.underlying60 (by kernel_rfl) (by kernel_rfl) Try.underlying32 Try.underlying37 (by kernel_rfl) Try.underlying37 (hval 0 60 v0 rfl rfl) h0
  have hlt1 : ∀ x ∈ p1, x.block < W.heap.size := fun x hx => by simpa using hW'.lt x (by simp [hx])
  have k1 := h1
  obtain ⟨A1, c1, l1, Ls1, xs1, rfl, x1, y1⟩ := open_ssV Try.underlying33 (by kernel_rfl) Try.underlying32 Try.underlying37 (by kernel_rfl) (hval 1 33 v1 rfl rfl) h1
  clear hA0 hval0 hsz0
  have t0 : AtL ([xs0.map fv] ++ (blksG fv (1 + 0) xs1 ++ [])) 0 ([xs0.map fv]) := AtL.here
  have u0 : AtR (inMap ([l0] ++ ((l1 :: Ls1) ++ []))) 0 [l0] := AtR.here
  have t1 : AtL ([xs0.map fv] ++ (blksG fv (1 + 0) xs1 ++ [])) (1 + 0) (blksG fv (1 + 0) xs1) := (AtL.skip (n := 1) rfl AtL.here)
  have u1 : AtR (inMap ([l0] ++ ((l1 :: Ls1) ++ []))) (1 + 0) (l1 :: Ls1) := (AtR.skip (n := 1) rfl AtR.here)
  have hrow := calls_rowN (W := W) (w_FnExactDropDeep_ok (canon_lt (k := .f32) (wf_f32 w0)) (fs_at t0) x0.word x0.max (ss_at t1) y1 x1.max x1.rows) (in_app (k' := (1 + 0)) (in_one (x0.here u0.one)) (by simp [blksG_length] <;> omega) (in_app (x1.here t1 u1) rfl in_nil)) (args_cons (rel_agg2 (x0.rel t0.one u0.one) (.float ⟨rfl, wf_f32 w0⟩)) (args_cons (x1.rel t1 u1) args_nil))
  refine hrow.mono fun e W' ⟨he, bel⟩ => ?_
  subst he
  exact ⟨_, rfl, _, _, _, [], _, [], hW', trodAll_mk1 (shut_bool Try.underlying4 _), (trodAll_cons_mk (Below.trod laid (by kernel_rfl) (of_decide_eq_true (by kernel_rfl)) k0 bel hlt0) (trodAll_cons_mk (Below.trod laid (by kernel_rfl) (of_decide_eq_true (by kernel_rfl)) k1 bel hlt1) trodAll_mk0)), rfl, bel.frame _, fun h => by cases h⟩
theorem over : Rows.fnExactDropDeepRow.holds Try.pinned (OpenSpec.ofChange Rows.fnExactDropDeepSpec) :=
  OpenClaim.holds_of_wide 6 Try.f6 rfl rfl rfl rfl rfl rfl rfl ⟨rfl, rfl, rfl, rfl, rfl⟩ rfl rfl rfl rfl rfl (by kernel_rfl) Try.func6 (by kernel_rfl)
    (of_decide_eq_true (by kernel_rfl)) (by unfold Func.isWrapper; first | (rw [if_pos (by decide +kernel)]; kernel_rfl) | (rw [if_neg (by decide +kernel)]; exact ⟨rfl, rfl⟩))
    (fun os started H enc _ => lifted os started H enc)
theorem proved : Rows.FnExactDropDeepSaid := over
end Go.Proofs.Ytkojmlpaamdhoae.fnExactDropDeep
namespace Go.Proofs.Ytkojmlpaamdhoae
/-- The row, under a short name, for the claim. -/
theorem fnExactDropDeep_holds : Rows.FnExactDropDeepSaid := fnExactDropDeep.proved
end Go.Proofs.Ytkojmlpaamdhoae
