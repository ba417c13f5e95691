/- FnExactKeepBands of the given program returns true for every input, and each argument reads behind the call as it read before; no condition. -/
import Derived.Test.YtkojmlpaamdhoadRows
import Derived.Test.YtkojmlpaamdhoadKeepBandsWalk
import Derived.Test.YtkojmlpaamdhoadGxRow3
namespace Go.Proofs.Ytkojmlpaamdhoad.fnExactKeepBands
open Go.ChangeShapes Go.WideShapes Go.ChangeAt Go.RowKit Go.Gx
set_option linter.unusedVariables false
set_option linter.unusedSimpArgs false
theorem own : ownKnob Try.prog.godebug = none := by kernel_rfl
theorem laid : laidOutB Try.prog = true := by kernel_rfl
set_option maxHeartbeats 4000000 in
set_option maxRecDepth 100000 in
theorem lifted (os : Os) (started : os.Started) (H : Type) (enc : TypeId × Value → H) :
    ReturnsInHanded {} Try.checked os 10 .any (Rows.fnExactKeepBandsSpec.pre6 enc Try.prog Try.f10 Rows.fnExactKeepBandsRow.domain false) (Rows.fnExactKeepBandsSpec.post enc Try.prog Try.f10 false true false false) := by
  refine returnsInHanded_of_change_sized (C := Try.checked) own started (by kernel_rfl) Try.func10
    (ChangeSpec.witness6 (enc := enc) (C := Try.checked) false ⟨#[], #[.agg #[.slice none 0 0, .slice none 0 0], .bool false, .slice none 0 0], []⟩ 8 (by kernel_rfl) (by kernel_rfl) (by kernel_rfl) (by kernel_rfl)) ?_
  intro W base args ds gs before hval0 hW hcnd hsz0 _
  have hval : ∀ (j : Nat) t v, Try.f10.params[j]? = some t → args[j]? = some v → Value.okWide Try.prog W .any base t v := hval0
  have hW' := hW
  obtain ⟨p, q, hA0, hV, rfl, hfz, hnd⟩ := hW
  have hA : DataW.TrodAll enc Try.prog W 0 (fun _ => true) true Try.f10.params.toList args.toList ds p := hA0
  rw [Try.params10] at hA hval
  obtain ⟨v0, vs0, d0, ds0, p0, q0, hargs, rfl, rfl, h0, r0⟩ := trodAll_cons hA
  obtain ⟨v1, vs1, d1, ds1, p1, q1, rfl, rfl, rfl, h1, r1⟩ := trodAll_cons r0
  obtain ⟨v2, vs2, d2, ds2, p2, q2, rfl, rfl, rfl, h2, r2⟩ := trodAll_cons r1
  obtain ⟨rfl, rfl, rfl⟩ := trodAll_nil r2
  obtain rfl : args = #[v0, v1, v2] := by cases args; simp_all
  obtain ⟨rfl, rfl⟩ := trodVars_none hV
  have hlt0 : ∀ x ∈ p0, x.block < W.heap.size := fun x hx => by simpa using hW'.lt x (by simp [hx])
  have k0 := h0
  obtain ⟨A0, c0, l0, xs0, B0, e0, m0, Ls0, ys0, rfl, x0, y0, z0⟩ := open_bandsV Try.underlying95 (by kernel_rfl) (by kernel_rfl) Try.underlying22 Try.underlying34 (by kernel_rfl) Try.underlying33 (by kernel_rfl) Try.underlying22 Try.underlying34 (by kernel_rfl) (hval 0 95 v0 rfl rfl) h0
  have hlt1 : ∀ x ∈ p1, x.block < W.heap.size := fun x hx => by simpa using hW'.lt x (by simp [hx])
  have k1 := h1
  obtain ⟨a1, rfl, _, _⟩ := open_bool Try.underlying4 (hval 1 4 v1 rfl rfl) h1
  have hlt2 : ∀ x ∈ p2, x.block < W.heap.size := fun x hx => by simpa using hW'.lt x (by simp [hx])
  have k2 := h2
  obtain ⟨A2, c2, l2, xs2, rfl, x2⟩ := open_bsV Try.underlying96 Try.underlying4 (by kernel_rfl) (hval 2 96 v2 rfl rfl) h2
  clear hA0 hval0 hsz0
  have t0 : AtL ([xs0.map fv] ++ (blksG fv (1 + 0) ys0 ++ ([xs2.map bv] ++ []))) 0 ([xs0.map fv]) := AtL.here
  have u0 : AtR (inMap ([l0] ++ ((m0 :: Ls0) ++ ([l2] ++ [])))) 0 [l0] := AtR.here
  have t1 : AtL ([xs0.map fv] ++ (blksG fv (1 + 0) ys0 ++ ([xs2.map bv] ++ []))) (1 + 0) (blksG fv (1 + 0) ys0) := (AtL.skip (n := 1) rfl AtL.here)
  have u1 : AtR (inMap ([l0] ++ ((m0 :: Ls0) ++ ([l2] ++ [])))) (1 + 0) (m0 :: Ls0) := (AtR.skip (n := 1) rfl AtR.here)
  have t2 : AtL ([xs0.map fv] ++ (blksG fv (1 + 0) ys0 ++ ([xs2.map bv] ++ []))) (1 + ((ys0.length + 1) + 0)) ([xs2.map bv]) := (AtL.skip (n := 1) rfl (AtL.skip (n := (ys0.length + 1)) (blksG_length _ _ _) AtL.here))
  have u2 : AtR (inMap ([l0] ++ ((m0 :: Ls0) ++ ([l2] ++ [])))) (1 + ((ys0.length + 1) + 0)) [l2] := (AtR.skip (n := 1) rfl (AtR.skip (n := (ys0.length + 1)) (by simp [y0.lsl]) AtR.here))
  have hrow := calls_rowN (W := W) (w_FnExactKeepBands_ok (fs_at t0) x0.word x0.max (ss_at t1) z0 y0.max y0.rows (bs_at t2) x2.max) (in_app (k' := (1 + 0)) (in_one (x0.here u0.one)) (by simp [blksG_length] <;> omega) (in_app (k' := (1 + ((ys0.length + 1) + 0))) (y0.here t1 u1) (by simp [blksG_length] <;> omega) (in_app (in_one (x2.here u2.one)) rfl in_nil))) (args_cons (rel_agg2 (x0.rel t0.one u0.one) (y0.rel t1 u1)) (args_cons (.bool a1) (args_cons (x2.rel t2.one u2.one) args_nil)))
  refine hrow.mono fun e W' ⟨he, bel⟩ => ?_
  subst he
  exact ⟨_, rfl, _, _, _, [], _, [], hW', trodAll_mk1 (shut_bool Try.underlying4 _), (trodAll_cons_mk (Below.trod laid (by kernel_rfl) (of_decide_eq_true (by kernel_rfl)) k0 bel hlt0) (trodAll_cons_mk (Below.trod laid (by kernel_rfl) (of_decide_eq_true (by kernel_rfl)) k1 bel hlt1) (trodAll_cons_mk (Below.trod laid (by kernel_rfl) (of_decide_eq_true (by kernel_rfl)) k2 bel hlt2) trodAll_mk0))), rfl, bel.frame _, fun h => by cases h⟩
theorem over : Rows.fnExactKeepBandsRow.holds Try.pinned (OpenSpec.ofChange Rows.fnExactKeepBandsSpec) :=
  OpenClaim.holds_of_wide 10 Try.f10 rfl rfl rfl rfl rfl rfl rfl ⟨rfl, rfl, rfl, rfl, rfl⟩ rfl rfl rfl rfl rfl (by kernel_rfl) Try.func10 (by kernel_rfl)
    (of_decide_eq_true (by kernel_rfl)) (by unfold Func.isWrapper; first | (rw [if_pos (by decide +kernel)]; kernel_rfl) | (rw [if_neg (by decide +kernel)]; exact ⟨rfl, rfl⟩))
    (fun os started H enc _ => lifted os started H enc)
theorem proved : Rows.FnExactKeepBandsSaid := over
end Go.Proofs.Ytkojmlpaamdhoad.fnExactKeepBands
namespace Go.Proofs.Ytkojmlpaamdhoad
/-- The row, under a short name, for the claim. -/
theorem fnExactKeepBands_holds : Rows.FnExactKeepBandsSaid := fnExactKeepBands.proved
end Go.Proofs.Ytkojmlpaamdhoad
