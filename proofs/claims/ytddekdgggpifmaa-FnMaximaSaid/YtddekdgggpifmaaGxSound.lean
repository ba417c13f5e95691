/-
  What the abstract machine shows of code, the program's code does: one operation, a region in the text's order.
-/
import Derived.Test.YtddekdgggpifmaaGxExt
namespace Go.Gx
set_option linter.unusedSimpArgs false
set_option linter.unusedVariables false
open Go.RowKit (Below)

def compOp (P : Program) (op : Op) : Option AOp :=
  match op with
  | .call { callee := .value (.func f), args := args, argTypes := _ } =>
    match mathAt P f with
    | some i => match args with
      | ⟨[x]⟩ => if opndOk x = true then some (mathOp i x) else none
      | _ => none
    | none => if args.all opndOk = true then some (.call f args.toList) else none
  | .call { callee := .value (.tmp t), args := args, argTypes := _ } => if args.all opndOk = true then some (.callv (.tmp t) args.toList) else none
  | op => match compE P op with
    | some ao => some ao
    | none => compQ P op

inductive CO (P : Program) (op : Op) (ao : AOp) : Prop
  | eff : CE P op ao → isEff ao = true → CO P op ao
  | quiet : CQ P op ao → CO P op ao
  | call : CK op ao → CO P op ao
  | math {f i x ts} : mathAt P f = some i → opndOk x = true → op = .call { callee := .value (.func f), args := #[x], argTypes := ts } → ao = mathOp i x → CO P op ao

theorem compOp_spec {P : Program} {op : Op} {ao : AOp} (h : compOp P op = some ao) : CO P op ao := by
  unfold compOp at h
  split at h
  · split at h
    · rename_i i hi
      split at h
      · split at h
        · cases h; exact .math hi ‹_› rfl rfl
        · cases h
      · cases h
    · split at h
      · cases h; exact .call (.call ‹_›)
      · cases h
  · split at h
    · cases h; exact .call (.callv ‹_›)
    · cases h
  · split at h
    · rename_i ao' he; cases h; obtain ⟨h1, h2⟩ := compE_spec he; exact .eff h1 h2
    · exact .quiet (compQ_spec h)

theorem mathOp_quiet (i : Nat) (x : Operand) : isEff (mathOp i x) = false ∧ (∀ f args, mathOp i x ≠ .call f args) ∧ (∀ g args, mathOp i x ≠ .callv g args) := by
  unfold mathOp
  split <;> exact ⟨rfl, fun _ _ => by simp, fun _ _ => by simp⟩

section
variable {P : Program} {w0 w : World} {H : Heap} {ρ : Map} {φ : Frame} {a : Act}

theorem run_callFunc {f : FuncId} (h : HasBody P f) (args : Array Value) : (callFunc f args).run P w = .ok (.enter f args) w := by
  obtain ⟨fn, hf, hb, hn⟩ := h
  have hb' : fn.body ≠ none := by intro e; rw [e] at hb; cases hb
  have hn' : ¬ fn.name = "runtime.NumGoroutine" := fun e => by rw [e] at hn; simp at hn
  simp [callFunc, hf, hn', hb']

theorem doV_eff {ao : AOp} (hi : isEff ao = true) (hc : ∀ f args, ao ≠ .call f args) (hv : ∀ g args, ao ≠ .callv g args) {K : Value → Heap → Prop} (h : doV P ao φ H K) : ∃ v H', aeff ao φ H = some (v, H') ∧ K v H' := by
  unfold doV at h
  split at h
  · exact absurd rfl (hc _ _)
  · exact absurd rfl (hv _ _)
  · rw [if_pos hi] at h
    split at h
    · rename_i v H' he; exact ⟨v, H', he, h⟩
    · cases h
theorem doV_quiet {ao : AOp} (hi : isEff ao = false) {K : Value → Heap → Prop} (h : doV P ao φ H K) : ∃ v, aval ao φ H = some v ∧ K v H := by
  unfold doV at h
  split at h
  · cases hi
  · cases hi
  · rw [if_neg (by simp [hi])] at h
    split at h
    · rename_i v he; exact ⟨v, he, h⟩
    · cases h

theorem doV_sound {o : Oper} {ao : AOp} (hc : CO P o.op ao) (hf : FRel ρ H φ a) (hr : HRel w0 H ρ w) {K : Value → Heap → Prop} (h : doV P ao φ H K) {K' : Act → World → Prop} {Q : Exit → Act → World → Prop}
    (hk : ∀ v H' ρ' u w', K v H' → VRel ρ' H' v u → HRel w0 H' ρ' w' → Step ρ H ρ' H' → K' (a.put o.dst u) w') : o.wp P a w K' Q := by
  have args_rel : ∀ (args : Array Operand), args.all opndOk = true → ∀ (i : Nat) (v u : Value), (args.toList.map φ.ev)[i]? = some v → (args.map a.eval)[i]? = some u → VRel ρ H v u := by
    intro args hargs i v u hv hu
    simp only [List.getElem?_map, Array.getElem?_toList, Array.getElem?_map] at hv hu
    cases hx : args[i]? with
    | none => rw [hx] at hv; cases hv
    | some x =>
      rw [hx] at hv hu
      cases hv; cases hu
      exact hf.ev (Array.all_eq_true_iff_forall_mem.1 hargs x (Array.mem_of_getElem? hx))
  cases hc with
  | eff hce hi =>
    obtain ⟨v, H', he, hK⟩ := doV_eff hi (fun f args e => by subst e; generalize o.op = op at hce; cases hce) (fun g args e => by subst e; generalize o.op = op at hce; cases hce) h
    obtain ⟨nx, u, w', ρ', hrun, hnx, hv, hr', hs⟩ := aeff_sound hce hf hr he
    unfold Oper.wp
    rw [hrun]
    rcases hnx with rfl | ⟨rfl, rfl⟩
    · exact hk v H' ρ' u w' hK hv hr' hs
    · exact hk v H' ρ' undef w' hK hv hr' hs
  | quiet hcq =>
    obtain ⟨v, he, hK⟩ := doV_quiet hcq.quiet h
    obtain ⟨u, n, hrun, hv⟩ := aval_sound hcq hf hr he
    unfold Oper.wp
    rw [hrun]
    exact hk v H ρ u _ hK hv (hr.drewN n) (Step.refl _ _)
  | @math f i x ts hm hx ho hao =>
    subst hao
    obtain ⟨v, he, hK⟩ := doV_quiet (mathOp_quiet i x).1 h
    obtain ⟨u, n, hrun, hv⟩ := math_sound (w := w) hm hx ho hf he
    unfold Oper.wp
    rw [hrun]
    exact hk v H ρ u _ hK hv (hr.drewN n) (Step.refl _ _)
  | call hck =>
    generalize hop : o.op = op at hck
    cases hck with
    | @call f args ts hargs =>
      obtain ⟨S, hS, hK⟩ := h
      have hrun : (execOp a.eval o).run P w = .ok (.enter f (args.map a.eval)) w := by
        simp [execOp, hop, resolve, Deferred.ofValue, invoke, eval_func, run_callFunc hS.1]
      unfold Oper.wp
      rw [hrun, Oper.upon_enter]
      refine (hS.2 w0 ρ w (args.map a.eval) hr (by simp) (args_rel args hargs)).mono ?_
      rintro e w' ⟨r, u, H', ρ', rfl, hp, hv, hr', hs⟩
      exact hk r H' ρ' u w' (hK r H' hp) hv hr' hs
    | @callv t args ts hargs =>
      simp only [doV] at h
      split at h
      · rename_i f first cap hp
        obtain ⟨S, hS, hK⟩ := h
        have hxv := hf.ev (x := .tmp t) rfl
        rw [hp] at hxv
        generalize hv : a.eval (.tmp t) = z at hxv
        cases hxv with
        | @func _ _ ds _ fs s1 r1 s2 r2 =>
          have hrun : (execOp a.eval o).run P w = .ok (.enter f (ds ++ args.map a.eval ++ fs)) w := by
            simp only [execOp, hop, resolve, hv, Deferred.ofValue, invoke, Sem.run_bind, Sem.run_pure, Result.andThen_ok, run_callFunc hS.1]
          unfold Oper.wp
          rw [hrun, Oper.upon_enter]
          refine (hS.2 w0 ρ w (ds ++ args.map a.eval ++ fs) hr (by simp [s1, s2]) fun i v u hv' hu => ?_).mono ?_
          · rw [Array.getElem?_append] at hu
            by_cases h1 : i < (ds ++ args.map a.eval).size
            · rw [if_pos h1] at hu
              rw [List.getElem?_append_left (by simp at h1 ⊢; omega)] at hv'
              rw [Array.getElem?_append] at hu
              by_cases h2 : i < ds.size
              · rw [if_pos h2] at hu
                rw [List.getElem?_append_left (by simp; omega)] at hv'
                exact r1 i v u (by simpa using hv') hu
              · rw [if_neg h2] at hu
                rw [List.getElem?_append_right (by simp; omega)] at hv'
                exact args_rel args hargs _ v u (by simpa [s1] using hv') hu
            · rw [if_neg h1] at hu
              rw [List.getElem?_append_right (by simp at h1 ⊢; omega)] at hv'
              refine r2 _ v u ?_ hu
              simpa [s1] using hv'
          · rintro e w' ⟨r, u, H', ρ', rfl, hp', hv', hr', hs⟩
            exact hk r H' ρ' u w' (hK r H' hp') hv' hr' hs
      · cases h
end

/-- Operation i of a region, compiled. -/
def compStep (P : Program) (N : Nat) (ops : Array Oper) (i : Nat) : Option (Option Nat × AOp × Option (Nat × Bool)) :=
  match ops[i]? with
  | none => none
  | some o => match compOp P o.op with
    | none => none
    | some ao =>
      if o.dst.all (fun d => decide (d < N)) = true then
        match o.guard with
        | none => some (o.dst, ao, none)
        | some (j, want) => match (ops[j]?).bind (·.dst) with
          | some d => if d < N then some (o.dst, ao, some (d, want)) else none
          | none => none
      else none

structure CS (P : Program) (N : Nat) (ops : Array Oper) (i : Nat) (o : Oper) (d : Option Nat) (ao : AOp) (gd : Option (Nat × Bool)) : Prop where
  get : ops[i]? = some o
  op : CO P o.op ao
  dst : d = o.dst
  lt : ∀ t, d = some t → t < N
  guard : gd = none ∧ o.guard = none ∨ ∃ j want g, o.guard = some (j, want) ∧ (ops[j]?).bind (·.dst) = some g ∧ gd = some (g, want) ∧ g < N

theorem compStep_spec {P : Program} {N : Nat} {ops : Array Oper} {i : Nat} {r : Option Nat × AOp × Option (Nat × Bool)} (h : compStep P N ops i = some r) : ∃ o, CS P N ops i o r.1 r.2.1 r.2.2 := by
  unfold compStep at h
  split at h
  · cases h
  · rename_i o ho
    split at h
    · cases h
    · rename_i ao hao
      split at h
      · rename_i hd
        have hlt : ∀ t, o.dst = some t → t < N := fun t ht => by rw [ht] at hd; simpa using hd
        split at h
        · rename_i hg
          cases h
          exact ⟨o, ho, compOp_spec hao, rfl, hlt, .inl ⟨rfl, hg⟩⟩
        · rename_i j want hg
          split at h
          · rename_i d hd'
            split at h
            · rename_i hdN
              cases h
              exact ⟨o, ho, compOp_spec hao, rfl, hlt, .inr ⟨j, want, d, hg, hd', rfl, hdN⟩⟩
            · cases h
          · cases h
      · cases h

/-- How a state of the abstract machine stands to the frame and the world. -/
structure SRel (w0 : World) (N : Nat) (ρ0 : Map) (H0 : Heap) (φ : Frame) (H : Heap) (ρ : Map) (a : Act) (w : World) : Prop where
  frel : FRel ρ H φ a
  hrel : HRel w0 H ρ w
  step : Step ρ0 H0 ρ H
  size : a.tmps.size = N
  defers : a.defers = []

theorem put_size (a : Act) (d : Option Tmp) (v : Value) : (a.put d v).tmps.size = a.tmps.size := by cases d <;> simp [Act.put]
theorem put_defers (a : Act) (d : Option Tmp) (v : Value) : (a.put d v).defers = a.defers := by cases d <;> rfl

section
variable {P : Program} {N : Nat} {ops : Array Oper} {w0 w : World} {ρ0 : Map} {H0 : Heap} {H : Heap} {ρ : Map} {φ : Frame} {a : Act}

theorem guard_sound {i : Nat} {o : Oper} {d : Option Nat} {ao : AOp} {gd : Option (Nat × Bool)} (hc : CS P N ops i o d ao gd) (hf : FRel ρ H φ a) (hN : a.tmps.size = N) {b : Bool} (h : guardV φ gd = some b) :
    Region.wanted o (yielded ops a.tmps) = b := by
  rcases hc.guard with ⟨rfl, hg⟩ | ⟨j, want, g, hg, hj, rfl, hgN⟩
  · simp only [guardV, Option.some.injEq] at h
    subst h
    simp [Region.wanted, hg]
  · simp only [guardV] at h
    have hgt : a.tmps[g]? = some (a.tmps.getD g undef) := by
      have : g < a.tmps.size := by rw [hN]; exact hgN
      simp [this]
    have hv := hf g
    split at h
    · rename_i b' hb'
      rw [hb'] at hv
      generalize a.tmps.getD g undef = u at hv hgt
      cases hv
      cases h
      simp only [Region.wanted, hg, yielded, hj, Option.bind_some, hgt]
      cases b' <;> cases want <;> rfl
    · rename_i c hc'
      rw [hc'] at hv
      generalize a.tmps.getD g undef = u at hv hgt
      cases hv
      cases h
      simp only [Region.wanted, hg, yielded, hj, Option.bind_some, hgt]
      rfl
    · cases h

theorem undef_rel (ρ : Map) (H : Heap) : VRel ρ H undef undef := .tuple rfl (by simp)

theorem FRel.putd {ρ : Map} {H : Heap} {φ : Frame} {a : Act} (h : FRel ρ H φ a) {d : Option Nat} (hd : ∀ t, d = some t → t < a.tmps.size) {v u : Value} (hv : VRel ρ H v u) : FRel ρ H (putd d v φ) (a.put d u) := by
  cases d with
  | none => exact h
  | some d => exact h.put (hd d rfl) hv

/-- One operation of a region, at its turn. -/
theorem stepV_sound {i : Nat} {o : Oper} {d : Option Nat} {ao : AOp} {gd : Option (Nat × Bool)} (hc : CS P N ops i o d ao gd) (hf : FRel ρ H φ a) (hr : HRel w0 H ρ w) (hN : a.tmps.size = N) {K : Value → Heap → Prop} (h : stepV P ao gd φ H K)
    {K' : Act → World → Prop} {Q : Exit → Act → World → Prop} (hk : ∀ v H' ρ' u w', K v H' → VRel ρ' H' v u → HRel w0 H' ρ' w' → Step ρ H ρ' H' → K' (a.put o.dst u) w') : wpOp P ops Q i K' a w := by
  unfold wpOp
  simp only [hc.get]
  unfold stepV at h
  split at h
  · rename_i hg
    rw [guard_sound hc hf hN hg]
    exact .inl (doV_sound hc.op hf hr h hk)
  · rename_i hg
    rw [guard_sound hc hf hN hg]
    exact hk undef H ρ undef w h (undef_rel _ _) hr (Step.refl _ _)
  · cases h

theorem SRel.after {i : Nat} {o : Oper} {d : Option Nat} {ao : AOp} {gd : Option (Nat × Bool)} (hs : SRel w0 N ρ0 H0 φ H ρ a w) (hc : CS P N ops i o d ao gd) {v u : Value} {H' : Heap} {ρ' : Map} {w' : World} (hv : VRel ρ' H' v u) (hr : HRel w0 H' ρ' w') (hst : Step ρ H ρ' H') :
    SRel w0 N ρ0 H0 (putd d v φ) H' ρ' (a.put o.dst u) w' := by
  have hd := hc.dst
  refine ⟨?_, hr, hs.step.trans hst, by rw [put_size]; exact hs.size, by rw [put_defers]; exact hs.defers⟩
  rw [← hd]
  exact (hs.frel.step hst).putd (fun t ht => by rw [hs.size]; exact hc.lt t ht) hv

/-- A region in the text's order. -/
theorem ops_text {Q : Exit → Act → World → Prop} {K : Frame → Heap → Prop} (hQ : ∀ φ H ρ a w, SRel w0 N ρ0 H0 φ H ρ a w → K φ H → Q .normal a w) :
    ∀ (l : List Nat) (steps : List AStep) (φ : Frame) (H : Heap) (ρ : Map) (a : Act) (w : World), l.map (compStep P N ops) = steps.map (fun s => some (s.dst, s.op, s.guard)) → SRel w0 N ρ0 H0 φ H ρ a w → awpOps P steps K φ H → wpOps P ops Q l a w := by
  intro l
  induction l with
  | nil =>
    intro steps φ H ρ a w hl hs h
    cases steps with
    | nil => exact hQ φ H ρ a w hs h
    | cons _ _ => cases hl
  | cons i l ih =>
    intro steps φ H ρ a w hl hs h
    cases steps with
    | nil => cases hl
    | cons s steps =>
      simp only [List.map_cons, List.cons.injEq] at hl
      obtain ⟨o, hc⟩ := compStep_spec hl.1
      rw [wpOps_cons]
      exact stepV_sound hc hs.frel hs.hrel hs.size h fun v H' ρ' u w' hK hv hr hst => ih steps _ H' ρ' _ w' hl.2 (hs.after hc hv hr hst) hK.2
end
end Go.Gx
