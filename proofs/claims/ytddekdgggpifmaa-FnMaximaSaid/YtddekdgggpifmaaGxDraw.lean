/-
  A region that draws its order: one order, picked well, serves every order.
-/
import Derived.Test.YtddekdgggpifmaaGxSound
namespace Go.Gx
set_option linter.unusedSimpArgs false
set_option linter.unusedVariables false
open Go.RowKit (Below)

/-! ### ancestors -/
inductive Anc (ops : Array Oper) : Nat → Nat → Prop
  | edge {i : Nat} {o : Oper} {e : Edge} : ops[i]? = some o → e ∈ o.after → Region.binds .any e = true → Anc ops e.on i
  | step {a i : Nat} {o : Oper} {e : Edge} : ops[i]? = some o → e ∈ o.after → Region.binds .any e = true → Anc ops a e.on → Anc ops a i

theorem before_sound (ops : Array Oper) : (Region.before ops).size = ops.size ∧ ∀ i a, i < ops.size → ((Region.before ops).getD i 0).testBit a = true → Anc ops a i := by
  unfold Region.before
  refine Array.foldl_induction (motive := fun k (acc : Array Nat) => acc.size = k ∧ ∀ i a, i < k → (acc.getD i 0).testBit a = true → Anc ops a i) ⟨rfl, fun i a hi => absurd hi (by omega)⟩ ?_
  intro ⟨k, hk⟩ acc ⟨hs, ih⟩
  refine ⟨by simp [hs], fun i a hi ht => ?_⟩
  simp only at hs ih hi
  by_cases hik : i = k
  · subst hik
    have hget : ∀ x : Nat, (acc.push x).getD i 0 = x := fun x => by
      rw [Array.getD_eq_getD_getElem?]
      simp [← hs]
    rw [hget] at ht
    have ho : ops[i]? = some ops[i] := Array.getElem?_eq_getElem hk
    revert ht
    refine Array.foldl_induction (motive := fun j (s : Nat) => s.testBit a = true → Anc ops a i) (fun h => by simp at h) ?_
    intro ⟨j, hj⟩ s ihs h
    split at h
    · rename_i hb
      rw [Nat.testBit_or, Nat.testBit_or] at h
      have hmem : (ops[i].after)[j] ∈ ops[i].after := Array.getElem_mem hj
      simp only [Bool.or_eq_true] at h
      rcases h with (h | h) | h
      · exact ihs h
      · rw [Nat.testBit_two_pow] at h
        have : (ops[i].after)[j].on = a := by simpa using h
        rw [← this]
        exact .edge ho hmem hb
      · by_cases hlt : (ops[i].after)[j].on < i
        · exact .step ho hmem hb (ih _ _ hlt h)
        · have : acc.getD (ops[i].after)[j].on 0 = 0 := by
            rw [Array.getD_eq_getD_getElem?, Array.getElem?_eq_none (by omega)]; rfl
          have h0 : (0 : Nat).testBit a = true := this ▸ h
          simp at h0
    · exact ihs h
  · have hget : ∀ x : Nat, (acc.push x).getD i 0 = acc.getD i 0 := fun x => by
      rw [Array.getD_eq_getD_getElem?, Array.getD_eq_getD_getElem?, Array.getElem?_push, if_neg (by omega)]
    rw [hget] at ht
    exact ih i a (by omega) ht

/-- Once more over all edges: for edges that lead to a later operation. -/
def closeB (ops : Array Oper) (m0 : Array Nat) : Array Nat :=
  (List.range ops.size).foldl (fun m k => m.setIfInBounds k (match ops[k]? with
    | some o => o.after.foldl (fun s e => if Region.binds .any e then s ||| 2 ^ e.on ||| m.getD e.on 0 else s) 0
    | none => 0)) m0
def ancOf (ops : Array Oper) : Array Nat := closeB ops (closeB ops (Region.before ops))
theorem closeB_sound {ops : Array Oper} {m0 : Array Nat} (h0 : ∀ i a, (m0.getD i 0).testBit a = true → Anc ops a i) : ∀ i a, ((closeB ops m0).getD i 0).testBit a = true → Anc ops a i := by
  unfold closeB
  have key : ∀ (l : List Nat) (m : Array Nat), (∀ i a, (m.getD i 0).testBit a = true → Anc ops a i) → ∀ i a, ((l.foldl (fun m k => m.setIfInBounds k (match ops[k]? with
      | some o => o.after.foldl (fun s e => if Region.binds .any e then s ||| 2 ^ e.on ||| m.getD e.on 0 else s) 0
      | none => 0)) m).getD i 0).testBit a = true → Anc ops a i := by
    intro l
    induction l with
    | nil => exact fun m hm => hm
    | cons k l ih =>
      intro m hm
      refine ih _ fun i a ht => ?_
      by_cases hik : k = i
      · subst hik
        by_cases hlt : k < m.size
        · rw [Array.getD_eq_getD_getElem?, Array.getElem?_setIfInBounds_self_of_lt hlt, Option.getD_some] at ht
          cases ho : ops[k]? with
          | none => rw [ho] at ht; simp at ht
          | some o =>
            rw [ho] at ht
            simp only at ht
            revert ht
            refine Array.foldl_induction (motive := fun j (s : Nat) => s.testBit a = true → Anc ops a k) (fun h => by simp at h) ?_
            intro ⟨j, hj⟩ s ihs h
            split at h
            · rename_i hb
              rw [Nat.testBit_or, Nat.testBit_or] at h
              have hmem : (o.after)[j] ∈ o.after := Array.getElem_mem hj
              simp only [Bool.or_eq_true] at h
              rcases h with (h | h) | h
              · exact ihs h
              · rw [Nat.testBit_two_pow] at h
                have : (o.after)[j].on = a := by simpa using h
                rw [← this]
                exact .edge ho hmem hb
              · exact .step ho hmem hb (hm _ _ h)
            · exact ihs h
        · rw [Array.getD_eq_getD_getElem?, Array.getElem?_eq_none (by simp; omega)] at ht
          simp at ht
      · rw [Array.getD_eq_getD_getElem?, Array.getElem?_setIfInBounds_ne hik, ← Array.getD_eq_getD_getElem?] at ht
        exact hm i a ht
  exact key _ _ h0
theorem ancOf_sound (ops : Array Oper) : ∀ i a, ((ancOf ops).getD i 0).testBit a = true → Anc ops a i := by
  refine closeB_sound (closeB_sound fun i a h => ?_)
  by_cases hi : i < ops.size
  · exact (before_sound ops).2 i a hi h
  · rw [Array.getD_eq_getD_getElem?, Array.getElem?_eq_none (by rw [(before_sound ops).1]; omega)] at h
    simp at h

/-! ### what an operation looks at -/
def AOp.opnds : AOp → List Operand
  | .mv x | .ld x | .ldn _ x | .fa _ x | .fld _ x | .fldn _ _ x | .un _ x | .cv _ x | .ext x _ | .nc x | .len x | .re x | .im x | .f64bits x | .f32bits x | .f64from x | .f32from x | .fsqrt x | .fint _ x | .box _ x => [x]
  | .pick a b c => [a, b, c]
  | .ia x y | .bin _ x y | .beq _ x y | .mnx _ x y | .cx x y | .mks _ _ _ x y | .st x y | .stn _ x y | .app _ _ x y | .cpy x y => [x, y]
  | .mkf _ xs ys => xs ++ ys
  | .bld _ ps => ps.map (·.2.2)
  | .slc x lo hi => x :: (lo.toList ++ hi.toList)
  | .new .. => []
  | .bsl _ _ _ ps => ps.map (·.2)
  | .call _ xs => xs
  | .callv g xs => g :: xs
def tmpsOf (l : List Operand) : List Nat := l.filterMap fun | .tmp t => some t | _ => none
def looks (op : AOp) (gd : Option (Nat × Bool)) : List Nat := tmpsOf op.opnds ++ (match gd with | some (g, _) => [g] | none => [])

theorem ev_of_looks {op : AOp} {gd : Option (Nat × Bool)} {φ φ' : Frame} (h : ∀ t ∈ looks op gd, φ.get t = φ'.get t) {x : Operand} (hx : x ∈ op.opnds) : φ.ev x = φ'.ev x := by
  cases x with
  | tmp t => exact h t (List.mem_append_left _ (List.mem_filterMap.2 ⟨.tmp t, hx, rfl⟩))
  | _ => rfl
theorem guard_of_looks {op : AOp} {gd : Option (Nat × Bool)} {φ φ' : Frame} (h : ∀ t ∈ looks op gd, φ.get t = φ'.get t) : guardV φ gd = guardV φ' gd := by
  cases gd with
  | none => rfl
  | some g => simp only [guardV]; rw [h g.1 (List.mem_append_right _ (by simp))]

theorem map_ev {φ φ' : Frame} (l : List Operand) (h : ∀ x ∈ l, φ.ev x = φ'.ev x) : l.map φ.ev = l.map φ'.ev := List.map_congr_left h

theorem aval_congr {op : AOp} {φ φ' : Frame} {H : Heap} (h : ∀ x ∈ op.opnds, φ.ev x = φ'.ev x) : aval op φ H = aval op φ' H := by
  cases op <;> simp only [AOp.opnds, List.mem_cons, List.mem_append, List.not_mem_nil, or_false, forall_eq_or_imp, forall_eq] at h <;> simp only [aval]
  case mkf f xs ys => rw [map_ev xs fun x hx => h x (.inl hx), map_ev ys fun x hx => h x (.inr hx)]
  case bld tm ps =>
    have : (ps.map fun p => (p.1, p.2.1, φ.ev p.2.2)) = ps.map fun p => (p.1, p.2.1, φ'.ev p.2.2) := List.map_congr_left fun p hp => by rw [h _ (List.mem_map.2 ⟨p, hp, rfl⟩)]
    rw [this]
  case slc x lo hi =>
    have h1 := h.1
    have h2 : lo.map φ.ev = lo.map φ'.ev := by
      cases lo with
      | none => rfl
      | some y => simp only [Option.map_some]; rw [h.2 y (.inl (by simp))]
    have h3 : hi.map φ.ev = hi.map φ'.ev := by
      cases hi with
      | none => rfl
      | some y => simp only [Option.map_some]; rw [h.2 y (.inr (by simp))]
    rw [h1, h2, h3]
  all_goals first | rfl | (simp only [h]; done) | (rw [h.1, h.2]; done) | (rw [h.1, h.2.1, h.2.2]; done)

theorem aeff_congr {op : AOp} {φ φ' : Frame} {H : Heap} (h : ∀ x ∈ op.opnds, φ.ev x = φ'.ev x) : aeff op φ H = aeff op φ' H := by
  cases op <;> simp only [AOp.opnds, List.mem_cons, List.mem_append, List.not_mem_nil, or_false, forall_eq_or_imp, forall_eq] at h <;> simp only [aeff]
  case bsl e n z ps =>
    have : (ps.map fun p => (p.1, φ.ev p.2)) = ps.map fun p => (p.1, φ'.ev p.2) := List.map_congr_left fun p hp => by rw [h _ (List.mem_map.2 ⟨p, hp, rfl⟩)]
    rw [this]
  all_goals first | rfl | (simp only [h]; done) | (rw [h.1, h.2]; done)

theorem doV_congr {P : Program} {op : AOp} {φ φ' : Frame} {H : Heap} {K : Value → Heap → Prop} (h : ∀ x ∈ op.opnds, φ.ev x = φ'.ev x) : doV P op φ H K = doV P op φ' H K := by
  unfold doV
  split
  · rename_i f args
    rw [map_ev args h]
  · rename_i g args
    rw [h g (by simp [AOp.opnds]), map_ev args fun x hx => h x (by simp [AOp.opnds, hx])]
  · rw [aeff_congr h, aval_congr h]
theorem stepV_congr {P : Program} {op : AOp} {gd : Option (Nat × Bool)} {φ φ' : Frame} {H : Heap} {K : Value → Heap → Prop} (h : ∀ t ∈ looks op gd, φ.get t = φ'.get t) : stepV P op gd φ H K = stepV P op gd φ' H K := by
  unfold stepV
  rw [guard_of_looks h, doV_congr fun x hx => ev_of_looks h hx]
theorem aval_heap {op : AOp} (h : readsHeap op = false) (φ : Frame) (H H' : Heap) : aval op φ H = aval op φ H' := by
  cases op <;> first | rfl | cases h

/-! ### the check -/
def ancB (m : Array Nat) (a i : Nat) : Bool := (m.getD i 0).testBit a
def topoB (ops : Array Oper) : List Nat → List AStep → Bool
  | _, [] => true
  | pre, s :: r => (match ops[s.ix]? with
    | some o => o.after.all fun e => !Region.binds .any e || pre.contains e.on
    | none => false) && topoB ops (s.ix :: pre) r
def effB (m : Array Nat) : List AStep → Bool
  | [] => true
  | s :: r => (!isEff s.op || r.all fun k => ancB m s.ix k.ix) && effB m r
def cmpB (m : Array Nat) (steps : List AStep) : Bool :=
  steps.all fun i => match i.dst with
    | none => true
    | some t => steps.all fun j => i.ix == j.ix || !((looks j.op j.guard).contains t || j.dst == some t) || ancB m i.ix j.ix || ancB m j.ix i.ix
/-- From reader i on: an effect that does not wait for it finds all that i looked at as it was. -/
def stabB (m : Array Nat) (i : AStep) : Bool → List AStep → Bool
  | _, [] => true
  | clean, s :: r => (!isEff s.op || ancB m i.ix s.ix || clean) && stabB m i (clean && !(match s.dst with | some t => (looks i.op i.guard).contains t | none => false) && !(s.dst == i.dst)) r
def readB (m : Array Nat) : List AStep → Bool
  | [] => true
  | i :: r => (!readsHeap i.op || (i.dst.isSome && i.dst.all (fun t => !(looks i.op i.guard).contains t) && stabB m i true r)) && readB m r
def rcOf (m : Array Nat) (pre : List AStep) (s : AStep) : List (Option Nat × AOp × Option (Nat × Bool)) :=
  if isEff s.op = true then (pre.filter fun i => readsHeap i.op && !ancB m i.ix s.ix).map fun i => (i.dst, i.op, i.guard) else []
def addRc (m : Array Nat) : List AStep → List AStep → List AStep
  | _, [] => []
  | pre, s :: r => { s with rc := rcOf m pre s } :: addRc m (pre ++ [s]) r
def okPlan (ops : Array Oper) (steps : List AStep) : Bool :=
  let m := ancOf ops
  decide (steps.map (·.ix)).Nodup && steps.length == ops.size && steps.all (fun s => decide (s.ix < ops.size)) && topoB ops [] steps && effB m steps && cmpB m steps && readB m steps

structure Plan (ops : Array Oper) (steps : List AStep) : Prop where
  nodup : (steps.map (·.ix)).Nodup
  len : steps.length = ops.size
  lt : ∀ s ∈ steps, s.ix < ops.size
  topo : ∀ pre s post, steps = pre ++ s :: post → ∀ o, ops[s.ix]? = some o → ∀ e ∈ o.after, Region.binds .any e = true → ∃ p ∈ pre, p.ix = e.on
  eff : ∀ pre s post, steps = pre ++ s :: post → isEff s.op = true → ∀ k ∈ post, Anc ops s.ix k.ix
  cmp : ∀ i ∈ steps, ∀ j ∈ steps, i.ix ≠ j.ix → ∀ t, i.dst = some t → (t ∈ looks j.op j.guard ∨ j.dst = some t) → Anc ops i.ix j.ix ∨ Anc ops j.ix i.ix
  read : ∀ pre i mid s post, steps = pre ++ i :: (mid ++ s :: post) → readsHeap i.op = true → isEff s.op = true → ¬ Anc ops i.ix s.ix →
    i.dst.isSome = true ∧ (∀ t, i.dst = some t → t ∉ looks i.op i.guard) ∧ ∀ k ∈ mid, k.dst ≠ i.dst ∧ ∀ t, k.dst = some t → t ∉ looks i.op i.guard

theorem topoB_spec {ops : Array Oper} : ∀ (l : List AStep) (pre0 : List Nat), topoB ops pre0 l = true → ∀ pre s post, l = pre ++ s :: post → ∀ o, ops[s.ix]? = some o → ∀ e ∈ o.after, Region.binds .any e = true → e.on ∈ pre0 ∨ ∃ p ∈ pre, p.ix = e.on := by
  intro l
  induction l with
  | nil => intro _ _ pre s post h; simp at h
  | cons x r ih =>
    intro pre0 h pre s post hl o ho e he hb
    simp only [topoB, Bool.and_eq_true] at h
    cases pre with
    | nil =>
      simp only [List.nil_append, List.cons.injEq] at hl
      obtain ⟨rfl, rfl⟩ := hl
      rw [ho] at h
      have := Array.all_eq_true_iff_forall_mem.1 h.1 e he
      simp only [hb, Bool.not_true, Bool.false_or, List.contains_iff_mem] at this
      exact .inl this
    | cons y pre =>
      simp only [List.cons_append, List.cons.injEq] at hl
      obtain ⟨rfl, rfl⟩ := hl
      rcases ih _ h.2 pre s post rfl o ho e he hb with h' | ⟨p, hp, hpe⟩
      · rcases List.mem_cons.1 h' with h' | h'
        · exact .inr ⟨x, by simp, h'.symm⟩
        · exact .inl h'
      · exact .inr ⟨p, by simp [hp], hpe⟩
theorem effB_spec {m : Array Nat} : ∀ (l : List AStep), effB m l = true → ∀ pre s post, l = pre ++ s :: post → isEff s.op = true → ∀ k ∈ post, ancB m s.ix k.ix = true := by
  intro l
  induction l with
  | nil => intro _ pre s post h; simp at h
  | cons x r ih =>
    intro h pre s post hl hs k hk
    simp only [effB, Bool.and_eq_true, Bool.or_eq_true, Bool.not_eq_true'] at h
    cases pre with
    | nil =>
      simp only [List.nil_append, List.cons.injEq] at hl
      obtain ⟨rfl, rfl⟩ := hl
      rcases h.1 with h1 | h1
      · rw [hs] at h1; cases h1
      · exact List.all_eq_true.1 h1 k hk
    | cons y pre =>
      simp only [List.cons_append, List.cons.injEq] at hl
      obtain ⟨rfl, rfl⟩ := hl
      exact ih h.2 pre s post rfl hs k hk
theorem stabB_spec {m : Array Nat} {i : AStep} : ∀ (l : List AStep) (clean : Bool), stabB m i clean l = true → ∀ mid s post, l = mid ++ s :: post → isEff s.op = true → ancB m i.ix s.ix = false →
    clean = true ∧ ∀ k ∈ mid, k.dst ≠ i.dst ∧ ∀ t, k.dst = some t → t ∉ looks i.op i.guard := by
  intro l
  induction l with
  | nil => intro _ _ mid s post h; simp at h
  | cons x r ih =>
    intro clean h mid s post hl hs ha
    simp only [stabB, Bool.and_eq_true, Bool.or_eq_true, Bool.not_eq_true'] at h
    cases mid with
    | nil =>
      simp only [List.nil_append, List.cons.injEq] at hl
      obtain ⟨rfl, rfl⟩ := hl
      refine ⟨?_, by simp⟩
      rcases h.1 with (h1 | h1) | h1
      · rw [hs] at h1; cases h1
      · rw [ha] at h1; cases h1
      · exact h1
    | cons y mid =>
      simp only [List.cons_append, List.cons.injEq] at hl
      obtain ⟨rfl, rfl⟩ := hl
      obtain ⟨hc, hm⟩ := ih _ h.2 mid s post rfl hs ha
      simp only [Bool.and_eq_true, Bool.not_eq_true', beq_eq_false_iff_ne] at hc
      refine ⟨hc.1.1, fun k hk => ?_⟩
      rcases List.mem_cons.1 hk with rfl | hk
      · refine ⟨hc.2, fun t ht => ?_⟩
        have := hc.1.2
        rw [ht] at this
        simpa using this
      · exact hm k hk
theorem readB_spec {m : Array Nat} : ∀ (l : List AStep), readB m l = true → ∀ pre i post, l = pre ++ i :: post → readsHeap i.op = true → i.dst.isSome = true ∧ (∀ t, i.dst = some t → t ∉ looks i.op i.guard) ∧ stabB m i true post = true := by
  intro l
  induction l with
  | nil => intro _ pre s post h; simp at h
  | cons x r ih =>
    intro h pre i post hl hi
    simp only [readB, Bool.and_eq_true, Bool.or_eq_true, Bool.not_eq_true'] at h
    cases pre with
    | nil =>
      simp only [List.nil_append, List.cons.injEq] at hl
      obtain ⟨rfl, rfl⟩ := hl
      rcases h.1 with h1 | h1
      · rw [hi] at h1; cases h1
      · exact ⟨h1.1.1, fun t ht => by have := h1.1.2; rw [ht] at this; simpa using this, h1.2⟩
    | cons y pre =>
      simp only [List.cons_append, List.cons.injEq] at hl
      obtain ⟨rfl, rfl⟩ := hl
      exact ih h.2 pre i post rfl hi

theorem okPlan_spec {ops : Array Oper} {steps : List AStep} (h : okPlan ops steps = true) : Plan ops steps := by
  unfold okPlan at h
  simp only [Bool.and_eq_true, decide_eq_true_eq, beq_iff_eq] at h
  obtain ⟨⟨⟨⟨⟨⟨h1, h2⟩, h3⟩, h4⟩, h5⟩, h6⟩, h7⟩ := h
  have hlt : ∀ s ∈ steps, s.ix < ops.size := fun s hs => by simpa using List.all_eq_true.1 h3 s hs
  have hanc : ∀ a i, i < ops.size → ancB (ancOf ops) a i = true → Anc ops a i := fun a i hi h => ancOf_sound ops i a h
  refine ⟨h1, h2, hlt, fun pre s post hl o ho e he hb => ?_, fun pre s post hl hs k hk => ?_, fun i hi j hj hne t ht hlk => ?_, fun pre i mid s post hl hr hs hna => ?_⟩
  · rcases topoB_spec _ _ h4 pre s post hl o ho e he hb with h' | h'
    · cases h'
    · exact h'
  · exact hanc _ _ (hlt k (by rw [hl]; simp [hk])) (effB_spec _ h5 pre s post hl hs k hk)
  · have := List.all_eq_true.1 h6 i hi
    rw [ht] at this
    have := List.all_eq_true.1 this j hj
    simp only [Bool.or_eq_true, beq_iff_eq, Bool.not_eq_true', Bool.or_eq_false_iff, beq_eq_false_iff_ne] at this
    rcases this with ((h' | h') | h') | h'
    · exact absurd h' hne
    · rcases hlk with hlk | hlk
      · exact absurd hlk (by simpa using h'.1)
      · exact absurd hlk h'.2
    · exact .inl (hanc _ _ (hlt j hj) h')
    · exact .inr (hanc _ _ (hlt i hi) h')
  · obtain ⟨g1, g3, g2⟩ := readB_spec _ h7 pre i (mid ++ s :: post) hl hr
    have hf : ancB (ancOf ops) i.ix s.ix = false := by
      cases hh : ancB (ancOf ops) i.ix s.ix with
      | false => rfl
      | true => exact absurd (hanc _ _ (hlt s (by rw [hl]; simp)) hh) hna
    exact ⟨g1, g3, (stabB_spec _ _ g2 mid s post rfl hs hf).2⟩
end Go.Gx
