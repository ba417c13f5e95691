/-
  What the abstract machine shows of a function's code, a call of it does.
-/
import Derived.Test.YtddekdgggpifmaaGxBoth
import Derived.Tactics
namespace Go.Gx
set_option linter.unusedSimpArgs false
set_option linter.unusedVariables false
open Go.RowKit (Below)

def step0 (P : Program) (N : Nat) (ops : Array Oper) (i : Nat) : Option AStep := (compStep P N ops i).map fun r => ⟨i, r.1, r.2.1, r.2.2, []⟩
def steps0 (P : Program) (N : Nat) (ops : Array Oper) : List Nat → Option (List AStep)
  | [] => some []
  | i :: r => match step0 P N ops i, steps0 P N ops r with
    | some s, some l => some (s :: l)
    | _, _ => none
def compRegion (P : Program) (N : Nat) (ops : Array Oper) (draw : Bool) (hs : List AStep) : Option (List AStep) :=
  if draw = false then steps0 P N ops (List.range ops.size)
  else match steps0 P N ops (hs.map (·.ix)) with
    | some l => if okPlan ops l = true then some (addRc (ancOf ops) [] l) else none
    | none => none
def comp (P : Program) (N : Nat) : Code → ACode → Option ACode
  | c, .keep L a => (comp P N c a).map (.keep L)
  | .skip, .skip => some .skip
  | .region id ops true, .both i j x y => if i = j then none else match comp P N (.region id (addEdge ops i j) true) x, comp P N (.region id (addEdge ops j i) true) y with
    | some x', some y' => some (.both i j x' y')
    | _, _ => none
  | .region _ ops draw, .ops hs => (compRegion P N ops draw hs).map .ops
  | .seq a b, .seq x y => match comp P N a x, comp P N b y with
    | some x', some y' => some (.seq x' y')
    | _, _ => none
  | .cond c a b, .cond _ x y => if opndOk c = true then
      match comp P N a x, comp P N b y with
      | some x', some y' => some (.cond c x' y')
      | _, _ => none
    else none
  | .block id a, .block _ x => (comp P N a x).map (.block id)
  | .loop a, .loop live x => (comp P N a x).map (.loop live)
  | .exit id, .exit _ => some (.exit id)
  | .ret, .ret => some .ret
  | _, _ => none

theorem steps0_spec {P : Program} {N : Nat} {ops : Array Oper} : ∀ {l : List Nat} {steps : List AStep}, steps0 P N ops l = some steps → l.map (compStep P N ops) = steps.map (fun s => some (s.dst, s.op, s.guard)) ∧ steps.map (·.ix) = l
  | [], steps, h => by cases h; exact ⟨rfl, rfl⟩
  | i :: l, steps, h => by
    simp only [steps0] at h
    split at h
    · rename_i s r hs hr
      cases h
      obtain ⟨h1, h2⟩ := steps0_spec hr
      unfold step0 at hs
      obtain ⟨q, hq, rfl⟩ := Option.map_eq_some_iff.1 hs
      exact ⟨by simp [hq, h1], by simp [h2]⟩
    · cases h

theorem addRc_spec (m : Array Nat) : ∀ (l pre : List AStep), (addRc m pre l).map (fun s => (s.ix, s.dst, s.op, s.guard)) = l.map (fun s => (s.ix, s.dst, s.op, s.guard)) ∧
    ∀ pre' s post, addRc m pre l = pre' ++ s :: post → ∃ q, l.take pre'.length = q ∧ s.rc = rcOf m (pre ++ q) s := by
  intro l
  induction l with
  | nil => exact fun pre => ⟨rfl, fun pre' s post h => by simp [addRc] at h⟩
  | cons x l ih =>
    intro pre
    refine ⟨by simp [addRc, (ih _).1], fun pre' s post h => ?_⟩
    simp only [addRc] at h
    cases pre' with
    | nil =>
      simp only [List.nil_append, List.cons.injEq] at h
      obtain ⟨rfl, _⟩ := h
      exact ⟨[], rfl, by simp [rcOf]⟩
    | cons y pre' =>
      simp only [List.cons_append, List.cons.injEq] at h
      obtain ⟨rfl, h⟩ := h
      obtain ⟨q, hq, hr⟩ := (ih (pre ++ [x])).2 pre' s post h
      exact ⟨x :: q, by simp [hq], by rw [hr]; simp⟩

/-- rcOf looks at no 'rc'. -/
theorem rcOf_congr (m : Array Nat) {l l' : List AStep} (h : l.map (fun s => (s.ix, s.dst, s.op, s.guard)) = l'.map (fun s => (s.ix, s.dst, s.op, s.guard))) (s : AStep) : rcOf m l s = rcOf m l' s := by
  unfold rcOf
  split
  · induction l generalizing l' with
    | nil =>
      cases l' with
      | nil => rfl
      | cons _ _ => simp at h
    | cons x l ih =>
      cases l' with
      | nil => simp at h
      | cons y l' =>
        simp only [List.map_cons, List.cons.injEq, Prod.mk.injEq] at h
        obtain ⟨⟨h1, h2, h3, h4⟩, h5⟩ := h
        rw [List.filter_cons, List.filter_cons, h1, h3]
        split
        · simp only [List.map_cons, h2, h3, h4]
          rw [ih h5]
        · exact ih h5
  · rfl

theorem plan_congr {ops : Array Oper} {l l' : List AStep} (h : l.map (fun s => (s.ix, s.dst, s.op, s.guard)) = l'.map (fun s => (s.ix, s.dst, s.op, s.guard))) (hp : Plan ops l) : Plan ops l' := by
  have hlen : l.length = l'.length := by simpa using congrArg List.length h
  have hget : ∀ (i : Nat) (s' : AStep), l'[i]? = some s' → ∃ s, l[i]? = some s ∧ s.ix = s'.ix ∧ s.dst = s'.dst ∧ s.op = s'.op ∧ s.guard = s'.guard := fun i s' hs' => by
    have := congrArg (fun q : List (Nat × Option Nat × AOp × Option (Nat × Bool)) => q[i]?) h
    simp only [List.getElem?_map, hs', Option.map_some] at this
    cases hs : l[i]? with
    | none => rw [hs] at this; cases this
    | some s =>
      rw [hs] at this
      simp only [Option.map_some, Option.some.injEq, Prod.mk.injEq] at this
      exact ⟨s, rfl, this.1, this.2.1, this.2.2.1, this.2.2.2⟩
  have hmem : ∀ s' ∈ l', ∃ s ∈ l, s.ix = s'.ix ∧ s.dst = s'.dst ∧ s.op = s'.op ∧ s.guard = s'.guard := fun s' hs' => by
    obtain ⟨i, hi⟩ := List.getElem?_of_mem hs'
    obtain ⟨s, hs, e⟩ := hget i s' hi
    exact ⟨s, List.mem_of_getElem? hs, e⟩
  have hix : l.map (·.ix) = l'.map (·.ix) := by
    have := congrArg (List.map (fun q : Nat × Option Nat × AOp × Option (Nat × Bool) => q.1)) h
    simpa [List.map_map, Function.comp_def] using this
  have hsplit : ∀ (pre : List AStep) (s : AStep) (post : List AStep), l' = pre ++ s :: post → ∃ pre0 s0 post0, l = pre0 ++ s0 :: post0 ∧ pre0.map (fun s => (s.ix, s.dst, s.op, s.guard)) = pre.map (fun s => (s.ix, s.dst, s.op, s.guard)) ∧ s0.ix = s.ix ∧ s0.dst = s.dst ∧ s0.op = s.op ∧ s0.guard = s.guard ∧
      post0.map (fun s => (s.ix, s.dst, s.op, s.guard)) = post.map (fun s => (s.ix, s.dst, s.op, s.guard)) := by
    intro pre s post hl
    rw [hl, List.map_append, List.map_cons] at h
    obtain ⟨pre0, rest, rfl, h1, h2⟩ := List.map_eq_append_iff.1 h
    obtain ⟨s0, post0, rfl, h3, h4⟩ := List.map_eq_cons_iff.1 h2
    simp only [Prod.mk.injEq] at h3
    exact ⟨pre0, s0, post0, rfl, h1, h3.1, h3.2.1, h3.2.2.1, h3.2.2.2, h4⟩
  have hin : ∀ {a b : List AStep}, a.map (fun s => (s.ix, s.dst, s.op, s.guard)) = b.map (fun s => (s.ix, s.dst, s.op, s.guard)) → ∀ x ∈ b, ∃ y ∈ a, y.ix = x.ix ∧ y.dst = x.dst ∧ y.op = x.op ∧ y.guard = x.guard := fun {a b} hab x hx => by
    have : (x.ix, x.dst, x.op, x.guard) ∈ a.map (fun s => (s.ix, s.dst, s.op, s.guard)) := by rw [hab]; exact List.mem_map.2 ⟨x, hx, rfl⟩
    obtain ⟨y, hy, e⟩ := List.mem_map.1 this
    simp only [Prod.mk.injEq] at e
    exact ⟨y, hy, e⟩
  refine ⟨by rw [← hix]; exact hp.nodup, by rw [← hlen]; exact hp.len, fun s hs => ?_, fun pre s post hl o ho e he hb => ?_, fun pre s post hl hs k hk => ?_, fun i hi j hj hne t ht hlk => ?_, fun pre i mid s post hl hr hs hna => ?_⟩
  · obtain ⟨s0, hs0, e, _⟩ := hmem s hs
    rw [← e]; exact hp.lt s0 hs0
  · obtain ⟨pre0, s0, post0, hl0, h1, e1, _, _, _, _⟩ := hsplit pre s post hl
    obtain ⟨p, hpp, hpe⟩ := hp.topo pre0 s0 post0 hl0 o (by rw [e1]; exact ho) e he hb
    obtain ⟨q, hq, hqe⟩ := hin h1.symm p hpp
    exact ⟨q, hq, by rw [hqe.1, hpe]⟩
  · obtain ⟨pre0, s0, post0, hl0, h1, e1, _, e3, _, h5⟩ := hsplit pre s post hl
    obtain ⟨k0, hk0, hke⟩ := hin h5 k hk
    rw [← e1, ← hke.1]
    exact hp.eff pre0 s0 post0 hl0 (by rw [e3]; exact hs) k0 hk0
  · obtain ⟨i0, hi0, a1, a2, a3, a4⟩ := hmem i hi
    obtain ⟨j0, hj0, b1, b2, b3, b4⟩ := hmem j hj
    rw [← a1, ← b1]
    exact hp.cmp i0 hi0 j0 hj0 (by rw [a1, b1]; exact hne) t (by rw [a2]; exact ht) (by rw [b2, b3, b4]; exact hlk)
  · obtain ⟨pre0, i0, rest0, hl0, h1, e1, e2, e3, e4, h5⟩ := hsplit pre i (mid ++ s :: post) hl
    rw [List.map_append, List.map_cons] at h5
    obtain ⟨mid0, rest1, rfl, h6, h7⟩ := List.map_eq_append_iff.1 h5
    obtain ⟨s0, post0, rfl, h8, h9⟩ := List.map_eq_cons_iff.1 h7
    simp only [Prod.mk.injEq] at h8
    obtain ⟨g1, g2, g3⟩ := hp.read pre0 i0 mid0 s0 post0 hl0 (by rw [e3]; exact hr) (by rw [h8.2.2.1]; exact hs) (by rw [e1, h8.1]; exact hna)
    rw [e2, e3, e4] at g2 g3
    rw [e2] at g1
    refine ⟨g1, g2, fun k hk => ?_⟩
    obtain ⟨k0, hk0, hke⟩ := hin h6 k hk
    have := g3 k0 hk0
    rw [hke.2.1] at this
    exact this

/-- Exits, told twice. -/
def toE : AExit → Exit
  | .normal => .normal
  | .exit id => .exit id
  | .ret => .ret
def lift (w0 : World) (N : Nat) (ρ0 : Map) (H0 : Heap) (Q : AExit → Frame → Heap → Prop) (e : Exit) (a : Act) (w : World) : Prop :=
  ∃ e' φ H ρ, e = toE e' ∧ SRel w0 N ρ0 H0 φ H ρ a w ∧ Q e' φ H

theorem get_keep (L : List Nat) (φ : Frame) (t : Nat) : (φ.keep L).get t = if t ∈ L then φ.get t else junk := by
  unfold Frame.keep
  induction L with
  | nil => rfl
  | cons x L ih =>
    simp only [List.map_cons, Frame.get, ih, List.mem_cons]
    by_cases hx : x = t
    · subst hx; simp
    · rw [if_neg hx]
      by_cases ht : t ∈ L
      · rw [if_pos ht, if_pos (.inr ht)]
      · rw [if_neg ht, if_neg]
        rintro (h | h)
        · exact hx h.symm
        · exact ht h
theorem FRel.keep {ρ : Map} {H : Heap} {φ : Frame} {a : Act} (h : FRel ρ H φ a) (L : List Nat) : FRel ρ H (φ.keep L) a := fun t => by
  rw [get_keep]
  split
  · exact h t
  · exact .junk _
theorem get_zip (L : List Nat) (φ : Frame) : L.zip (L.map φ.get) = φ.keep L := by
  unfold Frame.keep
  induction L with
  | nil => rfl
  | cons x L ih => simp [ih]

section
variable {P : Program} {N : Nat} {w0 : World} {ρ0 : Map} {H0 : Heap}

theorem wp_loop_rel {c : Code} {Q : Exit → Act → World → Prop} (J : Nat → Act → World → Prop) {a : Act} {w : World} {n : Nat} (h0 : J n a w)
    (round : ∀ n a w, J n a w → c.wp P (Exit.then (fun a' w' => ∃ m, m < n ∧ J m a' w') Q) a w) : (Code.loop c).wp P Q a w := by
  classical
  have least : ∀ {p : Nat → Prop}, (∃ n, p n) → ∃ n, p n ∧ ∀ m, p m → n ≤ m := by
    intro p ⟨n, hn⟩
    induction n using Nat.strongRecOn with
    | _ n ih =>
      by_cases h : ∃ m, m < n ∧ p m
      · obtain ⟨m, hm, hp⟩ := h
        exact ih m hm hp
      · exact ⟨n, hn, fun m hp => Nat.le_of_not_lt fun hlt => h ⟨m, hlt, hp⟩⟩
  let μ : Act → World → Nat := fun a w => if h : ∃ n, J n a w then Classical.choose (least h) else 0
  refine wp_loop (fun a w => ∃ n, J n a w) μ ⟨n, h0⟩ ?_
  intro a w h
  have hJ : J (μ a w) a w := by
    show J (if h : ∃ n, J n a w then Classical.choose (least h) else 0) a w
    rw [dif_pos h]
    exact (Classical.choose_spec (least h)).1
  refine wp_mono (round _ a w hJ) ?_
  intro e a' w' hq
  cases e with
  | normal =>
    obtain ⟨m, hm, hj⟩ := hq
    refine ⟨⟨m, hj⟩, ?_⟩
    have : μ a' w' ≤ m := by
      show (if h : ∃ n, J n a' w' then Classical.choose (least h) else 0) ≤ m
      rw [dif_pos ⟨m, hj⟩]
      exact (Classical.choose_spec (least ⟨m, hj⟩)).2 m hj
    omega
  | _ => exact hq

theorem getD_rep (n i : Nat) : ((Array.replicate n false)[i]?).getD false = false := by
  rcases Nat.lt_or_ge i n with h | h <;> simp [h]

theorem region_text {id : Nat} {ops : Array Oper} {hs l : List AStep} (hc : compRegion P N ops false hs = some l) {Q : AExit → Frame → Heap → Prop} {φ : Frame} {H : Heap} {ρ : Map} {a : Act} {w : World}
    (h : awpOps P l (Q .normal) φ H) (hr : SRel w0 N ρ0 H0 φ H ρ a w) : (Code.region id ops false).wp P (lift w0 N ρ0 H0 Q) a w := by
  have hQ : ∀ φ H ρ a w, SRel w0 N ρ0 H0 φ H ρ a w → Q .normal φ H → lift w0 N ρ0 H0 Q .normal a w := fun φ H ρ a w hr hq => ⟨.normal, φ, H, ρ, rfl, hr, hq⟩
  unfold compRegion at hc
  rw [if_pos rfl] at hc
  obtain ⟨h1, h2⟩ := steps0_spec hc
  exact wp_region (ops_text hQ _ l φ H ρ a w h1 hr h)

theorem region_any {ops : Array Oper} {hs l : List AStep} (hc : compRegion P N ops true hs = some l) {Q : AExit → Frame → Heap → Prop} {φ : Frame} {H : Heap} {ρ : Map} {a : Act} {w : World}
    (h : awpOps P l (Q .normal) φ H) (hr : SRel w0 N ρ0 H0 φ H ρ a w) : wpAny P .any ops (lift w0 N ρ0 H0 Q) ops.size (Array.replicate ops.size false) a w.drew := by
  have hQ : ∀ φ H ρ a w, SRel w0 N ρ0 H0 φ H ρ a w → Q .normal φ H → lift w0 N ρ0 H0 Q .normal a w := fun φ H ρ a w hr hq => ⟨.normal, φ, H, ρ, rfl, hr, hq⟩
  unfold compRegion at hc
  rw [if_neg (by simp)] at hc
  split at hc
  · rename_i l0 hl0
    split at hc
    · rename_i hok
      cases hc
      obtain ⟨h1, h2⟩ := steps0_spec hl0
      obtain ⟨e1, e2⟩ := addRc_spec (ancOf ops) l0 []
      have hp : Plan ops (addRc (ancOf ops) [] l0) := plan_congr e1.symm (okPlan_spec hok)
      have hcs : ∀ s ∈ addRc (ancOf ops) [] l0, ∃ o, CS P N ops s.ix o s.dst s.op s.guard := fun s hs' => by
        have : (s.ix, s.dst, s.op, s.guard) ∈ l0.map (fun s => (s.ix, s.dst, s.op, s.guard)) := by rw [← e1]; exact List.mem_map.2 ⟨s, hs', rfl⟩
        obtain ⟨s0, hs0, e⟩ := List.mem_map.1 this
        simp only [Prod.mk.injEq] at e
        obtain ⟨a1, a2, a3, a4⟩ := e
        have hcomp : compStep P N ops s0.ix = some (s0.dst, s0.op, s0.guard) := by
          obtain ⟨i, hi⟩ := List.getElem?_of_mem hs0
          have g1 := congrArg (fun q => q[i]?) h1
          have g2 := congrArg (fun q => q[i]?) h2
          simp only [List.getElem?_map, hi, Option.map_some] at g1 g2
          rw [← g2] at g1
          simpa using g1
        obtain ⟨o, ho⟩ := compStep_spec hcomp
        rw [a1, a2, a3, a4] at ho
        exact ⟨o, ho⟩
      have hrc : ∀ pre s post, addRc (ancOf ops) [] l0 = pre ++ s :: post → s.rc = rcOf (ancOf ops) pre s := fun pre s post hl => by
        obtain ⟨q, hq, hr'⟩ := e2 pre s post hl
        rw [hr', List.nil_append]
        refine rcOf_congr _ ?_ s
        rw [← hq]
        have := congrArg (fun x => x.take pre.length) e1
        simp only [← List.map_take] at this
        rw [← this, hl]
        simp
      have I : Inv P N ops w0 ρ0 H0 φ (addRc (ancOf ops) [] l0) (Q .normal) [] (addRc (ancOf ops) [] l0) (Array.replicate ops.size false) H ρ a w.drew :=
        ⟨rfl, h, fun pre p post hd => by simp at hd, fun i hi => (by simp [Listed, getD_rep] at hi), fun i o _ hi => (by simp [Listed, getD_rep] at hi), by simp, ⟨hr.frel, hr.hrel.drewN 1, hr.step, hr.size, hr.defers⟩⟩
      obtain ⟨done', rem', I', hsat⟩ := saturate hp _ _ I
      have hcount : ((addRc (ancOf ops) [] l0).filter fun s => !((Array.replicate ops.size false).getD s.ix false)).length = ops.size := by
        rw [List.filter_eq_self.2 (fun s _ => by simp [getD_rep]), hp.len]
      exact any_order hp hcs hrc hQ ops.size done' rem' _ H ρ a w.drew I' hsat hcount
    · cases hc
  · cases hc

theorem tree_sound : ∀ (x : ACode) (id : Nat) (ops : Array Oper) (y : ACode), comp P N (.region id ops true) x = some y → ∀ (Q : AExit → Frame → Heap → Prop) (φ : Frame) (H : Heap) (ρ : Map) (a : Act) (w : World), awp P y Q φ H → SRel w0 N ρ0 H0 φ H ρ a w →
    ∀ l, LinExt ops (Array.replicate ops.size false) l → wpOps P ops (lift w0 N ρ0 H0 Q) l a w.drew := by
  intro x
  induction x with
  | ops hs =>
    intro id ops y hc Q φ H ρ a w h hr l hl
    simp only [comp] at hc
    obtain ⟨l', hl', rfl⟩ := Option.map_eq_some_iff.1 hc
    exact hl.wp (region_any hl' h hr)
  | keep L x ih =>
    intro id ops y hc Q φ H ρ a w h hr l hl
    simp only [comp] at hc
    obtain ⟨y', hy', rfl⟩ := Option.map_eq_some_iff.1 hc
    exact ih id ops _ hy' Q _ H ρ a w h ⟨hr.frel.keep L, hr.hrel, hr.step, hr.size, hr.defers⟩ l hl
  | both i j x1 x2 ih1 ih2 =>
    intro id ops y hc Q φ H ρ a w h hr l hl
    simp only [comp] at hc
    split at hc
    · cases hc
    · rename_i hij
      split at hc
      · rename_i y1 y2 h1 h2
        cases hc
        rcases hl.split hij (by simp) (by simp [Listed, getD_rep]) (by simp [Listed, getD_rep]) with h' | h'
        · rw [← wpOps_add (i := i) (j := j)]
          exact ih1 id _ _ h1 Q φ H ρ a w h.1 hr l (by rw [addEdge_size]; exact h')
        · rw [← wpOps_add (i := j) (j := i)]
          exact ih2 id _ _ h2 Q φ H ρ a w h.2 hr l (by rw [addEdge_size]; exact h')
      · cases hc
  | _ =>
    intro id ops y hc
    simp only [comp] at hc
    cases hc

theorem region_sound (hm : P.follows .mixedOrders = true) {id : Nat} {ops : Array Oper} {draw : Bool} {x y : ACode} (hc : comp P N (.region id ops draw) x = some y) (hx : (∃ hs, x = .ops hs) ∨ ∃ i j a b, x = .both i j a b) {Q : AExit → Frame → Heap → Prop} {φ : Frame} {H : Heap} {ρ : Map} {a : Act} {w : World}
    (h : awp P y Q φ H) (hr : SRel w0 N ρ0 H0 φ H ρ a w) : (Code.region id ops draw).wp P (lift w0 N ρ0 H0 Q) a w := by
  cases draw with
  | false =>
    rcases hx with ⟨hs, rfl⟩ | ⟨i, j, x1, x2, rfl⟩
    · simp only [comp] at hc
      obtain ⟨l, hl, rfl⟩ := Option.map_eq_some_iff.1 hc
      exact region_text hl h hr
    · simp only [comp] at hc
      cases hc
  | true =>
    refine wp_region_draw fun t => ?_
    simp only [Region.schedule, hm, Bool.true_or, if_true]
    exact tree_sound x id ops y hc Q φ H ρ a w h hr _ (lin_start ops t)

theorem awp_sound (hm : P.follows .mixedOrders = true) : ∀ (x : ACode) (c : Code) (y : ACode), comp P N c x = some y → ∀ (Q : AExit → Frame → Heap → Prop) (φ : Frame) (H : Heap) (ρ : Map) (a : Act) (w : World), awp P y Q φ H → SRel w0 N ρ0 H0 φ H ρ a w → c.wp P (lift w0 N ρ0 H0 Q) a w := by
  intro x
  induction x with
  | skip =>
    intro c y hc Q φ H ρ a w h hr
    cases c <;> simp only [comp] at hc <;> cases hc
    exact wp_skip ⟨.normal, φ, H, ρ, rfl, hr, h⟩
  | ops hs =>
    intro c y hc Q φ H ρ a w h hr
    cases c <;> simp only [comp] at hc <;> first | (cases hc; done) | skip
    exact region_sound hm (x := .ops hs) (by simpa only [comp] using hc) (.inl ⟨_, rfl⟩) h hr
  | both i j x1 x2 ih1 ih2 =>
    intro c y hc Q φ H ρ a w h hr
    cases c with
    | region id ops draw => exact region_sound hm hc (.inr ⟨_, _, _, _, rfl⟩) h hr
    | _ => simp only [comp] at hc; cases hc
  | seq x1 x2 ih1 ih2 =>
    intro c y hc Q φ H ρ a w h hr
    cases c <;> simp only [comp] at hc <;> first | (cases hc; done) | skip
    split at hc
    · rename_i c1 c2 y1 y2 h1 h2
      cases hc
      refine wp_seq (wp_mono (ih1 _ _ h1 _ φ H ρ a w h hr) ?_)
      rintro e a' w' ⟨e', φ', H', ρ', rfl, hr', hq⟩
      cases e' with
      | normal => exact ih2 _ _ h2 Q φ' H' ρ' a' w' hq hr'
      | exit id => exact ⟨.exit id, φ', H', ρ', rfl, hr', hq⟩
      | ret => exact ⟨.ret, φ', H', ρ', rfl, hr', hq⟩
    · cases hc
  | cond _ x1 x2 ih1 ih2 =>
    intro c y hc Q φ H ρ a w h hr
    cases c <;> simp only [comp] at hc <;> first | (cases hc; done) | skip
    split at hc
    · rename_i cnd _ _ hop
      split at hc
      · rename_i y1 y2 h1 h2
        cases hc
        simp only [awp] at h
        split at h
        · rename_i t ht
          have hv := hr.frel.ev hop
          rw [ht] at hv
          have he : a.eval cnd = .bool t := by
            generalize a.eval cnd = u at hv
            cases hv
            rfl
          refine wp_cond he ?_
          cases t with
          | true => exact ih1 _ _ h1 Q φ H ρ a w h hr
          | false => exact ih2 _ _ h2 Q φ H ρ a w (by simpa using h) hr
        · cases h
      · cases hc
    · cases hc
  | block _ x ih =>
    intro c y hc Q φ H ρ a w h hr
    cases c <;> simp only [comp] at hc <;> first | (cases hc; done) | skip
    obtain ⟨y', hy', rfl⟩ := Option.map_eq_some_iff.1 hc
    refine wp_block (wp_mono (ih _ _ hy' _ φ H ρ a w h hr) ?_)
    rintro e a' w' ⟨e', φ', H', ρ', rfl, hr', hq⟩
    cases e' with
    | normal => exact ⟨.normal, φ', H', ρ', rfl, hr', hq⟩
    | exit id =>
      simp only [toE, Exit.inBlock]
      simp only [blockQ] at hq
      split
      · rename_i he
        rw [if_pos he] at hq
        exact ⟨.normal, φ', H', ρ', rfl, hr', hq⟩
      · rename_i he
        rw [if_neg he] at hq
        exact ⟨.exit id, φ', H', ρ', rfl, hr', hq⟩
    | ret => exact ⟨.ret, φ', H', ρ', rfl, hr', hq⟩
  | loop live x ih =>
    intro c y hc Q φ H ρ a w h hr
    cases c <;> simp only [comp] at hc <;> first | (cases hc; done) | skip
    obtain ⟨y', hy', rfl⟩ := Option.map_eq_some_iff.1 hc
    obtain ⟨I, μ, hI, hround⟩ := h
    refine wp_loop_rel (fun n a w => ∃ vs H ρ, I vs H ∧ μ vs H = n ∧ SRel w0 N ρ0 H0 (live.zip vs) H ρ a w) (n := μ (live.map φ.get) H) ⟨live.map φ.get, H, ρ, hI, rfl, ?_⟩ ?_
    · rw [get_zip]
      exact ⟨hr.frel.keep live, hr.hrel, hr.step, hr.size, hr.defers⟩
    · rintro n a' w' ⟨vs, H1, ρ1, hI1, rfl, hr1⟩
      refine wp_mono (ih _ _ hy' _ _ H1 ρ1 a' w' (hround vs H1 hI1) hr1) ?_
      rintro e a2 w2 ⟨e', φ2, H2, ρ2, rfl, hr2, hq⟩
      cases e' with
      | normal => exact ⟨_, hq.2, live.map φ2.get, H2, ρ2, hq.1, rfl, by rw [get_zip]; exact ⟨hr2.frel.keep live, hr2.hrel, hr2.step, hr2.size, hr2.defers⟩⟩
      | exit id => exact ⟨.exit id, φ2, H2, ρ2, rfl, hr2, hq⟩
      | ret => exact ⟨.ret, φ2, H2, ρ2, rfl, hr2, hq⟩
  | exit _ =>
    intro c y hc Q φ H ρ a w h hr
    cases c <;> simp only [comp] at hc <;> cases hc
    exact wp_exit ⟨.exit _, φ, H, ρ, rfl, hr, h⟩
  | ret =>
    intro c y hc Q φ H ρ a w h hr
    cases c <;> simp only [comp] at hc <;> cases hc
    exact wp_ret ⟨.ret, φ, H, ρ, rfl, hr, h⟩
  | keep L x ih =>
    intro c y hc Q φ H ρ a w h hr
    have hc' : (comp P N c x).map (.keep L) = some y := by cases c <;> simpa only [comp] using hc
    obtain ⟨y', hy', rfl⟩ := Option.map_eq_some_iff.1 hc'
    exact ih _ _ hy' Q _ H ρ a w h ⟨hr.frel.keep L, hr.hrel, hr.step, hr.size, hr.defers⟩
end

/-! ### a function -/
inductive ARes where
  | tmp (t : Nat)
  | cell (t : Nat)
  | celln (t n : Nat)
def compRes (P : Program) : ResultVar → Option ARes
  | .tmp t => some (.tmp t)
  | .cell a t => if scalarT P t = true then some (.cell a) else if aggT P t = true then (sizeT P t).map (.celln a) else none
def ares1 (φ : Frame) (H : Heap) : ARes → Option Value
  | .tmp t => some (φ.get t)
  | .cell t => aval (.ld (.tmp t)) φ H
  | .celln t n => aval (.ldn n (.tmp t)) φ H
def aresL (φ : Frame) (H : Heap) : List ARes → Option (List Value)
  | [] => some []
  | r :: l => match ares1 φ H r, aresL φ H l with
    | some v, some vs => some (v :: vs)
    | _, _ => none
def ares (φ : Frame) (H : Heap) (l : List ARes) : Option Value :=
  match aresL φ H l with
  | some [v] => some v
  | some vs => some (.tuple vs.toArray)
  | none => none
def finQ (res : List ARes) (Post : Value → Heap → Prop) : AExit → Frame → Heap → Prop
  | .exit _, _, _ => False
  | _, φ, H => match ares φ H res with
    | some v => Post v H
    | none => False
def compResL (P : Program) : List ResultVar → Option (List ARes)
  | [] => some []
  | r :: l => match compRes P r, compResL P l with
    | some x, some xs => some (x :: xs)
    | _, _ => none
def params : Nat → List Value → Frame
  | _, [] => []
  | i, v :: l => (i, v) :: params (i + 1) l

section
variable {P : Program} {w0 w : World} {H : Heap} {ρ : Map} {φ : Frame} {a : Act}

def resOne (tmps : Array Value) : ResultVar → Sem Value
  | .tmp t => pure (tmps.getD t undef)
  | .cell a t => do loadVar t (← asAddr (tmps.getD a undef))

theorem run_ld {ty : TypeId} {x : Operand} (hx : opndOk x = true) (ht : scalarT P ty = true) (hf : FRel ρ H φ a) (hr : HRel w0 H ρ w) {v : Value} (h : aval (.ld x) φ H = some v) :
    ∃ A u, a.eval x = .pointer (some A) ∧ (loadVar ty A).run P w = .ok u w ∧ VRel ρ H v u := by
  have hxv := hf.ev hx
  simp only [aval] at h
  split at h
  · rename_i i o t' hp
    split at h
    · rename_i b hb
      split at h
      · rename_i hl
        rw [hp] at hxv
        have hptr := ptr_live hxv hb hl
        obtain ⟨u, hu, hr'⟩ := hr.cell hb h
        refine ⟨_, u, hptr, ?_, hr'.1⟩
        simp [loadVar, isAgg_of_scalar ht, hu]
      · cases h
    · cases h
  · cases h
theorem run_ldn {ty : TypeId} {x : Operand} {n : Nat} (hx : opndOk x = true) (ht : aggT P ty = true) (hs : sizeT P ty = some n) (hf : FRel ρ H φ a) (hr : HRel w0 H ρ w) {v : Value} (h : aval (.ldn n x) φ H = some v) :
    ∃ A u, a.eval x = .pointer (some A) ∧ (loadVar ty A).run P w = .ok u w ∧ VRel ρ H v u := by
  have hxv := hf.ev hx
  simp only [aval] at h
  split at h
  · rename_i i o t' hp
    split at h
    · rename_i b hb
      split at h
      · rename_i hl
        cases h
        rw [hp] at hxv
        have hptr := ptr_live hxv hb hl.1
        have hcell : ∀ j, j < n → ∃ u, w.cell? (addrOf (ρ i) (o + j)) = some u ∧ ∀ v, b.cs[o + j]? = some v → CRel ρ H v u := fun j hj => by
          obtain ⟨u, hu, hr'⟩ := hr.cell hb (j := o + j) (v := b.cs[o + j]'(by omega)) (List.getElem?_eq_getElem (by omega))
          refine ⟨u, hu, fun v hv => ?_⟩
          rw [List.getElem?_eq_getElem (by omega)] at hv
          cases hv
          exact hr'
        have hld := run_loadCells (P := P) w (addrOf (ρ i) o) n (fun j => (w.cell? (addrOf (ρ i) (o + j))).getD undef) (fun j hj => by
          obtain ⟨u, hu, _⟩ := hcell j hj
          rw [addrOf_add, hu]; rfl)
        refine ⟨_, .agg ((List.range n).map fun j => (w.cell? (addrOf (ρ i) (o + j))).getD undef).toArray, hptr, ?_, .agg ?_ fun j c d hc hd => ?_⟩
        · simp [loadVar, isAgg_of_agg ht, run_sizeT hs, hld]
        · simp; omega
        · simp only [List.getElem?_toArray, List.getElem?_take, List.getElem?_drop, List.getElem?_map] at hc hd
          by_cases hj : j < n
          · simp only [hj, if_true] at hc
            rw [List.getElem?_range hj] at hd
            simp only [Option.map_some, Option.some.injEq] at hd
            obtain ⟨u, hu, hcr⟩ := hcell j hj
            rw [hu] at hd
            subst hd
            exact (hcr c hc).1
          · simp only [hj, if_false] at hc; cases hc
      · cases h
    · cases h
  · cases h

theorem resOne_sound {r : ResultVar} {x : ARes} (hc : compRes P r = some x) (hf : FRel ρ H φ a) (hr : HRel w0 H ρ w) {v : Value} (h : ares1 φ H x = some v) :
    ∃ u, (resOne a.tmps r).run P w = .ok u w ∧ VRel ρ H v u := by
  cases r with
  | tmp t =>
    simp only [compRes] at hc
    cases hc
    simp only [ares1] at h
    cases h
    exact ⟨_, rfl, hf t⟩
  | cell t ty =>
    have key : ∀ A u, a.eval (.tmp t) = .pointer (some A) → (loadVar ty A).run P w = .ok u w → (resOne a.tmps (.cell t ty)).run P w = .ok u w := by
      intro A u hA hu
      have hA' : a.tmps.getD t undef = .pointer (some A) := hA
      simp only [resOne, hA', asAddr, Sem.run_bind, Sem.run_pure, Result.andThen_ok, hu]
    simp only [compRes] at hc
    split at hc
    · rename_i hs
      cases hc
      obtain ⟨A, u, hA, hu, hv⟩ := run_ld (x := .tmp t) rfl hs hf hr h
      exact ⟨u, key A u hA hu, hv⟩
    · split at hc
      · rename_i hs
        obtain ⟨n, hn, rfl⟩ := Option.map_eq_some_iff.1 hc
        obtain ⟨A, u, hA, hu, hv⟩ := run_ldn (x := .tmp t) rfl hs hn hf hr h
        exact ⟨u, key A u hA hu, hv⟩
      · cases hc

theorem resL_sound (hf : FRel ρ H φ a) (hr : HRel w0 H ρ w) : ∀ (rs : List ResultVar) (xs : List ARes) (vs : List Value), compResL P rs = some xs → aresL φ H xs = some vs →
    ∃ us, (rs.mapM (resOne a.tmps)).run P w = .ok us w ∧ us.length = vs.length ∧ ∀ (i : Nat) (v u : Value), vs[i]? = some v → us[i]? = some u → VRel ρ H v u
  | [], xs, vs, hc, h => by
    cases hc
    cases h
    exact ⟨[], rfl, rfl, fun i v u hv => by simp at hv⟩
  | r :: rs, xs, vs, hc, h => by
    simp only [compResL] at hc
    split at hc
    · rename_i x xs' h1 h2
      cases hc
      simp only [aresL] at h
      split at h
      · rename_i v vs' g1 g2
        cases h
        obtain ⟨u, hu, hv⟩ := resOne_sound h1 hf hr g1
        obtain ⟨us, hus, hl, hp⟩ := resL_sound hf hr rs xs' vs' h2 g2
        refine ⟨u :: us, ?_, by simp [hl], fun i v' u' hv' hu' => ?_⟩
        · simp [List.mapM_cons, hu, hus]
        · cases i with
          | zero => cases hv'; cases hu'; exact hv
          | succ i => exact hp i v' u' hv' hu'
      · cases h
    · cases hc

theorem results_sound {fn : Func} {res : List ARes} (hc : compResL P fn.results.toList = some res) (hf : FRel ρ H φ a) (hr : HRel w0 H ρ w) {v : Value} (h : ares φ H res = some v) :
    ∃ u, (results fn a.tmps).run P w = .ok u w ∧ VRel ρ H v u := by
  unfold ares at h
  have key : ∀ vs, aresL φ H res = some vs → ∃ us : List Value, (results fn a.tmps).run P w = .ok (if h : us.toArray.size = 1 then us.toArray[0] else .tuple us.toArray) w ∧ us.length = vs.length ∧ ∀ (i : Nat) (v u : Value), vs[i]? = some v → us[i]? = some u → VRel ρ H v u := by
    intro vs hvs
    obtain ⟨us, hus, hl, hp⟩ := resL_sound hf hr _ _ _ hc hvs
    refine ⟨us, ?_, hl, hp⟩
    have e : results fn a.tmps = (do let vs ← fn.results.mapM (resOne a.tmps); pure (if h : vs.size = 1 then vs[0] else .tuple vs)) := by
      unfold results
      rfl
    rw [e, Array.mapM_eq_mapM_toList]
    simp only [map_eq_pure_bind, Sem.run_bind, hus, Result.andThen_ok, Sem.run_pure]
  split at h
  · rename_i v' hvs
    cases h
    obtain ⟨us, hrun, hl, hp⟩ := key _ hvs
    match us, hl with
    | [u], _ => exact ⟨u, by simpa using hrun, hp 0 _ _ rfl rfl⟩
  · rename_i vs hne hvs
    cases h
    obtain ⟨us, hrun, hl, hp⟩ := key _ hvs
    have h1 : us.toArray.size ≠ 1 := fun e => by
      have : vs.length = 1 := by simpa [← hl] using e
      match vs, this with
      | [v'], _ => exact hne v' rfl
    rw [dif_neg h1] at hrun
    exact ⟨_, hrun, .tuple (by simp [hl]) fun i v u hv hu => hp i v u (by simpa using hv) (by simpa using hu)⟩
  · cases h

theorem params_rel {args : List Value} {vals : Array Value} (hs : vals.size = args.length) (hv : ∀ (i : Nat) (v u : Value), args[i]? = some v → vals[i]? = some u → VRel ρ H v u) (k : Nat) :
    FRel ρ H (params 0 args) { tmps := vals ++ Array.replicate k undef, defers := [] } := by
  have get : ∀ (l : List Value) (i t : Nat), (params i l).get t = if i ≤ t then (l[t - i]?).getD junk else junk := by
    intro l
    induction l with
    | nil => intro i t; simp [params, Frame.get]
    | cons v l ih =>
      intro i t
      simp only [params, Frame.get, ih]
      by_cases h : i = t
      · subst h; simp
      · rw [if_neg h]
        by_cases h1 : i ≤ t
        · rw [if_pos h1, if_pos (by omega), show t - i = (t - (i + 1)) + 1 by omega, List.getElem?_cons_succ]
        · rw [if_neg h1, if_neg (by omega)]
  intro t
  rw [get, if_pos (Nat.zero_le _), Nat.sub_zero]
  cases ha : args[t]? with
  | none => exact .junk _
  | some v =>
    have ht : t < vals.size := by rw [hs]; exact (List.getElem?_eq_some_iff.1 ha).1
    have hg : (vals ++ Array.replicate k undef).getD t undef = vals[t] := by simp [Array.getElem?_append, ht]
    simp only [Option.getD_some]
    rw [hg]
    exact hv t v _ ha (Array.getElem?_eq_getElem ht)

/-- A call does what the abstract machine shows. -/
theorem acalls_of {f : FuncId} {fn : Func} {c : Code} {x y : ACode} {res : List ARes} (hm : P.follows .mixedOrders = true) (hf : P.funcs[f]? = some fn) (hb : fn.body = some c) (hn : (fn.name == "runtime.NumGoroutine") = false)
    (hc : comp P fn.ntmps c x = some y) (hres : compResL P fn.results.toList = some res) {args : List Value} (ha : args.length ≤ fn.ntmps) {Post : Value → Heap → Prop} (h : awp P y (finQ res Post) (params 0 args) H) :
    ACalls P f args H Post := by
  refine ⟨⟨fn, hf, by rw [hb]; rfl, hn⟩, fun w0 ρ w vals hr hs hv => ?_⟩
  refine calls_of_wp hf hb ?_
  have hsz : vals.size ≤ fn.ntmps := by omega
  have hrel : SRel w0 fn.ntmps ρ H (params 0 args) H ρ { tmps := vals ++ Array.replicate (fn.ntmps - vals.size) undef, defers := [] } w :=
    ⟨params_rel hs hv _, hr, Step.refl _ _, by simp; omega, rfl⟩
  refine wp_mono (awp_sound hm x c y hc _ _ H ρ _ w h hrel) ?_
  rintro e a' w' ⟨e', φ', H', ρ', rfl, hr', hq⟩
  have fin : (match ares φ' H' res with | some v => Post v H' | none => False) → a'.defers = [] ∧ ∃ v, (results fn a'.tmps).run P w' = .ok v w' ∧
      (∃ r u H'' ρ'', Ending.returned v = .returned u ∧ Post r H'' ∧ VRel ρ'' H'' r u ∧ HRel w0 H'' ρ'' w' ∧ Step ρ H ρ'' H'') := by
    intro hq
    split at hq
    · rename_i v hv'
      obtain ⟨u, hu, hvr⟩ := results_sound hres hr'.frel hr'.hrel hv'
      exact ⟨hr'.defers, u, hu, v, u, H', ρ', rfl, hq, hvr, hr'.hrel, hr'.step⟩
    · cases hq
  cases e' with
  | normal => exact fin hq
  | exit id => cases hq
  | ret => exact fin hq
end
end Go.Gx
