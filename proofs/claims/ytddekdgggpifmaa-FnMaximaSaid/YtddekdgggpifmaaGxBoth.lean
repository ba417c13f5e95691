/-
  A region in which two operations stand in no order: each order is a region's with one more edge.
-/
import Derived.Test.YtddekdgggpifmaaGxDraw2
namespace Go.Gx
set_option linter.unusedSimpArgs false
set_option linter.unusedVariables false

/-- 'l' carries out, from 'listed' on, all operations, each behind those that it waits for. -/
inductive LinExt (ops : Array Oper) : Array Bool → List Nat → Prop
  | nil {listed : Array Bool} : Region.ready .any ops listed = [] → LinExt ops listed []
  | cons {listed : Array Bool} {i : Nat} {l : List Nat} : i ∈ Region.ready .any ops listed → LinExt ops (listed.setIfInBounds i true) l → LinExt ops listed (i :: l)

theorem LinExt.wp {P : Program} {ops : Array Oper} {Q : Exit → Act → World → Prop} {listed : Array Bool} {l : List Nat} (h : LinExt ops listed l) : ∀ {fuel : Nat} {a : Act} {w : World}, wpAny P .any ops Q fuel listed a w → wpOps P ops Q l a w := by
  induction h with
  | nil hr =>
    intro fuel a w hw
    cases fuel with
    | zero => exact hw.2
    | succ fuel => exact hw.1 hr
  | cons hi _ ih =>
    intro fuel a w hw
    cases fuel with
    | zero => rw [hw.1] at hi; cases hi
    | succ fuel =>
      rw [wpOps_cons]
      exact wpOp_mono (fun a w => ih) (hw.2 _ hi)

theorem unl_lt {n : Nat} {listed : Array Bool} {i : Nat} (hi : i < n) (hs : i < listed.size) (h : listed.getD i true = false) :
    ((List.range n).filter fun k => !(listed.setIfInBounds i true).getD k true).length < ((List.range n).filter fun k => !listed.getD k true).length := by
  have e : ((List.range n).filter fun k => !(listed.setIfInBounds i true).getD k true) = ((List.range n).filter fun k => !listed.getD k true).filter fun k => decide (k ≠ i) := by
    rw [List.filter_filter]
    refine List.filter_congr fun k hk => ?_
    by_cases hki : k = i
    · subst hki
      simp [hs]
    · rw [getD_set_ne true (fun e => hki e.symm)]
      simp [hki]
  rw [e, List.length_filter_lt_length_iff_exists]
  exact ⟨i, List.mem_filter.2 ⟨List.mem_range.2 hi, by rw [h]; rfl⟩, by simp⟩

theorem lin_go (ops : Array Oper) : ∀ (fuel t : Nat) (listed : Array Bool), listed.size = ops.size → ((List.range ops.size).filter fun k => !listed.getD k true).length ≤ fuel →
    LinExt ops listed (Region.linearise.go .any ops fuel t listed []) := by
  intro fuel
  induction fuel with
  | zero =>
    intro t listed hs hf
    have hr : Region.ready .any ops listed = [] := by
      rw [List.eq_nil_iff_forall_not_mem]
      intro k hk
      obtain ⟨h0, o, ho, _⟩ := mem_ready.1 hk
      have hlt : k < ops.size := (Array.getElem?_eq_some_iff.1 ho).1
      have : k ∈ (List.range ops.size).filter fun k => !listed.getD k true := List.mem_filter.2 ⟨List.mem_range.2 hlt, by rw [h0]; rfl⟩
      rw [List.eq_nil_of_length_eq_zero (Nat.le_zero.1 hf)] at this
      cases this
    simpa [Region.linearise.go] using LinExt.nil hr
  | succ fuel ih =>
    intro t listed hs hf
    simp only [Region.linearise.go]
    change LinExt ops listed (match (Region.ready .any ops listed)[t % (Region.ready .any ops listed).length]? with
      | some i => Region.linearise.go .any ops fuel (t / (Region.ready .any ops listed).length) (listed.setIfInBounds i true) [i]
      | none => [].reverse)
    cases hi : (Region.ready .any ops listed)[t % (Region.ready .any ops listed).length]? with
    | none =>
      have hnil : Region.ready .any ops listed = [] := by
        cases hr : Region.ready .any ops listed with
        | nil => rfl
        | cons x xs =>
          rw [hr] at hi
          have hlt : t % (x :: xs).length < (x :: xs).length := Nat.mod_lt _ (by simp)
          simp at hi
          simp at hlt
          omega
      exact .nil hnil
    | some i =>
      simp only []
      rw [linearise_go_acc, List.reverse_singleton, List.singleton_append]
      have hm := List.mem_of_getElem? hi
      obtain ⟨h0, o, ho, _⟩ := mem_ready.1 hm
      have hlt : i < ops.size := (Array.getElem?_eq_some_iff.1 ho).1
      have := unl_lt hlt (by omega) h0
      exact .cons hm (ih _ _ (by simp [hs]) (by omega))
theorem lin_start (ops : Array Oper) (t : Nat) : LinExt ops (Array.replicate ops.size false) (Region.linearise .any ops t) := by
  refine lin_go ops ops.size t _ (by simp) ?_
  exact Nat.le_trans (List.length_filter_le _ _) (by simp)

/-! ### one more edge -/
def addEdge (ops : Array Oper) (i j : Nat) : Array Oper := ops.modify j fun o => { o with after := o.after.push ⟨i, .data⟩ }

section
variable {P : Program} {ops : Array Oper} {Q : Exit → Act → World → Prop} {i j : Nat}
theorem addEdge_size : (addEdge ops i j).size = ops.size := by simp [addEdge]
theorem addEdge_get (k : Nat) : (addEdge ops i j)[k]? = (ops[k]?).map fun o => if k = j then { o with after := o.after.push ⟨i, .data⟩ } else o := by
  unfold addEdge
  rw [Array.getElem?_modify]
  by_cases h : j = k
  · subst h; simp
  · rw [if_neg h]
    have : ¬ k = j := fun e => h e.symm
    cases ops[k]? <;> simp [this]
theorem ready_add {listed : Array Bool} {k : Nat} : k ∈ Region.ready .any (addEdge ops i j) listed ↔ k ∈ Region.ready .any ops listed ∧ (k = j → Listed listed i) := by
  rw [mem_ready, mem_ready, addEdge_get]
  constructor
  · rintro ⟨h0, o, ho, hall⟩
    obtain ⟨o', ho', rfl⟩ := Option.map_eq_some_iff.1 ho
    by_cases hk : k = j
    · simp only [hk, if_true] at hall
      refine ⟨⟨h0, o', ho', fun e he hb => hall e (Array.mem_push.2 (.inl he)) hb⟩, fun _ => hall _ (Array.mem_push.2 (.inr rfl)) rfl⟩
    · simp only [hk, if_false] at hall
      exact ⟨⟨h0, o', ho', hall⟩, fun e => absurd e hk⟩
  · rintro ⟨⟨h0, o, ho, hall⟩, hl⟩
    refine ⟨h0, _, by rw [ho]; rfl, ?_⟩
    by_cases hk : k = j
    · simp only [hk, if_true]
      intro e he hb
      rcases Array.mem_push.1 he with he | rfl
      · exact hall e he hb
      · exact hl hk
    · simp only [hk, if_false]
      exact hall
theorem yielded_add (tmps : Array Value) : yielded (addEdge ops i j) tmps = yielded ops tmps := by
  funext k
  have : ((addEdge ops i j)[k]?).bind (·.dst) = (ops[k]?).bind (·.dst) := by
    rw [addEdge_get]
    cases ops[k]? with
    | none => rfl
    | some o => by_cases h : k = j <;> simp [h]
  unfold yielded
  rw [this]
theorem wpOp_add {k : Nat} {K : Act → World → Prop} {a : Act} {w : World} : wpOp P (addEdge ops i j) Q k K a w = wpOp P ops Q k K a w := by
  unfold wpOp
  rw [addEdge_get, yielded_add]
  cases ops[k]? with
  | none => rfl
  | some o =>
    by_cases h : k = j
    · simp only [Option.map_some, h, if_true]
      rfl
    · simp only [Option.map_some, h, if_false]
theorem wpOps_add : ∀ {l : List Nat} {a : Act} {w : World}, wpOps P (addEdge ops i j) Q l a w = wpOps P ops Q l a w := by
  intro l
  induction l with
  | nil => intro a w; rfl
  | cons k l ih =>
    intro a w
    rw [wpOps_cons, wpOps_cons, wpOp_add]
    have : wpOps P (addEdge ops i j) Q l = wpOps P ops Q l := by funext a w; exact ih
    rw [this]
theorem ready_lt {listed : Array Bool} (hs : listed.size = ops.size) {k : Nat} (h : k ∈ Region.ready .any ops listed) : k < listed.size := by
  obtain ⟨_, o, ho, _⟩ := mem_ready.1 h
  have := (Array.getElem?_eq_some_iff.1 ho).1
  omega
theorem LinExt.add {listed : Array Bool} {l : List Nat} (h : LinExt ops listed l) : listed.size = ops.size → Listed listed i → LinExt (addEdge ops i j) listed l := by
  induction h with
  | nil hr =>
    intro hs hl
    refine .nil ?_
    rw [List.eq_nil_iff_forall_not_mem] at hr ⊢
    exact fun k hk => hr k (ready_add.1 hk).1
  | cons hi _ ih =>
    intro hs hl
    exact .cons (ready_add.2 ⟨hi, fun _ => hl⟩) (ih (by simp [hs]) ((listed_set (ready_lt hs hi)).2 (.inr hl)))
theorem LinExt.split (hij : i ≠ j) {listed : Array Bool} {l : List Nat} (h : LinExt ops listed l) : listed.size = ops.size → ¬ Listed listed i → ¬ Listed listed j → LinExt (addEdge ops i j) listed l ∨ LinExt (addEdge ops j i) listed l := by
  induction h with
  | nil hr =>
    intro hs hi hj
    left
    refine .nil ?_
    rw [List.eq_nil_iff_forall_not_mem] at hr ⊢
    exact fun k hk => hr k (ready_add.1 hk).1
  | @cons listed k l hk hrest ih =>
    intro hs hi hj
    have hlt := ready_lt hs hk
    by_cases h1 : k = i
    · left
      subst h1
      exact .cons (ready_add.2 ⟨hk, fun e => absurd e hij⟩) (hrest.add (by simp [hs]) ((listed_set hlt).2 (.inl rfl)))
    · by_cases h2 : k = j
      · right
        subst h2
        exact .cons (ready_add.2 ⟨hk, fun e => absurd e.symm hij⟩) (hrest.add (by simp [hs]) ((listed_set hlt).2 (.inl rfl)))
      · rcases ih (by simp [hs]) (fun h => ((listed_set hlt).1 h).elim (fun e => h1 e.symm) hi) (fun h => ((listed_set hlt).1 h).elim (fun e => h2 e.symm) hj) with h | h
        · exact .inl (.cons (ready_add.2 ⟨hk, fun e => absurd e h2⟩) h)
        · exact .inr (.cons (ready_add.2 ⟨hk, fun e => absurd e h1⟩) h)
end
end Go.Gx
