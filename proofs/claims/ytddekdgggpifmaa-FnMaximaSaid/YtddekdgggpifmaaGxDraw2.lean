/-
  A region that draws its order: the proof.
-/
import Derived.Test.YtddekdgggpifmaaGxDraw
namespace Go.Gx
set_option linter.unusedSimpArgs false
set_option linter.unusedVariables false
open Go.RowKit (Below)

def fr (φ0 : Frame) (l : List (AStep × Value)) : Frame := l.foldl (fun φ p => putd p.1.dst p.2 φ) φ0

theorem fr_snoc (φ0 : Frame) (l : List (AStep × Value)) (p : AStep × Value) : fr φ0 (l ++ [p]) = putd p.1.dst p.2 (fr φ0 l) := by simp [fr]
theorem get_putd (d : Option Nat) (v : Value) (φ : Frame) (t : Nat) : (putd d v φ).get t = if d = some t then v else φ.get t := by
  cases d with
  | none => simp [putd]
  | some d => simp [putd, Frame.get]

/-- What stands in a slot comes of the last that writes it. -/
theorem get_fr (φ0 : Frame) (t : Nat) (l : List (AStep × Value)) : (fr φ0 l).get t = (fr φ0 (l.filter fun p => p.1.dst == some t)).get t := by
  have key : ∀ (l : List (AStep × Value)), (fr φ0 l.reverse).get t = (fr φ0 (l.reverse.filter fun p => p.1.dst == some t)).get t := by
    intro l
    induction l with
    | nil => rfl
    | cons p l ih =>
      rw [List.reverse_cons, fr_snoc, get_putd, List.filter_append]
      by_cases hp : p.1.dst = some t
      · rw [if_pos hp]
        have : [p].filter (fun p => p.1.dst == some t) = [p] := by simp [hp]
        rw [this, fr_snoc, get_putd, if_pos hp]
      · rw [if_neg hp, ih]
        have : [p].filter (fun p => p.1.dst == some t) = [] := by simp [hp]
        rw [this, List.append_nil]
  have := key l.reverse
  rwa [List.reverse_reverse] at this

theorem FRel.congr {ρ : Map} {H : Heap} {φ φ' : Frame} {a : Act} (h : FRel ρ H φ a) (he : ∀ t, φ.get t = φ'.get t) : FRel ρ H φ' a := fun t => by rw [← he t]; exact h t

/-- Operation p, at frame φ, gives p's value. -/
def Ev (p : AStep × Value) (φ : Frame) (H : Heap) : Prop :=
  (guardV φ p.1.guard = some true ∧ aval p.1.op φ H = some p.2) ∨ (guardV φ p.1.guard = some false ∧ p.2 = undef)

theorem doV_of_quiet {P : Program} {op : AOp} {φ : Frame} {H : Heap} {K : Value → Heap → Prop} {v : Value} (hi : isEff op = false) (hv : aval op φ H = some v) (hk : K v H) : doV P op φ H K := by
  unfold doV
  split
  · cases hi
  · cases hi
  · rw [if_neg (by simp [hi]), hv]
    exact hk

section
variable {P : Program} {N : Nat} {ops : Array Oper} {w0 : World} {ρ0 : Map} {H0 : Heap} {φ0 : Frame} {steps : List AStep}

abbrev Listed (listed : Array Bool) (i : Nat) : Prop := listed.getD i false = true

structure Inv (P : Program) (N : Nat) (ops : Array Oper) (w0 : World) (ρ0 : Map) (H0 : Heap) (φ0 : Frame) (steps : List AStep) (K : Frame → Heap → Prop)
    (done : List (AStep × Value)) (rem : List AStep) (listed : Array Bool) (H : Heap) (ρ : Map) (a : Act) (w : World) : Prop where
  split : done.map (·.1) ++ rem = steps
  run : awpOps P rem K (fr φ0 done) H
  pend : ∀ pre p post, done = pre ++ p :: post → ¬ Listed listed p.1.ix → isEff p.1.op = false ∧ Ev p (fr φ0 pre) H
  sub : ∀ i, Listed listed i → ∃ p ∈ done, p.1.ix = i
  closed : ∀ i o, ops[i]? = some o → Listed listed i → ∀ e ∈ o.after, Region.binds .any e = true → Listed listed e.on
  size : listed.size = ops.size
  rel : SRel w0 N ρ0 H0 (fr φ0 (done.filter fun p => listed.getD p.1.ix false)) H ρ a w

theorem Inv.anc {K : Frame → Heap → Prop} {done : List (AStep × Value)} {rem : List AStep} {listed : Array Bool} {H : Heap} {ρ : Map} {a : Act} {w : World}
    (I : Inv P N ops w0 ρ0 H0 φ0 steps K done rem listed H ρ a w) {i j : Nat} (h : Anc ops i j) (hj : Listed listed j) : Listed listed i := by
  induction h with
  | edge ho he hb => exact I.closed _ _ ho hj _ he hb
  | step ho he hb _ ih => exact ih (I.closed _ _ ho hj _ he hb)

theorem Inv.anc_ready {K : Frame → Heap → Prop} {done : List (AStep × Value)} {rem : List AStep} {listed : Array Bool} {H : Heap} {ρ : Map} {a : Act} {w : World}
    (I : Inv P N ops w0 ρ0 H0 φ0 steps K done rem listed H ρ a w) {i j : Nat} (h : Anc ops i j) (hj : ∀ o, ops[j]? = some o → ∀ e ∈ o.after, Region.binds .any e = true → Listed listed e.on) : Listed listed i := by
  cases h with
  | edge ho he hb => exact hj _ ho _ he hb
  | step ho he hb h => exact I.anc h (hj _ ho _ he hb)

/-- The frame that the world has reached agrees, in all that operation s looks at, with the one at which the plan comes to s. -/
theorem agree (hp : Plan ops steps) {K : Frame → Heap → Prop} {done : List (AStep × Value)} {rem : List AStep} {listed : Array Bool} {H : Heap} {ρ : Map} {a : Act} {w : World}
    (I : Inv P N ops w0 ρ0 H0 φ0 steps K done rem listed H ρ a w) {pre post : List (AStep × Value)} (hd : done = pre ++ post) {s : AStep} (hs : s ∈ steps) (hns : ¬ Listed listed s.ix)
    (hpre : ∀ p ∈ pre, ¬ Anc ops s.ix p.1.ix ∧ p.1.ix ≠ s.ix) (hpost : ∀ p ∈ post, ¬ Anc ops p.1.ix s.ix)
    (hready : ∀ o, ops[s.ix]? = some o → ∀ e ∈ o.after, Region.binds .any e = true → Listed listed e.on) :
    ∀ t ∈ looks s.op s.guard, (fr φ0 (done.filter fun p => listed.getD p.1.ix false)).get t = (fr φ0 pre).get t := by
  intro t ht
  have hin : ∀ p ∈ done, p.1 ∈ steps := fun p hpd => by rw [← I.split]; exact List.mem_append_left _ (List.mem_map.2 ⟨p, hpd, rfl⟩)
  rw [get_fr, get_fr φ0 t pre, hd]
  have e : ((pre ++ post).filter fun p => listed.getD p.1.ix false).filter (fun p => p.1.dst == some t) = pre.filter (fun p => p.1.dst == some t) := by
    rw [List.filter_append, List.filter_append]
    have e2 : (post.filter fun p => listed.getD p.1.ix false).filter (fun p => p.1.dst == some t) = [] := by
      rw [List.filter_filter, List.filter_eq_nil_iff]
      intro p hpp hc
      simp only [Bool.and_eq_true, beq_iff_eq] at hc
      have hne : p.1.ix ≠ s.ix := fun e => hns (by rw [← e]; exact hc.2)
      rcases hp.cmp p.1 (hin p (by rw [hd]; simp [hpp])) s hs hne t hc.1 (.inl ht) with h | h
      · exact hpost p hpp h
      · exact hns (I.anc h hc.2)
    have e1 : (pre.filter fun p => listed.getD p.1.ix false).filter (fun p => p.1.dst == some t) = pre.filter (fun p => p.1.dst == some t) := by
      rw [List.filter_filter]
      refine List.filter_congr fun p hpp => ?_
      by_cases hdt : p.1.dst = some t
      · have hl : Listed listed p.1.ix := by
          rcases hp.cmp p.1 (hin p (by rw [hd]; simp [hpp])) s hs (hpre p hpp).2 t hdt (.inl ht) with h | h
          · exact I.anc_ready h hready
          · exact absurd h (hpre p hpp).1
        simp only [hdt, beq_self_eq_true, Bool.true_and]
        exact hl
      · have : (p.1.dst == some t) = false := by simpa using hdt
        simp [this]
    rw [e1, e2, List.append_nil]
  rw [e]

/-- An ancestor stands ahead. -/
theorem anc_before (hp : Plan ops steps) {pre post : List AStep} {s : AStep} (hl : steps = pre ++ s :: post) {i : Nat} (h : Anc ops i s.ix) : ∃ p ∈ pre, p.ix = i := by
  generalize hj : s.ix = j at h
  induction h generalizing pre s post with
  | edge ho he hb => subst hj; exact hp.topo pre s post hl _ ho _ he hb
  | @step i j o e ho he hb h ih =>
    subst hj
    obtain ⟨q, hq, hqe⟩ := hp.topo pre s post hl _ ho _ he hb
    obtain ⟨l1, l2, rfl⟩ := List.append_of_mem hq
    obtain ⟨r, hr, hri⟩ := ih (pre := l1) (s := q) (post := l2 ++ s :: post) (by rw [hl]; simp) hqe
    exact ⟨r, by simp [hr], hri⟩
theorem not_anc_after (hp : Plan ops steps) {pre post : List AStep} {s : AStep} (hl : steps = pre ++ s :: post) : (∀ p ∈ pre, ¬ Anc ops s.ix p.ix) ∧ ∀ q ∈ post, ¬ Anc ops q.ix s.ix := by
  have hnd := hp.nodup
  refine ⟨fun p hpp h => ?_, fun q hq h => ?_⟩
  · obtain ⟨l1, l2, rfl⟩ := List.append_of_mem hpp
    obtain ⟨r, hr, hri⟩ := anc_before hp (pre := l1) (s := p) (post := l2 ++ s :: post) (by rw [hl]; simp) h
    rw [hl] at hnd
    simp only [List.append_assoc, List.cons_append, List.map_append, List.map_cons] at hnd
    rw [List.nodup_append] at hnd
    exact hnd.2.2 r.ix (List.mem_map.2 ⟨r, hr, rfl⟩) s.ix (by simp) hri
  · obtain ⟨r, hr, hri⟩ := anc_before hp hl h
    rw [hl] at hnd
    simp only [List.map_append, List.map_cons] at hnd
    rw [List.nodup_append] at hnd
    exact hnd.2.2 r.ix (List.mem_map.2 ⟨r, hr, rfl⟩) q.ix (by simp; exact .inr ⟨q, hq, rfl⟩) hri

/-- The plan goes on with what only reads. -/
theorem saturate (hp : Plan ops steps) {K : Frame → Heap → Prop} {listed : Array Bool} {H : Heap} {ρ : Map} {a : Act} {w : World} : ∀ (rem : List AStep) (done : List (AStep × Value)),
    Inv P N ops w0 ρ0 H0 φ0 steps K done rem listed H ρ a w → ∃ done' rem', Inv P N ops w0 ρ0 H0 φ0 steps K done' rem' listed H ρ a w ∧ (rem' = [] ∨ ∃ s r, rem' = s :: r ∧ isEff s.op = true) := by
  intro rem
  induction rem with
  | nil => exact fun done I => ⟨done, [], I, .inl rfl⟩
  | cons s r ih =>
    intro done I
    by_cases hs : isEff s.op = true
    · exact ⟨done, s :: r, I, .inr ⟨s, r, rfl, hs⟩⟩
    · have hs' : isEff s.op = false := by simpa using hs
      have hrun := I.run
      simp only [awpOps] at hrun
      have hv : ∃ v, Ev (s, v) (fr φ0 done) H ∧ awpOps P r K (putd s.dst v (fr φ0 done)) H := by
        unfold stepV at hrun
        split at hrun
        · rename_i hg
          obtain ⟨v, hv, _, hk⟩ := doV_quiet hs' hrun
          exact ⟨v, .inl ⟨hg, hv⟩, hk⟩
        · rename_i hg
          exact ⟨undef, .inr ⟨hg, rfl⟩, hrun.2⟩
        · cases hrun
      obtain ⟨v, hev, hk⟩ := hv
      have hsplit : (done ++ [(s, v)]).map (·.1) ++ r = steps := by rw [← I.split]; simp
      have hns : ¬ Listed listed s.ix := fun hl => by
        obtain ⟨p, hpd, hpi⟩ := I.sub _ hl
        have hnd := hp.nodup
        rw [← I.split] at hnd
        simp only [List.map_append, List.map_cons] at hnd
        rw [List.nodup_append] at hnd
        exact hnd.2.2 p.1.ix (by simp; exact ⟨_, ⟨_, hpd⟩, rfl⟩) s.ix (by simp) hpi
      refine ih (done ++ [(s, v)]) ⟨hsplit, ?_, fun pre p post hd hl => ?_, fun i hi => ?_, I.closed, I.size, ?_⟩
      · rw [fr_snoc]; exact hk
      · rcases List.eq_nil_or_concat post with rfl | ⟨post', q, rfl⟩
        · have : done ++ [(s, v)] = pre ++ [p] := hd
          obtain ⟨h1, h2⟩ := List.append_inj' this rfl
          cases h2
          subst h1
          exact ⟨hs', hev⟩
        · have : done ++ [(s, v)] = (pre ++ p :: post') ++ [q] := by rw [hd]; simp
          obtain ⟨h1, h2⟩ := List.append_inj' this rfl
          exact I.pend pre p post' h1 hl
      · obtain ⟨p, hpd, hpi⟩ := I.sub i hi
        exact ⟨p, by simp [hpd], hpi⟩
      · have : (done ++ [(s, v)]).filter (fun p => listed.getD p.1.ix false) = done.filter fun p => listed.getD p.1.ix false := by
          rw [List.filter_append]
          have : [(s, v)].filter (fun p : AStep × Value => listed.getD p.1.ix false) = [] := by
            simp only [List.filter_cons, List.filter_nil]
            rw [if_neg hns]
          rw [this, List.append_nil]
        rw [this]
        exact I.rel

theorem listed_set {listed : Array Bool} {i j : Nat} (hi : i < listed.size) : Listed (listed.setIfInBounds i true) j ↔ j = i ∨ Listed listed j := by
  unfold Listed
  by_cases hij : i = j
  · subst hij
    simp [hi]
  · rw [getD_set_ne false hij]
    exact ⟨.inr, fun h => h.resolve_left (fun e => hij e.symm)⟩

/-- After operation s = p.1 has been carried out: the frame. -/
theorem frame_after (hp : Plan ops steps) {K : Frame → Heap → Prop} {done : List (AStep × Value)} {rem : List AStep} {listed : Array Bool} {H : Heap} {ρ : Map} {a : Act} {w : World}
    (I : Inv P N ops w0 ρ0 H0 φ0 steps K done rem listed H ρ a w) {done' : List (AStep × Value)} {pre post : List (AStep × Value)} {p : AStep × Value} (hd' : done' = pre ++ p :: post)
    (hsub : done'.map (·.1) <+: steps) (hd : done = pre ++ p :: post ∨ (done = pre ∧ post = [])) (hns : ¬ Listed listed p.1.ix) (hi : p.1.ix < listed.size) :
    ∀ t, (putd p.1.dst p.2 (fr φ0 (done.filter fun q => listed.getD q.1.ix false))).get t = (fr φ0 (done'.filter fun q => (listed.setIfInBounds p.1.ix true).getD q.1.ix false)).get t := by
  intro t
  obtain ⟨tl, htl⟩ := hsub
  have hin : ∀ q ∈ done', q.1 ∈ steps := fun q hq => by rw [← htl]; exact List.mem_append_left _ (List.mem_map.2 ⟨q, hq, rfl⟩)
  have hnd : (done'.map fun q => q.1.ix).Nodup := by
    have := hp.nodup
    rw [← htl, List.map_append, List.nodup_append, List.map_map] at this
    exact this.1
  have hne : ∀ q ∈ pre ++ post, q.1.ix ≠ p.1.ix := fun q hq e => by
    rw [hd'] at hnd
    simp only [List.map_append, List.map_cons] at hnd
    rw [List.nodup_append, List.nodup_cons] at hnd
    rcases List.mem_append.1 hq with hq | hq
    · exact hnd.2.2 q.1.ix (List.mem_map.2 ⟨q, hq, rfl⟩) p.1.ix (by simp) e
    · exact hnd.2.1.1 (by rw [← e]; exact List.mem_map.2 ⟨q, hq, rfl⟩)
  have hset : ∀ q ∈ pre ++ post, (listed.setIfInBounds p.1.ix true).getD q.1.ix false = listed.getD q.1.ix false := fun q hq => getD_set_ne false (Ne.symm (hne q hq))
  have hpre : pre.filter (fun q => (listed.setIfInBounds p.1.ix true).getD q.1.ix false) = pre.filter fun q => listed.getD q.1.ix false := List.filter_congr fun q hq => hset q (by simp [hq])
  have hpost : post.filter (fun q => (listed.setIfInBounds p.1.ix true).getD q.1.ix false) = post.filter fun q => listed.getD q.1.ix false := List.filter_congr fun q hq => hset q (by simp [hq])
  have hself : (listed.setIfInBounds p.1.ix true).getD p.1.ix false = true := (listed_set hi).2 (.inl rfl)
  have e' : done'.filter (fun q => (listed.setIfInBounds p.1.ix true).getD q.1.ix false) = pre.filter (fun q => listed.getD q.1.ix false) ++ p :: post.filter fun q => listed.getD q.1.ix false := by
    rw [hd', List.filter_append, List.filter_cons, if_pos hself, hpre, hpost]
  have e : done.filter (fun q => listed.getD q.1.ix false) = pre.filter (fun q => listed.getD q.1.ix false) ++ post.filter fun q => listed.getD q.1.ix false := by
    rcases hd with rfl | ⟨rfl, rfl⟩
    · rw [List.filter_append, List.filter_cons, if_neg hns]
    · simp
  rw [e', e, get_putd]
  by_cases ht : p.1.dst = some t
  · rw [if_pos ht, get_fr, List.filter_append, List.filter_cons]
    have hpostt : (post.filter fun q => listed.getD q.1.ix false).filter (fun q => q.1.dst == some t) = [] := by
      rw [List.filter_filter, List.filter_eq_nil_iff]
      intro q hq hc
      simp only [Bool.and_eq_true, beq_iff_eq] at hc
      have hqs := hin q (by rw [hd']; simp [hq])
      have hps := hin p (by rw [hd']; simp)
      have hsteps : steps = pre.map (·.1) ++ p.1 :: (post.map (·.1) ++ tl) := by rw [← htl, hd']; simp
      rcases hp.cmp q.1 hqs p.1 hps (hne q (by simp [hq])) t hc.1 (.inr ht) with h | h
      · exact (not_anc_after hp hsteps).2 q.1 (by simp; exact .inl ⟨_, hq⟩) h
      · exact hns (I.anc h hc.2)
    rw [hpostt]
    have : (p.1.dst == some t) = true := by simpa using ht
    rw [if_pos this, fr_snoc, get_putd, if_pos ht]
  · rw [if_neg ht, get_fr, get_fr φ0 t (_ ++ _ :: _)]
    congr 2
    rw [List.filter_append, List.filter_append, List.filter_cons, if_neg (by simpa using ht)]

theorem unlisted_fewer : ∀ (l : List AStep) (listed : Array Bool) (i : Nat), (l.map (·.ix)).Nodup → i < listed.size → i ∈ l.map (·.ix) → ¬ Listed listed i →
    (l.filter fun s => !((listed.setIfInBounds i true).getD s.ix false)).length + 1 = (l.filter fun s => !(listed.getD s.ix false)).length := by
  intro l
  induction l with
  | nil => intro _ i _ _ h; cases h
  | cons x l ih =>
    intro listed i hnd hi hm hl
    rw [List.map_cons, List.nodup_cons] at hnd
    rw [List.filter_cons, List.filter_cons]
    by_cases hx : x.ix = i
    · subst hx
      have h1 : (listed.setIfInBounds x.ix true).getD x.ix false = true := (listed_set hi).2 (.inl rfl)
      have h2 : listed.getD x.ix false = false := by simpa [Listed] using hl
      rw [h1, h2]
      simp only [Bool.not_true, Bool.false_eq_true, if_false, Bool.not_false, if_true, List.length_cons]
      congr 1
      refine congrArg List.length (List.filter_congr fun q hq => ?_)
      rw [getD_set_ne false (fun e => hnd.1 (by rw [e]; exact List.mem_map.2 ⟨q, hq, rfl⟩))]
    · have hm' : i ∈ l.map (·.ix) := by
        rw [List.map_cons, List.mem_cons] at hm
        exact hm.resolve_left (fun e => hx e.symm)
      have h1 : (listed.setIfInBounds i true).getD x.ix false = listed.getD x.ix false := getD_set_ne false (fun e => hx e.symm)
      rw [h1]
      have := ih listed i hnd.2 hi hm' hl
      split
      · simp only [List.length_cons]; omega
      · exact this

theorem any_order (hp : Plan ops steps) (hc : ∀ s ∈ steps, ∃ o, CS P N ops s.ix o s.dst s.op s.guard) (hrc : ∀ pre s post, steps = pre ++ s :: post → s.rc = rcOf (ancOf ops) pre s)
    {K : Frame → Heap → Prop} {Q : Exit → Act → World → Prop} (hQ : ∀ φ H ρ a w, SRel w0 N ρ0 H0 φ H ρ a w → K φ H → Q .normal a w) :
    ∀ (fuel : Nat) (done : List (AStep × Value)) (rem : List AStep) (listed : Array Bool) (H : Heap) (ρ : Map) (a : Act) (w : World), Inv P N ops w0 ρ0 H0 φ0 steps K done rem listed H ρ a w →
      (rem = [] ∨ ∃ s r, rem = s :: r ∧ isEff s.op = true) → (steps.filter fun s => !(listed.getD s.ix false)).length = fuel → wpAny P .any ops Q fuel listed a w := by
  have all_ix : ∀ i, i < ops.size → ∃ s ∈ steps, s.ix = i := by
    intro i hi
    have hsub : (steps.map (·.ix)).length = ops.size := by simpa using hp.len
    have : i ∈ steps.map (·.ix) := by
      apply Classical.byContradiction
      intro hni
      have hnd : (i :: steps.map (·.ix)).Nodup := List.nodup_cons.2 ⟨hni, hp.nodup⟩
      have hss : (i :: steps.map (·.ix)) ⊆ List.range ops.size := by
        intro j hj
        rcases List.mem_cons.1 hj with rfl | hj
        · exact List.mem_range.2 hi
        · obtain ⟨s, hs, rfl⟩ := List.mem_map.1 hj
          exact List.mem_range.2 (hp.lt s hs)
      have := hnd.length_le_of_subset hss
      simp only [List.length_cons, List.length_range] at this
      omega
    obtain ⟨s, hs, h⟩ := List.mem_map.1 this
    exact ⟨s, hs, h⟩
  have done_in : ∀ {done : List (AStep × Value)} {rem : List AStep} {listed : Array Bool} {H : Heap} {ρ : Map} {a : Act} {w : World}, Inv P N ops w0 ρ0 H0 φ0 steps K done rem listed H ρ a w → ∀ p ∈ done, p.1 ∈ steps := fun I p hpd => by
    rw [← I.split]; exact List.mem_append_left _ (List.mem_map.2 ⟨p, hpd, rfl⟩)
  have rem_unlisted : ∀ {done : List (AStep × Value)} {rem : List AStep} {listed : Array Bool} {H : Heap} {ρ : Map} {a : Act} {w : World}, Inv P N ops w0 ρ0 H0 φ0 steps K done rem listed H ρ a w → ∀ s ∈ rem, ¬ Listed listed s.ix := fun I s hs hl => by
    obtain ⟨p, hpd, hpi⟩ := I.sub _ hl
    have hnd := hp.nodup
    rw [← I.split, List.map_append, List.nodup_append] at hnd
    exact hnd.2.2 p.1.ix (List.mem_map.2 ⟨p.1, List.mem_map.2 ⟨p, hpd, rfl⟩, rfl⟩) s.ix (List.mem_map.2 ⟨s, hs, rfl⟩) hpi
  -- something is ready as long as something isn't listed
  have some_ready : ∀ {done : List (AStep × Value)} {rem : List AStep} {listed : Array Bool} {H : Heap} {ρ : Map} {a : Act} {w : World}, Inv P N ops w0 ρ0 H0 φ0 steps K done rem listed H ρ a w →
      (steps.filter fun s => !(listed.getD s.ix false)) ≠ [] → Region.ready .any ops listed ≠ [] := by
    intro done rem listed H ρ a w I hne hr
    have key : ∀ (l pre : List AStep), steps = pre ++ l → (∀ p ∈ pre, Listed listed p.ix) → (l.filter fun s => !(listed.getD s.ix false)) = [] := by
      intro l
      induction l with
      | nil => intro _ _ _; rfl
      | cons s l ih =>
        intro pre hl hpre
        by_cases hs : Listed listed s.ix
        · rw [List.filter_cons, if_neg (by simp only [Listed] at hs; rw [hs]; simp)]
          exact ih (pre ++ [s]) (by rw [hl]; simp) (fun p hpp => by
            rcases List.mem_append.1 hpp with h | h
            · exact hpre p h
            · rw [List.mem_singleton.1 h]; exact hs)
        · exfalso
          have hslt : s.ix < ops.size := hp.lt s (by rw [hl]; simp)
          have : s.ix ∈ Region.ready .any ops listed := by
            rw [mem_ready]
            refine ⟨?_, ops[s.ix], Array.getElem?_eq_getElem hslt, fun e he hb => ?_⟩
            · have : listed.getD s.ix false = false := by simpa [Listed] using hs
              have hlt : s.ix < listed.size := by rw [I.size]; exact hslt
              simp [hlt] at this ⊢
              exact this
            · obtain ⟨p, hpp, hpe⟩ := hp.topo pre s l hl _ (Array.getElem?_eq_getElem hslt) e he hb
              rw [← hpe]
              exact hpre p hpp
          rw [hr] at this
          cases this
    exact hne (key steps [] rfl (by simp))
  intro fuel
  induction fuel with
  | zero =>
    intro done rem listed H ρ a w I hsat hcount
    have hall : ∀ s ∈ steps, Listed listed s.ix := fun s hs => by
      apply Classical.byContradiction
      intro hl
      have : s ∈ steps.filter fun s => !(listed.getD s.ix false) := List.mem_filter.2 ⟨hs, by simpa [Listed] using hl⟩
      rw [List.eq_nil_of_length_eq_zero hcount] at this
      cases this
    have hrem : rem = [] := by
      cases rem with
      | nil => rfl
      | cons s r => exact absurd (hall s (by rw [← I.split]; simp)) (rem_unlisted I s (by simp))
    subst hrem
    have hfil : done.filter (fun p => listed.getD p.1.ix false) = done := List.filter_eq_self.2 fun p hpd => hall p.1 (done_in I p hpd)
    have hrel := I.rel
    rw [hfil] at hrel
    refine ⟨?_, hQ _ _ _ _ _ hrel I.run⟩
    rw [List.eq_nil_iff_forall_not_mem]
    intro i hi
    obtain ⟨h0, o, ho, _⟩ := mem_ready.1 hi
    have hlt : i < ops.size := (Array.getElem?_eq_some_iff.1 ho).1
    obtain ⟨s, hs, rfl⟩ := all_ix i hlt
    have := hall s hs
    have hlt' : s.ix < listed.size := by rw [I.size]; exact hlt
    simp only [Listed] at this
    simp [hlt'] at this h0
    rw [this] at h0
    cases h0
  | succ fuel ih =>
    intro done rem listed H ρ a w I hsat hcount
    refine ⟨fun h0 => absurd h0 (some_ready I (fun e => by rw [e] at hcount; cases hcount)), fun i hi => ?_⟩
    obtain ⟨h0, o, ho, hall⟩ := mem_ready.1 hi
    have hlt : i < ops.size := (Array.getElem?_eq_some_iff.1 ho).1
    have hlt' : i < listed.size := by rw [I.size]; exact hlt
    have hns : ¬ Listed listed i := by
      simp only [Listed]
      simp [hlt'] at h0 ⊢
      exact h0
    obtain ⟨s, hs, rfl⟩ := all_ix i hlt
    have hready : ∀ o', ops[s.ix]? = some o' → ∀ e ∈ o'.after, Region.binds .any e = true → Listed listed e.on := fun o' ho' e he hb => by
      rw [ho] at ho'
      cases ho'
      exact hall e he hb
    obtain ⟨o', hcs⟩ := hc s hs
    have hcount' : (steps.filter fun q => !((listed.setIfInBounds s.ix true).getD q.ix false)).length = fuel := by
      have := unlisted_fewer steps listed s.ix hp.nodup hlt' (List.mem_map.2 ⟨s, hs, rfl⟩) hns
      omega
    have hclosed' : ∀ j oj, ops[j]? = some oj → Listed (listed.setIfInBounds s.ix true) j → ∀ e ∈ oj.after, Region.binds .any e = true → Listed (listed.setIfInBounds s.ix true) e.on := fun j oj hj hl e he hb => by
      rw [listed_set hlt'] at hl ⊢
      rcases hl with rfl | hl
      · exact .inr (hready oj hj e he hb)
      · exact .inr (I.closed j oj hj hl e he hb)
    have hmem : s ∈ done.map (·.1) ∨ s ∈ rem := by
      rw [← I.split] at hs
      exact List.mem_append.1 hs
    rcases hmem with hmem | hmem
    · -- it was read ahead
      obtain ⟨p, hpd, rfl⟩ := List.mem_map.1 hmem
      obtain ⟨pre, post, hd⟩ := List.append_of_mem hpd
      obtain ⟨hquiet, hev⟩ := I.pend pre p post hd hns
      have hsteps : steps = pre.map (·.1) ++ p.1 :: (post.map (·.1) ++ rem) := by rw [← I.split, hd]; simp
      obtain ⟨na1, na2⟩ := not_anc_after hp hsteps
      have hndp : ∀ q ∈ pre, q.1.ix ≠ p.1.ix := fun q hq e => by
        have hnd := hp.nodup
        rw [hsteps, List.map_append, List.nodup_append] at hnd
        exact hnd.2.2 q.1.ix (List.mem_map.2 ⟨q.1, List.mem_map.2 ⟨q, hq, rfl⟩, rfl⟩) p.1.ix (by simp) e
      have hag := agree hp I hd hs hns (fun q hq => ⟨na1 q.1 (List.mem_map.2 ⟨q, hq, rfl⟩), hndp q hq⟩) (fun q hq => by
        rcases List.mem_cons.1 hq with rfl | hq
        · intro h
          obtain ⟨r, hr, hri⟩ := anc_before hp hsteps h
          obtain ⟨q', hq', rfl⟩ := List.mem_map.1 hr
          exact hndp q' hq' hri
        · exact na2 q.1 (List.mem_append_left _ (List.mem_map.2 ⟨q, hq, rfl⟩))) hready
      have hstep : stepV P p.1.op p.1.guard (fr φ0 (done.filter fun q => listed.getD q.1.ix false)) H (fun v H' => v = p.2 ∧ H' = H) := by
        rw [stepV_congr hag]
        unfold stepV
        rcases hev with ⟨hg, hv⟩ | ⟨hg, hv⟩
        · rw [hg]
          exact doV_of_quiet hquiet hv ⟨rfl, rfl⟩
        · rw [hg]
          exact ⟨hv.symm, rfl⟩
      refine stepV_sound hcs I.rel.frel I.rel.hrel I.rel.size hstep ?_
      rintro v H' ρ' u w' ⟨rfl, rfl⟩ hv hr' hst
      have hrel' := I.rel.after hcs hv hr' hst
      have hfa := frame_after hp I (p := p) hd (by rw [← I.split]; exact ⟨rem, rfl⟩) (.inl hd) hns hlt'
      refine ih done rem (listed.setIfInBounds p.1.ix true) H' ρ' _ w' ⟨I.split, I.run, fun pre' q post' hd' hl => I.pend pre' q post' hd' (fun h => hl ((listed_set hlt').2 (.inr h))), fun j hj => ?_, hclosed', by simp [I.size], ?_⟩ hsat hcount'
      · rw [listed_set hlt'] at hj
        rcases hj with rfl | hj
        · exact ⟨p, hpd, rfl⟩
        · exact I.sub j hj
      · exact ⟨hrel'.frel.congr hfa, hrel'.hrel, hrel'.step, hrel'.size, hrel'.defers⟩
    · -- what makes or changes memory
      rcases hsat with hsat | ⟨e, r, hrem, heff⟩
      · subst hsat; cases hmem
      subst hrem
      have hsteps : steps = done.map (·.1) ++ e :: r := I.split.symm
      obtain ⟨na1, na2⟩ := not_anc_after hp hsteps
      have hse : s = e := by
        rcases List.mem_cons.1 hmem with h | h
        · exact h
        · exfalso
          have hanc := hp.eff _ _ _ hsteps heff s h
          exact rem_unlisted I e (by simp) (I.anc_ready hanc hready)
      subst hse
      have hndp : ∀ q ∈ done, q.1.ix ≠ s.ix := fun q hq e => by
        have hnd := hp.nodup
        rw [hsteps, List.map_append, List.nodup_append] at hnd
        exact hnd.2.2 q.1.ix (List.mem_map.2 ⟨q.1, List.mem_map.2 ⟨q, hq, rfl⟩, rfl⟩) s.ix (by simp) e
      have hag := agree hp I (pre := done) (post := []) (by simp) hs hns (fun q hq => ⟨na1 q.1 (List.mem_map.2 ⟨q, hq, rfl⟩), hndp q hq⟩) (by simp) hready
      have hrun := I.run
      simp only [awpOps] at hrun
      rw [← stepV_congr hag] at hrun
      refine stepV_sound hcs I.rel.frel I.rel.hrel I.rel.size hrun ?_
      rintro v H' ρ' u w' ⟨hrcok, hk⟩ hv hr' hst
      have hrel' := I.rel.after hcs hv hr' hst
      have hsplit' : (done ++ [(s, v)]).map (·.1) ++ r = steps := by rw [← I.split]; simp
      have hfa := frame_after hp I (done' := done ++ [(s, v)]) (pre := done) (post := []) (p := (s, v)) rfl (by rw [← hsplit']; exact ⟨r, rfl⟩) (.inr ⟨rfl, rfl⟩) hns hlt'
      have I' : Inv P N ops w0 ρ0 H0 φ0 steps K (done ++ [(s, v)]) r (listed.setIfInBounds s.ix true) H' ρ' (a.put o'.dst u) w' := by
        refine ⟨hsplit', by rw [fr_snoc]; exact hk, fun pre p post hd hl => ?_, fun j hj => ?_, hclosed', by simp [I.size], ⟨hrel'.frel.congr hfa, hrel'.hrel, hrel'.step, hrel'.size, hrel'.defers⟩⟩
        · have hl1 : ¬ Listed listed p.1.ix := fun h => hl ((listed_set hlt').2 (.inr h))
          have hl2 : p.1.ix ≠ s.ix := fun h => hl ((listed_set hlt').2 (.inl h))
          rcases List.eq_nil_or_concat post with rfl | ⟨post', q, rfl⟩
          · have : done ++ [(s, v)] = pre ++ [p] := hd
            obtain ⟨h1, h2⟩ := List.append_inj' this rfl
            cases h2
            exact absurd rfl hl2
          · have : done ++ [(s, v)] = (pre ++ p :: post') ++ [q] := by rw [hd]; simp
            obtain ⟨h1, h2⟩ := List.append_inj' this rfl
            obtain ⟨hq, hev⟩ := I.pend pre p post' h1 hl1
            refine ⟨hq, ?_⟩
            rcases hev with ⟨hg, hv'⟩ | hev
            · left
              refine ⟨hg, ?_⟩
              by_cases hrd : readsHeap p.1.op = true
              · have hna : ¬ Anc ops p.1.ix s.ix := fun h => hl1 (I.anc_ready h hready)
                have hsteps2 : steps = pre.map (·.1) ++ p.1 :: (post'.map (·.1) ++ s :: r) := by rw [hsteps, h1]; simp
                obtain ⟨hdst, hself, hmid⟩ := hp.read _ _ _ _ _ hsteps2 hrd heff hna
                obtain ⟨d, hdd⟩ := Option.isSome_iff_exists.1 hdst
                -- between p and s nothing that p looks at is written, nor p's own place
                have hfr : ∀ t, (t ∈ looks p.1.op p.1.guard → (fr φ0 done).get t = (putd p.1.dst p.2 (fr φ0 pre)).get t) ∧ (p.1.dst = some t → (fr φ0 done).get t = p.2) := by
                  have hgen : ∀ (l : List (AStep × Value)) (φ : Frame), (∀ k ∈ l, k.1.dst ≠ p.1.dst ∧ ∀ t, k.1.dst = some t → t ∉ looks p.1.op p.1.guard) → ∀ t, (t ∈ looks p.1.op p.1.guard ∨ p.1.dst = some t) → (fr φ l).get t = φ.get t := by
                    intro l
                    induction l with
                    | nil => intro φ _ t _; rfl
                    | cons k l ihl =>
                      intro φ hkl t ht
                      have : fr φ (k :: l) = fr (putd k.1.dst k.2 φ) l := rfl
                      rw [this, ihl _ (fun k' hk' => hkl k' (by simp [hk'])) t ht, get_putd, if_neg]
                      intro hkd
                      rcases ht with ht | ht
                      · exact (hkl k (by simp)).2 t hkd ht
                      · exact (hkl k (by simp)).1 (by rw [hkd, ht])
                  have hdone : fr φ0 done = fr (putd p.1.dst p.2 (fr φ0 pre)) post' := by rw [h1]; simp [fr]
                  intro t
                  rw [hdone]
                  refine ⟨fun ht => hgen post' _ (fun k hk => hmid k.1 (List.mem_map.2 ⟨k, hk, rfl⟩)) t (.inl ht), fun ht => ?_⟩
                  rw [hgen post' _ (fun k hk => hmid k.1 (List.mem_map.2 ⟨k, hk, rfl⟩)) t (.inr ht), get_putd, if_pos ht]
                have hrcm : (p.1.dst, p.1.op, p.1.guard) ∈ s.rc := by
                  rw [hrc _ _ _ hsteps]
                  unfold rcOf
                  rw [if_pos heff]
                  refine List.mem_map.2 ⟨p.1, List.mem_filter.2 ⟨by rw [h1]; simp, ?_⟩, rfl⟩
                  simp only [hrd, Bool.true_and, Bool.not_eq_true']
                  cases hh : ancB (ancOf ops) p.1.ix s.ix with
                  | false => rfl
                  | true => exact absurd (ancOf_sound ops _ _ hh) hna
                have hrok : rcOk s.rc (fr φ0 done) H' := by
                  rcases hrcok with h | h
                  · rw [h] at hrcm; cases hrcm
                  · exact h
                -- p doesn't look at its own place
                have hlk : ∀ t ∈ looks p.1.op p.1.guard, p.1.dst = some t → False := fun t ht h => hself t h ht
                have hlook : ∀ t ∈ looks p.1.op p.1.guard, (fr φ0 done).get t = (fr φ0 pre).get t := fun t ht => by
                  rw [(hfr t).1 ht, get_putd, if_neg (fun h => hlk t ht h)]
                have hgd : guardV (fr φ0 done) p.1.guard = some true := by rw [guard_of_looks hlook]; exact hg
                have := hrok _ hrcm hgd d hdd
                simp only at this
                rw [aval_congr fun x hx => ev_of_looks hlook hx, (hfr d).2 hdd] at this
                exact this
              · rw [← aval_heap (by simpa using hrd) _ H H']
                exact hv'
            · exact .inr hev
        · rw [listed_set hlt'] at hj
          rcases hj with rfl | hj
          · exact ⟨(s, v), by simp, rfl⟩
          · obtain ⟨q, hq, hqi⟩ := I.sub j hj
            exact ⟨q, by simp [hq], hqi⟩
      obtain ⟨done', rem', I'', hsat'⟩ := saturate hp r (done ++ [(s, v)]) I'
      exact ih done' rem' _ H' ρ' _ w' I'' hsat' hcount'
end
end Go.Gx
