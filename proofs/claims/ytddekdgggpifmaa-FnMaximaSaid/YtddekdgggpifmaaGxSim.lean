/-
  Running the abstract machine by rewriting: each rule turns a state into the next.
-/
import Derived.Test.YtddekdgggpifmaaGxFn
namespace Go.Gx
set_option linter.unusedSimpArgs false
set_option linter.unusedVariables false

abbrev Post := AExit → Frame → Heap → Prop
/-! ### weaker posts -/
theorem least {p : Nat → Prop} (h : ∃ n, p n) : ∃ n, p n ∧ ∀ m, p m → n ≤ m := by
  obtain ⟨n, hn⟩ := h
  induction n using Nat.strongRecOn with
  | _ n ih =>
    by_cases h : ∃ m, m < n ∧ p m
    · obtain ⟨m, hm, hpm⟩ := h
      exact ih m hm hpm
    · exact ⟨n, hn, fun m hm => by
        by_cases hlt : m < n
        · exact absurd ⟨m, hlt, hm⟩ h
        · omega⟩
theorem doV_mono {P : Program} {op : AOp} {φ : Frame} {H : Heap} {K K' : Value → Heap → Prop} (hk : ∀ v H, K v H → K' v H) (h : doV P op φ H K) : doV P op φ H K' := by
  unfold doV at h ⊢
  split at h
  · obtain ⟨S, hc, hs⟩ := h
    exact ⟨S, hc, fun r H' hr => hk _ _ (hs r H' hr)⟩
  · split at h
    · obtain ⟨S, hc, hs⟩ := h
      exact ⟨S, hc, fun r H' hr => hk _ _ (hs r H' hr)⟩
    · exact h
  · split at h
    · rename_i he
      rw [if_pos he]
      split at h
      · exact hk _ _ h
      · exact h
    · rename_i he
      rw [if_neg he]
      split at h
      · exact hk _ _ h
      · exact h
set_option linter.unusedVariables false
theorem stepV_mono {P : Program} {op : AOp} {gd : Option (Nat × Bool)} {φ : Frame} {H : Heap} {K K' : Value → Heap → Prop} (hk : ∀ v H, K v H → K' v H) (h : stepV P op gd φ H K) : stepV P op gd φ H K' := by
  unfold stepV at h ⊢
  split at h
  · exact doV_mono hk h
  · exact hk _ _ h
  · exact h
theorem awpOps_mono {P : Program} {K K' : Frame → Heap → Prop} (hk : ∀ φ H, K φ H → K' φ H) : ∀ (l : List AStep) (φ : Frame) (H : Heap), awpOps P l K φ H → awpOps P l K' φ H
  | [], φ, H, h => hk φ H h
  | s :: r, φ, H, h => stepV_mono (fun _ _ h => ⟨h.1, awpOps_mono hk r _ _ h.2⟩) h
theorem awp_mono {P : Program} (c : ACode) : ∀ {Q Q' : Post} {φ : Frame} {H : Heap}, awp P c Q φ H → (∀ e φ H, Q e φ H → Q' e φ H) → awp P c Q' φ H := by
  induction c with
  | skip => intro Q Q' φ H h hq; exact hq _ _ _ h
  | ops l => intro Q Q' φ H h hq; exact awpOps_mono (fun φ H h => hq _ _ _ h) l φ H h
  | seq a b iha ihb =>
    intro Q Q' φ H h hq
    refine iha h fun e φ H h => ?_
    cases e with
    | normal => exact ihb h hq
    | exit id => exact hq _ _ _ h
    | ret => exact hq _ _ _ h
  | cond c a b iha ihb =>
    intro Q Q' φ H h hq
    simp only [awp] at h ⊢
    split at h
    · split at h
      · rename_i ht; rw [if_pos ht]; exact iha h hq
      · rename_i ht; rw [if_neg ht]; exact ihb h hq
    · exact h
  | block id a iha =>
    intro Q Q' φ H h hq
    refine iha h fun e φ H h => ?_
    cases e with
    | normal => exact hq _ _ _ h
    | exit j =>
      simp only [blockQ] at h ⊢
      split at h
      · rename_i hj; rw [if_pos hj]; exact hq _ _ _ h
      · rename_i hj; rw [if_neg hj]; exact hq _ _ _ h
    | ret => exact hq _ _ _ h
  | loop live a iha =>
    intro Q Q' φ H h hq
    obtain ⟨I, μ, h0, hs⟩ := h
    refine ⟨I, μ, h0, fun vs H1 hI => iha (hs vs H1 hI) fun e φ H h => ?_⟩
    cases e with
    | normal => exact h
    | exit id => exact hq _ _ _ h
    | ret => exact hq _ _ _ h
  | exit id => intro Q Q' φ H h hq; exact hq _ _ _ h
  | ret => intro Q Q' φ H h hq; exact hq _ _ _ h
  | keep L a iha => intro Q Q' φ H h hq; exact iha h hq
  | both i j a b iha ihb => intro Q Q' φ H h hq; exact ⟨iha h.1 hq, ihb h.2 hq⟩

/-! ### the stack of what is left -/
inductive AItem where
  | code (c : ACode)
  | endB (id : Nat)
  | mark (live : List Nat) (N : List Value → Heap → Prop)

def markQ (live : List Nat) (N : List Value → Heap → Prop) (Q : Post) : Post
  | .normal, φ, H => N (live.map φ.get) H
  | e, φ, H => Q e φ H
def KQ (P : Program) : List AItem → Post → Post
  | [], R => R
  | .code b :: k, R => seqQ (awp P b (KQ P k R)) (KQ P k R)
  | .endB id :: k, R => blockQ id (KQ P k R)
  | .mark live N :: k, R => markQ live N (KQ P k R)

def rcS (rc : List (Option Nat × AOp × Option (Nat × Bool))) (φ : Frame) (H : Heap) : Prop := rc = [] ∨ rcOk rc φ H
abbrev RC := List (Option Nat × AOp × Option (Nat × Bool))

section
variable (P : Program)
def run (c : ACode) (k : List AItem) (R : Post) (φ : Frame) (H : Heap) : Prop := awp P c (KQ P k R) φ H
def fin (e : AExit) (k : List AItem) (R : Post) (φ : Frame) (H : Heap) : Prop := KQ P k R e φ H
def runOps (l : List AStep) (k : List AItem) (R : Post) (φ : Frame) (H : Heap) : Prop := awpOps P l (KQ P k R .normal) φ H
def optR (o : Option Value) (d : Option Nat) (rc : RC) (r : List AStep) (k : List AItem) (R : Post) (φ : Frame) (H : Heap) : Prop :=
  match o with
  | some v => rcS rc φ H ∧ runOps P r k R (putd d v φ) H
  | none => False
def effR (o : Option (Value × Heap)) (d : Option Nat) (rc : RC) (r : List AStep) (k : List AItem) (R : Post) (φ : Frame) : Prop :=
  match o with
  | some (v, H') => rcS rc φ H' ∧ runOps P r k R (putd d v φ) H'
  | none => False
def grdR (g : Option Bool) (s : AStep) (r : List AStep) (k : List AItem) (R : Post) (φ : Frame) (H : Heap) : Prop :=
  match g with
  | some true => runOps P (s :: r) k R φ H
  | some false => rcS s.rc φ H ∧ runOps P r k R (putd s.dst undef φ) H
  | none => False
def condR (c : Value) (a b : ACode) (k : List AItem) (R : Post) (φ : Frame) (H : Heap) : Prop :=
  match c with
  | .bool t => if t = true then run P a k R φ H else run P b k R φ H
  | _ => False
def loopR (live : List Nat) (vs : List Value) (a : ACode) (k : List AItem) (R : Post) (H : Heap) : Prop :=
  ∃ (I : List Value → Heap → Prop) (μ : List Value → Heap → Nat), I vs H ∧ ∀ vs H1, I vs H1 → awp P a (loopQ live I μ (μ vs H1) (KQ P k R)) (live.zip vs) H1
def callR (f : FuncId) (args : List Value) (d : Option Nat) (rc : RC) (r : List AStep) (k : List AItem) (R : Post) (φ : Frame) (H : Heap) : Prop :=
  callK P f args H fun v H' => rcS rc φ H' ∧ runOps P r k R (putd d v φ) H'
def callvR (g : Value) (args : List Value) (d : Option Nat) (rc : RC) (r : List AStep) (k : List AItem) (R : Post) (φ : Frame) (H : Heap) : Prop :=
  match g with
  | .func (.func f) first cap => callR P f (first.toList ++ args ++ cap.toList) d rc r k R φ H
  | _ => False
def keepR (φ : Frame) (a : ACode) (k : List AItem) (R : Post) (H : Heap) : Prop := run P a k R φ H
def bothR (a b : ACode) (k : List AItem) (R : Post) (φ : Frame) (H : Heap) : Prop := run P a k R φ H ∧ run P b k R φ H
def endR (o : Option Value) (S : Value → Heap → Prop) (H : Heap) : Prop :=
  match o with
  | some v => S v H
  | none => False
end
def guardW (v : Value) (w : Bool) : Option Bool :=
  match v with
  | .bool b => some (b == w)
  | .tuple _ => some false
  | _ => none

section
variable {P : Program} {k : List AItem} {R : Post} {φ : Frame} {H : Heap} {r : List AStep}

theorem run_skip : run P .skip k R φ H = fin P .normal k R φ H := rfl
theorem run_ops {l : List AStep} : run P (.ops l) k R φ H = runOps P l k R φ H := rfl
theorem run_seq {a b : ACode} : run P (.seq a b) k R φ H = run P a (.code b :: k) R φ H := rfl
theorem run_cond {c : Operand} {a b : ACode} : run P (.cond c a b) k R φ H = condR P (φ.ev c) a b k R φ H := rfl
theorem run_block {id : Nat} {a : ACode} : run P (.block id a) k R φ H = run P a (.endB id :: k) R φ H := rfl
theorem run_exit {id : Nat} : run P (.exit id) k R φ H = fin P (.exit id) k R φ H := rfl
theorem run_ret : run P .ret k R φ H = fin P .ret k R φ H := rfl
theorem run_keep {L : List Nat} {a : ACode} : run P (.keep L a) k R φ H = keepR P (φ.keep L) a k R H := rfl
theorem run_loop {live : List Nat} {a : ACode} : run P (.loop live a) k R φ H = loopR P live (live.map φ.get) a k R H := rfl
theorem run_both {i j : Nat} {a b : ACode} : run P (.both i j a b) k R φ H = bothR P a b k R φ H := rfl
theorem bothR_mk {a b : ACode} (h1 : run P a k R φ H) (h2 : run P b k R φ H) : bothR P a b k R φ H := ⟨h1, h2⟩
theorem keepR_nil {a : ACode} : keepR P [] a k R H = run P a k R [] H := rfl
theorem keepR_cons {x : Nat × Value} {a : ACode} : keepR P (x :: φ) a k R H = run P a k R (x :: φ) H := rfl

theorem fin_code {b : ACode} : fin P .normal (.code b :: k) R φ H = run P b k R φ H := rfl
theorem fin_code_exit {b : ACode} {j : Nat} : fin P (.exit j) (.code b :: k) R φ H = fin P (.exit j) k R φ H := rfl
theorem fin_code_ret {b : ACode} : fin P .ret (.code b :: k) R φ H = fin P .ret k R φ H := rfl
theorem fin_end {id : Nat} : fin P .normal (.endB id :: k) R φ H = fin P .normal k R φ H := rfl
theorem fin_end_here {id : Nat} : fin P (.exit id) (.endB id :: k) R φ H = fin P .normal k R φ H := by
  show blockQ id (KQ P k R) (.exit id) φ H = _
  simp only [blockQ, if_true]; rfl
theorem fin_end_exit {id j : Nat} (h : Nat.beq j id = false) : fin P (.exit j) (.endB id :: k) R φ H = fin P (.exit j) k R φ H := by
  show blockQ id (KQ P k R) (.exit j) φ H = _
  have : j ≠ id := Nat.ne_of_beq_eq_false h
  simp only [blockQ, if_neg this]; rfl
theorem fin_end_ret {id : Nat} : fin P .ret (.endB id :: k) R φ H = fin P .ret k R φ H := rfl
theorem fin_mark {live : List Nat} {N : List Value → Heap → Prop} : fin P .normal (.mark live N :: k) R φ H = N (live.map φ.get) H := rfl
theorem fin_mark_exit {live : List Nat} {N : List Value → Heap → Prop} {j : Nat} : fin P (.exit j) (.mark live N :: k) R φ H = fin P (.exit j) k R φ H := rfl
theorem fin_mark_ret {live : List Nat} {N : List Value → Heap → Prop} : fin P .ret (.mark live N :: k) R φ H = fin P .ret k R φ H := rfl
theorem fin_ret {res : List ARes} {S : Value → Heap → Prop} : fin P .ret [] (finQ res S) φ H = endR (ares φ H res) S H := rfl
theorem fin_normal {res : List ARes} {S : Value → Heap → Prop} : fin P .normal [] (finQ res S) φ H = endR (ares φ H res) S H := rfl
theorem endR_some {v : Value} {S : Value → Heap → Prop} : endR (some v) S H = S v H := rfl

theorem ops_nil : runOps P [] k R φ H = fin P .normal k R φ H := rfl
theorem optR_some {v : Value} {d : Nat} : optR P (some v) (some d) [] r k R φ H = runOps P r k R ((d, v) :: φ) H := by simp [optR, rcS, putd]
theorem effR_some {v : Value} {H' : Heap} {d : Option Nat} {rc : RC} : effR P (some (v, H')) d rc r k R φ = (rcS rc φ H' ∧ runOps P r k R (putd d v φ) H') := rfl
theorem putd_some {d : Nat} {v : Value} : putd (some d) v φ = (d, v) :: φ := rfl
theorem putd_none {v : Value} : putd none v φ = φ := rfl

theorem rcS_nil : rcS [] φ H = True := by simp [rcS]
theorem rcOk_nil : rcOk [] φ H = True := by simp [rcOk]
theorem rcS_cons {x : Option Nat × AOp × Option (Nat × Bool)} {l : RC} : rcS (x :: l) φ H = rcOk (x :: l) φ H := by simp [rcS]
theorem rcOk_cons {d : Nat} {op : AOp} {l : RC} : rcOk ((some d, op, none) :: l) φ H = (aval op φ H = some (φ.get d) ∧ rcOk l φ H) := by
  simp [rcOk, guardV]
theorem rcOk_consG {d : Nat} {op : AOp} {g : Nat × Bool} {l : RC} : rcOk ((some d, op, some g) :: l) φ H = ((guardW (φ.get g.1) g.2 = some true → aval op φ H = some (φ.get d)) ∧ rcOk l φ H) := by
  have : guardV φ (some g) = guardW (φ.get g.1) g.2 := rfl
  simp [rcOk, this]

theorem rcOk_ld {d : Nat} {x : Operand} {l : RC} : rcOk ((some d, .ld x, none) :: l) φ H = (aval (.ld x) φ H = some (φ.get d) ∧ rcOk l φ H) := rcOk_cons
theorem guardW_true : guardW (.bool true) true = some true := rfl
theorem guardW_true' : guardW (.bool true) false = some false := rfl
theorem guardW_false : guardW (.bool false) true = some false := rfl
theorem guardW_false' : guardW (.bool false) false = some true := rfl
theorem guardW_undef {w : Bool} : guardW undef w = some false := rfl
theorem grdR_true {s : AStep} : grdR P (some true) s r k R φ H = runOps P (s :: r) k R φ H := rfl
theorem grdR_false {s : AStep} : grdR P (some false) s r k R φ H = (rcS s.rc φ H ∧ runOps P r k R (putd s.dst undef φ) H) := rfl
theorem ops_guard {i : Nat} {d : Option Nat} {op : AOp} {g : Nat} {w : Bool} {rc : RC} : runOps P (⟨i, d, op, some (g, w), rc⟩ :: r) k R φ H = grdR P (guardW (φ.get g) w) ⟨i, d, op, none, rc⟩ r k R φ H := by
  show awpOps P (⟨i, d, op, some (g, w), rc⟩ :: r) _ φ H = _
  unfold grdR guardW
  simp only [awpOps, stepV, guardV]
  cases hv : φ.get g
  case bool b => cases b <;> cases w <;> rfl
  all_goals rfl

/-! ### the operations on values -/
def aPick (c a b : Value) : Option Value :=
  match c with
  | .bool t => some (if t = true then a else b)
  | _ => none
def ldB (b : Option Blk) (o t : Nat) : Option Value :=
  match b with
  | some b => if b.cs.length = t then b.cs[o]? else none
  | none => none
def aLd (x : Value) (H : Heap) : Option Value :=
  match x with
  | .pointer (some ⟨h, o, some t⟩) => ldB (H.blk h) o t
  | _ => none
def ldnB (b : Option Blk) (n o t : Nat) : Option Value :=
  match b with
  | some b => if b.cs.length = t ∧ o + n ≤ t then some (.agg ((b.cs.drop o).take n).toArray) else none
  | none => none
def aLdn (n : Nat) (x : Value) (H : Heap) : Option Value :=
  match x with
  | .pointer (some ⟨h, o, some t⟩) => ldnB (H.blk h) n o t
  | _ => none
def aFa (off : Nat) (x : Value) : Option Value :=
  match x with
  | .pointer (some ⟨h, o, some t⟩) => some (.pointer (some ⟨h, o + off, some t⟩))
  | _ => none
def aFld (off : Nat) (x : Value) : Option Value :=
  match x with
  | .agg cs => cs[off]?
  | _ => none
def aFldn (off n : Nat) (x : Value) : Option Value :=
  match x with
  | .agg cs => some (.agg (cs.extract off (off + n)))
  | _ => none
def aIa (x i : Value) (H : Heap) : Option Value :=
  match x, i with
  | .slice (some ⟨h, o, none⟩) n t, .int _ j => match H.blk h with
    | some b => if b.cs.length = o + t ∧ 0 ≤ j ∧ j < (n : Int) then some (.pointer (some ⟨h, o + j.toNat, some (o + t)⟩)) else none
    | none => none
  | _, _ => none
def aBeq (neg : Bool) (x y : Value) : Option Value :=
  match x, y with
  | .bool a, .bool b => some (.bool (if neg = true then !(a == b) else a == b))
  | _, _ => none
def aExt (x : Value) (i : Nat) : Option Value :=
  match x with
  | .tuple vs => vs[i]?
  | _ => none
def aNc (x : Value) : Option Value :=
  match x with
  | .pointer (some a) => some (.pointer (some a))
  | .func (.func f) a b => some (.func (.func f) a b)
  | _ => none
def aLen (x : Value) : Option Value :=
  match x with
  | .slice _ n _ => some (.int .i64 n)
  | _ => none
def aMnx (mx : Bool) (x y : Value) : Option Value :=
  match x, y with
  | .int k a, .int _ b => some (.int k (if mx = true then (if b > a then b else a) else (if b < a then b else a)))
  | .float k a, .float k' b => if mx = true ∧ k = k' then (maxW k a b).map fun w => .float k w else none
  | _, _ => none
def aRe (x : Value) : Option Value :=
  match x with
  | .complex k a _ => some (.float k a)
  | _ => none
def aIm (x : Value) : Option Value :=
  match x with
  | .complex k _ b => some (.float k b)
  | _ => none
def aCx (x y : Value) : Option Value :=
  match x, y with
  | .float k a, .float k' b => if k = k' then some (.complex k a b) else none
  | _, _ => none
def aSlc (x lo hi : Value) : Option Value :=
  match x with
  | .slice (some ⟨h, o, none⟩) n t =>
    match lo, hi with
    | .int _ l, .int _ u => if 0 ≤ l ∧ l ≤ u ∧ u ≤ (n : Int) then some (.slice (some ⟨h, o + l.toNat, none⟩) (u.toNat - l.toNat) (t - l.toNat)) else none
    | _, _ => none
  | _ => none
def vn (x : Value) : Value :=
  match x with
  | .slice _ n _ => .int .i64 n
  | _ => undef
def aSlcLo (x lo : Value) : Option Value := aSlc x lo (vn x)
def aBits64 (x : Value) : Option Value :=
  match x with
  | .float .f64 b => if nanB .f64 b = true then none else some (.int .u64 b)
  | _ => none
def aBits32 (x : Value) : Option Value :=
  match x with
  | .float .f32 b => if nanB .f32 b = true then none else some (.int .u32 b)
  | _ => none
def aFrom64 (x : Value) : Option Value :=
  match x with
  | .int .u64 n => if 0 ≤ n ∧ n < 2 ^ 64 then some (.float .f64 (canon .f64 n.toNat)) else none
  | _ => none
def aFrom32 (x : Value) : Option Value :=
  match x with
  | .int .u32 n => if 0 ≤ n ∧ n < 2 ^ 32 then some (.float .f32 (canon .f32 n.toNat)) else none
  | _ => none
def aSqrt (x : Value) : Option Value :=
  match x with
  | .float .f64 b => some (.float .f64 (sqrtF b))
  | _ => none
def aInt (way : Nat) (x : Value) : Option Value :=
  match x with
  | .float .f64 b => some (.float .f64 (intF way b))
  | _ => none
def aBld (tmpl : List Value) (parts : List (Nat × Nat × Value)) : Option Value := (afill tmpl parts).map fun cs => .agg cs.toArray

def eBox (ty : TypeId) (x : Value) (H : Heap) : Option (Value × Heap) :=
  if solid x = true ∧ (vcells x).length ≤ 4096 ∧ (vcells x).all one = true then
    some (.pointer (some ⟨H.n, 0, some (vcells x).length⟩), H.new ⟨true, ty, vcells x⟩)
  else none
def eBsl (ety : TypeId) (len : Nat) (zero : Value) (parts : List (Nat × Value)) (H : Heap) : Option (Value × Heap) :=
  match afillS (List.replicate len zero) parts with
  | some cs => some (.slice (some ⟨H.n, 0, none⟩) len len, H.new ⟨true, ety, cs⟩)
  | none => none
def eMks (ety : TypeId) (bytes : Nat) (zero l c : Value) (H : Heap) : Option (Value × Heap) :=
  match l, c with
  | .int .i64 l, .int .i64 c => if 0 ≤ l ∧ l = c ∧ l * bytes ≤ 281474976710656 then
      some (.slice (some ⟨H.n, 0, none⟩) l.toNat l.toNat, H.new ⟨true, ety, List.replicate l.toNat zero⟩) else none
  | _, _ => none
def stB (b : Option Blk) (h o t : Nat) (v : Value) (H : Heap) : Option (Value × Heap) :=
  match b with
  | some b => if b.own = true ∧ b.cs.length = t ∧ o < t ∧ one v = true then some (undef, H.put h ⟨true, b.ty, b.cs.set o v⟩) else none
  | none => none
def eSt (x v : Value) (H : Heap) : Option (Value × Heap) :=
  match x with
  | .pointer (some ⟨h, o, some t⟩) => stB (H.blk h) h o t v H
  | _ => none
def stnB (b : Option Blk) (n h o t : Nat) (v : Value) (H : Heap) : Option (Value × Heap) :=
  match b with
  | some b => if b.own = true ∧ b.cs.length = t ∧ o + n ≤ t ∧ solid v = true ∧ (vcells v).length = n ∧ (vcells v).all one = true then
      some (undef, H.put h ⟨true, b.ty, b.cs.take o ++ vcells v ++ b.cs.drop (o + n)⟩) else none
  | none => none
def eStn (n : Nat) (x v : Value) (H : Heap) : Option (Value × Heap) :=
  match x with
  | .pointer (some ⟨h, o, some t⟩) => stnB (H.blk h) n h o t v H
  | _ => none
def appB (b : Option Blk) (ety : TypeId) (bytes h n t : Nat) (news : List Value) (H : Heap) : Option (Value × Heap) :=
  match b with
  | some b =>
    if b.own = true ∧ b.ty = ety ∧ n = b.cs.length ∧ t = n ∧ (n + news.length) * bytes ≤ 140737488355328 then
      some (.slice (some ⟨h, 0, none⟩) (n + news.length) (n + news.length), H.put h ⟨true, b.ty, b.cs ++ news⟩) else none
  | none => none
def eApp (ety : TypeId) (bytes : Nat) (s : Value) (news : Option (List Value)) (H : Heap) : Option (Value × Heap) :=
  match news with
  | none => none
  | some news => match s with
    | .slice none _ _ =>
      if news = [] then some (.slice none 0 0, H)
      else if news.length * bytes ≤ 140737488355328 then some (.slice (some ⟨H.n, 0, none⟩) news.length news.length, H.new ⟨true, ety, news⟩) else none
    | .slice (some ⟨h, 0, none⟩) n t => appB (H.blk h) ety bytes h n t news H
    | _ => none
def cpyB (b : Option Blk) (h o n t : Nat) (src : List Value) (H : Heap) : Option (Value × Heap) :=
  match b with
  | some b =>
    if b.own = true ∧ b.cs.length = o + t ∧ n ≤ t then
      some (.int .i64 (min src.length n : Nat), H.put h ⟨true, b.ty, b.cs.take o ++ src.take n ++ b.cs.drop (o + min src.length n)⟩) else none
  | none => none
def eCpy (d : Value) (src : Option (List Value)) (H : Heap) : Option (Value × Heap) :=
  match src with
  | none => none
  | some src => match d with
    | .slice none _ _ => some (.int .i64 0, H)
    | .slice (some ⟨h, o, none⟩) n t => cpyB (H.blk h) h o n t src H
    | _ => none

variable {i : Nat} {d : Option Nat} {rc : RC} {x y z : Operand}
theorem o_mv {d : Nat} : runOps P (⟨i, some d, .mv x, none, []⟩ :: r) k R φ H = optR P (some (φ.ev x)) (some d) [] r k R φ H := rfl
theorem o_pick : runOps P (⟨i, d, .pick z x y, none, rc⟩ :: r) k R φ H = optR P (aPick (φ.ev z) (φ.ev x) (φ.ev y)) d rc r k R φ H := by
  show (match aval _ φ H with | some v => _ | none => False) = _
  rfl
theorem o_ld : runOps P (⟨i, d, .ld x, none, rc⟩ :: r) k R φ H = optR P (aLd (φ.ev x) H) d rc r k R φ H := rfl
theorem o_ldn {n : Nat} : runOps P (⟨i, d, .ldn n x, none, rc⟩ :: r) k R φ H = optR P (aLdn n (φ.ev x) H) d rc r k R φ H := rfl
theorem o_fa {n : Nat} : runOps P (⟨i, d, .fa n x, none, rc⟩ :: r) k R φ H = optR P (aFa n (φ.ev x)) d rc r k R φ H := rfl
theorem o_fld {n : Nat} : runOps P (⟨i, d, .fld n x, none, rc⟩ :: r) k R φ H = optR P (aFld n (φ.ev x)) d rc r k R φ H := rfl
theorem o_fldn {n m : Nat} : runOps P (⟨i, d, .fldn n m x, none, rc⟩ :: r) k R φ H = optR P (aFldn n m (φ.ev x)) d rc r k R φ H := rfl
theorem o_ia : runOps P (⟨i, d, .ia x y, none, rc⟩ :: r) k R φ H = optR P (aIa (φ.ev x) (φ.ev y) H) d rc r k R φ H := rfl
theorem o_bin {op : BinOp} : runOps P (⟨i, d, .bin op x y, none, rc⟩ :: r) k R φ H = optR P (abin op (φ.ev x) (φ.ev y)) d rc r k R φ H := rfl
theorem o_beq {n : Bool} : runOps P (⟨i, d, .beq n x y, none, rc⟩ :: r) k R φ H = optR P (aBeq n (φ.ev x) (φ.ev y)) d rc r k R φ H := rfl
theorem o_un {op : UnOp} : runOps P (⟨i, d, .un op x, none, rc⟩ :: r) k R φ H = optR P (aun op (φ.ev x)) d rc r k R φ H := rfl
theorem o_cv {c : CD} : runOps P (⟨i, d, .cv c x, none, rc⟩ :: r) k R φ H = optR P (acv c (φ.ev x)) d rc r k R φ H := rfl
theorem o_ext {n : Nat} : runOps P (⟨i, d, .ext x n, none, rc⟩ :: r) k R φ H = optR P (aExt (φ.ev x) n) d rc r k R φ H := rfl
theorem o_nc : runOps P (⟨i, d, .nc x, none, rc⟩ :: r) k R φ H = optR P (aNc (φ.ev x)) d rc r k R φ H := rfl
theorem o_mkf {f : Fn} {a b : List Operand} : runOps P (⟨i, d, .mkf f a b, none, rc⟩ :: r) k R φ H = optR P (some (.func f (a.map φ.ev).toArray (b.map φ.ev).toArray)) d rc r k R φ H := rfl
theorem o_bld {tm : List Value} {ps : List (Nat × Nat × Operand)} : runOps P (⟨i, d, .bld tm ps, none, rc⟩ :: r) k R φ H = optR P (aBld tm (ps.map fun p => (p.1, p.2.1, φ.ev p.2.2))) d rc r k R φ H := rfl
theorem o_len : runOps P (⟨i, d, .len x, none, rc⟩ :: r) k R φ H = optR P (aLen (φ.ev x)) d rc r k R φ H := rfl
theorem o_mnx {b : Bool} : runOps P (⟨i, d, .mnx b x y, none, rc⟩ :: r) k R φ H = optR P (aMnx b (φ.ev x) (φ.ev y)) d rc r k R φ H := rfl
theorem o_re : runOps P (⟨i, d, .re x, none, rc⟩ :: r) k R φ H = optR P (aRe (φ.ev x)) d rc r k R φ H := rfl
theorem o_im : runOps P (⟨i, d, .im x, none, rc⟩ :: r) k R φ H = optR P (aIm (φ.ev x)) d rc r k R φ H := rfl
theorem o_cx : runOps P (⟨i, d, .cx x y, none, rc⟩ :: r) k R φ H = optR P (aCx (φ.ev x) (φ.ev y)) d rc r k R φ H := rfl
theorem o_slc2 : runOps P (⟨i, d, .slc x (some y) (some z), none, rc⟩ :: r) k R φ H = optR P (aSlc (φ.ev x) (φ.ev y) (φ.ev z)) d rc r k R φ H := rfl
theorem o_slc0 : runOps P (⟨i, d, .slc x none (some z), none, rc⟩ :: r) k R φ H = optR P (aSlc (φ.ev x) (.int .i64 0) (φ.ev z)) d rc r k R φ H := rfl
theorem o_slc1 : runOps P (⟨i, d, .slc x (some y) none, none, rc⟩ :: r) k R φ H = optR P (aSlcLo (φ.ev x) (φ.ev y)) d rc r k R φ H := by
  have : aval (.slc x (some y) none) φ H = aSlcLo (φ.ev x) (φ.ev y) := by
    simp only [aval, aSlcLo, aSlc, vn]
    split
    · rename_i h; rw [h]; rfl
    · rename_i h; split
      · rename_i h'; exact absurd h' (h _ _ _ _)
      · rfl
  show (match aval _ φ H with | some v => _ | none => False) = _
  rw [this]
  rfl
theorem o_f64bits : runOps P (⟨i, d, .f64bits x, none, rc⟩ :: r) k R φ H = optR P (aBits64 (φ.ev x)) d rc r k R φ H := rfl
theorem o_f32bits : runOps P (⟨i, d, .f32bits x, none, rc⟩ :: r) k R φ H = optR P (aBits32 (φ.ev x)) d rc r k R φ H := rfl
theorem o_f64from : runOps P (⟨i, d, .f64from x, none, rc⟩ :: r) k R φ H = optR P (aFrom64 (φ.ev x)) d rc r k R φ H := rfl
theorem o_f32from : runOps P (⟨i, d, .f32from x, none, rc⟩ :: r) k R φ H = optR P (aFrom32 (φ.ev x)) d rc r k R φ H := rfl
theorem o_fsqrt : runOps P (⟨i, d, .fsqrt x, none, rc⟩ :: r) k R φ H = optR P (aSqrt (φ.ev x)) d rc r k R φ H := rfl
theorem o_fint {n : Nat} : runOps P (⟨i, d, .fint n x, none, rc⟩ :: r) k R φ H = optR P (aInt n (φ.ev x)) d rc r k R φ H := rfl
theorem o_new {ty : TypeId} {cs : List Value} : runOps P (⟨i, d, .new ty cs, none, rc⟩ :: r) k R φ H = effR P (some (.pointer (some ⟨H.n, 0, some cs.length⟩), H.new ⟨true, ty, cs⟩)) d rc r k R φ := rfl
theorem effR_if {c : Prop} [Decidable c] {v : Value} {H' : Heap} : effR P (if c then some (v, H') else none) d rc r k R φ = (c ∧ rcS rc φ H' ∧ runOps P r k R (putd d v φ) H') := by
  by_cases h : c <;> simp [effR, h]
theorem optR_if {c : Prop} [Decidable c] {v : Value} : optR P (if c then some v else none) d rc r k R φ H = (c ∧ rcS rc φ H ∧ runOps P r k R (putd d v φ) H) := by
  by_cases h : c <;> simp [optR, h]
theorem o_eff {op : AOp} {o : Option (Value × Heap)} (he : isEff op = true) (hc : ∀ f a, op ≠ .call f a) (hv : ∀ g a, op ≠ .callv g a) (h : aeff op φ H = o) :
    runOps P (⟨i, d, op, none, rc⟩ :: r) k R φ H = effR P o d rc r k R φ := by
  show stepV P op none φ H _ = _
  unfold effR
  simp only [stepV, guardV]
  have : ∀ K, doV P op φ H K = match aeff op φ H with | some (v, H') => K v H' | none => False := fun K => by
    unfold doV
    split
    · exact absurd rfl (hc _ _)
    · exact absurd rfl (hv _ _)
    · rw [if_pos he]; rfl
  rw [this, h]
  rfl
theorem o_box {ty : TypeId} : runOps P (⟨i, d, .box ty x, none, rc⟩ :: r) k R φ H = effR P (eBox ty (φ.ev x) H) d rc r k R φ := o_eff rfl (by intros; simp) (by intros; simp) rfl
theorem o_bsl {ty n : Nat} {v : Value} {ps : List (Nat × Operand)} : runOps P (⟨i, d, .bsl ty n v ps, none, rc⟩ :: r) k R φ H = effR P (eBsl ty n v (ps.map fun p => (p.1, φ.ev p.2)) H) d rc r k R φ := o_eff rfl (by intros; simp) (by intros; simp) rfl
theorem o_mks {ty n : Nat} {v : Value} : runOps P (⟨i, d, .mks ty n v x y, none, rc⟩ :: r) k R φ H = effR P (eMks ty n v (φ.ev x) (φ.ev y) H) d rc r k R φ := o_eff rfl (by intros; simp) (by intros; simp) rfl
theorem o_st : runOps P (⟨i, d, .st x y, none, rc⟩ :: r) k R φ H = effR P (eSt (φ.ev x) (φ.ev y) H) d rc r k R φ := o_eff rfl (by intros; simp) (by intros; simp) rfl
theorem o_stn {n : Nat} : runOps P (⟨i, d, .stn n x y, none, rc⟩ :: r) k R φ H = effR P (eStn n (φ.ev x) (φ.ev y) H) d rc r k R φ := o_eff rfl (by intros; simp) (by intros; simp) rfl
theorem o_app {ty n : Nat} : runOps P (⟨i, d, .app ty n x y, none, rc⟩ :: r) k R φ H = effR P (eApp ty n (φ.ev x) (readSl H (φ.ev y)) H) d rc r k R φ := o_eff rfl (by intros; simp) (by intros; simp) rfl
theorem o_cpy : runOps P (⟨i, d, .cpy x y, none, rc⟩ :: r) k R φ H = effR P (eCpy (φ.ev x) (readSl H (φ.ev y)) H) d rc r k R φ := o_eff rfl (by intros; simp) (by intros; simp) rfl
theorem o_call {f : FuncId} {a : List Operand} : runOps P (⟨i, d, .call f a, none, rc⟩ :: r) k R φ H = callR P f (a.map φ.ev) d rc r k R φ H := rfl
theorem o_callv {g : Operand} {a : List Operand} : runOps P (⟨i, d, .callv g a, none, rc⟩ :: r) k R φ H = callvR P (φ.ev g) (a.map φ.ev) d rc r k R φ H := by
  show stepV P (.callv g a) none φ H _ = _
  simp only [stepV, guardV, doV, callvR, callR]
  rfl
theorem callvR_func {f : FuncId} {a b : Array Value} {l : List Value} : callvR P (.func (.func f) a b) l d rc r k R φ H = callR P f (a.toList ++ l ++ b.toList) d rc r k R φ H := rfl

theorem condR_true {a b : ACode} : condR P (.bool true) a b k R φ H = run P a k R φ H := rfl
theorem condR_false {a b : ACode} : condR P (.bool false) a b k R φ H = run P b k R φ H := rfl
theorem condR_split {t : Bool} {a b : ACode} (h1 : t = true → run P a k R φ H) (h2 : t = false → run P b k R φ H) : condR P (.bool t) a b k R φ H := by
  cases t
  · exact h2 rfl
  · exact h1 rfl
theorem grdR_split {t w : Bool} {s : AStep} (h1 : t = true → grdR P (guardW (.bool true) w) s r k R φ H) (h2 : t = false → grdR P (guardW (.bool false) w) s r k R φ H) : grdR P (guardW (.bool t) w) s r k R φ H := by
  cases t
  · exact h2 rfl
  · exact h1 rfl

theorem condR_splitD {p : Prop} [Decidable p] {a b : ACode} (h1 : p → run P a k R φ H) (h2 : ¬ p → run P b k R φ H) : condR P (.bool (decide p)) a b k R φ H :=
  condR_split (fun h => h1 (of_decide_eq_true h)) (fun h => h2 (of_decide_eq_false h))
theorem grdR_splitD {p : Prop} [Decidable p] {w : Bool} {s : AStep} (h1 : p → grdR P (guardW (.bool true) w) s r k R φ H) (h2 : ¬ p → grdR P (guardW (.bool false) w) s r k R φ H) : grdR P (guardW (.bool (decide p)) w) s r k R φ H :=
  grdR_split (fun h => h1 (of_decide_eq_true h)) (fun h => h2 (of_decide_eq_false h))
theorem condR_splitE {x y : Int} {a b : ACode} (h1 : x ≤ y → y ≤ x → run P a k R φ H) (h2 : ¬ x = y → run P b k R φ H) : condR P (.bool (decide (x = y))) a b k R φ H :=
  condR_splitD (fun h => h1 (Int.le_of_eq h) (Int.le_of_eq h.symm)) h2
theorem grdR_splitE {x y : Int} {w : Bool} {s : AStep} (h1 : x ≤ y → y ≤ x → grdR P (guardW (.bool true) w) s r k R φ H) (h2 : ¬ x = y → grdR P (guardW (.bool false) w) s r k R φ H) : grdR P (guardW (.bool (decide (x = y))) w) s r k R φ H :=
  grdR_splitD (fun h => h1 (Int.le_of_eq h) (Int.le_of_eq h.symm)) h2
theorem callR_of {f : FuncId} {args : List Value} {S : Value → Heap → Prop} (h : ACalls P f args H S) (h1 : ∀ v H', S v H' → rcS rc φ H' ∧ runOps P r k R (putd d v φ) H') : callR P f args d rc r k R φ H := ⟨S, h, h1⟩
theorem callR_pure {f : FuncId} {args : List Value} {v : Value} (h : ACalls P f args H fun v' H' => v' = v ∧ H' = H) (h0 : rcS rc φ H) (h1 : runOps P r k R (putd d v φ) H) : callR P f args d rc r k R φ H :=
  ⟨_, h, by rintro _ _ ⟨rfl, rfl⟩; exact ⟨h0, h1⟩⟩

/-- A loop: a state 's' stands for the live variables' values, 'm' goes down. -/
theorem loop_st {σ : Type} {live : List Nat} {vs0 : List Value} {a : ACode} (st : σ → List Value) (Hp : σ → Heap → Prop) (m : σ → Nat) (s0 : σ) (h0 : vs0 = st s0) (h1 : Hp s0 H)
    (hs : ∀ s H1, Hp s H1 → run P a (.mark live (fun vs H' => ∃ s', m s' < m s ∧ vs = st s' ∧ Hp s' H') :: k) R (live.zip (st s)) H1) : loopR P live vs0 a k R H := by
  classical
  let I : List Value → Heap → Prop := fun vs H => ∃ s, vs = st s ∧ Hp s H
  let W : List Value → Heap → Nat → Prop := fun vs H n => ∃ s, m s = n ∧ vs = st s ∧ Hp s H
  have hW : ∀ vs H, I vs H → ∃ n, W vs H n := fun vs H ⟨s, h, h'⟩ => ⟨m s, s, rfl, h, h'⟩
  let μ : List Value → Heap → Nat := fun vs H => if h : ∃ n, W vs H n then Classical.choose (least h) else 0
  refine ⟨I, μ, ⟨s0, h0, h1⟩, fun vs H1 hI => ?_⟩
  have hex := hW vs H1 hI
  have hμ : μ vs H1 = Classical.choose (least hex) := dif_pos hex
  obtain ⟨s, hms, hvs, hHp⟩ := (Classical.choose_spec (least hex)).1
  have := hs s H1 hHp
  rw [← hvs] at this
  refine awp_mono a this fun e φ' H' hq => ?_
  cases e with
  | normal =>
    obtain ⟨s', hlt, hvs', hHp'⟩ := hq
    have hex' : ∃ n, W (live.map φ'.get) H' n := ⟨m s', s', rfl, hvs', hHp'⟩
    refine ⟨⟨s', hvs', hHp'⟩, ?_⟩
    show μ (live.map φ'.get) H' < _
    have h2 : μ (live.map φ'.get) H' = Classical.choose (least hex') := dif_pos hex'
    rw [h2, hμ]
    exact Nat.lt_of_le_of_lt ((Classical.choose_spec (least hex')).2 _ ⟨s', rfl, hvs', hHp'⟩) (by rw [← hms]; exact hlt)
  | exit id => exact hq
  | ret => exact hq
end
end Go.Gx
