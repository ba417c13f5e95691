/- What the functions of the program do: contracts that are proved. -/
import Derived.Test.YtkojmlpaamdhoadSplitLevelsQToXQ
namespace Go.Proofs.Ytkojmlpaamdhoad
open Go.Gx
set_option maxRecDepth 100000
set_option linter.unusedSimpArgs false
set_option linter.unusedVariables false

theorem OwB.keepB {lo hi : Nat} {H H' : Heap} {sty ty : TypeId} {c d : Value} {l : List Value} {ls : List (List Value)} (o : OwB lo hi H sty ty c d l ls) (hn : H.n ≤ H'.n) (hb : ∀ h, lo ≤ h → h < hi → H'.blk h = H.blk h) : OwB lo hi H' sty ty c d l ls := by
  obtain ⟨vs, a, b⟩ := o
  exact ⟨vs, a.keep hn fun h hh => hb h (a.hdl hh).1 (a.hdl hh).2.1, b.keep hn fun i h hi' hh => hb h (b.lt hi' hh).1 (b.lt hi' hh).2.1⟩
/-- The rest behind a call's result and its variable, whose block was made in any order: shown once. -/
theorem bothBands {P : Program} {bty sty t : TypeId} {G0 : Heap} {ok : Bool} {l : List Nat} {m : List (List Nat)} {f : FuncId} {args : Nat → Value → Value → List Value} {d : Option Nat} {rc : RC} {r : List AStep} {k : List AItem} {R : Post} {φ : Nat → Value → Value → Gx.Frame} {X : Prop}
    (main : (∀ (p : Nat) (y z : Value) (G : Heap), G0.n ≤ p → p < G.n → Ext G0 G → G.blk p = some ⟨true, bty, [y, z]⟩ → OwB G0.n G.n G sty t y z ((selL ok l).map fv) ((selL ok m).map (List.map fv)) → (selL ok l).length ≤ 2 ^ 40 → totL (selL ok m) ≤ 2 ^ 40 → callR P f (args p y z) d rc r k R (φ p y z) G) → X)
    (kk : ∀ (p : Nat) (y z : Value) (G : Heap), G0.n ≤ p → p < G.n → Ext G0 G → G.blk p = some ⟨true, bty, [y, z]⟩ → OwB G0.n G.n G sty t y z ((selL ok l).map fv) ((selL ok m).map (List.map fv)) → (selL ok l).length ≤ 2 ^ 40 → totL (selL ok m) ≤ 2 ^ 40 → callR P f (args p y z) d rc r k R (φ p y z) G) : X := main kk
def nowS (xs ps : List Nat) : Nat → List Nat := foldI (fun _ l => tapL l ps) xs
theorem nowS_zero (xs ps : List Nat) : nowS xs ps 0 = xs := rfl
theorem nowS_succ (xs ps : List Nat) (t : Nat) : nowS xs ps (t + 1) = tapL (nowS xs ps t) ps := rfl
theorem nowS_le (xs ps : List Nat) : ∀ t, (nowS xs ps t).length ≤ xs.length
  | 0 => Nat.le_refl _
  | t + 1 => by
    have := nowS_le xs ps t
    rw [nowS_succ]
    have e : (tapL (nowS xs ps t) ps).length = (nowS xs ps t).length / 2 := tabL_length _ _
    omega
def detsS (xs ps : List Nat) (n : Nat) : List (List Nat) := (List.range n).map fun t => tapL (nowS xs ps t) (highL ps)
theorem detsS_succ (xs ps : List Nat) (n : Nat) : detsS xs ps n ++ [tapL (nowS xs ps n) (highL ps)] = detsS xs ps (n + 1) := by simp [detsS, List.range_succ]
theorem detsS_length (xs ps : List Nat) (n : Nat) : (detsS xs ps n).length = n := by simp [detsS]
theorem detsS_tot {xs ps : List Nat} {n : Nat} (hx : xs.length ≤ 128) (hn : n ≤ 6) : totL (detsS xs ps n) ≤ 2 ^ 40 := by
  have h : ∀ t, t ≤ n → offN (detsS xs ps n) t ≤ 64 * t := by
    intro t
    induction t with
    | zero => intro _; simp [offN_zero]
    | succ t ih =>
      intro ht
      have h1 := ih (by omega)
      rw [offN_succ (by rw [detsS_length]; omega)]
      have e : (detsS xs ps n).getD t [] = tapL (nowS xs ps t) (highL ps) := getD_range_map (by omega)
      have e2 : (tapL (nowS xs ps t) (highL ps)).length = (nowS xs ps t).length / 2 := tabL_length _ _
      have := nowS_le xs ps t
      rw [e, e2]
      omega
  have := h n (Nat.le_refl _)
  unfold totL
  rw [detsS_length]
  omega
def splitLevOk (xs ps : List Nat) (n : Int) : Bool := isLongF xs && validPairF ps && within n 1 6 && decide (xs.length % 2 ^ n.toNat = 0) && (List.range n.toNat).all fun t => splitOk (nowS xs ps t) ps
theorem splitLev_no {xs ps : List Nat} {n t : Nat} (ht : t < n) (h : splitOk (nowS xs ps t) ps = false) : splitLevOk xs ps n = false := by
  unfold splitLevOk
  rw [Int.toNat_natCast, allR_false (p := fun t => splitOk (nowS xs ps t) ps) ht h, Bool.and_false]
theorem shl_at {n : Nat} (hn : n ≤ 6) : IntKind.wrap .i64 (1 * 2 ^ min ((n : Int)).toNat IntKind.i64.bits) = ((2 ^ n : Nat) : Int) ∧ min n IntKind.i64.bits = n ∧ IntKind.wrap .i64 (1 * 2 ^ n) = ((2 ^ n : Nat) : Int) := by
  have hp : (2 : Nat) ^ n ≤ 2 ^ 6 := Nat.pow_le_pow_right (by omega) (by omega)
  have hb : IntKind.i64.bits = 64 := rfl
  have hmn2 : min n IntKind.i64.bits = n := by rw [hb]; omega
  have h2 : IntKind.wrap .i64 (1 * 2 ^ n) = ((2 ^ n : Nat) : Int) := by
    rw [Int.one_mul]
    have hc : ((2 : Int) ^ n) = ((2 ^ n : Nat) : Int) := by push_cast; rfl
    rw [hc]
    exact wrN _ (by omega)
  exact ⟨by rw [Int.toNat_natCast, hmn2]; exact h2, hmn2, h2⟩
theorem fbin_lt (op : BinOp) (k : FloatKind) (x y : Nat) : fbin op k x y < 2 ^ k.format.width := by
  unfold fbin
  cases h : floatBits op k x y with
  | none => exact qnan_lt k
  | some r => exact floatBits_lt h
theorem tapL_w (xs ps : List Nat) : W32 (tapL xs ps) := fun j => by
  by_cases hj : j < xs.length / 2
  · rw [tapL, tabL_getD hj]
    cases ps.length with
    | zero => simp [tapF, foldI_zero]
    | succ k => rw [tapF_succ]; exact fbin_lt .add .f32 _ _
  · have : (tapL xs ps).getD j 0 = 0 := by
      have hl : (tapL xs ps).length = xs.length / 2 := tabL_length _ _
      simp [List.getD_eq_getElem?_getD, List.getElem?_eq_none (show (tapL xs ps).length ≤ j by omega)]
    rw [this]; omega
theorem nowS_w {xs ps : List Nat} (h : W32 xs) : ∀ t, W32 (nowS xs ps t)
  | 0 => h
  | t + 1 => tapL_w _ _
theorem i_SplitLevels_law {H : Heap} {v0 v1 : Value} {xs0 xs1 : List Nat} {a2 : Int} (A0 : AF H v0 xs0) (A1 : AF H v1 xs1) (b2 : -9223372036854775808 ≤ a2 ∧ a2 ≤ 9223372036854775807) :
    ACalls Try.prog n_i_SplitLevels [v0, .agg #[v1], .int .i64 a2] H fun r H' => BandsR t_sfloat32 t_float32 H (splitLevOk xs0 xs1 a2) (nowS xs0 xs1 a2.toNat) (detsS xs0 xs1 a2.toNat) r H' := by
  refine k_i_SplitLevels.run rfl ?_
  unfold c_i_SplitLevels
  have o0 := A0.rd.one
  have o1 := A1.rd.one
  simp (disch := first | assumption | omega | rfl | (refine id ?_; simp only [gxD, ne_eq, reduceCtorEq, not_false_eq_true, Nat.reduceAdd, *]; done) | (refine id ?_; simp only [gxD]; omega)) only [↓gxPre, gxPost, ↓reduceIte, Nat.reduceEqDiff, reduceCtorEq, Nat.reduceAdd]
  refine callR_new2 ?_
  intro K eK hb hb2 nK
  refine callR_ext (i_isLong_ok (A0.rd.ext eK) A0.le) ?_
  intro G1 n1 bb1
  have e1 : Ext H G1 := eK.trans ⟨n1, bb1⟩
  replace hb := (bb1 _ (by omega)).trans hb
  replace hb2 := (bb1 _ (by omega)).trans hb2
  cases h1 : isLongF xs0
  · simp (disch := first | assumption | omega | rfl | (refine id ?_; simp only [gxD, ne_eq, reduceCtorEq, not_false_eq_true, Nat.reduceAdd, *]; done) | (refine id ?_; simp only [gxD]; omega)) only [↓gxPre, gxPost, ↓reduceIte, Nat.reduceEqDiff, reduceCtorEq, Nat.reduceAdd, hb2]
    exact .no (by simp only [splitLevOk, h1, Bool.false_and, Bool.true_and, Bool.and_true, Bool.and_false, Bool.or_true, Bool.true_or, Bool.false_or, Bool.or_false, Bool.and_self, Bool.or_self]) (e1.put (by omega) _)
  obtain ⟨hl, hl1⟩ := isLong_len h1
  simp (disch := first | assumption | omega | rfl | (refine id ?_; simp only [gxD, ne_eq, reduceCtorEq, not_false_eq_true, Nat.reduceAdd, *]; done) | (refine id ?_; simp only [gxD]; omega)) only [↓gxPre, gxPost, ↓reduceIte, Nat.reduceEqDiff, reduceCtorEq, Nat.reduceAdd, hb]
  refine callR_ext (i_ValidPair_ok (A1.rd.ext e1) A1.le) ?_
  intro G2 n2 bb2
  have e2 : Ext H G2 := e1.trans ⟨n2, bb2⟩
  replace hb := (bb2 _ (by omega)).trans hb
  replace hb2 := (bb2 _ (by omega)).trans hb2
  cases h2 : validPairF xs1
  · simp (disch := first | assumption | omega | rfl | (refine id ?_; simp only [gxD, ne_eq, reduceCtorEq, not_false_eq_true, Nat.reduceAdd, *]; done) | (refine id ?_; simp only [gxD]; omega)) only [↓gxPre, gxPost, ↓reduceIte, Nat.reduceEqDiff, reduceCtorEq, Nat.reduceAdd, hb2]
    exact .no (by simp only [splitLevOk, h2, Bool.false_and, Bool.true_and, Bool.and_true, Bool.and_false, Bool.or_true, Bool.true_or, Bool.false_or, Bool.or_false, Bool.and_self, Bool.or_self]) (e2.put (by omega) _)
  simp (disch := first | assumption | omega | rfl | (refine id ?_; simp only [gxD, ne_eq, reduceCtorEq, not_false_eq_true, Nat.reduceAdd, *]; done) | (refine id ?_; simp only [gxD]; omega)) only [↓gxPre, gxPost, ↓reduceIte, Nat.reduceEqDiff, reduceCtorEq, Nat.reduceAdd]
  refine callR_pure i_within_ok (.inl rfl) ?_
  cases h3 : within a2 1 6
  · simp (disch := first | assumption | omega | rfl | (refine id ?_; simp only [gxD, ne_eq, reduceCtorEq, not_false_eq_true, Nat.reduceAdd, *]; done) | (refine id ?_; simp only [gxD]; omega)) only [↓gxPre, gxPost, ↓reduceIte, Nat.reduceEqDiff, reduceCtorEq, Nat.reduceAdd, hb2]
    exact .no (by simp only [splitLevOk, h3, Bool.false_and, Bool.true_and, Bool.and_true, Bool.and_false, Bool.or_true, Bool.true_or, Bool.false_or, Bool.or_false, Bool.and_self, Bool.or_self]) (e2.put (by omega) _)
  have hw2 := within_true.1 h3
  obtain ⟨n, rfl⟩ : ∃ n : Nat, a2 = n := ⟨a2.toNat, by omega⟩
  obtain ⟨s1, s2, s3⟩ := shl_at (n := n) (by omega)
  have hp : (2 : Nat) ^ n ≤ 2 ^ 6 := Nat.pow_le_pow_right (by omega) (by omega)
  have hp0 : 0 < (2 : Nat) ^ n := Nat.two_pow_pos n
  have hp1 : (((2 ^ n : Nat) : Int)) ≠ 0 := by omega
  have htm : ((xs0.length : Int)).tmod ((2 ^ n : Nat) : Int) = ((xs0.length % 2 ^ n : Nat) : Int) := tmodN _ _
  by_cases h4 : ((xs0.length % 2 ^ n : Nat) : Int) = 0
  rotate_left
  · simp (disch := first | assumption | omega | rfl | (refine id ?_; simp only [gxD, ne_eq, reduceCtorEq, not_false_eq_true, Nat.reduceAdd, *]; done) | (refine id ?_; simp only [gxD]; omega)) only [↓gxPre, gxPost, ↓reduceIte, Nat.reduceEqDiff, reduceCtorEq, Nat.reduceAdd, hb2, (A0.rd.ext e2).len, s1, s2, s3, hp1, htm, h4, ne_eq, not_false_eq_true]
    exact .no (by simp only [splitLevOk, Int.toNat_natCast, decide_eq_false (show ¬ xs0.length % 2 ^ n = 0 by omega), Bool.false_and, Bool.true_and, Bool.and_true, Bool.and_false, Bool.or_true, Bool.true_or, Bool.false_or, Bool.or_false, Bool.and_self, Bool.or_self]) (e2.put (by omega) _)
  have h4n : xs0.length % 2 ^ n = 0 := by omega
  simp (disch := first | assumption | omega | rfl | (refine id ?_; simp only [gxD, ne_eq, reduceCtorEq, not_false_eq_true, Nat.reduceAdd, *]; done) | (refine id ?_; simp only [gxD]; omega)) only [↓gxPre, gxPost, ↓reduceIte, Nat.reduceEqDiff, reduceCtorEq, Nat.reduceAdd, hb2, (A0.rd.ext e2).len, s1, s2, s3, hp1, htm, h4, ne_eq, not_true]
  refine callR_of (i_copyOf_ok (A0.rd.ext e2) A0.le) ?_
  rintro _ _ ⟨rfl, rfl⟩
  simp (disch := first | assumption | omega | rfl | (refine id ?_; simp only [gxD, ne_eq, reduceCtorEq, not_false_eq_true, Nat.reduceAdd, *]; done) | (refine id ?_; simp only [gxD]; omega)) only [↓gxPre, gxPost, ↓reduceIte, Nat.reduceEqDiff, reduceCtorEq, Nat.reduceAdd]
  have eZ : Ext G2 (((G2.new ⟨true, t_float32, xs0.map fv⟩).new ⟨true, t_Bands, [.slice none 0 0, .slice none 0 0]⟩).put (G2.n + 1) ⟨true, t_Bands, [.slice (some ⟨G2.n, 0, none⟩) xs0.length xs0.length, .slice none 0 0]⟩) := ⟨by first | omega | (simp only [new_n, put_n]; omega) | (simp only [new_n, put_n] at *; omega), fun i hi => by simp (disch := first | assumption | omega | rfl | (refine id ?_; simp only [gxD, ne_eq, reduceCtorEq, not_false_eq_true, Nat.reduceAdd, *]; done) | (refine id ?_; simp only [gxD]; omega)) only [↓gxPre, gxPost, ↓reduceIte, Nat.reduceEqDiff, reduceCtorEq, Nat.reduceAdd, *]⟩
  have z1 : (((G2.new ⟨true, t_float32, xs0.map fv⟩).new ⟨true, t_Bands, [.slice none 0 0, .slice none 0 0]⟩).put (G2.n + 1) ⟨true, t_Bands, [.slice (some ⟨G2.n, 0, none⟩) xs0.length xs0.length, .slice none 0 0]⟩).blk (G2.n + 1) = some ⟨true, t_Bands, [.slice (some ⟨G2.n, 0, none⟩) xs0.length xs0.length, .slice none 0 0]⟩ := hput_self _ _ _
  have z2 : (((G2.new ⟨true, t_float32, xs0.map fv⟩).new ⟨true, t_Bands, [.slice none 0 0, .slice none 0 0]⟩).put (G2.n + 1) ⟨true, t_Bands, [.slice (some ⟨G2.n, 0, none⟩) xs0.length xs0.length, .slice none 0 0]⟩).blk G2.n = some ⟨true, t_float32, xs0.map fv⟩ := by rw [hput_other _ _ _ _ (by omega), new_old _ _ _ (by simp only [new_n]; omega), new_self]
  have nZ : (((G2.new ⟨true, t_float32, xs0.map fv⟩).new ⟨true, t_Bands, [.slice none 0 0, .slice none 0 0]⟩).put (G2.n + 1) ⟨true, t_Bands, [.slice (some ⟨G2.n, 0, none⟩) xs0.length xs0.length, .slice none 0 0]⟩).n = G2.n + 2 := by simp only [new_n, put_n]
  generalize (((G2.new ⟨true, t_float32, xs0.map fv⟩).new ⟨true, t_Bands, [.slice none 0 0, .slice none 0 0]⟩).put (G2.n + 1) ⟨true, t_Bands, [.slice (some ⟨G2.n, 0, none⟩) xs0.length xs0.length, .slice none 0 0]⟩) = Z at eZ z1 z2 nZ ⊢
  refine loop_forH n (fun t => [.pointer (some ⟨H.n, 0, some 1⟩), .pointer (some ⟨H.n + 1, 0, some 2⟩), .pointer (some ⟨G2.n + 1, 0, some 2⟩), .int .i64 n, .int .i64 t])
    (fun t G => (∀ k, k < t → splitOk (nowS xs0 xs1 k) xs1 = true) ∧ G2.n + 2 ≤ G.n ∧ Ext G2 G ∧ ∃ c d vs, G.blk (G2.n + 1) = some ⟨true, t_Bands, [c, d]⟩ ∧ OwL G2.n G.n G t_sfloat32 d vs ∧ OwN G2.n G.n G t_float32 (c :: vs) ((nowS xs0 xs1 t).map fv :: (detsS xs0 xs1 t).map (List.map fv))) rfl
    ⟨by intros; omega, by omega, eZ, _, _, [], z1, .nil, OwN.cons (.mk z2 (by simp [nowS_zero]) (by omega) (by omega) (by omega)) .nil fun i h hi => by simp [detsS] at hi⟩ ?_ ?_
  · rintro G ⟨hok, nG, eG, c, d, vs, hbG, od, on⟩
    have hb2G := (eG.blk _ (by omega)).trans hb2
    have oc1 := on.headL.one
    have od1 := od.one
    simp (disch := first | assumption | omega | rfl | (refine id ?_; simp only [gxD, ne_eq, reduceCtorEq, not_false_eq_true, Nat.reduceAdd, *]; done) | (refine id ?_; simp only [gxD]; omega)) only [↓gxPre, gxPost, ↓reduceIte, Nat.reduceEqDiff, reduceCtorEq, Nat.reduceAdd, Int.lt_irrefl, hbG, hb2G]
    have hO : splitLevOk xs0 xs1 n = true := by
      unfold splitLevOk
      rw [h1, h2, h3, Int.toNat_natCast, decide_eq_true h4n, allR.2 hok]
      rfl
    have htot := detsS_tot (xs := xs0) (ps := xs1) (n := n) hl (by omega)
    have hle := nowS_le xs0 xs1 n
    refine .yes hO ((e2.trans eG).put (by omega) _) ⟨vs, (od.wide (by omega) (Nat.le_refl _)).keep (Nat.le_refl _) fun h hh => hput_other _ _ _ _ fun e => od.ne hb2G (by decide) (by rw [hh, e]), ?_⟩ ?_ ?_
    · try simp only [Int.toNat_natCast]
      exact OwN_put (on.wide (by omega) (Nat.le_refl _)) hb2G (by decide)
    · try simp only [Int.toNat_natCast]
      omega
    · try simp only [Int.toNat_natCast]
      exact htot
  · rintro t G ht ⟨hok, nG, eG, c, d, vs, hbG, od, on⟩
    have hb2G := (eG.blk _ (by omega)).trans hb2
    have hbp := (eG.blk _ (by omega)).trans hb
    have eHG := e2.trans eG
    have hle := nowS_le xs0 xs1 t
    have oc := on.headL
    have oc1 := oc.one
    have hvl : vs.length = t := by have := on.1; simpa [detsS_length] using this
    have hwN : W32 (nowS xs0 xs1 t) := nowS_w (A0.w) t
    simp (disch := first | assumption | omega | rfl | (refine id ?_; simp only [gxD, ne_eq, reduceCtorEq, not_false_eq_true, Nat.reduceAdd, *]; done) | (refine id ?_; simp only [gxD]; omega)) only [↓gxPre, gxPost, ↓reduceIte, Nat.reduceEqDiff, reduceCtorEq, Nat.reduceAdd, hbG, hbp]
    refine callR_of (i_SplitRing_law ⟨oc.fs, by omega, hwN⟩ ⟨A1.rd.ext eHG, A1.le, A1.w⟩) ?_
    rintro _ F ⟨eF, y, z, rfl, oF, q1, q2⟩
    have nF := eF.n
    have hbF := (eF.blk _ (by omega)).trans hbG
    have hb2F := (eF.blk _ (by omega)).trans hb2G
    cases hk : splitOk (nowS xs0 xs1 t) xs1
    · simp (disch := first | assumption | omega | rfl | (refine id ?_; simp only [gxD, ne_eq, reduceCtorEq, not_false_eq_true, Nat.reduceAdd, *]; done) | (refine id ?_; simp only [gxD]; omega)) only [↓gxPre, gxPost, ↓reduceIte, Nat.reduceEqDiff, reduceCtorEq, Nat.reduceAdd, hb2F]
      exact .no (splitLev_no ht hk) ((eHG.trans eF).put (by omega) _)
    rw [hk] at oF
    simp only [selL, if_true] at oF
    have oy := oF.fst
    have oz := oF.snd
    have oy1 := oy.one
    have oz1 := oz.one
    have e1' : tapL (nowS xs0 xs1 t) xs1 = nowS xs0 xs1 (t + 1) := rfl
    rw [e1'] at oF oy
    have hbZ : (F.put (G2.n + 1) ⟨true, t_Bands, [y, d]⟩).blk (G2.n + 1) = some ⟨true, t_Bands, [y, d]⟩ := hput_self _ _ _
    have odZ : OwL G2.n F.n (F.put (G2.n + 1) ⟨true, t_Bands, [y, d]⟩) t_sfloat32 d vs := ((od.ext eF).wide (Nat.le_refl _) nF).keep (Nat.le_refl _) fun h hh => hput_other _ _ _ _ fun e => od.ne hbG (by decide) (by rw [hh, e])
    have onZ : OwN G2.n F.n (F.put (G2.n + 1) ⟨true, t_Bands, [y, d]⟩) t_float32 (y :: vs) ((nowS xs0 xs1 (t + 1)).map fv :: (detsS xs0 xs1 t).map (List.map fv)) := OwN_put (OwN.cons (oy.wide (by omega) (Nat.le_refl _)) ((OwN.tail (on.ext eF)).wide (Nat.le_refl _) nF) fun i h hi hh hy => by
      have g1 := (OwN.tail on).lt hi hh
      have g2 := (oy.hdl hy).1
      omega) hbF (by decide)
    have ozZ : OwL G2.n F.n (F.put (G2.n + 1) ⟨true, t_Bands, [y, d]⟩) t_float32 z ((tapL (nowS xs0 xs1 t) (highL xs1)).map fv) := (oz.wide (by omega) (Nat.le_refl _)).keep (Nat.le_refl _) fun h hh => hput_other _ _ _ _ fun e => oz.ne hbF (by decide) (by rw [hh, e])
    obtain ⟨d', G'', ea, od1, m1, m2, mk, f1, f2, f3⟩ := OwB_push (G := F.put (G2.n + 1) ⟨true, t_Bands, [y, d]⟩) (bytes := 24) ((eG.trans eF).put (by omega) _) odZ onZ ozZ (fun i h hi hh hz => by
      cases i with
      | zero =>
        have hy : hdl y = some h := by simpa [List.getD_eq_getElem?_getD] using hh
        have := oF.2.2 0 1 h (by simp) (by simp) (by simpa [List.getD_eq_getElem?_getD] using hy) (by simpa [List.getD_eq_getElem?_getD] using hz)
        omega
      | succ i =>
        have g1 := (OwN.tail on).lt (i := i) (by simpa using hi) (by simpa [List.getD_eq_getElem?_getD] using hh)
        have g2 := (oz.hdl hz).1
        omega) (Nat.le_refl _) (by rw [put_n]; omega) hbZ (by rw [put_n]; omega) (by omega) (by decide) (by decide) (by decide) (by rw [hvl]; omega)
    have odd1 := od.one
    simp only [put_n] at m1
    simp (disch := first | assumption | omega | rfl | (refine id ?_; simp only [gxD, ne_eq, reduceCtorEq, not_false_eq_true, Nat.reduceAdd, *]; done) | (refine id ?_; simp only [gxD]; omega)) only [↓gxPre, gxPost, ↓reduceIte, Nat.reduceEqDiff, reduceCtorEq, Nat.reduceAdd, hbF, hbZ, rd1_at]
    rw [ea]
    simp (disch := first | assumption | omega | rfl | (refine id ?_; simp only [gxD, ne_eq, reduceCtorEq, not_false_eq_true, Nat.reduceAdd, *]; done) | (refine id ?_; simp only [gxD]; omega)) only [↓gxPre, gxPost, ↓reduceIte, Nat.reduceEqDiff, reduceCtorEq, Nat.reduceAdd, m2]
    refine ⟨by simp, fun k hk' => ?_, by omega, ?_, y, d', _, rfl, f2, ?_⟩
    · by_cases hkt : k = t
      · subst hkt; exact hk
      · exact hok k (by omega)
    · exact f1
    · have : (detsS xs0 xs1 (t + 1)).map (List.map fv) = (detsS xs0 xs1 t).map (List.map fv) ++ [(tapL (nowS xs0 xs1 t) (highL xs1)).map fv] := by rw [← detsS_succ]; simp
      rw [this]
      exact f3

theorem s_SplitLevels_law {H : Heap} {v0 v1 : Value} {xs0 xs1 : List Nat} {a2 : Int} (A0 : AF H v0 xs0) (A1 : AF H v1 xs1) (b2 : -9223372036854775808 ≤ a2 ∧ a2 ≤ 9223372036854775807) :
    ACalls Try.prog n_s_SplitLevels [v0, .agg #[v1], .int .i64 a2] H fun r H' => BandsR t_sfloat32 t_float32 H (splitLevOk xs0 xs1 a2) (nowS xs0 xs1 a2.toNat) (detsS xs0 xs1 a2.toNat) r H' := by
  refine k_s_SplitLevels.run rfl ?_
  unfold c_s_SplitLevels
  have o0 := A0.rd.one
  have o1 := A1.rd.one
  simp (disch := first | assumption | omega | rfl | (refine id ?_; simp only [gxD, ne_eq, reduceCtorEq, not_false_eq_true, Nat.reduceAdd, *]; done) | (refine id ?_; simp only [gxD]; omega)) only [↓gxPre, gxPost, ↓reduceIte, Nat.reduceEqDiff, reduceCtorEq, Nat.reduceAdd]
  refine callR_new2 ?_
  intro K eK hb hb2 nK
  refine callR_pure (s_l03Long_ok (A0.rd.ext eK) A0.le) (.inl rfl) ?_
  cases h1 : isLongF xs0
  · simp (disch := first | assumption | omega | rfl | (refine id ?_; simp only [gxD, ne_eq, reduceCtorEq, not_false_eq_true, Nat.reduceAdd, *]; done) | (refine id ?_; simp only [gxD]; omega)) only [↓gxPre, gxPost, ↓reduceIte, Nat.reduceEqDiff, reduceCtorEq, Nat.reduceAdd, hb2]
    exact .no (by simp only [splitLevOk, h1, Bool.false_and, Bool.true_and, Bool.and_true, Bool.and_false, Bool.or_true, Bool.true_or, Bool.false_or, Bool.or_false, Bool.and_self, Bool.or_self]) (eK.put (by omega) _)
  obtain ⟨hl, hl1⟩ := isLong_len h1
  simp (disch := first | assumption | omega | rfl | (refine id ?_; simp only [gxD, ne_eq, reduceCtorEq, not_false_eq_true, Nat.reduceAdd, *]; done) | (refine id ?_; simp only [gxD]; omega)) only [↓gxPre, gxPost, ↓reduceIte, Nat.reduceEqDiff, reduceCtorEq, Nat.reduceAdd, hb]
  refine callR_pure (s_l03Pair_ok hb (A1.rd.ext eK) A1.le) (.inl rfl) ?_
  cases h2 : validPairF xs1
  · simp (disch := first | assumption | omega | rfl | (refine id ?_; simp only [gxD, ne_eq, reduceCtorEq, not_false_eq_true, Nat.reduceAdd, *]; done) | (refine id ?_; simp only [gxD]; omega)) only [↓gxPre, gxPost, ↓reduceIte, Nat.reduceEqDiff, reduceCtorEq, Nat.reduceAdd, hb2]
    exact .no (by simp only [splitLevOk, h2, Bool.false_and, Bool.true_and, Bool.and_true, Bool.and_false, Bool.or_true, Bool.true_or, Bool.false_or, Bool.or_false, Bool.and_self, Bool.or_self]) (eK.put (by omega) _)
  simp (disch := first | assumption | omega | rfl | (refine id ?_; simp only [gxD, ne_eq, reduceCtorEq, not_false_eq_true, Nat.reduceAdd, *]; done) | (refine id ?_; simp only [gxD]; omega)) only [↓gxPre, gxPost, ↓reduceIte, Nat.reduceEqDiff, reduceCtorEq, Nat.reduceAdd]
  refine callR_pure s_l00In_ok (.inl rfl) ?_
  cases h3 : within a2 1 6
  · simp (disch := first | assumption | omega | rfl | (refine id ?_; simp only [gxD, ne_eq, reduceCtorEq, not_false_eq_true, Nat.reduceAdd, *]; done) | (refine id ?_; simp only [gxD]; omega)) only [↓gxPre, gxPost, ↓reduceIte, Nat.reduceEqDiff, reduceCtorEq, Nat.reduceAdd, hb2]
    exact .no (by simp only [splitLevOk, h3, Bool.false_and, Bool.true_and, Bool.and_true, Bool.and_false, Bool.or_true, Bool.true_or, Bool.false_or, Bool.or_false, Bool.and_self, Bool.or_self]) (eK.put (by omega) _)
  have hw2 := within_true.1 h3
  obtain ⟨n, rfl⟩ : ∃ n : Nat, a2 = n := ⟨a2.toNat, by omega⟩
  obtain ⟨s1, s2, s3⟩ := shl_at (n := n) (by omega)
  have hp : (2 : Nat) ^ n ≤ 2 ^ 6 := Nat.pow_le_pow_right (by omega) (by omega)
  have hp0 : 0 < (2 : Nat) ^ n := Nat.two_pow_pos n
  have hp1 : (((2 ^ n : Nat) : Int)) ≠ 0 := by omega
  have htm : ((xs0.length : Int)).tmod ((2 ^ n : Nat) : Int) = ((xs0.length % 2 ^ n : Nat) : Int) := tmodN _ _
  by_cases h4 : ((xs0.length % 2 ^ n : Nat) : Int) = 0
  rotate_left
  · simp (disch := first | assumption | omega | rfl | (refine id ?_; simp only [gxD, ne_eq, reduceCtorEq, not_false_eq_true, Nat.reduceAdd, *]; done) | (refine id ?_; simp only [gxD]; omega)) only [↓gxPre, gxPost, ↓reduceIte, Nat.reduceEqDiff, reduceCtorEq, Nat.reduceAdd, hb2, (A0.rd.ext eK).len, s1, s2, s3, hp1, htm, h4, ne_eq, not_false_eq_true]
    exact .no (by simp only [splitLevOk, Int.toNat_natCast, decide_eq_false (show ¬ xs0.length % 2 ^ n = 0 by omega), Bool.false_and, Bool.true_and, Bool.and_true, Bool.and_false, Bool.or_true, Bool.true_or, Bool.false_or, Bool.or_false, Bool.and_self, Bool.or_self]) (eK.put (by omega) _)
  have h4n : xs0.length % 2 ^ n = 0 := by omega
  have hr := ((A0.rd.ext eK).ext (.new K ⟨true, t_float32, []⟩)).read
  simp (disch := first | assumption | omega | rfl | (refine id ?_; simp only [gxD, ne_eq, reduceCtorEq, not_false_eq_true, Nat.reduceAdd, *]; done) | (refine id ?_; simp only [gxD]; omega)) only [↓gxPre, gxPost, ↓reduceIte, Nat.reduceEqDiff, reduceCtorEq, Nat.reduceAdd, hb2, (A0.rd.ext eK).len, s1, s2, s3, hp1, htm, h4, ne_eq, not_true, hr, List.nil_append, lMapN]
  have eZ : Ext K (((K.new ⟨true, t_float32, xs0.map fv⟩).new ⟨true, t_Bands, [.slice none 0 0, .slice none 0 0]⟩).put (K.n + 1) ⟨true, t_Bands, [.slice (some ⟨K.n, 0, none⟩) xs0.length xs0.length, .slice none 0 0]⟩) := ⟨by first | omega | (simp only [new_n, put_n]; omega) | (simp only [new_n, put_n] at *; omega), fun i hi => by simp (disch := first | assumption | omega | rfl | (refine id ?_; simp only [gxD, ne_eq, reduceCtorEq, not_false_eq_true, Nat.reduceAdd, *]; done) | (refine id ?_; simp only [gxD]; omega)) only [↓gxPre, gxPost, ↓reduceIte, Nat.reduceEqDiff, reduceCtorEq, Nat.reduceAdd, *]⟩
  have z1 : (((K.new ⟨true, t_float32, xs0.map fv⟩).new ⟨true, t_Bands, [.slice none 0 0, .slice none 0 0]⟩).put (K.n + 1) ⟨true, t_Bands, [.slice (some ⟨K.n, 0, none⟩) xs0.length xs0.length, .slice none 0 0]⟩).blk (K.n + 1) = some ⟨true, t_Bands, [.slice (some ⟨K.n, 0, none⟩) xs0.length xs0.length, .slice none 0 0]⟩ := hput_self _ _ _
  have z2 : (((K.new ⟨true, t_float32, xs0.map fv⟩).new ⟨true, t_Bands, [.slice none 0 0, .slice none 0 0]⟩).put (K.n + 1) ⟨true, t_Bands, [.slice (some ⟨K.n, 0, none⟩) xs0.length xs0.length, .slice none 0 0]⟩).blk K.n = some ⟨true, t_float32, xs0.map fv⟩ := by rw [hput_other _ _ _ _ (by omega), new_old _ _ _ (by simp only [new_n]; omega), new_self]
  have nZ : (((K.new ⟨true, t_float32, xs0.map fv⟩).new ⟨true, t_Bands, [.slice none 0 0, .slice none 0 0]⟩).put (K.n + 1) ⟨true, t_Bands, [.slice (some ⟨K.n, 0, none⟩) xs0.length xs0.length, .slice none 0 0]⟩).n = K.n + 2 := by simp only [new_n, put_n]
  generalize (((K.new ⟨true, t_float32, xs0.map fv⟩).new ⟨true, t_Bands, [.slice none 0 0, .slice none 0 0]⟩).put (K.n + 1) ⟨true, t_Bands, [.slice (some ⟨K.n, 0, none⟩) xs0.length xs0.length, .slice none 0 0]⟩) = Z at eZ z1 z2 nZ ⊢
  refine loop_forH n (fun t => [.int .i64 ((n : Int) - t), .pointer (some ⟨H.n, 0, some 1⟩), .pointer (some ⟨H.n + 1, 0, some 2⟩), .pointer (some ⟨K.n + 1, 0, some 2⟩)])
    (fun t G => (∀ k, k < t → splitOk (nowS xs0 xs1 k) xs1 = true) ∧ K.n + 2 ≤ G.n ∧ Ext K G ∧ ∃ c d vs, G.blk (K.n + 1) = some ⟨true, t_Bands, [c, d]⟩ ∧ OwL K.n G.n G t_sfloat32 d vs ∧ OwN K.n G.n G t_float32 (c :: vs) ((nowS xs0 xs1 t).map fv :: (detsS xs0 xs1 t).map (List.map fv))) (by simp)
    ⟨by intros; omega, by omega, eZ, _, _, [], z1, .nil, OwN.cons (.mk z2 (by simp [nowS_zero]) (by omega) (by omega) (by omega)) .nil fun i h hi => by simp [detsS] at hi⟩ ?_ ?_
  · rintro G ⟨hok, nG, eG, c, d, vs, hbG, od, on⟩
    have hb2G := (eG.blk _ (by omega)).trans hb2
    have oc1 := on.headL.one
    have od1 := od.one
    have c1 : ¬ (0 : Int) < (n : Int) - n := by omega
    simp (disch := first | assumption | omega | rfl | (refine id ?_; simp only [gxD, ne_eq, reduceCtorEq, not_false_eq_true, Nat.reduceAdd, *]; done) | (refine id ?_; simp only [gxD]; omega)) only [↓gxPre, gxPost, ↓reduceIte, Nat.reduceEqDiff, reduceCtorEq, Nat.reduceAdd, c1, hbG, hb2G]
    have hO : splitLevOk xs0 xs1 n = true := by
      unfold splitLevOk
      rw [h1, h2, h3, Int.toNat_natCast, decide_eq_true h4n, allR.2 hok]
      rfl
    have htot := detsS_tot (xs := xs0) (ps := xs1) (n := n) hl (by omega)
    have hle := nowS_le xs0 xs1 n
    refine .yes hO ((eK.trans eG).put (by omega) _) ⟨vs, (od.wide (by omega) (Nat.le_refl _)).keep (Nat.le_refl _) fun h hh => hput_other _ _ _ _ fun e => od.ne hb2G (by decide) (by rw [hh, e]), ?_⟩ ?_ ?_
    · try simp only [Int.toNat_natCast]
      exact OwN_put (on.wide (by omega) (Nat.le_refl _)) hb2G (by decide)
    · try simp only [Int.toNat_natCast]
      omega
    · try simp only [Int.toNat_natCast]
      exact htot
  · rintro t G ht ⟨hok, nG, eG, c, d, vs, hbG, od, on⟩
    have hb2G := (eG.blk _ (by omega)).trans hb2
    have hbp := (eG.blk _ (by omega)).trans hb
    have eHG := eK.trans eG
    have hle := nowS_le xs0 xs1 t
    have oc := on.headL
    have oc1 := oc.one
    have hvl : vs.length = t := by have := on.1; simpa [detsS_length] using this
    have hwN : W32 (nowS xs0 xs1 t) := nowS_w (A0.w) t
    have c1 : (0 : Int) < (n : Int) - t := by omega
    simp (disch := first | assumption | omega | rfl | (refine id ?_; simp only [gxD, ne_eq, reduceCtorEq, not_false_eq_true, Nat.reduceAdd, *]; done) | (refine id ?_; simp only [gxD]; omega)) only [↓gxPre, gxPost, ↓reduceIte, Nat.reduceEqDiff, reduceCtorEq, Nat.reduceAdd, c1, hbG, hbp]
    refine callR_of (s_SplitRing_law ⟨oc.fs, by omega, hwN⟩ ⟨A1.rd.ext eHG, A1.le, A1.w⟩) ?_
    rintro _ F ⟨eF, y, z, rfl, oF, q1, q2⟩
    have nF := eF.n
    have hbF := (eF.blk _ (by omega)).trans hbG
    have hb2F := (eF.blk _ (by omega)).trans hb2G
    cases hk : splitOk (nowS xs0 xs1 t) xs1
    · simp (disch := first | assumption | omega | rfl | (refine id ?_; simp only [gxD, ne_eq, reduceCtorEq, not_false_eq_true, Nat.reduceAdd, *]; done) | (refine id ?_; simp only [gxD]; omega)) only [↓gxPre, gxPost, ↓reduceIte, Nat.reduceEqDiff, reduceCtorEq, Nat.reduceAdd, hb2F]
      exact .no (splitLev_no ht hk) ((eHG.trans eF).put (by omega) _)
    rw [hk] at oF
    simp only [selL, if_true] at oF
    have oy := oF.fst
    have oz := oF.snd
    have oy1 := oy.one
    have oz1 := oz.one
    have e1' : tapL (nowS xs0 xs1 t) xs1 = nowS xs0 xs1 (t + 1) := rfl
    rw [e1'] at oF oy
    have hbZ : (F.put (K.n + 1) ⟨true, t_Bands, [y, d]⟩).blk (K.n + 1) = some ⟨true, t_Bands, [y, d]⟩ := hput_self _ _ _
    have odZ : OwL K.n F.n (F.put (K.n + 1) ⟨true, t_Bands, [y, d]⟩) t_sfloat32 d vs := ((od.ext eF).wide (Nat.le_refl _) nF).keep (Nat.le_refl _) fun h hh => hput_other _ _ _ _ fun e => od.ne hbG (by decide) (by rw [hh, e])
    have onZ : OwN K.n F.n (F.put (K.n + 1) ⟨true, t_Bands, [y, d]⟩) t_float32 (y :: vs) ((nowS xs0 xs1 (t + 1)).map fv :: (detsS xs0 xs1 t).map (List.map fv)) := OwN_put (OwN.cons (oy.wide (by omega) (Nat.le_refl _)) ((OwN.tail (on.ext eF)).wide (Nat.le_refl _) nF) fun i h hi hh hy => by
      have g1 := (OwN.tail on).lt hi hh
      have g2 := (oy.hdl hy).1
      omega) hbF (by decide)
    have ozZ : OwL K.n F.n (F.put (K.n + 1) ⟨true, t_Bands, [y, d]⟩) t_float32 z ((tapL (nowS xs0 xs1 t) (highL xs1)).map fv) := (oz.wide (by omega) (Nat.le_refl _)).keep (Nat.le_refl _) fun h hh => hput_other _ _ _ _ fun e => oz.ne hbF (by decide) (by rw [hh, e])
    obtain ⟨d', G'', ea, od1, m1, m2, mk, f1, f2, f3⟩ := OwB_push (G := F.put (K.n + 1) ⟨true, t_Bands, [y, d]⟩) (bytes := 24) ((eG.trans eF).put (by omega) _) odZ onZ ozZ (fun i h hi hh hz => by
      cases i with
      | zero =>
        have hy : hdl y = some h := by simpa [List.getD_eq_getElem?_getD] using hh
        have := oF.2.2 0 1 h (by simp) (by simp) (by simpa [List.getD_eq_getElem?_getD] using hy) (by simpa [List.getD_eq_getElem?_getD] using hz)
        omega
      | succ i =>
        have g1 := (OwN.tail on).lt (i := i) (by simpa using hi) (by simpa [List.getD_eq_getElem?_getD] using hh)
        have g2 := (oz.hdl hz).1
        omega) (Nat.le_refl _) (by rw [put_n]; omega) hbZ (by rw [put_n]; omega) (by omega) (by decide) (by decide) (by decide) (by rw [hvl]; omega)
    have odd1 := od.one
    simp only [put_n] at m1
    simp (disch := first | assumption | omega | rfl | (refine id ?_; simp only [gxD, ne_eq, reduceCtorEq, not_false_eq_true, Nat.reduceAdd, *]; done) | (refine id ?_; simp only [gxD]; omega)) only [↓gxPre, gxPost, ↓reduceIte, Nat.reduceEqDiff, reduceCtorEq, Nat.reduceAdd, hbF, hbZ, rd1_at]
    rw [ea]
    simp (disch := first | assumption | omega | rfl | (refine id ?_; simp only [gxD, ne_eq, reduceCtorEq, not_false_eq_true, Nat.reduceAdd, *]; done) | (refine id ?_; simp only [gxD]; omega)) only [↓gxPre, gxPost, ↓reduceIte, Nat.reduceEqDiff, reduceCtorEq, Nat.reduceAdd, m2]
    refine ⟨by simp; omega, fun k hk' => ?_, by omega, ?_, y, d', _, rfl, f2, ?_⟩
    · by_cases hkt : k = t
      · subst hkt; exact hk
      · exact hok k (by omega)
    · exact f1
    · have : (detsS xs0 xs1 (t + 1)).map (List.map fv) = (detsS xs0 xs1 t).map (List.map fv) ++ [(tapL (nowS xs0 xs1 t) (highL xs1)).map fv] := by rw [← detsS_succ]; simp
      rw [this]
      exact f3

end Go.Proofs.Ytkojmlpaamdhoad
