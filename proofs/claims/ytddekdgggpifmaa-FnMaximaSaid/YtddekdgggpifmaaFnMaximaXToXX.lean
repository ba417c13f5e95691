/- What the functions of the program do: contracts that are proved. -/
import Derived.Test.YtddekdgggpifmaaFnMaximaBToU
namespace Go.Proofs.Ytddekdgggpifmaa
open Go.Gx
set_option maxRecDepth 100000
set_option linter.unusedSimpArgs false
set_option linter.unusedVariables false

theorem rd1_at {H : Heap} {k : Nat} {ty : TypeId} {v : Value} (h : k = H.n) : readSl (H.new ⟨true, ty, [v]⟩) (.slice (some ⟨k, 0, none⟩) 1 1) = some [v] := by subst h; exact rd1_new
theorem ring_ix (n j k : Nat) : (2 * (j : Int) + (k : Int)).tmod (n : Int) = (((2 * j + k) % n : Nat) : Int) := by
  have : 2 * (j : Int) + (k : Int) = ((2 * j + k : Nat) : Int) := by omega
  rw [this, tmodN]
def tapF (xs ps : List Nat) (j : Nat) : Nat → Nat := foldI (fun k a => fbin .add .f32 a (fbin .mul .f32 (ps.getD k 0) (xs.getD ((2 * j + k) % xs.length) 0))) 0
theorem tapF_succ (xs ps : List Nat) (j k : Nat) : tapF xs ps j (k + 1) = fbin .add .f32 (tapF xs ps j k) (fbin .mul .f32 (ps.getD k 0) (xs.getD ((2 * j + k) % xs.length) 0)) := rfl
def tapL (xs ps : List Nat) : List Nat := tabL (xs.length / 2) fun j => tapF xs ps j ps.length
def splitOk (xs ps : List Nat) : Bool := isLongF xs && decide (xs.length % 2 = 0) && validPairF ps && ((tapL xs ps).all finF && (tapL xs (highL ps)).all finF)
theorem s_l03Taps_ok {H : Heap} {v u : Value} {xs ps : List Nat} (hv : FS H v xs) (hu : FS H u ps) (hn : 1 ≤ xs.length) (hn' : xs.length ≤ 2 ^ 30) (he : xs.length % 2 = 0) (hm : ps.length ≤ 2 ^ 30) :
    ACalls Try.prog n_s_l03Taps [v, u] H fun r H' => Ext H H' ∧ r = .slice (some ⟨H.n, 0, none⟩) (xs.length / 2) (xs.length / 2) ∧ H.n + 1 ≤ H'.n ∧ H'.blk H.n = some ⟨true, t_float32, (tapL xs ps).map fv⟩ := by
  refine k_s_l03Taps.run rfl ?_
  unfold c_s_l03Taps
  simp (disch := first | assumption | omega | rfl | (refine id ?_; simp only [gxD, ne_eq, reduceCtorEq, not_false_eq_true, Nat.reduceAdd, *]; done) | (refine id ?_; simp only [gxD]; omega)) only [↓gxPre, gxPost, ↓reduceIte, Nat.reduceEqDiff, reduceCtorEq, Nat.reduceAdd, hv.len]
  refine loop_forH (xs.length / 2) (fun j => [v, u, .int .i64 xs.length, .slice (some ⟨H.n, 0, none⟩) j j, .int .i64 j])
    (fun j G => H.n + 1 ≤ G.n ∧ Ext H G ∧ G.blk H.n = some ⟨true, t_float32, (tabL j fun j => tapF xs ps j ps.length).map fv⟩) rfl ⟨by simp only [new_n]; omega, ⟨by first | omega | (simp only [new_n, put_n]; omega) | (simp only [new_n, put_n] at *; omega), fun i hi => by simp (disch := first | assumption | omega | rfl | (refine id ?_; simp only [gxD, ne_eq, reduceCtorEq, not_false_eq_true, Nat.reduceAdd, *]; done) | (refine id ?_; simp only [gxD]; omega)) only [↓gxPre, gxPost, ↓reduceIte, Nat.reduceEqDiff, reduceCtorEq, Nat.reduceAdd, *]⟩, by simp (disch := first | assumption | omega | rfl | (refine id ?_; simp only [gxD, ne_eq, reduceCtorEq, not_false_eq_true, Nat.reduceAdd, *]; done) | (refine id ?_; simp only [gxD]; omega)) only [↓gxPre, gxPost, ↓reduceIte, Nat.reduceEqDiff, reduceCtorEq, Nat.reduceAdd]; rfl⟩ ?_ ?_
  · rintro G ⟨hG, hE, hc⟩
    have : ¬ (2 * ((xs.length / 2 : Nat) : Int) < xs.length) := by omega
    simp (disch := first | assumption | omega | rfl | (refine id ?_; simp only [gxD, ne_eq, reduceCtorEq, not_false_eq_true, Nat.reduceAdd, *]; done) | (refine id ?_; simp only [gxD]; omega)) only [↓gxPre, gxPost, ↓reduceIte, Nat.reduceEqDiff, reduceCtorEq, Nat.reduceAdd, this]
    exact ⟨hE, hG, hc⟩
  · rintro j G hj ⟨hG, hE, hc⟩
    have hv0 := hv.ext hE
    have hv1 := hu.ext hE
    simp (disch := first | assumption | omega | rfl | (refine id ?_; simp only [gxD, ne_eq, reduceCtorEq, not_false_eq_true, Nat.reduceAdd, *]; done) | (refine id ?_; simp only [gxD]; omega)) only [↓gxPre, gxPost, ↓reduceIte, Nat.reduceEqDiff, reduceCtorEq, Nat.reduceAdd, hv1.len]
    refine loop_for ps.length (fun k => [v, u, .int .i64 xs.length, .slice (some ⟨H.n, 0, none⟩) j j, .int .i64 j, .float .f32 (tapF xs ps j k), .int .i64 ps.length, .int .i64 k]) rfl ?_ ?_
    · have t1 : ((tabL j fun j => tapF xs ps j ps.length).map fv).length = j := by rw [lMapN, tabL_length]
      have m1 : (tabL j fun j => tapF xs ps j ps.length).map fv ++ [.float .f32 (tapF xs ps j ps.length)] = (tabL (j + 1) fun j => tapF xs ps j ps.length).map fv := by rw [tabL_succ, fv_snoc']
      obtain ⟨f1, f2, f3, f4⟩ := push_at hE hc (Nat.le_refl _) (by omega) m1
      simp (disch := first | assumption | omega | rfl | (refine id ?_; simp only [gxD, ne_eq, reduceCtorEq, not_false_eq_true, Nat.reduceAdd, *]; done) | (refine id ?_; simp only [gxD]; omega)) only [↓gxPre, gxPost, ↓reduceIte, Nat.reduceEqDiff, reduceCtorEq, Nat.reduceAdd, Int.lt_irrefl, hc]
      exact ⟨by simp, by omega, f1, by rw [m1]⟩
    · intro k hk
      have hmod : (2 * j + k) % xs.length < xs.length := Nat.mod_lt _ (by omega)
      simp (disch := first | assumption | omega | rfl | (refine id ?_; simp only [gxD, ne_eq, reduceCtorEq, not_false_eq_true, Nat.reduceAdd, *]; done) | (refine id ?_; simp only [gxD]; omega)) only [↓gxPre, gxPost, ↓reduceIte, Nat.reduceEqDiff, reduceCtorEq, Nat.reduceAdd, ring_ix, hv0.ia, hv0.ld, hv1.ia, hv1.ld]
      simp [tapF_succ]
theorem s_SplitRing_law {H : Heap} {v0 v1 : Value} {xs0 xs1 : List Nat} (A : AF H v0 xs0) (B : AF H v1 xs1) : ACalls Try.prog n_s_SplitRing [v0, .agg #[v1]] H fun r H' => TwoR fv t_float32 H (splitOk xs0 xs1) (tapL xs0 xs1) (tapL xs0 (highL xs1)) r H' := by
  have o1 := A.rd.one
  have o2 := B.rd.one
  refine k_s_SplitRing.run rfl ?_
  unfold c_s_SplitRing
  simp (disch := first | assumption | omega | rfl | (refine id ?_; simp only [gxD, ne_eq, reduceCtorEq, not_false_eq_true, Nat.reduceAdd, *]; done) | (refine id ?_; simp only [gxD]; omega)) only [↓gxPre, gxPost, ↓reduceIte, Nat.reduceEqDiff, reduceCtorEq, Nat.reduceAdd]
  refine callR_new ?_
  intro G e hb nn
  refine callR_pure (s_l03Long_ok (A.rd.ext e) A.le) (.inl rfl) ?_
  cases h1 : isLongF xs0
  · simp (disch := first | assumption | omega | rfl | (refine id ?_; simp only [gxD, ne_eq, reduceCtorEq, not_false_eq_true, Nat.reduceAdd, *]; done) | (refine id ?_; simp only [gxD]; omega)) only [↓gxPre, gxPost, ↓reduceIte, Nat.reduceEqDiff, reduceCtorEq, Nat.reduceAdd]
    exact .no (by simp only [splitOk, h1, Bool.false_and]) e
  have hl := long_len h1
  by_cases h2 : xs0.length % 2 = 0
  rotate_left
  · have h2' : ¬ ((xs0.length % 2 : Nat) : Int) = 0 := by omega
    simp (disch := first | assumption | omega | rfl | (refine id ?_; simp only [gxD, ne_eq, reduceCtorEq, not_false_eq_true, Nat.reduceAdd, *]; done) | (refine id ?_; simp only [gxD]; omega)) only [↓gxPre, gxPost, ↓reduceIte, Nat.reduceEqDiff, reduceCtorEq, Nat.reduceAdd, A.rd.len, tmod2, h2', ne_eq, not_false_eq_true]
    exact .no (by simp only [splitOk, decide_eq_false h2, Bool.and_false, Bool.false_and]) e
  have h2' : ((xs0.length % 2 : Nat) : Int) = 0 := by omega
  simp (disch := first | assumption | omega | rfl | (refine id ?_; simp only [gxD, ne_eq, reduceCtorEq, not_false_eq_true, Nat.reduceAdd, *]; done) | (refine id ?_; simp only [gxD]; omega)) only [↓gxPre, gxPost, ↓reduceIte, Nat.reduceEqDiff, reduceCtorEq, Nat.reduceAdd, A.rd.len, tmod2, h2', ne_eq, not_true]
  refine callR_pure (s_l03Pair_ok hb (B.rd.ext e) B.le) (.inl rfl) ?_
  cases h3 : validPairF xs1
  · simp (disch := first | assumption | omega | rfl | (refine id ?_; simp only [gxD, ne_eq, reduceCtorEq, not_false_eq_true, Nat.reduceAdd, *]; done) | (refine id ?_; simp only [gxD]; omega)) only [↓gxPre, gxPost, ↓reduceIte, Nat.reduceEqDiff, reduceCtorEq, Nat.reduceAdd]
    exact .no (by simp only [splitOk, h3, Bool.and_false, Bool.false_and]) e
  have hp := vp_len h3
  simp (disch := first | assumption | omega | rfl | (refine id ?_; simp only [gxD, ne_eq, reduceCtorEq, not_false_eq_true, Nat.reduceAdd, *]; done) | (refine id ?_; simp only [gxD]; omega)) only [↓gxPre, gxPost, ↓reduceIte, Nat.reduceEqDiff, reduceCtorEq, Nat.reduceAdd, hb]
  refine callR_of (s_l03Taps_ok (A.rd.ext e) (B.rd.ext e) (by omega) (by omega) h2 (by omega)) ?_
  rintro _ G1 ⟨e1, rfl, n1, c1⟩
  have hb1 := (e1.blk H.n (by omega)).trans hb
  simp (disch := first | assumption | omega | rfl | (refine id ?_; simp only [gxD, ne_eq, reduceCtorEq, not_false_eq_true, Nat.reduceAdd, *]; done) | (refine id ?_; simp only [gxD]; omega)) only [↓gxPre, gxPost, ↓reduceIte, Nat.reduceEqDiff, reduceCtorEq, Nat.reduceAdd]
  refine callR_of (s_l03High_ok hb1 (by omega) ((B.rd.ext e).ext e1) B.le) ?_
  rintro _ G2 ⟨e2, rfl, n2, c2⟩
  have lh := highL_length xs1
  simp (disch := first | assumption | omega | rfl | (refine id ?_; simp only [gxD, ne_eq, reduceCtorEq, not_false_eq_true, Nat.reduceAdd, *]; done) | (refine id ?_; simp only [gxD]; omega)) only [↓gxPre, gxPost, ↓reduceIte, Nat.reduceEqDiff, reduceCtorEq, Nat.reduceAdd]
  refine callR_of (s_l03Taps_ok (((A.rd.ext e).ext e1).ext e2) (FS.own c2 (by omega) lh) (by omega) (by omega) h2 (by omega)) ?_
  rintro _ G3 ⟨e3, rfl, n3, c3⟩
  have c1' := (e3.blk G.n (by have := e2.n; omega)).trans ((e2.blk G.n (by omega)).trans c1)
  have l1 : (tapL xs0 xs1).length = xs0.length / 2 := tabL_length _ _
  have l2 : (tapL xs0 (highL xs1)).length = xs0.length / 2 := tabL_length _ _
  have hn2 := e2.n
  have hn3 := e3.n
  have eA : Ext H G3 := ((e.trans e1).trans e2).trans e3
  simp (disch := first | assumption | omega | rfl | (refine id ?_; simp only [gxD, ne_eq, reduceCtorEq, not_false_eq_true, Nat.reduceAdd, *]; done) | (refine id ?_; simp only [gxD]; omega)) only [↓gxPre, gxPost, ↓reduceIte, Nat.reduceEqDiff, reduceCtorEq, Nat.reduceAdd]
  refine callR_pure (s_l02Finite_ok (FS.own c1' (by omega) l1) (by omega)) (.inl rfl) ?_
  cases f1 : (tapL xs0 xs1).all finF
  · simp (disch := first | assumption | omega | rfl | (refine id ?_; simp only [gxD, ne_eq, reduceCtorEq, not_false_eq_true, Nat.reduceAdd, *]; done) | (refine id ?_; simp only [gxD]; omega)) only [↓gxPre, gxPost, ↓reduceIte, Nat.reduceEqDiff, reduceCtorEq, Nat.reduceAdd]
    exact .no (by simp only [splitOk, f1, Bool.and_false, Bool.false_and]) eA
  simp (disch := first | assumption | omega | rfl | (refine id ?_; simp only [gxD, ne_eq, reduceCtorEq, not_false_eq_true, Nat.reduceAdd, *]; done) | (refine id ?_; simp only [gxD]; omega)) only [↓gxPre, gxPost, ↓reduceIte, Nat.reduceEqDiff, reduceCtorEq, Nat.reduceAdd]
  refine callR_pure (s_l02Finite_ok (FS.own c3 (by omega) l2) (by omega)) (.inl rfl) ?_
  cases f2 : (tapL xs0 (highL xs1)).all finF
  · simp (disch := first | assumption | omega | rfl | (refine id ?_; simp only [gxD, ne_eq, reduceCtorEq, not_false_eq_true, Nat.reduceAdd, *]; done) | (refine id ?_; simp only [gxD]; omega)) only [↓gxPre, gxPost, ↓reduceIte, Nat.reduceEqDiff, reduceCtorEq, Nat.reduceAdd]
    exact .no (by simp only [splitOk, f2, Bool.and_false]) eA
  simp (disch := first | assumption | omega | rfl | (refine id ?_; simp only [gxD, ne_eq, reduceCtorEq, not_false_eq_true, Nat.reduceAdd, *]; done) | (refine id ?_; simp only [gxD]; omega)) only [↓gxPre, gxPost, ↓reduceIte, Nat.reduceEqDiff, reduceCtorEq, Nat.reduceAdd]
  exact .yes (by simp only [splitOk, f1, f2, h1, h3, decide_eq_true h2, Bool.and_true]) eA (OwN.two (.mk c1' (by simpa using l1) (by omega) (by omega) (by omega)) (.mk c3 (by simpa using l2) (by omega) (by omega) (by omega)) fun h h1 h2 => by simp only [hdl, Option.some.injEq] at h1 h2; omega) (by omega) (by omega)
end Go.Proofs.Ytddekdgggpifmaa

namespace Go.Proofs.Ytddekdgggpifmaa
open Go.Gx
set_option maxRecDepth 100000
set_option linter.unusedSimpArgs false
set_option linter.unusedVariables false

theorem det_le {xs : List Nat} {yss : List (List Nat)} (h : validBandsF xs yss = true) : ∀ i, i < yss.length → 1 ≤ (yss.getD i []).length ∧ (yss.getD i []).length ≤ (yss.getD 0 []).length
  | 0, hi => by
    have := (vb_yes h).2.2.2.2.1 0 hi
    simp only [detAt, Bool.and_eq_true, decide_eq_true_eq] at this
    exact ⟨this.1, Nat.le_refl _⟩
  | i + 1, hi => by
    have ih := det_le h i (by omega)
    have := (vb_yes h).2.2.2.2.1 (i + 1) hi
    simp only [detAt, Bool.and_eq_true, Bool.or_eq_true, decide_eq_true_eq] at this
    have h2 := this.2
    simp only [Nat.add_sub_cancel] at h2
    omega
end Go.Proofs.Ytddekdgggpifmaa

namespace Go.Proofs.Ytddekdgggpifmaa
open Go.Gx
set_option maxRecDepth 100000
set_option linter.unusedSimpArgs false
set_option linter.unusedVariables false

theorem isLong_len {xs : List Nat} (h : isLongF xs = true) : xs.length ≤ 128 ∧ 1 ≤ xs.length := by
  simp only [isLongF, Bool.and_eq_true] at h
  have := within_true.1 h.1
  omega
end Go.Proofs.Ytddekdgggpifmaa

namespace Go.Proofs.Ytddekdgggpifmaa
open Go.Gx
set_option maxRecDepth 100000
set_option linter.unusedSimpArgs false
set_option linter.unusedVariables false

def SmallR (H : Heap) (ok : Bool) (c : Nat) (xss : List (List Nat)) (sty ty : TypeId) (r : Value) (H' : Heap) : Prop :=
  Ext H H' ∧ ∃ v, r = .tuple #[v, .int .i64 (selI ok c), .bool ok] ∧ OwS H.n H'.n H' sty ty v ((selL ok xss).map (List.map fv)) ∧ totL (selL ok xss) ≤ 2 ^ 40
theorem SmallR.no {H H' : Heap} {ok : Bool} {c : Nat} {xss : List (List Nat)} {sty ty : TypeId} (hk : ok = false) (e : Ext H H') : SmallR H ok c xss sty ty (.tuple #[.slice none 0 0, .int .i64 0, .bool false]) H' := by
  subst hk; exact ⟨e, _, rfl, .nil, by simp [selL, totL, offN]⟩
theorem SmallR.yes {H H' : Heap} {ok : Bool} {c : Nat} {xss : List (List Nat)} {sty ty : TypeId} {v : Value} (hk : ok = true) (e : Ext H H') (o : OwS H.n H'.n H' sty ty v (xss.map (List.map fv))) (hl : totL xss ≤ 2 ^ 40) : SmallR H ok c xss sty ty (.tuple #[v, .int .i64 c, .bool true]) H' := by
  subst hk; exact ⟨e, v, rfl, o, hl⟩
end Go.Proofs.Ytddekdgggpifmaa

namespace Go.Proofs.Ytddekdgggpifmaa
open Go.Gx
set_option maxRecDepth 100000
set_option linter.unusedSimpArgs false
set_option linter.unusedVariables false

/-- Bands that are handed back. -/
def BandsR (sty ty : TypeId) (H : Heap) (ok : Bool) (xs : List Nat) (yss : List (List Nat)) (r : Value) (H' : Heap) : Prop :=
  Ext H H' ∧ ∃ v u, r = .tuple #[.agg #[v, u], .bool ok] ∧ OwB H.n H'.n H' sty ty v u ((selL ok xs).map fv) ((selL ok yss).map (List.map fv)) ∧ (selL ok xs).length ≤ 2 ^ 40 ∧ totL (selL ok yss) ≤ 2 ^ 40
theorem OwB.nil {lo hi : Nat} {H : Heap} {sty ty : TypeId} : OwB lo hi H sty ty (.slice none 0 0) (.slice none 0 0) [] [] := ⟨[], .nil, OwN.cons .nil .nil fun i h hi => by simp at hi⟩
theorem BandsR.no {sty ty : TypeId} {H H' : Heap} {ok : Bool} {xs : List Nat} {yss : List (List Nat)} (hk : ok = false) (e : Ext H H') : BandsR sty ty H ok xs yss (.tuple #[.agg #[.slice none 0 0, .slice none 0 0], .bool false]) H' := by
  subst hk; exact ⟨e, _, _, rfl, OwB.nil, by simp [selL], by simp [selL, totL, offN]⟩
theorem BandsR.yes {sty ty : TypeId} {H H' : Heap} {ok : Bool} {xs : List Nat} {yss : List (List Nat)} {v u : Value} (hk : ok = true) (e : Ext H H') (o : OwB H.n H'.n H' sty ty v u (xs.map fv) (yss.map (List.map fv))) (hl : xs.length ≤ 2 ^ 40) (hm : totL yss ≤ 2 ^ 40) :
    BandsR sty ty H ok xs yss (.tuple #[.agg #[v, u], .bool true]) H' := by
  subst hk; exact ⟨e, v, u, rfl, o, hl, hm⟩
/-- A list is appended to a list of lists that lies in a variable's block, beside another list. -/
theorem OwB_push {H0 G : Heap} {hp lo bytes : Nat} {c d r : Value} {l m : List Value} {ls : List (List Value)} {vs : List Value} {bty sty ty : TypeId} (E : Ext H0 G) (od : OwL lo G.n G sty d vs) (on : OwN lo G.n G ty (c :: vs) (l :: ls))
    (orr : OwL lo G.n G ty r m) (hd : ∀ i h, i < (l :: ls).length → hdl ((c :: vs).getD i undef) = some h → hdl r ≠ some h) (hlo : H0.n ≤ lo) (hlo' : lo ≤ G.n) (hb : G.blk hp = some ⟨true, bty, [c, d]⟩) (hh : hp < G.n) (hp0 : H0.n ≤ hp) (h1 : bty ≠ sty) (h2 : bty ≠ ty) (h3 : sty ≠ ty)
    (hlen : (vs.length + 1) * bytes ≤ 140737488355328) :
    ∃ d' G', eApp sty bytes d (some [r]) (G.new ⟨true, sty, [r]⟩) = some (d', G') ∧ one d' = true ∧ G.n + 1 ≤ G'.n ∧ G'.blk hp = some ⟨true, bty, [c, d]⟩ ∧ (∀ i, i < G.n → hdl d ≠ some i → G'.blk i = G.blk i) ∧ Ext H0 (G'.put hp ⟨true, bty, [c, d']⟩) ∧
      OwL lo G'.n (G'.put hp ⟨true, bty, [c, d']⟩) sty d' (vs ++ [r]) ∧ OwN lo G'.n (G'.put hp ⟨true, bty, [c, d']⟩) ty (c :: (vs ++ [r])) (l :: (ls ++ [m])) := by
  obtain ⟨d', G', e, n', hb', o1, hk, hfin⟩ := push_ow (bytes := bytes) (x := r) E od hlo hlo' hb hh hp0 h1 hlen
  obtain ⟨f1, f2⟩ := hfin [c, d']
  refine ⟨d', G', e, o1, n', hb', hk, f1, f2, ?_⟩
  have q := on.snoc orr hd
  refine ((OwN.wide q (Nat.le_refl _) (by omega : G.n ≤ G'.n)).keep (by rw [put_n]; omega) fun i h hi hh' => ?_)
  obtain ⟨_, _, g3, g4, _⟩ := (q.2.1 i hi).hdl hh'
  rw [hput_other _ _ _ _ (fun e => by subst e; rw [hb] at g4; simp only [Option.some.injEq, Blk.mk.injEq] at g4; exact h2 g4.2.1)]
  refine hk h g3 fun e => ?_
  obtain ⟨_, _, _, k4, _⟩ := od.hdl e
  rw [g4] at k4
  simp only [Option.some.injEq, Blk.mk.injEq] at k4
  exact h3 k4.2.1.symm
end Go.Proofs.Ytddekdgggpifmaa

namespace Go.Proofs.Ytddekdgggpifmaa
open Go.Gx
set_option maxRecDepth 100000
set_option linter.unusedSimpArgs false
set_option linter.unusedVariables false

def nowS (xs ps : List Nat) : Nat → List Nat := foldI (fun _ l => tapL l ps) xs
theorem nowS_zero (xs ps : List Nat) : nowS xs ps 0 = xs := rfl
theorem nowS_succ (xs ps : List Nat) (t : Nat) : nowS xs ps (t + 1) = tapL (nowS xs ps t) ps := rfl
theorem nowS_le (xs ps : List Nat) : ∀ t, (nowS xs ps t).length ≤ xs.length
  | 0 => Nat.le_refl _
  | t + 1 => by
    have := nowS_le xs ps t
    rw [nowS_succ]
    have e : (tapL (nowS xs ps t) ps).length = (nowS xs ps t).length / 2 := tabL_length _ _
    omega
def detsS (xs ps : List Nat) (n : Nat) : List (List Nat) := (List.range n).map fun t => tapL (nowS xs ps t) (highL ps)
theorem detsS_succ (xs ps : List Nat) (n : Nat) : detsS xs ps n ++ [tapL (nowS xs ps n) (highL ps)] = detsS xs ps (n + 1) := by simp [detsS, List.range_succ]
theorem detsS_length (xs ps : List Nat) (n : Nat) : (detsS xs ps n).length = n := by simp [detsS]
theorem detsS_tot {xs ps : List Nat} {n : Nat} (hx : xs.length ≤ 128) (hn : n ≤ 6) : totL (detsS xs ps n) ≤ 2 ^ 40 := by
  have h : ∀ t, t ≤ n → offN (detsS xs ps n) t ≤ 64 * t := by
    intro t
    induction t with
    | zero => intro _; simp [offN_zero]
    | succ t ih =>
      intro ht
      have h1 := ih (by omega)
      rw [offN_succ (by rw [detsS_length]; omega)]
      have e : (detsS xs ps n).getD t [] = tapL (nowS xs ps t) (highL ps) := getD_range_map (by omega)
      have e2 : (tapL (nowS xs ps t) (highL ps)).length = (nowS xs ps t).length / 2 := tabL_length _ _
      have := nowS_le xs ps t
      rw [e, e2]
      omega
  have := h n (Nat.le_refl _)
  unfold totL
  rw [detsS_length]
  omega
def splitLevOk (xs ps : List Nat) (n : Int) : Bool := isLongF xs && validPairF ps && within n 1 6 && decide (xs.length % 2 ^ n.toNat = 0) && (List.range n.toNat).all fun t => splitOk (nowS xs ps t) ps
theorem splitLev_no {xs ps : List Nat} {n t : Nat} (ht : t < n) (h : splitOk (nowS xs ps t) ps = false) : splitLevOk xs ps n = false := by
  unfold splitLevOk
  rw [Int.toNat_natCast, allR_false (p := fun t => splitOk (nowS xs ps t) ps) ht h, Bool.and_false]
theorem shl_at {n : Nat} (hn : n ≤ 6) : IntKind.wrap .i64 (1 * 2 ^ min ((n : Int)).toNat IntKind.i64.bits) = ((2 ^ n : Nat) : Int) ∧ min n IntKind.i64.bits = n ∧ IntKind.wrap .i64 (1 * 2 ^ n) = ((2 ^ n : Nat) : Int) := by
  have hp : (2 : Nat) ^ n ≤ 2 ^ 6 := Nat.pow_le_pow_right (by omega) (by omega)
  have hb : IntKind.i64.bits = 64 := rfl
  have hmn2 : min n IntKind.i64.bits = n := by rw [hb]; omega
  have h2 : IntKind.wrap .i64 (1 * 2 ^ n) = ((2 ^ n : Nat) : Int) := by
    rw [Int.one_mul]
    have hc : ((2 : Int) ^ n) = ((2 ^ n : Nat) : Int) := by push_cast; rfl
    rw [hc]
    exact wrN _ (by omega)
  exact ⟨by rw [Int.toNat_natCast, hmn2]; exact h2, hmn2, h2⟩
theorem fbin_lt (op : BinOp) (k : FloatKind) (x y : Nat) : fbin op k x y < 2 ^ k.format.width := by
  unfold fbin
  cases h : floatBits op k x y with
  | none => exact qnan_lt k
  | some r => exact floatBits_lt h
theorem tapL_w (xs ps : List Nat) : W32 (tapL xs ps) := fun j => by
  by_cases hj : j < xs.length / 2
  · rw [tapL, tabL_getD hj]
    cases ps.length with
    | zero => simp [tapF, foldI_zero]
    | succ k => rw [tapF_succ]; exact fbin_lt .add .f32 _ _
  · have : (tapL xs ps).getD j 0 = 0 := by
      have hl : (tapL xs ps).length = xs.length / 2 := tabL_length _ _
      simp [List.getD_eq_getElem?_getD, List.getElem?_eq_none (show (tapL xs ps).length ≤ j by omega)]
    rw [this]; omega
theorem nowS_w {xs ps : List Nat} (h : W32 xs) : ∀ t, W32 (nowS xs ps t)
  | 0 => h
  | t + 1 => tapL_w _ _
theorem s_SplitLevels_law {H : Heap} {v0 v1 : Value} {xs0 xs1 : List Nat} {a2 : Int} (A0 : AF H v0 xs0) (A1 : AF H v1 xs1) (b2 : -9223372036854775808 ≤ a2 ∧ a2 ≤ 9223372036854775807) :
    ACalls Try.prog n_s_SplitLevels [v0, .agg #[v1], .int .i64 a2] H fun r H' => BandsR t_sfloat32 t_float32 H (splitLevOk xs0 xs1 a2) (nowS xs0 xs1 a2.toNat) (detsS xs0 xs1 a2.toNat) r H' := by
  refine k_s_SplitLevels.run rfl ?_
  unfold c_s_SplitLevels
  have o0 := A0.rd.one
  have o1 := A1.rd.one
  simp (disch := first | assumption | omega | rfl | (refine id ?_; simp only [gxD, ne_eq, reduceCtorEq, not_false_eq_true, Nat.reduceAdd, *]; done) | (refine id ?_; simp only [gxD]; omega)) only [↓gxPre, gxPost, ↓reduceIte, Nat.reduceEqDiff, reduceCtorEq, Nat.reduceAdd]
  refine callR_new2 ?_
  intro K eK hb hb2 nK
  refine callR_pure (s_l03Long_ok (A0.rd.ext eK) A0.le) (.inl rfl) ?_
  cases h1 : isLongF xs0
  · simp (disch := first | assumption | omega | rfl | (refine id ?_; simp only [gxD, ne_eq, reduceCtorEq, not_false_eq_true, Nat.reduceAdd, *]; done) | (refine id ?_; simp only [gxD]; omega)) only [↓gxPre, gxPost, ↓reduceIte, Nat.reduceEqDiff, reduceCtorEq, Nat.reduceAdd, hb2]
    exact .no (by simp only [splitLevOk, h1, Bool.false_and, Bool.true_and, Bool.and_true, Bool.and_false, Bool.or_true, Bool.true_or, Bool.false_or, Bool.or_false, Bool.and_self, Bool.or_self]) (eK.put (by omega) _)
  obtain ⟨hl, hl1⟩ := isLong_len h1
  simp (disch := first | assumption | omega | rfl | (refine id ?_; simp only [gxD, ne_eq, reduceCtorEq, not_false_eq_true, Nat.reduceAdd, *]; done) | (refine id ?_; simp only [gxD]; omega)) only [↓gxPre, gxPost, ↓reduceIte, Nat.reduceEqDiff, reduceCtorEq, Nat.reduceAdd, hb]
  refine callR_pure (s_l03Pair_ok hb (A1.rd.ext eK) A1.le) (.inl rfl) ?_
  cases h2 : validPairF xs1
  · simp (disch := first | assumption | omega | rfl | (refine id ?_; simp only [gxD, ne_eq, reduceCtorEq, not_false_eq_true, Nat.reduceAdd, *]; done) | (refine id ?_; simp only [gxD]; omega)) only [↓gxPre, gxPost, ↓reduceIte, Nat.reduceEqDiff, reduceCtorEq, Nat.reduceAdd, hb2]
    exact .no (by simp only [splitLevOk, h2, Bool.false_and, Bool.true_and, Bool.and_true, Bool.and_false, Bool.or_true, Bool.true_or, Bool.false_or, Bool.or_false, Bool.and_self, Bool.or_self]) (eK.put (by omega) _)
  simp (disch := first | assumption | omega | rfl | (refine id ?_; simp only [gxD, ne_eq, reduceCtorEq, not_false_eq_true, Nat.reduceAdd, *]; done) | (refine id ?_; simp only [gxD]; omega)) only [↓gxPre, gxPost, ↓reduceIte, Nat.reduceEqDiff, reduceCtorEq, Nat.reduceAdd]
  refine callR_pure s_l00In_ok (.inl rfl) ?_
  cases h3 : within a2 1 6
  · simp (disch := first | assumption | omega | rfl | (refine id ?_; simp only [gxD, ne_eq, reduceCtorEq, not_false_eq_true, Nat.reduceAdd, *]; done) | (refine id ?_; simp only [gxD]; omega)) only [↓gxPre, gxPost, ↓reduceIte, Nat.reduceEqDiff, reduceCtorEq, Nat.reduceAdd, hb2]
    exact .no (by simp only [splitLevOk, h3, Bool.false_and, Bool.true_and, Bool.and_true, Bool.and_false, Bool.or_true, Bool.true_or, Bool.false_or, Bool.or_false, Bool.and_self, Bool.or_self]) (eK.put (by omega) _)
  have hw2 := within_true.1 h3
  obtain ⟨n, rfl⟩ : ∃ n : Nat, a2 = n := ⟨a2.toNat, by omega⟩
  obtain ⟨s1, s2, s3⟩ := shl_at (n := n) (by omega)
  have hp : (2 : Nat) ^ n ≤ 2 ^ 6 := Nat.pow_le_pow_right (by omega) (by omega)
  have hp0 : 0 < (2 : Nat) ^ n := Nat.two_pow_pos n
  have hp1 : (((2 ^ n : Nat) : Int)) ≠ 0 := by omega
  have htm : ((xs0.length : Int)).tmod ((2 ^ n : Nat) : Int) = ((xs0.length % 2 ^ n : Nat) : Int) := tmodN _ _
  by_cases h4 : ((xs0.length % 2 ^ n : Nat) : Int) = 0
  rotate_left
  · simp (disch := first | assumption | omega | rfl | (refine id ?_; simp only [gxD, ne_eq, reduceCtorEq, not_false_eq_true, Nat.reduceAdd, *]; done) | (refine id ?_; simp only [gxD]; omega)) only [↓gxPre, gxPost, ↓reduceIte, Nat.reduceEqDiff, reduceCtorEq, Nat.reduceAdd, hb2, (A0.rd.ext eK).len, s1, s2, s3, hp1, htm, h4, ne_eq, not_false_eq_true]
    exact .no (by simp only [splitLevOk, Int.toNat_natCast, decide_eq_false (show ¬ xs0.length % 2 ^ n = 0 by omega), Bool.false_and, Bool.true_and, Bool.and_true, Bool.and_false, Bool.or_true, Bool.true_or, Bool.false_or, Bool.or_false, Bool.and_self, Bool.or_self]) (eK.put (by omega) _)
  have h4n : xs0.length % 2 ^ n = 0 := by omega
  have hr := ((A0.rd.ext eK).ext (.new K ⟨true, t_float32, []⟩)).read
  simp (disch := first | assumption | omega | rfl | (refine id ?_; simp only [gxD, ne_eq, reduceCtorEq, not_false_eq_true, Nat.reduceAdd, *]; done) | (refine id ?_; simp only [gxD]; omega)) only [↓gxPre, gxPost, ↓reduceIte, Nat.reduceEqDiff, reduceCtorEq, Nat.reduceAdd, hb2, (A0.rd.ext eK).len, s1, s2, s3, hp1, htm, h4, ne_eq, not_true, hr, List.nil_append, lMapN]
  have eZ : Ext K (((K.new ⟨true, t_float32, xs0.map fv⟩).new ⟨true, t_Bands, [.slice none 0 0, .slice none 0 0]⟩).put (K.n + 1) ⟨true, t_Bands, [.slice (some ⟨K.n, 0, none⟩) xs0.length xs0.length, .slice none 0 0]⟩) := ⟨by first | omega | (simp only [new_n, put_n]; omega) | (simp only [new_n, put_n] at *; omega), fun i hi => by simp (disch := first | assumption | omega | rfl | (refine id ?_; simp only [gxD, ne_eq, reduceCtorEq, not_false_eq_true, Nat.reduceAdd, *]; done) | (refine id ?_; simp only [gxD]; omega)) only [↓gxPre, gxPost, ↓reduceIte, Nat.reduceEqDiff, reduceCtorEq, Nat.reduceAdd, *]⟩
  have z1 : (((K.new ⟨true, t_float32, xs0.map fv⟩).new ⟨true, t_Bands, [.slice none 0 0, .slice none 0 0]⟩).put (K.n + 1) ⟨true, t_Bands, [.slice (some ⟨K.n, 0, none⟩) xs0.length xs0.length, .slice none 0 0]⟩).blk (K.n + 1) = some ⟨true, t_Bands, [.slice (some ⟨K.n, 0, none⟩) xs0.length xs0.length, .slice none 0 0]⟩ := hput_self _ _ _
  have z2 : (((K.new ⟨true, t_float32, xs0.map fv⟩).new ⟨true, t_Bands, [.slice none 0 0, .slice none 0 0]⟩).put (K.n + 1) ⟨true, t_Bands, [.slice (some ⟨K.n, 0, none⟩) xs0.length xs0.length, .slice none 0 0]⟩).blk K.n = some ⟨true, t_float32, xs0.map fv⟩ := by rw [hput_other _ _ _ _ (by omega), new_old _ _ _ (by simp only [new_n]; omega), new_self]
  have nZ : (((K.new ⟨true, t_float32, xs0.map fv⟩).new ⟨true, t_Bands, [.slice none 0 0, .slice none 0 0]⟩).put (K.n + 1) ⟨true, t_Bands, [.slice (some ⟨K.n, 0, none⟩) xs0.length xs0.length, .slice none 0 0]⟩).n = K.n + 2 := by simp only [new_n, put_n]
  generalize (((K.new ⟨true, t_float32, xs0.map fv⟩).new ⟨true, t_Bands, [.slice none 0 0, .slice none 0 0]⟩).put (K.n + 1) ⟨true, t_Bands, [.slice (some ⟨K.n, 0, none⟩) xs0.length xs0.length, .slice none 0 0]⟩) = Z at eZ z1 z2 nZ ⊢
  refine loop_forH n (fun t => [.int .i64 ((n : Int) - t), .pointer (some ⟨H.n, 0, some 1⟩), .pointer (some ⟨H.n + 1, 0, some 2⟩), .pointer (some ⟨K.n + 1, 0, some 2⟩)])
    (fun t G => (∀ k, k < t → splitOk (nowS xs0 xs1 k) xs1 = true) ∧ K.n + 2 ≤ G.n ∧ Ext K G ∧ ∃ c d vs, G.blk (K.n + 1) = some ⟨true, t_Bands, [c, d]⟩ ∧ OwL K.n G.n G t_sfloat32 d vs ∧ OwN K.n G.n G t_float32 (c :: vs) ((nowS xs0 xs1 t).map fv :: (detsS xs0 xs1 t).map (List.map fv))) (by simp)
    ⟨by intros; omega, by omega, eZ, _, _, [], z1, .nil, OwN.cons (.mk z2 (by simp [nowS_zero]) (by omega) (by omega) (by omega)) .nil fun i h hi => by simp [detsS] at hi⟩ ?_ ?_
  · rintro G ⟨hok, nG, eG, c, d, vs, hbG, od, on⟩
    have hb2G := (eG.blk _ (by omega)).trans hb2
    have oc1 := on.headL.one
    have od1 := od.one
    have c1 : ¬ (0 : Int) < (n : Int) - n := by omega
    simp (disch := first | assumption | omega | rfl | (refine id ?_; simp only [gxD, ne_eq, reduceCtorEq, not_false_eq_true, Nat.reduceAdd, *]; done) | (refine id ?_; simp only [gxD]; omega)) only [↓gxPre, gxPost, ↓reduceIte, Nat.reduceEqDiff, reduceCtorEq, Nat.reduceAdd, c1, hbG, hb2G]
    have hO : splitLevOk xs0 xs1 n = true := by
      unfold splitLevOk
      rw [h1, h2, h3, Int.toNat_natCast, decide_eq_true h4n, allR.2 hok]
      rfl
    have htot := detsS_tot (xs := xs0) (ps := xs1) (n := n) hl (by omega)
    have hle := nowS_le xs0 xs1 n
    refine .yes hO ((eK.trans eG).put (by omega) _) ⟨vs, (od.wide (by omega) (Nat.le_refl _)).keep (Nat.le_refl _) fun h hh => hput_other _ _ _ _ fun e => od.ne hb2G (by decide) (by rw [hh, e]), ?_⟩ ?_ ?_
    · try simp only [Int.toNat_natCast]
      exact OwN_put (on.wide (by omega) (Nat.le_refl _)) hb2G (by decide)
    · try simp only [Int.toNat_natCast]
      omega
    · try simp only [Int.toNat_natCast]
      exact htot
  · rintro t G ht ⟨hok, nG, eG, c, d, vs, hbG, od, on⟩
    have hb2G := (eG.blk _ (by omega)).trans hb2
    have hbp := (eG.blk _ (by omega)).trans hb
    have eHG := eK.trans eG
    have hle := nowS_le xs0 xs1 t
    have oc := on.headL
    have oc1 := oc.one
    have hvl : vs.length = t := by have := on.1; simpa [detsS_length] using this
    have hwN : W32 (nowS xs0 xs1 t) := nowS_w (A0.w) t
    have c1 : (0 : Int) < (n : Int) - t := by omega
    simp (disch := first | assumption | omega | rfl | (refine id ?_; simp only [gxD, ne_eq, reduceCtorEq, not_false_eq_true, Nat.reduceAdd, *]; done) | (refine id ?_; simp only [gxD]; omega)) only [↓gxPre, gxPost, ↓reduceIte, Nat.reduceEqDiff, reduceCtorEq, Nat.reduceAdd, c1, hbG, hbp]
    refine callR_of (s_SplitRing_law ⟨oc.fs, by omega, hwN⟩ ⟨A1.rd.ext eHG, A1.le, A1.w⟩) ?_
    rintro _ F ⟨eF, y, z, rfl, oF, q1, q2⟩
    have nF := eF.n
    have hbF := (eF.blk _ (by omega)).trans hbG
    have hb2F := (eF.blk _ (by omega)).trans hb2G
    cases hk : splitOk (nowS xs0 xs1 t) xs1
    · simp (disch := first | assumption | omega | rfl | (refine id ?_; simp only [gxD, ne_eq, reduceCtorEq, not_false_eq_true, Nat.reduceAdd, *]; done) | (refine id ?_; simp only [gxD]; omega)) only [↓gxPre, gxPost, ↓reduceIte, Nat.reduceEqDiff, reduceCtorEq, Nat.reduceAdd, hb2F]
      exact .no (splitLev_no ht hk) ((eHG.trans eF).put (by omega) _)
    rw [hk] at oF
    simp only [selL, if_true] at oF
    have oy := oF.fst
    have oz := oF.snd
    have oy1 := oy.one
    have oz1 := oz.one
    have e1' : tapL (nowS xs0 xs1 t) xs1 = nowS xs0 xs1 (t + 1) := rfl
    rw [e1'] at oF oy
    have hbZ : (F.put (K.n + 1) ⟨true, t_Bands, [y, d]⟩).blk (K.n + 1) = some ⟨true, t_Bands, [y, d]⟩ := hput_self _ _ _
    have odZ : OwL K.n F.n (F.put (K.n + 1) ⟨true, t_Bands, [y, d]⟩) t_sfloat32 d vs := ((od.ext eF).wide (Nat.le_refl _) nF).keep (Nat.le_refl _) fun h hh => hput_other _ _ _ _ fun e => od.ne hbG (by decide) (by rw [hh, e])
    have onZ : OwN K.n F.n (F.put (K.n + 1) ⟨true, t_Bands, [y, d]⟩) t_float32 (y :: vs) ((nowS xs0 xs1 (t + 1)).map fv :: (detsS xs0 xs1 t).map (List.map fv)) := OwN_put (OwN.cons (oy.wide (by omega) (Nat.le_refl _)) ((OwN.tail (on.ext eF)).wide (Nat.le_refl _) nF) fun i h hi hh hy => by
      have g1 := (OwN.tail on).lt hi hh
      have g2 := (oy.hdl hy).1
      omega) hbF (by decide)
    have ozZ : OwL K.n F.n (F.put (K.n + 1) ⟨true, t_Bands, [y, d]⟩) t_float32 z ((tapL (nowS xs0 xs1 t) (highL xs1)).map fv) := (oz.wide (by omega) (Nat.le_refl _)).keep (Nat.le_refl _) fun h hh => hput_other _ _ _ _ fun e => oz.ne hbF (by decide) (by rw [hh, e])
    obtain ⟨d', G'', ea, od1, m1, m2, mk, f1, f2, f3⟩ := OwB_push (G := F.put (K.n + 1) ⟨true, t_Bands, [y, d]⟩) (bytes := 24) ((eG.trans eF).put (by omega) _) odZ onZ ozZ (fun i h hi hh hz => by
      cases i with
      | zero =>
        have hy : hdl y = some h := by simpa [List.getD_eq_getElem?_getD] using hh
        have := oF.2.2 0 1 h (by simp) (by simp) (by simpa [List.getD_eq_getElem?_getD] using hy) (by simpa [List.getD_eq_getElem?_getD] using hz)
        omega
      | succ i =>
        have g1 := (OwN.tail on).lt (i := i) (by simpa using hi) (by simpa [List.getD_eq_getElem?_getD] using hh)
        have g2 := (oz.hdl hz).1
        omega) (Nat.le_refl _) (by rw [put_n]; omega) hbZ (by rw [put_n]; omega) (by omega) (by decide) (by decide) (by decide) (by rw [hvl]; omega)
    have odd1 := od.one
    simp only [put_n] at m1
    simp (disch := first | assumption | omega | rfl | (refine id ?_; simp only [gxD, ne_eq, reduceCtorEq, not_false_eq_true, Nat.reduceAdd, *]; done) | (refine id ?_; simp only [gxD]; omega)) only [↓gxPre, gxPost, ↓reduceIte, Nat.reduceEqDiff, reduceCtorEq, Nat.reduceAdd, hbF, hbZ, rd1_at]
    rw [ea]
    simp (disch := first | assumption | omega | rfl | (refine id ?_; simp only [gxD, ne_eq, reduceCtorEq, not_false_eq_true, Nat.reduceAdd, *]; done) | (refine id ?_; simp only [gxD]; omega)) only [↓gxPre, gxPost, ↓reduceIte, Nat.reduceEqDiff, reduceCtorEq, Nat.reduceAdd, m2]
    refine ⟨by simp; omega, fun k hk' => ?_, by omega, ?_, y, d', _, rfl, f2, ?_⟩
    · by_cases hkt : k = t
      · subst hkt; exact hk
      · exact hok k (by omega)
    · exact f1
    · have : (detsS xs0 xs1 (t + 1)).map (List.map fv) = (detsS xs0 xs1 t).map (List.map fv) ++ [(tapL (nowS xs0 xs1 t) (highL xs1)).map fv] := by rw [← detsS_succ]; simp
      rw [this]
      exact f3

end Go.Proofs.Ytddekdgggpifmaa

namespace Go.Proofs.Ytddekdgggpifmaa
open Go.Gx
set_option maxRecDepth 100000
set_option linter.unusedSimpArgs false
set_option linter.unusedVariables false

def apart (a b : Int) : Int := max (a - b) (b - a)
/-- The nearest number and if it lies near, among the first numbers of a list. -/
def nearI (l : List Int) (p n : Int) : Nat → Int × Bool
  | 0 => (0, false)
  | i + 1 => if apart (l.getD i 0) p ≤ n ∧ ((nearI l p n i).2 = false ∨ apart (l.getD i 0) p < apart (nearI l p n i).1 p) then (l.getD i 0, true) else nearI l p n i
def nixI (l : List Int) (p : Int) : Nat → Int
  | 0 => -1
  | i + 1 => if nixI l p i < 0 ∨ apart (l.getD i 0) p < apart (l.getD (nixI l p i).toNat 0) p then (i : Int) else nixI l p i
theorem nixI_b (l : List Int) (p : Int) : ∀ i, -1 ≤ nixI l p i ∧ nixI l p i < i
  | 0 => by simp [nixI]
  | i + 1 => by
    have := nixI_b l p i
    simp only [nixI]
    split <;> omega
def pckI (l : List Int) (p n b : Int) : Int × Bool := if 0 ≤ b ∧ apart (l.getD b.toNat 0) p ≤ n then (l.getD b.toNat 0, true) else (0, false)
theorem near_nix (l : List Int) (p n : Int) : ∀ i, nearI l p n i = pckI l p n (nixI l p i)
  | 0 => by simp [nixI, nearI, pckI]
  | i + 1 => by
    have ih := near_nix l p n i
    have hb := nixI_b l p i
    have hi : pckI l p n (i : Int) = if apart (l.getD i 0) p ≤ n then (l.getD i 0, true) else (0, false) := by simp [pckI]
    simp only [nearI]
    by_cases h0 : nixI l p i < 0
    · have e : nixI l p (i + 1) = i := if_pos (.inl h0)
      have e2 : nearI l p n i = (0, false) := by rw [ih, pckI, if_neg (by omega)]
      rw [e, e2, hi]
      simp
    · by_cases h1 : apart (l.getD (nixI l p i).toNat 0) p ≤ n
      · have e2 : nearI l p n i = (l.getD (nixI l p i).toNat 0, true) := by rw [ih, pckI, if_pos ⟨by omega, h1⟩]
        rw [e2]
        simp only [Bool.true_eq_false, false_or]
        by_cases h2 : apart (l.getD i 0) p < apart (l.getD (nixI l p i).toNat 0) p
        · have e : nixI l p (i + 1) = i := if_pos (.inr h2)
          rw [e, hi, if_pos ⟨by omega, h2⟩, if_pos (by omega)]
        · have e : nixI l p (i + 1) = nixI l p i := if_neg (by omega)
          rw [e, if_neg (fun h => h2 h.2), ← ih, e2]
      · have e2 : nearI l p n i = (0, false) := by rw [ih, pckI, if_neg (fun h => h1 h.2)]
        rw [e2]
        simp only [true_or, and_true]
        by_cases h2 : apart (l.getD i 0) p < apart (l.getD (nixI l p i).toNat 0) p
        · have e : nixI l p (i + 1) = i := if_pos (.inr h2)
          rw [e, hi]
        · have e : nixI l p (i + 1) = nixI l p i := if_neg (by omega)
          rw [e, if_neg (by omega), ← ih, e2]
theorem nearI_b {l : List Int} {p n : Int} (hb : ∀ j, 0 ≤ l.getD j 0 ∧ l.getD j 0 ≤ 2 ^ 40) : ∀ i, 0 ≤ (nearI l p n i).1 ∧ (nearI l p n i).1 ≤ 2 ^ 40
  | 0 => by simp [nearI]
  | i + 1 => by
    simp only [nearI]
    split
    · exact hb i
    · exact nearI_b hb i
def maxL (xs : List Nat) : List Int := maximaL xs xs.length
theorem maxL_b (xs : List Nat) (j : Nat) : 0 ≤ (maxL xs).getD j 0 ∧ (maxL xs).getD j 0 ≤ xs.length := by
  by_cases hj : j < (maxL xs).length
  · have hm : (maxL xs).getD j 0 ∈ maxL xs := by rw [List.getD_eq_getElem?_getD, List.getElem?_eq_getElem hj]; exact List.getElem_mem hj
    unfold maxL maximaL at hm
    obtain ⟨k, hk, he⟩ := List.mem_map.1 hm
    have := List.mem_range.1 (List.mem_filter.1 hk).1
    unfold maxL maximaL
    omega
  · rw [List.getD_eq_getElem?_getD, List.getElem?_eq_none (by omega)]
    simp
/-- Where a start has come after so many rows more, and if it goes on. -/
def linkS (xss : List (List Nat)) (near s : Int) : Nat → Int × Bool
  | 0 => (s, true)
  | t + 1 => if (linkS xss near s t).2 = true then nearI (maxL (xss.getD (t + 1) [])) (linkS xss near s t).1 near (maxL (xss.getD (t + 1) [])).length else linkS xss near s t
def lkOut (xss : List (List Nat)) (near : Int) (n i : Nat) : List Int := ((List.range i).filter fun j => (linkS xss near ((maxL (xss.getD 0 [])).getD j 0) n).2).map fun j => (maxL (xss.getD 0 [])).getD j 0
theorem lkOut_len (xss : List (List Nat)) (near : Int) (n i : Nat) : (lkOut xss near n i).length ≤ i := by
  unfold lkOut
  rw [List.length_map]
  exact Nat.le_trans (List.length_filter_le _ _) (by simp)
theorem filt_yes {f : Nat → Bool} {g : Nat → Int} {i : Nat} (h : f i = true) : (((List.range i).filter f).map g).map iv ++ [.int .i64 (g i)] = (((List.range (i + 1)).filter f).map g).map iv := by
  simp [List.range_succ, List.filter_append, h, iv]
theorem filt_no {f : Nat → Bool} {g : Nat → Int} {i : Nat} (h : f i = false) : ((List.range (i + 1)).filter f).map g = ((List.range i).filter f).map g := by
  simp [List.range_succ, List.filter_append, h]
theorem lkOut_yes {xss : List (List Nat)} {near : Int} {n i : Nat} (h : (linkS xss near ((maxL (xss.getD 0 [])).getD i 0) n).2 = true) : (lkOut xss near n i).map iv ++ [.int .i64 ((maxL (xss.getD 0 [])).getD i 0)] = (lkOut xss near n (i + 1)).map iv := filt_yes (f := fun j => (linkS xss near ((maxL (xss.getD 0 [])).getD j 0) n).2) (g := fun j => (maxL (xss.getD 0 [])).getD j 0) h
theorem lkOut_no {xss : List (List Nat)} {near : Int} {n i : Nat} (h : (linkS xss near ((maxL (xss.getD 0 [])).getD i 0) n).2 = false) : lkOut xss near n (i + 1) = lkOut xss near n i := filt_no (f := fun j => (linkS xss near ((maxL (xss.getD 0 [])).getD j 0) n).2) (g := fun j => (maxL (xss.getD 0 [])).getD j 0) h
theorem linkS_stop {xss : List (List Nat)} {near s : Int} {t : Nat} (h : (linkS xss near s t).2 = false) : ∀ k, (linkS xss near s (t + k)).2 = false
  | 0 => h
  | k + 1 => by
    have ih := linkS_stop h k
    show (linkS xss near s (t + k + 1)).2 = false
    simp only [linkS, ih]
    simp
    exact ih
theorem linkS_b {xss : List (List Nat)} {near s : Int} (hs : 0 ≤ s ∧ s ≤ 2 ^ 40) (hl : ∀ j, (xss.getD j []).length ≤ 2 ^ 40) : ∀ t, 0 ≤ (linkS xss near s t).1 ∧ (linkS xss near s t).1 ≤ 2 ^ 40
  | 0 => hs
  | t + 1 => by
    simp only [linkS]
    split
    · exact nearI_b (fun j => by have := maxL_b (xss.getD (t + 1) []) j; have := hl (t + 1); omega) _
    · exact linkS_b hs hl t
theorem i_nearest_ok {H : Heap} {v : Value} {l : List Int} {p n : Int} (hv : IS H v l) (hn : l.length ≤ 2 ^ 40) (hb : ∀ j, 0 ≤ l.getD j 0 ∧ l.getD j 0 ≤ 2 ^ 40) (hp : 0 ≤ p ∧ p ≤ 2 ^ 40) :
    ACalls Try.prog n_i_nearest [v, .int .i64 p, .int .i64 n] H fun r H' => r = .tuple #[.int .i64 (nearI l p n l.length).1, .bool (nearI l p n l.length).2] ∧ H' = H := by
  refine k_i_nearest.run rfl ?_
  unfold c_i_nearest
  simp (disch := first | assumption | omega | rfl | (refine id ?_; simp only [gxD, ne_eq, reduceCtorEq, not_false_eq_true, Nat.reduceAdd, *]; done) | (refine id ?_; simp only [gxD]; omega)) only [↓gxPre, gxPost, ↓reduceIte, Nat.reduceEqDiff, reduceCtorEq, Nat.reduceAdd, hv.len]
  refine loop_for l.length (fun i => [.int .i64 p, .int .i64 n, .int .i64 (nearI l p n i).1, .bool (nearI l p n i).2, v, .int .i64 l.length, .int .i64 i]) rfl ?_ ?_
  · simp (disch := first | assumption | omega | rfl | (refine id ?_; simp only [gxD, ne_eq, reduceCtorEq, not_false_eq_true, Nat.reduceAdd, *]; done) | (refine id ?_; simp only [gxD]; omega)) only [↓gxPre, gxPost, ↓reduceIte, Nat.reduceEqDiff, reduceCtorEq, Nat.reduceAdd, Int.lt_irrefl]
  · intro i hi
    have b1 := hb i
    have b2 := nearI_b (p := p) (n := n) hb i
    by_cases c1 : max (l.getD i 0 - p) (p - l.getD i 0) ≤ n
    rotate_left
    · have hnx : nearI l p n (i + 1) = nearI l p n i := by simp only [nearI]; exact if_neg fun h => c1 h.1
      simp (disch := first | assumption | omega | rfl | (refine id ?_; simp only [gxD, ne_eq, reduceCtorEq, not_false_eq_true, Nat.reduceAdd, *]; done) | (refine id ?_; simp only [gxD]; omega)) only [↓gxPre, gxPost, ↓reduceIte, Nat.reduceEqDiff, reduceCtorEq, Nat.reduceAdd, hv.ia, hv.ld, c1]
      simp [hnx]
    cases hf : (nearI l p n i).2
    · have hnx : nearI l p n (i + 1) = (l.getD i 0, true) := by simp only [nearI]; exact if_pos ⟨c1, .inl hf⟩
      simp (disch := first | assumption | omega | rfl | (refine id ?_; simp only [gxD, ne_eq, reduceCtorEq, not_false_eq_true, Nat.reduceAdd, *]; done) | (refine id ?_; simp only [gxD]; omega)) only [↓gxPre, gxPost, ↓reduceIte, Nat.reduceEqDiff, reduceCtorEq, Nat.reduceAdd, hv.ia, hv.ld, c1, hf]
      simp [hnx]
    by_cases c2 : max (l.getD i 0 - p) (p - l.getD i 0) < max ((nearI l p n i).1 - p) (p - (nearI l p n i).1)
    · have hnx : nearI l p n (i + 1) = (l.getD i 0, true) := by simp only [nearI]; exact if_pos ⟨c1, .inr c2⟩
      simp (disch := first | assumption | omega | rfl | (refine id ?_; simp only [gxD, ne_eq, reduceCtorEq, not_false_eq_true, Nat.reduceAdd, *]; done) | (refine id ?_; simp only [gxD]; omega)) only [↓gxPre, gxPost, ↓reduceIte, Nat.reduceEqDiff, reduceCtorEq, Nat.reduceAdd, hv.ia, hv.ld, c1, hf, c2]
      simp [hnx]
    · have hnx : nearI l p n (i + 1) = nearI l p n i := by simp only [nearI]; exact if_neg fun h => h.2.elim (fun h => by rw [hf] at h; cases h) c2
      simp (disch := first | assumption | omega | rfl | (refine id ?_; simp only [gxD, ne_eq, reduceCtorEq, not_false_eq_true, Nat.reduceAdd, *]; done) | (refine id ?_; simp only [gxD]; omega)) only [↓gxPre, gxPost, ↓reduceIte, Nat.reduceEqDiff, reduceCtorEq, Nat.reduceAdd, hv.ia, hv.ld, c1, hf, c2]
      simp [hnx, hf]
theorem s_l03Apart_ok {H : Heap} {a b : Int} (ha : 0 ≤ a ∧ a ≤ 2 ^ 40) (hb : 0 ≤ b ∧ b ≤ 2 ^ 40) : ACalls Try.prog n_s_l03Apart [.int .i64 a, .int .i64 b] H fun r H' => r = .int .i64 (apart a b) ∧ H' = H := by
  refine k_s_l03Apart.run rfl ?_
  unfold c_s_l03Apart
  by_cases c : a < b
  · have e : apart a b = b - a := by unfold apart; omega
    simp (disch := first | assumption | omega | rfl | (refine id ?_; simp only [gxD, ne_eq, reduceCtorEq, not_false_eq_true, Nat.reduceAdd, *]; done) | (refine id ?_; simp only [gxD]; omega)) only [↓gxPre, gxPost, ↓reduceIte, Nat.reduceEqDiff, reduceCtorEq, Nat.reduceAdd, e]
  · have e : apart a b = a - b := by unfold apart; omega
    simp (disch := first | assumption | omega | rfl | (refine id ?_; simp only [gxD, ne_eq, reduceCtorEq, not_false_eq_true, Nat.reduceAdd, *]; done) | (refine id ?_; simp only [gxD]; omega)) only [↓gxPre, gxPost, ↓reduceIte, Nat.reduceEqDiff, reduceCtorEq, Nat.reduceAdd, e]
theorem i_LinkMaxima_law {H : Heap} {v0 : Value} {xs0 : List (List Nat)} {a1 : Int} (A : AS H v0 xs0) (b1 : -9223372036854775808 ≤ a1 ∧ a1 ≤ 9223372036854775807) :
    ACalls Try.prog n_i_LinkMaxima [v0, .int .i64 a1] H fun r H' => ListR iv t_int64 H (rowsF xs0 12 && within a1 0 128) (lkOut xs0 a1 (xs0.length - 1) (maxL (xs0.getD 0 [])).length) r H' := by
  have hm := A.le
  obtain ⟨us, hu, hul, hus⟩ := A.rd
  refine k_i_LinkMaxima.run rfl ?_
  unfold c_i_LinkMaxima
  simp (disch := first | assumption | omega | rfl | (refine id ?_; simp only [gxD, ne_eq, reduceCtorEq, not_false_eq_true, Nat.reduceAdd, *]; done) | (refine id ?_; simp only [gxD]; omega)) only [↓gxPre, gxPost, ↓reduceIte, Nat.reduceEqDiff, reduceCtorEq, Nat.reduceAdd]
  refine callR_pure (i_areRows_ok A.rd hm) (.inl rfl) ?_
  cases hk : rowsF xs0 12
  · simp (disch := first | assumption | omega | rfl | (refine id ?_; simp only [gxD, ne_eq, reduceCtorEq, not_false_eq_true, Nat.reduceAdd, *]; done) | (refine id ?_; simp only [gxD]; omega)) only [↓gxPre, gxPost, ↓reduceIte, Nat.reduceEqDiff, reduceCtorEq, Nat.reduceAdd, Bool.false_and, Bool.true_and, Bool.and_true, Bool.and_false, Bool.or_true, Bool.true_or, Bool.false_or, Bool.or_false, Bool.and_self, Bool.or_self]
    exact .no rfl (.refl _)
  simp (disch := first | assumption | omega | rfl | (refine id ?_; simp only [gxD, ne_eq, reduceCtorEq, not_false_eq_true, Nat.reduceAdd, *]; done) | (refine id ?_; simp only [gxD]; omega)) only [↓gxPre, gxPost, ↓reduceIte, Nat.reduceEqDiff, reduceCtorEq, Nat.reduceAdd]
  refine callR_pure i_within_ok (.inl rfl) ?_
  cases hw : within a1 0 128
  · simp (disch := first | assumption | omega | rfl | (refine id ?_; simp only [gxD, ne_eq, reduceCtorEq, not_false_eq_true, Nat.reduceAdd, *]; done) | (refine id ?_; simp only [gxD]; omega)) only [↓gxPre, gxPost, ↓reduceIte, Nat.reduceEqDiff, reduceCtorEq, Nat.reduceAdd, Bool.false_and, Bool.true_and, Bool.and_true, Bool.and_false, Bool.or_true, Bool.true_or, Bool.false_or, Bool.or_false, Bool.and_self, Bool.or_self]
    exact .no rfl (.refl _)
  have hy := rows_yes hk
  have hl0 := long_len (hy.2 0 (by omega)).1
  have hu0 := hu.ext (.new H ⟨true, t_int64, []⟩)
  simp (disch := first | assumption | omega | rfl | (refine id ?_; simp only [gxD, ne_eq, reduceCtorEq, not_false_eq_true, Nat.reduceAdd, *]; done) | (refine id ?_; simp only [gxD]; omega)) only [↓gxPre, gxPost, ↓reduceIte, Nat.reduceEqDiff, reduceCtorEq, Nat.reduceAdd, hu0.ia, hu0.ldD, hul, Int.reduceToNat]
  have hll : ∀ j, (xs0.getD j []).length ≤ 2 ^ 40 := fun j => by
    by_cases hj : j < xs0.length
    · have := (hy.2 j hj).2; omega
    · rw [List.getD_eq_getElem?_getD, List.getElem?_eq_none (by omega)]; simp
  refine callR_of (i_maximaOf_ok ((hus 0 (by omega)).ext (.new H _)) (by omega) (A.w 0)) ?_
  rintro _ G ⟨eG, mh, g1, g2, rfl, bm⟩
  rw [show maximaL (xs0.getD 0 []) (xs0.getD 0 []).length = maxL (xs0.getD 0 []) from rfl] at bm ⊢
  have e0 : Ext H G := (Ext.new H _).trans eG
  have b0 := (eG.blk H.n (by simp only [new_n]; omega)).trans (new_self _ _)
  have nG := eG.n
  simp only [new_n] at nG g1
  have hSl : (maxL (xs0.getD 0 [])).length ≤ 128 := Nat.le_trans (maximaL_len _ _) (by omega)
  simp (disch := first | assumption | omega | rfl | (refine id ?_; simp only [gxD, ne_eq, reduceCtorEq, not_false_eq_true, Nat.reduceAdd, *]; done) | (refine id ?_; simp only [gxD]; omega)) only [↓gxPre, gxPost, ↓reduceIte, Nat.reduceEqDiff, reduceCtorEq, Nat.reduceAdd]
  refine loop_forH (maxL (xs0.getD 0 [])).length (fun i => [v0, .int .i64 a1, .slice (some ⟨H.n, 0, none⟩) (lkOut xs0 a1 (xs0.length - 1) i).length (lkOut xs0 a1 (xs0.length - 1) i).length, .slice (some ⟨mh, 0, none⟩) (maxL (xs0.getD 0 [])).length (maxL (xs0.getD 0 [])).length, .int .i64 (maxL (xs0.getD 0 [])).length, .int .i64 i])
    (fun i Q => G.n ≤ Q.n ∧ Ext H Q ∧ Q.blk H.n = some ⟨true, t_int64, (lkOut xs0 a1 (xs0.length - 1) i).map iv⟩ ∧ Q.blk mh = some ⟨true, t_int64, (maxL (xs0.getD 0 [])).map iv⟩) rfl ⟨Nat.le_refl _, e0, b0, bm⟩ ?_ ?_
  · rintro Q ⟨q1, q2, q3, q4⟩
    have hol := lkOut_len xs0 a1 (xs0.length - 1) (maxL (xs0.getD 0 [])).length
    simp (disch := first | assumption | omega | rfl | (refine id ?_; simp only [gxD, ne_eq, reduceCtorEq, not_false_eq_true, Nat.reduceAdd, *]; done) | (refine id ?_; simp only [gxD]; omega)) only [↓gxPre, gxPost, ↓reduceIte, Nat.reduceEqDiff, reduceCtorEq, Nat.reduceAdd, Int.lt_irrefl]
    exact .yes (by simp only [Bool.false_and, Bool.true_and, Bool.and_true, Bool.and_false, Bool.or_true, Bool.true_or, Bool.false_or, Bool.or_false, Bool.and_self, Bool.or_self]) q2 (.mk q3 (by simp) (by first | omega | (simp only [new_n, put_n]; omega)) (by omega) (by omega)) (by omega)
  · rintro i Q hi ⟨q1, q2, q3, q4⟩
    have hS : IS Q (.slice (some ⟨mh, 0, none⟩) (maxL (xs0.getD 0 [])).length (maxL (xs0.getD 0 [])).length) (maxL (xs0.getD 0 [])) := IS.own q4 (by omega) rfl
    simp (disch := first | assumption | omega | rfl | (refine id ?_; simp only [gxD, ne_eq, reduceCtorEq, not_false_eq_true, Nat.reduceAdd, *]; done) | (refine id ?_; simp only [gxD]; omega)) only [↓gxPre, gxPost, ↓reduceIte, Nat.reduceEqDiff, reduceCtorEq, Nat.reduceAdd, hS.ia, hS.ld]
    obtain ⟨s, hs⟩ : ∃ s, s = (maxL (xs0.getD 0 [])).getD i 0 := ⟨_, rfl⟩
    obtain ⟨n, hn⟩ : ∃ n, n = xs0.length - 1 := ⟨_, rfl⟩
    have hsb : 0 ≤ s ∧ s ≤ 2 ^ 40 := by rw [hs]; have := maxL_b (xs0.getD 0 []) i; omega
    have hlb := lkOut_len xs0 a1 n i
    have hyes := lkOut_yes (xss := xs0) (near := a1) (n := n) (i := i)
    have hno := lkOut_no (xss := xs0) (near := a1) (n := n) (i := i)
    rw [← hs] at hyes hno ⊢
    rw [← hn] at q3 ⊢
    have huQ := hu.ext q2
    have hit : ((lkOut xs0 a1 n i).map iv).length = (lkOut xs0 a1 n i).length := by simp
    refine loop_forH n (fun t => [v0, .int .i64 a1, .slice (some ⟨H.n, 0, none⟩) (lkOut xs0 a1 n i).length (lkOut xs0 a1 n i).length, .int .i64 s, .int .i64 (linkS xs0 a1 s t).1, .bool (linkS xs0 a1 s t).2, .int .i64 ((t : Int) + 1), .slice (some ⟨mh, 0, none⟩) (maxL (xs0.getD 0 [])).length (maxL (xs0.getD 0 [])).length, .int .i64 (maxL (xs0.getD 0 [])).length, .int .i64 i])
      (fun t F => Q.n ≤ F.n ∧ Ext Q F) rfl ⟨Nat.le_refl _, .refl Q⟩ ?_ ?_
    · rintro F ⟨f1, f2⟩
      have c : ¬ (n : Int) + 1 < xs0.length := by omega
      have q3F := (f2.blk _ (by omega)).trans q3
      have q4F := (f2.blk _ (by omega)).trans q4
      cases hl : (linkS xs0 a1 s n).2
      · rw [hno hl]
        simp (disch := first | assumption | omega | rfl | (refine id ?_; simp only [gxD, ne_eq, reduceCtorEq, not_false_eq_true, Nat.reduceAdd, *]; done) | (refine id ?_; simp only [gxD]; omega)) only [↓gxPre, gxPost, ↓reduceIte, Nat.reduceEqDiff, reduceCtorEq, Nat.reduceAdd, huQ.len, hul, c]
        exact ⟨by simp, by omega, q2.trans f2, q3F, q4F⟩
      · obtain ⟨p1, p2, p3, p4⟩ := push_at (q2.trans f2) q3F (Nat.le_refl _) (by omega) (hyes hl)
        have hlen2 : (lkOut xs0 a1 n (i + 1)).length = (lkOut xs0 a1 n i).length + 1 := by
          have := congrArg List.length (hyes hl)
          simp at this
          omega
        simp (disch := first | assumption | omega | rfl | (refine id ?_; simp only [gxD, ne_eq, reduceCtorEq, not_false_eq_true, Nat.reduceAdd, *]; done) | (refine id ?_; simp only [gxD]; omega)) only [↓gxPre, gxPost, ↓reduceIte, Nat.reduceEqDiff, reduceCtorEq, Nat.reduceAdd, huQ.len, hul, c, q3F]
        exact ⟨by rw [hlen2]; simp, by omega, p1, by rw [hyes hl], q4F⟩
    · rintro t F ht ⟨f1, f2⟩
      have c : (t : Int) + 1 < xs0.length := by omega
      have q3F := (f2.blk _ (by omega)).trans q3
      have q4F := (f2.blk _ (by omega)).trans q4
      have huF := huQ.ext f2
      cases hl : (linkS xs0 a1 s t).2
      · have hl2 : (linkS xs0 a1 s n).2 = false := by have := linkS_stop hl (n - t); rw [show t + (n - t) = n by omega] at this; exact this
        rw [hno hl2]
        simp (disch := first | assumption | omega | rfl | (refine id ?_; simp only [gxD, ne_eq, reduceCtorEq, not_false_eq_true, Nat.reduceAdd, *]; done) | (refine id ?_; simp only [gxD]; omega)) only [↓gxPre, gxPost, ↓reduceIte, Nat.reduceEqDiff, reduceCtorEq, Nat.reduceAdd, huQ.len, hul, c]
        exact ⟨by simp, by omega, q2.trans f2, q3F, q4F⟩
      · have e2 : ((t : Int) + 1).toNat = t + 1 := by omega
        have hlk : linkS xs0 a1 s (t + 1) = nearI (maxL (xs0.getD (t + 1) [])) (linkS xs0 a1 s t).1 a1 (maxL (xs0.getD (t + 1) [])).length := if_pos hl
        simp (disch := first | assumption | omega | rfl | (refine id ?_; simp only [gxD, ne_eq, reduceCtorEq, not_false_eq_true, Nat.reduceAdd, *]; done) | (refine id ?_; simp only [gxD]; omega)) only [↓gxPre, gxPost, ↓reduceIte, Nat.reduceEqDiff, reduceCtorEq, Nat.reduceAdd, huF.len, huF.ia, huF.ldD, hul, c, e2]
        refine callR_of (i_maximaOf_ok ((hus (t + 1) (by omega)).ext (q2.trans f2)) (hll _) (A.w _)) ?_
        rintro _ M ⟨eM, kh, k1, k2, rfl, bk⟩
        have bk2 : M.blk kh = some ⟨true, t_int64, (maxL (xs0.getD (t + 1) [])).map iv⟩ := bk
        simp (disch := first | assumption | omega | rfl | (refine id ?_; simp only [gxD, ne_eq, reduceCtorEq, not_false_eq_true, Nat.reduceAdd, *]; done) | (refine id ?_; simp only [gxD]; omega)) only [↓gxPre, gxPost, ↓reduceIte, Nat.reduceEqDiff, reduceCtorEq, Nat.reduceAdd]
        refine callR_pure (i_nearest_ok (l := maxL (xs0.getD (t + 1) [])) (IS.own bk2 k2 rfl) (Nat.le_trans (maximaL_len _ _) (hll _)) (fun j => by have := maxL_b (xs0.getD (t + 1) []) j; have := hll (t + 1); omega) (linkS_b hsb hll t)) (.inl rfl) ?_
        simp (disch := first | assumption | omega | rfl | (refine id ?_; simp only [gxD, ne_eq, reduceCtorEq, not_false_eq_true, Nat.reduceAdd, *]; done) | (refine id ?_; simp only [gxD]; omega)) only [↓gxPre, gxPost, ↓reduceIte, Nat.reduceEqDiff, reduceCtorEq, Nat.reduceAdd]
        exact ⟨by rw [hlk]; simp, by have := eM.n; omega, f2.trans eM⟩
def lkAt (xss : List (List Nat)) (near : Int) (n i : Nat) : List Int := ((List.range i).filter fun j => (linkS xss near ((maxL (xss.getD 0 [])).getD j 0) n).2).map fun j => (linkS xss near ((maxL (xss.getD 0 [])).getD j 0) n).1
theorem range_getD (l : List Int) : (List.range l.length).map (fun i => l.getD i 0) = l := by
  refine list_ext_getD 0 (by simp) fun j hj => ?_
  have hj' : j < l.length := by simpa using hj
  exact getD_range_map hj'
theorem lk_zero (xss : List (List Nat)) (near : Int) : lkOut xss near 0 (maxL (xss.getD 0 [])).length = maxL (xss.getD 0 []) ∧ lkAt xss near 0 (maxL (xss.getD 0 [])).length = maxL (xss.getD 0 []) := by
  constructor
  · simp only [lkOut, linkS]
    rw [List.filter_eq_self.2 (fun _ _ => rfl), range_getD]
  · simp only [lkAt, linkS]
    rw [List.filter_eq_self.2 (fun _ _ => rfl), range_getD]
theorem filt_idx (B : List Nat) (p : Nat → Bool) (g : Nat → Int) : ((List.range B.length).filter fun i => p (B.getD i 0)).map (fun i => g (B.getD i 0)) = (B.filter p).map g := by
  have h : (List.range B.length).map (fun i => B.getD i 0) = B := by
    refine list_ext_getD 0 (by simp) fun j hj => ?_
    have hj' : j < B.length := by simpa using hj
    exact getD_range_map hj'
  conv => rhs; rw [← h]
  rw [List.filter_map, List.map_map]
  rfl
theorem filt_two {B : List Nat} {F A : List Int} {f g : Nat → Int} {p : Int → Bool} {q : Int → Int} (hF : F = B.map f) (hA : A = B.map g) :
    ((List.range A.length).filter fun i => p (A.getD i 0)).map (fun i => F.getD i 0) = (B.filter fun j => p (g j)).map f ∧
    ((List.range A.length).filter fun i => p (A.getD i 0)).map (fun i => q (A.getD i 0)) = (B.filter fun j => p (g j)).map fun j => q (g j) := by
  have hl : A.length = B.length := by simp [hA]
  have e1 : ∀ i, i < B.length → A.getD i 0 = g (B.getD i 0) := fun i hi => by simp [hA, List.getD_eq_getElem?_getD, hi]
  have e2 : ∀ i, i < B.length → F.getD i 0 = f (B.getD i 0) := fun i hi => by simp [hF, List.getD_eq_getElem?_getD, hi]
  have e3 : (List.range B.length).filter (fun i => p (A.getD i 0)) = (List.range B.length).filter fun i => p (g (B.getD i 0)) := List.filter_congr fun i hi => by rw [e1 i (List.mem_range.1 hi)]
  rw [hl, e3]
  constructor
  · rw [← filt_idx B (fun j => p (g j)) f]
    exact List.map_congr_left fun i hi => e2 i (List.mem_range.1 (List.mem_filter.1 hi).1)
  · rw [← filt_idx B (fun j => p (g j)) fun j => q (g j)]
    exact List.map_congr_left fun i hi => by rw [e1 i (List.mem_range.1 (List.mem_filter.1 hi).1)]
theorem lk_next {xss : List (List Nat)} {near : Int} {t m : Nat} :
    ((List.range (lkAt xss near t m).length).filter fun i => (nearI (maxL (xss.getD (t + 1) [])) ((lkAt xss near t m).getD i 0) near (maxL (xss.getD (t + 1) [])).length).2).map (fun i => (lkOut xss near t m).getD i 0) = lkOut xss near (t + 1) m ∧
    ((List.range (lkAt xss near t m).length).filter fun i => (nearI (maxL (xss.getD (t + 1) [])) ((lkAt xss near t m).getD i 0) near (maxL (xss.getD (t + 1) [])).length).2).map (fun i => (nearI (maxL (xss.getD (t + 1) [])) ((lkAt xss near t m).getD i 0) near (maxL (xss.getD (t + 1) [])).length).1) = lkAt xss near (t + 1) m := by
  obtain ⟨h1, h2⟩ := filt_two (p := fun x => (nearI (maxL (xss.getD (t + 1) [])) x near (maxL (xss.getD (t + 1) [])).length).2) (q := fun x => (nearI (maxL (xss.getD (t + 1) [])) x near (maxL (xss.getD (t + 1) [])).length).1) (show lkOut xss near t m = _ from rfl) (show lkAt xss near t m = _ from rfl)
  have e : ∀ j, (linkS xss near ((maxL (xss.getD 0 [])).getD j 0) (t + 1)).2 = ((linkS xss near ((maxL (xss.getD 0 [])).getD j 0) t).2 && (nearI (maxL (xss.getD (t + 1) [])) (linkS xss near ((maxL (xss.getD 0 [])).getD j 0) t).1 near (maxL (xss.getD (t + 1) [])).length).2) := fun j => by
    simp only [linkS]
    cases h : (linkS xss near ((maxL (xss.getD 0 [])).getD j 0) t).2
    · simp only [Bool.false_eq_true, if_false, h, Bool.false_and]
    · simp only [if_true, Bool.true_and]
  have ef : (List.range m).filter (fun j => (linkS xss near ((maxL (xss.getD 0 [])).getD j 0) (t + 1)).2) = ((List.range m).filter fun j => (linkS xss near ((maxL (xss.getD 0 [])).getD j 0) t).2).filter fun j => (nearI (maxL (xss.getD (t + 1) [])) (linkS xss near ((maxL (xss.getD 0 [])).getD j 0) t).1 near (maxL (xss.getD (t + 1) [])).length).2 := by
    rw [List.filter_filter]
    exact List.filter_congr fun j _ => by rw [e, Bool.and_comm]
  refine ⟨h1.trans ?_, h2.trans ?_⟩
  · simp only [lkOut]
    rw [ef]
  · simp only [lkAt]
    rw [ef]
    refine List.map_congr_left fun j hj => ?_
    have hq := (List.mem_filter.1 (List.mem_filter.1 hj).1).2
    simp only [linkS, hq, if_true]
theorem lkAt_len (xss : List (List Nat)) (near : Int) (t m : Nat) : (lkAt xss near t m).length = (lkOut xss near t m).length := by simp [lkAt, lkOut]
theorem lkAt_b {xss : List (List Nat)} {near : Int} (hl : ∀ j, (xss.getD j []).length ≤ 2 ^ 40) (t m j : Nat) : 0 ≤ (lkAt xss near t m).getD j 0 ∧ (lkAt xss near t m).getD j 0 ≤ 2 ^ 40 := by
  by_cases hj : j < (lkAt xss near t m).length
  · have hm : (lkAt xss near t m).getD j 0 ∈ lkAt xss near t m := by rw [List.getD_eq_getElem?_getD, List.getElem?_eq_getElem hj]; exact List.getElem_mem hj
    unfold lkAt at hm
    obtain ⟨k, hk, he⟩ := List.mem_map.1 hm
    have hb := maxL_b (xss.getD 0 []) k
    have hl0 := hl 0
    have := linkS_b (xss := xss) (near := near) (s := (maxL (xss.getD 0 [])).getD k 0) ⟨by omega, by omega⟩ hl t
    rw [he] at this
    exact this
  · rw [List.getD_eq_getElem?_getD, List.getElem?_eq_none (by omega)]
    simp
theorem s_LinkMaxima_law {H : Heap} {v0 : Value} {xs0 : List (List Nat)} {a1 : Int} (A : AS H v0 xs0) (b1 : -9223372036854775808 ≤ a1 ∧ a1 ≤ 9223372036854775807) :
    ACalls Try.prog n_s_LinkMaxima [v0, .int .i64 a1] H fun r H' => ListR iv t_int64 H (rowsF xs0 12 && within a1 0 128) (lkOut xs0 a1 (xs0.length - 1) (maxL (xs0.getD 0 [])).length) r H' := by
  have hm := A.le
  obtain ⟨us, hu, hul, hus⟩ := A.rd
  refine k_s_LinkMaxima.run rfl ?_
  unfold c_s_LinkMaxima
  simp (disch := first | assumption | omega | rfl | (refine id ?_; simp only [gxD, ne_eq, reduceCtorEq, not_false_eq_true, Nat.reduceAdd, *]; done) | (refine id ?_; simp only [gxD]; omega)) only [↓gxPre, gxPost, ↓reduceIte, Nat.reduceEqDiff, reduceCtorEq, Nat.reduceAdd]
  refine callR_pure (s_l03Rows_ok A.rd hm) (.inl rfl) ?_
  cases hk : rowsF xs0 12
  · simp (disch := first | assumption | omega | rfl | (refine id ?_; simp only [gxD, ne_eq, reduceCtorEq, not_false_eq_true, Nat.reduceAdd, *]; done) | (refine id ?_; simp only [gxD]; omega)) only [↓gxPre, gxPost, ↓reduceIte, Nat.reduceEqDiff, reduceCtorEq, Nat.reduceAdd, Bool.false_and, Bool.true_and, Bool.and_true, Bool.and_false, Bool.or_true, Bool.true_or, Bool.false_or, Bool.or_false, Bool.and_self, Bool.or_self]
    exact .no rfl (.refl _)
  simp (disch := first | assumption | omega | rfl | (refine id ?_; simp only [gxD, ne_eq, reduceCtorEq, not_false_eq_true, Nat.reduceAdd, *]; done) | (refine id ?_; simp only [gxD]; omega)) only [↓gxPre, gxPost, ↓reduceIte, Nat.reduceEqDiff, reduceCtorEq, Nat.reduceAdd]
  refine callR_pure s_l00In_ok (.inl rfl) ?_
  cases hw : within a1 0 128
  · simp (disch := first | assumption | omega | rfl | (refine id ?_; simp only [gxD, ne_eq, reduceCtorEq, not_false_eq_true, Nat.reduceAdd, *]; done) | (refine id ?_; simp only [gxD]; omega)) only [↓gxPre, gxPost, ↓reduceIte, Nat.reduceEqDiff, reduceCtorEq, Nat.reduceAdd, Bool.false_and, Bool.true_and, Bool.and_true, Bool.and_false, Bool.or_true, Bool.true_or, Bool.false_or, Bool.or_false, Bool.and_self, Bool.or_self]
    exact .no rfl (.refl _)
  have hy := rows_yes hk
  have hl0 := long_len (hy.2 0 (by omega)).1
  have hll : ∀ j, (xs0.getD j []).length ≤ 2 ^ 40 := fun j => by
    by_cases hj : j < xs0.length
    · have := (hy.2 j hj).2; omega
    · rw [List.getD_eq_getElem?_getD, List.getElem?_eq_none (by omega)]; simp
  simp (disch := first | assumption | omega | rfl | (refine id ?_; simp only [gxD, ne_eq, reduceCtorEq, not_false_eq_true, Nat.reduceAdd, *]; done) | (refine id ?_; simp only [gxD]; omega)) only [↓gxPre, gxPost, ↓reduceIte, Nat.reduceEqDiff, reduceCtorEq, Nat.reduceAdd, hu.ia, hu.ldD, hul, Int.reduceToNat]
  refine callR_of (s_l03Maxima_ok (hus 0 (by omega)) (by omega) (A.w 0)) ?_
  rintro _ G ⟨eG, mh, g1, g2, rfl, bm⟩
  rw [show maximaL (xs0.getD 0 []) (xs0.getD 0 []).length = maxL (xs0.getD 0 []) from rfl] at bm ⊢
  have nG := eG.n
  have hSl : (maxL (xs0.getD 0 [])).length ≤ 128 := Nat.le_trans (maximaL_len _ _) (by omega)
  obtain ⟨z1, z2⟩ := lk_zero xs0 a1
  have hrd : readSl (G.new ⟨true, t_int64, []⟩) (.slice (some ⟨mh, 0, none⟩) (maxL (xs0.getD 0 [])).length (maxL (xs0.getD 0 [])).length) = some ((maxL (xs0.getD 0 [])).map iv) := readSl_own ((new_old _ _ _ g2).trans bm) (by simp)
  simp (disch := first | assumption | omega | rfl | (refine id ?_; simp only [gxD, ne_eq, reduceCtorEq, not_false_eq_true, Nat.reduceAdd, *]; done) | (refine id ?_; simp only [gxD]; omega)) only [↓gxPre, gxPost, ↓reduceIte, Nat.reduceEqDiff, reduceCtorEq, Nat.reduceAdd, hrd]
  obtain ⟨n, hn⟩ : ∃ n, n = xs0.length - 1 := ⟨_, rfl⟩
  obtain ⟨m, hmd⟩ : ∃ m, m = (maxL (xs0.getD 0 [])).length := ⟨_, rfl⟩
  rw [← hmd] at z1 z2 hSl ⊢
  rw [← hn]
  have e3 : Ext H (G.new ⟨true, t_int64, (maxL (xs0.getD 0 [])).map iv⟩) := eG.trans (.new G _)
  refine loop_st (σ := Nat × Nat × Nat) (fun s => [v0, .int .i64 a1, .slice (some ⟨s.2.1, 0, none⟩) (lkOut xs0 a1 s.1 m).length (lkOut xs0 a1 s.1 m).length, .slice (some ⟨s.2.2, 0, none⟩) (lkAt xs0 a1 s.1 m).length (lkAt xs0 a1 s.1 m).length, .int .i64 ((s.1 : Int) + 1)])
    (fun s Q => s.1 ≤ n ∧ H.n ≤ s.2.1 ∧ s.2.1 < Q.n ∧ H.n ≤ s.2.2 ∧ s.2.2 < Q.n ∧ Ext H Q ∧ Q.blk s.2.1 = some ⟨true, t_int64, (lkOut xs0 a1 s.1 m).map iv⟩ ∧ Q.blk s.2.2 = some ⟨true, t_int64, (lkAt xs0 a1 s.1 m).map iv⟩) (fun s => n - s.1) (0, mh, G.n) ?_ ?_ ?_
  · simp only [z1, z2, List.length_map, ← hmd]
    rfl
  · refine ⟨Nat.zero_le _, g1, ?_, nG, ?_, ?_, ?_, ?_⟩
    · simp only [new_n, put_n]; omega
    · simp only [new_n, put_n]; omega
    · exact e3
    · rw [z1]; exact (new_old _ _ _ g2).trans bm
    · rw [z2]; exact new_self _ _
  rintro ⟨t, hf, ha⟩ Q ⟨q1, q2, q3, q4, q5, q6, q7, q8⟩
  simp only at q1 q2 q3 q4 q5 q6 q7 q8
  have hL := lkOut_len xs0 a1 t m
  have hLA := lkAt_len xs0 a1 t m
  by_cases c : t = n
  · subst c
    have c : ¬ (t : Int) + 1 < xs0.length := by omega
    simp (disch := first | assumption | omega | rfl | (refine id ?_; simp only [gxD, ne_eq, reduceCtorEq, not_false_eq_true, Nat.reduceAdd, *]; done) | (refine id ?_; simp only [gxD]; omega)) only [↓gxPre, gxPost, ↓reduceIte, Nat.reduceEqDiff, reduceCtorEq, Nat.reduceAdd, hu.len, hul, c]
    exact .yes (by simp only [Bool.false_and, Bool.true_and, Bool.and_true, Bool.and_false, Bool.or_true, Bool.true_or, Bool.false_or, Bool.or_false, Bool.and_self, Bool.or_self]) q6 (.mk q7 (by simp) q2 q3 q3) (by omega)
  have c2 : (t : Int) + 1 < xs0.length := by omega
  have e2 : ((t : Int) + 1).toNat = t + 1 := by omega
  have huQ := hu.ext q6
  simp (disch := first | assumption | omega | rfl | (refine id ?_; simp only [gxD, ne_eq, reduceCtorEq, not_false_eq_true, Nat.reduceAdd, *]; done) | (refine id ?_; simp only [gxD]; omega)) only [↓gxPre, gxPost, ↓reduceIte, Nat.reduceEqDiff, reduceCtorEq, Nat.reduceAdd, huQ.len, huQ.ia, huQ.ldD, hul, c2, e2]
  refine callR_of (s_l03Maxima_ok ((hus (t + 1) (by omega)).ext q6) (hll _) (A.w _)) ?_
  rintro _ E ⟨eE, kh, k1, k2, rfl, bk⟩
  rw [show maximaL (xs0.getD (t + 1) []) (xs0.getD (t + 1) []).length = maxL (xs0.getD (t + 1) []) from rfl] at bk ⊢
  obtain ⟨M, hM⟩ : ∃ M, M = maxL (xs0.getD (t + 1) []) := ⟨_, rfl⟩
  obtain ⟨FF, hFF⟩ : ∃ FF, FF = lkOut xs0 a1 t m := ⟨_, rfl⟩
  obtain ⟨AA, hAA⟩ : ∃ AA, AA = lkAt xs0 a1 t m := ⟨_, rfl⟩
  have hbM : ∀ j, 0 ≤ M.getD j 0 ∧ M.getD j 0 ≤ 2 ^ 40 := fun j => by rw [hM]; have := maxL_b (xs0.getD (t + 1) []) j; have := hll (t + 1); omega
  have hbA : ∀ j, 0 ≤ AA.getD j 0 ∧ AA.getD j 0 ≤ 2 ^ 40 := fun j => by rw [hAA]; exact lkAt_b hll t m j
  have hlM : M.length ≤ 2 ^ 40 := by rw [hM]; exact Nat.le_trans (maximaL_len _ _) (hll _)
  obtain ⟨n1, n2⟩ := lk_next (xss := xs0) (near := a1) (t := t) (m := m)
  rw [← hM, ← hFF, ← hAA] at n1
  rw [← hM, ← hAA] at n2
  rw [← hM] at bk ⊢
  rw [← hFF] at q7 hL hLA ⊢
  rw [← hAA] at q8 hLA ⊢
  have nE := eE.n
  have bf := (eE.blk _ q3).trans q7
  have ba := (eE.blk _ q5).trans q8
  obtain ⟨ok, hok⟩ : ∃ ok : Nat → Bool, ok = fun i => (nearI M (AA.getD i 0) a1 M.length).2 := ⟨_, rfl⟩
  obtain ⟨lf, hlf⟩ : ∃ lf : Nat → List Int, lf = fun i => ((List.range i).filter ok).map fun i => FF.getD i 0 := ⟨_, rfl⟩
  obtain ⟨pf, hpf⟩ : ∃ pf : Nat → List Int, pf = fun i => ((List.range i).filter ok).map fun i => (nearI M (AA.getD i 0) a1 M.length).1 := ⟨_, rfl⟩
  have n1' : lf AA.length = lkOut xs0 a1 (t + 1) m := by rw [hlf, hok]; exact n1
  have n2' : pf AA.length = lkAt xs0 a1 (t + 1) m := by rw [hpf, hok]; exact n2
  have hl1 : ∀ i, (lf i).length ≤ i := fun i => by rw [hlf]; simp only [List.length_map]; exact Nat.le_trans (List.length_filter_le _ _) (by simp)
  have hl2 : ∀ i, (pf i).length ≤ i := fun i => by rw [hpf]; simp only [List.length_map]; exact Nat.le_trans (List.length_filter_le _ _) (by simp)
  simp (disch := first | assumption | omega | rfl | (refine id ?_; simp only [gxD, ne_eq, reduceCtorEq, not_false_eq_true, Nat.reduceAdd, *]; done) | (refine id ?_; simp only [gxD]; omega)) only [↓gxPre, gxPost, ↓reduceIte, Nat.reduceEqDiff, reduceCtorEq, Nat.reduceAdd]
  refine loop_forH AA.length (fun i => [v0, .int .i64 a1, .slice (some ⟨hf, 0, none⟩) FF.length FF.length, .slice (some ⟨ha, 0, none⟩) AA.length AA.length, .int .i64 ((t : Int) + 1), .slice (some ⟨kh, 0, none⟩) M.length M.length, .slice (some ⟨E.n, 0, none⟩) (lf i).length (lf i).length, .slice (some ⟨E.n + 1, 0, none⟩) (pf i).length (pf i).length, .int .i64 AA.length, .int .i64 i])
    (fun i F => E.n + 2 ≤ F.n ∧ Ext E F ∧ F.blk E.n = some ⟨true, t_int64, (lf i).map iv⟩ ∧ F.blk (E.n + 1) = some ⟨true, t_int64, (pf i).map iv⟩) (by rw [hlf, hpf]; rfl) ⟨by simp only [new_n]; omega, (Ext.new E _).trans (.new _ _), by rw [hlf]; simp (disch := first | assumption | omega | rfl | (refine id ?_; simp only [gxD, ne_eq, reduceCtorEq, not_false_eq_true, Nat.reduceAdd, *]; done) | (refine id ?_; simp only [gxD]; omega)) only [↓gxPre, gxPost, ↓reduceIte, Nat.reduceEqDiff, reduceCtorEq, Nat.reduceAdd]; rfl, by rw [hpf]; simp (disch := first | assumption | omega | rfl | (refine id ?_; simp only [gxD, ne_eq, reduceCtorEq, not_false_eq_true, Nat.reduceAdd, *]; done) | (refine id ?_; simp only [gxD]; omega)) only [↓gxPre, gxPost, ↓reduceIte, Nat.reduceEqDiff, reduceCtorEq, Nat.reduceAdd]; rfl⟩ ?_ ?_
  · rintro F ⟨f1, f2, f3, f4⟩
    rw [n1'] at f3 ⊢
    rw [n2'] at f4 ⊢
    simp (disch := first | assumption | omega | rfl | (refine id ?_; simp only [gxD, ne_eq, reduceCtorEq, not_false_eq_true, Nat.reduceAdd, *]; done) | (refine id ?_; simp only [gxD]; omega)) only [↓gxPre, gxPost, ↓reduceIte, Nat.reduceEqDiff, reduceCtorEq, Nat.reduceAdd, Int.lt_irrefl]
    refine ⟨(t + 1, E.n, E.n + 1), by simp only; omega, ?_, by simp only; omega, by simp only; omega, by simp only; omega, by simp only; omega, by simp only; omega, q6.trans (eE.trans f2), f3, f4⟩
    simp
  · rintro i F hi ⟨f1, f2, f3, f4⟩
    have bkF := (f2.blk _ k2).trans bk
    have bfF := (f2.blk _ (by omega)).trans bf
    have baF := (f2.blk _ (by omega)).trans ba
    have hMI : IS F (.slice (some ⟨kh, 0, none⟩) M.length M.length) M := IS.own bkF (by omega) rfl
    have hAI : IS F (.slice (some ⟨ha, 0, none⟩) AA.length AA.length) AA := IS.own baF (by omega) rfl
    obtain ⟨p, hp⟩ : ∃ p, p = AA.getD i 0 := ⟨_, rfl⟩
    have hpb := hbA i
    rw [← hp] at hpb
    simp (disch := first | assumption | omega | rfl | (refine id ?_; simp only [gxD, ne_eq, reduceCtorEq, not_false_eq_true, Nat.reduceAdd, *]; done) | (refine id ?_; simp only [gxD]; omega)) only [↓gxPre, gxPost, ↓reduceIte, Nat.reduceEqDiff, reduceCtorEq, Nat.reduceAdd]
    refine loop_for M.length (fun j => [v0, .int .i64 a1, .slice (some ⟨hf, 0, none⟩) FF.length FF.length, .slice (some ⟨ha, 0, none⟩) AA.length AA.length, .int .i64 ((t : Int) + 1), .slice (some ⟨kh, 0, none⟩) M.length M.length, .slice (some ⟨E.n, 0, none⟩) (lf i).length (lf i).length, .slice (some ⟨E.n + 1, 0, none⟩) (pf i).length (pf i).length, .int .i64 i, .int .i64 (nixI M p j), .int .i64 AA.length, .int .i64 i, .int .i64 M.length, .int .i64 j]) rfl ?_ ?_
    · have hb := nixI_b M p M.length
      have hnn := near_nix M p a1 M.length
      have lno : ok i = false → lf (i + 1) = lf i ∧ pf (i + 1) = pf i := fun h => by rw [hlf, hpf]; exact ⟨filt_no h, filt_no h⟩
      have lyes : ok i = true → (lf i).map iv ++ [.int .i64 (FF.getD i 0)] = (lf (i + 1)).map iv ∧ (pf i).map iv ++ [.int .i64 (nearI M p a1 M.length).1] = (pf (i + 1)).map iv := fun h => by
        rw [hlf, hpf, hp]
        exact ⟨filt_yes (g := fun i => FF.getD i 0) h, filt_yes (g := fun i => (nearI M (AA.getD i 0) a1 M.length).1) h⟩
      have hoki : ok i = (pckI M p a1 (nixI M p M.length)).2 := by rw [hok]; simp only [← hp, hnn]
      rw [hnn] at lyes
      by_cases c0 : 0 ≤ nixI M p M.length
      rotate_left
      · obtain ⟨l1, l2⟩ := lno (by rw [hoki, pckI, if_neg (fun h => c0 h.1)])
        rw [l1, l2]
        simp (disch := first | assumption | omega | rfl | (refine id ?_; simp only [gxD, ne_eq, reduceCtorEq, not_false_eq_true, Nat.reduceAdd, *]; done) | (refine id ?_; simp only [gxD]; omega)) only [↓gxPre, gxPost, ↓reduceIte, Nat.reduceEqDiff, reduceCtorEq, Nat.reduceAdd, Int.lt_irrefl, c0]
        exact ⟨by simp, f1, f2, f3, f4⟩
      obtain ⟨b, hb0⟩ : ∃ b : Nat, nixI M p M.length = b := ⟨_, (Int.toNat_of_nonneg c0).symm⟩
      have hgx : nixI M p M.length < M.length := hb.2
      rw [hb0] at hb hoki lyes c0 hgx ⊢
      have hbl : b < M.length := by omega
      simp (disch := first | assumption | omega | rfl | (refine id ?_; simp only [gxD, ne_eq, reduceCtorEq, not_false_eq_true, Nat.reduceAdd, *]; done) | (refine id ?_; simp only [gxD]; omega)) only [↓gxPre, gxPost, ↓reduceIte, Nat.reduceEqDiff, reduceCtorEq, Nat.reduceAdd, Int.lt_irrefl, c0, hMI.ia, hMI.ld, hAI.ia, hAI.ld, ← hp]
      refine callR_pure (s_l03Apart_ok (hbM _) hpb) (.inl rfl) ?_
      by_cases c4 : apart (M.getD b 0) p ≤ a1
      rotate_left
      · obtain ⟨l1, l2⟩ := lno (by rw [hoki, pckI, if_neg (fun h => c4 h.2)])
        rw [l1, l2]
        simp (disch := first | assumption | omega | rfl | (refine id ?_; simp only [gxD, ne_eq, reduceCtorEq, not_false_eq_true, Nat.reduceAdd, *]; done) | (refine id ?_; simp only [gxD]; omega)) only [↓gxPre, gxPost, ↓reduceIte, Nat.reduceEqDiff, reduceCtorEq, Nat.reduceAdd, c4]
        exact ⟨by simp, f1, f2, f3, f4⟩
      have hpk : pckI M p a1 (b : Int) = (M.getD b 0, true) := if_pos ⟨c0, c4⟩
      rw [hpk] at hoki lyes
      obtain ⟨l1, l2⟩ := lyes hoki
      have hFI : IS F (.slice (some ⟨hf, 0, none⟩) FF.length FF.length) FF := IS.own bfF (by omega) rfl
      have ml1 : ((lf i).map iv).length = (lf i).length := by simp
      have ml2 : ((pf i).map iv).length = (pf i).length := by simp
      have mlM : (M.map iv).length = M.length := by simp
      have gm : (M.map iv)[b]? = some (.int .i64 (M.getD b 0)) := by simp [hbl, iv, List.getD_eq_getElem?_getD]
      have ll1 := hl1 i
      have ll2 := hl2 i
      have le1 : (lf (i + 1)).length = (lf i).length + 1 := by have := congrArg List.length l1; simp at this; omega
      have le2 : (pf (i + 1)).length = (pf i).length + 1 := by have := congrArg List.length l2; simp at this; omega
      obtain ⟨p1, p2, p3, p4⟩ := push_at f2 f3 (Nat.le_refl _) (by omega) l1
      obtain ⟨r1, r2, r3, r4⟩ := push_at p1 ((p4 (E.n + 1) (by omega) (by omega)).trans f4) (by omega) (by omega) l2
      simp (disch := first | assumption | omega | rfl | (refine id ?_; simp only [gxD, ne_eq, reduceCtorEq, not_false_eq_true, Nat.reduceAdd, *]; done) | (refine id ?_; simp only [gxD]; omega)) only [↓gxPre, gxPost, ↓reduceIte, Nat.reduceEqDiff, reduceCtorEq, Nat.reduceAdd, c4, hFI.ia, hFI.ld, f3, f4, bkF, gm, rd1_at]
      exact ⟨by rw [le1, le2]; simp, by omega, r1, by rw [l1], by rw [l2]⟩
    · intro j hj
      have hb := nixI_b M p j
      by_cases c1 : nixI M p j < 0
      · have hx : nixI M p (j + 1) = j := if_pos (.inl c1)
        simp (disch := first | assumption | omega | rfl | (refine id ?_; simp only [gxD, ne_eq, reduceCtorEq, not_false_eq_true, Nat.reduceAdd, *]; done) | (refine id ?_; simp only [gxD]; omega)) only [↓gxPre, gxPost, ↓reduceIte, Nat.reduceEqDiff, reduceCtorEq, Nat.reduceAdd, c1]
        simp [hx]
      · simp (disch := first | assumption | omega | rfl | (refine id ?_; simp only [gxD, ne_eq, reduceCtorEq, not_false_eq_true, Nat.reduceAdd, *]; done) | (refine id ?_; simp only [gxD]; omega)) only [↓gxPre, gxPost, ↓reduceIte, Nat.reduceEqDiff, reduceCtorEq, Nat.reduceAdd, c1, hMI.ia, hMI.ld, hAI.ia, hAI.ld, ← hp]
        refine callR_of (s_l03Apart_ok (hbM _) hpb) ?_
        rintro _ _ ⟨rfl, rfl⟩
        simp (disch := first | assumption | omega | rfl | (refine id ?_; simp only [gxD, ne_eq, reduceCtorEq, not_false_eq_true, Nat.reduceAdd, *]; done) | (refine id ?_; simp only [gxD]; omega)) only [↓gxPre, gxPost, ↓reduceIte, Nat.reduceEqDiff, reduceCtorEq, Nat.reduceAdd, c1, hMI.ia, hMI.ld, hAI.ia, hAI.ld, ← hp]
        refine ⟨id, callR_pure (s_l03Apart_ok (hbM _) hpb) (.inl rfl) ?_⟩
        by_cases c3 : apart (M.getD j 0) p < apart (M.getD (nixI M p j).toNat 0) p
        · have hx : nixI M p (j + 1) = j := if_pos (.inr c3)
          simp (disch := first | assumption | omega | rfl | (refine id ?_; simp only [gxD, ne_eq, reduceCtorEq, not_false_eq_true, Nat.reduceAdd, *]; done) | (refine id ?_; simp only [gxD]; omega)) only [↓gxPre, gxPost, ↓reduceIte, Nat.reduceEqDiff, reduceCtorEq, Nat.reduceAdd, c3]
          simp [hx]
        · have hx : nixI M p (j + 1) = nixI M p j := if_neg (by omega)
          simp (disch := first | assumption | omega | rfl | (refine id ?_; simp only [gxD, ne_eq, reduceCtorEq, not_false_eq_true, Nat.reduceAdd, *]; done) | (refine id ?_; simp only [gxD]; omega)) only [↓gxPre, gxPost, ↓reduceIte, Nat.reduceEqDiff, reduceCtorEq, Nat.reduceAdd, c3]
          simp [hx]
end Go.Proofs.Ytddekdgggpifmaa

namespace Go.Proofs.Ytddekdgggpifmaa
open Go.Gx
set_option maxRecDepth 100000
set_option linter.unusedSimpArgs false
set_option linter.unusedVariables false

def PicNR (ty : TypeId) (H : Heap) (ok : Bool) (w h : Int) (xs : List Nat) (n : Int) (r : Value) (H' : Heap) : Prop :=
  Ext H H' ∧ ∃ v, r = .tuple #[.agg #[.int .i64 (selI ok w), .int .i64 (selI ok h), v], .int .i64 (selI ok n), .bool ok] ∧ OwL H.n H'.n H' ty v ((selL ok xs).map fv) ∧ (selL ok xs).length ≤ 2 ^ 40
theorem PicNR.no {ty : TypeId} {H H' : Heap} {ok : Bool} {w h : Int} {xs : List Nat} {n : Int} (hk : ok = false) (e : Ext H H') : PicNR ty H ok w h xs n (.tuple #[.agg #[.int .i64 0, .int .i64 0, .slice none 0 0], .int .i64 0, .bool false]) H' := by
  subst hk; exact ⟨e, _, rfl, .nil, by simp [selL]⟩
theorem PicNR.yes {ty : TypeId} {H H' : Heap} {ok : Bool} {w h : Int} {xs : List Nat} {n : Int} {v : Value} (hk : ok = true) (e : Ext H H') (o : OwL H.n H'.n H' ty v (xs.map fv)) (hl : xs.length ≤ 2 ^ 40) : PicNR ty H ok w h xs n (.tuple #[.agg #[.int .i64 w, .int .i64 h, v], .int .i64 n, .bool true]) H' := by
  subst hk; exact ⟨e, v, rfl, o, hl⟩
end Go.Proofs.Ytddekdgggpifmaa

namespace Go.Proofs.Ytddekdgggpifmaa
open Go.Gx
set_option maxRecDepth 100000
set_option linter.unusedSimpArgs false
set_option linter.unusedVariables false

theorem s_l01Narrow_ok {H : Heap} {y r0 : Nat} (h : acv (.f .f32) (.float .f64 y) = some (.float .f32 r0)) : ACalls Try.prog n_s_l01Narrow [.float .f64 y] H fun r H' => r = .float .f32 r0 ∧ H' = H := by
  refine k_s_l01Narrow.run rfl ?_
  unfold c_s_l01Narrow
  simp (disch := first | assumption | omega | rfl | (refine id ?_; simp only [gxD, ne_eq, reduceCtorEq, not_false_eq_true, Nat.reduceAdd, *]; done) | (refine id ?_; simp only [gxD]; omega)) only [↓gxPre, gxPost, ↓reduceIte, Nat.reduceEqDiff, reduceCtorEq, Nat.reduceAdd, h]
end Go.Proofs.Ytddekdgggpifmaa

namespace Go.Proofs.Ytddekdgggpifmaa
open Go.Gx
set_option maxRecDepth 100000
set_option linter.unusedSimpArgs false
set_option linter.unusedVariables false

theorem finW_neq {k : FloatKind} {x : Nat} (h : FinW k x) : fcB .neq k x x = false := by
  obtain ⟨A, B, P, hP, h1, h2, h3⟩ := order_val h h
  have hAB : A = B := by
    rcases Int.lt_trichotomy A B with c | c | c
    · have := (mul_lt_iff hP).2 c
      rw [← h1, ← h2] at this
      exact absurd this Rat.lt_irrefl
    · exact c
    · have := (mul_lt_iff hP).2 c
      rw [← h1, ← h2] at this
      exact absurd this Rat.lt_irrefl
  unfold fcB fcmp
  simp only [h3, hAB, Int.compare_eq_eq.2 rfl]
  rfl
theorem fcB_eql {k : FloatKind} {x y : Nat} (hx : FinW k x) (hy : FinW k y) : fcB .eql k x y = decide (fval k x = fval k y) := by
  obtain ⟨A, B, P, hP, h1, h2, h3⟩ := order_val hx hy
  unfold fcB fcmp
  simp only [h3]
  rw [Bool.eq_iff_iff, decide_eq_true_eq, h1, h2]
  rcases Int.lt_trichotomy A B with c | c | c
  · have h5 := (mul_lt_iff hP).2 c
    have : compare A B = .lt := Int.compare_eq_lt.2 c
    simp only [this]
    constructor
    · intro h; simp at h
    · intro h; rw [h] at h5; exact absurd h5 Rat.lt_irrefl
  · subst c
    simp only [Int.compare_eq_eq.2 rfl]
    simp
  · have h5 := (mul_lt_iff hP).2 c
    have : compare A B = .gt := Int.compare_eq_gt.2 c
    simp only [this]
    constructor
    · intro h; simp at h
    · intro h; rw [h] at h5; exact absurd h5 Rat.lt_irrefl
theorem fval_least {x : Nat} (h : FinW .f32 x) (h0 : 0 < fval .f32 x) : p2 (-149) ≤ fval .f32 x := by
  obtain ⟨n, j, hn, _, hj⟩ := h.rep
  rw [hn] at h0 ⊢
  have hl : FloatKind.f32.format.leastPlace = -149 := by decide
  rw [hl] at hj
  have hp := p2_pos j
  have hn1 : 1 ≤ n := by
    rcases ilg 0 n with c | c
    · omega
    · exfalso
      have h1 := Rat.mul_le_mul_of_nonneg_right (Rat.intCast_le_intCast.2 c) (Rat.le_of_lt hp)
      have h2 : ((0 : Int) : Rat) * p2 j = 0 := Rat.zero_mul _
      rw [h2] at h1
      grind_linarith
  have h1 := Rat.mul_le_mul_of_nonneg_right (Rat.intCast_le_intCast.2 hn1) (Rat.le_of_lt hp)
  have h2 : ((1 : Int) : Rat) * p2 j = p2 j := Rat.one_mul _
  rw [h2] at h1
  exact Rat.le_trans (p2_le hj) h1
/-- The logarithm, narrow, of numbers that aren't negative. -/
def logR (x : Nat) : Nat := if fcB .eql .f32 x 0 = true then 4286578688 else (f2f .f64 (logW (f64 x)) .f32).getD 0
def logV (y : Nat) : Nat := if fcB .eql .f64 y 0 = true then 18442240474082181120 else logW y
theorem zero64_val : FinW .f64 0 ∧ fval .f64 0 = 0 := by
  have h : (0 : Nat) = i2f .f64 0 := by decide +kernel
  rw [h]; exact i2f_fval (by decide)
theorem eql_wide {x : Nat} (h : FinW .f32 x) : fcB .eql .f64 (f64 x) 0 = fcB .eql .f32 x 0 := by
  obtain ⟨a, b⟩ := f64_fin h
  rw [fcB_eql a zero64_val.1, fcB_eql h finW_zero.1, b, zero64_val.2, finW_zero.2]
theorem log_dom {x : Nat} (h : FinW .f32 x) (h0 : 0 ≤ fval .f32 x) (hz : fcB .eql .f32 x 0 = false) : FinW .f64 (f64 x) ∧ p2 (-149) ≤ fval .f64 (f64 x) ∧ fval .f64 (f64 x) ≤ p2 128 := by
  obtain ⟨a, b⟩ := f64_fin h
  rw [fcB_eql h finW_zero.1, finW_zero.2] at hz
  have hne := of_decide_eq_false hz
  have hb := h.bd
  have ht := top64
  unfold Bd at hb
  rw [b]
  refine ⟨a, fval_least h ?_, by grind_linarith⟩
  exact Rat.lt_of_le_of_ne h0 (Ne.symm hne)
theorem acv_log {x : Nat} (h : FinW .f32 x) (h0 : 0 ≤ fval .f32 x) (hz : fcB .eql .f32 x 0 = false) : acv (.f .f32) (.float .f64 (logW (f64 x))) = some (.float .f32 (logR x)) := by
  obtain ⟨a, b, c⟩ := log_dom h h0 hz
  obtain ⟨w, hw, _⟩ := Bn_narrow (logW_bn a b c) (by decide)
  show (f2f .f64 _ .f32).map _ = _
  unfold logR
  rw [hz, hw]
  rfl
theorem acv_ninf : acv (.f .f32) (.float .f64 18442240474082181120) = some (.float .f32 4286578688) := by
  have : f2f .f64 18442240474082181120 .f32 = some 4286578688 := by decide +kernel
  have h : acv (.f .f32) (.float .f64 18442240474082181120) = (f2f .f64 18442240474082181120 .f32).map (.float .f32) := rfl
  rw [h, this]
  rfl
theorem not_inf {y : Nat} (h : FinW .f64 y) : fcB .gtr .f64 y 9218868437227405311 = false := by
  have hd : FloatKind.f64.decode 9218868437227405311 = .number false 9007199254740991 971 := by decide +kernel
  have hv : fval .f64 9218868437227405311 = topK .f64 := by
    unfold fval
    rw [hd, dval_number, sg_false, Rat.one_mul]
    rfl
  rw [fcB_gtr h ⟨_, _, _, hd⟩, hv]
  have hb := h.bd
  unfold Bd at hb
  exact decide_eq_false (by intro hh; grind_linarith)
theorem from_ninf : aFrom64 (.int .u64 18442240474082181120) = some (.float .f64 18442240474082181120) := by
  have h : canon .f64 18442240474082181120 = 18442240474082181120 := by decide +kernel
  show some (Value.float .f64 (canon .f64 18442240474082181120)) = _
  rw [h]
theorem i2f_up {t : Nat} (ht : t ≤ 300) : fbin .add .f64 (i2f .f64 (t : Int)) 4607182418800017408 = i2f .f64 ((t + 1 : Nat) : Int) := by
  have h := add_one64 ⟨t + 400, by omega⟩
  simp only at h
  rw [show ((t + 400 : Nat) : Int) - 400 = t by omega, show ((t + 400 : Nat) : Int) - 399 = ((t + 1 : Nat) : Int) by omega] at h
  exact h
theorem i2f_dn {n : Int} (h1 : -300 ≤ n) (h2 : n ≤ 300) : fbin .sub .f64 (i2f .f64 n) 4607182418800017408 = i2f .f64 (n - 1) := by
  have h := sub_one64 ⟨(n + 400).toNat, by omega⟩
  simp only at h
  rw [show (((n + 400).toNat : Nat) : Int) - 400 = n by omega, show (((n + 400).toNat : Nat) : Int) - 401 = n - 1 by omega] at h
  exact h
theorem i2f_dn2 {n : Int} (h1 : -10 ≤ n) (h2 : n ≤ 30) : fbin .sub .f64 (i2f .f64 n) 4611686018427387904 = i2f .f64 (n - 2) := by
  have h := sub_two64 ⟨(n + 20).toNat, by omega⟩
  simp only at h
  rw [show (((n + 20).toNat : Nat) : Int) - 20 = n by omega, show (((n + 20).toNat : Nat) : Int) - 22 = n - 2 by omega] at h
  exact h
theorem i2f_geq {n : Int} (h1 : -10 ≤ n) (h2 : n ≤ 30) : fcB .geq .f64 (i2f .f64 n) 4607182418800017408 = decide (1 ≤ n) := by
  have h := geq_one64 ⟨(n + 20).toNat, by omega⟩
  simp only at h
  rw [show (((n + 20).toNat : Nat) : Int) - 20 = n by omega] at h
  exact h
theorem i2f_25 : i2f .f64 25 = 4627730092099895296 := by decide +kernel
theorem m_Inf_ok {H : Heap} : ACalls Try.prog n_m_Inf [.int .i64 (-1)] H fun r H' => r = .float .f64 18442240474082181120 ∧ H' = H := by
  refine k_m_Inf.run rfl ?_
  unfold c_m_Inf
  simp (disch := first | assumption | omega | rfl | (refine id ?_; simp only [gxD, ne_eq, reduceCtorEq, not_false_eq_true, Nat.reduceAdd, *]; done) | (refine id ?_; simp only [gxD]; omega)) only [↓gxPre, gxPost, ↓reduceIte, Nat.reduceEqDiff, reduceCtorEq, Nat.reduceAdd, from_ninf]
theorem m_IsInf_ok {H : Heap} {y : Nat} : ACalls Try.prog n_m_IsInf [.float .f64 y, .int .i64 1] H fun r H' => r = .bool (fcB .gtr .f64 y 9218868437227405311) ∧ H' = H := by
  refine k_m_IsInf.run rfl ?_
  unfold c_m_IsInf
  simp (disch := first | assumption | omega | rfl | (refine id ?_; simp only [gxD, ne_eq, reduceCtorEq, not_false_eq_true, Nat.reduceAdd, *]; done) | (refine id ?_; simp only [gxD]; omega)) only [↓gxPre, gxPost, ↓reduceIte, Nat.reduceEqDiff, reduceCtorEq, Nat.reduceAdd]
theorem i_naturalLog_ok {H : Heap} {y : Nat} (hy : FinW .f64 y) (h0 : p2 (-149) ≤ fval .f64 y) (h1 : fval .f64 y ≤ p2 128) : ACalls Try.prog n_i_naturalLog [.float .f64 y] H fun r H' => r = .float .f64 (logW y) ∧ H' = H := by
  have hpos := p2_pos (-149)
  obtain ⟨a1, a2, a3⟩ := nHalf_ok hy (by grind_linarith) h1
  obtain ⟨y1, y2, y3⟩ := logY_ok hy h0 h1
  obtain ⟨d1, d2, d3⟩ := nDbl_ok y1 y2 y3
  refine k_i_naturalLog.run rfl ?_
  unfold c_i_naturalLog
  have z0 : i2f .f64 ((0 : Nat) : Int) = 0 := by decide +kernel
  simp (disch := first | assumption | omega | rfl | (refine id ?_; simp only [gxD, ne_eq, reduceCtorEq, not_false_eq_true, Nat.reduceAdd, *]; done) | (refine id ?_; simp only [gxD]; omega)) only [↓gxPre, gxPost, ↓reduceIte, Nat.reduceEqDiff, reduceCtorEq, Nat.reduceAdd]
  refine loop_for (nHalf y) (fun t => [.float .f64 (halfS y t), .float .f64 (i2f .f64 (t : Int))]) (by rw [z0]; rfl) ?_ ?_
  rotate_left
  · intro t ht
    have hc := a2 t ht
    have ha := i2f_up (t := t) (by omega)
    simp (disch := first | assumption | omega | rfl | (refine id ?_; simp only [gxD, ne_eq, reduceCtorEq, not_false_eq_true, Nat.reduceAdd, *]; done) | (refine id ?_; simp only [gxD]; omega)) only [↓gxPre, gxPost, ↓reduceIte, Nat.reduceEqDiff, reduceCtorEq, Nat.reduceAdd, hc, ha]
    rfl
  have a1' : fcB .geq .f64 (halfS y (nHalf y)) 4609434218613702656 = false := a1
  simp (disch := first | assumption | omega | rfl | (refine id ?_; simp only [gxD, ne_eq, reduceCtorEq, not_false_eq_true, Nat.reduceAdd, *]; done) | (refine id ?_; simp only [gxD]; omega)) only [↓gxPre, gxPost, ↓reduceIte, Nat.reduceEqDiff, reduceCtorEq, Nat.reduceAdd, a1']
  refine loop_for (nDbl (logY y)) (fun t => [.float .f64 (dblS (logY y) t), .float .f64 (i2f .f64 ((nHalf y : Int) - (t : Int)))]) (by simp only [Int.natCast_zero, Int.sub_zero]; rfl) ?_ ?_
  rotate_left
  · intro t ht
    have hc := d2 t ht
    have ha := i2f_dn (n := (nHalf y : Int) - (t : Int)) (by omega) (by omega)
    rw [show (nHalf y : Int) - (t : Int) - 1 = (nHalf y : Int) - ((t + 1 : Nat) : Int) by omega] at ha
    simp (disch := first | assumption | omega | rfl | (refine id ?_; simp only [gxD, ne_eq, reduceCtorEq, not_false_eq_true, Nat.reduceAdd, *]; done) | (refine id ?_; simp only [gxD]; omega)) only [↓gxPre, gxPost, ↓reduceIte, Nat.reduceEqDiff, reduceCtorEq, Nat.reduceAdd, hc, ha]
    rfl
  have hE : (nHalf y : Int) - (nDbl (logY y) : Int) = logE y := rfl
  have hZ : dblS (logY y) (nDbl (logY y)) = logZ y := rfl
  rw [hE, hZ]
  rw [hZ] at d1
  simp (disch := first | assumption | omega | rfl | (refine id ?_; simp only [gxD, ne_eq, reduceCtorEq, not_false_eq_true, Nat.reduceAdd, *]; done) | (refine id ?_; simp only [gxD]; omega)) only [↓gxPre, gxPost, ↓reduceIte, Nat.reduceEqDiff, reduceCtorEq, Nat.reduceAdd, d1]
  refine loop_for 13 (fun j => [.float .f64 (i2f .f64 (logE y)), .float .f64 (logS (logZ y)), .float .f64 (logU (logZ y)), .float .f64 (logQ (logU (logZ y)) j), .float .f64 (i2f .f64 (25 - 2 * (j : Int)))]) (by simp only [Int.natCast_zero, Int.mul_zero, Int.sub_zero, i2f_25]; rfl) ?_ ?_
  · have hg := i2f_geq (n := 25 - 2 * ((13 : Nat) : Int)) (by omega) (by omega)
    rw [decide_eq_false (by omega)] at hg
    simp (disch := first | assumption | omega | rfl | (refine id ?_; simp only [gxD, ne_eq, reduceCtorEq, not_false_eq_true, Nat.reduceAdd, *]; done) | (refine id ?_; simp only [gxD]; omega)) only [↓gxPre, gxPost, ↓reduceIte, Nat.reduceEqDiff, reduceCtorEq, Nat.reduceAdd, hg]
    rfl
  · intro j hj
    have hg := i2f_geq (n := 25 - 2 * (j : Int)) (by omega) (by omega)
    rw [decide_eq_true (by omega)] at hg
    have hs := i2f_dn2 (n := 25 - 2 * (j : Int)) (by omega) (by omega)
    rw [show 25 - 2 * (j : Int) - 2 = 25 - 2 * ((j + 1 : Nat) : Int) by omega] at hs
    simp (disch := first | assumption | omega | rfl | (refine id ?_; simp only [gxD, ne_eq, reduceCtorEq, not_false_eq_true, Nat.reduceAdd, *]; done) | (refine id ?_; simp only [gxD]; omega)) only [↓gxPre, gxPost, ↓reduceIte, Nat.reduceEqDiff, reduceCtorEq, Nat.reduceAdd, hg, hs]
    rfl
theorem i_LogNumber_ok {H : Heap} {x : Nat} (hx : FinW .f32 x) (h0 : 0 ≤ fval .f32 x) : ACalls Try.prog n_i_LogNumber [.float .f32 x] H fun r H' => r = .float .f32 (logR x) ∧ H' = H := by
  refine k_i_LogNumber.run rfl ?_
  unfold c_i_LogNumber
  cases hz : fcB .eql .f32 x 0
  · obtain ⟨d1, d2, d3⟩ := log_dom hx h0 hz
    have hl : fcB .lss .f32 x 0 = false := by
      rw [fcB_lss hx finW_zero.1, finW_zero.2]
      exact decide_eq_false (by intro h; grind_linarith)
    have hn := finW_neq hx
    simp (disch := first | assumption | omega | rfl | (refine id ?_; simp only [gxD, ne_eq, reduceCtorEq, not_false_eq_true, Nat.reduceAdd, *]; done) | (refine id ?_; simp only [gxD]; omega)) only [↓gxPre, gxPost, ↓reduceIte, Nat.reduceEqDiff, reduceCtorEq, Nat.reduceAdd, hz, hl, hn]
    refine callR_pure i_IsFinite_ok (.inl rfl) ?_
    have hf := hx.fin
    simp (disch := first | assumption | omega | rfl | (refine id ?_; simp only [gxD, ne_eq, reduceCtorEq, not_false_eq_true, Nat.reduceAdd, *]; done) | (refine id ?_; simp only [gxD]; omega)) only [↓gxPre, gxPost, ↓reduceIte, Nat.reduceEqDiff, reduceCtorEq, Nat.reduceAdd, hf]
    refine callR_pure (i_naturalLog_ok d1 d2 d3) (.inl rfl) ?_
    have hv := acv_log hx h0 hz
    simp (disch := first | assumption | omega | rfl | (refine id ?_; simp only [gxD, ne_eq, reduceCtorEq, not_false_eq_true, Nat.reduceAdd, *]; done) | (refine id ?_; simp only [gxD]; omega)) only [↓gxPre, gxPost, ↓reduceIte, Nat.reduceEqDiff, reduceCtorEq, Nat.reduceAdd, hv]
  · simp (disch := first | assumption | omega | rfl | (refine id ?_; simp only [gxD, ne_eq, reduceCtorEq, not_false_eq_true, Nat.reduceAdd, *]; done) | (refine id ?_; simp only [gxD]; omega)) only [↓gxPre, gxPost, ↓reduceIte, Nat.reduceEqDiff, reduceCtorEq, Nat.reduceAdd, hz]
    refine callR_pure m_Inf_ok (.inl rfl) ?_
    simp (disch := first | assumption | omega | rfl | (refine id ?_; simp only [gxD, ne_eq, reduceCtorEq, not_false_eq_true, Nat.reduceAdd, *]; done) | (refine id ?_; simp only [gxD]; omega)) only [↓gxPre, gxPost, ↓reduceIte, Nat.reduceEqDiff, reduceCtorEq, Nat.reduceAdd, acv_ninf]
    simp [logR, hz]
theorem s_l01LogWide_ok {H : Heap} {y : Nat} (hy : FinW .f64 y) (h0 : 0 ≤ fval .f64 y) (hd : fcB .eql .f64 y 0 = false → p2 (-149) ≤ fval .f64 y ∧ fval .f64 y ≤ p2 128) : ACalls Try.prog n_s_l01LogWide [.float .f64 y] H fun r H' => r = .float .f64 (logV y) ∧ H' = H := by
  refine k_s_l01LogWide.run rfl ?_
  unfold c_s_l01LogWide
  have hn := finW_neq hy
  have hl : fcB .lss .f64 y 0 = false := by
    rw [fcB_lss hy zero64_val.1, zero64_val.2]
    exact decide_eq_false (by intro h; grind_linarith)
  cases hz : fcB .eql .f64 y 0
  rotate_left
  · simp (disch := first | assumption | omega | rfl | (refine id ?_; simp only [gxD, ne_eq, reduceCtorEq, not_false_eq_true, Nat.reduceAdd, *]; done) | (refine id ?_; simp only [gxD]; omega)) only [↓gxPre, gxPost, ↓reduceIte, Nat.reduceEqDiff, reduceCtorEq, Nat.reduceAdd, hn, hl, hz]
    refine callR_pure m_Inf_ok (.inl rfl) ?_
    simp (disch := first | assumption | omega | rfl | (refine id ?_; simp only [gxD, ne_eq, reduceCtorEq, not_false_eq_true, Nat.reduceAdd, *]; done) | (refine id ?_; simp only [gxD]; omega)) only [↓gxPre, gxPost, ↓reduceIte, Nat.reduceEqDiff, reduceCtorEq, Nat.reduceAdd]
    simp [logV, hz]
  obtain ⟨e0, e1⟩ := hd hz
  have hpos := p2_pos (-149)
  obtain ⟨a1, a2, a3⟩ := nHalf_ok hy (by grind_linarith) e1
  obtain ⟨y1, y2, y3⟩ := logY_ok hy e0 e1
  obtain ⟨d1, d2, d3⟩ := nDbl_ok y1 y2 y3
  have hi := not_inf hy
  have hV : logV y = logW y := by unfold logV; rw [hz]; rfl
  rw [hV]
  simp (disch := first | assumption | omega | rfl | (refine id ?_; simp only [gxD, ne_eq, reduceCtorEq, not_false_eq_true, Nat.reduceAdd, *]; done) | (refine id ?_; simp only [gxD]; omega)) only [↓gxPre, gxPost, ↓reduceIte, Nat.reduceEqDiff, reduceCtorEq, Nat.reduceAdd, hn, hl, hz]
  refine callR_pure m_IsInf_ok (.inl rfl) ?_
  simp (disch := first | assumption | omega | rfl | (refine id ?_; simp only [gxD, ne_eq, reduceCtorEq, not_false_eq_true, Nat.reduceAdd, *]; done) | (refine id ?_; simp only [gxD]; omega)) only [↓gxPre, gxPost, ↓reduceIte, Nat.reduceEqDiff, reduceCtorEq, Nat.reduceAdd, hi]
  refine loop_for (nHalf y) (fun t => [.float .f64 (halfS y t), .int .i64 (t : Int)]) rfl ?_ ?_
  rotate_left
  · intro t ht
    have hc := a2 t ht
    simp (disch := first | assumption | omega | rfl | (refine id ?_; simp only [gxD, ne_eq, reduceCtorEq, not_false_eq_true, Nat.reduceAdd, *]; done) | (refine id ?_; simp only [gxD]; omega)) only [↓gxPre, gxPost, ↓reduceIte, Nat.reduceEqDiff, reduceCtorEq, Nat.reduceAdd, hc]
    simp [halfS]
  have a1' : fcB .geq .f64 (halfS y (nHalf y)) 4609434218613702656 = false := a1
  simp (disch := first | assumption | omega | rfl | (refine id ?_; simp only [gxD, ne_eq, reduceCtorEq, not_false_eq_true, Nat.reduceAdd, *]; done) | (refine id ?_; simp only [gxD]; omega)) only [↓gxPre, gxPost, ↓reduceIte, Nat.reduceEqDiff, reduceCtorEq, Nat.reduceAdd, a1']
  refine loop_for (nDbl (logY y)) (fun t => [.float .f64 (dblS (logY y) t), .int .i64 ((nHalf y : Int) - (t : Int))]) (by simp only [Int.natCast_zero, Int.sub_zero]; rfl) ?_ ?_
  rotate_left
  · intro t ht
    have hc := d2 t ht
    simp (disch := first | assumption | omega | rfl | (refine id ?_; simp only [gxD, ne_eq, reduceCtorEq, not_false_eq_true, Nat.reduceAdd, *]; done) | (refine id ?_; simp only [gxD]; omega)) only [↓gxPre, gxPost, ↓reduceIte, Nat.reduceEqDiff, reduceCtorEq, Nat.reduceAdd, hc]
    simp [dblS]
    omega
  have hE : (nHalf y : Int) - (nDbl (logY y) : Int) = logE y := rfl
  have hZ : dblS (logY y) (nDbl (logY y)) = logZ y := rfl
  rw [hE, hZ]
  rw [hZ] at d1
  simp (disch := first | assumption | omega | rfl | (refine id ?_; simp only [gxD, ne_eq, reduceCtorEq, not_false_eq_true, Nat.reduceAdd, *]; done) | (refine id ?_; simp only [gxD]; omega)) only [↓gxPre, gxPost, ↓reduceIte, Nat.reduceEqDiff, reduceCtorEq, Nat.reduceAdd, d1]
  refine loop_for 13 (fun j => [.int .i64 (logE y), .float .f64 (logS (logZ y)), .float .f64 (logU (logZ y)), .float .f64 (logQ (logU (logZ y)) j), .int .i64 (25 - 2 * (j : Int))]) (by simp only [Int.natCast_zero, Int.mul_zero, Int.sub_zero]; rfl) ?_ ?_
  · have hg : ¬ (1 : Int) ≤ 25 - 2 * ((13 : Nat) : Int) := by omega
    simp (disch := first | assumption | omega | rfl | (refine id ?_; simp only [gxD, ne_eq, reduceCtorEq, not_false_eq_true, Nat.reduceAdd, *]; done) | (refine id ?_; simp only [gxD]; omega)) only [↓gxPre, gxPost, ↓reduceIte, Nat.reduceEqDiff, reduceCtorEq, Nat.reduceAdd, hg]
    rfl
  · intro j hj
    have hg : (1 : Int) ≤ 25 - 2 * (j : Int) := by omega
    simp (disch := first | assumption | omega | rfl | (refine id ?_; simp only [gxD, ne_eq, reduceCtorEq, not_false_eq_true, Nat.reduceAdd, *]; done) | (refine id ?_; simp only [gxD]; omega)) only [↓gxPre, gxPost, ↓reduceIte, Nat.reduceEqDiff, reduceCtorEq, Nat.reduceAdd, hg]
    simp [logQ]
    omega
theorem s_l01Log_ok {H : Heap} {x : Nat} (hx : FinW .f32 x) (h0 : 0 ≤ fval .f32 x) : ACalls Try.prog n_s_l01Log [.float .f32 x] H fun r H' => r = .float .f32 (logR x) ∧ H' = H := by
  refine k_s_l01Log.run rfl ?_
  unfold c_s_l01Log
  obtain ⟨a, b⟩ := f64_fin hx
  have he := eql_wide hx
  simp (disch := first | assumption | omega | rfl | (refine id ?_; simp only [gxD, ne_eq, reduceCtorEq, not_false_eq_true, Nat.reduceAdd, *]; done) | (refine id ?_; simp only [gxD]; omega)) only [↓gxPre, gxPost, ↓reduceIte, Nat.reduceEqDiff, reduceCtorEq, Nat.reduceAdd]
  refine callR_pure (s_l01LogWide_ok a (by rw [b]; exact h0) fun h => (log_dom hx h0 (by rw [← he]; exact h)).2) (.inl rfl) ?_
  have hv : acv (.f .f32) (.float .f64 (logV (f64 x))) = some (.float .f32 (logR x)) := by
    cases hz : fcB .eql .f32 x 0
    · unfold logV
      rw [he, hz]
      exact acv_log hx h0 hz
    · unfold logV logR
      rw [he, hz]
      exact acv_ninf
  simp (disch := first | assumption | omega | rfl | (refine id ?_; simp only [gxD, ne_eq, reduceCtorEq, not_false_eq_true, Nat.reduceAdd, *]; done) | (refine id ?_; simp only [gxD]; omega)) only [↓gxPre, gxPost, ↓reduceIte, Nat.reduceEqDiff, reduceCtorEq, Nat.reduceAdd]
  refine callR_pure (s_l01Narrow_ok hv) (.inl rfl) ?_
  simp (disch := first | assumption | omega | rfl | (refine id ?_; simp only [gxD, ne_eq, reduceCtorEq, not_false_eq_true, Nat.reduceAdd, *]; done) | (refine id ?_; simp only [gxD]; omega)) only [↓gxPre, gxPost, ↓reduceIte, Nat.reduceEqDiff, reduceCtorEq, Nat.reduceAdd]
end Go.Proofs.Ytddekdgggpifmaa
