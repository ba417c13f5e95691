/- Rings, split and joined. -/
import Derived.Test.YtkojmlpaamdhoacSplitRingU
namespace Go.Proofs.Ytkojmlpaamdhoac
open Go.Gx
set_option maxRecDepth 100000
set_option linter.unusedSimpArgs false
set_option linter.unusedVariables false

theorem rd1_at {H : Heap} {k : Nat} {ty : TypeId} {v : Value} (h : k = H.n) : readSl (H.new ⟨true, ty, [v]⟩) (.slice (some ⟨k, 0, none⟩) 1 1) = some [v] := by subst h; exact rd1_new
theorem tdiv2 (n : Nat) : ((n : Int)).tdiv 2 = ((n / 2 : Nat) : Int) := tdivN n 2
theorem ring_ix (n j k : Nat) : (2 * (j : Int) + (k : Int)).tmod (n : Int) = (((2 * j + k) % n : Nat) : Int) := by
  have : 2 * (j : Int) + (k : Int) = ((2 * j + k : Nat) : Int) := by omega
  rw [this, tmodN]
def tapF (xs ps : List Nat) (j : Nat) : Nat → Nat := foldI (fun k a => fbin .add .f32 a (fbin .mul .f32 (ps.getD k 0) (xs.getD ((2 * j + k) % xs.length) 0))) 0
theorem tapF_succ (xs ps : List Nat) (j k : Nat) : tapF xs ps j (k + 1) = fbin .add .f32 (tapF xs ps j k) (fbin .mul .f32 (ps.getD k 0) (xs.getD ((2 * j + k) % xs.length) 0)) := rfl
def tapL (xs ps : List Nat) : List Nat := tabL (xs.length / 2) fun j => tapF xs ps j ps.length
def splitOk (xs ps : List Nat) : Bool := isLongF xs && decide (xs.length % 2 = 0) && validPairF ps && ((tapL xs ps).all finF && (tapL xs (highL ps)).all finF)
def joinK (lo hi ps hp out : List Nat) (j k : Nat) : List Nat := out.set ((2 * j + k) % (2 * lo.length)) (fbin .add .f32 (out.getD ((2 * j + k) % (2 * lo.length)) 0) (fbin .add .f32 (fbin .mul .f32 (ps.getD k 0) (lo.getD j 0)) (fbin .mul .f32 (hp.getD k 0) (hi.getD j 0))))
def joinJ (lo hi ps hp out : List Nat) (j : Nat) : Nat → List Nat := foldI (fun k o => joinK lo hi ps hp o j k) out
def joinN (lo hi ps hp : List Nat) : Nat → List Nat := foldI (fun j o => joinJ lo hi ps hp o j ps.length) (List.replicate (2 * lo.length) 0)
theorem joinJ_len (lo hi ps hp out : List Nat) (j : Nat) : ∀ k, (joinJ lo hi ps hp out j k).length = out.length
  | 0 => rfl
  | k + 1 => by
    have := joinJ_len lo hi ps hp out j k
    simp only [joinJ, foldI_succ, joinK, List.length_set] at this ⊢
    exact this
theorem joinN_len (lo hi ps hp : List Nat) : ∀ j, (joinN lo hi ps hp j).length = 2 * lo.length
  | 0 => by simp [joinN, foldI_zero]
  | j + 1 => by
    have := joinN_len lo hi ps hp j
    simp only [joinN, foldI_succ] at this ⊢
    rw [joinJ_len]; exact this
theorem joinJ_succ (lo hi ps hp out : List Nat) (j k : Nat) : joinJ lo hi ps hp out j (k + 1) = joinK lo hi ps hp (joinJ lo hi ps hp out j k) j k := rfl
theorem joinN_succ (lo hi ps hp : List Nat) (j : Nat) : joinN lo hi ps hp (j + 1) = joinJ lo hi ps hp (joinN lo hi ps hp j) j ps.length := rfl
def joinL (lo hi ps : List Nat) : List Nat := joinN lo hi ps (highL ps) lo.length
def joinOk (lo hi ps : List Nat) : Bool := within lo.length 1 64 && decide (hi.length = lo.length) && (lo.all finF && hi.all finF) && validPairF ps && (joinL lo hi ps).all finF
theorem fv_at {xs : List Nat} {i : Nat} (h : i < xs.length) : (xs.map fv)[i]? = some (.float .f32 (xs.getD i 0)) := by simp [List.getD_eq_getElem?_getD, h, fv]
theorem rep_fv (n : Nat) : List.replicate n (Value.float .f32 0) = (List.replicate n 0).map fv := by simp [fv]
theorem i_SplitRing_law {H : Heap} {v0 v1 : Value} {xs0 xs1 : List Nat} (A : AF H v0 xs0) (B : AF H v1 xs1) : ACalls Try.prog n_i_SplitRing [v0, .agg #[v1]] H fun r H' => TwoR fv t_float32 H (splitOk xs0 xs1) (tapL xs0 xs1) (tapL xs0 (highL xs1)) r H' := by
  have o1 := A.rd.one
  have o2 := B.rd.one
  refine k_i_SplitRing.run rfl ?_
  unfold c_i_SplitRing
  simp (disch := first | assumption | omega | rfl | (refine id ?_; simp only [gxD, ne_eq, reduceCtorEq, not_false_eq_true, Nat.reduceAdd, *]; done) | (refine id ?_; simp only [gxD]; omega)) only [↓gxPre, gxPost, ↓reduceIte, Nat.reduceEqDiff, reduceCtorEq, Nat.reduceAdd, A.rd.len]
  refine callR_new ?_
  intro G e hb nn
  refine callR_ext (i_isLong_ok (A.rd.ext e) A.le) ?_
  intro G1 n1 b1
  have e1 : Ext H G1 := e.trans ⟨n1, b1⟩
  have hb1 := (b1 H.n (by omega)).trans hb
  cases h1 : isLongF xs0
  · simp (disch := first | assumption | omega | rfl | (refine id ?_; simp only [gxD, ne_eq, reduceCtorEq, not_false_eq_true, Nat.reduceAdd, *]; done) | (refine id ?_; simp only [gxD]; omega)) only [↓gxPre, gxPost, ↓reduceIte, Nat.reduceEqDiff, reduceCtorEq, Nat.reduceAdd]
    exact .no (by simp only [splitOk, h1, Bool.false_and]) e1
  have hl := long_len h1
  by_cases h2 : xs0.length % 2 = 0
  rotate_left
  · have h2' : ((xs0.length % 2 : Nat) : Int) = 1 := by omega
    simp (disch := first | assumption | omega | rfl | (refine id ?_; simp only [gxD, ne_eq, reduceCtorEq, not_false_eq_true, Nat.reduceAdd, *]; done) | (refine id ?_; simp only [gxD]; omega)) only [↓gxPre, gxPost, ↓reduceIte, Nat.reduceEqDiff, reduceCtorEq, Nat.reduceAdd, tmod2, h2']
    exact .no (by simp only [splitOk, decide_eq_false h2, Bool.and_false, Bool.false_and]) e1
  have h2' : ((xs0.length % 2 : Nat) : Int) = 0 := by omega
  simp (disch := first | assumption | omega | rfl | (refine id ?_; simp only [gxD, ne_eq, reduceCtorEq, not_false_eq_true, Nat.reduceAdd, *]; done) | (refine id ?_; simp only [gxD]; omega)) only [↓gxPre, gxPost, ↓reduceIte, Nat.reduceEqDiff, reduceCtorEq, Nat.reduceAdd, tmod2, h2', hb1]
  refine callR_ext (i_ValidPair_ok (B.rd.ext e1) B.le) ?_
  intro G2 n2 b2
  have e2 : Ext H G2 := e1.trans ⟨n2, b2⟩
  have hb2 := (b2 H.n (by omega)).trans hb1
  cases h3 : validPairF xs1
  · simp (disch := first | assumption | omega | rfl | (refine id ?_; simp only [gxD, ne_eq, reduceCtorEq, not_false_eq_true, Nat.reduceAdd, *]; done) | (refine id ?_; simp only [gxD]; omega)) only [↓gxPre, gxPost, ↓reduceIte, Nat.reduceEqDiff, reduceCtorEq, Nat.reduceAdd]
    exact .no (by simp only [splitOk, h3, Bool.and_false, Bool.false_and]) e2
  have hp := vp_len h3
  simp (disch := first | assumption | omega | rfl | (refine id ?_; simp only [gxD, ne_eq, reduceCtorEq, not_false_eq_true, Nat.reduceAdd, *]; done) | (refine id ?_; simp only [gxD]; omega)) only [↓gxPre, gxPost, ↓reduceIte, Nat.reduceEqDiff, reduceCtorEq, Nat.reduceAdd, hb2]
  refine callR_of (i_highOf_ok (B.rd.ext e2) B.le) ?_
  rintro _ K ⟨eK', rfl, nK, cK⟩
  have eK := e2.trans eK'
  have hbK := (eK'.blk H.n (by omega)).trans hb2
  have lh := highL_length xs1
  have hK0 : H.n < K.n := by omega
  have hQ : FS K (.slice (some ⟨G2.n + 1, 0, none⟩) xs1.length xs1.length) (highL xs1) := FS.own cK (by omega) lh
  simp (disch := first | assumption | omega | rfl | (refine id ?_; simp only [gxD, ne_eq, reduceCtorEq, not_false_eq_true, Nat.reduceAdd, *]; done) | (refine id ?_; simp only [gxD]; omega)) only [↓gxPre, gxPost, ↓reduceIte, Nat.reduceEqDiff, reduceCtorEq, Nat.reduceAdd, tdiv2]
  refine loop_forH (xs0.length / 2) (fun j => [v0, .pointer (some ⟨H.n, 0, some 1⟩), .int .i64 xs0.length, .slice (some ⟨G2.n + 1, 0, none⟩) xs1.length xs1.length, .slice (some ⟨K.n, 0, none⟩) j j, .slice (some ⟨K.n + 1, 0, none⟩) j j, .int .i64 ((xs0.length / 2 : Nat) : Int), .int .i64 j])
    (fun j G => K.n + 2 ≤ G.n ∧ Ext K G ∧ G.blk K.n = some ⟨true, t_float32, (tabL j fun j => tapF xs0 xs1 j xs1.length).map fv⟩ ∧ G.blk (K.n + 1) = some ⟨true, t_float32, (tabL j fun j => tapF xs0 (highL xs1) j xs1.length).map fv⟩) rfl ⟨by simp only [new_n]; omega, ⟨by first | omega | (simp only [new_n, put_n]; omega) | (simp only [new_n, put_n] at *; omega), fun i hi => by simp (disch := first | assumption | omega | rfl | (refine id ?_; simp only [gxD, ne_eq, reduceCtorEq, not_false_eq_true, Nat.reduceAdd, *]; done) | (refine id ?_; simp only [gxD]; omega)) only [↓gxPre, gxPost, ↓reduceIte, Nat.reduceEqDiff, reduceCtorEq, Nat.reduceAdd, *]⟩, by simp (disch := first | assumption | omega | rfl | (refine id ?_; simp only [gxD, ne_eq, reduceCtorEq, not_false_eq_true, Nat.reduceAdd, *]; done) | (refine id ?_; simp only [gxD]; omega)) only [↓gxPre, gxPost, ↓reduceIte, Nat.reduceEqDiff, reduceCtorEq, Nat.reduceAdd]; rfl, by simp (disch := first | assumption | omega | rfl | (refine id ?_; simp only [gxD, ne_eq, reduceCtorEq, not_false_eq_true, Nat.reduceAdd, *]; done) | (refine id ?_; simp only [gxD]; omega)) only [↓gxPre, gxPost, ↓reduceIte, Nat.reduceEqDiff, reduceCtorEq, Nat.reduceAdd]; rfl⟩ ?_ ?_
  · rintro G3 ⟨hG, hE, hc, hd⟩
    have q1 : tapL xs0 xs1 = tabL (xs0.length / 2) fun j => tapF xs0 xs1 j xs1.length := rfl
    have q2 : tapL xs0 (highL xs1) = tabL (xs0.length / 2) fun j => tapF xs0 (highL xs1) j xs1.length := by rw [tapL, lh]
    rw [← q1] at hc
    rw [← q2] at hd
    have l1 : (tapL xs0 xs1).length = xs0.length / 2 := tabL_length _ _
    have l2 : (tapL xs0 (highL xs1)).length = xs0.length / 2 := tabL_length _ _
    simp (disch := first | assumption | omega | rfl | (refine id ?_; simp only [gxD, ne_eq, reduceCtorEq, not_false_eq_true, Nat.reduceAdd, *]; done) | (refine id ?_; simp only [gxD]; omega)) only [↓gxPre, gxPost, ↓reduceIte, Nat.reduceEqDiff, reduceCtorEq, Nat.reduceAdd, Int.lt_irrefl]
    refine callR_new ?_
    intro G4 e4 hb4 n4
    have hc4 := (e4.blk K.n (by omega)).trans hc
    have hd4 := (e4.blk (K.n + 1) (by omega)).trans hd
    refine callR_pure (i_areFinite2_ok hb4 (by omega) (FS.own hc4 (by omega) l1) (FS.own hd4 (by omega) l2) (by omega) (by omega)) (.inl rfl) ?_
    cases hf : ((tapL xs0 xs1).all finF && (tapL xs0 (highL xs1)).all finF)
    · simp (disch := first | assumption | omega | rfl | (refine id ?_; simp only [gxD, ne_eq, reduceCtorEq, not_false_eq_true, Nat.reduceAdd, *]; done) | (refine id ?_; simp only [gxD]; omega)) only [↓gxPre, gxPost, ↓reduceIte, Nat.reduceEqDiff, reduceCtorEq, Nat.reduceAdd]
      exact .no (by simp only [splitOk, hf, Bool.and_false]) ((eK.trans hE).trans e4)
    · simp (disch := first | assumption | omega | rfl | (refine id ?_; simp only [gxD, ne_eq, reduceCtorEq, not_false_eq_true, Nat.reduceAdd, *]; done) | (refine id ?_; simp only [gxD]; omega)) only [↓gxPre, gxPost, ↓reduceIte, Nat.reduceEqDiff, reduceCtorEq, Nat.reduceAdd]
      exact .yes (by simp only [splitOk, hf, h1, h3, decide_eq_true h2, Bool.and_true]) ((eK.trans hE).trans e4) (OwN.two (.mk hc4 (by simpa using l1) (by omega) (by omega) (by omega)) (.mk hd4 (by simpa using l2) (by omega) (by omega) (by omega)) fun h h1 h2 => by simp only [hdl, Option.some.injEq] at h1 h2; omega) (by omega) (by omega)
  · rintro j G3 hj ⟨hG, hE, hc, hd⟩
    have hv0 := (A.rd.ext eK).ext hE
    have hv1 := (B.rd.ext eK).ext hE
    have hv2 := hQ.ext hE
    have hb3 := (hE.blk H.n hK0).trans hbK
    simp (disch := first | assumption | omega | rfl | (refine id ?_; simp only [gxD, ne_eq, reduceCtorEq, not_false_eq_true, Nat.reduceAdd, *]; done) | (refine id ?_; simp only [gxD]; omega)) only [↓gxPre, gxPost, ↓reduceIte, Nat.reduceEqDiff, reduceCtorEq, Nat.reduceAdd, hb3, hv1.len]
    refine loop_for xs1.length (fun k => [v0, .pointer (some ⟨H.n, 0, some 1⟩), .int .i64 xs0.length, .slice (some ⟨G2.n + 1, 0, none⟩) xs1.length xs1.length, .slice (some ⟨K.n, 0, none⟩) j j, .slice (some ⟨K.n + 1, 0, none⟩) j j, .int .i64 j, .float .f32 (tapF xs0 xs1 j k), .float .f32 (tapF xs0 (highL xs1) j k), .int .i64 ((xs0.length / 2 : Nat) : Int), .int .i64 j, v1, .int .i64 xs1.length, .int .i64 k]) rfl ?_ ?_
    · have t1 : ((tabL j fun j => tapF xs0 xs1 j xs1.length).map fv).length = j := by rw [lMapN, tabL_length]
      have t2 : ((tabL j fun j => tapF xs0 (highL xs1) j xs1.length).map fv).length = j := by rw [lMapN, tabL_length]
      have m1 : (tabL j fun j => tapF xs0 xs1 j xs1.length).map fv ++ [.float .f32 (tapF xs0 xs1 j xs1.length)] = (tabL (j + 1) fun j => tapF xs0 xs1 j xs1.length).map fv := by rw [tabL_succ, fv_snoc']
      have m2 : (tabL j fun j => tapF xs0 (highL xs1) j xs1.length).map fv ++ [.float .f32 (tapF xs0 (highL xs1) j xs1.length)] = (tabL (j + 1) fun j => tapF xs0 (highL xs1) j xs1.length).map fv := by rw [tabL_succ, fv_snoc']
      obtain ⟨f1, f2, f3, f4⟩ := push_at hE hc (Nat.le_refl _) (by omega) m1
      obtain ⟨g1, g2, g3, g4⟩ := push_at f1 ((f4 (K.n + 1) (by omega) (by omega)).trans hd) (by omega) (by rw [f3]; omega) m2
      simp (disch := first | assumption | omega | rfl | (refine id ?_; simp only [gxD, ne_eq, reduceCtorEq, not_false_eq_true, Nat.reduceAdd, *]; done) | (refine id ?_; simp only [gxD]; omega)) only [↓gxPre, gxPost, ↓reduceIte, Nat.reduceEqDiff, reduceCtorEq, Nat.reduceAdd, Int.lt_irrefl, hc, hd, rd1_at]
      exact ⟨by simp, by omega, g1, by rw [m1], by rw [m2]⟩
    · intro k hk
      have hmod : (2 * j + k) % xs0.length < xs0.length := Nat.mod_lt _ (by omega)
      simp (disch := first | assumption | omega | rfl | (refine id ?_; simp only [gxD, ne_eq, reduceCtorEq, not_false_eq_true, Nat.reduceAdd, *]; done) | (refine id ?_; simp only [gxD]; omega)) only [↓gxPre, gxPost, ↓reduceIte, Nat.reduceEqDiff, reduceCtorEq, Nat.reduceAdd, ring_ix, hv0.ia, hv0.ld, hv1.ia, hv1.ld, hv2.ia, hv2.ld]
      simp [tapF_succ]
theorem s_l03Taps_ok {H : Heap} {v u : Value} {xs ps : List Nat} (hv : FS H v xs) (hu : FS H u ps) (hn : 1 ≤ xs.length) (hn' : xs.length ≤ 2 ^ 30) (he : xs.length % 2 = 0) (hm : ps.length ≤ 2 ^ 30) :
    ACalls Try.prog n_s_l03Taps [v, u] H fun r H' => Ext H H' ∧ r = .slice (some ⟨H.n, 0, none⟩) (xs.length / 2) (xs.length / 2) ∧ H.n + 1 ≤ H'.n ∧ H'.blk H.n = some ⟨true, t_float32, (tapL xs ps).map fv⟩ := by
  refine k_s_l03Taps.run rfl ?_
  unfold c_s_l03Taps
  simp (disch := first | assumption | omega | rfl | (refine id ?_; simp only [gxD, ne_eq, reduceCtorEq, not_false_eq_true, Nat.reduceAdd, *]; done) | (refine id ?_; simp only [gxD]; omega)) only [↓gxPre, gxPost, ↓reduceIte, Nat.reduceEqDiff, reduceCtorEq, Nat.reduceAdd, hv.len]
  refine loop_forH (xs.length / 2) (fun j => [v, u, .int .i64 xs.length, .slice (some ⟨H.n, 0, none⟩) j j, .int .i64 j])
    (fun j G => H.n + 1 ≤ G.n ∧ Ext H G ∧ G.blk H.n = some ⟨true, t_float32, (tabL j fun j => tapF xs ps j ps.length).map fv⟩) rfl ⟨by simp only [new_n]; omega, ⟨by first | omega | (simp only [new_n, put_n]; omega) | (simp only [new_n, put_n] at *; omega), fun i hi => by simp (disch := first | assumption | omega | rfl | (refine id ?_; simp only [gxD, ne_eq, reduceCtorEq, not_false_eq_true, Nat.reduceAdd, *]; done) | (refine id ?_; simp only [gxD]; omega)) only [↓gxPre, gxPost, ↓reduceIte, Nat.reduceEqDiff, reduceCtorEq, Nat.reduceAdd, *]⟩, by simp (disch := first | assumption | omega | rfl | (refine id ?_; simp only [gxD, ne_eq, reduceCtorEq, not_false_eq_true, Nat.reduceAdd, *]; done) | (refine id ?_; simp only [gxD]; omega)) only [↓gxPre, gxPost, ↓reduceIte, Nat.reduceEqDiff, reduceCtorEq, Nat.reduceAdd]; rfl⟩ ?_ ?_
  · rintro G ⟨hG, hE, hc⟩
    have : ¬ (2 * ((xs.length / 2 : Nat) : Int) < xs.length) := by omega
    simp (disch := first | assumption | omega | rfl | (refine id ?_; simp only [gxD, ne_eq, reduceCtorEq, not_false_eq_true, Nat.reduceAdd, *]; done) | (refine id ?_; simp only [gxD]; omega)) only [↓gxPre, gxPost, ↓reduceIte, Nat.reduceEqDiff, reduceCtorEq, Nat.reduceAdd, this]
    exact ⟨hE, hG, hc⟩
  · rintro j G hj ⟨hG, hE, hc⟩
    have hv0 := hv.ext hE
    have hv1 := hu.ext hE
    simp (disch := first | assumption | omega | rfl | (refine id ?_; simp only [gxD, ne_eq, reduceCtorEq, not_false_eq_true, Nat.reduceAdd, *]; done) | (refine id ?_; simp only [gxD]; omega)) only [↓gxPre, gxPost, ↓reduceIte, Nat.reduceEqDiff, reduceCtorEq, Nat.reduceAdd, hv1.len]
    refine loop_for ps.length (fun k => [v, u, .int .i64 xs.length, .slice (some ⟨H.n, 0, none⟩) j j, .int .i64 j, .float .f32 (tapF xs ps j k), .int .i64 ps.length, .int .i64 k]) rfl ?_ ?_
    · have t1 : ((tabL j fun j => tapF xs ps j ps.length).map fv).length = j := by rw [lMapN, tabL_length]
      have m1 : (tabL j fun j => tapF xs ps j ps.length).map fv ++ [.float .f32 (tapF xs ps j ps.length)] = (tabL (j + 1) fun j => tapF xs ps j ps.length).map fv := by rw [tabL_succ, fv_snoc']
      obtain ⟨f1, f2, f3, f4⟩ := push_at hE hc (Nat.le_refl _) (by omega) m1
      simp (disch := first | assumption | omega | rfl | (refine id ?_; simp only [gxD, ne_eq, reduceCtorEq, not_false_eq_true, Nat.reduceAdd, *]; done) | (refine id ?_; simp only [gxD]; omega)) only [↓gxPre, gxPost, ↓reduceIte, Nat.reduceEqDiff, reduceCtorEq, Nat.reduceAdd, Int.lt_irrefl, hc]
      exact ⟨by simp, by omega, f1, by rw [m1]⟩
    · intro k hk
      have hmod : (2 * j + k) % xs.length < xs.length := Nat.mod_lt _ (by omega)
      simp (disch := first | assumption | omega | rfl | (refine id ?_; simp only [gxD, ne_eq, reduceCtorEq, not_false_eq_true, Nat.reduceAdd, *]; done) | (refine id ?_; simp only [gxD]; omega)) only [↓gxPre, gxPost, ↓reduceIte, Nat.reduceEqDiff, reduceCtorEq, Nat.reduceAdd, ring_ix, hv0.ia, hv0.ld, hv1.ia, hv1.ld]
      simp [tapF_succ]
theorem s_SplitRing_law {H : Heap} {v0 v1 : Value} {xs0 xs1 : List Nat} (A : AF H v0 xs0) (B : AF H v1 xs1) : ACalls Try.prog n_s_SplitRing [v0, .agg #[v1]] H fun r H' => TwoR fv t_float32 H (splitOk xs0 xs1) (tapL xs0 xs1) (tapL xs0 (highL xs1)) r H' := by
  have o1 := A.rd.one
  have o2 := B.rd.one
  refine k_s_SplitRing.run rfl ?_
  unfold c_s_SplitRing
  simp (disch := first | assumption | omega | rfl | (refine id ?_; simp only [gxD, ne_eq, reduceCtorEq, not_false_eq_true, Nat.reduceAdd, *]; done) | (refine id ?_; simp only [gxD]; omega)) only [↓gxPre, gxPost, ↓reduceIte, Nat.reduceEqDiff, reduceCtorEq, Nat.reduceAdd]
  refine callR_new ?_
  intro G e hb nn
  refine callR_pure (s_l03Long_ok (A.rd.ext e) A.le) (.inl rfl) ?_
  cases h1 : isLongF xs0
  · simp (disch := first | assumption | omega | rfl | (refine id ?_; simp only [gxD, ne_eq, reduceCtorEq, not_false_eq_true, Nat.reduceAdd, *]; done) | (refine id ?_; simp only [gxD]; omega)) only [↓gxPre, gxPost, ↓reduceIte, Nat.reduceEqDiff, reduceCtorEq, Nat.reduceAdd]
    exact .no (by simp only [splitOk, h1, Bool.false_and]) e
  have hl := long_len h1
  by_cases h2 : xs0.length % 2 = 0
  rotate_left
  · have h2' : ¬ ((xs0.length % 2 : Nat) : Int) = 0 := by omega
    simp (disch := first | assumption | omega | rfl | (refine id ?_; simp only [gxD, ne_eq, reduceCtorEq, not_false_eq_true, Nat.reduceAdd, *]; done) | (refine id ?_; simp only [gxD]; omega)) only [↓gxPre, gxPost, ↓reduceIte, Nat.reduceEqDiff, reduceCtorEq, Nat.reduceAdd, A.rd.len, tmod2, h2', ne_eq, not_false_eq_true]
    exact .no (by simp only [splitOk, decide_eq_false h2, Bool.and_false, Bool.false_and]) e
  have h2' : ((xs0.length % 2 : Nat) : Int) = 0 := by omega
  simp (disch := first | assumption | omega | rfl | (refine id ?_; simp only [gxD, ne_eq, reduceCtorEq, not_false_eq_true, Nat.reduceAdd, *]; done) | (refine id ?_; simp only [gxD]; omega)) only [↓gxPre, gxPost, ↓reduceIte, Nat.reduceEqDiff, reduceCtorEq, Nat.reduceAdd, A.rd.len, tmod2, h2', ne_eq, not_true]
  refine callR_pure (s_l03Pair_ok hb (B.rd.ext e) B.le) (.inl rfl) ?_
  cases h3 : validPairF xs1
  · simp (disch := first | assumption | omega | rfl | (refine id ?_; simp only [gxD, ne_eq, reduceCtorEq, not_false_eq_true, Nat.reduceAdd, *]; done) | (refine id ?_; simp only [gxD]; omega)) only [↓gxPre, gxPost, ↓reduceIte, Nat.reduceEqDiff, reduceCtorEq, Nat.reduceAdd]
    exact .no (by simp only [splitOk, h3, Bool.and_false, Bool.false_and]) e
  have hp := vp_len h3
  simp (disch := first | assumption | omega | rfl | (refine id ?_; simp only [gxD, ne_eq, reduceCtorEq, not_false_eq_true, Nat.reduceAdd, *]; done) | (refine id ?_; simp only [gxD]; omega)) only [↓gxPre, gxPost, ↓reduceIte, Nat.reduceEqDiff, reduceCtorEq, Nat.reduceAdd, hb]
  refine callR_of (s_l03Taps_ok (A.rd.ext e) (B.rd.ext e) (by omega) (by omega) h2 (by omega)) ?_
  rintro _ G1 ⟨e1, rfl, n1, c1⟩
  have hb1 := (e1.blk H.n (by omega)).trans hb
  simp (disch := first | assumption | omega | rfl | (refine id ?_; simp only [gxD, ne_eq, reduceCtorEq, not_false_eq_true, Nat.reduceAdd, *]; done) | (refine id ?_; simp only [gxD]; omega)) only [↓gxPre, gxPost, ↓reduceIte, Nat.reduceEqDiff, reduceCtorEq, Nat.reduceAdd]
  refine callR_of (s_l03High_ok hb1 (by omega) ((B.rd.ext e).ext e1) B.le) ?_
  rintro _ G2 ⟨e2, rfl, n2, c2⟩
  have lh := highL_length xs1
  simp (disch := first | assumption | omega | rfl | (refine id ?_; simp only [gxD, ne_eq, reduceCtorEq, not_false_eq_true, Nat.reduceAdd, *]; done) | (refine id ?_; simp only [gxD]; omega)) only [↓gxPre, gxPost, ↓reduceIte, Nat.reduceEqDiff, reduceCtorEq, Nat.reduceAdd]
  refine callR_of (s_l03Taps_ok (((A.rd.ext e).ext e1).ext e2) (FS.own c2 (by omega) lh) (by omega) (by omega) h2 (by omega)) ?_
  rintro _ G3 ⟨e3, rfl, n3, c3⟩
  have c1' := (e3.blk G.n (by have := e2.n; omega)).trans ((e2.blk G.n (by omega)).trans c1)
  have l1 : (tapL xs0 xs1).length = xs0.length / 2 := tabL_length _ _
  have l2 : (tapL xs0 (highL xs1)).length = xs0.length / 2 := tabL_length _ _
  have hn2 := e2.n
  have hn3 := e3.n
  have eA : Ext H G3 := ((e.trans e1).trans e2).trans e3
  simp (disch := first | assumption | omega | rfl | (refine id ?_; simp only [gxD, ne_eq, reduceCtorEq, not_false_eq_true, Nat.reduceAdd, *]; done) | (refine id ?_; simp only [gxD]; omega)) only [↓gxPre, gxPost, ↓reduceIte, Nat.reduceEqDiff, reduceCtorEq, Nat.reduceAdd]
  refine callR_pure (s_l02Finite_ok (FS.own c1' (by omega) l1) (by omega)) (.inl rfl) ?_
  cases f1 : (tapL xs0 xs1).all finF
  · simp (disch := first | assumption | omega | rfl | (refine id ?_; simp only [gxD, ne_eq, reduceCtorEq, not_false_eq_true, Nat.reduceAdd, *]; done) | (refine id ?_; simp only [gxD]; omega)) only [↓gxPre, gxPost, ↓reduceIte, Nat.reduceEqDiff, reduceCtorEq, Nat.reduceAdd]
    exact .no (by simp only [splitOk, f1, Bool.and_false, Bool.false_and]) eA
  simp (disch := first | assumption | omega | rfl | (refine id ?_; simp only [gxD, ne_eq, reduceCtorEq, not_false_eq_true, Nat.reduceAdd, *]; done) | (refine id ?_; simp only [gxD]; omega)) only [↓gxPre, gxPost, ↓reduceIte, Nat.reduceEqDiff, reduceCtorEq, Nat.reduceAdd]
  refine callR_pure (s_l02Finite_ok (FS.own c3 (by omega) l2) (by omega)) (.inl rfl) ?_
  cases f2 : (tapL xs0 (highL xs1)).all finF
  · simp (disch := first | assumption | omega | rfl | (refine id ?_; simp only [gxD, ne_eq, reduceCtorEq, not_false_eq_true, Nat.reduceAdd, *]; done) | (refine id ?_; simp only [gxD]; omega)) only [↓gxPre, gxPost, ↓reduceIte, Nat.reduceEqDiff, reduceCtorEq, Nat.reduceAdd]
    exact .no (by simp only [splitOk, f2, Bool.and_false]) eA
  simp (disch := first | assumption | omega | rfl | (refine id ?_; simp only [gxD, ne_eq, reduceCtorEq, not_false_eq_true, Nat.reduceAdd, *]; done) | (refine id ?_; simp only [gxD]; omega)) only [↓gxPre, gxPost, ↓reduceIte, Nat.reduceEqDiff, reduceCtorEq, Nat.reduceAdd]
  exact .yes (by simp only [splitOk, f1, f2, h1, h3, decide_eq_true h2, Bool.and_true]) eA (OwN.two (.mk c1' (by simpa using l1) (by omega) (by omega) (by omega)) (.mk c3 (by simpa using l2) (by omega) (by omega) (by omega)) fun h h1 h2 => by simp only [hdl, Option.some.injEq] at h1 h2; omega) (by omega) (by omega)
end Go.Proofs.Ytkojmlpaamdhoac
