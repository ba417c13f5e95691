/- What the functions of the program do: contracts that are proved. -/
import Derived.Test.YtddekdgggpifmaaFnLiftsYLToYU
namespace Go.Proofs.Ytddekdgggpifmaa
open Go.Gx
set_option maxRecDepth 100000
set_option linter.unusedSimpArgs false
set_option linter.unusedVariables false

theorem wsQ_w (q : Bool) : W32 (wsQ q) := fun j => by
  match q, j with
  | true, 0 => decide
  | true, 1 => decide
  | true, 2 => decide
  | true, 3 => decide
  | true, j + 4 => simp [wsQ, nineW, List.getD_eq_getElem?_getD]
  | false, 0 => decide
  | false, 1 => decide
  | false, j + 2 => simp [wsQ, linesW, List.getD_eq_getElem?_getD]
theorem wsQ_len (q : Bool) : 2 ≤ (wsQ q).length ∧ (wsQ q).length ≤ 4 := by cases q <;> decide
theorem scQ_lt (q : Bool) : scQ q < 2 ^ 32 := by cases q <;> decide
/-- A flat list's part that is a band. -/
def cutK (xs sz : List Nat) (k : Nat) : List Nat := (xs.drop (sufS sz (k + 1))).take (sz.getD k 0)
def cutU (xs sz : List Nat) (t : Nat) : List (List Nat) := (List.range sz.length).map fun k => if sz.length - t ≤ k then cutK xs sz k else []
theorem cutU_len (xs sz : List Nat) (t : Nat) : (cutU xs sz t).length = sz.length := by simp [cutU]
theorem cutU_at {xs sz : List Nat} {t k : Nat} (h : k < sz.length) : (cutU xs sz t).getD k [] = if sz.length - t ≤ k then cutK xs sz k else [] := getD_range_map h
theorem cutU_zero (xs sz : List Nat) : cutU xs sz 0 = List.replicate sz.length [] := by
  refine list_ext_getD [] (by simp [cutU_len]) fun k hk => ?_
  rw [cutU_len] at hk
  rw [cutU_at hk, if_neg (by omega)]
  simp [List.getD_eq_getElem?_getD, hk]
theorem cutU_succ {xs sz : List Nat} {t : Nat} (h : t < sz.length) : cutU xs sz (t + 1) = (cutU xs sz t).set (sz.length - 1 - t) (cutK xs sz (sz.length - 1 - t)) := by
  refine list_ext_getD [] (by simp [cutU_len]) fun k hk => ?_
  rw [cutU_len] at hk
  rw [cutU_at hk]
  by_cases c : k = sz.length - 1 - t
  · rw [c, Go.Gx.getD_set_self (by rw [cutU_len]; omega), if_pos (by omega)]
  · rw [Go.Gx.getD_set_ne (fun e => c e.symm), cutU_at hk]
    by_cases c2 : sz.length - t ≤ k
    · rw [if_pos (by omega), if_pos c2]
    · rw [if_neg (by omega), if_neg c2]
theorem OwN.nils {lo hi : Nat} {H : Heap} {ty : TypeId} (n : Nat) : OwN lo hi H ty (List.replicate n (.slice none 0 0)) (List.replicate n []) := by
  have e : ∀ i, i < n → (List.replicate n (Value.slice none 0 0)).getD i undef = .slice none 0 0 := fun i hi => by simp [List.getD_eq_getElem?_getD, hi]
  refine ⟨by simp, fun i hi => ?_, fun i j h hi hj hh => ?_⟩
  · have hi' : i < n := by simpa using hi
    rw [e i hi']
    have : (List.replicate n ([] : List Value)).getD i [] = [] := by simp [List.getD_eq_getElem?_getD, hi']
    rw [this]
    exact .nil
  · have hi' : i < n := by simpa using hi
    rw [e i hi'] at hh
    cases hh
theorem i_EnergyOf_law {H : Heap} {v : Value} {xs : List Nat} (hv : FS H v xs) (hn : xs.length ≤ 2 ^ 40) (h1 : isLongF xs = true) : ACalls Try.prog n_i_EnergyOf [v] H fun r H' => r = numV (squaresF xs) ∧ Ext H H' := by
  have o := hv.one
  refine k_i_EnergyOf.run rfl ?_
  unfold c_i_EnergyOf
  simp (disch := first | assumption | omega | rfl | (refine id ?_; simp only [gxD, ne_eq, reduceCtorEq, not_false_eq_true, Nat.reduceAdd, *]; done) | (refine id ?_; simp only [gxD]; omega)) only [↓gxPre, gxPost, ↓reduceIte, Nat.reduceEqDiff, reduceCtorEq, Nat.reduceAdd]
  refine callR_ext (i_IsList_ok hv hn) ?_
  intro G n b
  have e : Ext H G := ⟨n, b⟩
  simp (disch := first | assumption | omega | rfl | (refine id ?_; simp only [gxD, ne_eq, reduceCtorEq, not_false_eq_true, Nat.reduceAdd, *]; done) | (refine id ?_; simp only [gxD]; omega)) only [↓gxPre, gxPost, ↓reduceIte, Nat.reduceEqDiff, reduceCtorEq, Nat.reduceAdd, h1]
  refine callR_pure (i_squares_ok (hv.ext e) hn) (.inl rfl) ?_
  simp (disch := first | assumption | omega | rfl | (refine id ?_; simp only [gxD, ne_eq, reduceCtorEq, not_false_eq_true, Nat.reduceAdd, *]; done) | (refine id ?_; simp only [gxD]; omega)) only [↓gxPre, gxPost, ↓reduceIte, Nat.reduceEqDiff, reduceCtorEq, Nat.reduceAdd]
  refine callR_pure (v := numV (squaresF xs)) i_finite_ok (.inl rfl) ?_
  unfold numV
  simp (disch := first | assumption | omega | rfl | (refine id ?_; simp only [gxD, ne_eq, reduceCtorEq, not_false_eq_true, Nat.reduceAdd, *]; done) | (refine id ?_; simp only [gxD]; omega)) only [↓gxPre, gxPost, ↓reduceIte, Nat.reduceEqDiff, reduceCtorEq, Nat.reduceAdd]
  exact e
theorem s_l08DrawScheme_ok {H : Heap} {p : Nat} {ty : TypeId} {v : Value} {bs : List Nat} (hb : H.blk p = some ⟨true, ty, [v, .int .i64 0, .int .u64 0]⟩) (hp : p < H.n) {H0 : Heap} (e0 : Ext H0 H) (hp0 : H0.n ≤ p) (hv : YB H0 v bs) :
    ACalls Try.prog n_s_l08DrawScheme [.pointer (some ⟨p, 0, some 3⟩)] H fun r H' => Ext H0 H' ∧ H.n ≤ H'.n ∧ ∃ (q : Bool) (o : Nat), H.n ≤ o ∧ o < H'.n ∧ r = .agg #[.slice (some ⟨o, 0, none⟩) (wsQ q).length (wsQ q).length, .float .f32 (scQ q)] ∧ H'.blk o = some ⟨true, t_float32, (wsQ q).map fv⟩ ∧ ∀ i, i < H.n → i ≠ p → H'.blk i = H.blk i := by
  refine k_s_l08DrawScheme.run rfl ?_
  unfold c_s_l08DrawScheme
  have hn0 := e0.n
  simp (disch := first | assumption | omega | rfl | (refine id ?_; simp only [gxD, ne_eq, reduceCtorEq, not_false_eq_true, Nat.reduceAdd, *]; done) | (refine id ?_; simp only [gxD]; omega)) only [↓gxPre, gxPost, ↓reduceIte, Nat.reduceEqDiff, reduceCtorEq, Nat.reduceAdd]
  have e1 : Ext H0 (H.new ⟨true, t_Scheme, [.slice none 0 0, .float .f32 0]⟩) := e0.trans (.new _ _)
  refine callR_of (s_l00Src_one_ok (H := H.new ⟨true, t_Scheme, [.slice none 0 0, .float .f32 0]⟩) (p := p) (ty := ty) (v := v) (bs := bs) (at0 := 0) (seed := 0) (n := 2) (by rw [new_old _ _ _ hp, hb]) (by simp only [new_n]; omega) (hv.ext e1) (by omega) (by omega) (by omega) (by omega) (by omega) (by omega) (fun b => hv.ext (e1.put hp0 _))) ?_
  rintro _ _ ⟨x, at1, sd, rfl, a0, a1, sd0, sd1, rfl⟩
  obtain ⟨K, hK⟩ : ∃ K, K = (H.new ⟨true, t_Scheme, [.slice none 0 0, .float .f32 0]⟩).put p ⟨true, ty, [v, .int .i64 at1, .int .u64 sd]⟩ := ⟨_, rfl⟩
  have eK : Ext H0 K := by rw [hK]; exact e1.put hp0 _
  have nK : K.n = H.n + 1 := by rw [hK]; rfl
  have bK : K.blk H.n = some ⟨true, t_Scheme, [.slice none 0 0, .float .f32 0]⟩ := by rw [hK, hput_other _ _ _ _ (by omega), new_self]
  have oK : ∀ i, i < H.n → i ≠ p → K.blk i = H.blk i := fun i hi hne => by rw [hK, hput_other _ _ _ _ hne, new_old _ _ _ hi]
  rw [← hK]
  clear hK
  cases x
  · simp (disch := first | assumption | omega | rfl | (refine id ?_; simp only [gxD, ne_eq, reduceCtorEq, not_false_eq_true, Nat.reduceAdd, *]; done) | (refine id ?_; simp only [gxD]; omega)) only [↓gxPre, gxPost, ↓reduceIte, Nat.reduceEqDiff, reduceCtorEq, Nat.reduceAdd]
    refine callR_of s_LinesScheme_ok ?_
    rintro _ J ⟨eJ, h, h1, h2, rfl, hh⟩
    have hbJ := (eJ.blk H.n (by omega)).trans bK
    simp (disch := first | assumption | omega | rfl | (refine id ?_; simp only [gxD, ne_eq, reduceCtorEq, not_false_eq_true, Nat.reduceAdd, *]; done) | (refine id ?_; simp only [gxD]; omega)) only [↓gxPre, gxPost, ↓reduceIte, Nat.reduceEqDiff, reduceCtorEq, Nat.reduceAdd, hbJ]
    refine ⟨(eK.trans eJ).put (by omega) _, by have := eJ.n; omega, false, h, by omega, by omega, rfl, by rw [hput_other _ _ _ _ (by omega)]; exact hh, fun i hi hne => by rw [hput_other _ _ _ _ (by omega), eJ.blk i (by omega), oK i hi hne]⟩
  · simp (disch := first | assumption | omega | rfl | (refine id ?_; simp only [gxD, ne_eq, reduceCtorEq, not_false_eq_true, Nat.reduceAdd, *]; done) | (refine id ?_; simp only [gxD]; omega)) only [↓gxPre, gxPost, ↓reduceIte, Nat.reduceEqDiff, reduceCtorEq, Nat.reduceAdd]
    refine callR_of s_NineScheme_ok ?_
    rintro _ J ⟨eJ, h, h1, h2, rfl, hh⟩
    have hbJ := (eJ.blk H.n (by omega)).trans bK
    simp (disch := first | assumption | omega | rfl | (refine id ?_; simp only [gxD, ne_eq, reduceCtorEq, not_false_eq_true, Nat.reduceAdd, *]; done) | (refine id ?_; simp only [gxD]; omega)) only [↓gxPre, gxPost, ↓reduceIte, Nat.reduceEqDiff, reduceCtorEq, Nat.reduceAdd, hbJ]
    refine ⟨(eK.trans eJ).put (by omega) _, by have := eJ.n; omega, true, h, by omega, by omega, rfl, by rw [hput_other _ _ _ _ (by omega)]; exact hh, fun i hi hne => by rw [hput_other _ _ _ _ (by omega), eJ.blk i (by omega), oK i hi hne]⟩
theorem s_R8Scheme_ok {H : Heap} {v : Value} {bs : List Nat} (hv : YB H v bs) : ACalls Try.prog n_s_R8Scheme [v] H fun r H' => Ext H H' ∧ ∃ (q : Bool) (o : Nat), H.n ≤ o ∧ o < H'.n ∧ r = .agg #[.slice (some ⟨o, 0, none⟩) (wsQ q).length (wsQ q).length, .float .f32 (scQ q)] ∧ H'.blk o = some ⟨true, t_float32, (wsQ q).map fv⟩ := by
  have o := Sl.one hv.rd
  refine k_s_R8Scheme.run rfl ?_
  unfold c_s_R8Scheme
  simp (disch := first | assumption | omega | rfl | (refine id ?_; simp only [gxD, ne_eq, reduceCtorEq, not_false_eq_true, Nat.reduceAdd, *]; done) | (refine id ?_; simp only [gxD]; omega)) only [↓gxPre, gxPost, ↓reduceIte, Nat.reduceEqDiff, reduceCtorEq, Nat.reduceAdd]
  refine callR_new ?_
  intro G e hb nn
  refine callR_of (s_l00From_ok (hv.ext e)) ?_
  rintro _ _ ⟨ty, rfl, rfl⟩
  simp (disch := first | assumption | omega | rfl | (refine id ?_; simp only [gxD, ne_eq, reduceCtorEq, not_false_eq_true, Nat.reduceAdd, *]; done) | (refine id ?_; simp only [gxD]; omega)) only [↓gxPre, gxPost, ↓reduceIte, Nat.reduceEqDiff, reduceCtorEq, Nat.reduceAdd]
  refine callR_of (s_l08DrawScheme_ok (H := G.new ⟨true, ty, [v, .int .i64 0, .int .u64 0]⟩) (p := G.n) (new_self _ _) (by simp only [new_n]; omega) (H0 := H) (e.trans (.new _ _)) (by omega) hv) ?_
  rintro _ K ⟨eK, nK, q, o', g1, g2, rfl, g3, g4⟩
  simp only [new_n] at nK g1
  have hbK : K.blk H.n = some ⟨true, t_Scheme, [.slice none 0 0, .float .f32 0]⟩ := by rw [g4 H.n (by simp only [new_n]; omega) (by omega), new_old _ _ _ (by omega)]; exact hb
  simp (disch := first | assumption | omega | rfl | (refine id ?_; simp only [gxD, ne_eq, reduceCtorEq, not_false_eq_true, Nat.reduceAdd, *]; done) | (refine id ?_; simp only [gxD]; omega)) only [↓gxPre, gxPost, ↓reduceIte, Nat.reduceEqDiff, reduceCtorEq, Nat.reduceAdd, hbK]
  refine ⟨eK.put (Nat.le_refl _) _, q, o', by omega, by omega, rfl, by rw [hput_other _ _ _ _ (by omega)]; exact g3⟩
theorem i_CutFlat_law {H : Heap} {v : Value} {xs : List Nat} {L : Nat} (hv : FS H v xs) (hx : isLongF xs = true) (l1 : 1 ≤ L) (l2 : L ≤ 6) (hs : sufS (bzL xs.length L) 0 = xs.length) :
    ACalls Try.prog n_i_CutFlat [v, .int .i64 L] H fun r H' => Ext H H' ∧ ∃ u, r = .tuple #[u, .bool true] ∧ OwS H.n H'.n H' t_sfloat32 t_float32 u ((cutU xs (bzL xs.length L) (bzL xs.length L).length).map (List.map fv)) := by
  have o := hv.one
  have hlen := isLong_len hx
  refine k_i_CutFlat.run rfl ?_
  unfold c_i_CutFlat
  simp (disch := first | assumption | omega | rfl | (refine id ?_; simp only [gxD, ne_eq, reduceCtorEq, not_false_eq_true, Nat.reduceAdd, *]; done) | (refine id ?_; simp only [gxD]; omega)) only [↓gxPre, gxPost, ↓reduceIte, Nat.reduceEqDiff, reduceCtorEq, Nat.reduceAdd, hv.len]
  refine callR_of (i_BandSizes_law (H := H)) ?_
  rintro _ G ⟨e, sz, rfl, p, _⟩
  have w1 : within (xs.length : Int) 1 128 = true := within_true.2 (by omega)
  have w2 : within (L : Int) 1 6 = true := within_true.2 (by omega)
  simp only [w1, w2, Bool.and_self, selL_t, Int.toNat_natCast] at p ⊢
  have osz := p.one
  obtain ⟨zs, hzs⟩ : ∃ zs, zs = bzL xs.length L := ⟨_, rfl⟩
  have hzl : zs.length = bzS xs.length L + 1 := by rw [hzs, bzL]; simp [bzO_length]
  have hbz : bzS xs.length L ≤ L := stopN_le _ _
  have hzk : ∀ k, zs.getD k 0 ≤ 128 := fun k => by rw [hzs]; exact bzL_le hlen.2 hlen.1 k
  rw [← hzs] at hs p ⊢
  simp (disch := first | assumption | omega | rfl | (refine id ?_; simp only [gxD, ne_eq, reduceCtorEq, not_false_eq_true, Nat.reduceAdd, *]; done) | (refine id ?_; simp only [gxD]; omega)) only [↓gxPre, gxPost, ↓reduceIte, Nat.reduceEqDiff, reduceCtorEq, Nat.reduceAdd]
  refine callR_ext (i_IsList_ok (hv.ext e) (by omega)) ?_
  intro G2 n2 b2
  have e2 : Ext G G2 := ⟨n2, b2⟩
  have hsz := p.is.ext e2
  have lsz := hsz.len
  rw [castL_length] at lsz
  have hmk : eMks t_sfloat32 24 (.slice none 0 0) (.int .i64 (zs.length : Int)) (.int .i64 (zs.length : Int)) G2 = some (.slice (some ⟨G2.n, 0, none⟩) zs.length zs.length, G2.new ⟨true, t_sfloat32, List.replicate zs.length (.slice none 0 0)⟩) := eMks_i (by omega)
  have eH2 := e.trans e2
  have eHn := eH2.n
  simp (disch := first | assumption | omega | rfl | (refine id ?_; simp only [gxD, ne_eq, reduceCtorEq, not_false_eq_true, Nat.reduceAdd, *]; done) | (refine id ?_; simp only [gxD]; omega)) only [↓gxPre, gxPost, ↓reduceIte, Nat.reduceEqDiff, reduceCtorEq, Nat.reduceAdd, hx, lsz, hmk]
  refine loop_forH zs.length (fun t => [v, sz, .slice (some ⟨G2.n, 0, none⟩) zs.length zs.length, .int .i64 ((sufS zs (zs.length - t) : Nat) : Int), .int .i64 ((zs.length : Int) - 1 - t)])
    (fun t Q => G2.n + 1 ≤ Q.n ∧ Ext G2 Q ∧ ∃ us, Q.blk G2.n = some ⟨true, t_sfloat32, us⟩ ∧ OwN H.n Q.n Q t_float32 us ((cutU xs zs t).map (List.map fv))) ?_
    ⟨by simp only [new_n]; omega, ⟨by first | omega | (simp only [new_n, put_n]; omega) | (simp only [new_n, put_n] at *; omega), fun i hi => by simp (disch := first | assumption | omega | rfl | (refine id ?_; simp only [gxD, ne_eq, reduceCtorEq, not_false_eq_true, Nat.reduceAdd, *]; done) | (refine id ?_; simp only [gxD]; omega)) only [↓gxPre, gxPost, ↓reduceIte, Nat.reduceEqDiff, reduceCtorEq, Nat.reduceAdd, *]⟩, _, new_self _ _, by rw [cutU_zero, List.map_replicate]; exact OwN.nils _⟩ ?_ ?_
  · rw [Nat.sub_zero, sufS_all (Nat.le_refl _)]
    simp
  · rintro Q ⟨q1, q2, us, q3, q4⟩
    have hul : us.length = zs.length := by have := q4.1; simpa [cutU_len] using this
    simp (disch := first | assumption | omega | rfl | (refine id ?_; simp only [gxD, ne_eq, reduceCtorEq, not_false_eq_true, Nat.reduceAdd, *]; done) | (refine id ?_; simp only [gxD]; omega)) only [↓gxPre, gxPost, ↓reduceIte, Nat.reduceEqDiff, reduceCtorEq, Nat.reduceAdd]
    exact ⟨eH2.trans q2, _, rfl, us, .mk q3 hul (by omega) (by omega) (by omega), q4⟩
  · rintro t Q ht ⟨q1, q2, us, q3, q4⟩
    obtain ⟨i, hi⟩ : ∃ i, i = zs.length - 1 - t := ⟨_, rfl⟩
    have hil : i < zs.length := by omega
    have ei : ((zs.length : Int) - 1 - t) = (i : Int) := by omega
    have et : zs.length - t = i + 1 := by omega
    have et1 : zs.length - (t + 1) = i := by omega
    have hsf := sufS_succ hil
    have hmon : sufS zs i ≤ sufS zs 0 := by
      have : ∀ k, k ≤ zs.length → sufS zs k ≤ sufS zs 0 := fun k => by
        induction k with
        | zero => intro _; exact Nat.le_refl _
        | succ k ih =>
          intro hk
          have h1 := ih (by omega)
          have h2 := sufS_succ (show k < zs.length by omega)
          omega
      exact this i (by omega)
    have hszQ := hsz.ext q2
    have hcl := castL_length zs
    have hgd := castL_getD zs i
    have hvQ := (hv.ext eH2).ext q2
    obtain ⟨v', hs1, hs2⟩ := hvQ.slc .i64 .i64 ((sufS zs (i + 1) : Nat) : Int) ((sufS zs i : Nat) : Int) (by omega) (by omega) (by simp; omega) (by simp; omega)
    have hdr : ((xs.map fv).drop ((sufS zs (i + 1) : Nat) : Int).toNat).take (((sufS zs i : Nat) : Int).toNat - ((sufS zs (i + 1) : Nat) : Int).toNat) = (cutK xs zs i).map fv := by
      unfold cutK
      rw [List.map_take, List.map_drop]
      congr 1
      omega
    rw [hdr] at hs2
    have hsum : ((sufS zs (i + 1) : Nat) : Int) + ((zs.getD i 0 : Nat) : Int) = ((sufS zs i : Nat) : Int) := by omega
    have hul : us.length = zs.length := by have := q4.1; simpa [cutU_len] using this
    have hkl : (cutK xs zs i).length ≤ 128 := by
      unfold cutK
      rw [List.length_take]
      have := hzk i
      omega
    have hz2 := hzk i
    rw [et, et1, ei]
    simp (disch := first | assumption | omega | rfl | (refine id ?_; simp only [gxD, ne_eq, reduceCtorEq, not_false_eq_true, Nat.reduceAdd, *]; done) | (refine id ?_; simp only [gxD]; omega)) only [↓gxPre, gxPost, ↓reduceIte, Nat.reduceEqDiff, reduceCtorEq, Nat.reduceAdd, hszQ.ia, hszQ.ld, castL_length, hgd, hsum, hs1]
    refine callR_of (i_copyOf_ok hs2 (by omega)) ?_
    rintro _ _ ⟨rfl, rfl⟩
    have eN : Ext Q (Q.new ⟨true, t_float32, (cutK xs zs i).map fv⟩) := .new _ _
    have hq3 := (eN.blk G2.n (by omega)).trans q3
    have hszN := hsz.ext ((q2.trans eN).put (Nat.le_refl _) ⟨true, t_sfloat32, us.set i (.slice (some ⟨Q.n, 0, none⟩) (cutK xs zs i).length (cutK xs zs i).length)⟩)
    have pz : OwL H.n (Q.n + 1) (Q.new ⟨true, t_float32, (cutK xs zs i).map fv⟩) t_float32 (.slice (some ⟨Q.n, 0, none⟩) (cutK xs zs i).length (cutK xs zs i).length) ((cutK xs zs i).map fv) := .mk (new_self _ _) (by simp) (by omega) (by omega) (by first | omega | (simp only [new_n, put_n]; omega))
    have r1 := OwN_at ((q4.ext eN).wide (Nat.le_refl _) (Nat.le_succ _)) (i := i) (by rw [List.length_map, cutU_len]; exact hil) pz fun j x hj hx hz => by
      have := (q4.lt hj hx).2.1
      simp only [hdl, Option.some.injEq] at hz
      omega
    have r2 := OwN_put (b := ⟨true, t_sfloat32, us.set i (.slice (some ⟨Q.n, 0, none⟩) (cutK xs zs i).length (cutK xs zs i).length)⟩) r1 hq3 (by decide)
    have hcs : ((cutU xs zs t).map (List.map fv)).set i ((cutK xs zs i).map fv) = (cutU xs zs (t + 1)).map (List.map fv) := by rw [cutU_succ ht, ← hi, List.map_set]
    rw [hcs] at r2
    simp (disch := first | assumption | omega | rfl | (refine id ?_; simp only [gxD, ne_eq, reduceCtorEq, not_false_eq_true, Nat.reduceAdd, *]; done) | (refine id ?_; simp only [gxD]; omega)) only [↓gxPre, gxPost, ↓reduceIte, Nat.reduceEqDiff, reduceCtorEq, Nat.reduceAdd, q3, hszN.ia, hszN.ld, castL_length, hgd, hsum]
    refine ⟨?_, by omega, (q2.trans eN).put (Nat.le_refl _) _, _, rfl, r2⟩
    congr 4
    have : ((i : Int) - 1) = (zs.length : Int) - 1 - ((t + 1 : Nat) : Int) := by omega
    rw [this]
end Go.Proofs.Ytddekdgggpifmaa

namespace Go.Proofs.Ytddekdgggpifmaa
open Go.Gx
set_option maxRecDepth 100000
set_option linter.unusedSimpArgs false
set_option linter.unusedVariables false

theorem nine_scheme : schemeF nineW Go.Gx.kW = true := by decide +kernel
theorem scheme_ok (q : Bool) : schemeF (wsQ q) (scQ q) = true := by
  cases q
  · exact lines_scheme
  · exact nine_scheme
def bN (M : Rat) : Nat → Rat
  | 0 => M
  | t + 1 => 2 * bN M t
theorem bN_bd {M : Rat} (h0 : 1 / 16 ≤ M) (h : M ≤ 8) : ∀ t, t ≤ 4 → 1 / 16 ≤ bN M t ∧ bN M t ≤ 128 ∧ bN M t ≤ 16 * M
  | 0, _ => by simp only [bN]; refine ⟨?_, ?_, ?_⟩ <;> grind_linarith
  | 1, _ => by simp only [bN]; refine ⟨?_, ?_, ?_⟩ <;> grind_linarith
  | 2, _ => by simp only [bN]; refine ⟨?_, ?_, ?_⟩ <;> grind_linarith
  | 3, _ => by simp only [bN]; refine ⟨?_, ?_, ?_⟩ <;> grind_linarith
  | 4, _ => by simp only [bN]; refine ⟨?_, ?_, ?_⟩ <;> grind_linarith
theorem mulK_bd {x M : Rat} (h0 : 0 ≤ M) (h : Bd x (171 / 100 * M)) : Bd (x * (9643581 / 8388608)) (198 / 100 * M) := ⟨by have := h.1; grind_linarith, by have := h.2; grind_linarith⟩
theorem quoK_bd {x M : Rat} (h0 : 0 ≤ M) (h : Bd x (213 / 100 * M)) : Bd (x * (8388608 / 9643581)) (186 / 100 * M) := ⟨by have := h.1; grind_linarith, by have := h.2; grind_linarith⟩
/-- Nine numbers lift to bounded lists. -/
theorem nine_bd {xs : List Nat} {M : Rat} (hM : 1 / 16 ≤ M) (hM2 : M ≤ 1000000) (hx : BL M xs) (h2 : 2 ≤ xs.length) : BL (2 * M) (liftF nineW Go.Gx.kW xs).1 ∧ BL (2 * M) (liftF nineW Go.Gx.kW xs).2 := by
  obtain ⟨E0, O0, _, _, bE, bO, nlo, nhi⟩ := nine_lift hM hM2 hx h2
  have h0 : 1 ≤ xs.length / 2 := by omega
  have h1 : xs.length / 2 ≤ (xs.length + 1) / 2 := by omega
  have h3 : (xs.length + 1) / 2 ≤ xs.length / 2 + 1 := by omega
  refine ⟨fun j hj => ?_, fun t ht => ?_⟩
  · have hj' : j < (xs.length + 1) / 2 := by rw [nlo.1] at hj; exact hj
    obtain ⟨a1, a2, a3⟩ := nlo.2 j hj'
    obtain ⟨b1, b2⟩ := mulK_bd (by grind_linarith) (nine_E2 h0 h1 h3 bE bO hj')
    refine ⟨a1, ?_⟩
    unfold vF
    exact ⟨by grind_linarith, by grind_linarith⟩
  · have ht' : t < xs.length / 2 := by rw [nhi.1] at ht; exact ht
    obtain ⟨a1, a2, a3⟩ := nhi.2 t ht'
    obtain ⟨b1, b2⟩ := quoK_bd (by grind_linarith) (nine_O2 h0 h1 h3 bE bO ht')
    refine ⟨a1, ?_⟩
    unfold vF
    exact ⟨by grind_linarith, by grind_linarith⟩
section
variable {xs : List Nat} {L : Nat} {M : Rat}
theorem QdL.bl (h : QdL xs) (hb : ∀ i, i < xs.length → Bd (vF xs i) M) : BL M xs := fun i hi => ⟨(h i hi).ok.1, hb i hi⟩
theorem nine_now (h0 : 1 / 16 ≤ M) (h8 : M ≤ 8) (hx : BL M xs) (hn : xs.length ≤ 12) (hL : L ≤ 6) : ∀ t, t ≤ bzS xs.length L → BL (bN M t) (nowD nineW Go.Gx.kW xs t)
  | 0, _ => hx
  | t + 1, ht => by
    have ih := nine_now h0 h8 hx hn hL t (by omega)
    have h4 := bz_four ⟨xs.length, by omega⟩ ⟨L, by omega⟩
    simp only at h4
    have hb := bN_bd h0 h8 t (by omega)
    have h2 := bz_more (show t < bzS xs.length L by omega)
    rw [nowD_succ]
    exact (nine_bd hb.1 (by grind_linarith) ih (by rw [nowD_bz]; exact h2)).1
theorem nine_hi (h0 : 1 / 16 ≤ M) (h8 : M ≤ 8) (hx : BL M xs) (hn : xs.length ≤ 12) (hL : L ≤ 6) {t : Nat} (ht : t < bzS xs.length L) : BL (bN M (t + 1)) (liftF nineW Go.Gx.kW (nowD nineW Go.Gx.kW xs t)).2 := by
  have ih := nine_now h0 h8 hx hn hL t (by omega)
  have h4 := bz_four ⟨xs.length, by omega⟩ ⟨L, by omega⟩
  simp only at h4
  have hb := bN_bd h0 h8 t (by omega)
  have h2 := bz_more ht
  exact (nine_bd hb.1 (by grind_linarith) ih (by rw [nowD_bz]; exact h2)).2
/-- Levels of nine numbers are undone, nearly. -/
theorem nine_back (h0 : 1 / 16 ≤ M) (h8 : M ≤ 8) (hx : BL M xs) (h1 : 1 ≤ xs.length) (hn : xs.length ≤ 12) (hL : L ≤ 6) : ∀ t, t ≤ bzS xs.length L →
    (dropD nineW Go.Gx.kW (levelsD nineW Go.Gx.kW xs L) t).length = bzN xs.length (bzS xs.length L - t) ∧ ∀ j, j < bzN xs.length (bzS xs.length L - t) → FinW .f32 ((dropD nineW Go.Gx.kW (levelsD nineW Go.Gx.kW xs L) t).getD j 0) ∧ Bd (vF (dropD nineW Go.Gx.kW (levelsD nineW Go.Gx.kW xs L) t) j - vF (nowD nineW Go.Gx.kW xs (bzS xs.length L - t)) j) (40 / 1000000 * (bN M (bzS xs.length L) - bN M (bzS xs.length L - t)))
  | 0, _ => by
    rw [dropD_zero, levelsD_bz, Nat.add_sub_cancel, levelsD_top, Nat.sub_zero, nowD_bz]
    have a := nine_now h0 h8 hx hn hL (bzS xs.length L) (Nat.le_refl _)
    exact ⟨rfl, fun j hj => ⟨(a j (by rw [nowD_bz]; exact hj)).1, by constructor <;> grind_linarith⟩⟩
  | t + 1, ht => by
    obtain ⟨ih1, ih2⟩ := nine_back h0 h8 hx h1 hn hL t (by omega)
    obtain ⟨k, hk⟩ : ∃ k, k = bzS xs.length L - (t + 1) := ⟨_, rfl⟩
    have e1 : bzS xs.length L - t = k + 1 := by omega
    have e2 : (levelsD nineW Go.Gx.kW xs L).length - 2 - t = k := by rw [levelsD_bz]; omega
    have h4 := bz_four ⟨xs.length, by omega⟩ ⟨L, by omega⟩
    simp only at h4
    have h2 := bz_more (show k < bzS xs.length L by omega)
    have a := nine_now h0 h8 hx hn hL k (by omega)
    have hb := nowD_bz nineW Go.Gx.kW xs k
    have c1 := bN_bd h0 h8 k (by omega)
    have c2 := bN_bd h0 h8 (bzS xs.length L) h4
    have ck : bN M (k + 1) = 2 * bN M k := rfl
    have c3 : bN M (k + 1) ≤ bN M (bzS xs.length L) := by
      have : ∀ d, bN M (k + 1) ≤ bN M (k + 1 + d) := fun d => by
        induction d with
        | zero => exact Rat.le_refl
        | succ d ih =>
          have e : bN M (k + 1 + (d + 1)) = 2 * bN M (k + 1 + d) := rfl
          rw [e]; grind_linarith
      have h := this (bzS xs.length L - (k + 1))
      rwa [show k + 1 + (bzS xs.length L - (k + 1)) = bzS xs.length L by omega] at h
    have c4 : bN M (bzS xs.length L) ≤ 16 * bN M k := by
      have hm : M ≤ bN M k := by
        have : ∀ d, M ≤ bN M d := fun d => by
          induction d with
          | zero => exact Rat.le_refl
          | succ d ih =>
            have e : bN M (d + 1) = 2 * bN M d := rfl
            rw [e]; grind_linarith
        exact this k
      grind_linarith
    rw [e1] at ih1 ih2
    rw [dropD_succ, e2, levelsD_lo (by omega), ← hk]
    have hs : bzN xs.length (k + 1) = (bzN xs.length k + 1) / 2 := by rw [bzN_succ]; omega
    obtain ⟨d1, d2⟩ := nine_drop (M := bN M k) (η := 40 / 1000000 * (bN M (bzS xs.length L) - bN M (k + 1))) c1.1 (by grind_linarith) a (by rw [hb]; exact h2) (lo := dropD nineW Go.Gx.kW (levelsD nineW Go.Gx.kW xs L) t) (by rw [ih1, hb, hs]) (by grind_linarith) (by grind_linarith) fun j hj => by
      have := ih2 j (by omega)
      rw [nowD_succ] at this
      exact this
    rw [hb] at d1 d2
    refine ⟨d1, fun j hj => ⟨(d2 j hj).1, bdm (d2 j hj).2 ?_⟩⟩
    grind_linarith
/-- The bands of a list, by either scheme: bounded. -/
theorem gl_bd2 {s N : Nat} {ys : List Nat} {B : Rat} (h : GL s N ys) (hB : (N : Rat) * p2 (-(s : Int)) ≤ B) : BL B ys := fun j hj => ⟨(h j hj).1, by
  obtain ⟨z, h1, h2⟩ := (h j hj).2
  have hp := p2_pos (-(s : Int))
  have z1 : (z : Rat) ≤ (N : Rat) := by
    have := Rat.intCast_le_intCast.2 (show z ≤ (N : Int) by omega)
    rwa [Rat.intCast_natCast] at this
  have z2 : -(N : Rat) ≤ (z : Rat) := by
    have := Rat.intCast_le_intCast.2 (show -(N : Int) ≤ z by omega)
    rwa [Rat.intCast_neg, Rat.intCast_natCast] at this
  have a1 := Rat.mul_le_mul_of_nonneg_right z1 (Rat.le_of_lt hp)
  have a2 := Rat.mul_le_mul_of_nonneg_right z2 (Rat.le_of_lt hp)
  rw [h1]
  exact ⟨by grind_linarith, by grind_linarith⟩⟩
theorem grid_now : ∀ t : Fin 5, (((32 * 16 ^ t.val : Nat) : Rat)) * p2 (-((2 + 3 * t.val : Nat) : Int)) ≤ 256 := by unfold p2; decide +kernel
theorem grid_hi : ∀ t : Fin 5, (((4 * (32 * 16 ^ t.val) : Nat) : Rat)) * p2 (-((2 + 3 * t.val + 1 : Nat) : Int)) ≤ 256 := by unfold p2; decide +kernel
theorem both_now (q : Bool) (h : QdL xs) (h0 : 1 / 16 ≤ M) (h8 : M ≤ 8) (hb : ∀ i, i < xs.length → Bd (vF xs i) M) (hn : xs.length ≤ 12) (hL : L ≤ 6) {t : Nat} (ht : t ≤ bzS xs.length L) : BL 256 (nowD (wsQ q) (scQ q) xs t) := by
  have h4 := bz_four ⟨xs.length, by omega⟩ ⟨L, by omega⟩
  simp only at h4
  cases q
  · exact gl_bd2 (lines_now h hn hL t ht) (grid_now ⟨t, by omega⟩)
  · have := bN_bd h0 h8 t (by omega)
    exact (nine_now h0 h8 (h.bl hb) hn hL t ht).mono (C := 256) (by grind_linarith)
theorem both_hi (q : Bool) (h : QdL xs) (h0 : 1 / 16 ≤ M) (h8 : M ≤ 8) (hb : ∀ i, i < xs.length → Bd (vF xs i) M) (hn : xs.length ≤ 12) (hL : L ≤ 6) {t : Nat} (ht : t < bzS xs.length L) : BL 256 (liftF (wsQ q) (scQ q) (nowD (wsQ q) (scQ q) xs t)).2 := by
  have h4 := bz_four ⟨xs.length, by omega⟩ ⟨L, by omega⟩
  simp only at h4
  cases q
  · exact gl_bd2 (lines_hi h hn hL ht) (grid_hi ⟨t, by omega⟩)
  · have := bN_bd h0 h8 (t + 1) (by omega)
    exact (nine_hi h0 h8 (h.bl hb) hn hL ht).mono (C := 256) (by grind_linarith)
theorem both_row (q : Bool) (h : QdL xs) (h0 : 1 / 16 ≤ M) (h8 : M ≤ 8) (hb : ∀ i, i < xs.length → Bd (vF xs i) M) (hn : xs.length ≤ 12) (hL : L ≤ 6) {k : Nat} (hk : k ≤ bzS xs.length L) : BL 256 ((levelsD (wsQ q) (scQ q) xs L).getD k []) := by
  by_cases c : k < bzS xs.length L
  · rw [levelsD_lo c]; exact both_hi q h h0 h8 hb hn hL c
  · have : k = bzS xs.length L := by omega
    rw [this, levelsD_top]; exact both_now q h h0 h8 hb hn hL (Nat.le_refl _)
theorem both_deep (q : Bool) (h : QdL xs) (h0 : 1 / 16 ≤ M) (h8 : M ≤ 8) (hb : ∀ i, i < xs.length → Bd (vF xs i) M) (h1 : 1 ≤ xs.length) (hn : xs.length ≤ 12) (l1 : 1 ≤ L) (hL : L ≤ 6) : deepOk (wsQ q) (scQ q) xs (L : Int) = true :=
  deepOk_yes (scheme_ok q) (h.long h1 hn) (within_true.2 (by omega)) fun k hk => by
    rw [Int.toNat_natCast, stopD_bz] at hk
    have a := both_now q h h0 h8 hb hn hL (t := k + 1) (by omega)
    rw [nowD_succ] at a
    have b := both_hi q h h0 h8 hb hn hL hk
    unfold liftOkF
    rw [a.all, b.all]
    simp
theorem both_bands (q : Bool) (h : QdL xs) (h0 : 1 / 16 ≤ M) (h8 : M ≤ 8) (hb : ∀ i, i < xs.length → Bd (vF xs i) M) (h1 : 1 ≤ xs.length) (hn : xs.length ≤ 12) (l1 : 1 ≤ L) (hL : L ≤ 6) : bandsF (levelsD (wsQ q) (scQ q) xs L) = true := by
  unfold bandsF
  rw [levelsD_sizes, bz_ok ⟨xs.length, by omega⟩ ⟨L, by omega⟩ h1 l1, Bool.true_and]
  refine (allD []).2 fun k hk => ?_
  rw [levelsD_bz] at hk
  exact (both_row q h h0 h8 hb hn hL (by omega)).all
/-- Levels are undone, nearly, by either scheme. -/
theorem both_back (q : Bool) (h : QdL xs) (h0 : 1 / 16 ≤ M) (h8 : M ≤ 8) (hb : ∀ i, i < xs.length → Bd (vF xs i) M) (h1 : 1 ≤ xs.length) (hn : xs.length ≤ 12) (hL : L ≤ 6) {t : Nat} (ht : t ≤ bzS xs.length L) :
    (dropD (wsQ q) (scQ q) (levelsD (wsQ q) (scQ q) xs L) t).length = bzN xs.length (bzS xs.length L - t) ∧ ∀ j, j < bzN xs.length (bzS xs.length L - t) → FinW .f32 ((dropD (wsQ q) (scQ q) (levelsD (wsQ q) (scQ q) xs L) t).getD j 0) ∧ Bd (vF (dropD (wsQ q) (scQ q) (levelsD (wsQ q) (scQ q) xs L) t) j - vF (nowD (wsQ q) (scQ q) xs (bzS xs.length L - t)) j) (6 / 1000) := by
  cases q
  · obtain ⟨a1, a2⟩ := lines_back h h1 hn hL t ht
    refine ⟨a1, fun j hj => ⟨(a2 j hj).1, ?_⟩⟩
    have e := (a2 j hj).2
    show Bd (vF (dropD linesW oneW (levelsD linesW oneW xs L) t) j - vF (nowD linesW oneW xs (bzS xs.length L - t)) j) _
    rw [e]
    constructor <;> grind_linarith
  · obtain ⟨a1, a2⟩ := nine_back h0 h8 (h.bl hb) h1 hn hL t ht
    have h4 := bz_four ⟨xs.length, by omega⟩ ⟨L, by omega⟩
    simp only at h4
    have c2 := bN_bd h0 h8 (bzS xs.length L) h4
    have c3 := bN_bd h0 h8 (bzS xs.length L - t) (by omega)
    exact ⟨a1, fun j hj => ⟨(a2 j hj).1, bdm (a2 j hj).2 (by grind_linarith)⟩⟩
theorem both_un (q : Bool) (h : QdL xs) (h0 : 1 / 16 ≤ M) (h8 : M ≤ 8) (hb : ∀ i, i < xs.length → Bd (vF xs i) M) (h1 : 1 ≤ xs.length) (hn : xs.length ≤ 12) (l1 : 1 ≤ L) (hL : L ≤ 6) : unOk (wsQ q) (scQ q) (levelsD (wsQ q) (scQ q) xs L) = true :=
  unOk_yes (scheme_ok q) (both_bands q h h0 h8 hb h1 hn l1 hL) fun k hk => by
    rw [levelsD_bz, Nat.add_sub_cancel] at hk
    obtain ⟨a1, a2⟩ := both_back q h h0 h8 hb h1 hn hL (t := k + 1) (by omega)
    exact all_fin fun i hi => (a2 i (by omega)).1
end
end Go.Proofs.Ytddekdgggpifmaa

namespace Go.Proofs.Ytddekdgggpifmaa
open Go.Gx
set_option maxRecDepth 100000
set_option linter.unusedSimpArgs false
set_option linter.unusedVariables false

theorem single_ev {xs : List Nat} (h : xs.length = 1) : evL 0 xs xs.length = xs := by
  match xs, h with
  | [a], _ => simp [evL]
/-- A list that is lifted once and led back. -/
theorem both_once (q : Bool) {xs : List Nat} {M : Rat} (h : QdL xs) (h0 : 1 / 16 ≤ M) (h8 : M ≤ 8) (hb : ∀ i, i < xs.length → Bd (vF xs i) M) (h1 : 1 ≤ xs.length) (hn : xs.length ≤ 12) :
    liftOkF (wsQ q) (scQ q) xs = true ∧ dropOk (wsQ q) (scQ q) (liftF (wsQ q) (scQ q) xs).1 (liftF (wsQ q) (scQ q) xs).2 = true ∧ (dropF (wsQ q) (scQ q) (liftF (wsQ q) (scQ q) xs).1 (liftF (wsQ q) (scQ q) xs).2).length = xs.length ∧
      ∀ i, i < xs.length → FinW .f32 ((dropF (wsQ q) (scQ q) (liftF (wsQ q) (scQ q) xs).1 (liftF (wsQ q) (scQ q) xs).2).getD i 0) ∧ Bd (vF (dropF (wsQ q) (scQ q) (liftF (wsQ q) (scQ q) xs).1 (liftF (wsQ q) (scQ q) xs).2) i - vF xs i) (9 / 10000) := by
  have hl1 := liftF_len1 (wsQ q) (scQ q) xs
  have hl2 := liftF_len2 (wsQ q) (scQ q) xs
  have hfin : (∀ i, i < (liftF (wsQ q) (scQ q) xs).1.length → FinW .f32 ((liftF (wsQ q) (scQ q) xs).1.getD i 0)) ∧ (∀ i, i < (liftF (wsQ q) (scQ q) xs).2.length → FinW .f32 ((liftF (wsQ q) (scQ q) xs).2.getD i 0)) ∧
      (dropF (wsQ q) (scQ q) (liftF (wsQ q) (scQ q) xs).1 (liftF (wsQ q) (scQ q) xs).2).length = xs.length ∧ ∀ i, i < xs.length → FinW .f32 ((dropF (wsQ q) (scQ q) (liftF (wsQ q) (scQ q) xs).1 (liftF (wsQ q) (scQ q) xs).2).getD i 0) ∧ Bd (vF (dropF (wsQ q) (scQ q) (liftF (wsQ q) (scQ q) xs).1 (liftF (wsQ q) (scQ q) xs).2) i - vF xs i) (9 / 10000) := by
    by_cases c : xs.length = 1
    · have hs := fin_small (show xs.length / 2 = 0 by omega) (wsQ q) (scQ q)
      have hd : dropF (wsQ q) (scQ q) (liftF (wsQ q) (scQ q) xs).1 (liftF (wsQ q) (scQ q) xs).2 = xs := by
        unfold dropF
        rw [if_pos (by omega), hs]
        exact single_ev c
      rw [hd]
      refine ⟨fun i hi => ?_, fun i hi => by omega, rfl, fun i hi => ⟨(h i hi).ok.1, by constructor <;> grind_linarith⟩⟩
      rw [hs]
      show FinW .f32 ((evL 0 xs xs.length).getD i 0)
      rw [single_ev c]
      exact (h i (by omega)).ok.1
    · cases q
      · obtain ⟨a1, a2, _, _⟩ := lines_lift (s := 2) (N := 32) (by omega) (by omega) h.gl (by omega)
        obtain ⟨b1, b2⟩ := lines_drop (s := 2) (N := 32) (by omega) (by omega) h.gl (by omega) (lo := (liftF linesW 1065353216 xs).1) hl1 fun j hj => ⟨(a1 j hj).1, rfl⟩
        exact ⟨fun i hi => (a1 i hi).1, fun i hi => (a2 i hi).1, b1, fun i hi => ⟨(b2 i hi).1, by
          have e := (b2 i hi).2
          show Bd (vF (dropF linesW 1065353216 (liftF linesW 1065353216 xs).1 (liftF linesW 1065353216 xs).2) i - vF xs i) _
          rw [e]
          constructor <;> grind_linarith⟩⟩
      · have hx : ∀ i, i < xs.length → FinW .f32 (xs.getD i 0) ∧ Bd (vF xs i) M := fun i hi => ⟨(h i hi).ok.1, hb i hi⟩
        obtain ⟨a1, a2⟩ := nine_bd h0 (by grind_linarith) hx (by omega)
        obtain ⟨b1, b2⟩ := nine_drop (η := 0) h0 (by grind_linarith) hx (by omega) (lo := (liftF nineW Go.Gx.kW xs).1) hl1 (by grind_linarith) (by grind_linarith) fun j hj => ⟨(a1 j hj).1, by constructor <;> grind_linarith⟩
        exact ⟨fun i hi => (a1 i hi).1, fun i hi => (a2 i hi).1, b1, fun i hi => ⟨(b2 i hi).1, bdm (b2 i hi).2 (by grind_linarith)⟩⟩
  obtain ⟨f1, f2, f3, f4⟩ := hfin
  refine ⟨?_, ?_, f3, f4⟩
  · unfold liftOkF
    rw [all_fin f1, all_fin f2]
    simp
  · unfold dropOk
    have hf : fitF (liftF (wsQ q) (scQ q) xs).1.length (liftF (wsQ q) (scQ q) xs).2.length = true := by
      rw [hl1, hl2]
      unfold fitF
      simp only [Bool.and_eq_true, Bool.or_eq_true, decide_eq_true_eq]
      omega
    rw [scheme_ok, hf, all_fin f1, all_fin f2, all_fin fun i hi => (f4 i (by rw [f3] at hi; exact hi)).1]
    rfl
theorem QdL.rep {w : Nat} (h : Qd w) (n : Nat) : QdL (List.replicate n w) := fun j hj => by
  have hj' : j < n := by simpa using hj
  rw [rep_at hj']
  exact h
/-- Equal numbers have no ripples, nearly. -/
theorem both_flat (q : Bool) {w n : Nat} (hw : Qd w) (h2 : 2 ≤ n) (hn : n ≤ 12) {t : Nat} (ht : t < n / 2) :
    FinW .f32 ((liftF (wsQ q) (scQ q) (List.replicate n w)).2.getD t 0) ∧ Bd (vF (liftF (wsQ q) (scQ q) (List.replicate n w)).2 t) (5 / 100000) := by
  have hQ := QdL.rep hw n
  have hl : (List.replicate n w).length = n := by simp
  obtain ⟨_, _, z, z1, z2, hz⟩ := hw.ok
  have b1 : (z : Rat) ≤ 32 := by have := Rat.intCast_le_intCast.2 z2; simpa using this
  have b2 : -32 ≤ (z : Rat) := by have := Rat.intCast_le_intCast.2 z1; simpa using this
  have hv : ∀ i, i < n → vF (List.replicate n w) i = fval .f32 w := fun i hi => by unfold vF; rw [rep_at hi]
  have hb : ∀ i, i < (List.replicate n w).length → Bd (vF (List.replicate n w) i) 8 := fun i hi => by
    rw [hv i (by omega), hz]
    constructor <;> grind_linarith
  have hl2 := liftF_len2 (wsQ q) (scQ q) (List.replicate n w)
  cases q
  · obtain ⟨a1, a2, a3, _⟩ := lines_lift (s := 2) (N := 32) (by omega) (by omega) hQ.gl (by omega)
    have e := a3 t (by omega)
    have e1 : vF (odL 0 (List.replicate n w) (List.replicate n w).length) t = fval .f32 w := by unfold vF; rw [odL_at (by omega), rep_at (by omega)]
    have e2 : ∀ j, j < (n + 1) / 2 → vF (evL 0 (List.replicate n w) (List.replicate n w).length) j = fval .f32 w := fun j hj => by unfold vF; rw [evL_at (by omega), rep_at (by omega)]
    rw [e1, e2 t (by omega), e2 _ (by omega)] at e
    refine ⟨(a2 t (by show t < (liftF linesW 1065353216 (List.replicate n w)).2.length; have := liftF_len2 linesW 1065353216 (List.replicate n w); omega)).1, ?_⟩
    show Bd (vF (liftF linesW 1065353216 (List.replicate n w)).2 t) _
    rw [e]
    constructor <;> grind_linarith
  · obtain ⟨E0, O0, hE0, hO0, bE, bO, nlo, nhi⟩ := nine_lift (xs := List.replicate n w) (M := 8) (by grind_linarith) (by grind_linarith) (fun i hi => ⟨(hQ i hi).ok.1, hb i hi⟩) (by omega)
    rw [hl] at hE0 hO0 nhi
    obtain ⟨a1, a2, a3⟩ := nhi.2 t ht
    have E : ∀ j, j < (n + 1) / 2 → E0 j = fval .f32 w := fun j hj => by rw [hE0 j hj, hv _ (by omega)]
    have O : ∀ j, j < n / 2 → O0 j = fval .f32 w := fun j hj => by rw [hO0 j hj, hv _ (by omega)]
    have O1 : ∀ j, j < n / 2 → rO (-13305459 / 8388608) ((n + 1) / 2) E0 O0 j = fval .f32 w + -13305459 / 8388608 * (fval .f32 w + fval .f32 w) := fun j hj => by
      unfold rO
      rw [O j hj, E j (by omega), E _ (by omega)]
    have E1 : ∀ j, j < (n + 1) / 2 → rE (-7110871 / 134217728) (n / 2) E0 (rO (-13305459 / 8388608) ((n + 1) / 2) E0 O0) j = fval .f32 w + -7110871 / 134217728 * ((fval .f32 w + -13305459 / 8388608 * (fval .f32 w + fval .f32 w)) + (fval .f32 w + -13305459 / 8388608 * (fval .f32 w + fval .f32 w))) := fun j hj => by
      have k : rE (-7110871 / 134217728) (n / 2) E0 (rO (-13305459 / 8388608) ((n + 1) / 2) E0 O0) j = E0 j + -7110871 / 134217728 * (rO (-13305459 / 8388608) ((n + 1) / 2) E0 O0 (j - 1) + rO (-13305459 / 8388608) ((n + 1) / 2) E0 O0 (min j (n / 2 - 1))) := rfl
      rw [k, E j hj, O1 _ (by omega), O1 _ (by omega)]
    have k2 : rO (7406395 / 8388608) ((n + 1) / 2) (rE (-7110871 / 134217728) (n / 2) E0 (rO (-13305459 / 8388608) ((n + 1) / 2) E0 O0)) (rO (-13305459 / 8388608) ((n + 1) / 2) E0 O0) t = rO (-13305459 / 8388608) ((n + 1) / 2) E0 O0 t + 7406395 / 8388608 * (rE (-7110871 / 134217728) (n / 2) E0 (rO (-13305459 / 8388608) ((n + 1) / 2) E0 O0) t + rE (-7110871 / 134217728) (n / 2) E0 (rO (-13305459 / 8388608) ((n + 1) / 2) E0 O0) (min (t + 1) ((n + 1) / 2 - 1))) := rfl
    change _ * (8388608 / 9643581) - _ ≤ _ at a2
    change _ ≤ _ * (8388608 / 9643581) + _ at a3
    rw [k2, O1 t ht, E1 t (by omega), E1 _ (by omega), hz] at a2 a3
    refine ⟨a1, ?_⟩
    show Bd (fval .f32 ((liftF nineW Go.Gx.kW (List.replicate n w)).2.getD t 0)) _
    exact ⟨by grind_linarith, by grind_linarith⟩
/-! ### lines -/
def lineW (w i : Nat) : Nat := fbin .mul .f32 w (i2f .f32 (i : Int))
def lineL (w n : Nat) : List Nat := (List.range n).map (lineW w)
theorem lineL_len (w n : Nat) : (lineL w n).length = n := by simp [lineL]
theorem small_val : ∀ i : Fin 12, finF (i2f .f32 ((i.val : Nat) : Int)) = true ∧ fval .f32 (i2f .f32 ((i.val : Nat) : Int)) = ((i.val : Nat) : Rat) := by decide +kernel
theorem lineW_val {w i : Nat} (hw : Qd w) (hi : i < 12) : FinW .f32 (lineW w i) ∧ fval .f32 (lineW w i) = fval .f32 w * (i : Rat) ∧ Gr 2 352 (fval .f32 w * (i : Rat)) := by
  obtain ⟨w1, _, z, z1, z2, hz⟩ := hw.ok
  obtain ⟨s1, s2⟩ := small_val ⟨i, hi⟩
  simp only at s1 s2
  have g : Gr 2 352 (fval .f32 w * (i : Rat)) := by
    refine ⟨z * (i : Int), ?_, ?_⟩
    · have e : p2 (-((2 : Nat) : Int)) = 1 / 4 := p2_q
      rw [e, hz, Rat.intCast_mul, Rat.intCast_natCast]
      grind_linarith
    · rw [Int.natAbs_mul]
      have h1 : z.natAbs ≤ 32 := by omega
      have h2 : (i : Int).natAbs ≤ 11 := by omega
      exact Nat.le_trans (Nat.mul_le_mul h1 h2) (by decide)
  have p := fmul_val w1 (finW_of s1) (by rw [s2]; exact g.top (by omega))
  rw [s2] at p
  exact ⟨p.1, p.exact (g.rep (by omega) (by omega)), g⟩
theorem lineL_gl {w n : Nat} (hw : Qd w) (hn : n ≤ 12) : GL 2 352 (lineL w n) := fun j hj => by
  rw [lineL_len] at hj
  have e : (lineL w n).getD j 0 = lineW w j := getD_range_map hj
  obtain ⟨a1, a2, a3⟩ := lineW_val hw (show j < 12 by omega)
  unfold vF
  rw [e]
  exact ⟨a1, by rw [a2]; exact a3⟩
/-- Lines have no ripples inside. -/
theorem line_flat {w n : Nat} (hw : Qd w) (h2 : 2 ≤ n) (hn : n ≤ 12) {t : Nat} (ht : t < n / 2) :
    FinW .f32 ((liftF linesW oneW (lineL w n)).2.getD t 0) ∧ (2 * t + 2 < n → fval .f32 ((liftF linesW oneW (lineL w n)).2.getD t 0) = 0) := by
  have hg := lineL_gl hw hn
  have hl := lineL_len w n
  obtain ⟨a1, a2, a3, _⟩ := lines_lift (s := 2) (N := 352) (by omega) (by omega) hg (by omega)
  have hl2 := liftF_len2 linesW 1065353216 (lineL w n)
  refine ⟨(a2 t (by omega)).1, fun hlt => ?_⟩
  have e := a3 t (by omega)
  have hat : ∀ j, j < n → fval .f32 ((lineL w n).getD j 0) = fval .f32 w * (j : Rat) := fun j hj => by
    have e : (lineL w n).getD j 0 = lineW w j := getD_range_map hj
    rw [e]
    exact (lineW_val hw (show j < 12 by omega)).2.1
  have e1 : vF (odL 0 (lineL w n) (lineL w n).length) t = fval .f32 w * ((2 * t + 1 : Nat) : Rat) := by unfold vF; rw [odL_at (by omega), hat _ (by omega)]
  have e2 : vF (evL 0 (lineL w n) (lineL w n).length) t = fval .f32 w * ((2 * t : Nat) : Rat) := by unfold vF; rw [evL_at (by omega), hat _ (by omega)]
  have em : min (t + 1) (((lineL w n).length + 1) / 2 - 1) = t + 1 := by omega
  have e3 : vF (evL 0 (lineL w n) (lineL w n).length) (t + 1) = fval .f32 w * ((2 * (t + 1) : Nat) : Rat) := by unfold vF; rw [evL_at (by omega), hat _ (by omega)]
  rw [em, e1, e2, e3] at e
  have c1 : ((2 * t + 1 : Nat) : Rat) = 2 * (t : Rat) + 1 := by rw [Rat.natCast_add, Rat.natCast_mul]; rfl
  have c2 : ((2 * t : Nat) : Rat) = 2 * (t : Rat) := by rw [Rat.natCast_mul]; rfl
  have c3 : ((2 * (t + 1) : Nat) : Rat) = 2 * (t : Rat) + 2 := by
    rw [show 2 * (t + 1) = 2 * t + 2 by omega, Rat.natCast_add, Rat.natCast_mul]; rfl
  rw [c1, c2, c3] at e
  show vF (liftF linesW 1065353216 (lineL w n)).2 t = 0
  rw [e]
  grind_linarith
/-! ### flat bands -/
theorem flat_prefix (xss : List (List Nat)) (t : Nat) : ∀ d, ∃ r, flatF xss (t + d) = flatF xss t ++ r
  | 0 => ⟨[], by simp⟩
  | d + 1 => by
    obtain ⟨r, hr⟩ := flat_prefix xss t d
    exact ⟨r ++ xss.getD (xss.length - 1 - (t + d)) [], by rw [← Nat.add_assoc, flatF_succ, hr, List.append_assoc]⟩
theorem flat_suf (xss : List (List Nat)) : ∀ t, t ≤ xss.length → (flatF xss t).length = sufS (xss.map List.length) (xss.length - t)
  | 0, _ => by rw [Nat.sub_zero, sufS_all (by simp)]; rfl
  | t + 1, h => by
    have ih := flat_suf xss t (by omega)
    have hs := sufS_succ (sz := xss.map List.length) (i := xss.length - (t + 1)) (by simp; omega)
    rw [sizes_len] at hs
    rw [flatF_succ, List.length_append, ih, hs, show xss.length - 1 - t = xss.length - (t + 1) by omega, show xss.length - (t + 1) + 1 = xss.length - t by omega]
    omega
/-- Flat bands are cut as they were. -/
theorem cut_flat (xss : List (List Nat)) : cutU (flatF xss xss.length) (xss.map List.length) (xss.map List.length).length = xss := by
  refine list_ext_getD [] (by rw [cutU_len, List.length_map]) fun k hk => ?_
  rw [cutU_len] at hk
  rw [cutU_at hk, if_pos (by omega)]
  rw [List.length_map] at hk
  unfold cutK
  obtain ⟨t, ht⟩ : ∃ t, t = xss.length - 1 - k := ⟨_, rfl⟩
  have hl := flat_suf xss t (by omega)
  rw [show xss.length - t = k + 1 by omega] at hl
  obtain ⟨r, hr⟩ := flat_prefix xss (t + 1) (xss.length - (t + 1))
  rw [show t + 1 + (xss.length - (t + 1)) = xss.length by omega, flatF_succ, show xss.length - 1 - t = k by omega, List.append_assoc] at hr
  rw [hr, ← hl, List.drop_left, sizes_len, List.take_left]
end Go.Proofs.Ytddekdgggpifmaa

namespace Go.Proofs.Ytddekdgggpifmaa
open Go.Gx
set_option maxRecDepth 100000
set_option linter.unusedSimpArgs false
set_option linter.unusedVariables false

theorem bl_max {L : List Nat} (hB : BL 256 L) : ∃ M : Rat, 1 / 16 ≤ M ∧ M ≤ 256 ∧ (∀ i, i < L.length → Bd (vF L i) M) ∧ M * M ≤ sqR L L.length + 1 / 16 := by
  suffices h : ∀ n, n ≤ L.length → ∃ M : Rat, 1 / 16 ≤ M ∧ M ≤ 256 ∧ (∀ i, i < n → Bd (vF L i) M) ∧ M * M ≤ sqR L n + 1 / 16 from h _ (Nat.le_refl _)
  intro n
  induction n with
  | zero =>
    intro _
    refine ⟨1 / 16, by grind_linarith, by grind_linarith, fun i hi => by omega, ?_⟩
    have : sqR L 0 = 0 := rfl
    rw [this]
    decide +kernel
  | succ n ih =>
    intro hn
    obtain ⟨M, h1, h2, h3, h4⟩ := ih (by omega)
    obtain ⟨_, b2, b1⟩ := hB n (by omega)
    have hs : sqR L (n + 1) = sqR L n + vF L n * vF L n := rfl
    have q0 := sq_nonneg (vF L n)
    have s0 : 0 ≤ sqR L n := sumR_nonneg fun j _ => sq_nonneg _
    by_cases c : Bd (vF L n) M
    · refine ⟨M, h1, h2, fun i hi => ?_, by rw [hs]; grind_linarith⟩
      by_cases ci : i = n
      · subst ci; exact c
      · exact h3 i (by omega)
    · rcases Rat.le_total (a := 0) (b := vF L n) with p | p
      · have hM : M ≤ vF L n := by
          rcases Rat.le_total (a := vF L n) (b := M) with r | r
          · exact absurd ⟨by grind_linarith, r⟩ c
          · exact r
        refine ⟨vF L n, by grind_linarith, b1, fun i hi => ?_, by rw [hs]; grind_linarith⟩
        by_cases ci : i = n
        · subst ci; exact ⟨by grind_linarith, by grind_linarith⟩
        · have := h3 i (by omega)
          exact ⟨by have := this.1; grind_linarith, by have := this.2; grind_linarith⟩
      · have hM : M ≤ -vF L n := by
          rcases Rat.le_total (a := -vF L n) (b := M) with r | r
          · exact absurd ⟨by grind_linarith, by grind_linarith⟩ c
          · exact r
        have hsq : -vF L n * -vF L n = vF L n * vF L n := by grind_linarith
        refine ⟨-vF L n, by grind_linarith, by grind_linarith, fun i hi => ?_, by rw [hs, hsq]; grind_linarith⟩
        by_cases ci : i = n
        · subst ci; exact ⟨by grind_linarith, by grind_linarith⟩
        · have := h3 i (by omega)
          exact ⟨by have := this.1; grind_linarith, by have := this.2; grind_linarith⟩
theorem app_lo {a b : List Nat} {j : Nat} (h : j < a.length) : (a ++ b).getD j 0 = a.getD j 0 := by
  simp [List.getD_eq_getElem?_getD, List.getElem?_append_left h]
theorem app_hi {a b : List Nat} {j : Nat} (h : a.length ≤ j) : (a ++ b).getD j 0 = b.getD (j - a.length) 0 := by
  simp [List.getD_eq_getElem?_getD, List.getElem?_append_right h]
theorem bl_app {B : Rat} {a b : List Nat} (ha : BL B a) (hb : BL B b) : BL B (a ++ b) := fun j hj => by
  rw [List.length_append] at hj
  by_cases c : j < a.length
  · unfold vF
    rw [app_lo c]
    exact ha j c
  · unfold vF
    rw [app_hi (by omega)]
    exact hb (j - a.length) (by omega)
theorem sqR_app (a b : List Nat) : ∀ k, sqR (a ++ b) (a.length + k) = sqR a a.length + sqR b k
  | 0 => by
    have e : sqR b 0 = 0 := rfl
    rw [e, Rat.add_zero, Nat.add_zero]
    exact sumR_congr fun j hj => by unfold vF; rw [app_lo hj]
  | k + 1 => by
    have e1 : sqR (a ++ b) (a.length + k + 1) = sqR (a ++ b) (a.length + k) + vF (a ++ b) (a.length + k) * vF (a ++ b) (a.length + k) := rfl
    have e2 : sqR b (k + 1) = sqR b k + vF b k * vF b k := rfl
    have e3 : vF (a ++ b) (a.length + k) = vF b k := by unfold vF; rw [app_hi (by omega), Nat.add_sub_cancel_left]
    rw [← Nat.add_assoc, e1, sqR_app a b k, e2, e3, Rat.add_assoc]
theorem sumR_rev (f : Nat → Rat) : ∀ n, sumR (fun j => f (n - 1 - j)) n = sumR f n
  | 0 => rfl
  | n + 1 => by
    have e : sumR f (n + 1) = sumR f n + f n := rfl
    rw [sumR_first, e, ← sumR_rev f n, Rat.add_comm]
    have e2 : sumR (fun j => f (n + 1 - 1 - (j + 1))) n = sumR (fun j => f (n - 1 - j)) n := sumR_congr fun j hj => by rw [show n + 1 - 1 - (j + 1) = n - 1 - j by omega]
    rw [e2]
    rfl
def rowQ (xss : List (List Nat)) (k : Nat) : Rat := sqR (xss.getD k []) (xss.getD k []).length
theorem sqR_flat (xss : List (List Nat)) : ∀ t, sqR (flatF xss t) (flatF xss t).length = sumR (fun j => rowQ xss (xss.length - 1 - j)) t
  | 0 => rfl
  | t + 1 => by
    rw [flatF_succ, List.length_append, sqR_app, sqR_flat xss t]
    rfl
theorem sqR_all (xss : List (List Nat)) : sqR (flatF xss xss.length) (flatF xss xss.length).length = sumR (rowQ xss) xss.length := by
  rw [sqR_flat, sumR_rev]
theorem bl_flat {B : Rat} {xss : List (List Nat)} (h : ∀ k, k < xss.length → BL B (xss.getD k [])) : ∀ t, t ≤ xss.length → BL B (flatF xss t)
  | 0, _ => fun j hj => absurd hj (Nat.not_lt_zero _)
  | t + 1, ht => by
    rw [flatF_succ]
    exact bl_app (bl_flat h t (by omega)) (h _ (by omega))
theorem row_in {xss : List (List Nat)} {k : Nat} (hk : k < xss.length) : (xss.getD k []).length ≤ (flatF xss xss.length).length ∧ ∀ M, (∀ i, i < (flatF xss xss.length).length → Bd (vF (flatF xss xss.length) i) M) → ∀ i, i < (xss.getD k []).length → Bd (vF (xss.getD k []) i) M := by
  obtain ⟨t, ht⟩ : ∃ t, t = xss.length - 1 - k := ⟨_, rfl⟩
  obtain ⟨r, hr⟩ := flat_prefix xss (t + 1) (xss.length - (t + 1))
  rw [show t + 1 + (xss.length - (t + 1)) = xss.length by omega, flatF_succ, show xss.length - 1 - t = k by omega] at hr
  have hl : (flatF xss xss.length).length = (flatF xss t).length + (xss.getD k []).length + r.length := by rw [hr, List.length_append, List.length_append]
  refine ⟨by omega, fun M h i hi => ?_⟩
  have a := h ((flatF xss t).length + i) (by omega)
  unfold vF at a ⊢
  rw [hr, app_lo (by rw [List.length_append]; omega), app_hi (by omega), Nat.add_sub_cancel_left] at a
  exact a
/-! ### sums -/
def enS (xss : List (List Nat)) : Nat → Nat := foldI (fun k s => fbin .add .f64 s (f64 (squaresF (xss.getD k [])))) 0
theorem enS_succ (xss : List (List Nat)) (k : Nat) : enS xss (k + 1) = fbin .add .f64 (enS xss k) (f64 (squaresF (xss.getD k []))) := rfl
theorem en_near {xss : List (List Nat)} {B : Rat} (h1 : 1 / 16 ≤ B) (h2 : B ≤ 256) (hm : xss.length ≤ 7) (hl : ∀ k, k < xss.length → (xss.getD k []).length ≤ 12) (hf : ∀ k, k < xss.length → ∀ i, i < (xss.getD k []).length → FinW .f32 ((xss.getD k []).getD i 0) ∧ Bd (vF (xss.getD k []) i) B) : ∀ K, K ≤ xss.length →
    FinW .f64 (enS xss K) ∧ Bd (fval .f64 (enS xss K)) ((K : Rat) * (14 * (B * B))) ∧ Bd (fval .f64 (enS xss K) - sumR (rowQ xss) K) ((K : Rat) * (3 / 100000 * (B * B)))
  | 0, _ => by
    have e : ((0 : Nat) : Rat) = 0 := rfl
    obtain ⟨z1, z2⟩ := zero_f64
    refine ⟨z1, ?_, ?_⟩
    · show Bd (fval .f64 0) _
      rw [z2, e]
      constructor <;> grind_linarith
    · show Bd (fval .f64 0 - sumR _ 0) _
      rw [z2, e, sumR]
      constructor <;> grind_linarith
  | K + 1, hK => by
    obtain ⟨a1, ⟨a2, a3⟩, ⟨a4, a5⟩⟩ := en_near h1 h2 hm hl hf K (by omega)
    have hlk := hl K (by omega)
    obtain ⟨b1, ⟨b2, b3⟩, ⟨b4, b5⟩⟩ := sq3_near h1 (by grind_linarith) (by omega) (hf K (by omega)) (xss.getD K []).length (Nat.le_refl _)
    have es : sq3 (xss.getD K []) (xss.getD K []).length = squaresF (xss.getD K []) := rfl
    rw [es] at b1 b2 b3 b4 b5
    obtain ⟨f1, f2⟩ := f64_fin b1
    have hB0 : 1 / 256 ≤ B * B := by
      have := Rat.mul_le_mul_of_nonneg_left h1 (show 0 ≤ B by grind_linarith)
      grind_linarith
    have hB1 : B * B ≤ 256 * 256 := sq_bd ⟨by grind_linarith, h2⟩
    have hr : ((xss.getD K []).length : Rat) ≤ 12 := by have := natCast_le hlk; simpa using this
    have hr0 : (0 : Rat) ≤ ((xss.getD K []).length : Rat) := Rat.natCast_nonneg
    have hrB : ((xss.getD K []).length : Rat) * (B * B) ≤ 12 * (B * B) := Rat.mul_le_mul_of_nonneg_right hr (by grind_linarith)
    have hk : (K : Rat) ≤ 6 := by have := natCast_le (show K ≤ 6 by omega); simpa using this
    have hk0 : (0 : Rat) ≤ K := Rat.natCast_nonneg
    have hkB : (K : Rat) * (B * B) ≤ 6 * (B * B) := Rat.mul_le_mul_of_nonneg_right hk (by grind_linarith)
    obtain ⟨s1, s2, s3⟩ := add_near (k := .f64) (M := 110 * (B * B)) a1 f1 ⟨by grind_linarith, by grind_linarith⟩ (by rw [f2]; exact ⟨by grind_linarith, by grind_linarith⟩)
    simp only [epsK] at s2 s3
    rw [f2] at s2 s3
    have e : ((K + 1 : Nat) : Rat) = (K : Rat) + 1 := by rw [Rat.natCast_add]; rfl
    have eq : sumR (rowQ xss) (K + 1) = sumR (rowQ xss) K + sqR (xss.getD K []) (xss.getD K []).length := rfl
    rw [enS_succ, eq, e]
    exact ⟨s1, ⟨by grind_linarith, by grind_linarith⟩, ⟨by grind_linarith, by grind_linarith⟩⟩
/-- Energies of bands together are the energy of flat bands, nearly. -/
theorem en_ok {xss : List (List Nat)} (hm : xss.length ≤ 7) (hn : (flatF xss xss.length).length ≤ 12) (hf : ∀ k, k < xss.length → BL 256 (xss.getD k [])) :
    (∀ k, k < xss.length → FinW .f32 (squaresF (xss.getD k []))) ∧ FinW .f32 (squaresF (flatF xss xss.length)) ∧
    ∃ r, maxW .f64 (fbin .sub .f64 (enS xss xss.length) (f64 (squaresF (flatF xss xss.length)))) (fbin .sub .f64 (f64 (squaresF (flatF xss xss.length))) (enS xss xss.length)) = some r ∧ fcB .gtr .f64 r (fbin .mul .f64 4562254508917369340 (fbin .add .f64 4607182418800017408 (enS xss xss.length))) = false := by
  have hF := bl_flat hf xss.length (Nat.le_refl _)
  obtain ⟨B, h1, h2, h3, h4⟩ := bl_max hF
  have hfr : ∀ k, k < xss.length → ∀ i, i < (xss.getD k []).length → FinW .f32 ((xss.getD k []).getD i 0) ∧ Bd (vF (xss.getD k []) i) B := fun k hk i hi => ⟨(hf k hk i hi).1, (row_in hk).2 B h3 i hi⟩
  have hlr : ∀ k, k < xss.length → (xss.getD k []).length ≤ 12 := fun k hk => Nat.le_trans (row_in hk).1 hn
  obtain ⟨a1, ⟨a2, a3⟩, ⟨a4, a5⟩⟩ := en_near h1 h2 hm hlr hfr xss.length (Nat.le_refl _)
  obtain ⟨b1, ⟨b2, b3⟩, ⟨b4, b5⟩⟩ := sq3_near h1 (show B ≤ 1000 by grind_linarith) (by omega) (fun i hi => ⟨(hF i hi).1, h3 i hi⟩) (flatF xss xss.length).length (Nat.le_refl _)
  have es : sq3 (flatF xss xss.length) (flatF xss xss.length).length = squaresF (flatF xss xss.length) := rfl
  rw [es] at b1 b2 b3 b4 b5
  refine ⟨fun k hk => (sq3_near h1 (show B ≤ 1000 by grind_linarith) (by have := hlr k hk; omega) (hfr k hk) _ (Nat.le_refl _)).1, b1, ?_⟩
  obtain ⟨f1, f2⟩ := f64_fin b1
  rw [sqR_all] at b4 b5 h4
  have s0 : 0 ≤ sumR (rowQ xss) xss.length := sumR_nonneg fun j _ => sumR_nonneg fun i _ => sq_nonneg _
  have hB0 : 1 / 256 ≤ B * B := by
    have := Rat.mul_le_mul_of_nonneg_left h1 (show 0 ≤ B by grind_linarith)
    grind_linarith
  have hB1 : B * B ≤ 256 * 256 := sq_bd ⟨by grind_linarith, h2⟩
  have hr : ((flatF xss xss.length).length : Rat) ≤ 12 := by have := natCast_le hn; simpa using this
  have hr0 : (0 : Rat) ≤ ((flatF xss xss.length).length : Rat) := Rat.natCast_nonneg
  have hrB : ((flatF xss xss.length).length : Rat) * (B * B) ≤ 12 * (B * B) := Rat.mul_le_mul_of_nonneg_right hr (by grind_linarith)
  have hk : (xss.length : Rat) ≤ 7 := by have := natCast_le hm; simpa using this
  have hk0 : (0 : Rat) ≤ (xss.length : Rat) := Rat.natCast_nonneg
  have hkB : (xss.length : Rat) * (B * B) ≤ 7 * (B * B) := Rat.mul_le_mul_of_nonneg_right hk (by grind_linarith)
  generalize hE : enS xss xss.length = E at *
  generalize hQ : squaresF (flatF xss xss.length) = Q at *
  generalize hS : sumR (rowQ xss) xss.length = S at *
  generalize hBB : B * B = qq at *
  generalize hkk : (xss.length : Rat) * qq = kB at *
  generalize hrr : ((flatF xss xss.length).length : Rat) * qq = rB at *
  obtain ⟨o1, o2⟩ := one_val
  obtain ⟨c1, c2⟩ := c001_val
  have u1 : fval .f64 E - S ≤ 22 / 100000 * qq := by grind_linarith
  have u2 : -(22 / 100000 * qq) ≤ fval .f64 E - S := by grind_linarith
  have u3 : fval .f32 Q - S ≤ 3 / 100000 * qq := by grind_linarith
  have u4 : -(3 / 100000 * qq) ≤ fval .f32 Q - S := by grind_linarith
  have u5 : fval .f64 E ≤ 98 * qq := by grind_linarith
  clear a2 a3 a4 a5 b2 b3 b4 b5 hr hr0 hrB hk hk0 hkB
  obtain ⟨s1, s2, s3⟩ := add_near (k := .f64) (M := 1000 + 100 * qq) o1 a1 ⟨by grind_linarith, by grind_linarith⟩ (by rw [o2]; exact ⟨by grind_linarith, by grind_linarith⟩)
  simp only [epsK] at s2 s3
  rw [o2] at s2 s3
  obtain ⟨m1, m2, m3⟩ := mul_near (k := .f64) (M := 1000 + 100 * qq) c1 s1 ⟨by grind_linarith, by grind_linarith⟩ (by rw [c2]; exact ⟨by grind_linarith, by grind_linarith⟩)
  simp only [epsK] at m2 m3
  rw [c2] at m2 m3
  refine gap8_le a1 f1 m1 ?_ ?_
  · rw [f2]; grind_linarith
  · rw [f2]; grind_linarith
/-! ### the last loop -/
theorem line_ok {w n : Nat} (hw : Qd w) (h1 : 1 ≤ n) (hn : n ≤ 12) : isLongF (lineL w n) = true ∧ liftOkF linesW 1065353216 (lineL w n) = true := by
  have hg := lineL_gl hw hn
  have hl := lineL_len w n
  have hl1 := liftF_len1 linesW 1065353216 (lineL w n)
  have hl2 := liftF_len2 linesW 1065353216 (lineL w n)
  refine ⟨?_, ?_⟩
  · unfold isLongF
    rw [gl_all hg, within_true.2 (by omega)]
    rfl
  · have hfin : (∀ i, i < (liftF linesW 1065353216 (lineL w n)).1.length → FinW .f32 ((liftF linesW 1065353216 (lineL w n)).1.getD i 0)) ∧ (∀ i, i < (liftF linesW 1065353216 (lineL w n)).2.length → FinW .f32 ((liftF linesW 1065353216 (lineL w n)).2.getD i 0)) := by
      by_cases c : n = 1
      · have hs := fin_small (show (lineL w n).length / 2 = 0 by omega) linesW 1065353216
        refine ⟨fun i hi => ?_, fun i hi => by omega⟩
        rw [hs]
        show FinW .f32 ((evL 0 (lineL w n) (lineL w n).length).getD i 0)
        rw [single_ev (by omega)]
        exact (hg i (by omega)).1
      · obtain ⟨a1, a2, _, _⟩ := lines_lift (s := 2) (N := 352) (by omega) (by omega) hg (by omega)
        exact ⟨fun i hi => (a1 i hi).1, fun i hi => (a2 i hi).1⟩
    unfold liftOkF
    rw [all_fin hfin.1, all_fin hfin.2]
    simp
theorem lineL_w (w n : Nat) : W32 (lineL w n) := fun j => by
  by_cases c : j < n
  · have e : (lineL w n).getD j 0 = lineW w j := getD_range_map c
    rw [e]
    exact fbin_lt .mul .f32 _ _
  · have e : (lineL w n).getD j 0 = 0 := by simp [List.getD_eq_getElem?_getD, List.getElem?_eq_none (l := lineL w n) (i := j) (by rw [lineL_len]; omega)]
    rw [e]
    decide
theorem lineL_snoc (w n : Nat) : (lineL w n).map fv ++ [.float .f32 (lineW w n)] = (lineL w (n + 1)).map fv := by
  unfold lineL
  rw [fv_snoc', range_snoc]
theorem absR_le {x B : Rat} (h : Bd x B) : absR x ≤ B := by
  unfold absR
  have := h.1
  have := h.2
  split <;> grind_linarith
theorem absR_pos (x : Rat) : 0 ≤ absR x := by
  unfold absR
  split
  · assumption
  · grind_linarith
theorem odd_ok {a b : Nat} (ha : FinW .f64 a) (hb : FinW .f64 b) (h1 : fval .f64 a ≤ 5 / 100000) (h2 : 0 ≤ fval .f64 b) (h3 : fval .f64 b ≤ 8) : fcB .gtr .f64 a (fbin .mul .f64 4562254508917369340 (fbin .add .f64 4607182418800017408 b)) = false := by
  obtain ⟨o1, o2⟩ := one_val
  obtain ⟨c1, c2⟩ := c001_val
  obtain ⟨s1, s2, s3⟩ := add_near (k := .f64) (M := 1000) o1 hb ⟨by grind_linarith, by grind_linarith⟩ (by rw [o2]; exact ⟨by grind_linarith, by grind_linarith⟩)
  simp only [epsK] at s2 s3
  rw [o2] at s2 s3
  obtain ⟨m1, m2, m3⟩ := mul_near (k := .f64) (M := 1000) c1 s1 ⟨by grind_linarith, by grind_linarith⟩ (by rw [c2]; exact ⟨by grind_linarith, by grind_linarith⟩)
  simp only [epsK] at m2 m3
  rw [c2] at m2 m3
  rw [fcB_gtr ha m1, decide_eq_false (Rat.not_lt.2 (by grind_linarith))]
end Go.Proofs.Ytddekdgggpifmaa
