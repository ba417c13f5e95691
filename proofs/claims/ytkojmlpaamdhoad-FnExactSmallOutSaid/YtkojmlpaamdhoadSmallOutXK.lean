/- Small values put out. -/
import Derived.Test.YtkojmlpaamdhoadSmallOutXJ
namespace Go.Proofs.Ytkojmlpaamdhoad
open Go.Gx
set_option maxRecDepth 100000
set_option linter.unusedSimpArgs false
set_option linter.unusedVariables false

def outQ (b : Bool) (t x : Nat) : Bool := b && fcB .leq .f32 (sizeF x) t
def outX (b : Bool) (t x : Nat) : Nat := if outQ b t x = true then 0 else x
def cntK (b : Bool) (t : Nat) (xs : List Nat) : Nat → Nat := foldI (fun k c => if outQ b t (xs.getD k 0) = true then c + 1 else c) 0
theorem cntK_succ (b : Bool) (t : Nat) (xs : List Nat) (i : Nat) : cntK b t xs (i + 1) = if outQ b t (xs.getD i 0) = true then cntK b t xs i + 1 else cntK b t xs i := rfl
theorem cntK_le (b : Bool) (t : Nat) (xs : List Nat) : ∀ i, cntK b t xs i ≤ i
  | 0 => Nat.le_refl _
  | i + 1 => by
    have := cntK_le b t xs i
    rw [cntK_succ]
    split <;> omega
theorem cntK_no (t : Nat) (xs : List Nat) : ∀ i, cntK false t xs i = 0
  | 0 => rfl
  | i + 1 => by rw [cntK_succ, cntK_no t xs i]; rfl
def bandS (t : Nat) (xss : List (List Nat)) (k : Nat) : List Nat := (xss.getD k []).map (outX (decide (k + 1 < xss.length)) t)
def outS (t : Nat) (xss : List (List Nat)) (j : Nat) : List (List Nat) := (List.range j).map (bandS t xss)
def cntS (t : Nat) (xss : List (List Nat)) : Nat → Nat := foldI (fun k c => c + cntK (decide (k + 1 < xss.length)) t (xss.getD k []) (xss.getD k []).length) 0
theorem cntS_succ (t : Nat) (xss : List (List Nat)) (j : Nat) : cntS t xss (j + 1) = cntS t xss j + cntK (decide (j + 1 < xss.length)) t (xss.getD j []) (xss.getD j []).length := rfl
theorem outS_succ (t : Nat) (xss : List (List Nat)) (j : Nat) : outS t xss (j + 1) = outS t xss j ++ [bandS t xss j] := by simp [outS, List.range_succ]
theorem outS_len (t : Nat) (xss : List (List Nat)) (j : Nat) : (outS t xss j).length = j := by simp [outS]
theorem bandS_len (t : Nat) (xss : List (List Nat)) (k : Nat) : (bandS t xss k).length = (xss.getD k []).length := by simp [bandS]
theorem cntS_le (t : Nat) (xss : List (List Nat)) : ∀ j, j ≤ xss.length → cntS t xss j ≤ offN xss j
  | 0, _ => Nat.zero_le _
  | j + 1, h => by
    have h1 := cntS_le t xss j (by omega)
    have h2 := cntK_le (decide (j + 1 < xss.length)) t (xss.getD j []) (xss.getD j []).length
    rw [cntS_succ, offN_succ (by omega)]
    omega
theorem outS_tot (t : Nat) (xss : List (List Nat)) : totL (outS t xss xss.length) = totL xss := by
  have h : (outS t xss xss.length).map List.length = xss.map List.length := by
    refine list_ext_getD 0 (by simp [outS_len]) fun j hj => ?_
    have hj' : j < xss.length := by simpa [outS_len] using hj
    simp [outS, bandS, List.getD_eq_getElem?_getD, hj']
  unfold totL offN
  rw [outS_len, List.take_of_length_le (by rw [outS_len]; exact Nat.le_refl _), List.take_of_length_le (Nat.le_refl _), h]
theorem set_getD_self {xs : List Nat} {i : Nat} (h : i < xs.length) : xs.set i (xs.getD i 0) = xs := by
  have e : xs.getD i 0 = xs[i] := by simp [List.getD_eq_getElem?_getD, h]
  rw [e, List.set_getElem_self]
def SmallR (H : Heap) (ok : Bool) (c : Nat) (xss : List (List Nat)) (sty ty : TypeId) (r : Value) (H' : Heap) : Prop :=
  Ext H H' ∧ ∃ v, r = .tuple #[v, .int .i64 (selI ok c), .bool ok] ∧ OwS H.n H'.n H' sty ty v ((selL ok xss).map (List.map fv)) ∧ totL (selL ok xss) ≤ 2 ^ 40
theorem SmallR.no {H H' : Heap} {ok : Bool} {c : Nat} {xss : List (List Nat)} {sty ty : TypeId} (hk : ok = false) (e : Ext H H') : SmallR H ok c xss sty ty (.tuple #[.slice none 0 0, .int .i64 0, .bool false]) H' := by
  subst hk; exact ⟨e, _, rfl, .nil, by simp [selL, totL, offN]⟩
theorem SmallR.yes {H H' : Heap} {ok : Bool} {c : Nat} {xss : List (List Nat)} {sty ty : TypeId} {v : Value} (hk : ok = true) (e : Ext H H') (o : OwS H.n H'.n H' sty ty v (xss.map (List.map fv))) (hl : totL xss ≤ 2 ^ 40) : SmallR H ok c xss sty ty (.tuple #[v, .int .i64 c, .bool true]) H' := by
  subst hk; exact ⟨e, v, rfl, o, hl⟩
theorem i_SmallOut_law {H : Heap} {v0 : Value} {xs0 : List (List Nat)} {a1 : Nat} (A0 : AS H v0 xs0) (b1 : a1 < 2 ^ 32) :
    ACalls Try.prog n_i_SmallOut [v0, .float .f32 a1] H fun r H' => SmallR H (bandsF xs0 && leastF a1) (cntS a1 xs0 xs0.length) (outS a1 xs0 xs0.length) t_sfloat32 t_float32 r H' := by
  have hm := A0.le
  refine k_i_SmallOut.run rfl ?_
  unfold c_i_SmallOut
  simp (disch := first | assumption | omega | rfl | (refine id ?_; simp only [gxD, ne_eq, reduceCtorEq, not_false_eq_true, Nat.reduceAdd, *]; done) | (refine id ?_; simp only [gxD]; omega)) only [↓gxPre, gxPost, ↓reduceIte, Nat.reduceEqDiff, reduceCtorEq, Nat.reduceAdd]
  refine callR_ext (i_AreBands_ok A0.rd A0.le) ?_
  intro K n1 bb1
  have eK : Ext H K := ⟨n1, bb1⟩
  cases h1 : bandsF xs0
  · simp (disch := first | assumption | omega | rfl | (refine id ?_; simp only [gxD, ne_eq, reduceCtorEq, not_false_eq_true, Nat.reduceAdd, *]; done) | (refine id ?_; simp only [gxD]; omega)) only [↓gxPre, gxPost, ↓reduceIte, Nat.reduceEqDiff, reduceCtorEq, Nat.reduceAdd]
    exact .no (by simp only [Bool.false_and, Bool.true_and, Bool.and_true, Bool.and_false, Bool.or_true, Bool.true_or, Bool.false_or, Bool.or_false, Bool.and_self, Bool.or_self]) eK
  simp (disch := first | assumption | omega | rfl | (refine id ?_; simp only [gxD, ne_eq, reduceCtorEq, not_false_eq_true, Nat.reduceAdd, *]; done) | (refine id ?_; simp only [gxD]; omega)) only [↓gxPre, gxPost, ↓reduceIte, Nat.reduceEqDiff, reduceCtorEq, Nat.reduceAdd]
  refine callR_pure i_isLeast_ok (.inl rfl) ?_
  cases h2 : leastF a1
  · simp (disch := first | assumption | omega | rfl | (refine id ?_; simp only [gxD, ne_eq, reduceCtorEq, not_false_eq_true, Nat.reduceAdd, *]; done) | (refine id ?_; simp only [gxD]; omega)) only [↓gxPre, gxPost, ↓reduceIte, Nat.reduceEqDiff, reduceCtorEq, Nat.reduceAdd]
    exact .no (by simp only [Bool.false_and, Bool.true_and, Bool.and_true, Bool.and_false, Bool.or_true, Bool.true_or, Bool.false_or, Bool.or_false, Bool.and_self, Bool.or_self]) eK
  obtain ⟨hn1, hn7⟩ := bandsF_len h1
  obtain ⟨us, hu, hul, hus⟩ := A0.rd
  have huK := hu.ext eK
  have huN := huK.ext (.new K ⟨true, t_sfloat32, []⟩)
  have hto : offN xs0 xs0.length ≤ 2 ^ 40 := by unfold totL at hm; omega
  simp (disch := first | assumption | omega | rfl | (refine id ?_; simp only [gxD, ne_eq, reduceCtorEq, not_false_eq_true, Nat.reduceAdd, *]; done) | (refine id ?_; simp only [gxD]; omega)) only [↓gxPre, gxPost, ↓reduceIte, Nat.reduceEqDiff, reduceCtorEq, Nat.reduceAdd, huN.len, hul]
  refine loop_forH xs0.length (fun j => [v0, .float .f32 a1, .slice (some ⟨K.n, 0, none⟩) j j, .int .i64 (cntS a1 xs0 j : Nat), v0, .int .i64 xs0.length, .int .i64 j])
    (fun j G => K.n + 1 ≤ G.n ∧ Ext K G ∧ ∃ vs, G.blk K.n = some ⟨true, t_sfloat32, vs⟩ ∧ OwN K.n G.n G t_float32 vs ((outS a1 xs0 j).map (List.map fv))) rfl
    ⟨by simp only [new_n]; omega, .new _ _, [], new_self _ _, .nil⟩ ?_ ?_
  · rintro G ⟨hG, hE, vs, hb, ho⟩
    simp (disch := first | assumption | omega | rfl | (refine id ?_; simp only [gxD, ne_eq, reduceCtorEq, not_false_eq_true, Nat.reduceAdd, *]; done) | (refine id ?_; simp only [gxD]; omega)) only [↓gxPre, gxPost, ↓reduceIte, Nat.reduceEqDiff, reduceCtorEq, Nat.reduceAdd, Int.lt_irrefl]
    have hlv : vs.length = xs0.length := by have := ho.1; simpa [outS_len] using this
    refine .yes rfl (eK.trans hE) ⟨vs, .mk hb hlv (by first | omega | (simp only [new_n, put_n]; omega)) (by first | omega | (simp only [new_n, put_n]; omega)) (by first | omega | (simp only [new_n, put_n]; omega)), ho.wide eK.n (Nat.le_refl _)⟩ (by rw [outS_tot]; exact hm)
  · rintro j G hj ⟨hG, hE, vs, hb, ho⟩
    have hlv : vs.length = j := by have := ho.1; simpa [outS_len] using this
    have huG := huK.ext hE
    obtain ⟨xs, hxs⟩ : ∃ xs, xs = xs0.getD j [] := ⟨_, rfl⟩
    have hlx : xs.length ≤ 2 ^ 40 := by rw [hxs]; exact totL_row hm j
    have hfs : FS G (us.getD j undef) xs := by rw [hxs]; exact ((hus j hj).ext eK).ext hE
    have hcl := cntS_le a1 xs0 j (by omega)
    have hoj : offN xs0 j ≤ 2 ^ 40 := by
      have h3 := offN_row hj
      omega
    simp (disch := first | assumption | omega | rfl | (refine id ?_; simp only [gxD, ne_eq, reduceCtorEq, not_false_eq_true, Nat.reduceAdd, *]; done) | (refine id ?_; simp only [gxD]; omega)) only [↓gxPre, gxPost, ↓reduceIte, Nat.reduceEqDiff, reduceCtorEq, Nat.reduceAdd, huG.ia, huG.ldD, hul]
    refine callR_of (i_copyOf_ex hfs hlx) ?_
    rintro _ P ⟨eP, rfl, nP, hcP⟩
    have eKP := hE.trans eP
    have hbP := (eP.blk _ (by omega)).trans hb
    have huP := huK.ext eKP
    obtain ⟨b, hbb⟩ : ∃ b, b = decide (j + 1 < xs0.length) := ⟨_, rfl⟩
    simp (disch := first | assumption | omega | rfl | (refine id ?_; simp only [gxD, ne_eq, reduceCtorEq, not_false_eq_true, Nat.reduceAdd, *]; done) | (refine id ?_; simp only [gxD]; omega)) only [↓gxPre, gxPost, ↓reduceIte, Nat.reduceEqDiff, reduceCtorEq, Nat.reduceAdd]
    refine loop_forH xs.length (fun i => [v0, .float .f32 a1, .slice (some ⟨K.n, 0, none⟩) j j, .int .i64 ((cntS a1 xs0 j + cntK b a1 xs i : Nat) : Int), .int .i64 j, .slice (some ⟨G.n, 0, none⟩) xs.length xs.length, v0, .int .i64 xs0.length, .int .i64 j, .slice (some ⟨G.n, 0, none⟩) xs.length xs.length, .int .i64 xs.length, .int .i64 i])
      (fun i F => F.n = P.n ∧ Ext G F ∧ F.blk G.n = some ⟨true, t_float32, (updF (fun k => outX b a1 (xs.getD k 0)) xs i).map fv⟩) (by simp [cntK, foldI_zero])
      ⟨rfl, eP, by rw [updF_zero]; exact hcP⟩ ?_ ?_
    · rintro F ⟨hF, eF, hc⟩
      have hbF := (eF.blk _ (by omega)).trans hb
      have hall : updF (fun k => outX b a1 (xs.getD k 0)) xs xs.length = bandS a1 xs0 j := by
        rw [updF_all, range_getD_map, bandS, hbb, hxs]
      rw [hall] at hc
      obtain ⟨f1, f2, f3, f4⟩ := push_at (x := .slice (some ⟨G.n, 0, none⟩) xs.length xs.length) (hE.trans eF) hbF (Nat.le_refl _) (by omega) rfl
      have p : OwL G.n F.n F t_float32 (.slice (some ⟨G.n, 0, none⟩) xs.length xs.length) ((bandS a1 xs0 j).map fv) := .mk hc (by rw [lMapN, bandS_len, hxs]) (by omega) (by omega) (by omega)
      have q := ((ho.ext eF).wide (Nat.le_refl _) eF.n).snoc (p.wide (by omega) (Nat.le_refl _)) fun i h hi' hh hk => by
        have h1 := (ho.lt hi' hh).2.1
        have h2 := (p.hdl hk).1
        omega
      have q2 : OwN K.n (F.n + 1) ((F.new ⟨true, t_sfloat32, [.slice (some ⟨G.n, 0, none⟩) xs.length xs.length]⟩).put K.n ⟨true, t_sfloat32, vs ++ [.slice (some ⟨G.n, 0, none⟩) xs.length xs.length]⟩) t_float32 _ _ :=
        OwN_put ((q.ext (.new _ ⟨true, t_sfloat32, [.slice (some ⟨G.n, 0, none⟩) xs.length xs.length]⟩)).wide (Nat.le_refl _) (by omega)) ((new_old _ _ _ (by omega)).trans hbF) (by decide)
      simp (disch := first | assumption | omega | rfl | (refine id ?_; simp only [gxD, ne_eq, reduceCtorEq, not_false_eq_true, Nat.reduceAdd, *]; done) | (refine id ?_; simp only [gxD]; omega)) only [↓gxPre, gxPost, ↓reduceIte, Nat.reduceEqDiff, reduceCtorEq, Nat.reduceAdd, Int.lt_irrefl, hbF]
      refine ⟨by rw [cntS_succ, ← hbb, ← hxs]; simp, by omega, f1, _, rfl, ?_⟩
      simp only [outS_succ, List.map_append, List.map_cons, List.map_nil]
      exact q2
    · rintro i F hi ⟨hF, eF, hc⟩
      have huF := huK.ext (hE.trans eF)
      have hck := cntK_le b a1 xs i
      have hat := updF_at (g := fun k => outX b a1 (xs.getD k 0)) hi
      have lo : ((updF (fun k => outX b a1 (xs.getD k 0)) xs i).map fv).length = xs.length := by rw [lMapN, updF_length]
      have hset : ((updF (fun k => outX b a1 (xs.getD k 0)) xs i).map fv).set i (.float .f32 (outX b a1 (xs.getD i 0))) = (updF (fun k => outX b a1 (xs.getD k 0)) xs (i + 1)).map fv := by
        rw [fv_set']; exact congrArg (List.map fv) (updF_set (g := fun k => outX b a1 (xs.getD k 0)))
      have hsame : outQ b a1 (xs.getD i 0) = false → updF (fun k => outX b a1 (xs.getD k 0)) xs (i + 1) = updF (fun k => outX b a1 (xs.getD k 0)) xs i := fun h => by
        rw [← updF_set]
        have : outX b a1 (xs.getD i 0) = (updF (fun k => outX b a1 (xs.getD k 0)) xs i).getD i 0 := by
          rw [updF, getD_range_map hi, if_neg (by omega)]
          unfold outX
          rw [h]; rfl
        try dsimp only
        rw [this]
        exact set_getD_self (by rw [updF_length]; exact hi)
      by_cases hb1 : (j : Int) < (xs0.length : Int) - 1
      · have hbt : b = true := by rw [hbb]; exact decide_eq_true (by omega)
        simp (disch := first | assumption | omega | rfl | (refine id ?_; simp only [gxD, ne_eq, reduceCtorEq, not_false_eq_true, Nat.reduceAdd, *]; done) | (refine id ?_; simp only [gxD]; omega)) only [↓gxPre, gxPost, ↓reduceIte, Nat.reduceEqDiff, reduceCtorEq, Nat.reduceAdd, hc, hat, huF.len, hul, hb1]
        refine callR_pure i_size_ok (by first | exact .inl rfl | (simp (disch := first | assumption | omega | rfl | (refine id ?_; simp only [gxD, ne_eq, reduceCtorEq, not_false_eq_true, Nat.reduceAdd, *]; done) | (refine id ?_; simp only [gxD]; omega)) only [↓gxPre, gxPost, ↓reduceIte, Nat.reduceEqDiff, reduceCtorEq, Nat.reduceAdd, *]; done)) ?_
        cases hq : fcB .leq .f32 (sizeF (xs.getD i 0)) a1
        · have hQ : outQ b a1 (xs.getD i 0) = false := by unfold outQ; rw [hbt, hq]; rfl
          simp (disch := first | assumption | omega | rfl | (refine id ?_; simp only [gxD, ne_eq, reduceCtorEq, not_false_eq_true, Nat.reduceAdd, *]; done) | (refine id ?_; simp only [gxD]; omega)) only [↓gxPre, gxPost, ↓reduceIte, Nat.reduceEqDiff, reduceCtorEq, Nat.reduceAdd, hq]
          refine ⟨by rw [cntK_succ, hQ]; simp, hF, eF, ?_⟩
          rw [hsame hQ]; exact hc
        · have hQ : outQ b a1 (xs.getD i 0) = true := by unfold outQ; rw [hbt, hq]; rfl
          have hz : outX b a1 (xs.getD i 0) = 0 := by unfold outX; rw [hQ]; rfl
          rw [hz] at hset
          simp (disch := first | assumption | omega | rfl | (refine id ?_; simp only [gxD, ne_eq, reduceCtorEq, not_false_eq_true, Nat.reduceAdd, *]; done) | (refine id ?_; simp only [gxD]; omega)) only [↓gxPre, gxPost, ↓reduceIte, Nat.reduceEqDiff, reduceCtorEq, Nat.reduceAdd, hq, hc]
          refine ⟨by (rw [cntK_succ, hQ]; simp; try omega), by simpa using hF, eF.put (Nat.le_refl _) _, ?_⟩
          first | exact congrArg (fun l => some (Blk.mk true t_float32 l)) hset | (rw [hput_self]; exact congrArg (fun l => some (Blk.mk true t_float32 l)) hset)
      · have hbt : b = false := by rw [hbb]; exact decide_eq_false (by omega)
        have hQ : outQ b a1 (xs.getD i 0) = false := by unfold outQ; rw [hbt]; rfl
        simp (disch := first | assumption | omega | rfl | (refine id ?_; simp only [gxD, ne_eq, reduceCtorEq, not_false_eq_true, Nat.reduceAdd, *]; done) | (refine id ?_; simp only [gxD]; omega)) only [↓gxPre, gxPost, ↓reduceIte, Nat.reduceEqDiff, reduceCtorEq, Nat.reduceAdd, hc, hat, huF.len, hul, hb1]
        refine ⟨by rw [cntK_succ, hQ]; simp, hF, eF, ?_⟩
        first | (rw [hsame hQ]; exact hc) | rw [hsame hQ]
theorem s_SmallOut_law {H : Heap} {v0 : Value} {xs0 : List (List Nat)} {a1 : Nat} (A0 : AS H v0 xs0) (b1 : a1 < 2 ^ 32) :
    ACalls Try.prog n_s_SmallOut [v0, .float .f32 a1] H fun r H' => SmallR H (bandsF xs0 && leastF a1) (cntS a1 xs0 xs0.length) (outS a1 xs0 xs0.length) t_sfloat32 t_float32 r H' := by
  have hm := A0.le
  refine k_s_SmallOut.run rfl ?_
  unfold c_s_SmallOut
  simp (disch := first | assumption | omega | rfl | (refine id ?_; simp only [gxD, ne_eq, reduceCtorEq, not_false_eq_true, Nat.reduceAdd, *]; done) | (refine id ?_; simp only [gxD]; omega)) only [↓gxPre, gxPost, ↓reduceIte, Nat.reduceEqDiff, reduceCtorEq, Nat.reduceAdd]
  refine callR_ext (s_l02Bands_ok A0.rd A0.le) ?_
  intro K n1 bb1
  have eK : Ext H K := ⟨n1, bb1⟩
  cases h1 : bandsF xs0
  · simp (disch := first | assumption | omega | rfl | (refine id ?_; simp only [gxD, ne_eq, reduceCtorEq, not_false_eq_true, Nat.reduceAdd, *]; done) | (refine id ?_; simp only [gxD]; omega)) only [↓gxPre, gxPost, ↓reduceIte, Nat.reduceEqDiff, reduceCtorEq, Nat.reduceAdd]
    exact .no (by simp only [Bool.false_and, Bool.true_and, Bool.and_true, Bool.and_false, Bool.or_true, Bool.true_or, Bool.false_or, Bool.or_false, Bool.and_self, Bool.or_self]) eK
  simp (disch := first | assumption | omega | rfl | (refine id ?_; simp only [gxD, ne_eq, reduceCtorEq, not_false_eq_true, Nat.reduceAdd, *]; done) | (refine id ?_; simp only [gxD]; omega)) only [↓gxPre, gxPost, ↓reduceIte, Nat.reduceEqDiff, reduceCtorEq, Nat.reduceAdd]
  refine callR_pure s_l02Least_ok (.inl rfl) ?_
  cases h2 : leastF a1
  · simp (disch := first | assumption | omega | rfl | (refine id ?_; simp only [gxD, ne_eq, reduceCtorEq, not_false_eq_true, Nat.reduceAdd, *]; done) | (refine id ?_; simp only [gxD]; omega)) only [↓gxPre, gxPost, ↓reduceIte, Nat.reduceEqDiff, reduceCtorEq, Nat.reduceAdd]
    exact .no (by simp only [Bool.false_and, Bool.true_and, Bool.and_true, Bool.and_false, Bool.or_true, Bool.true_or, Bool.false_or, Bool.or_false, Bool.and_self, Bool.or_self]) eK
  obtain ⟨hn1, hn7⟩ := bandsF_len h1
  obtain ⟨us, hu, hul, hus⟩ := A0.rd
  have huK := hu.ext eK
  have hto : offN xs0 xs0.length ≤ 2 ^ 40 := by unfold totL at hm; omega
  simp (disch := first | assumption | omega | rfl | (refine id ?_; simp only [gxD, ne_eq, reduceCtorEq, not_false_eq_true, Nat.reduceAdd, *]; done) | (refine id ?_; simp only [gxD]; omega)) only [↓gxPre, gxPost, ↓reduceIte, Nat.reduceEqDiff, reduceCtorEq, Nat.reduceAdd]
  refine loop_forH xs0.length (fun j => [v0, .float .f32 a1, .slice (some ⟨K.n, 0, none⟩) j j, .int .i64 (cntS a1 xs0 j : Nat), .int .i64 j])
    (fun j G => K.n + 1 ≤ G.n ∧ Ext K G ∧ ∃ vs, G.blk K.n = some ⟨true, t_sfloat32, vs⟩ ∧ OwN K.n G.n G t_float32 vs ((outS a1 xs0 j).map (List.map fv))) rfl
    ⟨by simp only [new_n]; omega, .new _ _, [], new_self _ _, .nil⟩ ?_ ?_
  · rintro G ⟨hG, hE, vs, hb, ho⟩
    have huG := huK.ext hE
    simp (disch := first | assumption | omega | rfl | (refine id ?_; simp only [gxD, ne_eq, reduceCtorEq, not_false_eq_true, Nat.reduceAdd, *]; done) | (refine id ?_; simp only [gxD]; omega)) only [↓gxPre, gxPost, ↓reduceIte, Nat.reduceEqDiff, reduceCtorEq, Nat.reduceAdd, huG.len, hul, Int.lt_irrefl]
    have hlv : vs.length = xs0.length := by have := ho.1; simpa [outS_len] using this
    refine .yes rfl (eK.trans hE) ⟨vs, .mk hb hlv (by first | omega | (simp only [new_n, put_n]; omega)) (by first | omega | (simp only [new_n, put_n]; omega)) (by first | omega | (simp only [new_n, put_n]; omega)), ho.wide eK.n (Nat.le_refl _)⟩ (by rw [outS_tot]; exact hm)
  · rintro j G hj ⟨hG, hE, vs, hb, ho⟩
    have hlv : vs.length = j := by have := ho.1; simpa [outS_len] using this
    have huG := huK.ext hE
    obtain ⟨xs, hxs⟩ : ∃ xs, xs = xs0.getD j [] := ⟨_, rfl⟩
    have hlx : xs.length ≤ 2 ^ 40 := by rw [hxs]; exact totL_row hm j
    have hfs : FS G (us.getD j undef) xs := by rw [hxs]; exact ((hus j hj).ext eK).ext hE
    have hwx : W32 xs := by rw [hxs]; exact A0.w j
    have hcl := cntS_le a1 xs0 j (by omega)
    have hoj : offN xs0 j ≤ 2 ^ 40 := by
      have h3 := offN_row hj
      omega
    obtain ⟨b, hbb⟩ : ∃ b, b = decide (j + 1 < xs0.length) := ⟨_, rfl⟩
    have huN := huG.ext (.new G ⟨true, t_float32, []⟩)
    have hr := (hfs.ext (.new G ⟨true, t_float32, []⟩)).read
    simp (disch := first | assumption | omega | rfl | (refine id ?_; simp only [gxD, ne_eq, reduceCtorEq, not_false_eq_true, Nat.reduceAdd, *]; done) | (refine id ?_; simp only [gxD]; omega)) only [↓gxPre, gxPost, ↓reduceIte, Nat.reduceEqDiff, reduceCtorEq, Nat.reduceAdd, huG.len, huN.ia, huN.ldD, hul, hr, List.nil_append, lMapN]
    have hfin : ∀ F : Heap, F.n = G.n + 1 → Ext G F → F.blk G.n = some ⟨true, t_float32, (bandS a1 xs0 j).map fv⟩ →
        OwN K.n (F.n + 1) ((F.new ⟨true, t_sfloat32, [.slice (some ⟨G.n, 0, none⟩) xs.length xs.length]⟩).put K.n ⟨true, t_sfloat32, vs ++ [.slice (some ⟨G.n, 0, none⟩) xs.length xs.length]⟩) t_float32 (vs ++ [.slice (some ⟨G.n, 0, none⟩) xs.length xs.length]) ((outS a1 xs0 (j + 1)).map (List.map fv)) := by
      intro F hF eF hc
      have hbF := (eF.blk _ (by omega)).trans hb
      have p : OwL G.n F.n F t_float32 (.slice (some ⟨G.n, 0, none⟩) xs.length xs.length) ((bandS a1 xs0 j).map fv) := .mk hc (by rw [lMapN, bandS_len, hxs]) (by omega) (by omega) (by omega)
      have q := ((ho.ext eF).wide (Nat.le_refl _) eF.n).snoc (p.wide (by omega) (Nat.le_refl _)) fun i h hi' hh hk => by
        have h1 := (ho.lt hi' hh).2.1
        have h2 := (p.hdl hk).1
        omega
      have q2 : OwN K.n (F.n + 1) ((F.new ⟨true, t_sfloat32, [.slice (some ⟨G.n, 0, none⟩) xs.length xs.length]⟩).put K.n ⟨true, t_sfloat32, vs ++ [.slice (some ⟨G.n, 0, none⟩) xs.length xs.length]⟩) t_float32 _ _ :=
        OwN_put ((q.ext (.new _ ⟨true, t_sfloat32, [.slice (some ⟨G.n, 0, none⟩) xs.length xs.length]⟩)).wide (Nat.le_refl _) (by omega)) ((new_old _ _ _ (by omega)).trans hbF) (by decide)
      simp only [outS_succ, List.map_append, List.map_cons, List.map_nil]
      exact q2
    cases hbt : b
    · have hj1 : ¬ ((j : Int) + 1 < xs0.length) := by
        intro h
        have : b = true := by rw [hbb]; exact decide_eq_true (by omega)
        rw [hbt] at this; cases this
      have hband : bandS a1 xs0 j = xs := by
        unfold bandS
        rw [← hbb, hbt, ← hxs]
        have : (outX false a1) = id := by funext x; rfl
        rw [this, List.map_id]
      have hcnt : cntS a1 xs0 (j + 1) = cntS a1 xs0 j := by rw [cntS_succ, ← hbb, hbt, cntK_no]; rfl
      have huP := huG.ext (.new G ⟨true, t_float32, xs.map fv⟩)
      refine loop_forH 0 (fun i => [v0, .float .f32 a1, .slice (some ⟨K.n, 0, none⟩) j j, .int .i64 (cntS a1 xs0 j : Nat), .int .i64 j, .slice (some ⟨G.n, 0, none⟩) xs.length xs.length, .int .i64 (i : Nat)])
        (fun i F => F.n = G.n + 1 ∧ Ext G F ∧ F.blk G.n = some ⟨true, t_float32, xs.map fv⟩) rfl
        ⟨rfl, .new _ _, new_self _ _⟩ ?_ (fun i F hi => absurd hi (Nat.not_lt_zero _))
      rintro F ⟨hF, eF, hc⟩
      have huF := huG.ext eF
      have hbF := (eF.blk _ (by omega)).trans hb
      obtain ⟨f1, f2, f3, f4⟩ := push_at (x := .slice (some ⟨G.n, 0, none⟩) xs.length xs.length) (hE.trans eF) hbF (Nat.le_refl _) (by omega) rfl
      by_cases hx0 : (0 : Int) < xs.length
      · simp (disch := first | assumption | omega | rfl | (refine id ?_; simp only [gxD, ne_eq, reduceCtorEq, not_false_eq_true, Nat.reduceAdd, *]; done) | (refine id ?_; simp only [gxD]; omega)) only [↓gxPre, gxPost, ↓reduceIte, Nat.reduceEqDiff, reduceCtorEq, Nat.reduceAdd, huF.len, hul, hj1, hx0, hbF]
        refine ⟨by rw [hcnt]; simp, by omega, f1, _, rfl, hfin F hF eF (by rw [hband]; exact hc)⟩
      · simp (disch := first | assumption | omega | rfl | (refine id ?_; simp only [gxD, ne_eq, reduceCtorEq, not_false_eq_true, Nat.reduceAdd, *]; done) | (refine id ?_; simp only [gxD]; omega)) only [↓gxPre, gxPost, ↓reduceIte, Nat.reduceEqDiff, reduceCtorEq, Nat.reduceAdd, huF.len, hul, hj1, hx0, hbF]
        refine ⟨by rw [hcnt]; simp, by omega, f1, _, rfl, hfin F hF eF (by rw [hband]; exact hc)⟩
    · have hj1 : (j : Int) + 1 < xs0.length := by
        have : decide (j + 1 < xs0.length) = true := by rw [← hbb]; exact hbt
        have := of_decide_eq_true this
        omega
      have hcnt : cntS a1 xs0 (j + 1) = cntS a1 xs0 j + cntK true a1 xs xs.length := by rw [cntS_succ, ← hbb, hbt, ← hxs]
      refine loop_forH xs.length (fun i => [v0, .float .f32 a1, .slice (some ⟨K.n, 0, none⟩) j j, .int .i64 ((cntS a1 xs0 j + cntK true a1 xs i : Nat) : Int), .int .i64 j, .slice (some ⟨G.n, 0, none⟩) xs.length xs.length, .int .i64 (i : Nat)])
        (fun i F => F.n = G.n + 1 ∧ Ext G F ∧ F.blk G.n = some ⟨true, t_float32, (updF (fun k => outX true a1 (xs.getD k 0)) xs i).map fv⟩) (by simp [cntK, foldI_zero])
        ⟨rfl, .new _ _, by rw [updF_zero]; exact new_self _ _⟩ ?_ ?_
      · rintro F ⟨hF, eF, hc⟩
        have huF := huG.ext eF
        have hbF := (eF.blk _ (by omega)).trans hb
        have hall : updF (fun k => outX true a1 (xs.getD k 0)) xs xs.length = bandS a1 xs0 j := by
          rw [updF_all, range_getD_map, bandS, ← hbb, hbt, hxs]
        rw [hall] at hc
        obtain ⟨f1, f2, f3, f4⟩ := push_at (x := .slice (some ⟨G.n, 0, none⟩) xs.length xs.length) (hE.trans eF) hbF (Nat.le_refl _) (by omega) rfl
        simp (disch := first | assumption | omega | rfl | (refine id ?_; simp only [gxD, ne_eq, reduceCtorEq, not_false_eq_true, Nat.reduceAdd, *]; done) | (refine id ?_; simp only [gxD]; omega)) only [↓gxPre, gxPost, ↓reduceIte, Nat.reduceEqDiff, reduceCtorEq, Nat.reduceAdd, Int.lt_irrefl, hbF]
        exact ⟨by rw [hcnt]; simp, by omega, f1, _, rfl, hfin F hF eF hc⟩
      · rintro i F hi ⟨hF, eF, hc⟩
        have huF := huK.ext (hE.trans eF)
        have hck := cntK_le true a1 xs i
        have hat := updF_at (g := fun k => outX true a1 (xs.getD k 0)) hi
        have lo : ((updF (fun k => outX true a1 (xs.getD k 0)) xs i).map fv).length = xs.length := by rw [lMapN, updF_length]
        have hset : ((updF (fun k => outX true a1 (xs.getD k 0)) xs i).map fv).set i (.float .f32 (outX true a1 (xs.getD i 0))) = (updF (fun k => outX true a1 (xs.getD k 0)) xs (i + 1)).map fv := by
          rw [fv_set']; exact congrArg (List.map fv) (updF_set (g := fun k => outX true a1 (xs.getD k 0)))
        have hsame : outQ true a1 (xs.getD i 0) = false → updF (fun k => outX true a1 (xs.getD k 0)) xs (i + 1) = updF (fun k => outX true a1 (xs.getD k 0)) xs i := fun h => by
          rw [← updF_set]
          have : outX true a1 (xs.getD i 0) = (updF (fun k => outX true a1 (xs.getD k 0)) xs i).getD i 0 := by
            rw [updF, getD_range_map hi, if_neg (by omega)]
            unfold outX
            rw [h]; rfl
          try dsimp only
          rw [this]
          exact set_getD_self (by rw [updF_length]; exact hi)
        simp (disch := first | assumption | omega | rfl | (refine id ?_; simp only [gxD, ne_eq, reduceCtorEq, not_false_eq_true, Nat.reduceAdd, *]; done) | (refine id ?_; simp only [gxD]; omega)) only [↓gxPre, gxPost, ↓reduceIte, Nat.reduceEqDiff, reduceCtorEq, Nat.reduceAdd, hc, hat, huF.len, hul, hj1]
        refine callR_pure (s_l02Size_ok (hwx i)) (by first | exact .inl rfl | (simp (disch := first | assumption | omega | rfl | (refine id ?_; simp only [gxD, ne_eq, reduceCtorEq, not_false_eq_true, Nat.reduceAdd, *]; done) | (refine id ?_; simp only [gxD]; omega)) only [↓gxPre, gxPost, ↓reduceIte, Nat.reduceEqDiff, reduceCtorEq, Nat.reduceAdd, *]; done)) ?_
        cases hq : fcB .leq .f32 (sizeF (xs.getD i 0)) a1
        · have hQ : outQ true a1 (xs.getD i 0) = false := by unfold outQ; rw [hq]; rfl
          simp (disch := first | assumption | omega | rfl | (refine id ?_; simp only [gxD, ne_eq, reduceCtorEq, not_false_eq_true, Nat.reduceAdd, *]; done) | (refine id ?_; simp only [gxD]; omega)) only [↓gxPre, gxPost, ↓reduceIte, Nat.reduceEqDiff, reduceCtorEq, Nat.reduceAdd, hq]
          refine ⟨by rw [cntK_succ, hQ]; simp, hF, eF, ?_⟩
          rw [hsame hQ]; exact hc
        · have hQ : outQ true a1 (xs.getD i 0) = true := by unfold outQ; rw [hq]; rfl
          have hz : outX true a1 (xs.getD i 0) = 0 := by unfold outX; rw [hQ]; rfl
          rw [hz] at hset
          simp (disch := first | assumption | omega | rfl | (refine id ?_; simp only [gxD, ne_eq, reduceCtorEq, not_false_eq_true, Nat.reduceAdd, *]; done) | (refine id ?_; simp only [gxD]; omega)) only [↓gxPre, gxPost, ↓reduceIte, Nat.reduceEqDiff, reduceCtorEq, Nat.reduceAdd, hq, hc]
          refine ⟨by (rw [cntK_succ, hQ]; simp; try omega), by simpa using hF, eF.put (Nat.le_refl _) _, ?_⟩
          first | exact congrArg (fun l => some (Blk.mk true t_float32 l)) hset | (rw [hput_self]; exact congrArg (fun l => some (Blk.mk true t_float32 l)) hset)
end Go.Proofs.Ytkojmlpaamdhoad
