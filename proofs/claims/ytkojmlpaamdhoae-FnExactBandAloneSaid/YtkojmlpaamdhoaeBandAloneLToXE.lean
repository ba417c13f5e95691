/- What the functions of the program do: contracts that are proved. -/
import Derived.Test.YtkojmlpaamdhoaeBandAloneAToK
namespace Go.Proofs.Ytkojmlpaamdhoae
open Go.Gx
set_option maxRecDepth 100000
set_option linter.unusedSimpArgs false
set_option linter.unusedVariables false

theorem w_szBands_ow {H : Heap} {v u : Value} {xs : List Nat} {yss : List (List Nat)} {n : Int} (hv : FS H v xs) (hu : SS H u yss) (h0 : 0 ≤ n) (h1 : n ≤ 1048576) (hx : xs.length ≤ 9223372036854775807) (hy : yss.length ≤ 9223372036854775807) (hr : ∀ j, (yss.getD j []).length ≤ 9223372036854775807) :
    ACalls Try.prog n_w_szBands [.agg #[v, u], .int .i64 n] H fun r H' => r = .int .i64 (if n < (xs.length + totL yss : Nat) then -1 else n - (xs.length + totL yss : Nat)) ∧ Ext H H' := by
  refine k_w_szBands.run rfl ?_
  unfold c_w_szBands
  have hv1 := hv.one
  have hu1 := hu.one'
  by_cases hlt : n < xs.length
  · have : n < (xs.length + totL yss : Nat) := by omega
    ((try simp (disch := first | assumption | omega | rfl | (refine id ?_; simp only [gxD, ne_eq, reduceCtorEq, not_false_eq_true, Nat.reduceAdd, *]; done) | (refine id ?_; simp only [gxD]; omega)) only [↓gxPre, gxPost, ↓reduceIte, Nat.reduceEqDiff, reduceCtorEq, Nat.reduceAdd, if_pos hlt, if_pos this, Int.reduceLT, *]); repeat' (first | (refine grdR_split (fun _ => ?_) (fun _ => ?_) <;> simp (disch := first | assumption | omega | rfl | (refine id ?_; simp only [gxD, ne_eq, reduceCtorEq, not_false_eq_true, Nat.reduceAdd, *]; done) | (refine id ?_; simp only [gxD]; omega)) only [↓gxPre, gxPost, ↓reduceIte, Nat.reduceEqDiff, reduceCtorEq, Nat.reduceAdd, if_pos hlt, if_pos this, Int.reduceLT, *]) | (refine condR_split (fun _ => ?_) (fun _ => ?_) <;> simp (disch := first | assumption | omega | rfl | (refine id ?_; simp only [gxD, ne_eq, reduceCtorEq, not_false_eq_true, Nat.reduceAdd, *]; done) | (refine id ?_; simp only [gxD]; omega)) only [↓gxPre, gxPost, ↓reduceIte, Nat.reduceEqDiff, reduceCtorEq, Nat.reduceAdd, if_pos hlt, if_pos this, Int.reduceLT, *]) | (refine callR_pure (w_szFloat32S_ok (hv.ext ⟨by first | omega | (simp only [new_n, put_n]; omega) | (simp only [new_n, put_n] at *; omega), fun i hi => by simp (disch := first | assumption | omega | rfl | (refine id ?_; simp only [gxD, ne_eq, reduceCtorEq, not_false_eq_true, Nat.reduceAdd, *]; done) | (refine id ?_; simp only [gxD]; omega)) only [↓gxPre, gxPost, ↓reduceIte, Nat.reduceEqDiff, reduceCtorEq, Nat.reduceAdd, *]⟩) h0 h1 hx) (by first | exact Or.inl rfl | (simp (disch := first | assumption | omega | rfl | (refine id ?_; simp only [gxD, ne_eq, reduceCtorEq, not_false_eq_true, Nat.reduceAdd, *]; done) | (refine id ?_; simp only [gxD]; omega)) only [↓gxPre, gxPost, ↓reduceIte, Nat.reduceEqDiff, reduceCtorEq, Nat.reduceAdd, if_pos hlt, if_pos this, Int.reduceLT, *]; done)) ?_; simp (disch := first | assumption | omega | rfl | (refine id ?_; simp only [gxD, ne_eq, reduceCtorEq, not_false_eq_true, Nat.reduceAdd, *]; done) | (refine id ?_; simp only [gxD]; omega)) only [↓gxPre, gxPost, ↓reduceIte, Nat.reduceEqDiff, reduceCtorEq, Nat.reduceAdd, if_pos hlt, if_pos this, Int.reduceLT, *])))
    exact ⟨by first | omega | (simp only [new_n, put_n]; omega) | (simp only [new_n, put_n] at *; omega), fun i hi => by simp (disch := first | assumption | omega | rfl | (refine id ?_; simp only [gxD, ne_eq, reduceCtorEq, not_false_eq_true, Nat.reduceAdd, *]; done) | (refine id ?_; simp only [gxD]; omega)) only [↓gxPre, gxPost, ↓reduceIte, Nat.reduceEqDiff, reduceCtorEq, Nat.reduceAdd, *]⟩
  have h3 : ¬ (n - xs.length < 0) := by omega
  ((try simp (disch := first | assumption | omega | rfl | (refine id ?_; simp only [gxD, ne_eq, reduceCtorEq, not_false_eq_true, Nat.reduceAdd, *]; done) | (refine id ?_; simp only [gxD]; omega)) only [↓gxPre, gxPost, ↓reduceIte, Nat.reduceEqDiff, reduceCtorEq, Nat.reduceAdd, h3, if_neg hlt, *]); repeat' (first | (refine grdR_split (fun _ => ?_) (fun _ => ?_) <;> simp (disch := first | assumption | omega | rfl | (refine id ?_; simp only [gxD, ne_eq, reduceCtorEq, not_false_eq_true, Nat.reduceAdd, *]; done) | (refine id ?_; simp only [gxD]; omega)) only [↓gxPre, gxPost, ↓reduceIte, Nat.reduceEqDiff, reduceCtorEq, Nat.reduceAdd, h3, if_neg hlt, *]) | (refine condR_split (fun _ => ?_) (fun _ => ?_) <;> simp (disch := first | assumption | omega | rfl | (refine id ?_; simp only [gxD, ne_eq, reduceCtorEq, not_false_eq_true, Nat.reduceAdd, *]; done) | (refine id ?_; simp only [gxD]; omega)) only [↓gxPre, gxPost, ↓reduceIte, Nat.reduceEqDiff, reduceCtorEq, Nat.reduceAdd, h3, if_neg hlt, *]) | (refine callR_pure (w_szFloat32S_ok (hv.ext ⟨by first | omega | (simp only [new_n, put_n]; omega) | (simp only [new_n, put_n] at *; omega), fun i hi => by simp (disch := first | assumption | omega | rfl | (refine id ?_; simp only [gxD, ne_eq, reduceCtorEq, not_false_eq_true, Nat.reduceAdd, *]; done) | (refine id ?_; simp only [gxD]; omega)) only [↓gxPre, gxPost, ↓reduceIte, Nat.reduceEqDiff, reduceCtorEq, Nat.reduceAdd, *]⟩) h0 h1 hx) (by first | exact Or.inl rfl | (simp (disch := first | assumption | omega | rfl | (refine id ?_; simp only [gxD, ne_eq, reduceCtorEq, not_false_eq_true, Nat.reduceAdd, *]; done) | (refine id ?_; simp only [gxD]; omega)) only [↓gxPre, gxPost, ↓reduceIte, Nat.reduceEqDiff, reduceCtorEq, Nat.reduceAdd, h3, if_neg hlt, *]; done)) ?_; simp (disch := first | assumption | omega | rfl | (refine id ?_; simp only [gxD, ne_eq, reduceCtorEq, not_false_eq_true, Nat.reduceAdd, *]; done) | (refine id ?_; simp only [gxD]; omega)) only [↓gxPre, gxPost, ↓reduceIte, Nat.reduceEqDiff, reduceCtorEq, Nat.reduceAdd, h3, if_neg hlt, *])))
  refine callR_new ?_
  intro G e hb nn
  refine callR_ext (w_szFloat32SS_ow (hu.ext e) (by omega) (by omega) hy hr) ?_
  intro H1 n1 b1
  by_cases hlt' : n < (xs.length + totL yss : Nat)
  · have : n - xs.length < (totL yss : Nat) := by omega
    simp (disch := first | assumption | omega | rfl | (refine id ?_; simp only [gxD, ne_eq, reduceCtorEq, not_false_eq_true, Nat.reduceAdd, *]; done) | (refine id ?_; simp only [gxD]; omega)) only [↓gxPre, gxPost, ↓reduceIte, Nat.reduceEqDiff, reduceCtorEq, Nat.reduceAdd, if_pos this, if_pos hlt', Int.reduceLT]
    exact e.trans ⟨n1, b1⟩
  · have : ¬ (n - xs.length < (totL yss : Nat)) := by omega
    have h4 : ¬ (n - xs.length - (totL yss : Nat) < 0) := by omega
    simp (disch := first | assumption | omega | rfl | (refine id ?_; simp only [gxD, ne_eq, reduceCtorEq, not_false_eq_true, Nat.reduceAdd, *]; done) | (refine id ?_; simp only [gxD]; omega)) only [↓gxPre, gxPost, ↓reduceIte, Nat.reduceEqDiff, reduceCtorEq, Nat.reduceAdd, if_neg this, if_neg hlt', h4]
    exact ⟨by congr 1; omega, e.trans ⟨n1, b1⟩⟩
theorem w_eqBands_ow {H : Heap} {v u v' u' : Value} {xs : List Nat} {yss : List (List Nat)} (hv : FS H v xs) (hu : SS H u yss) (hv' : FS H v' xs) (hu' : SS H u' yss) (hn : xs.length ≤ 2 ^ 40) (hm : totL yss ≤ 2 ^ 40) :
    ACalls Try.prog n_w_eqBands [.agg #[v, u], .agg #[v', u']] H fun r H' => r = .bool true ∧ Ext H H' := by
  refine k_w_eqBands.run rfl ?_
  unfold c_w_eqBands
  have o1 := hv.one
  have o2 := hu.one'
  have o3 := hv'.one
  have o4 := hu'.one'
  ((try simp (disch := first | assumption | omega | rfl | (refine id ?_; simp only [gxD, ne_eq, reduceCtorEq, not_false_eq_true, Nat.reduceAdd, *]; done) | (refine id ?_; simp only [gxD]; omega)) only [↓gxPre, gxPost, ↓reduceIte, Nat.reduceEqDiff, reduceCtorEq, Nat.reduceAdd, *]); repeat' (first | (refine grdR_split (fun _ => ?_) (fun _ => ?_) <;> simp (disch := first | assumption | omega | rfl | (refine id ?_; simp only [gxD, ne_eq, reduceCtorEq, not_false_eq_true, Nat.reduceAdd, *]; done) | (refine id ?_; simp only [gxD]; omega)) only [↓gxPre, gxPost, ↓reduceIte, Nat.reduceEqDiff, reduceCtorEq, Nat.reduceAdd, *]) | (refine condR_split (fun _ => ?_) (fun _ => ?_) <;> simp (disch := first | assumption | omega | rfl | (refine id ?_; simp only [gxD, ne_eq, reduceCtorEq, not_false_eq_true, Nat.reduceAdd, *]; done) | (refine id ?_; simp only [gxD]; omega)) only [↓gxPre, gxPost, ↓reduceIte, Nat.reduceEqDiff, reduceCtorEq, Nat.reduceAdd, *]) | (refine callR_pure (w_eqFloat32S_ok (hv.ext ⟨by first | omega | (simp only [new_n, put_n]; omega) | (simp only [new_n, put_n] at *; omega), fun i hi => by simp (disch := first | assumption | omega | rfl | (refine id ?_; simp only [gxD, ne_eq, reduceCtorEq, not_false_eq_true, Nat.reduceAdd, *]; done) | (refine id ?_; simp only [gxD]; omega)) only [↓gxPre, gxPost, ↓reduceIte, Nat.reduceEqDiff, reduceCtorEq, Nat.reduceAdd, *]⟩) (hv'.ext ⟨by first | omega | (simp only [new_n, put_n]; omega) | (simp only [new_n, put_n] at *; omega), fun i hi => by simp (disch := first | assumption | omega | rfl | (refine id ?_; simp only [gxD, ne_eq, reduceCtorEq, not_false_eq_true, Nat.reduceAdd, *]; done) | (refine id ?_; simp only [gxD]; omega)) only [↓gxPre, gxPost, ↓reduceIte, Nat.reduceEqDiff, reduceCtorEq, Nat.reduceAdd, *]⟩) hn) (by first | exact Or.inl rfl | (simp (disch := first | assumption | omega | rfl | (refine id ?_; simp only [gxD, ne_eq, reduceCtorEq, not_false_eq_true, Nat.reduceAdd, *]; done) | (refine id ?_; simp only [gxD]; omega)) only [↓gxPre, gxPost, ↓reduceIte, Nat.reduceEqDiff, reduceCtorEq, Nat.reduceAdd, *]; done)) ?_; simp (disch := first | assumption | omega | rfl | (refine id ?_; simp only [gxD, ne_eq, reduceCtorEq, not_false_eq_true, Nat.reduceAdd, *]; done) | (refine id ?_; simp only [gxD]; omega)) only [↓gxPre, gxPost, ↓reduceIte, Nat.reduceEqDiff, reduceCtorEq, Nat.reduceAdd, *])))
  have e : Ext H ((H.new ⟨true, t_Bands, [v, u]⟩).new ⟨true, t_Bands, [v', u']⟩) := (Ext.new _ _).trans (.new _ _)
  refine callR_ext (w_eqFloat32SS_ow (hu.ext e) (hu'.ext e) hm) ?_
  intro H1 n1 b1
  simp (disch := first | assumption | omega | rfl | (refine id ?_; simp only [gxD, ne_eq, reduceCtorEq, not_false_eq_true, Nat.reduceAdd, *]; done) | (refine id ?_; simp only [gxD]; omega)) only [↓gxPre, gxPost, ↓reduceIte, Nat.reduceEqDiff, reduceCtorEq, Nat.reduceAdd]
  exact e.trans ⟨n1, b1⟩
theorem w_toBands_ow {H : Heap} {v u : Value} {xs : List Nat} {yss : List (List Nat)} (hv : FS H v xs) (hu : SS H u yss) (hn : xs.length ≤ 2 ^ 40) (hm : totL yss ≤ 2 ^ 40) :
    ACalls Try.prog n_w_toBands [.agg #[v, u]] H fun r H' => Ext H H' ∧ ∃ c d, r = .agg #[c, d] ∧ OwB H.n H'.n H' t_sfloat32 t_float32 c d (xs.map fv) (yss.map (List.map fv)) := by
  refine k_w_toBands.run rfl ?_
  unfold c_w_toBands
  have o1 := hv.one
  have o2 := hu.one'
  ((try simp (disch := first | assumption | omega | rfl | (refine id ?_; simp only [gxD, ne_eq, reduceCtorEq, not_false_eq_true, Nat.reduceAdd, *]; done) | (refine id ?_; simp only [gxD]; omega)) only [↓gxPre, gxPost, ↓reduceIte, Nat.reduceEqDiff, reduceCtorEq, Nat.reduceAdd, *]); repeat' (first | (refine grdR_split (fun _ => ?_) (fun _ => ?_) <;> simp (disch := first | assumption | omega | rfl | (refine id ?_; simp only [gxD, ne_eq, reduceCtorEq, not_false_eq_true, Nat.reduceAdd, *]; done) | (refine id ?_; simp only [gxD]; omega)) only [↓gxPre, gxPost, ↓reduceIte, Nat.reduceEqDiff, reduceCtorEq, Nat.reduceAdd, *]) | (refine condR_split (fun _ => ?_) (fun _ => ?_) <;> simp (disch := first | assumption | omega | rfl | (refine id ?_; simp only [gxD, ne_eq, reduceCtorEq, not_false_eq_true, Nat.reduceAdd, *]; done) | (refine id ?_; simp only [gxD]; omega)) only [↓gxPre, gxPost, ↓reduceIte, Nat.reduceEqDiff, reduceCtorEq, Nat.reduceAdd, *])))
  refine callR_of (w_toFloat32S_ok (hv.ext ⟨by first | omega | (simp only [new_n, put_n]; omega) | (simp only [new_n, put_n] at *; omega), fun i hi => by simp (disch := first | assumption | omega | rfl | (refine id ?_; simp only [gxD, ne_eq, reduceCtorEq, not_false_eq_true, Nat.reduceAdd, *]; done) | (refine id ?_; simp only [gxD]; omega)) only [↓gxPre, gxPost, ↓reduceIte, Nat.reduceEqDiff, reduceCtorEq, Nat.reduceAdd, *]⟩) hn) ?_
  rintro _ _ ⟨rfl, rfl⟩
  simp (disch := first | assumption | omega | rfl | (refine id ?_; simp only [gxD, ne_eq, reduceCtorEq, not_false_eq_true, Nat.reduceAdd, *]; done) | (refine id ?_; simp only [gxD]; omega)) only [↓gxPre, gxPost, ↓reduceIte, Nat.reduceEqDiff, reduceCtorEq, Nat.reduceAdd]
  refine callR_of (w_toFloat32SS_ow (hu.ext ⟨by first | omega | (simp only [new_n, put_n]; omega) | (simp only [new_n, put_n] at *; omega), fun i hi => by simp (disch := first | assumption | omega | rfl | (refine id ?_; simp only [gxD, ne_eq, reduceCtorEq, not_false_eq_true, Nat.reduceAdd, *]; done) | (refine id ?_; simp only [gxD]; omega)) only [↓gxPre, gxPost, ↓reduceIte, Nat.reduceEqDiff, reduceCtorEq, Nat.reduceAdd, *]⟩) hm) ?_
  rintro r2 H2 ⟨e2, o⟩
  have n2 := e2.n
  have b2 := e2.blk
  have or := o.one
  simp only [new_n, put_n] at n2 b2
  simp (disch := first | assumption | omega | rfl | (refine id ?_; simp only [gxD, ne_eq, reduceCtorEq, not_false_eq_true, Nat.reduceAdd, *]; done) | (refine id ?_; simp only [gxD]; omega)) only [↓gxPre, gxPost, ↓reduceIte, Nat.reduceEqDiff, reduceCtorEq, Nat.reduceAdd, *]
  obtain ⟨vs, od, on⟩ := o
  simp only [new_n, put_n] at od on
  have hx1 : H2.blk (H.n + 1 + 1 + 1) = some ⟨true, t_float32, xs.map fv⟩ := by simp (disch := first | assumption | omega | rfl | (refine id ?_; simp only [gxD, ne_eq, reduceCtorEq, not_false_eq_true, Nat.reduceAdd, *]; done) | (refine id ?_; simp only [gxD]; omega)) only [↓gxPre, gxPost, ↓reduceIte, Nat.reduceEqDiff, reduceCtorEq, Nat.reduceAdd, b2]
  refine ⟨⟨by simp only [put_n]; omega, fun i hi => by rw [hput_other _ _ _ _ (by omega), hput_other _ _ _ _ (by omega), b2 i (by omega)]; simp (disch := first | assumption | omega | rfl | (refine id ?_; simp only [gxD, ne_eq, reduceCtorEq, not_false_eq_true, Nat.reduceAdd, *]; done) | (refine id ?_; simp only [gxD]; omega)) only [↓gxPre, gxPost, ↓reduceIte, Nat.reduceEqDiff, reduceCtorEq, Nat.reduceAdd]⟩, _, _, rfl, vs, ?_, ?_⟩
  · refine (od.wide (by omega) (Nat.le_refl _)).keep (Nat.le_refl _) fun h hh => ?_
    have := (od.hdl hh).1
    rw [hput_other _ _ _ _ (by omega), hput_other _ _ _ _ (by omega)]
  · refine OwN.cons (.mk (by rw [hput_other _ _ _ _ (by omega), hput_other _ _ _ _ (by omega), hx1]) (by simp) (by omega) (by omega) (by simp only [put_n]; omega)) ((on.wide (by omega) (Nat.le_refl _)).keep (Nat.le_refl _) fun i h hi hh => ?_) fun i h hi hh hk => ?_
    · have := (on.lt hi hh).1
      rw [hput_other _ _ _ _ (by omega), hput_other _ _ _ _ (by omega)]
    · have := (on.lt hi hh).1
      simp only [hdl, Option.some.injEq] at hk
      omega
theorem w_markBands_ow {lo hi : Nat} {H : Heap} {c d : Value} {l : List Value} {ls : List (List Value)} {k : Int} (o : OwB lo hi H t_sfloat32 t_float32 c d l ls) (h0 : 0 ≤ k) (h1 : k ≤ 2 ^ 59) (hn : l.length + totL ls ≤ 2 ^ 41) :
    ACalls Try.prog n_w_markBands [.agg #[c, d], .int .i64 k] H fun r H' => r = .int .i64 (k + l.length + (offN ls ls.length : Nat)) ∧ OwB lo hi H' t_sfloat32 t_float32 c d ((List.range l.length).map (markF k)) (marked markF (k + l.length) ls ls.length) ∧ Off lo hi H H' := by
  obtain ⟨vs, od, on⟩ := o
  have hc := on.headL
  have o1 := hc.one
  have o2 := od.one
  have e : Ext H (H.new ⟨true, t_Bands, [c, d]⟩) := .new _ _
  have tl : totL ls ≤ 2 ^ 41 := by omega
  refine k_w_markBands.run rfl ?_
  unfold c_w_markBands
  ((try simp (disch := first | assumption | omega | rfl | (refine id ?_; simp only [gxD, ne_eq, reduceCtorEq, not_false_eq_true, Nat.reduceAdd, *]; done) | (refine id ?_; simp only [gxD]; omega)) only [↓gxPre, gxPost, ↓reduceIte, Nat.reduceEqDiff, reduceCtorEq, Nat.reduceAdd, *]); repeat' (first | (refine grdR_split (fun _ => ?_) (fun _ => ?_) <;> simp (disch := first | assumption | omega | rfl | (refine id ?_; simp only [gxD, ne_eq, reduceCtorEq, not_false_eq_true, Nat.reduceAdd, *]; done) | (refine id ?_; simp only [gxD]; omega)) only [↓gxPre, gxPost, ↓reduceIte, Nat.reduceEqDiff, reduceCtorEq, Nat.reduceAdd, *]) | (refine condR_split (fun _ => ?_) (fun _ => ?_) <;> simp (disch := first | assumption | omega | rfl | (refine id ?_; simp only [gxD, ne_eq, reduceCtorEq, not_false_eq_true, Nat.reduceAdd, *]; done) | (refine id ?_; simp only [gxD]; omega)) only [↓gxPre, gxPost, ↓reduceIte, Nat.reduceEqDiff, reduceCtorEq, Nat.reduceAdd, *])))
  refine callR_of (w_markFloat32S_ow (hc.ext e) (by omega) (by omega) (by omega)) ?_
  rintro _ H1 ⟨rfl, p, f⟩
  have hb : H1.blk H.n = some ⟨true, t_Bands, [c, d]⟩ := by
    rw [f.blk _ (fun hh => by have := (hc.hdl hh).2.2.1; omega), new_self]
  have on1 := (on.ext e).set (i := 0) (by simp) f p
  have od1 : OwL lo hi H1 t_sfloat32 d vs := (od.ext e).fr f fun h hh hk => (hc.ext e).ne ((od.ext e).hdl hh).2.2.2.1 (by decide) hk
  simp (disch := first | assumption | omega | rfl | (refine id ?_; simp only [gxD, ne_eq, reduceCtorEq, not_false_eq_true, Nat.reduceAdd, *]; done) | (refine id ?_; simp only [gxD]; omega)) only [↓gxPre, gxPost, ↓reduceIte, Nat.reduceEqDiff, reduceCtorEq, Nat.reduceAdd, hb]
  refine callR_of (w_markFloat32SS_fam od1 (OwN.tail on1) (by omega) (by omega) (by omega)) ?_
  rintro _ H2 ⟨rfl, q1, q2, q3, q4, q5⟩
  simp (disch := first | assumption | omega | rfl | (refine id ?_; simp only [gxD, ne_eq, reduceCtorEq, not_false_eq_true, Nat.reduceAdd, *]; done) | (refine id ?_; simp only [gxD]; omega)) only [↓gxPre, gxPost, ↓reduceIte, Nat.reduceEqDiff, reduceCtorEq, Nat.reduceAdd]
  have hdis : ∀ i h, i < ls.length → hdl (vs.getD i undef) = some h → hdl c ≠ some h := fun i h hi hh hk => by
    have := on.2.2 0 (i + 1) h (by simp) (by simp; omega) (by simpa [List.getD_eq_getElem?_getD] using hk) (by simpa [List.getD_eq_getElem?_getD] using hh)
    omega
  refine ⟨⟨vs, q1, OwN.cons (p.keep (by omega) fun h hh => q5 h fun i hi hk => hdis i h hi hk hh) q2 fun i h hi hh => hdis i h (by rw [marked_length] at hi; exact hi) hh⟩, ?_⟩
  exact (e.off.trans (f.off (hc.ext e))).trans q3
end Go.Proofs.Ytkojmlpaamdhoae

namespace Go.Proofs.Ytkojmlpaamdhoae
open Go.Gx
set_option maxRecDepth 100000
set_option linter.unusedSimpArgs false
set_option linter.unusedVariables false

theorem i_highOf_ok {H : Heap} {v : Value} {xs : List Nat} (hv : FS H v xs) (hn : xs.length ≤ 2 ^ 40) :
    ACalls Try.prog n_i_highOf [.agg #[v]] H fun r H' => Ext H H' ∧ r = .slice (some ⟨H.n + 1, 0, none⟩) xs.length xs.length ∧ H.n + 2 ≤ H'.n ∧ H'.blk (H.n + 1) = some ⟨true, t_float32, (highL xs).map fv⟩ := by
  refine k_i_highOf.run rfl ?_
  unfold c_i_highOf
  have o1 := hv.one
  have e : Ext H (H.new ⟨true, t_Pair, [v]⟩) := .new _ _
  simp (disch := first | assumption | omega | rfl | (refine id ?_; simp only [gxD, ne_eq, reduceCtorEq, not_false_eq_true, Nat.reduceAdd, *]; done) | (refine id ?_; simp only [gxD]; omega)) only [↓gxPre, gxPost, ↓reduceIte, Nat.reduceEqDiff, reduceCtorEq, Nat.reduceAdd, (hv.ext (e.news ⟨true, t_float32, []⟩)).len]
  refine loop_forH xs.length (fun i => [.pointer (some ⟨H.n, 0, some 1⟩), .slice (some ⟨H.n + 1, 0, none⟩) i i, .int .i64 xs.length, .int .i64 i])
    (fun i G => H.n + 2 ≤ G.n ∧ Ext H G ∧ G.blk H.n = some ⟨true, t_Pair, [v]⟩ ∧ G.blk (H.n + 1) = some ⟨true, t_float32, (tabL i (highF xs)).map fv⟩) rfl ⟨by simp only [new_n]; omega, ⟨by first | omega | (simp only [new_n, put_n]; omega) | (simp only [new_n, put_n] at *; omega), fun i hi => by simp (disch := first | assumption | omega | rfl | (refine id ?_; simp only [gxD, ne_eq, reduceCtorEq, not_false_eq_true, Nat.reduceAdd, *]; done) | (refine id ?_; simp only [gxD]; omega)) only [↓gxPre, gxPost, ↓reduceIte, Nat.reduceEqDiff, reduceCtorEq, Nat.reduceAdd, *]⟩, by simp (disch := first | assumption | omega | rfl | (refine id ?_; simp only [gxD, ne_eq, reduceCtorEq, not_false_eq_true, Nat.reduceAdd, *]; done) | (refine id ?_; simp only [gxD]; omega)) only [↓gxPre, gxPost, ↓reduceIte, Nat.reduceEqDiff, reduceCtorEq, Nat.reduceAdd], by simp (disch := first | assumption | omega | rfl | (refine id ?_; simp only [gxD, ne_eq, reduceCtorEq, not_false_eq_true, Nat.reduceAdd, *]; done) | (refine id ?_; simp only [gxD]; omega)) only [↓gxPre, gxPost, ↓reduceIte, Nat.reduceEqDiff, reduceCtorEq, Nat.reduceAdd]; rfl⟩ ?_ ?_
  · rintro G ⟨hG, hE, hb, hc⟩
    simp (disch := first | assumption | omega | rfl | (refine id ?_; simp only [gxD, ne_eq, reduceCtorEq, not_false_eq_true, Nat.reduceAdd, *]; done) | (refine id ?_; simp only [gxD]; omega)) only [↓gxPre, gxPost, ↓reduceIte, Nat.reduceEqDiff, reduceCtorEq, Nat.reduceAdd, Int.lt_irrefl]
    exact ⟨hE, hG, hc⟩
  · rintro i G hi ⟨hG, hE, hb, hc⟩
    have hv' := hv.ext hE
    have e1 : ((xs.length : Int) - 1 - i).toNat = xs.length - 1 - i := by omega
    have ht := tabL_length i (highF xs)
    have hs := tabL_succ i (highF xs)
    have f := (hE.news ⟨true, t_float32, [.float .f32 (highF xs i)]⟩).put (i := H.n + 1) (by omega) ⟨true, t_float32, (tabL (i + 1) (highF xs)).map fv⟩
    rw [hs, ← fv_snoc'] at f
    by_cases h2 : i % 2 = 1
    · have hc2 : ((i % 2 : Nat) : Int) = 1 := by omega
      have hf : highF xs i = fneg .f32 (xs.getD (xs.length - 1 - i) 0) := if_pos h2
      rw [hf] at f
      simp (disch := first | assumption | omega | rfl | (refine id ?_; simp only [gxD, ne_eq, reduceCtorEq, not_false_eq_true, Nat.reduceAdd, *]; done) | (refine id ?_; simp only [gxD]; omega)) only [↓gxPre, gxPost, ↓reduceIte, Nat.reduceEqDiff, reduceCtorEq, Nat.reduceAdd, hb, hc, hv'.len, hv'.ia, hv'.ld, e1, tmod2, hc2, lMapN, ht]
      exact ⟨by simp, by omega, f, by rw [hs, ← fv_snoc', hf]⟩
    · have hc2 : ¬ ((i % 2 : Nat) : Int) = 1 := by omega
      have hf : highF xs i = xs.getD (xs.length - 1 - i) 0 := if_neg h2
      rw [hf] at f
      simp (disch := first | assumption | omega | rfl | (refine id ?_; simp only [gxD, ne_eq, reduceCtorEq, not_false_eq_true, Nat.reduceAdd, *]; done) | (refine id ?_; simp only [gxD]; omega)) only [↓gxPre, gxPost, ↓reduceIte, Nat.reduceEqDiff, reduceCtorEq, Nat.reduceAdd, hb, hc, hv'.len, hv'.ia, hv'.ld, e1, tmod2, hc2, lMapN, ht]
      exact ⟨by simp, by omega, f, by rw [hs, ← fv_snoc', hf]⟩
theorem s_l03High_ok {H : Heap} {h : Nat} {own : Bool} {ty : TypeId} {v : Value} {xs : List Nat} (hp : H.blk h = some ⟨own, ty, [v]⟩) (hh : h < H.n) (hv : FS H v xs) (hn : xs.length ≤ 2 ^ 40) :
    ACalls Try.prog n_s_l03High [.pointer (some ⟨h, 0, some 1⟩)] H fun r H' => Ext H H' ∧ r = .slice (some ⟨H.n, 0, none⟩) xs.length xs.length ∧ H.n + 1 ≤ H'.n ∧ H'.blk H.n = some ⟨true, t_float32, (highL xs).map fv⟩ := by
  refine k_s_l03High.run rfl ?_
  unfold c_s_l03High
  simp (disch := first | assumption | omega | rfl | (refine id ?_; simp only [gxD, ne_eq, reduceCtorEq, not_false_eq_true, Nat.reduceAdd, *]; done) | (refine id ?_; simp only [gxD]; omega)) only [↓gxPre, gxPost, ↓reduceIte, Nat.reduceEqDiff, reduceCtorEq, Nat.reduceAdd, hp, (hv.ext (.new H ⟨true, t_float32, []⟩)).len]
  refine loop_forH xs.length (fun i => [.pointer (some ⟨h, 0, some 1⟩), .slice (some ⟨H.n, 0, none⟩) i i, .int .i64 xs.length, .int .i64 i])
    (fun i G => H.n + 1 ≤ G.n ∧ Ext H G ∧ G.blk H.n = some ⟨true, t_float32, (tabL i (highF xs)).map fv⟩) rfl ⟨by simp only [new_n]; omega, ⟨by first | omega | (simp only [new_n, put_n]; omega) | (simp only [new_n, put_n] at *; omega), fun i hi => by simp (disch := first | assumption | omega | rfl | (refine id ?_; simp only [gxD, ne_eq, reduceCtorEq, not_false_eq_true, Nat.reduceAdd, *]; done) | (refine id ?_; simp only [gxD]; omega)) only [↓gxPre, gxPost, ↓reduceIte, Nat.reduceEqDiff, reduceCtorEq, Nat.reduceAdd, *]⟩, by simp (disch := first | assumption | omega | rfl | (refine id ?_; simp only [gxD, ne_eq, reduceCtorEq, not_false_eq_true, Nat.reduceAdd, *]; done) | (refine id ?_; simp only [gxD]; omega)) only [↓gxPre, gxPost, ↓reduceIte, Nat.reduceEqDiff, reduceCtorEq, Nat.reduceAdd]; rfl⟩ ?_ ?_
  · rintro G ⟨hG, hE, hc⟩
    simp (disch := first | assumption | omega | rfl | (refine id ?_; simp only [gxD, ne_eq, reduceCtorEq, not_false_eq_true, Nat.reduceAdd, *]; done) | (refine id ?_; simp only [gxD]; omega)) only [↓gxPre, gxPost, ↓reduceIte, Nat.reduceEqDiff, reduceCtorEq, Nat.reduceAdd, Int.lt_irrefl]
    exact ⟨hE, hG, hc⟩
  · rintro i G hi ⟨hG, hE, hc⟩
    have hv' := hv.ext hE
    have hb := (hE.blk h hh).trans hp
    have e1 : ((xs.length : Int) - 1 - i).toNat = xs.length - 1 - i := by omega
    have ht := tabL_length i (highF xs)
    have hs := tabL_succ i (highF xs)
    have f := (hE.news ⟨true, t_float32, [.float .f32 (highF xs i)]⟩).put (i := H.n) (by omega) ⟨true, t_float32, (tabL (i + 1) (highF xs)).map fv⟩
    rw [hs, ← fv_snoc'] at f
    by_cases h2 : i % 2 = 1
    · have hc2 : ((i % 2 : Nat) : Int) = 1 := by omega
      have hf : highF xs i = fneg .f32 (xs.getD (xs.length - 1 - i) 0) := if_pos h2
      rw [hf] at f
      simp (disch := first | assumption | omega | rfl | (refine id ?_; simp only [gxD, ne_eq, reduceCtorEq, not_false_eq_true, Nat.reduceAdd, *]; done) | (refine id ?_; simp only [gxD]; omega)) only [↓gxPre, gxPost, ↓reduceIte, Nat.reduceEqDiff, reduceCtorEq, Nat.reduceAdd, hb, hc, hv'.len, hv'.ia, hv'.ld, e1, tmod2, hc2, lMapN, ht]
      exact ⟨by simp, by omega, f, by rw [hs, ← fv_snoc', hf]⟩
    · have hc2 : ¬ ((i % 2 : Nat) : Int) = 1 := by omega
      have hf : highF xs i = xs.getD (xs.length - 1 - i) 0 := if_neg h2
      rw [hf] at f
      simp (disch := first | assumption | omega | rfl | (refine id ?_; simp only [gxD, ne_eq, reduceCtorEq, not_false_eq_true, Nat.reduceAdd, *]; done) | (refine id ?_; simp only [gxD]; omega)) only [↓gxPre, gxPost, ↓reduceIte, Nat.reduceEqDiff, reduceCtorEq, Nat.reduceAdd, hb, hc, hv'.len, hv'.ia, hv'.ld, e1, tmod2, hc2, lMapN, ht]
      exact ⟨by simp, by omega, f, by rw [hs, ← fv_snoc', hf]⟩
end Go.Proofs.Ytkojmlpaamdhoae

namespace Go.Proofs.Ytkojmlpaamdhoae
open Go.Gx
set_option maxRecDepth 100000
set_option linter.unusedSimpArgs false
set_option linter.unusedVariables false

theorem i_ValidBands_ok {H : Heap} {v u : Value} {xs : List Nat} {yss : List (List Nat)} (hv : FS H v xs) (hu0 : SS H u yss) (hn : xs.length ≤ 2 ^ 40) (hm : totL yss ≤ 2 ^ 40) :
    ACalls Try.prog n_i_ValidBands [.agg #[v, u]] H fun r H' => r = .bool (validBandsF xs yss) ∧ Ext H H' := by
  have o1 := hv.one
  have o2 := hu0.one'
  obtain ⟨us, hu, hul, hus⟩ := hu0
  have hu0 : SS H u yss := ⟨us, hu, hul, hus⟩
  have e : Ext H (H.new ⟨true, t_Bands, [v, u]⟩) := .new _ _
  have e2 : Ext H ((H.new ⟨true, t_Bands, [v, u]⟩).new ⟨true, t_sfloat32, [v]⟩) := e.news _
  have hu' := hu.ext e
  have hb2 : ((H.new ⟨true, t_Bands, [v, u]⟩).new ⟨true, t_sfloat32, [v]⟩).blk H.n = some ⟨true, t_Bands, [v, u]⟩ := by simp (disch := first | assumption | omega | rfl | (refine id ?_; simp only [gxD, ne_eq, reduceCtorEq, not_false_eq_true, Nat.reduceAdd, *]; done) | (refine id ?_; simp only [gxD]; omega)) only [↓gxPre, gxPost, ↓reduceIte, Nat.reduceEqDiff, reduceCtorEq, Nat.reduceAdd]
  have hny : yss.length ≤ 2 ^ 40 := by unfold totL at hm; omega
  refine k_i_ValidBands.run rfl ?_
  unfold c_i_ValidBands
  simp (disch := first | assumption | omega | rfl | (refine id ?_; simp only [gxD, ne_eq, reduceCtorEq, not_false_eq_true, Nat.reduceAdd, *]; done) | (refine id ?_; simp only [gxD]; omega)) only [↓gxPre, gxPost, ↓reduceIte, Nat.reduceEqDiff, reduceCtorEq, Nat.reduceAdd, hu'.len, hul]
  refine callR_pure (i_within_ok) (by first | exact Or.inl rfl | (simp (disch := first | assumption | omega | rfl | (refine id ?_; simp only [gxD, ne_eq, reduceCtorEq, not_false_eq_true, Nat.reduceAdd, *]; done) | (refine id ?_; simp only [gxD]; omega)) only [↓gxPre, gxPost, ↓reduceIte, Nat.reduceEqDiff, reduceCtorEq, Nat.reduceAdd, *]; done)) ?_
  simp (disch := first | assumption | omega | rfl | (refine id ?_; simp only [gxD, ne_eq, reduceCtorEq, not_false_eq_true, Nat.reduceAdd, *]; done) | (refine id ?_; simp only [gxD]; omega)) only [↓gxPre, gxPost, ↓reduceIte, Nat.reduceEqDiff, reduceCtorEq, Nat.reduceAdd, *]
  cases h1 : within yss.length 1 6
  · simp (disch := first | assumption | omega | rfl | (refine id ?_; simp only [gxD, ne_eq, reduceCtorEq, not_false_eq_true, Nat.reduceAdd, *]; done) | (refine id ?_; simp only [gxD]; omega)) only [↓gxPre, gxPost, ↓reduceIte, Nat.reduceEqDiff, reduceCtorEq, Nat.reduceAdd]
    exact ⟨by simp only [validBandsF, h1, Bool.false_and], e⟩
  have h1' := within_true.1 h1
  by_cases h2 : (yss.getD 0 []).length ≤ 64
  rotate_left
  · have h2' : (64 : Int) < (yss.getD 0 []).length := by omega
    simp (disch := first | assumption | omega | rfl | (refine id ?_; simp only [gxD, ne_eq, reduceCtorEq, not_false_eq_true, Nat.reduceAdd, *]; done) | (refine id ?_; simp only [gxD]; omega)) only [↓gxPre, gxPost, ↓reduceIte, Nat.reduceEqDiff, reduceCtorEq, Nat.reduceAdd, hu'.ia, hu'.ldD, hul, (hus 0 (by omega)).len, h2', Int.reduceToNat]
    exact ⟨by simp only [validBandsF, decide_eq_false h2, Bool.and_false, Bool.false_and], e⟩
  have h2' : ¬ (64 : Int) < (yss.getD 0 []).length := by omega
  simp (disch := first | assumption | omega | rfl | (refine id ?_; simp only [gxD, ne_eq, reduceCtorEq, not_false_eq_true, Nat.reduceAdd, *]; done) | (refine id ?_; simp only [gxD]; omega)) only [↓gxPre, gxPost, ↓reduceIte, Nat.reduceEqDiff, reduceCtorEq, Nat.reduceAdd, hu'.ia, hu'.ldD, hul, (hus 0 (by omega)).len, h2', Int.reduceToNat]
  refine callR_pure (i_areFinite_ok (hu0.ext e) hny fun j _ => totL_row hm j) (.inl rfl) ?_
  cases h3 : (yss.all fun ys => ys.all finF)
  · simp (disch := first | assumption | omega | rfl | (refine id ?_; simp only [gxD, ne_eq, reduceCtorEq, not_false_eq_true, Nat.reduceAdd, *]; done) | (refine id ?_; simp only [gxD]; omega)) only [↓gxPre, gxPost, ↓reduceIte, Nat.reduceEqDiff, reduceCtorEq, Nat.reduceAdd]
    exact ⟨by simp only [validBandsF, h3, Bool.and_false, Bool.false_and], e⟩
  simp (disch := first | assumption | omega | rfl | (refine id ?_; simp only [gxD, ne_eq, reduceCtorEq, not_false_eq_true, Nat.reduceAdd, *]; done) | (refine id ?_; simp only [gxD]; omega)) only [↓gxPre, gxPost, ↓reduceIte, Nat.reduceEqDiff, reduceCtorEq, Nat.reduceAdd]
  refine callR_pure (i_areFinite1_ok (by simp (disch := first | assumption | omega | rfl | (refine id ?_; simp only [gxD, ne_eq, reduceCtorEq, not_false_eq_true, Nat.reduceAdd, *]; done) | (refine id ?_; simp only [gxD]; omega)) only [↓gxPre, gxPost, ↓reduceIte, Nat.reduceEqDiff, reduceCtorEq, Nat.reduceAdd, *]; rfl) (by first | omega | (simp only [new_n, put_n]; omega)) (hv.ext e2) hn) (.inl rfl) ?_
  cases h4 : xs.all finF
  · simp (disch := first | assumption | omega | rfl | (refine id ?_; simp only [gxD, ne_eq, reduceCtorEq, not_false_eq_true, Nat.reduceAdd, *]; done) | (refine id ?_; simp only [gxD]; omega)) only [↓gxPre, gxPost, ↓reduceIte, Nat.reduceEqDiff, reduceCtorEq, Nat.reduceAdd]
    exact ⟨by simp only [validBandsF, h4, Bool.and_false, Bool.false_and], e2⟩
  have hu2 := hu.ext e2
  simp (disch := first | assumption | omega | rfl | (refine id ?_; simp only [gxD, ne_eq, reduceCtorEq, not_false_eq_true, Nat.reduceAdd, *]; done) | (refine id ?_; simp only [gxD]; omega)) only [↓gxPre, gxPost, ↓reduceIte, Nat.reduceEqDiff, reduceCtorEq, Nat.reduceAdd, hu2.len, hul]
  generalize ((H.new ⟨true, t_Bands, [v, u]⟩).new ⟨true, t_sfloat32, [v]⟩) = G at *
  refine loop_forH yss.length (fun i => [.pointer (some ⟨H.n, 0, some 2⟩), .int .i64 yss.length, u, .int .i64 yss.length, .int .i64 i]) (fun i G' => G = G' ∧ ∀ j, j < i → detAt yss j = true) rfl ⟨rfl, by intros; omega⟩ ?_ ?_
  · rintro _ ⟨rfl, hJ⟩
    have e1 : ((yss.length : Int) - 1).toNat = yss.length - 1 := by omega
    simp (disch := first | assumption | omega | rfl | (refine id ?_; simp only [gxD, ne_eq, reduceCtorEq, not_false_eq_true, Nat.reduceAdd, *]; done) | (refine id ?_; simp only [gxD]; omega)) only [↓gxPre, gxPost, ↓reduceIte, Nat.reduceEqDiff, reduceCtorEq, Nat.reduceAdd, Int.lt_irrefl, hb2, (hv.ext e2).len, hu2.ia, hu2.ldD, hul, e1, (hus (yss.length - 1) (by omega)).len]
    refine ⟨?_, e2⟩
    congr 1
    rw [Bool.eq_iff_iff]
    simp only [validBandsF, h1, h3, h4, allR.2 hJ, decide_eq_true h2, Bool.and_true, Bool.true_and, decide_eq_true_eq]
    omega
  · rintro i _ hi ⟨rfl, hJ⟩
    by_cases c1 : (yss.getD i []).length = 0
    · have c1' : ((yss.getD i []).length : Int) = 0 := by omega
      simp (disch := first | assumption | omega | rfl | (refine id ?_; simp only [gxD, ne_eq, reduceCtorEq, not_false_eq_true, Nat.reduceAdd, *]; done) | (refine id ?_; simp only [gxD]; omega)) only [↓gxPre, gxPost, ↓reduceIte, Nat.reduceEqDiff, reduceCtorEq, Nat.reduceAdd, hu2.ia, hu2.ldD, hul, (hus i hi).len, c1']
      exact ⟨by rw [vb_no hi (by simp only [detAt, c1]; simp)], e2⟩
    have c1' : ¬ ((yss.getD i []).length : Int) = 0 := by omega
    have hd1 : decide (1 ≤ (yss.getD i []).length) = true := decide_eq_true (by omega)
    by_cases c2 : i = 0
    · have c2' : ¬ ((0 : Int) < i) := by omega
      simp (disch := first | assumption | omega | rfl | (refine id ?_; simp only [gxD, ne_eq, reduceCtorEq, not_false_eq_true, Nat.reduceAdd, *]; done) | (refine id ?_; simp only [gxD]; omega)) only [↓gxPre, gxPost, ↓reduceIte, Nat.reduceEqDiff, reduceCtorEq, Nat.reduceAdd, hu2.ia, hu2.ldD, hul, (hus i hi).len, c1', c2']
      refine ⟨by simp, Nat.forall_lt_succ_right.2 ⟨hJ, ?_⟩⟩
      simp only [detAt, hd1, decide_eq_true c2, Bool.true_or, Bool.and_true]
    have c2' : (0 : Int) < i := by omega
    have e1 : ((i : Int) - 1).toNat = i - 1 := by omega
    have hr1 := totL_row hm i
    have hr2 := totL_row hm (i - 1)
    by_cases c3 : (yss.getD (i - 1) []).length = 2 * (yss.getD i []).length
    · have c3' : 2 * ((yss.getD i []).length : Int) = (yss.getD (i - 1) []).length := by omega
      simp (disch := first | assumption | omega | rfl | (refine id ?_; simp only [gxD, ne_eq, reduceCtorEq, not_false_eq_true, Nat.reduceAdd, *]; done) | (refine id ?_; simp only [gxD]; omega)) only [↓gxPre, gxPost, ↓reduceIte, Nat.reduceEqDiff, reduceCtorEq, Nat.reduceAdd, hu2.ia, hu2.ldD, hul, (hus i hi).len, c1', c2', hb2, e1, (hus (i - 1) (by omega)).len, c3', ne_eq, not_true]
      refine ⟨by simp, Nat.forall_lt_succ_right.2 ⟨hJ, ?_⟩⟩
      simp only [detAt, hd1, decide_eq_true c3, Bool.or_true, Bool.and_true]
    · have c3' : ¬ 2 * ((yss.getD i []).length : Int) = (yss.getD (i - 1) []).length := by omega
      simp (disch := first | assumption | omega | rfl | (refine id ?_; simp only [gxD, ne_eq, reduceCtorEq, not_false_eq_true, Nat.reduceAdd, *]; done) | (refine id ?_; simp only [gxD]; omega)) only [↓gxPre, gxPost, ↓reduceIte, Nat.reduceEqDiff, reduceCtorEq, Nat.reduceAdd, hu2.ia, hu2.ldD, hul, (hus i hi).len, c1', c2', hb2, e1, (hus (i - 1) (by omega)).len, c3', ne_eq, not_false_eq_true]
      exact ⟨by rw [vb_no hi (by simp only [detAt, decide_eq_false c3, decide_eq_false c2, Bool.or_false, Bool.and_false])], e2⟩
theorem s_l03Bands_ok {H : Heap} {h : Nat} {own : Bool} {ty : TypeId} {v u : Value} {xs : List Nat} {yss : List (List Nat)} (hb : H.blk h = some ⟨own, ty, [v, u]⟩) (hv : FS H v xs) (hu0 : SS H u yss) (hn : xs.length ≤ 2 ^ 40) (hm : totL yss ≤ 2 ^ 40) :
    ACalls Try.prog n_s_l03Bands [.pointer (some ⟨h, 0, some 2⟩)] H fun r H' => r = .bool (validBandsF xs yss) ∧ H' = H := by
  obtain ⟨us, hu, hul, hus⟩ := hu0
  have hny : yss.length ≤ 2 ^ 40 := by unfold totL at hm; omega
  refine k_s_l03Bands.run rfl ?_
  unfold c_s_l03Bands
  by_cases h0 : (yss.length : Int) < 1
  · simp (disch := first | assumption | omega | rfl | (refine id ?_; simp only [gxD, ne_eq, reduceCtorEq, not_false_eq_true, Nat.reduceAdd, *]; done) | (refine id ?_; simp only [gxD]; omega)) only [↓gxPre, gxPost, ↓reduceIte, Nat.reduceEqDiff, reduceCtorEq, Nat.reduceAdd, hb, hu.len, hul]
    have : within yss.length 1 6 = false := by simp [within]; omega
    simp only [validBandsF, this, Bool.false_and]
  by_cases h6 : (6 : Int) < yss.length
  · simp (disch := first | assumption | omega | rfl | (refine id ?_; simp only [gxD, ne_eq, reduceCtorEq, not_false_eq_true, Nat.reduceAdd, *]; done) | (refine id ?_; simp only [gxD]; omega)) only [↓gxPre, gxPost, ↓reduceIte, Nat.reduceEqDiff, reduceCtorEq, Nat.reduceAdd, hb, hu.len, hul]
    have : within yss.length 1 6 = false := by simp [within]; omega
    simp only [validBandsF, this, Bool.false_and]
  have h1 : within yss.length 1 6 = true := within_true.2 ⟨by omega, by omega⟩
  by_cases h2 : (yss.getD 0 []).length ≤ 64
  rotate_left
  · have h2' : (64 : Int) < (yss.getD 0 []).length := by omega
    simp (disch := first | assumption | omega | rfl | (refine id ?_; simp only [gxD, ne_eq, reduceCtorEq, not_false_eq_true, Nat.reduceAdd, *]; done) | (refine id ?_; simp only [gxD]; omega)) only [↓gxPre, gxPost, ↓reduceIte, Nat.reduceEqDiff, reduceCtorEq, Nat.reduceAdd, hb, hu.len, hu.ia, hu.ldD, hul, (hus 0 (by omega)).len, h2', Int.reduceToNat]
    simp only [validBandsF, decide_eq_false h2, Bool.and_false, Bool.false_and]
  have h2' : ¬ (64 : Int) < (yss.getD 0 []).length := by omega
  simp (disch := first | assumption | omega | rfl | (refine id ?_; simp only [gxD, ne_eq, reduceCtorEq, not_false_eq_true, Nat.reduceAdd, *]; done) | (refine id ?_; simp only [gxD]; omega)) only [↓gxPre, gxPost, ↓reduceIte, Nat.reduceEqDiff, reduceCtorEq, Nat.reduceAdd, hb, hu.len, hu.ia, hu.ldD, hul, (hus 0 (by omega)).len, h2', Int.reduceToNat]
  refine callR_pure (s_l02Finite_ok hv hn) (.inl rfl) ?_
  cases h4 : xs.all finF
  · simp (disch := first | assumption | omega | rfl | (refine id ?_; simp only [gxD, ne_eq, reduceCtorEq, not_false_eq_true, Nat.reduceAdd, *]; done) | (refine id ?_; simp only [gxD]; omega)) only [↓gxPre, gxPost, ↓reduceIte, Nat.reduceEqDiff, reduceCtorEq, Nat.reduceAdd]
    simp only [validBandsF, h4, Bool.and_false, Bool.false_and]
  simp (disch := first | assumption | omega | rfl | (refine id ?_; simp only [gxD, ne_eq, reduceCtorEq, not_false_eq_true, Nat.reduceAdd, *]; done) | (refine id ?_; simp only [gxD]; omega)) only [↓gxPre, gxPost, ↓reduceIte, Nat.reduceEqDiff, reduceCtorEq, Nat.reduceAdd, hb, hu.len, hul]
  refine loop_forH yss.length (fun i => [.pointer (some ⟨h, 0, some 2⟩), .int .i64 yss.length, .int .i64 yss.length, .int .i64 i]) (fun i G' => H = G' ∧ ∀ j, j < i → detAt yss j = true ∧ (yss.getD j []).all finF = true) rfl ⟨rfl, by intros; omega⟩ ?_ ?_
  · rintro _ ⟨rfl, hJ⟩
    have e1 : ((yss.length : Int) - 1).toNat = yss.length - 1 := by omega
    simp (disch := first | assumption | omega | rfl | (refine id ?_; simp only [gxD, ne_eq, reduceCtorEq, not_false_eq_true, Nat.reduceAdd, *]; done) | (refine id ?_; simp only [gxD]; omega)) only [↓gxPre, gxPost, ↓reduceIte, Nat.reduceEqDiff, reduceCtorEq, Nat.reduceAdd, Int.lt_irrefl, hb, hv.len, hu.ia, hu.ldD, hul, e1, (hus (yss.length - 1) (by omega)).len]
    have h3 : (yss.all fun ys => ys.all finF) = true := (allD []).2 fun j hj => (hJ j hj).2
    congr 1
    rw [Bool.eq_iff_iff]
    simp only [validBandsF, h1, h3, h4, allR.2 fun j hj => (hJ j hj).1, decide_eq_true h2, Bool.and_true, Bool.true_and, decide_eq_true_eq]
    omega
  · rintro i _ hi ⟨rfl, hJ⟩
    by_cases c1 : (yss.getD i []).length = 0
    · have c1' : ((yss.getD i []).length : Int) < 1 := by omega
      simp (disch := first | assumption | omega | rfl | (refine id ?_; simp only [gxD, ne_eq, reduceCtorEq, not_false_eq_true, Nat.reduceAdd, *]; done) | (refine id ?_; simp only [gxD]; omega)) only [↓gxPre, gxPost, ↓reduceIte, Nat.reduceEqDiff, reduceCtorEq, Nat.reduceAdd, hb, hu.ia, hu.ldD, hul, (hus i hi).len, c1']
      rw [vb_no hi (by simp only [detAt, c1]; simp)]
    have c1' : ¬ ((yss.getD i []).length : Int) < 1 := by omega
    have hd1 : decide (1 ≤ (yss.getD i []).length) = true := decide_eq_true (by omega)
    simp (disch := first | assumption | omega | rfl | (refine id ?_; simp only [gxD, ne_eq, reduceCtorEq, not_false_eq_true, Nat.reduceAdd, *]; done) | (refine id ?_; simp only [gxD]; omega)) only [↓gxPre, gxPost, ↓reduceIte, Nat.reduceEqDiff, reduceCtorEq, Nat.reduceAdd, hb, hu.ia, hu.ldD, hul, (hus i hi).len, c1']
    refine callR_pure (s_l02Finite_ok (hus i hi) (totL_row hm i)) (.inl rfl) ?_
    cases h5 : (yss.getD i []).all finF
    · simp (disch := first | assumption | omega | rfl | (refine id ?_; simp only [gxD, ne_eq, reduceCtorEq, not_false_eq_true, Nat.reduceAdd, *]; done) | (refine id ?_; simp only [gxD]; omega)) only [↓gxPre, gxPost, ↓reduceIte, Nat.reduceEqDiff, reduceCtorEq, Nat.reduceAdd]
      have : (yss.all fun ys => ys.all finF) = false := allD_false [] hi h5
      simp only [validBandsF, this, Bool.and_false, Bool.false_and]
    by_cases c2 : i = 0
    · have c2' : ¬ ((0 : Int) < i) := by omega
      simp (disch := first | assumption | omega | rfl | (refine id ?_; simp only [gxD, ne_eq, reduceCtorEq, not_false_eq_true, Nat.reduceAdd, *]; done) | (refine id ?_; simp only [gxD]; omega)) only [↓gxPre, gxPost, ↓reduceIte, Nat.reduceEqDiff, reduceCtorEq, Nat.reduceAdd, c2']
      refine ⟨by simp, Nat.forall_lt_succ_right.2 ⟨hJ, ?_, h5⟩⟩
      simp only [detAt, hd1, decide_eq_true c2, Bool.true_or, Bool.and_true]
    have c2' : (0 : Int) < i := by omega
    have e1 : ((i : Int) - 1).toNat = i - 1 := by omega
    have hr1 := totL_row hm i
    have hr2 := totL_row hm (i - 1)
    by_cases c3 : (yss.getD (i - 1) []).length = 2 * (yss.getD i []).length
    · have c3' : ((yss.getD (i - 1) []).length : Int) = 2 * ((yss.getD i []).length : Int) := by omega
      simp (disch := first | assumption | omega | rfl | (refine id ?_; simp only [gxD, ne_eq, reduceCtorEq, not_false_eq_true, Nat.reduceAdd, *]; done) | (refine id ?_; simp only [gxD]; omega)) only [↓gxPre, gxPost, ↓reduceIte, Nat.reduceEqDiff, reduceCtorEq, Nat.reduceAdd, hb, hu.ia, hu.ldD, hul, (hus i hi).len, c2', e1, (hus (i - 1) (by omega)).len, c3', ne_eq, not_true]
      refine ⟨by simp, Nat.forall_lt_succ_right.2 ⟨hJ, ?_, h5⟩⟩
      simp only [detAt, hd1, decide_eq_true c3, Bool.or_true, Bool.and_true]
    · have c3' : ¬ ((yss.getD (i - 1) []).length : Int) = 2 * ((yss.getD i []).length : Int) := by omega
      simp (disch := first | assumption | omega | rfl | (refine id ?_; simp only [gxD, ne_eq, reduceCtorEq, not_false_eq_true, Nat.reduceAdd, *]; done) | (refine id ?_; simp only [gxD]; omega)) only [↓gxPre, gxPost, ↓reduceIte, Nat.reduceEqDiff, reduceCtorEq, Nat.reduceAdd, hb, hu.ia, hu.ldD, hul, (hus i hi).len, c2', e1, (hus (i - 1) (by omega)).len, c3', ne_eq, not_false_eq_true]
      rw [vb_no hi (by simp only [detAt, decide_eq_false c3, decide_eq_false c2, Bool.or_false, Bool.and_false])]
theorem i_ValidBands_law {H : Heap} {v0 u0 : Value} {xs0 : List Nat} {ys0 : List (List Nat)} (A : AF H v0 xs0) (B : AS H u0 ys0) :
    ACalls Try.prog n_i_ValidBands [.agg #[v0, u0]] H fun r H' => r = .bool (validBandsF xs0 ys0) ∧ Ext H H' := i_ValidBands_ok A.rd B.rd A.le B.le
end Go.Proofs.Ytkojmlpaamdhoae

namespace Go.Proofs.Ytkojmlpaamdhoae
open Go.Gx
set_option maxRecDepth 100000
set_option linter.unusedSimpArgs false
set_option linter.unusedVariables false

def sizeL (xss : List (List Nat)) (i : Nat) : List Nat := (List.range i).map fun j => (xss.getD j []).length
theorem sizeL_length (xss : List (List Nat)) (i : Nat) : (sizeL xss i).length = i := by simp [sizeL]
theorem sizeL_succ (xss : List (List Nat)) (i : Nat) : sizeL xss (i + 1) = sizeL xss i ++ [(xss.getD i []).length] := by simp [sizeL, List.range_succ]
theorem sizeL_all (xss : List (List Nat)) : sizeL xss xss.length = xss.map List.length := by
  refine list_ext_getD 0 (by simp [sizeL]) fun j hj => ?_
  have hj' : j < xss.length := by simpa [sizeL] using hj
  rw [sizeL, getD_range_map hj']
  simp [List.getD_eq_getElem?_getD, hj']
theorem flat_len (xss : List (List Nat)) : ∀ t, t ≤ xss.length → (flatF xss t).length + offN xss (xss.length - t) = offN xss xss.length
  | 0, _ => by simp [flatF, foldI_zero]
  | t + 1, h => by
    have ih := flat_len xss t (by omega)
    have e : xss.length - t = (xss.length - (t + 1)) + 1 := by omega
    rw [e, offN_succ (by omega)] at ih
    have e2 : xss.length - 1 - t = xss.length - (t + 1) := by omega
    simp only [flatF, foldI_succ, List.length_append, e2] at ih ⊢
    omega
theorem flatF_succ (xss : List (List Nat)) (t : Nat) : flatF xss (t + 1) = flatF xss t ++ xss.getD (xss.length - 1 - t) [] := rfl
theorem size_fit {sz : List Nat} {k : Nat} (hk : k < sz.length) (h1 : 1 ≤ sufS sz (k + 1)) : (decide (1 ≤ sz.getD k 0) && fitF (sufS sz (k + 1)) (sz.getD k 0)) = sizeAt sz k := by
  have hs := sufS_succ hk
  rw [Bool.eq_iff_iff]
  simp only [sizeAt, fitF, Bool.and_eq_true, Bool.or_eq_true, decide_eq_true_eq]
  omega
theorem sizes_le {xss : List (List Nat)} (hm : totL xss ≤ 2 ^ 40) (j : Nat) : (xss.map List.length).getD j 0 ≤ 2 ^ 40 := by
  by_cases hj : j < xss.length
  · have := totL_row hm j
    simpa [List.getD_eq_getElem?_getD, hj] using this
  · simp [List.getD_eq_getElem?_getD, List.getElem?_eq_none (Nat.le_of_not_lt hj)]
theorem sizes_sum (xss : List (List Nat)) (hm : totL xss ≤ 2 ^ 40) : sufS (xss.map List.length) 0 ≤ 2 ^ 40 := by
  have : sufS (xss.map List.length) 0 = offN xss xss.length := by simp [sufS, offN]
  rw [this]
  unfold totL at hm
  omega
end Go.Proofs.Ytkojmlpaamdhoae

namespace Go.Proofs.Ytkojmlpaamdhoae
open Go.Gx
set_option maxRecDepth 100000
set_option linter.unusedSimpArgs false
set_option linter.unusedVariables false

theorem rows_yes {xss : List (List Nat)} {most : Int} (h : rowsF xss most = true) : (1 ≤ (xss.length : Int) ∧ (xss.length : Int) ≤ most) ∧ ∀ j, j < xss.length → isLongF (xss.getD j []) = true ∧ (xss.getD j []).length = (xss.getD 0 []).length := by
  unfold rowsF at h
  simp only [Bool.and_eq_true] at h
  refine ⟨within_true.1 h.1, fun j hj => ?_⟩
  have := allR.1 h.2 j hj
  simpa using this
theorem long_len {xs : List Nat} (h : isLongF xs = true) : (1 ≤ xs.length ∧ xs.length ≤ 128) ∧ xs.all finF = true := by
  unfold isLongF at h
  simp only [Bool.and_eq_true] at h
  have := within_true.1 h.1
  exact ⟨by omega, h.2⟩
theorem tab_set {m i a : Nat} {f g : Nat → Nat} (h1 : g i = a) (h2 : ∀ j, j < m → j ≠ i → g j = f j) : (tabL m f).set i a = tabL m g := by
  refine list_ext_getD 0 (by simp [tabL]) fun j hj => ?_
  have hj' : j < m := by simpa [tabL] using hj
  rw [tabL_getD hj']
  by_cases hji : j = i
  · subst hji
    rw [getD_set_self (by rw [tabL_length]; exact hj'), h1]
  · rw [Go.Gx.getD_set_ne (Ne.symm hji), tabL_getD hj', h2 j hj' hji]
theorem rep_tab (m : Nat) : List.replicate m (Value.float .f32 0) = (tabL m fun _ => 0).map fv := by
  simp [tabL, fv, List.map_const']
theorem tab_at {m i : Nat} {f : Nat → Nat} (h : i < m) : ((tabL m f).map fv)[i]? = some (.float .f32 (f i)) := by
  simp [tabL, h, fv]
def frameAt (xss : List (List Nat)) (t i j : Nat) : Nat := if j < i then frameSum xss j (t + 1) else frameSum xss j t
theorem frameAt_zero (xss : List (List Nat)) (t : Nat) : frameAt xss t 0 = fun j => frameSum xss j t := by funext j; simp [frameAt]
theorem frameAt_next (xss : List (List Nat)) (t m : Nat) : tabL m (frameAt xss t m) = tabL m (frameAt xss (t + 1) 0) := tabL_congr fun j hj => by simp [frameAt, hj]
theorem frameAt_set {xss : List (List Nat)} {t i m : Nat} : (tabL m (frameAt xss t i)).set i (fbin .add .f32 (frameAt xss t i i) ((xss.getD (xss.length - 1 - t) []).getD i 0)) = tabL m (frameAt xss t (i + 1)) := by
  refine tab_set ?_ fun j _ hne => ?_
  · simp [frameAt, frameSum, foldI_succ]
  · unfold frameAt
    by_cases h : j < i
    · rw [if_pos h, if_pos (by omega)]
    · rw [if_neg h, if_neg (by omega)]
def frameL (xss : List (List Nat)) : List Nat := tabL (xss.getD 0 []).length (frameAt xss xss.length 0)
theorem bestF_lt {xss : List (List Nat)} {i : Nat} (h : 0 < xss.length) : ∀ k, k ≤ xss.length → bestF xss i k < xss.length
  | 0, _ => h
  | k + 1, hk => by
    have ih := bestF_lt (i := i) h k (by omega)
    simp only [bestF, foldI_succ] at ih ⊢
    split
    · omega
    · exact ih
def ridgeL (xss : List (List Nat)) (i : Nat) : List Int := (List.range i).map fun j => ((bestF xss j xss.length : Nat) : Int)
theorem ridgeL_length (xss : List (List Nat)) (i : Nat) : (ridgeL xss i).length = i := by simp [ridgeL]
theorem ridgeL_snoc (xss : List (List Nat)) (i : Nat) : (ridgeL xss i).map iv ++ [.int .i64 ((bestF xss i xss.length : Nat) : Int)] = (ridgeL xss (i + 1)).map iv := by simp [ridgeL, List.range_succ, iv]
end Go.Proofs.Ytkojmlpaamdhoae

namespace Go.Proofs.Ytkojmlpaamdhoae
open Go.Gx
set_option maxRecDepth 100000
set_option linter.unusedSimpArgs false
set_option linter.unusedVariables false

theorem wr_range (n : Int) : -9223372036854775808 ≤ wr n ∧ wr n ≤ 9223372036854775807 := by
  unfold wr
  rw [IntKind.wrap_i64]
  omega
def updL (g : Nat → Int) (xs : List Int) (i : Nat) : List Int := (List.range xs.length).map fun k => if k < i then g k else xs.getD k 0
theorem updL_length (g : Nat → Int) (xs : List Int) (i : Nat) : (updL g xs i).length = xs.length := by simp [updL]
theorem updL_zero (g : Nat → Int) (xs : List Int) : updL g xs 0 = xs := by
  refine list_ext_getD 0 (updL_length _ _ _) fun j hj => ?_
  rw [updL_length] at hj
  rw [updL, getD_range_map hj]
  simp
theorem updL_all (g : Nat → Int) (xs : List Int) : updL g xs xs.length = (List.range xs.length).map g := by
  refine list_ext_getD 0 (by simp [updL]) fun j hj => ?_
  rw [updL_length] at hj
  rw [updL, getD_range_map hj, getD_range_map hj, if_pos hj]
theorem updL_at {g : Nat → Int} {xs : List Int} {i : Nat} (h : i < xs.length) : ((updL g xs i).map iv)[i]? = some (.int .i64 (xs.getD i 0)) := by
  simp [updL, h, iv]
theorem updL_set {g : Nat → Int} {xs : List Int} {i : Nat} : (updL g xs i).set i (g i) = updL g xs (i + 1) := by
  refine list_ext_getD 0 (by simp [updL]) fun j hj => ?_
  have hj' : j < xs.length := by simpa [updL] using hj
  by_cases hji : j = i
  · subst hji
    rw [getD_set_self (by rw [updL_length]; exact hj'), updL, getD_range_map hj', if_pos (by omega)]
  · rw [Go.Gx.getD_set_ne (Ne.symm hji), updL, updL, getD_range_map hj', getD_range_map hj']
    by_cases h : j < i
    · rw [if_pos h, if_pos (by omega)]
    · rw [if_neg h, if_neg (by omega)]
theorem i64_range (n : Nat) (f : Nat → Int) (h : ∀ j, -9223372036854775808 ≤ f j ∧ f j ≤ 9223372036854775807) : I64 ((List.range n).map f) := fun j => by
  by_cases hj : j < n
  · rw [getD_range_map hj]; exact h j
  · simp [List.getD_eq_getElem?_getD, List.getElem?_eq_none (l := List.range n) (i := j) (by simp; omega)]
theorem i64_ev {xs : List Int} (h : I64 xs) (n : Nat) : I64 (evL 0 xs n) := i64_range _ _ fun j => h _
theorem i64_od {xs : List Int} (h : I64 xs) (n : Nat) : I64 (odL 0 xs n) := i64_range _ _ fun j => h _
theorem liftO_length (kind : Int) (xs : List Int) : (liftO kind xs).length = xs.length / 2 := by simp [liftO, lowerO, odL_length]
theorem liftE_length (kind : Int) (xs : List Int) : (liftE kind xs).length = (xs.length + 1) / 2 := by simp [liftE, raiseE, evL_length]
theorem i64_liftO (kind : Int) (xs : List Int) : I64 (liftO kind xs) := i64_range _ _ fun j => wr_range _
theorem i64_liftE (kind : Int) (xs : List Int) : I64 (liftE kind xs) := i64_range _ _ fun j => wr_range _
end Go.Proofs.Ytkojmlpaamdhoae

namespace Go.Proofs.Ytkojmlpaamdhoae
open Go.Gx
set_option maxRecDepth 100000
set_option linter.unusedSimpArgs false
set_option linter.unusedVariables false

theorem OwN_init {lo hi : Nat} {H : Heap} {ty : TypeId} {vs : List Value} {ls : List (List Value)} {v : Value} {l : List Value} (o : OwN lo hi H ty (vs ++ [v]) (ls ++ [l])) : OwN lo hi H ty vs ls := by
  obtain ⟨h1, h2, h3⟩ := o
  have hl : vs.length = ls.length := by simpa using h1
  have ea : ∀ i, i < ls.length → (vs ++ [v]).getD i undef = vs.getD i undef := fun i hi' => getD_app_lt (by omega)
  refine ⟨hl, fun i hi' => ?_, fun i j h hi' hj hh hk => h3 i j h (by simp; omega) (by simp; omega) (by rw [ea i hi']; exact hh) (by rw [ea j hj]; exact hk)⟩
  have := h2 i (by simp; omega)
  rwa [ea i hi', getD_app_lt hi'] at this
theorem OwN_last {lo hi : Nat} {H : Heap} {ty : TypeId} {vs : List Value} {ls : List (List Value)} {v : Value} {l : List Value} (o : OwN lo hi H ty (vs ++ [v]) (ls ++ [l])) : OwL lo hi H ty v l := by
  obtain ⟨h1, h2, h3⟩ := o
  have hl : vs.length = ls.length := by simpa using h1
  have := h2 ls.length (by simp)
  rw [getD_app_at] at this
  rwa [← hl, getD_app_at] at this
theorem OwN_put {lo hi h : Nat} {H : Heap} {ty sty : TypeId} {vs : List Value} {ls : List (List Value)} {cs : List Value} {own : Bool} {b : Blk} (o : OwN lo hi H ty vs ls) (hb : H.blk h = some ⟨own, sty, cs⟩) (hne : sty ≠ ty) : OwN lo hi (H.put h b) ty vs ls :=
  o.keep (Nat.le_refl _) fun i k hi' hk => hput_other _ _ _ _ fun e => (o.2.1 i hi').ne hb hne (by rw [hk, e])
theorem OwL_put {lo hi h : Nat} {H : Heap} {ty sty : TypeId} {v : Value} {l cs : List Value} {own : Bool} {b : Blk} (o : OwL lo hi H ty v l) (hb : H.blk h = some ⟨own, sty, cs⟩) (hne : sty ≠ ty) : OwL lo hi (H.put h b) ty v l :=
  o.keep (Nat.le_refl _) fun k hk => hput_other _ _ _ _ fun e => o.ne hb hne (by rw [hk, e])
/-- Two lists made later. -/
theorem OwN_two {lo : Nat} {G G' : Heap} {ty : TypeId} {vs : List Value} {ls : List (List Value)} {a b : Value} {la lb : List Value} (o : OwN lo G.n G ty vs ls) (e : Ext G G') (hlo : lo ≤ G.n) (p : OwN G.n G'.n G' ty [a, b] [la, lb]) : OwN lo G'.n G' ty (vs ++ [b] ++ [a]) (ls ++ [lb] ++ [la]) := by
  have o1 := (o.ext e).wide (Nat.le_refl _) e.n
  have pa := p.fst
  have pb := p.snd
  have hab : ∀ h, hdl b = some h → hdl a ≠ some h := fun h h1 h2 => by
    have := p.2.2 0 1 h (by simp) (by simp) h2 h1
    omega
  have o2 := o1.snoc (pb.wide hlo (Nat.le_refl _)) fun i h hi' hh hk => by
    have h1 := (o.lt hi' hh).2.1
    have h2 := (pb.hdl hk).1
    omega
  refine o2.snoc (pa.wide hlo (Nat.le_refl _)) fun i h hi' hh hk => ?_
  by_cases hlt : i < ls.length
  · rw [getD_app_lt (by rw [o.1]; exact hlt)] at hh
    have h1 := (o.lt hlt hh).2.1
    have h2 := (pa.hdl hk).1
    omega
  · have hi2 : i = ls.length := by simp at hi'; omega
    rw [hi2, ← o.1, getD_app_at] at hh
    exact hab h hh hk
def nowI (kind : Int) (xs : List Int) : Nat → List Int := foldI (fun _ l => liftE kind l) xs
def outI (kind : Int) (xs : List Int) (t : Nat) : List (List Int) := (List.range t).map fun k => liftO kind (nowI kind xs k)
theorem outI_succ (kind : Int) (xs : List Int) (t : Nat) : outI kind xs (t + 1) = outI kind xs t ++ [liftO kind (nowI kind xs t)] := by simp [outI, List.range_succ]
theorem nowI_succ (kind : Int) (xs : List Int) (t : Nat) : nowI kind xs (t + 1) = liftE kind (nowI kind xs t) := rfl
theorem nowI_le (kind : Int) (xs : List Int) : ∀ t, (nowI kind xs t).length ≤ xs.length + 1
  | 0 => by simp [nowI, foldI_zero]
  | t + 1 => by have := nowI_le kind xs t; rw [nowI_succ, liftE_length]; omega
def stopN (p : Nat → Bool) : Nat → Nat
  | 0 => 0
  | n + 1 => if stopN p n = n ∧ p n = true then n + 1 else stopN p n
theorem stopN_le (p : Nat → Bool) : ∀ n, stopN p n ≤ n
  | 0 => Nat.le_refl _
  | n + 1 => by
    have := stopN_le p n
    unfold stopN
    split <;> omega
theorem stopN_full {p : Nat → Bool} : ∀ t, (∀ s, s < t → p s = true) → stopN p t = t
  | 0, _ => rfl
  | t + 1, h => by
    unfold stopN
    rw [if_pos ⟨stopN_full t fun s hs => h s (by omega), h t (by omega)⟩]
theorem stopN_eq {p : Nat → Bool} {t : Nat} (h : ∀ s, s < t → p s = true) : ∀ n, t ≤ n → (t < n → p t = false) → stopN p n = t
  | 0, hn, _ => by have : t = 0 := by omega
                   subst this; rfl
  | n + 1, hn, hp => by
    by_cases h1 : t = n + 1
    · subst h1; exact stopN_full _ h
    · have ih := stopN_eq h n (by omega) fun _ => hp (by omega)
      unfold stopN
      rw [ih]
      by_cases h2 : t = n
      · subst h2
        rw [hp (by omega)]
        simp
      · rw [if_neg (fun h => h2 h.1)]
def moreI (kind : Int) (xs : List Int) (t : Nat) : Bool := decide (1 < (nowI kind xs t).length)
def levelsI (kind : Int) (xs : List Int) (n : Nat) : List (List Int) := outI kind xs (stopN (moreI kind xs) n) ++ [nowI kind xs (stopN (moreI kind xs) n)]
theorem outI_len (kind : Int) (xs : List Int) (t : Nat) : (outI kind xs t).length = t := by simp [outI]
theorem outI_sum (kind : Int) (xs : List Int) (hx : xs.length ≤ 128) : ∀ t, offN (outI kind xs t) t ≤ 129 * t
  | 0 => by simp [offN_zero]
  | t + 1 => by
    have ih := outI_sum kind xs hx t
    have h1 := nowI_le kind xs t
    have h2 := liftO_length kind (nowI kind xs t)
    rw [outI_succ, offN_succ (by simp [outI_len])]
    have e1 : offN (outI kind xs t ++ [liftO kind (nowI kind xs t)]) t = offN (outI kind xs t) t := by
      unfold offN
      rw [List.take_append_of_le_length (by rw [outI_len]; exact Nat.le_refl _)]
    have e2 : (outI kind xs t ++ [liftO kind (nowI kind xs t)]).getD t [] = liftO kind (nowI kind xs t) := by
      have := @getD_app_at _ (outI kind xs t) (liftO kind (nowI kind xs t)) []
      rwa [outI_len] at this
    rw [e1, e2]
    omega
theorem levelsI_tot (kind : Int) (xs : List Int) (hx : xs.length ≤ 128) (n : Nat) (hn : n ≤ 6) : totL (levelsI kind xs n) ≤ 2 ^ 40 := by
  have hs := stopN_le (moreI kind xs) n
  obtain ⟨t, ht⟩ : ∃ t, t = stopN (moreI kind xs) n := ⟨_, rfl⟩
  unfold levelsI
  rw [← ht] at hs ⊢
  have h1 := outI_sum kind xs hx t
  have h2 := nowI_le kind xs t
  have hl : (outI kind xs t ++ [nowI kind xs t]).length = t + 1 := by simp [outI_len]
  unfold totL
  rw [hl, offN_succ (by rw [hl]; omega)]
  have e1 : offN (outI kind xs t ++ [nowI kind xs t]) t = offN (outI kind xs t) t := by
    unfold offN
    rw [List.take_append_of_le_length (by rw [outI_len]; exact Nat.le_refl _)]
  have e2 : (outI kind xs t ++ [nowI kind xs t]).getD t [] = nowI kind xs t := by
    have := @getD_app_at _ (outI kind xs t) (nowI kind xs t) []
    rwa [outI_len] at this
  rw [e1, e2]
  omega
theorem integers_len {xs : List Int} (h : integersF xs = true) : 1 ≤ xs.length ∧ xs.length ≤ 128 := by
  simp only [integersF, Bool.and_eq_true] at h
  have := within_true.1 h.1
  omega
theorem i64_nowI {kind : Int} {xs : List Int} (h : I64 xs) : ∀ t, I64 (nowI kind xs t)
  | 0 => h
  | t + 1 => i64_liftE _ _
end Go.Proofs.Ytkojmlpaamdhoae

namespace Go.Proofs.Ytkojmlpaamdhoae
open Go.Gx
set_option maxRecDepth 100000
set_option linter.unusedSimpArgs false
set_option linter.unusedVariables false

theorem rd1_at {H : Heap} {k : Nat} {ty : TypeId} {v : Value} (h : k = H.n) : readSl (H.new ⟨true, ty, [v]⟩) (.slice (some ⟨k, 0, none⟩) 1 1) = some [v] := by subst h; exact rd1_new
theorem tdiv2 (n : Nat) : ((n : Int)).tdiv 2 = ((n / 2 : Nat) : Int) := tdivN n 2
theorem ring_ix (n j k : Nat) : (2 * (j : Int) + (k : Int)).tmod (n : Int) = (((2 * j + k) % n : Nat) : Int) := by
  have : 2 * (j : Int) + (k : Int) = ((2 * j + k : Nat) : Int) := by omega
  rw [this, tmodN]
def tapF (xs ps : List Nat) (j : Nat) : Nat → Nat := foldI (fun k a => fbin .add .f32 a (fbin .mul .f32 (ps.getD k 0) (xs.getD ((2 * j + k) % xs.length) 0))) 0
theorem tapF_succ (xs ps : List Nat) (j k : Nat) : tapF xs ps j (k + 1) = fbin .add .f32 (tapF xs ps j k) (fbin .mul .f32 (ps.getD k 0) (xs.getD ((2 * j + k) % xs.length) 0)) := rfl
def tapL (xs ps : List Nat) : List Nat := tabL (xs.length / 2) fun j => tapF xs ps j ps.length
def splitOk (xs ps : List Nat) : Bool := isLongF xs && decide (xs.length % 2 = 0) && validPairF ps && ((tapL xs ps).all finF && (tapL xs (highL ps)).all finF)
def joinK (lo hi ps hp out : List Nat) (j k : Nat) : List Nat := out.set ((2 * j + k) % (2 * lo.length)) (fbin .add .f32 (out.getD ((2 * j + k) % (2 * lo.length)) 0) (fbin .add .f32 (fbin .mul .f32 (ps.getD k 0) (lo.getD j 0)) (fbin .mul .f32 (hp.getD k 0) (hi.getD j 0))))
def joinJ (lo hi ps hp out : List Nat) (j : Nat) : Nat → List Nat := foldI (fun k o => joinK lo hi ps hp o j k) out
def joinN (lo hi ps hp : List Nat) : Nat → List Nat := foldI (fun j o => joinJ lo hi ps hp o j ps.length) (List.replicate (2 * lo.length) 0)
theorem joinJ_len (lo hi ps hp out : List Nat) (j : Nat) : ∀ k, (joinJ lo hi ps hp out j k).length = out.length
  | 0 => rfl
  | k + 1 => by
    have := joinJ_len lo hi ps hp out j k
    simp only [joinJ, foldI_succ, joinK, List.length_set] at this ⊢
    exact this
theorem joinN_len (lo hi ps hp : List Nat) : ∀ j, (joinN lo hi ps hp j).length = 2 * lo.length
  | 0 => by simp [joinN, foldI_zero]
  | j + 1 => by
    have := joinN_len lo hi ps hp j
    simp only [joinN, foldI_succ] at this ⊢
    rw [joinJ_len]; exact this
theorem joinJ_succ (lo hi ps hp out : List Nat) (j k : Nat) : joinJ lo hi ps hp out j (k + 1) = joinK lo hi ps hp (joinJ lo hi ps hp out j k) j k := rfl
theorem joinN_succ (lo hi ps hp : List Nat) (j : Nat) : joinN lo hi ps hp (j + 1) = joinJ lo hi ps hp (joinN lo hi ps hp j) j ps.length := rfl
def joinL (lo hi ps : List Nat) : List Nat := joinN lo hi ps (highL ps) lo.length
def joinOk (lo hi ps : List Nat) : Bool := within lo.length 1 64 && decide (hi.length = lo.length) && (lo.all finF && hi.all finF) && validPairF ps && (joinL lo hi ps).all finF
theorem fv_at {xs : List Nat} {i : Nat} (h : i < xs.length) : (xs.map fv)[i]? = some (.float .f32 (xs.getD i 0)) := by simp [List.getD_eq_getElem?_getD, h, fv]
theorem rep_fv (n : Nat) : List.replicate n (Value.float .f32 0) = (List.replicate n 0).map fv := by simp [fv]
end Go.Proofs.Ytkojmlpaamdhoae

namespace Go.Proofs.Ytkojmlpaamdhoae
open Go.Gx
set_option maxRecDepth 100000
set_option linter.unusedSimpArgs false
set_option linter.unusedVariables false

structure AG (H : Heap) (v : Value) (xs : List Nat) : Prop where
  rd : FS H v xs
  le : xs.length ≤ 2 ^ 40
theorem AF_g {H : Heap} {v : Value} {xs : List Nat} (a : AF H v xs) : AG H v xs := ⟨a.rd, a.le⟩
theorem s_l03Join_ok {H : Heap} {h : Nat} {own : Bool} {ty : TypeId} {v u p : Value} {lo hi ps : List Nat} (hb : H.blk h = some ⟨own, ty, [p]⟩) (hh : h < H.n) (hv : FS H v lo) (hu : FS H u hi) (hp : FS H p ps) (h1 : 1 ≤ lo.length) (h2 : lo.length ≤ 2 ^ 30) (h3 : hi.length = lo.length) (h4 : ps.length ≤ 2 ^ 30) :
    ACalls Try.prog n_s_l03Join [v, u, .pointer (some ⟨h, 0, some 1⟩)] H fun r H' => Ext H H' ∧ ∃ k, H.n ≤ k ∧ k < H'.n ∧ r = .slice (some ⟨k, 0, none⟩) (2 * lo.length) (2 * lo.length) ∧ H'.blk k = some ⟨true, t_float32, (joinL lo hi ps).map fv⟩ := by
  have lh := highL_length ps
  have em : eMks t_float32 4 (.float .f32 0) = eMks t_float32 4 (.float .f32 0) := rfl
  refine k_s_l03Join.run rfl ?_
  unfold c_s_l03Join
  simp (disch := first | assumption | omega | rfl | (refine id ?_; simp only [gxD, ne_eq, reduceCtorEq, not_false_eq_true, Nat.reduceAdd, *]; done) | (refine id ?_; simp only [gxD]; omega)) only [↓gxPre, gxPost, ↓reduceIte, Nat.reduceEqDiff, reduceCtorEq, Nat.reduceAdd, hv.len]
  refine callR_of (s_l03High_ok hb hh hp (by omega)) ?_
  rintro _ K ⟨eK, rfl, nK, cK⟩
  have hbK := (eK.blk h hh).trans hb
  have hQ : FS K (.slice (some ⟨H.n, 0, none⟩) ps.length ps.length) (highL ps) := FS.own cK (by omega) lh
  have hmk : ∀ G, eMks t_float32 4 (.float .f32 0) (.int .i64 (2 * (lo.length : Int))) (.int .i64 (2 * (lo.length : Int))) G = some (.slice (some ⟨G.n, 0, none⟩) (2 * lo.length) (2 * lo.length), G.new ⟨true, t_float32, List.replicate (2 * lo.length) (.float .f32 0)⟩) := fun G => by
    have := eMks_i (ety := t_float32) (bytes := 4) (zero := .float .f32 0) (n := 2 * lo.length) (H := G) (by omega)
    rwa [show ((2 * lo.length : Nat) : Int) = 2 * (lo.length : Int) by omega] at this
  simp (disch := first | assumption | omega | rfl | (refine id ?_; simp only [gxD, ne_eq, reduceCtorEq, not_false_eq_true, Nat.reduceAdd, *]; done) | (refine id ?_; simp only [gxD]; omega)) only [↓gxPre, gxPost, ↓reduceIte, Nat.reduceEqDiff, reduceCtorEq, Nat.reduceAdd, hmk, hv.len]
  refine loop_forH lo.length (fun j => [v, u, .pointer (some ⟨h, 0, some 1⟩), .int .i64 (2 * (lo.length : Int)), .slice (some ⟨H.n, 0, none⟩) ps.length ps.length, .slice (some ⟨K.n, 0, none⟩) (2 * lo.length) (2 * lo.length), .int .i64 lo.length, .int .i64 j])
    (fun j G => K.n + 1 ≤ G.n ∧ Ext K G ∧ G.blk K.n = some ⟨true, t_float32, (joinN lo hi ps (highL ps) j).map fv⟩) rfl ⟨by simp only [new_n]; omega, ⟨by first | omega | (simp only [new_n, put_n]; omega) | (simp only [new_n, put_n] at *; omega), fun i hi => by simp (disch := first | assumption | omega | rfl | (refine id ?_; simp only [gxD, ne_eq, reduceCtorEq, not_false_eq_true, Nat.reduceAdd, *]; done) | (refine id ?_; simp only [gxD]; omega)) only [↓gxPre, gxPost, ↓reduceIte, Nat.reduceEqDiff, reduceCtorEq, Nat.reduceAdd, *]⟩, by rw [new_self, rep_fv]; rfl⟩ ?_ ?_
  · rintro G ⟨hG, hE, hc⟩
    simp (disch := first | assumption | omega | rfl | (refine id ?_; simp only [gxD, ne_eq, reduceCtorEq, not_false_eq_true, Nat.reduceAdd, *]; done) | (refine id ?_; simp only [gxD]; omega)) only [↓gxPre, gxPost, ↓reduceIte, Nat.reduceEqDiff, reduceCtorEq, Nat.reduceAdd, Int.lt_irrefl]
    exact ⟨eK.trans hE, K.n, by have := eK.n; omega, by omega, rfl, hc⟩
  · rintro j G hj ⟨hG, hE, hc⟩
    have hbG := (hE.blk h (by have := eK.n; omega)).trans hbK
    simp (disch := first | assumption | omega | rfl | (refine id ?_; simp only [gxD, ne_eq, reduceCtorEq, not_false_eq_true, Nat.reduceAdd, *]; done) | (refine id ?_; simp only [gxD]; omega)) only [↓gxPre, gxPost, ↓reduceIte, Nat.reduceEqDiff, reduceCtorEq, Nat.reduceAdd, hbG, ((hp.ext eK).ext hE).len]
    refine loop_forH ps.length (fun k => [v, u, .pointer (some ⟨h, 0, some 1⟩), .int .i64 (2 * (lo.length : Int)), .slice (some ⟨H.n, 0, none⟩) ps.length ps.length, .slice (some ⟨K.n, 0, none⟩) (2 * lo.length) (2 * lo.length), .int .i64 j, .int .i64 lo.length, .int .i64 j, .int .i64 ps.length, .int .i64 k])
      (fun k G => K.n + 1 ≤ G.n ∧ Ext K G ∧ G.blk K.n = some ⟨true, t_float32, (joinJ lo hi ps (highL ps) (joinN lo hi ps (highL ps) j) j k).map fv⟩) rfl ⟨hG, hE, hc⟩ ?_ ?_
    · rintro G ⟨hG, hE, hc⟩
      simp (disch := first | assumption | omega | rfl | (refine id ?_; simp only [gxD, ne_eq, reduceCtorEq, not_false_eq_true, Nat.reduceAdd, *]; done) | (refine id ?_; simp only [gxD]; omega)) only [↓gxPre, gxPost, ↓reduceIte, Nat.reduceEqDiff, reduceCtorEq, Nat.reduceAdd, Int.lt_irrefl]
      exact ⟨by simp, hG, hE, hc⟩
    · rintro k G hk ⟨hG, hE, hc⟩
      have hv0 := (hv.ext eK).ext hE
      have hu0 := (hu.ext eK).ext hE
      have hp0 := (hp.ext eK).ext hE
      have hq0 := hQ.ext hE
      have hbG := (hE.blk h (by have := eK.n; omega)).trans hbK
      have hmod : (2 * j + k) % (2 * lo.length) < 2 * lo.length := Nat.mod_lt _ (by omega)
      have ln : (joinJ lo hi ps (highL ps) (joinN lo hi ps (highL ps) j) j k).length = 2 * lo.length := by rw [joinJ_len, joinN_len]
      have ln' : ((joinJ lo hi ps (highL ps) (joinN lo hi ps (highL ps) j) j k).map fv).length = 2 * lo.length := by rw [lMapN, ln]
      have ha := fv_at (xs := joinJ lo hi ps (highL ps) (joinN lo hi ps (highL ps) j) j k) (i := (2 * j + k) % (2 * lo.length)) (by omega)
      have hi1 : (2 * (j : Int) + (k : Int)).tmod (2 * (lo.length : Int)) = (((2 * j + k) % (2 * lo.length) : Nat) : Int) := by
        have := ring_ix (2 * lo.length) j k
        rwa [show ((2 * lo.length : Nat) : Int) = 2 * (lo.length : Int) by omega] at this
      have hs : ((joinJ lo hi ps (highL ps) (joinN lo hi ps (highL ps) j) j k).map fv).set ((2 * j + k) % (2 * lo.length)) (.float .f32 (fbin .add .f32 ((joinJ lo hi ps (highL ps) (joinN lo hi ps (highL ps) j) j k).getD ((2 * j + k) % (2 * lo.length)) 0) (fbin .add .f32 (fbin .mul .f32 (ps.getD k 0) (lo.getD j 0)) (fbin .mul .f32 ((highL ps).getD k 0) (hi.getD j 0))))) = (joinJ lo hi ps (highL ps) (joinN lo hi ps (highL ps) j) j (k + 1)).map fv := by
        rw [fv_set', joinJ_succ]; rfl
      simp (disch := first | assumption | omega | rfl | (refine id ?_; simp only [gxD, ne_eq, reduceCtorEq, not_false_eq_true, Nat.reduceAdd, *]; done) | (refine id ?_; simp only [gxD]; omega)) only [↓gxPre, gxPost, ↓reduceIte, Nat.reduceEqDiff, reduceCtorEq, Nat.reduceAdd, hi1, hbG, hv0.ia, hv0.ld, hu0.ia, hu0.ld, hp0.ia, hp0.ld, hq0.ia, hq0.ld, hc, ha]
      exact ⟨by simp, hG, hE.put (Nat.le_refl _) _, by rw [hs]⟩
theorem i_JoinRing_ok {H : Heap} {v0 v1 v2 : Value} {xs0 xs1 xs2 : List Nat} (A : AG H v0 xs0) (B : AG H v1 xs1) (C : AG H v2 xs2) : ACalls Try.prog n_i_JoinRing [v0, v1, .agg #[v2]] H fun r H' => ListR fv t_float32 H (joinOk xs0 xs1 xs2) (joinL xs0 xs1 xs2) r H' := by
  have o1 := A.rd.one
  have o2 := B.rd.one
  have o3 := C.rd.one
  refine k_i_JoinRing.run rfl ?_
  unfold c_i_JoinRing
  simp (disch := first | assumption | omega | rfl | (refine id ?_; simp only [gxD, ne_eq, reduceCtorEq, not_false_eq_true, Nat.reduceAdd, *]; done) | (refine id ?_; simp only [gxD]; omega)) only [↓gxPre, gxPost, ↓reduceIte, Nat.reduceEqDiff, reduceCtorEq, Nat.reduceAdd, A.rd.len]
  refine callR_new ?_
  intro G e hb nn
  refine callR_pure (i_within_ok) (by first | exact Or.inl rfl | (simp (disch := first | assumption | omega | rfl | (refine id ?_; simp only [gxD, ne_eq, reduceCtorEq, not_false_eq_true, Nat.reduceAdd, *]; done) | (refine id ?_; simp only [gxD]; omega)) only [↓gxPre, gxPost, ↓reduceIte, Nat.reduceEqDiff, reduceCtorEq, Nat.reduceAdd, *]; done)) ?_
  simp (disch := first | assumption | omega | rfl | (refine id ?_; simp only [gxD, ne_eq, reduceCtorEq, not_false_eq_true, Nat.reduceAdd, *]; done) | (refine id ?_; simp only [gxD]; omega)) only [↓gxPre, gxPost, ↓reduceIte, Nat.reduceEqDiff, reduceCtorEq, Nat.reduceAdd, *]
  cases h1 : within xs0.length 1 64
  · simp (disch := first | assumption | omega | rfl | (refine id ?_; simp only [gxD, ne_eq, reduceCtorEq, not_false_eq_true, Nat.reduceAdd, *]; done) | (refine id ?_; simp only [gxD]; omega)) only [↓gxPre, gxPost, ↓reduceIte, Nat.reduceEqDiff, reduceCtorEq, Nat.reduceAdd]
    exact .no (by simp only [joinOk, h1, Bool.false_and]) e
  have h1' := within_true.1 h1
  by_cases h2 : xs1.length = xs0.length
  rotate_left
  · have h2' : ¬ (xs1.length : Int) = xs0.length := by omega
    simp (disch := first | assumption | omega | rfl | (refine id ?_; simp only [gxD, ne_eq, reduceCtorEq, not_false_eq_true, Nat.reduceAdd, *]; done) | (refine id ?_; simp only [gxD]; omega)) only [↓gxPre, gxPost, ↓reduceIte, Nat.reduceEqDiff, reduceCtorEq, Nat.reduceAdd, A.rd.len, B.rd.len, h2', ne_eq, not_false_eq_true]
    exact .no (by simp only [joinOk, decide_eq_false h2, Bool.and_false, Bool.false_and]) e
  have h2' : (xs1.length : Int) = xs0.length := by omega
  simp (disch := first | assumption | omega | rfl | (refine id ?_; simp only [gxD, ne_eq, reduceCtorEq, not_false_eq_true, Nat.reduceAdd, *]; done) | (refine id ?_; simp only [gxD]; omega)) only [↓gxPre, gxPost, ↓reduceIte, Nat.reduceEqDiff, reduceCtorEq, Nat.reduceAdd, A.rd.len, B.rd.len, h2', ne_eq, not_true]
  refine callR_new ?_
  intro G1 e1 hb1 nn1
  have eA := e.trans e1
  have hbG := (e1.blk H.n (by omega)).trans hb
  refine callR_pure (i_areFinite2_ok hb1 (by omega) (A.rd.ext eA) (B.rd.ext eA) A.le B.le) (.inl rfl) ?_
  cases h3 : (xs0.all finF && xs1.all finF)
  · simp (disch := first | assumption | omega | rfl | (refine id ?_; simp only [gxD, ne_eq, reduceCtorEq, not_false_eq_true, Nat.reduceAdd, *]; done) | (refine id ?_; simp only [gxD]; omega)) only [↓gxPre, gxPost, ↓reduceIte, Nat.reduceEqDiff, reduceCtorEq, Nat.reduceAdd]
    exact .no (by simp only [joinOk, h3, Bool.and_false, Bool.false_and]) eA
  simp (disch := first | assumption | omega | rfl | (refine id ?_; simp only [gxD, ne_eq, reduceCtorEq, not_false_eq_true, Nat.reduceAdd, *]; done) | (refine id ?_; simp only [gxD]; omega)) only [↓gxPre, gxPost, ↓reduceIte, Nat.reduceEqDiff, reduceCtorEq, Nat.reduceAdd, hbG]
  refine callR_ext (i_ValidPair_ok (C.rd.ext eA) C.le) ?_
  intro G2 n2 b2
  have e2 : Ext H G2 := eA.trans ⟨n2, b2⟩
  have hb2 := (b2 H.n (by omega)).trans hbG
  cases h4 : validPairF xs2
  · simp (disch := first | assumption | omega | rfl | (refine id ?_; simp only [gxD, ne_eq, reduceCtorEq, not_false_eq_true, Nat.reduceAdd, *]; done) | (refine id ?_; simp only [gxD]; omega)) only [↓gxPre, gxPost, ↓reduceIte, Nat.reduceEqDiff, reduceCtorEq, Nat.reduceAdd]
    exact .no (by simp only [joinOk, h4, Bool.and_false, Bool.false_and]) e2
  have hp := vp_len h4
  simp (disch := first | assumption | omega | rfl | (refine id ?_; simp only [gxD, ne_eq, reduceCtorEq, not_false_eq_true, Nat.reduceAdd, *]; done) | (refine id ?_; simp only [gxD]; omega)) only [↓gxPre, gxPost, ↓reduceIte, Nat.reduceEqDiff, reduceCtorEq, Nat.reduceAdd, hb2]
  refine callR_of (i_highOf_ok (C.rd.ext e2) C.le) ?_
  rintro _ K ⟨eK', rfl, nK, cK⟩
  have eK := e2.trans eK'
  have hbK := (eK'.blk H.n (by omega)).trans hb2
  have lh := highL_length xs2
  have hK0 : H.n < K.n := by omega
  have hQ : FS K (.slice (some ⟨G2.n + 1, 0, none⟩) xs2.length xs2.length) (highL xs2) := FS.own cK (by omega) lh
  have hmk : ∀ G, eMks t_float32 4 (.float .f32 0) (.int .i64 (2 * (xs0.length : Int))) (.int .i64 (2 * (xs0.length : Int))) G = some (.slice (some ⟨G.n, 0, none⟩) (2 * xs0.length) (2 * xs0.length), G.new ⟨true, t_float32, List.replicate (2 * xs0.length) (.float .f32 0)⟩) := fun G => by
    have := eMks_i (ety := t_float32) (bytes := 4) (zero := .float .f32 0) (n := 2 * xs0.length) (H := G) (by omega)
    rwa [show ((2 * xs0.length : Nat) : Int) = 2 * (xs0.length : Int) by omega] at this
  simp (disch := first | assumption | omega | rfl | (refine id ?_; simp only [gxD, ne_eq, reduceCtorEq, not_false_eq_true, Nat.reduceAdd, *]; done) | (refine id ?_; simp only [gxD]; omega)) only [↓gxPre, gxPost, ↓reduceIte, Nat.reduceEqDiff, reduceCtorEq, Nat.reduceAdd, hmk, A.rd.len]
  refine loop_forH xs0.length (fun j => [v0, v1, .pointer (some ⟨H.n, 0, some 1⟩), .slice (some ⟨G2.n + 1, 0, none⟩) xs2.length xs2.length, .int .i64 (2 * (xs0.length : Int)), .slice (some ⟨K.n, 0, none⟩) (2 * xs0.length) (2 * xs0.length), .int .i64 xs0.length, .int .i64 j])
    (fun j G => K.n + 1 ≤ G.n ∧ Ext K G ∧ G.blk K.n = some ⟨true, t_float32, (joinN xs0 xs1 xs2 (highL xs2) j).map fv⟩) rfl ⟨by simp only [new_n]; omega, ⟨by first | omega | (simp only [new_n, put_n]; omega) | (simp only [new_n, put_n] at *; omega), fun i hi => by simp (disch := first | assumption | omega | rfl | (refine id ?_; simp only [gxD, ne_eq, reduceCtorEq, not_false_eq_true, Nat.reduceAdd, *]; done) | (refine id ?_; simp only [gxD]; omega)) only [↓gxPre, gxPost, ↓reduceIte, Nat.reduceEqDiff, reduceCtorEq, Nat.reduceAdd, *]⟩, by rw [new_self, rep_fv]; rfl⟩ ?_ ?_
  · rintro G3 ⟨hG, hE, hc⟩
    have ln : (joinL xs0 xs1 xs2).length = 2 * xs0.length := joinN_len _ _ _ _ _
    simp (disch := first | assumption | omega | rfl | (refine id ?_; simp only [gxD, ne_eq, reduceCtorEq, not_false_eq_true, Nat.reduceAdd, *]; done) | (refine id ?_; simp only [gxD]; omega)) only [↓gxPre, gxPost, ↓reduceIte, Nat.reduceEqDiff, reduceCtorEq, Nat.reduceAdd, Int.lt_irrefl]
    refine callR_ext (i_finiteList_ok (xs := joinL xs0 xs1 xs2) (FS.own hc (by omega) ln) (by omega)) ?_
    intro G4 n4 b4
    have e4 : Ext G3 G4 := ⟨n4, b4⟩
    cases hf : (joinL xs0 xs1 xs2).all finF
    · simp (disch := first | assumption | omega | rfl | (refine id ?_; simp only [gxD, ne_eq, reduceCtorEq, not_false_eq_true, Nat.reduceAdd, *]; done) | (refine id ?_; simp only [gxD]; omega)) only [↓gxPre, gxPost, ↓reduceIte, Nat.reduceEqDiff, reduceCtorEq, Nat.reduceAdd, listV]
      exact .no (by simp only [joinOk, hf, Bool.and_false]) ((eK.trans hE).trans e4)
    · simp (disch := first | assumption | omega | rfl | (refine id ?_; simp only [gxD, ne_eq, reduceCtorEq, not_false_eq_true, Nat.reduceAdd, *]; done) | (refine id ?_; simp only [gxD]; omega)) only [↓gxPre, gxPost, ↓reduceIte, Nat.reduceEqDiff, reduceCtorEq, Nat.reduceAdd, listV]
      exact .yes (by simp only [joinOk, hf, h1, h3, h4, decide_eq_true h2, Bool.and_true]) ((eK.trans hE).trans e4) (.mk ((e4.blk K.n (by omega)).trans hc) (by simpa using ln) (by first | omega | (simp only [new_n, put_n]; omega)) (by first | omega | (simp only [new_n, put_n]; omega)) (by first | omega | (simp only [new_n, put_n]; omega))) (by omega)
  · rintro j G3 hj ⟨hG, hE, hc⟩
    have hbG := (hE.blk H.n hK0).trans hbK
    simp (disch := first | assumption | omega | rfl | (refine id ?_; simp only [gxD, ne_eq, reduceCtorEq, not_false_eq_true, Nat.reduceAdd, *]; done) | (refine id ?_; simp only [gxD]; omega)) only [↓gxPre, gxPost, ↓reduceIte, Nat.reduceEqDiff, reduceCtorEq, Nat.reduceAdd, hbG, ((C.rd.ext eK).ext hE).len]
    refine loop_forH xs2.length (fun k => [v0, v1, .pointer (some ⟨H.n, 0, some 1⟩), .slice (some ⟨G2.n + 1, 0, none⟩) xs2.length xs2.length, .int .i64 (2 * (xs0.length : Int)), .slice (some ⟨K.n, 0, none⟩) (2 * xs0.length) (2 * xs0.length), .int .i64 j, .int .i64 xs0.length, .int .i64 j, v2, .int .i64 xs2.length, .int .i64 k])
      (fun k G => K.n + 1 ≤ G.n ∧ Ext K G ∧ G.blk K.n = some ⟨true, t_float32, (joinJ xs0 xs1 xs2 (highL xs2) (joinN xs0 xs1 xs2 (highL xs2) j) j k).map fv⟩) rfl ⟨hG, hE, hc⟩ ?_ ?_
    · rintro G ⟨hG, hE, hc⟩
      simp (disch := first | assumption | omega | rfl | (refine id ?_; simp only [gxD, ne_eq, reduceCtorEq, not_false_eq_true, Nat.reduceAdd, *]; done) | (refine id ?_; simp only [gxD]; omega)) only [↓gxPre, gxPost, ↓reduceIte, Nat.reduceEqDiff, reduceCtorEq, Nat.reduceAdd, Int.lt_irrefl]
      exact ⟨by simp, hG, hE, hc⟩
    · rintro k G hk ⟨hG, hE, hc⟩
      have hv0 := (A.rd.ext eK).ext hE
      have hu0 := (B.rd.ext eK).ext hE
      have hp0 := (C.rd.ext eK).ext hE
      have hq0 := hQ.ext hE
      have hmod : (2 * j + k) % (2 * xs0.length) < 2 * xs0.length := Nat.mod_lt _ (by omega)
      have ln : (joinJ xs0 xs1 xs2 (highL xs2) (joinN xs0 xs1 xs2 (highL xs2) j) j k).length = 2 * xs0.length := by rw [joinJ_len, joinN_len]
      have ln' : ((joinJ xs0 xs1 xs2 (highL xs2) (joinN xs0 xs1 xs2 (highL xs2) j) j k).map fv).length = 2 * xs0.length := by rw [lMapN, ln]
      have ha := fv_at (xs := joinJ xs0 xs1 xs2 (highL xs2) (joinN xs0 xs1 xs2 (highL xs2) j) j k) (i := (2 * j + k) % (2 * xs0.length)) (by omega)
      have hi1 : (2 * (j : Int) + (k : Int)).tmod (2 * (xs0.length : Int)) = (((2 * j + k) % (2 * xs0.length) : Nat) : Int) := by
        have := ring_ix (2 * xs0.length) j k
        rwa [show ((2 * xs0.length : Nat) : Int) = 2 * (xs0.length : Int) by omega] at this
      have hs : ((joinJ xs0 xs1 xs2 (highL xs2) (joinN xs0 xs1 xs2 (highL xs2) j) j k).map fv).set ((2 * j + k) % (2 * xs0.length)) (.float .f32 (fbin .add .f32 ((joinJ xs0 xs1 xs2 (highL xs2) (joinN xs0 xs1 xs2 (highL xs2) j) j k).getD ((2 * j + k) % (2 * xs0.length)) 0) (fbin .add .f32 (fbin .mul .f32 (xs2.getD k 0) (xs0.getD j 0)) (fbin .mul .f32 ((highL xs2).getD k 0) (xs1.getD j 0))))) = (joinJ xs0 xs1 xs2 (highL xs2) (joinN xs0 xs1 xs2 (highL xs2) j) j (k + 1)).map fv := by
        rw [fv_set', joinJ_succ]; rfl
      simp (disch := first | assumption | omega | rfl | (refine id ?_; simp only [gxD, ne_eq, reduceCtorEq, not_false_eq_true, Nat.reduceAdd, *]; done) | (refine id ?_; simp only [gxD]; omega)) only [↓gxPre, gxPost, ↓reduceIte, Nat.reduceEqDiff, reduceCtorEq, Nat.reduceAdd, hi1, hv0.ia, hv0.ld, hu0.ia, hu0.ld, hp0.ia, hp0.ld, hq0.ia, hq0.ld, hc, ha]
      exact ⟨by simp, hG, hE.put (Nat.le_refl _) _, by rw [hs]⟩
theorem i_JoinRing_law {H : Heap} {v0 v1 v2 : Value} {xs0 xs1 xs2 : List Nat} (A : AF H v0 xs0) (B : AF H v1 xs1) (C : AF H v2 xs2) : ACalls Try.prog n_i_JoinRing [v0, v1, .agg #[v2]] H fun r H' => ListR fv t_float32 H (joinOk xs0 xs1 xs2) (joinL xs0 xs1 xs2) r H' := i_JoinRing_ok (AF_g A) (AF_g B) (AF_g C)
end Go.Proofs.Ytkojmlpaamdhoae

namespace Go.Proofs.Ytkojmlpaamdhoae
open Go.Gx
set_option maxRecDepth 100000
set_option linter.unusedSimpArgs false
set_option linter.unusedVariables false

def nowJ (xs : List Nat) (yss : List (List Nat)) (ps : List Nat) : Nat → List Nat := foldI (fun t l => joinL l (yss.getD (yss.length - 1 - t) []) ps) xs
theorem nowJ_succ (xs : List Nat) (yss : List (List Nat)) (ps : List Nat) (t : Nat) : nowJ xs yss ps (t + 1) = joinL (nowJ xs yss ps t) (yss.getD (yss.length - 1 - t) []) ps := rfl
theorem nowJ_len_succ (xs : List Nat) (yss : List (List Nat)) (ps : List Nat) (t : Nat) : (nowJ xs yss ps (t + 1)).length = 2 * (nowJ xs yss ps t).length := joinN_len _ _ _ _ _
theorem det_le {xs : List Nat} {yss : List (List Nat)} (h : validBandsF xs yss = true) : ∀ i, i < yss.length → 1 ≤ (yss.getD i []).length ∧ (yss.getD i []).length ≤ (yss.getD 0 []).length
  | 0, hi => by
    have := (vb_yes h).2.2.2.2.1 0 hi
    simp only [detAt, Bool.and_eq_true, decide_eq_true_eq] at this
    exact ⟨this.1, Nat.le_refl _⟩
  | i + 1, hi => by
    have ih := det_le h i (by omega)
    have := (vb_yes h).2.2.2.2.1 (i + 1) hi
    simp only [detAt, Bool.and_eq_true, Bool.or_eq_true, decide_eq_true_eq] at this
    have h2 := this.2
    simp only [Nat.add_sub_cancel] at h2
    omega
theorem nowJ_len {xs : List Nat} {yss : List (List Nat)} {ps : List Nat} (h : validBandsF xs yss = true) : ∀ t, t < yss.length → (nowJ xs yss ps t).length = (yss.getD (yss.length - 1 - t) []).length
  | 0, ht => by
    have := (vb_yes h).2.2.2.2.2
    simpa [nowJ, foldI_zero] using this
  | t + 1, ht => by
    have ih := nowJ_len (ps := ps) h t (by omega)
    have := (vb_yes h).2.2.2.2.1 (yss.length - 1 - t) (by omega)
    simp only [detAt, Bool.and_eq_true, Bool.or_eq_true, decide_eq_true_eq] at this
    rw [nowJ_len_succ, ih, show yss.length - 1 - (t + 1) = yss.length - 1 - t - 1 by omega]
    omega
def allJ (xs : List Nat) (yss : List (List Nat)) (ps : List Nat) : Bool := (List.range yss.length).all fun t => (nowJ xs yss ps (t + 1)).all finF
def joinLevOk (xs : List Nat) (yss : List (List Nat)) (ps : List Nat) : Bool := validBandsF xs yss && validPairF ps && allJ xs yss ps
theorem i_JoinLevels_ok {H : Heap} {v0 u0 v1 : Value} {xs0 xs1 : List Nat} {ys0 : List (List Nat)} (A : AF H v0 xs0) (B : AS H u0 ys0) (C : AF H v1 xs1) :
    ACalls Try.prog n_i_JoinLevels [.agg #[v0, u0], .agg #[v1]] H fun r H' => ListR fv t_float32 H (joinLevOk xs0 ys0 xs1) (nowJ xs0 ys0 xs1 ys0.length) r H' := by
  have hm := B.le
  have o1 := A.rd.one
  have o2 := B.rd.one'
  have o3 := C.rd.one
  obtain ⟨us, hu, hul, hus⟩ := B.rd
  refine k_i_JoinLevels.run rfl ?_
  unfold c_i_JoinLevels
  simp (disch := first | assumption | omega | rfl | (refine id ?_; simp only [gxD, ne_eq, reduceCtorEq, not_false_eq_true, Nat.reduceAdd, *]; done) | (refine id ?_; simp only [gxD]; omega)) only [↓gxPre, gxPost, ↓reduceIte, Nat.reduceEqDiff, reduceCtorEq, Nat.reduceAdd]
  refine callR_new2 ?_
  intro G e hb hp nn
  refine callR_ext (i_ValidBands_ok (A.rd.ext e) (B.rd.ext e) A.le B.le) ?_
  intro G1 n1 b1
  have e1 : Ext H G1 := e.trans ⟨n1, b1⟩
  have hb1 := (b1 H.n (by omega)).trans hb
  have hp1 := (b1 (H.n + 1) (by omega)).trans hp
  cases h1 : validBandsF xs0 ys0
  · simp (disch := first | assumption | omega | rfl | (refine id ?_; simp only [gxD, ne_eq, reduceCtorEq, not_false_eq_true, Nat.reduceAdd, *]; done) | (refine id ?_; simp only [gxD]; omega)) only [↓gxPre, gxPost, ↓reduceIte, Nat.reduceEqDiff, reduceCtorEq, Nat.reduceAdd]
    exact .no (by simp only [joinLevOk, h1, Bool.false_and]) e1
  have hvb := vb_yes h1
  have hdl := det_le h1
  simp (disch := first | assumption | omega | rfl | (refine id ?_; simp only [gxD, ne_eq, reduceCtorEq, not_false_eq_true, Nat.reduceAdd, *]; done) | (refine id ?_; simp only [gxD]; omega)) only [↓gxPre, gxPost, ↓reduceIte, Nat.reduceEqDiff, reduceCtorEq, Nat.reduceAdd, hp1]
  refine callR_ext (i_ValidPair_ok (C.rd.ext e1) C.le) ?_
  intro K n2 b2
  have eK : Ext H K := e1.trans ⟨n2, b2⟩
  have hbK := (b2 H.n (by omega)).trans hb1
  have hpK := (b2 (H.n + 1) (by omega)).trans hp1
  cases h2 : validPairF xs1
  · simp (disch := first | assumption | omega | rfl | (refine id ?_; simp only [gxD, ne_eq, reduceCtorEq, not_false_eq_true, Nat.reduceAdd, *]; done) | (refine id ?_; simp only [gxD]; omega)) only [↓gxPre, gxPost, ↓reduceIte, Nat.reduceEqDiff, reduceCtorEq, Nat.reduceAdd]
    exact .no (by simp only [joinLevOk, h2, Bool.and_false, Bool.false_and]) eK
  simp (disch := first | assumption | omega | rfl | (refine id ?_; simp only [gxD, ne_eq, reduceCtorEq, not_false_eq_true, Nat.reduceAdd, *]; done) | (refine id ?_; simp only [gxD]; omega)) only [↓gxPre, gxPost, ↓reduceIte, Nat.reduceEqDiff, reduceCtorEq, Nat.reduceAdd, hbK, hu.len, hul]
  refine loop_st (σ := Nat × Value) (fun s => [.pointer (some ⟨H.n, 0, some 2⟩), .pointer (some ⟨H.n + 1, 0, some 1⟩), s.2, .int .i64 ((ys0.length : Int) - 1 - s.1)])
    (fun s G => s.1 ≤ ys0.length ∧ Ext K G ∧ FS G s.2 (nowJ xs0 ys0 xs1 s.1) ∧ (nowJ xs0 ys0 xs1 s.1).all finF = true ∧ (0 < s.1 → OwL H.n G.n G t_float32 s.2 ((nowJ xs0 ys0 xs1 s.1).map fv)) ∧ ∀ t, t < s.1 → (nowJ xs0 ys0 xs1 (t + 1)).all finF = true)
    (fun s => ys0.length - s.1) (0, v0) (by simp) ⟨by omega, .refl _, A.rd.ext eK, hvb.2.2.1, by intros; omega, by intros; omega⟩ ?_
  rintro ⟨t, v⟩ G3 ⟨ht, hE, hv, hf, ho, hJ⟩
  simp only at ht hv hf ho hJ ⊢
  have hb3 := (hE.blk H.n (by omega)).trans hbK
  have hp3 := (hE.blk (H.n + 1) (by omega)).trans hpK
  by_cases c1 : t < ys0.length
  rotate_left
  · have htn : t = ys0.length := by omega
    subst htn
    have : ¬ (0 : Int) ≤ (ys0.length : Int) - 1 - ys0.length := by omega
    have hl := nowJ_len (ps := xs1) h1 (ys0.length - 1) (by omega)
    have hd0 := hdl (ys0.length - 1 - (ys0.length - 1)) (by omega)
    have hl2 := nowJ_len_succ xs0 ys0 xs1 (ys0.length - 1)
    rw [show ys0.length - 1 + 1 = ys0.length by omega] at hl2
    have ov := hv.one
    simp (disch := first | assumption | omega | rfl | (refine id ?_; simp only [gxD, ne_eq, reduceCtorEq, not_false_eq_true, Nat.reduceAdd, *]; done) | (refine id ?_; simp only [gxD]; omega)) only [↓gxPre, gxPost, ↓reduceIte, Nat.reduceEqDiff, reduceCtorEq, Nat.reduceAdd, this]
    exact .yes (by simp only [joinLevOk, h1, h2, allJ, allR.2 hJ, Bool.and_true]) (eK.trans hE) (ho (by omega)) (by omega)
  · have c2 : (0 : Int) ≤ (ys0.length : Int) - 1 - t := by omega
    have e2 : ((ys0.length : Int) - 1 - t).toNat = ys0.length - 1 - t := by omega
    have hj : ys0.length - 1 - t < ys0.length := by omega
    have hl := nowJ_len (ps := xs1) h1 t c1
    have hd := hdl _ hj
    have hu' := (hu.ext eK).ext hE
    have hok : joinOk (nowJ xs0 ys0 xs1 t) (ys0.getD (ys0.length - 1 - t) []) xs1 = (nowJ xs0 ys0 xs1 (t + 1)).all finF := by
      unfold joinOk
      rw [within_true.2 ⟨by omega, by omega⟩, decide_eq_true hl.symm, hf, hvb.2.2.2.1 _ hj, h2]
      rfl
    simp (disch := first | assumption | omega | rfl | (refine id ?_; simp only [gxD, ne_eq, reduceCtorEq, not_false_eq_true, Nat.reduceAdd, *]; done) | (refine id ?_; simp only [gxD]; omega)) only [↓gxPre, gxPost, ↓reduceIte, Nat.reduceEqDiff, reduceCtorEq, Nat.reduceAdd, c2, hb3, hp3, hu'.ia, hu'.ldD, hul, e2]
    refine callR_of (i_JoinRing_ok ⟨hv, by omega⟩ ⟨((hus _ hj).ext eK).ext hE, totL_row hm _⟩ ⟨(C.rd.ext eK).ext hE, C.le⟩) ?_
    rw [hok]
    rintro _ G4 ⟨e4, v', rfl, o4, q4⟩
    cases hf2 : (nowJ xs0 ys0 xs1 (t + 1)).all finF
    · rw [hf2] at o4
      have hno : allJ xs0 ys0 xs1 = false := allR_false (p := fun t => (nowJ xs0 ys0 xs1 (t + 1)).all finF) c1 hf2
      simp (disch := first | assumption | omega | rfl | (refine id ?_; simp only [gxD, ne_eq, reduceCtorEq, not_false_eq_true, Nat.reduceAdd, *]; done) | (refine id ?_; simp only [gxD]; omega)) only [↓gxPre, gxPost, ↓reduceIte, Nat.reduceEqDiff, reduceCtorEq, Nat.reduceAdd]
      exact .no (by simp only [joinLevOk, hno, Bool.and_false]) ((eK.trans hE).trans e4)
    · rw [hf2] at o4
      simp (disch := first | assumption | omega | rfl | (refine id ?_; simp only [gxD, ne_eq, reduceCtorEq, not_false_eq_true, Nat.reduceAdd, *]; done) | (refine id ?_; simp only [gxD]; omega)) only [↓gxPre, gxPost, ↓reduceIte, Nat.reduceEqDiff, reduceCtorEq, Nat.reduceAdd]
      refine ⟨(t + 1, v'), by simp only; omega, ?_, by simp only; omega, hE.trans e4, OwL.fs o4, hf2, fun _ => o4.wide (by have := eK.n; have := hE.n; omega) (Nat.le_refl _), fun s hs => ?_⟩
      · simp; omega
      · by_cases hst : s = t
        · rw [hst]; exact hf2
        · exact hJ s (by simp only at hs; omega)
theorem i_JoinLevels_law {H : Heap} {v0 u0 v1 : Value} {xs0 xs1 : List Nat} {ys0 : List (List Nat)} (A : AF H v0 xs0) (B : AS H u0 ys0) (C : AF H v1 xs1) :
    ACalls Try.prog n_i_JoinLevels [.agg #[v0, u0], .agg #[v1]] H fun r H' => ListR fv t_float32 H (joinLevOk xs0 ys0 xs1) (nowJ xs0 ys0 xs1 ys0.length) r H' := i_JoinLevels_ok A B C
theorem s_l03Levels_ok {H : Heap} {a b : Nat} {oa ob : Bool} {ta tb : TypeId} {v0 u0 v1 : Value} {xs0 xs1 : List Nat} {ys0 : List (List Nat)} (hb : H.blk a = some ⟨oa, ta, [v0, u0]⟩) (ha : a < H.n) (hp : H.blk b = some ⟨ob, tb, [v1]⟩) (hbn : b < H.n) (A : AG H v0 xs0) (B0 : SS H u0 ys0) (hm : totL ys0 ≤ 2 ^ 40) (C : AG H v1 xs1)
    (h1 : validBandsF xs0 ys0 = true) (h2 : validPairF xs1 = true) :
    ACalls Try.prog n_s_l03Levels [.pointer (some ⟨a, 0, some 2⟩), .pointer (some ⟨b, 0, some 1⟩)] H fun r H' => ListR fv t_float32 H (allJ xs0 ys0 xs1) (nowJ xs0 ys0 xs1 ys0.length) r H' := by
  have hvb := vb_yes h1
  have hdl := det_le h1
  have hpl := vp_len h2
  have hAl := A.le
  obtain ⟨us, hu, hul, hus⟩ := B0
  refine k_s_l03Levels.run rfl ?_
  unfold c_s_l03Levels
  have hr := (A.rd.ext (.new H ⟨true, t_float32, []⟩)).read
  simp (disch := first | assumption | omega | rfl | (refine id ?_; simp only [gxD, ne_eq, reduceCtorEq, not_false_eq_true, Nat.reduceAdd, *]; done) | (refine id ?_; simp only [gxD]; omega)) only [↓gxPre, gxPost, ↓reduceIte, Nat.reduceEqDiff, reduceCtorEq, Nat.reduceAdd, hb, hr, List.nil_append, lMapN, hu.len, hul]
  have eK : Ext H (H.new ⟨true, t_float32, xs0.map fv⟩) := .new _ _
  refine loop_st (σ := Nat × Value) (fun s => [.pointer (some ⟨a, 0, some 2⟩), .pointer (some ⟨b, 0, some 1⟩), s.2, .int .i64 ((ys0.length : Int) - 1 - s.1)])
    (fun s G => s.1 ≤ ys0.length ∧ Ext H G ∧ OwL H.n G.n G t_float32 s.2 ((nowJ xs0 ys0 xs1 s.1).map fv) ∧ ∀ t, t < s.1 → (nowJ xs0 ys0 xs1 (t + 1)).all finF = true)
    (fun s => ys0.length - s.1) (0, .slice (some ⟨H.n, 0, none⟩) xs0.length xs0.length) (by simp) ⟨by omega, eK, .mk (new_self _ _) (by simp [nowJ, foldI_zero]) (by omega) (by simp [new_n]) (by simp [new_n]), by intros; omega⟩ ?_
  rintro ⟨t, v⟩ G3 ⟨ht, hE, ho, hJ⟩
  simp only at ht ho hJ ⊢
  have hb3 := (hE.blk a ha).trans hb
  have hp3 := (hE.blk b hbn).trans hp
  have hv := OwL.fs ho
  by_cases c1 : t < ys0.length
  rotate_left
  · have htn : t = ys0.length := by omega
    subst htn
    have : ¬ (0 : Int) ≤ (ys0.length : Int) - 1 - ys0.length := by omega
    have hl := nowJ_len (ps := xs1) h1 (ys0.length - 1) (by omega)
    have hd0 := hdl (ys0.length - 1 - (ys0.length - 1)) (by omega)
    have hl2 := nowJ_len_succ xs0 ys0 xs1 (ys0.length - 1)
    rw [show ys0.length - 1 + 1 = ys0.length by omega] at hl2
    have ov := ho.one
    simp (disch := first | assumption | omega | rfl | (refine id ?_; simp only [gxD, ne_eq, reduceCtorEq, not_false_eq_true, Nat.reduceAdd, *]; done) | (refine id ?_; simp only [gxD]; omega)) only [↓gxPre, gxPost, ↓reduceIte, Nat.reduceEqDiff, reduceCtorEq, Nat.reduceAdd, this]
    exact .yes (by simp only [allJ, allR.2 hJ]) hE ho (by omega)
  · have c2 : (0 : Int) ≤ (ys0.length : Int) - 1 - t := by omega
    have e2 : ((ys0.length : Int) - 1 - t).toNat = ys0.length - 1 - t := by omega
    have hj : ys0.length - 1 - t < ys0.length := by omega
    have hl := nowJ_len (ps := xs1) h1 t c1
    have hd := hdl _ hj
    have hu' := hu.ext hE
    have hl3 := nowJ_len_succ xs0 ys0 xs1 t
    simp (disch := first | assumption | omega | rfl | (refine id ?_; simp only [gxD, ne_eq, reduceCtorEq, not_false_eq_true, Nat.reduceAdd, *]; done) | (refine id ?_; simp only [gxD]; omega)) only [↓gxPre, gxPost, ↓reduceIte, Nat.reduceEqDiff, reduceCtorEq, Nat.reduceAdd, c2, hb3, hp3, hu'.ia, hu'.ldD, hul, e2]
    refine callR_of (s_l03Join_ok hp3 (by have := hE.n; omega) hv ((hus _ hj).ext hE) (C.rd.ext hE) (by omega) (by omega) (by omega) (by omega)) ?_
    rintro _ G4 ⟨e4, k, k1, k2, rfl, c4⟩
    have hk4 := e4.n
    have hkE := hE.n
    have c5 : G4.blk k = some ⟨true, t_float32, (nowJ xs0 ys0 xs1 (t + 1)).map fv⟩ := c4
    simp (disch := first | assumption | omega | rfl | (refine id ?_; simp only [gxD, ne_eq, reduceCtorEq, not_false_eq_true, Nat.reduceAdd, *]; done) | (refine id ?_; simp only [gxD]; omega)) only [↓gxPre, gxPost, ↓reduceIte, Nat.reduceEqDiff, reduceCtorEq, Nat.reduceAdd]
    refine callR_pure (s_l02Finite_ok (xs := nowJ xs0 ys0 xs1 (t + 1)) (FS.own c5 k2 (by omega)) (by omega)) (.inl rfl) ?_
    cases hf2 : (nowJ xs0 ys0 xs1 (t + 1)).all finF
    · have hno : allJ xs0 ys0 xs1 = false := allR_false (p := fun t => (nowJ xs0 ys0 xs1 (t + 1)).all finF) c1 hf2
      simp (disch := first | assumption | omega | rfl | (refine id ?_; simp only [gxD, ne_eq, reduceCtorEq, not_false_eq_true, Nat.reduceAdd, *]; done) | (refine id ?_; simp only [gxD]; omega)) only [↓gxPre, gxPost, ↓reduceIte, Nat.reduceEqDiff, reduceCtorEq, Nat.reduceAdd]
      exact .no hno (hE.trans e4)
    · simp (disch := first | assumption | omega | rfl | (refine id ?_; simp only [gxD, ne_eq, reduceCtorEq, not_false_eq_true, Nat.reduceAdd, *]; done) | (refine id ?_; simp only [gxD]; omega)) only [↓gxPre, gxPost, ↓reduceIte, Nat.reduceEqDiff, reduceCtorEq, Nat.reduceAdd]
      refine ⟨(t + 1, .slice (some ⟨k, 0, none⟩) (2 * (nowJ xs0 ys0 xs1 t).length) (2 * (nowJ xs0 ys0 xs1 t).length)), by simp only; omega, ?_, by simp only; omega, hE.trans e4, .mk c5 (by simpa using hl3) (by omega) k2 k2, fun s hs => ?_⟩
      · simp; omega
      · by_cases hst : s = t
        · rw [hst]; exact hf2
        · exact hJ s (by simp only at hs; omega)
end Go.Proofs.Ytkojmlpaamdhoae

namespace Go.Proofs.Ytkojmlpaamdhoae
open Go.Gx
set_option maxRecDepth 100000
set_option linter.unusedSimpArgs false
set_option linter.unusedVariables false

def updF (g : Nat → Nat) (xs : List Nat) (i : Nat) : List Nat := (List.range xs.length).map fun k => if k < i then g k else xs.getD k 0
theorem updF_length (g : Nat → Nat) (xs : List Nat) (i : Nat) : (updF g xs i).length = xs.length := by simp [updF]
theorem updF_zero (g : Nat → Nat) (xs : List Nat) : updF g xs 0 = xs := by
  refine list_ext_getD 0 (updF_length _ _ _) fun j hj => ?_
  rw [updF_length] at hj
  rw [updF, getD_range_map hj]
  simp
theorem updF_all (g : Nat → Nat) (xs : List Nat) : updF g xs xs.length = (List.range xs.length).map g := by
  refine list_ext_getD 0 (by simp [updF]) fun j hj => ?_
  rw [updF_length] at hj
  rw [updF, getD_range_map hj, getD_range_map hj, if_pos hj]
theorem updF_at {g : Nat → Nat} {xs : List Nat} {i : Nat} (h : i < xs.length) : ((updF g xs i).map fv)[i]? = some (.float .f32 (xs.getD i 0)) := by
  simp [updF, h, fv]
theorem updF_set {g : Nat → Nat} {xs : List Nat} {i : Nat} : (updF g xs i).set i (g i) = updF g xs (i + 1) := by
  refine list_ext_getD 0 (by simp [updF]) fun j hj => ?_
  have hj' : j < xs.length := by simpa [updF] using hj
  by_cases hji : j = i
  · subst hji
    rw [getD_set_self (by rw [updF_length]; exact hj'), updF, getD_range_map hj', if_pos (by omega)]
  · rw [Go.Gx.getD_set_ne (Ne.symm hji), updF, updF, getD_range_map hj', getD_range_map hj']
    by_cases h : j < i
    · rw [if_pos h, if_pos (by omega)]
    · rw [if_neg h, if_neg (by omega)]
theorem fin_nan {x : Nat} (h : finF x = true) : nanB .f32 x = false := by
  obtain ⟨s, m, e, hr⟩ := finF_num.1 h
  unfold nanB FloatKind.decode
  have : FloatKind.f32.format.read x = Ieee.single.read x := rfl
  rw [this, hr]; rfl
theorem ares_0 (φ : Go.Gx.Frame) (H : Heap) : ares φ H [] = some (.tuple #[]) := rfl
theorem isLong_len {xs : List Nat} (h : isLongF xs = true) : xs.length ≤ 128 ∧ 1 ≤ xs.length := by
  simp only [isLongF, Bool.and_eq_true] at h
  have := within_true.1 h.1
  omega
def mulL (sc : Nat) (xs : List Nat) : Nat → List Nat := updF (fun k => fbin .mul .f32 (xs.getD k 0) sc) xs
def quoL (sc : Nat) (xs : List Nat) : Nat → List Nat := updF (fun k => fbin .quo .f32 (xs.getD k 0) sc) xs
theorem range_getD_map (f : Nat → Nat) (xs : List Nat) : (List.range xs.length).map (fun k => f (xs.getD k 0)) = xs.map f := by
  refine List.ext_getElem (by simp) fun i h1 h2 => ?_
  have h : i < xs.length := by simpa using h2
  simp [List.getD_eq_getElem?_getD, h]
theorem mulL_all (sc : Nat) (xs : List Nat) : mulL sc xs xs.length = xs.map fun x => fbin .mul .f32 x sc := by
  rw [mulL, updF_all]; exact range_getD_map (fun x => fbin .mul .f32 x sc) xs
theorem quoL_all (sc : Nat) (xs : List Nat) : quoL sc xs xs.length = xs.map fun x => fbin .quo .f32 x sc := by
  rw [quoL, updF_all]; exact range_getD_map (fun x => fbin .quo .f32 x sc) xs
theorem mulL_length (sc : Nat) (xs : List Nat) (i : Nat) : (mulL sc xs i).length = xs.length := updF_length _ _ _
theorem quoL_length (sc : Nat) (xs : List Nat) (i : Nat) : (quoL sc xs i).length = xs.length := updF_length _ _ _
theorem mulL_zero (sc : Nat) (xs : List Nat) : mulL sc xs 0 = xs := updF_zero _ _
theorem quoL_zero (sc : Nat) (xs : List Nat) : quoL sc xs 0 = xs := updF_zero _ _
theorem mulL_at {sc : Nat} {xs : List Nat} {i : Nat} (h : i < xs.length) : ((mulL sc xs i).map fv)[i]? = some (.float .f32 (xs.getD i 0)) := updF_at h
theorem quoL_at {sc : Nat} {xs : List Nat} {i : Nat} (h : i < xs.length) : ((quoL sc xs i).map fv)[i]? = some (.float .f32 (xs.getD i 0)) := updF_at h
theorem mulL_set {sc : Nat} {xs : List Nat} {i : Nat} : ((mulL sc xs i).map fv).set i (.float .f32 (fbin .mul .f32 (xs.getD i 0) sc)) = (mulL sc xs (i + 1)).map fv := by rw [fv_set']; exact congrArg (List.map fv) updF_set
theorem quoL_set {sc : Nat} {xs : List Nat} {i : Nat} : ((quoL sc xs i).map fv).set i (.float .f32 (fbin .quo .f32 (xs.getD i 0) sc)) = (quoL sc xs (i + 1)).map fv := by rw [fv_set']; exact congrArg (List.map fv) updF_set
theorem weighUp_zero (ws : List Nat) (p : List Nat × List Nat) : weighUp ws p 0 = p := rfl
theorem weighUp_succ (ws : List Nat) (p : List Nat × List Nat) (i : Nat) : weighUp ws p (i + 1) = weighF i (ws.getD i 0) (weighUp ws p i) := rfl
structure RF (H : Heap) (v : Value) (xs : List Nat) : Prop where
  rd : FS H v xs
  le : xs.length ≤ 2 ^ 40
end Go.Proofs.Ytkojmlpaamdhoae

namespace Go.Proofs.Ytkojmlpaamdhoae
open Go.Gx
set_option maxRecDepth 100000
set_option linter.unusedSimpArgs false
set_option linter.unusedVariables false

theorem weighDown_zero (ws : List Nat) (p : List Nat × List Nat) : weighDown ws p 0 = p := rfl
theorem weighDown_succ (ws : List Nat) (p : List Nat × List Nat) (i : Nat) : weighDown ws p (i + 1) = weighF (ws.length - 1 - i) (fneg .f32 (ws.getD (ws.length - 1 - i) 0)) (weighDown ws p i) := rfl
def dropOk (ws : List Nat) (sc : Nat) (ev od : List Nat) : Bool := schemeF ws sc && fitF ev.length od.length && (ev.all finF && od.all finF) && (dropF ws sc ev od).all finF
theorem dropF_len (ws : List Nat) (sc : Nat) (ev od : List Nat) : (dropF ws sc ev od).length ≤ 2 * ev.length := by
  unfold dropF
  split
  · omega
  · have h := wovL_len (d := 0) (ev := (weighDown ws (ev.map fun x => fbin .quo .f32 x sc, od.map fun x => fbin .mul .f32 x sc) ws.length).1) (od := (weighDown ws (ev.map fun x => fbin .quo .f32 x sc, od.map fun x => fbin .mul .f32 x sc) ws.length).2) ((weighDown ws (ev.map fun x => fbin .quo .f32 x sc, od.map fun x => fbin .mul .f32 x sc) ws.length).1.length)
    have h2 := (weighDown_len ws (ev.map fun x => fbin .quo .f32 x sc, od.map fun x => fbin .mul .f32 x sc) ws.length).1
    simp only [List.length_map] at h2
    dsimp only
    rw [h2] at h ⊢
    exact h
theorem fit_facts {a b : Nat} (h : fitF a b = true) : 1 ≤ a ∧ (b = a ∨ b + 1 = a) ∧ a + b ≤ 128 := by
  simp only [fitF, Bool.and_eq_true, Bool.or_eq_true, decide_eq_true_eq] at h
  exact ⟨h.1.1, h.1.2, h.2⟩
theorem i_copyOf_ex {H : Heap} {v : Value} {xs : List Nat} (hv : FS H v xs) (hn : xs.length ≤ 2 ^ 40) :
    ACalls Try.prog n_i_copyOf [v] H fun r H' => Ext H H' ∧ r = .slice (some ⟨H.n, 0, none⟩) xs.length xs.length ∧ H'.n = H.n + 1 ∧ H'.blk H.n = some ⟨true, t_float32, xs.map fv⟩ := by
  refine (i_copyOf_ok hv hn).mono ?_
  rintro _ _ ⟨rfl, rfl⟩
  exact ⟨.new _ _, rfl, rfl, new_self _ _⟩
theorem wovL_nil (ev od : List Nat) (h : od.length = 0) : wovL 0 ev od ev.length = ev := by
  have h1 : ∀ j, ¬ j < od.length := fun j => by omega
  have h2 := range_getD_map (fun x => x) ev
  simp only [List.map_id'] at h2
  conv => rhs; rw [← h2]
  simp only [wovL, h1, if_false]
  exact List.map_eq_flatMap.symm
theorem new_put1 {H : Heap} {a b c : Blk} : ((H.new a).new b).put (H.n + 1) c = (H.new a).new c := new_put (H := H.new a) ..
end Go.Proofs.Ytkojmlpaamdhoae

namespace Go.Proofs.Ytkojmlpaamdhoae
open Go.Gx
set_option maxRecDepth 100000
set_option linter.unusedSimpArgs false
set_option linter.unusedVariables false

theorem new_put2 {H : Heap} {a b c : Blk} : ((H.new a).new b).put (H.n + 1) c = (H.new a).new c := new_put (H := H.new a) ..
theorem dropE_length (kind : Int) (ev od : List Int) : (dropE kind ev od).length = ev.length := by simp [dropE]
theorem dropO_length (kind : Int) (ev od : List Int) : (dropO kind ev od).length = od.length := by simp [dropO]
theorem i64_dropE (kind : Int) (ev od : List Int) : I64 (dropE kind ev od) := i64_range _ _ fun j => wr_range _
def dropOkI (kind : Int) (ev od : List Int) : Bool := within kind 0 2 && fitF ev.length od.length && boundF ev 10000000 && boundF od 10000000 && integersF (dropI kind ev od)
theorem fit_facts' {a b : Nat} (h : fitF a b = true) : 1 ≤ a ∧ (b = a ∨ b + 1 = a) ∧ a + b ≤ 128 := by
  simp only [fitF, Bool.and_eq_true, Bool.or_eq_true, decide_eq_true_eq] at h
  exact ⟨h.1.1, h.1.2, h.2⟩
structure RI (H : Heap) (v : Value) (xs : List Int) : Prop where
  rd : IS H v xs
  le : xs.length ≤ 2 ^ 40
end Go.Proofs.Ytkojmlpaamdhoae

namespace Go.Proofs.Ytkojmlpaamdhoae
open Go.Gx
set_option maxRecDepth 100000
set_option linter.unusedSimpArgs false
set_option linter.unusedVariables false

def zerosF (n : Nat) : List Nat := List.replicate n 0
theorem zerosF_length (n : Nat) : (zerosF n).length = n := by simp [zerosF]
theorem zerosF_map (n : Nat) : List.replicate n (Value.float .f32 0) = (zerosF n).map fv := rep_fv _
theorem zerosF_w (n : Nat) : W32 (zerosF n) := fun j => by
  unfold zerosF
  by_cases h : j < n <;> simp [List.getD_eq_getElem?_getD, h]
theorem zerosF_fin (n : Nat) : (zerosF n).all finF = true := by
  rw [List.all_eq_true]
  intro x hx
  rw [zerosF, List.mem_replicate] at hx
  rw [hx.2]
  decide
def growOk (ws : List Nat) (sc : Nat) (xs : List Nat) : Bool := isLongF xs && (decide (xs.length ≤ 64) && dropOk ws sc xs (zerosF xs.length))
theorem isLong_fin {xs : List Nat} (h : isLongF xs = true) : xs.all finF = true := by
  unfold isLongF at h
  rw [Bool.and_eq_true] at h
  exact h.2
theorem fit_same {n : Nat} (h : 1 ≤ n) (h' : n ≤ 64) : fitF n n = true := by
  unfold fitF
  rw [decide_eq_true h, decide_eq_true (show n = n from rfl), decide_eq_true (show n + n ≤ 128 by omega)]
  rfl
end Go.Proofs.Ytkojmlpaamdhoae

namespace Go.Proofs.Ytkojmlpaamdhoae
open Go.Gx
set_option maxRecDepth 100000
set_option linter.unusedSimpArgs false
set_option linter.unusedVariables false

theorem liftF_len1 (ws : List Nat) (sc : Nat) (xs : List Nat) : (liftF ws sc xs).1.length = (xs.length + 1) / 2 := by
  unfold liftF; split
  · exact evL_length _
  · rw [List.length_map, (weighUp_len _ _ _).1]; exact evL_length _
theorem liftF_len2 (ws : List Nat) (sc : Nat) (xs : List Nat) : (liftF ws sc xs).2.length = xs.length / 2 := by
  unfold liftF; split
  · exact odL_length _
  · rw [List.length_map, (weighUp_len _ _ _).2]; exact odL_length _
def nowD (ws : List Nat) (sc : Nat) (xs : List Nat) : Nat → List Nat := foldI (fun _ l => (liftF ws sc l).1) xs
def outD (ws : List Nat) (sc : Nat) (xs : List Nat) (t : Nat) : List (List Nat) := (List.range t).map fun k => (liftF ws sc (nowD ws sc xs k)).2
theorem outD_succ (ws : List Nat) (sc : Nat) (xs : List Nat) (t : Nat) : outD ws sc xs (t + 1) = outD ws sc xs t ++ [(liftF ws sc (nowD ws sc xs t)).2] := by simp [outD, List.range_succ]
theorem nowD_succ (ws : List Nat) (sc : Nat) (xs : List Nat) (t : Nat) : nowD ws sc xs (t + 1) = (liftF ws sc (nowD ws sc xs t)).1 := rfl
theorem nowD_le (ws : List Nat) (sc : Nat) (xs : List Nat) (hx : 1 ≤ xs.length) : ∀ t, 1 ≤ (nowD ws sc xs t).length ∧ (nowD ws sc xs t).length ≤ xs.length
  | 0 => by simp [nowD, foldI_zero, hx]
  | t + 1 => by have := nowD_le ws sc xs hx t; rw [nowD_succ, liftF_len1]; omega
def moreD (ws : List Nat) (sc : Nat) (xs : List Nat) (t : Nat) : Bool := decide (1 < (nowD ws sc xs t).length)
def levelsD (ws : List Nat) (sc : Nat) (xs : List Nat) (n : Nat) : List (List Nat) := outD ws sc xs (stopN (moreD ws sc xs) n) ++ [nowD ws sc xs (stopN (moreD ws sc xs) n)]
theorem outD_len (ws : List Nat) (sc : Nat) (xs : List Nat) (t : Nat) : (outD ws sc xs t).length = t := by simp [outD]
theorem outD_sum (ws : List Nat) (sc : Nat) (xs : List Nat) (h1 : 1 ≤ xs.length) (hx : xs.length ≤ 128) : ∀ t, offN (outD ws sc xs t) t ≤ 129 * t
  | 0 => by simp [offN_zero]
  | t + 1 => by
    have ih := outD_sum ws sc xs h1 hx t
    have h1 := nowD_le ws sc xs h1 t
    have h2 := liftF_len2 ws sc (nowD ws sc xs t)
    rw [outD_succ, offN_succ (by simp [outD_len])]
    have e1 : offN (outD ws sc xs t ++ [(liftF ws sc (nowD ws sc xs t)).2]) t = offN (outD ws sc xs t) t := by
      unfold offN
      rw [List.take_append_of_le_length (by rw [outD_len]; exact Nat.le_refl _)]
    have e2 : (outD ws sc xs t ++ [(liftF ws sc (nowD ws sc xs t)).2]).getD t [] = (liftF ws sc (nowD ws sc xs t)).2 := by
      have := @getD_app_at _ (outD ws sc xs t) ((liftF ws sc (nowD ws sc xs t)).2) []
      rwa [outD_len] at this
    rw [e1, e2]
    omega
theorem levelsD_tot (ws : List Nat) (sc : Nat) (xs : List Nat) (h1 : 1 ≤ xs.length) (hx : xs.length ≤ 128) (n : Nat) (hn : n ≤ 6) : totL (levelsD ws sc xs n) ≤ 2 ^ 40 := by
  have hs := stopN_le (moreD ws sc xs) n
  obtain ⟨t, ht⟩ : ∃ t, t = stopN (moreD ws sc xs) n := ⟨_, rfl⟩
  unfold levelsD
  rw [← ht] at hs ⊢
  have h3 := outD_sum ws sc xs h1 hx t
  have h2 := nowD_le ws sc xs h1 t
  have hl : (outD ws sc xs t ++ [nowD ws sc xs t]).length = t + 1 := by simp [outD_len]
  unfold totL
  rw [hl, offN_succ (by rw [hl]; omega)]
  have e1 : offN (outD ws sc xs t ++ [nowD ws sc xs t]) t = offN (outD ws sc xs t) t := by
    unfold offN
    rw [List.take_append_of_le_length (by rw [outD_len]; exact Nat.le_refl _)]
  have e2 : (outD ws sc xs t ++ [nowD ws sc xs t]).getD t [] = nowD ws sc xs t := by
    have := @getD_app_at _ (outD ws sc xs t) (nowD ws sc xs t) []
    rwa [outD_len] at this
  rw [e1, e2]
  omega
theorem stopN_mono (p : Nat → Bool) (m : Nat) : ∀ d, stopN p m ≤ stopN p (m + d)
  | 0 => Nat.le_refl _
  | d + 1 => by
    have h1 := stopN_mono p m d
    have h2 := stopN_le p (m + d)
    have : stopN p (m + d) ≤ stopN p (m + d + 1) := by
      conv => rhs; unfold stopN
      split <;> omega
    exact Nat.le_trans h1 this
theorem stopN_gt {p : Nat → Bool} {t n : Nat} (h : ∀ k, k ≤ t → p k = true) (hn : t < n) : t < stopN p n := by
  have h1 := stopN_full (p := p) (t + 1) fun s hs => h s (by omega)
  have h2 := stopN_mono p (t + 1) (n - (t + 1))
  rw [show t + 1 + (n - (t + 1)) = n by omega] at h2
  omega
def deepOk (ws : List Nat) (sc : Nat) (xs : List Nat) (n : Int) : Bool := schemeF ws sc && isLongF xs && within n 1 6 && (List.range (stopN (moreD ws sc xs) n.toNat)).all fun k => liftOkF ws sc (nowD ws sc xs k)
theorem deepOk_no {ws : List Nat} {sc : Nat} {xs : List Nat} {n : Int} {t : Nat} (h : t < stopN (moreD ws sc xs) n.toNat) (h' : liftOkF ws sc (nowD ws sc xs t) = false) : deepOk ws sc xs n = false := by
  have : ((List.range (stopN (moreD ws sc xs) n.toNat)).all fun k => liftOkF ws sc (nowD ws sc xs k)) = false := by
    rw [List.all_eq_false]
    exact ⟨t, List.mem_range.2 h, by rw [h']; decide⟩
  unfold deepOk
  rw [this, Bool.and_false]
theorem deepOk_yes {ws : List Nat} {sc : Nat} {xs : List Nat} {n : Int} (h0 : schemeF ws sc = true) (h1 : isLongF xs = true) (h2 : within n 1 6 = true) (h : ∀ k, k < stopN (moreD ws sc xs) n.toNat → liftOkF ws sc (nowD ws sc xs k) = true) : deepOk ws sc xs n = true := by
  unfold deepOk
  rw [h0, h1, h2, Bool.and_self, Bool.and_self, Bool.true_and, List.all_eq_true]
  exact fun k hk => h k (List.mem_range.1 hk)
theorem liftOk_fin {ws : List Nat} {sc : Nat} {xs : List Nat} (hx : isLongF xs = true) (h : liftOkF ws sc xs = true) : isLongF (liftF ws sc xs).1 = true := by
  obtain ⟨hl, hl1⟩ := isLong_len hx
  have hf := isLong_fin hx
  have h1 := liftF_len1 ws sc xs
  unfold isLongF
  rw [within_true.2 (by omega), Bool.true_and]
  unfold liftOkF at h
  rw [Bool.or_eq_true, Bool.and_eq_true, decide_eq_true_eq] at h
  rcases h with h | h
  · unfold liftF
    rw [if_pos h]
    rw [List.all_eq_true] at hf ⊢
    intro x hxm
    simp only [evL, List.mem_map, List.mem_range] at hxm
    obtain ⟨k, hk, rfl⟩ := hxm
    by_cases hk2 : 2 * k < xs.length
    · have : xs.getD (2 * k) 0 = xs[2 * k] := by simp [List.getD_eq_getElem?_getD, hk2]
      rw [this]
      exact hf _ (List.getElem_mem hk2)
    · omega
  · exact h.1
theorem nowD_long {ws : List Nat} {sc : Nat} {xs : List Nat} (hx : isLongF xs = true) : ∀ t, (∀ k, k < t → liftOkF ws sc (nowD ws sc xs k) = true) → isLongF (nowD ws sc xs t) = true
  | 0, _ => hx
  | t + 1, h => by
    rw [nowD_succ]
    exact liftOk_fin (nowD_long hx t fun k hk => h k (by omega)) (h t (by omega))
end Go.Proofs.Ytkojmlpaamdhoae
