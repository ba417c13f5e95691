/- The laws' helpers: schemes and bands. -/
import Derived.Test.YtkojmlpaamdhoaeJoinLevelsK
namespace Go.Proofs.Ytkojmlpaamdhoae
open Go.Gx
set_option maxRecDepth 100000
set_option linter.unusedSimpArgs false
set_option linter.unusedVariables false

theorem w_szBands_ow {H : Heap} {v u : Value} {xs : List Nat} {yss : List (List Nat)} {n : Int} (hv : FS H v xs) (hu : SS H u yss) (h0 : 0 ≤ n) (h1 : n ≤ 1048576) (hx : xs.length ≤ 9223372036854775807) (hy : yss.length ≤ 9223372036854775807) (hr : ∀ j, (yss.getD j []).length ≤ 9223372036854775807) :
    ACalls Try.prog n_w_szBands [.agg #[v, u], .int .i64 n] H fun r H' => r = .int .i64 (if n < (xs.length + totL yss : Nat) then -1 else n - (xs.length + totL yss : Nat)) ∧ Ext H H' := by
  refine k_w_szBands.run rfl ?_
  unfold c_w_szBands
  have hv1 := hv.one
  have hu1 := hu.one'
  by_cases hlt : n < xs.length
  · have : n < (xs.length + totL yss : Nat) := by omega
    ((try simp (disch := first | assumption | omega | rfl | (refine id ?_; simp only [gxD, ne_eq, reduceCtorEq, not_false_eq_true, Nat.reduceAdd, *]; done) | (refine id ?_; simp only [gxD]; omega)) only [↓gxPre, gxPost, ↓reduceIte, Nat.reduceEqDiff, reduceCtorEq, Nat.reduceAdd, if_pos hlt, if_pos this, Int.reduceLT, *]); repeat' (first | (refine grdR_split (fun _ => ?_) (fun _ => ?_) <;> simp (disch := first | assumption | omega | rfl | (refine id ?_; simp only [gxD, ne_eq, reduceCtorEq, not_false_eq_true, Nat.reduceAdd, *]; done) | (refine id ?_; simp only [gxD]; omega)) only [↓gxPre, gxPost, ↓reduceIte, Nat.reduceEqDiff, reduceCtorEq, Nat.reduceAdd, if_pos hlt, if_pos this, Int.reduceLT, *]) | (refine condR_split (fun _ => ?_) (fun _ => ?_) <;> simp (disch := first | assumption | omega | rfl | (refine id ?_; simp only [gxD, ne_eq, reduceCtorEq, not_false_eq_true, Nat.reduceAdd, *]; done) | (refine id ?_; simp only [gxD]; omega)) only [↓gxPre, gxPost, ↓reduceIte, Nat.reduceEqDiff, reduceCtorEq, Nat.reduceAdd, if_pos hlt, if_pos this, Int.reduceLT, *]) | (refine callR_pure (w_szFloat32S_ok (hv.ext ⟨by first | omega | (simp only [new_n, put_n]; omega) | (simp only [new_n, put_n] at *; omega), fun i hi => by simp (disch := first | assumption | omega | rfl | (refine id ?_; simp only [gxD, ne_eq, reduceCtorEq, not_false_eq_true, Nat.reduceAdd, *]; done) | (refine id ?_; simp only [gxD]; omega)) only [↓gxPre, gxPost, ↓reduceIte, Nat.reduceEqDiff, reduceCtorEq, Nat.reduceAdd, *]⟩) h0 h1 hx) (by first | exact Or.inl rfl | (simp (disch := first | assumption | omega | rfl | (refine id ?_; simp only [gxD, ne_eq, reduceCtorEq, not_false_eq_true, Nat.reduceAdd, *]; done) | (refine id ?_; simp only [gxD]; omega)) only [↓gxPre, gxPost, ↓reduceIte, Nat.reduceEqDiff, reduceCtorEq, Nat.reduceAdd, if_pos hlt, if_pos this, Int.reduceLT, *]; done)) ?_; simp (disch := first | assumption | omega | rfl | (refine id ?_; simp only [gxD, ne_eq, reduceCtorEq, not_false_eq_true, Nat.reduceAdd, *]; done) | (refine id ?_; simp only [gxD]; omega)) only [↓gxPre, gxPost, ↓reduceIte, Nat.reduceEqDiff, reduceCtorEq, Nat.reduceAdd, if_pos hlt, if_pos this, Int.reduceLT, *])))
    exact ⟨by first | omega | (simp only [new_n, put_n]; omega) | (simp only [new_n, put_n] at *; omega), fun i hi => by simp (disch := first | assumption | omega | rfl | (refine id ?_; simp only [gxD, ne_eq, reduceCtorEq, not_false_eq_true, Nat.reduceAdd, *]; done) | (refine id ?_; simp only [gxD]; omega)) only [↓gxPre, gxPost, ↓reduceIte, Nat.reduceEqDiff, reduceCtorEq, Nat.reduceAdd, *]⟩
  have h3 : ¬ (n - xs.length < 0) := by omega
  ((try simp (disch := first | assumption | omega | rfl | (refine id ?_; simp only [gxD, ne_eq, reduceCtorEq, not_false_eq_true, Nat.reduceAdd, *]; done) | (refine id ?_; simp only [gxD]; omega)) only [↓gxPre, gxPost, ↓reduceIte, Nat.reduceEqDiff, reduceCtorEq, Nat.reduceAdd, h3, if_neg hlt, *]); repeat' (first | (refine grdR_split (fun _ => ?_) (fun _ => ?_) <;> simp (disch := first | assumption | omega | rfl | (refine id ?_; simp only [gxD, ne_eq, reduceCtorEq, not_false_eq_true, Nat.reduceAdd, *]; done) | (refine id ?_; simp only [gxD]; omega)) only [↓gxPre, gxPost, ↓reduceIte, Nat.reduceEqDiff, reduceCtorEq, Nat.reduceAdd, h3, if_neg hlt, *]) | (refine condR_split (fun _ => ?_) (fun _ => ?_) <;> simp (disch := first | assumption | omega | rfl | (refine id ?_; simp only [gxD, ne_eq, reduceCtorEq, not_false_eq_true, Nat.reduceAdd, *]; done) | (refine id ?_; simp only [gxD]; omega)) only [↓gxPre, gxPost, ↓reduceIte, Nat.reduceEqDiff, reduceCtorEq, Nat.reduceAdd, h3, if_neg hlt, *]) | (refine callR_pure (w_szFloat32S_ok (hv.ext ⟨by first | omega | (simp only [new_n, put_n]; omega) | (simp only [new_n, put_n] at *; omega), fun i hi => by simp (disch := first | assumption | omega | rfl | (refine id ?_; simp only [gxD, ne_eq, reduceCtorEq, not_false_eq_true, Nat.reduceAdd, *]; done) | (refine id ?_; simp only [gxD]; omega)) only [↓gxPre, gxPost, ↓reduceIte, Nat.reduceEqDiff, reduceCtorEq, Nat.reduceAdd, *]⟩) h0 h1 hx) (by first | exact Or.inl rfl | (simp (disch := first | assumption | omega | rfl | (refine id ?_; simp only [gxD, ne_eq, reduceCtorEq, not_false_eq_true, Nat.reduceAdd, *]; done) | (refine id ?_; simp only [gxD]; omega)) only [↓gxPre, gxPost, ↓reduceIte, Nat.reduceEqDiff, reduceCtorEq, Nat.reduceAdd, h3, if_neg hlt, *]; done)) ?_; simp (disch := first | assumption | omega | rfl | (refine id ?_; simp only [gxD, ne_eq, reduceCtorEq, not_false_eq_true, Nat.reduceAdd, *]; done) | (refine id ?_; simp only [gxD]; omega)) only [↓gxPre, gxPost, ↓reduceIte, Nat.reduceEqDiff, reduceCtorEq, Nat.reduceAdd, h3, if_neg hlt, *])))
  refine callR_new ?_
  intro G e hb nn
  refine callR_ext (w_szFloat32SS_ow (hu.ext e) (by omega) (by omega) hy hr) ?_
  intro H1 n1 b1
  by_cases hlt' : n < (xs.length + totL yss : Nat)
  · have : n - xs.length < (totL yss : Nat) := by omega
    simp (disch := first | assumption | omega | rfl | (refine id ?_; simp only [gxD, ne_eq, reduceCtorEq, not_false_eq_true, Nat.reduceAdd, *]; done) | (refine id ?_; simp only [gxD]; omega)) only [↓gxPre, gxPost, ↓reduceIte, Nat.reduceEqDiff, reduceCtorEq, Nat.reduceAdd, if_pos this, if_pos hlt', Int.reduceLT]
    exact e.trans ⟨n1, b1⟩
  · have : ¬ (n - xs.length < (totL yss : Nat)) := by omega
    have h4 : ¬ (n - xs.length - (totL yss : Nat) < 0) := by omega
    simp (disch := first | assumption | omega | rfl | (refine id ?_; simp only [gxD, ne_eq, reduceCtorEq, not_false_eq_true, Nat.reduceAdd, *]; done) | (refine id ?_; simp only [gxD]; omega)) only [↓gxPre, gxPost, ↓reduceIte, Nat.reduceEqDiff, reduceCtorEq, Nat.reduceAdd, if_neg this, if_neg hlt', h4]
    exact ⟨by congr 1; omega, e.trans ⟨n1, b1⟩⟩
theorem w_eqBands_ow {H : Heap} {v u v' u' : Value} {xs : List Nat} {yss : List (List Nat)} (hv : FS H v xs) (hu : SS H u yss) (hv' : FS H v' xs) (hu' : SS H u' yss) (hn : xs.length ≤ 2 ^ 40) (hm : totL yss ≤ 2 ^ 40) :
    ACalls Try.prog n_w_eqBands [.agg #[v, u], .agg #[v', u']] H fun r H' => r = .bool true ∧ Ext H H' := by
  refine k_w_eqBands.run rfl ?_
  unfold c_w_eqBands
  have o1 := hv.one
  have o2 := hu.one'
  have o3 := hv'.one
  have o4 := hu'.one'
  ((try simp (disch := first | assumption | omega | rfl | (refine id ?_; simp only [gxD, ne_eq, reduceCtorEq, not_false_eq_true, Nat.reduceAdd, *]; done) | (refine id ?_; simp only [gxD]; omega)) only [↓gxPre, gxPost, ↓reduceIte, Nat.reduceEqDiff, reduceCtorEq, Nat.reduceAdd, *]); repeat' (first | (refine grdR_split (fun _ => ?_) (fun _ => ?_) <;> simp (disch := first | assumption | omega | rfl | (refine id ?_; simp only [gxD, ne_eq, reduceCtorEq, not_false_eq_true, Nat.reduceAdd, *]; done) | (refine id ?_; simp only [gxD]; omega)) only [↓gxPre, gxPost, ↓reduceIte, Nat.reduceEqDiff, reduceCtorEq, Nat.reduceAdd, *]) | (refine condR_split (fun _ => ?_) (fun _ => ?_) <;> simp (disch := first | assumption | omega | rfl | (refine id ?_; simp only [gxD, ne_eq, reduceCtorEq, not_false_eq_true, Nat.reduceAdd, *]; done) | (refine id ?_; simp only [gxD]; omega)) only [↓gxPre, gxPost, ↓reduceIte, Nat.reduceEqDiff, reduceCtorEq, Nat.reduceAdd, *]) | (refine callR_pure (w_eqFloat32S_ok (hv.ext ⟨by first | omega | (simp only [new_n, put_n]; omega) | (simp only [new_n, put_n] at *; omega), fun i hi => by simp (disch := first | assumption | omega | rfl | (refine id ?_; simp only [gxD, ne_eq, reduceCtorEq, not_false_eq_true, Nat.reduceAdd, *]; done) | (refine id ?_; simp only [gxD]; omega)) only [↓gxPre, gxPost, ↓reduceIte, Nat.reduceEqDiff, reduceCtorEq, Nat.reduceAdd, *]⟩) (hv'.ext ⟨by first | omega | (simp only [new_n, put_n]; omega) | (simp only [new_n, put_n] at *; omega), fun i hi => by simp (disch := first | assumption | omega | rfl | (refine id ?_; simp only [gxD, ne_eq, reduceCtorEq, not_false_eq_true, Nat.reduceAdd, *]; done) | (refine id ?_; simp only [gxD]; omega)) only [↓gxPre, gxPost, ↓reduceIte, Nat.reduceEqDiff, reduceCtorEq, Nat.reduceAdd, *]⟩) hn) (by first | exact Or.inl rfl | (simp (disch := first | assumption | omega | rfl | (refine id ?_; simp only [gxD, ne_eq, reduceCtorEq, not_false_eq_true, Nat.reduceAdd, *]; done) | (refine id ?_; simp only [gxD]; omega)) only [↓gxPre, gxPost, ↓reduceIte, Nat.reduceEqDiff, reduceCtorEq, Nat.reduceAdd, *]; done)) ?_; simp (disch := first | assumption | omega | rfl | (refine id ?_; simp only [gxD, ne_eq, reduceCtorEq, not_false_eq_true, Nat.reduceAdd, *]; done) | (refine id ?_; simp only [gxD]; omega)) only [↓gxPre, gxPost, ↓reduceIte, Nat.reduceEqDiff, reduceCtorEq, Nat.reduceAdd, *])))
  have e : Ext H ((H.new ⟨true, t_Bands, [v, u]⟩).new ⟨true, t_Bands, [v', u']⟩) := (Ext.new _ _).trans (.new _ _)
  refine callR_ext (w_eqFloat32SS_ow (hu.ext e) (hu'.ext e) hm) ?_
  intro H1 n1 b1
  simp (disch := first | assumption | omega | rfl | (refine id ?_; simp only [gxD, ne_eq, reduceCtorEq, not_false_eq_true, Nat.reduceAdd, *]; done) | (refine id ?_; simp only [gxD]; omega)) only [↓gxPre, gxPost, ↓reduceIte, Nat.reduceEqDiff, reduceCtorEq, Nat.reduceAdd]
  exact e.trans ⟨n1, b1⟩
theorem w_toBands_ow {H : Heap} {v u : Value} {xs : List Nat} {yss : List (List Nat)} (hv : FS H v xs) (hu : SS H u yss) (hn : xs.length ≤ 2 ^ 40) (hm : totL yss ≤ 2 ^ 40) :
    ACalls Try.prog n_w_toBands [.agg #[v, u]] H fun r H' => Ext H H' ∧ ∃ c d, r = .agg #[c, d] ∧ OwB H.n H'.n H' t_sfloat32 t_float32 c d (xs.map fv) (yss.map (List.map fv)) := by
  refine k_w_toBands.run rfl ?_
  unfold c_w_toBands
  have o1 := hv.one
  have o2 := hu.one'
  ((try simp (disch := first | assumption | omega | rfl | (refine id ?_; simp only [gxD, ne_eq, reduceCtorEq, not_false_eq_true, Nat.reduceAdd, *]; done) | (refine id ?_; simp only [gxD]; omega)) only [↓gxPre, gxPost, ↓reduceIte, Nat.reduceEqDiff, reduceCtorEq, Nat.reduceAdd, *]); repeat' (first | (refine grdR_split (fun _ => ?_) (fun _ => ?_) <;> simp (disch := first | assumption | omega | rfl | (refine id ?_; simp only [gxD, ne_eq, reduceCtorEq, not_false_eq_true, Nat.reduceAdd, *]; done) | (refine id ?_; simp only [gxD]; omega)) only [↓gxPre, gxPost, ↓reduceIte, Nat.reduceEqDiff, reduceCtorEq, Nat.reduceAdd, *]) | (refine condR_split (fun _ => ?_) (fun _ => ?_) <;> simp (disch := first | assumption | omega | rfl | (refine id ?_; simp only [gxD, ne_eq, reduceCtorEq, not_false_eq_true, Nat.reduceAdd, *]; done) | (refine id ?_; simp only [gxD]; omega)) only [↓gxPre, gxPost, ↓reduceIte, Nat.reduceEqDiff, reduceCtorEq, Nat.reduceAdd, *])))
  refine callR_of (w_toFloat32S_ok (hv.ext ⟨by first | omega | (simp only [new_n, put_n]; omega) | (simp only [new_n, put_n] at *; omega), fun i hi => by simp (disch := first | assumption | omega | rfl | (refine id ?_; simp only [gxD, ne_eq, reduceCtorEq, not_false_eq_true, Nat.reduceAdd, *]; done) | (refine id ?_; simp only [gxD]; omega)) only [↓gxPre, gxPost, ↓reduceIte, Nat.reduceEqDiff, reduceCtorEq, Nat.reduceAdd, *]⟩) hn) ?_
  rintro _ _ ⟨rfl, rfl⟩
  simp (disch := first | assumption | omega | rfl | (refine id ?_; simp only [gxD, ne_eq, reduceCtorEq, not_false_eq_true, Nat.reduceAdd, *]; done) | (refine id ?_; simp only [gxD]; omega)) only [↓gxPre, gxPost, ↓reduceIte, Nat.reduceEqDiff, reduceCtorEq, Nat.reduceAdd]
  refine callR_of (w_toFloat32SS_ow (hu.ext ⟨by first | omega | (simp only [new_n, put_n]; omega) | (simp only [new_n, put_n] at *; omega), fun i hi => by simp (disch := first | assumption | omega | rfl | (refine id ?_; simp only [gxD, ne_eq, reduceCtorEq, not_false_eq_true, Nat.reduceAdd, *]; done) | (refine id ?_; simp only [gxD]; omega)) only [↓gxPre, gxPost, ↓reduceIte, Nat.reduceEqDiff, reduceCtorEq, Nat.reduceAdd, *]⟩) hm) ?_
  rintro r2 H2 ⟨e2, o⟩
  have n2 := e2.n
  have b2 := e2.blk
  have or := o.one
  simp only [new_n, put_n] at n2 b2
  simp (disch := first | assumption | omega | rfl | (refine id ?_; simp only [gxD, ne_eq, reduceCtorEq, not_false_eq_true, Nat.reduceAdd, *]; done) | (refine id ?_; simp only [gxD]; omega)) only [↓gxPre, gxPost, ↓reduceIte, Nat.reduceEqDiff, reduceCtorEq, Nat.reduceAdd, *]
  obtain ⟨vs, od, on⟩ := o
  simp only [new_n, put_n] at od on
  have hx1 : H2.blk (H.n + 1 + 1 + 1) = some ⟨true, t_float32, xs.map fv⟩ := by simp (disch := first | assumption | omega | rfl | (refine id ?_; simp only [gxD, ne_eq, reduceCtorEq, not_false_eq_true, Nat.reduceAdd, *]; done) | (refine id ?_; simp only [gxD]; omega)) only [↓gxPre, gxPost, ↓reduceIte, Nat.reduceEqDiff, reduceCtorEq, Nat.reduceAdd, b2]
  refine ⟨⟨by simp only [put_n]; omega, fun i hi => by rw [hput_other _ _ _ _ (by omega), hput_other _ _ _ _ (by omega), b2 i (by omega)]; simp (disch := first | assumption | omega | rfl | (refine id ?_; simp only [gxD, ne_eq, reduceCtorEq, not_false_eq_true, Nat.reduceAdd, *]; done) | (refine id ?_; simp only [gxD]; omega)) only [↓gxPre, gxPost, ↓reduceIte, Nat.reduceEqDiff, reduceCtorEq, Nat.reduceAdd]⟩, _, _, rfl, vs, ?_, ?_⟩
  · refine (od.wide (by omega) (Nat.le_refl _)).keep (Nat.le_refl _) fun h hh => ?_
    have := (od.hdl hh).1
    rw [hput_other _ _ _ _ (by omega), hput_other _ _ _ _ (by omega)]
  · refine OwN.cons (.mk (by rw [hput_other _ _ _ _ (by omega), hput_other _ _ _ _ (by omega), hx1]) (by simp) (by omega) (by omega) (by simp only [put_n]; omega)) ((on.wide (by omega) (Nat.le_refl _)).keep (Nat.le_refl _) fun i h hi hh => ?_) fun i h hi hh hk => ?_
    · have := (on.lt hi hh).1
      rw [hput_other _ _ _ _ (by omega), hput_other _ _ _ _ (by omega)]
    · have := (on.lt hi hh).1
      simp only [hdl, Option.some.injEq] at hk
      omega
theorem w_markBands_ow {lo hi : Nat} {H : Heap} {c d : Value} {l : List Value} {ls : List (List Value)} {k : Int} (o : OwB lo hi H t_sfloat32 t_float32 c d l ls) (h0 : 0 ≤ k) (h1 : k ≤ 2 ^ 59) (hn : l.length + totL ls ≤ 2 ^ 41) :
    ACalls Try.prog n_w_markBands [.agg #[c, d], .int .i64 k] H fun r H' => r = .int .i64 (k + l.length + (offN ls ls.length : Nat)) ∧ OwB lo hi H' t_sfloat32 t_float32 c d ((List.range l.length).map (markF k)) (marked markF (k + l.length) ls ls.length) ∧ Off lo hi H H' := by
  obtain ⟨vs, od, on⟩ := o
  have hc := on.headL
  have o1 := hc.one
  have o2 := od.one
  have e : Ext H (H.new ⟨true, t_Bands, [c, d]⟩) := .new _ _
  have tl : totL ls ≤ 2 ^ 41 := by omega
  refine k_w_markBands.run rfl ?_
  unfold c_w_markBands
  ((try simp (disch := first | assumption | omega | rfl | (refine id ?_; simp only [gxD, ne_eq, reduceCtorEq, not_false_eq_true, Nat.reduceAdd, *]; done) | (refine id ?_; simp only [gxD]; omega)) only [↓gxPre, gxPost, ↓reduceIte, Nat.reduceEqDiff, reduceCtorEq, Nat.reduceAdd, *]); repeat' (first | (refine grdR_split (fun _ => ?_) (fun _ => ?_) <;> simp (disch := first | assumption | omega | rfl | (refine id ?_; simp only [gxD, ne_eq, reduceCtorEq, not_false_eq_true, Nat.reduceAdd, *]; done) | (refine id ?_; simp only [gxD]; omega)) only [↓gxPre, gxPost, ↓reduceIte, Nat.reduceEqDiff, reduceCtorEq, Nat.reduceAdd, *]) | (refine condR_split (fun _ => ?_) (fun _ => ?_) <;> simp (disch := first | assumption | omega | rfl | (refine id ?_; simp only [gxD, ne_eq, reduceCtorEq, not_false_eq_true, Nat.reduceAdd, *]; done) | (refine id ?_; simp only [gxD]; omega)) only [↓gxPre, gxPost, ↓reduceIte, Nat.reduceEqDiff, reduceCtorEq, Nat.reduceAdd, *])))
  refine callR_of (w_markFloat32S_ow (hc.ext e) (by omega) (by omega) (by omega)) ?_
  rintro _ H1 ⟨rfl, p, f⟩
  have hb : H1.blk H.n = some ⟨true, t_Bands, [c, d]⟩ := by
    rw [f.blk _ (fun hh => by have := (hc.hdl hh).2.2.1; omega), new_self]
  have on1 := (on.ext e).set (i := 0) (by simp) f p
  have od1 : OwL lo hi H1 t_sfloat32 d vs := (od.ext e).fr f fun h hh hk => (hc.ext e).ne ((od.ext e).hdl hh).2.2.2.1 (by decide) hk
  simp (disch := first | assumption | omega | rfl | (refine id ?_; simp only [gxD, ne_eq, reduceCtorEq, not_false_eq_true, Nat.reduceAdd, *]; done) | (refine id ?_; simp only [gxD]; omega)) only [↓gxPre, gxPost, ↓reduceIte, Nat.reduceEqDiff, reduceCtorEq, Nat.reduceAdd, hb]
  refine callR_of (w_markFloat32SS_fam od1 (OwN.tail on1) (by omega) (by omega) (by omega)) ?_
  rintro _ H2 ⟨rfl, q1, q2, q3, q4, q5⟩
  simp (disch := first | assumption | omega | rfl | (refine id ?_; simp only [gxD, ne_eq, reduceCtorEq, not_false_eq_true, Nat.reduceAdd, *]; done) | (refine id ?_; simp only [gxD]; omega)) only [↓gxPre, gxPost, ↓reduceIte, Nat.reduceEqDiff, reduceCtorEq, Nat.reduceAdd]
  have hdis : ∀ i h, i < ls.length → hdl (vs.getD i undef) = some h → hdl c ≠ some h := fun i h hi hh hk => by
    have := on.2.2 0 (i + 1) h (by simp) (by simp; omega) (by simpa [List.getD_eq_getElem?_getD] using hk) (by simpa [List.getD_eq_getElem?_getD] using hh)
    omega
  refine ⟨⟨vs, q1, OwN.cons (p.keep (by omega) fun h hh => q5 h fun i hi hk => hdis i h hi hk hh) q2 fun i h hi hh => hdis i h (by rw [marked_length] at hi; exact hi) hh⟩, ?_⟩
  exact (e.off.trans (f.off (hc.ext e))).trans q3
end Go.Proofs.Ytkojmlpaamdhoae
