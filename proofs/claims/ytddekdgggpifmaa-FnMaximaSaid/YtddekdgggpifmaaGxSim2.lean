/-
  Running by rewriting: frames, values, heaps; readable slices.
-/
import Derived.Test.YtddekdgggpifmaaGxSim
import Derived.Test.YtddekdgggpifmaaGxWide
import Derived.IntWalk
namespace Go.Gx
set_option linter.unusedSimpArgs false
set_option linter.unusedVariables false

theorem FnOk.run {P : Program} {f : FuncId} {np : Nat} {y : ACode} {res : List ARes} (h : FnOk P f np y res) {args : List Value} (ha : args.length = np) {H : Heap} {S : Value → Heap → Prop}
    (hw : run P y [] (finQ res S) (params 0 args) H) : ACalls P f args H S := h.calls ha hw

/-! ### frames -/
theorem get_cons (φ : Frame) (s t : Nat) (v : Value) : Frame.get ((s, v) :: φ) t = if s = t then v else Frame.get φ t := rfl
theorem ev_tmp (φ : Frame) (t : Nat) : Frame.ev φ (.tmp t) = φ.get t := rfl
theorem ev_const (φ : Frame) (v : Value) : Frame.ev φ (.const v) = v := rfl
theorem ev_func (φ : Frame) (f : FuncId) : Frame.ev φ (.func f) = .func (.func f) #[] #[] := rfl
theorem params_cons (i : Nat) (v : Value) (l : List Value) : params i (v :: l) = (i, v) :: params (i + 1) l := rfl
theorem params_nil (i : Nat) : params i [] = [] := rfl
theorem keep_cons (φ : Frame) (t : Nat) (l : List Nat) : Frame.keep (t :: l) φ = (t, φ.get t) :: Frame.keep l φ := rfl
theorem keep_nil (φ : Frame) : Frame.keep [] φ = [] := rfl
theorem zip_cons (t : Nat) (l : List Nat) (v : Value) (vs : List Value) : List.zip (t :: l) (v :: vs) = (t, v) :: List.zip l vs := rfl
theorem zip_nil : List.zip ([] : List Nat) ([] : List Value) = [] := rfl

/-! ### results -/
theorem ares1_tmp (φ : Frame) (H : Heap) (t : Nat) : ares1 φ H (.tmp t) = some (φ.get t) := rfl
theorem ares1_cell (φ : Frame) (H : Heap) (t : Nat) : ares1 φ H (.cell t) = aLd (φ.get t) H := rfl
theorem ares1_celln (φ : Frame) (H : Heap) (t n : Nat) : ares1 φ H (.celln t n) = aLdn n (φ.get t) H := rfl
def resL (φ : Frame) (H : Heap) (l : List ARes) : Option (List Value) := aresL φ H l
def tupO (a : Option Value) (l : Option (List Value)) : Option (List Value) :=
  match a, l with
  | some v, some vs => some (v :: vs)
  | _, _ => none
theorem ares_1 (φ : Frame) (H : Heap) (r : ARes) : ares φ H [r] = ares1 φ H r := by
  unfold ares aresL aresL
  cases ares1 φ H r <;> rfl
def pairO (a b : Option Value) : Option Value :=
  match a, b with
  | some v, some u => some (.tuple #[v, u])
  | _, _ => none
theorem pairO_some (a b : Value) : pairO (some a) (some b) = some (.tuple #[a, b]) := rfl
theorem ares_2 (φ : Frame) (H : Heap) (r s : ARes) : ares φ H [r, s] = pairO (ares1 φ H r) (ares1 φ H s) := by
  unfold ares aresL aresL aresL pairO
  cases ares1 φ H r <;> cases ares1 φ H s <;> rfl
def tripleO (a b c : Option Value) : Option Value :=
  match a, b, c with
  | some v, some u, some w => some (.tuple #[v, u, w])
  | _, _, _ => none
theorem tripleO_some (a b c : Value) : tripleO (some a) (some b) (some c) = some (.tuple #[a, b, c]) := rfl
theorem ares_3 (φ : Frame) (H : Heap) (r s t : ARes) : ares φ H [r, s, t] = tripleO (ares1 φ H r) (ares1 φ H s) (ares1 φ H t) := by
  unfold ares aresL aresL aresL aresL tripleO
  cases ares1 φ H r <;> cases ares1 φ H s <;> cases ares1 φ H t <;> rfl

/-! ### reading again -/
theorem av_ld {φ : Frame} {H : Heap} {x : Operand} : aval (.ld x) φ H = aLd (φ.ev x) H := rfl
theorem av_ldn {φ : Frame} {H : Heap} {x : Operand} {n : Nat} : aval (.ldn n x) φ H = aLdn n (φ.ev x) H := rfl
theorem av_ia {φ : Frame} {H : Heap} {x y : Operand} : aval (.ia x y) φ H = aIa (φ.ev x) (φ.ev y) H := rfl

/-! ### where rewriting goes -/
section
variable {P : Program} {d : Option Nat} {rc : RC} {r : List AStep} {k : List AItem} {R : Post} {φ : Frame} {H : Heap}
@[congr] theorem optR_congr {o o' : Option Value} (h : o = o') : optR P o d rc r k R φ H = optR P o' d rc r k R φ H := by rw [h]
@[congr] theorem effR_congr {o o' : Option (Value × Heap)} (h : o = o') : effR P o d rc r k R φ = effR P o' d rc r k R φ := by rw [h]
@[congr] theorem grdR_congr {o o' : Option Bool} {s : AStep} (h : o = o') : grdR P o s r k R φ H = grdR P o' s r k R φ H := by rw [h]
@[congr] theorem condR_congr {v v' : Value} {a b : ACode} (h : v = v') : condR P v a b k R φ H = condR P v' a b k R φ H := by rw [h]
@[congr] theorem loopR_congr {live : List Nat} {v v' : List Value} {a : ACode} (h : v = v') : loopR P live v a k R H = loopR P live v' a k R H := by rw [h]
@[congr] theorem callR_congr {f : FuncId} {v v' : List Value} (h : v = v') : callR P f v d rc r k R φ H = callR P f v' d rc r k R φ H := by rw [h]
@[congr] theorem callvR_congr {g g' : Value} {v v' : List Value} (hg : g = g') (h : v = v') : callvR P g v d rc r k R φ H = callvR P g' v' d rc r k R φ H := by rw [hg, h]
@[congr] theorem keepR_congr {φ φ' : Frame} {a : ACode} (h : φ = φ') : keepR P φ a k R H = keepR P φ' a k R H := by rw [h]
@[congr] theorem endR_congr {o o' : Option Value} {S : Value → Heap → Prop} (h : o = o') : endR o S H = endR o' S H := by rw [h]
@[congr] theorem run_congr {φ φ' : Frame} {a : ACode} (h : φ = φ') : run P a k R φ H = run P a k R φ' H := by rw [h]
@[congr] theorem runOps_congr {φ : Frame} {a : List AStep} : runOps P a k R φ H = runOps P a k R φ H := rfl
theorem optR_gen {v : Value} {d : Nat} : optR P (some v) (some d) rc r k R φ H = (rcS rc φ H ∧ runOps P r k R ((d, v) :: φ) H) := rfl
end

/-! ### values -/
theorem w64 (n : Int) (h0 : -9223372036854775808 ≤ n) (h1 : n ≤ 9223372036854775807) : IntKind.wrap .i64 n = n := Go.IntWalk.i64_in n ⟨h0, h1⟩
theorem aPick_true (a b : Value) : aPick (.bool true) a b = some a := rfl
theorem aPick_false (a b : Value) : aPick (.bool false) a b = some b := rfl
theorem abin_add {k : IntKind} {a b : Int} : abin .add (.int k a) (.int k b) = some (.int k (k.wrap (a + b))) := by simp [abin, isShift, aint]
theorem abin_sub {k : IntKind} {a b : Int} : abin .sub (.int k a) (.int k b) = some (.int k (k.wrap (a - b))) := by simp [abin, isShift, aint]
theorem abin_mul {k : IntKind} {a b : Int} : abin .mul (.int k a) (.int k b) = some (.int k (k.wrap (a * b))) := by simp [abin, isShift, aint]
theorem abin_quo {k : IntKind} {a b : Int} (hb : b ≠ 0) : abin .quo (.int k a) (.int k b) = some (.int k (k.wrap (a.tdiv b))) := by simp [abin, isShift, aint, hb]
theorem abin_rem {k : IntKind} {a b : Int} (hb : b ≠ 0) : abin .rem (.int k a) (.int k b) = some (.int k (a.tmod b)) := by simp [abin, isShift, aint, hb]
theorem abin_eql {k : IntKind} {a b : Int} : abin .eql (.int k a) (.int k b) = some (.bool (decide (a = b))) := by simp [abin, isShift, aint, BEq.beq]
theorem abin_neq {k : IntKind} {a b : Int} : abin .neq (.int k a) (.int k b) = some (.bool (decide (a ≠ b))) := by simp [abin, isShift, aint, bne, BEq.beq]
theorem abin_lss {k : IntKind} {a b : Int} : abin .lss (.int k a) (.int k b) = some (.bool (decide (a < b))) := by simp [abin, isShift, aint]
theorem abin_leq {k : IntKind} {a b : Int} : abin .leq (.int k a) (.int k b) = some (.bool (decide (a ≤ b))) := by simp [abin, isShift, aint]
theorem abin_gtr {k : IntKind} {a b : Int} : abin .gtr (.int k a) (.int k b) = some (.bool (decide (b < a))) := by simp [abin, isShift, aint]
theorem abin_geq {k : IntKind} {a b : Int} : abin .geq (.int k a) (.int k b) = some (.bool (decide (b ≤ a))) := by simp [abin, isShift, aint]
theorem abin_shl {k k' : IntKind} {a b : Int} (h : 0 ≤ b) : abin .shl (.int k a) (.int k' b) = some (.int k (k.wrap (a * 2 ^ min b.toNat k.bits))) := by
  simp [abin, isShift, ashift, show ¬ b < 0 by omega]
theorem abin_shr {k k' : IntKind} {a b : Int} (h : 0 ≤ b) : abin .shr (.int k a) (.int k' b) = some (.int k (a.fdiv (2 ^ min b.toNat k.bits))) := by
  simp [abin, isShift, ashift, show ¬ b < 0 by omega]
theorem abin_and {k : IntKind} {a b : Int} : abin .and (.int k a) (.int k b) = some (.int k (bits .and k a b)) := by simp [abin, isShift, aint]
theorem abin_or {k : IntKind} {a b : Int} : abin .or (.int k a) (.int k b) = some (.int k (bits .or k a b)) := by simp [abin, isShift, aint]
theorem abin_xor {k : IntKind} {a b : Int} : abin .xor (.int k a) (.int k b) = some (.int k (bits .xor k a b)) := by simp [abin, isShift, aint]
theorem abin_fadd {k : FloatKind} {a b : Nat} : abin .add (.float k a) (.float k b) = some (.float k (fbin .add k a b)) := by simp [abin]
theorem abin_fsub {k : FloatKind} {a b : Nat} : abin .sub (.float k a) (.float k b) = some (.float k (fbin .sub k a b)) := by simp [abin]
theorem abin_fmul {k : FloatKind} {a b : Nat} : abin .mul (.float k a) (.float k b) = some (.float k (fbin .mul k a b)) := by simp [abin]
theorem abin_fquo {k : FloatKind} {a b : Nat} : abin .quo (.float k a) (.float k b) = some (.float k (fbin .quo k a b)) := by simp [abin]
def fcB (op : BinOp) (k : FloatKind) (x y : Nat) : Bool := (fcmp op k x y).getD false
theorem abin_feql {k : FloatKind} {a b : Nat} : abin .eql (.float k a) (.float k b) = some (.bool (fcB .eql k a b)) := by simp [abin, fcB, fcmp]
theorem abin_fneq {k : FloatKind} {a b : Nat} : abin .neq (.float k a) (.float k b) = some (.bool (fcB .neq k a b)) := by simp [abin, fcB, fcmp]
theorem abin_flss {k : FloatKind} {a b : Nat} : abin .lss (.float k a) (.float k b) = some (.bool (fcB .lss k a b)) := by simp [abin, fcB, fcmp]
theorem abin_fleq {k : FloatKind} {a b : Nat} : abin .leq (.float k a) (.float k b) = some (.bool (fcB .leq k a b)) := by simp [abin, fcB, fcmp]
theorem abin_fgtr {k : FloatKind} {a b : Nat} : abin .gtr (.float k a) (.float k b) = some (.bool (fcB .gtr k a b)) := by simp [abin, fcB, fcmp]
theorem abin_fgeq {k : FloatKind} {a b : Nat} : abin .geq (.float k a) (.float k b) = some (.bool (fcB .geq k a b)) := by simp [abin, fcB, fcmp]
theorem abin_ceql {k : FloatKind} {a b c d : Nat} : abin .eql (.complex k a b) (.complex k c d) = some (.bool (feq k a c && feq k b d)) := by simp [abin]
theorem abin_cneq {k : FloatKind} {a b c d : Nat} : abin .neq (.complex k a b) (.complex k c d) = some (.bool !(feq k a c && feq k b d)) := by simp [abin]
theorem abin_cadd {k : FloatKind} {a b c d : Nat} : abin .add (.complex k a b) (.complex k c d) = some (.complex k (fbin .add k a c) (fbin .add k b d)) := by simp [abin]
theorem aun_not {b : Bool} : aun .not (.bool b) = some (.bool !b) := rfl
theorem aun_neg {k : IntKind} {a : Int} : aun .neg (.int k a) = some (.int k (k.wrap (0 - a))) := rfl
theorem aun_fneg {k : FloatKind} {a : Nat} : aun .neg (.float k a) = some (.float k (fneg k a)) := rfl
theorem acv_ii {k k' : IntKind} {n : Int} : acv (.i k) (.int k' n) = some (.int k (k.wrap n)) := rfl
theorem acv_if {k : FloatKind} {k' : IntKind} {n : Int} : acv (.f k) (.int k' n) = some (.float k (i2f k n)) := rfl
/-- Single to double precision: always told. -/
def f64 (x : Nat) : Nat := (f2f .f32 x .f64).getD 0
theorem f2f_wide (x : Nat) : f2f .f32 x .f64 = some (f64 x) := by
  have h : (f2f .f32 x .f64).isSome = true := by
    unfold f2f
    simp only [reduceCtorEq, if_false]
    split
    · rfl
    · rfl
    · rename_i s m e hd
      split
      · rename_i hi
        exact absurd hi (wide_inf hd)
      · rfl
  obtain ⟨y, hy⟩ := Option.isSome_iff_exists.1 h
  rw [f64, hy]; rfl
theorem acv_wide {x : Nat} : acv (.f .f64) (.float .f32 x) = some (.float .f64 (f64 x)) := by
  show (f2f .f32 x .f64).map _ = _
  rw [f2f_wide]; rfl
theorem acv_same {k : FloatKind} {x : Nat} : acv (.f k) (.float k x) = some (.float k x) := by
  show (f2f k x k).map _ = _
  simp [f2f]
theorem aBeq_t {a b : Bool} : aBeq false (.bool a) (.bool b) = some (.bool (a == b)) := rfl
theorem aBeq_f {a b : Bool} : aBeq true (.bool a) (.bool b) = some (.bool !(a == b)) := rfl
theorem aMnx_max {k k' : IntKind} {a b : Int} : aMnx true (.int k a) (.int k' b) = some (.int k (max a b)) := by
  simp only [aMnx, if_true, gt_iff_lt]
  congr 2
  split <;> omega
theorem aMnx_min {k k' : IntKind} {a b : Int} : aMnx false (.int k a) (.int k' b) = some (.int k (min a b)) := by
  simp only [aMnx, Bool.false_eq_true, if_false]
  congr 2
  split <;> omega
theorem aRe_c {k : FloatKind} {a b : Nat} : aRe (.complex k a b) = some (.float k a) := rfl
theorem aIm_c {k : FloatKind} {a b : Nat} : aIm (.complex k a b) = some (.float k b) := rfl
theorem aCx_f {k : FloatKind} {a b : Nat} : aCx (.float k a) (.float k b) = some (.complex k a b) := by simp [aCx]
theorem aFa_p {h o t off : Nat} : aFa off (.pointer (some ⟨h, o, some t⟩)) = some (.pointer (some ⟨h, o + off, some t⟩)) := rfl
theorem aFld_agg {cs : Array Value} {off : Nat} : aFld off (.agg cs) = cs[off]? := rfl
theorem aExt_t {cs : Array Value} {i : Nat} : aExt (.tuple cs) i = cs[i]? := rfl
theorem aNc_p {a : Addr} : aNc (.pointer (some a)) = some (.pointer (some a)) := rfl
theorem aNc_f {f : FuncId} {a b : Array Value} : aNc (.func (.func f) a b) = some (.func (.func f) a b) := rfl
theorem aLen_s {p : Option Addr} {n t : Nat} : aLen (.slice p n t) = some (.int .i64 n) := rfl
theorem aSqrt_f {b : Nat} : aSqrt (.float .f64 b) = some (.float .f64 (sqrtF b)) := rfl
theorem aInt_f {n b : Nat} : aInt n (.float .f64 b) = some (.float .f64 (intF n b)) := rfl
theorem arr_0 {v : Value} {l : List Value} : (⟨v :: l⟩ : Array Value)[0]? = some v := by simp
theorem arr_1 {v u : Value} {l : List Value} : (⟨v :: u :: l⟩ : Array Value)[1]? = some u := by simp
theorem arr_2 {v u w : Value} {l : List Value} : (⟨v :: u :: w :: l⟩ : Array Value)[2]? = some w := by simp

/-! ### heaps -/
theorem new_n (H : Heap) (b : Blk) : (H.new b).n = H.n + 1 := rfl
theorem put_n (H : Heap) (h : Nat) (b : Blk) : (H.put h b).n = H.n := rfl
theorem new_self (H : Heap) (b : Blk) : (H.new b).blk H.n = some b := by simp [Heap.new]
theorem new_at (H : Heap) (b : Blk) (i : Nat) (h : i = H.n) : (H.new b).blk i = some b := by simp [Heap.new, h]
theorem new_old (H : Heap) (b : Blk) (i : Nat) (h : i < H.n) : (H.new b).blk i = H.blk i := by simp [Heap.new, show i ≠ H.n by omega]
theorem hput_self (H : Heap) (h : Nat) (b : Blk) : (H.put h b).blk h = some b := by simp [Heap.put]
theorem hput_other (H : Heap) (h i : Nat) (b : Blk) (hi : i ≠ h) : (H.put h b).blk i = H.blk i := by simp [Heap.put, hi]
theorem hput_put (H : Heap) (h : Nat) (b c : Blk) : (H.put h b).put h c = H.put h c := by
  simp only [Heap.put, Heap.mk.injEq, true_and]
  funext i; by_cases hi : i = h <;> simp [hi]
theorem new_put (H : Heap) (b c : Blk) : (H.new b).put H.n c = H.new c := by
  simp only [Heap.put, Heap.new, Heap.mk.injEq, true_and]
  funext i; by_cases hi : i = H.n <;> simp [hi]
theorem aLd_p {h o t : Nat} {H : Heap} : aLd (.pointer (some ⟨h, o, some t⟩)) H = ldB (H.blk h) o t := rfl
theorem ldB_some {b : Blk} {o : Nat} : ldB (some b) o b.cs.length = b.cs[o]? := by simp [ldB]
theorem ldB_at {own : Bool} {ty : TypeId} {cs : List Value} {o t : Nat} (h : cs.length = t) : ldB (some ⟨own, ty, cs⟩) o t = cs[o]? := by simp [ldB, h]
theorem aLdn_p {n h o t : Nat} {H : Heap} : aLdn n (.pointer (some ⟨h, o, some t⟩)) H = ldnB (H.blk h) n o t := rfl
theorem ldnB_at {own : Bool} {ty : TypeId} {cs : List Value} {n o t : Nat} (h : cs.length = t) (h1 : o + n ≤ t) : ldnB (some ⟨own, ty, cs⟩) n o t = some (.agg ((cs.drop o).take n).toArray) := by simp [ldnB, h, h1]
theorem eSt_p {h o t : Nat} {v : Value} {H : Heap} : eSt (.pointer (some ⟨h, o, some t⟩)) v H = stB (H.blk h) h o t v H := rfl
theorem stB_at {ty : TypeId} {cs : List Value} {h o t : Nat} {v : Value} {H : Heap} (hl : cs.length = t) (ho : o < t) (h1 : one v = true) : stB (some ⟨true, ty, cs⟩) h o t v H = some (undef, H.put h ⟨true, ty, cs.set o v⟩) := by simp [stB, hl, ho, h1]
theorem eStn_p {n h o t : Nat} {v : Value} {H : Heap} : eStn n (.pointer (some ⟨h, o, some t⟩)) v H = stnB (H.blk h) n h o t v H := rfl
theorem stnB_all {ty : TypeId} {cs ds : List Value} {h t n : Nat} {H : Heap} (hl : cs.length = t) (hn : t = n) (hd : ds.length = n) (h1 : ds.all one = true) : stnB (some ⟨true, ty, cs⟩) n h 0 t (.agg ⟨ds⟩) H = some (undef, H.put h ⟨true, ty, ds⟩) := by
  subst hn
  simp only [stnB, vcells, solid]
  rw [if_pos ⟨trivial, hl, by omega, trivial, hd, h1⟩]
  simp [← hl]
theorem eBox_agg {ty : TypeId} {ds : List Value} {H : Heap} (hl : ds.length ≤ 4096) (h1 : ds.all one = true) : eBox ty (.agg ⟨ds⟩) H = some (.pointer (some ⟨H.n, 0, some ds.length⟩), H.new ⟨true, ty, ds⟩) := by
  simp [eBox, solid, vcells, hl, h1]
theorem eBox_one {ty : TypeId} {v : Value} {H : Heap} (h0 : solid v = true) (h1 : one v = true) (h2 : vcells v = [v]) : eBox ty v H = some (.pointer (some ⟨H.n, 0, some 1⟩), H.new ⟨true, ty, [v]⟩) := by
  simp [eBox, h0, h1, h2]
theorem eBox_int {ty : TypeId} {k : IntKind} {n : Int} {H : Heap} : eBox ty (.int k n) H = some (.pointer (some ⟨H.n, 0, some 1⟩), H.new ⟨true, ty, [.int k n]⟩) := eBox_one rfl rfl rfl
theorem eBox_float {ty : TypeId} {k : FloatKind} {n : Nat} {H : Heap} : eBox ty (.float k n) H = some (.pointer (some ⟨H.n, 0, some 1⟩), H.new ⟨true, ty, [.float k n]⟩) := eBox_one rfl rfl rfl
theorem eBox_bool {ty : TypeId} {n : Bool} {H : Heap} : eBox ty (.bool n) H = some (.pointer (some ⟨H.n, 0, some 1⟩), H.new ⟨true, ty, [.bool n]⟩) := eBox_one rfl rfl rfl
theorem eBox_slice {ty : TypeId} {p : Option Addr} {n t : Nat} {H : Heap} : eBox ty (.slice p n t) H = some (.pointer (some ⟨H.n, 0, some 1⟩), H.new ⟨true, ty, [.slice p n t]⟩) := eBox_one rfl rfl rfl
theorem eMks_i {ety : TypeId} {bytes : Nat} {zero : Value} {n : Nat} {H : Heap} (h : n * bytes ≤ 281474976710656) :
    eMks ety bytes zero (.int .i64 (n : Int)) (.int .i64 (n : Int)) H = some (.slice (some ⟨H.n, 0, none⟩) n n, H.new ⟨true, ety, List.replicate n zero⟩) := by
  simp only [eMks]
  have h2 : (n : Int) * (bytes : Int) ≤ 281474976710656 := by
    have : ((n * bytes : Nat) : Int) ≤ 281474976710656 := by omega
    rwa [Int.natCast_mul] at this
  rw [if_pos ⟨by omega, trivial, h2⟩]
  simp
theorem eApp_own {ety : TypeId} {bytes h n t : Nat} {news : List Value} {H : Heap} : eApp ety bytes (.slice (some ⟨h, 0, none⟩) n t) (some news) H = appB (H.blk h) ety bytes h n t news H := rfl
theorem appB_at {ety : TypeId} {bytes h n t : Nat} {cs news : List Value} {H : Heap} (h1 : n = cs.length) (h2 : t = n) (h3 : (n + news.length) * bytes ≤ 140737488355328) :
    appB (some ⟨true, ety, cs⟩) ety bytes h n t news H = some (.slice (some ⟨h, 0, none⟩) (n + news.length) (n + news.length), H.put h ⟨true, ety, cs ++ news⟩) := by
  simp only [appB]
  rw [if_pos ⟨trivial, trivial, h1, h2, h3⟩]
theorem eApp_nil {ety : TypeId} {bytes n t : Nat} {news : List Value} {H : Heap} (h0 : news ≠ []) (h : news.length * bytes ≤ 140737488355328) :
    eApp ety bytes (.slice none n t) (some news) H = some (.slice (some ⟨H.n, 0, none⟩) news.length news.length, H.new ⟨true, ety, news⟩) := by
  simp [eApp, h0, h]
theorem readSl_own {H : Heap} {h n : Nat} {own : Bool} {ty : TypeId} {cs : List Value} (hb : H.blk h = some ⟨own, ty, cs⟩) (hn : cs.length = n) : readSl H (.slice (some ⟨h, 0, none⟩) n n) = some cs := by
  simp [readSl, hb, ← hn]
theorem rd1_new {H : Heap} {ty : TypeId} {v : Value} : readSl (H.new ⟨true, ty, [v]⟩) (.slice (some ⟨H.n, 0, none⟩) 1 1) = some [v] := readSl_own (new_self _ _) rfl
theorem eBsl_0 {ety : TypeId} {z : Value} {H : Heap} : eBsl ety 0 z [] H = some (.slice (some ⟨H.n, 0, none⟩) 0 0, H.new ⟨true, ety, []⟩) := rfl
theorem eBsl_1 {ety : TypeId} {z v : Value} {H : Heap} (h : one v = true) : eBsl ety 1 z [(0, v)] H = some (.slice (some ⟨H.n, 0, none⟩) 1 1, H.new ⟨true, ety, [v]⟩) := by
  simp [eBsl, afillS, h, List.replicate]
theorem eBsl_2 {ety : TypeId} {z v u : Value} {H : Heap} (h : one v = true) (h' : one u = true) : eBsl ety 2 z [(0, v), (1, u)] H = some (.slice (some ⟨H.n, 0, none⟩) 2 2, H.new ⟨true, ety, [v, u]⟩) := by
  simp [eBsl, afillS, h, h', List.replicate]
theorem eBsl_4 {ety : TypeId} {z v u w x : Value} {H : Heap} (h : one v = true) (h' : one u = true) (h2 : one w = true) (h3 : one x = true) : eBsl ety 4 z [(0, v), (1, u), (2, w), (3, x)] H = some (.slice (some ⟨H.n, 0, none⟩) 4 4, H.new ⟨true, ety, [v, u, w, x]⟩) := by
  simp [eBsl, afillS, h, h', h2, h3, List.replicate]
theorem one_int {k : IntKind} {n : Int} : one (.int k n) = true := rfl
theorem one_float {k : FloatKind} {n : Nat} : one (.float k n) = true := rfl
theorem one_bool {n : Bool} : one (.bool n) = true := rfl
theorem one_slice {p : Option Addr} {n t : Nat} : one (.slice p n t) = true := rfl

def mkAgg (o : Option (List Value)) : Option Value := o.map fun cs => .agg cs.toArray
theorem mkAgg_some (cs : List Value) : mkAgg (some cs) = some (.agg cs.toArray) := rfl
theorem aBld_def (tm : List Value) (ps : List (Nat × Nat × Value)) : aBld tm ps = mkAgg (afill tm ps) := rfl
theorem afill_nil (cs : List Value) : afill cs [] = some cs := rfl
theorem one_vcells {v : Value} (h : one v = true) : vcells v = [v] ∧ solid v = true := by
  cases v <;> first | exact ⟨rfl, rfl⟩ | (cases h; done) | skip
  rename_i o; cases o <;> first | exact ⟨rfl, rfl⟩ | cases h
theorem afill_one {cs : List Value} {off : Nat} {v : Value} {r : List (Nat × Nat × Value)} (h : one v = true) (hl : off < cs.length) : afill cs ((off, 1, v) :: r) = afill (cs.set off v) r := by
  obtain ⟨h1, h2⟩ := one_vcells h
  simp only [afill, h1, h2]
  rw [if_pos ⟨trivial, rfl, by omega⟩]
  congr 1
  apply List.ext_getElem?
  intro i
  rw [List.getElem?_set]
  by_cases h3 : i < off
  · rw [List.append_assoc, List.getElem?_append_left (by simp; omega), List.getElem?_take, if_pos h3, if_neg (by omega)]
  · by_cases h4 : i = off
    · subst h4
      rw [List.append_assoc, List.getElem?_append_right (by simp; omega)]
      simp [show min i cs.length = i by omega, hl]
    · rw [List.getElem?_append_right (by simp; omega), if_neg (by omega)]
      simp only [List.length_append, List.length_take, List.length_cons, List.length_nil, List.getElem?_drop]
      congr 1
      omega
theorem eBox_v {ty : TypeId} {v : Value} {H : Heap} (h : one v = true) : eBox ty v H = some (.pointer (some ⟨H.n, 0, some 1⟩), H.new ⟨true, ty, [v]⟩) :=
  eBox_one (one_vcells h).2 h (one_vcells h).1

/-! ### readable slices -/
def Sl (H : Heap) (v : Value) (l : List Value) : Prop :=
  (v = .slice none 0 0 ∧ l = []) ∨ ∃ h o t b, v = .slice (some ⟨h, o, none⟩) l.length t ∧ h < H.n ∧ H.blk h = some b ∧ b.cs.length = o + t ∧ l.length ≤ t ∧ (b.cs.drop o).take l.length = l
/-- An element's place. -/
def elp (v : Value) (j : Nat) : Value :=
  match v with
  | .slice (some ⟨h, o, none⟩) _ t => .pointer (some ⟨h, o + j, some (o + t)⟩)
  | _ => undef
theorem Sl.len {H : Heap} {v : Value} {l : List Value} (h : Sl H v l) : aLen v = some (.int .i64 l.length) := by
  rcases h with ⟨rfl, rfl⟩ | ⟨h, o, t, b, rfl, _⟩ <;> rfl
theorem Sl.ia {H : Heap} {v : Value} {l : List Value} (h : Sl H v l) (k : IntKind) (j : Int) (h0 : 0 ≤ j) (h1 : j < l.length) : aIa v (.int k j) H = some (elp v j.toNat) := by
  rcases h with ⟨rfl, rfl⟩ | ⟨h, o, t, b, rfl, _, hb, hl, _, _⟩
  · simp at h1; omega
  · simp only [aIa, hb, elp]
    rw [if_pos ⟨hl, h0, h1⟩]
theorem Sl.ld {H : Heap} {v : Value} {l : List Value} (h : Sl H v l) (j : Nat) (h1 : j < l.length) : aLd (elp v j) H = l[j]? := by
  rcases h with ⟨rfl, rfl⟩ | ⟨h, o, t, b, rfl, _, hb, hl, _, hr⟩
  · simp at h1
  · simp only [elp, aLd, ldB, hb]
    rw [if_pos hl]
    conv => rhs; rw [← hr]
    rw [List.getElem?_take, if_pos h1, List.getElem?_drop]
theorem Sl.read {H : Heap} {v : Value} {l : List Value} (h : Sl H v l) : readSl H v = some l := by
  rcases h with ⟨rfl, rfl⟩ | ⟨h, o, t, b, rfl, _, hb, hl, _, hr⟩
  · rfl
  · simp [readSl, hb, hl, hr]
theorem Sl.one {H : Heap} {v : Value} {l : List Value} (h : Sl H v l) : one v = true := by
  rcases h with ⟨rfl, rfl⟩ | ⟨h, o, t, b, rfl, _⟩ <;> rfl
theorem Sl.box {H H' : Heap} {v : Value} {l : List Value} (h : Sl H v l) (ty : TypeId) : eBox ty v H' = some (.pointer (some ⟨H'.n, 0, some 1⟩), H'.new ⟨true, ty, [v]⟩) := by
  rcases h with ⟨rfl, rfl⟩ | ⟨h, o, t, b, rfl, _⟩ <;> rfl

/-- A later heap, in which what was there is as it was. -/
structure Ext (H H' : Heap) : Prop where
  n : H.n ≤ H'.n
  blk : ∀ i, i < H.n → H'.blk i = H.blk i
theorem Ext.refl (H : Heap) : Ext H H := ⟨Nat.le_refl _, fun _ _ => rfl⟩
theorem Ext.trans {H H' H'' : Heap} (h : Ext H H') (k : Ext H' H'') : Ext H H'' := ⟨Nat.le_trans h.n k.n, fun i hi => (k.blk i (Nat.lt_of_lt_of_le hi h.n)).trans (h.blk i hi)⟩
theorem Ext.new (H : Heap) (b : Blk) : Ext H (H.new b) := ⟨by simp [Heap.new], fun i hi => new_old H b i hi⟩
theorem Ext.put {H H' : Heap} (h : Ext H H') {i : Nat} (hi : H.n ≤ i) (b : Blk) : Ext H (H'.put i b) := ⟨h.n, fun j hj => by rw [hput_other _ _ _ _ (by omega), h.blk j hj]⟩
theorem Ext.news {H H' : Heap} (h : Ext H H') (b : Blk) : Ext H (H'.new b) := h.trans (Ext.new _ _)
theorem Sl.ext {H H' : Heap} {v : Value} {l : List Value} (h : Sl H v l) (e : Ext H H') : Sl H' v l := by
  rcases h with ⟨rfl, rfl⟩ | ⟨h, o, t, b, rfl, hn, hb, hr⟩
  · exact .inl ⟨rfl, rfl⟩
  · exact .inr ⟨h, o, t, b, rfl, Nat.lt_of_lt_of_le hn e.n, by rw [e.blk h hn]; exact hb, hr⟩
theorem FS0.own {H : Heap} {h n : Nat} {own : Bool} {ty : TypeId} {cs : List Value} (hb : H.blk h = some ⟨own, ty, cs⟩) (hn : h < H.n) (hl : cs.length = n) : Sl H (.slice (some ⟨h, 0, none⟩) n n) cs :=
  .inr ⟨h, 0, n, ⟨own, ty, cs⟩, by rw [hl], hn, hb, by simp [hl], by omega, by simp⟩
theorem Sl.nil (H : Heap) : Sl H (.slice none 0 0) [] := .inl ⟨rfl, rfl⟩
theorem Sl.own {H : Heap} {h n : Nat} {own : Bool} {ty : TypeId} {cs : List Value} (hn : h < H.n) (hb : H.blk h = some ⟨own, ty, cs⟩) (hl : cs.length = n) : Sl H (.slice (some ⟨h, 0, none⟩) n n) cs :=
  .inr ⟨h, 0, n, ⟨own, ty, cs⟩, by rw [hl], hn, hb, by simp [hl], by omega, by simp⟩

/-- Numbers of single precision. -/
def fv (x : Nat) : Value := .float .f32 x
def FS (H : Heap) (v : Value) (xs : List Nat) : Prop := Sl H v (xs.map fv)
section
variable {H H' : Heap} {v : Value} {l : List Nat}
theorem FS.own {h n : Nat} {own : Bool} {ty : TypeId} {xs : List Nat} (hb : H.blk h = some ⟨own, ty, xs.map fv⟩) (hn : h < H.n) (hl : xs.length = n) : FS H (.slice (some ⟨h, 0, none⟩) n n) xs := FS0.own hb hn (by simpa using hl)
theorem FS.nil : FS H (.slice none 0 0) [] := Sl.nil H
theorem FS.len (h : FS H v l) : aLen v = some (.int .i64 l.length) := by simpa using Sl.len h
theorem FS.ia (h : FS H v l) (k : IntKind) (j : Int) (h0 : 0 ≤ j) (h1 : j < l.length) : aIa v (.int k j) H = some (elp v j.toNat) := Sl.ia h k j h0 (by simpa using h1)
theorem FS.ld (h : FS H v l) (j : Nat) (h1 : j < l.length) : aLd (elp v j) H = some (.float .f32 (l.getD j 0)) := by
  rw [Sl.ld h j (by simpa using h1)]
  simp [List.getD_eq_getElem?_getD, h1, fv]
theorem FS.ext (h : FS H v l) (e : Ext H H') : FS H' v l := Sl.ext h e
theorem FS.read (h : FS H v l) : readSl H v = some (l.map fv) := Sl.read h
theorem FS.one (h : FS H v l) : one v = true := Sl.one h
theorem FS.box (h : FS H v l) (ty : TypeId) : eBox ty v H' = some (.pointer (some ⟨H'.n, 0, some 1⟩), H'.new ⟨true, ty, [v]⟩) := Sl.box h ty
end
/-- 64-bit integers. -/
def iv (x : Int) : Value := .int .i64 x
def IS (H : Heap) (v : Value) (xs : List Int) : Prop := Sl H v (xs.map iv)
section
variable {H H' : Heap} {v : Value} {l : List Int}
theorem IS.own {h n : Nat} {own : Bool} {ty : TypeId} {xs : List Int} (hb : H.blk h = some ⟨own, ty, xs.map iv⟩) (hn : h < H.n) (hl : xs.length = n) : IS H (.slice (some ⟨h, 0, none⟩) n n) xs := FS0.own hb hn (by simpa using hl)
theorem IS.nil : IS H (.slice none 0 0) [] := Sl.nil H
theorem IS.len (h : IS H v l) : aLen v = some (.int .i64 l.length) := by simpa using Sl.len h
theorem IS.ia (h : IS H v l) (k : IntKind) (j : Int) (h0 : 0 ≤ j) (h1 : j < l.length) : aIa v (.int k j) H = some (elp v j.toNat) := Sl.ia h k j h0 (by simpa using h1)
theorem IS.ld (h : IS H v l) (j : Nat) (h1 : j < l.length) : aLd (elp v j) H = some (.int .i64 (l.getD j 0)) := by
  rw [Sl.ld h j (by simpa using h1)]
  simp [List.getD_eq_getElem?_getD, h1, iv]
theorem IS.ext (h : IS H v l) (e : Ext H H') : IS H' v l := Sl.ext h e
theorem IS.read (h : IS H v l) : readSl H v = some (l.map iv) := Sl.read h
theorem IS.one (h : IS H v l) : one v = true := Sl.one h
end

theorem all_getD {xs : List Nat} {p : Nat → Bool} : xs.all p = true ↔ ∀ j, j < xs.length → p (xs.getD j 0) = true := by
  rw [List.all_eq_true]
  constructor
  · intro h j hj
    rw [List.getD_eq_getElem?_getD, List.getElem?_eq_getElem hj]
    exact h _ (List.getElem_mem hj)
  · intro h x hx
    obtain ⟨j, hj, rfl⟩ := List.getElem_of_mem hx
    have := h j hj
    rwa [List.getD_eq_getElem?_getD, List.getElem?_eq_getElem hj] at this
theorem all_false {xs : List Nat} {p : Nat → Bool} {j : Nat} (hj : j < xs.length) (h : p (xs.getD j 0) = false) : xs.all p = false := by
  cases ha : xs.all p
  · rfl
  · rw [all_getD.1 ha j hj] at h; cases h

/-! ### places in a slice of one's own; lists that are overwritten from the front -/
def iaB (b : Option Blk) (h o n t : Nat) (j : Int) : Option Value :=
  match b with
  | some b => if b.cs.length = o + t ∧ 0 ≤ j ∧ j < (n : Int) then some (.pointer (some ⟨h, o + j.toNat, some (o + t)⟩)) else none
  | none => none
theorem aIa_s {h o n t : Nat} {k : IntKind} {j : Int} {H : Heap} : aIa (.slice (some ⟨h, o, none⟩) n t) (.int k j) H = iaB (H.blk h) h o n t j := rfl
theorem iaB_at {own : Bool} {ty : TypeId} {cs : List Value} {h o n t : Nat} {j : Int} (hl : cs.length = o + t) (h0 : 0 ≤ j) (h1 : j < (n : Int)) : iaB (some ⟨own, ty, cs⟩) h o n t j = some (.pointer (some ⟨h, o + j.toNat, some (o + t)⟩)) := by
  simp only [iaB]; rw [if_pos ⟨hl, h0, h1⟩]
def overL (g : Nat → Value) (i : Nat) (l : List Value) : List Value := (List.range i).map g ++ l.drop i
theorem overL_zero (g : Nat → Value) (l : List Value) : overL g 0 l = l := by simp [overL]
theorem overL_length (g : Nat → Value) (i : Nat) (l : List Value) (h : i ≤ l.length) : (overL g i l).length = l.length := by simp [overL]; omega
theorem overL_all (g : Nat → Value) (l : List Value) (n : Nat) (h : l.length = n) : overL g n l = (List.range n).map g := by simp [overL, ← h]
theorem overL_set (g : Nat → Value) (i : Nat) (l : List Value) (h : i < l.length) : (overL g i l).set i (g i) = overL g (i + 1) l := by
  unfold overL
  rw [List.set_append_right _ _ (by simp)]
  simp only [List.length_map, List.length_range, Nat.sub_self, List.range_succ, List.map_append, List.map_cons, List.map_nil, List.append_assoc]
  rw [List.drop_eq_getElem_cons h]
  rfl
theorem map_range_getD {α : Type} (f : α → Value) (xs : List α) (d : α) : (List.range xs.length).map (fun i => f (xs.getD i d)) = xs.map f := by
  apply List.ext_getElem?
  intro i
  simp only [List.getElem?_map, List.getElem?_range, List.getD_eq_getElem?_getD]
  by_cases h : i < xs.length
  · simp [h]
  · simp [h]

theorem put_id {H : Heap} {h : Nat} {b : Blk} (hb : H.blk h = some b) : H.put h b = H := by
  cases H with
  | mk n blk =>
    simp only [Heap.put, Heap.mk.injEq, true_and]
    funext i
    by_cases hi : i = h
    · subst hi; simp only [if_true]; exact hb.symm
    · simp [hi]
def markF (k : Int) (i : Nat) : Value := fv (i2f .f32 (k + i))
def markI (k : Int) (i : Nat) : Value := iv (k + i)
theorem order_refl {k : FloatKind} {x : Nat} (h : nanB k x = false) : k.format.order x x = some .eq := by
  unfold nanB FloatKind.decode at h
  unfold Ieee.Format.order
  generalize k.format.read x = d at h
  cases d with
  | number s m e => simp only [Ieee.Datum.order]; congr 1; simp [compare, compareOfLessAndEq]
  | infinity s => simp only [Ieee.Datum.order]; congr 1; simp [compare, compareOfLessAndEq]
  | nan s t => cases h
theorem nanB_i2f (k : FloatKind) (n : Int) : nanB k (i2f k n) = false := by
  exact write_not_nan k.format (.number (n < 0) n.natAbs 0) rfl
theorem fneq_i2f {k : FloatKind} {n : Int} : fcB .neq k (i2f k n) (i2f k n) = false := by
  simp [fcB, fcmp, order_refl (nanB_i2f k n)]

/-! ### calls that leave garbage alone -/
theorem callR_ext {P : Program} {d : Option Nat} {rc : RC} {r : List AStep} {k : List AItem} {R : Post} {φ : Frame} {H : Heap} {f : FuncId} {args : List Value} {v : Value} (h : ACalls P f args H fun v' H' => v' = v ∧ Ext H H')
    (h1 : ∀ H', H.n ≤ H'.n → (∀ i, i < H.n → H'.blk i = H.blk i) → rcS rc φ H' ∧ runOps P r k R (putd d v φ) H') : callR P f args d rc r k R φ H :=
  ⟨_, h, by rintro _ H' ⟨rfl, e⟩; exact h1 H' e.n e.blk⟩

/-! ### loops by number -/
def foldI {α : Type} (f : Nat → α → α) (a : α) : Nat → α
  | 0 => a
  | n + 1 => f n (foldI f a n)
theorem foldI_zero {α : Type} (f : Nat → α → α) (a : α) : foldI f a 0 = a := rfl
theorem foldI_succ {α : Type} (f : Nat → α → α) (a : α) (n : Nat) : foldI f a (n + 1) = f n (foldI f a n) := rfl
theorem foldI_congr {α : Type} {f g : Nat → α → α} {a : α} : ∀ {n : Nat}, (∀ i, i < n → ∀ s, f i s = g i s) → foldI f a n = foldI g a n
  | 0, _ => rfl
  | n + 1, h => by rw [foldI_succ, foldI_succ, foldI_congr (n := n) fun i hi s => h i (by omega) s, h n (by omega)]
/-- A loop that counts from 0 to n, and changes nothing else than its variables. -/
theorem loop_for {P : Program} {live : List Nat} {vs0 : List Value} {a : ACode} {k : List AItem} {R : Post} {H : Heap} (n : Nat) (st : Nat → List Value) (h0 : vs0 = st 0)
    (hlast : run P a (.mark live (fun _ _ => False) :: k) R (live.zip (st n)) H)
    (hs : ∀ i, i < n → run P a (.mark live (fun vs H' => vs = st (i + 1) ∧ H' = H) :: k) R (live.zip (st i)) H) : loopR P live vs0 a k R H := by
  refine loop_st (σ := Nat) st (fun i H' => i ≤ n ∧ H' = H) (fun i => n - i) 0 h0 ⟨by omega, rfl⟩ ?_
  rintro i H1 ⟨hi, rfl⟩
  by_cases hlt : i < n
  · refine awp_mono a (hs i hlt) fun e φ H' hq => ?_
    cases e with
    | normal => obtain ⟨h1, h2⟩ := hq; exact ⟨i + 1, by omega, h1, by omega, h2⟩
    | exit id => exact hq
    | ret => exact hq
  · have : i = n := by omega
    subst this
    refine awp_mono a hlast fun e φ H' hq => ?_
    cases e with
    | normal => exact hq.elim
    | exit id => exact hq
    | ret => exact hq
/-- The same, with memory of its own. -/
theorem loop_forH {P : Program} {live : List Nat} {vs0 : List Value} {a : ACode} {k : List AItem} {R : Post} {H : Heap} (n : Nat) (st : Nat → List Value) (J : Nat → Heap → Prop) (h0 : vs0 = st 0) (hJ : J 0 H)
    (hlast : ∀ H, J n H → run P a (.mark live (fun _ _ => False) :: k) R (live.zip (st n)) H)
    (hs : ∀ i H, i < n → J i H → run P a (.mark live (fun vs H' => vs = st (i + 1) ∧ J (i + 1) H') :: k) R (live.zip (st i)) H) : loopR P live vs0 a k R H := by
  refine loop_st (σ := Nat) st (fun i H' => i ≤ n ∧ J i H') (fun i => n - i) 0 h0 ⟨by omega, hJ⟩ ?_
  rintro i H1 ⟨hi, hJ⟩
  by_cases hlt : i < n
  · refine awp_mono a (hs i H1 hlt hJ) fun e φ H' hq => ?_
    cases e with
    | normal => obtain ⟨h1, h2⟩ := hq; exact ⟨i + 1, by omega, h1, by omega, h2⟩
    | exit id => exact hq
    | ret => exact hq
  · have : i = n := by omega
    subst this
    refine awp_mono a (hlast H1 hJ) fun e φ H' hq => ?_
    cases e with
    | normal => exact hq.elim
    | exit id => exact hq
    | ret => exact hq
end Go.Gx
