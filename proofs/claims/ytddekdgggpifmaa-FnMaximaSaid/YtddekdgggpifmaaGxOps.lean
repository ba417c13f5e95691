/-
  The operations of the abstract machine that read alone, and that the world's operations do the same.
-/
import Derived.Test.YtddekdgggpifmaaGxMach
import Derived.WalkLawsBesides
import Derived.Laws.Cells
import Derived.Laws.ComplexArith
namespace Go.Gx
set_option linter.unusedSimpArgs false
set_option linter.unusedVariables false
open Go.RowKit (Below)

/-- What a conversion leads to. -/
inductive CD where
  | i (k : IntKind)
  | f (k : FloatKind)
  | c (k : FloatKind)

/-- An operation, its types looked up. -/
inductive AOp where
  | mv (x : Operand)
  | pick (c a b : Operand)
  | ld (x : Operand)
  | ldn (n : Nat) (x : Operand)
  | fa (off : Nat) (x : Operand)
  | fld (off : Nat) (x : Operand)
  | fldn (off n : Nat) (x : Operand)
  | ia (x i : Operand)
  | bin (op : BinOp) (x y : Operand)
  | beq (neg : Bool) (x y : Operand)
  | un (op : UnOp) (x : Operand)
  | cv (d : CD) (x : Operand)
  | ext (x : Operand) (i : Nat)
  | nc (x : Operand)
  | mkf (f : Fn) (first captured : List Operand)
  | bld (tmpl : List Value) (parts : List (Nat × Nat × Operand))
  | len (x : Operand)
  | mnx (mx : Bool) (x y : Operand)
  | re (x : Operand)
  | im (x : Operand)
  | cx (x y : Operand)
  | slc (x : Operand) (lo hi : Option Operand)
  | f64bits (x : Operand)
  | f32bits (x : Operand)
  | f64from (x : Operand)
  | f32from (x : Operand)
  | fsqrt (x : Operand)
  | fint (way : Nat) (x : Operand)
  -- what makes or changes memory
  | new (ty : TypeId) (cs : List Value)
  | box (ty : TypeId) (x : Operand)
  | bsl (ety : TypeId) (len : Nat) (zero : Value) (parts : List (Nat × Operand))
  | mks (ety : TypeId) (bytes : Nat) (zero : Value) (l c : Operand)
  | st (x v : Operand)
  | stn (n : Nat) (x v : Operand)
  | app (ety : TypeId) (bytes : Nat) (s x : Operand)
  | cpy (d s : Operand)
  | call (f : FuncId) (args : List Operand)
  | callv (g : Operand) (args : List Operand)

def isShift : BinOp → Bool
  | .shl | .shr => true
  | _ => false
def aint (op : BinOp) (k : IntKind) (a b : Int) : Option Value :=
  match op with
  | .add => some (.int k (k.wrap (a + b)))
  | .sub => some (.int k (k.wrap (a - b)))
  | .mul => some (.int k (k.wrap (a * b)))
  | .quo => if b = 0 then none else some (.int k (k.wrap (a.tdiv b)))
  | .rem => if b = 0 then none else some (.int k (a.tmod b))
  | .and | .or | .xor | .andNot => some (.int k (bits op k a b))
  | .eql => some (.bool (a == b))
  | .neq => some (.bool (a != b))
  | .lss => some (.bool (a < b))
  | .leq => some (.bool (a ≤ b))
  | .gtr => some (.bool (a > b))
  | .geq => some (.bool (a ≥ b))
  | _ => none
def ashift (op : BinOp) (k : IntKind) (a b : Int) : Option Value :=
  if b < 0 then none else
  match op with
  | .shl => some (.int k (k.wrap (a * 2 ^ min b.toNat k.bits)))
  | .shr => some (.int k (a.fdiv (2 ^ min b.toNat k.bits)))
  | _ => none
def feq (k : FloatKind) (x y : Nat) : Bool := k.format.order x y == some .eq
def abin (op : BinOp) (x y : Value) : Option Value :=
  match x, y with
  | .int k a, .int k' b => if isShift op then ashift op k a b else if k = k' then aint op k a b else none
  | .float k a, .float k' b =>
    if k = k' then
      match op with
      | .add | .sub | .mul | .quo => some (.float k (fbin op k a b))
      | _ => (fcmp op k a b).map .bool
    else none
  | .complex k a b, .complex k' c d =>
    if k = k' then
      match op with
      | .add | .sub => some (.complex k (fbin op k a c) (fbin op k b d))
      | .eql => some (.bool (feq k a c && feq k b d))
      | .neq => some (.bool !(feq k a c && feq k b d))
      | _ => none
    else none
  | _, _ => none
def aun (op : UnOp) (x : Value) : Option Value :=
  match op, x with
  | .neg, .int k n => some (.int k (k.wrap (0 - n)))
  | .neg, .float k b => some (.float k (fneg k b))
  | .neg, .complex k a b => some (.complex k (fneg k a) (fneg k b))
  | .not, .bool b => some (.bool !b)
  | _, _ => none
def acv (d : CD) (x : Value) : Option Value :=
  match d, x with
  | .i k, .int _ n => some (.int k (k.wrap n))
  | .f k, .int _ n => some (.float k (i2f k n))
  | .i k, .float s b => (f2i s b k).map (.int k)
  | .f k, .float s b => (f2f s b k).map (.float k)
  | .c k, .complex s a b =>
    match f2f s a k, f2f s b k with
    | some a', some b' => some (.complex k a' b')
    | _, _ => none
  | _, _ => none

def vcells : Value → List Value
  | .agg cs => cs.toList
  | v => [v]
def solid : Value → Bool
  | .map none => false
  | _ => true
def afill (cells : List Value) : List (Nat × Nat × Value) → Option (List Value)
  | [] => some cells
  | (off, sz, v) :: r =>
    if solid v = true ∧ (vcells v).length = sz ∧ off + sz ≤ cells.length then afill (cells.take off ++ vcells v ++ cells.drop (off + sz)) r else none

def aval (o : AOp) (φ : Frame) (H : Heap) : Option Value :=
  match o with
  | .mv x => some (φ.ev x)
  | .pick c a b => match φ.ev c with
    | .bool t => some (if t = true then φ.ev a else φ.ev b)
    | _ => none
  | .ld x => match φ.ev x with
    | .pointer (some ⟨h, o, some t⟩) => match H.blk h with
      | some b => if b.cs.length = t then b.cs[o]? else none
      | none => none
    | _ => none
  | .ldn n x => match φ.ev x with
    | .pointer (some ⟨h, o, some t⟩) => match H.blk h with
      | some b => if b.cs.length = t ∧ o + n ≤ t then some (.agg ((b.cs.drop o).take n).toArray) else none
      | none => none
    | _ => none
  | .fa off x => match φ.ev x with
    | .pointer (some ⟨h, o, some t⟩) => some (.pointer (some ⟨h, o + off, some t⟩))
    | _ => none
  | .fld off x => match φ.ev x with
    | .agg cs => cs[off]?
    | _ => none
  | .fldn off n x => match φ.ev x with
    | .agg cs => some (.agg (cs.extract off (off + n)))
    | _ => none
  | .ia x i => match φ.ev x, φ.ev i with
    | .slice (some ⟨h, o, none⟩) n t, .int _ j => match H.blk h with
      | some b => if b.cs.length = o + t ∧ 0 ≤ j ∧ j < (n : Int) then some (.pointer (some ⟨h, o + j.toNat, some (o + t)⟩)) else none
      | none => none
    | _, _ => none
  | .bin op x y => abin op (φ.ev x) (φ.ev y)
  | .beq neg x y => match φ.ev x, φ.ev y with
    | .bool a, .bool b => some (.bool (if neg = true then !(a == b) else a == b))
    | _, _ => none
  | .un op x => aun op (φ.ev x)
  | .cv d x => acv d (φ.ev x)
  | .ext x i => match φ.ev x with
    | .tuple vs => vs[i]?
    | _ => none
  | .nc x => match φ.ev x with
    | .pointer (some a) => some (.pointer (some a))
    | .func (.func f) a b => some (.func (.func f) a b)
    | _ => none
  | .mkf f first captured => some (.func f (first.map φ.ev).toArray (captured.map φ.ev).toArray)
  | .bld tmpl parts => (afill tmpl (parts.map fun p => (p.1, p.2.1, φ.ev p.2.2))).map fun cs => .agg cs.toArray
  | .len x => match φ.ev x with
    | .slice _ n _ => some (.int .i64 n)
    | _ => none
  | .mnx mx x y => match φ.ev x, φ.ev y with
    | .int k a, .int _ b => some (.int k (if mx = true then (if b > a then b else a) else (if b < a then b else a)))
    | .float k a, .float k' b => if mx = true ∧ k = k' then (maxW k a b).map fun w => .float k w else none
    | _, _ => none
  | .re x => match φ.ev x with
    | .complex k a _ => some (.float k a)
    | _ => none
  | .im x => match φ.ev x with
    | .complex k _ b => some (.float k b)
    | _ => none
  | .cx x y => match φ.ev x, φ.ev y with
    | .float k a, .float k' b => if k = k' then some (.complex k a b) else none
    | _, _ => none
  | .slc x lo hi => match φ.ev x with
    | .slice (some ⟨h, o, none⟩) n t =>
      match (lo.map φ.ev).getD (.int .i64 0), (hi.map φ.ev).getD (.int .i64 n) with
      | .int _ l, .int _ u => if 0 ≤ l ∧ l ≤ u ∧ u ≤ (n : Int) then some (.slice (some ⟨h, o + l.toNat, none⟩) (u.toNat - l.toNat) (t - l.toNat)) else none
      | _, _ => none
    | _ => none
  | .f64bits x => match φ.ev x with
    | .float .f64 b => if nanB .f64 b = true then none else some (.int .u64 b)
    | _ => none
  | .f32bits x => match φ.ev x with
    | .float .f32 b => if nanB .f32 b = true then none else some (.int .u32 b)
    | _ => none
  | .f64from x => match φ.ev x with
    | .int .u64 n => if 0 ≤ n ∧ n < 2 ^ 64 then some (.float .f64 (canon .f64 n.toNat)) else none
    | _ => none
  | .f32from x => match φ.ev x with
    | .int .u32 n => if 0 ≤ n ∧ n < 2 ^ 32 then some (.float .f32 (canon .f32 n.toNat)) else none
    | _ => none
  | .fsqrt x => match φ.ev x with
    | .float .f64 b => some (.float .f64 (sqrtF b))
    | _ => none
  | .fint way x => match φ.ev x with
    | .float .f64 b => some (.float .f64 (intF way b))
    | _ => none
  | _ => none

/-! ### each of them -/
section
variable {P : Program} {w0 w : World} {H : Heap} {ρ : Map}

theorem drewN_zero (w : World) : w.drewN 0 = w := rfl
theorem drewN_drewN' (w : World) (n m : Nat) : (w.drewN n).drewN m = w.drewN (n + m) := by simp [World.drewN, Nat.add_assoc]

theorem abin_sound (op : BinOp) (t : TypeId) {x y v x' y' : Value} (h : abin op x y = some v) (hx : VRel ρ H x x') (hy : VRel ρ H y y') :
    ∃ u n, (binOp op t x' y').run P w = .ok u (w.drewN n) ∧ VRel ρ H v u := by
  unfold abin at h
  split at h
  · -- integers
    rename_i k a k' b
    cases hx; cases hy
    by_cases hs : isShift op = true
    · rw [if_pos hs] at h
      unfold ashift at h
      by_cases hb : b < 0
      · rw [if_pos hb] at h; cases h
      · rw [if_neg hb] at h
        cases op <;> simp only [isShift, Bool.false_eq_true] at hs <;> simp only [Option.some.injEq] at h <;> subst h
        · exact ⟨_, 0, by simp [binOp, Op.shift, hb, drewN_zero], .int _ _⟩
        · exact ⟨_, 0, by simp [binOp, Op.shift, hb, drewN_zero], .int _ _⟩
    · rw [if_neg hs] at h
      by_cases hk : k = k'
      · subst hk
        rw [if_pos rfl] at h
        unfold aint at h
        cases op <;> simp only [isShift, not_true] at hs <;> simp only [Option.some.injEq] at h
        all_goals first | (cases h; done) | skip
        case quo =>
          by_cases hb : b = 0
          · rw [if_pos hb] at h; cases h
          · rw [if_neg hb] at h; cases h; exact ⟨_, 0, by simp [binOp, Op.intDiv, hb, drewN_zero], .int _ _⟩
        case rem =>
          by_cases hb : b = 0
          · rw [if_pos hb] at h; cases h
          · rw [if_neg hb] at h; cases h; exact ⟨_, 0, by simp [binOp, Op.intDiv, hb, drewN_zero], .int _ _⟩
        all_goals subst h
        case add => exact ⟨_, 0, by simp [binOp, Op.intArith, drewN_zero], .int _ _⟩
        case sub => exact ⟨_, 0, by simp [binOp, Op.intArith, drewN_zero], .int _ _⟩
        case mul => exact ⟨_, 0, by simp [binOp, Op.intArith, drewN_zero], .int _ _⟩
        case and => exact ⟨_, 0, by rw [binOp_and, intBits_and]; rfl, .int _ _⟩
        case or => exact ⟨_, 0, by rw [binOp_or, intBits_or]; rfl, .int _ _⟩
        case xor => exact ⟨_, 0, by rw [binOp_xor, intBits_xor]; rfl, .int _ _⟩
        case andNot => exact ⟨_, 0, by rw [binOp_andNot, intBits_andNot]; rfl, .int _ _⟩
        case eql => exact ⟨_, 0, by rw [binOp_eql]; rfl, .bool _⟩
        case neq => exact ⟨_, 0, by rw [binOp_neq]; rfl, .bool _⟩
        case lss => exact ⟨_, 0, by rw [binOp_lss]; rfl, .bool _⟩
        case leq => exact ⟨_, 0, by rw [binOp_leq]; rfl, .bool _⟩
        case gtr => exact ⟨_, 0, by rw [binOp_gtr]; rfl, .bool _⟩
        case geq => exact ⟨_, 0, by rw [binOp_geq]; rfl, .bool _⟩
      · rw [if_neg hk] at h; cases h
  · -- floats
    rename_i k a k' b
    cases hx with | float hx =>
    cases hy with | float hy =>
    by_cases hk : k = k'
    · subst hk
      rw [if_pos rfl] at h
      split at h
      · simp only [Option.some.injEq] at h
        subst h
        obtain ⟨r, n, hr, hf⟩ := run_fbin (P := P) w .add (.inl rfl) k hx hy
        exact ⟨_, n, by simpa [binOp] using hr, .float hf⟩
      · simp only [Option.some.injEq] at h
        subst h
        obtain ⟨r, n, hr, hf⟩ := run_fbin (P := P) w .sub (.inr (.inl rfl)) k hx hy
        exact ⟨_, n, by simpa [binOp] using hr, .float hf⟩
      · simp only [Option.some.injEq] at h
        subst h
        obtain ⟨r, n, hr, hf⟩ := run_fbin (P := P) w .mul (.inr (.inr (.inl rfl))) k hx hy
        exact ⟨_, n, by simpa [binOp] using hr, .float hf⟩
      · simp only [Option.some.injEq] at h
        subst h
        obtain ⟨r, n, hr, hf⟩ := run_fbin (P := P) w .quo (.inr (.inr (.inr rfl))) k hx hy
        exact ⟨_, n, by simpa [binOp] using hr, .float hf⟩
      · rename_i h1 h2 h3 h4
        obtain ⟨r, hr, rfl⟩ := Option.map_eq_some_iff.1 h
        have := run_fcmp (P := P) w op k hx hy hr
        refine ⟨_, 0, ?_, .bool r⟩
        cases op <;> first | (exact absurd rfl h1) | (exact absurd rfl h2) | (exact absurd rfl h3) | (exact absurd rfl h4) | (simpa [binOp, drewN_zero] using this) | (simp [fcmp] at hr)
    · rw [if_neg hk] at h; cases h
  · -- complex numbers
    rename_i k a b k' c d
    cases hx with | complex hx1 hx2 =>
    cases hy with | complex hy1 hy2 =>
    by_cases hk : k = k'
    · subst hk
      rw [if_pos rfl] at h
      split at h
      · simp only [Option.some.injEq] at h
        subst h
        obtain ⟨r, n, hr, hf⟩ := run_fbin (P := P) w .add (.inl rfl) k hx1 hy1
        obtain ⟨s, m, hs, hg⟩ := run_fbin (P := P) (w.drewN n) .add (.inl rfl) k hx2 hy2
        exact ⟨_, n + m, by simp [binOp, Op.complexOp, Op.Complex.arith, hr, hs], .complex hf hg⟩
      · simp only [Option.some.injEq] at h
        subst h
        obtain ⟨r, n, hr, hf⟩ := run_fbin (P := P) w .sub (.inr (.inl rfl)) k hx1 hy1
        obtain ⟨s, m, hs, hg⟩ := run_fbin (P := P) (w.drewN n) .sub (.inr (.inl rfl)) k hx2 hy2
        exact ⟨_, n + m, by simp [binOp, Op.complexOp, Op.Complex.arith, hr, hs], .complex hf hg⟩
      · simp only [Option.some.injEq] at h
        subst h
        have h1 := run_fcmp (P := P) w .eql k (r := feq k a c) hx1 hy1 rfl
        have h2 := run_fcmp (P := P) w .eql k (r := feq k b d) hx2 hy2 rfl
        exact ⟨_, 0, by simp [binOp, Op.complexOp, Op.Complex.cmp, h1, h2, asBool, drewN_zero], .bool _⟩
      · simp only [Option.some.injEq] at h
        subst h
        have h1 := run_fcmp (P := P) w .eql k (r := feq k a c) hx1 hy1 rfl
        have h2 := run_fcmp (P := P) w .eql k (r := feq k b d) hx2 hy2 rfl
        exact ⟨_, 0, by simp [binOp, Op.complexOp, Op.Complex.cmp, h1, h2, asBool, drewN_zero], .bool _⟩
      · cases h
    · rw [if_neg hk] at h; cases h
  · cases h

theorem aun_sound (op : UnOp) {x v x' : Value} (h : aun op x = some v) (hx : VRel ρ H x x') : ∃ u, (Op.unary op x').run P w = .ok u w ∧ VRel ρ H v u := by
  unfold aun at h
  split at h
  · cases hx; cases h; exact ⟨_, by simp [Op.unary, Op.intArith], .int _ _⟩
  · cases hx with | float hx => cases h; exact ⟨_, by simp [Op.unary], .float hx.neg⟩
  · cases hx with | complex hx hy => cases h; exact ⟨_, by simp [Op.unary], .complex hx.neg hy.neg⟩
  · cases hx; cases h; exact ⟨_, by simp [Op.unary], .bool _⟩
  · cases h

def CD.fits (P : Program) (d : CD) (t : TypeId) : Bool :=
  match d, P.underlying t with
  | .i k, some (.int k') => k == k'
  | .f k, some (.float k') => k == k'
  | .c k, some (.complex k') => k == k'
  | _, _ => false

theorem run_cv_int {src dst : TypeId} {su : TypeDesc} (hs : P.underlying src = some su) {k q : IntKind} {n : Int} (hd : P.underlying dst = some (.int k)) :
    (convert src dst (.int q n)).run P w = .ok (.int k (k.wrap n)) w := by
  simp only [convert, Sem.run_bind, run_underlying hs, run_underlying hd, Result.andThen_ok]
  cases su <;> rfl
theorem run_cv_i2f {src dst : TypeId} {su : TypeDesc} (hs : P.underlying src = some su) {k : FloatKind} {q : IntKind} {n : Int} (hd : P.underlying dst = some (.float k)) :
    (convert src dst (.int q n)).run P w = .ok (.float k (k.nearest n)) w := by
  simp only [convert, Sem.run_bind, run_underlying hs, run_underlying hd, Result.andThen_ok]
  cases su <;> rfl
theorem run_cv_f2i {src dst : TypeId} {su : TypeDesc} (hs : P.underlying src = some su) {k : IntKind} {q : FloatKind} {n : Nat} (hd : P.underlying dst = some (.int k)) :
    (convert src dst (.float q n)).run P w = (Conv.floatToInt q n k).run P w := by
  simp only [convert, Sem.run_bind, run_underlying hs, run_underlying hd, Result.andThen_ok]
theorem run_cv_f2f {src dst : TypeId} {su : TypeDesc} (hs : P.underlying src = some su) {k q : FloatKind} {n : Nat} (hd : P.underlying dst = some (.float k)) :
    (convert src dst (.float q n)).run P w = (Conv.floatToFloat q n k).run P w := by
  simp only [convert, Sem.run_bind, run_underlying hs, run_underlying hd, Result.andThen_ok]
theorem run_cv_c {src dst : TypeId} {su : TypeDesc} (hs : P.underlying src = some su) {k q : FloatKind} {n m : Nat} (hd : P.underlying dst = some (.complex k)) :
    (convert src dst (.complex q n m)).run P w = (Conv.complexToComplex q n m k).run P w := by
  simp only [convert, Sem.run_bind, run_underlying hs, run_underlying hd, Result.andThen_ok]

theorem acv_sound (d : CD) (src dst : TypeId) (hs : (P.underlying src).isSome = true) (hd : d.fits P dst = true) {x v x' : Value} (h : acv d x = some v) (hx : VRel ρ H x x') :
    ∃ u n, (convert src dst x').run P w = .ok u (w.drewN n) ∧ VRel ρ H v u := by
  obtain ⟨su, hs'⟩ := Option.isSome_iff_exists.1 hs
  unfold acv at h
  split at h
  · rename_i k _ n
    cases hx
    cases h
    have h2 : P.underlying dst = some (.int k) := by
      unfold CD.fits at hd
      split at hd <;> simp_all
    exact ⟨_, 0, run_cv_int hs' h2, .int _ _⟩
  · rename_i k _ n
    cases hx
    cases h
    have h2 : P.underlying dst = some (.float k) := by
      unfold CD.fits at hd
      split at hd <;> simp_all
    exact ⟨_, 0, run_cv_i2f hs' h2, .float (FW.ofInt _ _)⟩
  · rename_i k s b
    cases hx with | float hx =>
    obtain ⟨r, hr, rfl⟩ := Option.map_eq_some_iff.1 h
    have h2 : P.underlying dst = some (.int k) := by
      unfold CD.fits at hd
      split at hd <;> simp_all
    exact ⟨_, 0, (run_cv_f2i hs' h2).trans (run_f2i w hx hr), .int _ _⟩
  · rename_i k s b
    cases hx with | float hx =>
    obtain ⟨r, hr, rfl⟩ := Option.map_eq_some_iff.1 h
    have h2 : P.underlying dst = some (.float k) := by
      unfold CD.fits at hd
      split at hd <;> simp_all
    obtain ⟨c, n, hc, hf⟩ := run_f2f (P := P) w hx hr
    exact ⟨_, n, (run_cv_f2f hs' h2).trans hc, .float hf⟩
  · rename_i k s a b
    cases hx with | complex hx hy =>
    split at h
    · rename_i a' b' ha hb
      cases h
      have h2 : P.underlying dst = some (.complex k) := by
        unfold CD.fits at hd
        split at hd <;> simp_all
      obtain ⟨c, n, hc, hf⟩ := run_f2f (P := P) w hx ha
      obtain ⟨e, m, he, hg⟩ := run_f2f (P := P) (w.drewN n) hy hb
      refine ⟨_, n + m, (run_cv_c hs' h2).trans ?_, .complex hf hg⟩
      simp [Conv.complexToComplex, hc, he]
    · cases h
  · cases h
end
end Go.Gx
