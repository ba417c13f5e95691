/- Rings, split and joined. -/
import Derived.Test.YtkojmlpaamdhoacFrameOfU
namespace Go.Proofs.Ytkojmlpaamdhoac
open Go.Gx
set_option maxRecDepth 100000
set_option linter.unusedSimpArgs false
set_option linter.unusedVariables false

theorem rd1_at {H : Heap} {k : Nat} {ty : TypeId} {v : Value} (h : k = H.n) : readSl (H.new ⟨true, ty, [v]⟩) (.slice (some ⟨k, 0, none⟩) 1 1) = some [v] := by subst h; exact rd1_new
theorem tdiv2 (n : Nat) : ((n : Int)).tdiv 2 = ((n / 2 : Nat) : Int) := tdivN n 2
theorem ring_ix (n j k : Nat) : (2 * (j : Int) + (k : Int)).tmod (n : Int) = (((2 * j + k) % n : Nat) : Int) := by
  have : 2 * (j : Int) + (k : Int) = ((2 * j + k : Nat) : Int) := by omega
  rw [this, tmodN]
def tapF (xs ps : List Nat) (j : Nat) : Nat → Nat := foldI (fun k a => fbin .add .f32 a (fbin .mul .f32 (ps.getD k 0) (xs.getD ((2 * j + k) % xs.length) 0))) 0
theorem tapF_succ (xs ps : List Nat) (j k : Nat) : tapF xs ps j (k + 1) = fbin .add .f32 (tapF xs ps j k) (fbin .mul .f32 (ps.getD k 0) (xs.getD ((2 * j + k) % xs.length) 0)) := rfl
def tapL (xs ps : List Nat) : List Nat := tabL (xs.length / 2) fun j => tapF xs ps j ps.length
def splitOk (xs ps : List Nat) : Bool := isLongF xs && decide (xs.length % 2 = 0) && validPairF ps && ((tapL xs ps).all finF && (tapL xs (highL ps)).all finF)
def joinK (lo hi ps hp out : List Nat) (j k : Nat) : List Nat := out.set ((2 * j + k) % (2 * lo.length)) (fbin .add .f32 (out.getD ((2 * j + k) % (2 * lo.length)) 0) (fbin .add .f32 (fbin .mul .f32 (ps.getD k 0) (lo.getD j 0)) (fbin .mul .f32 (hp.getD k 0) (hi.getD j 0))))
def joinJ (lo hi ps hp out : List Nat) (j : Nat) : Nat → List Nat := foldI (fun k o => joinK lo hi ps hp o j k) out
def joinN (lo hi ps hp : List Nat) : Nat → List Nat := foldI (fun j o => joinJ lo hi ps hp o j ps.length) (List.replicate (2 * lo.length) 0)
theorem joinJ_len (lo hi ps hp out : List Nat) (j : Nat) : ∀ k, (joinJ lo hi ps hp out j k).length = out.length
  | 0 => rfl
  | k + 1 => by
    have := joinJ_len lo hi ps hp out j k
    simp only [joinJ, foldI_succ, joinK, List.length_set] at this ⊢
    exact this
theorem joinN_len (lo hi ps hp : List Nat) : ∀ j, (joinN lo hi ps hp j).length = 2 * lo.length
  | 0 => by simp [joinN, foldI_zero]
  | j + 1 => by
    have := joinN_len lo hi ps hp j
    simp only [joinN, foldI_succ] at this ⊢
    rw [joinJ_len]; exact this
theorem joinJ_succ (lo hi ps hp out : List Nat) (j k : Nat) : joinJ lo hi ps hp out j (k + 1) = joinK lo hi ps hp (joinJ lo hi ps hp out j k) j k := rfl
theorem joinN_succ (lo hi ps hp : List Nat) (j : Nat) : joinN lo hi ps hp (j + 1) = joinJ lo hi ps hp (joinN lo hi ps hp j) j ps.length := rfl
def joinL (lo hi ps : List Nat) : List Nat := joinN lo hi ps (highL ps) lo.length
def joinOk (lo hi ps : List Nat) : Bool := within lo.length 1 64 && decide (hi.length = lo.length) && (lo.all finF && hi.all finF) && validPairF ps && (joinL lo hi ps).all finF
theorem fv_at {xs : List Nat} {i : Nat} (h : i < xs.length) : (xs.map fv)[i]? = some (.float .f32 (xs.getD i 0)) := by simp [List.getD_eq_getElem?_getD, h, fv]
theorem rep_fv (n : Nat) : List.replicate n (Value.float .f32 0) = (List.replicate n 0).map fv := by simp [fv]
end Go.Proofs.Ytkojmlpaamdhoac
