/- 32-bit words and bytes as values of the model -/
import Derived.Test.YtggcbjchnefhfaaDoorKit
import Derived.Test.YtggcbjchnefhfaaDoorSha
namespace Go.Mk
open Go.Sha
def U (x : UInt32) : Value := .int .u32 (x.toNat : Int)
def B (x : UInt8) : Value := .int .u8 (x.toNat : Int)
theorem U_def (x : UInt32) : U x = .int .u32 (x.toNat : Int) := rfl
theorem B_def (x : UInt8) : B x = .int .u8 (x.toNat : Int) := rfl
theorem B_one (xs : List UInt8) : ∀ u ∈ xs.map B, u.oneCell' = true := by simp [B, Value.oneCell']
theorem B_of (n : Nat) : Value.int .u8 ((n : Int) % 256) = B (UInt8.ofNat n) := by simp [B]
theorem wrap64_small (n : Int) (h : 0 ≤ n) (h' : n ≤ 4611686018427387904) : IntKind.i64.wrap n = n := by
  rw [IntKind.wrap_i64]; omega
theorem ofInt32 (x : UInt32) : (BitVec.ofInt 32 (x.toNat : Int)) = x.toBitVec := by
  apply BitVec.eq_of_toNat_eq; rw [ofInt_u32 _ x.toNat_lt]; rfl
theorem wrap_u32_nat (n : Nat) (h : n < 4294967296) : IntKind.u32.wrap (n : Int) = n := by rw [IntKind.wrap_u32']; omega
theorem u_or (x y : UInt32) : bits .or .u32 (x.toNat : Int) (y.toNat : Int) = ((x ||| y).toNat : Int) := by
  rw [u32_or_nat _ _ x.toNat_lt y.toNat_lt]; rfl
theorem u_xor (x y : UInt32) : bits .xor .u32 (x.toNat : Int) (y.toNat : Int) = ((x ^^^ y).toNat : Int) := by
  rw [u32_xor_nat _ _ x.toNat_lt y.toNat_lt]; rfl
theorem u_and (x y : UInt32) : bits .and .u32 (x.toNat : Int) (y.toNat : Int) = ((x &&& y).toNat : Int) := by
  rw [u32_and_nat _ _ x.toNat_lt y.toNat_lt]; rfl
theorem u_add (x y : UInt32) : IntKind.u32.wrap ((x.toNat : Int) + (y.toNat : Int)) = ((x + y).toNat : Int) := by
  rw [IntKind.wrap_u32', UInt32.toNat_add]; omega
theorem u_of8 (c : UInt8) : IntKind.u32.wrap (c.toNat : Int) = (c.toUInt32.toNat : Int) := by
  rw [wrap_u32_nat _ (by have := c.toNat_lt; omega), UInt8.toNat_toUInt32]
theorem shl_nat (x : UInt32) (n : Nat) (h : n < 32) : ((x.toNat : Int) * ((2 ^ n : Nat) : Int)) % 4294967296 = ((x <<< UInt32.ofNat n).toNat : Int) := by
  rw [UInt32.toNat_shiftLeft, UInt32.toNat_ofNat', Nat.mod_eq_of_lt (a := n) (by omega), Nat.mod_eq_of_lt h, Nat.shiftLeft_eq]
  rw [← Int.natCast_mul]; generalize x.toNat * 2 ^ n = y; show (y : Int) % 4294967296 = ((y % 4294967296 : Nat) : Int); omega
theorem shr_nat (x : UInt32) (n : Nat) (h : n < 32) : (x.toNat : Int) / ((2 ^ n : Nat) : Int) = ((x >>> UInt32.ofNat n).toNat : Int) := by
  rw [UInt32.toNat_shiftRight, UInt32.toNat_ofNat', Nat.mod_eq_of_lt (a := n) (by omega), Nat.mod_eq_of_lt h, Nat.shiftRight_eq_div_pow]
  exact (Int.natCast_ediv _ _).symm
theorem u_sum2 (x y : UInt32) : ((x.toNat : Int) + (y.toNat : Int)) % (4294967296 : Int) = ((x + y).toNat : Int) := by
  rw [UInt32.toNat_add]; omega
theorem u_sum3 (x y z : UInt32) : ((x.toNat : Int) + (y.toNat : Int) + (z.toNat : Int)) % (4294967296 : Int) = ((x + y + z).toNat : Int) := by
  simp only [UInt32.toNat_add]; omega
theorem u_sum4 (x y z u : UInt32) : ((x.toNat : Int) + (y.toNat : Int) + (z.toNat : Int) + (u.toNat : Int)) % (4294967296 : Int) = ((x + y + z + u).toNat : Int) := by
  simp only [UInt32.toNat_add]; omega
theorem u_sumr (x y z : UInt32) : ((x.toNat : Int) + ((y.toNat : Int) + (z.toNat : Int))) % (4294967296 : Int) = ((x + (y + z)).toNat : Int) := by
  simp only [UInt32.toNat_add]; omega
theorem u_sum5 (x y z u v : UInt32) : ((x.toNat : Int) + (y.toNat : Int) + (z.toNat : Int) + (u.toNat : Int) + (v.toNat : Int)) % (4294967296 : Int) = ((x + y + z + u + v).toNat : Int) := by
  simp only [UInt32.toNat_add]; omega
theorem u_shl8 (x : UInt32) : IntKind.u32.wrap ((x.toNat : Int) * 256) = ((x <<< 8).toNat : Int) := by
  rw [IntKind.wrap_u32']; exact shl_nat x 8 (by decide)
theorem u_shr3 (x : UInt32) : (x.toNat : Int) / (8 : Int) = ((x >>> 3).toNat : Int) := shr_nat x 3 (by decide)
theorem u_shr10 (x : UInt32) : (x.toNat : Int) / (1024 : Int) = ((x >>> 10).toNat : Int) := shr_nat x 10 (by decide)
theorem u_rot (x : UInt32) (n : Nat) (h : 0 < n) (h' : n < 32) (a b : Int) (ha : a = ((2 ^ n : Nat) : Int)) (hb : b = ((2 ^ (32 - n) : Nat) : Int)) :
    bits .or .u32 ((x.toNat : Int) / a) ((x.toNat : Int) * b % 4294967296) = ((rotr x n).toNat : Int) := by
  subst ha; subst hb
  rw [shl_nat x _ (by omega), shr_nat x n h', u_or]; rfl
theorem u_rot' (x : UInt32) (n : Nat) (h : 0 < n) (h' : n < 32) (a b : Int) (ha : a = ((2 ^ n : Nat) : Int)) (hb : b = ((2 ^ (32 - n) : Nat) : Int)) :
    bits .or .u32 ((x.toNat : Int) * b % 4294967296) ((x.toNat : Int) / a) = ((rotr x n).toNat : Int) := by
  subst ha; subst hb
  rw [shl_nat x _ (by omega), shr_nat x n h', u_or, UInt32.or_comm]; rfl
theorem u_not (x : UInt32) : ((4294967295 : Int) - (x.toNat : Int)) = ((~~~x).toNat : Int) := by
  have := x.toNat_lt; have h : (~~~x).toNat = 4294967295 - x.toNat := by rw [UInt32.toNat_not]; simp only [UInt32.size]
  omega

theorem u_notx (x : UInt32) : bits .xor .u32 IntKind.u32.max (x.toNat : Int) = ((~~~x).toNat : Int) := by
  have h : IntKind.u32.max = (((4294967295 : UInt32).toNat : Nat) : Int) := by decide
  rw [h, u_xor]
  congr 2
theorem mk_shr (k yk : IntKind) (n : Nat) (x : Int) (h : n ≤ k.bits) (b : Int) (hb : b = ((2 ^ n : Nat) : Int)) : Op.shift .shr k x yk (n : Int) = pure (.int k (x / b)) := by
  subst hb
  have h1 : ¬ ((n : Int) < 0) := by omega
  simp only [Op.shift, if_neg h1, Int.toNat_natCast, Nat.min_eq_left h]
  rw [Int.fdiv_eq_ediv_of_nonneg _ (Int.pow_nonneg (by decide))]
  congr 3
theorem mk_shl (k yk : IntKind) (n : Nat) (x : Int) (h : n ≤ k.bits) (b : Int) (hb : b = ((2 ^ n : Nat) : Int)) : Op.shift .shl k x yk (n : Int) = pure (.int k (k.wrap (x * b))) := by
  subst hb
  have h1 : ¬ ((n : Int) < 0) := by omega
  simp only [Op.shift, if_neg h1, Int.toNat_natCast, Nat.min_eq_left h]
  congr 4
/-- An array of n words in a block of its own. -/
def arr (f : Nat → UInt32) (n : Nat) : Array Value := ((List.range n).map fun j => U (f j)).toArray
theorem arr_congr {f g : Nat → UInt32} {n : Nat} (h : ∀ j, j < n → f j = g j) : arr f n = arr g n := by
  unfold arr; congr 1; apply List.map_congr_left; intro j hj; rw [h j (by simpa using hj)]
theorem arr_cell {w : World} {g n : Nat} {t : TypeId} {f : Nat → UInt32} (h : w.heap[g]? = some (.cells (arr f n) t (0, 0))) (j : Nat) (hj : j < n) : w.cell? ⟨g, j, none⟩ = some (.int .u32 ((f j).toNat : Int)) := by
  rw [cell_of_row w g j _ t (0, 0) h]; simp [arr, hj, U]
theorem row_free {w : World} {g : Nat} {c : Array Value} {t : TypeId} (h : w.heap[g]? = some (.cells c t (0, 0))) (j : Nat) : w.frozen? ⟨g, j, none⟩ = false := by
  simp [World.frozen?, h]
theorem row_set {w : World} {g : Nat} {c : Array Value} {t : TypeId} (h : w.heap[g]? = some (.cells c t (0, 0))) (j : Nat) (v : Value) : (w.setCell ⟨g, j, none⟩ v).heap[g]? = some (.cells (c.setIfInBounds j v) t (0, 0)) := by
  simp [World.setCell, Array.getElem?_modify, h]
theorem arr_set {f f' : Nat → UInt32} {n j : Nat} {x : UInt32} (hj : f' j = x) (h : ∀ i, i < n → i ≠ j → f' i = f i) : (arr f n).setIfInBounds j (U x) = arr f' n := by
  apply Array.ext_getElem?
  intro i
  rw [Array.getElem?_setIfInBounds]
  by_cases e : j = i
  · subst e
    rw [if_pos rfl]
    by_cases hn : j < n
    · simp [arr, hn, hj]
    · simp [arr, hn]
  · rw [if_neg e]
    by_cases hn : i < n
    · simp [arr, hn, h i hn (Ne.symm e)]
    · simp [arr, hn]
theorem arr_list {f : Nat → UInt32} {l : List UInt32} {n : Nat} (hl : l.length = n) (h : ∀ i, i < n → f i = l.getD i 0) : arr f n = (l.map U).toArray := by
  unfold arr
  congr 1
  apply List.ext_getElem
  · simp [hl]
  · intro i h1 h2
    simp at h1 h2
    rw [List.getElem_map, List.getElem_map, List.getElem_range, h i h1, List.getD_eq_getElem?_getD, List.getElem?_eq_getElem h2]
    rfl
end Go.Mk
