/- Hexadecimal digits read, in plain Lean. -/
import Derived.Test.YtmacnamgjjglmaaDoorStr
import Derived.Lib.Bytealg
namespace Go.Sha
open Go.Proofs.YtmacnamgjjglmaaDoor
def digs : List UInt8 := [48, 49, 50, 51, 52, 53, 54, 55, 56, 57, 97, 98, 99, 100, 101, 102]
def isHex (c : UInt8) : Bool := (48 ≤ c.toNat && c.toNat ≤ 57) || (97 ≤ c.toNat && c.toNat ≤ 102)
def hexn (c : UInt8) : Nat := if c.toNat < 97 then c.toNat - 48 else c.toNat - 87
theorem forall8 (p : UInt8 → Bool) (h : (List.range 256).all (fun n => p (UInt8.ofNat n)) = true) (c : UInt8) : p c = true := by
  have := List.all_eq_true.1 h c.toNat (by simp [c.toNat_lt])
  simpa using this
theorem index_hex (c : UInt8) : Lib.indexByte digs c = if isHex c then (hexn c : Int) else -1 := by
  have := forall8 (fun c => decide (Lib.indexByte digs c = if isHex c then (hexn c : Int) else -1)) (by decide +kernel) c
  exact of_decide_eq_true this
theorem hexn_lt (c : UInt8) (h : isHex c = true) : hexn c < 16 := by
  have := forall8 (fun c => !isHex c || decide (hexn c < 16)) (by decide +kernel) c
  simpa [h] using this
theorem hexd_hexn (c : UInt8) (h : isHex c = true) : hexd (hexn c) = c := by
  have := forall8 (fun c => !isHex c || decide (hexd (hexn c) = c)) (by decide +kernel) c
  simpa [h] using this
theorem hexn_hexd (n : Nat) (h : n < 16) : hexn (hexd n) = n := by
  have : ∀ n, n < 16 → hexn (hexd n) = n := by decide +kernel
  exact this n h
theorem isHex_hexd (n : Nat) (h : n < 16) : isHex (hexd n) = true := by
  have : ∀ n, n < 16 → isHex (hexd n) = true := by decide +kernel
  exact this n h
def nib (c : UInt8) : UInt8 := UInt8.ofNat (hexn c)
def partN (l : List UInt8) : UInt8 := l.foldl (fun x c => x <<< 4 ||| nib c) 0
def dc (b : List UInt8) (i j : Nat) : UInt8 := partN (((b.take i).drop (2 * j)).take 2)
theorem partN_snoc (l : List UInt8) (c : UInt8) : partN (l ++ [c]) = partN l <<< 4 ||| nib c := by simp [partN, List.foldl_append]
theorem dc_hit (b : List UInt8) (k : Nat) (h : k < b.length) : dc b (k + 1) (k / 2) = dc b k (k / 2) <<< 4 ||| nib b[k] := by
  unfold dc
  rw [← partN_snoc]
  congr 1
  rw [List.take_succ_eq_append_getElem h, List.drop_append_of_le_length (by simp; omega), List.take_of_length_le (by simp; omega), List.take_of_length_le (l := List.drop _ _) (by simp; omega)]
theorem dc_miss (b : List UInt8) (k j : Nat) (h : j ≠ k / 2) : dc b (k + 1) j = dc b k j := by
  unfold dc
  congr 1
  apply List.ext_getElem?
  intro i
  simp only [List.getElem?_take, List.getElem?_drop]
  split
  · split
    · rw [if_pos (by omega)]
    · rw [if_neg (by omega)]
  · rfl
theorem dc_zero (b : List UInt8) (j : Nat) : dc b 0 j = 0 := by simp [dc, partN]
/-- The digest that 64 digits say. -/
def unhex (b : List UInt8) : List UInt8 := (List.range 32).map (dc b 64)
theorem unhex_length (b : List UInt8) : (unhex b).length = 32 := by simp [unhex]
theorem part2 (a c : UInt8) (ha : isHex a = true) (hc : isHex c = true) : partN [a, c] = UInt8.ofNat (16 * hexn a + hexn c) := by
  have key : ∀ m, m < 16 → ∀ n, n < 16 → ((0 : UInt8) <<< 4 ||| UInt8.ofNat m) <<< 4 ||| UInt8.ofNat n = UInt8.ofNat (16 * m + n) := by decide +kernel
  exact key _ (hexn_lt a ha) _ (hexn_lt c hc)
theorem hex_get (l : List UInt8) (j : Nat) (h : j < l.length) : ((hex l).drop (2 * j)).take 2 = [hexd ((l.getD j 0).toNat / 16), hexd ((l.getD j 0).toNat % 16)] := by
  induction l generalizing j with
  | nil => simp at h
  | cons x l ih =>
    cases j with
    | zero => simp [hex]
    | succ j =>
      have := ih j (by simpa using h)
      rw [show 2 * (j + 1) = 2 * j + 1 + 1 by omega]
      simpa [hex] using this
theorem unhex_hex (l : List UInt8) (h : l.length = 32) : unhex (hex l) = l := by
  apply List.ext_getElem
  · rw [unhex_length, h]
  · intro j h1 h2
    have hl := hex_length l
    simp only [unhex, List.getElem_map, List.getElem_range, dc]
    rw [List.take_of_length_le (l := hex l) (by omega), hex_get l j h2, List.getD_eq_getElem?_getD, List.getElem?_eq_getElem h2, Option.getD_some]
    have hx := l[j].toNat_lt
    rw [part2 _ _ (isHex_hexd _ (by omega)) (isHex_hexd _ (by omega)), hexn_hexd _ (by omega), hexn_hexd _ (by omega), Nat.div_add_mod]
    simp
theorem hex_all (l : List UInt8) : (hex l).all isHex = true := by
  induction l with
  | nil => rfl
  | cons x l ih =>
    have hx := x.toNat_lt
    have e : hex (x :: l) = hexd (x.toNat / 16) :: hexd (x.toNat % 16) :: hex l := rfl
    rw [e]
    simp [isHex_hexd _ (show x.toNat / 16 < 16 by omega), isHex_hexd _ (show x.toNat % 16 < 16 by omega), ih]
theorem pair_back (a c : UInt8) (ha : isHex a = true) (hc : isHex c = true) : [hexd ((partN [a, c]).toNat / 16), hexd ((partN [a, c]).toNat % 16)] = [a, c] := by
  rw [part2 a c ha hc]
  have h1 := hexn_lt a ha
  have h2 := hexn_lt c hc
  have e : (UInt8.ofNat (16 * hexn a + hexn c)).toNat = 16 * hexn a + hexn c := by
    rw [UInt8.toNat_ofNat']; omega
  rw [e, show (16 * hexn a + hexn c) / 16 = hexn a by omega, show (16 * hexn a + hexn c) % 16 = hexn c by omega, hexd_hexn a ha, hexd_hexn c hc]
/-- two digits a byte, read and written again. -/
theorem back (n : Nat) : ∀ b : List UInt8, b.length = 2 * n → b.all isHex = true → hex ((List.range n).map fun j => partN ((b.drop (2 * j)).take 2)) = b := by
  induction n with
  | zero => intro b h _; simp at h; subst h; rfl
  | succ n ih =>
    intro b h hb
    match b, h with
    | a :: c :: r, h =>
      simp only [List.all_cons, Bool.and_eq_true] at hb
      obtain ⟨ha, hc, hr⟩ := hb
      have hi := ih r (by simp at h; omega) hr
      rw [List.range_succ_eq_map, List.map_cons, List.map_map]
      have e : ((fun j => partN (((a :: c :: r).drop (2 * j)).take 2)) ∘ Nat.succ) = fun j => partN ((r.drop (2 * j)).take 2) := by
        funext j
        simp only [Function.comp_def]
        rw [show 2 * Nat.succ j = 2 * j + 1 + 1 by omega]
        rfl
      rw [e]
      have e2 : hex (partN (((a :: c :: r).drop (2 * 0)).take 2) :: (List.range n).map fun j => partN ((r.drop (2 * j)).take 2)) = [hexd ((partN [a, c]).toNat / 16), hexd ((partN [a, c]).toNat % 16)] ++ hex ((List.range n).map fun j => partN ((r.drop (2 * j)).take 2)) := rfl
      rw [e2, hi, pair_back a c ha hc]
      rfl
theorem hex_unhex (b : List UInt8) (h : b.length = 64) (hb : b.all isHex = true) : hex (unhex b) = b := by
  have := back 32 b h hb
  have e : unhex b = (List.range 32).map fun j => partN ((b.drop (2 * j)).take 2) := by
    unfold unhex dc
    rw [List.take_of_length_le (by omega)]
  rw [e]; exact this
end Go.Sha
namespace Go.Proofs.YtmacnamgjjglmaaDoor
open Go.RowKit Go.Mk Go.Sha
set_option maxHeartbeats 400000 in
theorem sl_index (s : ByteArray) (c : Int) (w : World) : Calls Tryd.prog 50 #[.string s, .int .u8 c] w fun e w' => e = .returned (.int .i64 (Lib.indexByte s.data.toList c.toNat.toUInt8)) ∧ w = w' := by
  go_enter Tryd.func50, Tryd.ntmps50
  go_wp2
  rw [run_callFunc_extern Tryd.func51 (by kernel_rfl) (by kernel_rfl) (by kernel_rfl) (e := Extern.BytealgIndexByte.indexByte) (by kernel_rfl), Lib.run_indexByteString]
  simp only [Result.andThen]
  rw [Oper.upon_value]
  go_wp2
  go_ret
  exact ⟨rfl, rfl⟩
set_option maxHeartbeats 400000 in
theorem index_any (s : ByteArray) (c : Int) (w : World) : Calls Tryd.prog 43 #[.string s, .int .u8 c] w fun e w' => e = .returned (.int .i64 (Lib.indexByte s.data.toList c.toNat.toUInt8)) ∧ w = w' := by
  go_enter Tryd.func43, Tryd.ntmps43
  go_wp2_with fail
  refine (sl_index s c w).mono ?_
  rintro e w' ⟨rfl, rfl⟩
  go_wp2
  go_ret
  exact ⟨rfl, rfl⟩
theorem index_digit (c : UInt8) (w : World) : Calls Tryd.prog 43 #[.string ⟨#[48, 49, 50, 51, 52, 53, 54, 55, 56, 57, 97, 98, 99, 100, 101, 102]⟩, .int .u8 (c.toNat : Int)] w fun e w' => e = .returned (.int .i64 (if isHex c then (hexn c : Int) else -1)) ∧ w = w' :=
  (index_any _ _ w).mono fun e w' ⟨h1, h2⟩ => ⟨by
    rw [h1]
    have : ((c.toNat : Int)).toNat.toUInt8 = c := by simp
    rw [this, ← index_hex c]; rfl, h2⟩
end Go.Proofs.YtmacnamgjjglmaaDoor
