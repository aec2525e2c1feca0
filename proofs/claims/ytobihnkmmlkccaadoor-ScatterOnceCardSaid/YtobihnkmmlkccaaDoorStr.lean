/- Bytes to a string; a byte of an array; the hexadecimal digits. -/
import Derived.Test.YtobihnkmmlkccaaDoorNum
namespace Go.Proofs.YtobihnkmmlkccaaDoor
open Go.RowKit Go.Mk Go.Sha
theorem push_all (l : List UInt8) : ∀ s : ByteArray, (l.map fun x => (x.toNat : Int)).foldl (fun r n => r.push (UInt8.ofNat n.toNat)) s = ⟨s.data ++ l.toArray⟩ := by
  induction l with
  | nil => intro s; simp
  | cons x l ih =>
    intro s
    simp only [List.map_cons, List.foldl_cons, ih]
    simp [ByteArray.push]
theorem string_of {P : Program} (w : World) (src dst e : TypeId) (hs : P.underlying src = some (.slice e)) (he : P.underlying e = some (.int .u8)) (hd : P.underlying dst = some .string)
    (v : Value) (l : List UInt8) (hr : Rd w 1 v l.length (l.map B)) : (convert src dst v).run P w = .ok (.string ⟨l.toArray⟩) w := by
  obtain ⟨_, ao, cap, rfl, _, _, hcap | ⟨b, o, rfl, hc⟩⟩ := hr
  · rw [run_convert_bytes_string w src dst e _ _ _ hs he hd]
    have : l = [] := List.eq_nil_of_length_eq_zero (by omega)
    subst this
    cases ao with
    | none => simp [Conv.bytesToString, Sem.run_pure]; rfl
    | some a =>
      rw [run_bytesToString w a _ cap [] (by simp [loadCells, loadCellsFrom])]
      rfl
  · rw [run_convert_bytes_string w src dst e _ _ _ hs he hd]
    have h := run_loadCells_list (P := P) (w := w) ⟨b, o, none⟩ (l.map B) (fun j u hu => by
      have := hc j u hu
      unfold Addr.add
      split
      · rename_i e0; subst e0; simpa using this
      · exact this)
    rw [List.length_map] at h
    rw [run_bytesToString w ⟨b, o, none⟩ l.length cap (l.map fun x => (x.toNat : Int)) (by rw [h]; simp [B, Function.comp_def]), push_all]
    simp
def hexd (n : Nat) : UInt8 := if n < 10 then UInt8.ofNat (48 + n) else UInt8.ofNat (87 + n)
def hex (l : List UInt8) : List UInt8 := l.flatMap fun x => [hexd (x.toNat / 16), hexd (x.toNat % 16)]
theorem hex_digit (n : Nat) (h : n < 16) (w : World) : (Instr.index 9 (.string ⟨#[48, 49, 50, 51, 52, 53, 54, 55, 56, 57, 97, 98, 99, 100, 101, 102]⟩) (.int .u8 (n : Int))).run Tryd.prog w = .ok (.int .u8 ((hexd n).toNat : Int)) w := by
  rcases (show n = 0 ∨ n = 1 ∨ n = 2 ∨ n = 3 ∨ n = 4 ∨ n = 5 ∨ n = 6 ∨ n = 7 ∨ n = 8 ∨ n = 9 ∨ n = 10 ∨ n = 11 ∨ n = 12 ∨ n = 13 ∨ n = 14 ∨ n = 15 by omega) with rfl | rfl | rfl | rfl | rfl | rfl | rfl | rfl | rfl | rfl | rfl | rfl | rfl | rfl | rfl | rfl
  all_goals kernel_rfl
/-- An element of one cell out of an array's value. -/
theorem run_index_array {P : Program} (t e : TypeId) (n : Nat) (cs : Array Value) (k : IntKind) (i : Nat) (v : Value) (w : World) (h : P.underlying t = some (.array n e)) (hi : i < n) (hs : (P.info? e).map (·.size) = some 1)
    (ha : ∀ w, (isAgg e).run P w = .ok false w) (hv : cs[i]? = some v) : (Instr.index t (.agg cs) (.int k (i : Int))).run P w = .ok v w := by
  obtain ⟨ie, hie, hsz⟩ : ∃ ie, P.info? e = some ie ∧ ie.size = 1 := by
    cases h0 : P.info? e with
    | none => rw [h0] at hs; cases hs
    | some ie => rw [h0] at hs; exact ⟨ie, rfl, by simpa using hs⟩
  simp [Instr.index, asIntOf, run_underlying h, part, ha, sizeOf, typeInfo, hie, hsz, hv]
  intro h2; omega
theorem byte_of_digest (l : List UInt8) (k : Nat) (hl : l.length = 32) (hk : k < 32) (w : World) : (Instr.index 63 (.agg (l.map B).toArray) (.int .i64 k)).run Tryd.prog w = .ok (.int .u8 ((l.getD k 0).toNat : Int)) w :=
  run_index_array _ 5 32 _ .i64 k _ w Tryd.underlying63 hk (by kernel_rfl) (fun _ => by kernel_rfl) (by simp [B, hl, hk])
theorem hex_snoc (l : List UInt8) (x : UInt8) : hex (l ++ [x]) = hex l ++ [hexd (x.toNat / 16), hexd (x.toNat % 16)] := by simp [hex]
theorem hex_length (l : List UInt8) : (hex l).length = 2 * l.length := by
  induction l with
  | nil => rfl
  | cons x l ih => simp [hex] at ih ⊢; omega
theorem take_getD (l : List UInt8) (k : Nat) (hk : k < l.length) : l.take (k + 1) = l.take k ++ [l.getD k 0] := by
  rw [List.take_succ_eq_append_getElem hk]; simp [hk]
theorem and15 (x : UInt8) : bits .and .u8 (x.toNat : Int) 15 = ((x.toNat % 16 : Nat) : Int) := by
  have h := x.toNat_lt
  have : (15 : Int) = ((15 : Nat) : Int) := rfl
  rw [this, u8_and_nat _ _ h (by decide), nat_mask4]
end Go.Proofs.YtobihnkmmlkccaaDoor
