/- electionref04.Text returns the hexadecimal digits of a digest. -/
import Derived.Test.YtmacnamgjjglmaaDoorText
namespace Go.Proofs.YtmacnamgjjglmaaDoor
open Go.RowKit Go.Mk Go.Sha
theorem hex_slice (n : Nat) (h : n < 16) (w : World) : (Instr.slice 9 (.string ⟨#[48, 49, 50, 51, 52, 53, 54, 55, 56, 57, 97, 98, 99, 100, 101, 102]⟩) (some (.int .u8 (n : Int))) (some (.int .u8 ((n : Int) + 1))) none).run Tryd.prog w = .ok (.string ⟨#[hexd n]⟩) w := by
  rcases (show n = 0 ∨ n = 1 ∨ n = 2 ∨ n = 3 ∨ n = 4 ∨ n = 5 ∨ n = 6 ∨ n = 7 ∨ n = 8 ∨ n = 9 ∨ n = 10 ∨ n = 11 ∨ n = 12 ∨ n = 13 ∨ n = 14 ∨ n = 15 by omega) with rfl | rfl | rfl | rfl | rfl | rfl | rfl | rfl | rfl | rfl | rfl | rfl | rfl | rfl | rfl | rfl
  all_goals kernel_rfl
set_option maxRecDepth 100000 in
set_option maxHeartbeats 400000 in
theorem reftext_any (l : List UInt8) (hl : l.length = 32) (w : World) :
    Calls Tryd.prog 26 #[.agg (l.map B).toArray] w fun e w' => e = .returned (.string ⟨(hex l).toArray⟩) ∧ Kept no w w' := by
  have hnew := hid (heap_alloc_new w (.cells (l.map B).toArray 25))
  have K0 := hid (((Kept.refl no w).alloc (.cells (l.map B).toArray 25)))
  go_enter Tryd.func26, Tryd.ntmps26
  go_wp2
  go_loopw [4, 5] (fun s i wr => ∃ k : Nat, k ≤ 32 ∧ i = .int .i64 k ∧ s = .string ⟨(hex (l.take k)).toArray⟩ ∧ Hd (wr.heap[w.heap.size]? = some (.cells (l.map B).toArray 25 (0, 0))) ∧ Hd (Kept no w wr)) (fun _ i _ => 32 - (intOf i).toNat)
  case atStart => exact ⟨0, by omega, rfl, rfl, hnew, K0⟩
  case round =>
    clear K0 hnew
    obtain ⟨k, hk, rfl, rfl, hB, hK⟩ := hrel
    by_cases hlt : k < 32
    · have hc : wr.cell? ⟨w.heap.size, k, none⟩ = some (.int .u8 ((l.getD k 0).toNat : Int)) := by
        rw [cell_of_row wr _ k _ _ _ hB.out]; simp [B, hl, hlt]
      have hs := hid (take_getD l k (by omega))
      generalize l.getD k 0 = x at hc hs
      have hx := x.toNat_lt
      have k1 : (k : Int) < 32 := by omega
      have x1 : (0 : Int) ≤ (x.toNat : Int) / 16 := by omega
      have x2 : (x.toNat : Int) / 16 ≤ 15 := by omega
      have x3 : IntKind.u8.wrap ((x.toNat : Int) / 16 + 1) = (x.toNat : Int) / 16 + 1 := by simp only [IntKind.wrap, IntKind.bits, IntKind.signed]; simp; omega
      have x4 : (0 : Int) ≤ (x.toNat : Int) % 16 := by omega
      have x5 : (x.toNat : Int) % 16 ≤ 15 := by omega
      have x6 : IntKind.u8.wrap ((x.toNat : Int) % 16 + 1) = (x.toNat : Int) % 16 + 1 := by simp only [IntKind.wrap, IntKind.bits, IntKind.signed]; simp; omega
      have hs1 := fun w => hex_slice (x.toNat / 16) (by omega) w
      have hs2 := fun w => hex_slice (x.toNat % 16) (by omega) w
      have e16 : ((x.toNat / 16 : Nat) : Int) = (x.toNat : Int) / 16 := by omega
      have e15 : ((x.toNat % 16 : Nat) : Int) = (x.toNat : Int) % 16 := by omega
      rw [e16] at hs1
      rw [e15] at hs2
      clear e16 e15
      have hlen : (hex (l.take k)).length + 2 ≤ 9223372036854775807 := by rw [hex_length, List.length_take]; omega
      go_wp2_with fail
      go_quiet (fail)
      have hf : Hd (Value.string ({ data := (hex (l.take k)).toArray } ++ ({ data := #[hexd (x.toNat / 16)] } ++ { data := #[hexd (x.toNat % 16)] })) = Value.string ⟨(hex (l.take (k + 1))).toArray⟩) := ⟨by
        rw [hs.out, hex_snoc]
        congr 1⟩
      clear hs1 hs2 hlen
      rw [hf.out]
      have hB' := hid (show (wr.drewN nq).heap[w.heap.size]? = _ from hB.out)
      have hK' := hid (hK.out.drewN nq)
      clear hf hB hK hs hc
      go_wp2
      go_roundw
      case rel => first | exact ⟨k + 1, by omega, by go_num, rfl, hB', hK'⟩ | ((repeat apply Exists.intro); exact ⟨⟨k + 1, by omega, by go_num, rfl, hB', hK'⟩, rfl⟩)
      case measure => simp [intOf]; omega
    · obtain rfl : k = 32 := by omega
      have e : l.take 32 = l := List.take_of_length_le (by omega)
      rw [e]
      clear e
      go_wp2
      go_ret
      exact ⟨rfl, hK.out⟩
end Go.Proofs.YtmacnamgjjglmaaDoor
