/- digest.Text returns the hexadecimal digits of a digest. -/
import Derived.Test.YtmacnamgjjglmaaDoorStr
import Derived.Test.YtmacnamgjjglmaaDoorKit2
import Derived.StillTailTactics
import Derived.Deep.QuietTactic
import Derived.BigQuiet
namespace Go.Proofs.YtmacnamgjjglmaaDoor
open Go.RowKit Go.Mk Go.Sha
set_option maxRecDepth 100000 in
set_option maxHeartbeats 400000 in
theorem text_any (l : List UInt8) (hl : l.length = 32) (w : World) :
    Calls Tryd.prog 21 #[.agg (l.map B).toArray] w fun e w' => e = .returned (.string ⟨(hex l).toArray⟩) ∧ Kept no w w' := by
  have hinf : Hd ((Tryd.prog.info? 25).map (·.size) = some (l.map B).toArray.size) := ⟨by rw [show (l.map B).toArray.size = 32 by simp [hl]]; kernel_rfl⟩
  have hnew := hid (heap_alloc_new w (.cells (l.map B).toArray 25))
  have K0 := hid (((Kept.refl no w).alloc (.cells (l.map B).toArray 25)))
  go_enter Tryd.func21, Tryd.ntmps21
  go_wp2_with (with_reducible refine wpList_load_row rfl 25 _ rfl w.heap.size rfl 25 _ _ _ hnew.out Tryd.underlying25 rfl hinf.out ?_)
  go_loopw [3, 7] (fun out i wr => ∃ k : Nat, k ≤ 32 ∧ i = .int .i64 k ∧ wr.ownsRow 0 5 1 out (2 * k) ((hex (l.take k)).map B) ∧ Kept no w wr ∧ New w out) (fun _ i _ => 32 - (intOf i).toNat)
  case atStart => exact ⟨0, by omega, rfl, World.ownsRow_nil _ _ _ _, K0.out, .inl rfl⟩
  case round =>
    clear K0 hnew
    obtain ⟨k, hk, rfl, ho, hK, hN⟩ := hrel
    by_cases hlt : k < 32
    · have hix := byte_of_digest l k hl hlt
      have hs := hid (take_getD l k (by omega))
      generalize l.getD k 0 = x at hix hs
      have hx := x.toNat_lt
      have hd1 := fun w => hex_digit (x.toNat / 16) (by omega) w
      have hd2 := fun w => hex_digit (x.toNat % 16) (by omega) w
      have ha := and15 x
      have e16 : ((x.toNat / 16 : Nat) : Int) = (x.toNat : Int) / 16 := by omega
      have e15 : ((x.toNat % 16 : Nat) : Int) = (x.toNat : Int) % 16 := by omega
      rw [e16] at hd1
      rw [e15] at hd2 ha
      clear e16 e15
      go_wp2_with fail
      have HO : ((wr.alloc (.cells #[.int .u8 ((hexd (x.toNat / 16)).toNat : Int), .int .u8 ((hexd (x.toNat % 16)).toNat : Int)] 5)).drew).ownsRow 0 5 1 u3 (2 * k) ((hex (l.take k)).map B) := ((Kept.refl no wr).alloc _).drew.ownsRow ho fun _ _ => id
      have HR : Rd ((wr.alloc (.cells #[.int .u8 ((hexd (x.toNat / 16)).toNat : Int), .int .u8 ((hexd (x.toNat % 16)).toNat : Int)] 5)).drew) 1 (.slice (some ⟨wr.heap.size, 0, none⟩) 2 2) 2 [.int .u8 ((hexd (x.toNat / 16)).toNat : Int), .int .u8 ((hexd (x.toNat % 16)).toNat : Int)] := (Rd.new wr 5 1 2 _ rfl (by unfold maxLen; omega)).drew
      have H1 : ∀ u ∈ [Value.int .u8 ((hexd (x.toNat / 16)).toNat : Int), Value.int .u8 ((hexd (x.toNat % 16)).toNat : Int)], u.oneCell' = true := by simp [Value.oneCell']
      have HM : 2 * k + 2 ≤ maxLen := by unfold maxLen; omega
      have HB : (2 * k + 2) * 1 ≤ 140737488355328 := by omega
      replace HO := hid HO
      replace HR := hid HR
      replace H1 := hid H1
      replace HM := hid HM
      go_region_held3 (fun _ => True) (exact trivial) ((refine step_append rfl (.tmp 10) (.tmp 17) 22 rfl 5 1 1 TBytes u3 (2 * k) _ rfl HO.out _ 2 _ rfl HR.out H1.out HM.out HB ?_; intro v1 w1 ho1 hk1 hn1 _))
      all_goals
        have hK' : Kept no w w1 := hN.kept hK (hk1.after_lit _)
        have hN' : New w v1 := hN.step (hn1.after_lit _) hK.size
        have ho' : w1.ownsRow 0 5 1 v1 (2 * (k + 1)) ((hex (l.take (k + 1))).map B) := by
          rw [hs.out, hex_snoc]
          simpa [B, Nat.mul_add] using ho1
        clear hk1 hn1 ho1 hK hN ho HO HR hs hd1 hd2 hix
        go_wp2
        go_roundw
        case rel => exact ⟨k + 1, by omega, by go_num, ho', hK', hN'⟩
        case measure => simp [intOf]; omega
    · obtain rfl : k = 32 := by omega
      have hr : Rd wr 1 u3 (hex l).length ((hex l).map B) := by
        have := Rd.of_own ho
        rw [List.take_of_length_le (by omega)] at this
        rw [hex_length, hl]; exact this
      have hcv := string_of (P := Tryd.prog) wr 22 9 5 Tryd.underlying22 Tryd.underlying5 Tryd.underlying9 u3 (hex l) hr
      clear hr ho
      go_wp2
      go_ret
      exact ⟨rfl, hK⟩
end Go.Proofs.YtmacnamgjjglmaaDoor
