/- electionmake.Names. -/
import Derived.Test.YtaobaaaihgahfaaGreatGenV
namespace Go.Proofs.YtaobaaaihgahfaaGreat
open Go.RowKit Go.Mk Go.Pil
theorem TStrs : ElemT Tryz.prog 22 9 1 16 := .mk' (z := .string ⟨#[]⟩) (by kernel_rfl) (by kernel_rfl) (by kernel_rfl) (by decide)
theorem one_string (w : World) (b : Nat) (z : Int) (h : w.cell? ⟨b, 0, none⟩ = some (.int .u8 z)) : ∃ s, (convert 246 9 (.slice (some ⟨b, 0, none⟩) 1 1)).run Tryz.prog w = .ok (.string s) w := by
  rw [run_convert_bytes_string w 246 9 5 _ _ _ (by kernel_rfl) (by kernel_rfl) (by kernel_rfl)]
  have h2 := run_loadCells_list (P := Tryz.prog) (w := w) ⟨b, 0, none⟩ [.int .u8 z] (fun j u hu => by
    cases j with
    | zero => simp at hu; subst hu; simpa [Addr.add] using h
    | succ j => simp at hu)
  (rw [run_bytesToString w ⟨b, 0, none⟩ 1 1 [z] (by rw [show (1 : Nat) = [Value.int .u8 z].length from rfl, h2]; rfl)]); (exact ⟨_, rfl⟩)
set_option maxRecDepth 20000 in
set_option maxHeartbeats 1000000 in
theorem names_any (n : Nat) (w : World) (hn : n ≤ 100) : Calls Tryz.prog 148 #[.int .i64 (n : Int)] w fun e w' => ∃ a c, e = .returned (.slice a n c) ∧ Kept no w w' := by
  go_enter Tryz.func148, Tryz.ntmps148
  go_wp2
  go_loopw [3, 4] (fun out i wr => ∃ (k : Nat) (ss : List Value), k ≤ n ∧ i = .int .i64 (k : Int) ∧ Hd (wr.ownsRow 0 9 1 out k ss) ∧ Hd (Kept no w wr) ∧ Hd (New w out)) (fun _ i _ => n - (intOf i).toNat)
  case atStart => exact ⟨0, [], by omega, rfl, ⟨World.ownsRow_nil _ _ _ _⟩, ⟨Kept.refl _ _⟩, ⟨.inl rfl⟩⟩
  case round =>
    obtain ⟨k, ss, hk, rfl, hO, hW, hN⟩ := hrel
    by_cases hlt : k < n
    · (have hk1 : (k : Int) < (n : Int) := by omega); (have hw1 : IntKind.i64.wrap (97 + (k : Int)) = 97 + (k : Int) := IntWalk.i64_in _ (by omega)); (obtain ⟨w1, hw1, g1, k1⟩ := alloc_named wr (.cells #[.int .u8 (97 + (k : Int))] 5)); (obtain ⟨s, hs⟩ := one_string w1 wr.heap.size (97 + (k : Int)) (by rw [cell_of_row w1 _ 0 _ _ _ g1]; rfl)); (rw [hw1] at hs); (have hO1 : Hd (w1.ownsRow 0 9 1 u3 k ss) := ⟨k1.ownsRow hO.out fun _ _ => id⟩); (have hW1 := hid (hW.out.trans' k1)); (have hls : k + 1 ≤ maxLen ∧ (k + 1) * 16 ≤ 140737488355328 := by have hm : maxLen = 9223372036854775807 := rfl; omega); (replace hls := hid hls); (rw [hw1] at hO1 hW1); (have haddr : Hd (Value.slice (some ⟨wr.heap.size + 1, 0, none⟩) 1 1 = Value.slice (some ⟨(wr.alloc (.cells #[.int .u8 (97 + (k : Int))] 5)).heap.size, 0, none⟩) 1 1) := ⟨by rw [World.size_alloc]⟩); (clear g1 k1 hw1 hO); (go_wp2_with (at_builtin; refine wpList_append_lit _ rfl (.tmp 10) (.tmp 16) 22 rfl 9 1 16 TStrs _ _ _ rfl hO1.out 1 [_] (Eq.trans (b := Value.slice (some ⟨wr.heap.size + 1, 0, none⟩) 1 1) rfl haddr.out) rfl ?c1 ?c2 ?c3 ?_))
      case c1 => simp [Value.oneCell']
      case c2 => exact hls.out.1
      case c3 => exact hls.out.2
      (intro v' w3 h2 h3 h4 _); (have hW2 := hid (hN.out.kept hW1.out h3)); (have hN2 := hid (hN.out.step h4 hW1.out.size)); (replace h2 := hid h2); (clear h3 h4 hO1 hW1 hW hN hls hs); (go_wp2); (go_roundw)
      case rel => first | exact ⟨k + 1, _, by omega, by go_num, h2, hW2, hN2⟩ | ((repeat apply Exists.intro); exact ⟨⟨k + 1, _, by omega, by go_num, h2, hW2, hN2⟩, rfl⟩)
      case measure => simp [intOf]; omega
    · (obtain rfl : k = n := by omega); (obtain ⟨_, a, c, rfl, _⟩ := Rd.of_own hO.out); (clear hO); (go_wp2); (go_ret); (exact ⟨_, _, rfl, hW.out⟩)
end Go.Proofs.YtaobaaaihgahfaaGreat
