/- electionlaw04.DigestKnown answers true: the walk. -/
import Derived.Test.YtmacnamgjjglmaaDoorAwake
namespace Go.Proofs.YtmacnamgjjglmaaDoor
open Go.RowKit Go.Mk Go.Sha
def long : List UInt8 := [97, 98, 99, 100, 98, 99, 100, 101, 99, 100, 101, 102, 100, 101, 102, 103, 101, 102, 103, 104, 102, 103, 104, 105, 103, 104, 105, 106, 104, 105, 106, 107, 105, 106, 107, 108, 106, 107, 108, 109, 107, 108, 109, 110, 108, 109, 110, 111, 109, 110, 111, 112, 110, 111, 112, 113]
set_option maxRecDepth 100000 in
theorem empty_text : hex (sum []) = [101, 51, 98, 48, 99, 52, 52, 50, 57, 56, 102, 99, 49, 99, 49, 52, 57, 97, 102, 98, 102, 52, 99, 56, 57, 57, 54, 102, 98, 57, 50, 52, 50, 55, 97, 101, 52, 49, 101, 52, 54, 52, 57, 98, 57, 51, 52, 99, 97, 52, 57, 53, 57, 57, 49, 98, 55, 56, 53, 50, 98, 56, 53, 53] := by decide +kernel
set_option maxRecDepth 100000 in
theorem long_text : hex (sum long) = [50, 52, 56, 100, 54, 97, 54, 49, 100, 50, 48, 54, 51, 56, 98, 56, 101, 53, 99, 48, 50, 54, 57, 51, 48, 99, 51, 101, 54, 48, 51, 57, 97, 51, 51, 99, 101, 52, 53, 57, 54, 52, 102, 102, 50, 49, 54, 55, 102, 54, 101, 99, 101, 100, 100, 52, 49, 57, 100, 98, 48, 54, 99, 49] := by decide +kernel
set_option maxRecDepth 20000 in
set_option maxHeartbeats 1000000 in
theorem known_any (w : World) (hT : Tab w) : Calls Tryd.prog 5 #[] w fun e w' => e = .returned (.bool true) ∧ Kept no w w' := by
  have hT := hid hT
  have kc := fun (w : World) (C : Array Value) (n c : Nat) => Lib.run_convert_bytes_const (P := Tryd.prog) w 22 5 C n c Tryd.underlying22 Tryd.underlying5
  go_enter Tryd.func5, Tryd.ntmps5
  go_wp2_with fail
  refine (awake_any w hT.out).mono ?_
  rintro e w1 ⟨rfl, K1⟩
  go_wp2_with fail
  refine (digest_any (.slice none 0 0) [] w1 (by decide) ⟨rfl, none, 0, rfl, Nat.le_refl _, Nat.zero_le _, .inl ⟨rfl, rfl⟩⟩ (hT.out.kept K1)).mono ?_
  rintro e w2 ⟨rfl, k2⟩
  have K2 := K1.trans' k2
  clear K1 k2
  go_wp2_with fail
  refine (text_any (sum []) (sum_length _) w2).mono ?_
  rintro e w3 ⟨rfl, k3⟩
  have K3 := K2.trans' k3
  clear K2 k3
  rw [empty_text]
  go_wp2_with fail
  refine Calls.new1f _ _ _ _ ?_
  intro w4 g4 k4 z4
  have hr : Rd w4 1 (.slice (some ⟨w3.heap.size, 0, none⟩) 56 56) long.length (long.map B) := Rd.block g4 rfl (by decide)
  refine (digest_any _ long w4 (by decide) hr (hT.out.kept (K3.trans' k4))).mono ?_
  rintro e w5 ⟨rfl, k5⟩
  have K5 := (K3.trans' k4).trans' k5
  clear K3 k4 k5 hr g4 z4
  go_wp2_with fail
  refine (text_any (sum long) (sum_length _) w5).mono ?_
  rintro e w6 ⟨rfl, k6⟩
  have K6 := K5.trans' k6
  clear K5 k6
  rw [long_text]
  go_wp2_with fail
  refine (join_any (.slice none 0 0) [] w6 (by decide) (by decide) ⟨[], ⟨rfl, none, 0, rfl, Nat.le_refl _, Nat.zero_le _, .inl ⟨rfl, rfl⟩⟩, fun j hj => absurd hj (by simp)⟩).mono ?_
  rintro e w7 ⟨v7, rfl, ho, k7, _⟩
  have K7 := K6.trans' k7
  obtain ⟨a7, c7, rfl⟩ : ∃ a c, v7 = .slice a 0 c := by
    obtain ⟨_, ⟨h, _⟩ | ⟨g, c, _, h, _⟩⟩ := ho
    · exact ⟨_, _, h⟩
    · exact ⟨_, _, h⟩
  clear ho k7 K6
  go_wp2
  go_ret
  exact ⟨rfl, K7⟩
end Go.Proofs.YtmacnamgjjglmaaDoor
