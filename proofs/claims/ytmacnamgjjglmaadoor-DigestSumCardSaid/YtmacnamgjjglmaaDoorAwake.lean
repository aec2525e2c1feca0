/- electionlaw04.Awake answers true. -/
import Derived.Test.YtmacnamgjjglmaaDoorJoin
import Derived.Test.YtmacnamgjjglmaaDoorText
import Derived.Lib.SlBytesConst
namespace Go.Proofs.YtmacnamgjjglmaaDoor
open Go.RowKit Go.Mk Go.Sha
def abc : List UInt8 := [97, 98, 99]
set_option maxRecDepth 100000 in
theorem abc_text : (hex (sum abc)) = [98, 97, 55, 56, 49, 54, 98, 102, 56, 102, 48, 49, 99, 102, 101, 97, 52, 49, 52, 49, 52, 48, 100, 101, 53, 100, 97, 101, 50, 50, 50, 51, 98, 48, 48, 51, 54, 49, 97, 51, 57, 54, 49, 55, 55, 97, 57, 99, 98, 52, 49, 48, 102, 102, 54, 49, 102, 50, 48, 48, 49, 53, 97, 100] := by decide +kernel
set_option maxRecDepth 20000 in
set_option maxHeartbeats 400000 in
theorem awake_any (w : World) (hT : Tab w) : Calls Tryd.prog 15 #[] w fun e w' => e = .returned (.bool true) ∧ Kept no w w' := by
  have hT := hid hT
  have kc := fun (w : World) (C : Array Value) (n c : Nat) => Lib.run_convert_bytes_const (P := Tryd.prog) w 22 5 C n c Tryd.underlying22 Tryd.underlying5
  go_enter Tryd.func15, Tryd.ntmps15
  go_wp2_with fail
  refine Calls.new1f _ _ _ _ ?_
  intro w1 g1 k1 z1
  have hr : Rd w1 1 (.slice (some ⟨w.heap.size, 0, none⟩) 3 3) abc.length (abc.map B) := Rd.block g1 rfl (by decide)
  refine (digest_any _ abc w1 (by decide) hr (hT.out.kept k1)).mono ?_
  rintro e w2 ⟨rfl, k2⟩
  have K2 := k1.trans' k2
  clear g1 k1 z1 hr k2
  go_wp2_with fail
  refine (text_any (sum abc) (sum_length _) w2).mono ?_
  rintro e w3 ⟨rfl, k3⟩
  have K3 := K2.trans' k3
  clear K2 k3
  rw [abc_text]
  go_wp2_with fail
  refine Calls.new2f _ _ _ _ _ _ _ ?_
  intro w4 g4 h4 k4 z4
  have hp : RdP w4 (.slice (some ⟨w3.heap.size + 1, 0, none⟩) 1 1) [[97]] := ⟨[.slice (some ⟨w3.heap.size, 0, none⟩) 1 1], Rd.block h4 rfl (by decide), fun j hj => by
    obtain rfl : j = 0 := by simp at hj; omega
    exact Rd.block (us := [B 97]) g4 rfl (by decide)⟩
  refine (join_any _ [[97]] w4 (by decide) (by decide) hp).mono ?_
  rintro e w5 ⟨v5, rfl, ho, k5, _⟩
  have K5 := (K3.trans' k4).trans' k5
  obtain ⟨a5, c5, rfl⟩ : ∃ a c, v5 = .slice a 5 c := by
    obtain ⟨_, ⟨_, h⟩ | ⟨g, c, _, h, _⟩⟩ := ho
    · exact absurd h (by decide)
    · exact ⟨_, _, h⟩
  clear hp ho k4 k5 K3 g4 h4 z4
  go_wp2
  go_ret
  exact ⟨rfl, K5⟩
end Go.Proofs.YtmacnamgjjglmaaDoor
