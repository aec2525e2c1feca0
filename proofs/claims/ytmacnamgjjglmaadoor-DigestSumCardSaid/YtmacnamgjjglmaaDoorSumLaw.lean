/- electionlaw04.DigestSum answers true: the walk. -/
import Derived.Test.YtmacnamgjjglmaaDoorDig
import Derived.Test.YtmacnamgjjglmaaDoorCut
import Derived.Test.YtmacnamgjjglmaaDoorAwake
namespace Go.Proofs.YtmacnamgjjglmaaDoor
open Go.RowKit Go.Mk Go.Sha
set_option maxRecDepth 20000 in
set_option maxHeartbeats 400000 in
theorem sumlaw_any (v : Value) (xs : List UInt8) (w : World) (hl : xs.length ≤ 9223372036854775807) (hr : Rd w 1 v xs.length (xs.map B)) (hT : Tab w) (hR : TabR w) :
    Calls Tryd.prog 3 #[v] w fun e w' => e = .returned (.bool true) ∧ Kept no w w' := by
  obtain ⟨ao, cap, rfl⟩ : ∃ ao cap, v = .slice ao xs.length cap := by obtain ⟨_, ao, cap, h, _⟩ := hr; exact ⟨ao, cap, h⟩
  obtain ⟨hcap, hcm⟩ : xs.length ≤ cap ∧ cap ≤ maxLen := by obtain ⟨_, a, c, e, h1, h2, _⟩ := hr; cases e; exact ⟨h1, h2⟩
  have h1 := hid (Rd.first hr 300)
  have hq : (if 300 < (xs.length : Int) then (300 : Int) else (xs.length : Int)) = ((min xs.length 300 : Nat) : Int) := by split <;> omega
  have hqc : ((min xs.length 300 : Nat) : Int) ≤ (cap : Int) := by omega
  have hq0 : (0 : Int) ≤ ((min xs.length 300 : Nat) : Int) := by omega
  have hyl : (xs.take 300).length ≤ 300 := by rw [List.length_take]; omega
  have he := fun w => eql_digest (sum (xs.take 300)) (sum (xs.take 300)) (sum_length _) (sum_length _) w
  simp only [beq_self_eq_true] at he
  have hg := guard_digest
  replace hT := hid hT
  replace hR := hid hR
  generalize min xs.length 300 = q at hq hqc hq0 h1
  generalize xs.take 300 = ys at hyl h1 he
  obtain rfl : q = ys.length := by obtain ⟨_, _, _, e, _⟩ := h1.out; cases e; rfl
  clear hr
  go_enter Tryd.func3, Tryd.ntmps3
  go_wp2_with fail
  refine (awake_any w hT.out).mono ?_
  rintro e w1 ⟨rfl, K1⟩
  go_wp2_with fail
  refine (digest_any _ ys w1 (by omega) (h1.out.keptNo K1) (hT.out.kept K1)).mono ?_
  rintro e w2 ⟨rfl, k2⟩
  have K2 := K1.trans' k2
  clear K1 k2
  go_wp2_with fail
  refine (refsum_any _ ys w2 (by omega) (h1.out.keptNo K2) (hR.out.kept K2)).mono ?_
  rintro e w3 ⟨rfl, k3⟩
  have K3 := K2.trans' k3
  clear K2 k3
  unfold Dg
  go_wp2
  go_ret
  exact ⟨rfl, K3⟩
end Go.Proofs.YtmacnamgjjglmaaDoor
