/- electionlaw04.DigestJoin answers true: the walk. -/
import Derived.Test.YtmacnamgjjglmaaDoorDig
import Derived.Test.YtmacnamgjjglmaaDoorParts
namespace Go.Proofs.YtmacnamgjjglmaaDoor
open Go.RowKit Go.Mk Go.Sha
set_option maxRecDepth 20000 in
set_option maxHeartbeats 400000 in
theorem joinlaw_any (v : Value) (ps : List (List UInt8)) (w : World) (hl : ps.length ≤ 9223372036854775807) (hpl : ∀ p ∈ ps, p.length ≤ 9223372036854775807) (hr : RdP w v ps) (hT : Tab w) (hR : TabR w) :
    Calls Tryd.prog 6 #[v] w fun e w' => e = .returned (.bool true) ∧ Kept no w w' := by
  replace hr := hid hr
  replace hT := hid hT
  replace hR := hid hR
  replace hpl := hid hpl
  have he := fun w => eql_digest (sum (join (cut ps 8 40))) (sum (join (cut ps 8 40))) (sum_length _) (sum_length _) w
  simp only [beq_self_eq_true] at he
  have hg := guard_digest
  have cA := cut_len ps 8 40
  have nA := cut_count ps 8 40
  have HC := hid (fun w h => cut_any v ps 8 40 w hl (by decide) (by decide) hpl.out h)
  have LX : (join (cut ps 8 40)).length ≤ 1099511000000 := by have := join_len (cut ps 8 40) 40 cA; omega
  have h32 := hid (show ∀ p ∈ cut ps 8 40, p.length < 4294967296 from fun p hp => by have := cA p hp; omega)
  clear cA
  generalize cut ps 8 40 = qs at he nA HC LX h32
  go_enter Tryd.func6, Tryd.ntmps6
  go_wp2_with fail
  refine (HC.out w hr.out).mono ?_
  rintro e w0 ⟨v0, rfl, r0, k0⟩
  obtain ⟨ao, ca, rfl⟩ : ∃ ao ca, v0 = .slice ao qs.length ca := by obtain ⟨_, ⟨_, ao, ca, h, _⟩, _⟩ := r0; exact ⟨ao, ca, h⟩
  replace r0 := hid r0
  go_wp2_with fail
  refine (awake_any w0 (hT.out.kept k0)).mono ?_
  rintro e w1 ⟨rfl, k1⟩
  have r1 := hid (r0.out.kept k1)
  have K1 := hid (k0.trans' k1)
  clear k0 k1 r0
  go_wp2_with fail
  refine (join_any _ qs w1 LX (by omega) r1.out).mono ?_
  rintro e w2 ⟨v2, rfl, o2, k2, _⟩
  have r2 := hid (r1.out.kept k2)
  have K2 := hid (K1.out.trans' k2)
  clear k2 r1 K1
  go_wp2_with fail
  refine (refjoin_any _ qs w2 LX (by omega) h32.out r2.out).mono ?_
  rintro e w3 ⟨v3, rfl, o3, k3, _⟩
  have r3 := hid (r2.out.kept k3)
  have K3 := hid (K2.out.trans' k3)
  go_wp2_with fail
  refine (eq_any v2 v3 (join qs) (join qs) w3 (by omega) (by omega) (Rd.of_own (k3.ownsRow o2 fun _ _ => id)) (Rd.of_own o3)).mono ?_
  rintro e w4 ⟨rfl, q, hq⟩
  have r4 := hid (r3.out.kept ((Kept.refl no w3).drewN q))
  have K4 := hid (K3.out.drewN q)
  rw [← hq] at K4 r4
  clear k3 r2 r3 K2 K3 o2 o3 hq
  simp only [decide_true]
  go_wp2_with fail
  refine (of_any _ qs w4 LX (by omega) r4.out (hT.out.kept K4.out)).mono ?_
  rintro e w5 ⟨rfl, k5⟩
  have r5 := hid (r4.out.kept k5)
  have K5 := hid (K4.out.trans' k5)
  clear k5 r4 K4
  go_wp2_with fail
  refine (refof_any _ qs w5 LX (by omega) h32.out r5.out (hR.out.kept K5.out)).mono ?_
  rintro e w6 ⟨rfl, k6⟩
  have K6 := hid (K5.out.trans' k6)
  clear k6 r5 K5
  unfold Dg
  go_wp2
  go_ret
  exact ⟨rfl, K6.out⟩
end Go.Proofs.YtmacnamgjjglmaaDoor
