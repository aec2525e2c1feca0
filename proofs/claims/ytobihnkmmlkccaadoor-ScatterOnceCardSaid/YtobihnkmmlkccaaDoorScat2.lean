/- ScatterPlace: the walk (printed by gen_scat2.py). -/
import Derived.Test.YtobihnkmmlkccaaDoorScat
import Derived.Deep.DeepCutAuto
namespace Go.Proofs.YtobihnkmmlkccaaDoor
open Go.RowKit Go.Mk Go.Bit Go.Sha Go.Rnd
def m18 (n : Int) : Nat := (n % 18).toNat
theorem m18_lt (n : Int) : m18 n < 18 := by unfold m18; omega
theorem m18_of (n : Int) : (n.tmod 18 + 18) % 18 = (m18 n : Int) := by unfold m18; rw [Int.tmod_eq_emod]; split <;> omega
theorem cut20 (s : ByteArray) (q : Nat) (h : q ≤ 20) : (s.extract 0 q).size ≤ 1000 := by rw [ByteArray.size_extract]; omega
set_option maxRecDepth 20000 in
set_option maxHeartbeats 4000000 in
theorem scatterplace_any (s : ByteArray) (hs : s.size ≤ 9223372036854775807) (n k : Int) (w : World) (hT : Tab w) (hR : TabR w) :
    Calls Tryd.prog 5 #[.string s, .int .i64 n, .int .i64 k] w fun e w' => e = .returned (.bool true) ∧ Kept no w w' := by
  replace hT := hid hT
  replace hR := hid hR
  have hq : (if 20 < (s.size : Int) then (20 : Int) else (s.size : Int)) = ((min s.size 20 : Nat) : Int) := by split <;> omega
  have hqn : (if 20 < s.size then (20 : Int) else (s.size : Int)) = ((min s.size 20 : Nat) : Int) := by split <;> omega
  have hqc : ((min s.size 20 : Nat) : Int) ≤ (s.size : Int) := by omega
  have hq0 : (0 : Int) ≤ ((min s.size 20 : Nat) : Int) := by omega
  have hq20 : min s.size 20 ≤ 20 := by omega
  generalize min s.size 20 = q at hq hqn hqc hq0 hq20
  have hm := m18_of n
  have ht1 : n.tmod 18 ≤ 17 := by have := Int.tmod_lt_of_pos n (show (0 : Int) < 18 by decide); omega
  have ht2 : -17 ≤ n.tmod 18 := by have := Int.lt_tmod_of_pos n (show (0 : Int) < 18 by decide); omega
  have hm2 := m18_lt n
  generalize m18 n = z at hm hm2
  obtain ⟨t, ht⟩ : ∃ t, s.extract 0 q = t := ⟨_, rfl⟩
  have htz : t.size ≤ 1000 := by rw [← ht]; exact cut20 s q hq20
  replace ht := hid ht
  go_enter Tryd.func5, Tryd.ntmps5
  go_upto_region 2 with fail
  rw [hm, ht.out]
  clear hm ht1 ht2 hq hqn hqc hq0 hq20 ht
  have HP := hid (refplaces_any t 2 3 (z : Int) w htz hR.out)
  have HQ := hid (fun W (h : Tab W) => place_any t 2 3 (z : Int) k W htz h)
  generalize placesL t 2 3 (z : Int) = l at HP HQ
  go_wp2_with fail
  refine HP.out.mono ?_
  rintro e w1 ⟨v, rfl, r1, k1⟩
  obtain ⟨ao, cap, rfl⟩ := rdI_shape r1
  replace k1 := hid k1
  obtain ⟨len, hlen⟩ : ∃ x, l.length = x := ⟨_, rfl⟩
  rw [hlen] at r1 ⊢
  have HA := hid (awake17_any w1 (hT.out.kept k1.out))
  have hT1 := hid (hT.out.kept k1.out)
  clear HP
  by_cases h0 : 0 ≤ k
  · have d0 : decide (0 ≤ k) = true := decide_eq_true h0
    by_cases h1 : k < (len : Int)
    · have d1 : decide (k < (len : Int)) = true := decide_eq_true h1
      obtain ⟨q2, hq2⟩ : ∃ q : Nat, k = (q : Int) := ⟨k.toNat, by omega⟩
      have hq : q2 < len := by omega
      obtain ⟨b0, o0, rfl, c0⟩ := RdI.at r1 hlen q2 hq
      have hres : plV l k = ((l.getD q2 0 : Nat) : Int) := by unfold plV; rw [if_pos (by omega), hq2, Int.toNat_natCast]
      subst hq2
      have hqi : (q2 : Int) < (len : Int) := by omega
      have hq0 : (0 : Int) ≤ (q2 : Int) := by omega
      generalize l.getD q2 0 = zz at c0 hres
      have hzz : ((zz : Int) == (zz : Int)) = true := by simp
      clear r1
      go_wp2_with fail
      refine HA.out.mono ?_
      rintro e w2 ⟨rfl, k2⟩
      have H3 := HQ.out w2 (hT1.out.kept k2)
      rw [hres] at H3
      replace H3 := hid H3
      have K2 := hid (k1.out.trans' k2)
      clear HQ k2 hres
      go_wp2_with fail
      refine H3.out.mono ?_
      rintro e w3 ⟨rfl, k3⟩
      have K3 := hid (K2.out.trans' k3)
      clear H3 k3 K2
      go_wp2
      go_ret
      exact ⟨rfl, K3.out⟩
    · have d1 : decide (k < (len : Int)) = false := decide_eq_false h1
      have hres : plV l k = -1 := by unfold plV; rw [if_neg (by omega)]
      clear r1
      go_wp2_with fail
      refine HA.out.mono ?_
      rintro e w2 ⟨rfl, k2⟩
      have H3 := HQ.out w2 (hT1.out.kept k2)
      rw [hres] at H3
      replace H3 := hid H3
      have K2 := hid (k1.out.trans' k2)
      clear HQ k2 hres
      go_wp2_with fail
      refine H3.out.mono ?_
      rintro e w3 ⟨rfl, k3⟩
      have K3 := hid (K2.out.trans' k3)
      clear H3 k3 K2
      go_wp2
      go_ret
      exact ⟨rfl, K3.out⟩
  · have d0 : decide (0 ≤ k) = false := decide_eq_false h0
    have hres : plV l k = -1 := by unfold plV; rw [if_neg (by omega)]
    clear r1
    go_wp2_with fail
    refine HA.out.mono ?_
    rintro e w2 ⟨rfl, k2⟩
    have H3 := HQ.out w2 (hT1.out.kept k2)
    rw [hres] at H3
    replace H3 := hid H3
    have K2 := hid (k1.out.trans' k2)
    clear HQ k2 hres
    go_wp2_with fail
    refine H3.out.mono ?_
    rintro e w3 ⟨rfl, k3⟩
    have K3 := hid (K2.out.trans' k3)
    clear H3 k3 K2
    go_wp2
    go_ret
    exact ⟨rfl, K3.out⟩
end Go.Proofs.YtobihnkmmlkccaaDoor
