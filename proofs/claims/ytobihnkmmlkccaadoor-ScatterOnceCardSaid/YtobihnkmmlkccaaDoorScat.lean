/- scatter.Place, law 17's Awake. -/
import Derived.Test.YtobihnkmmlkccaaDoorPlc
namespace Go.Proofs.YtobihnkmmlkccaaDoor
open Go.RowKit Go.Mk Go.Bit Go.Sha Go.Rnd
def plV (l : List Nat) (k : Int) : Int := if 0 ≤ k ∧ k < (l.length : Int) then ((l.getD k.toNat 0 : Nat) : Int) else -1
theorem rdI_shape {w : World} {v : Value} {n : Nat} {l : List Nat} (h : Rd w 1 v n (l.map I)) : ∃ ao cap, v = .slice ao n cap := by
  obtain ⟨_, a, c, e, _⟩ := h; exact ⟨a, c, e⟩
set_option maxHeartbeats 2000000 in
theorem place_any (s : ByteArray) (a b n k : Int) (w : World) (hs : s.size ≤ 1000) (hT : Tab w) : Calls Tryd.prog 10 #[.string s, .int .i64 a, .int .i64 b, .int .i64 n, .int .i64 k] w fun e w' => e = .returned (.int .i64 (plV (placesL s a b n) k)) ∧ Kept no w w' := by
  have HP := hid (places_any s a b n w hs hT)
  obtain ⟨l, hl⟩ : ∃ l, placesL s a b n = l := ⟨_, rfl⟩
  rw [hl] at HP ⊢
  clear hl
  obtain ⟨res, hres⟩ : ∃ r, plV l k = r := ⟨_, rfl⟩
  rw [hres]
  replace hres := hid hres
  go_enter Tryd.func10, Tryd.ntmps10
  go_wp2_with fail
  refine HP.out.mono ?_
  rintro e w1 ⟨v, rfl, r1, k1⟩
  obtain ⟨ao, cap, rfl⟩ := rdI_shape r1
  replace k1 := hid k1
  obtain ⟨len, hlen⟩ : ∃ x, l.length = x := ⟨_, rfl⟩
  rw [hlen] at r1 ⊢
  clear HP
  by_cases h0 : k < 0
  · have d0 : decide (k < 0) = true := decide_eq_true h0
    obtain rfl : res = -1 := by rw [← hres.out]; unfold plV; rw [if_neg (by omega)]
    clear r1 hres
    go_wp2
    go_ret
    exact ⟨rfl, k1.out⟩
  · have d0 : decide (k < 0) = false := decide_eq_false h0
    by_cases h1 : (len : Int) ≤ k
    · have d1 : decide ((len : Int) ≤ k) = true := decide_eq_true h1
      obtain rfl : res = -1 := by rw [← hres.out]; unfold plV; rw [if_neg (by omega)]
      clear r1 hres
      go_wp2
      go_ret
      exact ⟨rfl, k1.out⟩
    · have d1 : decide ((len : Int) ≤ k) = false := decide_eq_false h1
      obtain ⟨q, rfl⟩ : ∃ q : Nat, k = (q : Int) := ⟨k.toNat, by omega⟩
      have hq : q < len := by omega
      have hqi : (q : Int) < (len : Int) := by omega
      have hq0 : (0 : Int) ≤ (q : Int) := by omega
      obtain ⟨b0, o0, rfl, c0⟩ := RdI.at r1 hlen q hq
      have hv : Hd (res = ((l.getD q 0 : Nat) : Int)) := ⟨by rw [← hres.out]; unfold plV; rw [if_pos (by omega), Int.toNat_natCast]⟩
      generalize l.getD q 0 = z at c0 hv
      clear r1 hres
      go_wp2
      go_ret
      exact ⟨by rw [hv.out]; rfl, k1.out⟩
def xS : ByteArray := ⟨#[120]⟩
set_option maxHeartbeats 2000000 in
theorem awake17_any (w : World) (hT : Tab w) : Calls Tryd.prog 6 #[] w fun e w' => e = .returned (.bool true) ∧ Kept no w w' := by
  have HP := places_any xS 1 1 4 w (by decide) hT
  have HQ := fun (W : World) (h : Tab W) => place_any xS 1 1 1 0 W (by decide) h
  have e1 : (placesL xS 1 1 4).length = 4 := by unfold placesL; rw [if_pos (by unfold okPl; omega)]; exact perm_length _ _ _
  have e2 : plV (placesL xS 1 1 1) 0 = 0 := by
    have hp : (placesL xS 1 1 1).Perm (List.range 1) := by unfold placesL; rw [if_pos (by unfold okPl; omega)]; exact perm_perm _ _ _
    have : placesL xS 1 1 1 = [0] := List.perm_singleton.1 hp
    rw [this]; rfl
  rw [e1] at HP
  rw [e2] at HQ
  have hx := hid (show xS = ⟨#[120]⟩ from rfl)
  rw [hx.out] at HP HQ
  generalize placesL ⟨#[120]⟩ 1 1 4 = l at HP
  replace HP := hid HP
  replace HQ := hid HQ
  replace hT := hid hT
  clear e1 e2
  go_enter Tryd.func6, Tryd.ntmps6
  go_wp2_with fail
  refine HP.out.mono ?_
  rintro e w1 ⟨v, rfl, r1, k1⟩
  obtain ⟨ao, cap, rfl⟩ := rdI_shape r1
  replace k1 := hid k1
  have H2 := hid (HQ.out w1 (hT.out.kept k1.out))
  clear r1 HP HQ
  go_wp2_with fail
  refine H2.out.mono ?_
  rintro e w2 ⟨rfl, k2⟩
  have K := hid (k1.out.trans' k2)
  clear H2 k1 k2
  go_wp2
  go_ret
  exact ⟨rfl, K.out⟩
end Go.Proofs.YtobihnkmmlkccaaDoor
