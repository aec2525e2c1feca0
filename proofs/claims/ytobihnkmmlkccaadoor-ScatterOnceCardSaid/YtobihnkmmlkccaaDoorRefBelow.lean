/- Source.Below, the reference's. -/
import Derived.Test.YtobihnkmmlkccaaDoorBelow
import Derived.Test.YtobihnkmmlkccaaDoorRefWord
namespace Go.Proofs.YtobihnkmmlkccaaDoor
open Go.RowKit Go.Mk Go.Sha Go.Rnd
theorem TabR.at1 {g : Nat} {s : ByteArray} {c : Nat} {w w' : World} (hT : TabR w) (hS : Src 43 g s c w) (hk : Kept (at1 g) w w') : TabR w' := fun i hi => by
  have h0 := hT i hi
  have hne : 4 ≠ g := by
    rintro rfl
    unfold Src at hS
    have := cell_of_row w 4 i _ _ (0, 0) hS
    rw [h0] at this
    match i, hi with
    | 0, _ => cases this
    | 1, _ => cases this
    | i + 2, _ => simp at this
  exact hk.cell h0 hne
theorem _root_.Go.Rnd.BInv.x0 {s : List UInt8} {rest c k x c' : Nat} (h : BInv s rest c k x c') (hk : k < 16) : BInv s rest c k 0 c' := by
  rcases h with h | ⟨h, _⟩
  · exact .inl h
  · omega
theorem rest_ref (n : Nat) (h : 0 < n) : (18446744073709551615 : Int) % (n : Int) + 1 = if restOf n = 0 then (n : Int) else (restOf n : Int) := by
  have key : ∀ r : Nat, 18446744073709551616 % n = r → (18446744073709551615 % n + 1 : Nat) = if r = 0 then n else r := by
    intro r hr
    have h1 := Nat.div_add_mod 18446744073709551615 n
    have hlt := Nat.mod_lt 18446744073709551615 h
    by_cases hm : 18446744073709551615 % n + 1 = n
    · have : 18446744073709551616 % n = 0 := by
        have e : (18446744073709551616 : Nat) = n * (18446744073709551615 / n + 1) := by rw [Nat.mul_add]; omega
        rw [e]; exact Nat.mul_mod_right _ _
      rw [this] at hr; subst hr; rw [if_pos rfl]; exact hm
    · have : 18446744073709551616 % n = 18446744073709551615 % n + 1 := by
        have e : (18446744073709551616 : Nat) = (18446744073709551615 % n + 1) + n * (18446744073709551615 / n) := by omega
        rw [e, Nat.add_mul_mod_self_left]; exact Nat.mod_eq_of_lt (by omega)
      rw [this] at hr; rw [if_neg (by omega)]; exact hr
  have := key (restOf n) rfl
  have h2 : (18446744073709551615 : Int) % (n : Int) = ((18446744073709551615 % n : Nat) : Int) := rfl
  rw [h2]
  split
  · rename_i h0; rw [if_pos h0] at this; omega
  · rename_i h0; rw [if_neg h0] at this; omega
set_option maxHeartbeats 400000 in
theorem refbelow_no (p : Option Addr) (n : Int) (w : World) (hn : n < 1 ∨ 2147483648 < n) :
    Calls Tryd.prog 23 #[.pointer p, .int .i64 n] w fun e w' => e = .returned (.int .i64 0) ∧ w = w' := by
  rcases hn with hn | hn
  · go_enter Tryd.func23, Tryd.ntmps23
    go_wp2
    go_ret
    exact ⟨rfl, rfl⟩
  · have h1 : ¬ n < 1 := by omega
    go_enter Tryd.func23, Tryd.ntmps23
    go_wp2
    go_ret
    exact ⟨rfl, rfl⟩
set_option maxRecDepth 100000 in
set_option maxHeartbeats 1000000 in
theorem refbelow_any (g : Nat) (s : ByteArray) (n c : Nat) (w : World) (h1 : 1 ≤ n) (h2 : n ≤ 2147483648) (hc : c < 4611686018427300000) (hs : s.size ≤ 1000000) (hS : Src 43 g s c w) (hT : TabR w) :
    Calls Tryd.prog 23 #[.pointer (some ⟨g, 0, none⟩), .int .i64 n] w fun e w' => e = .returned (.int .i64 ((below s.data.toList n c).1 : Int)) ∧ Src 43 g s (below s.data.toList n c).2 w' ∧ Kept (at1 g) w w' := by
  replace hT := hid hT
  replace hS := hid hS
  have b1 : ¬ (n : Int) < 1 := by omega
  have b2 : (n : Int) ≤ 2147483648 := by omega
  have b3 : IntKind.u64.wrap (n : Int) = (n : Int) := len_u64 n (by omega)
  have b7 : decide ((2147483648 : Int) < (n : Int)) = false := by simp; omega
  have b5 := rest_ref n h1
  have b6 := restOf_lt n h1
  have hB := hid (below_of s.data.toList n c)
  generalize restOf n = R at b5 b6 hB
  have b9 : (0 : Int) ≤ (18446744073709551615 : Int) % (n : Int) := Int.emod_nonneg _ (by omega)
  have b10 : (18446744073709551615 : Int) % (n : Int) ≤ 2147483648 := by have := Int.emod_lt_of_pos (18446744073709551615 : Int) (show (0 : Int) < (n : Int) by omega); omega
  by_cases hR0 : R = 0
  · rw [if_pos hR0] at b5
    have b11 : ((18446744073709551615 : Int) % (n : Int) + 1 == (n : Int)) = true := by rw [beq_iff_eq]; exact b5
    subst hR0
    go_enter Tryd.func23, Tryd.ntmps23
    go_wp2
    have hN0 := hid (show (n : Int) ≠ 0 by omega)
    clear b5 b9 b10 b11 b7
    go_loopw [7, 8] (fun i _ wr => ∃ (k : Nat), k ≤ 15 ∧ i = .int .i64 ((k : Int) + 1) ∧ Hd (BInv s.data.toList 0 c k 0 (c + k)) ∧ Hd (Src 43 g s (c + k) wr) ∧ Hd (Kept (at1 g) w wr)) (fun i _ _ => 17 - (intOf i).toNat)
    case atStart => exact ⟨0, by omega, rfl, ⟨BInv.start _ _ _ _⟩, hS, ⟨Kept.refl _ _⟩⟩
    case round =>
      obtain ⟨k, hk, rfl, hI, sS, kS⟩ := hrel
      have HW := hid (refword_any g s (c + k) wr (by omega) hs sS.out (hT.out.at1 hS.out kS.out))
      have hx := word_lt s.data.toList (c + k)
      have hA := hid (hI.out.acc (by omega))
      have hM := hid (hI.out.next (by omega))
      generalize word s.data.toList (c + k) = x at HW hx hA hM
      have b8 : IntKind.i64.wrap ((x : Int) % (n : Int)) = (x : Int) % (n : Int) := by
        have h3 : (x : Int) % (n : Int) < (n : Int) := Int.emod_lt_of_pos _ (by omega)
        have h4 : 0 ≤ (x : Int) % (n : Int) := Int.emod_nonneg _ (by omega)
        exact wrap64_small _ h4 (by omega)
      have ha : (x : Int) ≤ 18446744073709551615 := by omega
      have hfin := hid (hB.out _ _ (hA.out (by omega)))
      clear hA hM hI
      go_wp2_with fail
      refine HW.out.mono ?_
      rintro e w2 ⟨rfl, s2, k2⟩
      replace s2 := hid s2
      replace k2 := hid (at1_trans kS.out k2)
      clear HW sS kS
      go_wp2
      go_ret
      exact ⟨by rw [hfin.out]; rfl, by rw [hfin.out]; exact s2.out, k2.out⟩
  · rw [if_neg hR0] at b5
    have b11 : ((R : Int) == (n : Int)) = false := by rw [beq_eq_false_iff_ne]; omega
    have b12 : (0 : Int) ≤ 18446744073709551615 - (R : Int) := by omega
    go_enter Tryd.func23, Tryd.ntmps23
    go_wp2
    have hN0 := hid (show (n : Int) ≠ 0 by omega)
    clear b5 b9 b10 b11 b7
    go_loopw [7, 8] (fun i _ wr => ∃ (k : Nat), k ≤ 15 ∧ i = .int .i64 ((k : Int) + 1) ∧ Hd (BInv s.data.toList R c k 0 (c + k)) ∧ Hd (Src 43 g s (c + k) wr) ∧ Hd (Kept (at1 g) w wr)) (fun i _ _ => 17 - (intOf i).toNat)
    case atStart => exact ⟨0, by omega, rfl, ⟨BInv.start _ _ _ _⟩, hS, ⟨Kept.refl _ _⟩⟩
    case round =>
      obtain ⟨k, hk, rfl, hI, sS, kS⟩ := hrel
      have HW := hid (refword_any g s (c + k) wr (by omega) hs sS.out (hT.out.at1 hS.out kS.out))
      have hx := word_lt s.data.toList (c + k)
      have hA := hid (hI.out.acc (by omega))
      have hM := hid (hI.out.next (by omega))
      generalize word s.data.toList (c + k) = x at HW hx hA hM
      have b8 : IntKind.i64.wrap ((x : Int) % (n : Int)) = (x : Int) % (n : Int) := by
        have h3 : (x : Int) % (n : Int) < (n : Int) := Int.emod_lt_of_pos _ (by omega)
        have h4 : 0 ≤ (x : Int) % (n : Int) := Int.emod_nonneg _ (by omega)
        exact wrap64_small _ h4 (by omega)
      by_cases hacc : x + R < 18446744073709551616
      · have ha : (x : Int) ≤ 18446744073709551615 - (R : Int) := by omega
        have hfin := hid (hB.out _ _ (hA.out hacc))
        clear hA hM hI hacc
        go_wp2_with fail
        refine HW.out.mono ?_
        rintro e w2 ⟨rfl, s2, k2⟩
        replace s2 := hid s2
        replace k2 := hid (at1_trans kS.out k2)
        clear HW sS kS
        go_wp2
        go_ret
        exact ⟨by rw [hfin.out]; rfl, by rw [hfin.out]; exact s2.out, k2.out⟩
      · have ha : ¬ (x : Int) ≤ 18446744073709551615 - (R : Int) := by omega
        have hnext := hid (hM.out hacc)
        by_cases h15 : k = 15
        · have h16 : ((k : Int) + 1 == 16) = true := by rw [beq_iff_eq]; omega
          have hfin := hid (hB.out _ _ (hnext.out.last (by omega)))
          clear hA hM hI hacc h15 hnext
          go_wp2_with fail
          refine HW.out.mono ?_
          rintro e w2 ⟨rfl, s2, k2⟩
          replace s2 := hid s2
          replace k2 := hid (at1_trans kS.out k2)
          clear HW sS kS
          go_wp2
          go_ret
          exact ⟨by rw [hfin.out]; rfl, by rw [hfin.out]; exact s2.out, k2.out⟩
        · have h16 : ((k : Int) + 1 == 16) = false := by rw [beq_eq_false_iff_ne]; omega
          have hk15 : k < 15 := by omega
          clear hA hM hI hacc h15
          go_wp2_with fail
          refine HW.out.mono ?_
          rintro e w2 ⟨rfl, s2, k2⟩
          replace s2 := hid s2
          replace k2 := hid (at1_trans kS.out k2)
          clear HW sS kS
          go_wp2
          go_roundw
          case rel => first | exact ⟨k + 1, by omega, congrArg (Value.int .i64) (by omega), ⟨(hnext.out).x0 (by omega)⟩, s2, k2⟩ | ((repeat apply Exists.intro); exact ⟨⟨k + 1, by omega, congrArg (Value.int .i64) (by omega), ⟨(hnext.out).x0 (by omega)⟩, s2, k2⟩, rfl⟩)
          case measure => simp [intOf]; omega
end Go.Proofs.YtobihnkmmlkccaaDoor
