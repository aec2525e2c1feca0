/- Source.Below, the program's. -/
import Derived.Test.YtobihnkmmlkccaaDoorWord
namespace Go.Rnd
theorem tries_acc (s : List UInt8) (rest k c : Nat) (h : word s c + rest < 18446744073709551616) : tries s rest (k + 1) c = (word s c, c + 1) := by
  simp only [tries]; rw [if_pos (.inl h)]
theorem tries_last (s : List UInt8) (rest c : Nat) : tries s rest 1 c = (word s c, c + 1) := by
  rw [tries, if_pos (.inr rfl)]
theorem tries_more (s : List UInt8) (rest k c : Nat) (h : ¬ word s c + rest < 18446744073709551616) : tries s rest (k + 2) c = tries s rest (k + 1) (c + 1) := by
  rw [tries, if_neg (by omega)]
/-- What the loop of Below knows at the head of round k. -/
def BInv (s : List UInt8) (rest c k : Nat) (x : Nat) (c' : Nat) : Prop := (k < 16 ∧ tries s rest (16 - k) c' = tries s rest 16 c) ∨ (k = 16 ∧ (x, c') = tries s rest 16 c)
theorem BInv.acc {s : List UInt8} {rest c k x c' : Nat} (h : BInv s rest c k x c') (hk : k < 16) (ha : word s c' + rest < 18446744073709551616) : (word s c', c' + 1) = tries s rest 16 c := by
  rcases h with ⟨_, h⟩ | ⟨h, _⟩
  · rw [← h, show 16 - k = (15 - k) + 1 by omega, tries_acc s rest _ c' ha]
  · omega
theorem BInv.next {s : List UInt8} {rest c k x c' : Nat} (h : BInv s rest c k x c') (hk : k < 16) (ha : ¬ word s c' + rest < 18446744073709551616) : BInv s rest c (k + 1) (word s c') (c' + 1) := by
  rcases h with ⟨_, h⟩ | ⟨h, _⟩
  · by_cases h15 : k = 15
    · subst h15
      exact .inr ⟨rfl, by rw [← h]; exact (tries_last s rest c').symm⟩
    · refine .inl ⟨by omega, ?_⟩
      rw [← h, show 16 - k = (14 - k) + 2 by omega, tries_more s rest _ c' ha, show 16 - (k + 1) = 14 - k + 1 by omega]
  · omega
theorem BInv.last {s : List UInt8} {rest c k x c' : Nat} (h : BInv s rest c k x c') (hk : ¬ k < 16) : (x, c') = tries s rest 16 c := by
  rcases h with ⟨h, _⟩ | ⟨_, h⟩
  · omega
  · exact h
theorem BInv.start (s : List UInt8) (rest c x : Nat) : BInv s rest c 0 x c := .inl ⟨by decide, rfl⟩
def restOf (n : Nat) : Nat := 18446744073709551616 % n
theorem restOf_lt (n : Nat) (h : 0 < n) : restOf n < n := Nat.mod_lt _ h
theorem rest_neg (n : Nat) (_ : 0 < n) (_ : n ≤ 2147483648) : (18446744073709551616 - (n : Int)) % (n : Int) = (restOf n : Int) := by
  unfold restOf
  rw [Int.natCast_emod, show (18446744073709551616 - (n : Int)) = 18446744073709551616 + (n : Int) * (-1) by omega, Int.add_mul_emod_self_left]
  rfl
theorem below_of (s : List UInt8) (n c x c' : Nat) (h : (x, c') = tries s (restOf n) 16 c) : below s n c = (x % n, c') := by
  unfold below
  have := h.symm
  unfold restOf at this
  simp only [this]
end Go.Rnd
namespace Go.Proofs.YtobihnkmmlkccaaDoor
open Go.RowKit Go.Mk Go.Sha Go.Rnd
theorem at1_trans {g : Nat} {w w1 w' : World} (h : Kept (at1 g) w w1) (h' : Kept (at1 g) w1 w') : Kept (at1 g) w w' := h.trans h' fun _ _ x => x
theorem Tab.at1 {g : Nat} {s : ByteArray} {c : Nat} {w w' : World} (hT : Tab w) (hS : Src 48 g s c w) (hk : Kept (at1 g) w w') : Tab w' := fun i hi => by
  have h0 := hT i hi
  have hne : 3 ≠ g := by
    rintro rfl
    unfold Src at hS
    have := cell_of_row w 3 i _ _ (0, 0) hS
    rw [h0] at this
    match i, hi with
    | 0, _ => cases this
    | 1, _ => cases this
    | i + 2, _ => simp at this
  exact hk.cell h0 hne
set_option maxHeartbeats 400000 in
theorem below_no (p : Option Addr) (n : Int) (w : World) (hn : n < 1 ∨ 2147483648 < n) :
    Calls Tryd.prog 21 #[.pointer p, .int .i64 n] w fun e w' => e = .returned (.int .i64 0) ∧ w = w' := by
  cases p with
  | none =>
    go_enter Tryd.func21, Tryd.ntmps21
    go_wp2
    go_ret
    exact ⟨rfl, rfl⟩
  | some a =>
    rcases hn with hn | hn
    · go_enter Tryd.func21, Tryd.ntmps21
      go_wp2
      go_ret
      exact ⟨rfl, rfl⟩
    · have h1 : ¬ n < 1 := by omega
      go_enter Tryd.func21, Tryd.ntmps21
      go_wp2
      go_ret
      exact ⟨rfl, rfl⟩
set_option maxHeartbeats 400000 in
theorem below_nil (n : Int) (w : World) :
    Calls Tryd.prog 21 #[.pointer none, .int .i64 n] w fun e w' => e = .returned (.int .i64 0) ∧ w = w' := by
  go_enter Tryd.func21, Tryd.ntmps21
  go_wp2
  go_ret
  exact ⟨rfl, rfl⟩
set_option maxRecDepth 100000 in
set_option maxHeartbeats 1000000 in
theorem below_any (g : Nat) (s : ByteArray) (n c : Nat) (w : World) (h1 : 1 ≤ n) (h2 : n ≤ 2147483648) (hc : c < 4611686018427300000) (hs : s.size ≤ 1000000) (hS : Src 48 g s c w) (hT : Tab w) :
    Calls Tryd.prog 21 #[.pointer (some ⟨g, 0, none⟩), .int .i64 n] w fun e w' => e = .returned (.int .i64 ((below s.data.toList n c).1 : Int)) ∧ Src 48 g s (below s.data.toList n c).2 w' ∧ Kept (at1 g) w w' := by
  replace hT := hid hT
  replace hS := hid hS
  have b1 : ¬ (n : Int) < 1 := by omega
  have b2 : (n : Int) ≤ 2147483648 := by omega
  have b3 : IntKind.u64.wrap (n : Int) = (n : Int) := len_u64 n (by omega)
  have b4 : IntKind.u64.wrap (-(n : Int)) = 18446744073709551616 - (n : Int) := by simp only [IntKind.wrap, IntKind.bits, IntKind.signed]; simp; omega
  have b7 : decide ((2147483648 : Int) < (n : Int)) = false := by simp; omega
  have b5 := rest_neg n h1 h2
  have b6 := restOf_lt n h1
  have hB := hid (below_of s.data.toList n c)
  generalize restOf n = R at b5 b6 hB
  go_enter Tryd.func21, Tryd.ntmps21
  go_wp2
  have hgl := lt_of_heap hS.out
  have hN0 := hid (show (n : Int) ≠ 0 by omega)
  clear b4 b5
  go_loopw [6, 23] (fun x i wr => ∃ (k xv c' : Nat), k ≤ 16 ∧ i = .int .i64 (k : Int) ∧ x = .int .u64 (xv : Int) ∧ c' = c + k ∧ Hd (BInv s.data.toList R c k xv c') ∧ Hd (Src 48 g s c' wr) ∧ Hd (Kept (at1 g) w wr)) (fun _ i _ => 16 - (intOf i).toNat)
  case atStart => exact ⟨0, 0, c, by omega, rfl, rfl, rfl, ⟨BInv.start _ _ _ _⟩, hS, ⟨Kept.refl _ _⟩⟩
  case round =>
    obtain ⟨k, xv, c', hk, rfl, rfl, rfl, hI, sS, kS⟩ := hrel
    by_cases hlt : k < 16
    · have HW := hid (word_any g s (c + k) wr (by omega) hs sS.out (hT.out.at1 hS.out kS.out))
      have hx := word_lt s.data.toList (c + k)
      have hA := hid (hI.out.acc hlt)
      have hM := hid (hI.out.next hlt)
      generalize word s.data.toList (c + k) = x at HW hx hA hM
      have b8 : IntKind.i64.wrap ((x : Int) % (n : Int)) = (x : Int) % (n : Int) := by
        have h3 : (x : Int) % (n : Int) < (n : Int) := Int.emod_lt_of_pos _ (by omega)
        have h4 : 0 ≤ (x : Int) % (n : Int) := Int.emod_nonneg _ (by omega)
        exact wrap64_small _ h4 (by omega)
      by_cases hR0 : R = 0
      · have hz : ((R : Int) == 0) = true := by rw [beq_iff_eq]; omega
        have hfin := hid (hB.out _ _ (hA.out (by omega)))
        clear hA hM hI hR0
        go_wp2_with fail
        refine HW.out.mono ?_
        rintro e w2 ⟨rfl, s2, k2⟩
        replace s2 := hid s2
        replace k2 := hid (at1_trans kS.out k2)
        clear HW sS kS
        go_wp2
        go_ret
        exact ⟨by rw [hfin.out]; rfl, by rw [hfin.out]; exact s2.out, k2.out⟩
      · have hz : ((R : Int) == 0) = false := by rw [beq_eq_false_iff_ne]; omega
        have b4 : IntKind.u64.wrap (-(R : Int)) = 18446744073709551616 - (R : Int) := by simp only [IntKind.wrap, IntKind.bits, IntKind.signed]; simp; omega
        by_cases hacc : x + R < 18446744073709551616
        · have ha : (x : Int) < 18446744073709551616 - (R : Int) := by omega
          have hfin := hid (hB.out _ _ (hA.out hacc))
          clear hA hM hI hR0 hacc
          go_wp2_with fail
          refine HW.out.mono ?_
          rintro e w2 ⟨rfl, s2, k2⟩
          replace s2 := hid s2
          replace k2 := hid (at1_trans kS.out k2)
          clear HW sS kS
          go_wp2
          go_ret
          exact ⟨by rw [hfin.out]; rfl, by rw [hfin.out]; exact s2.out, k2.out⟩
        · have ha : ¬ (x : Int) < 18446744073709551616 - (R : Int) := by omega
          have hnext := hid (hM.out hacc)
          clear hA hM hI hR0 hacc b8
          go_wp2_with fail
          refine HW.out.mono ?_
          rintro e w2 ⟨rfl, s2, k2⟩
          replace s2 := hid s2
          replace k2 := hid (at1_trans kS.out k2)
          clear HW sS kS
          go_wp2
          go_roundw
          case rel => first | exact ⟨k + 1, x, c + k + 1, by omega, by go_num, rfl, by omega, hnext, s2, k2⟩ | ((repeat apply Exists.intro); exact ⟨⟨k + 1, x, c + k + 1, by omega, by go_num, rfl, by omega, hnext, s2, k2⟩, rfl⟩)
          case measure => simp [intOf]; omega
    · obtain rfl : k = 16 := by omega
      have hfin := hid (hB.out _ _ (hI.out.last hlt))
      have b8 : IntKind.i64.wrap ((xv : Int) % (n : Int)) = (xv : Int) % (n : Int) := by
        have h3 : (xv : Int) % (n : Int) < (n : Int) := Int.emod_lt_of_pos _ (by omega)
        have h4 : 0 ≤ (xv : Int) % (n : Int) := Int.emod_nonneg _ (by omega)
        exact wrap64_small _ h4 (by omega)
      clear hI
      go_wp2
      go_ret
      exact ⟨by rw [hfin.out]; rfl, by rw [hfin.out]; exact sS.out, kS.out⟩
end Go.Proofs.YtobihnkmmlkccaaDoor
