/- commit.Less: cmp.Compare, slices.Compare over bytes. -/
import Derived.Test.YtggcbjchnefhfaaDoorNums
import Derived.Test.YtggcbjchnefhfaaDoorDig
import Derived.Test.YtggcbjchnefhfaaDoorEq
namespace Go.Cmt
def cmpB (x y : UInt8) : Int := if x < y then -1 else if y < x then 1 else 0
def cmpL : List UInt8 → List UInt8 → Int
  | [], [] => 0
  | [], _ :: _ => -1
  | _ :: _, [] => 1
  | x :: xs, y :: ys => if x = y then cmpL xs ys else cmpB x y
theorem cmpB_self (x : UInt8) : cmpB x x = 0 := by simp [cmpB]
theorem cmpB_ne {x y : UInt8} (h : x ≠ y) : cmpB x y ≠ 0 := by
  have h' : x.toNat ≠ y.toNat := fun e => h (UInt8.toNat_inj.1 e)
  unfold cmpB
  simp only [UInt8.lt_iff_toNat_lt]
  split
  · decide
  · split
    · decide
    · omega
theorem cmpL_same (xs : List UInt8) : cmpL xs xs = 0 := by
  induction xs with
  | nil => rfl
  | cons x xs ih => simp [cmpL, ih]
theorem cmpL_at {xs ys : List UInt8} {k : Nat} (hx : k < xs.length) (hy : k < ys.length) (ht : xs.take k = ys.take k) (hne : xs.getD k 0 ≠ ys.getD k 0) : cmpL xs ys = cmpB (xs.getD k 0) (ys.getD k 0) := by
  induction k generalizing xs ys with
  | zero =>
    match xs, ys, hx, hy with
    | x :: xs, y :: ys, _, _ =>
      have hne' : x ≠ y := by simpa using hne
      simp [cmpL, hne']
  | succ k ih =>
    match xs, ys, hx, hy with
    | x :: xs, y :: ys, hx, hy =>
      simp only [List.take_succ_cons, List.cons.injEq] at ht
      obtain ⟨rfl, ht⟩ := ht
      have := ih (xs := xs) (ys := ys) (by simpa using hx) (by simpa using hy) ht (by simpa using hne)
      simpa [cmpL] using this
end Go.Cmt
namespace Go.Proofs.YtggcbjchnefhfaaDoor
open Go.RowKit Go.Mk Go.Sha Go.Cmt
set_option maxRecDepth 100000 in
set_option maxHeartbeats 1000000 in
theorem isnan_any (x : UInt8) (w : World) : Calls Tryd.prog 59 #[B x] w fun e w' => e = .returned (.bool false) ∧ w = w' := by
  unfold B
  go_enter Tryd.func59, Tryd.ntmps59
  go_wp2
  go_ret
  exact ⟨rfl, rfl⟩
set_option maxRecDepth 100000 in
set_option maxHeartbeats 1000000 in
theorem cmp_any (x y : UInt8) (w : World) : Calls Tryd.prog 48 #[B x, B y] w fun e w' => e = .returned (.int .i64 (cmpB x y)) ∧ w = w' := by
  have HN := hid isnan_any
  have hc := hid (show cmpB x y = if x.toNat < y.toNat then -1 else if y.toNat < x.toNat then 1 else 0 by unfold cmpB; simp only [UInt8.lt_iff_toNat_lt])
  unfold B at HN ⊢
  go_enter Tryd.func48, Tryd.ntmps48
  go_wp2_with fail
  refine (HN.out x w).mono ?_
  rintro e w' ⟨rfl, rfl⟩
  go_wp2_with fail
  refine (HN.out y w).mono ?_
  rintro e w' ⟨rfl, rfl⟩
  rcases Nat.lt_trichotomy x.toNat y.toNat with h | h | h
  · have h1 : (x.toNat : Int) < (y.toNat : Int) := by omega
    rw [if_pos h] at hc
    go_wp2
    go_ret
    exact ⟨by rw [hc.out]; rfl, rfl⟩
  · have h1 : ¬ (x.toNat : Int) < (y.toNat : Int) := by omega
    have h2 : ¬ (y.toNat : Int) < (x.toNat : Int) := by omega
    rw [if_neg (by omega), if_neg (by omega)] at hc
    clear h
    go_wp2
    go_ret
    exact ⟨by rw [hc.out]; rfl, rfl⟩
  · have h1 : ¬ (x.toNat : Int) < (y.toNat : Int) := by omega
    have h2 : (y.toNat : Int) < (x.toNat : Int) := by omega
    rw [if_neg (by omega), if_pos h] at hc
    go_wp2
    go_ret
    exact ⟨by rw [hc.out]; rfl, rfl⟩
set_option maxRecDepth 100000 in
set_option maxHeartbeats 1000000 in
theorem compare_any (va vb : Value) (xs ys : List UInt8) (w : World) (hx : xs.length ≤ 1000000) (hl : ys.length = xs.length) (ha : Rd w 1 va xs.length (xs.map B)) (hb : Rd w 1 vb ys.length (ys.map B)) :
    Calls Tryd.prog 32 #[va, vb] w fun e w' => e = .returned (.int .i64 (cmpL xs ys)) ∧ w = w' := by
  obtain ⟨aa, ca, rfl⟩ := Rd.shapeZ ha
  obtain ⟨ab, cb, rfl⟩ := Rd.shapeZ hb
  replace hl := hid hl
  replace ha := hid ha
  replace hb := hid hb
  have HC := hid cmp_any
  unfold B at HC
  go_enter Tryd.func32, Tryd.ntmps32
  go_wp2
  go_loopw [11] (fun i wr => ∃ k : Nat, k ≤ xs.length ∧ i = .int .i64 (k : Int) ∧ Hd (xs.take k = ys.take k) ∧ wr = w) (fun i _ => xs.length - (intOf i).toNat)
  case atStart => exact ⟨0, by omega, rfl, ⟨rfl⟩, rfl⟩
  case round =>
    obtain ⟨k, hk, rfl, ht, rfl⟩ := hrel
    by_cases hlt : k < xs.length
    · obtain ⟨b, o, rfl, hca⟩ := Rd.at ha.out k hlt
      obtain ⟨b', o', rfl, hcb⟩ := Rd.at hb.out k (by rw [hl.out]; exact hlt)
      have hk1 : (k : Int) < (xs.length : Int) := by omega
      have hk2 : (k : Int) < (ys.length : Int) := by rw [hl.out]; omega
      have hk3 : ¬ (ys.length : Int) ≤ (k : Int) := by omega
      have hat := hid (fun h => cmpL_at (xs := xs) (ys := ys) hlt (by rw [hl.out]; exact hlt) ht.out h)
      have hnx := hid (fun h => eq_split xs ys hl.out.symm k hlt ht.out h)
      generalize xs.getD k 0 = x at hca hat hnx
      generalize ys.getD k 0 = y at hcb hat hnx
      clear ht
      go_wp2_with fail
      refine (HC.out x y _).mono ?_
      rintro e w' ⟨rfl, rfl⟩
      by_cases he : x = y
      · have hz := cmpB_self x
        rw [← he, hz]
        have hnx' := hid (hnx.out he)
        clear hnx hat hz hca hcb
        go_wp2
        go_roundw
        case rel => first | exact ⟨k + 1, by omega, by go_num, hnx', by trivial⟩ | ((repeat apply Exists.intro); exact ⟨⟨k + 1, by omega, by go_num, hnx', by trivial⟩, rfl⟩)
        case measure => simp [intOf]; omega
      · have hz := cmpB_ne he
        have hr := hid (hat.out he)
        generalize cmpB x y = r at hz hr
        clear hnx hat hca hcb
        go_wp2
        go_ret
        exact ⟨by rw [hr.out]; rfl, rfl⟩
    · obtain rfl : k = xs.length := by omega
      have hr : Hd (cmpL xs ys = 0) := ⟨by
        have := ht.out
        rw [List.take_length, ← hl.out, List.take_length] at this
        rw [this, cmpL_same]⟩
      have h1 : ¬ (xs.length : Int) < (xs.length : Int) := by omega
      have h2 : ¬ (xs.length : Int) < (ys.length : Int) := by rw [hl.out]; omega
      go_wp2
      go_ret
      exact ⟨by rw [hr.out]; rfl, rfl⟩
end Go.Proofs.YtggcbjchnefhfaaDoor
