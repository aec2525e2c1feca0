/- board.possible, board.half, electionref23.split. -/
import Derived.Test.YtknbkhmpnanegaaDoorEnt
import Derived.Shelf.Strconv.Itoa0
namespace Go.Proofs.YtknbkhmpnanegaaDoor
open Go.RowKit Go.Mk Go.Sha Go.Brd
def poss (k : Int) : Bool := decide (1 ≤ k) && decide (k ≤ 10)
set_option maxRecDepth 100000 in
set_option maxHeartbeats 1000000 in
theorem possible_any (k : Int) (w : World) : Calls Tryd.prog 55 #[.int .i64 k] w fun e w' => e = .returned (.bool (poss k)) ∧ w = w' := by
  by_cases h1 : 1 ≤ k
  · by_cases h2 : k ≤ 10
    · have hp : Hd (poss k = true) := ⟨by simp [poss, h1, h2]⟩
      go_enter Tryd.func55, Tryd.ntmps55
      go_wp2
      go_ret
      exact ⟨by rw [hp.out]; rfl, rfl⟩
    · have hp : Hd (poss k = false) := ⟨by simp [poss, h2]⟩
      go_enter Tryd.func55, Tryd.ntmps55
      go_wp2
      go_ret
      exact ⟨by rw [hp.out]; rfl, rfl⟩
  · have hp : Hd (poss k = false) := ⟨by simp [poss, h1]⟩
    go_enter Tryd.func55, Tryd.ntmps55
    go_wp2
    go_ret
    exact ⟨by rw [hp.out]; rfl, rfl⟩
theorem bitLen_log : ∀ x : Fin 64, x.val ≠ 0 → Lib.bitLen x.val = Nat.log2 x.val + 1 := by decide +kernel
def lenRen : Go.Shelf.Ren := ⟨fun | 129 => 87 | n => n, fun | 3 => 3 | 4 => 4 | 5 => 5 | 9 => 9 | 46 => 86 | 53 => 98 | n => n, fun n => n⟩
theorem lenLays : Go.Proofs.Lays.n129 Tryd.prog lenRen := { mixed := by kernel_rfl, f129 := by kernel_rfl, t3 := by kernel_rfl, a3 := fun _ => by kernel_rfl, z3 := fun _ => by kernel_rfl, v3 := fun _ => by kernel_rfl, t4 := by kernel_rfl, a4 := fun _ => by kernel_rfl, z4 := fun _ => by kernel_rfl, v4 := fun _ => by kernel_rfl, t5 := by kernel_rfl, a5 := fun _ => by kernel_rfl, z5 := fun _ => by kernel_rfl, v5 := fun _ => by kernel_rfl, t9 := by kernel_rfl, a9 := fun _ => by kernel_rfl, z9 := fun _ => by kernel_rfl, v9 := fun _ => by kernel_rfl, t46 := by kernel_rfl, a46 := fun _ => by kernel_rfl, z46 := fun _ => by kernel_rfl, v46 := fun _ => by kernel_rfl, t53 := by kernel_rfl, a53 := fun _ => by kernel_rfl, z53 := fun _ => by kernel_rfl, v53 := fun _ => by kernel_rfl }
theorem len64_any (x : Nat) (w : World) (h : x < 64) : Calls Tryd.prog 87 #[.int .u64 (x : Int)] w fun e w' => e = .returned (.int .i64 (Lib.bitLen x : Int)) ∧ w = w' :=
  (Go.Proofs.Any.bits_Len64 lenLays (x : Int) w (by omega) (by omega)).mono fun _ _ ⟨h1, h2⟩ => ⟨by rw [h1, Int.toNat_natCast], h2.symm⟩
set_option maxRecDepth 100000 in
set_option maxHeartbeats 1000000 in
theorem len_any (x : Nat) (w : World) (h : x < 64) : Calls Tryd.prog 79 #[.int .u64 (x : Int)] w fun e w' => e = .returned (.int .i64 (Lib.bitLen x : Int)) ∧ w = w' := by
  have HL := hid (len64_any x w h)
  have h1 : (x : Int) < 64 := by omega
  go_enter Tryd.func79, Tryd.ntmps79
  go_wp2_with (refine HL.out.mono ?_; rintro e w' ⟨rfl, rfl⟩)
  go_ret
  exact ⟨rfl, rfl⟩
theorem pow_wrap (j : Nat) (h : j < 6) : wrap64 (2 ^ j) = 2 ^ j := by
  rcases (show j = 0 ∨ j = 1 ∨ j = 2 ∨ j = 3 ∨ j = 4 ∨ j = 5 by omega) with rfl | rfl | rfl | rfl | rfl | rfl <;> (unfold wrap64; decide)
set_option maxRecDepth 100000 in
set_option maxHeartbeats 1000000 in
theorem half_any (n : Nat) (w : World) (h2 : 2 ≤ n) (h : n ≤ 63) : Calls Tryd.prog 65 #[.int .i64 (n : Int)] w fun e w' => e = .returned (.int .i64 (half n : Int)) ∧ w = w' := by
  obtain ⟨m, rfl⟩ : ∃ m, n = m + 1 := ⟨n - 1, by omega⟩
  have HL := hid (len_any m w (by omega))
  have hb := bitLen_log ⟨m, by omega⟩ (by show m ≠ 0; omega)
  simp only at hb
  have hh : Hd (((half (m + 1) : Nat) : Int) = 2 ^ Nat.log2 m) := ⟨by unfold half; simp⟩
  rw [hb] at HL
  clear hb
  have hlt : Nat.log2 m < 6 := (Nat.log2_lt (by omega)).2 (by omega)
  generalize Nat.log2 m = j at HL hh hlt
  have e1 : ((m + 1 : Nat) : Int) - 1 = (m : Int) := by omega
  have e2 : (((j + 1 : Nat) : Int)) - 1 = (j : Int) := by omega
  have hm : (m : Int) < 64 := by omega
  go_enter Tryd.func65, Tryd.ntmps65
  go_wp2_with (refine HL.out.mono ?_; rintro e w' ⟨rfl, rfl⟩)
  go_ret
  exact ⟨congrArg (fun z => Ending.returned (Value.int IntKind.i64 z)) (by rw [hh.out]; exact pow_wrap j hlt), rfl⟩
theorem half_unique (n j : Nat) (h1 : 2 ^ j < n) (h2 : n ≤ 2 * 2 ^ j) : half n = 2 ^ j := by
  unfold half
  congr 1
  rw [Nat.log2_eq_iff (by have := Nat.pow_pos (n := j) (show 0 < 2 by decide); omega)]
  rw [Nat.pow_succ]; omega
set_option maxRecDepth 100000 in
set_option maxHeartbeats 1000000 in
theorem split_any (n : Nat) (w : World) (h2 : 2 ≤ n) (h : n ≤ 63) : Calls Tryd.prog 58 #[.int .i64 (n : Int)] w fun e w' => e = .returned (.int .i64 (half n : Int)) ∧ w = w' := by
  go_enter Tryd.func58, Tryd.ntmps58
  go_wp2
  go_loop [3] (fun k => ∃ m : Nat, k = .int .i64 (m : Int) ∧ 1 ≤ m ∧ m < n ∧ Hd (∃ j, m = 2 ^ j)) (fun k => n - (intOf k).toNat)
  case atStart => exact ⟨1, rfl, by omega, by omega, ⟨0, rfl⟩⟩
  case round =>
    obtain ⟨m, rfl, h1m, hmn, hj⟩ := hrel
    by_cases hlt : m < n - m
    · have hc : (m : Int) < (n : Int) - (m : Int) := by omega
      have hj' : Hd (∃ j, 2 * m = 2 ^ j) := ⟨by obtain ⟨j, rfl⟩ := hj.out; exact ⟨j + 1, by rw [Nat.pow_succ]; omega⟩⟩
      clear hj
      go_wp2
      go_round
      case rel => exact ⟨2 * m, by go_num, by omega, by omega, hj'⟩
      case measure => simp [intOf]; omega
    · have hc : ¬ (m : Int) < (n : Int) - (m : Int) := by omega
      have hv : Hd (half n = m) := ⟨by obtain ⟨j, rfl⟩ := hj.out; exact half_unique n j hmn (by omega)⟩
      clear hj
      go_wp2
      go_ret
      exact ⟨by rw [hv.out]; rfl, rfl⟩
end Go.Proofs.YtknbkhmpnanegaaDoor
