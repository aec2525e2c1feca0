/- strconv.Itoa at one to sixteen. -/
import Derived.Test.YtobihnkmmlkccaaDoorBit5
namespace Go.Proofs.YtobihnkmmlkccaaDoor
open Go.RowKit Go.Mk Go.Bit
def decS (n : Nat) : List UInt8 := if n < 10 then [UInt8.ofNat (48 + n)] else [UInt8.ofNat (48 + n / 10), UInt8.ofNat (48 + n % 10)]
set_option maxRecDepth 20000 in
set_option maxHeartbeats 4000000 in
theorem itoa_any (n : Nat) (w : World) (h1 : 1 ≤ n) (h2 : n ≤ 16) : Calls Tryd.prog 12 #[.int .i64 (n : Int)] w fun e w' => e = .returned (.string ⟨(decS n).toArray⟩) ∧ w' = w := by
  rcases (show n = 1 ∨ n = 2 ∨ n = 3 ∨ n = 4 ∨ n = 5 ∨ n = 6 ∨ n = 7 ∨ n = 8 ∨ n = 9 ∨ n = 10 ∨ n = 11 ∨ n = 12 ∨ n = 13 ∨ n = 14 ∨ n = 15 ∨ n = 16 by omega) with rfl | rfl | rfl | rfl | rfl | rfl | rfl | rfl | rfl | rfl | rfl | rfl | rfl | rfl | rfl | rfl
  all_goals (go_enter Tryd.func12, Tryd.ntmps12; go_wp2; go_ret; exact ⟨by kernel_rfl, rfl⟩)
/-- The reference's digits of the same numbers. -/
theorem refdigits_any (v : Value) (n : Nat) (w : World) (h1 : 1 ≤ n) (h2 : n ≤ 16) (hr : RdT w v (smallF 64 n)) : Calls Tryd.prog 14 #[v] w fun e w' => e = .returned (.string ⟨(decS n).toArray⟩) ∧ Kept no w w' := by
  obtain ⟨h3, h4, h5⟩ := digs ⟨n, by omega⟩ h1
  have hl : (smallF 64 n).length ≤ 1000 := by
    have : ∀ f m, (smallF f m).length ≤ f := by
      intro f
      induction f with
      | zero => intro m; exact Nat.le_refl _
      | succ f ih => intro m; unfold smallF; split
                     · exact Nat.zero_le _
                     · rw [List.length_cons]; exact Nat.succ_le_succ (ih _)
    have := this 64 n; omega
  have := digits_any v (smallF 64 n) 3 w (by decide) hl h4 h3 hr
  rw [h5] at this
  exact this
end Go.Proofs.YtobihnkmmlkccaaDoor
