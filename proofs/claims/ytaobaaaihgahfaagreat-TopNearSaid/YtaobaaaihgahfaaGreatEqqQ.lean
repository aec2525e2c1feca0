/- electionref05.Eq on equal lists; the last six bits of a number. -/
import Derived.Test.YtaobaaaihgahfaaGreatTwoQ
import Derived.Test.YtaobaaaihgahfaaGreatMpLQ
import Derived.Test.YtaobaaaihgahfaaGreatNodMQ
import Derived.Test.YtaobaaaihgahfaaGreatRTailQ
import Derived.Test.YtaobaaaihgahfaaGreatSrchQ
import Derived.Test.YtaobaaaihgahfaaGreatAddQ
import Derived.Test.YtaobaaaihgahfaaGreatReachQ
import Derived.Test.YtaobaaaihgahfaaGreatDistQ
import Derived.Test.YtaobaaaihgahfaaGreatKitQ
import Derived.Test.YtaobaaaihgahfaaGreatNodeQ
import Derived.Test.YtaobaaaihgahfaaGreatCntQ
import Derived.Test.YtaobaaaihgahfaaGreatGrpQ
import Derived.Test.YtaobaaaihgahfaaGreatPossQ
import Derived.Laws.CopyRow
import Derived.Shelf.Bits.Mul64
namespace Go.Proofs.YtaobaaaihgahfaaGreat
open Go.RowKit Go.Mk Go.Pil Go.Nt Go.Mg Go.Tp
set_option maxRecDepth 20000 in
set_option maxHeartbeats 400000 in
theorem eq5_any (va vb : Value) (xs : List Int) (w : World) (ha : RdZ w va xs) (hb : RdZ w vb xs) :
    Calls Tryz.prog 12 #[va, vb] w fun e w' => e = .returned (.bool true) ∧ Kept no w w' := by
  (obtain ⟨ao, ca, rfl, hca, hcam⟩ := Rd.shape2 ha); (have hm63 := maxLen_63); (obtain ⟨bo, cb, rfl⟩ := Rd.shapeZ hb); (obtain ⟨n, hn⟩ : ∃ n, xs.length = n := ⟨_, rfl⟩); (rw [hn] at ha hb hca ⊢); (replace ha := hid ha); (replace hb := hid hb); (replace hn := hid hn); (have hlb : ((n : Int) != (n : Int)) = false := by simp)
  go_enter Tryz.func12, Tryz.ntmps12
  go_wp2
  go_loopw [5] (fun i wr => ∃ k : Nat, k ≤ n ∧ i = .int .i64 (k : Int) ∧ Hd (Kept no w wr)) (fun i _ => n - (intOf i).toNat)
  case atStart => exact ⟨0, by omega, rfl, ⟨Kept.refl _ _⟩⟩
  case round =>
    obtain ⟨k, hk, rfl, hW⟩ := hrel
    by_cases hlt : k < n
    · (have hk1 : (k : Int) < (n : Int) := by omega); (have hk0 : (0 : Int) ≤ (k : Int) := by omega); (have hkl : k < xs.length := by rw [hn.out]; exact hlt); (obtain ⟨b1, o1, rfl, c1⟩ := RdZ.at (ha.out.kept hW.out) k hkl); (obtain ⟨b2, o2, rfl, c2⟩ := RdZ.at (hb.out.kept hW.out) k hkl); (generalize xs.getD k 0 = x at c1 c2); (have hb0 : (x != x) = false := by simp); (go_wp2_with fail); (go_quiet (fail)); (have hW' : Hd (Kept no w (wr.drewN nq)) := ⟨hW.out.drewN nq⟩); (go_wp2); (go_roundw)
      case rel => first | exact ⟨k + 1, by omega, by go_num, hW'⟩ | ((repeat apply Exists.intro); exact ⟨⟨k + 1, by omega, by go_num, hW'⟩, rfl⟩)
      case measure => simp [intOf]; omega
    · (obtain rfl : k = n := by omega); (have hk1 : ¬ (k : Int) < (k : Int) := by omega); (go_wp2); (go_ret); (exact ⟨rfl, hW.out⟩)
end Go.Proofs.YtaobaaaihgahfaaGreat
namespace Go.Tp
open Go.Pil Go.Mg
theorem mk_ok {n : Int} {ls : List (List Int)} (h : (mk n ls).2 = 0) : isPile n (mk n ls).1 = true ∧ tot (mk n ls).1 = (ls.length : Int) := by
  unfold mk at h ⊢
  by_cases h1 : n < 1 ∨ 7 < n
  · rw [if_pos h1] at h; simp at h
  · rw [if_neg h1] at h ⊢
    by_cases h2 : 100000 < ls.length
    · rw [if_pos h2] at h; simp at h
    · rw [if_neg h2] at h ⊢
      by_cases h3 : allB n ls = true
      · (rw [if_pos h3] at h ⊢); (exact ⟨pile_of_ballots (List.all_eq_true.1 h3) (by omega), by rw [pileOf_tot (ones_pos _), ones_tot]⟩)
      · rw [if_neg h3] at h; simp at h
theorem fit_ok {n : Nat} {t : Int} {g : List Grp} {l : List Int} (h : fitP 1 n 1 1 0 t g l = 0) : 1 ≤ n ∧ n ≤ 7 ∧ isPile (n : Int) g = true ∧ l.length = n ∧ ballot (n : Int) l = true := by
  (unfold fitP at h); (rw [if_neg (by omega)] at h)
  have hn : 1 ≤ n ∧ n ≤ 7 := Classical.byContradiction fun hh => by
    rw [if_pos (by omega)] at h
    simp at h
  have h2 : ¬ (n < 1 ∨ 7 < n ∨ (1 : Int) < 1 ∨ (5 : Int) < 1 ∨ ((1 : Int) = 1 ∧ (1 : Int) ≠ 1) ∨ (if (1 : Int) = 2 then (0 : Int) < 1 ∨ (6 : Int) < 0 else (0 : Int) ≠ 0) ∨ t < 1 ∨ 3 < t) := fun hh => by
    rw [if_pos hh] at h
    simp at h
  rw [if_neg h2] at h
  by_cases h3 : isPile (n : Int) g = true
  · rw [if_pos h3] at h
    by_cases h4 : permB n l = true
    · (unfold permB at h4); (rw [Bool.and_eq_true] at h4); (obtain ⟨h5, h6⟩ := h4); (refine ⟨hn.1, hn.2, h3, ?_, ?_⟩)
      · first | exact of_decide_eq_true h6 | exact of_decide_eq_true h5
      · first | exact h5 | exact h6
    · rw [if_neg h4] at h
      simp at h
  · rw [if_neg h3] at h
    simp at h
theorem dist_eq {n : Nat} {a b : List Grp} (h7 : n ≤ 7) (ha : isPile (n : Int) a = true) (hb : isPile (n : Int) b = true) (ht : tot a = tot b) : dist a b = tot a - com a b := by
  (have ha7 := isPile_mono (show (n : Int) ≤ 7 by omega) ha); (have hb7 := isPile_mono (show (n : Int) ≤ 7 by omega) hb); (have e1 : total a = tot a := by unfold total; rw [if_pos ha7]); (have e2 : total b = tot b := by unfold total; rw [if_pos hb7]); (unfold dist); (rw [if_pos ⟨ha7, hb7, by rw [e1, e2]; exact ht⟩, e1])
end Go.Tp
