/- commit.compare, commit.Less, electionref36.Less. -/
import Derived.Test.YtggcbjchnefhfaaDoorLess
import Derived.Test.YtggcbjchnefhfaaDoorHeld
import Derived.Deep.QuietTactic
import Derived.BigQuiet
namespace Go.Cmt
def lessD (xs ys : List UInt8) : Bool := decide (cmpL xs ys < 0)
end Go.Cmt
namespace Go.Proofs.YtggcbjchnefhfaaDoor
open Go.RowKit Go.Mk Go.Sha Go.Cmt
theorem two_rows (w : World) (L M : List Value) : ∃ w1, w1 = (w.alloc (.cells L.toArray 43)).alloc (.cells M.toArray 43) ∧ w1.heap[w.heap.size]? = some (.cells L.toArray 43 (0, 0)) ∧ w1.heap[w.heap.size + 1]? = some (.cells M.toArray 43 (0, 0)) ∧ Kept no w w1 := by
  have e1 := World.size_alloc (w := w) (o := .cells L.toArray 43)
  refine ⟨_, rfl, ?_, ?_, ((Kept.refl no w).alloc _).alloc _⟩
  · rw [heap_alloc_old _ _ (by omega), heap_alloc_new]
  · rw [← e1, heap_alloc_new]
set_option maxRecDepth 100000 in
set_option maxHeartbeats 1000000 in
theorem dcompare_any (xs ys : List UInt8) (w : World) (hx : xs.length = 32) (hy : ys.length = 32) :
    Calls Tryd.prog 21 #[.agg (xs.map B).toArray, .agg (ys.map B).toArray] w fun e w' => e = .returned (.int .i64 (cmpL xs ys)) ∧ Kept no w w' := by
  have HC := hid (fun va vb w ha hb => compare_any va vb xs ys w (by omega) (by omega) ha hb)
  obtain ⟨L, hL⟩ : ∃ L, xs.map B = L := ⟨_, rfl⟩
  obtain ⟨M, hM⟩ : ∃ L, ys.map B = L := ⟨_, rfl⟩
  have lL : Hd (L.length = 32) := ⟨by rw [← hL]; simp [hx]⟩
  have lM : Hd (M.length = 32) := ⟨by rw [← hM]; simp [hy]⟩
  rw [hx, hy, hL, hM] at HC
  rw [hL, hM]
  clear hL hM
  go_enter Tryd.func21, Tryd.ntmps21
  go_upto_region 1 with fail
  obtain ⟨w1, hw1, g0, g1, k1⟩ := two_rows w L M
  rw [← hw1]
  clear hw1
  have r0 : Hd (Rd w1 1 (.slice (some ⟨w.heap.size, 0, none⟩) 32 32) 32 L) := ⟨Rd.block g0 (by rw [lL.out]) (by decide)⟩
  have r1 : Hd (Rd w1 1 (.slice (some ⟨w.heap.size + 1, 0, none⟩) 32 32) 32 M) := ⟨Rd.block g1 (by rw [lM.out]) (by decide)⟩
  replace k1 := hid k1
  clear g0 g1
  refine wp_region_held_drew (S := fun _ => True) (by kernel_rfl) trivial (fun _ => ?_)
  refine take2 0 (some 5) (.slice (some ⟨w.heap.size, 0, none⟩) 32 32) rfl rfl (by kernel_rfl) (by kernel_rfl) (by kernel_rfl) (fun _ _ _ h => h) (Or.inl ⟨by rfl, fun w hSw => ?_⟩) trivial ?_
  · go_simp
  try simp only [Act.put, List.setIfInBounds_toArray, List.set_cons_zero, List.set_cons_succ]
  refine take2 1 (some 6) (.slice (some ⟨w.heap.size + 1, 0, none⟩) 32 32) rfl rfl (by kernel_rfl) (by kernel_rfl) (by kernel_rfl) (fun _ _ _ h => h) (Or.inl ⟨by rfl, fun w hSw => ?_⟩) trivial ?_
  · go_simp
  try simp only [Act.put, List.setIfInBounds_toArray, List.set_cons_zero, List.set_cons_succ]
  refine wpAnyH_ready (rs := [2]) (by kernel_rfl) (by simp) ?_
  refine AllReadyH.cons rfl (fun K hK => ?_) AllReadyH.nil
  go_simp
  refine (HC.out _ _ w1.drew r0.out.drew r1.out.drew).mono ?_
  rintro e w2 ⟨rfl, rfl⟩
  refine hK.out _ _ trivial (fun _ => ?_)
  clear hK K
  try simp only [Act.put, List.setIfInBounds_toArray, List.set_cons_zero, List.set_cons_succ]
  refine take2 3 (some 4) (.int .i64 (cmpL xs ys)) rfl rfl (by kernel_rfl) (by kernel_rfl) (by kernel_rfl) (fun _ _ _ h => h) (Or.inl ⟨by rfl, fun w hSw => ?_⟩) trivial ?_
  · go_simp
  try simp only [Act.put, List.setIfInBounds_toArray, List.set_cons_zero, List.set_cons_succ]
  refine wpAnyH_done (by kernel_rfl) ?_ _
  go_wp2_with fail
  go_ret
  exact ⟨rfl, k1.out.drew⟩
set_option maxRecDepth 100000 in
set_option maxHeartbeats 1000000 in
theorem less_any (xs ys : List UInt8) (w : World) (hx : xs.length = 32) (hy : ys.length = 32) :
    Calls Tryd.prog 14 #[.agg (xs.map B).toArray, .agg (ys.map B).toArray] w fun e w' => e = .returned (.bool (lessD xs ys)) ∧ Kept no w w' := by
  have HC := hid (fun w => dcompare_any xs ys w hx hy)
  obtain ⟨L, hL⟩ : ∃ L, xs.map B = L := ⟨_, rfl⟩
  obtain ⟨M, hM⟩ : ∃ L, ys.map B = L := ⟨_, rfl⟩
  have iL : Hd ((Tryd.prog.info? 43).map (·.size) = some L.toArray.size) := ⟨by rw [← hL, List.size_toArray, List.length_map, hx]; kernel_rfl⟩
  have iM : Hd ((Tryd.prog.info? 43).map (·.size) = some M.toArray.size) := ⟨by rw [← hM, List.size_toArray, List.length_map, hy]; kernel_rfl⟩
  have hr := hid (show lessD xs ys = decide (cmpL xs ys < 0) from rfl)
  rw [hL, hM] at HC
  rw [hL, hM]
  clear hL hM
  go_enter Tryd.func14, Tryd.ntmps14
  go_upto_region 1 with fail
  obtain ⟨w1, hw1, g0, g1, k1⟩ := two_rows w L M
  rw [← hw1]
  clear hw1
  replace g0 := hid g0
  replace g1 := hid g1
  replace k1 := hid k1
  go_wp2_with (first | (with_reducible refine wpList_load_row rfl 43 _ rfl w.heap.size rfl 43 _ _ _ g0.out Tryd.underlying43 rfl iL.out ?_) | (with_reducible refine wpList_load_row rfl 43 _ rfl (w.heap.size + 1) rfl 43 _ _ _ g1.out Tryd.underlying43 rfl iM.out ?_))
  refine (HC.out w1).mono ?_
  rintro e w2 ⟨rfl, k2⟩
  have K2 := hid (k1.out.trans' k2)
  generalize cmpL xs ys = q at hr
  clear k1 k2 g0 g1
  go_wp2
  go_ret
  exact ⟨by rw [hr.out]; rfl, K2.out⟩
set_option maxRecDepth 100000 in
set_option maxHeartbeats 1000000 in
theorem refless_any (xs ys : List UInt8) (w : World) (hx : xs.length = 32) (hy : ys.length = 32) :
    Calls Tryd.prog 24 #[.agg (xs.map B).toArray, .agg (ys.map B).toArray] w fun e w' => e = .returned (.bool (lessD xs ys)) ∧ Kept no w w' := by
  obtain ⟨L, hL⟩ : ∃ L, xs.map B = L := ⟨_, rfl⟩
  obtain ⟨M, hM⟩ : ∃ L, ys.map B = L := ⟨_, rfl⟩
  replace hL := hid hL
  replace hM := hid hM
  rw [hL.out, hM.out]
  go_enter Tryd.func24, Tryd.ntmps24
  go_wp2
  obtain ⟨w1, hw1, g0, g1, k1⟩ := two_rows w L M
  rw [← hw1]
  clear hw1
  replace g0 := hid g0
  replace g1 := hid g1
  replace k1 := hid k1
  replace hx := hid hx
  replace hy := hid hy
  go_loopw [5] (fun i wr => ∃ k : Nat, k ≤ 32 ∧ i = .int .i64 (k : Int) ∧ Hd (xs.take k = ys.take k) ∧ Hd (Kept no w1 wr)) (fun i _ => 32 - (intOf i).toNat)
  case atStart => exact ⟨0, by omega, rfl, ⟨rfl⟩, ⟨Kept.refl _ _⟩⟩
  case round =>
    obtain ⟨k, hk, rfl, ht, hK⟩ := hrel
    by_cases hlt : k < 32
    · have hlx : k < xs.length := by rw [hx.out]; exact hlt
      have hly : k < ys.length := by rw [hy.out]; exact hlt
      have c0 : wr.cell? ⟨w.heap.size, k, none⟩ = some (.int .u8 ((xs.getD k 0).toNat : Int)) := by
        refine hK.out.cell ?_ id
        rw [cell_of_row w1 _ k _ _ _ g0.out, ← hL.out]
        simp [List.getElem?_eq_getElem hlx, List.getD_eq_getElem?_getD, B]
      have c1 : wr.cell? ⟨w.heap.size + 1, k, none⟩ = some (.int .u8 ((ys.getD k 0).toNat : Int)) := by
        refine hK.out.cell ?_ id
        rw [cell_of_row w1 _ k _ _ _ g1.out, ← hM.out]
        simp [List.getElem?_eq_getElem hly, List.getD_eq_getElem?_getD, B]
      have hk1 : (k : Int) < 32 := by omega
      have hk0 : (0 : Int) ≤ (k : Int) := by omega
      have hat := hid (fun h => cmpL_at (xs := xs) (ys := ys) hlx hly ht.out h)
      have hnx := hid (fun h => eq_split xs ys (by rw [hx.out, hy.out]) k hlx ht.out h)
      generalize xs.getD k 0 = x at c0 hat hnx
      generalize ys.getD k 0 = y at c1 hat hnx
      clear ht hlx hly
      by_cases he : x = y
      · subst he
        have hb0 : ((x.toNat : Int) != (x.toNat : Int)) = false := by simp
        have ht' := hid (hnx.out rfl)
        clear hnx hat
        go_wp2_with fail
        go_quiet (fail)
        have hK' := hid (hK.out.drewN nq)
        clear hK c0 c1
        go_wp2
        go_roundw
        case rel => first | exact ⟨k + 1, by omega, by go_num, ht', hK'⟩ | ((repeat apply Exists.intro); exact ⟨⟨k + 1, by omega, by go_num, ht', hK'⟩, rfl⟩)
        case measure => simp [intOf]; omega
      · have hb0 : ((x.toNat : Int) != (y.toNat : Int)) = true := by
          rw [bne_iff_ne]; intro h; apply he; apply UInt8.toNat_inj.1; omega
        have hr : Hd (lessD xs ys = decide (x.toNat < y.toNat)) := ⟨by
          unfold lessD
          rw [hat.out he]
          have hne : x.toNat ≠ y.toNat := fun e => he (UInt8.toNat_inj.1 e)
          unfold cmpB
          simp only [UInt8.lt_iff_toNat_lt]
          by_cases h : x.toNat < y.toNat
          · rw [if_pos h, decide_eq_true (by decide), decide_eq_true h]
          · rw [if_neg h, if_pos (by omega), decide_eq_false (by decide), decide_eq_false h]⟩
        clear hnx hat he
        go_wp2_with fail
        go_quiet (fail)
        have hK' := hid (hK.out.drewN nq)
        have c0' : (wr.drewN nq).cell? ⟨w.heap.size, k, none⟩ = some (.int .u8 (x.toNat : Int)) := c0
        have c1' : (wr.drewN nq).cell? ⟨w.heap.size + 1, k, none⟩ = some (.int .u8 (y.toNat : Int)) := c1
        generalize wr.drewN nq = wq at hK' c0' c1' ⊢
        clear hK c0 c1
        go_wp2_with fail
        go_quiet (fail)
        have hK2 := hid (k1.out.trans' (hK'.out.drewN nq))
        clear hK' c0' c1'
        go_wp2
        go_ret
        exact ⟨by rw [hr.out]; rfl, hK2.out⟩
    · obtain rfl : k = 32 := by omega
      have hr : Hd (lessD xs ys = false) := ⟨by
        have h1 := ht.out
        rw [List.take_of_length_le (by rw [hx.out]; exact Nat.le_refl _), List.take_of_length_le (by rw [hy.out]; exact Nat.le_refl _)] at h1
        unfold lessD
        rw [h1, cmpL_same]; rfl⟩
      have hK' := hid (k1.out.trans' hK.out)
      clear ht hK
      go_wp2
      go_ret
      exact ⟨by rw [hr.out]; rfl, hK'.out⟩
end Go.Proofs.YtggcbjchnefhfaaDoor
