/- electionlaw38.CommitTells (printed by gen_tells.py). -/
import Derived.Test.YtknbkhmpnanegaaDoorAwk38
namespace Go.Proofs.YtknbkhmpnanegaaDoor
open Go.RowKit Go.Mk Go.Sha Go.Cmt
theorem RdZ.take {w : World} {ao : Option Addr} {n cap : Nat} {zs : List Int} (h : RdZ w (.slice ao n cap) zs) (k : Nat) : RdZ w (.slice ao (min n k) cap) (zs.take k) := by
  obtain ⟨_, _, _, e, h1, h2, h3⟩ := h
  cases e
  refine ⟨by simp, ao, cap, by simp [Nat.min_comm], by simp; omega, h2, h3.imp id fun ⟨b, o, e, hc⟩ => ⟨b, o, e, fun j u hj => hc j u ?_⟩⟩
  rw [List.map_take, List.getElem?_take] at hj
  split at hj
  · exact hj
  · cases hj
set_option maxRecDepth 100000 in
set_option maxHeartbeats 4000000 in
theorem tells_any (s : ByteArray) (c a b d : Int) (v3 : Value) (zs : List Int) (D : List UInt8) (w : World) (hs : s.size ≤ 9223372036854775807) (hn : zs.length ≤ 9223372036854775807) (hr : RdZ w v3 zs) (hD : D.length = 32) (hT : Tab w) (hR : TabR w) :
    Calls Tryd.prog 3 #[.string s, .int .i64 c, .agg #[.int .i64 a, .int .i64 b, .int .i64 d], v3, .agg (D.map B).toArray] w fun e w' => e = .returned (.bool true) ∧ Kept no w w' := by
  obtain ⟨ao, cap, rfl⟩ := Rd.shapeZ hr
  have hsz := shortS_size s
  have HSH := hid (fun w => short_any s hs w)
  obtain ⟨s', hs'⟩ : ∃ s', shortS s = s' := ⟨_, rfl⟩
  rw [hs'] at hsz HSH
  clear hs'
  have HI := hid (fun w => ints_any ao zs.length cap hn (by obtain ⟨_, _, _, e, h1, _⟩ := hr; cases e; exact h1) w)
  have hr9 := RdZ.take hr 9
  obtain ⟨ys, hys⟩ : ∃ ys, zs.take 9 = ys := ⟨_, rfl⟩
  have hyl : ys.length ≤ 9 := by rw [← hys, List.length_take]; omega
  rw [hys] at hr9
  generalize min zs.length 9 = q at hr9 HI
  obtain ⟨A1, hA1⟩ : ∃ A, (saltD s'.data.toList [c, a, b, d]).map B = A := ⟨_, rfl⟩
  obtain ⟨A2, hA2⟩ : ∃ A, (commitD D [c, a, b, d] ys).map B = A := ⟨_, rfl⟩
  have heq1 : ∀ w, (binOp .eql 26 (.agg A1.toArray) (.agg A1.toArray)).run Tryd.prog w = .ok (.bool true) w := fun w => by
    rw [← hA1, eql_digest (saltD s'.data.toList [c, a, b, d]) (saltD s'.data.toList [c, a, b, d]) (sum_length _) (sum_length _) w]; simp
  have heq2 : ∀ w, (binOp .eql 26 (.agg A2.toArray) (.agg A2.toArray)).run Tryd.prog w = .ok (.bool true) w := fun w => by
    rw [← hA2, eql_digest (commitD D [c, a, b, d] ys) (commitD D [c, a, b, d] ys) (sum_length _) (sum_length _) w]; simp
  have HS : Hd (∀ w, Tab w → Calls Tryd.prog 16 #[.string s', .int .i64 c, .agg #[.int .i64 a, .int .i64 b, .int .i64 d]] w fun e w' => e = .returned (.agg A1.toArray) ∧ Kept no w w') := ⟨fun w h => by rw [← hA1]; exact salt_any s' c a b d w (by omega) h⟩
  have HR : Hd (∀ w, TabR w → Calls Tryd.prog 17 #[.string s', .int .i64 c, .agg #[.int .i64 a, .int .i64 b, .int .i64 d]] w fun e w' => e = .returned (.agg A1.toArray) ∧ Kept no w w') := ⟨fun w h => by rw [← hA1]; exact refsalt_any s' c a b d w (by omega) h⟩
  obtain ⟨L, hL⟩ : ∃ L, D.map B = L := ⟨_, rfl⟩
  have HO : Hd (∀ v w, RdZ w v ys → Tab w → Calls Tryd.prog 18 #[.agg L.toArray, .int .i64 c, .agg #[.int .i64 a, .int .i64 b, .int .i64 d], v] w fun e w' => e = .returned (.agg A2.toArray) ∧ Kept no w w') := ⟨fun v w hr h => by rw [← hL, ← hA2]; exact commit_any v D ys c a b d w hD (by omega) hr h⟩
  have HQ : Hd (∀ v w, RdZ w v ys → TabR w → Calls Tryd.prog 19 #[.agg L.toArray, .int .i64 c, .agg #[.int .i64 a, .int .i64 b, .int .i64 d], v] w fun e w' => e = .returned (.agg A2.toArray) ∧ Kept no w w') := ⟨fun v w hr h => by rw [← hL, ← hA2]; exact refcommit_any v D ys c a b d w hD (by omega) hr h⟩
  have infL : Hd ((Tryd.prog.info? 26).map (·.size) = some L.length) := ⟨by rw [← hL, List.length_map, hD]; kernel_rfl⟩
  have HA := hid (fun w hT hR => awake38_any w hT hR)
  have hun := Tryd.underlying26
  have hgd := guard_digest
  rw [hL]
  clear hL hA1 hA2 hys hr
  replace hT := hid hT
  replace hR := hid hR
  replace hr9 := hid hr9
  go_enter Tryd.func3, Tryd.ntmps3
  go_upto_region 1 with fail
  obtain ⟨w1, hw1, r1, e1, k1⟩ : ∃ w1, w1 = (w.alloc (.cells #[.int .i64 a, .int .i64 b, .int .i64 d] 23)).alloc (.cells L.toArray 26) ∧ w1.rangeAt (w.heap.size + 1) 0 L ∧ S3 w.heap.size a b d w1 ∧ Kept no w w1 := by
    have z := World.size_alloc (w := w) (o := .cells #[.int .i64 a, .int .i64 b, .int .i64 d] 23)
    refine ⟨_, rfl, range_row (t := 26) (fr := (0, 0)) (by rw [← z]; exact heap_alloc_new _ _), S3.reads (w := w.alloc (.cells #[.int .i64 a, .int .i64 b, .int .i64 d] 23)) ⟨cell_of_row _ _ 0 _ _ _ (heap_alloc_new _ _), cell_of_row _ _ 1 _ _ _ (heap_alloc_new _ _), cell_of_row _ _ 2 _ _ _ (heap_alloc_new _ _)⟩ ((Kept.refl no _).alloc _).reads, ((Kept.refl no w).alloc _).alloc _⟩
  rw [← hw1]
  clear hw1
  have s00 := hid (show (fun w' : World => w'.rangeAt (w.heap.size + 1) 0 L ∧ S3 w.heap.size a b d w') w1.drew from ⟨r1, e1⟩)
  have K00 := hid k1.drew
  clear r1 e1 k1
  go_upto_region 2 with (first | (refine (HSH.out _).mono ?_; rintro e w' ⟨rfl, rfl⟩) | (refine (HI.out _).mono ?_; rintro e w' ⟨rfl, rfl⟩))
  have step : Hd (∀ {w1 w' : World}, (w1.rangeAt (w.heap.size + 1) 0 L ∧ S3 w.heap.size a b d w1) → Kept no w1 w' → (w'.rangeAt (w.heap.size + 1) 0 L ∧ S3 w.heap.size a b d w')) := ⟨fun h k => ⟨fun j u hu => k.cell (h.1 j u hu) id, h.2.reads k.reads⟩⟩
  refine wp_region_held_drew (S := fun w' => w'.rangeAt (w.heap.size + 1) 0 L ∧ S3 w.heap.size a b d w') (by kernel_rfl) s00.out (fun _ => ?_)
  generalize w1.drew = W0 at s00 K00 ⊢
  refine wpAnyH_ready (rs := [0]) (by kernel_rfl) (by simp) ?_
  refine AllReadyH.cons rfl (fun K hK => ?_) AllReadyH.nil
  go_simp
  refine (HA.out _ (hT.out.kept K00.out) (hR.out.kept K00.out)).mono ?_
  rintro e W1 ⟨rfl, k1⟩
  refine hK.out _ _ (step.out s00.out k1) (fun _ => ?_)
  clear hK K
  try simp only [Act.put, List.setIfInBounds_toArray, List.set_cons_zero, List.set_cons_succ]
  have s1 := hid (step.out s00.out k1)
  have K1x := hid (K00.out.trans' k1)
  clear k1
  refine take2 1 (some 16) (.bool true) rfl rfl (by kernel_rfl) (by kernel_rfl) (by kernel_rfl) (fun _ _ _ h => h) (Or.inl ⟨by rfl, fun w hSw => ?_⟩) s1.out ?_
  · go_simp
  try simp only [Act.put, List.setIfInBounds_toArray, List.set_cons_zero, List.set_cons_succ]
  refine take2 2 (some 17) (.string s') rfl rfl (by kernel_rfl) (by kernel_rfl) (by kernel_rfl) (fun _ _ _ h => h) (Or.inl ⟨by rfl, fun w hSw => ?_⟩) s1.out ?_
  · go_simp
  try simp only [Act.put, List.setIfInBounds_toArray, List.set_cons_zero, List.set_cons_succ]
  refine take2 3 (some 18) (.int .i64 c) rfl rfl (by kernel_rfl) (by kernel_rfl) (by kernel_rfl) (fun _ _ _ h => h) (Or.inl ⟨by rfl, fun w hSw => ?_⟩) s1.out ?_
  · go_simp
  try simp only [Act.put, List.setIfInBounds_toArray, List.set_cons_zero, List.set_cons_succ]
  refine take2 4 (some 19) (.agg #[.int .i64 a, .int .i64 b, .int .i64 d]) rfl rfl (by kernel_rfl) (by kernel_rfl) (by kernel_rfl) (fun _ _ _ h => h) (Or.inl ⟨by rfl, fun w hSw => ?_⟩) s1.out ?_
  · obtain ⟨_, h0, h1, h2⟩ := hSw
    go_simp
  try simp only [Act.put, List.setIfInBounds_toArray, List.set_cons_zero, List.set_cons_succ]
  refine take2 6 (some 21) (.string s') rfl rfl (by kernel_rfl) (by kernel_rfl) (by kernel_rfl) (fun _ _ _ h => h) (Or.inl ⟨by rfl, fun w hSw => ?_⟩) s1.out ?_
  · go_simp
  try simp only [Act.put, List.setIfInBounds_toArray, List.set_cons_zero, List.set_cons_succ]
  refine take2 7 (some 22) (.int .i64 c) rfl rfl (by kernel_rfl) (by kernel_rfl) (by kernel_rfl) (fun _ _ _ h => h) (Or.inl ⟨by rfl, fun w hSw => ?_⟩) s1.out ?_
  · go_simp
  try simp only [Act.put, List.setIfInBounds_toArray, List.set_cons_zero, List.set_cons_succ]
  refine take2 8 (some 23) (.agg #[.int .i64 a, .int .i64 b, .int .i64 d]) rfl rfl (by kernel_rfl) (by kernel_rfl) (by kernel_rfl) (fun _ _ _ h => h) (Or.inl ⟨by rfl, fun w hSw => ?_⟩) s1.out ?_
  · obtain ⟨_, h0, h1, h2⟩ := hSw
    go_simp
  try simp only [Act.put, List.setIfInBounds_toArray, List.set_cons_zero, List.set_cons_succ]
  refine wpAnyH_ready (rs := [5]) (by kernel_rfl) (by simp) ?_
  refine AllReadyH.cons rfl (fun K hK => ?_) AllReadyH.nil
  go_simp
  refine (HS.out _ (hT.out.kept K1x.out)).mono ?_
  rintro e W2 ⟨rfl, k2⟩
  refine hK.out _ _ (step.out s1.out k2) (fun _ => ?_)
  clear hK K
  try simp only [Act.put, List.setIfInBounds_toArray, List.set_cons_zero, List.set_cons_succ]
  have s2 := hid (step.out s1.out k2)
  have K2x := hid (K1x.out.trans' k2)
  clear k2
  refine wpAnyH_ready (rs := [9]) (by kernel_rfl) (by simp) ?_
  refine AllReadyH.cons rfl (fun K hK => ?_) AllReadyH.nil
  go_simp
  refine (HR.out _ (hR.out.kept K2x.out)).mono ?_
  rintro e W3 ⟨rfl, k3⟩
  refine hK.out _ _ (step.out s2.out k3) (fun _ => ?_)
  clear hK K
  try simp only [Act.put, List.setIfInBounds_toArray, List.set_cons_zero, List.set_cons_succ]
  have s3 := hid (step.out s2.out k3)
  have K3x := hid (K2x.out.trans' k3)
  clear k3
  refine take2 10 (some 25) (.bool true) rfl rfl (by kernel_rfl) (by kernel_rfl) (by kernel_rfl) (fun _ _ _ h => h) (Or.inl ⟨by rfl, fun w hSw => ?_⟩) s3.out ?_
  · go_simp
  try simp only [Act.put, List.setIfInBounds_toArray, List.set_cons_zero, List.set_cons_succ]
  refine take2 11 (some 26) (.bool true) rfl rfl (by kernel_rfl) (by kernel_rfl) (by kernel_rfl) (fun _ _ _ h => h) (Or.inl ⟨by rfl, fun w hSw => ?_⟩) s3.out ?_
  · go_simp
  try simp only [Act.put, List.setIfInBounds_toArray, List.set_cons_zero, List.set_cons_succ]
  refine take2 12 (some 27) (.bool true) rfl rfl (by kernel_rfl) (by kernel_rfl) (by kernel_rfl) (fun _ _ _ h => h) (Or.inl ⟨by rfl, fun w hSw => ?_⟩) s3.out ?_
  · go_simp
  try simp only [Act.put, List.setIfInBounds_toArray, List.set_cons_zero, List.set_cons_succ]
  refine takeRow 13 (some 28) 26 (.tmp 9) (w.heap.size + 1) 0 L rfl rfl rfl (by kernel_rfl) (by kernel_rfl) (by kernel_rfl) (fun _ _ _ h => h) (by rfl) rfl (fun w h => h.1) hun rfl infL.out s3.out ?_
  try simp only [Act.put, List.setIfInBounds_toArray, List.set_cons_zero, List.set_cons_succ]
  refine take2 14 (some 29) (.int .i64 c) rfl rfl (by kernel_rfl) (by kernel_rfl) (by kernel_rfl) (fun _ _ _ h => h) (Or.inl ⟨by rfl, fun w hSw => ?_⟩) s3.out ?_
  · go_simp
  try simp only [Act.put, List.setIfInBounds_toArray, List.set_cons_zero, List.set_cons_succ]
  refine take2 15 (some 30) (.agg #[.int .i64 a, .int .i64 b, .int .i64 d]) rfl rfl (by kernel_rfl) (by kernel_rfl) (by kernel_rfl) (fun _ _ _ h => h) (Or.inl ⟨by rfl, fun w hSw => ?_⟩) s3.out ?_
  · obtain ⟨_, h0, h1, h2⟩ := hSw
    go_simp
  try simp only [Act.put, List.setIfInBounds_toArray, List.set_cons_zero, List.set_cons_succ]
  refine take2 16 (some 31) (.slice ao q cap) rfl rfl (by kernel_rfl) (by kernel_rfl) (by kernel_rfl) (fun _ _ _ h => h) (Or.inl ⟨by rfl, fun w hSw => ?_⟩) s3.out ?_
  · go_simp
  try simp only [Act.put, List.setIfInBounds_toArray, List.set_cons_zero, List.set_cons_succ]
  refine takeRow 18 (some 33) 26 (.tmp 9) (w.heap.size + 1) 0 L rfl rfl rfl (by kernel_rfl) (by kernel_rfl) (by kernel_rfl) (fun _ _ _ h => h) (by rfl) rfl (fun w h => h.1) hun rfl infL.out s3.out ?_
  try simp only [Act.put, List.setIfInBounds_toArray, List.set_cons_zero, List.set_cons_succ]
  refine take2 19 (some 34) (.int .i64 c) rfl rfl (by kernel_rfl) (by kernel_rfl) (by kernel_rfl) (fun _ _ _ h => h) (Or.inl ⟨by rfl, fun w hSw => ?_⟩) s3.out ?_
  · go_simp
  try simp only [Act.put, List.setIfInBounds_toArray, List.set_cons_zero, List.set_cons_succ]
  refine take2 20 (some 35) (.agg #[.int .i64 a, .int .i64 b, .int .i64 d]) rfl rfl (by kernel_rfl) (by kernel_rfl) (by kernel_rfl) (fun _ _ _ h => h) (Or.inl ⟨by rfl, fun w hSw => ?_⟩) s3.out ?_
  · obtain ⟨_, h0, h1, h2⟩ := hSw
    go_simp
  try simp only [Act.put, List.setIfInBounds_toArray, List.set_cons_zero, List.set_cons_succ]
  refine take2 21 (some 36) (.slice ao q cap) rfl rfl (by kernel_rfl) (by kernel_rfl) (by kernel_rfl) (fun _ _ _ h => h) (Or.inl ⟨by rfl, fun w hSw => ?_⟩) s3.out ?_
  · go_simp
  try simp only [Act.put, List.setIfInBounds_toArray, List.set_cons_zero, List.set_cons_succ]
  refine wpAnyH_ready (rs := [17]) (by kernel_rfl) (by simp) ?_
  refine AllReadyH.cons rfl (fun K hK => ?_) AllReadyH.nil
  go_simp
  refine (HO.out _ _ (hr9.out.kept K3x.out) (hT.out.kept K3x.out)).mono ?_
  rintro e W4 ⟨rfl, k4⟩
  refine hK.out _ _ (step.out s3.out k4) (fun _ => ?_)
  clear hK K
  try simp only [Act.put, List.setIfInBounds_toArray, List.set_cons_zero, List.set_cons_succ]
  have s4 := hid (step.out s3.out k4)
  have K4x := hid (K3x.out.trans' k4)
  clear k4
  refine wpAnyH_ready (rs := [22]) (by kernel_rfl) (by simp) ?_
  refine AllReadyH.cons rfl (fun K hK => ?_) AllReadyH.nil
  go_simp
  refine (HQ.out _ _ (hr9.out.kept K4x.out) (hR.out.kept K4x.out)).mono ?_
  rintro e W5 ⟨rfl, k5⟩
  refine hK.out _ _ (step.out s4.out k5) (fun _ => ?_)
  clear hK K
  try simp only [Act.put, List.setIfInBounds_toArray, List.set_cons_zero, List.set_cons_succ]
  have s5 := hid (step.out s4.out k5)
  have K5x := hid (K4x.out.trans' k5)
  clear k5
  refine take2 23 (some 38) (.bool true) rfl rfl (by kernel_rfl) (by kernel_rfl) (by kernel_rfl) (fun _ _ _ h => h) (Or.inl ⟨by rfl, fun w hSw => ?_⟩) s5.out ?_
  · go_simp
  try simp only [Act.put, List.setIfInBounds_toArray, List.set_cons_zero, List.set_cons_succ]
  refine take2 24 (some 39) (.bool true) rfl rfl (by kernel_rfl) (by kernel_rfl) (by kernel_rfl) (fun _ _ _ h => h) (Or.inl ⟨by rfl, fun w hSw => ?_⟩) s5.out ?_
  · go_simp
  try simp only [Act.put, List.setIfInBounds_toArray, List.set_cons_zero, List.set_cons_succ]
  refine take2 25 (some 10) (.bool true) rfl rfl (by kernel_rfl) (by kernel_rfl) (by kernel_rfl) (fun _ _ _ h => h) (Or.inl ⟨by rfl, fun w hSw => ?_⟩) s5.out ?_
  · go_simp
  try simp only [Act.put, List.setIfInBounds_toArray, List.set_cons_zero, List.set_cons_succ]
  refine wpAnyH_done (by kernel_rfl) ?_ _
  go_wp2_with fail
  go_ret
  exact ⟨rfl, K5x.out⟩
end Go.Proofs.YtknbkhmpnanegaaDoor
