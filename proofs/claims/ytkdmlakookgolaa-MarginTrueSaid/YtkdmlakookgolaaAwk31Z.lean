/- electionlaw31.Awake. -/
import Derived.Test.YtkdmlakookgolaaMSearchZ
import Derived.Test.YtkdmlakookgolaaLaw31Z
namespace Go.Mg
open Go.Pil
def awG : List Grp := [⟨[0], 5⟩, ⟨[1], 2⟩]
theorem aw_pile : isPile 2 awG = true := by decide +kernel
theorem aw_tail : tailB 2 awG [0, 1] = 2 := by decide +kernel
theorem aw_low3 : lows 2 awG 3 = [1] := by decide +kernel
theorem aw_sl1 : (sl 2 1).length = 1 := by decide +kernel
theorem aw_rc {t : Nat} (h : Rc 2 2 awG t) : t = 3 ∨ t = 1 := by
  induction h with
  | full => exact .inl rfl
  | step h1 h2 h3 ih =>
    rename_i u c
    rcases ih with rfl | rfl
    · (rw [aw_low3] at h3); (rw [List.mem_singleton.1 h3]; exact .inr rfl)
    · rw [aw_sl1] at h2; omega
open Classical in
theorem aw_upper : upperB 2 awG 0 = 2 := by
  (unfold upperB); (rw [if_pos ⟨by decide, ⟨by decide, aw_pile⟩, by decide, by decide⟩])
  show upV 2 awG 0 = 2
  refine upV_of (fun ⟨r, h1, h2, h3⟩ => ?_) (.inr ⟨by decide, ⟨1, by decide, by decide, ?_, by decide, by decide +kernel⟩, fun x hx => ?_⟩)
  · rcases aw_rc h3 with h | h
    · (have : r = 1 := by omega); (subst this; cases h)
    · (have : r = 1 := by omega); (subst this; cases h)
  · exact .full
  · (obtain ⟨r, h1, h2, _, _, rfl⟩ := hx); (have : r = 1 := by omega); (subst this)
    decide +kernel
theorem aw_start : startS 2 awG 0 2 = [⟨-1, [1], 2, true⟩] := by decide +kernel
theorem aw_srch {win mar err : Int} {l : List Nd} (h : SrchR 2 awG 0 10 win mar err l) : err = 0 ∧ mar = 2 ∧ l.length = 1 := by
  (unfold SrchR at h); (rw [if_neg (fun h => h ⟨by decide, by decide, by decide⟩), if_neg (by rw [aw_pile]; decide), aw_upper] at h); (obtain ⟨rfl, rfl, hi, rfl⟩ := h); (have e0 : IsS 2 awG 0 2 10 [⟨-1, [1], 2, true⟩] := ⟨0, aw_start.symm, by decide +kernel, fun j hj => by omega⟩); (have := isS_unique hi e0); (subst this); (exact ⟨rfl, by decide +kernel, rfl⟩)
end Go.Mg
namespace Go.Proofs.Ytkdmlakookgolaa
open Go.RowKit Go.Mk Go.Pil Go.Mg
theorem lit31 (w : World) : ∃ ps, grps ps = awG ∧ RdG (((w.alloc (.cells #[.int .i64 0] 3)).alloc (.cells #[.int .i64 1] 3)).alloc (.cells #[.slice (some ⟨w.heap.size, 0, none⟩) 1 1, .int .i64 5, .slice (some ⟨w.heap.size + 1, 0, none⟩) 1 1, .int .i64 2] 74)) (.slice (some ⟨w.heap.size + 1 + 1, 0, none⟩) 2 2) ps := by
  (refine ⟨[(⟨[0], 5⟩, .slice (some ⟨w.heap.size, 0, none⟩) 1 1), (⟨[1], 2⟩, .slice (some ⟨w.heap.size + 1, 0, none⟩) 1 1)], rfl, ?_⟩); (obtain ⟨w1, hw1, g1, k1⟩ := alloc_named w (.cells #[.int .i64 0] 3)); (have s1 : w1.heap.size = w.heap.size + 1 := by rw [hw1]; exact World.size_alloc _ _); (rw [← hw1]); (obtain ⟨w2, hw2, g2, k2⟩ := alloc_named w1 (.cells #[.int .i64 1] 3)); (have s2 : w2.heap.size = w.heap.size + 1 + 1 := by rw [hw2, World.size_alloc, s1]); (rw [← hw2]); (obtain ⟨w3, hw3, g3, k3⟩ := alloc_named w2 (.cells #[.slice (some ⟨w.heap.size, 0, none⟩) 1 1, .int .i64 5, .slice (some ⟨w.heap.size + 1, 0, none⟩) 1 1, .int .i64 2] 74)); (rw [← hw3]); (rw [s1] at g2); (rw [s2] at g3); (have h1 := k3.blk (k2.blk g1)); (have h2 := k3.blk g2); (refine ⟨fun x hx => ?_, rfl, _, _, rfl, Nat.le_refl _, by decide, .inr ⟨_, 0, rfl, fun j u hu => by rw [cell_of_row w3 _ _ _ _ _ g3, Nat.zero_add]; simpa [flatG, grpC] using hu⟩⟩); (simp only [List.mem_cons, List.not_mem_nil, or_false] at hx)
  rcases hx with rfl | rfl
  · exact blk_RdZ [0] 1 rfl (by decide) rfl h1
  · exact blk_RdZ [1] 1 rfl (by decide) rfl h2
theorem grps_two31 {ps : List (Grp × Value)} (h : grps ps = awG) : ps.length = 2 := by rw [← grps_length, h]; rfl
set_option maxRecDepth 20000 in
set_option maxHeartbeats 1000000 in
theorem awake31_any (w : World) : Calls Try.prog 32 #[] w fun e w' => e = .returned (.bool true) ∧ Kept no w w' := by
  (obtain ⟨ps, hps, hr⟩ := lit31 w); (have k0 : Kept no w (((w.alloc (.cells #[.int .i64 0] 3)).alloc (.cells #[.int .i64 1] 3)).alloc (.cells #[.slice (some ⟨w.heap.size, 0, none⟩) 1 1, .int .i64 5, .slice (some ⟨w.heap.size + 1, 0, none⟩) 1 1, .int .i64 2] 74)) := (((Kept.refl no w).alloc _).alloc _).alloc _); (obtain ⟨W0, hW0⟩ : ∃ W0, W0 = ((w.alloc (.cells #[.int .i64 0] 3)).alloc (.cells #[.int .i64 1] 3)).alloc (.cells #[.slice (some ⟨w.heap.size, 0, none⟩) 1 1, .int .i64 5, .slice (some ⟨w.heap.size + 1, 0, none⟩) 1 1, .int .i64 2] 74) := ⟨_, rfl⟩); (rw [← hW0] at hr k0); (have HS := msearch_any 2 _ ps 0 10 W0 hr); (rw [hps] at HS); (have HT := hid (fun (W : World) (k : Kept no W0 W) (vz : Value) (hz : RdZ W vz [0, 1]) => mtail_any 2 (.slice (some ⟨w.heap.size + 1 + 1, 0, none⟩) 2 2) vz ps [0, 1] W (hr.kept k) hz)); (have HU := hid (fun (W : World) (k : Kept no W0 W) => mupper_any 2 (.slice (some ⟨w.heap.size + 1 + 1, 0, none⟩) 2 2) ps 0 W (hr.kept k))); (rw [hps, aw_tail] at HT); (rw [hps, aw_upper] at HU); (replace HS := hid HS); (replace hW0 := hid hW0); (replace k0 := hid k0); (clear hr hps)
  go_enter Try.func32, Try.ntmps32
  (go_wp2_with fail); (rw [← hW0.out]); (refine HS.out.mono ?_); (rintro e w1 ⟨win, mar, err, vn, q, rfl, hs, hq, k1⟩); (obtain ⟨rfl, rfl, hl⟩ := aw_srch hs); (rw [nds_length] at hl); (obtain ⟨an, cn, rfl⟩ := Rd.shapeZ hq.2); (rw [hl]); (have k1' := hid k1); (clear hs hq k1 HS); (go_upto_region 3 with fail); (obtain ⟨w2, hw2, g2, k2⟩ := alloc_named w1 (.cells #[.int .i64 win, .int .i64 2, .slice an 1 cn] 25)); (rw [← hw2]); (obtain ⟨c0, c1, c2⟩ := slot3 g2); (generalize w1.heap.size = gc at c0 c1 c2); (have kA := hid (k1'.out.trans' k2)); (have hz : RdZ (w2.alloc (.cells #[.int .i64 0, .int .i64 1] 3)) (.slice (some ⟨w2.heap.size, 0, none⟩) 2 2) [0, 1] := Rd.block (us := [.int .i64 0, .int .i64 1]) (heap_alloc_new w2 _) rfl (by decide)); (have kB := (Kept.refl no w2).alloc (.cells #[.int .i64 0, .int .i64 1] 3)); (have HT2 := hid (HT.out _ (kA.out.trans' kB) _ hz)); (have c1h := hid c1); (have c2h := hid c2); (replace kB := hid kB); (clear hz hw2 g2 k2 HT c0 c1 c2); (go_wp2_with fail); (refine HT2.out.mono ?_); (rintro e w3 ⟨rfl, k3⟩); (have kC := hid (kB.out.trans' k3)); (have HU2 := hid (HU.out w3 (kA.out.trans' kC.out))); (clear k3 HT2 HU kB); (go_wp2_with fail); (refine HU2.out.mono ?_); (rintro e w4 ⟨rfl, k4⟩); (have kD := hid (kC.out.trans' k4)); (have c1 := kD.out.cell c1h.out id); (have c2 := kD.out.cell c2h.out id); (clear k4 HU2 kC c1h c2h); (go_wp2); (go_ret); (exact ⟨rfl, (k0.out.trans' kA.out).trans' kD.out⟩)
end Go.Proofs.Ytkdmlakookgolaa
