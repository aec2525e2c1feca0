/- electionlaw32.Awake. -/
import Derived.Test.YtaobaaaihgahfaaGreatCk4Y
namespace Go.Mg
open Go.Pil
def awH : List Grp := [⟨[0], 5⟩, ⟨[1], 2⟩]
theorem awH_pile : isPile 2 awH = true := by decide +kernel
theorem awH_bd : bd 2 awH [1] = 2 := by decide +kernel
theorem cov1 (B : Int) : CodeCov 2 0 [⟨-1, [1], B, true⟩] := by
  (have hi1 : ∀ i : Int, -1 ≤ i → i < (([⟨-1, [1], B, true⟩] : List Nd).length : Int) → i = -1 ∨ i = 0 := fun i h1 h2 => by simp at h2; omega); (refine ⟨fun i hi => ?_, fun i c h1 h2 h3 h4 => ?_, fun i c h1 h2 h3 h4 => ?_⟩)
  · (have : i = 0 := by simp at hi; omega); (subst this); (exact ⟨by show isTail 2 [1] = true; decide, fun h => rfl, by show (-1 : Int) ≤ -1; decide, by show (-1 : Int) < 0; decide, fun h => by have : (0 : Int) ≤ -1 := h; omega, rfl⟩)
  · rcases hi1 i h1 h2 with rfl | rfl
    · (unfold wantH at h4); (rw [if_pos (by decide)] at h4); (have : c = 1 := by omega); (subst this)
      show ([⟨-1, [1], B, true⟩] : List Nd).countP _ = 1
      simp [hdN]
    · (unfold wantH at h4); (rw [if_neg (by decide)] at h4)
      cases h4.1
  · rcases hi1 i h1 h2 with rfl | rfl
    · (unfold wantH at h4); (rw [if_pos (by decide)] at h4); (have : c = 0 := by omega); (subst this)
      show ([⟨-1, [1], B, true⟩] : List Nd).countP _ = 0
      simp [hdN]
    · show ([⟨-1, [1], B, true⟩] : List Nd).countP _ = 0
      simp
theorem bd1 (B M : Int) : (∀ i, i < ([⟨-1, [1], B, true⟩] : List Nd).length → BdOk 2 awH M [⟨-1, [1], B, true⟩] i) ↔ B ≤ 2 ∧ M ≤ B := by
  have e : BdOk 2 awH M [⟨-1, [1], B, true⟩] 0 ↔ B ≤ 2 ∧ M ≤ B := by
    show (B ≤ bestV 2 awH [] ⟨-1, [1], B, true⟩ ∧ (true = true → M ≤ B)) ↔ _
    have : bestV 2 awH [] ⟨-1, [1], B, true⟩ = 2 := by
      (unfold bestV); (rw [if_neg (by show ¬ (0 : Int) ≤ -1; decide)]); (exact awH_bd)
    rw [this]; simp
  constructor
  · intro h; exact e.1 (h 0 (by simp))
  · (intro h i hi); (have : i = 0 := by simp at hi; omega); (subst this; exact e.2 h)
theorem aw_good : chkE 2 awH 0 2 [⟨-1, [1], 2, true⟩] = 0 := chk_ok (N := 2) ⟨by decide, by decide, by decide⟩ awH_pile (by simp) (cov1 2) ((bd1 2 2).2 (by decide))
theorem aw_bad : chkE 2 awH 0 3 [⟨-1, [1], 3, true⟩] = 15 := chk_bound (N := 2) ⟨by decide, by decide, by decide⟩ awH_pile (by simp) (cov1 3) (fun h => by have := (bd1 3 3).1 h; omega)
theorem aw_none : chkE 2 awH 0 0 [] = 14 := chk_step (N := 2) ⟨by decide, by decide, by decide⟩ awH_pile (by simp) fun h => by
  (have := h.yes (-1) 1 (by decide) (by decide) (by decide) (by unfold wantH; rw [if_pos (by decide)]; decide)); (rw [show cntH [] (-1) ((1 : Nat) : Int) = 0 from rfl] at this)
  cases this
end Go.Mg
namespace Go.Proofs.YtaobaaaihgahfaaGreat
open Go.RowKit Go.Mk Go.Pil Go.Mg
theorem lit32 (w : World) : ∃ ps, grps ps = awH ∧ RdG (((w.alloc (.cells #[.int .i64 0] 3)).alloc (.cells #[.int .i64 1] 3)).alloc (.cells #[.slice (some ⟨w.heap.size, 0, none⟩) 1 1, .int .i64 5, .slice (some ⟨w.heap.size + 1, 0, none⟩) 1 1, .int .i64 2] 105)) (.slice (some ⟨w.heap.size + 1 + 1, 0, none⟩) 2 2) ps := by
  (refine ⟨[(⟨[0], 5⟩, .slice (some ⟨w.heap.size, 0, none⟩) 1 1), (⟨[1], 2⟩, .slice (some ⟨w.heap.size + 1, 0, none⟩) 1 1)], rfl, ?_⟩); (obtain ⟨w1, hw1, g1, k1⟩ := alloc_named w (.cells #[.int .i64 0] 3)); (have s1 : w1.heap.size = w.heap.size + 1 := by rw [hw1]; exact World.size_alloc _ _); (rw [← hw1]); (obtain ⟨w2, hw2, g2, k2⟩ := alloc_named w1 (.cells #[.int .i64 1] 3)); (have s2 : w2.heap.size = w.heap.size + 1 + 1 := by rw [hw2, World.size_alloc, s1]); (rw [← hw2]); (obtain ⟨w3, hw3, g3, k3⟩ := alloc_named w2 (.cells #[.slice (some ⟨w.heap.size, 0, none⟩) 1 1, .int .i64 5, .slice (some ⟨w.heap.size + 1, 0, none⟩) 1 1, .int .i64 2] 105)); (rw [← hw3]); (rw [s1] at g2); (rw [s2] at g3); (have h1 := k3.blk (k2.blk g1)); (have h2 := k3.blk g2); (refine ⟨fun x hx => ?_, rfl, _, _, rfl, Nat.le_refl _, by decide, .inr ⟨_, 0, rfl, fun j u hu => by rw [cell_of_row w3 _ _ _ _ _ g3, Nat.zero_add]; simpa [flatG, grpC] using hu⟩⟩); (simp only [List.mem_cons, List.not_mem_nil, or_false] at hx)
  rcases hx with rfl | rfl
  · exact blk_RdZ [0] 1 rfl (by decide) rfl h1
  · exact blk_RdZ [1] 1 rfl (by decide) rfl h2
theorem litN (w : World) (B : Int) : RdN ((w.alloc (.cells #[.int .i64 1] 3)).alloc (.cells #[.int .i64 (-1), .slice (some ⟨w.heap.size, 0, none⟩) 1 1, .int .i64 B, .bool true] 98)) (.slice (some ⟨w.heap.size + 1, 0, none⟩) 1 1) [(⟨-1, [1], B, true⟩, .slice (some ⟨w.heap.size, 0, none⟩) 1 1)] := by
  (obtain ⟨w1, hw1, g1, k1⟩ := alloc_named w (.cells #[.int .i64 1] 3)); (have s1 : w1.heap.size = w.heap.size + 1 := by rw [hw1]; exact World.size_alloc _ _); (rw [← hw1]); (obtain ⟨w2, hw2, g2, k2⟩ := alloc_named w1 (.cells #[.int .i64 (-1), .slice (some ⟨w.heap.size, 0, none⟩) 1 1, .int .i64 B, .bool true] 98)); (rw [← hw2]); (rw [s1] at g2); (refine ⟨fun x hx => ?_, rfl, _, _, rfl, Nat.le_refl _, by decide, .inr ⟨_, 0, rfl, fun j u hu => by rw [cell_of_row w2 _ _ _ _ _ g2, Nat.zero_add]; simpa [flatN, ndC] using hu⟩⟩); (rw [List.mem_singleton.1 hx]); (exact blk_RdZ [1] 1 rfl (by decide) rfl (k2.blk g1))
set_option maxRecDepth 20000 in
set_option maxHeartbeats 2000000 in
theorem awake32_any (w : World) : Calls Tryz.prog 26 #[] w fun e w' => e = .returned (.bool true) ∧ Kept no w w' := by
  (obtain ⟨ps, hps, hr⟩ := lit32 w); (obtain ⟨W0, hW0⟩ : ∃ W0, W0 = ((w.alloc (.cells #[.int .i64 0] 3)).alloc (.cells #[.int .i64 1] 3)).alloc (.cells #[.slice (some ⟨w.heap.size, 0, none⟩) 1 1, .int .i64 5, .slice (some ⟨w.heap.size + 1, 0, none⟩) 1 1, .int .i64 2] 105) := ⟨_, rfl⟩); (have k0 : Hd (Kept no w W0) := ⟨by rw [hW0]; exact (((Kept.refl no w).alloc _).alloc _).alloc _⟩); (rw [← hW0] at hr); (obtain ⟨vg, hvg⟩ : ∃ vg, Value.slice (some ⟨w.heap.size + 1 + 1, 0, none⟩) 2 2 = vg := ⟨_, rfl⟩); (rw [hvg] at hr); (have HCK := hid (fun (W : World) (k : Kept no W0 W) (M B : Int) (v : Value) (q : List (Nd × Value)) (hq : RdN W v q) => ccheck_any 2 vg ps 0 M v q W (hr.kept k) hq)); (rw [hps] at HCK); (replace hW0 := hid hW0); (replace hvg := hid hvg); (clear hr hps)
  go_enter Tryz.func26, Tryz.ntmps26
  (go_upto_region 2 with fail); (rw [← hW0.out, hvg.out]); (clear hW0 hvg); (have hq1 := litN W0 2); (obtain ⟨W1, hW1⟩ : ∃ W1, W1 = (W0.alloc (.cells #[.int .i64 1] 3)).alloc (.cells #[.int .i64 (-1), .slice (some ⟨W0.heap.size, 0, none⟩) 1 1, .int .i64 2, .bool true] 98) := ⟨_, rfl⟩); (have k1 : Kept no W0 W1 := by rw [hW1]; exact ((Kept.refl no W0).alloc _).alloc _); (have s1 : W1.heap.size = W0.heap.size + 1 + 1 := by rw [hW1]; simp); (rw [← hW1] at hq1); (obtain ⟨vn, hvn⟩ : ∃ v, Value.slice (some ⟨W0.heap.size + 1, 0, none⟩) 1 1 = v := ⟨_, rfl⟩); (rw [hvn] at hq1); (obtain ⟨W2, hW2, g2, k2⟩ := alloc_named W1 (.cells #[.int .i64 0, .int .i64 2, vn] 41)); (replace hW1 := hid hW1); (replace hW2 := hid hW2); (replace s1 := hid s1); (replace hvn := hid hvn); (replace hq1 := hid (hq1.kept k2)); (have k02 := hid (k1.trans' k2)); (replace g2 := hid g2); (clear k1 k2); (go_upto_region 3 with fail); (rw [← hW1.out, ← s1.out, hvn.out, ← hW2.out]); (generalize W1.heap.size = C2 at g2); (clear hW1 hW2 s1 hvn); (have hq3 := litN W2 3); (obtain ⟨W3, hW3⟩ : ∃ W1, W1 = (W2.alloc (.cells #[.int .i64 1] 3)).alloc (.cells #[.int .i64 (-1), .slice (some ⟨W2.heap.size, 0, none⟩) 1 1, .int .i64 3, .bool true] 98) := ⟨_, rfl⟩); (have k3 : Kept no W2 W3 := by rw [hW3]; exact ((Kept.refl no W2).alloc _).alloc _); (have s3 : W3.heap.size = W2.heap.size + 1 + 1 := by rw [hW3]; simp); (rw [← hW3] at hq3); (obtain ⟨vm, hvm⟩ : ∃ v, Value.slice (some ⟨W2.heap.size + 1, 0, none⟩) 1 1 = v := ⟨_, rfl⟩); (rw [hvm] at hq3); (obtain ⟨W4, hW4, g4, k4⟩ := alloc_named W3 (.cells #[.int .i64 0, .int .i64 3, vm] 41)); (replace hW3 := hid hW3); (replace hW4 := hid hW4); (replace s3 := hid s3); (replace hvm := hid hvm); (replace hq3 := hid (hq3.kept k4)); (have k24 := hid (k3.trans' k4)); (have k04 := hid (k02.out.trans' k24.out)); (have hq1' := hid (hq1.out.kept k24.out)); (have g2' := hid (k24.out.blk g2.out)); (replace g4 := hid g4); (clear k3 k4 hq1 g2 k02); (go_upto_region 4 with fail); (rw [← hW3.out, ← s3.out, hvm.out, ← hW4.out]); (generalize W3.heap.size = C4 at g4); (clear hW3 hW4 s3 hvm k24); (have HA := HCK.out W4 k04.out 2 0 vn _ hq1'.out); (rw [show chkE 2 awH 0 2 (nds [((⟨-1, [1], 2, true⟩ : Nd), Value.slice (some ⟨W0.heap.size, 0, none⟩) 1 1)]) = 0 from aw_good] at HA); (replace HA := hid HA); (obtain ⟨an, cn, rfl⟩ : ∃ a c, vn = .slice a 1 c := Rd.shapeZ hq1'.out.2); (obtain ⟨am, cm, rfl⟩ : ∃ a c, vm = .slice a 1 c := Rd.shapeZ hq3.out.2); (obtain ⟨c0, c1, c2⟩ := slotC g2'.out); (clear hq1' g2'); (go_wp2_with fail); (with_reducible refine HA.out.mono ?_); (rintro e W5 ⟨rfl, k5⟩); (have HB := HCK.out W5 (k04.out.trans' k5) 3 0 _ _ (hq3.out.kept k5)); (rw [show chkE 2 awH 0 3 (nds [((⟨-1, [1], 3, true⟩ : Nd), Value.slice (some ⟨W2.heap.size, 0, none⟩) 1 1)]) = 15 from aw_bad] at HB); (replace HB := hid HB); (have k05 := hid (k04.out.trans' k5)); (obtain ⟨c0, c1, c2⟩ := slotC (k5.blk g4.out)); (clear HA k5 hq3 g4 k04); (go_wp2_with fail); (with_reducible refine HB.out.mono ?_); (rintro e W6 ⟨rfl, k6⟩); (have HN := HCK.out W6 (k05.out.trans' k6) 0 0 (.slice none 0 0) [] ⟨(fun x hx => by cases hx), nil_rd _ _⟩); (rw [show chkE 2 awH 0 0 (nds []) = 14 from aw_none] at HN); (replace HN := hid HN); (have k06 := hid (k0.out.trans' (k05.out.trans' k6))); (clear HB k6 k05 HCK c0 c1 c2); (go_wp2_with fail); (with_reducible refine HN.out.mono ?_); (rintro e W7 ⟨rfl, k7⟩); (have kF := hid (k06.out.trans' k7)); (clear HN k7); (go_wp2); (go_ret); (exact ⟨rfl, kF.out⟩)
end Go.Proofs.YtaobaaaihgahfaaGreat
