/- commit.Of (the walk is printed by gen_commit.py). -/
import Derived.Test.YtggcbjchnefhfaaDoorCmt
import Derived.Test.YtggcbjchnefhfaaDoorMark
namespace Go.Proofs.YtggcbjchnefhfaaDoor
open Go.RowKit Go.Mk Go.Sha Go.Cmt
/-- The three numbers of an imprint. -/
def S3 (g : Nat) (a b d : Int) (w : World) : Prop := w.cell? ⟨g, 0, none⟩ = some (.int .i64 a) ∧ w.cell? ⟨g, 1, none⟩ = some (.int .i64 b) ∧ w.cell? ⟨g, 2, none⟩ = some (.int .i64 d)
theorem S3.reads {g : Nat} {a b d : Int} {w w' : World} (h : S3 g a b d w) (hk : Reads w w') : S3 g a b d w' := ⟨hk _ _ h.1, hk _ _ h.2.1, hk _ _ h.2.2⟩
theorem S3.setRow {g : Nat} {a b d : Int} {w : World} (h : S3 g a b d w) (g' : Nat) (cs : Array Value) (hn : g ≠ g') : S3 g a b d (w.setRow g' cs) :=
  have e : ∀ j, (w.setRow g' cs).cell? ⟨g, j, none⟩ = w.cell? ⟨g, j, none⟩ := fun j => by
    unfold World.cell?; rw [setRow_other w g' g cs hn]
  ⟨(e 0).trans h.1, (e 1).trans h.2.1, (e 2).trans h.2.2⟩
theorem three_block (w : World) (L : List Value) (a b d : Int) : ∃ w1, w1 = ((w.alloc (.cells L.toArray 43)).alloc (.cells #[.int .i64 a, .int .i64 b, .int .i64 d] 31)).alloc (.cells Z32 43) ∧ w1.heap[w.heap.size]? = some (.cells L.toArray 43 (0, 0)) ∧ w1.heap[w.heap.size + 1]? = some (.cells #[.int .i64 a, .int .i64 b, .int .i64 d] 31 (0, 0)) ∧ w1.heap[w.heap.size + 1 + 1]? = some (.cells Z32 43 (0, 0)) ∧ Kept no w w1 := by
  have e1 := World.size_alloc (w := w) (o := .cells L.toArray 43)
  have e2 := World.size_alloc (w := w.alloc (.cells L.toArray 43)) (o := .cells #[.int .i64 a, .int .i64 b, .int .i64 d] 31)
  refine ⟨_, rfl, ?_, ?_, ?_, (((Kept.refl no w).alloc _).alloc _).alloc _⟩
  · rw [heap_alloc_old _ _ (by omega), heap_alloc_old _ _ (by omega), heap_alloc_new]
  · rw [heap_alloc_old _ _ (by omega), ← e1, heap_alloc_new]
  · rw [← e1, ← e2, heap_alloc_new]
set_option maxRecDepth 100000 in
set_option maxHeartbeats 4000000 in
theorem commit_any (v4 : Value) (D : List UInt8) (zs : List Int) (c a b d : Int) (w : World) (hD : D.length = 32) (hz : zs.length ≤ 1000) (hr : RdZ w v4 zs) (hT : Tab w) : Calls Tryd.prog 17 #[.agg (D.map B).toArray, .int .i64 c, .agg #[.int .i64 a, .int .i64 b, .int .i64 d], v4] w fun e w' => e = .returned (Dg (commitD D [c, a, b, d] zs)) ∧ Kept no w w' := by
  replace hT := hid hT
  replace hr := hid hr
  have hPl : (join (commitP D [c, a, b, d] zs)).length ≤ 1099511000000 := by
    simp only [commitP, join, List.flatMap_cons, List.flatMap_nil, List.length_append, be_length, List.length_nil, numsB_length, List.length_cons]; omega
  have HOF := hid (fun v W (hr : RdP W v (commitP D [c, a, b, d] zs)) (hT : Tab W) => of_any v _ W hPl (by simp [commitP]) hr hT)
  obtain ⟨DG, hDG⟩ : ∃ DG, (sum (join (commitP D [c, a, b, d] zs))).map B = DG := ⟨_, rfl⟩
  have hinf := hid (Dg_inf (join (commitP D [c, a, b, d] zs)))
  have hone := hid (Dg_one (join (commitP D [c, a, b, d] zs)))
  have hold : Hd (Z32.size = ((sum (join (commitP D [c, a, b, d] zs))).map B).toArray.size) := ⟨by rw [Dg_size]; rfl⟩
  have HDG : Hd ((.returned (.agg DG.toArray) : Ending) = .returned (Dg (commitD D [c, a, b, d] zs))) := ⟨by rw [← hDG]; rfl⟩
  unfold Dg at HOF
  rw [hDG] at hinf hone hold HOF
  clear hDG hPl
  obtain ⟨L, hL⟩ : ∃ L, D.map B = L := ⟨_, rfl⟩
  have hL' : Hd (L.length = 32) := ⟨by rw [← hL]; simp [hD]⟩
  replace hL := hid hL
  rw [hL.out]
  go_enter Tryd.func17, Tryd.ntmps17
  go_upto_region 1 with fail
  obtain ⟨w1, hw1, g0, g1, g2, k1⟩ := three_block w L a b d
  unfold Z32 at hw1
  rw [← hw1]
  clear hw1
  have c0 : w1.cell? ⟨w.heap.size + 1, 0, none⟩ = some (.int .i64 a) := cell_of_row w1 _ 0 _ _ _ g1
  have c1 : w1.cell? ⟨w.heap.size + 1, 1, none⟩ = some (.int .i64 b) := cell_of_row w1 _ 1 _ _ _ g1
  have c2 : w1.cell? ⟨w.heap.size + 1, 2, none⟩ = some (.int .i64 d) := cell_of_row w1 _ 2 _ _ _ g1
  have h2lt := hid (lt_of_heap g2)
  have s0 := hid (show S3 (w.heap.size + 1) a b d w1.drew from ⟨c0, c1, c2⟩)
  have rs_0 : Hd (Rd w1.drew 1 (.slice (some ⟨w.heap.size, 0, none⟩) 32 32) 32 (D.map B)) := ⟨by rw [hL.out]; exact (Rd.block (size := 1) (n := 32) g0 (by rw [hL'.out]) (by decide)).drew⟩
  have rz_0 : Hd (RdZ w1.drew v4 zs) := ⟨(hr.out.kept k1).drew⟩
  have K0 : Hd (Kept no w1 w1.drew) := ⟨(Kept.refl no w1).drew⟩
  replace hT := hid (hT.out.kept k1)
  replace k1 := hid k1
  replace g2 := hid g2
  clear g0 g1 c0 c1 c2
  refine wp_region_held_drew (S := S3 (w.heap.size + 1) a b d) (by kernel_rfl) s0.out (fun _ => ?_)
  generalize w1.drew = W0 at s0 rs_0 rz_0 K0 ⊢
  refine take2 2 (some 11) (.slice (some ⟨w.heap.size, 0, none⟩) 32 32) rfl rfl (by kernel_rfl) (by kernel_rfl) (by kernel_rfl) (fun _ _ _ h => h) (Or.inl ⟨by rfl, fun w hSw => ?_⟩) s0.out ?_
  · obtain ⟨h0, h1, h2⟩ := hSw
    go_simp
  try simp only [Act.put, List.setIfInBounds_toArray, List.set_cons_zero, List.set_cons_succ]
  refine take2 3 (some 12) (.int .i64 c) rfl rfl (by kernel_rfl) (by kernel_rfl) (by kernel_rfl) (fun _ _ _ h => h) (Or.inl ⟨by rfl, fun w hSw => ?_⟩) s0.out ?_
  · obtain ⟨h0, h1, h2⟩ := hSw
    go_simp
  try simp only [Act.put, List.setIfInBounds_toArray, List.set_cons_zero, List.set_cons_succ]
  refine take2 4 (some 13) (.agg #[.int .i64 a, .int .i64 b, .int .i64 d]) rfl rfl (by kernel_rfl) (by kernel_rfl) (by kernel_rfl) (fun _ _ _ h => h) (Or.inl ⟨by rfl, fun w hSw => ?_⟩) s0.out ?_
  · obtain ⟨h0, h1, h2⟩ := hSw
    go_simp
  try simp only [Act.put, List.setIfInBounds_toArray, List.set_cons_zero, List.set_cons_succ]
  refine take2 6 (some 15) (v4) rfl rfl (by kernel_rfl) (by kernel_rfl) (by kernel_rfl) (fun _ _ _ h => h) (Or.inl ⟨by rfl, fun w hSw => ?_⟩) s0.out ?_
  · obtain ⟨h0, h1, h2⟩ := hSw
    go_simp
  try simp only [Act.put, List.setIfInBounds_toArray, List.set_cons_zero, List.set_cons_succ]
  refine wpAnyH_ready (rs := [0, 5]) (by kernel_rfl) (by simp) ?_
  refine AllReadyH.cons rfl (fun K hK => ?_) ?_
  · go_simp
    refine hK.out _ _ (S3.reads s0.out (Kept.reads ((Kept.refl no _).alloc _))) (fun _ => ?_)
    clear hK K
    try simp only [Act.put, List.setIfInBounds_toArray, List.set_cons_zero, List.set_cons_succ]
    refine lay_any _ _ ?_
    intro W1 e1 k1 z1
    have R1 := k1.reads
    have g1 := hid (K0.out.size)
    have s1 := hid (S3.reads s0.out R1)
    have K1 := hid (K0.out.trans' k1)
    have rs_1 := hid (rs_0.out.reads R1)
    have rz_1 := hid (rz_0.out.reads R1)
    have eg_1 := hid e1
    have rc_1 : Hd (Rd W1 1 (.slice (some ⟨W0.heap.size, 0, none⟩) 6 6) 6 (([99, 111, 109, 109, 105, 116] : List UInt8).map B)) := ⟨Rd.block e1 rfl (by decide)⟩
    clear e1 k1 z1
    refine wpAnyH_ready (rs := [1, 5]) (by kernel_rfl) (by simp) ?_
    refine AllReadyH.cons rfl (fun K hK => ?_) ?_
    · obtain ⟨W2, run2, k2, z2, cm2⟩ := mark_any W1 W0.heap.size 53 5 #[.int .u8 99, .int .u8 111, .int .u8 109, .int .u8 109, .int .u8 105, .int .u8 116] Tryd.underlying53 Tryd.underlying5 eg_1.out
      have R2 := Reads.of_eq cm2
      go_simp
      clear run2
      refine hK.out _ _ (S3.reads s1.out R2) (fun _ => ?_)
      clear hK K
      try simp only [Act.put, List.setIfInBounds_toArray, List.set_cons_zero, List.set_cons_succ]
      have s2 := hid (S3.reads s1.out R2)
      have K2 := hid (K1.out.trans k2 (fun k hk e => absurd hk (by rw [e]; exact Nat.not_lt.2 g1.out)))
      have rs_2 := hid (rs_1.out.reads R2)
      have rz_2 := hid (rz_1.out.reads R2)
      have rc_2 := hid (rc_1.out.reads R2)
      clear cm2 k2 z2
      refine wpAnyH_ready (rs := [5]) (by kernel_rfl) (by simp) ?_
      refine AllReadyH.cons rfl (fun K hK => ?_) ?_
      · go_simp
        refine (place_any c a b d W2).mono ?_
        rintro e W3 ⟨v3, rfl, o3, k3, _⟩
        obtain ⟨a3, c3, rfl⟩ := Rd.shapeZ (Rd.of_own o3)
        have R3 := k3.reads
        refine hK.out _ _ (S3.reads s2.out R3) (fun _ => ?_)
        clear hK K
        try simp only [Act.put, List.setIfInBounds_toArray, List.set_cons_zero, List.set_cons_succ]
        have s3 := hid (S3.reads s2.out R3)
        have K3 := hid (K2.out.trans' k3)
        have rs_3 := hid (rs_2.out.reads R3)
        have rz_3 := hid (rz_2.out.reads R3)
        have rc_3 := hid (rc_2.out.reads R3)
        have r4_3 := hid (Rd.of_own o3)
        clear o3 k3
        refine wpAnyH_ready (rs := [7]) (by kernel_rfl) (by simp) ?_
        refine AllReadyH.cons rfl (fun K hK => ?_) ?_
        · go_simp
          refine (numbers_any _ zs W3 (by omega) rz_3.out).mono ?_
          rintro e W4 ⟨v4, rfl, o4, k4, _⟩
          obtain ⟨a4, c4, rfl⟩ := Rd.shapeZ (Rd.of_own o4)
          have R4 := k4.reads
          refine hK.out _ _ (S3.reads s3.out R4) (fun _ => ?_)
          clear hK K
          try simp only [Act.put, List.setIfInBounds_toArray, List.set_cons_zero, List.set_cons_succ]
          have s4 := hid (S3.reads s3.out R4)
          have K4 := hid (K3.out.trans' k4)
          have rs_4 := hid (rs_3.out.reads R4)
          have rz_4 := hid (rz_3.out.reads R4)
          have rc_4 := hid (rc_3.out.reads R4)
          have r4_4 := hid (r4_3.out.reads R4)
          have ry_4 := hid (Rd.of_own o4)
          clear o4 k4
          refine wpAnyH_ready (rs := [8]) (by kernel_rfl) (by simp) ?_
          refine AllReadyH.cons rfl (fun K hK => ?_) ?_
          · go_simp
            refine hK.out _ _ (S3.reads s4.out (Kept.reads ((Kept.refl no _).alloc _))) (fun _ => ?_)
            clear hK K
            try simp only [Act.put, List.setIfInBounds_toArray, List.set_cons_zero, List.set_cons_succ]
            refine lay_any _ _ ?_
            intro W5 e5 k5 z5
            have R5 := k5.reads
            have s5 := hid (S3.reads s4.out R5)
            have K5 := hid (K4.out.trans' k5)
            have rs_5 := hid (rs_4.out.reads R5)
            have rz_5 := hid (rz_4.out.reads R5)
            have rc_5 := hid (rc_4.out.reads R5)
            have r4_5 := hid (r4_4.out.reads R5)
            have ry_5 := hid (ry_4.out.reads R5)
            have hr : RdP W5 (.slice (some ⟨W4.heap.size, 0, none⟩) 4 4) (commitP D [c, a, b, d] zs) := ⟨[.slice (some ⟨W0.heap.size, 0, none⟩) 6 6, .slice (some ⟨w.heap.size, 0, none⟩) 32 32, .slice a3 (numsB [c, a, b, d]).length c3, .slice a4 (numsB zs).length c4], Rd.block e5 rfl (by decide), fun j hj => by
              match j, hj with
              | 0, _ => exact rc_5.out
              | 1, _ => exact hD ▸ rs_5.out
              | 2, _ => exact r4_5.out
              | 3, _ => exact ry_5.out⟩
            replace hr := hid hr
            clear e5 k5 z5
            refine wpAnyH_ready (rs := [9]) (by kernel_rfl) (by simp) ?_
            refine AllReadyH.cons rfl (fun K hK => ?_) ?_
            · go_simp
              refine (HOF.out _ W5 hr.out (hT.out.kept K5.out)).mono ?_
              rintro e W6 ⟨rfl, k6⟩
              have R6 := k6.reads
              refine hK.out _ _ (S3.reads s5.out R6) (fun _ => ?_)
              clear hK K
              try simp only [Act.put, List.setIfInBounds_toArray, List.set_cons_zero, List.set_cons_succ]
              have s6 := hid (S3.reads s5.out R6)
              have K6 := hid (K5.out.trans' k6)
              clear k6
              refine wpAnyH_ready (rs := [10]) (by kernel_rfl) (by simp) ?_
              refine AllReadyH.cons rfl (fun K hK => ?_) ?_
              · have g8 := hid ((K6.out.block _ h2lt.out id).trans g2.out)
                have h8 := hid (setRow_heap W6 (w.heap.size + 1 + 1) _ DG.toArray _ _ g8.out)
                have s9 := hid (S3.setRow s6.out (w.heap.size + 1 + 1) DG.toArray (by omega))
                rw [if_pos (by rfl)]
                refine wp_store_row 43 _ _ rfl (w.heap.size + 1 + 1) DG.toArray rfl rfl 43 _ g8.out hinf.out hold.out hone.out ?_
                refine hK.out _ _ s9.out (fun _ => ?_)
                clear hK K
                refine wpAnyH_done (by kernel_rfl) ?_ _
                go_wp2_with fail
                refine bodyPost_ret (v := .agg DG.toArray) ?_ rfl ?_
                · exact results_cell_row rfl _ _ (w.heap.size + 1 + 1) 43 DG.toArray (0, 0) _ rfl h8.out Tryd.underlying43 rfl hinf.out
                · exact ⟨HDG.out, (k1.out.trans' K6.out).setRow (.inr (by omega)) _⟩
              exact AllReadyH.nil
            exact AllReadyH.nil
          exact AllReadyH.nil
        exact AllReadyH.nil
      exact AllReadyH.nil
    refine AllReadyH.cons rfl (fun K hK => ?_) ?_
    · go_simp
      refine (place_any c a b d W1).mono ?_
      rintro e W8 ⟨v8, rfl, o8, k8, _⟩
      obtain ⟨a8, c8, rfl⟩ := Rd.shapeZ (Rd.of_own o8)
      have R8 := k8.reads
      refine hK.out _ _ (S3.reads s1.out R8) (fun _ => ?_)
      clear hK K
      try simp only [Act.put, List.setIfInBounds_toArray, List.set_cons_zero, List.set_cons_succ]
      have s8 := hid (S3.reads s1.out R8)
      have K8 := hid (K1.out.trans' k8)
      have rs_8 := hid (rs_1.out.reads R8)
      have rz_8 := hid (rz_1.out.reads R8)
      have rc_8 := hid (rc_1.out.reads R8)
      have r4_8 := hid (Rd.of_own o8)
      have eg_8 := hid ((k8.block _ (lt_of_heap eg_1.out) id).trans eg_1.out)
      clear o8 k8
      refine wpAnyH_ready (rs := [1, 7]) (by kernel_rfl) (by simp) ?_
      refine AllReadyH.cons rfl (fun K hK => ?_) ?_
      · obtain ⟨W9, run9, k9, z9, cm9⟩ := mark_any W8 W0.heap.size 53 5 #[.int .u8 99, .int .u8 111, .int .u8 109, .int .u8 109, .int .u8 105, .int .u8 116] Tryd.underlying53 Tryd.underlying5 eg_8.out
        have R9 := Reads.of_eq cm9
        go_simp
        clear run9
        refine hK.out _ _ (S3.reads s8.out R9) (fun _ => ?_)
        clear hK K
        try simp only [Act.put, List.setIfInBounds_toArray, List.set_cons_zero, List.set_cons_succ]
        have s9 := hid (S3.reads s8.out R9)
        have K9 := hid (K8.out.trans k9 (fun k hk e => absurd hk (by rw [e]; exact Nat.not_lt.2 g1.out)))
        have rs_9 := hid (rs_8.out.reads R9)
        have rz_9 := hid (rz_8.out.reads R9)
        have rc_9 := hid (rc_8.out.reads R9)
        have r4_9 := hid (r4_8.out.reads R9)
        clear cm9 k9 z9
        refine wpAnyH_ready (rs := [7]) (by kernel_rfl) (by simp) ?_
        refine AllReadyH.cons rfl (fun K hK => ?_) ?_
        · go_simp
          refine (numbers_any _ zs W9 (by omega) rz_9.out).mono ?_
          rintro e W10 ⟨v10, rfl, o10, k10, _⟩
          obtain ⟨a10, c10, rfl⟩ := Rd.shapeZ (Rd.of_own o10)
          have R10 := k10.reads
          refine hK.out _ _ (S3.reads s9.out R10) (fun _ => ?_)
          clear hK K
          try simp only [Act.put, List.setIfInBounds_toArray, List.set_cons_zero, List.set_cons_succ]
          have s10 := hid (S3.reads s9.out R10)
          have K10 := hid (K9.out.trans' k10)
          have rs_10 := hid (rs_9.out.reads R10)
          have rz_10 := hid (rz_9.out.reads R10)
          have rc_10 := hid (rc_9.out.reads R10)
          have r4_10 := hid (r4_9.out.reads R10)
          have ry_10 := hid (Rd.of_own o10)
          clear o10 k10
          refine wpAnyH_ready (rs := [8]) (by kernel_rfl) (by simp) ?_
          refine AllReadyH.cons rfl (fun K hK => ?_) ?_
          · go_simp
            refine hK.out _ _ (S3.reads s10.out (Kept.reads ((Kept.refl no _).alloc _))) (fun _ => ?_)
            clear hK K
            try simp only [Act.put, List.setIfInBounds_toArray, List.set_cons_zero, List.set_cons_succ]
            refine lay_any _ _ ?_
            intro W11 e11 k11 z11
            have R11 := k11.reads
            have s11 := hid (S3.reads s10.out R11)
            have K11 := hid (K10.out.trans' k11)
            have rs_11 := hid (rs_10.out.reads R11)
            have rz_11 := hid (rz_10.out.reads R11)
            have rc_11 := hid (rc_10.out.reads R11)
            have r4_11 := hid (r4_10.out.reads R11)
            have ry_11 := hid (ry_10.out.reads R11)
            have hr : RdP W11 (.slice (some ⟨W10.heap.size, 0, none⟩) 4 4) (commitP D [c, a, b, d] zs) := ⟨[.slice (some ⟨W0.heap.size, 0, none⟩) 6 6, .slice (some ⟨w.heap.size, 0, none⟩) 32 32, .slice a8 (numsB [c, a, b, d]).length c8, .slice a10 (numsB zs).length c10], Rd.block e11 rfl (by decide), fun j hj => by
              match j, hj with
              | 0, _ => exact rc_11.out
              | 1, _ => exact hD ▸ rs_11.out
              | 2, _ => exact r4_11.out
              | 3, _ => exact ry_11.out⟩
            replace hr := hid hr
            clear e11 k11 z11
            refine wpAnyH_ready (rs := [9]) (by kernel_rfl) (by simp) ?_
            refine AllReadyH.cons rfl (fun K hK => ?_) ?_
            · go_simp
              refine (HOF.out _ W11 hr.out (hT.out.kept K11.out)).mono ?_
              rintro e W12 ⟨rfl, k12⟩
              have R12 := k12.reads
              refine hK.out _ _ (S3.reads s11.out R12) (fun _ => ?_)
              clear hK K
              try simp only [Act.put, List.setIfInBounds_toArray, List.set_cons_zero, List.set_cons_succ]
              have s12 := hid (S3.reads s11.out R12)
              have K12 := hid (K11.out.trans' k12)
              clear k12
              refine wpAnyH_ready (rs := [10]) (by kernel_rfl) (by simp) ?_
              refine AllReadyH.cons rfl (fun K hK => ?_) ?_
              · have g8 := hid ((K12.out.block _ h2lt.out id).trans g2.out)
                have h8 := hid (setRow_heap W12 (w.heap.size + 1 + 1) _ DG.toArray _ _ g8.out)
                have s9 := hid (S3.setRow s12.out (w.heap.size + 1 + 1) DG.toArray (by omega))
                rw [if_pos (by rfl)]
                refine wp_store_row 43 _ _ rfl (w.heap.size + 1 + 1) DG.toArray rfl rfl 43 _ g8.out hinf.out hold.out hone.out ?_
                refine hK.out _ _ s9.out (fun _ => ?_)
                clear hK K
                refine wpAnyH_done (by kernel_rfl) ?_ _
                go_wp2_with fail
                refine bodyPost_ret (v := .agg DG.toArray) ?_ rfl ?_
                · exact results_cell_row rfl _ _ (w.heap.size + 1 + 1) 43 DG.toArray (0, 0) _ rfl h8.out Tryd.underlying43 rfl hinf.out
                · exact ⟨HDG.out, (k1.out.trans' K12.out).setRow (.inr (by omega)) _⟩
              exact AllReadyH.nil
            exact AllReadyH.nil
          exact AllReadyH.nil
        exact AllReadyH.nil
      refine AllReadyH.cons rfl (fun K hK => ?_) ?_
      · go_simp
        refine (numbers_any _ zs W8 (by omega) rz_8.out).mono ?_
        rintro e W14 ⟨v14, rfl, o14, k14, _⟩
        obtain ⟨a14, c14, rfl⟩ := Rd.shapeZ (Rd.of_own o14)
        have R14 := k14.reads
        refine hK.out _ _ (S3.reads s8.out R14) (fun _ => ?_)
        clear hK K
        try simp only [Act.put, List.setIfInBounds_toArray, List.set_cons_zero, List.set_cons_succ]
        have s14 := hid (S3.reads s8.out R14)
        have K14 := hid (K8.out.trans' k14)
        have rs_14 := hid (rs_8.out.reads R14)
        have rz_14 := hid (rz_8.out.reads R14)
        have rc_14 := hid (rc_8.out.reads R14)
        have r4_14 := hid (r4_8.out.reads R14)
        have ry_14 := hid (Rd.of_own o14)
        have eg_14 := hid ((k14.block _ (lt_of_heap eg_8.out) id).trans eg_8.out)
        clear o14 k14
        refine wpAnyH_ready (rs := [1]) (by kernel_rfl) (by simp) ?_
        refine AllReadyH.cons rfl (fun K hK => ?_) ?_
        · obtain ⟨W15, run15, k15, z15, cm15⟩ := mark_any W14 W0.heap.size 53 5 #[.int .u8 99, .int .u8 111, .int .u8 109, .int .u8 109, .int .u8 105, .int .u8 116] Tryd.underlying53 Tryd.underlying5 eg_14.out
          have R15 := Reads.of_eq cm15
          go_simp
          clear run15
          refine hK.out _ _ (S3.reads s14.out R15) (fun _ => ?_)
          clear hK K
          try simp only [Act.put, List.setIfInBounds_toArray, List.set_cons_zero, List.set_cons_succ]
          have s15 := hid (S3.reads s14.out R15)
          have K15 := hid (K14.out.trans k15 (fun k hk e => absurd hk (by rw [e]; exact Nat.not_lt.2 g1.out)))
          have rs_15 := hid (rs_14.out.reads R15)
          have rz_15 := hid (rz_14.out.reads R15)
          have rc_15 := hid (rc_14.out.reads R15)
          have r4_15 := hid (r4_14.out.reads R15)
          have ry_15 := hid (ry_14.out.reads R15)
          clear cm15 k15 z15
          refine wpAnyH_ready (rs := [8]) (by kernel_rfl) (by simp) ?_
          refine AllReadyH.cons rfl (fun K hK => ?_) ?_
          · go_simp
            refine hK.out _ _ (S3.reads s15.out (Kept.reads ((Kept.refl no _).alloc _))) (fun _ => ?_)
            clear hK K
            try simp only [Act.put, List.setIfInBounds_toArray, List.set_cons_zero, List.set_cons_succ]
            refine lay_any _ _ ?_
            intro W16 e16 k16 z16
            have R16 := k16.reads
            have s16 := hid (S3.reads s15.out R16)
            have K16 := hid (K15.out.trans' k16)
            have rs_16 := hid (rs_15.out.reads R16)
            have rz_16 := hid (rz_15.out.reads R16)
            have rc_16 := hid (rc_15.out.reads R16)
            have r4_16 := hid (r4_15.out.reads R16)
            have ry_16 := hid (ry_15.out.reads R16)
            have hr : RdP W16 (.slice (some ⟨W15.heap.size, 0, none⟩) 4 4) (commitP D [c, a, b, d] zs) := ⟨[.slice (some ⟨W0.heap.size, 0, none⟩) 6 6, .slice (some ⟨w.heap.size, 0, none⟩) 32 32, .slice a8 (numsB [c, a, b, d]).length c8, .slice a14 (numsB zs).length c14], Rd.block e16 rfl (by decide), fun j hj => by
              match j, hj with
              | 0, _ => exact rc_16.out
              | 1, _ => exact hD ▸ rs_16.out
              | 2, _ => exact r4_16.out
              | 3, _ => exact ry_16.out⟩
            replace hr := hid hr
            clear e16 k16 z16
            refine wpAnyH_ready (rs := [9]) (by kernel_rfl) (by simp) ?_
            refine AllReadyH.cons rfl (fun K hK => ?_) ?_
            · go_simp
              refine (HOF.out _ W16 hr.out (hT.out.kept K16.out)).mono ?_
              rintro e W17 ⟨rfl, k17⟩
              have R17 := k17.reads
              refine hK.out _ _ (S3.reads s16.out R17) (fun _ => ?_)
              clear hK K
              try simp only [Act.put, List.setIfInBounds_toArray, List.set_cons_zero, List.set_cons_succ]
              have s17 := hid (S3.reads s16.out R17)
              have K17 := hid (K16.out.trans' k17)
              clear k17
              refine wpAnyH_ready (rs := [10]) (by kernel_rfl) (by simp) ?_
              refine AllReadyH.cons rfl (fun K hK => ?_) ?_
              · have g8 := hid ((K17.out.block _ h2lt.out id).trans g2.out)
                have h8 := hid (setRow_heap W17 (w.heap.size + 1 + 1) _ DG.toArray _ _ g8.out)
                have s9 := hid (S3.setRow s17.out (w.heap.size + 1 + 1) DG.toArray (by omega))
                rw [if_pos (by rfl)]
                refine wp_store_row 43 _ _ rfl (w.heap.size + 1 + 1) DG.toArray rfl rfl 43 _ g8.out hinf.out hold.out hone.out ?_
                refine hK.out _ _ s9.out (fun _ => ?_)
                clear hK K
                refine wpAnyH_done (by kernel_rfl) ?_ _
                go_wp2_with fail
                refine bodyPost_ret (v := .agg DG.toArray) ?_ rfl ?_
                · exact results_cell_row rfl _ _ (w.heap.size + 1 + 1) 43 DG.toArray (0, 0) _ rfl h8.out Tryd.underlying43 rfl hinf.out
                · exact ⟨HDG.out, (k1.out.trans' K17.out).setRow (.inr (by omega)) _⟩
              exact AllReadyH.nil
            exact AllReadyH.nil
          exact AllReadyH.nil
        exact AllReadyH.nil
      exact AllReadyH.nil
    exact AllReadyH.nil
  refine AllReadyH.cons rfl (fun K hK => ?_) ?_
  · go_simp
    refine (place_any c a b d W0).mono ?_
    rintro e W19 ⟨v19, rfl, o19, k19, _⟩
    obtain ⟨a19, c19, rfl⟩ := Rd.shapeZ (Rd.of_own o19)
    have R19 := k19.reads
    refine hK.out _ _ (S3.reads s0.out R19) (fun _ => ?_)
    clear hK K
    try simp only [Act.put, List.setIfInBounds_toArray, List.set_cons_zero, List.set_cons_succ]
    have s19 := hid (S3.reads s0.out R19)
    have K19 := hid (K0.out.trans' k19)
    have rs_19 := hid (rs_0.out.reads R19)
    have rz_19 := hid (rz_0.out.reads R19)
    have r4_19 := hid (Rd.of_own o19)
    clear o19 k19
    refine wpAnyH_ready (rs := [0, 7]) (by kernel_rfl) (by simp) ?_
    refine AllReadyH.cons rfl (fun K hK => ?_) ?_
    · go_simp
      refine hK.out _ _ (S3.reads s19.out (Kept.reads ((Kept.refl no _).alloc _))) (fun _ => ?_)
      clear hK K
      try simp only [Act.put, List.setIfInBounds_toArray, List.set_cons_zero, List.set_cons_succ]
      refine lay_any _ _ ?_
      intro W20 e20 k20 z20
      have R20 := k20.reads
      have g20 := hid (K19.out.size)
      have s20 := hid (S3.reads s19.out R20)
      have K20 := hid (K19.out.trans' k20)
      have rs_20 := hid (rs_19.out.reads R20)
      have rz_20 := hid (rz_19.out.reads R20)
      have r4_20 := hid (r4_19.out.reads R20)
      have eg_20 := hid e20
      have rc_20 : Hd (Rd W20 1 (.slice (some ⟨W19.heap.size, 0, none⟩) 6 6) 6 (([99, 111, 109, 109, 105, 116] : List UInt8).map B)) := ⟨Rd.block e20 rfl (by decide)⟩
      clear e20 k20 z20
      refine wpAnyH_ready (rs := [1, 7]) (by kernel_rfl) (by simp) ?_
      refine AllReadyH.cons rfl (fun K hK => ?_) ?_
      · obtain ⟨W21, run21, k21, z21, cm21⟩ := mark_any W20 W19.heap.size 53 5 #[.int .u8 99, .int .u8 111, .int .u8 109, .int .u8 109, .int .u8 105, .int .u8 116] Tryd.underlying53 Tryd.underlying5 eg_20.out
        have R21 := Reads.of_eq cm21
        go_simp
        clear run21
        refine hK.out _ _ (S3.reads s20.out R21) (fun _ => ?_)
        clear hK K
        try simp only [Act.put, List.setIfInBounds_toArray, List.set_cons_zero, List.set_cons_succ]
        have s21 := hid (S3.reads s20.out R21)
        have K21 := hid (K20.out.trans k21 (fun k hk e => absurd hk (by rw [e]; exact Nat.not_lt.2 g20.out)))
        have rs_21 := hid (rs_20.out.reads R21)
        have rz_21 := hid (rz_20.out.reads R21)
        have r4_21 := hid (r4_20.out.reads R21)
        have rc_21 := hid (rc_20.out.reads R21)
        clear cm21 k21 z21
        refine wpAnyH_ready (rs := [7]) (by kernel_rfl) (by simp) ?_
        refine AllReadyH.cons rfl (fun K hK => ?_) ?_
        · go_simp
          refine (numbers_any _ zs W21 (by omega) rz_21.out).mono ?_
          rintro e W22 ⟨v22, rfl, o22, k22, _⟩
          obtain ⟨a22, c22, rfl⟩ := Rd.shapeZ (Rd.of_own o22)
          have R22 := k22.reads
          refine hK.out _ _ (S3.reads s21.out R22) (fun _ => ?_)
          clear hK K
          try simp only [Act.put, List.setIfInBounds_toArray, List.set_cons_zero, List.set_cons_succ]
          have s22 := hid (S3.reads s21.out R22)
          have K22 := hid (K21.out.trans' k22)
          have rs_22 := hid (rs_21.out.reads R22)
          have rz_22 := hid (rz_21.out.reads R22)
          have r4_22 := hid (r4_21.out.reads R22)
          have rc_22 := hid (rc_21.out.reads R22)
          have ry_22 := hid (Rd.of_own o22)
          clear o22 k22
          refine wpAnyH_ready (rs := [8]) (by kernel_rfl) (by simp) ?_
          refine AllReadyH.cons rfl (fun K hK => ?_) ?_
          · go_simp
            refine hK.out _ _ (S3.reads s22.out (Kept.reads ((Kept.refl no _).alloc _))) (fun _ => ?_)
            clear hK K
            try simp only [Act.put, List.setIfInBounds_toArray, List.set_cons_zero, List.set_cons_succ]
            refine lay_any _ _ ?_
            intro W23 e23 k23 z23
            have R23 := k23.reads
            have s23 := hid (S3.reads s22.out R23)
            have K23 := hid (K22.out.trans' k23)
            have rs_23 := hid (rs_22.out.reads R23)
            have rz_23 := hid (rz_22.out.reads R23)
            have r4_23 := hid (r4_22.out.reads R23)
            have rc_23 := hid (rc_22.out.reads R23)
            have ry_23 := hid (ry_22.out.reads R23)
            have hr : RdP W23 (.slice (some ⟨W22.heap.size, 0, none⟩) 4 4) (commitP D [c, a, b, d] zs) := ⟨[.slice (some ⟨W19.heap.size, 0, none⟩) 6 6, .slice (some ⟨w.heap.size, 0, none⟩) 32 32, .slice a19 (numsB [c, a, b, d]).length c19, .slice a22 (numsB zs).length c22], Rd.block e23 rfl (by decide), fun j hj => by
              match j, hj with
              | 0, _ => exact rc_23.out
              | 1, _ => exact hD ▸ rs_23.out
              | 2, _ => exact r4_23.out
              | 3, _ => exact ry_23.out⟩
            replace hr := hid hr
            clear e23 k23 z23
            refine wpAnyH_ready (rs := [9]) (by kernel_rfl) (by simp) ?_
            refine AllReadyH.cons rfl (fun K hK => ?_) ?_
            · go_simp
              refine (HOF.out _ W23 hr.out (hT.out.kept K23.out)).mono ?_
              rintro e W24 ⟨rfl, k24⟩
              have R24 := k24.reads
              refine hK.out _ _ (S3.reads s23.out R24) (fun _ => ?_)
              clear hK K
              try simp only [Act.put, List.setIfInBounds_toArray, List.set_cons_zero, List.set_cons_succ]
              have s24 := hid (S3.reads s23.out R24)
              have K24 := hid (K23.out.trans' k24)
              clear k24
              refine wpAnyH_ready (rs := [10]) (by kernel_rfl) (by simp) ?_
              refine AllReadyH.cons rfl (fun K hK => ?_) ?_
              · have g8 := hid ((K24.out.block _ h2lt.out id).trans g2.out)
                have h8 := hid (setRow_heap W24 (w.heap.size + 1 + 1) _ DG.toArray _ _ g8.out)
                have s9 := hid (S3.setRow s24.out (w.heap.size + 1 + 1) DG.toArray (by omega))
                rw [if_pos (by rfl)]
                refine wp_store_row 43 _ _ rfl (w.heap.size + 1 + 1) DG.toArray rfl rfl 43 _ g8.out hinf.out hold.out hone.out ?_
                refine hK.out _ _ s9.out (fun _ => ?_)
                clear hK K
                refine wpAnyH_done (by kernel_rfl) ?_ _
                go_wp2_with fail
                refine bodyPost_ret (v := .agg DG.toArray) ?_ rfl ?_
                · exact results_cell_row rfl _ _ (w.heap.size + 1 + 1) 43 DG.toArray (0, 0) _ rfl h8.out Tryd.underlying43 rfl hinf.out
                · exact ⟨HDG.out, (k1.out.trans' K24.out).setRow (.inr (by omega)) _⟩
              exact AllReadyH.nil
            exact AllReadyH.nil
          exact AllReadyH.nil
        exact AllReadyH.nil
      refine AllReadyH.cons rfl (fun K hK => ?_) ?_
      · go_simp
        refine (numbers_any _ zs W20 (by omega) rz_20.out).mono ?_
        rintro e W26 ⟨v26, rfl, o26, k26, _⟩
        obtain ⟨a26, c26, rfl⟩ := Rd.shapeZ (Rd.of_own o26)
        have R26 := k26.reads
        refine hK.out _ _ (S3.reads s20.out R26) (fun _ => ?_)
        clear hK K
        try simp only [Act.put, List.setIfInBounds_toArray, List.set_cons_zero, List.set_cons_succ]
        have s26 := hid (S3.reads s20.out R26)
        have K26 := hid (K20.out.trans' k26)
        have rs_26 := hid (rs_20.out.reads R26)
        have rz_26 := hid (rz_20.out.reads R26)
        have r4_26 := hid (r4_20.out.reads R26)
        have rc_26 := hid (rc_20.out.reads R26)
        have ry_26 := hid (Rd.of_own o26)
        have eg_26 := hid ((k26.block _ (lt_of_heap eg_20.out) id).trans eg_20.out)
        clear o26 k26
        refine wpAnyH_ready (rs := [1]) (by kernel_rfl) (by simp) ?_
        refine AllReadyH.cons rfl (fun K hK => ?_) ?_
        · obtain ⟨W27, run27, k27, z27, cm27⟩ := mark_any W26 W19.heap.size 53 5 #[.int .u8 99, .int .u8 111, .int .u8 109, .int .u8 109, .int .u8 105, .int .u8 116] Tryd.underlying53 Tryd.underlying5 eg_26.out
          have R27 := Reads.of_eq cm27
          go_simp
          clear run27
          refine hK.out _ _ (S3.reads s26.out R27) (fun _ => ?_)
          clear hK K
          try simp only [Act.put, List.setIfInBounds_toArray, List.set_cons_zero, List.set_cons_succ]
          have s27 := hid (S3.reads s26.out R27)
          have K27 := hid (K26.out.trans k27 (fun k hk e => absurd hk (by rw [e]; exact Nat.not_lt.2 g20.out)))
          have rs_27 := hid (rs_26.out.reads R27)
          have rz_27 := hid (rz_26.out.reads R27)
          have r4_27 := hid (r4_26.out.reads R27)
          have rc_27 := hid (rc_26.out.reads R27)
          have ry_27 := hid (ry_26.out.reads R27)
          clear cm27 k27 z27
          refine wpAnyH_ready (rs := [8]) (by kernel_rfl) (by simp) ?_
          refine AllReadyH.cons rfl (fun K hK => ?_) ?_
          · go_simp
            refine hK.out _ _ (S3.reads s27.out (Kept.reads ((Kept.refl no _).alloc _))) (fun _ => ?_)
            clear hK K
            try simp only [Act.put, List.setIfInBounds_toArray, List.set_cons_zero, List.set_cons_succ]
            refine lay_any _ _ ?_
            intro W28 e28 k28 z28
            have R28 := k28.reads
            have s28 := hid (S3.reads s27.out R28)
            have K28 := hid (K27.out.trans' k28)
            have rs_28 := hid (rs_27.out.reads R28)
            have rz_28 := hid (rz_27.out.reads R28)
            have r4_28 := hid (r4_27.out.reads R28)
            have rc_28 := hid (rc_27.out.reads R28)
            have ry_28 := hid (ry_27.out.reads R28)
            have hr : RdP W28 (.slice (some ⟨W27.heap.size, 0, none⟩) 4 4) (commitP D [c, a, b, d] zs) := ⟨[.slice (some ⟨W19.heap.size, 0, none⟩) 6 6, .slice (some ⟨w.heap.size, 0, none⟩) 32 32, .slice a19 (numsB [c, a, b, d]).length c19, .slice a26 (numsB zs).length c26], Rd.block e28 rfl (by decide), fun j hj => by
              match j, hj with
              | 0, _ => exact rc_28.out
              | 1, _ => exact hD ▸ rs_28.out
              | 2, _ => exact r4_28.out
              | 3, _ => exact ry_28.out⟩
            replace hr := hid hr
            clear e28 k28 z28
            refine wpAnyH_ready (rs := [9]) (by kernel_rfl) (by simp) ?_
            refine AllReadyH.cons rfl (fun K hK => ?_) ?_
            · go_simp
              refine (HOF.out _ W28 hr.out (hT.out.kept K28.out)).mono ?_
              rintro e W29 ⟨rfl, k29⟩
              have R29 := k29.reads
              refine hK.out _ _ (S3.reads s28.out R29) (fun _ => ?_)
              clear hK K
              try simp only [Act.put, List.setIfInBounds_toArray, List.set_cons_zero, List.set_cons_succ]
              have s29 := hid (S3.reads s28.out R29)
              have K29 := hid (K28.out.trans' k29)
              clear k29
              refine wpAnyH_ready (rs := [10]) (by kernel_rfl) (by simp) ?_
              refine AllReadyH.cons rfl (fun K hK => ?_) ?_
              · have g8 := hid ((K29.out.block _ h2lt.out id).trans g2.out)
                have h8 := hid (setRow_heap W29 (w.heap.size + 1 + 1) _ DG.toArray _ _ g8.out)
                have s9 := hid (S3.setRow s29.out (w.heap.size + 1 + 1) DG.toArray (by omega))
                rw [if_pos (by rfl)]
                refine wp_store_row 43 _ _ rfl (w.heap.size + 1 + 1) DG.toArray rfl rfl 43 _ g8.out hinf.out hold.out hone.out ?_
                refine hK.out _ _ s9.out (fun _ => ?_)
                clear hK K
                refine wpAnyH_done (by kernel_rfl) ?_ _
                go_wp2_with fail
                refine bodyPost_ret (v := .agg DG.toArray) ?_ rfl ?_
                · exact results_cell_row rfl _ _ (w.heap.size + 1 + 1) 43 DG.toArray (0, 0) _ rfl h8.out Tryd.underlying43 rfl hinf.out
                · exact ⟨HDG.out, (k1.out.trans' K29.out).setRow (.inr (by omega)) _⟩
              exact AllReadyH.nil
            exact AllReadyH.nil
          exact AllReadyH.nil
        exact AllReadyH.nil
      exact AllReadyH.nil
    refine AllReadyH.cons rfl (fun K hK => ?_) ?_
    · go_simp
      refine (numbers_any _ zs W19 (by omega) rz_19.out).mono ?_
      rintro e W31 ⟨v31, rfl, o31, k31, _⟩
      obtain ⟨a31, c31, rfl⟩ := Rd.shapeZ (Rd.of_own o31)
      have R31 := k31.reads
      refine hK.out _ _ (S3.reads s19.out R31) (fun _ => ?_)
      clear hK K
      try simp only [Act.put, List.setIfInBounds_toArray, List.set_cons_zero, List.set_cons_succ]
      have s31 := hid (S3.reads s19.out R31)
      have K31 := hid (K19.out.trans' k31)
      have rs_31 := hid (rs_19.out.reads R31)
      have rz_31 := hid (rz_19.out.reads R31)
      have r4_31 := hid (r4_19.out.reads R31)
      have ry_31 := hid (Rd.of_own o31)
      clear o31 k31
      refine wpAnyH_ready (rs := [0]) (by kernel_rfl) (by simp) ?_
      refine AllReadyH.cons rfl (fun K hK => ?_) ?_
      · go_simp
        refine hK.out _ _ (S3.reads s31.out (Kept.reads ((Kept.refl no _).alloc _))) (fun _ => ?_)
        clear hK K
        try simp only [Act.put, List.setIfInBounds_toArray, List.set_cons_zero, List.set_cons_succ]
        refine lay_any _ _ ?_
        intro W32 e32 k32 z32
        have R32 := k32.reads
        have g32 := hid (K31.out.size)
        have s32 := hid (S3.reads s31.out R32)
        have K32 := hid (K31.out.trans' k32)
        have rs_32 := hid (rs_31.out.reads R32)
        have rz_32 := hid (rz_31.out.reads R32)
        have r4_32 := hid (r4_31.out.reads R32)
        have ry_32 := hid (ry_31.out.reads R32)
        have eg_32 := hid e32
        have rc_32 : Hd (Rd W32 1 (.slice (some ⟨W31.heap.size, 0, none⟩) 6 6) 6 (([99, 111, 109, 109, 105, 116] : List UInt8).map B)) := ⟨Rd.block e32 rfl (by decide)⟩
        clear e32 k32 z32
        refine wpAnyH_ready (rs := [1]) (by kernel_rfl) (by simp) ?_
        refine AllReadyH.cons rfl (fun K hK => ?_) ?_
        · obtain ⟨W33, run33, k33, z33, cm33⟩ := mark_any W32 W31.heap.size 53 5 #[.int .u8 99, .int .u8 111, .int .u8 109, .int .u8 109, .int .u8 105, .int .u8 116] Tryd.underlying53 Tryd.underlying5 eg_32.out
          have R33 := Reads.of_eq cm33
          go_simp
          clear run33
          refine hK.out _ _ (S3.reads s32.out R33) (fun _ => ?_)
          clear hK K
          try simp only [Act.put, List.setIfInBounds_toArray, List.set_cons_zero, List.set_cons_succ]
          have s33 := hid (S3.reads s32.out R33)
          have K33 := hid (K32.out.trans k33 (fun k hk e => absurd hk (by rw [e]; exact Nat.not_lt.2 g32.out)))
          have rs_33 := hid (rs_32.out.reads R33)
          have rz_33 := hid (rz_32.out.reads R33)
          have r4_33 := hid (r4_32.out.reads R33)
          have ry_33 := hid (ry_32.out.reads R33)
          have rc_33 := hid (rc_32.out.reads R33)
          clear cm33 k33 z33
          refine wpAnyH_ready (rs := [8]) (by kernel_rfl) (by simp) ?_
          refine AllReadyH.cons rfl (fun K hK => ?_) ?_
          · go_simp
            refine hK.out _ _ (S3.reads s33.out (Kept.reads ((Kept.refl no _).alloc _))) (fun _ => ?_)
            clear hK K
            try simp only [Act.put, List.setIfInBounds_toArray, List.set_cons_zero, List.set_cons_succ]
            refine lay_any _ _ ?_
            intro W34 e34 k34 z34
            have R34 := k34.reads
            have s34 := hid (S3.reads s33.out R34)
            have K34 := hid (K33.out.trans' k34)
            have rs_34 := hid (rs_33.out.reads R34)
            have rz_34 := hid (rz_33.out.reads R34)
            have r4_34 := hid (r4_33.out.reads R34)
            have ry_34 := hid (ry_33.out.reads R34)
            have rc_34 := hid (rc_33.out.reads R34)
            have hr : RdP W34 (.slice (some ⟨W33.heap.size, 0, none⟩) 4 4) (commitP D [c, a, b, d] zs) := ⟨[.slice (some ⟨W31.heap.size, 0, none⟩) 6 6, .slice (some ⟨w.heap.size, 0, none⟩) 32 32, .slice a19 (numsB [c, a, b, d]).length c19, .slice a31 (numsB zs).length c31], Rd.block e34 rfl (by decide), fun j hj => by
              match j, hj with
              | 0, _ => exact rc_34.out
              | 1, _ => exact hD ▸ rs_34.out
              | 2, _ => exact r4_34.out
              | 3, _ => exact ry_34.out⟩
            replace hr := hid hr
            clear e34 k34 z34
            refine wpAnyH_ready (rs := [9]) (by kernel_rfl) (by simp) ?_
            refine AllReadyH.cons rfl (fun K hK => ?_) ?_
            · go_simp
              refine (HOF.out _ W34 hr.out (hT.out.kept K34.out)).mono ?_
              rintro e W35 ⟨rfl, k35⟩
              have R35 := k35.reads
              refine hK.out _ _ (S3.reads s34.out R35) (fun _ => ?_)
              clear hK K
              try simp only [Act.put, List.setIfInBounds_toArray, List.set_cons_zero, List.set_cons_succ]
              have s35 := hid (S3.reads s34.out R35)
              have K35 := hid (K34.out.trans' k35)
              clear k35
              refine wpAnyH_ready (rs := [10]) (by kernel_rfl) (by simp) ?_
              refine AllReadyH.cons rfl (fun K hK => ?_) ?_
              · have g8 := hid ((K35.out.block _ h2lt.out id).trans g2.out)
                have h8 := hid (setRow_heap W35 (w.heap.size + 1 + 1) _ DG.toArray _ _ g8.out)
                have s9 := hid (S3.setRow s35.out (w.heap.size + 1 + 1) DG.toArray (by omega))
                rw [if_pos (by rfl)]
                refine wp_store_row 43 _ _ rfl (w.heap.size + 1 + 1) DG.toArray rfl rfl 43 _ g8.out hinf.out hold.out hone.out ?_
                refine hK.out _ _ s9.out (fun _ => ?_)
                clear hK K
                refine wpAnyH_done (by kernel_rfl) ?_ _
                go_wp2_with fail
                refine bodyPost_ret (v := .agg DG.toArray) ?_ rfl ?_
                · exact results_cell_row rfl _ _ (w.heap.size + 1 + 1) 43 DG.toArray (0, 0) _ rfl h8.out Tryd.underlying43 rfl hinf.out
                · exact ⟨HDG.out, (k1.out.trans' K35.out).setRow (.inr (by omega)) _⟩
              exact AllReadyH.nil
            exact AllReadyH.nil
          exact AllReadyH.nil
        exact AllReadyH.nil
      exact AllReadyH.nil
    exact AllReadyH.nil
  exact AllReadyH.nil
end Go.Proofs.YtggcbjchnefhfaaDoor
