/- electionref36.Salt, Commit (Commit's walk is printed by gen_commit.py ref). -/
import Derived.Test.YtggcbjchnefhfaaDoorCmtOf
import Derived.Test.YtggcbjchnefhfaaDoorRefJoin
namespace Go.Proofs.YtggcbjchnefhfaaDoor
open Go.RowKit Go.Mk Go.Sha Go.Cmt
set_option maxRecDepth 100000 in
set_option maxHeartbeats 4000000 in
theorem refcommit_any (v4 : Value) (D : List UInt8) (zs : List Int) (c a b d : Int) (w : World) (hD : D.length = 32) (hz : zs.length ≤ 1000) (hr : RdZ w v4 zs) (hT : TabR w) : Calls Tryd.prog 23 #[.agg (D.map B).toArray, .int .i64 c, .agg #[.int .i64 a, .int .i64 b, .int .i64 d], v4] w fun e w' => e = .returned (Dg (commitD D [c, a, b, d] zs)) ∧ Kept no w w' := by
  replace hT := hid hT
  replace hr := hid hr
  have hPl : (join (commitP D [c, a, b, d] zs)).length ≤ 1099511000000 := by
    simp only [commitP, join, List.flatMap_cons, List.flatMap_nil, List.length_append, be_length, List.length_nil, numsB_length, List.length_cons]; omega
  have h32 : ∀ p ∈ commitP D [c, a, b, d] zs, p.length < 4294967296 := by
    intro p hp
    simp only [commitP, List.mem_cons, List.not_mem_nil, or_false] at hp
    rcases hp with rfl | rfl | rfl | rfl
    · simp
    · omega
    · rw [numsB_length]; simp
    · rw [numsB_length]; omega
  have HOF := hid (fun v W (hr : RdP W v (commitP D [c, a, b, d] zs)) (hT : TabR W) => refof_any v _ W hPl (by simp [commitP]) h32 hr hT)
  obtain ⟨DG, hDG⟩ : ∃ DG, (sum (join (commitP D [c, a, b, d] zs))).map B = DG := ⟨_, rfl⟩
  have hinf := hid (Dg_inf (join (commitP D [c, a, b, d] zs)))
  have hone := hid (Dg_one (join (commitP D [c, a, b, d] zs)))
  have hold : Hd (Z32.size = ((sum (join (commitP D [c, a, b, d] zs))).map B).toArray.size) := ⟨by rw [Dg_size]; rfl⟩
  have HDG : Hd ((.returned (.agg DG.toArray) : Ending) = .returned (Dg (commitD D [c, a, b, d] zs))) := ⟨by rw [← hDG]; rfl⟩
  unfold Dg at HOF
  rw [hDG] at hinf hone hold HOF
  clear hDG hPl h32
  obtain ⟨L, hL⟩ : ∃ L, D.map B = L := ⟨_, rfl⟩
  have hL' : Hd (L.length = 32) := ⟨by rw [← hL]; simp [hD]⟩
  replace hL := hid hL
  rw [hL.out]
  go_enter Tryd.func23, Tryd.ntmps23
  go_upto_region 1 with fail
  obtain ⟨w1, hw1, g0, g1, g2, k1⟩ := three_block w L a b d
  unfold Z32 at hw1
  rw [← hw1]
  clear hw1
  have c0 : w1.cell? ⟨w.heap.size + 1, 0, none⟩ = some (.int .i64 a) := cell_of_row w1 _ 0 _ _ _ g1
  have c1 : w1.cell? ⟨w.heap.size + 1, 1, none⟩ = some (.int .i64 b) := cell_of_row w1 _ 1 _ _ _ g1
  have c2 : w1.cell? ⟨w.heap.size + 1, 2, none⟩ = some (.int .i64 d) := cell_of_row w1 _ 2 _ _ _ g1
  have h2lt := hid (lt_of_heap g2)
  have s0 := hid (show S3 (w.heap.size + 1) a b d w1.drew from ⟨c0, c1, c2⟩)
  have rs_0 : Hd (Rd w1.drew 1 (.slice (some ⟨w.heap.size, 0, none⟩) 32 32) 32 (D.map B)) := ⟨by rw [hL.out]; exact (Rd.block (size := 1) (n := 32) g0 (by rw [hL'.out]) (by decide)).drew⟩
  have rz_0 : Hd (RdZ w1.drew v4 zs) := ⟨(hr.out.kept k1).drew⟩
  have K0 : Hd (Kept no w1 w1.drew) := ⟨(Kept.refl no w1).drew⟩
  replace hT := hid (hT.out.kept k1)
  replace k1 := hid k1
  replace g2 := hid g2
  clear g0 g1 c0 c1 c2
  refine wp_region_held_drew (S := S3 (w.heap.size + 1) a b d) (by kernel_rfl) s0.out (fun _ => ?_)
  generalize w1.drew = W0 at s0 rs_0 rz_0 K0 ⊢
  refine take2 2 (some 11) (.slice (some ⟨w.heap.size, 0, none⟩) 32 32) rfl rfl (by kernel_rfl) (by kernel_rfl) (by kernel_rfl) (fun _ _ _ h => h) (Or.inl ⟨by rfl, fun w hSw => ?_⟩) s0.out ?_
  · obtain ⟨h0, h1, h2⟩ := hSw
    go_simp
  try simp only [Act.put, List.setIfInBounds_toArray, List.set_cons_zero, List.set_cons_succ]
  refine take2 3 (some 12) (.int .i64 c) rfl rfl (by kernel_rfl) (by kernel_rfl) (by kernel_rfl) (fun _ _ _ h => h) (Or.inl ⟨by rfl, fun w hSw => ?_⟩) s0.out ?_
  · obtain ⟨h0, h1, h2⟩ := hSw
    go_simp
  try simp only [Act.put, List.setIfInBounds_toArray, List.set_cons_zero, List.set_cons_succ]
  refine take2 4 (some 13) (.pointer (some ⟨w.heap.size + 1, 0, none⟩)) rfl rfl (by kernel_rfl) (by kernel_rfl) (by kernel_rfl) (fun _ _ _ h => h) (Or.inl ⟨by rfl, fun w hSw => ?_⟩) s0.out ?_
  · obtain ⟨h0, h1, h2⟩ := hSw
    go_simp
  try simp only [Act.put, List.setIfInBounds_toArray, List.set_cons_zero, List.set_cons_succ]
  refine take2 5 (some 14) (.int .i64 a) rfl rfl (by kernel_rfl) (by kernel_rfl) (by kernel_rfl) (fun _ _ _ h => h) (Or.inl ⟨by rfl, fun w hSw => ?_⟩) s0.out ?_
  · obtain ⟨h0, h1, h2⟩ := hSw
    go_simp
  try simp only [Act.put, List.setIfInBounds_toArray, List.set_cons_zero, List.set_cons_succ]
  refine take2 6 (some 15) (.pointer (some ⟨w.heap.size + 1, 1, none⟩)) rfl rfl (by kernel_rfl) (by kernel_rfl) (by kernel_rfl) (fun _ _ _ h => h) (Or.inl ⟨by rfl, fun w hSw => ?_⟩) s0.out ?_
  · obtain ⟨h0, h1, h2⟩ := hSw
    go_simp
  try simp only [Act.put, List.setIfInBounds_toArray, List.set_cons_zero, List.set_cons_succ]
  refine take2 7 (some 16) (.int .i64 b) rfl rfl (by kernel_rfl) (by kernel_rfl) (by kernel_rfl) (fun _ _ _ h => h) (Or.inl ⟨by rfl, fun w hSw => ?_⟩) s0.out ?_
  · obtain ⟨h0, h1, h2⟩ := hSw
    go_simp
  try simp only [Act.put, List.setIfInBounds_toArray, List.set_cons_zero, List.set_cons_succ]
  refine take2 8 (some 17) (.pointer (some ⟨w.heap.size + 1, 2, none⟩)) rfl rfl (by kernel_rfl) (by kernel_rfl) (by kernel_rfl) (fun _ _ _ h => h) (Or.inl ⟨by rfl, fun w hSw => ?_⟩) s0.out ?_
  · obtain ⟨h0, h1, h2⟩ := hSw
    go_simp
  try simp only [Act.put, List.setIfInBounds_toArray, List.set_cons_zero, List.set_cons_succ]
  refine take2 9 (some 18) (.int .i64 d) rfl rfl (by kernel_rfl) (by kernel_rfl) (by kernel_rfl) (fun _ _ _ h => h) (Or.inl ⟨by rfl, fun w hSw => ?_⟩) s0.out ?_
  · obtain ⟨h0, h1, h2⟩ := hSw
    go_simp
  try simp only [Act.put, List.setIfInBounds_toArray, List.set_cons_zero, List.set_cons_succ]
  refine take2 12 (some 21) (v4) rfl rfl (by kernel_rfl) (by kernel_rfl) (by kernel_rfl) (fun _ _ _ h => h) (Or.inl ⟨by rfl, fun w hSw => ?_⟩) s0.out ?_
  · obtain ⟨h0, h1, h2⟩ := hSw
    go_simp
  try simp only [Act.put, List.setIfInBounds_toArray, List.set_cons_zero, List.set_cons_succ]
  refine wpAnyH_ready (rs := [0, 10]) (by kernel_rfl) (by simp) ?_
  refine AllReadyH.cons rfl (fun K hK => ?_) ?_
  · go_simp
    refine hK.out _ _ (S3.reads s0.out (Kept.reads ((Kept.refl no _).alloc _))) (fun _ => ?_)
    clear hK K
    try simp only [Act.put, List.setIfInBounds_toArray, List.set_cons_zero, List.set_cons_succ]
    refine lay_any _ _ ?_
    intro W1 e1 k1 z1
    have R1 := k1.reads
    have g1 := hid (K0.out.size)
    have s1 := hid (S3.reads s0.out R1)
    have K1 := hid (K0.out.trans' k1)
    have rs_1 := hid (rs_0.out.reads R1)
    have rz_1 := hid (rz_0.out.reads R1)
    have eg_1 := hid e1
    have rc_1 : Hd (Rd W1 1 (.slice (some ⟨W0.heap.size, 0, none⟩) 6 6) 6 (([99, 111, 109, 109, 105, 116] : List UInt8).map B)) := ⟨Rd.block e1 rfl (by decide)⟩
    clear e1 k1 z1
    refine wpAnyH_ready (rs := [1, 10]) (by kernel_rfl) (by simp) ?_
    refine AllReadyH.cons rfl (fun K hK => ?_) ?_
    · obtain ⟨W2, run2, k2, z2, cm2⟩ := mark_any W1 W0.heap.size 53 5 #[.int .u8 99, .int .u8 111, .int .u8 109, .int .u8 109, .int .u8 105, .int .u8 116] Tryd.underlying53 Tryd.underlying5 eg_1.out
      have R2 := Reads.of_eq cm2
      go_simp
      clear run2
      refine hK.out _ _ (S3.reads s1.out R2) (fun _ => ?_)
      clear hK K
      try simp only [Act.put, List.setIfInBounds_toArray, List.set_cons_zero, List.set_cons_succ]
      have s2 := hid (S3.reads s1.out R2)
      have K2 := hid (K1.out.trans k2 (fun k hk e => absurd hk (by rw [e]; exact Nat.not_lt.2 g1.out)))
      have rs_2 := hid (rs_1.out.reads R2)
      have rz_2 := hid (rz_1.out.reads R2)
      have rc_2 := hid (rc_1.out.reads R2)
      clear cm2 k2 z2
      refine wpAnyH_ready (rs := [10]) (by kernel_rfl) (by simp) ?_
      refine AllReadyH.cons rfl (fun K hK => ?_) ?_
      · go_simp
        refine hK.out _ _ (S3.reads s2.out (Kept.reads ((Kept.refl no _).alloc _))) (fun _ => ?_)
        clear hK K
        try simp only [Act.put, List.setIfInBounds_toArray, List.set_cons_zero, List.set_cons_succ]
        refine lay_any _ _ ?_
        intro W3 e3 k3 z3
        have R3 := k3.reads
        have s3 := hid (S3.reads s2.out R3)
        have K3 := hid (K2.out.trans' k3)
        have rs_3 := hid (rs_2.out.reads R3)
        have rz_3 := hid (rz_2.out.reads R3)
        have rc_3 := hid (rc_2.out.reads R3)
        have rq_3 : Hd (RdZ W3 (.slice (some ⟨W2.heap.size, 0, none⟩) 4 4) [c, a, b, d]) := ⟨Rd.block e3 rfl (by decide)⟩
        clear e3 k3 z3
        refine wpAnyH_ready (rs := [11]) (by kernel_rfl) (by simp) ?_
        refine AllReadyH.cons rfl (fun K hK => ?_) ?_
        · go_simp
          refine (refnumbers_any _ [c, a, b, d] W3 (by simp) rq_3.out).mono ?_
          rintro e W4 ⟨v4, rfl, o4, k4, _⟩
          obtain ⟨a4, c4, rfl⟩ := Rd.shapeZ (Rd.of_own o4)
          have R4 := k4.reads
          refine hK.out _ _ (S3.reads s3.out R4) (fun _ => ?_)
          clear hK K
          try simp only [Act.put, List.setIfInBounds_toArray, List.set_cons_zero, List.set_cons_succ]
          have s4 := hid (S3.reads s3.out R4)
          have K4 := hid (K3.out.trans' k4)
          have rs_4 := hid (rs_3.out.reads R4)
          have rz_4 := hid (rz_3.out.reads R4)
          have rc_4 := hid (rc_3.out.reads R4)
          have rq_4 := hid (rq_3.out.reads R4)
          have r4_4 := hid (Rd.of_own o4)
          clear o4 k4
          refine wpAnyH_ready (rs := [13]) (by kernel_rfl) (by simp) ?_
          refine AllReadyH.cons rfl (fun K hK => ?_) ?_
          · go_simp
            refine (refnumbers_any _ zs W4 (by omega) rz_4.out).mono ?_
            rintro e W5 ⟨v5, rfl, o5, k5, _⟩
            obtain ⟨a5, c5, rfl⟩ := Rd.shapeZ (Rd.of_own o5)
            have R5 := k5.reads
            refine hK.out _ _ (S3.reads s4.out R5) (fun _ => ?_)
            clear hK K
            try simp only [Act.put, List.setIfInBounds_toArray, List.set_cons_zero, List.set_cons_succ]
            have s5 := hid (S3.reads s4.out R5)
            have K5 := hid (K4.out.trans' k5)
            have rs_5 := hid (rs_4.out.reads R5)
            have rz_5 := hid (rz_4.out.reads R5)
            have rc_5 := hid (rc_4.out.reads R5)
            have rq_5 := hid (rq_4.out.reads R5)
            have r4_5 := hid (r4_4.out.reads R5)
            have ry_5 := hid (Rd.of_own o5)
            clear o5 k5
            refine wpAnyH_ready (rs := [14]) (by kernel_rfl) (by simp) ?_
            refine AllReadyH.cons rfl (fun K hK => ?_) ?_
            · go_simp
              refine hK.out _ _ (S3.reads s5.out (Kept.reads ((Kept.refl no _).alloc _))) (fun _ => ?_)
              clear hK K
              try simp only [Act.put, List.setIfInBounds_toArray, List.set_cons_zero, List.set_cons_succ]
              refine lay_any _ _ ?_
              intro W6 e6 k6 z6
              have R6 := k6.reads
              have s6 := hid (S3.reads s5.out R6)
              have K6 := hid (K5.out.trans' k6)
              have rs_6 := hid (rs_5.out.reads R6)
              have rz_6 := hid (rz_5.out.reads R6)
              have rc_6 := hid (rc_5.out.reads R6)
              have rq_6 := hid (rq_5.out.reads R6)
              have r4_6 := hid (r4_5.out.reads R6)
              have ry_6 := hid (ry_5.out.reads R6)
              have hr : RdP W6 (.slice (some ⟨W5.heap.size, 0, none⟩) 4 4) (commitP D [c, a, b, d] zs) := ⟨[.slice (some ⟨W0.heap.size, 0, none⟩) 6 6, .slice (some ⟨w.heap.size, 0, none⟩) 32 32, .slice a4 (numsB [c, a, b, d]).length c4, .slice a5 (numsB zs).length c5], Rd.block e6 rfl (by decide), fun j hj => by
                match j, hj with
                | 0, _ => exact rc_6.out
                | 1, _ => exact hD ▸ rs_6.out
                | 2, _ => exact r4_6.out
                | 3, _ => exact ry_6.out⟩
              replace hr := hid hr
              clear e6 k6 z6
              refine wpAnyH_ready (rs := [15]) (by kernel_rfl) (by simp) ?_
              refine AllReadyH.cons rfl (fun K hK => ?_) ?_
              · go_simp
                refine (HOF.out _ W6 hr.out (hT.out.kept K6.out)).mono ?_
                rintro e W7 ⟨rfl, k7⟩
                have R7 := k7.reads
                refine hK.out _ _ (S3.reads s6.out R7) (fun _ => ?_)
                clear hK K
                try simp only [Act.put, List.setIfInBounds_toArray, List.set_cons_zero, List.set_cons_succ]
                have s7 := hid (S3.reads s6.out R7)
                have K7 := hid (K6.out.trans' k7)
                clear k7
                refine wpAnyH_ready (rs := [16]) (by kernel_rfl) (by simp) ?_
                refine AllReadyH.cons rfl (fun K hK => ?_) ?_
                · have g8 := hid ((K7.out.block _ h2lt.out id).trans g2.out)
                  have h8 := hid (setRow_heap W7 (w.heap.size + 1 + 1) _ DG.toArray _ _ g8.out)
                  have s9 := hid (S3.setRow s7.out (w.heap.size + 1 + 1) DG.toArray (by omega))
                  rw [if_pos (by rfl)]
                  refine wp_store_row 43 _ _ rfl (w.heap.size + 1 + 1) DG.toArray rfl rfl 43 _ g8.out hinf.out hold.out hone.out ?_
                  refine hK.out _ _ s9.out (fun _ => ?_)
                  clear hK K
                  refine wpAnyH_done (by kernel_rfl) ?_ _
                  go_wp2_with fail
                  refine bodyPost_ret (v := .agg DG.toArray) ?_ rfl ?_
                  · exact results_cell_row rfl _ _ (w.heap.size + 1 + 1) 43 DG.toArray (0, 0) _ rfl h8.out Tryd.underlying43 rfl hinf.out
                  · exact ⟨HDG.out, (k1.out.trans' K7.out).setRow (.inr (by omega)) _⟩
                exact AllReadyH.nil
              exact AllReadyH.nil
            exact AllReadyH.nil
          exact AllReadyH.nil
        exact AllReadyH.nil
      exact AllReadyH.nil
    refine AllReadyH.cons rfl (fun K hK => ?_) ?_
    · go_simp
      refine hK.out _ _ (S3.reads s1.out (Kept.reads ((Kept.refl no _).alloc _))) (fun _ => ?_)
      clear hK K
      try simp only [Act.put, List.setIfInBounds_toArray, List.set_cons_zero, List.set_cons_succ]
      refine lay_any _ _ ?_
      intro W9 e9 k9 z9
      have R9 := k9.reads
      have s9 := hid (S3.reads s1.out R9)
      have K9 := hid (K1.out.trans' k9)
      have rs_9 := hid (rs_1.out.reads R9)
      have rz_9 := hid (rz_1.out.reads R9)
      have rc_9 := hid (rc_1.out.reads R9)
      have rq_9 : Hd (RdZ W9 (.slice (some ⟨W1.heap.size, 0, none⟩) 4 4) [c, a, b, d]) := ⟨Rd.block e9 rfl (by decide)⟩
      have eg_9 := hid ((k9.block _ (lt_of_heap eg_1.out) id).trans eg_1.out)
      clear e9 k9 z9
      refine wpAnyH_ready (rs := [1, 11]) (by kernel_rfl) (by simp) ?_
      refine AllReadyH.cons rfl (fun K hK => ?_) ?_
      · obtain ⟨W10, run10, k10, z10, cm10⟩ := mark_any W9 W0.heap.size 53 5 #[.int .u8 99, .int .u8 111, .int .u8 109, .int .u8 109, .int .u8 105, .int .u8 116] Tryd.underlying53 Tryd.underlying5 eg_9.out
        have R10 := Reads.of_eq cm10
        go_simp
        clear run10
        refine hK.out _ _ (S3.reads s9.out R10) (fun _ => ?_)
        clear hK K
        try simp only [Act.put, List.setIfInBounds_toArray, List.set_cons_zero, List.set_cons_succ]
        have s10 := hid (S3.reads s9.out R10)
        have K10 := hid (K9.out.trans k10 (fun k hk e => absurd hk (by rw [e]; exact Nat.not_lt.2 g1.out)))
        have rs_10 := hid (rs_9.out.reads R10)
        have rz_10 := hid (rz_9.out.reads R10)
        have rc_10 := hid (rc_9.out.reads R10)
        have rq_10 := hid (rq_9.out.reads R10)
        clear cm10 k10 z10
        refine wpAnyH_ready (rs := [11]) (by kernel_rfl) (by simp) ?_
        refine AllReadyH.cons rfl (fun K hK => ?_) ?_
        · go_simp
          refine (refnumbers_any _ [c, a, b, d] W10 (by simp) rq_10.out).mono ?_
          rintro e W11 ⟨v11, rfl, o11, k11, _⟩
          obtain ⟨a11, c11, rfl⟩ := Rd.shapeZ (Rd.of_own o11)
          have R11 := k11.reads
          refine hK.out _ _ (S3.reads s10.out R11) (fun _ => ?_)
          clear hK K
          try simp only [Act.put, List.setIfInBounds_toArray, List.set_cons_zero, List.set_cons_succ]
          have s11 := hid (S3.reads s10.out R11)
          have K11 := hid (K10.out.trans' k11)
          have rs_11 := hid (rs_10.out.reads R11)
          have rz_11 := hid (rz_10.out.reads R11)
          have rc_11 := hid (rc_10.out.reads R11)
          have rq_11 := hid (rq_10.out.reads R11)
          have r4_11 := hid (Rd.of_own o11)
          clear o11 k11
          refine wpAnyH_ready (rs := [13]) (by kernel_rfl) (by simp) ?_
          refine AllReadyH.cons rfl (fun K hK => ?_) ?_
          · go_simp
            refine (refnumbers_any _ zs W11 (by omega) rz_11.out).mono ?_
            rintro e W12 ⟨v12, rfl, o12, k12, _⟩
            obtain ⟨a12, c12, rfl⟩ := Rd.shapeZ (Rd.of_own o12)
            have R12 := k12.reads
            refine hK.out _ _ (S3.reads s11.out R12) (fun _ => ?_)
            clear hK K
            try simp only [Act.put, List.setIfInBounds_toArray, List.set_cons_zero, List.set_cons_succ]
            have s12 := hid (S3.reads s11.out R12)
            have K12 := hid (K11.out.trans' k12)
            have rs_12 := hid (rs_11.out.reads R12)
            have rz_12 := hid (rz_11.out.reads R12)
            have rc_12 := hid (rc_11.out.reads R12)
            have rq_12 := hid (rq_11.out.reads R12)
            have r4_12 := hid (r4_11.out.reads R12)
            have ry_12 := hid (Rd.of_own o12)
            clear o12 k12
            refine wpAnyH_ready (rs := [14]) (by kernel_rfl) (by simp) ?_
            refine AllReadyH.cons rfl (fun K hK => ?_) ?_
            · go_simp
              refine hK.out _ _ (S3.reads s12.out (Kept.reads ((Kept.refl no _).alloc _))) (fun _ => ?_)
              clear hK K
              try simp only [Act.put, List.setIfInBounds_toArray, List.set_cons_zero, List.set_cons_succ]
              refine lay_any _ _ ?_
              intro W13 e13 k13 z13
              have R13 := k13.reads
              have s13 := hid (S3.reads s12.out R13)
              have K13 := hid (K12.out.trans' k13)
              have rs_13 := hid (rs_12.out.reads R13)
              have rz_13 := hid (rz_12.out.reads R13)
              have rc_13 := hid (rc_12.out.reads R13)
              have rq_13 := hid (rq_12.out.reads R13)
              have r4_13 := hid (r4_12.out.reads R13)
              have ry_13 := hid (ry_12.out.reads R13)
              have hr : RdP W13 (.slice (some ⟨W12.heap.size, 0, none⟩) 4 4) (commitP D [c, a, b, d] zs) := ⟨[.slice (some ⟨W0.heap.size, 0, none⟩) 6 6, .slice (some ⟨w.heap.size, 0, none⟩) 32 32, .slice a11 (numsB [c, a, b, d]).length c11, .slice a12 (numsB zs).length c12], Rd.block e13 rfl (by decide), fun j hj => by
                match j, hj with
                | 0, _ => exact rc_13.out
                | 1, _ => exact hD ▸ rs_13.out
                | 2, _ => exact r4_13.out
                | 3, _ => exact ry_13.out⟩
              replace hr := hid hr
              clear e13 k13 z13
              refine wpAnyH_ready (rs := [15]) (by kernel_rfl) (by simp) ?_
              refine AllReadyH.cons rfl (fun K hK => ?_) ?_
              · go_simp
                refine (HOF.out _ W13 hr.out (hT.out.kept K13.out)).mono ?_
                rintro e W14 ⟨rfl, k14⟩
                have R14 := k14.reads
                refine hK.out _ _ (S3.reads s13.out R14) (fun _ => ?_)
                clear hK K
                try simp only [Act.put, List.setIfInBounds_toArray, List.set_cons_zero, List.set_cons_succ]
                have s14 := hid (S3.reads s13.out R14)
                have K14 := hid (K13.out.trans' k14)
                clear k14
                refine wpAnyH_ready (rs := [16]) (by kernel_rfl) (by simp) ?_
                refine AllReadyH.cons rfl (fun K hK => ?_) ?_
                · have g8 := hid ((K14.out.block _ h2lt.out id).trans g2.out)
                  have h8 := hid (setRow_heap W14 (w.heap.size + 1 + 1) _ DG.toArray _ _ g8.out)
                  have s9 := hid (S3.setRow s14.out (w.heap.size + 1 + 1) DG.toArray (by omega))
                  rw [if_pos (by rfl)]
                  refine wp_store_row 43 _ _ rfl (w.heap.size + 1 + 1) DG.toArray rfl rfl 43 _ g8.out hinf.out hold.out hone.out ?_
                  refine hK.out _ _ s9.out (fun _ => ?_)
                  clear hK K
                  refine wpAnyH_done (by kernel_rfl) ?_ _
                  go_wp2_with fail
                  refine bodyPost_ret (v := .agg DG.toArray) ?_ rfl ?_
                  · exact results_cell_row rfl _ _ (w.heap.size + 1 + 1) 43 DG.toArray (0, 0) _ rfl h8.out Tryd.underlying43 rfl hinf.out
                  · exact ⟨HDG.out, (k1.out.trans' K14.out).setRow (.inr (by omega)) _⟩
                exact AllReadyH.nil
              exact AllReadyH.nil
            exact AllReadyH.nil
          exact AllReadyH.nil
        exact AllReadyH.nil
      refine AllReadyH.cons rfl (fun K hK => ?_) ?_
      · go_simp
        refine (refnumbers_any _ [c, a, b, d] W9 (by simp) rq_9.out).mono ?_
        rintro e W16 ⟨v16, rfl, o16, k16, _⟩
        obtain ⟨a16, c16, rfl⟩ := Rd.shapeZ (Rd.of_own o16)
        have R16 := k16.reads
        refine hK.out _ _ (S3.reads s9.out R16) (fun _ => ?_)
        clear hK K
        try simp only [Act.put, List.setIfInBounds_toArray, List.set_cons_zero, List.set_cons_succ]
        have s16 := hid (S3.reads s9.out R16)
        have K16 := hid (K9.out.trans' k16)
        have rs_16 := hid (rs_9.out.reads R16)
        have rz_16 := hid (rz_9.out.reads R16)
        have rc_16 := hid (rc_9.out.reads R16)
        have rq_16 := hid (rq_9.out.reads R16)
        have r4_16 := hid (Rd.of_own o16)
        have eg_16 := hid ((k16.block _ (lt_of_heap eg_9.out) id).trans eg_9.out)
        clear o16 k16
        refine wpAnyH_ready (rs := [1, 13]) (by kernel_rfl) (by simp) ?_
        refine AllReadyH.cons rfl (fun K hK => ?_) ?_
        · obtain ⟨W17, run17, k17, z17, cm17⟩ := mark_any W16 W0.heap.size 53 5 #[.int .u8 99, .int .u8 111, .int .u8 109, .int .u8 109, .int .u8 105, .int .u8 116] Tryd.underlying53 Tryd.underlying5 eg_16.out
          have R17 := Reads.of_eq cm17
          go_simp
          clear run17
          refine hK.out _ _ (S3.reads s16.out R17) (fun _ => ?_)
          clear hK K
          try simp only [Act.put, List.setIfInBounds_toArray, List.set_cons_zero, List.set_cons_succ]
          have s17 := hid (S3.reads s16.out R17)
          have K17 := hid (K16.out.trans k17 (fun k hk e => absurd hk (by rw [e]; exact Nat.not_lt.2 g1.out)))
          have rs_17 := hid (rs_16.out.reads R17)
          have rz_17 := hid (rz_16.out.reads R17)
          have rc_17 := hid (rc_16.out.reads R17)
          have rq_17 := hid (rq_16.out.reads R17)
          have r4_17 := hid (r4_16.out.reads R17)
          clear cm17 k17 z17
          refine wpAnyH_ready (rs := [13]) (by kernel_rfl) (by simp) ?_
          refine AllReadyH.cons rfl (fun K hK => ?_) ?_
          · go_simp
            refine (refnumbers_any _ zs W17 (by omega) rz_17.out).mono ?_
            rintro e W18 ⟨v18, rfl, o18, k18, _⟩
            obtain ⟨a18, c18, rfl⟩ := Rd.shapeZ (Rd.of_own o18)
            have R18 := k18.reads
            refine hK.out _ _ (S3.reads s17.out R18) (fun _ => ?_)
            clear hK K
            try simp only [Act.put, List.setIfInBounds_toArray, List.set_cons_zero, List.set_cons_succ]
            have s18 := hid (S3.reads s17.out R18)
            have K18 := hid (K17.out.trans' k18)
            have rs_18 := hid (rs_17.out.reads R18)
            have rz_18 := hid (rz_17.out.reads R18)
            have rc_18 := hid (rc_17.out.reads R18)
            have rq_18 := hid (rq_17.out.reads R18)
            have r4_18 := hid (r4_17.out.reads R18)
            have ry_18 := hid (Rd.of_own o18)
            clear o18 k18
            refine wpAnyH_ready (rs := [14]) (by kernel_rfl) (by simp) ?_
            refine AllReadyH.cons rfl (fun K hK => ?_) ?_
            · go_simp
              refine hK.out _ _ (S3.reads s18.out (Kept.reads ((Kept.refl no _).alloc _))) (fun _ => ?_)
              clear hK K
              try simp only [Act.put, List.setIfInBounds_toArray, List.set_cons_zero, List.set_cons_succ]
              refine lay_any _ _ ?_
              intro W19 e19 k19 z19
              have R19 := k19.reads
              have s19 := hid (S3.reads s18.out R19)
              have K19 := hid (K18.out.trans' k19)
              have rs_19 := hid (rs_18.out.reads R19)
              have rz_19 := hid (rz_18.out.reads R19)
              have rc_19 := hid (rc_18.out.reads R19)
              have rq_19 := hid (rq_18.out.reads R19)
              have r4_19 := hid (r4_18.out.reads R19)
              have ry_19 := hid (ry_18.out.reads R19)
              have hr : RdP W19 (.slice (some ⟨W18.heap.size, 0, none⟩) 4 4) (commitP D [c, a, b, d] zs) := ⟨[.slice (some ⟨W0.heap.size, 0, none⟩) 6 6, .slice (some ⟨w.heap.size, 0, none⟩) 32 32, .slice a16 (numsB [c, a, b, d]).length c16, .slice a18 (numsB zs).length c18], Rd.block e19 rfl (by decide), fun j hj => by
                match j, hj with
                | 0, _ => exact rc_19.out
                | 1, _ => exact hD ▸ rs_19.out
                | 2, _ => exact r4_19.out
                | 3, _ => exact ry_19.out⟩
              replace hr := hid hr
              clear e19 k19 z19
              refine wpAnyH_ready (rs := [15]) (by kernel_rfl) (by simp) ?_
              refine AllReadyH.cons rfl (fun K hK => ?_) ?_
              · go_simp
                refine (HOF.out _ W19 hr.out (hT.out.kept K19.out)).mono ?_
                rintro e W20 ⟨rfl, k20⟩
                have R20 := k20.reads
                refine hK.out _ _ (S3.reads s19.out R20) (fun _ => ?_)
                clear hK K
                try simp only [Act.put, List.setIfInBounds_toArray, List.set_cons_zero, List.set_cons_succ]
                have s20 := hid (S3.reads s19.out R20)
                have K20 := hid (K19.out.trans' k20)
                clear k20
                refine wpAnyH_ready (rs := [16]) (by kernel_rfl) (by simp) ?_
                refine AllReadyH.cons rfl (fun K hK => ?_) ?_
                · have g8 := hid ((K20.out.block _ h2lt.out id).trans g2.out)
                  have h8 := hid (setRow_heap W20 (w.heap.size + 1 + 1) _ DG.toArray _ _ g8.out)
                  have s9 := hid (S3.setRow s20.out (w.heap.size + 1 + 1) DG.toArray (by omega))
                  rw [if_pos (by rfl)]
                  refine wp_store_row 43 _ _ rfl (w.heap.size + 1 + 1) DG.toArray rfl rfl 43 _ g8.out hinf.out hold.out hone.out ?_
                  refine hK.out _ _ s9.out (fun _ => ?_)
                  clear hK K
                  refine wpAnyH_done (by kernel_rfl) ?_ _
                  go_wp2_with fail
                  refine bodyPost_ret (v := .agg DG.toArray) ?_ rfl ?_
                  · exact results_cell_row rfl _ _ (w.heap.size + 1 + 1) 43 DG.toArray (0, 0) _ rfl h8.out Tryd.underlying43 rfl hinf.out
                  · exact ⟨HDG.out, (k1.out.trans' K20.out).setRow (.inr (by omega)) _⟩
                exact AllReadyH.nil
              exact AllReadyH.nil
            exact AllReadyH.nil
          exact AllReadyH.nil
        refine AllReadyH.cons rfl (fun K hK => ?_) ?_
        · go_simp
          refine (refnumbers_any _ zs W16 (by omega) rz_16.out).mono ?_
          rintro e W22 ⟨v22, rfl, o22, k22, _⟩
          obtain ⟨a22, c22, rfl⟩ := Rd.shapeZ (Rd.of_own o22)
          have R22 := k22.reads
          refine hK.out _ _ (S3.reads s16.out R22) (fun _ => ?_)
          clear hK K
          try simp only [Act.put, List.setIfInBounds_toArray, List.set_cons_zero, List.set_cons_succ]
          have s22 := hid (S3.reads s16.out R22)
          have K22 := hid (K16.out.trans' k22)
          have rs_22 := hid (rs_16.out.reads R22)
          have rz_22 := hid (rz_16.out.reads R22)
          have rc_22 := hid (rc_16.out.reads R22)
          have rq_22 := hid (rq_16.out.reads R22)
          have r4_22 := hid (r4_16.out.reads R22)
          have ry_22 := hid (Rd.of_own o22)
          have eg_22 := hid ((k22.block _ (lt_of_heap eg_16.out) id).trans eg_16.out)
          clear o22 k22
          refine wpAnyH_ready (rs := [1]) (by kernel_rfl) (by simp) ?_
          refine AllReadyH.cons rfl (fun K hK => ?_) ?_
          · obtain ⟨W23, run23, k23, z23, cm23⟩ := mark_any W22 W0.heap.size 53 5 #[.int .u8 99, .int .u8 111, .int .u8 109, .int .u8 109, .int .u8 105, .int .u8 116] Tryd.underlying53 Tryd.underlying5 eg_22.out
            have R23 := Reads.of_eq cm23
            go_simp
            clear run23
            refine hK.out _ _ (S3.reads s22.out R23) (fun _ => ?_)
            clear hK K
            try simp only [Act.put, List.setIfInBounds_toArray, List.set_cons_zero, List.set_cons_succ]
            have s23 := hid (S3.reads s22.out R23)
            have K23 := hid (K22.out.trans k23 (fun k hk e => absurd hk (by rw [e]; exact Nat.not_lt.2 g1.out)))
            have rs_23 := hid (rs_22.out.reads R23)
            have rz_23 := hid (rz_22.out.reads R23)
            have rc_23 := hid (rc_22.out.reads R23)
            have rq_23 := hid (rq_22.out.reads R23)
            have r4_23 := hid (r4_22.out.reads R23)
            have ry_23 := hid (ry_22.out.reads R23)
            clear cm23 k23 z23
            refine wpAnyH_ready (rs := [14]) (by kernel_rfl) (by simp) ?_
            refine AllReadyH.cons rfl (fun K hK => ?_) ?_
            · go_simp
              refine hK.out _ _ (S3.reads s23.out (Kept.reads ((Kept.refl no _).alloc _))) (fun _ => ?_)
              clear hK K
              try simp only [Act.put, List.setIfInBounds_toArray, List.set_cons_zero, List.set_cons_succ]
              refine lay_any _ _ ?_
              intro W24 e24 k24 z24
              have R24 := k24.reads
              have s24 := hid (S3.reads s23.out R24)
              have K24 := hid (K23.out.trans' k24)
              have rs_24 := hid (rs_23.out.reads R24)
              have rz_24 := hid (rz_23.out.reads R24)
              have rc_24 := hid (rc_23.out.reads R24)
              have rq_24 := hid (rq_23.out.reads R24)
              have r4_24 := hid (r4_23.out.reads R24)
              have ry_24 := hid (ry_23.out.reads R24)
              have hr : RdP W24 (.slice (some ⟨W23.heap.size, 0, none⟩) 4 4) (commitP D [c, a, b, d] zs) := ⟨[.slice (some ⟨W0.heap.size, 0, none⟩) 6 6, .slice (some ⟨w.heap.size, 0, none⟩) 32 32, .slice a16 (numsB [c, a, b, d]).length c16, .slice a22 (numsB zs).length c22], Rd.block e24 rfl (by decide), fun j hj => by
                match j, hj with
                | 0, _ => exact rc_24.out
                | 1, _ => exact hD ▸ rs_24.out
                | 2, _ => exact r4_24.out
                | 3, _ => exact ry_24.out⟩
              replace hr := hid hr
              clear e24 k24 z24
              refine wpAnyH_ready (rs := [15]) (by kernel_rfl) (by simp) ?_
              refine AllReadyH.cons rfl (fun K hK => ?_) ?_
              · go_simp
                refine (HOF.out _ W24 hr.out (hT.out.kept K24.out)).mono ?_
                rintro e W25 ⟨rfl, k25⟩
                have R25 := k25.reads
                refine hK.out _ _ (S3.reads s24.out R25) (fun _ => ?_)
                clear hK K
                try simp only [Act.put, List.setIfInBounds_toArray, List.set_cons_zero, List.set_cons_succ]
                have s25 := hid (S3.reads s24.out R25)
                have K25 := hid (K24.out.trans' k25)
                clear k25
                refine wpAnyH_ready (rs := [16]) (by kernel_rfl) (by simp) ?_
                refine AllReadyH.cons rfl (fun K hK => ?_) ?_
                · have g8 := hid ((K25.out.block _ h2lt.out id).trans g2.out)
                  have h8 := hid (setRow_heap W25 (w.heap.size + 1 + 1) _ DG.toArray _ _ g8.out)
                  have s9 := hid (S3.setRow s25.out (w.heap.size + 1 + 1) DG.toArray (by omega))
                  rw [if_pos (by rfl)]
                  refine wp_store_row 43 _ _ rfl (w.heap.size + 1 + 1) DG.toArray rfl rfl 43 _ g8.out hinf.out hold.out hone.out ?_
                  refine hK.out _ _ s9.out (fun _ => ?_)
                  clear hK K
                  refine wpAnyH_done (by kernel_rfl) ?_ _
                  go_wp2_with fail
                  refine bodyPost_ret (v := .agg DG.toArray) ?_ rfl ?_
                  · exact results_cell_row rfl _ _ (w.heap.size + 1 + 1) 43 DG.toArray (0, 0) _ rfl h8.out Tryd.underlying43 rfl hinf.out
                  · exact ⟨HDG.out, (k1.out.trans' K25.out).setRow (.inr (by omega)) _⟩
                exact AllReadyH.nil
              exact AllReadyH.nil
            exact AllReadyH.nil
          exact AllReadyH.nil
        exact AllReadyH.nil
      exact AllReadyH.nil
    exact AllReadyH.nil
  refine AllReadyH.cons rfl (fun K hK => ?_) ?_
  · go_simp
    refine hK.out _ _ (S3.reads s0.out (Kept.reads ((Kept.refl no _).alloc _))) (fun _ => ?_)
    clear hK K
    try simp only [Act.put, List.setIfInBounds_toArray, List.set_cons_zero, List.set_cons_succ]
    refine lay_any _ _ ?_
    intro W27 e27 k27 z27
    have R27 := k27.reads
    have s27 := hid (S3.reads s0.out R27)
    have K27 := hid (K0.out.trans' k27)
    have rs_27 := hid (rs_0.out.reads R27)
    have rz_27 := hid (rz_0.out.reads R27)
    have rq_27 : Hd (RdZ W27 (.slice (some ⟨W0.heap.size, 0, none⟩) 4 4) [c, a, b, d]) := ⟨Rd.block e27 rfl (by decide)⟩
    clear e27 k27 z27
    refine wpAnyH_ready (rs := [0, 11]) (by kernel_rfl) (by simp) ?_
    refine AllReadyH.cons rfl (fun K hK => ?_) ?_
    · go_simp
      refine hK.out _ _ (S3.reads s27.out (Kept.reads ((Kept.refl no _).alloc _))) (fun _ => ?_)
      clear hK K
      try simp only [Act.put, List.setIfInBounds_toArray, List.set_cons_zero, List.set_cons_succ]
      refine lay_any _ _ ?_
      intro W28 e28 k28 z28
      have R28 := k28.reads
      have g28 := hid (K27.out.size)
      have s28 := hid (S3.reads s27.out R28)
      have K28 := hid (K27.out.trans' k28)
      have rs_28 := hid (rs_27.out.reads R28)
      have rz_28 := hid (rz_27.out.reads R28)
      have rq_28 := hid (rq_27.out.reads R28)
      have eg_28 := hid e28
      have rc_28 : Hd (Rd W28 1 (.slice (some ⟨W27.heap.size, 0, none⟩) 6 6) 6 (([99, 111, 109, 109, 105, 116] : List UInt8).map B)) := ⟨Rd.block e28 rfl (by decide)⟩
      clear e28 k28 z28
      refine wpAnyH_ready (rs := [1, 11]) (by kernel_rfl) (by simp) ?_
      refine AllReadyH.cons rfl (fun K hK => ?_) ?_
      · obtain ⟨W29, run29, k29, z29, cm29⟩ := mark_any W28 W27.heap.size 53 5 #[.int .u8 99, .int .u8 111, .int .u8 109, .int .u8 109, .int .u8 105, .int .u8 116] Tryd.underlying53 Tryd.underlying5 eg_28.out
        have R29 := Reads.of_eq cm29
        go_simp
        clear run29
        refine hK.out _ _ (S3.reads s28.out R29) (fun _ => ?_)
        clear hK K
        try simp only [Act.put, List.setIfInBounds_toArray, List.set_cons_zero, List.set_cons_succ]
        have s29 := hid (S3.reads s28.out R29)
        have K29 := hid (K28.out.trans k29 (fun k hk e => absurd hk (by rw [e]; exact Nat.not_lt.2 g28.out)))
        have rs_29 := hid (rs_28.out.reads R29)
        have rz_29 := hid (rz_28.out.reads R29)
        have rq_29 := hid (rq_28.out.reads R29)
        have rc_29 := hid (rc_28.out.reads R29)
        clear cm29 k29 z29
        refine wpAnyH_ready (rs := [11]) (by kernel_rfl) (by simp) ?_
        refine AllReadyH.cons rfl (fun K hK => ?_) ?_
        · go_simp
          refine (refnumbers_any _ [c, a, b, d] W29 (by simp) rq_29.out).mono ?_
          rintro e W30 ⟨v30, rfl, o30, k30, _⟩
          obtain ⟨a30, c30, rfl⟩ := Rd.shapeZ (Rd.of_own o30)
          have R30 := k30.reads
          refine hK.out _ _ (S3.reads s29.out R30) (fun _ => ?_)
          clear hK K
          try simp only [Act.put, List.setIfInBounds_toArray, List.set_cons_zero, List.set_cons_succ]
          have s30 := hid (S3.reads s29.out R30)
          have K30 := hid (K29.out.trans' k30)
          have rs_30 := hid (rs_29.out.reads R30)
          have rz_30 := hid (rz_29.out.reads R30)
          have rq_30 := hid (rq_29.out.reads R30)
          have rc_30 := hid (rc_29.out.reads R30)
          have r4_30 := hid (Rd.of_own o30)
          clear o30 k30
          refine wpAnyH_ready (rs := [13]) (by kernel_rfl) (by simp) ?_
          refine AllReadyH.cons rfl (fun K hK => ?_) ?_
          · go_simp
            refine (refnumbers_any _ zs W30 (by omega) rz_30.out).mono ?_
            rintro e W31 ⟨v31, rfl, o31, k31, _⟩
            obtain ⟨a31, c31, rfl⟩ := Rd.shapeZ (Rd.of_own o31)
            have R31 := k31.reads
            refine hK.out _ _ (S3.reads s30.out R31) (fun _ => ?_)
            clear hK K
            try simp only [Act.put, List.setIfInBounds_toArray, List.set_cons_zero, List.set_cons_succ]
            have s31 := hid (S3.reads s30.out R31)
            have K31 := hid (K30.out.trans' k31)
            have rs_31 := hid (rs_30.out.reads R31)
            have rz_31 := hid (rz_30.out.reads R31)
            have rq_31 := hid (rq_30.out.reads R31)
            have rc_31 := hid (rc_30.out.reads R31)
            have r4_31 := hid (r4_30.out.reads R31)
            have ry_31 := hid (Rd.of_own o31)
            clear o31 k31
            refine wpAnyH_ready (rs := [14]) (by kernel_rfl) (by simp) ?_
            refine AllReadyH.cons rfl (fun K hK => ?_) ?_
            · go_simp
              refine hK.out _ _ (S3.reads s31.out (Kept.reads ((Kept.refl no _).alloc _))) (fun _ => ?_)
              clear hK K
              try simp only [Act.put, List.setIfInBounds_toArray, List.set_cons_zero, List.set_cons_succ]
              refine lay_any _ _ ?_
              intro W32 e32 k32 z32
              have R32 := k32.reads
              have s32 := hid (S3.reads s31.out R32)
              have K32 := hid (K31.out.trans' k32)
              have rs_32 := hid (rs_31.out.reads R32)
              have rz_32 := hid (rz_31.out.reads R32)
              have rq_32 := hid (rq_31.out.reads R32)
              have rc_32 := hid (rc_31.out.reads R32)
              have r4_32 := hid (r4_31.out.reads R32)
              have ry_32 := hid (ry_31.out.reads R32)
              have hr : RdP W32 (.slice (some ⟨W31.heap.size, 0, none⟩) 4 4) (commitP D [c, a, b, d] zs) := ⟨[.slice (some ⟨W27.heap.size, 0, none⟩) 6 6, .slice (some ⟨w.heap.size, 0, none⟩) 32 32, .slice a30 (numsB [c, a, b, d]).length c30, .slice a31 (numsB zs).length c31], Rd.block e32 rfl (by decide), fun j hj => by
                match j, hj with
                | 0, _ => exact rc_32.out
                | 1, _ => exact hD ▸ rs_32.out
                | 2, _ => exact r4_32.out
                | 3, _ => exact ry_32.out⟩
              replace hr := hid hr
              clear e32 k32 z32
              refine wpAnyH_ready (rs := [15]) (by kernel_rfl) (by simp) ?_
              refine AllReadyH.cons rfl (fun K hK => ?_) ?_
              · go_simp
                refine (HOF.out _ W32 hr.out (hT.out.kept K32.out)).mono ?_
                rintro e W33 ⟨rfl, k33⟩
                have R33 := k33.reads
                refine hK.out _ _ (S3.reads s32.out R33) (fun _ => ?_)
                clear hK K
                try simp only [Act.put, List.setIfInBounds_toArray, List.set_cons_zero, List.set_cons_succ]
                have s33 := hid (S3.reads s32.out R33)
                have K33 := hid (K32.out.trans' k33)
                clear k33
                refine wpAnyH_ready (rs := [16]) (by kernel_rfl) (by simp) ?_
                refine AllReadyH.cons rfl (fun K hK => ?_) ?_
                · have g8 := hid ((K33.out.block _ h2lt.out id).trans g2.out)
                  have h8 := hid (setRow_heap W33 (w.heap.size + 1 + 1) _ DG.toArray _ _ g8.out)
                  have s9 := hid (S3.setRow s33.out (w.heap.size + 1 + 1) DG.toArray (by omega))
                  rw [if_pos (by rfl)]
                  refine wp_store_row 43 _ _ rfl (w.heap.size + 1 + 1) DG.toArray rfl rfl 43 _ g8.out hinf.out hold.out hone.out ?_
                  refine hK.out _ _ s9.out (fun _ => ?_)
                  clear hK K
                  refine wpAnyH_done (by kernel_rfl) ?_ _
                  go_wp2_with fail
                  refine bodyPost_ret (v := .agg DG.toArray) ?_ rfl ?_
                  · exact results_cell_row rfl _ _ (w.heap.size + 1 + 1) 43 DG.toArray (0, 0) _ rfl h8.out Tryd.underlying43 rfl hinf.out
                  · exact ⟨HDG.out, (k1.out.trans' K33.out).setRow (.inr (by omega)) _⟩
                exact AllReadyH.nil
              exact AllReadyH.nil
            exact AllReadyH.nil
          exact AllReadyH.nil
        exact AllReadyH.nil
      refine AllReadyH.cons rfl (fun K hK => ?_) ?_
      · go_simp
        refine (refnumbers_any _ [c, a, b, d] W28 (by simp) rq_28.out).mono ?_
        rintro e W35 ⟨v35, rfl, o35, k35, _⟩
        obtain ⟨a35, c35, rfl⟩ := Rd.shapeZ (Rd.of_own o35)
        have R35 := k35.reads
        refine hK.out _ _ (S3.reads s28.out R35) (fun _ => ?_)
        clear hK K
        try simp only [Act.put, List.setIfInBounds_toArray, List.set_cons_zero, List.set_cons_succ]
        have s35 := hid (S3.reads s28.out R35)
        have K35 := hid (K28.out.trans' k35)
        have rs_35 := hid (rs_28.out.reads R35)
        have rz_35 := hid (rz_28.out.reads R35)
        have rq_35 := hid (rq_28.out.reads R35)
        have rc_35 := hid (rc_28.out.reads R35)
        have r4_35 := hid (Rd.of_own o35)
        have eg_35 := hid ((k35.block _ (lt_of_heap eg_28.out) id).trans eg_28.out)
        clear o35 k35
        refine wpAnyH_ready (rs := [1, 13]) (by kernel_rfl) (by simp) ?_
        refine AllReadyH.cons rfl (fun K hK => ?_) ?_
        · obtain ⟨W36, run36, k36, z36, cm36⟩ := mark_any W35 W27.heap.size 53 5 #[.int .u8 99, .int .u8 111, .int .u8 109, .int .u8 109, .int .u8 105, .int .u8 116] Tryd.underlying53 Tryd.underlying5 eg_35.out
          have R36 := Reads.of_eq cm36
          go_simp
          clear run36
          refine hK.out _ _ (S3.reads s35.out R36) (fun _ => ?_)
          clear hK K
          try simp only [Act.put, List.setIfInBounds_toArray, List.set_cons_zero, List.set_cons_succ]
          have s36 := hid (S3.reads s35.out R36)
          have K36 := hid (K35.out.trans k36 (fun k hk e => absurd hk (by rw [e]; exact Nat.not_lt.2 g28.out)))
          have rs_36 := hid (rs_35.out.reads R36)
          have rz_36 := hid (rz_35.out.reads R36)
          have rq_36 := hid (rq_35.out.reads R36)
          have rc_36 := hid (rc_35.out.reads R36)
          have r4_36 := hid (r4_35.out.reads R36)
          clear cm36 k36 z36
          refine wpAnyH_ready (rs := [13]) (by kernel_rfl) (by simp) ?_
          refine AllReadyH.cons rfl (fun K hK => ?_) ?_
          · go_simp
            refine (refnumbers_any _ zs W36 (by omega) rz_36.out).mono ?_
            rintro e W37 ⟨v37, rfl, o37, k37, _⟩
            obtain ⟨a37, c37, rfl⟩ := Rd.shapeZ (Rd.of_own o37)
            have R37 := k37.reads
            refine hK.out _ _ (S3.reads s36.out R37) (fun _ => ?_)
            clear hK K
            try simp only [Act.put, List.setIfInBounds_toArray, List.set_cons_zero, List.set_cons_succ]
            have s37 := hid (S3.reads s36.out R37)
            have K37 := hid (K36.out.trans' k37)
            have rs_37 := hid (rs_36.out.reads R37)
            have rz_37 := hid (rz_36.out.reads R37)
            have rq_37 := hid (rq_36.out.reads R37)
            have rc_37 := hid (rc_36.out.reads R37)
            have r4_37 := hid (r4_36.out.reads R37)
            have ry_37 := hid (Rd.of_own o37)
            clear o37 k37
            refine wpAnyH_ready (rs := [14]) (by kernel_rfl) (by simp) ?_
            refine AllReadyH.cons rfl (fun K hK => ?_) ?_
            · go_simp
              refine hK.out _ _ (S3.reads s37.out (Kept.reads ((Kept.refl no _).alloc _))) (fun _ => ?_)
              clear hK K
              try simp only [Act.put, List.setIfInBounds_toArray, List.set_cons_zero, List.set_cons_succ]
              refine lay_any _ _ ?_
              intro W38 e38 k38 z38
              have R38 := k38.reads
              have s38 := hid (S3.reads s37.out R38)
              have K38 := hid (K37.out.trans' k38)
              have rs_38 := hid (rs_37.out.reads R38)
              have rz_38 := hid (rz_37.out.reads R38)
              have rq_38 := hid (rq_37.out.reads R38)
              have rc_38 := hid (rc_37.out.reads R38)
              have r4_38 := hid (r4_37.out.reads R38)
              have ry_38 := hid (ry_37.out.reads R38)
              have hr : RdP W38 (.slice (some ⟨W37.heap.size, 0, none⟩) 4 4) (commitP D [c, a, b, d] zs) := ⟨[.slice (some ⟨W27.heap.size, 0, none⟩) 6 6, .slice (some ⟨w.heap.size, 0, none⟩) 32 32, .slice a35 (numsB [c, a, b, d]).length c35, .slice a37 (numsB zs).length c37], Rd.block e38 rfl (by decide), fun j hj => by
                match j, hj with
                | 0, _ => exact rc_38.out
                | 1, _ => exact hD ▸ rs_38.out
                | 2, _ => exact r4_38.out
                | 3, _ => exact ry_38.out⟩
              replace hr := hid hr
              clear e38 k38 z38
              refine wpAnyH_ready (rs := [15]) (by kernel_rfl) (by simp) ?_
              refine AllReadyH.cons rfl (fun K hK => ?_) ?_
              · go_simp
                refine (HOF.out _ W38 hr.out (hT.out.kept K38.out)).mono ?_
                rintro e W39 ⟨rfl, k39⟩
                have R39 := k39.reads
                refine hK.out _ _ (S3.reads s38.out R39) (fun _ => ?_)
                clear hK K
                try simp only [Act.put, List.setIfInBounds_toArray, List.set_cons_zero, List.set_cons_succ]
                have s39 := hid (S3.reads s38.out R39)
                have K39 := hid (K38.out.trans' k39)
                clear k39
                refine wpAnyH_ready (rs := [16]) (by kernel_rfl) (by simp) ?_
                refine AllReadyH.cons rfl (fun K hK => ?_) ?_
                · have g8 := hid ((K39.out.block _ h2lt.out id).trans g2.out)
                  have h8 := hid (setRow_heap W39 (w.heap.size + 1 + 1) _ DG.toArray _ _ g8.out)
                  have s9 := hid (S3.setRow s39.out (w.heap.size + 1 + 1) DG.toArray (by omega))
                  rw [if_pos (by rfl)]
                  refine wp_store_row 43 _ _ rfl (w.heap.size + 1 + 1) DG.toArray rfl rfl 43 _ g8.out hinf.out hold.out hone.out ?_
                  refine hK.out _ _ s9.out (fun _ => ?_)
                  clear hK K
                  refine wpAnyH_done (by kernel_rfl) ?_ _
                  go_wp2_with fail
                  refine bodyPost_ret (v := .agg DG.toArray) ?_ rfl ?_
                  · exact results_cell_row rfl _ _ (w.heap.size + 1 + 1) 43 DG.toArray (0, 0) _ rfl h8.out Tryd.underlying43 rfl hinf.out
                  · exact ⟨HDG.out, (k1.out.trans' K39.out).setRow (.inr (by omega)) _⟩
                exact AllReadyH.nil
              exact AllReadyH.nil
            exact AllReadyH.nil
          exact AllReadyH.nil
        refine AllReadyH.cons rfl (fun K hK => ?_) ?_
        · go_simp
          refine (refnumbers_any _ zs W35 (by omega) rz_35.out).mono ?_
          rintro e W41 ⟨v41, rfl, o41, k41, _⟩
          obtain ⟨a41, c41, rfl⟩ := Rd.shapeZ (Rd.of_own o41)
          have R41 := k41.reads
          refine hK.out _ _ (S3.reads s35.out R41) (fun _ => ?_)
          clear hK K
          try simp only [Act.put, List.setIfInBounds_toArray, List.set_cons_zero, List.set_cons_succ]
          have s41 := hid (S3.reads s35.out R41)
          have K41 := hid (K35.out.trans' k41)
          have rs_41 := hid (rs_35.out.reads R41)
          have rz_41 := hid (rz_35.out.reads R41)
          have rq_41 := hid (rq_35.out.reads R41)
          have rc_41 := hid (rc_35.out.reads R41)
          have r4_41 := hid (r4_35.out.reads R41)
          have ry_41 := hid (Rd.of_own o41)
          have eg_41 := hid ((k41.block _ (lt_of_heap eg_35.out) id).trans eg_35.out)
          clear o41 k41
          refine wpAnyH_ready (rs := [1]) (by kernel_rfl) (by simp) ?_
          refine AllReadyH.cons rfl (fun K hK => ?_) ?_
          · obtain ⟨W42, run42, k42, z42, cm42⟩ := mark_any W41 W27.heap.size 53 5 #[.int .u8 99, .int .u8 111, .int .u8 109, .int .u8 109, .int .u8 105, .int .u8 116] Tryd.underlying53 Tryd.underlying5 eg_41.out
            have R42 := Reads.of_eq cm42
            go_simp
            clear run42
            refine hK.out _ _ (S3.reads s41.out R42) (fun _ => ?_)
            clear hK K
            try simp only [Act.put, List.setIfInBounds_toArray, List.set_cons_zero, List.set_cons_succ]
            have s42 := hid (S3.reads s41.out R42)
            have K42 := hid (K41.out.trans k42 (fun k hk e => absurd hk (by rw [e]; exact Nat.not_lt.2 g28.out)))
            have rs_42 := hid (rs_41.out.reads R42)
            have rz_42 := hid (rz_41.out.reads R42)
            have rq_42 := hid (rq_41.out.reads R42)
            have rc_42 := hid (rc_41.out.reads R42)
            have r4_42 := hid (r4_41.out.reads R42)
            have ry_42 := hid (ry_41.out.reads R42)
            clear cm42 k42 z42
            refine wpAnyH_ready (rs := [14]) (by kernel_rfl) (by simp) ?_
            refine AllReadyH.cons rfl (fun K hK => ?_) ?_
            · go_simp
              refine hK.out _ _ (S3.reads s42.out (Kept.reads ((Kept.refl no _).alloc _))) (fun _ => ?_)
              clear hK K
              try simp only [Act.put, List.setIfInBounds_toArray, List.set_cons_zero, List.set_cons_succ]
              refine lay_any _ _ ?_
              intro W43 e43 k43 z43
              have R43 := k43.reads
              have s43 := hid (S3.reads s42.out R43)
              have K43 := hid (K42.out.trans' k43)
              have rs_43 := hid (rs_42.out.reads R43)
              have rz_43 := hid (rz_42.out.reads R43)
              have rq_43 := hid (rq_42.out.reads R43)
              have rc_43 := hid (rc_42.out.reads R43)
              have r4_43 := hid (r4_42.out.reads R43)
              have ry_43 := hid (ry_42.out.reads R43)
              have hr : RdP W43 (.slice (some ⟨W42.heap.size, 0, none⟩) 4 4) (commitP D [c, a, b, d] zs) := ⟨[.slice (some ⟨W27.heap.size, 0, none⟩) 6 6, .slice (some ⟨w.heap.size, 0, none⟩) 32 32, .slice a35 (numsB [c, a, b, d]).length c35, .slice a41 (numsB zs).length c41], Rd.block e43 rfl (by decide), fun j hj => by
                match j, hj with
                | 0, _ => exact rc_43.out
                | 1, _ => exact hD ▸ rs_43.out
                | 2, _ => exact r4_43.out
                | 3, _ => exact ry_43.out⟩
              replace hr := hid hr
              clear e43 k43 z43
              refine wpAnyH_ready (rs := [15]) (by kernel_rfl) (by simp) ?_
              refine AllReadyH.cons rfl (fun K hK => ?_) ?_
              · go_simp
                refine (HOF.out _ W43 hr.out (hT.out.kept K43.out)).mono ?_
                rintro e W44 ⟨rfl, k44⟩
                have R44 := k44.reads
                refine hK.out _ _ (S3.reads s43.out R44) (fun _ => ?_)
                clear hK K
                try simp only [Act.put, List.setIfInBounds_toArray, List.set_cons_zero, List.set_cons_succ]
                have s44 := hid (S3.reads s43.out R44)
                have K44 := hid (K43.out.trans' k44)
                clear k44
                refine wpAnyH_ready (rs := [16]) (by kernel_rfl) (by simp) ?_
                refine AllReadyH.cons rfl (fun K hK => ?_) ?_
                · have g8 := hid ((K44.out.block _ h2lt.out id).trans g2.out)
                  have h8 := hid (setRow_heap W44 (w.heap.size + 1 + 1) _ DG.toArray _ _ g8.out)
                  have s9 := hid (S3.setRow s44.out (w.heap.size + 1 + 1) DG.toArray (by omega))
                  rw [if_pos (by rfl)]
                  refine wp_store_row 43 _ _ rfl (w.heap.size + 1 + 1) DG.toArray rfl rfl 43 _ g8.out hinf.out hold.out hone.out ?_
                  refine hK.out _ _ s9.out (fun _ => ?_)
                  clear hK K
                  refine wpAnyH_done (by kernel_rfl) ?_ _
                  go_wp2_with fail
                  refine bodyPost_ret (v := .agg DG.toArray) ?_ rfl ?_
                  · exact results_cell_row rfl _ _ (w.heap.size + 1 + 1) 43 DG.toArray (0, 0) _ rfl h8.out Tryd.underlying43 rfl hinf.out
                  · exact ⟨HDG.out, (k1.out.trans' K44.out).setRow (.inr (by omega)) _⟩
                exact AllReadyH.nil
              exact AllReadyH.nil
            exact AllReadyH.nil
          exact AllReadyH.nil
        exact AllReadyH.nil
      exact AllReadyH.nil
    refine AllReadyH.cons rfl (fun K hK => ?_) ?_
    · go_simp
      refine (refnumbers_any _ [c, a, b, d] W27 (by simp) rq_27.out).mono ?_
      rintro e W46 ⟨v46, rfl, o46, k46, _⟩
      obtain ⟨a46, c46, rfl⟩ := Rd.shapeZ (Rd.of_own o46)
      have R46 := k46.reads
      refine hK.out _ _ (S3.reads s27.out R46) (fun _ => ?_)
      clear hK K
      try simp only [Act.put, List.setIfInBounds_toArray, List.set_cons_zero, List.set_cons_succ]
      have s46 := hid (S3.reads s27.out R46)
      have K46 := hid (K27.out.trans' k46)
      have rs_46 := hid (rs_27.out.reads R46)
      have rz_46 := hid (rz_27.out.reads R46)
      have rq_46 := hid (rq_27.out.reads R46)
      have r4_46 := hid (Rd.of_own o46)
      clear o46 k46
      refine wpAnyH_ready (rs := [0, 13]) (by kernel_rfl) (by simp) ?_
      refine AllReadyH.cons rfl (fun K hK => ?_) ?_
      · go_simp
        refine hK.out _ _ (S3.reads s46.out (Kept.reads ((Kept.refl no _).alloc _))) (fun _ => ?_)
        clear hK K
        try simp only [Act.put, List.setIfInBounds_toArray, List.set_cons_zero, List.set_cons_succ]
        refine lay_any _ _ ?_
        intro W47 e47 k47 z47
        have R47 := k47.reads
        have g47 := hid (K46.out.size)
        have s47 := hid (S3.reads s46.out R47)
        have K47 := hid (K46.out.trans' k47)
        have rs_47 := hid (rs_46.out.reads R47)
        have rz_47 := hid (rz_46.out.reads R47)
        have rq_47 := hid (rq_46.out.reads R47)
        have r4_47 := hid (r4_46.out.reads R47)
        have eg_47 := hid e47
        have rc_47 : Hd (Rd W47 1 (.slice (some ⟨W46.heap.size, 0, none⟩) 6 6) 6 (([99, 111, 109, 109, 105, 116] : List UInt8).map B)) := ⟨Rd.block e47 rfl (by decide)⟩
        clear e47 k47 z47
        refine wpAnyH_ready (rs := [1, 13]) (by kernel_rfl) (by simp) ?_
        refine AllReadyH.cons rfl (fun K hK => ?_) ?_
        · obtain ⟨W48, run48, k48, z48, cm48⟩ := mark_any W47 W46.heap.size 53 5 #[.int .u8 99, .int .u8 111, .int .u8 109, .int .u8 109, .int .u8 105, .int .u8 116] Tryd.underlying53 Tryd.underlying5 eg_47.out
          have R48 := Reads.of_eq cm48
          go_simp
          clear run48
          refine hK.out _ _ (S3.reads s47.out R48) (fun _ => ?_)
          clear hK K
          try simp only [Act.put, List.setIfInBounds_toArray, List.set_cons_zero, List.set_cons_succ]
          have s48 := hid (S3.reads s47.out R48)
          have K48 := hid (K47.out.trans k48 (fun k hk e => absurd hk (by rw [e]; exact Nat.not_lt.2 g47.out)))
          have rs_48 := hid (rs_47.out.reads R48)
          have rz_48 := hid (rz_47.out.reads R48)
          have rq_48 := hid (rq_47.out.reads R48)
          have r4_48 := hid (r4_47.out.reads R48)
          have rc_48 := hid (rc_47.out.reads R48)
          clear cm48 k48 z48
          refine wpAnyH_ready (rs := [13]) (by kernel_rfl) (by simp) ?_
          refine AllReadyH.cons rfl (fun K hK => ?_) ?_
          · go_simp
            refine (refnumbers_any _ zs W48 (by omega) rz_48.out).mono ?_
            rintro e W49 ⟨v49, rfl, o49, k49, _⟩
            obtain ⟨a49, c49, rfl⟩ := Rd.shapeZ (Rd.of_own o49)
            have R49 := k49.reads
            refine hK.out _ _ (S3.reads s48.out R49) (fun _ => ?_)
            clear hK K
            try simp only [Act.put, List.setIfInBounds_toArray, List.set_cons_zero, List.set_cons_succ]
            have s49 := hid (S3.reads s48.out R49)
            have K49 := hid (K48.out.trans' k49)
            have rs_49 := hid (rs_48.out.reads R49)
            have rz_49 := hid (rz_48.out.reads R49)
            have rq_49 := hid (rq_48.out.reads R49)
            have r4_49 := hid (r4_48.out.reads R49)
            have rc_49 := hid (rc_48.out.reads R49)
            have ry_49 := hid (Rd.of_own o49)
            clear o49 k49
            refine wpAnyH_ready (rs := [14]) (by kernel_rfl) (by simp) ?_
            refine AllReadyH.cons rfl (fun K hK => ?_) ?_
            · go_simp
              refine hK.out _ _ (S3.reads s49.out (Kept.reads ((Kept.refl no _).alloc _))) (fun _ => ?_)
              clear hK K
              try simp only [Act.put, List.setIfInBounds_toArray, List.set_cons_zero, List.set_cons_succ]
              refine lay_any _ _ ?_
              intro W50 e50 k50 z50
              have R50 := k50.reads
              have s50 := hid (S3.reads s49.out R50)
              have K50 := hid (K49.out.trans' k50)
              have rs_50 := hid (rs_49.out.reads R50)
              have rz_50 := hid (rz_49.out.reads R50)
              have rq_50 := hid (rq_49.out.reads R50)
              have r4_50 := hid (r4_49.out.reads R50)
              have rc_50 := hid (rc_49.out.reads R50)
              have ry_50 := hid (ry_49.out.reads R50)
              have hr : RdP W50 (.slice (some ⟨W49.heap.size, 0, none⟩) 4 4) (commitP D [c, a, b, d] zs) := ⟨[.slice (some ⟨W46.heap.size, 0, none⟩) 6 6, .slice (some ⟨w.heap.size, 0, none⟩) 32 32, .slice a46 (numsB [c, a, b, d]).length c46, .slice a49 (numsB zs).length c49], Rd.block e50 rfl (by decide), fun j hj => by
                match j, hj with
                | 0, _ => exact rc_50.out
                | 1, _ => exact hD ▸ rs_50.out
                | 2, _ => exact r4_50.out
                | 3, _ => exact ry_50.out⟩
              replace hr := hid hr
              clear e50 k50 z50
              refine wpAnyH_ready (rs := [15]) (by kernel_rfl) (by simp) ?_
              refine AllReadyH.cons rfl (fun K hK => ?_) ?_
              · go_simp
                refine (HOF.out _ W50 hr.out (hT.out.kept K50.out)).mono ?_
                rintro e W51 ⟨rfl, k51⟩
                have R51 := k51.reads
                refine hK.out _ _ (S3.reads s50.out R51) (fun _ => ?_)
                clear hK K
                try simp only [Act.put, List.setIfInBounds_toArray, List.set_cons_zero, List.set_cons_succ]
                have s51 := hid (S3.reads s50.out R51)
                have K51 := hid (K50.out.trans' k51)
                clear k51
                refine wpAnyH_ready (rs := [16]) (by kernel_rfl) (by simp) ?_
                refine AllReadyH.cons rfl (fun K hK => ?_) ?_
                · have g8 := hid ((K51.out.block _ h2lt.out id).trans g2.out)
                  have h8 := hid (setRow_heap W51 (w.heap.size + 1 + 1) _ DG.toArray _ _ g8.out)
                  have s9 := hid (S3.setRow s51.out (w.heap.size + 1 + 1) DG.toArray (by omega))
                  rw [if_pos (by rfl)]
                  refine wp_store_row 43 _ _ rfl (w.heap.size + 1 + 1) DG.toArray rfl rfl 43 _ g8.out hinf.out hold.out hone.out ?_
                  refine hK.out _ _ s9.out (fun _ => ?_)
                  clear hK K
                  refine wpAnyH_done (by kernel_rfl) ?_ _
                  go_wp2_with fail
                  refine bodyPost_ret (v := .agg DG.toArray) ?_ rfl ?_
                  · exact results_cell_row rfl _ _ (w.heap.size + 1 + 1) 43 DG.toArray (0, 0) _ rfl h8.out Tryd.underlying43 rfl hinf.out
                  · exact ⟨HDG.out, (k1.out.trans' K51.out).setRow (.inr (by omega)) _⟩
                exact AllReadyH.nil
              exact AllReadyH.nil
            exact AllReadyH.nil
          exact AllReadyH.nil
        refine AllReadyH.cons rfl (fun K hK => ?_) ?_
        · go_simp
          refine (refnumbers_any _ zs W47 (by omega) rz_47.out).mono ?_
          rintro e W53 ⟨v53, rfl, o53, k53, _⟩
          obtain ⟨a53, c53, rfl⟩ := Rd.shapeZ (Rd.of_own o53)
          have R53 := k53.reads
          refine hK.out _ _ (S3.reads s47.out R53) (fun _ => ?_)
          clear hK K
          try simp only [Act.put, List.setIfInBounds_toArray, List.set_cons_zero, List.set_cons_succ]
          have s53 := hid (S3.reads s47.out R53)
          have K53 := hid (K47.out.trans' k53)
          have rs_53 := hid (rs_47.out.reads R53)
          have rz_53 := hid (rz_47.out.reads R53)
          have rq_53 := hid (rq_47.out.reads R53)
          have r4_53 := hid (r4_47.out.reads R53)
          have rc_53 := hid (rc_47.out.reads R53)
          have ry_53 := hid (Rd.of_own o53)
          have eg_53 := hid ((k53.block _ (lt_of_heap eg_47.out) id).trans eg_47.out)
          clear o53 k53
          refine wpAnyH_ready (rs := [1]) (by kernel_rfl) (by simp) ?_
          refine AllReadyH.cons rfl (fun K hK => ?_) ?_
          · obtain ⟨W54, run54, k54, z54, cm54⟩ := mark_any W53 W46.heap.size 53 5 #[.int .u8 99, .int .u8 111, .int .u8 109, .int .u8 109, .int .u8 105, .int .u8 116] Tryd.underlying53 Tryd.underlying5 eg_53.out
            have R54 := Reads.of_eq cm54
            go_simp
            clear run54
            refine hK.out _ _ (S3.reads s53.out R54) (fun _ => ?_)
            clear hK K
            try simp only [Act.put, List.setIfInBounds_toArray, List.set_cons_zero, List.set_cons_succ]
            have s54 := hid (S3.reads s53.out R54)
            have K54 := hid (K53.out.trans k54 (fun k hk e => absurd hk (by rw [e]; exact Nat.not_lt.2 g47.out)))
            have rs_54 := hid (rs_53.out.reads R54)
            have rz_54 := hid (rz_53.out.reads R54)
            have rq_54 := hid (rq_53.out.reads R54)
            have r4_54 := hid (r4_53.out.reads R54)
            have rc_54 := hid (rc_53.out.reads R54)
            have ry_54 := hid (ry_53.out.reads R54)
            clear cm54 k54 z54
            refine wpAnyH_ready (rs := [14]) (by kernel_rfl) (by simp) ?_
            refine AllReadyH.cons rfl (fun K hK => ?_) ?_
            · go_simp
              refine hK.out _ _ (S3.reads s54.out (Kept.reads ((Kept.refl no _).alloc _))) (fun _ => ?_)
              clear hK K
              try simp only [Act.put, List.setIfInBounds_toArray, List.set_cons_zero, List.set_cons_succ]
              refine lay_any _ _ ?_
              intro W55 e55 k55 z55
              have R55 := k55.reads
              have s55 := hid (S3.reads s54.out R55)
              have K55 := hid (K54.out.trans' k55)
              have rs_55 := hid (rs_54.out.reads R55)
              have rz_55 := hid (rz_54.out.reads R55)
              have rq_55 := hid (rq_54.out.reads R55)
              have r4_55 := hid (r4_54.out.reads R55)
              have rc_55 := hid (rc_54.out.reads R55)
              have ry_55 := hid (ry_54.out.reads R55)
              have hr : RdP W55 (.slice (some ⟨W54.heap.size, 0, none⟩) 4 4) (commitP D [c, a, b, d] zs) := ⟨[.slice (some ⟨W46.heap.size, 0, none⟩) 6 6, .slice (some ⟨w.heap.size, 0, none⟩) 32 32, .slice a46 (numsB [c, a, b, d]).length c46, .slice a53 (numsB zs).length c53], Rd.block e55 rfl (by decide), fun j hj => by
                match j, hj with
                | 0, _ => exact rc_55.out
                | 1, _ => exact hD ▸ rs_55.out
                | 2, _ => exact r4_55.out
                | 3, _ => exact ry_55.out⟩
              replace hr := hid hr
              clear e55 k55 z55
              refine wpAnyH_ready (rs := [15]) (by kernel_rfl) (by simp) ?_
              refine AllReadyH.cons rfl (fun K hK => ?_) ?_
              · go_simp
                refine (HOF.out _ W55 hr.out (hT.out.kept K55.out)).mono ?_
                rintro e W56 ⟨rfl, k56⟩
                have R56 := k56.reads
                refine hK.out _ _ (S3.reads s55.out R56) (fun _ => ?_)
                clear hK K
                try simp only [Act.put, List.setIfInBounds_toArray, List.set_cons_zero, List.set_cons_succ]
                have s56 := hid (S3.reads s55.out R56)
                have K56 := hid (K55.out.trans' k56)
                clear k56
                refine wpAnyH_ready (rs := [16]) (by kernel_rfl) (by simp) ?_
                refine AllReadyH.cons rfl (fun K hK => ?_) ?_
                · have g8 := hid ((K56.out.block _ h2lt.out id).trans g2.out)
                  have h8 := hid (setRow_heap W56 (w.heap.size + 1 + 1) _ DG.toArray _ _ g8.out)
                  have s9 := hid (S3.setRow s56.out (w.heap.size + 1 + 1) DG.toArray (by omega))
                  rw [if_pos (by rfl)]
                  refine wp_store_row 43 _ _ rfl (w.heap.size + 1 + 1) DG.toArray rfl rfl 43 _ g8.out hinf.out hold.out hone.out ?_
                  refine hK.out _ _ s9.out (fun _ => ?_)
                  clear hK K
                  refine wpAnyH_done (by kernel_rfl) ?_ _
                  go_wp2_with fail
                  refine bodyPost_ret (v := .agg DG.toArray) ?_ rfl ?_
                  · exact results_cell_row rfl _ _ (w.heap.size + 1 + 1) 43 DG.toArray (0, 0) _ rfl h8.out Tryd.underlying43 rfl hinf.out
                  · exact ⟨HDG.out, (k1.out.trans' K56.out).setRow (.inr (by omega)) _⟩
                exact AllReadyH.nil
              exact AllReadyH.nil
            exact AllReadyH.nil
          exact AllReadyH.nil
        exact AllReadyH.nil
      refine AllReadyH.cons rfl (fun K hK => ?_) ?_
      · go_simp
        refine (refnumbers_any _ zs W46 (by omega) rz_46.out).mono ?_
        rintro e W58 ⟨v58, rfl, o58, k58, _⟩
        obtain ⟨a58, c58, rfl⟩ := Rd.shapeZ (Rd.of_own o58)
        have R58 := k58.reads
        refine hK.out _ _ (S3.reads s46.out R58) (fun _ => ?_)
        clear hK K
        try simp only [Act.put, List.setIfInBounds_toArray, List.set_cons_zero, List.set_cons_succ]
        have s58 := hid (S3.reads s46.out R58)
        have K58 := hid (K46.out.trans' k58)
        have rs_58 := hid (rs_46.out.reads R58)
        have rz_58 := hid (rz_46.out.reads R58)
        have rq_58 := hid (rq_46.out.reads R58)
        have r4_58 := hid (r4_46.out.reads R58)
        have ry_58 := hid (Rd.of_own o58)
        clear o58 k58
        refine wpAnyH_ready (rs := [0]) (by kernel_rfl) (by simp) ?_
        refine AllReadyH.cons rfl (fun K hK => ?_) ?_
        · go_simp
          refine hK.out _ _ (S3.reads s58.out (Kept.reads ((Kept.refl no _).alloc _))) (fun _ => ?_)
          clear hK K
          try simp only [Act.put, List.setIfInBounds_toArray, List.set_cons_zero, List.set_cons_succ]
          refine lay_any _ _ ?_
          intro W59 e59 k59 z59
          have R59 := k59.reads
          have g59 := hid (K58.out.size)
          have s59 := hid (S3.reads s58.out R59)
          have K59 := hid (K58.out.trans' k59)
          have rs_59 := hid (rs_58.out.reads R59)
          have rz_59 := hid (rz_58.out.reads R59)
          have rq_59 := hid (rq_58.out.reads R59)
          have r4_59 := hid (r4_58.out.reads R59)
          have ry_59 := hid (ry_58.out.reads R59)
          have eg_59 := hid e59
          have rc_59 : Hd (Rd W59 1 (.slice (some ⟨W58.heap.size, 0, none⟩) 6 6) 6 (([99, 111, 109, 109, 105, 116] : List UInt8).map B)) := ⟨Rd.block e59 rfl (by decide)⟩
          clear e59 k59 z59
          refine wpAnyH_ready (rs := [1]) (by kernel_rfl) (by simp) ?_
          refine AllReadyH.cons rfl (fun K hK => ?_) ?_
          · obtain ⟨W60, run60, k60, z60, cm60⟩ := mark_any W59 W58.heap.size 53 5 #[.int .u8 99, .int .u8 111, .int .u8 109, .int .u8 109, .int .u8 105, .int .u8 116] Tryd.underlying53 Tryd.underlying5 eg_59.out
            have R60 := Reads.of_eq cm60
            go_simp
            clear run60
            refine hK.out _ _ (S3.reads s59.out R60) (fun _ => ?_)
            clear hK K
            try simp only [Act.put, List.setIfInBounds_toArray, List.set_cons_zero, List.set_cons_succ]
            have s60 := hid (S3.reads s59.out R60)
            have K60 := hid (K59.out.trans k60 (fun k hk e => absurd hk (by rw [e]; exact Nat.not_lt.2 g59.out)))
            have rs_60 := hid (rs_59.out.reads R60)
            have rz_60 := hid (rz_59.out.reads R60)
            have rq_60 := hid (rq_59.out.reads R60)
            have r4_60 := hid (r4_59.out.reads R60)
            have ry_60 := hid (ry_59.out.reads R60)
            have rc_60 := hid (rc_59.out.reads R60)
            clear cm60 k60 z60
            refine wpAnyH_ready (rs := [14]) (by kernel_rfl) (by simp) ?_
            refine AllReadyH.cons rfl (fun K hK => ?_) ?_
            · go_simp
              refine hK.out _ _ (S3.reads s60.out (Kept.reads ((Kept.refl no _).alloc _))) (fun _ => ?_)
              clear hK K
              try simp only [Act.put, List.setIfInBounds_toArray, List.set_cons_zero, List.set_cons_succ]
              refine lay_any _ _ ?_
              intro W61 e61 k61 z61
              have R61 := k61.reads
              have s61 := hid (S3.reads s60.out R61)
              have K61 := hid (K60.out.trans' k61)
              have rs_61 := hid (rs_60.out.reads R61)
              have rz_61 := hid (rz_60.out.reads R61)
              have rq_61 := hid (rq_60.out.reads R61)
              have r4_61 := hid (r4_60.out.reads R61)
              have ry_61 := hid (ry_60.out.reads R61)
              have rc_61 := hid (rc_60.out.reads R61)
              have hr : RdP W61 (.slice (some ⟨W60.heap.size, 0, none⟩) 4 4) (commitP D [c, a, b, d] zs) := ⟨[.slice (some ⟨W58.heap.size, 0, none⟩) 6 6, .slice (some ⟨w.heap.size, 0, none⟩) 32 32, .slice a46 (numsB [c, a, b, d]).length c46, .slice a58 (numsB zs).length c58], Rd.block e61 rfl (by decide), fun j hj => by
                match j, hj with
                | 0, _ => exact rc_61.out
                | 1, _ => exact hD ▸ rs_61.out
                | 2, _ => exact r4_61.out
                | 3, _ => exact ry_61.out⟩
              replace hr := hid hr
              clear e61 k61 z61
              refine wpAnyH_ready (rs := [15]) (by kernel_rfl) (by simp) ?_
              refine AllReadyH.cons rfl (fun K hK => ?_) ?_
              · go_simp
                refine (HOF.out _ W61 hr.out (hT.out.kept K61.out)).mono ?_
                rintro e W62 ⟨rfl, k62⟩
                have R62 := k62.reads
                refine hK.out _ _ (S3.reads s61.out R62) (fun _ => ?_)
                clear hK K
                try simp only [Act.put, List.setIfInBounds_toArray, List.set_cons_zero, List.set_cons_succ]
                have s62 := hid (S3.reads s61.out R62)
                have K62 := hid (K61.out.trans' k62)
                clear k62
                refine wpAnyH_ready (rs := [16]) (by kernel_rfl) (by simp) ?_
                refine AllReadyH.cons rfl (fun K hK => ?_) ?_
                · have g8 := hid ((K62.out.block _ h2lt.out id).trans g2.out)
                  have h8 := hid (setRow_heap W62 (w.heap.size + 1 + 1) _ DG.toArray _ _ g8.out)
                  have s9 := hid (S3.setRow s62.out (w.heap.size + 1 + 1) DG.toArray (by omega))
                  rw [if_pos (by rfl)]
                  refine wp_store_row 43 _ _ rfl (w.heap.size + 1 + 1) DG.toArray rfl rfl 43 _ g8.out hinf.out hold.out hone.out ?_
                  refine hK.out _ _ s9.out (fun _ => ?_)
                  clear hK K
                  refine wpAnyH_done (by kernel_rfl) ?_ _
                  go_wp2_with fail
                  refine bodyPost_ret (v := .agg DG.toArray) ?_ rfl ?_
                  · exact results_cell_row rfl _ _ (w.heap.size + 1 + 1) 43 DG.toArray (0, 0) _ rfl h8.out Tryd.underlying43 rfl hinf.out
                  · exact ⟨HDG.out, (k1.out.trans' K62.out).setRow (.inr (by omega)) _⟩
                exact AllReadyH.nil
              exact AllReadyH.nil
            exact AllReadyH.nil
          exact AllReadyH.nil
        exact AllReadyH.nil
      exact AllReadyH.nil
    exact AllReadyH.nil
  exact AllReadyH.nil
end Go.Proofs.YtggcbjchnefhfaaDoor
