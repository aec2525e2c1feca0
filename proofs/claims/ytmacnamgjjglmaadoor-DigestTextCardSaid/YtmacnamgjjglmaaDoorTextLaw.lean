/- electionlaw04.DigestText answers true: the walk. -/
import Derived.Test.YtmacnamgjjglmaaDoorParse
import Derived.Test.YtmacnamgjjglmaaDoorRefText
import Derived.Test.YtmacnamgjjglmaaDoorAwake
import Derived.Test.YtmacnamgjjglmaaDoorHeld
namespace Go.Proofs.YtmacnamgjjglmaaDoor
open Go.RowKit Go.Mk Go.Sha
theorem goodD_hex (l : List UInt8) (h : l.length = 32) : goodD (hex l) = true := by
  unfold goodD
  rw [hex_all, decide_eq_true (by rw [hex_length, h])]; rfl
theorem readD_hex (l : List UInt8) (h : l.length = 32) : readD (hex l) = l := by
  unfold readD
  rw [goodD_hex l h, if_pos rfl, unhex_hex l h]
theorem range_kept {w w' : World} {g : Nat} {L : List Value} (h : w.rangeAt g 0 L) (hk : Kept no w w') : w'.rangeAt g 0 L := fun j u hu => hk.cell (h j u hu) id
theorem SS.step {w0 w w' : World} {g g' : Nat} {L : List Value} (h : Kept no w0 w ∧ w.rangeAt g 0 L ∧ w.rangeAt g' 0 L) (hk : Kept no w w') : Kept no w0 w' ∧ w'.rangeAt g 0 L ∧ w'.rangeAt g' 0 L :=
  ⟨h.1.trans' hk, range_kept h.2.1 hk, range_kept h.2.2 hk⟩
theorem range_row {w : World} {g : Nat} {L : List Value} {t : TypeId} {fr : Nat × Nat} (h : w.heap[g]? = some (.cells L.toArray t fr)) : w.rangeAt g 0 L := fun j u hu => by
  rw [cell_of_row w g (0 + j) _ t fr h]; simpa using hu
set_option maxRecDepth 100000 in
set_option maxHeartbeats 1000000 in
theorem textlaw_any (l : List UInt8) (hl : l.length = 32) (w : World) (hT : Tab w) :
    Calls Tryd.prog 7 #[.agg (l.map B).toArray] w fun e w' => e = .returned (.bool true) ∧ Kept no w w' := by
  have hinf : (Tryd.prog.info? 25).map (·.size) = some (l.map B).length := by rw [show (l.map B).length = 32 by simp [hl]]; kernel_rfl
  have hinf' : Hd ((Tryd.prog.info? 25).map (·.size) = some (l.map B).toArray.size) := ⟨by rw [show (l.map B).toArray.size = 32 by simp [hl]]; kernel_rfl⟩
  have hone : Hd ((l.map B).toArray.all (·.oneCell') = true) := ⟨all_oneCell_toArray (B_one _)⟩
  have hold : Hd (Z32.size = (l.map B).toArray.size) := ⟨by rw [show (l.map B).toArray.size = 32 by simp [hl]]; rfl⟩
  have he := fun w => eql_digest l l hl hl w
  simp only [beq_self_eq_true] at he
  have hg := guard_digest
  replace hT := hid hT
  have HP := hid (fun w => parse_any ⟨(hex l).toArray⟩ w (by show (hex l).length ≤ _; rw [hex_length]; omega))
  have HX := hid (fun w => text_any l hl w)
  have HR := hid (fun w => reftext_any l hl w)
  have hun := Tryd.underlying25
  obtain ⟨L, hL⟩ : ∃ L, l.map B = L := ⟨_, rfl⟩
  rw [hL] at hinf hinf' hone hold he HX HR
  have HL := hid hL
  rw [hL]
  clear hL
  go_enter Tryd.func7, Tryd.ntmps7
  go_upto_region 1 with fail
  obtain ⟨w1, hw1, g1, k1⟩ : ∃ w1, w1 = w.alloc (.cells L.toArray 25) ∧ w1.heap[w.heap.size]? = some (.cells L.toArray 25 (0,0)) ∧ Kept no w w1 := ⟨_, rfl, heap_alloc_new _ _, (Kept.refl no w).alloc _⟩
  rw [← hw1]
  clear hw1
  replace g1 := hid g1
  go_wp2_with (with_reducible refine wpList_load_row rfl 25 _ rfl w.heap.size rfl 25 _ _ _ g1.out Tryd.underlying25 rfl hinf'.out ?_)
  refine (HX.out w1).mono ?_
  rintro e w2 ⟨rfl, k2⟩
  replace g1 := hid ((k2.block _ (lt_of_heap g1.out) id).trans g1.out)
  have K2 := k1.trans' k2
  clear k1 k2
  go_wp2_with fail
  refine (HP.out w2).mono ?_
  rintro e w3 ⟨rfl, k3⟩
  replace g1 := hid ((k3.block _ (lt_of_heap g1.out) id).trans g1.out)
  have K3 := hid (K2.trans' k3)
  clear K2 k3
  rw [readD_hex l hl, goodD_hex l hl, HL.out]
  have hN := hid (heap_alloc_new w3 (.cells Z32 25))
  obtain ⟨w4, hw4, r1, r2, K4⟩ : ∃ w4, w4 = (w3.alloc (.cells Z32 25)).setRow w3.heap.size L.toArray ∧ w4.rangeAt w.heap.size 0 L ∧ w4.rangeAt w3.heap.size 0 L ∧ Kept no w w4 := by
    have l1 := lt_of_heap g1.out
    refine ⟨_, rfl, range_row (t := 25) (fr := (0, 0)) ?_, range_row (setRow_heap _ _ _ _ _ _ hN.out), (K3.out.alloc _).setRow (.inr (K3.out.size)) _⟩
    rw [setRow_other _ _ _ _ (by omega), heap_alloc_old _ _ l1]; exact g1.out
  unfold Z32 at hN hold hw4
  replace hw4 := hid hw4
  go_wp2_with (with_reducible refine wpList_store_row rfl 25 _ _ rfl w3.heap.size L.toArray rfl rfl 25 _ hN.out hinf'.out hold.out hone.out ?_; rw [← hw4.out])
  have s0 : Kept no w w4.drew ∧ w4.drew.rangeAt w.heap.size 0 L ∧ w4.drew.rangeAt w3.heap.size 0 L := ⟨K4.drew, r1, r2⟩
  clear hw4 hN r1 r2 K4 K3 g1
  generalize w3.heap.size = g3 at s0 ⊢
  refine wp_region_held_drew (S := fun w' => Kept no w w' ∧ w'.rangeAt w.heap.size 0 L ∧ w'.rangeAt g3 0 L) (by kernel_rfl) s0 (fun _ => ?_)
  refine wpAnyH_ready (rs := [0]) (by kernel_rfl) (by simp) ?_
  refine AllReadyH.cons rfl (fun K hK => ?_) ?_
  · go_simp
    refine (awake_any _ (hT.out.kept s0.1)).mono ?_
    rintro e w1x ⟨rfl, k1x⟩
    have S1 := SS.step s0 k1x
    refine hK.out _ _ ?_ (fun _ => ?_)
    · exact S1
    clear hK K
    try simp only [Act.put, List.setIfInBounds_toArray, List.set_cons_zero, List.set_cons_succ]
    refine take2 1 (some 12) (.bool true) rfl rfl (by kernel_rfl) (by kernel_rfl) (by kernel_rfl) (fun _ _ _ h => h) (Or.inl ⟨by rfl, fun w hSw => ?_⟩) S1 ?_
    · go_simp
    try simp only [Act.put, List.setIfInBounds_toArray, List.set_cons_zero, List.set_cons_succ]
    refine takeRow 2 (some 13) 25 (.tmp 1) w.heap.size 0 L rfl rfl rfl (by kernel_rfl) (by kernel_rfl) (by kernel_rfl) (fun _ _ _ h => h) (by rfl) rfl (fun w h => h.2.1) hun rfl hinf S1 ?_
    try simp only [Act.put, List.setIfInBounds_toArray, List.set_cons_zero, List.set_cons_succ]
    refine takeRow 4 (some 15) 25 (.tmp 1) w.heap.size 0 L rfl rfl rfl (by kernel_rfl) (by kernel_rfl) (by kernel_rfl) (fun _ _ _ h => h) (by rfl) rfl (fun w h => h.2.1) hun rfl hinf S1 ?_
    try simp only [Act.put, List.setIfInBounds_toArray, List.set_cons_zero, List.set_cons_succ]
    refine wpAnyH_ready (rs := [3]) (by kernel_rfl) (by simp) ?_
    refine AllReadyH.cons rfl (fun K hK => ?_) ?_
    · go_simp
      refine (HX.out _).mono ?_
      rintro e w2x ⟨rfl, k2x⟩
      have S2 := SS.step S1 k2x
      refine hK.out _ _ ?_ (fun _ => ?_)
      · exact S2
      clear hK K
      try simp only [Act.put, List.setIfInBounds_toArray, List.set_cons_zero, List.set_cons_succ]
      refine wpAnyH_ready (rs := [5]) (by kernel_rfl) (by simp) ?_
      refine AllReadyH.cons rfl (fun K hK => ?_) ?_
      · go_simp
        refine (HR.out _).mono ?_
        rintro e w3x ⟨rfl, k3x⟩
        have S3 := SS.step S2 k3x
        refine hK.out _ _ ?_ (fun _ => ?_)
        · exact S3
        clear hK K
        try simp only [Act.put, List.setIfInBounds_toArray, List.set_cons_zero, List.set_cons_succ]
        refine take2 6 (some 17) (.bool true) rfl rfl (by kernel_rfl) (by kernel_rfl) (by kernel_rfl) (fun _ _ _ h => h) (Or.inl ⟨by rfl, fun w hSw => ?_⟩) S3 ?_
        · go_simp
        try simp only [Act.put, List.setIfInBounds_toArray, List.set_cons_zero, List.set_cons_succ]
        refine take2 7 (some 18) (.bool true) rfl rfl (by kernel_rfl) (by kernel_rfl) (by kernel_rfl) (fun _ _ _ h => h) (Or.inl ⟨by rfl, fun w hSw => ?_⟩) S3 ?_
        · go_simp
        try simp only [Act.put, List.setIfInBounds_toArray, List.set_cons_zero, List.set_cons_succ]
        refine take2 8 (some 19) (.bool true) rfl rfl (by kernel_rfl) (by kernel_rfl) (by kernel_rfl) (fun _ _ _ h => h) (Or.inl ⟨by rfl, fun w hSw => ?_⟩) S3 ?_
        · go_simp
        try simp only [Act.put, List.setIfInBounds_toArray, List.set_cons_zero, List.set_cons_succ]
        refine take2 9 (some 20) (.bool true) rfl rfl (by kernel_rfl) (by kernel_rfl) (by kernel_rfl) (fun _ _ _ h => h) (Or.inl ⟨by rfl, fun w hSw => ?_⟩) S3 ?_
        · go_simp
        try simp only [Act.put, List.setIfInBounds_toArray, List.set_cons_zero, List.set_cons_succ]
        refine take2 10 (some 21) (.bool true) rfl rfl (by kernel_rfl) (by kernel_rfl) (by kernel_rfl) (fun _ _ _ h => h) (Or.inl ⟨by rfl, fun w hSw => ?_⟩) S3 ?_
        · go_simp
        try simp only [Act.put, List.setIfInBounds_toArray, List.set_cons_zero, List.set_cons_succ]
        refine take2 11 (some 22) (.bool true) rfl rfl (by kernel_rfl) (by kernel_rfl) (by kernel_rfl) (fun _ _ _ h => h) (Or.inl ⟨by rfl, fun w hSw => ?_⟩) S3 ?_
        · go_simp
        try simp only [Act.put, List.setIfInBounds_toArray, List.set_cons_zero, List.set_cons_succ]
        refine takeRow 12 (some 23) 25 (.tmp 3) g3 0 L rfl rfl rfl (by kernel_rfl) (by kernel_rfl) (by kernel_rfl) (fun _ _ _ h => h) (by rfl) rfl (fun w h => h.2.2) hun rfl hinf S3 ?_
        try simp only [Act.put, List.setIfInBounds_toArray, List.set_cons_zero, List.set_cons_succ]
        refine takeRow 13 (some 24) 25 (.tmp 1) w.heap.size 0 L rfl rfl rfl (by kernel_rfl) (by kernel_rfl) (by kernel_rfl) (fun _ _ _ h => h) (by rfl) rfl (fun w h => h.2.1) hun rfl hinf S3 ?_
        try simp only [Act.put, List.setIfInBounds_toArray, List.set_cons_zero, List.set_cons_succ]
        refine take2 14 (some 25) (.bool true) rfl rfl (by kernel_rfl) (by kernel_rfl) (by kernel_rfl) (fun _ _ _ h => h) (Or.inl ⟨by rfl, fun w hSw => ?_⟩) S3 ?_
        · go_simp
        try simp only [Act.put, List.setIfInBounds_toArray, List.set_cons_zero, List.set_cons_succ]
        refine take2 15 (some 26) (.bool true) rfl rfl (by kernel_rfl) (by kernel_rfl) (by kernel_rfl) (fun _ _ _ h => h) (Or.inl ⟨by rfl, fun w hSw => ?_⟩) S3 ?_
        · go_simp
        try simp only [Act.put, List.setIfInBounds_toArray, List.set_cons_zero, List.set_cons_succ]
        refine take2 16 (some 2) (.bool true) rfl rfl (by kernel_rfl) (by kernel_rfl) (by kernel_rfl) (fun _ _ _ h => h) (Or.inl ⟨by rfl, fun w hSw => ?_⟩) S3 ?_
        · go_simp
        try simp only [Act.put, List.setIfInBounds_toArray, List.set_cons_zero, List.set_cons_succ]
        refine wpAnyH_done (by kernel_rfl) ?_ _
        go_wp2_with fail
        go_ret
        exact ⟨rfl, S3.1⟩
      exact AllReadyH.nil
    exact AllReadyH.nil
  exact AllReadyH.nil
end Go.Proofs.YtmacnamgjjglmaaDoor
