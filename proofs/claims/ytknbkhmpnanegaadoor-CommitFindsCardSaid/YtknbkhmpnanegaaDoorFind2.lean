/- electionref36.Find, commit.Verify, electionmake.Mod. -/
import Derived.Test.YtknbkhmpnanegaaDoorLaw38
namespace Go.Proofs.YtknbkhmpnanegaaDoor
open Go.RowKit Go.Mk Go.Sha Go.Cmt
theorem mod32 (n : Int) : (wrap64 (n.tmod 32 + 32)).tmod 32 = n % 32 := by
  have a := Int.tmod_lt_of_pos n (show (0 : Int) < 32 by decide)
  have b := Int.lt_tmod_of_pos n (show (0 : Int) < 32 by decide)
  have c := Int.mul_tdiv_add_tmod n 32
  have e : wrap64 (n.tmod 32 + 32) = n.tmod 32 + 32 := by
    unfold wrap64; omega
  rw [e, Int.tmod_eq_emod_of_nonneg (by omega)]
  omega
set_option maxRecDepth 100000 in
set_option maxHeartbeats 1000000 in
theorem mod32_any (n : Int) (w : World) :
    Calls Tryd.prog 20 #[.int .i64 n, .int .i64 32] w fun e w' => e = .returned (.int .i64 (n % 32)) ∧ w = w' := by
  have h := hid (mod32 n)
  go_enter Tryd.func20, Tryd.ntmps20
  go_wp2
  go_ret
  exact ⟨by rw [← h.out]; rfl, rfl⟩
set_option maxRecDepth 100000 in
set_option maxHeartbeats 1000000 in
theorem verify_any (v v4 : Value) (ds : List (List UInt8)) (D : List UInt8) (c a b d : Int) (zs : List Int) (w : World) (hD : D.length = 32) (hz : zs.length ≤ 1000) (hn : ds.length ≤ 1000000) (hr : RdD w v ds) (hrz : RdZ w v4 zs) (hT : Tab w) :
    Calls Tryd.prog 25 #[v, .agg (D.map B).toArray, .int .i64 c, .agg #[.int .i64 a, .int .i64 b, .int .i64 d], v4] w fun e w' => e = .returned (.int .i64 (findD ds (commitD D [c, a, b, d] zs))) ∧ Kept no w w' := by
  have HC := hid (fun w hr hT => commit_any v4 D zs c a b d w hD hz hr hT)
  have HF := hid (fun w hr => find_any v ds (commitD D [c, a, b, d] zs) w (sum_length _) hn hr)
  have iL : Hd ((Tryd.prog.info? 26).map (·.size) = some (D.map B).toArray.size) := ⟨by rw [List.size_toArray, List.length_map, hD]; kernel_rfl⟩
  obtain ⟨L, hL⟩ : ∃ L, D.map B = L := ⟨_, rfl⟩
  unfold Dg at HC
  generalize findD ds (commitD D [c, a, b, d] zs) = q at HF ⊢
  obtain ⟨M, hM⟩ : ∃ L, (commitD D [c, a, b, d] zs).map B = L := ⟨_, rfl⟩
  rw [hL, hM] at HC
  rw [hM] at HF
  rw [hL] at iL
  rw [hL]
  clear hL hM
  replace hr := hid hr
  replace hrz := hid hrz
  replace hT := hid hT
  go_enter Tryd.func25, Tryd.ntmps25
  go_upto_region 1 with fail
  obtain ⟨w1, hw1, g0, g1, k1⟩ : ∃ w1, w1 = (w.alloc (.cells L.toArray 26)).alloc (.cells #[.int .i64 a, .int .i64 b, .int .i64 d] 23) ∧ w1.heap[w.heap.size]? = some (.cells L.toArray 26 (0, 0)) ∧ w1.heap[w.heap.size + 1]? = some (.cells #[.int .i64 a, .int .i64 b, .int .i64 d] 23 (0, 0)) ∧ Kept no w w1 := by
    have e1 := World.size_alloc (w := w) (o := .cells L.toArray 26)
    refine ⟨_, rfl, ?_, ?_, ((Kept.refl no w).alloc _).alloc _⟩
    · rw [heap_alloc_old _ _ (by omega), heap_alloc_new]
    · rw [← e1, heap_alloc_new]
  rw [← hw1]
  clear hw1
  have c0 : w1.cell? ⟨w.heap.size + 1, 0, none⟩ = some (.int .i64 a) := cell_of_row w1 _ 0 _ _ _ g1
  have c1 : w1.cell? ⟨w.heap.size + 1, 1, none⟩ = some (.int .i64 b) := cell_of_row w1 _ 1 _ _ _ g1
  have c2 : w1.cell? ⟨w.heap.size + 1, 2, none⟩ = some (.int .i64 d) := cell_of_row w1 _ 2 _ _ _ g1
  replace g0 := hid g0
  replace k1 := hid k1
  clear g1
  go_wp2_with (with_reducible refine wpList_load_row rfl 26 _ rfl w.heap.size rfl 26 _ _ _ g0.out Tryd.underlying26 rfl iL.out ?_)
  refine (HC.out w1 (hrz.out.kept k1.out) (hT.out.kept k1.out)).mono ?_
  rintro e w2 ⟨rfl, k2⟩
  have K2 := hid (k1.out.trans' k2)
  clear k1 k2 c0 c1 c2 g0
  go_wp2_with fail
  refine (HF.out w2 (hr.out.kept K2.out)).mono ?_
  rintro e w3 ⟨rfl, k3⟩
  have K3 := hid (K2.out.trans' k3)
  clear K2 k3
  go_wp2
  go_ret
  exact ⟨rfl, K3.out⟩
set_option maxRecDepth 100000 in
set_option maxHeartbeats 1000000 in
theorem reffind_any (v : Value) (ds : List (List UInt8)) (D : List UInt8) (w : World) (hD : D.length = 32) (hn : ds.length ≤ 1000000) (hr : RdD w v ds) :
    Calls Tryd.prog 24 #[v, .agg (D.map B).toArray] w fun e w' => e = .returned (.int .i64 (findD ds D)) ∧ Kept no w w' := by
  obtain ⟨ao, cap, rfl⟩ := Rd.shapeZ hr.2
  obtain ⟨L, hL⟩ : ∃ L, D.map B = L := ⟨_, rfl⟩
  have hL' : Hd (L.length = 32) := ⟨by rw [← hL]; simp [hD]⟩
  replace hL := hid hL
  rw [hL.out]
  have hinf : Hd ((Tryd.prog.info? 26).map (·.size) = some L.length) := ⟨by rw [hL'.out]; kernel_rfl⟩
  have hun := Tryd.underlying26
  replace hr := hid hr
  go_enter Tryd.func24, Tryd.ntmps24
  go_wp2
  obtain ⟨w1, hw1, r1, k1⟩ : ∃ w1, w1 = w.alloc (.cells L.toArray 26) ∧ w1.rangeAt w.heap.size 0 L ∧ Kept no w w1 := ⟨_, rfl, range_row (heap_alloc_new _ _), (Kept.refl no w).alloc _⟩
  rw [← hw1]
  clear hw1
  replace hr := hid (hr.out.kept k1)
  replace r1 := hid r1
  replace k1 := hid k1
  go_loopw [5] (fun i wr => ∃ k : Nat, k ≤ ds.length ∧ i = .int .i64 (k : Int) ∧ Hd (D ∉ ds.take k) ∧ Hd (Kept no w1 wr)) (fun i _ => ds.length - (intOf i).toNat)
  case atStart => exact ⟨0, by omega, rfl, ⟨by simp⟩, ⟨Kept.refl _ _⟩⟩
  case round =>
    obtain ⟨k, hk, rfl, hno, hK⟩ := hrel
    by_cases hlt : k < ds.length
    · skip
      obtain ⟨b, o, rfl, hrg⟩ := RdD.at (hr.out.kept hK.out) k hlt
      have hk1 : (k : Int) < (ds.length : Int) := by omega
      have hk0 : (0 : Int) ≤ (k : Int) := by omega
      have hlk : (ds.getD k []).length = 32 := hr.out.1 _ (by rw [List.getD_eq_getElem?_getD, List.getElem?_eq_getElem hlt]; simp)
      have he : Hd (∀ w, (binOp .eql 26 (.agg ((ds.getD k []).map B).toArray) (.agg L.toArray)).run Tryd.prog w = .ok (.bool (ds.getD k [] == D)) w) := ⟨fun w => by rw [← hL.out]; exact eql_digest _ D hlk hD w⟩
      have hfd := hid (findD_hit ds D k hlt hno.out)
      have hnx := hid (find_next ds D k hlt hno.out)
      have hinfM : Hd ((Tryd.prog.info? 26).map (·.size) = some ((ds.getD k []).map B).length) := ⟨by rw [List.length_map, hlk]; kernel_rfl⟩
      obtain ⟨M, hM⟩ : ∃ M, (ds.getD k []).map B = M := ⟨_, rfl⟩
      rw [hM] at he hrg hinfM
      generalize ds.getD k [] = X at he hfd hnx
      have s0 := hid (show (fun w' : World => w'.rangeAt w.heap.size 0 L ∧ w'.rangeAt b (o + k * 32) M) wr.drew from ⟨fun j u hu => hK.out.cell (r1.out j u hu) id, hrg⟩)
      have K0 := hid (hK.out.drew)
      clear hM hrg hlk hno hK
      have hg := guard_digest
      go_upto_region 4 with fail
      refine wp_region_held_drew (S := fun w' => w'.rangeAt w.heap.size 0 L ∧ w'.rangeAt b (o + k * 32) M) (by kernel_rfl) s0.out (fun _ => ?_)
      generalize wr.drew = wd at s0 K0 ⊢
      refine take2 0 (some 12) (.slice (some ⟨b, o, none⟩) ds.length cap) rfl rfl (by kernel_rfl) (by kernel_rfl) (by kernel_rfl) (fun _ _ _ h => h) (Or.inl ⟨by rfl, fun w hSw => ?_⟩) s0.out ?_
      · go_simp
      try simp only [Act.put, List.setIfInBounds_toArray, List.set_cons_zero, List.set_cons_succ]
      refine take2 1 (some 13) (.int .i64 (k : Int)) rfl rfl (by kernel_rfl) (by kernel_rfl) (by kernel_rfl) (fun _ _ _ h => h) (Or.inl ⟨by rfl, fun w hSw => ?_⟩) s0.out ?_
      · go_simp
      try simp only [Act.put, List.setIfInBounds_toArray, List.set_cons_zero, List.set_cons_succ]
      refine take2 2 (some 14) (.pointer (some ⟨b, o + k * 32, none⟩)) rfl rfl (by kernel_rfl) (by kernel_rfl) (by kernel_rfl) (fun _ _ _ h => h) (Or.inl ⟨by rfl, fun w hSw => ?_⟩) s0.out ?_
      · go_simp
      try simp only [Act.put, List.setIfInBounds_toArray, List.set_cons_zero, List.set_cons_succ]
      refine takeRow 3 (some 15) 26 (.tmp 14) (b) (o + k * 32) M rfl rfl rfl (by kernel_rfl) (by kernel_rfl) (by kernel_rfl) (fun _ _ _ h => h) (by rfl) rfl (fun w h => h.2) hun rfl (hinfM.out) s0.out ?_
      try simp only [Act.put, List.setIfInBounds_toArray, List.set_cons_zero, List.set_cons_succ]
      refine takeRow 4 (some 16) 26 (.tmp 3) (w.heap.size) (0) L rfl rfl rfl (by kernel_rfl) (by kernel_rfl) (by kernel_rfl) (fun _ _ _ h => h) (by rfl) rfl (fun w h => h.1) hun rfl (hinf.out) s0.out ?_
      try simp only [Act.put, List.setIfInBounds_toArray, List.set_cons_zero, List.set_cons_succ]
      by_cases hq : D = X
      · subst hq
        have he1 := he.out
        simp only [beq_self_eq_true] at he1
        refine take2 5 (some 17) (.bool true) rfl rfl (by kernel_rfl) (by kernel_rfl) (by kernel_rfl) (fun _ _ _ h => h) (Or.inl ⟨by rfl, fun w hSw => ?_⟩) s0.out ?_
        · go_simp
        try simp only [Act.put, List.setIfInBounds_toArray, List.set_cons_zero, List.set_cons_succ]
        refine wpAnyH_done (by kernel_rfl) ?_ _
        have hv := (hfd.out rfl)
        replace k1 := hid (k1.out.trans' K0.out)
        clear he1 he hnx s0 hfd
        go_wp2
        go_ret
        exact ⟨by rw [hv]; rfl, k1.out⟩
      · have he1 := he.out
        rw [beq_eq_false_iff_ne.2 (Ne.symm hq)] at he1
        refine take2 5 (some 17) (.bool false) rfl rfl (by kernel_rfl) (by kernel_rfl) (by kernel_rfl) (fun _ _ _ h => h) (Or.inl ⟨by rfl, fun w hSw => ?_⟩) s0.out ?_
        · go_simp
        try simp only [Act.put, List.setIfInBounds_toArray, List.set_cons_zero, List.set_cons_succ]
        refine wpAnyH_done (by kernel_rfl) ?_ _
        have hno := hid (hnx.out hq)
        clear he1 he hnx s0 hfd
        go_wp2
        go_roundw
        case rel => first | exact ⟨k + 1, by omega, by go_num, hno, K0⟩ | ((repeat apply Exists.intro); exact ⟨⟨k + 1, by omega, by go_num, hno, K0⟩, rfl⟩)
        case measure => simp [intOf]; omega
    · obtain rfl : k = ds.length := by omega
      have hv : findD ds D = -1 := by
        unfold findD
        rw [if_neg]
        have := hno.out
        rwa [List.take_length] at this
      have KK := hid (k1.out.trans' hK.out)
      clear hno hK
      go_wp2
      go_ret
      exact ⟨by rw [hv]; rfl, KK.out⟩
end Go.Proofs.YtknbkhmpnanegaaDoor
