/- electionref36.Find, commit.Verify, electionmake.Mod. -/
import Derived.Test.YtggcbjchnefhfaaDoorLaw38
namespace Go.Proofs.YtggcbjchnefhfaaDoor
open Go.RowKit Go.Mk Go.Sha Go.Cmt
theorem mod32 (n : Int) : (wrap64 (n.tmod 32 + 32)).tmod 32 = n % 32 := by
  have a := Int.tmod_lt_of_pos n (show (0 : Int) < 32 by decide)
  have b := Int.lt_tmod_of_pos n (show (0 : Int) < 32 by decide)
  have c := Int.mul_tdiv_add_tmod n 32
  have e : wrap64 (n.tmod 32 + 32) = n.tmod 32 + 32 := by
    unfold wrap64; omega
  rw [e, Int.tmod_eq_emod_of_nonneg (by omega)]
  omega
set_option maxRecDepth 100000 in
set_option maxHeartbeats 1000000 in
theorem mod32_any (n : Int) (w : World) :
    Calls Tryd.prog 8 #[.int .i64 n, .int .i64 32] w fun e w' => e = .returned (.int .i64 (n % 32)) ∧ w = w' := by
  have h := hid (mod32 n)
  go_enter Tryd.func8, Tryd.ntmps8
  go_wp2
  go_ret
  exact ⟨by rw [← h.out]; rfl, rfl⟩
set_option maxRecDepth 100000 in
set_option maxHeartbeats 1000000 in
theorem verify_any (v v4 : Value) (ds : List (List UInt8)) (D : List UInt8) (c a b d : Int) (zs : List Int) (w : World) (hD : D.length = 32) (hz : zs.length ≤ 1000) (hn : ds.length ≤ 1000000) (hr : RdD w v ds) (hrz : RdZ w v4 zs) (hT : Tab w) :
    Calls Tryd.prog 16 #[v, .agg (D.map B).toArray, .int .i64 c, .agg #[.int .i64 a, .int .i64 b, .int .i64 d], v4] w fun e w' => e = .returned (.int .i64 (findD ds (commitD D [c, a, b, d] zs))) ∧ Kept no w w' := by
  have HC := hid (fun w hr hT => commit_any v4 D zs c a b d w hD hz hr hT)
  have HF := hid (fun w hr => find_any v ds (commitD D [c, a, b, d] zs) w (sum_length _) hn hr)
  have iL : Hd ((Tryd.prog.info? 43).map (·.size) = some (D.map B).toArray.size) := ⟨by rw [List.size_toArray, List.length_map, hD]; kernel_rfl⟩
  obtain ⟨L, hL⟩ : ∃ L, D.map B = L := ⟨_, rfl⟩
  unfold Dg at HC
  generalize findD ds (commitD D [c, a, b, d] zs) = q at HF ⊢
  obtain ⟨M, hM⟩ : ∃ L, (commitD D [c, a, b, d] zs).map B = L := ⟨_, rfl⟩
  rw [hL, hM] at HC
  rw [hM] at HF
  rw [hL] at iL
  rw [hL]
  clear hL hM
  replace hr := hid hr
  replace hrz := hid hrz
  replace hT := hid hT
  go_enter Tryd.func16, Tryd.ntmps16
  go_upto_region 1 with fail
  obtain ⟨w1, hw1, g0, g1, k1⟩ : ∃ w1, w1 = (w.alloc (.cells L.toArray 43)).alloc (.cells #[.int .i64 a, .int .i64 b, .int .i64 d] 31) ∧ w1.heap[w.heap.size]? = some (.cells L.toArray 43 (0, 0)) ∧ w1.heap[w.heap.size + 1]? = some (.cells #[.int .i64 a, .int .i64 b, .int .i64 d] 31 (0, 0)) ∧ Kept no w w1 := by
    have e1 := World.size_alloc (w := w) (o := .cells L.toArray 43)
    refine ⟨_, rfl, ?_, ?_, ((Kept.refl no w).alloc _).alloc _⟩
    · rw [heap_alloc_old _ _ (by omega), heap_alloc_new]
    · rw [← e1, heap_alloc_new]
  rw [← hw1]
  clear hw1
  have c0 : w1.cell? ⟨w.heap.size + 1, 0, none⟩ = some (.int .i64 a) := cell_of_row w1 _ 0 _ _ _ g1
  have c1 : w1.cell? ⟨w.heap.size + 1, 1, none⟩ = some (.int .i64 b) := cell_of_row w1 _ 1 _ _ _ g1
  have c2 : w1.cell? ⟨w.heap.size + 1, 2, none⟩ = some (.int .i64 d) := cell_of_row w1 _ 2 _ _ _ g1
  replace g0 := hid g0
  replace k1 := hid k1
  clear g1
  go_wp2_with (with_reducible refine wpList_load_row rfl 43 _ rfl w.heap.size rfl 43 _ _ _ g0.out Tryd.underlying43 rfl iL.out ?_)
  refine (HC.out w1 (hrz.out.kept k1.out) (hT.out.kept k1.out)).mono ?_
  rintro e w2 ⟨rfl, k2⟩
  have K2 := hid (k1.out.trans' k2)
  clear k1 k2 c0 c1 c2 g0
  go_wp2_with fail
  refine (HF.out w2 (hr.out.kept K2.out)).mono ?_
  rintro e w3 ⟨rfl, k3⟩
  have K3 := hid (K2.out.trans' k3)
  clear K2 k3
  go_wp2
  go_ret
  exact ⟨rfl, K3.out⟩
end Go.Proofs.YtggcbjchnefhfaaDoor
