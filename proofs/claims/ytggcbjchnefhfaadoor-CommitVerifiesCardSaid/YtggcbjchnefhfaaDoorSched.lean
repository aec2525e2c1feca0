import Derived.Test.YtggcbjchnefhfaaDoorRot
import Derived.StillTailTactics
import Derived.Deep.QuietTactic
import Derived.BigQuiet
namespace Go.Proofs.YtggcbjchnefhfaaDoor
open Go.RowKit Go.Mk Go.Sha
theorem arr0 : (#[.int .u32 0, .int .u32 0, .int .u32 0, .int .u32 0, .int .u32 0, .int .u32 0, .int .u32 0, .int .u32 0,.int .u32 0, .int .u32 0, .int .u32 0, .int .u32 0, .int .u32 0, .int .u32 0, .int .u32 0, .int .u32 0,
 .int .u32 0, .int .u32 0, .int .u32 0, .int .u32 0, .int .u32 0, .int .u32 0, .int .u32 0, .int .u32 0,.int .u32 0, .int .u32 0, .int .u32 0, .int .u32 0, .int .u32 0, .int .u32 0, .int .u32 0, .int .u32 0,
 .int .u32 0, .int .u32 0, .int .u32 0, .int .u32 0, .int .u32 0, .int .u32 0, .int .u32 0, .int .u32 0,.int .u32 0, .int .u32 0, .int .u32 0, .int .u32 0, .int .u32 0, .int .u32 0, .int .u32 0, .int .u32 0,
 .int .u32 0, .int .u32 0, .int .u32 0, .int .u32 0, .int .u32 0, .int .u32 0, .int .u32 0, .int .u32 0,.int .u32 0, .int .u32 0, .int .u32 0, .int .u32 0, .int .u32 0, .int .u32 0, .int .u32 0, .int .u32 0] : Array Value) = arr (fun _ => 0) 64 := by kernel_rfl
def S2 (b : List UInt8) (n j : Nat) : UInt32 := if j < 16 + n then (sched b).getD j 0 else 0
set_option maxRecDepth 100000 in
set_option maxHeartbeats 1000000 in
theorem sched_any (bb o cap : Nat) (b : List UInt8) (w : World) (h64 : 64 ≤ b.length) (hnm : b.length ≤ 1099511627776)
  (hc : ∀ j u, (b.map B)[j]? = some u → w.cell? ⟨bb, o + j, none⟩ = some u) : Calls Tryd.prog 62 #[.slice (some ⟨bb, o, none⟩) b.length cap] w fun e w' => e = .returned (.agg ((sched b).map U).toArray) ∧ Kept no w w' := by
  go_enter Tryd.func62, Tryd.ntmps62
  go_wp2
  go_loopw [4, 8] (fun _ i wr => ∃ k : Nat, k ≤ 64 ∧ i = .int .i64 k ∧ wr.heap[w.heap.size + 1]? = some (.cells (arr (wc b k) 64) 92 (0,0)) ∧ wr.heap[w.heap.size]? = some (.cells (arr (fun _ => 0) 64) 92 (0,0)) ∧ Kept no w wr)
     (fun _ i _ => 64 - (intOf i).toNat)
  case atStart =>
    refine ⟨0, by omega, rfl, ?_, ?_, ((Kept.refl _ _).alloc _).alloc _⟩
    · rw [arr0, ← World.size_alloc (w := w), heap_alloc_new]; rw [arr_congr fun j _ => (wc_zero b j).symm]
    · rw [arr0, heap_alloc_old _ _ (by simp), heap_alloc_new]
  case round =>
    obtain ⟨k, hk, rfl, h1, h0, hK⟩ := hrel
    by_cases hlt : k < 64
    · have hcb : wr.cell? ⟨bb, o + k, none⟩ = some (.int .u8 (b[k]'(by omega)).toNat) := hK.cell (hc k _ (by simp; exact ⟨b[k], by simp [List.getElem?_eq_getElem (show k < b.length by omega)], rfl⟩)) id
      have hcw : wr.cell? ⟨w.heap.size + 1, k / 4, none⟩ = some (.int .u32 (wc b k (k/4)).toNat) := arr_cell h1 _ (by omega)
      have hfw : wr.frozen? ⟨w.heap.size + 1, k / 4, none⟩ = false := row_free h1 _
      have hkn : (k : Int) < (b.length : Int) := by omega
      have h4 : (k : Int) / 4 < 64 := by omega
      have hx : IntKind.i64.wrap ((k : Int) / 4) = (k : Int) / 4 := wrap64_small _ (by omega) (by omega)
      have h04 : (0 : Int) ≤ (k : Int) / 4 := by omega
      have ht4 : ((k : Int) / 4).toNat = k / 4 := by omega
      go_wp2_with fail
      go_still_tail 14, (by kernel_rfl)
      change wpList _ _ _ _ _ wr.drew
      rw [u_shl8, u_of8, u_or]
      have Hw := hid (wc_hit b k (by omega))
      have hs := row_set (w := wr.drew) h1 (k/4) (U (wc b (k+1) (k/4)))
      rw [arr_set (f' := wc b (k+1)) rfl (fun i _ hne => wc_miss b k i hne)] at hs
      rw [← Hw.out]
      clear Hw
      have h0' : (wr.drew.setCell ⟨w.heap.size + 1, k / 4, none⟩ (U (wc b (k+1) (k/4)))).heap[w.heap.size]? = some (.cells (arr (fun _ => 0) 64) 92 (0,0)) := by rw [Below.heap_setCell _ _ _ _ (by simp)]; exact h0
      have hK' : Kept no w (wr.drew.setCell ⟨w.heap.size + 1, k / 4, none⟩ (U (wc b (k+1) (k/4)))) := hK.drew.setCell (.inr (by simp)) _
      unfold U at hs h0' hK'
      go_wp2
      go_roundw
      case rel => exact ⟨k + 1, by omega, rfl, hs, h0', hK'⟩
      case measure => simp [intOf]; omega
    · obtain rfl : k = 64 := by omega
      have H2 : wr.heap[w.heap.size + 1]? = some (.cells (arr (S2 b 0) 64) 92 (0,0)) := by
        rw [h1, arr_congr (f := wc b 64) (g := S2 b 0) fun j hj => ?_]
        unfold S2
        by_cases h : j < 16
        · rw [if_pos (by omega), sched_low b h64 j h]
        · rw [if_neg (by omega), wc_past b j (by omega)]
      clear h1 hlt
      go_wp2
      go_loopw [5] (fun i w2 => ∃ n : Nat, n ≤ 48 ∧ i = .int .i64 ((n : Int) + 16) ∧ w2.heap[w.heap.size + 1]? = some (.cells (arr (S2 b n) 64) 92 (0,0)) ∧ w2.heap[w.heap.size]? = some (.cells (arr (fun _ => 0) 64) 92 (0,0)) ∧ Kept no w w2)
        (fun i _ => 64 - (intOf i).toNat)
      case atStart => exact ⟨0, by omega, rfl, H2, h0, hK⟩
      case round =>
        clear H2 h0 hK
        obtain ⟨n, hn, rfl, h1, h0, hK⟩ := hrel
        by_cases hlt : n < 48
        · have c16 := arr_cell h1 n (by omega)
          have c15 := arr_cell h1 (n + 1) (by omega)
          have c7 := arr_cell h1 (n + 9) (by omega)
          have c2 := arr_cell h1 (n + 14) (by omega)
          have cc := arr_cell h1 (n + 16) (by omega)
          have ff := row_free h1 (n + 16)
          simp only [S2, show n < 16 + n by omega, show n + 1 < 16 + n by omega, show n + 9 < 16 + n by omega, show n + 14 < 16 + n by omega, if_true] at c16 c15 c7 c2
          generalize e16 : (sched b).getD n 0 = x16 at c16 c15 c7 c2
          generalize e15 : (sched b).getD (n+1) 0 = x15 at c16 c15 c7 c2
          generalize e7 : (sched b).getD (n+9) 0 = x7 at c16 c15 c7 c2
          generalize e2 : (sched b).getD (n+14) 0 = x2 at c16 c15 c7 c2
          have Hr := hid (sched_rec b h64 n hlt)
          rw [e16, e15, e7, e2] at Hr
          clear e16 e15 e7 e2 hc
          have hw15 : IntKind.i64.wrap ((n : Int) + 16 - 15) = (n : Int) + 1 := by rw [wrap64_small _ (by omega) (by omega)]; omega
          have hw2 : IntKind.i64.wrap ((n : Int) + 16 - 2) = (n : Int) + 14 := by rw [wrap64_small _ (by omega) (by omega)]; omega
          have hb1 : (n : Int) + 1 < 64 := by omega
          have hb2 : (n : Int) + 14 < 64 := by omega
          have hb3 : (0 : Int) ≤ (n : Int) + 1 := by omega
          have hb4 : (0 : Int) ≤ (n : Int) + 14 := by omega
          have ht1 : ((n : Int) + 1).toNat = n + 1 := by omega
          have ht2 : ((n : Int) + 14).toNat = n + 14 := by omega
          have hw16 : IntKind.i64.wrap ((n : Int) + 16 - 16) = (n : Int) := by rw [wrap64_small _ (by omega) (by omega)]; omega
          have hw16' : IntKind.i64.wrap (n : Int) = (n : Int) := wrap64_small _ (by omega) (by omega)
          have hw7 : IntKind.i64.wrap ((n : Int) + 16 - 7) = (n : Int) + 9 := by rw [wrap64_small _ (by omega) (by omega)]; omega
          have hb5 : (n : Int) < 64 := by omega
          have hb6 : (n : Int) + 9 < 64 := by omega
          have hb7 : (0 : Int) ≤ (n : Int) + 9 := by omega
          have ht7 : ((n : Int) + 9).toNat = n + 9 := by omega
          have hb8 : (n : Int) + 16 < 64 := by omega
          have hb9 : (0 : Int) ≤ (n : Int) + 16 := by omega
          have ht8 : ((n : Int) + 16).toNat = n + 16 := by omega
          go_wp2_with fail
          go_quiet (fail)
          have c16 : (wr.drewN nq).cell? _ = _ := c16
          have c7 : (wr.drewN nq).cell? _ = _ := c7
          have cc : (wr.drewN nq).cell? _ = _ := cc
          have ff : (wr.drewN nq).frozen? _ = _ := ff
          have h1 : (wr.drewN nq).heap[_]? = _ := h1
          have h0 : (wr.drewN nq).heap[_]? = _ := h0
          have hK := hK.drewN nq
          generalize wr.drewN nq = w3 at *
          go_wp2_with fail
          refine (rot7 _ _).mono ?_; rintro e w' ⟨rfl, rfl⟩
          go_wp2_with fail
          refine (rot18 _ _).mono ?_; rintro e w' ⟨rfl, rfl⟩
          go_wp2_with fail
          refine (rot17 _ _).mono ?_; rintro e w' ⟨rfl, rfl⟩
          go_wp2_with fail
          refine (rot19 _ _).mono ?_; rintro e w' ⟨rfl, rfl⟩
          go_wp2_with fail
          go_still_tail 15, (by kernel_rfl)
          change wpList _ _ _ _ _ (World.drew _)
          simp only [u_xor, u_shr3, u_shr10]
          simp only [u_add]
          have Hx : x16 + (rotr x15 7 ^^^ rotr x15 18 ^^^ x15 >>> 3) + x7 + (rotr x2 17 ^^^ rotr x2 19 ^^^ x2 >>> 10) = (sched b).getD (n + 16) 0 := by rw [Nat.add_comm n 16, Hr.out]; rfl
          rw [Hx]
          generalize hy : (sched b).getD (n + 16) 0 = y at *
          clear Hx Hr
          have hs := row_set (w := w3.drew) h1 (n + 16) (U y)
          rw [arr_set (f' := S2 b (n + 1)) (by simp [S2, ← hy, Nat.add_comm]) (fun i _ hne => by simp only [S2]; by_cases hi : i < 16 + n; rw [if_pos hi, if_pos (by omega)]; rw [if_neg hi, if_neg (by omega)])] at hs
          have h0' : (w3.drew.setCell ⟨w.heap.size + 1, n + 16, none⟩ (U y)).heap[w.heap.size]? = some (.cells (arr (fun _ => 0) 64) 92 (0,0)) := by rw [Below.heap_setCell _ _ _ _ (by simp)]; exact h0
          have hK' : Kept no w (w3.drew.setCell ⟨w.heap.size + 1, n + 16, none⟩ (U y)) := hK.drew.setCell (.inr (by simp)) _
          unfold U at hs h0' hK'
          clear hy
          go_wp2
          go_roundw
          case rel => (repeat apply Exists.intro); exact ⟨⟨n + 1, by omega, by go_num, hs, h0', hK'⟩, rfl⟩
          case measure => simp [intOf]; omega
        · obtain rfl : n = 48 := by omega
          have e64 : arr (S2 b 48) 64 = ((sched b).map U).toArray := arr_list (sched_length b h64) fun i hi => by unfold S2; rw [if_pos (by omega)]
          rw [e64] at h1
          clear hlt
          have hsz : Hd (((sched b).map U).toArray.size = 64) := ⟨by simp [sched_length b h64]⟩
          have hone : Hd (((sched b).map U).toArray.all (·.oneCell') = true) := ⟨by simp [U, Value.oneCell']⟩
          have hinf : Hd ((Tryd.prog.info? 92).map (·.size) = some ((sched b).map U).toArray.size) := ⟨by rw [hsz.out]; kernel_rfl⟩
          have hold : Hd ((arr (fun _ => 0) 64).size = ((sched b).map U).toArray.size) := ⟨by rw [hsz.out]; simp [arr]⟩
          generalize hA : ((sched b).map U).toArray = A at h1 hsz hone hinf hold
          have HA := hid hA
          clear hA
          go_wp2_with (first | (with_reducible refine wpList_load_row rfl 92 _ rfl (w.heap.size + 1) rfl 92 _ _ _ h1 Tryd.underlying92 rfl (by rw [hsz.out]; kernel_rfl) ?_) | (with_reducible refine wpList_store_row rfl 92 _ _ rfl w.heap.size A rfl rfl 92 _ h0 hinf.out hold.out hone.out ?_))
          have h2 := setRow_heap _ _ _ A _ _ h0
          refine bodyPost_ret (v := .agg A) ?_ rfl ?_
          · exact results_cell_row rfl _ _ w.heap.size 92 A (0, 0) _ rfl h2 Tryd.underlying92 rfl (by rw [hsz.out]; kernel_rfl)
          · exact ⟨by rw [HA.out], hK.setRow (.inr (Nat.le_refl _)) A⟩
end Go.Proofs.YtggcbjchnefhfaaDoor
