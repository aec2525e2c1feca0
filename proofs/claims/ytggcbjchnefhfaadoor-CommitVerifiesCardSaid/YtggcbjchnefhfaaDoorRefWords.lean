/- electionref04.words returns the 64 words of a block. -/
import Derived.Test.YtggcbjchnefhfaaDoorRefRot
import Derived.Test.YtggcbjchnefhfaaDoorSched
namespace Go.Proofs.YtggcbjchnefhfaaDoor
open Go.RowKit Go.Mk Go.Sha
theorem shl_shl8 (x : UInt32) : (x <<< 8) <<< 8 = x <<< 16 := by
  rw [← UInt32.shiftLeft_add (by decide) (by decide) (by decide)]; rfl
theorem shl_shl16 (x : UInt32) : (x <<< 16) <<< 8 = x <<< 24 := by
  rw [← UInt32.shiftLeft_add (by decide) (by decide) (by decide)]; rfl
theorem word_alt (a b c d : UInt8) : a.toUInt32 <<< 24 ||| b.toUInt32 <<< 16 ||| c.toUInt32 <<< 8 ||| d.toUInt32 = word a b c d := by
  unfold word
  simp only [UInt32.shiftLeft_or, shl_shl8, shl_shl16]
theorem u_shl16 (x : UInt32) : IntKind.u32.wrap ((x.toNat : Int) * 65536) = ((x <<< 16).toNat : Int) := by
  rw [IntKind.wrap_u32']; exact shl_nat x 16 (by decide)
theorem u_shl24 (x : UInt32) : IntKind.u32.wrap ((x.toNat : Int) * 16777216) = ((x <<< 24).toNat : Int) := by
  rw [IntKind.wrap_u32']; exact shl_nat x 24 (by decide)
theorem take4 (b : List UInt8) (k : Nat) (h : 4 * k + 3 < b.length) : (b.drop (4 * k)).take 4 = [b.getD (4 * k) 0, b.getD (4 * k + 1) 0, b.getD (4 * k + 2) 0, b.getD (4 * k + 3) 0] := by
  apply List.ext_getElem
  · simp; omega
  · intro i h1 h2
    have hi : i < 4 := by simpa using h2
    rw [List.getElem_take, List.getElem_drop]
    rcases (show i = 0 ∨ i = 1 ∨ i = 2 ∨ i = 3 by omega) with rfl | rfl | rfl | rfl <;> simp [show 4 * k < b.length by omega, show 4 * k + 1 < b.length by omega, show 4 * k + 2 < b.length by omega, show 4 * k + 3 < b.length by omega]
theorem sched_word (b : List UInt8) (h : 64 ≤ b.length) (k : Nat) (hk : k < 16) : (sched b).getD k 0 = word (b.getD (4 * k) 0) (b.getD (4 * k + 1) 0) (b.getD (4 * k + 2) 0) (b.getD (4 * k + 3) 0) := by
  rw [sched_get b h 0 48 k rfl (by omega), iter, first16_get 16 b k (by omega) hk, take4 b k (by omega), ← word_part]
def R2 (b : List UInt8) (n j : Nat) : UInt32 := if j < n then (sched b).getD j 0 else 0
set_option maxRecDepth 100000 in
set_option maxHeartbeats 1000000 in
theorem words_any (bb o cap : Nat) (b : List UInt8) (w : World) (h64 : 64 ≤ b.length) (hnm : b.length ≤ 1099511627776)
  (hc : ∀ j u, (b.map B)[j]? = some u → w.cell? ⟨bb, o + j, none⟩ = some u) : Calls Tryd.prog 65 #[.slice (some ⟨bb, o, none⟩) b.length cap] w fun e w' => e = .returned (.agg ((sched b).map U).toArray) ∧ Kept no w w' := by
  replace hc := hid hc
  go_enter Tryd.func65, Tryd.ntmps65
  go_wp2
  go_loopw [4, 5, 6] (fun t _ _ wr => ∃ k : Nat, k ≤ 64 ∧ t = .int .i64 k ∧ wr.heap[w.heap.size + 1]? = some (.cells (arr (R2 b k) 64) 92 (0,0)) ∧ wr.heap[w.heap.size]? = some (.cells (arr (fun _ => 0) 64) 92 (0,0)) ∧ Kept no w wr)
     (fun t _ _ _ => 64 - (intOf t).toNat)
  case atStart =>
    refine ⟨0, by omega, rfl, ?_, ?_, ((Kept.refl _ _).alloc _).alloc _⟩
    · rw [arr0, ← World.size_alloc (w := w), heap_alloc_new]; rfl
    · rw [arr0, heap_alloc_old _ _ (by simp), heap_alloc_new]
  case round =>
    obtain ⟨k, hk, rfl, h1, h0, hK⟩ := hrel
    by_cases hlt : k < 16
    · have cellb : ∀ j, j < b.length → wr.cell? ⟨bb, o + j, none⟩ = some (.int .u8 ((b.getD j 0).toNat : Int)) := fun j hj => hK.cell (hc.out j _ (by simp [hj, B])) id
      have cb0 := cellb (4 * k) (by omega)
      have cb1 := cellb (4 * k + 1) (by omega)
      have cb2 := cellb (4 * k + 2) (by omega)
      have cb3 := cellb (4 * k + 3) (by omega)
      have ff := row_free h1 k
      have cc := arr_cell h1 k (by omega)
      have Hs := hid (sched_word b h64 k hlt)
      clear cellb
      generalize b.getD (4 * k) 0 = x0 at cb0 Hs
      generalize b.getD (4 * k + 1) 0 = x1 at cb1 Hs
      generalize b.getD (4 * k + 2) 0 = x2 at cb2 Hs
      generalize b.getD (4 * k + 3) 0 = x3 at cb3 Hs
      have hw0 : IntKind.i64.wrap (4 * (k : Int)) = 4 * (k : Int) := wrap64_small _ (by omega) (by omega)
      have hw1 : IntKind.i64.wrap (4 * (k : Int) + 1) = 4 * (k : Int) + 1 := wrap64_small _ (by omega) (by omega)
      have hw2 : IntKind.i64.wrap (4 * (k : Int) + 2) = 4 * (k : Int) + 2 := wrap64_small _ (by omega) (by omega)
      have hw3 : IntKind.i64.wrap (4 * (k : Int) + 3) = 4 * (k : Int) + 3 := wrap64_small _ (by omega) (by omega)
      have hb0 : 4 * (k : Int) < (b.length : Int) := by omega
      have hb1 : 4 * (k : Int) + 1 < (b.length : Int) := by omega
      have hb2 : 4 * (k : Int) + 2 < (b.length : Int) := by omega
      have hb3 : 4 * (k : Int) + 3 < (b.length : Int) := by omega
      have hp0 : (0 : Int) ≤ 4 * (k : Int) := by omega
      have hp1 : (0 : Int) ≤ 4 * (k : Int) + 1 := by omega
      have hp2 : (0 : Int) ≤ 4 * (k : Int) + 2 := by omega
      have hp3 : (0 : Int) ≤ 4 * (k : Int) + 3 := by omega
      have ht0 : (4 * (k : Int)).toNat = 4 * k := by omega
      have ht1 : (4 * (k : Int) + 1).toNat = 4 * k + 1 := by omega
      have ht2 : (4 * (k : Int) + 2).toNat = 4 * k + 2 := by omega
      have ht3 : (4 * (k : Int) + 3).toNat = 4 * k + 3 := by omega
      have hk16 : (k : Int) < 16 := by omega
      have hk64 : (k : Int) < 64 := by omega
      go_wp2_with fail
      go_still_tail 35, (by kernel_rfl)
      change wpList _ _ _ _ _ wr.drew
      simp only [u_of8, u_shl8, u_shl16, u_shl24, u_or]
      rw [word_alt, ← Hs.out]
      clear Hs hw0 hw1 hw2 hw3 hb0 hb1 hb2 hb3 ht0 ht1 ht2 ht3
      have hs := row_set (w := wr.drew) h1 k (U ((sched b).getD k 0))
      rw [arr_set (f' := R2 b (k + 1)) (by simp [R2]) (fun i _ hne => by simp only [R2]; by_cases hi : i < k; rw [if_pos hi, if_pos (by omega)]; rw [if_neg hi, if_neg (by omega)])] at hs
      have h0' : (wr.drew.setCell ⟨w.heap.size + 1, k, none⟩ (U ((sched b).getD k 0))).heap[w.heap.size]? = some (.cells (arr (fun _ => 0) 64) 92 (0,0)) := by rw [Below.heap_setCell _ _ _ _ (by simp)]; exact h0
      have hK' : Kept no w (wr.drew.setCell ⟨w.heap.size + 1, k, none⟩ (U ((sched b).getD k 0))) := hK.drew.setCell (.inr (by simp)) _
      unfold U at hs h0' hK'
      generalize (sched b).getD k 0 = y at hs h0' hK' ⊢
      go_wp2
      go_roundw
      case rel => exact ⟨k + 1, by omega, by go_num, hs, h0', hK'⟩
      case measure => simp [intOf]; omega
    · by_cases hlt2 : k < 64
      · obtain ⟨n, rfl⟩ : ∃ n, k = n + 16 := ⟨k - 16, by omega⟩
        have c16 := arr_cell h1 n (by omega)
        have c15 := arr_cell h1 (n + 1) (by omega)
        have c7 := arr_cell h1 (n + 9) (by omega)
        have c2 := arr_cell h1 (n + 14) (by omega)
        have cc := arr_cell h1 (n + 16) (by omega)
        have ff := row_free h1 (n + 16)
        simp only [R2, show n < n + 16 by omega, show n + 1 < n + 16 by omega, show n + 9 < n + 16 by omega, show n + 14 < n + 16 by omega, if_true] at c16 c15 c7 c2
        generalize e16 : (sched b).getD n 0 = x16 at c16 c15 c7 c2
        generalize e15 : (sched b).getD (n+1) 0 = x15 at c16 c15 c7 c2
        generalize e7 : (sched b).getD (n+9) 0 = x7 at c16 c15 c7 c2
        generalize e2 : (sched b).getD (n+14) 0 = x2 at c16 c15 c7 c2
        have Hr := hid (sched_rec b h64 n (by omega))
        rw [e16, e15, e7, e2] at Hr
        clear e16 e15 e7 e2
        have hcast : ((n + 16 : Nat) : Int) = (n : Int) + 16 := by omega
        rw [hcast]
        clear hcast
        have hw15 : IntKind.i64.wrap ((n : Int) + 16 - 15) = (n : Int) + 1 := by rw [wrap64_small _ (by omega) (by omega)]; omega
        have hw2 : IntKind.i64.wrap ((n : Int) + 16 - 2) = (n : Int) + 14 := by rw [wrap64_small _ (by omega) (by omega)]; omega
        have hb1 : (n : Int) + 1 < 64 := by omega
        have hb2 : (n : Int) + 14 < 64 := by omega
        have hb3 : (0 : Int) ≤ (n : Int) + 1 := by omega
        have hb4 : (0 : Int) ≤ (n : Int) + 14 := by omega
        have ht1 : ((n : Int) + 1).toNat = n + 1 := by omega
        have ht2 : ((n : Int) + 14).toNat = n + 14 := by omega
        have hw16 : IntKind.i64.wrap ((n : Int) + 16 - 16) = (n : Int) := by rw [wrap64_small _ (by omega) (by omega)]; omega
        have hw16' : IntKind.i64.wrap (n : Int) = (n : Int) := wrap64_small _ (by omega) (by omega)
        have hw7 : IntKind.i64.wrap ((n : Int) + 16 - 7) = (n : Int) + 9 := by rw [wrap64_small _ (by omega) (by omega)]; omega
        have hb5 : (n : Int) < 64 := by omega
        have hb6 : (n : Int) + 9 < 64 := by omega
        have hb7 : (0 : Int) ≤ (n : Int) + 9 := by omega
        have ht7 : ((n : Int) + 9).toNat = n + 9 := by omega
        have hb8 : (n : Int) + 16 < 64 := by omega
        have hb9 : (0 : Int) ≤ (n : Int) + 16 := by omega
        have hb10 : ¬ (n : Int) + 16 < 16 := by omega
        have ht8 : ((n : Int) + 16).toNat = n + 16 := by omega
        go_wp2_with fail
        go_quiet (fail)
        have c16 : (wr.drewN nq).cell? _ = _ := c16
        have c7 : (wr.drewN nq).cell? _ = _ := c7
        have cc : (wr.drewN nq).cell? _ = _ := cc
        have ff : (wr.drewN nq).frozen? _ = _ := ff
        have h1 : (wr.drewN nq).heap[_]? = _ := h1
        have h0 : (wr.drewN nq).heap[_]? = _ := h0
        have hK := hK.drewN nq
        generalize wr.drewN nq = w3 at *
        go_wp2_with fail
        go_still_tail 29, (by kernel_rfl)
        still_call (rotR17 _ _)
        repeat still_step
        still_call (rotR19 _ _)
        repeat still_step
        still_call (rotR7 _ _)
        repeat still_step
        still_call (rotR18 _ _)
        repeat still_step
        refine wpStill_nil ?_
        change wpList _ _ _ _ _ (World.drew _)
        simp only [u_xor, u_shr3, u_shr10]
        simp only [u_add]
        have Hx : (rotr x2 17 ^^^ rotr x2 19 ^^^ x2 >>> 10) + x7 + (rotr x15 7 ^^^ rotr x15 18 ^^^ x15 >>> 3) + x16 = (sched b).getD (n + 16) 0 := by
          rw [Nat.add_comm n 16, Hr.out]
          show s1 x2 + x7 + s0 x15 + x16 = _
          ac_rfl
        rw [Hx]
        generalize hy : (sched b).getD (n + 16) 0 = y at *
        clear Hx Hr
        have hs := row_set (w := w3.drew) h1 (n + 16) (U y)
        rw [arr_set (f' := R2 b (n + 16 + 1)) (by simp [R2, ← hy]) (fun i _ hne => by simp only [R2]; by_cases hi : i < n + 16; rw [if_pos hi, if_pos (by omega)]; rw [if_neg hi, if_neg (by omega)])] at hs
        have h0' : (w3.drew.setCell ⟨w.heap.size + 1, n + 16, none⟩ (U y)).heap[w.heap.size]? = some (.cells (arr (fun _ => 0) 64) 92 (0,0)) := by rw [Below.heap_setCell _ _ _ _ (by simp)]; exact h0
        have hK' : Kept no w (w3.drew.setCell ⟨w.heap.size + 1, n + 16, none⟩ (U y)) := hK.drew.setCell (.inr (by simp)) _
        unfold U at hs h0' hK'
        clear hy
        go_wp2
        go_roundw
        case rel => first | exact ⟨n + 16 + 1, by omega, by go_num, hs, h0', hK'⟩ | ((repeat apply Exists.intro); exact ⟨⟨n + 16 + 1, by omega, by go_num, hs, h0', hK'⟩, rfl⟩)
        case measure => simp [intOf]; omega
      · obtain rfl : k = 64 := by omega
        have e64 : arr (R2 b 64) 64 = ((sched b).map U).toArray := arr_list (sched_length b h64) fun i hi => by unfold R2; rw [if_pos (by omega)]
        rw [e64] at h1
        clear hlt hlt2
        have hsz : Hd (((sched b).map U).toArray.size = 64) := ⟨by simp [sched_length b h64]⟩
        have hone : Hd (((sched b).map U).toArray.all (·.oneCell') = true) := ⟨by simp [U, Value.oneCell']⟩
        have hinf : Hd ((Tryd.prog.info? 92).map (·.size) = some ((sched b).map U).toArray.size) := ⟨by rw [hsz.out]; kernel_rfl⟩
        have hold : Hd ((arr (fun _ => 0) 64).size = ((sched b).map U).toArray.size) := ⟨by rw [hsz.out]; simp [arr]⟩
        generalize hA : ((sched b).map U).toArray = A at h1 hsz hone hinf hold
        have HA := hid hA
        clear hA
        simp only [show ((64 : Nat) : Int) = 64 from rfl]
        go_wp2_with (first | (with_reducible refine wpList_load_row rfl 92 _ rfl (w.heap.size + 1) rfl 92 _ _ _ h1 Tryd.underlying92 rfl (by rw [hsz.out]; kernel_rfl) ?_) | (with_reducible refine wpList_store_row rfl 92 _ _ rfl w.heap.size A rfl rfl 92 _ h0 hinf.out hold.out hone.out ?_))
        have h2 := setRow_heap _ _ _ A _ _ h0
        refine bodyPost_ret (v := .agg A) ?_ rfl ?_
        · exact results_cell_row rfl _ _ w.heap.size 92 A (0, 0) _ rfl h2 Tryd.underlying92 rfl (by rw [hsz.out]; kernel_rfl)
        · exact ⟨by rw [HA.out], hK.setRow (.inr (Nat.le_refl _)) A⟩
end Go.Proofs.YtggcbjchnefhfaaDoor
