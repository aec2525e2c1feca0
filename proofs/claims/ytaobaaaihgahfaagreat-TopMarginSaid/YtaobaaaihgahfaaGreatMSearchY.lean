/- margin.Search (printed by gen_msearch.py). -/
import Derived.Test.YtaobaaaihgahfaaGreatTAddY
import Derived.Test.YtaobaaaihgahfaaGreatMUpperY
import Derived.Test.YtaobaaaihgahfaaGreatRSearchY
namespace Go.Proofs.YtaobaaaihgahfaaGreat
open Go.RowKit Go.Mk Go.Pil Go.Mg
theorem contains_any (v : Value) (zs : List Int) (x : Int) (w : World) (hr : RdZ w v zs) : Calls Tryz.prog 40 #[v, .int .i64 x] w fun e w' => e = .returned (.bool (decide (x ∈ zs))) ∧ Qt w w' := by
  have HI := hid (index_any v zs x w hr)
  have hd : Hd (decide (0 ≤ idxI zs x) = decide (x ∈ zs)) := ⟨by
    unfold idxI
    by_cases h : x ∈ zs
    · rw [if_pos h, decide_eq_true h]; exact decide_eq_true (by omega)
    · rw [if_neg h, decide_eq_false h]; rfl⟩
  (obtain ⟨i, hi⟩ : ∃ i, idxI zs x = i := ⟨_, rfl⟩); (rw [hi] at HI hd); (clear hr hi)
  go_enter Tryz.func40, Tryz.ntmps40
  (go_wp2_with fail); (refine HI.out.mono ?_); (rintro e w1 ⟨rfl, q1⟩); (have hd := hd.out); (replace q1 := hid q1); (clear HI); (go_wp2); (go_ret); (exact ⟨by first | rfl | rw [← hd] | rw [hd], q1.out⟩)
def TreeA (w1 w : World) (gt gv : Nat) (vn : Value) (q r : List (Nd × Value)) (ve : Value) (h : List Nat) : Prop := TreeS w1 w gt gv vn (q ++ r) ve h
def PRes {Sl : Nat → Nat → Prop} (w0 : World) (g : Nat) (a b c : Value) : Pr Sl := soft (fun _ w => ∃ w1, Kept no w0 w1 ∧ Kept no (((w1.setCell ⟨g, 0, none⟩ a).setCell ⟨g, 1, none⟩ b).setCell ⟨g, 2, none⟩ c) w) fun _ _ _ ⟨w1, h1, h2⟩ k => ⟨w1, h1, h2.trans' k⟩
set_option maxRecDepth 100000 in
set_option maxHeartbeats 4000000 in
theorem msearch_any (n : Int) (v : Value) (ps : List (Grp × Value)) (wn lim : Int) (w : World) (hr : RdG w v ps) :
    Calls Tryz.prog 9 #[.int .i64 n, v, .int .i64 wn, .int .i64 lim] w fun e w' => ∃ (win mar err : Int) (vn : Value) (q : List (Nd × Value)), e = .returned (.tuple #[.agg #[.int .i64 win, .int .i64 mar, vn], .int .i64 err]) ∧ SrchR n (grps ps) wn lim win mar err (nds q) ∧ RdN w' vn q ∧ Kept no w w' := by
  obtain ⟨ag, cg, rfl, _, _⟩ := hr.shape
  by_cases hc1 : n < 2
  · (have hd : decide (n < 2) = true := decide_eq_true hc1); (have hR : Hd (SrchR n (grps ps) wn lim 0 0 4 (nds [])) := ⟨by unfold SrchR; rw [if_pos (by omega)]; exact ⟨rfl, rfl, rfl, rfl⟩⟩); (have k1 := hid ((Kept.refl no w).alloc (.cells #[.int .i64 0, .int .i64 0, .slice none 0 0] 41))); (clear hr)
    go_enter Tryz.func9, Tryz.ntmps9
    (go_wp2); (refine bodyPost_ret (v := .tuple #[.agg #[.int .i64 0, .int .i64 0, .slice none 0 0], .int .i64 4]) ?_ rfl ?_)
    · exact results_cert rfl _ _ w.heap.size [.int .i64 0, .int .i64 0, .slice none 0 0] rfl _ rfl rfl (heap_alloc_new w _)
    · first | exact ⟨0, 0, 4, .slice none 0 0, rfl, [], hR.out, rdN_nil _, k1.out⟩ | exact ⟨0, 0, 4, .slice none 0 0, [], rfl, hR.out, rdN_nil _, k1.out⟩
  have hc1d : decide (n < 2) = false := decide_eq_false hc1
  by_cases hc2 : 7 < n
  · (have hd : decide (7 < n) = true := decide_eq_true hc2); (have hR : Hd (SrchR n (grps ps) wn lim 0 0 4 (nds [])) := ⟨by unfold SrchR; rw [if_pos (by omega)]; exact ⟨rfl, rfl, rfl, rfl⟩⟩); (have k1 := hid ((Kept.refl no w).alloc (.cells #[.int .i64 0, .int .i64 0, .slice none 0 0] 41))); (clear hr)
    go_enter Tryz.func9, Tryz.ntmps9
    (go_wp2); (refine bodyPost_ret (v := .tuple #[.agg #[.int .i64 0, .int .i64 0, .slice none 0 0], .int .i64 4]) ?_ rfl ?_)
    · exact results_cert rfl _ _ w.heap.size [.int .i64 0, .int .i64 0, .slice none 0 0] rfl _ rfl rfl (heap_alloc_new w _)
    · first | exact ⟨0, 0, 4, .slice none 0 0, rfl, [], hR.out, rdN_nil _, k1.out⟩ | exact ⟨0, 0, 4, .slice none 0 0, [], rfl, hR.out, rdN_nil _, k1.out⟩
  have hc2d : decide (7 < n) = false := decide_eq_false hc2
  by_cases hc3 : wn < 0
  · (have hd : decide (wn < 0) = true := decide_eq_true hc3); (have hR : Hd (SrchR n (grps ps) wn lim 0 0 4 (nds [])) := ⟨by unfold SrchR; rw [if_pos (by omega)]; exact ⟨rfl, rfl, rfl, rfl⟩⟩); (have k1 := hid ((Kept.refl no w).alloc (.cells #[.int .i64 0, .int .i64 0, .slice none 0 0] 41))); (clear hr)
    go_enter Tryz.func9, Tryz.ntmps9
    (go_wp2); (refine bodyPost_ret (v := .tuple #[.agg #[.int .i64 0, .int .i64 0, .slice none 0 0], .int .i64 4]) ?_ rfl ?_)
    · exact results_cert rfl _ _ w.heap.size [.int .i64 0, .int .i64 0, .slice none 0 0] rfl _ rfl rfl (heap_alloc_new w _)
    · first | exact ⟨0, 0, 4, .slice none 0 0, rfl, [], hR.out, rdN_nil _, k1.out⟩ | exact ⟨0, 0, 4, .slice none 0 0, [], rfl, hR.out, rdN_nil _, k1.out⟩
  have hc3d : decide (wn < 0) = false := decide_eq_false hc3
  by_cases hc4 : n ≤ wn
  · (have hd : decide (n ≤ wn) = true := decide_eq_true hc4); (have hR : Hd (SrchR n (grps ps) wn lim 0 0 4 (nds [])) := ⟨by unfold SrchR; rw [if_pos (by omega)]; exact ⟨rfl, rfl, rfl, rfl⟩⟩); (have k1 := hid ((Kept.refl no w).alloc (.cells #[.int .i64 0, .int .i64 0, .slice none 0 0] 41))); (clear hr)
    go_enter Tryz.func9, Tryz.ntmps9
    (go_wp2); (refine bodyPost_ret (v := .tuple #[.agg #[.int .i64 0, .int .i64 0, .slice none 0 0], .int .i64 4]) ?_ rfl ?_)
    · exact results_cert rfl _ _ w.heap.size [.int .i64 0, .int .i64 0, .slice none 0 0] rfl _ rfl rfl (heap_alloc_new w _)
    · first | exact ⟨0, 0, 4, .slice none 0 0, rfl, [], hR.out, rdN_nil _, k1.out⟩ | exact ⟨0, 0, 4, .slice none 0 0, [], rfl, hR.out, rdN_nil _, k1.out⟩
  have hc4d : decide (n ≤ wn) = false := decide_eq_false hc4
  by_cases hc5 : lim < 1
  · (have hd : decide (lim < 1) = true := decide_eq_true hc5); (have hR : Hd (SrchR n (grps ps) wn lim 0 0 4 (nds [])) := ⟨by unfold SrchR; rw [if_pos (by omega)]; exact ⟨rfl, rfl, rfl, rfl⟩⟩); (have k1 := hid ((Kept.refl no w).alloc (.cells #[.int .i64 0, .int .i64 0, .slice none 0 0] 41))); (clear hr)
    go_enter Tryz.func9, Tryz.ntmps9
    (go_wp2); (refine bodyPost_ret (v := .tuple #[.agg #[.int .i64 0, .int .i64 0, .slice none 0 0], .int .i64 4]) ?_ rfl ?_)
    · exact results_cert rfl _ _ w.heap.size [.int .i64 0, .int .i64 0, .slice none 0 0] rfl _ rfl rfl (heap_alloc_new w _)
    · first | exact ⟨0, 0, 4, .slice none 0 0, rfl, [], hR.out, rdN_nil _, k1.out⟩ | exact ⟨0, 0, 4, .slice none 0 0, [], rfl, hR.out, rdN_nil _, k1.out⟩
  have hc5d : decide (lim < 1) = false := decide_eq_false hc5
  by_cases hc6 : 4000 < lim
  · (have hd : decide (4000 < lim) = true := decide_eq_true hc6); (have hR : Hd (SrchR n (grps ps) wn lim 0 0 4 (nds [])) := ⟨by unfold SrchR; rw [if_pos (by omega)]; exact ⟨rfl, rfl, rfl, rfl⟩⟩); (have k1 := hid ((Kept.refl no w).alloc (.cells #[.int .i64 0, .int .i64 0, .slice none 0 0] 41))); (clear hr)
    go_enter Tryz.func9, Tryz.ntmps9
    (go_wp2); (refine bodyPost_ret (v := .tuple #[.agg #[.int .i64 0, .int .i64 0, .slice none 0 0], .int .i64 4]) ?_ rfl ?_)
    · exact results_cert rfl _ _ w.heap.size [.int .i64 0, .int .i64 0, .slice none 0 0] rfl _ rfl rfl (heap_alloc_new w _)
    · first | exact ⟨0, 0, 4, .slice none 0 0, rfl, [], hR.out, rdN_nil _, k1.out⟩ | exact ⟨0, 0, 4, .slice none 0 0, [], rfl, hR.out, rdN_nil _, k1.out⟩
  (have hc6d : decide (4000 < lim) = false := decide_eq_false hc6); (have k0 := hid ((Kept.refl no w).alloc (.cells #[.int .i64 0, .int .i64 0, .slice none 0 0] 41))); (have HV := hid (valid_any n _ ps _ (hr.kept k0.out))); (have g8 : Hd ((w.alloc (.cells #[.int .i64 0, .int .i64 0, .slice none 0 0] 41)).heap[w.heap.size]? = some (.cells #[.int .i64 0, .int .i64 0, .slice none 0 0] 41 (0, 0))) := ⟨heap_alloc_new _ _⟩); (rw [show decide (1 ≤ n ∧ n ≤ 7) = true from decide_eq_true ⟨by omega, by omega⟩, Bool.true_and] at HV)
  cases hv : isPile n (grps ps) with
  | false =>
    (have hR : Hd (SrchR n (grps ps) wn lim 0 0 8 (nds [])) := ⟨by unfold SrchR; rw [if_neg (fun h => h ⟨⟨by omega, by omega⟩, ⟨by omega, by omega⟩, ⟨by omega, by omega⟩⟩), if_pos hv]; exact ⟨rfl, rfl, rfl, rfl⟩⟩); (rw [hv] at HV); (clear hr hv)
    go_enter Tryz.func9, Tryz.ntmps9
    (go_wp2_with fail); (refine HV.out.mono ?_); (rintro e w1 ⟨rfl, q1⟩); (have k1 := hid (k0.out.trans' q1)); (have g9 := hid ((q1.block _ (lt_of_heap g8.out) id).trans g8.out)); (clear q1 HV g8 k0); (have c0 : w1.cell? ⟨w.heap.size, 0, none⟩ = some (.int .i64 0) := cell_of_row _ _ 0 _ _ _ g9.out); (have c1 : w1.cell? ⟨w.heap.size, 1, none⟩ = some (.int .i64 0) := cell_of_row _ _ 1 _ _ _ g9.out); (have c2 : w1.cell? ⟨w.heap.size, 2, none⟩ = some (.slice none 0 0) := cell_of_row _ _ 2 _ _ _ g9.out); (have f0 : w1.frozen? ⟨w.heap.size, 0, none⟩ = false := row_free g9.out 0); (have f1 : w1.frozen? ⟨w.heap.size, 1, none⟩ = false := row_free g9.out 1); (have f2 : w1.frozen? ⟨w.heap.size, 2, none⟩ = false := row_free g9.out 2); (have g10 := setCell_row (setCell_row (setCell_row g9.out 0 (.int .i64 0)) 1 (.int .i64 0)) 2 (.slice none 0 0)); (have k2 := hid (((k1.out.setCell (a := ⟨w.heap.size, 0, none⟩) (.inr (Nat.le_refl _)) (.int .i64 0)).setCell (a := ⟨w.heap.size, 1, none⟩) (.inr (Nat.le_refl _)) (.int .i64 0)).setCell (a := ⟨w.heap.size, 2, none⟩) (.inr (Nat.le_refl _)) (.slice none 0 0))); (have g11 : Hd ((((w1.setCell ⟨w.heap.size, 0, none⟩ (.int .i64 0)).setCell ⟨w.heap.size, 1, none⟩ (.int .i64 0)).setCell ⟨w.heap.size, 2, none⟩ (.slice none 0 0)).heap[w.heap.size]? = some (.cells [Value.int .i64 0, .int .i64 0, .slice none 0 0].toArray 41 (0, 0))) := ⟨by rw [g10]; simp⟩); (clear g10); (go_wp2); (refine bodyPost_ret (v := .tuple #[.agg #[.int .i64 0, .int .i64 0, .slice none 0 0], .int .i64 8]) ?_ rfl ?_)
    · exact results_cert rfl _ _ w.heap.size [.int .i64 0, .int .i64 0, .slice none 0 0] rfl _ rfl rfl g11.out
    · first | exact ⟨0, 0, 8, .slice none 0 0, rfl, [], hR.out, rdN_nil _, k2.out⟩ | exact ⟨0, 0, 8, .slice none 0 0, [], rfl, hR.out, rdN_nil _, k2.out⟩
  | true =>
    (rw [hv] at HV); (obtain ⟨N, rfl⟩ : ∃ N : Nat, n = (N : Int) := ⟨n.toNat, by omega⟩); (obtain ⟨WN, rfl⟩ : ∃ N : Nat, wn = (N : Int) := ⟨wn.toNat, by omega⟩); (have hN7 : N ≤ 7 := by omega); (have hN2 : 2 ≤ N := by omega); (have hWN : WN < N := by omega); (have hpN := hid hv); (clear hv); (replace hr := hid hr)
    go_enter Tryz.func9, Tryz.ntmps9
    (go_wp2_with fail); (refine HV.out.mono ?_); (rintro e w1 ⟨rfl, q1⟩); (have k1 := hid (k0.out.trans' q1)); (have g9 := hid ((q1.block _ (lt_of_heap g8.out) id).trans g8.out)); (clear q1 HV g8 k0); (replace hr := hid (hr.out.kept k1.out)); (have HU := hid (mupper_any (N : Int) (.slice ag ps.length cg) ps (WN : Int) w1 hr.out)); (obtain ⟨U, hU⟩ : ∃ U, upperB (N : Int) (grps ps) (WN : Int) = U := ⟨_, rfl⟩); (rw [hU] at HU); (replace hU := hid hU); (go_wp2_with fail); (refine HU.out.mono ?_); (rintro e w2 ⟨rfl, q2⟩); (have k2 := hid (k1.out.trans' q2)); (have g10 := hid (q2.blk g9.out)); (have hr2 := hid (hr.out.kept q2)); (clear HU q2 g9 k1 hr); (go_wp2_with fail); (refine (tnew_any w2).mono ?_); (rintro e w3 ⟨gt, gv, rfl, hT0⟩); (have HA := hid (fun (r : Nat) (wr : World) (vn : Value) (q : List (Nd × Value)) (ve : Value) (h : List Nat) (T : TreeS w2 wr gt gv vn q ve h) (hh : ∀ k ∈ h, k < q.length) (hH : IsHeap (nds q) h) (hl : h.length ≤ 10000) (hql : q.length ≤ 10000) (hB : 0 ≤ tailB (N : Int) (grps ps) [(r : Int)]) => tadd_root N r (.slice ag ps.length cg) ps w2 wr gt gv vn q ve h T hh hH hl hql (hr2.out.kept T.own.kept) hB)); (have HC := hid (fun (e K : Nat) (wr : World) (vn : Value) (q : List (Nd × Value)) (ve : Value) (h : List Nat) (T : TreeS w2 wr gt gv vn q ve h) (hh : ∀ k ∈ h, k < q.length) (hH : IsHeap (nds q) h) (hl : h.length ≤ 10000) (hql : q.length ≤ 10000) (hK : K < q.length) (x : Nd) (hx : (nds q).getD K default = x) (hxl : x.tail.length ≤ 100) => tadd_child N e K (.slice ag ps.length cg) ps w2 wr gt gv vn q ve h T hh hH hl hql (hr2.out.kept T.own.kept) hK x hx hxl))
    have htl : Hd (∀ tail : List Int, Go.Mg.isTail (N : Int) tail = true → tailB (N : Int) (grps ps) tail = bd N (grps ps) tail) := ⟨fun tail ht => by
      unfold tailB; rw [if_pos ⟨⟨by omega, by omega⟩, hpN.out, ht⟩, Int.toNat_natCast]⟩
    (replace hT0 := hid hT0); (have hq0 := hid (show QueueOf (nds []) [] from queue_nil)); (clear hr2); (go_wp2)
    go_loopw [51] (fun i wr => ∃ (r : Nat) (q : List (Nd × Value)) (vn ve : Value) (h : List Nat), r ≤ N ∧ i = .int .i64 (r : Int) ∧ h.length ≤ q.length ∧ Hd (nds q = startS N (grps ps) (WN : Int) r) ∧ Hd (TreeS w2 wr gt gv vn q ve h) ∧ Hd (QueueOf (nds q) h)) (fun i _ => N - (intOf i).toNat)
    case atStart => exact ⟨0, [], .slice none 0 0, .slice none 0 0, [], by omega, rfl, Nat.le_refl _, ⟨rfl⟩, hT0, hq0⟩
    case round =>
      (obtain ⟨r, q, vn, ve, h, hrN, rfl, hhl, hq, hT, hQ⟩ := hrel); (clear hT0 hq0)
      have hql : q.length ≤ 7 := by
        (have h1 := start_le N (grps ps) (WN : Int) r); (rw [← hq.out, nds_length] at h1; omega)
      by_cases hrl : r < N
      · (have hr1 : (r : Int) < (N : Int) := by omega); (have hr0 : (0 : Int) ≤ (r : Int) := by omega)
        by_cases hrW : r = WN
        · (have hri : (r : Int) = (WN : Int) := by omega); (have hq2 : Hd (nds q = startS N (grps ps) (WN : Int) (r + 1)) := ⟨by rw [start_skip hri]; exact hq.out⟩); (clear hq); (go_wp2); (go_roundw)
          case rel => exact ⟨r + 1, q, vn, ve, h, by omega, by go_num, hhl, hq2, hT, hQ⟩
          case measure => simp [intOf]; omega
        (have hri : ¬ (r : Int) = (WN : Int) := by omega); (have hB := htl.out [(r : Int)] (isTail_iff.2 ⟨by simp, by simp, fun x hx => by rw [List.mem_singleton.1 hx]; omega⟩)); (have hC := hid (HA.out r wr vn q ve h hT.out (fun k hk => by have := ((hQ.out.mem k).1 hk).1; rwa [nds_length] at this) hQ.out.heap (by omega) (by omega) (by rw [hB]; exact bd_nonneg _ _ _))); (have hND : Hd (rootE N (grps ps) (r : Int) = ⟨-1, [(r : Int)], tailB (N : Int) (grps ps) [(r : Int)], true⟩) := ⟨by rw [hB]; rfl⟩); (clear hB); (go_wp2_with fail); (refine hC.out.mono ?_); (rintro e w4 ⟨rfl, a, vn', ve', h', hT', hp', hh', _, _⟩); (rw [← hND.out] at hT' hh')
        have hQ2 : Hd (QueueOf (nds (q ++ [(rootE N (grps ps) (r : Int), a)])) h') := ⟨by
          rw [nds_snoc]; exact queue_push hQ.out rfl (by rw [nds_length]; exact hp') hh'⟩
        have hq3 : Hd (nds (q ++ [(rootE N (grps ps) (r : Int), a)]) = startS N (grps ps) (WN : Int) (r + 1)) := ⟨by rw [start_more (by omega), ← hq.out, nds_snoc]⟩
        have hhl2 : h'.length ≤ (q ++ [(rootE N (grps ps) (r : Int), a)]).length := by
          have := hp'.length_eq; simp at this ⊢; omega
        (replace hT' := hid hT'); (clear hh' hC hND hT hQ hq hp'); (go_wp2); (go_roundw)
        case rel => exact ⟨r + 1, _, vn', ve', h', by omega, by go_num, hhl2, hq3, hT', hQ2⟩
        case measure => simp [intOf]; omega
      · (obtain rfl : N = r := by omega); (have hr1 : ¬ (N : Int) < (N : Int) := by omega); (have hS0 : Hd (nds q = runS N (grps ps) (WN : Int) 0) := ⟨hq.out⟩); (have hW0 : Hd (WfN N (nds q) ∧ HasLeaf (nds q)) := ⟨by rw [hq.out]; exact ⟨wf_start hpN.out _, start_leaf hWN hN2⟩⟩); (have hq0 : q.length ≤ 4000 := by omega); (clear hq); (go_wp2)
        go_loopw [] (fun wl => ∃ (t : Nat) (p : List (Nd × Value)) (vn ve : Value) (h : List Nat), p.length ≤ 4000 ∧ h.length ≤ p.length ∧ Hd (nds p = runS N (grps ps) (WN : Int) t) ∧ Hd (∀ j, j < t → stopS N U lim (runS N (grps ps) (WN : Int) j) = false) ∧ Hd (WfN N (nds p) ∧ HasLeaf (nds p)) ∧ Hd (TreeS w2 wl gt gv vn p ve h) ∧ Hd (QueueOf (nds p) h)) (fun wl => 5000 - lenC wl gt 0)
        case atStart => exact ⟨0, q, vn, ve, h, hq0, hhl, hS0, ⟨fun j hj => by omega⟩, hW0, hT, hQ⟩
        case round =>
          (obtain ⟨wo, hwo⟩ : ∃ wo, wo = wr := ⟨_, rfl⟩); (subst hwo); (clear hS0 hW0 hq0 hT hQ hhl hql); (obtain ⟨t, p, vn, ve, h, hpl, hhl, hq, hno, hW, hT, hQ⟩ := hrel); (obtain ⟨hk1, hk2, hk3, hk4, hk5⟩ := selK_spec hW.out.2); (obtain ⟨hh0, hht⟩ := queue_top hQ.out hW.out.2); (obtain ⟨K, hK⟩ : ∃ K, selK (nds p) = K := ⟨_, rfl⟩); (rw [nds_length] at hk1 hk2); (rw [hK] at hk1 hk2 hht); (obtain ⟨⟨x, tv⟩, hel⟩ : ∃ y, p[K] = y := ⟨_, rfl⟩); (have hsx : selN (nds p) = x := by unfold selN; rw [hK]; exact nds_at hk1 hel); (obtain ⟨hx1, hx2, hx3⟩ := hW.out.1 _ hk4); (rw [hsx] at hk3 hx1 hx2 hx3); (obtain ⟨g, cap, rfl, hcap, cur, hg⟩ := hT.out.own.shape (by omega)); (obtain ⟨b', o', x', v', e', hel', d0, d1, d2, d3, hz⟩ := hT.out.own.rd.at K hk1)
          cases e'
          rw [hel] at hel'
          cases hel'
          (simp only [Nat.zero_add] at d0 d1 d2 d3); (obtain ⟨xp, xt, xb, xl⟩ := x); (simp only at hk3 hx1 hx2 hx3 d0 d1 d2 d3 hz); (subst hk3); (obtain ⟨ta, ct, rfl, _, _⟩ := Rd.shape2 hz)
          have htN : xt.length ≤ N := by
            (have h1 := isTail_iff.1 hx1); (exact nodup_len N xt h1.2.1 h1.2.2)
          obtain ⟨m, hm⟩ : ∃ m, p.length = m := ⟨_, rfl⟩
          have hstop : Hd (stopS N U lim (nds p) = (decide (U ≤ xb) || decide (xt.length = N) || decide (lim < (m : Int) + N - xt.length))) := ⟨by
            unfold stopS; rw [hsx, nds_length, hm]⟩
          (have hel2 := hid (show ∃ h : K < p.length, p[K] = ((⟨xp, xt, xb, true⟩ : Nd), Value.slice ta xt.length ct) from ⟨hk1, hel⟩)); (obtain ⟨tl, htl2⟩ : ∃ tl, xt.length = tl := ⟨_, rfl⟩); (rw [htl2] at htN d1 hz hstop hel2)
          obtain ⟨ge, cape, rfl⟩ : ∃ ge cape, ve = .slice (some ⟨ge, 0, none⟩) h.length cape := by
            obtain ⟨_, ⟨_, h0⟩ | ⟨ge, cape, _, e, _⟩⟩ := hT.out.els
            · omega
            · exact ⟨ge, cape, e⟩
          obtain ⟨be, oe, ee, l0⟩ := hT.out.rdE.at 0 (by rw [hz_len]; exact hh0)
          cases ee
          (rw [hz_at, hht] at l0); (simp only [Nat.zero_add] at l0); (obtain ⟨c0, c1, _⟩ := slot2 hT.out.blk); (have HL := hid (ttop_any gt K cape h.length ge wo hh0 c1 l0)); (have hlenA : Hd (lenC wo gt 0 = m) := ⟨by rw [← hm]; exact lenC_eq c0⟩); (have HP := hid (fun (W : World) (k : Kept no wo W) => tpop_any w2 W gt gv _ p _ h (hT.out.keptNo k) (fun k hk => by have := ((hQ.out.mem k).1 hk).1; rwa [nds_length] at this) hQ.out.heap hh0 (by omega)))
          have hQP : Hd (∀ h' : List Nat, h'.Perm (popL h) → IsHeap (nds p) h' → QueueOf ((nds p).set K (clr ⟨xp, xt, xb, true⟩)) h') := ⟨fun h' hp hh => by
            (have := queue_pop hQ.out hh0 hp hh); (rw [hht, show (nds p).getD K default = (⟨xp, xt, xb, true⟩ : Nd) from nds_at hk1 hel] at this)
            exact this⟩
          (have hpop : Hd (∀ h' : List Nat, h'.Perm (popL h) → h'.length ≤ p.length) := ⟨fun h' hp => by have := hp.length_eq; rw [popL_len] at this; omega⟩); (rw [hm] at c0); (have hmg : Hd (m < 100000) := ⟨by omega⟩); (rw [hm] at hk1 hcap hpl); (replace c0 := hid c0); (replace d0 := hid d0); (replace d1 := hid d1); (replace d2 := hid d2); (replace d3 := hid d3); (replace hsx := hid hsx); (replace hK := hid hK); (replace hx1 := hid hx1); (replace htl2 := hid htl2); (have hgg := hid hg); (clear hk2 hk4 hk5 hel hg hz c1 l0 hht hQ); (go_wp2_with fail); (refine HL.out.mono ?_); (rintro e w4 ⟨rfl, k4⟩); (have hT4 := hid (hT.out.keptNo k4)); (have HP4 := hid (fun (W : World) (k : Kept no w4 W) => HP.out W (k4.trans' k))); (have c0a := k4.cell c0.out id); (have d0a := k4.cell d0.out id); (have d1a := k4.cell d1.out id); (have d2a := k4.cell d2.out id); (have d3a := k4.cell d3.out id); (have hK0 : (0 : Int) ≤ (K : Int) := by omega); (have hKm : (K : Int) < (m : Int) := by omega); (have hg4 := hid (k4.blk hgg.out)); (have hgl4 : Hd (g < w4.heap.size) := ⟨lt_of_heap hg4.out⟩); (replace hm := hid hm); (clear HL hT d0 d1 d2 d3 hgg c0 k4 HP); (go_upto_region 15 with fail); (obtain ⟨w5, hw5, g5, k5⟩ := alloc_named w4 (.cells #[.int .i64 xp, .slice ta tl ct, .int .i64 xb, .bool true] 98)); (rw [← hw5]); (have hT5 := hid (hT4.out.keptNo k5)); (have HP5 := hid (fun (W : World) (k : Kept no w5 W) => HP4.out W (k5.trans' k))); (have hg5 := hid (k5.blk hg4.out)); (have c0b := hid (k5.cell c0a id)); (have d3b := hid (k5.cell d3a id)); (have x1 : Hd (w5.cell? ⟨w4.heap.size, 1, none⟩ = some (.slice ta tl ct)) := ⟨by rw [cell_of_row _ _ 1 _ _ _ g5]; rfl⟩); (have x2 : Hd (w5.cell? ⟨w4.heap.size, 2, none⟩ = some (.int .i64 xb)) := ⟨by rw [cell_of_row _ _ 2 _ _ _ g5]; rfl⟩); (replace g5 := hid g5); (generalize w4.heap.size = gx at hgl4 x1 x2 g5); (clear hw5 k5 c0a d0a d1a d2a d3a hT4 hg4 HP4); (have hwa : IntKind.i64.wrap ((m : Int) + (N : Int)) = (m : Int) + (N : Int) := IntWalk.i64_in _ (by omega)); (have hwb : IntKind.i64.wrap ((m : Int) + (N : Int) - (tl : Int)) = (m : Int) + (N : Int) - (tl : Int) := IntWalk.i64_in _ (by omega))
          by_cases hA : U ≤ xb
          · (have hAd : decide (U ≤ xb) = true := decide_eq_true hA); (have hst : Hd (stopS N U lim (nds p) = true) := ⟨by rw [hstop.out, hAd]; rfl⟩); (have hMs : Hd (min U xb = min U (selN (nds p)).bd) := ⟨by rw [hsx.out]⟩); (clear hstop); (have hIs : Hd (IsS N (grps ps) (WN : Int) U lim (nds p)) := ⟨t, hq.out, hst.out, hno.out⟩)
            have hR : Hd (SrchR (N : Int) (grps ps) (WN : Int) lim (WN : Int) (min U xb) 0 (nds p)) := ⟨by
              (unfold SrchR); (rw [if_neg (fun h => h ⟨⟨by omega, by omega⟩, ⟨by omega, by omega⟩, ⟨by omega, by omega⟩⟩), if_neg (by rw [hpN.out]; decide), hU.out, Int.toNat_natCast])
              exact ⟨rfl, rfl, hIs.out, by rw [← hMs.out]⟩⟩
            (have g5r : Hd (w5.heap[w.heap.size]? = some (.cells #[.int .i64 0, .int .i64 0, .slice none 0 0] 41 (0, 0))) := ⟨hT5.out.own.kept.blk g10.out⟩); (clear hIs hMs hst HP5 hQP hpop hg5 d3b g5); (go_upto_region 15 with fail); (refine region_flow (S := no) (Sl := (fun _ => no)) [Is (.pointer (some ⟨gx, 2, none⟩)), Is (.int .i64 xb), Is (.int .i64 U), Is (.bool true), Is (.bool true), Is undef, Is undef, Is undef, Is undef, Is undef, Is (.bool true), Is (.bool true), Is undef, Is undef, Is undef, Is undef, Is undef, Is undef, Is undef, Is undef, Is undef, Is undef, Is undef, Is undef, Is undef, Is (.bool true)] [] (fun _ _ h => h) _ (by kernel_rfl) (by kernel_rfl) (by kernel_rfl) (by kernel_rfl) (fun x => by simp only [puts, Act.put, List.map_cons, List.map_nil, Nat.zero_add, Nat.reduceAdd, List.setIfInBounds_toArray, List.set_cons_zero, List.set_cons_succ]; exact rfl) ?_ ?_)
            · (skip); (refine .cons (fun x wf Kk hq hdep hold => ?_) ?_)
              · (try dsimp only); (clear hq hdep hold); (rw [if_pos (by rfl)]); (refine OpY.val ?_ ⟨Kept.refl _ _, rfl⟩); (first | rfl | go_simp)
              refine .cons (fun x wf Kk hq hdep hold => ?_) ?_
              · (try dsimp only); (have h0 : x 0 = _ := hdep 0 (by kernel_rfl)); (clear hq hdep hold); (simp only [h0]); (clear h0); (have m1 := Kk.undrew.cell x2.out id); (rw [if_pos (by rfl)]); (refine OpY.val ?_ ⟨Kept.refl _ _, rfl⟩); (first | rfl | go_simp)
              refine .cons (fun x wf Kk hq hdep hold => ?_) ?_
              · (try dsimp only); (clear hq hdep hold); (rw [if_pos (by rfl)]); (refine OpY.val ?_ ⟨Kept.refl _ _, rfl⟩); (first | rfl | go_simp)
              refine .cons (fun x wf Kk hq hdep hold => ?_) ?_
              · (try dsimp only); (have h1 : x 1 = _ := hdep 1 (by kernel_rfl)); (have h2 : x 2 = _ := hdep 2 (by kernel_rfl)); (clear hq hdep hold); (simp only [h1, h2]); (clear h1 h2); (rw [if_pos (by rfl)]); (refine OpY.val ?_ ⟨Kept.refl _ _, rfl⟩); (first | rfl | go_simp)
              refine .cons (fun x wf Kk hq hdep hold => ?_) ?_
              · (try dsimp only); (have h3 : x 3 = _ := hdep 3 (by kernel_rfl)); (clear hq hdep hold); (simp only [h3]); (clear h3); (rw [if_pos (by rfl)]); (refine OpY.val ?_ ⟨Kept.refl _ _, rfl⟩); (first | rfl | go_simp)
              refine .cons (fun x wf Kk hq hdep hold => ?_) ?_
              · (try dsimp only); (have h4 : x 4 = _ := hdep 4 (by kernel_rfl)); (clear hq hdep hold); (simp only [h4]); (clear h4); (exact stepOff rfl rfl)
              refine .cons (fun x wf Kk hq hdep hold => ?_) ?_
              · (try dsimp only); (have h4 : x 4 = _ := hdep 4 (by kernel_rfl)); (clear hq hdep hold); (simp only [h4]); (clear h4); (exact stepOff rfl rfl)
              refine .cons (fun x wf Kk hq hdep hold => ?_) ?_
              · (try dsimp only); (have h4 : x 4 = _ := hdep 4 (by kernel_rfl)); (clear hq hdep hold); (simp only [h4]); (clear h4); (exact stepOff rfl rfl)
              refine .cons (fun x wf Kk hq hdep hold => ?_) ?_
              · (try dsimp only); (have h4 : x 4 = _ := hdep 4 (by kernel_rfl)); (clear hq hdep hold); (simp only [h4]); (clear h4); (exact stepOff rfl rfl)
              refine .cons (fun x wf Kk hq hdep hold => ?_) ?_
              · (try dsimp only); (have h4 : x 4 = _ := hdep 4 (by kernel_rfl)); (clear hq hdep hold); (simp only [h4]); (clear h4); (exact stepOff rfl rfl)
              refine .cons (fun x wf Kk hq hdep hold => ?_) ?_
              · (try dsimp only); (have h4 : x 4 = _ := hdep 4 (by kernel_rfl)); (have h9 : x 9 = _ := hdep 9 (by kernel_rfl)); (clear hq hdep hold); (simp only [h4, h9]); (clear h4 h9); (rw [if_pos (by rfl)]); (refine OpY.val ?_ ⟨Kept.refl _ _, rfl⟩); (first | rfl | go_simp)
              refine .cons (fun x wf Kk hq hdep hold => ?_) ?_
              · (try dsimp only); (have h10 : x 10 = _ := hdep 10 (by kernel_rfl)); (clear hq hdep hold); (simp only [h10]); (clear h10); (rw [if_pos (by rfl)]); (refine OpY.val ?_ ⟨Kept.refl _ _, rfl⟩); (first | rfl | go_simp)
              refine .cons (fun x wf Kk hq hdep hold => ?_) ?_
              · (try dsimp only); (have h11 : x 11 = _ := hdep 11 (by kernel_rfl)); (clear hq hdep hold); (simp only [h11]); (clear h11); (exact stepOff rfl rfl)
              refine .cons (fun x wf Kk hq hdep hold => ?_) ?_
              · (try dsimp only); (have h11 : x 11 = _ := hdep 11 (by kernel_rfl)); (clear hq hdep hold); (simp only [h11]); (clear h11); (exact stepOff rfl rfl)
              refine .cons (fun x wf Kk hq hdep hold => ?_) ?_
              · (try dsimp only); (have h11 : x 11 = _ := hdep 11 (by kernel_rfl)); (clear hq hdep hold); (simp only [h11]); (clear h11); (exact stepOff rfl rfl)
              refine .cons (fun x wf Kk hq hdep hold => ?_) ?_
              · (try dsimp only); (have h11 : x 11 = _ := hdep 11 (by kernel_rfl)); (clear hq hdep hold); (simp only [h11]); (clear h11); (exact stepOff rfl rfl)
              refine .cons (fun x wf Kk hq hdep hold => ?_) ?_
              · (try dsimp only); (have h11 : x 11 = _ := hdep 11 (by kernel_rfl)); (clear hq hdep hold); (simp only [h11]); (clear h11); (exact stepOff rfl rfl)
              refine .cons (fun x wf Kk hq hdep hold => ?_) ?_
              · (try dsimp only); (have h11 : x 11 = _ := hdep 11 (by kernel_rfl)); (clear hq hdep hold); (simp only [h11]); (clear h11); (exact stepOff rfl rfl)
              refine .cons (fun x wf Kk hq hdep hold => ?_) ?_
              · (try dsimp only); (have h11 : x 11 = _ := hdep 11 (by kernel_rfl)); (clear hq hdep hold); (simp only [h11]); (clear h11); (exact stepOff rfl rfl)
              refine .cons (fun x wf Kk hq hdep hold => ?_) ?_
              · (try dsimp only); (have h11 : x 11 = _ := hdep 11 (by kernel_rfl)); (clear hq hdep hold); (simp only [h11]); (clear h11); (exact stepOff rfl rfl)
              refine .cons (fun x wf Kk hq hdep hold => ?_) ?_
              · (try dsimp only); (have h11 : x 11 = _ := hdep 11 (by kernel_rfl)); (clear hq hdep hold); (simp only [h11]); (clear h11); (exact stepOff rfl rfl)
              refine .cons (fun x wf Kk hq hdep hold => ?_) ?_
              · (try dsimp only); (have h11 : x 11 = _ := hdep 11 (by kernel_rfl)); (clear hq hdep hold); (simp only [h11]); (clear h11); (exact stepOff rfl rfl)
              refine .cons (fun x wf Kk hq hdep hold => ?_) ?_
              · (try dsimp only); (have h11 : x 11 = _ := hdep 11 (by kernel_rfl)); (clear hq hdep hold); (simp only [h11]); (clear h11); (exact stepOff rfl rfl)
              refine .cons (fun x wf Kk hq hdep hold => ?_) ?_
              · (try dsimp only); (have h11 : x 11 = _ := hdep 11 (by kernel_rfl)); (clear hq hdep hold); (simp only [h11]); (clear h11); (exact stepOff rfl rfl)
              refine .cons (fun x wf Kk hq hdep hold => ?_) ?_
              · (try dsimp only); (have h11 : x 11 = _ := hdep 11 (by kernel_rfl)); (clear hq hdep hold); (simp only [h11]); (clear h11); (exact stepOff rfl rfl)
              refine .cons (fun x wf Kk hq hdep hold => ?_) ?_
              · (try dsimp only); (have h11 : x 11 = _ := hdep 11 (by kernel_rfl)); (have h24 : x 24 = _ := hdep 24 (by kernel_rfl)); (clear hq hdep hold); (simp only [h11, h24]); (clear h11 h24); (rw [if_pos (by rfl)]); (refine OpY.val ?_ ⟨Kept.refl _ _, rfl⟩); (first | rfl | go_simp)
              exact .nil _
            · (intro x wf Kk hv); (try dsimp only); (have h25 : x 25 = _ := hv 25 (by kernel_rfl)); (clear hv); (simp only [h25]); (clear h25); (obtain ⟨w6, hw6⟩ : ∃ w6, w6 = wf := ⟨_, rfl⟩); (subst hw6); (have k6 := hid Kk.undrew); (have g6r := hid (k6.out.blk g5r.out)); (have hRd6 := hid (hT5.out.own.keptNo k6.out)); (have hK6 := hid (k2.out.trans' hRd6.out.kept)); (clear Kk g5r); (go_upto_region 16 with fail); (refine region_flow (S := (fun k => k = w.heap.size)) (Sl := (fun _ => (fun k => k = w.heap.size))) [Is (.int .i64 (WN : Int)), Is (.int .i64 U), Is (.pointer (some ⟨gx, 2, none⟩)), Is (.int .i64 xb), Is (.int .i64 (min U xb)), Is (.pointer (some ⟨gt, 0, none⟩)), Is (.pointer (some ⟨gt, 0, none⟩)), Is (.pointer (some ⟨gt, 0, none⟩)), Is (.slice (some ⟨g, 0, none⟩) m cap), Is (.agg #[.int .i64 (WN : Int), .int .i64 (min U xb), .slice (some ⟨g, 0, none⟩) m cap]), PRes w6.drew w.heap.size (.int .i64 (WN : Int)) (.int .i64 (min U xb)) (.slice (some ⟨g, 0, none⟩) m cap), Is (.int .i64 0)] [10] (fun _ _ h => h) _ (by kernel_rfl) (by kernel_rfl) (by kernel_rfl) (by kernel_rfl) (fun x => by simp only [puts, Act.put, List.map_cons, List.map_nil, Nat.zero_add, Nat.reduceAdd, List.setIfInBounds_toArray, List.set_cons_zero, List.set_cons_succ]; exact rfl) ?_ ?_)
              · (skip); (refine .cons (fun x wf Kk hq hdep hold => ?_) ?_)
                · (try dsimp only); (clear hq hdep hold); (rw [if_pos (by rfl)]); (refine OpY.val ?_ ⟨Kept.refl _ _, rfl⟩); (first | rfl | go_simp)
                refine .cons (fun x wf Kk hq hdep hold => ?_) ?_
                · (try dsimp only); (clear hq hdep hold); (rw [if_pos (by rfl)]); (refine OpY.val ?_ ⟨Kept.refl _ _, rfl⟩); (first | rfl | go_simp)
                refine .cons (fun x wf Kk hq hdep hold => ?_) ?_
                · (try dsimp only); (clear hq hdep hold); (rw [if_pos (by rfl)]); (refine OpY.val ?_ ⟨Kept.refl _ _, rfl⟩); (first | rfl | go_simp)
                refine .cons (fun x wf Kk hq hdep hold => ?_) ?_
                · (try dsimp only); (have h2 : x 2 = _ := hdep 2 (by kernel_rfl)); (have Kq := hq no (fun j hj => by cases (show j ∈ ([] : List Nat) from by (have e : ∀ l : List Nat, l = [] → j ∈ l → j ∈ ([] : List Nat) := fun l h h2 => h ▸ h2); exact e _ (by kernel_rfl) hj))); (clear hq hdep hold); (simp only [h2]); (clear h2); (have m1 := Kq.undrew.cell (k6.out.cell x2.out id) id); (rw [if_pos (by rfl)]); (refine OpY.val ?_ ⟨Kept.refl _ _, rfl⟩); (first | rfl | go_simp)
                refine .cons (fun x wf Kk hq hdep hold => ?_) ?_
                · (try dsimp only); (have h1 : x 1 = _ := hdep 1 (by kernel_rfl)); (have h3 : x 3 = _ := hdep 3 (by kernel_rfl)); (clear hq hdep hold); (simp only [h1, h3]); (clear h1 h3); (rw [if_pos (by rfl)]); (refine OpY.val ?_ ⟨Kept.refl _ _, rfl⟩); (first | rfl | (go_simp; done) | (go_simp; split <;> omega))
                refine .cons (fun x wf Kk hq hdep hold => ?_) ?_
                · (try dsimp only); (clear hq hdep hold); (rw [if_pos (by rfl)]); (refine OpY.val ?_ ⟨Kept.refl _ _, rfl⟩); (first | rfl | go_simp)
                refine .cons (fun x wf Kk hq hdep hold => ?_) ?_
                · (try dsimp only); (have h5 : x 5 = _ := hdep 5 (by kernel_rfl)); (clear hq hdep hold); (simp only [h5]); (clear h5); (rw [if_pos (by rfl)]); (refine OpY.val ?_ ⟨Kept.refl _ _, rfl⟩); (first | rfl | go_simp)
                refine .cons (fun x wf Kk hq hdep hold => ?_) ?_
                · (try dsimp only); (have h6 : x 6 = _ := hdep 6 (by kernel_rfl)); (clear hq hdep hold); (simp only [h6]); (clear h6); (rw [if_pos (by rfl)]); (refine OpY.val ?_ ⟨Kept.refl _ _, rfl⟩); (first | rfl | go_simp)
                refine .cons (fun x wf Kk hq hdep hold => ?_) ?_
                · (try dsimp only); (have h7 : x 7 = _ := hdep 7 (by kernel_rfl)); (have Kq := hq no (fun j hj => by cases (show j ∈ ([] : List Nat) from by (have e : ∀ l : List Nat, l = [] → j ∈ l → j ∈ ([] : List Nat) := fun l h h2 => h ▸ h2); exact e _ (by kernel_rfl) hj))); (clear hq hdep hold); (simp only [h7]); (clear h7); (have m1 := Kq.undrew.cell (k6.out.cell c0b.out id) id); (rw [if_pos (by rfl)]); (refine OpY.val ?_ ⟨Kept.refl _ _, rfl⟩); (first | rfl | go_simp)
                refine .cons (fun x wf Kk hq hdep hold => ?_) ?_
                · (try dsimp only); (have h0 : x 0 = _ := hdep 0 (by kernel_rfl)); (have h4 : x 4 = _ := hdep 4 (by kernel_rfl)); (have h8 : x 8 = _ := hdep 8 (by kernel_rfl)); (clear hq hdep hold); (simp only [h0, h4, h8]); (clear h0 h4 h8); (rw [if_pos (by rfl)]); (refine OpY.val ?_ ⟨Kept.refl _ _, rfl⟩); (first | rfl | (go_simp; done) | (go_simp; split <;> omega))
                refine .cons (fun x wf Kk hq hdep hold => ?_) ?_
                · (try dsimp only); (have h9 : x 9 = _ := hdep 9 (by kernel_rfl)); (have Kq := hq no (fun j hj => by cases (show j ∈ ([] : List Nat) from by (have e : ∀ l : List Nat, l = [] → j ∈ l → j ∈ ([] : List Nat) := fun l h h2 => h ▸ h2); exact e _ (by kernel_rfl) hj))); (clear hq hdep hold); (simp only [h9]); (clear h9); (rw [if_pos (by rfl)]); (have gq := Kq.undrew.blk g6r.out); (obtain ⟨z0, z1, z2⟩ := slot2 gq); (have q0 := row_free gq 0); (have q1 := row_free gq 1); (have q2 := row_free gq 2); (refine OpY.skipZ (w' := ((wf.setCell ⟨w.heap.size, 0, none⟩ (.int .i64 (WN : Int))).setCell ⟨w.heap.size, 1, none⟩ (.int .i64 (min U xb))).setCell ⟨w.heap.size, 2, none⟩ (.slice (some ⟨g, 0, none⟩) m cap)) (by go_simp) ⟨(((Kept.refl (fun k => k = w.heap.size) wf).setCell (a := ⟨w.heap.size, 0, none⟩) (.inl rfl) _).setCell (a := ⟨w.heap.size, 1, none⟩) (.inl rfl) _).setCell (a := ⟨w.heap.size, 2, none⟩) (.inl rfl) _, wf, Kq, Kept.refl _ _⟩)
                refine .cons (fun x wf Kk hq hdep hold => ?_) ?_
                · (try dsimp only); (clear hq hdep hold); (rw [if_pos (by rfl)]); (refine OpY.val ?_ ⟨Kept.refl _ _, rfl⟩); (first | rfl | go_simp)
                exact .nil _
              · (intro x wf Kk hv); (try dsimp only); (have p10 : Pr.p (Sl := (fun _ => (fun k => k = w.heap.size))) (PRes w6.drew w.heap.size (.int .i64 (WN : Int)) (.int .i64 (min U xb)) (.slice (some ⟨g, 0, none⟩) m cap)) (x 10) wf := hv 10 (by kernel_rfl)); (have h11 : x 11 = _ := hv 11 (by kernel_rfl)); (clear hv); (simp only [h11]); (clear h11); (obtain ⟨wa, ka, kb⟩ := p10); (have gar := ka.undrew.blk g6r.out); (have g10' := setCell_row (setCell_row (setCell_row gar 0 (.int .i64 (WN : Int))) 1 (.int .i64 (min U xb))) 2 (.slice (some ⟨g, 0, none⟩) m cap)); (have g11 : Hd (wf.heap[w.heap.size]? = some (.cells [Value.int .i64 (WN : Int), .int .i64 (min U xb), .slice (some ⟨g, 0, none⟩) m cap].toArray 41 (0, 0))) := ⟨kb.blk (by rw [g10']; simp)⟩); (have k7 : Hd (Kept no w wf) := ⟨((((hK6.out.trans' ka.undrew).setCell (a := ⟨w.heap.size, 0, none⟩) (.inr (Nat.le_refl _)) (.int .i64 (WN : Int))).setCell (a := ⟨w.heap.size, 1, none⟩) (.inr (Nat.le_refl _)) (.int .i64 (min U xb))).setCell (a := ⟨w.heap.size, 2, none⟩) (.inr (Nat.le_refl _)) (.slice (some ⟨g, 0, none⟩) m cap)).trans' kb⟩)
                have hRd : Hd (RdN wf (.slice (some ⟨g, 0, none⟩) m cap) p) := ⟨by
                  (have h := (hRd6.out.keptNo ka.undrew).rdC ((((Kept.refl _ wa).setCell (a := ⟨w.heap.size, 0, none⟩) (.inl ⟨_, _, gar⟩) (.int .i64 (WN : Int))).setCell (a := ⟨w.heap.size, 1, none⟩) (.inl ⟨_, _, gar⟩) (.int .i64 (min U xb))).setCell (a := ⟨w.heap.size, 2, none⟩) (.inl ⟨_, _, gar⟩) (.slice (some ⟨g, 0, none⟩) m cap))); (have h2 := h.kept kb)
                  rw [hm.out] at h2; exact h2⟩
                (clear Kk ka kb gar g10' hT5 hK6 hRd6 g6r k6 c0b x1 x2); (go_wp2)
                (try simp only [Exit.inBlock, Exit.then])
                refine bodyPost_ret (v := .tuple #[.agg #[.int .i64 (WN : Int), .int .i64 (min U xb), .slice (some ⟨g, 0, none⟩) m cap], .int .i64 0]) ?_ rfl ?_
                · exact results_cert rfl _ _ w.heap.size [.int .i64 (WN : Int), .int .i64 (min U xb), .slice (some ⟨g, 0, none⟩) m cap] rfl _ rfl rfl g11.out
                · first | exact ⟨(WN : Int), (min U xb), 0, .slice (some ⟨g, 0, none⟩) m cap, rfl, p, hR.out, hRd.out, k7.out⟩ | exact ⟨(WN : Int), (min U xb), 0, .slice (some ⟨g, 0, none⟩) m cap, p, rfl, hR.out, hRd.out, k7.out⟩
          have hAd : decide (U ≤ xb) = false := decide_eq_false hA
          by_cases hT3 : tl = N
          · (have hTi : (tl : Int) = (N : Int) := by omega); (have hst : Hd (stopS N U lim (nds p) = true) := ⟨by rw [hstop.out, decide_eq_true hT3]; simp⟩); (have hMs : Hd (min U xb = min U (selN (nds p)).bd) := ⟨by rw [hsx.out]⟩); (clear hstop); (have hIs : Hd (IsS N (grps ps) (WN : Int) U lim (nds p)) := ⟨t, hq.out, hst.out, hno.out⟩)
            have hR : Hd (SrchR (N : Int) (grps ps) (WN : Int) lim (WN : Int) (min U xb) 0 (nds p)) := ⟨by
              (unfold SrchR); (rw [if_neg (fun h => h ⟨⟨by omega, by omega⟩, ⟨by omega, by omega⟩, ⟨by omega, by omega⟩⟩), if_neg (by rw [hpN.out]; decide), hU.out, Int.toNat_natCast])
              exact ⟨rfl, rfl, hIs.out, by rw [← hMs.out]⟩⟩
            (have g5r : Hd (w5.heap[w.heap.size]? = some (.cells #[.int .i64 0, .int .i64 0, .slice none 0 0] 41 (0, 0))) := ⟨hT5.out.own.kept.blk g10.out⟩); (clear hIs hMs hst HP5 hQP hpop hg5 d3b g5); (go_upto_region 15 with fail); (refine region_flow (S := no) (Sl := (fun _ => no)) [Is (.pointer (some ⟨gx, 2, none⟩)), Is (.int .i64 xb), Is (.int .i64 U), Is (.bool false), Is (.bool false), Is (.pointer (some ⟨gx, 1, none⟩)), Is (.slice ta tl ct), Is (.int .i64 (tl : Int)), Is (.int .i64 (N : Int)), Is (.bool true), Is (.bool true), Is (.bool true), Is undef, Is undef, Is undef, Is undef, Is undef, Is undef, Is undef, Is undef, Is undef, Is undef, Is undef, Is undef, Is undef, Is (.bool true)] [] (fun _ _ h => h) _ (by kernel_rfl) (by kernel_rfl) (by kernel_rfl) (by kernel_rfl) (fun x => by simp only [puts, Act.put, List.map_cons, List.map_nil, Nat.zero_add, Nat.reduceAdd, List.setIfInBounds_toArray, List.set_cons_zero, List.set_cons_succ]; exact rfl) ?_ ?_)
            · (skip); (refine .cons (fun x wf Kk hq hdep hold => ?_) ?_)
              · (try dsimp only); (clear hq hdep hold); (rw [if_pos (by rfl)]); (refine OpY.val ?_ ⟨Kept.refl _ _, rfl⟩); (first | rfl | go_simp)
              refine .cons (fun x wf Kk hq hdep hold => ?_) ?_
              · (try dsimp only); (have h0 : x 0 = _ := hdep 0 (by kernel_rfl)); (clear hq hdep hold); (simp only [h0]); (clear h0); (have m1 := Kk.undrew.cell x2.out id); (rw [if_pos (by rfl)]); (refine OpY.val ?_ ⟨Kept.refl _ _, rfl⟩); (first | rfl | go_simp)
              refine .cons (fun x wf Kk hq hdep hold => ?_) ?_
              · (try dsimp only); (clear hq hdep hold); (rw [if_pos (by rfl)]); (refine OpY.val ?_ ⟨Kept.refl _ _, rfl⟩); (first | rfl | go_simp)
              refine .cons (fun x wf Kk hq hdep hold => ?_) ?_
              · (try dsimp only); (have h1 : x 1 = _ := hdep 1 (by kernel_rfl)); (have h2 : x 2 = _ := hdep 2 (by kernel_rfl)); (clear hq hdep hold); (simp only [h1, h2]); (clear h1 h2); (rw [if_pos (by rfl)]); (refine OpY.val ?_ ⟨Kept.refl _ _, rfl⟩); (first | rfl | go_simp)
              refine .cons (fun x wf Kk hq hdep hold => ?_) ?_
              · (try dsimp only); (have h3 : x 3 = _ := hdep 3 (by kernel_rfl)); (clear hq hdep hold); (simp only [h3]); (clear h3); (rw [if_pos (by rfl)]); (refine OpY.val ?_ ⟨Kept.refl _ _, rfl⟩); (first | rfl | go_simp)
              refine .cons (fun x wf Kk hq hdep hold => ?_) ?_
              · (try dsimp only); (have h4 : x 4 = _ := hdep 4 (by kernel_rfl)); (clear hq hdep hold); (simp only [h4]); (clear h4); (rw [if_pos (by rfl)]); (refine OpY.val ?_ ⟨Kept.refl _ _, rfl⟩); (first | rfl | go_simp)
              refine .cons (fun x wf Kk hq hdep hold => ?_) ?_
              · (try dsimp only); (have h5 : x 5 = _ := hdep 5 (by kernel_rfl)); (have h4 : x 4 = _ := hdep 4 (by kernel_rfl)); (clear hq hdep hold); (simp only [h5, h4]); (clear h5 h4); (have m1 := Kk.undrew.cell x1.out id); (rw [if_pos (by rfl)]); (refine OpY.val ?_ ⟨Kept.refl _ _, rfl⟩); (first | rfl | go_simp)
              refine .cons (fun x wf Kk hq hdep hold => ?_) ?_
              · (try dsimp only); (have h6 : x 6 = _ := hdep 6 (by kernel_rfl)); (have h4 : x 4 = _ := hdep 4 (by kernel_rfl)); (clear hq hdep hold); (simp only [h6, h4]); (clear h6 h4); (rw [if_pos (by rfl)]); (refine OpY.val ?_ ⟨Kept.refl _ _, rfl⟩); (first | rfl | go_simp)
              refine .cons (fun x wf Kk hq hdep hold => ?_) ?_
              · (try dsimp only); (have h4 : x 4 = _ := hdep 4 (by kernel_rfl)); (clear hq hdep hold); (simp only [h4]); (clear h4); (rw [if_pos (by rfl)]); (refine OpY.val ?_ ⟨Kept.refl _ _, rfl⟩); (first | rfl | go_simp)
              refine .cons (fun x wf Kk hq hdep hold => ?_) ?_
              · (try dsimp only); (have h7 : x 7 = _ := hdep 7 (by kernel_rfl)); (have h8 : x 8 = _ := hdep 8 (by kernel_rfl)); (have h4 : x 4 = _ := hdep 4 (by kernel_rfl)); (clear hq hdep hold); (simp only [h7, h8, h4]); (clear h7 h8 h4); (rw [if_pos (by rfl)]); (refine OpY.val ?_ ⟨Kept.refl _ _, rfl⟩); (first | rfl | go_simp)
              refine .cons (fun x wf Kk hq hdep hold => ?_) ?_
              · (try dsimp only); (have h4 : x 4 = _ := hdep 4 (by kernel_rfl)); (have h9 : x 9 = _ := hdep 9 (by kernel_rfl)); (clear hq hdep hold); (simp only [h4, h9]); (clear h4 h9); (rw [if_pos (by rfl)]); (refine OpY.val ?_ ⟨Kept.refl _ _, rfl⟩); (first | rfl | go_simp)
              refine .cons (fun x wf Kk hq hdep hold => ?_) ?_
              · (try dsimp only); (have h10 : x 10 = _ := hdep 10 (by kernel_rfl)); (clear hq hdep hold); (simp only [h10]); (clear h10); (rw [if_pos (by rfl)]); (refine OpY.val ?_ ⟨Kept.refl _ _, rfl⟩); (first | rfl | go_simp)
              refine .cons (fun x wf Kk hq hdep hold => ?_) ?_
              · (try dsimp only); (have h11 : x 11 = _ := hdep 11 (by kernel_rfl)); (clear hq hdep hold); (simp only [h11]); (clear h11); (exact stepOff rfl rfl)
              refine .cons (fun x wf Kk hq hdep hold => ?_) ?_
              · (try dsimp only); (have h11 : x 11 = _ := hdep 11 (by kernel_rfl)); (clear hq hdep hold); (simp only [h11]); (clear h11); (exact stepOff rfl rfl)
              refine .cons (fun x wf Kk hq hdep hold => ?_) ?_
              · (try dsimp only); (have h11 : x 11 = _ := hdep 11 (by kernel_rfl)); (clear hq hdep hold); (simp only [h11]); (clear h11); (exact stepOff rfl rfl)
              refine .cons (fun x wf Kk hq hdep hold => ?_) ?_
              · (try dsimp only); (have h11 : x 11 = _ := hdep 11 (by kernel_rfl)); (clear hq hdep hold); (simp only [h11]); (clear h11); (exact stepOff rfl rfl)
              refine .cons (fun x wf Kk hq hdep hold => ?_) ?_
              · (try dsimp only); (have h11 : x 11 = _ := hdep 11 (by kernel_rfl)); (clear hq hdep hold); (simp only [h11]); (clear h11); (exact stepOff rfl rfl)
              refine .cons (fun x wf Kk hq hdep hold => ?_) ?_
              · (try dsimp only); (have h11 : x 11 = _ := hdep 11 (by kernel_rfl)); (clear hq hdep hold); (simp only [h11]); (clear h11); (exact stepOff rfl rfl)
              refine .cons (fun x wf Kk hq hdep hold => ?_) ?_
              · (try dsimp only); (have h11 : x 11 = _ := hdep 11 (by kernel_rfl)); (clear hq hdep hold); (simp only [h11]); (clear h11); (exact stepOff rfl rfl)
              refine .cons (fun x wf Kk hq hdep hold => ?_) ?_
              · (try dsimp only); (have h11 : x 11 = _ := hdep 11 (by kernel_rfl)); (clear hq hdep hold); (simp only [h11]); (clear h11); (exact stepOff rfl rfl)
              refine .cons (fun x wf Kk hq hdep hold => ?_) ?_
              · (try dsimp only); (have h11 : x 11 = _ := hdep 11 (by kernel_rfl)); (clear hq hdep hold); (simp only [h11]); (clear h11); (exact stepOff rfl rfl)
              refine .cons (fun x wf Kk hq hdep hold => ?_) ?_
              · (try dsimp only); (have h11 : x 11 = _ := hdep 11 (by kernel_rfl)); (clear hq hdep hold); (simp only [h11]); (clear h11); (exact stepOff rfl rfl)
              refine .cons (fun x wf Kk hq hdep hold => ?_) ?_
              · (try dsimp only); (have h11 : x 11 = _ := hdep 11 (by kernel_rfl)); (clear hq hdep hold); (simp only [h11]); (clear h11); (exact stepOff rfl rfl)
              refine .cons (fun x wf Kk hq hdep hold => ?_) ?_
              · (try dsimp only); (have h11 : x 11 = _ := hdep 11 (by kernel_rfl)); (clear hq hdep hold); (simp only [h11]); (clear h11); (exact stepOff rfl rfl)
              refine .cons (fun x wf Kk hq hdep hold => ?_) ?_
              · (try dsimp only); (have h11 : x 11 = _ := hdep 11 (by kernel_rfl)); (clear hq hdep hold); (simp only [h11]); (clear h11); (exact stepOff rfl rfl)
              refine .cons (fun x wf Kk hq hdep hold => ?_) ?_
              · (try dsimp only); (have h11 : x 11 = _ := hdep 11 (by kernel_rfl)); (have h24 : x 24 = _ := hdep 24 (by kernel_rfl)); (clear hq hdep hold); (simp only [h11, h24]); (clear h11 h24); (rw [if_pos (by rfl)]); (refine OpY.val ?_ ⟨Kept.refl _ _, rfl⟩); (first | rfl | go_simp)
              exact .nil _
            · (intro x wf Kk hv); (try dsimp only); (have h25 : x 25 = _ := hv 25 (by kernel_rfl)); (clear hv); (simp only [h25]); (clear h25); (obtain ⟨w6, hw6⟩ : ∃ w6, w6 = wf := ⟨_, rfl⟩); (subst hw6); (have k6 := hid Kk.undrew); (have g6r := hid (k6.out.blk g5r.out)); (have hRd6 := hid (hT5.out.own.keptNo k6.out)); (have hK6 := hid (k2.out.trans' hRd6.out.kept)); (clear Kk g5r); (go_upto_region 16 with fail); (refine region_flow (S := (fun k => k = w.heap.size)) (Sl := (fun _ => (fun k => k = w.heap.size))) [Is (.int .i64 (WN : Int)), Is (.int .i64 U), Is (.pointer (some ⟨gx, 2, none⟩)), Is (.int .i64 xb), Is (.int .i64 (min U xb)), Is (.pointer (some ⟨gt, 0, none⟩)), Is (.pointer (some ⟨gt, 0, none⟩)), Is (.pointer (some ⟨gt, 0, none⟩)), Is (.slice (some ⟨g, 0, none⟩) m cap), Is (.agg #[.int .i64 (WN : Int), .int .i64 (min U xb), .slice (some ⟨g, 0, none⟩) m cap]), PRes w6.drew w.heap.size (.int .i64 (WN : Int)) (.int .i64 (min U xb)) (.slice (some ⟨g, 0, none⟩) m cap), Is (.int .i64 0)] [10] (fun _ _ h => h) _ (by kernel_rfl) (by kernel_rfl) (by kernel_rfl) (by kernel_rfl) (fun x => by simp only [puts, Act.put, List.map_cons, List.map_nil, Nat.zero_add, Nat.reduceAdd, List.setIfInBounds_toArray, List.set_cons_zero, List.set_cons_succ]; exact rfl) ?_ ?_)
              · (skip); (refine .cons (fun x wf Kk hq hdep hold => ?_) ?_)
                · (try dsimp only); (clear hq hdep hold); (rw [if_pos (by rfl)]); (refine OpY.val ?_ ⟨Kept.refl _ _, rfl⟩); (first | rfl | go_simp)
                refine .cons (fun x wf Kk hq hdep hold => ?_) ?_
                · (try dsimp only); (clear hq hdep hold); (rw [if_pos (by rfl)]); (refine OpY.val ?_ ⟨Kept.refl _ _, rfl⟩); (first | rfl | go_simp)
                refine .cons (fun x wf Kk hq hdep hold => ?_) ?_
                · (try dsimp only); (clear hq hdep hold); (rw [if_pos (by rfl)]); (refine OpY.val ?_ ⟨Kept.refl _ _, rfl⟩); (first | rfl | go_simp)
                refine .cons (fun x wf Kk hq hdep hold => ?_) ?_
                · (try dsimp only); (have h2 : x 2 = _ := hdep 2 (by kernel_rfl)); (have Kq := hq no (fun j hj => by cases (show j ∈ ([] : List Nat) from by (have e : ∀ l : List Nat, l = [] → j ∈ l → j ∈ ([] : List Nat) := fun l h h2 => h ▸ h2); exact e _ (by kernel_rfl) hj))); (clear hq hdep hold); (simp only [h2]); (clear h2); (have m1 := Kq.undrew.cell (k6.out.cell x2.out id) id); (rw [if_pos (by rfl)]); (refine OpY.val ?_ ⟨Kept.refl _ _, rfl⟩); (first | rfl | go_simp)
                refine .cons (fun x wf Kk hq hdep hold => ?_) ?_
                · (try dsimp only); (have h1 : x 1 = _ := hdep 1 (by kernel_rfl)); (have h3 : x 3 = _ := hdep 3 (by kernel_rfl)); (clear hq hdep hold); (simp only [h1, h3]); (clear h1 h3); (rw [if_pos (by rfl)]); (refine OpY.val ?_ ⟨Kept.refl _ _, rfl⟩); (first | rfl | (go_simp; done) | (go_simp; split <;> omega))
                refine .cons (fun x wf Kk hq hdep hold => ?_) ?_
                · (try dsimp only); (clear hq hdep hold); (rw [if_pos (by rfl)]); (refine OpY.val ?_ ⟨Kept.refl _ _, rfl⟩); (first | rfl | go_simp)
                refine .cons (fun x wf Kk hq hdep hold => ?_) ?_
                · (try dsimp only); (have h5 : x 5 = _ := hdep 5 (by kernel_rfl)); (clear hq hdep hold); (simp only [h5]); (clear h5); (rw [if_pos (by rfl)]); (refine OpY.val ?_ ⟨Kept.refl _ _, rfl⟩); (first | rfl | go_simp)
                refine .cons (fun x wf Kk hq hdep hold => ?_) ?_
                · (try dsimp only); (have h6 : x 6 = _ := hdep 6 (by kernel_rfl)); (clear hq hdep hold); (simp only [h6]); (clear h6); (rw [if_pos (by rfl)]); (refine OpY.val ?_ ⟨Kept.refl _ _, rfl⟩); (first | rfl | go_simp)
                refine .cons (fun x wf Kk hq hdep hold => ?_) ?_
                · (try dsimp only); (have h7 : x 7 = _ := hdep 7 (by kernel_rfl)); (have Kq := hq no (fun j hj => by cases (show j ∈ ([] : List Nat) from by (have e : ∀ l : List Nat, l = [] → j ∈ l → j ∈ ([] : List Nat) := fun l h h2 => h ▸ h2); exact e _ (by kernel_rfl) hj))); (clear hq hdep hold); (simp only [h7]); (clear h7); (have m1 := Kq.undrew.cell (k6.out.cell c0b.out id) id); (rw [if_pos (by rfl)]); (refine OpY.val ?_ ⟨Kept.refl _ _, rfl⟩); (first | rfl | go_simp)
                refine .cons (fun x wf Kk hq hdep hold => ?_) ?_
                · (try dsimp only); (have h0 : x 0 = _ := hdep 0 (by kernel_rfl)); (have h4 : x 4 = _ := hdep 4 (by kernel_rfl)); (have h8 : x 8 = _ := hdep 8 (by kernel_rfl)); (clear hq hdep hold); (simp only [h0, h4, h8]); (clear h0 h4 h8); (rw [if_pos (by rfl)]); (refine OpY.val ?_ ⟨Kept.refl _ _, rfl⟩); (first | rfl | (go_simp; done) | (go_simp; split <;> omega))
                refine .cons (fun x wf Kk hq hdep hold => ?_) ?_
                · (try dsimp only); (have h9 : x 9 = _ := hdep 9 (by kernel_rfl)); (have Kq := hq no (fun j hj => by cases (show j ∈ ([] : List Nat) from by (have e : ∀ l : List Nat, l = [] → j ∈ l → j ∈ ([] : List Nat) := fun l h h2 => h ▸ h2); exact e _ (by kernel_rfl) hj))); (clear hq hdep hold); (simp only [h9]); (clear h9); (rw [if_pos (by rfl)]); (have gq := Kq.undrew.blk g6r.out); (obtain ⟨z0, z1, z2⟩ := slot2 gq); (have q0 := row_free gq 0); (have q1 := row_free gq 1); (have q2 := row_free gq 2); (refine OpY.skipZ (w' := ((wf.setCell ⟨w.heap.size, 0, none⟩ (.int .i64 (WN : Int))).setCell ⟨w.heap.size, 1, none⟩ (.int .i64 (min U xb))).setCell ⟨w.heap.size, 2, none⟩ (.slice (some ⟨g, 0, none⟩) m cap)) (by go_simp) ⟨(((Kept.refl (fun k => k = w.heap.size) wf).setCell (a := ⟨w.heap.size, 0, none⟩) (.inl rfl) _).setCell (a := ⟨w.heap.size, 1, none⟩) (.inl rfl) _).setCell (a := ⟨w.heap.size, 2, none⟩) (.inl rfl) _, wf, Kq, Kept.refl _ _⟩)
                refine .cons (fun x wf Kk hq hdep hold => ?_) ?_
                · (try dsimp only); (clear hq hdep hold); (rw [if_pos (by rfl)]); (refine OpY.val ?_ ⟨Kept.refl _ _, rfl⟩); (first | rfl | go_simp)
                exact .nil _
              · (intro x wf Kk hv); (try dsimp only); (have p10 : Pr.p (Sl := (fun _ => (fun k => k = w.heap.size))) (PRes w6.drew w.heap.size (.int .i64 (WN : Int)) (.int .i64 (min U xb)) (.slice (some ⟨g, 0, none⟩) m cap)) (x 10) wf := hv 10 (by kernel_rfl)); (have h11 : x 11 = _ := hv 11 (by kernel_rfl)); (clear hv); (simp only [h11]); (clear h11); (obtain ⟨wa, ka, kb⟩ := p10); (have gar := ka.undrew.blk g6r.out); (have g10' := setCell_row (setCell_row (setCell_row gar 0 (.int .i64 (WN : Int))) 1 (.int .i64 (min U xb))) 2 (.slice (some ⟨g, 0, none⟩) m cap)); (have g11 : Hd (wf.heap[w.heap.size]? = some (.cells [Value.int .i64 (WN : Int), .int .i64 (min U xb), .slice (some ⟨g, 0, none⟩) m cap].toArray 41 (0, 0))) := ⟨kb.blk (by rw [g10']; simp)⟩); (have k7 : Hd (Kept no w wf) := ⟨((((hK6.out.trans' ka.undrew).setCell (a := ⟨w.heap.size, 0, none⟩) (.inr (Nat.le_refl _)) (.int .i64 (WN : Int))).setCell (a := ⟨w.heap.size, 1, none⟩) (.inr (Nat.le_refl _)) (.int .i64 (min U xb))).setCell (a := ⟨w.heap.size, 2, none⟩) (.inr (Nat.le_refl _)) (.slice (some ⟨g, 0, none⟩) m cap)).trans' kb⟩)
                have hRd : Hd (RdN wf (.slice (some ⟨g, 0, none⟩) m cap) p) := ⟨by
                  (have h := (hRd6.out.keptNo ka.undrew).rdC ((((Kept.refl _ wa).setCell (a := ⟨w.heap.size, 0, none⟩) (.inl ⟨_, _, gar⟩) (.int .i64 (WN : Int))).setCell (a := ⟨w.heap.size, 1, none⟩) (.inl ⟨_, _, gar⟩) (.int .i64 (min U xb))).setCell (a := ⟨w.heap.size, 2, none⟩) (.inl ⟨_, _, gar⟩) (.slice (some ⟨g, 0, none⟩) m cap))); (have h2 := h.kept kb)
                  rw [hm.out] at h2; exact h2⟩
                (clear Kk ka kb gar g10' hT5 hK6 hRd6 g6r k6 c0b x1 x2); (go_wp2)
                (try simp only [Exit.inBlock, Exit.then])
                refine bodyPost_ret (v := .tuple #[.agg #[.int .i64 (WN : Int), .int .i64 (min U xb), .slice (some ⟨g, 0, none⟩) m cap], .int .i64 0]) ?_ rfl ?_
                · exact results_cert rfl _ _ w.heap.size [.int .i64 (WN : Int), .int .i64 (min U xb), .slice (some ⟨g, 0, none⟩) m cap] rfl _ rfl rfl g11.out
                · first | exact ⟨(WN : Int), (min U xb), 0, .slice (some ⟨g, 0, none⟩) m cap, rfl, p, hR.out, hRd.out, k7.out⟩ | exact ⟨(WN : Int), (min U xb), 0, .slice (some ⟨g, 0, none⟩) m cap, p, rfl, hR.out, hRd.out, k7.out⟩
          have hTi : ¬ (tl : Int) = (N : Int) := by omega
          by_cases hL : lim < (m : Int) + (N : Int) - (tl : Int)
          · (have hLd : decide (lim < (m : Int) + (N : Int) - (tl : Int)) = true := decide_eq_true hL); (have hst : Hd (stopS N U lim (nds p) = true) := ⟨by rw [hstop.out, hLd]; simp⟩); (have hMs : Hd (min U xb = min U (selN (nds p)).bd) := ⟨by rw [hsx.out]⟩); (clear hstop); (have hIs : Hd (IsS N (grps ps) (WN : Int) U lim (nds p)) := ⟨t, hq.out, hst.out, hno.out⟩)
            have hR : Hd (SrchR (N : Int) (grps ps) (WN : Int) lim (WN : Int) (min U xb) 0 (nds p)) := ⟨by
              (unfold SrchR); (rw [if_neg (fun h => h ⟨⟨by omega, by omega⟩, ⟨by omega, by omega⟩, ⟨by omega, by omega⟩⟩), if_neg (by rw [hpN.out]; decide), hU.out, Int.toNat_natCast])
              exact ⟨rfl, rfl, hIs.out, by rw [← hMs.out]⟩⟩
            (have g5r : Hd (w5.heap[w.heap.size]? = some (.cells #[.int .i64 0, .int .i64 0, .slice none 0 0] 41 (0, 0))) := ⟨hT5.out.own.kept.blk g10.out⟩); (clear hIs hMs hst HP5 hQP hpop hg5 d3b g5); (go_upto_region 15 with fail); (refine region_flow (S := no) (Sl := (fun _ => no)) [Is (.pointer (some ⟨gx, 2, none⟩)), Is (.int .i64 xb), Is (.int .i64 U), Is (.bool false), Is (.bool false), Is (.pointer (some ⟨gx, 1, none⟩)), Is (.slice ta tl ct), Is (.int .i64 (tl : Int)), Is (.int .i64 (N : Int)), Is (.bool false), Is (.bool false), Is (.bool false), Is (.pointer (some ⟨gt, 0, none⟩)), Is (.pointer (some ⟨gt, 0, none⟩)), Is (.pointer (some ⟨gt, 0, none⟩)), Is (.slice (some ⟨g, 0, none⟩) m cap), Is (.int .i64 (m : Int)), Is (.int .i64 (N : Int)), Is (.int .i64 ((m : Int) + (N : Int))), Is (.pointer (some ⟨gx, 1, none⟩)), Is (.slice ta tl ct), Is (.int .i64 (tl : Int)), Is (.int .i64 ((m : Int) + (N : Int) - (tl : Int))), Is (.int .i64 lim), Is (.bool true), Is (.bool true)] [] (fun _ _ h => h) _ (by kernel_rfl) (by kernel_rfl) (by kernel_rfl) (by kernel_rfl) (fun x => by simp only [puts, Act.put, List.map_cons, List.map_nil, Nat.zero_add, Nat.reduceAdd, List.setIfInBounds_toArray, List.set_cons_zero, List.set_cons_succ]; exact rfl) ?_ ?_)
            · (skip); (refine .cons (fun x wf Kk hq hdep hold => ?_) ?_)
              · (try dsimp only); (clear hq hdep hold); (rw [if_pos (by rfl)]); (refine OpY.val ?_ ⟨Kept.refl _ _, rfl⟩); (first | rfl | go_simp)
              refine .cons (fun x wf Kk hq hdep hold => ?_) ?_
              · (try dsimp only); (have h0 : x 0 = _ := hdep 0 (by kernel_rfl)); (clear hq hdep hold); (simp only [h0]); (clear h0); (have m1 := Kk.undrew.cell x2.out id); (rw [if_pos (by rfl)]); (refine OpY.val ?_ ⟨Kept.refl _ _, rfl⟩); (first | rfl | go_simp)
              refine .cons (fun x wf Kk hq hdep hold => ?_) ?_
              · (try dsimp only); (clear hq hdep hold); (rw [if_pos (by rfl)]); (refine OpY.val ?_ ⟨Kept.refl _ _, rfl⟩); (first | rfl | go_simp)
              refine .cons (fun x wf Kk hq hdep hold => ?_) ?_
              · (try dsimp only); (have h1 : x 1 = _ := hdep 1 (by kernel_rfl)); (have h2 : x 2 = _ := hdep 2 (by kernel_rfl)); (clear hq hdep hold); (simp only [h1, h2]); (clear h1 h2); (rw [if_pos (by rfl)]); (refine OpY.val ?_ ⟨Kept.refl _ _, rfl⟩); (first | rfl | go_simp)
              refine .cons (fun x wf Kk hq hdep hold => ?_) ?_
              · (try dsimp only); (have h3 : x 3 = _ := hdep 3 (by kernel_rfl)); (clear hq hdep hold); (simp only [h3]); (clear h3); (rw [if_pos (by rfl)]); (refine OpY.val ?_ ⟨Kept.refl _ _, rfl⟩); (first | rfl | go_simp)
              refine .cons (fun x wf Kk hq hdep hold => ?_) ?_
              · (try dsimp only); (have h4 : x 4 = _ := hdep 4 (by kernel_rfl)); (clear hq hdep hold); (simp only [h4]); (clear h4); (rw [if_pos (by rfl)]); (refine OpY.val ?_ ⟨Kept.refl _ _, rfl⟩); (first | rfl | go_simp)
              refine .cons (fun x wf Kk hq hdep hold => ?_) ?_
              · (try dsimp only); (have h5 : x 5 = _ := hdep 5 (by kernel_rfl)); (have h4 : x 4 = _ := hdep 4 (by kernel_rfl)); (clear hq hdep hold); (simp only [h5, h4]); (clear h5 h4); (have m1 := Kk.undrew.cell x1.out id); (rw [if_pos (by rfl)]); (refine OpY.val ?_ ⟨Kept.refl _ _, rfl⟩); (first | rfl | go_simp)
              refine .cons (fun x wf Kk hq hdep hold => ?_) ?_
              · (try dsimp only); (have h6 : x 6 = _ := hdep 6 (by kernel_rfl)); (have h4 : x 4 = _ := hdep 4 (by kernel_rfl)); (clear hq hdep hold); (simp only [h6, h4]); (clear h6 h4); (rw [if_pos (by rfl)]); (refine OpY.val ?_ ⟨Kept.refl _ _, rfl⟩); (first | rfl | go_simp)
              refine .cons (fun x wf Kk hq hdep hold => ?_) ?_
              · (try dsimp only); (have h4 : x 4 = _ := hdep 4 (by kernel_rfl)); (clear hq hdep hold); (simp only [h4]); (clear h4); (rw [if_pos (by rfl)]); (refine OpY.val ?_ ⟨Kept.refl _ _, rfl⟩); (first | rfl | go_simp)
              refine .cons (fun x wf Kk hq hdep hold => ?_) ?_
              · (try dsimp only); (have h7 : x 7 = _ := hdep 7 (by kernel_rfl)); (have h8 : x 8 = _ := hdep 8 (by kernel_rfl)); (have h4 : x 4 = _ := hdep 4 (by kernel_rfl)); (clear hq hdep hold); (simp only [h7, h8, h4]); (clear h7 h8 h4); (rw [if_pos (by rfl)]); (refine OpY.val ?_ ⟨Kept.refl _ _, rfl⟩); (first | rfl | go_simp)
              refine .cons (fun x wf Kk hq hdep hold => ?_) ?_
              · (try dsimp only); (have h4 : x 4 = _ := hdep 4 (by kernel_rfl)); (have h9 : x 9 = _ := hdep 9 (by kernel_rfl)); (clear hq hdep hold); (simp only [h4, h9]); (clear h4 h9); (rw [if_pos (by rfl)]); (refine OpY.val ?_ ⟨Kept.refl _ _, rfl⟩); (first | rfl | go_simp)
              refine .cons (fun x wf Kk hq hdep hold => ?_) ?_
              · (try dsimp only); (have h10 : x 10 = _ := hdep 10 (by kernel_rfl)); (clear hq hdep hold); (simp only [h10]); (clear h10); (rw [if_pos (by rfl)]); (refine OpY.val ?_ ⟨Kept.refl _ _, rfl⟩); (first | rfl | go_simp)
              refine .cons (fun x wf Kk hq hdep hold => ?_) ?_
              · (try dsimp only); (have h11 : x 11 = _ := hdep 11 (by kernel_rfl)); (clear hq hdep hold); (simp only [h11]); (clear h11); (rw [if_pos (by rfl)]); (refine OpY.val ?_ ⟨Kept.refl _ _, rfl⟩); (first | rfl | go_simp)
              refine .cons (fun x wf Kk hq hdep hold => ?_) ?_
              · (try dsimp only); (have h12 : x 12 = _ := hdep 12 (by kernel_rfl)); (have h11 : x 11 = _ := hdep 11 (by kernel_rfl)); (clear hq hdep hold); (simp only [h12, h11]); (clear h12 h11); (rw [if_pos (by rfl)]); (refine OpY.val ?_ ⟨Kept.refl _ _, rfl⟩); (first | rfl | go_simp)
              refine .cons (fun x wf Kk hq hdep hold => ?_) ?_
              · (try dsimp only); (have h13 : x 13 = _ := hdep 13 (by kernel_rfl)); (have h11 : x 11 = _ := hdep 11 (by kernel_rfl)); (clear hq hdep hold); (simp only [h13, h11]); (clear h13 h11); (rw [if_pos (by rfl)]); (refine OpY.val ?_ ⟨Kept.refl _ _, rfl⟩); (first | rfl | go_simp)
              refine .cons (fun x wf Kk hq hdep hold => ?_) ?_
              · (try dsimp only); (have h14 : x 14 = _ := hdep 14 (by kernel_rfl)); (have h11 : x 11 = _ := hdep 11 (by kernel_rfl)); (clear hq hdep hold); (simp only [h14, h11]); (clear h14 h11); (have m1 := Kk.undrew.cell c0b.out id); (rw [if_pos (by rfl)]); (refine OpY.val ?_ ⟨Kept.refl _ _, rfl⟩); (first | rfl | go_simp)
              refine .cons (fun x wf Kk hq hdep hold => ?_) ?_
              · (try dsimp only); (have h15 : x 15 = _ := hdep 15 (by kernel_rfl)); (have h11 : x 11 = _ := hdep 11 (by kernel_rfl)); (clear hq hdep hold); (simp only [h15, h11]); (clear h15 h11); (rw [if_pos (by rfl)]); (refine OpY.val ?_ ⟨Kept.refl _ _, rfl⟩); (first | rfl | go_simp)
              refine .cons (fun x wf Kk hq hdep hold => ?_) ?_
              · (try dsimp only); (have h11 : x 11 = _ := hdep 11 (by kernel_rfl)); (clear hq hdep hold); (simp only [h11]); (clear h11); (rw [if_pos (by rfl)]); (refine OpY.val ?_ ⟨Kept.refl _ _, rfl⟩); (first | rfl | go_simp)
              refine .cons (fun x wf Kk hq hdep hold => ?_) ?_
              · (try dsimp only); (have h16 : x 16 = _ := hdep 16 (by kernel_rfl)); (have h17 : x 17 = _ := hdep 17 (by kernel_rfl)); (have h11 : x 11 = _ := hdep 11 (by kernel_rfl)); (clear hq hdep hold); (simp only [h16, h17, h11]); (clear h16 h17 h11); (rw [if_pos (by rfl)]); (refine OpY.val ?_ ⟨Kept.refl _ _, rfl⟩); (first | rfl | go_simp)
              refine .cons (fun x wf Kk hq hdep hold => ?_) ?_
              · (try dsimp only); (have h11 : x 11 = _ := hdep 11 (by kernel_rfl)); (clear hq hdep hold); (simp only [h11]); (clear h11); (rw [if_pos (by rfl)]); (refine OpY.val ?_ ⟨Kept.refl _ _, rfl⟩); (first | rfl | go_simp)
              refine .cons (fun x wf Kk hq hdep hold => ?_) ?_
              · (try dsimp only); (have h19 : x 19 = _ := hdep 19 (by kernel_rfl)); (have h11 : x 11 = _ := hdep 11 (by kernel_rfl)); (clear hq hdep hold); (simp only [h19, h11]); (clear h19 h11); (have m1 := Kk.undrew.cell x1.out id); (rw [if_pos (by rfl)]); (refine OpY.val ?_ ⟨Kept.refl _ _, rfl⟩); (first | rfl | go_simp)
              refine .cons (fun x wf Kk hq hdep hold => ?_) ?_
              · (try dsimp only); (have h20 : x 20 = _ := hdep 20 (by kernel_rfl)); (have h11 : x 11 = _ := hdep 11 (by kernel_rfl)); (clear hq hdep hold); (simp only [h20, h11]); (clear h20 h11); (rw [if_pos (by rfl)]); (refine OpY.val ?_ ⟨Kept.refl _ _, rfl⟩); (first | rfl | go_simp)
              refine .cons (fun x wf Kk hq hdep hold => ?_) ?_
              · (try dsimp only); (have h18 : x 18 = _ := hdep 18 (by kernel_rfl)); (have h21 : x 21 = _ := hdep 21 (by kernel_rfl)); (have h11 : x 11 = _ := hdep 11 (by kernel_rfl)); (clear hq hdep hold); (simp only [h18, h21, h11]); (clear h18 h21 h11); (rw [if_pos (by rfl)]); (refine OpY.val ?_ ⟨Kept.refl _ _, rfl⟩); (first | rfl | go_simp)
              refine .cons (fun x wf Kk hq hdep hold => ?_) ?_
              · (try dsimp only); (have h11 : x 11 = _ := hdep 11 (by kernel_rfl)); (clear hq hdep hold); (simp only [h11]); (clear h11); (rw [if_pos (by rfl)]); (refine OpY.val ?_ ⟨Kept.refl _ _, rfl⟩); (first | rfl | go_simp)
              refine .cons (fun x wf Kk hq hdep hold => ?_) ?_
              · (try dsimp only); (have h22 : x 22 = _ := hdep 22 (by kernel_rfl)); (have h23 : x 23 = _ := hdep 23 (by kernel_rfl)); (have h11 : x 11 = _ := hdep 11 (by kernel_rfl)); (clear hq hdep hold); (simp only [h22, h23, h11]); (clear h22 h23 h11); (rw [if_pos (by rfl)]); (refine OpY.val ?_ ⟨Kept.refl _ _, rfl⟩); (first | rfl | go_simp)
              refine .cons (fun x wf Kk hq hdep hold => ?_) ?_
              · (try dsimp only); (have h11 : x 11 = _ := hdep 11 (by kernel_rfl)); (have h24 : x 24 = _ := hdep 24 (by kernel_rfl)); (clear hq hdep hold); (simp only [h11, h24]); (clear h11 h24); (rw [if_pos (by rfl)]); (refine OpY.val ?_ ⟨Kept.refl _ _, rfl⟩); (first | rfl | go_simp)
              exact .nil _
            · (intro x wf Kk hv); (try dsimp only); (have h25 : x 25 = _ := hv 25 (by kernel_rfl)); (clear hv); (simp only [h25]); (clear h25); (obtain ⟨w6, hw6⟩ : ∃ w6, w6 = wf := ⟨_, rfl⟩); (subst hw6); (have k6 := hid Kk.undrew); (have g6r := hid (k6.out.blk g5r.out)); (have hRd6 := hid (hT5.out.own.keptNo k6.out)); (have hK6 := hid (k2.out.trans' hRd6.out.kept)); (clear Kk g5r); (go_upto_region 16 with fail); (refine region_flow (S := (fun k => k = w.heap.size)) (Sl := (fun _ => (fun k => k = w.heap.size))) [Is (.int .i64 (WN : Int)), Is (.int .i64 U), Is (.pointer (some ⟨gx, 2, none⟩)), Is (.int .i64 xb), Is (.int .i64 (min U xb)), Is (.pointer (some ⟨gt, 0, none⟩)), Is (.pointer (some ⟨gt, 0, none⟩)), Is (.pointer (some ⟨gt, 0, none⟩)), Is (.slice (some ⟨g, 0, none⟩) m cap), Is (.agg #[.int .i64 (WN : Int), .int .i64 (min U xb), .slice (some ⟨g, 0, none⟩) m cap]), PRes w6.drew w.heap.size (.int .i64 (WN : Int)) (.int .i64 (min U xb)) (.slice (some ⟨g, 0, none⟩) m cap), Is (.int .i64 0)] [10] (fun _ _ h => h) _ (by kernel_rfl) (by kernel_rfl) (by kernel_rfl) (by kernel_rfl) (fun x => by simp only [puts, Act.put, List.map_cons, List.map_nil, Nat.zero_add, Nat.reduceAdd, List.setIfInBounds_toArray, List.set_cons_zero, List.set_cons_succ]; exact rfl) ?_ ?_)
              · (skip); (refine .cons (fun x wf Kk hq hdep hold => ?_) ?_)
                · (try dsimp only); (clear hq hdep hold); (rw [if_pos (by rfl)]); (refine OpY.val ?_ ⟨Kept.refl _ _, rfl⟩); (first | rfl | go_simp)
                refine .cons (fun x wf Kk hq hdep hold => ?_) ?_
                · (try dsimp only); (clear hq hdep hold); (rw [if_pos (by rfl)]); (refine OpY.val ?_ ⟨Kept.refl _ _, rfl⟩); (first | rfl | go_simp)
                refine .cons (fun x wf Kk hq hdep hold => ?_) ?_
                · (try dsimp only); (clear hq hdep hold); (rw [if_pos (by rfl)]); (refine OpY.val ?_ ⟨Kept.refl _ _, rfl⟩); (first | rfl | go_simp)
                refine .cons (fun x wf Kk hq hdep hold => ?_) ?_
                · (try dsimp only); (have h2 : x 2 = _ := hdep 2 (by kernel_rfl)); (have Kq := hq no (fun j hj => by cases (show j ∈ ([] : List Nat) from by (have e : ∀ l : List Nat, l = [] → j ∈ l → j ∈ ([] : List Nat) := fun l h h2 => h ▸ h2); exact e _ (by kernel_rfl) hj))); (clear hq hdep hold); (simp only [h2]); (clear h2); (have m1 := Kq.undrew.cell (k6.out.cell x2.out id) id); (rw [if_pos (by rfl)]); (refine OpY.val ?_ ⟨Kept.refl _ _, rfl⟩); (first | rfl | go_simp)
                refine .cons (fun x wf Kk hq hdep hold => ?_) ?_
                · (try dsimp only); (have h1 : x 1 = _ := hdep 1 (by kernel_rfl)); (have h3 : x 3 = _ := hdep 3 (by kernel_rfl)); (clear hq hdep hold); (simp only [h1, h3]); (clear h1 h3); (rw [if_pos (by rfl)]); (refine OpY.val ?_ ⟨Kept.refl _ _, rfl⟩); (first | rfl | (go_simp; done) | (go_simp; split <;> omega))
                refine .cons (fun x wf Kk hq hdep hold => ?_) ?_
                · (try dsimp only); (clear hq hdep hold); (rw [if_pos (by rfl)]); (refine OpY.val ?_ ⟨Kept.refl _ _, rfl⟩); (first | rfl | go_simp)
                refine .cons (fun x wf Kk hq hdep hold => ?_) ?_
                · (try dsimp only); (have h5 : x 5 = _ := hdep 5 (by kernel_rfl)); (clear hq hdep hold); (simp only [h5]); (clear h5); (rw [if_pos (by rfl)]); (refine OpY.val ?_ ⟨Kept.refl _ _, rfl⟩); (first | rfl | go_simp)
                refine .cons (fun x wf Kk hq hdep hold => ?_) ?_
                · (try dsimp only); (have h6 : x 6 = _ := hdep 6 (by kernel_rfl)); (clear hq hdep hold); (simp only [h6]); (clear h6); (rw [if_pos (by rfl)]); (refine OpY.val ?_ ⟨Kept.refl _ _, rfl⟩); (first | rfl | go_simp)
                refine .cons (fun x wf Kk hq hdep hold => ?_) ?_
                · (try dsimp only); (have h7 : x 7 = _ := hdep 7 (by kernel_rfl)); (have Kq := hq no (fun j hj => by cases (show j ∈ ([] : List Nat) from by (have e : ∀ l : List Nat, l = [] → j ∈ l → j ∈ ([] : List Nat) := fun l h h2 => h ▸ h2); exact e _ (by kernel_rfl) hj))); (clear hq hdep hold); (simp only [h7]); (clear h7); (have m1 := Kq.undrew.cell (k6.out.cell c0b.out id) id); (rw [if_pos (by rfl)]); (refine OpY.val ?_ ⟨Kept.refl _ _, rfl⟩); (first | rfl | go_simp)
                refine .cons (fun x wf Kk hq hdep hold => ?_) ?_
                · (try dsimp only); (have h0 : x 0 = _ := hdep 0 (by kernel_rfl)); (have h4 : x 4 = _ := hdep 4 (by kernel_rfl)); (have h8 : x 8 = _ := hdep 8 (by kernel_rfl)); (clear hq hdep hold); (simp only [h0, h4, h8]); (clear h0 h4 h8); (rw [if_pos (by rfl)]); (refine OpY.val ?_ ⟨Kept.refl _ _, rfl⟩); (first | rfl | (go_simp; done) | (go_simp; split <;> omega))
                refine .cons (fun x wf Kk hq hdep hold => ?_) ?_
                · (try dsimp only); (have h9 : x 9 = _ := hdep 9 (by kernel_rfl)); (have Kq := hq no (fun j hj => by cases (show j ∈ ([] : List Nat) from by (have e : ∀ l : List Nat, l = [] → j ∈ l → j ∈ ([] : List Nat) := fun l h h2 => h ▸ h2); exact e _ (by kernel_rfl) hj))); (clear hq hdep hold); (simp only [h9]); (clear h9); (rw [if_pos (by rfl)]); (have gq := Kq.undrew.blk g6r.out); (obtain ⟨z0, z1, z2⟩ := slot2 gq); (have q0 := row_free gq 0); (have q1 := row_free gq 1); (have q2 := row_free gq 2); (refine OpY.skipZ (w' := ((wf.setCell ⟨w.heap.size, 0, none⟩ (.int .i64 (WN : Int))).setCell ⟨w.heap.size, 1, none⟩ (.int .i64 (min U xb))).setCell ⟨w.heap.size, 2, none⟩ (.slice (some ⟨g, 0, none⟩) m cap)) (by go_simp) ⟨(((Kept.refl (fun k => k = w.heap.size) wf).setCell (a := ⟨w.heap.size, 0, none⟩) (.inl rfl) _).setCell (a := ⟨w.heap.size, 1, none⟩) (.inl rfl) _).setCell (a := ⟨w.heap.size, 2, none⟩) (.inl rfl) _, wf, Kq, Kept.refl _ _⟩)
                refine .cons (fun x wf Kk hq hdep hold => ?_) ?_
                · (try dsimp only); (clear hq hdep hold); (rw [if_pos (by rfl)]); (refine OpY.val ?_ ⟨Kept.refl _ _, rfl⟩); (first | rfl | go_simp)
                exact .nil _
              · (intro x wf Kk hv); (try dsimp only); (have p10 : Pr.p (Sl := (fun _ => (fun k => k = w.heap.size))) (PRes w6.drew w.heap.size (.int .i64 (WN : Int)) (.int .i64 (min U xb)) (.slice (some ⟨g, 0, none⟩) m cap)) (x 10) wf := hv 10 (by kernel_rfl)); (have h11 : x 11 = _ := hv 11 (by kernel_rfl)); (clear hv); (simp only [h11]); (clear h11); (obtain ⟨wa, ka, kb⟩ := p10); (have gar := ka.undrew.blk g6r.out); (have g10' := setCell_row (setCell_row (setCell_row gar 0 (.int .i64 (WN : Int))) 1 (.int .i64 (min U xb))) 2 (.slice (some ⟨g, 0, none⟩) m cap)); (have g11 : Hd (wf.heap[w.heap.size]? = some (.cells [Value.int .i64 (WN : Int), .int .i64 (min U xb), .slice (some ⟨g, 0, none⟩) m cap].toArray 41 (0, 0))) := ⟨kb.blk (by rw [g10']; simp)⟩); (have k7 : Hd (Kept no w wf) := ⟨((((hK6.out.trans' ka.undrew).setCell (a := ⟨w.heap.size, 0, none⟩) (.inr (Nat.le_refl _)) (.int .i64 (WN : Int))).setCell (a := ⟨w.heap.size, 1, none⟩) (.inr (Nat.le_refl _)) (.int .i64 (min U xb))).setCell (a := ⟨w.heap.size, 2, none⟩) (.inr (Nat.le_refl _)) (.slice (some ⟨g, 0, none⟩) m cap)).trans' kb⟩)
                have hRd : Hd (RdN wf (.slice (some ⟨g, 0, none⟩) m cap) p) := ⟨by
                  (have h := (hRd6.out.keptNo ka.undrew).rdC ((((Kept.refl _ wa).setCell (a := ⟨w.heap.size, 0, none⟩) (.inl ⟨_, _, gar⟩) (.int .i64 (WN : Int))).setCell (a := ⟨w.heap.size, 1, none⟩) (.inl ⟨_, _, gar⟩) (.int .i64 (min U xb))).setCell (a := ⟨w.heap.size, 2, none⟩) (.inl ⟨_, _, gar⟩) (.slice (some ⟨g, 0, none⟩) m cap))); (have h2 := h.kept kb)
                  rw [hm.out] at h2; exact h2⟩
                (clear Kk ka kb gar g10' hT5 hK6 hRd6 g6r k6 c0b x1 x2); (go_wp2)
                (try simp only [Exit.inBlock, Exit.then])
                refine bodyPost_ret (v := .tuple #[.agg #[.int .i64 (WN : Int), .int .i64 (min U xb), .slice (some ⟨g, 0, none⟩) m cap], .int .i64 0]) ?_ rfl ?_
                · exact results_cert rfl _ _ w.heap.size [.int .i64 (WN : Int), .int .i64 (min U xb), .slice (some ⟨g, 0, none⟩) m cap] rfl _ rfl rfl g11.out
                · first | exact ⟨(WN : Int), (min U xb), 0, .slice (some ⟨g, 0, none⟩) m cap, rfl, p, hR.out, hRd.out, k7.out⟩ | exact ⟨(WN : Int), (min U xb), 0, .slice (some ⟨g, 0, none⟩) m cap, p, rfl, hR.out, hRd.out, k7.out⟩
          (have hLd : decide (lim < (m : Int) + (N : Int) - (tl : Int)) = false := decide_eq_false hL); (have hst : Hd (stopS N U lim (nds p) = false) := ⟨by rw [hstop.out, hAd, hLd, decide_eq_false hT3]; rfl⟩); (clear hstop); (go_upto_region 15 with fail); (refine region_flow (S := no) (Sl := (fun _ => no)) [Is (.pointer (some ⟨gx, 2, none⟩)), Is (.int .i64 xb), Is (.int .i64 U), Is (.bool false), Is (.bool false), Is (.pointer (some ⟨gx, 1, none⟩)), Is (.slice ta tl ct), Is (.int .i64 (tl : Int)), Is (.int .i64 (N : Int)), Is (.bool false), Is (.bool false), Is (.bool false), Is (.pointer (some ⟨gt, 0, none⟩)), Is (.pointer (some ⟨gt, 0, none⟩)), Is (.pointer (some ⟨gt, 0, none⟩)), Is (.slice (some ⟨g, 0, none⟩) m cap), Is (.int .i64 (m : Int)), Is (.int .i64 (N : Int)), Is (.int .i64 ((m : Int) + (N : Int))), Is (.pointer (some ⟨gx, 1, none⟩)), Is (.slice ta tl ct), Is (.int .i64 (tl : Int)), Is (.int .i64 ((m : Int) + (N : Int) - (tl : Int))), Is (.int .i64 lim), Is (.bool false), Is (.bool false)] [] (fun _ _ h => h) _ (by kernel_rfl) (by kernel_rfl) (by kernel_rfl) (by kernel_rfl) (fun x => by simp only [puts, Act.put, List.map_cons, List.map_nil, Nat.zero_add, Nat.reduceAdd, List.setIfInBounds_toArray, List.set_cons_zero, List.set_cons_succ]; exact rfl) ?_ ?_)
          · (skip); (refine .cons (fun x wf Kk hq hdep hold => ?_) ?_)
            · (try dsimp only); (clear hq hdep hold); (rw [if_pos (by rfl)]); (refine OpY.val ?_ ⟨Kept.refl _ _, rfl⟩); (first | rfl | go_simp)
            refine .cons (fun x wf Kk hq hdep hold => ?_) ?_
            · (try dsimp only); (have h0 : x 0 = _ := hdep 0 (by kernel_rfl)); (clear hq hdep hold); (simp only [h0]); (clear h0); (have m1 := Kk.undrew.cell x2.out id); (rw [if_pos (by rfl)]); (refine OpY.val ?_ ⟨Kept.refl _ _, rfl⟩); (first | rfl | go_simp)
            refine .cons (fun x wf Kk hq hdep hold => ?_) ?_
            · (try dsimp only); (clear hq hdep hold); (rw [if_pos (by rfl)]); (refine OpY.val ?_ ⟨Kept.refl _ _, rfl⟩); (first | rfl | go_simp)
            refine .cons (fun x wf Kk hq hdep hold => ?_) ?_
            · (try dsimp only); (have h1 : x 1 = _ := hdep 1 (by kernel_rfl)); (have h2 : x 2 = _ := hdep 2 (by kernel_rfl)); (clear hq hdep hold); (simp only [h1, h2]); (clear h1 h2); (rw [if_pos (by rfl)]); (refine OpY.val ?_ ⟨Kept.refl _ _, rfl⟩); (first | rfl | go_simp)
            refine .cons (fun x wf Kk hq hdep hold => ?_) ?_
            · (try dsimp only); (have h3 : x 3 = _ := hdep 3 (by kernel_rfl)); (clear hq hdep hold); (simp only [h3]); (clear h3); (rw [if_pos (by rfl)]); (refine OpY.val ?_ ⟨Kept.refl _ _, rfl⟩); (first | rfl | go_simp)
            refine .cons (fun x wf Kk hq hdep hold => ?_) ?_
            · (try dsimp only); (have h4 : x 4 = _ := hdep 4 (by kernel_rfl)); (clear hq hdep hold); (simp only [h4]); (clear h4); (rw [if_pos (by rfl)]); (refine OpY.val ?_ ⟨Kept.refl _ _, rfl⟩); (first | rfl | go_simp)
            refine .cons (fun x wf Kk hq hdep hold => ?_) ?_
            · (try dsimp only); (have h5 : x 5 = _ := hdep 5 (by kernel_rfl)); (have h4 : x 4 = _ := hdep 4 (by kernel_rfl)); (clear hq hdep hold); (simp only [h5, h4]); (clear h5 h4); (have m1 := Kk.undrew.cell x1.out id); (rw [if_pos (by rfl)]); (refine OpY.val ?_ ⟨Kept.refl _ _, rfl⟩); (first | rfl | go_simp)
            refine .cons (fun x wf Kk hq hdep hold => ?_) ?_
            · (try dsimp only); (have h6 : x 6 = _ := hdep 6 (by kernel_rfl)); (have h4 : x 4 = _ := hdep 4 (by kernel_rfl)); (clear hq hdep hold); (simp only [h6, h4]); (clear h6 h4); (rw [if_pos (by rfl)]); (refine OpY.val ?_ ⟨Kept.refl _ _, rfl⟩); (first | rfl | go_simp)
            refine .cons (fun x wf Kk hq hdep hold => ?_) ?_
            · (try dsimp only); (have h4 : x 4 = _ := hdep 4 (by kernel_rfl)); (clear hq hdep hold); (simp only [h4]); (clear h4); (rw [if_pos (by rfl)]); (refine OpY.val ?_ ⟨Kept.refl _ _, rfl⟩); (first | rfl | go_simp)
            refine .cons (fun x wf Kk hq hdep hold => ?_) ?_
            · (try dsimp only); (have h7 : x 7 = _ := hdep 7 (by kernel_rfl)); (have h8 : x 8 = _ := hdep 8 (by kernel_rfl)); (have h4 : x 4 = _ := hdep 4 (by kernel_rfl)); (clear hq hdep hold); (simp only [h7, h8, h4]); (clear h7 h8 h4); (rw [if_pos (by rfl)]); (refine OpY.val ?_ ⟨Kept.refl _ _, rfl⟩); (first | rfl | go_simp)
            refine .cons (fun x wf Kk hq hdep hold => ?_) ?_
            · (try dsimp only); (have h4 : x 4 = _ := hdep 4 (by kernel_rfl)); (have h9 : x 9 = _ := hdep 9 (by kernel_rfl)); (clear hq hdep hold); (simp only [h4, h9]); (clear h4 h9); (rw [if_pos (by rfl)]); (refine OpY.val ?_ ⟨Kept.refl _ _, rfl⟩); (first | rfl | go_simp)
            refine .cons (fun x wf Kk hq hdep hold => ?_) ?_
            · (try dsimp only); (have h10 : x 10 = _ := hdep 10 (by kernel_rfl)); (clear hq hdep hold); (simp only [h10]); (clear h10); (rw [if_pos (by rfl)]); (refine OpY.val ?_ ⟨Kept.refl _ _, rfl⟩); (first | rfl | go_simp)
            refine .cons (fun x wf Kk hq hdep hold => ?_) ?_
            · (try dsimp only); (have h11 : x 11 = _ := hdep 11 (by kernel_rfl)); (clear hq hdep hold); (simp only [h11]); (clear h11); (rw [if_pos (by rfl)]); (refine OpY.val ?_ ⟨Kept.refl _ _, rfl⟩); (first | rfl | go_simp)
            refine .cons (fun x wf Kk hq hdep hold => ?_) ?_
            · (try dsimp only); (have h12 : x 12 = _ := hdep 12 (by kernel_rfl)); (have h11 : x 11 = _ := hdep 11 (by kernel_rfl)); (clear hq hdep hold); (simp only [h12, h11]); (clear h12 h11); (rw [if_pos (by rfl)]); (refine OpY.val ?_ ⟨Kept.refl _ _, rfl⟩); (first | rfl | go_simp)
            refine .cons (fun x wf Kk hq hdep hold => ?_) ?_
            · (try dsimp only); (have h13 : x 13 = _ := hdep 13 (by kernel_rfl)); (have h11 : x 11 = _ := hdep 11 (by kernel_rfl)); (clear hq hdep hold); (simp only [h13, h11]); (clear h13 h11); (rw [if_pos (by rfl)]); (refine OpY.val ?_ ⟨Kept.refl _ _, rfl⟩); (first | rfl | go_simp)
            refine .cons (fun x wf Kk hq hdep hold => ?_) ?_
            · (try dsimp only); (have h14 : x 14 = _ := hdep 14 (by kernel_rfl)); (have h11 : x 11 = _ := hdep 11 (by kernel_rfl)); (clear hq hdep hold); (simp only [h14, h11]); (clear h14 h11); (have m1 := Kk.undrew.cell c0b.out id); (rw [if_pos (by rfl)]); (refine OpY.val ?_ ⟨Kept.refl _ _, rfl⟩); (first | rfl | go_simp)
            refine .cons (fun x wf Kk hq hdep hold => ?_) ?_
            · (try dsimp only); (have h15 : x 15 = _ := hdep 15 (by kernel_rfl)); (have h11 : x 11 = _ := hdep 11 (by kernel_rfl)); (clear hq hdep hold); (simp only [h15, h11]); (clear h15 h11); (rw [if_pos (by rfl)]); (refine OpY.val ?_ ⟨Kept.refl _ _, rfl⟩); (first | rfl | go_simp)
            refine .cons (fun x wf Kk hq hdep hold => ?_) ?_
            · (try dsimp only); (have h11 : x 11 = _ := hdep 11 (by kernel_rfl)); (clear hq hdep hold); (simp only [h11]); (clear h11); (rw [if_pos (by rfl)]); (refine OpY.val ?_ ⟨Kept.refl _ _, rfl⟩); (first | rfl | go_simp)
            refine .cons (fun x wf Kk hq hdep hold => ?_) ?_
            · (try dsimp only); (have h16 : x 16 = _ := hdep 16 (by kernel_rfl)); (have h17 : x 17 = _ := hdep 17 (by kernel_rfl)); (have h11 : x 11 = _ := hdep 11 (by kernel_rfl)); (clear hq hdep hold); (simp only [h16, h17, h11]); (clear h16 h17 h11); (rw [if_pos (by rfl)]); (refine OpY.val ?_ ⟨Kept.refl _ _, rfl⟩); (first | rfl | go_simp)
            refine .cons (fun x wf Kk hq hdep hold => ?_) ?_
            · (try dsimp only); (have h11 : x 11 = _ := hdep 11 (by kernel_rfl)); (clear hq hdep hold); (simp only [h11]); (clear h11); (rw [if_pos (by rfl)]); (refine OpY.val ?_ ⟨Kept.refl _ _, rfl⟩); (first | rfl | go_simp)
            refine .cons (fun x wf Kk hq hdep hold => ?_) ?_
            · (try dsimp only); (have h19 : x 19 = _ := hdep 19 (by kernel_rfl)); (have h11 : x 11 = _ := hdep 11 (by kernel_rfl)); (clear hq hdep hold); (simp only [h19, h11]); (clear h19 h11); (have m1 := Kk.undrew.cell x1.out id); (rw [if_pos (by rfl)]); (refine OpY.val ?_ ⟨Kept.refl _ _, rfl⟩); (first | rfl | go_simp)
            refine .cons (fun x wf Kk hq hdep hold => ?_) ?_
            · (try dsimp only); (have h20 : x 20 = _ := hdep 20 (by kernel_rfl)); (have h11 : x 11 = _ := hdep 11 (by kernel_rfl)); (clear hq hdep hold); (simp only [h20, h11]); (clear h20 h11); (rw [if_pos (by rfl)]); (refine OpY.val ?_ ⟨Kept.refl _ _, rfl⟩); (first | rfl | go_simp)
            refine .cons (fun x wf Kk hq hdep hold => ?_) ?_
            · (try dsimp only); (have h18 : x 18 = _ := hdep 18 (by kernel_rfl)); (have h21 : x 21 = _ := hdep 21 (by kernel_rfl)); (have h11 : x 11 = _ := hdep 11 (by kernel_rfl)); (clear hq hdep hold); (simp only [h18, h21, h11]); (clear h18 h21 h11); (rw [if_pos (by rfl)]); (refine OpY.val ?_ ⟨Kept.refl _ _, rfl⟩); (first | rfl | go_simp)
            refine .cons (fun x wf Kk hq hdep hold => ?_) ?_
            · (try dsimp only); (have h11 : x 11 = _ := hdep 11 (by kernel_rfl)); (clear hq hdep hold); (simp only [h11]); (clear h11); (rw [if_pos (by rfl)]); (refine OpY.val ?_ ⟨Kept.refl _ _, rfl⟩); (first | rfl | go_simp)
            refine .cons (fun x wf Kk hq hdep hold => ?_) ?_
            · (try dsimp only); (have h22 : x 22 = _ := hdep 22 (by kernel_rfl)); (have h23 : x 23 = _ := hdep 23 (by kernel_rfl)); (have h11 : x 11 = _ := hdep 11 (by kernel_rfl)); (clear hq hdep hold); (simp only [h22, h23, h11]); (clear h22 h23 h11); (rw [if_pos (by rfl)]); (refine OpY.val ?_ ⟨Kept.refl _ _, rfl⟩); (first | rfl | go_simp)
            refine .cons (fun x wf Kk hq hdep hold => ?_) ?_
            · (try dsimp only); (have h11 : x 11 = _ := hdep 11 (by kernel_rfl)); (have h24 : x 24 = _ := hdep 24 (by kernel_rfl)); (clear hq hdep hold); (simp only [h11, h24]); (clear h11 h24); (rw [if_pos (by rfl)]); (refine OpY.val ?_ ⟨Kept.refl _ _, rfl⟩); (first | rfl | go_simp)
            exact .nil _
          · (intro x wf Kk hv); (try dsimp only); (have h25 : x 25 = _ := hv 25 (by kernel_rfl)); (clear hv); (simp only [h25]); (clear h25); (obtain ⟨w6, hw6⟩ : ∃ w6, w6 = wf := ⟨_, rfl⟩); (subst hw6); (have k6 := hid Kk.undrew); (have HP6 := hid (HP5.out w6 k6.out)); (have g6x := hid (k6.out.blk g5.out)); (have hTb := hid (hT5.out.keptNo k6.out)); (clear Kk HP5 g5 x1 x2 hT5 hg5 c0b d3b k6); (go_wp2_with fail); (refine HP6.out.mono ?_); (rintro e w7 ⟨rfl, ve7, h7, hT7, hp7, hh7, k7⟩)
            have g7x : Hd (w7.heap[gx]? = some (.cells #[.int .i64 xp, .slice ta tl ct, .int .i64 xb, .bool true] 98 (0, 0))) := ⟨(k7.block _ (lt_of_heap g6x.out) (fun e => by
              rcases e with e | e
              · exact blk_ne g6x.out hTb.out.blk node_ne_tree e
              · exact own_ne hTb.out.els g6x.out int_ne_node _ e rfl)).trans g6x.out⟩
            (have hQ7 := hid (hQP.out h7 hp7 hh7)); (have hl7 : h7.length ≤ m := by have := hpop.out h7 hp7; rw [hm.out] at this; exact this); (rw [hm.out] at hT7); (obtain ⟨c07, _, _⟩ := slot2 hT7.blk); (have hE7 := hT7.own.own); (rw [hm.out] at hE7); (obtain ⟨_, ⟨hx0, _⟩ | ⟨gg, ccap, cur7, e7, _, hg7, _⟩⟩ := hE7)
            · cases hx0
            cases e7
            (have fg : w7.frozen? ⟨g, K * 4 + 3, none⟩ = false := row_free hg7 _); (obtain ⟨hK1, hel3⟩ := hel2.out); (obtain ⟨b', o', x', v', e', hel', _, _, _, d37, _⟩ := hT7.own.rd.at K hK1)
            cases e'
            rw [hel3] at hel'
            cases hel'
            (simp only [Nat.zero_add] at d37); (have hT8 := hid (hT7.leaf hm.out hK1 hel3)); (have kg : Hd (Kept (fun j => j = g) w7 (w7.setCell ⟨g, K * 4 + 3, none⟩ (.bool false))) := ⟨(Kept.refl (fun j => j = g) w7).setCell (a := ⟨g, K * 4 + 3, none⟩) (.inl rfl) _⟩); (clear HP6 k7 hel3 hK1 hT7 hp7 hh7 hg7 hQP hpop g6x hTb); (go_upto_region 19 with fail); (obtain ⟨w8, hw8⟩ : ∃ w8, w8 = w7.setCell ⟨g, K * 4 + 3, none⟩ (.bool false) := ⟨_, rfl⟩); (rw [← hw8]); (rw [← hw8] at hT8 kg); (have g8x : Hd (w8.heap[gx]? = some (.cells #[.int .i64 xp, .slice ta tl ct, .int .i64 xb, .bool true] 98 (0, 0))) := ⟨(kg.out.block _ (lt_of_heap g7x.out) (by have := hgl4.out; omega)).trans g7x.out⟩); (have hpl6 : Hd ((p.set K ((⟨xp, xt, xb, false⟩ : Nd), Value.slice ta tl ct)).length = m) := ⟨by rw [List.length_set]; exact hm.out⟩); (have hmem : Hd (((⟨xp, xt, xb, false⟩ : Nd), Value.slice ta tl ct) ∈ p.set K ((⟨xp, xt, xb, false⟩ : Nd), Value.slice ta tl ct)) := ⟨List.mem_set (by rw [hm.out]; exact hk1) _⟩); (have hndp : Hd (nds (p.set K ((⟨xp, xt, xb, false⟩ : Nd), Value.slice ta tl ct)) = (nds p).set K ⟨xp, xt, xb, false⟩) := ⟨by simp [nds, List.map_set]⟩)
            have hnb : Hd (∀ j, (Value.slice (some ⟨g, 0, none⟩) m cap).ownBlock = some j → j ≠ gx) := ⟨fun j hj => by
              have e : g = j := by simpa [Value.ownBlock] using hj
              have := hgl4.out; omega⟩
            have hT9 : Hd (TreeA w2 w8 gt gv (.slice (some ⟨g, 0, none⟩) m cap) (p.set K (⟨xp, xt, xb, false⟩, .slice ta tl ct)) [] ve7 h7) := ⟨by unfold TreeA; rw [List.append_nil]; exact hT8.out⟩
            have hgetK : Hd ((nds (p.set K ((⟨xp, xt, xb, false⟩ : Nd), Value.slice ta tl ct))).getD K default = (⟨xp, xt, xb, false⟩ : Nd)) := ⟨by
              (rw [hndp.out]); (simp only [List.getD_eq_getElem?_getD])
              rw [List.getElem?_set_self (by rw [nds_length, hm.out]; exact hk1)]; rfl⟩
            (obtain ⟨P0, hP0⟩ : ∃ P0, p.set K ((⟨xp, xt, xb, false⟩ : Nd), Value.slice ta tl ct) = P0 := ⟨_, rfl⟩); (rw [hP0] at hT9 hpl6 hmem hndp hgetK); (have hQ9 : Hd (QueueOf (nds (P0 ++ [])) h7) := ⟨by rw [List.append_nil, hndp.out]; exact hQ7.out⟩); (have hl9 : h7.length ≤ (P0 ++ []).length := by rw [List.append_nil, hpl6.out]; exact hl7); (clear hP0 hw8 hT8 kg g7x hel2 c07 fg d37 hgl4 hQ7); (go_wp2)
            go_loopw [122] (fun i wr => ∃ (e : Nat) (rest : List (Nd × Value)) (un ve : Value) (h : List Nat), e ≤ N ∧ i = .int .i64 (e : Int) ∧ Hd (h.length ≤ (P0 ++ rest : List (Nd × Value)).length) ∧ Hd (nds rest = kids N (grps ps) K (Nd.mk xp xt xb true) e) ∧ Hd (TreeA w2 wr gt gv un P0 rest ve h) ∧ Hd (QueueOf (nds (P0 ++ rest : List (Nd × Value))) h) ∧ Hd (BlkN wr gx #[.int .i64 xp, .slice ta tl ct, .int .i64 xb, .bool true]) ∧ Hd (∀ j : Nat, un.ownBlock = some j → j ≠ gx)) (fun i _ => N - (intOf i).toNat)
            case atStart => exact ⟨0, [], .slice (some ⟨g, 0, none⟩) m cap, ve7, h7, by omega, rfl, ⟨hl9⟩, ⟨rfl⟩, hT9, hQ9, ⟨g8x.out⟩, hnb⟩
            case round =>
              (clear hT9 hQ9 hl9 g8x hnb); (obtain ⟨e, rest, un, ve, h, heN, rfl, hhl, hre, hTA, hQ, g6, hnb⟩ := hrel); (have hT : Hd (TreeS w2 wr gt gv un (P0 ++ rest) ve h) := ⟨hTA.out⟩); (replace g6 : Hd (wr.heap[gx]? = some (.cells #[.int .i64 xp, .slice ta tl ct, .int .i64 xb, .bool true] 98 (0, 0))) := ⟨g6.out⟩); (have hrl : rest.length ≤ e := by have := kids_le N K (grps ps) ⟨xp, xt, xb, true⟩ e; rw [← hre.out, nds_length] at this; exact this); (have hPl : (P0 ++ rest).length = m + rest.length := by rw [List.length_append, hpl6.out]); (clear hTA)
              by_cases heL : e < N
              · (have he1 : (e : Int) < (N : Int) := by omega); (have he0 : (0 : Int) ≤ (e : Int) := by omega); (have x1 : wr.cell? ⟨gx, 1, none⟩ = some (.slice ta tl ct) := by rw [cell_of_row _ _ 1 _ _ _ g6.out]; rfl); (have hz : Hd (RdZ wr (.slice ta tl ct) xt) := ⟨own_RdZ (hT.out.own.rows _ (List.mem_append_left _ hmem.out))⟩); (have HH := hid (contains_any (.slice ta tl ct) xt (e : Int) wr hz.out))
                by_cases hex : (e : Int) ∈ xt
                · (rw [decide_eq_true hex] at HH); (have hre2 : Hd (nds rest = kids N (grps ps) K (Nd.mk xp xt xb true) (e + 1)) := ⟨by rw [kids_skip hex]; exact hre.out⟩); (clear hex hre); (go_wp2_with fail); (refine HH.out.mono ?_); (rintro e' w9 ⟨rfl, q9⟩); (have hT9 : Hd (TreeA w2 w9 gt gv un P0 rest ve h) := ⟨hT.out.keptNo q9.kept⟩); (have g9x : Hd (BlkN w9 gx #[.int .i64 xp, .slice ta tl ct, .int .i64 xb, .bool true]) := ⟨q9.kept.blk g6.out⟩); (clear q9 HH hT g6 x1 hz); (go_wp2); (go_roundw)
                  case rel => exact ⟨e + 1, rest, un, ve, h, by omega, by go_num, hhl, hre2, hT9, hQ, g9x, hnb⟩
                  case measure => simp [intOf]; omega
                · (rw [decide_eq_false hex] at HH); (have hre2 := hid (kids_more (n := N) (k := K) (gs := grps ps) (x := ⟨xp, xt, xb, true⟩) (m := e) hex)); (have hti : Go.Mg.isTail (N : Int) ((e : Int) :: xt) = true := tail_cons hx1.out (by omega) (by omega) hex); (have hB := htl.out _ hti); (have hND : Hd (kidsE N (grps ps) K ⟨xp, xt, xb, true⟩ (e : Int) = ⟨(K : Int), (e : Int) :: xt, max xb (tailB (N : Int) (grps ps) ((e : Int) :: xt)), true⟩) := ⟨by rw [hB]; rfl⟩); (clear hex hB hti); (go_wp2_with fail); (refine HH.out.mono ?_); (rintro e' w9 ⟨rfl, q9⟩); (have hT9 := hid (hT.out.keptNo q9.kept)); (have g9x := hid (q9.kept.blk g6.out))
                  have HA2 := hid (HC.out e K w9 un (P0 ++ rest) ve h hT9.out (fun k hk => by have := ((hQ.out.mem k).1 hk).1; rwa [nds_length] at this) hQ.out.heap (by have := hhl.out; omega) (by omega) (by omega) ⟨xp, xt, xb, false⟩ (by
                    (rw [← hgetK.out, show nds (P0 ++ rest) = nds P0 ++ nds rest by simp [nds]]); (simp only [List.getD_eq_getElem?_getD])
                    rw [List.getElem?_append_left (by rw [nds_length, hpl6.out]; exact hk1)]) (by show xt.length ≤ 100; rw [htl2.out]; omega))
                  (clear q9 HH hT g6 x1 hz); (go_wp2_with fail); (refine HA2.out.mono ?_); (rintro e' w10 ⟨rfl, a, vn', ve', h', hT', hp', hh', kA, hvn⟩)
                  have hT'' : Hd (TreeA w2 w10 gt gv vn' P0 (rest ++ [(kidsE N (grps ps) K ⟨xp, xt, xb, true⟩ (e : Int), a)]) ve' h') := ⟨by
                    unfold TreeA
                    rw [hND.out, ← List.append_assoc]; exact hT'⟩
                  have hQ2 : Hd (QueueOf (nds (P0 ++ (rest ++ [(kidsE N (grps ps) K ⟨xp, xt, xb, true⟩ (e : Int), a)]))) h') := ⟨by
                    (rw [← List.append_assoc, nds_snoc]); (refine queue_push hQ.out rfl (by rw [nds_length]; exact hp') ?_)
                    rw [hND.out]; exact hh'⟩
                  have hhl2 : Hd (h'.length ≤ (P0 ++ (rest ++ [(kidsE N (grps ps) K ⟨xp, xt, xb, true⟩ (e : Int), a)])).length) := ⟨by
                    (have := hp'.length_eq); (have := hhl.out)
                    simp at *; omega⟩
                  have hq3 : Hd (nds (rest ++ [(kidsE N (grps ps) K ⟨xp, xt, xb, true⟩ (e : Int), a)]) = kids N (grps ps) K (Nd.mk xp xt xb true) (e + 1)) := ⟨by rw [hre2.out, nds_snoc, hre.out]⟩
                  have g10x : Hd (BlkN w10 gx #[.int .i64 xp, .slice ta tl ct, .int .i64 xb, .bool true]) := ⟨(kA.block _ (lt_of_heap g9x.out) (fun e => by
                    rcases e with e | e | e
                    · exact blk_ne g9x.out hT9.out.blk node_ne_tree e
                    · exact hnb.out _ e rfl
                    · exact own_ne hT9.out.els g9x.out int_ne_node _ e rfl)).trans g9x.out⟩
                  have hnb2 : Hd (∀ j : Nat, vn'.ownBlock = some j → j ≠ gx) := ⟨fun j hj => by
                    rcases hvn j hj with h | h
                    · exact hnb.out j h
                    · have := lt_of_heap g9x.out; omega⟩
                  (clear hT' hp' hh' kA hvn HA2 hT9 g9x hQ hhl hre hre2 hND hnb); (go_wp2); (go_roundw)
                  case rel => exact ⟨e + 1, _, vn', ve', h', by omega, by go_num, hhl2, hq3, hT'', hQ2, g10x, hnb2⟩
                  case measure => simp [intOf]; omega
              · (obtain rfl : N = e := by omega); (have he1 : ¬ (N : Int) < (N : Int) := by omega)
                have hnew : Hd (nds (P0 ++ rest) = stepS N (grps ps) (nds p)) := ⟨by
                  (unfold stepS); (rw [hK.out, hsx.out, ← hre.out, show nds (P0 ++ rest) = nds P0 ++ nds rest by simp [nds], hndp.out])
                  rfl⟩
                have hrun : Hd (nds (P0 ++ rest) = runS N (grps ps) (WN : Int) (t + 1)) := ⟨by rw [hnew.out, hq.out]; rfl⟩
                have hno2 : Hd (∀ j, j < t + 1 → stopS N U lim (runS N (grps ps) (WN : Int) j) = false) := ⟨fun j hj => by
                  by_cases h : j = t
                  · subst h; rw [← hq.out]; exact hst.out
                  · exact hno.out j (by omega)⟩
                have hxN : Go.Mg.isTail (N : Int) (selN (nds p)).tail = true := by rw [hsx.out]; exact hx1.out
                have hlen : (P0 ++ rest).length + tl = m + N := by
                  (have := step_len (grps ps) hxN); (rw [← hnew.out, nds_length, hsx.out, nds_length, hm.out] at this); (simp only at this); (rw [htl2.out] at this; exact this)
                have hW2 : Hd (WfN N (nds (P0 ++ rest)) ∧ HasLeaf (nds (P0 ++ rest))) := ⟨by
                  (rw [hnew.out]); (refine ⟨wf_step hpN.out hW.out.1 (by rw [hK.out, nds_length, hm.out]; exact hk1), step_leaf hxN ?_⟩); (rw [hsx.out]); (simp only)
                  rw [htl2.out]; exact hT3⟩
                have hlenB : Hd (lenC wr gt 0 = (P0 ++ rest).length) := ⟨by
                  obtain ⟨_, a, c, e, _⟩ := Rd.of_own hT.out.own.own
                  exact lenC_eq (a := a) (cap := c) (by rw [(slot2 hT.out.blk).1, e])⟩
                (have hhl3 := hhl.out); (clear hnew hst hq hno hW hre g6 hnb hhl); (go_wp2); (go_roundw)
                case rel => exact ⟨t + 1, P0 ++ rest, un, ve, h, by omega, hhl3, hrun, hno2, hW2, hT, hQ⟩
                case measure => rw [hlenA.out, hlenB.out]; omega
end Go.Proofs.YtaobaaaihgahfaaGreat
