/- margin.all, margin.Tail (printed by gen_mtail.py). -/
import Derived.Test.YtaobaaaihgahfaaGreatRepY
namespace Go.Mg
open Go.Pil
/-- The rows from q on, the last first. -/
def dinR (n : Nat) (gs : List Grp) (tail : List Int) (m q : Nat) : List Int := (List.range (m - q)).flatMap fun t => rowI n gs tail (m - 1 - t)
theorem dinR_step {n : Nat} {gs : List Grp} {tail : List Int} {m q : Nat} (h : q < m) : dinR n gs tail m q = dinR n gs tail m (q + 1) ++ rowI n gs tail q := by
  (unfold dinR); (rw [show m - q = (m - (q + 1)) + 1 by omega, List.range_succ, List.flatMap_append]); (simp only [List.flatMap_cons, List.flatMap_nil, List.append_nil]); (rw [show m - 1 - (m - (q + 1)) = q by omega])
theorem dinR_all (n : Nat) (gs : List Grp) (tail : List Int) (m : Nat) (L : List Int) : mx (dinR n gs tail m 0 ++ L) = mx (dinK n gs tail m ++ L) := by
  have h : ∀ x, x ∈ dinR n gs tail m 0 ↔ x ∈ dinK n gs tail m := fun x => by
    (unfold dinR dinK); (simp only [List.mem_flatMap, List.mem_range])
    constructor
    · rintro ⟨t, ht, hx⟩; exact ⟨m - 1 - t, by omega, hx⟩
    · rintro ⟨t, ht, hx⟩; exact ⟨m - 1 - t, by omega, by rw [show m - 1 - (m - 1 - t) = t by omega]; exact hx⟩
  exact mx_eq (fun x hx => .inr (by
    rcases List.mem_append.1 hx with hx | hx
    · exact List.mem_append_left _ ((h x).1 hx)
    · exact List.mem_append_right _ hx)) (fun x hx => .inr (by
    rcases List.mem_append.1 hx with hx | hx
    · exact List.mem_append_left _ ((h x).2 hx)
    · exact List.mem_append_right _ hx))
theorem flags_drop {n : Nat} {tail : List Int} {q : Nat} (h : q < tail.length) (c : Nat) (hc : tail.getD q 0 = (c : Int)) : flags n (tail.drop (q + 1) ++ [(c : Int)]) = flags n (tail.drop q) := by
  (have e : tail[q] = (c : Int) := by rw [← hc, List.getD_eq_getElem?_getD, List.getElem?_eq_getElem h]; rfl); (refine flags_congr fun x _ _ => ?_); (rw [List.drop_eq_getElem_cons h, e]); (simp only [List.mem_append, List.mem_cons, List.not_mem_nil, or_false]); (exact Or.comm)
theorem din_le {n : Nat} {m : Int} {gs : List Grp} (h : isPile m gs = true) (tail : List Int) (mm q : Nat) : ∀ x ∈ dinR n gs tail mm q, x ≤ 100000 := fun x hx => by
  (unfold dinR at hx); (obtain ⟨t, _, hx⟩ := List.mem_flatMap.1 hx); (unfold rowI at hx); (obtain ⟨d, _, rfl⟩ := List.mem_map.1 hx); (have := vt_small (n := n) h (tail.drop (mm - 1 - t)) (tail.getD (mm - 1 - t) 0)); (have := vt_small (n := n) h (tail.drop (mm - 1 - t)) d)
  omega
theorem dout_le {n : Nat} {m : Int} {gs : List Grp} (h : isPile m gs = true) (tail : List Int) (k : Nat) : ∀ x ∈ doutK n gs tail k, x ≤ 100000 := fun x hx => by
  (unfold doutK at hx); (obtain ⟨e, _, hx⟩ := List.mem_flatMap.1 hx); (unfold colE at hx); (obtain ⟨t, _, rfl⟩ := List.mem_map.1 hx); (have := vt_small (n := n) h (allC n) e); (have := prefers_small h t e)
  omega
end Go.Mg
namespace Go.Proofs.YtaobaaaihgahfaaGreat
open Go.RowKit Go.Mk Go.Pil Go.Mg
theorem repC_flags (n : Nat) : repC (Value.bool true) (Value.bool false) n n = zsT (flags n (allC n)) := by
  rw [flags_all]; unfold repC zsT; simp
set_option maxHeartbeats 400000 in
theorem mall_any (n : Nat) (w : World) (hn : n ≤ 7) : Calls Tryz.prog 144 #[.int .i64 (n : Int)] w fun e w' => ∃ v', e = .returned v' ∧ RdT w' v' (flags n (allC n)) ∧ Kept no w w' := by
  (have k0 := hid ((Kept.refl no w).alloc (.cells #[.bool true] 4))); (have hx : Rd (w.alloc (.cells #[.bool true] 4)) 1 (.slice (some ⟨w.heap.size, 0, none⟩) 1 1) 1 [Value.bool true] := Rd.block (us := [Value.bool true]) (heap_alloc_new w _) rfl (by decide)); (have HR := hid (rept_any n _ _ (by omega) hx)); (clear hx)
  go_enter Tryz.func144, Tryz.ntmps144
  (go_wp2_with fail); (refine HR.out.mono ?_); (rintro e w2 ⟨g, rfl, hg, _, k2⟩)
  have hrd := hid (show RdT w2 (.slice (some ⟨g, 0, none⟩) n n) (flags n (allC n)) from by
    rw [repC_flags] at hg
    exact zsT_rd hg n (flags_len _ _) (by have : maxLen = 9223372036854775807 := rfl; omega))
  (have K2 := hid (k0.out.trans' k2)); (clear hg k2 HR); (go_wp2); (go_ret); (exact ⟨_, rfl, hrd.out, K2.out⟩)
set_option maxRecDepth 100000 in
set_option maxHeartbeats 4000000 in
theorem mtail_any (n : Int) (v vz : Value) (ps : List (Grp × Value)) (tail : List Int) (w : World) (hr : RdG w v ps) (hz : RdZ w vz tail) :
    Calls Tryz.prog 85 #[.int .i64 n, v, vz] w fun e w' => e = .returned (.int .i64 (tailB n (grps ps) tail)) ∧ Kept no w w' := by
  (obtain ⟨ag, cg, rfl, _, _⟩ := hr.shape); (have HV := hid (valid_any n _ ps w hr)); (obtain ⟨at_, ct, rfl⟩ := Rd.shapeZ hz)
  by_cases hv : (decide (1 ≤ n ∧ n ≤ 7) && isPile n (grps ps)) = true
  case neg =>
    have hv : (decide (1 ≤ n ∧ n ≤ 7) && isPile n (grps ps)) = false := by simpa using hv
    have hres : Hd (tailB n (grps ps) tail = -1) := ⟨by
      (unfold tailB; rw [if_neg]); (rintro ⟨h1, h2, _⟩)
      rw [decide_eq_true h1, h2] at hv; cases hv⟩
    (rw [hv] at HV); (clear hr hz hv)
    go_enter Tryz.func85, Tryz.ntmps85
    (go_wp2_with fail); (refine HV.out.mono ?_); (rintro e w1 ⟨rfl, k1⟩); (replace k1 := hid k1); (clear HV); (go_wp2); (go_ret); (exact ⟨by rw [hres.out]; rfl, k1.out⟩)
  rw [hv] at HV
  have hv1 : (1 ≤ n ∧ n ≤ 7) ∧ isPile n (grps ps) = true := by
    rw [Bool.and_eq_true, decide_eq_true_iff] at hv; exact hv
  (have HT := hid (fun w h => mistail_any n (.slice at_ tail.length ct) tail w (by omega) h)); (clear hv)
  cases ht : isTail n tail with
  | false =>
    rw [ht] at HT
    have hres : Hd (tailB n (grps ps) tail = -1) := ⟨by
      (unfold tailB; rw [if_neg]); (rintro ⟨_, _, h⟩)
      rw [ht] at h; cases h⟩
    (replace hz := hid hz); (clear hr hv1 ht)
    go_enter Tryz.func85, Tryz.ntmps85
    (go_wp2_with fail); (refine HV.out.mono ?_); (rintro e w1 ⟨rfl, k1⟩); (replace k1 := hid k1); (clear HV); (go_wp2_with fail); (refine (HT.out _ (hz.out.kept k1.out)).mono ?_); (rintro e w2 ⟨rfl, k2⟩); (replace k2 := hid (k1.out.trans' k2)); (clear k1 HT); (go_wp2); (go_ret); (exact ⟨by rw [hres.out]; rfl, k2.out⟩)
  | true =>
    (rw [ht] at HT); (obtain ⟨N, rfl⟩ : ∃ N : Nat, n = (N : Int) := ⟨n.toNat, by omega⟩); (have hN1 : 0 < N := by omega); (have hN7 : N ≤ 7 := by omega); (have hp7 : Hd (isPile 7 (grps ps) = true) := ⟨isPile_mono (by omega) hv1.2⟩)
    have hres : Hd (tailB (N : Int) (grps ps) tail = half (mx (dinR N (grps ps) tail tail.length 0 ++ doutK N (grps ps) tail N))) := ⟨by
      unfold tailB; rw [if_pos ⟨hv1.1, hv1.2, ht⟩, Int.toNat_natCast, dinR_all, dinK_all, doutK_all]; rfl⟩
    (have htl := isTail_iff.1 ht); (obtain ⟨b, o, cap0, he, hm0, hmc, hTc⟩ := tail_at hz ht)
    cases he
    (have hm7 := tail_len7 ht hN7); (have hfd := hid (fun (q : Nat) (h : q < tail.length) (c : Nat) (hc : tail.getD q 0 = (c : Int)) => flags_drop (n := N) h c hc)); (have hf0 : Hd (flags N (tail.drop tail.length) = List.replicate N false) := ⟨by rw [List.drop_length, flags_nil]⟩); (obtain ⟨m, hm⟩ : ∃ m, tail.length = m := ⟨_, rfl⟩); (rw [hm] at hm0 hmc hTc hm7 hz HT hres hfd hf0 ⊢); (replace hm := hid hm); (replace hz := hid hz); (replace hr := hid hr); (replace htl := hid htl); (replace hTc := hid hTc); (have hmI : IntKind.i64.wrap ((m : Int) - 1) = (m : Int) - 1 := IntWalk.i64_in _ (by omega)); (clear hv1 ht)
    go_enter Tryz.func85, Tryz.ntmps85
    (go_wp2_with fail); (refine HV.out.mono ?_); (rintro e w1 ⟨rfl, k1⟩); (replace k1 := hid k1); (clear HV); (go_wp2_with fail); (refine (HT.out _ (hz.out.kept k1.out)).mono ?_); (rintro e w2 ⟨rfl, k2⟩); (replace k2 := hid (k1.out.trans' k2)); (have hmk := makeT N (by omega) w2); (have g0 : Hd ((w2.alloc (.cells (zsT (List.replicate N false)) 4)).heap[w2.heap.size]? = some (.cells (zsT (flags N (tail.drop m))) 4 (0, 0))) := ⟨by rw [hf0.out]; exact heap_alloc_new _ _⟩); (have k3 := hid (k2.out.alloc (.cells (zsT (List.replicate N false)) 4))); (have hgw : Hd (w.heap.size ≤ w2.heap.size) := ⟨k2.out.size⟩); (clear k1 HT k2); (go_wp2)
    go_loopw [7, 9] (fun B i wr => ∃ (q : Nat) (bb : Int), q ≤ m ∧ i = .int .i64 ((q : Int) - 1) ∧ B = .int .i64 bb ∧ Hd (bb = mx (dinR N (grps ps) tail m q)) ∧ Hd (wr.heap[w2.heap.size]? = some (.cells (zsT (flags N (tail.drop q))) 4 (0, 0))) ∧ Hd (Kept no w wr)) (fun _ i _ => (intOf i + 1).toNat)
    case atStart => exact ⟨m, 0, by omega, by first | rfl | go_num, rfl, ⟨by simp [dinR, mx]⟩, g0, k3⟩
    case round =>
      (clear g0 k3); (obtain ⟨q1, bb, hk, rfl, rfl, hB, hg, hK⟩ := hrel)
      by_cases hlt : 0 < q1
      · (obtain ⟨q, rfl⟩ : ∃ q, q1 = q + 1 := ⟨q1 - 1, by omega⟩); (have hqi : ((q + 1 : Nat) : Int) - 1 = (q : Int) := by omega); (rw [hqi]); (have hq0 : (0 : Int) ≤ (q : Int) := by omega); (have hqm : (q : Int) < (m : Int) := by omega); (have hqs : IntKind.i64.wrap ((q : Int) - 1) = (q : Int) - 1 := IntWalk.i64_in _ (by omega)); (have hqa : IntKind.i64.wrap ((q : Int) + 1) = ((q + 1 : Nat) : Int) := by rw [IntWalk.i64_in _ (by omega)]; omega); (obtain ⟨ck, hckN, hck, hTk⟩ := hTc.out q (by omega)); (have hTk1 := hK.out.cell hTk id); (have hckI : (ck : Int) < (N : Int) := by omega); (have hckJ : (0 : Int) ≤ (ck : Int) := by omega); (have fs : wr.frozen? ⟨w2.heap.size, ck, none⟩ = false := row_free hg.out ck)
        have cs : wr.cell? ⟨w2.heap.size, ck, none⟩ = some (.bool ((flags N (tail.drop (q + 1))).getD ck false)) := by
          (rw [cell_of_row wr _ ck _ _ _ hg.out]); (have : ck < (flags N (tail.drop (q + 1))).length := by rw [flags_len]; exact hckN)
          simp [zsT, this]
        (have hg1 : Hd ((wr.setCell ⟨w2.heap.size, ck, none⟩ (.bool true)).heap[w2.heap.size]? = some (.cells (zsT (flags N (tail.drop q))) 4 (0, 0))) := ⟨by rw [setCell_row hg.out, zsT_set, flags_set _ _ hckN, hfd.out q (by omega) ck hck]⟩); (have hK1 := hid (hK.out.setCell (a := ⟨w2.heap.size, ck, none⟩) (.inr hgw.out) (.bool true))); (have hrd : Hd (RdT (wr.setCell ⟨w2.heap.size, ck, none⟩ (.bool true)) (.slice (some ⟨w2.heap.size, 0, none⟩) N N) (flags N (tail.drop q))) := ⟨zsT_rd hg1.out N (flags_len _ _) (by have : maxLen = 9223372036854775807 := rfl; omega)⟩); (have HC := first_any _ _ ps _ _ (hr.out.kept hK1.out) hrd.out); (rw [first_firstV hp7.out hN7] at HC); (replace HC := hid HC); (clear hg hK hrd hqi); (go_wp2_with fail); (refine HC.out.mono ?_); (rintro e w4 ⟨vv, rfl, ov⟩); (have hK4 := hid (hK1.out.trans' ov.kept)); (have hg4 := hid ((ov.kept.block _ (Array.getElem?_eq_some_iff.1 hg1.out).1 id).trans hg1.out)); (obtain ⟨bV, oV, cV, rfl, hVc⟩ := votes_at ov hN1); (replace hVc := hid hVc); (have hTk4 := hid (hK4.out.cell hTk id)); (have hVk := hid (hVc.out ck hckN)); (have hsm : Hd (∀ c, 0 ≤ vt N (grps ps) (tail.drop q) c ∧ vt N (grps ps) (tail.drop q) c ≤ 100000) := ⟨fun c => vt_small hp7.out _ c⟩)
        have hrow : Hd (∀ t : Nat, q + 1 + t < m → ∀ cj : Nat, tail.getD (q + 1 + t) 0 = (cj : Int) → (rowI N (grps ps) tail q).getD t 0 = vt N (grps ps) (tail.drop q) (ck : Int) - vt N (grps ps) (tail.drop q) (cj : Int)) := ⟨fun t h2 cj h3 => by
          have := rowI_at (n := N) (gs := grps ps) (tail := tail) (i := q) (k := t) (by rw [hm.out]; omega)
          rw [this, hck, h3]⟩
        (obtain ⟨VT, hVT⟩ : ∃ f, vt N (grps ps) (tail.drop q) = f := ⟨_, rfl⟩); (rw [hVT] at hVc hVk hsm hrow); (have hxk := hsm.out (ck : Int)); (obtain ⟨xk, hxe⟩ : ∃ x, VT (ck : Int) = x := ⟨_, rfl⟩); (rw [hxe] at hVk hxk hrow); (have hsl := post_sliceI (some ⟨b, o, none⟩) m ct (q + 1) (by omega)); (have hdr := (hz.out.kept hK4.out).dropI (q + 1) (by rw [hm.out]; omega)); (rw [hm.out] at hdr); (obtain ⟨ad, had⟩ : ∃ ad, (if ct = q + 1 then (some ⟨b, o, none⟩ : Option Addr) else (some ⟨b, o, none⟩ : Option Addr).map (·.add (q + 1))) = ad := ⟨_, rfl⟩); (rw [had] at hsl hdr); (obtain ⟨mq, hmq⟩ : ∃ mq, m - (q + 1) = mq := ⟨_, rfl⟩); (obtain ⟨cq, hcq⟩ : ∃ cq, ct - (q + 1) = cq := ⟨_, rfl⟩); (rw [hmq, hcq] at hsl hdr); (have hld : Hd ((tail.drop (q + 1)).length = mq) := ⟨by rw [List.length_drop, hm.out, hmq]⟩); (have hmq1 : q + 1 + mq = m := by omega); (have hqc : ((q + 1 : Nat) : Int) = (q : Int) + 1 := by omega); (rw [hqc] at hqa hsl); (replace hdr := hid hdr); (clear ov HC hVT hTk hTk1 hxe hg1 hK1 fs cs had hmq hcq hqc); (obtain ⟨w9, rfl⟩ : ∃ w9 : World, w9 = wr := ⟨_, rfl⟩); (go_wp2)
        go_loopw [7, 55] (fun B j wr => ∃ (t : Nat) (b2 : Int), t ≤ mq ∧ j = .int .i64 (t : Int) ∧ B = .int .i64 b2 ∧ Hd (b2 = mx (dinR N (grps ps) tail m (q + 1) ++ (rowI N (grps ps) tail q).take t)) ∧ Hd (Kept no w4 wr)) (fun _ j _ => mq - (intOf j).toNat)
        case atStart => exact ⟨0, bb, by omega, rfl, rfl, ⟨by rw [hB.out, List.take_zero, List.append_nil]⟩, ⟨Kept.refl _ _⟩⟩
        case round =>
          obtain ⟨t, b2, hj, rfl, rfl, hB2, hK2⟩ := hrel
          by_cases hjl : t < mq
          · (have hj1 : (t : Int) < (mq : Int) := by omega); (have hj00 : (0 : Int) ≤ (t : Int) := by omega); (obtain ⟨cj, hcjN, hcj, _⟩ := hTc.out (q + 1 + t) (by omega)); (obtain ⟨bd, od, hde, hTj⟩ := (hdr.out.kept hK2.out).at t (by rw [hld.out]; exact hjl)); (obtain rfl := hde)
            have hde2 : (tail.drop (q + 1)).getD t 0 = (cj : Int) := by
              rw [← hcj, List.getD_eq_getElem?_getD, List.getD_eq_getElem?_getD, List.getElem?_drop]
            (rw [hde2] at hTj); (have hTk5 := hid (hK2.out.cell hTk4.out id)); (have hVk5 := hid (hK2.out.cell hVk.out id)); (have hVj5 := hid (hK2.out.cell (hVc.out cj hcjN) id)); (have hxj := hsm.out (cj : Int)); (have hst := hid (mx_take (dinR N (grps ps) tail m (q + 1)) (rowI N (grps ps) tail q) t (by rw [rowI_len, hm.out]; omega))); (rw [hrow.out t (by omega) cj hcj] at hst); (obtain ⟨xj, hxje⟩ : ∃ x, VT (cj : Int) = x := ⟨_, rfl⟩); (rw [hxje] at hVj5 hxj hst); (have hwr : IntKind.i64.wrap (xk - xj) = xk - xj := IntWalk.i64_in _ (by omega)); (have hcjI : (cj : Int) < (N : Int) := by omega); (have hcjJ : (0 : Int) ≤ (cj : Int) := by omega); (have hB3 : Hd (max b2 (xk - xj) = mx (dinR N (grps ps) tail m (q + 1) ++ (rowI N (grps ps) tail q).take (t + 1))) := ⟨by rw [hst.out, ← hB2.out]⟩); (clear hxje hst hB2 hcj hde2); (go_upto_region 13 with fail); (refine region_flow (S := no) (Sl := (fun _ => no)) [Is (.int .i64 b2), Is (.slice (some ⟨bV, oV, none⟩) N cV), Is (.slice (some ⟨b, o, none⟩) m ct), Is (.int .i64 (q : Int)), Is (.pointer (some ⟨b, o + q, none⟩)), Is (.int .i64 (ck : Int)), Is (.pointer (some ⟨bV, oV + ck, none⟩)), Is (.int .i64 xk), Is (.slice (some ⟨bV, oV, none⟩) N cV), Is (.int .i64 (cj : Int)), Is (.pointer (some ⟨bV, oV + cj, none⟩)), Is (.int .i64 xj), Is (.int .i64 (xk - xj)), Is (.int .i64 (max b2 (xk - xj))), Is (.int .i64 (max b2 (xk - xj)))] [] (fun _ _ h => h) _ (by kernel_rfl) (by kernel_rfl) (by kernel_rfl) (by kernel_rfl) (fun x => by simp only [puts, Act.put, List.map_cons, List.map_nil, Nat.zero_add, Nat.reduceAdd, List.setIfInBounds_toArray, List.set_cons_zero, List.set_cons_succ]; exact rfl) ?_ ?_)
            · (skip); (refine .cons (fun x wf Kk hq hdep hold => ?_) ?_)
              · (try dsimp only); (have h14 : x 14 = (.int .i64 b2) := hold 14 (by kernel_rfl)); (clear hq hdep hold); (simp only [h14]); (clear h14); (rw [if_pos (by rfl)]); (refine OpY.val ?_ ⟨Kept.refl _ _, rfl⟩); (first | rfl | go_simp)
              refine .cons (fun x wf Kk hq hdep hold => ?_) ?_
              · (try dsimp only); (clear hq hdep hold); (rw [if_pos (by rfl)]); (refine OpY.val ?_ ⟨Kept.refl _ _, rfl⟩); (first | rfl | go_simp)
              refine .cons (fun x wf Kk hq hdep hold => ?_) ?_
              · (try dsimp only); (clear hq hdep hold); (rw [if_pos (by rfl)]); (refine OpY.val ?_ ⟨Kept.refl _ _, rfl⟩); (first | rfl | go_simp)
              refine .cons (fun x wf Kk hq hdep hold => ?_) ?_
              · (try dsimp only); (clear hq hdep hold); (rw [if_pos (by rfl)]); (refine OpY.val ?_ ⟨Kept.refl _ _, rfl⟩); (first | rfl | go_simp)
              refine .cons (fun x wf Kk hq hdep hold => ?_) ?_
              · (try dsimp only); (have h2 : x 2 = _ := hdep 2 (by kernel_rfl)); (have h3 : x 3 = _ := hdep 3 (by kernel_rfl)); (clear hq hdep hold); (simp only [h2, h3]); (clear h2 h3); (rw [if_pos (by rfl)]); (refine OpY.val ?_ ⟨Kept.refl _ _, rfl⟩); (first | rfl | go_simp)
              refine .cons (fun x wf Kk hq hdep hold => ?_) ?_
              · (try dsimp only); (have h4 : x 4 = _ := hdep 4 (by kernel_rfl)); (clear hq hdep hold); (simp only [h4]); (clear h4); (have c1 := Kk.undrew.cell hTk5.out id); (rw [if_pos (by rfl)]); (refine OpY.val ?_ ⟨Kept.refl _ _, rfl⟩); (first | rfl | go_simp)
              refine .cons (fun x wf Kk hq hdep hold => ?_) ?_
              · (try dsimp only); (have h1 : x 1 = _ := hdep 1 (by kernel_rfl)); (have h5 : x 5 = _ := hdep 5 (by kernel_rfl)); (clear hq hdep hold); (simp only [h1, h5]); (clear h1 h5); (rw [if_pos (by rfl)]); (refine OpY.val ?_ ⟨Kept.refl _ _, rfl⟩); (first | rfl | go_simp)
              refine .cons (fun x wf Kk hq hdep hold => ?_) ?_
              · (try dsimp only); (have h6 : x 6 = _ := hdep 6 (by kernel_rfl)); (clear hq hdep hold); (simp only [h6]); (clear h6); (have c1 := Kk.undrew.cell hVk5.out id); (rw [if_pos (by rfl)]); (refine OpY.val ?_ ⟨Kept.refl _ _, rfl⟩); (first | rfl | go_simp)
              refine .cons (fun x wf Kk hq hdep hold => ?_) ?_
              · (try dsimp only); (clear hq hdep hold); (rw [if_pos (by rfl)]); (refine OpY.val ?_ ⟨Kept.refl _ _, rfl⟩); (first | rfl | go_simp)
              refine .cons (fun x wf Kk hq hdep hold => ?_) ?_
              · (try dsimp only); (clear hq hdep hold); (rw [if_pos (by rfl)]); (refine OpY.val ?_ ⟨Kept.refl _ _, rfl⟩); (first | rfl | go_simp)
              refine .cons (fun x wf Kk hq hdep hold => ?_) ?_
              · (try dsimp only); (have h8 : x 8 = _ := hdep 8 (by kernel_rfl)); (have h9 : x 9 = _ := hdep 9 (by kernel_rfl)); (clear hq hdep hold); (simp only [h8, h9]); (clear h8 h9); (rw [if_pos (by rfl)]); (refine OpY.val ?_ ⟨Kept.refl _ _, rfl⟩); (first | rfl | go_simp)
              refine .cons (fun x wf Kk hq hdep hold => ?_) ?_
              · (try dsimp only); (have h10 : x 10 = _ := hdep 10 (by kernel_rfl)); (clear hq hdep hold); (simp only [h10]); (clear h10); (have c1 := Kk.undrew.cell hVj5.out id); (rw [if_pos (by rfl)]); (refine OpY.val ?_ ⟨Kept.refl _ _, rfl⟩); (first | rfl | go_simp)
              refine .cons (fun x wf Kk hq hdep hold => ?_) ?_
              · (try dsimp only); (have h7 : x 7 = _ := hdep 7 (by kernel_rfl)); (have h11 : x 11 = _ := hdep 11 (by kernel_rfl)); (clear hq hdep hold); (simp only [h7, h11]); (clear h7 h11); (rw [if_pos (by rfl)]); (refine OpY.val ?_ ⟨Kept.refl _ _, rfl⟩); (first | rfl | go_simp)
              refine .cons (fun x wf Kk hq hdep hold => ?_) ?_
              · (try dsimp only); (have h0 : x 0 = _ := hdep 0 (by kernel_rfl)); (have h12 : x 12 = _ := hdep 12 (by kernel_rfl)); (clear hq hdep hold); (simp only [h0, h12]); (clear h0 h12); (rw [if_pos (by rfl)]); (refine OpY.val ?_ ⟨Kept.refl _ _, rfl⟩); (first | rfl | (go_simp; done) | (go_simp; split <;> omega))
              refine .cons (fun x wf Kk hq hdep hold => ?_) ?_
              · (try dsimp only); (have h13 : x 13 = _ := hdep 13 (by kernel_rfl)); (clear hq hdep hold); (simp only [h13]); (clear h13); (rw [if_pos (by rfl)]); (refine OpY.val ?_ ⟨Kept.refl _ _, rfl⟩); (first | rfl | (go_simp; done) | (go_simp; split <;> omega))
              exact .nil _
            · (intro x wf Kk hv); (try dsimp only); (have h14 : x 14 = _ := hv 14 (by kernel_rfl)); (clear hv); (simp only [h14]); (clear h14); (have hK5 := hid (hK2.out.trans' Kk.undrew)); (clear Kk hK2 hTj hTk5 hVk5 hVj5); (obtain ⟨b3, hb3⟩ : ∃ b3, max b2 (xk - xj) = b3 := ⟨_, rfl⟩); (rw [hb3] at hB3); (clear hwr hxj); (go_wp2); (go_roundw)
              case rel => first | exact ⟨t + 1, b3, by omega, by go_num, by rw [hb3], hB3, hK5⟩ | ((repeat apply Exists.intro); exact ⟨⟨t + 1, b3, by omega, by go_num, by rw [hb3], hB3, hK5⟩, rfl⟩)
              case measure => simp [intOf]; omega
          · (obtain rfl : t = mq := by omega); (have hj1 : ¬ (t : Int) < (t : Int) := by omega)
            have hB5 : Hd (b2 = mx (dinR N (grps ps) tail m q)) := ⟨by
              rw [hB2.out, dinR_step (n := N) (gs := grps ps) (tail := tail) (m := m) (q := q) (by omega), List.take_of_length_le (by rw [rowI_len, hm.out]; omega)]⟩
            (have hK5 := hid (hK4.out.trans' hK2.out)); (have hg5 := hid ((hK2.out.block _ (Array.getElem?_eq_some_iff.1 hg4.out).1 id).trans hg4.out)); (clear hB2 hK2 hK4 hVk hTk4 hrow hg4 hdr hsl); (go_wp2); (go_roundw)
            case rel => first | exact ⟨q, b2, by omega, by first | rfl | go_num, rfl, hB5, hg5, hK5⟩ | ((repeat apply Exists.intro); exact ⟨⟨q, b2, by omega, by first | rfl | go_num, rfl, hB5, hg5, hK5⟩, rfl⟩)
            case measure => first | (simp [intOf]; done) | (simp [intOf]; omega)
      · (obtain rfl : q1 = 0 := by omega); (have hq1 : ¬ (0 : Int) ≤ ((0 : Nat) : Int) - 1 := by omega); (have hq2 : ((0 : Nat) : Int) - 1 = -1 := rfl); (rw [hq2] at hq1 ⊢); (have HA := hid (mall_any N wr hN7)); (have hrg : Hd (RdT wr (.slice (some ⟨w2.heap.size, 0, none⟩) N N) (flags N tail)) := ⟨zsT_rd (by have := hg.out; rwa [List.drop_zero] at this) N (flags_len _ _) (by have : maxLen = 9223372036854775807 := rfl; omega)⟩); (clear hq2 hg); (go_wp2_with fail); (refine HA.out.mono ?_); (rintro e w3 ⟨vf, rfl, hf, k3⟩); (have HC := hid (first_any _ vf ps _ w3 (hr.out.kept (hK.out.trans' k3)) hf)); (rw [first_firstV hp7.out hN7] at HC); (have hK3 := hid (hK.out.trans' k3)); (have hrg3 := hid (hrg.out.kept k3)); (clear hf k3 HA hrg); (go_wp2_with fail); (refine HC.out.mono ?_); (rintro e w4 ⟨vv, rfl, ov⟩); (have hK4 := hid (hK3.out.trans' ov.kept)); (have hrg4 := hid (hrg3.out.kept ov.kept)); (obtain ⟨bV, oV, cV, rfl, hVc⟩ := votes_at ov hN1); (replace hVc := hid hVc); (have hsm : Hd (∀ c, 0 ≤ vt N (grps ps) (allC N) c ∧ vt N (grps ps) (allC N) c ≤ 100000) := ⟨fun c => vt_small hp7.out _ c⟩); (obtain ⟨VT, hVT⟩ : ∃ f, vt N (grps ps) (allC N) = f := ⟨_, rfl⟩)
        have hcol : Hd (∀ (e : Nat) (jn : Nat), jn < m → ∀ cj : Nat, tail.getD jn 0 = (cj : Int) → (colE N (grps ps) tail (e : Int)).getD jn 0 = VT (e : Int) - prefers (grps ps) (cj : Int) (e : Int)) := ⟨fun e jn h1 cj h3 => by
          rw [colE_at (by rw [hm.out]; exact h1), h3, hVT]⟩
        (rw [hVT] at hVc hsm); (clear ov HC hK hK3 hVT hrg3)
        have hLb : Hd (∀ e, mx (dinR N (grps ps) tail m 0 ++ doutK N (grps ps) tail e) ≤ 100000) := ⟨fun e => mx_le (by decide) fun x hx => by
          rcases List.mem_append.1 hx with hx | hx
          · exact din_le hp7.out _ _ _ x hx
          · exact dout_le hp7.out _ _ x hx⟩
        (obtain ⟨L0, hL0⟩ : ∃ L, dinR N (grps ps) tail m 0 = L := ⟨_, rfl⟩); (rw [hL0] at hB hres hLb); (clear hL0); (obtain ⟨w9, rfl⟩ : ∃ w9 : World, w9 = wr := ⟨_, rfl⟩); (go_wp2)
        go_loopw [7, 82] (fun B i wr => ∃ (e : Nat) (bb : Int), e ≤ N ∧ i = .int .i64 (e : Int) ∧ B = .int .i64 bb ∧ Hd (bb = mx (L0 ++ doutK N (grps ps) tail e)) ∧ Hd (Kept no w4 wr)) (fun _ i _ => N - (intOf i).toNat)
        case atStart => exact ⟨0, bb, by omega, rfl, rfl, ⟨by rw [hB.out]; simp [doutK, allC]⟩, ⟨Kept.refl _ _⟩⟩
        case round =>
          (clear hB); (obtain ⟨e, bb, he, rfl, rfl, hB, hK2⟩ := hrel)
          by_cases hel : e < N
          · (have he1 : (e : Int) < (N : Int) := by omega); (have he0 : (0 : Int) ≤ (e : Int) := by omega); (have hVe := hid (hK2.out.cell (hVc.out e hel) id)); (have hxe := hsm.out (e : Int)); (have hce := hid (hcol.out e)); (obtain ⟨xe, hxee⟩ : ∃ x, VT (e : Int) = x := ⟨_, rfl⟩); (rw [hxee] at hVe hxe hce); (have hns := hid (doutK_succ N (grps ps) tail e)); (obtain ⟨L1, hL1⟩ : ∃ L, L0 ++ doutK N (grps ps) tail e = L := ⟨_, rfl⟩); (have hnext : Hd (L0 ++ doutK N (grps ps) tail (e + 1) = L1 ++ if (e : Int) ∈ tail then [] else colE N (grps ps) tail (e : Int)) := ⟨by rw [hns.out, ← List.append_assoc, hL1]⟩); (rw [hL1] at hB); (obtain ⟨bg, og, hge, hgc⟩ := (hrg4.out.kept hK2.out).at e (by rw [flags_len]; exact hel))
            cases hge
            have hfe : (flags N tail).getD e false = decide ((e : Int) ∈ tail) := by
              (have : e < (flags N tail).length := by rw [flags_len]; exact hel); (rw [List.getD_eq_getElem?_getD, List.getElem?_eq_getElem this]; simp [flags])
            (rw [hfe, Nat.zero_add] at hgc); (clear hxee hns hL1 hfe); (obtain ⟨w10, rfl⟩ : ∃ w10 : World, w10 = wr := ⟨_, rfl⟩)
            by_cases het : (e : Int) ∈ tail
            · (rw [decide_eq_true het] at hgc); (have hB5 : Hd (bb = mx (L0 ++ doutK N (grps ps) tail (e + 1))) := ⟨by rw [hB.out, hnext.out, if_pos het, List.append_nil]⟩); (clear hB het hnext hce hVe); (go_wp2); (go_roundw)
              case rel => first | exact ⟨e + 1, bb, by omega, by go_num, rfl, hB5, hK2⟩ | ((repeat apply Exists.intro); exact ⟨⟨e + 1, bb, by omega, by go_num, rfl, hB5, hK2⟩, rfl⟩)
              case measure => simp [intOf]; omega
            (rw [decide_eq_false het] at hgc); (have hKw := hid (hK4.out.trans' hK2.out)); (go_wp2)
            go_loopw [7, 91] (fun B j wr => ∃ (jn : Nat) (b2 : Int), jn ≤ m ∧ j = .int .i64 (jn : Int) ∧ B = .int .i64 b2 ∧ Hd (b2 = mx (L1 ++ (colE N (grps ps) tail (e : Int)).take jn)) ∧ Hd (Kept no w10 wr)) (fun _ j _ => m - (intOf j).toNat)
            case atStart => exact ⟨0, bb, by omega, rfl, rfl, ⟨by rw [hB.out, List.take_zero, List.append_nil]⟩, ⟨Kept.refl _ _⟩⟩
            case round =>
              obtain ⟨jn, b2, hj, rfl, rfl, hB2, hK3⟩ := hrel
              by_cases hjl : jn < m
              · (have hj1 : (jn : Int) < (m : Int) := by omega); (have hj00 : (0 : Int) ≤ (jn : Int) := by omega); (obtain ⟨cj, hcjN, hcj, hTj⟩ := hTc.out jn hjl); (have hst := hid (mx_take L1 (colE N (grps ps) tail (e : Int)) jn (by rw [colE_len, hm.out]; exact hjl))); (rw [hce.out jn hjl cj hcj] at hst); (have hps := prefers_small hp7.out (cj : Int) (e : Int)); (have HP := fun w h => prefers_any (.slice ag ps.length cg) ps (cj : Int) (e : Int) w h); (obtain ⟨pp, hpp⟩ : ∃ x, prefers (grps ps) (cj : Int) (e : Int) = x := ⟨_, rfl⟩); (rw [hpp] at hst hps HP); (have hwr : IntKind.i64.wrap (xe - pp) = xe - pp := IntWalk.i64_in _ (by omega)); (have hB3 : Hd (max b2 (xe - pp) = mx (L1 ++ (colE N (grps ps) tail (e : Int)).take (jn + 1))) := ⟨by rw [hst.out, ← hB2.out]⟩); (replace HP := hid HP); (have hTj5 := ((hKw.out.trans' hK3.out).cell hTj id)); (have hVe5 := hid (hK3.out.cell hVe.out id)); (have hr5 := hid (hr.out.kept (hKw.out.trans' hK3.out))); (clear hpp hst hB2 hcj hTj); (go_upto_region 23 with fail); (clear hTj5); (refine region_flow (S := no) (Sl := (fun _ => no)) [Is (.int .i64 b2), Is (.slice (some ⟨bV, oV, none⟩) N cV), Is (.int .i64 (e : Int)), Is (.pointer (some ⟨bV, oV + e, none⟩)), Is (.int .i64 xe), Is (.slice ag ps.length cg), Is (.int .i64 (cj : Int)), Is (.int .i64 (e : Int)), Is (.int .i64 pp), Is (.int .i64 (xe - pp)), Is (.int .i64 (max b2 (xe - pp))), Is (.int .i64 (max b2 (xe - pp)))] [] (fun _ _ h => h) _ (by kernel_rfl) (by kernel_rfl) (by kernel_rfl) (by kernel_rfl) (fun x => by simp only [puts, Act.put, List.map_cons, List.map_nil, Nat.zero_add, Nat.reduceAdd, List.setIfInBounds_toArray, List.set_cons_zero, List.set_cons_succ]; exact rfl) ?_ ?_)
                · (skip); (refine .cons (fun x wf Kk hq hdep hold => ?_) ?_)
                  · (try dsimp only); (have h11 : x 11 = (.int .i64 b2) := hold 11 (by kernel_rfl)); (clear hq hdep hold); (simp only [h11]); (clear h11); (rw [if_pos (by rfl)]); (refine OpY.val ?_ ⟨Kept.refl _ _, rfl⟩); (first | rfl | go_simp)
                  refine .cons (fun x wf Kk hq hdep hold => ?_) ?_
                  · (try dsimp only); (clear hq hdep hold); (rw [if_pos (by rfl)]); (refine OpY.val ?_ ⟨Kept.refl _ _, rfl⟩); (first | rfl | go_simp)
                  refine .cons (fun x wf Kk hq hdep hold => ?_) ?_
                  · (try dsimp only); (clear hq hdep hold); (rw [if_pos (by rfl)]); (refine OpY.val ?_ ⟨Kept.refl _ _, rfl⟩); (first | rfl | go_simp)
                  refine .cons (fun x wf Kk hq hdep hold => ?_) ?_
                  · (try dsimp only); (have h1 : x 1 = _ := hdep 1 (by kernel_rfl)); (have h2 : x 2 = _ := hdep 2 (by kernel_rfl)); (clear hq hdep hold); (simp only [h1, h2]); (clear h1 h2); (rw [if_pos (by rfl)]); (refine OpY.val ?_ ⟨Kept.refl _ _, rfl⟩); (first | rfl | go_simp)
                  refine .cons (fun x wf Kk hq hdep hold => ?_) ?_
                  · (try dsimp only); (have h3 : x 3 = _ := hdep 3 (by kernel_rfl)); (clear hq hdep hold); (simp only [h3]); (clear h3); (have c1 := Kk.undrew.cell hVe5.out id); (rw [if_pos (by rfl)]); (refine OpY.val ?_ ⟨Kept.refl _ _, rfl⟩); (first | rfl | go_simp)
                  refine .cons (fun x wf Kk hq hdep hold => ?_) ?_
                  · (try dsimp only); (clear hq hdep hold); (rw [if_pos (by rfl)]); (refine OpY.val ?_ ⟨Kept.refl _ _, rfl⟩); (first | rfl | go_simp)
                  refine .cons (fun x wf Kk hq hdep hold => ?_) ?_
                  · (try dsimp only); (clear hq hdep hold); (rw [if_pos (by rfl)]); (refine OpY.val ?_ ⟨Kept.refl _ _, rfl⟩); (first | rfl | go_simp)
                  refine .cons (fun x wf Kk hq hdep hold => ?_) ?_
                  · (try dsimp only); (clear hq hdep hold); (rw [if_pos (by rfl)]); (refine OpY.val ?_ ⟨Kept.refl _ _, rfl⟩); (first | rfl | go_simp)
                  refine .cons (fun x wf Kk hq hdep hold => ?_) ?_
                  · (try dsimp only); (have h5 : x 5 = _ := hdep 5 (by kernel_rfl)); (have h6 : x 6 = _ := hdep 6 (by kernel_rfl)); (have h7 : x 7 = _ := hdep 7 (by kernel_rfl)); (clear hq hdep hold); (simp only [h5, h6, h7]); (clear h5 h6 h7); (rw [if_pos (by rfl)]); (refine OpY.call (f := 90) (args := #[(.slice ag ps.length cg), (.int .i64 (cj : Int)), (.int .i64 (e : Int))]) (by go_simp) ?_); (refine (HP.out _ (hr5.out.kept Kk.undrew)).mono ?_); (rintro e w2 ⟨rfl, k2⟩); (exact ⟨_, rfl, k2, rfl⟩)
                  refine .cons (fun x wf Kk hq hdep hold => ?_) ?_
                  · (try dsimp only); (have h4 : x 4 = _ := hdep 4 (by kernel_rfl)); (have h8 : x 8 = _ := hdep 8 (by kernel_rfl)); (clear hq hdep hold); (simp only [h4, h8]); (clear h4 h8); (rw [if_pos (by rfl)]); (refine OpY.val ?_ ⟨Kept.refl _ _, rfl⟩); (first | rfl | go_simp)
                  refine .cons (fun x wf Kk hq hdep hold => ?_) ?_
                  · (try dsimp only); (have h0 : x 0 = _ := hdep 0 (by kernel_rfl)); (have h9 : x 9 = _ := hdep 9 (by kernel_rfl)); (clear hq hdep hold); (simp only [h0, h9]); (clear h0 h9); (rw [if_pos (by rfl)]); (refine OpY.val ?_ ⟨Kept.refl _ _, rfl⟩); (first | rfl | (go_simp; done) | (go_simp; split <;> omega))
                  refine .cons (fun x wf Kk hq hdep hold => ?_) ?_
                  · (try dsimp only); (have h10 : x 10 = _ := hdep 10 (by kernel_rfl)); (clear hq hdep hold); (simp only [h10]); (clear h10); (rw [if_pos (by rfl)]); (refine OpY.val ?_ ⟨Kept.refl _ _, rfl⟩); (first | rfl | (go_simp; done) | (go_simp; split <;> omega))
                  exact .nil _
                · (intro x wf Kk hv); (try dsimp only); (have h11 : x 11 = _ := hv 11 (by kernel_rfl)); (clear hv); (simp only [h11]); (clear h11); (have hK6 := hid (hK3.out.trans' Kk.undrew)); (clear Kk hK3 hVe5 HP hr5); (obtain ⟨b3, hb3⟩ : ∃ b3, max b2 (xe - pp) = b3 := ⟨_, rfl⟩); (rw [hb3] at hB3); (clear hwr hps); (go_wp2); (go_roundw)
                  case rel => first | exact ⟨jn + 1, b3, by omega, by go_num, by rw [hb3], hB3, hK6⟩ | ((repeat apply Exists.intro); exact ⟨⟨jn + 1, b3, by omega, by go_num, by rw [hb3], hB3, hK6⟩, rfl⟩)
                  case measure => simp [intOf]; omega
              · (obtain rfl : jn = m := by omega); (have hj1 : ¬ (jn : Int) < (jn : Int) := by omega)
                have hB5 : Hd (b2 = mx (L0 ++ doutK N (grps ps) tail (e + 1))) := ⟨by
                  rw [hB2.out, hnext.out, if_neg het, List.take_of_length_le (by rw [colE_len, hm.out]; exact Nat.le_refl _)]⟩
                (have hK5 := hid (hK2.out.trans' hK3.out)); (clear hB2 hB het hnext hce hVe hK3); (go_wp2); (go_roundw)
                case rel => first | exact ⟨e + 1, b2, by omega, by go_num, rfl, hB5, hK5⟩ | ((repeat apply Exists.intro); exact ⟨⟨e + 1, b2, by omega, by go_num, rfl, hB5, hK5⟩, rfl⟩)
                case measure => simp [intOf]; omega
          · (obtain rfl : e = N := by omega); (have he1 : ¬ (e : Int) < (e : Int) := by omega); (have hfin : Hd (tailB (e : Int) (grps ps) tail = half bb) := ⟨by rw [hres.out, hB.out]⟩); (have hbb : 0 ≤ bb ∧ bb ≤ 100000 := ⟨by rw [hB.out]; exact (mx_spec _).1, by rw [hB.out]; exact hLb.out e⟩); (have HH := hid (fun w => mhalf_any bb w (by omega))); (obtain ⟨h, hh⟩ : ∃ h, half bb = h := ⟨_, rfl⟩); (rw [hh] at HH hfin); (have hK5 := hid (hK4.out.trans' hK2.out)); (clear hB hK2 hK4 hh hbb); (go_wp2_with fail); (refine (HH.out _).mono ?_); (rintro _ w5 ⟨rfl, rfl⟩); (go_wp2); (go_ret); (exact ⟨by rw [hfin.out]; rfl, hK5.out⟩)
end Go.Proofs.YtaobaaaihgahfaaGreat
