/- margin.Upper (printed by gen_mupper.py). -/
import Derived.Test.YtaobaaaihgahfaaGreatMpLY
import Derived.Test.YtaobaaaihgahfaaGreatMTailY
namespace Go.Mg
open Go.Pil
end Go.Mg
namespace Go.Proofs.YtaobaaaihgahfaaGreat
open Go.RowKit Go.Mk Go.Pil Go.Mg
theorem int_ne_bool : 3 ≠ 4 := by decide
theorem OwZ.setB {w0 w : World} {v : Value} {zs : List Int} (h : OwZ w0 w v zs) {g : Nat} {c : Array Value} {fr : Nat × Nat} (hg : w.heap[g]? = some (.cells c 4 fr)) (hn : w0.heap.size ≤ g) (j : Nat) (u : Value) : OwZ w0 (w.setCell ⟨g, j, none⟩ u) v zs :=
  ⟨((Kept.refl (fun k => k = g) w).setCell (a := ⟨g, j, none⟩) (.inl rfl) u).ownsRow h.own fun k hk e => own_ne h.own hg int_ne_bool k hk e, h.kept.setCell (.inr hn) u, h.new⟩
set_option maxRecDepth 20000 in
set_option maxHeartbeats 1000000 in
/-- The closure of Upper: has d fewer votes than c? -/
theorem upper1_any (d c : Nat) (gv gc bV oV cV N : Nat) (vd vc : Int) (w : World) (hd : d < N) (hc : c < N) (hv : w.cell? ⟨gv, 0, none⟩ = some (.slice (some ⟨bV, oV, none⟩) N cV)) (hcc : w.cell? ⟨gc, 0, none⟩ = some (.int .i64 (c : Int)))
    (h1 : w.cell? ⟨bV, oV + d, none⟩ = some (.int .i64 vd)) (h2 : w.cell? ⟨bV, oV + c, none⟩ = some (.int .i64 vc)) :
    Calls Tryz.prog 83 #[.int .i64 (d : Int), .pointer (some ⟨gv, 0, none⟩), .pointer (some ⟨gc, 0, none⟩)] w fun e w' => e = .returned (.bool (decide (vd < vc))) ∧ Kept no w w' := by
  (have hdi : (d : Int) < (N : Int) := by omega); (have hd0 : (0 : Int) ≤ (d : Int) := by omega); (have hci : (c : Int) < (N : Int) := by omega); (have hc0 : (0 : Int) ≤ (c : Int) := by omega); (obtain ⟨b, hb⟩ : ∃ b, decide (vd < vc) = b := ⟨_, rfl⟩); (rw [hb]); (replace hb := hid hb); (replace hv := hid hv); (replace hcc := hid hcc); (replace h1 := hid h1); (replace h2 := hid h2)
  go_enter Tryz.func83, Tryz.ntmps83
  (go_upto_region 1 with fail); (refine region_flow (S := no) (Sl := (fun _ => no)) [Is (.slice (some ⟨bV, oV, none⟩) N cV), Is (.int .i64 (d : Int)), Is (.pointer (some ⟨bV, oV + d, none⟩)), Is (.int .i64 vd), Is (.slice (some ⟨bV, oV, none⟩) N cV), Is (.int .i64 (c : Int)), Is (.pointer (some ⟨bV, oV + c, none⟩)), Is (.int .i64 vc), Is (.bool b), Is (.bool b)] [] (fun _ _ h => h) _ (by kernel_rfl) (by kernel_rfl) (by kernel_rfl) (by kernel_rfl) (fun x => by simp only [puts, Act.put, List.map_cons, List.map_nil, Nat.zero_add, Nat.reduceAdd, List.setIfInBounds_toArray, List.set_cons_zero, List.set_cons_succ]; exact rfl) ?_ ?_)
  · (skip); (refine .cons (fun x wf Kk hq hdep hold => ?_) ?_)
    · (try dsimp only); (clear hq hdep hold); (have c1 := Kk.undrew.cell hv.out id); (rw [if_pos (by rfl)]); (refine OpY.val ?_ ⟨Kept.refl _ _, rfl⟩); (first | rfl | go_simp)
    refine .cons (fun x wf Kk hq hdep hold => ?_) ?_
    · (try dsimp only); (clear hq hdep hold); (rw [if_pos (by rfl)]); (refine OpY.val ?_ ⟨Kept.refl _ _, rfl⟩); (first | rfl | go_simp)
    refine .cons (fun x wf Kk hq hdep hold => ?_) ?_
    · (try dsimp only); (have h0 : x 0 = _ := hdep 0 (by kernel_rfl)); (have h1 : x 1 = _ := hdep 1 (by kernel_rfl)); (clear hq hdep hold); (simp only [h0, h1]); (clear h0 h1); (rw [if_pos (by rfl)]); (refine OpY.val ?_ ⟨Kept.refl _ _, rfl⟩); (first | rfl | go_simp)
    refine .cons (fun x wf Kk hq hdep hold => ?_) ?_
    · (try dsimp only); (have h2 : x 2 = _ := hdep 2 (by kernel_rfl)); (clear hq hdep hold); (simp only [h2]); (clear h2); (have c1 := Kk.undrew.cell h1.out id); (rw [if_pos (by rfl)]); (refine OpY.val ?_ ⟨Kept.refl _ _, rfl⟩); (first | rfl | go_simp)
    refine .cons (fun x wf Kk hq hdep hold => ?_) ?_
    · (try dsimp only); (clear hq hdep hold); (have c1 := Kk.undrew.cell hv.out id); (rw [if_pos (by rfl)]); (refine OpY.val ?_ ⟨Kept.refl _ _, rfl⟩); (first | rfl | go_simp)
    refine .cons (fun x wf Kk hq hdep hold => ?_) ?_
    · (try dsimp only); (clear hq hdep hold); (have c1 := Kk.undrew.cell hcc.out id); (rw [if_pos (by rfl)]); (refine OpY.val ?_ ⟨Kept.refl _ _, rfl⟩); (first | rfl | go_simp)
    refine .cons (fun x wf Kk hq hdep hold => ?_) ?_
    · (try dsimp only); (have h4 : x 4 = _ := hdep 4 (by kernel_rfl)); (have h5 : x 5 = _ := hdep 5 (by kernel_rfl)); (clear hq hdep hold); (simp only [h4, h5]); (clear h4 h5); (rw [if_pos (by rfl)]); (refine OpY.val ?_ ⟨Kept.refl _ _, rfl⟩); (first | rfl | go_simp)
    refine .cons (fun x wf Kk hq hdep hold => ?_) ?_
    · (try dsimp only); (have h6 : x 6 = _ := hdep 6 (by kernel_rfl)); (clear hq hdep hold); (simp only [h6]); (clear h6); (have c1 := Kk.undrew.cell h2.out id); (rw [if_pos (by rfl)]); (refine OpY.val ?_ ⟨Kept.refl _ _, rfl⟩); (first | rfl | go_simp)
    refine .cons (fun x wf Kk hq hdep hold => ?_) ?_
    · (try dsimp only); (have h3 : x 3 = _ := hdep 3 (by kernel_rfl)); (have h7 : x 7 = _ := hdep 7 (by kernel_rfl)); (clear hq hdep hold); (simp only [h3, h7]); (clear h3 h7); (have hb := hb.out); (rw [if_pos (by rfl)]); (refine OpY.val ?_ ⟨Kept.refl _ _, rfl⟩); (first | rfl | go_simp)
    refine .cons (fun x wf Kk hq hdep hold => ?_) ?_
    · (try dsimp only); (have h8 : x 8 = _ := hdep 8 (by kernel_rfl)); (clear hq hdep hold); (simp only [h8]); (clear h8); (rw [if_pos (by rfl)]); (refine OpY.val ?_ ⟨Kept.refl _ _, rfl⟩); (first | rfl | go_simp)
    exact .nil _
  · (intro x wf Kk hv); (try dsimp only); (have h9 : x 9 = _ := hv 9 (by kernel_rfl)); (clear hv); (simp only [h9]); (clear h9); (have k9 := hid (Kk.undrew)); (clear Kk hv hcc h1 h2); (go_wp2); (go_ret); (exact ⟨rfl, k9.out⟩)
set_option maxRecDepth 20000 in
set_option maxHeartbeats 1000000 in
/-- slices.IndexFunc with a closure of two variables. -/
theorem indexfn2_any (vz : Value) (zs : List Int) (p q : Value) (Q : Int → Bool) (w : World) (hz : RdZ w vz zs) (H : ∀ x ∈ zs, ∀ W, Kept no w W → Calls Tryz.prog 83 #[.int .i64 x, p, q] W fun e w' => e = .returned (.bool (Q x)) ∧ Kept no W w') :
    Calls Tryz.prog 31 #[vz, .func (.func 83) #[] #[p, q]] w fun e w' => ∃ r : Int, e = .returned (.int .i64 r) ∧ (0 ≤ r ↔ zs.any Q = true) ∧ Kept no w w' := by
  (obtain ⟨ao, cap, rfl, hcap, hcm⟩ := Rd.shape2 hz); (have hm63 := maxLen_63); (replace hz := hid hz); (replace H := hid H)
  go_enter Tryz.func31, Tryz.ntmps31
  go_wp2
  go_loopw [8] (fun i wr => ∃ k : Nat, k ≤ zs.length ∧ i = .int .i64 (k : Int) ∧ Hd (∀ x ∈ zs.take k, Q x = false) ∧ Hd (Kept no w wr)) (fun i _ => zs.length - (intOf i).toNat)
  case atStart => exact ⟨0, by omega, rfl, ⟨by simp⟩, ⟨Kept.refl _ _⟩⟩
  case round =>
    obtain ⟨k, hk, rfl, hx, hW⟩ := hrel
    by_cases hlt : k < zs.length
    · (obtain ⟨b, o, rfl, hc⟩ := (hz.out.kept hW.out).at k hlt); (have hk1 : (k : Int) < (zs.length : Int) := by omega); (have hmem : zs.getD k 0 ∈ zs := by rw [List.getD_eq_getElem?_getD, List.getElem?_eq_getElem hlt]; exact List.getElem_mem hlt); (have HC := hid (H.out (zs.getD k 0) hmem wr hW.out)); (have hst := hid (fun h => all_take (f := Q) hlt hx.out h)); (obtain ⟨z, hgd⟩ : ∃ z, zs.getD k 0 = z := ⟨_, rfl⟩); (rw [hgd] at hc hst HC hmem); (replace hmem := hid hmem); (clear hgd)
      cases he : Q z with
      | true =>
        (rw [he] at HC); (have hany : Hd (zs.any Q = true) := ⟨List.any_eq_true.2 ⟨z, hmem.out, he⟩⟩); (clear he hst hx); (go_wp2_with fail); (refine HC.out.mono ?_); (rintro e w1 ⟨rfl, k1⟩); (have hW' := hid (hW.out.trans' k1)); (clear k1 HC); (go_wp2); (go_ret); (exact ⟨_, rfl, ⟨fun _ => hany.out, fun _ => by omega⟩, hW'.out⟩)
      | false =>
        (rw [he] at HC); (have hn := hid (hst.out he)); (clear he hst hx); (go_wp2_with fail); (refine HC.out.mono ?_); (rintro e w1 ⟨rfl, k1⟩); (have hW' := hid (hW.out.trans' k1)); (clear k1 HC); (go_wp2); (go_roundw)
        case rel => first | exact ⟨k + 1, by omega, by go_num, hn, hW'⟩ | ((repeat apply Exists.intro); exact ⟨⟨k + 1, by omega, by go_num, hn, hW'⟩, rfl⟩)
        case measure => simp [intOf]; omega
    · obtain rfl : k = zs.length := by omega
      have hv : Hd (zs.any Q = false) := ⟨by
        (rw [List.any_eq_false]); (intro x h); (have := hx.out x (by rw [List.take_length]; exact h))
        rw [this]; decide⟩
      (clear hx); (go_wp2); (go_ret); (exact ⟨_, rfl, ⟨fun h => by omega, fun h => by rw [hv.out] at h; cases h⟩, hW.out⟩)
theorem containsfn2_any (vz : Value) (zs : List Int) (p q : Value) (Q : Int → Bool) (w : World) (hz : RdZ w vz zs) (H : ∀ x ∈ zs, ∀ W, Kept no w W → Calls Tryz.prog 83 #[.int .i64 x, p, q] W fun e w' => e = .returned (.bool (Q x)) ∧ Kept no W w') :
    Calls Tryz.prog 82 #[vz, .func (.func 83) #[] #[p, q]] w fun e w' => e = .returned (.bool (zs.any Q)) ∧ Kept no w w' := by
  (have HI := hid (indexfn2_any vz zs p q Q w hz H)); (clear H hz)
  go_enter Tryz.func82, Tryz.ntmps82
  (go_wp2_with fail); (refine HI.out.mono ?_); (rintro e w1 ⟨r, rfl, hr, k1⟩)
  have hd : decide (0 ≤ r) = zs.any Q := by
    cases h : zs.any Q with
    | true => exact decide_eq_true (hr.2 h)
    | false => exact decide_eq_false fun h2 => by rw [hr.1 h2] at h; cases h
  (replace k1 := hid k1); (clear hr HI); (go_wp2); (go_ret); (exact ⟨by first | rfl | rw [← hd] | rw [hd], k1.out⟩)
set_option maxRecDepth 100000 in
set_option maxHeartbeats 4000000 in
theorem mupper_any (n : Int) (v : Value) (ps : List (Grp × Value)) (wn : Int) (w : World) (hr : RdG w v ps) :
    Calls Tryz.prog 35 #[.int .i64 n, v, .int .i64 wn] w fun e w' => e = .returned (.int .i64 (upperB n (grps ps) wn)) ∧ Kept no w w' := by
  obtain ⟨ag, cg, rfl, _, _⟩ := hr.shape
  by_cases hn2 : n < 2
  · (have hd2 : decide (n < 2) = true := decide_eq_true hn2); (have hres : Hd (upperB n (grps ps) wn = -1) := ⟨by unfold upperB; rw [if_neg (by omega)]⟩); (clear hr)
    go_enter Tryz.func35, Tryz.ntmps35
    (go_wp2); (go_ret); (exact ⟨by rw [hres.out]; rfl, Kept.refl _ _⟩)
  (have hd2 : decide (n < 2) = false := decide_eq_false hn2); (have HV := hid (valid_any n _ ps w hr))
  cases hv : (decide (1 ≤ n ∧ n ≤ 7) && isPile n (grps ps)) with
  | false =>
    have hres : Hd (upperB n (grps ps) wn = -1) := ⟨by
      (unfold upperB; rw [if_neg]); (rintro ⟨h1, ⟨h2, h3⟩, _⟩)
      rw [decide_eq_true ⟨by omega, h2⟩, h3] at hv; cases hv⟩
    (rw [hv] at HV); (clear hr hv)
    go_enter Tryz.func35, Tryz.ntmps35
    (go_wp2_with fail); (refine HV.out.mono ?_); (rintro e w1 ⟨rfl, q1⟩); (have k1 := hid q1); (clear q1 HV); (go_wp2); (go_ret); (exact ⟨by rw [hres.out]; rfl, k1.out⟩)
  | true =>
    rw [hv] at HV
    have hv1 : (1 ≤ n ∧ n ≤ 7) ∧ isPile n (grps ps) = true := by
      rw [Bool.and_eq_true, decide_eq_true_iff] at hv; exact hv
    clear hv
    by_cases hw0 : wn < 0
    · (have hdw : decide (wn < 0) = true := decide_eq_true hw0); (have hres : Hd (upperB n (grps ps) wn = -1) := ⟨by unfold upperB; rw [if_neg (by omega)]⟩); (clear hr hv1)
      go_enter Tryz.func35, Tryz.ntmps35
      (go_wp2_with fail); (refine HV.out.mono ?_); (rintro e w1 ⟨rfl, q1⟩); (have k1 := hid q1); (clear q1 HV); (go_wp2); (go_ret); (exact ⟨by rw [hres.out]; rfl, k1.out⟩)
    have hdw : decide (wn < 0) = false := decide_eq_false hw0
    by_cases hwn : n ≤ wn
    · (have hdn : decide (n ≤ wn) = true := decide_eq_true hwn); (have hres : Hd (upperB n (grps ps) wn = -1) := ⟨by unfold upperB; rw [if_neg (by omega)]⟩); (clear hr hv1)
      go_enter Tryz.func35, Tryz.ntmps35
      (go_wp2_with fail); (refine HV.out.mono ?_); (rintro e w1 ⟨rfl, q1⟩); (have k1 := hid q1); (clear q1 HV); (go_wp2); (go_ret); (exact ⟨by rw [hres.out]; rfl, k1.out⟩)
    (have hdn : decide (n ≤ wn) = false := decide_eq_false hwn); (obtain ⟨N, rfl⟩ : ∃ N : Nat, n = (N : Int) := ⟨n.toNat, by omega⟩); (obtain ⟨V, rfl⟩ : ∃ V : Nat, wn = (V : Int) := ⟨wn.toNat, by omega⟩); (have hN2 : 2 ≤ N := by omega); (have hN7 : N ≤ 7 := by omega); (have hVN : V < N := by omega); (have hp7 : Hd (isPile 7 (grps ps) = true) := ⟨isPile_mono (by omega) hv1.2⟩)
    have hres : Hd (upperB (N : Int) (grps ps) (V : Int) = upV N (grps ps) V) := ⟨by
      unfold upperB; rw [if_pos ⟨by omega, ⟨by omega, hv1.2⟩, by omega, by omega⟩, Int.toNat_natCast, Int.toNat_natCast]⟩
    (have hpos : Hd (posB (N : Int) (grps ps) = posC N (grps ps) N) := ⟨by unfold posB; rw [if_pos ⟨⟨by omega, by omega⟩, hv1.2⟩, Int.toNat_natCast]⟩); (have HP := hid (fun w h => possible_any (N : Int) (.slice ag ps.length cg) ps w h)); (replace hr := hid hr); (clear hv1)
    go_enter Tryz.func35, Tryz.ntmps35
    (go_wp2_with fail); (refine HV.out.mono ?_); (rintro e w1 ⟨rfl, q1⟩); (have k1 := hid q1); (clear q1 HV); (go_wp2_with fail); (refine (HP.out _ (hr.out.kept k1.out)).mono ?_); (rintro e w2 ⟨vp, rfl, op⟩); (rw [hpos.out] at op); (have k2 := hid (k1.out.trans' op.kept)); (have kz : Kept no w2 (w2.alloc (.cells #[.int .i64 (V : Int)] 3)) := (Kept.refl no w2).alloc _); (have hz2 : RdZ (w2.alloc (.cells #[.int .i64 (V : Int)] 3)) (.slice (some ⟨w2.heap.size, 0, none⟩) 1 1) [(V : Int)] := Rd.block (us := [.int .i64 (V : Int)]) (heap_alloc_new w2 _) rfl (by decide)); (have HE := hid (equal_any vp (.slice (some ⟨w2.heap.size, 0, none⟩) 1 1) (posC N (grps ps) N) [(V : Int)] _ (op.rd.kept kz) hz2)); (have k3 := hid (k2.out.trans' kz)); (obtain ⟨ap, cp, rfl, _, _⟩ := Rd.shape2 op.rd); (clear op hz2 kz HP k1 k2)
    by_cases hone : posC N (grps ps) N = [(V : Int)]
    case neg =>
      rw [decide_eq_false hone] at HE
      have hfin : Hd (upV N (grps ps) V = 0) := ⟨by
        (have h := fun h => hone ((pos_only hN7 hVN).2 h)); (unfold upV)
        rw [if_pos (Classical.byContradiction h)]⟩
      (clear hone); (go_wp2_with fail); (refine HE.out.mono ?_); (rintro e w4 ⟨rfl, q4⟩); (have k4 := hid (k3.out.trans' q4.kept)); (clear q4 HE k3); (go_wp2); (go_ret); (exact ⟨by rw [hres.out, hfin.out]; rfl, k4.out⟩)
    (rw [decide_eq_true hone] at HE); (have hno := hid ((pos_only hN7 hVN).1 hone)); (clear hone hpos); (obtain ⟨F, hF⟩ : ∃ F : Nat, (2 : Nat) ^ N = F := ⟨_, rfl⟩); (have hF1 : 1 ≤ F := by rw [← hF]; exact Nat.two_pow_pos N); (have hF128 : F ≤ 128 := by rw [← hF]; exact pow7 hN7); (have hsh : Hd (wrap64 ((2 : Int) ^ N) = (F : Int)) := ⟨by rw [shl_pow N hN7, hF]⟩); (have hst := inv_start 3 N (grps ps)); (rw [hF] at hst)
    have hM0 : Hd (MnS (-1) (PrP N (grps ps) V (F - 1))) := ⟨.inl ⟨rfl, fun x ⟨r, h1, h2, _, h4, _⟩ => by
      have := (pair_sl hN7 h1 hVN h2).1
      rw [hF] at this; omega⟩⟩
    (replace hF := hid hF); (have hFm : IntKind.i64.wrap ((F : Int) - 1) = ((F - 1 : Nat) : Int) := by rw [IntWalk.i64_in _ (by omega)]; omega); (obtain ⟨F1, hF1e⟩ : ∃ F1, F - 1 = F1 := ⟨_, rfl⟩); (rw [hF1e] at hFm hst hM0); (have hF1i : (F1 : Int) < (F : Int) := by omega); (have hF1j : (0 : Int) ≤ (F1 : Int) := by omega); (replace hst := hid hst); (go_wp2_with fail); (refine HE.out.mono ?_); (rintro e w4 ⟨rfl, q4⟩); (have k4 := hid (k3.out.trans' q4.kept)); (clear q4 HE k3); (have hmk := makeT F (by omega) w4); (have ga : (w4.alloc (.cells (zsT (List.replicate F false)) 4)).heap[w4.heap.size]? = some (.cells (zsT (List.replicate F false)) 4 (0, 0)) := heap_alloc_new _ _); (have c0 := zsT_cell ga F1 (by rw [List.length_replicate]; omega)); (have f0 : (w4.alloc (.cells (zsT (List.replicate F false)) 4)).frozen? ⟨w4.heap.size, F1, none⟩ = false := row_free ga F1); (have g0 : Hd ((w4.alloc (.cells ((zsT (List.replicate F false)).setIfInBounds F1 (.bool true)) 4)).heap[w4.heap.size]? = some (.cells (zsT ((List.replicate F false).set F1 true)) 4 (0, 0))) := ⟨by rw [zsT_set]; exact heap_alloc_new _ _⟩); (have k0 := hid (k4.out.alloc (.cells ((zsT (List.replicate F false)).setIfInBounds F1 (.bool true)) 4))); (have hgw : Hd (w.heap.size ≤ w4.heap.size) := ⟨k4.out.size⟩); (have hshv := hsh.out); (clear ga k4); (go_wp2); (clear c0 f0 hmk hshv hFm)
    go_loopw [7, 9] (fun B i wr => ∃ (s : Nat) (L : List Bool) (bb : Int), s ≤ F1 ∧ i = .int .i64 (s : Int) ∧ B = .int .i64 bb ∧ Hd (MnS bb (PrP N (grps ps) V s)) ∧ Hd (Inv 3 N (grps ps) s L) ∧ Hd (wr.heap[w4.heap.size]? = some (.cells (zsT L) 4 (0, 0))) ∧ Hd (Kept no w wr)) (fun _ i _ => (intOf i).toNat)
    case atStart => exact ⟨F1, _, -1, by omega, rfl, rfl, hM0, hst, g0, k0⟩
    case round =>
      (clear hst g0 k0 hM0); (obtain ⟨s, L, bb, hs, rfl, rfl, hM, hI, hg, hK⟩ := hrel)
      by_cases hs1 : 1 ≤ s
      · (have hsi : (0 : Int) < (s : Int) := by omega); (have hsn : 0 < s := by omega); (have hsd : decide (0 < s) = true := decide_eq_true hsn); (have hs0 : (0 : Int) ≤ (s : Int) := by omega); (have hsF : (s : Int) < (F : Int) := by omega); (have hs128 : s < 128 := by omega); (have hsub : IntKind.i64.wrap ((s : Int) - 1) = ((s - 1 : Nat) : Int) := by rw [IntWalk.i64_in _ (by omega)]; omega); (have hLl : Hd (L.length = F) := ⟨by rw [hI.out.1, hF.out]⟩); (have hat := hid (inv_at hN7 hI.out (Nat.le_refl s) (by rw [hF.out]; omega))); (have cs := zsT_cell hg.out s (by rw [hLl.out]; omega))
        by_cases hR : Rc 3 N (grps ps) s
        case neg =>
          have hf : L.getD s false = false := by
            cases h : L.getD s false with
            | false => rfl
            | true => exact absurd (hat.out.1 h) hR
          (rw [hf] at cs); (have hI2 := hid (inv_next hs1 (by rw [hF.out]; omega) hI.out (fun h => absurd h hR))); (have hM2 : Hd (MnS bb (PrP N (grps ps) V (s - 1))) := ⟨mns_congr hM.out (prp_skip hN7 hVN hs1 fun h => hR ((rc23 hN7 (by omega)).2 h.1))⟩); (clear hf hat hI hR hLl hM); (go_wp2); (go_roundw)
          case rel => first | exact ⟨s - 1, L, bb, by omega, by go_num, rfl, hM2, hI2, hg, hK⟩ | ((repeat apply Exists.intro); exact ⟨⟨s - 1, L, bb, by omega, by go_num, rfl, hM2, hI2, hg, hK⟩, rfl⟩)
          case measure => first | (simp [intOf]; done) | (simp [intOf]; omega)
        (have ht : L.getD s false = true := hat.out.2 hR); (rw [ht] at cs); (have hmk2 := makeT N (by omega) wr); (have gm0 : Hd ((wr.alloc (.cells (zsT (List.replicate N false)) 4)).heap[wr.heap.size]? = some (.cells (zsT (memK N s 0)) 4 (0, 0))) := ⟨by rw [show memK N s 0 = List.replicate N false by simp [memK]]; exact heap_alloc_new _ _⟩); (have hO0 : Hd (OwZ wr (wr.alloc (.cells (zsT (List.replicate N false)) 4)) (.slice none 0 0) (slK s 0)) := ⟨(OwZ.nil wr).keptNo ((Kept.refl no wr).alloc _)⟩); (have hgl : Hd (w4.heap.size < wr.heap.size) := ⟨lt_of_heap hg.out⟩); (have hs2 : 2 ≤ (sl N s).length := by have := rc_size hN7 (by omega) hR; omega); (have hRz : Hd (Rc 3 N (grps ps) s ∧ Rc 2 N (grps ps) s) := ⟨⟨hR, rc_down (by decide) hR⟩⟩); (have hslt : Hd (s < 2 ^ N) := ⟨hR.lt⟩); (obtain ⟨w9, rfl⟩ : ∃ w9 : World, w9 = wr := ⟨_, rfl⟩); (clear ht hat hR); (go_wp2); (clear cs hmk2)
        go_loopw [11, 67] (fun lf i wr => ∃ k : Nat, k ≤ N ∧ i = .int .i64 (k : Int) ∧ Hd (wr.heap[w9.heap.size]? = some (.cells (zsT (memK N s k)) 4 (0, 0))) ∧ Hd (OwZ w9 wr lf (slK s k))) (fun _ i _ => N - (intOf i).toNat)
        case atStart => exact ⟨0, by omega, rfl, gm0, hO0⟩
        case round =>
          (clear gm0 hO0); (obtain ⟨k, hk, rfl, hgm, hO⟩ := hrel)
          by_cases hlt : k < N
          · (have hk1 : (k : Int) < (N : Int) := by omega); (have hk0 : (0 : Int) ≤ (k : Int) := by omega); (have hb := bit_and s (by omega) k (by omega)); (rw [show (((s / 2 ^ k : Nat)) : Int) = (s : Int) / 2 ^ k by rw [Int.natCast_ediv, Int.natCast_pow]; rfl] at hb); (replace hb := hid hb); (have fs : wr.frozen? ⟨w9.heap.size, k, none⟩ = false := row_free hgm.out k); (have cs := zsT_cell hgm.out k (by rw [memK_len _ _ _ hk]; exact hlt)); (have hg' : Hd ((wr.setCell ⟨w9.heap.size, k, none⟩ (.bool (s.testBit k))).heap[w9.heap.size]? = some (.cells (zsT (memK N s (k + 1))) 4 (0, 0))) := ⟨by rw [setCell_row hgm.out, zsT_set, memK_set _ _ _ hlt]⟩); (have hO' := hid (hO.out.setB hgm.out (Nat.le_refl _) k (.bool (s.testBit k)))); (have hss := hid (fun h => slK_skip (s := s) (k := k) h)); (have hsm := hid (fun h => slK_more (s := s) (k := k) h)); (have hle := slK_le s k); (generalize s.testBit k = bb' at hb hg' hO' hss hsm); (have hbv := hb.out); (clear hgm hO)
            cases bb' with
            | false =>
              (have hO2 : Hd (OwZ w9 (wr.setCell ⟨w9.heap.size, k, none⟩ (.bool false)) u11 (slK s (k + 1))) := ⟨by rw [hss.out rfl]; exact hO'.out⟩); (clear hss hsm hO'); (go_wp2); (clear hbv); (go_roundw)
              case rel => first | exact ⟨k + 1, by omega, by go_num, hg', hO2⟩ | ((repeat apply Exists.intro); exact ⟨⟨k + 1, by omega, by go_num, hg', hO2⟩, rfl⟩)
              case measure => simp [intOf]; omega
            | true =>
              (have hsm2 := hid (hsm.out rfl)); (have hls : Hd ((slK s k).length + 1 ≤ maxLen ∧ ((slK s k).length + 1) * 8 ≤ 140737488355328) := ⟨by have hm : maxLen = 9223372036854775807 := rfl; omega⟩); (obtain ⟨SL, hSL⟩ : ∃ l, slK s k = l := ⟨_, rfl⟩); (rw [hSL] at hO' hsm2 hls); (clear hss hsm hSL hle); (go_upto_region 19 with fail); (obtain ⟨w5, hw5⟩ : ∃ w5, w5 = wr.setCell ⟨w9.heap.size, k, none⟩ (.bool true) := ⟨_, rfl⟩); (rw [← hw5]); (rw [← hw5] at hO' hg'); (clear hw5); (go_wp2_with (at_builtin; refine wpList_append_lit _ rfl _ _ 26 rfl 3 1 8 TInts _ _ _ rfl hO'.out.own 1 [.int .i64 (k : Int)] rfl rfl ?c1 ?c2 ?c3 ?_))
              case c1 => simp [Value.oneCell']
              case c2 => exact hls.out.1
              case c3 => exact hls.out.2
              (intro v' w3 h2 h3 h4 _); (have hO2 : Hd (OwZ w9 w3 v' (slK s (k + 1))) := ⟨by rw [hsm2.out]; exact hO'.out.add _ h2 h3 h4⟩); (have hg2 : Hd (w3.heap[w9.heap.size]? = some (.cells (zsT (memK N s (k + 1))) 4 (0, 0))) := ⟨(h3.block _ (lt_of_heap hg'.out) (fun h => own_ne hO'.out.own hg'.out int_ne_bool _ h rfl)).trans hg'.out⟩); (clear h2 h3 h4 hO' hls hsm2 hg'); (go_wp2); (clear hbv); (go_roundw)
              case rel => first | exact ⟨k + 1, by omega, by go_num, hg2, hO2⟩ | ((repeat apply Exists.intro); exact ⟨⟨k + 1, by omega, by go_num, hg2, hO2⟩, rfl⟩)
              case measure => simp [intOf]; omega
          · (obtain rfl : N = k := by omega); (have hk1 : ¬ (N : Int) < (N : Int) := by omega); (rw [slK_all] at hO)
            have hrd : Hd (RdT wr (.slice (some ⟨w9.heap.size, 0, none⟩) N N) (flags N (sl N s))) := ⟨by
              (have := hgm.out); (rw [memK_all] at this)
              exact zsT_rd this N (flags_len _ _) (by have : maxLen = 9223372036854775807 := rfl; omega)⟩
            (have hKw := hid (hK.out.trans' hO.out.kept)); (have hgr := hid ((hO.out.kept.block _ (lt_of_heap hg.out) id).trans hg.out)); (have HC := first_any _ _ ps _ _ (hr.out.kept hKw.out) hrd.out); (rw [first_firstV hp7.out hN7] at HC); (replace HC := hid HC)
            have hmV : Hd (wr.cell? ⟨w9.heap.size, V, none⟩ = some (.bool (s.testBit V))) := ⟨by
              (have := hgm.out); (rw [memK_all] at this)
              rw [zsT_cell this V (by rw [flags_len]; exact hVN), flag_sl hVN]⟩
            (obtain ⟨aL, cL, rfl, _, _⟩ := Rd.shape2 hO.out.rd); (have hrl := hid hO.out.rd); (have hol := hid hO.out.own); (clear hgm hrd hg hK hO); (go_wp2_with fail); (refine HC.out.mono ?_); (rintro e wC ⟨vv, rfl, ov⟩); (have hKC := hid (hKw.out.trans' ov.kept)); (have hgC := hid ((ov.kept.block _ (lt_of_heap hgr.out) id).trans hgr.out)); (have hmV2 := hid (ov.kept.cell hmV.out id)); (have hrl2 := hid (hrl.out.kept ov.kept)); (have hol2 := hid (ov.kept.ownsRow hol.out fun _ _ => id)); (obtain ⟨bV, oV, cV, rfl, hVc⟩ := votes_at ov (by omega))
            have hnb : Hd (bV ≠ w4.heap.size) := ⟨by
              rcases ov.new with h | ⟨b2, h, h2⟩
              · cases h
              · (have : bV = b2 := by simpa [Value.ownBlock] using h); (have := lt_of_heap hgr.out)
                omega⟩
            (have hVV := hid hVc); (clear ov hVc HC hKw hgr hmV hrl hol); (go_upto_region 22 with fail); (obtain ⟨wD, hwD, gD, kD⟩ := alloc_named wC (.cells #[.slice (some ⟨bV, oV, none⟩) N cV] 26)); (rw [← hwD]); (have cD : Hd (wD.cell? ⟨wC.heap.size, 0, none⟩ = some (.slice (some ⟨bV, oV, none⟩) N cV)) := ⟨by rw [cell_of_row _ _ 0 _ _ _ gD]; rfl⟩); (have hKD := hid (hKC.out.trans' kD)); (have hgD := hid (kD.blk hgC.out)); (have hmV3 := hid (kD.cell hmV2.out id)); (have hrl3 := hid (hrl2.out.kept kD)); (have hol3 := hid (kD.ownsRow hol2.out fun _ _ => id)); (have hVD : Hd (∀ c : Nat, c < N → wD.cell? ⟨bV, oV + c, none⟩ = some (.int .i64 (vt N (grps ps) (sl N s) (c : Int)))) := ⟨fun c hc => kD.cell (hVV.out c hc) id⟩); (have hgv4 : Hd (wC.heap.size ≠ w4.heap.size) := ⟨by have := lt_of_heap hgC.out; omega⟩); (generalize wC.heap.size = gv at cD hgv4); (clear hwD gD kD hKC hgC hmV2 hrl2 hol2 hVV); (obtain ⟨m, hm⟩ : ∃ m, (sl N s).length = m := ⟨_, rfl⟩); (rw [hm] at hs2); (rw [hm] at hrl3 hol3 ⊢)
            by_cases hm2 : m = 2
            · (subst hm2); (have hmi : (((2 : Nat) : Int) = 2) = True := by simp); (have hI2 := hid (inv_next hs1 hslt.out hI.out (fun _ h => by omega)))
              cases hbV : s.testBit V with
              | false =>
                (rw [hbV] at hmV3); (have hM2 : Hd (MnS bb (PrP N (grps ps) V (s - 1))) := ⟨mns_congr hM.out (prp_skip hN7 hVN hs1 fun h => by rw [hbV] at h; cases h.2.2)⟩); (have hVi : (V : Int) < (N : Int) := by omega); (have hV0 : (0 : Int) ≤ (V : Int) := by omega); (have hmV4 := hmV3.out); (clear hbV hI hM hRz hrl3 hol3 hVD); (go_wp2); (clear hmV4); (go_roundw)
                case rel => first | exact ⟨s - 1, L, bb, by omega, by go_num, rfl, hM2, hI2, hgD, hKD⟩ | ((repeat apply Exists.intro); exact ⟨⟨s - 1, L, bb, by omega, by go_num, rfl, hM2, hI2, hgD, hKD⟩, rfl⟩)
                case measure => first | (simp [intOf]; done) | (simp [intOf]; omega)
              | true =>
                (rw [hbV] at hmV3); (obtain ⟨r, hrN, hrV, hse⟩ := pair_of hN7 hslt.out hm hVN hbV); (have hps := pair_sl hN7 hrN hVN hrV)
                have hMm : Hd (∀ x, PrP N (grps ps) V (s - 1) x ↔ PrP N (grps ps) V s x ∨ x = pairV N (grps ps) V r) := ⟨by
                  have := prp_more hN7 hrN hrV (hse ▸ hRz.out.2)
                  rw [← hse] at this; exact this⟩
                rw [← hse] at hps
                have hpv : pairV N (grps ps) V r = half (vt N (grps ps) (sl N s) (V : Int) - vt N (grps ps) (sl N s) (r : Int)) := by
                  (unfold pairV); (rw [hse, vt_pair hN7 _ hrN hVN hrV, vt_pair hN7 _ hrN hVN hrV])
                (have hx1 := hid (hVD.out V hVN)); (have hx2 := hid (hVD.out r hrN)); (have hs1' := vt_small (n := N) hp7.out (sl N s) (V : Int)); (have hs2' := vt_small (n := N) hp7.out (sl N s) (r : Int)); (obtain ⟨x1, he1⟩ : ∃ x, vt N (grps ps) (sl N s) (V : Int) = x := ⟨_, rfl⟩); (obtain ⟨x2, he2⟩ : ∃ x, vt N (grps ps) (sl N s) (r : Int) = x := ⟨_, rfl⟩); (rw [he1] at hx1 hs1' hpv); (rw [he2] at hx2 hs2' hpv); (have hsl := hps.2.2.2.2); (rw [hsl] at hrl3); (obtain ⟨bl, ol, rfl, hc0⟩ := RdZ.at (n := 2) hrl3.out 0 (by simp)); (obtain ⟨bl', ol', e', hc1⟩ := RdZ.at (n := 2) hrl3.out 1 (by simp))
                cases e'
                (have hl0 : Hd (wD.cell? ⟨bl, ol, none⟩ = some (.int .i64 ((min r V : Nat) : Int))) := ⟨hc0⟩); (have hl1 : Hd (wD.cell? ⟨bl, ol + 1, none⟩ = some (.int .i64 ((max r V : Nat) : Int))) := ⟨hc1⟩); (have hsum : IntKind.i64.wrap (((min r V : Nat) : Int) + ((max r V : Nat) : Int)) = (r : Int) + (V : Int) := by rw [IntWalk.i64_in _ (by omega)]; omega); (have hdif : IntKind.i64.wrap ((r : Int) + (V : Int) - (V : Int)) = (r : Int) := by rw [IntWalk.i64_in _ (by omega)]; omega); (have hwr0 : IntKind.i64.wrap (r : Int) = (r : Int) := IntWalk.i64_in _ (by omega)); (have hwr : IntKind.i64.wrap (x1 - x2) = x1 - x2 := IntWalk.i64_in _ (by omega)); (have HH := hid (fun w => mhalf_any (x1 - x2) w (by omega))); (have hpos := half_nonneg (x1 - x2)); (obtain ⟨h, hh⟩ : ∃ h, half (x1 - x2) = h := ⟨_, rfl⟩); (rw [hh] at HH hpv hpos); (have hM2 : Hd (MnS (mnStep bb h) (PrP N (grps ps) V (s - 1))) := ⟨mns_step hM.out hpos fun x => by rw [hMm.out x, hpv]⟩); (have hVi : (V : Int) < (N : Int) := by omega); (have hV0 : (0 : Int) ≤ (V : Int) := by omega); (have hri : (r : Int) < (N : Int) := by omega); (have hr0 : (0 : Int) ≤ (r : Int) := by omega); (generalize ((min r V : Nat) : Int) = lo at hl0 hsum); (generalize ((max r V : Nat) : Int) = hi at hl1 hsum); (have hmV4 := hmV3.out); (clear hbV hI hM hRz hrl3 hol3 hVD hpv hMm hps hsl hc0 hc1 he1 he2 hh hse); (go_upto_region 24 with fail); (refine region_flow (S := no) (Sl := (fun _ => no)) [Is (.slice (some ⟨bl, ol, none⟩) 2 cL), Is (.pointer (some ⟨bl, ol, none⟩)), Is (.int .i64 lo), Is (.slice (some ⟨bl, ol, none⟩) 2 cL), Is (.pointer (some ⟨bl, ol + 1, none⟩)), Is (.int .i64 hi), Is (.int .i64 ((r : Int) + (V : Int))), Is (.int .i64 (V : Int)), Is (.int .i64 (r : Int)), Is (.int .i64 (r : Int))] [] (fun _ _ h => h) _ (by kernel_rfl) (by kernel_rfl) (by kernel_rfl) (by kernel_rfl) (fun x => by simp only [puts, Act.put, List.map_cons, List.map_nil, Nat.zero_add, Nat.reduceAdd, List.setIfInBounds_toArray, List.set_cons_zero, List.set_cons_succ]; exact rfl) ?_ ?_)
                · (skip); (refine .cons (fun x wf Kk hq hdep hold => ?_) ?_)
                  · (try dsimp only); (clear hq hdep hold); (rw [if_pos (by rfl)]); (refine OpY.val ?_ ⟨Kept.refl _ _, rfl⟩); (first | rfl | go_simp)
                  refine .cons (fun x wf Kk hq hdep hold => ?_) ?_
                  · (try dsimp only); (have h0 : x 0 = _ := hdep 0 (by kernel_rfl)); (clear hq hdep hold); (simp only [h0]); (clear h0); (rw [if_pos (by rfl)]); (refine OpY.val ?_ ⟨Kept.refl _ _, rfl⟩); (first | rfl | go_simp)
                  refine .cons (fun x wf Kk hq hdep hold => ?_) ?_
                  · (try dsimp only); (have h1 : x 1 = _ := hdep 1 (by kernel_rfl)); (clear hq hdep hold); (simp only [h1]); (clear h1); (have c1 := Kk.undrew.cell hl0.out id); (rw [if_pos (by rfl)]); (refine OpY.val ?_ ⟨Kept.refl _ _, rfl⟩); (first | rfl | go_simp)
                  refine .cons (fun x wf Kk hq hdep hold => ?_) ?_
                  · (try dsimp only); (clear hq hdep hold); (rw [if_pos (by rfl)]); (refine OpY.val ?_ ⟨Kept.refl _ _, rfl⟩); (first | rfl | go_simp)
                  refine .cons (fun x wf Kk hq hdep hold => ?_) ?_
                  · (try dsimp only); (have h3 : x 3 = _ := hdep 3 (by kernel_rfl)); (clear hq hdep hold); (simp only [h3]); (clear h3); (rw [if_pos (by rfl)]); (refine OpY.val ?_ ⟨Kept.refl _ _, rfl⟩); (first | rfl | go_simp)
                  refine .cons (fun x wf Kk hq hdep hold => ?_) ?_
                  · (try dsimp only); (have h4 : x 4 = _ := hdep 4 (by kernel_rfl)); (clear hq hdep hold); (simp only [h4]); (clear h4); (have c1 := Kk.undrew.cell hl1.out id); (rw [if_pos (by rfl)]); (refine OpY.val ?_ ⟨Kept.refl _ _, rfl⟩); (first | rfl | go_simp)
                  refine .cons (fun x wf Kk hq hdep hold => ?_) ?_
                  · (try dsimp only); (have h2 : x 2 = _ := hdep 2 (by kernel_rfl)); (have h5 : x 5 = _ := hdep 5 (by kernel_rfl)); (clear hq hdep hold); (simp only [h2, h5]); (clear h2 h5); (rw [if_pos (by rfl)]); (refine OpY.val ?_ ⟨Kept.refl _ _, rfl⟩); (first | rfl | go_simp)
                  refine .cons (fun x wf Kk hq hdep hold => ?_) ?_
                  · (try dsimp only); (clear hq hdep hold); (rw [if_pos (by rfl)]); (refine OpY.val ?_ ⟨Kept.refl _ _, rfl⟩); (first | rfl | go_simp)
                  refine .cons (fun x wf Kk hq hdep hold => ?_) ?_
                  · (try dsimp only); (have h6 : x 6 = _ := hdep 6 (by kernel_rfl)); (have h7 : x 7 = _ := hdep 7 (by kernel_rfl)); (clear hq hdep hold); (simp only [h6, h7]); (clear h6 h7); (rw [if_pos (by rfl)]); (refine OpY.val ?_ ⟨Kept.refl _ _, rfl⟩); (first | rfl | go_simp)
                  refine .cons (fun x wf Kk hq hdep hold => ?_) ?_
                  · (try dsimp only); (have h8 : x 8 = _ := hdep 8 (by kernel_rfl)); (clear hq hdep hold); (simp only [h8]); (clear h8); (rw [if_pos (by rfl)]); (refine OpY.val ?_ ⟨Kept.refl _ _, rfl⟩); (first | rfl | go_simp)
                  exact .nil _
                · (intro x wf Kk hv); (try dsimp only); (have h9 : x 9 = _ := hv 9 (by kernel_rfl)); (clear hv); (simp only [h9]); (clear h9); (have hKE := hid (hKD.out.trans' Kk.undrew)); (have kE := hid Kk.undrew); (clear Kk hmV4); (go_upto_region 25 with fail); (refine region_flow (S := no) (Sl := (fun _ => no)) [Is (.slice (some ⟨bV, oV, none⟩) N cV), Is (.int .i64 (V : Int)), Is (.pointer (some ⟨bV, oV + V, none⟩)), Is (.int .i64 x1), Is (.slice (some ⟨bV, oV, none⟩) N cV), Is (.int .i64 (r : Int)), Is (.pointer (some ⟨bV, oV + r, none⟩)), Is (.int .i64 x2), Is (.int .i64 (x1 - x2)), Is (.int .i64 h), Is (.int .i64 h)] [] (fun _ _ h => h) _ (by kernel_rfl) (by kernel_rfl) (by kernel_rfl) (by kernel_rfl) (fun x => by simp only [puts, Act.put, List.map_cons, List.map_nil, Nat.zero_add, Nat.reduceAdd, List.setIfInBounds_toArray, List.set_cons_zero, List.set_cons_succ]; exact rfl) ?_ ?_)
                  · (skip); (refine .cons (fun x wf Kk hq hdep hold => ?_) ?_)
                    · (try dsimp only); (clear hq hdep hold); (have c1 := Kk.undrew.cell (kE.out.cell cD.out id) id); (rw [if_pos (by rfl)]); (refine OpY.val ?_ ⟨Kept.refl _ _, rfl⟩); (first | rfl | go_simp)
                    refine .cons (fun x wf Kk hq hdep hold => ?_) ?_
                    · (try dsimp only); (clear hq hdep hold); (rw [if_pos (by rfl)]); (refine OpY.val ?_ ⟨Kept.refl _ _, rfl⟩); (first | rfl | go_simp)
                    refine .cons (fun x wf Kk hq hdep hold => ?_) ?_
                    · (try dsimp only); (have h0 : x 0 = _ := hdep 0 (by kernel_rfl)); (have h1 : x 1 = _ := hdep 1 (by kernel_rfl)); (clear hq hdep hold); (simp only [h0, h1]); (clear h0 h1); (rw [if_pos (by rfl)]); (refine OpY.val ?_ ⟨Kept.refl _ _, rfl⟩); (first | rfl | go_simp)
                    refine .cons (fun x wf Kk hq hdep hold => ?_) ?_
                    · (try dsimp only); (have h2 : x 2 = _ := hdep 2 (by kernel_rfl)); (clear hq hdep hold); (simp only [h2]); (clear h2); (have c1 := Kk.undrew.cell (kE.out.cell hx1.out id) id); (rw [if_pos (by rfl)]); (refine OpY.val ?_ ⟨Kept.refl _ _, rfl⟩); (first | rfl | go_simp)
                    refine .cons (fun x wf Kk hq hdep hold => ?_) ?_
                    · (try dsimp only); (clear hq hdep hold); (have c1 := Kk.undrew.cell (kE.out.cell cD.out id) id); (rw [if_pos (by rfl)]); (refine OpY.val ?_ ⟨Kept.refl _ _, rfl⟩); (first | rfl | go_simp)
                    refine .cons (fun x wf Kk hq hdep hold => ?_) ?_
                    · (try dsimp only); (clear hq hdep hold); (rw [if_pos (by rfl)]); (refine OpY.val ?_ ⟨Kept.refl _ _, rfl⟩); (first | rfl | go_simp)
                    refine .cons (fun x wf Kk hq hdep hold => ?_) ?_
                    · (try dsimp only); (have h4 : x 4 = _ := hdep 4 (by kernel_rfl)); (have h5 : x 5 = _ := hdep 5 (by kernel_rfl)); (clear hq hdep hold); (simp only [h4, h5]); (clear h4 h5); (rw [if_pos (by rfl)]); (refine OpY.val ?_ ⟨Kept.refl _ _, rfl⟩); (first | rfl | go_simp)
                    refine .cons (fun x wf Kk hq hdep hold => ?_) ?_
                    · (try dsimp only); (have h6 : x 6 = _ := hdep 6 (by kernel_rfl)); (clear hq hdep hold); (simp only [h6]); (clear h6); (have c1 := Kk.undrew.cell (kE.out.cell hx2.out id) id); (rw [if_pos (by rfl)]); (refine OpY.val ?_ ⟨Kept.refl _ _, rfl⟩); (first | rfl | go_simp)
                    refine .cons (fun x wf Kk hq hdep hold => ?_) ?_
                    · (try dsimp only); (have h3 : x 3 = _ := hdep 3 (by kernel_rfl)); (have h7 : x 7 = _ := hdep 7 (by kernel_rfl)); (clear hq hdep hold); (simp only [h3, h7]); (clear h3 h7); (rw [if_pos (by rfl)]); (refine OpY.val ?_ ⟨Kept.refl _ _, rfl⟩); (first | rfl | go_simp)
                    refine .cons (fun x wf Kk hq hdep hold => ?_) ?_
                    · (try dsimp only); (have h8 : x 8 = _ := hdep 8 (by kernel_rfl)); (clear hq hdep hold); (simp only [h8]); (clear h8); (rw [if_pos (by rfl)]); (refine OpY.call (f := 81) (args := #[(.int .i64 (x1 - x2))]) (by go_simp) ?_); (refine (HH.out _).mono ?_); (rintro e w2 ⟨rfl, rfl⟩); (exact ⟨_, rfl, Kept.refl _ _, rfl⟩)
                    refine .cons (fun x wf Kk hq hdep hold => ?_) ?_
                    · (try dsimp only); (have h9 : x 9 = _ := hdep 9 (by kernel_rfl)); (clear hq hdep hold); (simp only [h9]); (clear h9); (rw [if_pos (by rfl)]); (refine OpY.val ?_ ⟨Kept.refl _ _, rfl⟩); (first | rfl | go_simp)
                    exact .nil _
                  · (intro x wf Kk hv); (try dsimp only); (have h10 : x 10 = _ := hv 10 (by kernel_rfl)); (clear hv); (simp only [h10]); (clear h10); (have hKF := hid (hKE.out.trans' Kk.undrew)); (have hgF := hid ((kE.out.trans' Kk.undrew).blk hgD.out)); (clear Kk hKE kE HH hwr hx1 hx2 hl0 hl1 hgD hKD)
                    by_cases hb0 : bb < 0
                    · (have hbd : decide (bb < 0) = true := decide_eq_true hb0); (have hM3 : Hd (MnS h (PrP N (grps ps) V (s - 1))) := ⟨by have := hM2.out; unfold mnStep at this; rwa [if_pos (.inl hb0)] at this⟩); (clear hM2); (go_wp2); (go_roundw)
                      case rel => first | exact ⟨s - 1, L, h, by omega, by go_num, rfl, hM3, hI2, hgF, hKF⟩ | ((repeat apply Exists.intro); exact ⟨⟨s - 1, L, h, by omega, by go_num, rfl, hM3, hI2, hgF, hKF⟩, rfl⟩)
                      case measure => first | (simp [intOf]; done) | (simp [intOf]; omega)
                    have hbd : decide (bb < 0) = false := decide_eq_false hb0
                    by_cases hhb : h < bb
                    · (have hhd : decide (h < bb) = true := decide_eq_true hhb); (have hM3 : Hd (MnS h (PrP N (grps ps) V (s - 1))) := ⟨by have := hM2.out; unfold mnStep at this; rwa [if_pos (.inr hhb)] at this⟩); (clear hM2); (go_wp2); (go_roundw)
                      case rel => first | exact ⟨s - 1, L, h, by omega, by go_num, rfl, hM3, hI2, hgF, hKF⟩ | ((repeat apply Exists.intro); exact ⟨⟨s - 1, L, h, by omega, by go_num, rfl, hM3, hI2, hgF, hKF⟩, rfl⟩)
                      case measure => first | (simp [intOf]; done) | (simp [intOf]; omega)
                    · (have hhd : decide (h < bb) = false := decide_eq_false hhb); (have hM3 : Hd (MnS bb (PrP N (grps ps) V (s - 1))) := ⟨by have := hM2.out; unfold mnStep at this; rwa [if_neg (by omega)] at this⟩); (clear hM2); (go_wp2); (go_roundw)
                      case rel => first | exact ⟨s - 1, L, bb, by omega, by go_num, rfl, hM3, hI2, hgF, hKF⟩ | ((repeat apply Exists.intro); exact ⟨⟨s - 1, L, bb, by omega, by go_num, rfl, hM3, hI2, hgF, hKF⟩, rfl⟩)
                      case measure => first | (simp [intOf]; done) | (simp [intOf]; omega)
            · (have hm3 : 3 ≤ m := by omega); (have hmi : ¬ (m : Int) = 2 := by omega); (have hmd1 : decide ((m : Int) = 2) = false := decide_eq_false hmi); (have hmd3 : ((m : Int) == 2) = false := by rw [beq_eq_false_iff_ne]; omega)

              (have hM2 : Hd (MnS bb (PrP N (grps ps) V (s - 1))) := ⟨mns_congr hM.out (prp_skip hN7 hVN hs1 fun h => by omega)⟩); (have hIQ : Hd (InvQ 3 N (grps ps) s (fun x => x ∈ (sl N s).take 0) L) := ⟨invQ_congr hI.out fun c _ => by simp⟩); (have hmN : m ≤ N := by rw [← hm, ← slK_all]; exact slK_le s N); (obtain ⟨bl, ol, rfl, _⟩ := RdZ.at hrl3.out 0 (by omega))
              have hlc : Hd (∀ j, j < m → wD.cell? ⟨bl, ol + j, none⟩ = some (.int .i64 ((sl N s).getD j 0))) := ⟨fun j hj => by
                obtain ⟨b', o', e', h⟩ := RdZ.at hrl3.out j (by omega)
                cases e'; exact h⟩
              (have hlin : Hd (∀ x ∈ sl N s, 0 ≤ x ∧ x < (N : Int)) := ⟨fun x hx => (mem_sl.1 hx).1⟩); (have hbl4 : Hd (bl ≠ w4.heap.size) := ⟨fun e => own_ne hol3.out hgD.out int_ne_bool bl rfl e⟩); (clear hI hM hmV3); (go_wp2)
              go_loopw [129] (fun i wr => ∃ (j : Nat) (L : List Bool), j ≤ m ∧ i = .int .i64 (j : Int) ∧ Hd (InvQ 3 N (grps ps) s (fun x => x ∈ (sl N s).take j) L) ∧ Hd (wr.heap[w4.heap.size]? = some (.cells (zsT L) 4 (0, 0))) ∧ Hd (Kept no w wr) ∧ Hd (Kept (fun q => q = w4.heap.size) wD wr)) (fun i _ => m - (intOf i).toNat)
              case atStart => exact ⟨0, L, by omega, rfl, hIQ, hgD, hKD, ⟨Kept.refl _ _⟩⟩
              case round =>
                (clear hIQ hgD hKD); (obtain ⟨j, L, hj, rfl, hIQ, hg, hK, hK5⟩ := hrel)
                by_cases hjl : j < m
                · (have hji : (j : Int) < (m : Int) := by omega); (have hj0 : (0 : Int) ≤ (j : Int) := by omega); (have hcj := hK5.out.cell (hlc.out j hjl) (fun h => hbl4.out h)); (have hcm : Hd ((sl N s).getD j 0 ∈ sl N s) := ⟨by rw [List.getD_eq_getElem?_getD, List.getElem?_eq_getElem (by omega)]; simp⟩); (have hci := hlin.out _ hcm.out); (have htk := hid (fun x => mem_take_succ (zs := sl N s) (k := j) (by omega) x)); (obtain ⟨z, hz⟩ : ∃ z, (sl N s).getD j 0 = z := ⟨_, rfl⟩); (rw [hz] at hcj hcm hci htk); (clear hz); (obtain ⟨c, rfl⟩ : ∃ c : Nat, z = (c : Int) := ⟨z.toNat, by omega⟩); (have hcN : c < N := by omega); (go_upto_region 31 with fail); (obtain ⟨wE, hwE, gE, kE⟩ := alloc_named wr (.cells #[.int .i64 (c : Int)] 3)); (rw [← hwE]); (have cE : Hd (wE.cell? ⟨wr.heap.size, 0, none⟩ = some (.int .i64 (c : Int))) := ⟨by rw [cell_of_row _ _ 0 _ _ _ gE]; rfl⟩); (have hK5E := hid (hK5.out.trans' kE)); (have hKE := hid (hK.out.trans' kE)); (have hgE := hid (kE.blk hg.out))
                  have hrE : Hd (RdZ wE (.slice (some ⟨bl, ol, none⟩) m cL) (sl N s)) := ⟨Rd.kept hrl3.out hK5E.out (fun k hk e => hbl4.out (by
                    have h : bl = k := by simpa [Value.ownBlock] using hk
                    rw [h]; exact e))⟩
                  have HC := hid (containsfn2_any (.slice (some ⟨bl, ol, none⟩) m cL) (sl N s) (.pointer (some ⟨gv, 0, none⟩)) (.pointer (some ⟨wr.heap.size, 0, none⟩)) (fun d => decide (vt N (grps ps) (sl N s) d < vt N (grps ps) (sl N s) (c : Int))) wE hrE.out (fun x hx W kW => by
                    (have hxx := hlin.out x hx); (obtain ⟨d, rfl⟩ : ∃ d : Nat, x = (d : Int) := ⟨x.toNat, by omega⟩)
                    exact upper1_any d c gv wr.heap.size bV oV cV N _ _ W (by omega) hcN (kW.cell (hK5E.out.cell cD.out (fun h => hgv4.out h)) id) (kW.cell cE.out id) (kW.cell (hK5E.out.cell (hVD.out d (by omega)) (fun h => hnb.out h)) id) (kW.cell (hK5E.out.cell (hVD.out c hcN) (fun h => hnb.out h)) id)))
                  have hlow : Hd ((c : Int) ∈ lows N (grps ps) s ↔ (sl N s).any (fun d => decide (vt N (grps ps) (sl N s) d < vt N (grps ps) (sl N s) (c : Int))) = false) := ⟨by
                    rw [mem_lows, List.any_eq_false]
                    constructor
                    · (rintro ⟨_, h⟩ d hd); (have := h d hd)
                      simp; omega
                    · (intro h); (refine ⟨hcm.out, fun d hd => ?_⟩); (have := h d hd)
                      simp at this; omega⟩
                  (have hgE5 : Hd (wr.heap.size < wE.heap.size) := ⟨lt_of_heap gE⟩); (generalize wr.heap.size = gx at cE HC hgE5); (clear hwE gE kE hK5 hK hg hcj hrE); (obtain ⟨an, han⟩ : ∃ b, (sl N s).any (fun d => decide (vt N (grps ps) (sl N s) d < vt N (grps ps) (sl N s) (c : Int))) = b := ⟨_, rfl⟩); (rw [han] at HC hlow); (clear han)
                  cases an with
                  | true =>
                    have hIQ2 : Hd (InvQ 3 N (grps ps) s (fun x => x ∈ (sl N s).take (j + 1)) L) := ⟨invQ_congr hIQ.out fun x hx => by
                      have hne : x ≠ (c : Int) := fun e => by subst e; have := hlow.out.1 hx; cases this
                      show x ∈ (sl N s).take j ↔ x ∈ (sl N s).take (j + 1)
                      rw [htk.out x]; exact ⟨.inl, fun h => h.elim id fun h => absurd h hne⟩⟩
                    (clear hIQ hlow htk hcm); (go_wp2_with fail); (refine HC.out.mono ?_); (rintro e wF ⟨rfl, kF⟩); (have hgF := hid (kF.blk hgE.out)); (have hKF := hid (hKE.out.trans' kF)); (have hK5F := hid (hK5E.out.trans' kF)); (clear kF HC hgE hKE hK5E cE); (go_wp2); (go_roundw)
                    case rel => first | exact ⟨j + 1, L, by omega, by go_num, hIQ2, hgF, hKF, hK5F⟩ | ((repeat apply Exists.intro); exact ⟨⟨j + 1, L, by omega, by go_num, hIQ2, hgF, hKF, hK5F⟩, rfl⟩)
                    case measure => simp [intOf]; omega
                  | false =>
                    (have hcl := hlow.out.2 rfl); (have hls := low_sub hN7 hslt.out hcl); (have hbc := bits_clr s (by omega) c (by omega) (by simpa using hls.2.2.2)); (have hcs : (2 : Nat) ^ c ≤ s := by simpa using hls.1); (have hsh2 : wrap64 ((2 : Int) ^ c) = ((2 ^ c : Nat) : Int) := shl_pow c (by omega)); (have hset := inv_set (Q' := fun x => x ∈ (sl N s).take (j + 1)) hN7 hIQ.out hRz.out.1 (by omega) hcl (fun x => htk.out x)); (rw [Int.toNat_natCast] at hset); (obtain ⟨F2, hF2⟩ : ∃ F2 : Nat, (2 : Nat) ^ c = F2 := ⟨_, rfl⟩); (rw [hF2] at hbc hcs hsh2 hset); (replace hsh2 := hid hsh2); (clear hF2 hls hcl hlow htk hcm); (have hLl : L.length = F := by rw [hIQ.out.1, hF.out]); (replace hset := hid hset); (clear hIQ); (go_wp2_with fail); (refine HC.out.mono ?_); (rintro e wF ⟨rfl, kF⟩); (have hgF := hid (kF.blk hgE.out)); (have hKF := hid (hKE.out.trans' kF)); (have hK5F := hid (hK5E.out.trans' kF)); (have cF := kF.cell cE.out id); (clear kF HC hgE hKE hK5E cE); (have cs := zsT_cell hgF.out (s - F2) (by omega)); (have fs : wF.frozen? ⟨w4.heap.size, s - F2, none⟩ = false := row_free hgF.out _); (have hg2 : Hd ((wF.setCell ⟨w4.heap.size, s - F2, none⟩ (.bool true)).heap[w4.heap.size]? = some (.cells (zsT (L.set (s - F2) true)) 4 (0, 0))) := ⟨by rw [setCell_row hgF.out, zsT_set]⟩); (have hK2 := hid (hKF.out.setCell (a := ⟨w4.heap.size, s - F2, none⟩) (.inr hgw.out) (.bool true))); (have hK6 := hid (hK5F.out.setCell (a := ⟨w4.heap.size, s - F2, none⟩) (.inl rfl) (.bool true))); (have hi1 : ((s - F2 : Nat) : Int) < (F : Int) := by omega); (have hi0 : (0 : Int) ≤ ((s - F2 : Nat) : Int) := by omega); (obtain ⟨sF, hsF2⟩ : ∃ x, s - F2 = x := ⟨_, rfl⟩); (rw [hsF2] at hbc cs fs hg2 hK2 hK6 hset hi1 hi0); (have hshv := hsh2.out); (clear hgF hKF hK5F hcs hLl hsF2); (go_wp2); (clear hshv hbc); (go_roundw)
                    case rel => first | exact ⟨j + 1, _, by omega, by go_num, hset, hg2, hK2, hK6⟩ | ((repeat apply Exists.intro); exact ⟨⟨j + 1, _, by omega, by go_num, hset, hg2, hK2, hK6⟩, rfl⟩)
                    case measure => simp [intOf]; omega
                · (obtain rfl : m = j := by omega); (have hji : ¬ (m : Int) < (m : Int) := by omega); (have hI2 := hid (inv_next hs1 hslt.out hIQ.out (fun _ _ x hx => by rw [← hm, List.take_length]; exact (mem_lows.1 hx).1))); (clear hIQ hK5 hlc hVD hRz); (go_wp2); (go_roundw)
                  case rel => first | exact ⟨s - 1, L, bb, by omega, by go_num, rfl, hM2, hI2, hg, hK⟩ | ((repeat apply Exists.intro); exact ⟨⟨s - 1, L, bb, by omega, by go_num, rfl, hM2, hI2, hg, hK⟩, rfl⟩)
                  case measure => first | (simp [intOf]; done) | (simp [intOf]; omega)
      · (obtain rfl : s = 0 := by omega); (have hsi : ¬ (0 : Int) < ((0 : Nat) : Int) := by omega); (have hszE : (Nat.cast 0 : Int) = 0 := rfl); (have hfin : Hd (upV N (grps ps) V = bb) := ⟨upV_of hno.out hM.out⟩); (clear hI hM hg); (go_wp2); (go_ret); (exact ⟨by rw [hres.out, hfin.out]; rfl, hK.out⟩)
end Go.Proofs.YtaobaaaihgahfaaGreat
