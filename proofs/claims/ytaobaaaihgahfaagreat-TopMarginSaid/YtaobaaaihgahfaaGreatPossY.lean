/- irv.Possible (printed by gen_poss.py). -/
import Derived.Test.YtaobaaaihgahfaaGreatRUpperY
namespace Go.Mg
open Go.Pil
theorem single : ∀ n ≤ 7, ∀ u < 2 ^ n, ∀ c < n, u.testBit c = true → (sl n u).length = 1 → u = 2 ^ c := by decide +kernel
theorem sl_pos : ∀ n ≤ 7, ∀ u < 2 ^ n, 1 ≤ u → 1 ≤ (sl n u).length := by decide +kernel
theorem rc_down {k m n : Nat} {gs : List Grp} (h : k ≤ m) {t : Nat} (hr : Rc m n gs t) : Rc k n gs t := by
  induction hr with
  | full => exact .full
  | step _ h2 h3 ih => exact .step ih (by omega) h3
theorem rc12 {n : Nat} {gs : List Grp} (hn : n ≤ 7) {t : Nat} (ht : 1 ≤ t) : Rc 1 n gs t ↔ Rc 2 n gs t := by
  constructor
  · intro h
    induction h with
    | full => exact .full
    | step h1 h2 h3 ih =>
      rename_i u c
      (have hl := low_sub hn h1.lt h3); (refine .step (ih (by omega)) ?_ h3)
      rcases Nat.lt_or_ge (sl n u).length 2 with h | h
      · have := single n hn u h1.lt c.toNat (by omega) hl.2.2.2 (by omega)
        omega
      · exact h
  · exact rc_down (by decide)
open Classical in
/-- The candidates that can win. -/
noncomputable def posC (n : Nat) (gs : List Grp) (k : Nat) : List Int := ((List.range k).filter fun c => decide (Rc 2 n gs (2 ^ c))).map fun c : Nat => (c : Int)
noncomputable def posB (n : Int) (gs : List Grp) : List Int := if (1 ≤ n ∧ n ≤ 7) ∧ isPile n gs = true then posC n.toNat gs n.toNat else []
open Classical in
theorem posC_skip {n : Nat} {gs : List Grp} {k : Nat} (h : ¬ Rc 2 n gs (2 ^ k)) : posC n gs (k + 1) = posC n gs k := by
  (unfold posC); (rw [List.range_succ, List.filter_append]); (simp only [List.filter_cons, List.filter_nil, decide_eq_false h])
  simp
open Classical in
theorem posC_more {n : Nat} {gs : List Grp} {k : Nat} (h : Rc 2 n gs (2 ^ k)) : posC n gs (k + 1) = posC n gs k ++ [(k : Int)] := by
  (unfold posC); (rw [List.range_succ, List.filter_append]); (simp only [List.filter_cons, List.filter_nil, decide_eq_true h])
  simp
theorem posC_len (n : Nat) (gs : List Grp) (k : Nat) : (posC n gs k).length ≤ k := by
  (unfold posC); (rw [List.length_map]); (exact Nat.le_trans (List.length_filter_le _ _) (by simp))
/-- The flag of c behind the first j comparisons. -/
def leastK (bs : List Bool) (V : List Int) (c j : Nat) : Bool := bs.getD c false && (List.range j).all fun d => !bs.getD d false || decide (V.getD c 0 ≤ V.getD d 0)
theorem leastK_succ (bs : List Bool) (V : List Int) (c j : Nat) : leastK bs V c (j + 1) = (leastK bs V c j && (!bs.getD j false || decide (V.getD c 0 ≤ V.getD j 0))) := by
  (unfold leastK); (rw [List.range_succ, List.all_append, Bool.and_assoc])
  simp
theorem flag_sl {n s d : Nat} (hd : d < n) : (flags n (sl n s)).getD d false = s.testBit d := by
  (rw [← memK_all]); (unfold memK); (rw [List.getD_eq_getElem?_getD, Nat.sub_self, List.replicate_zero, List.append_nil, List.getElem?_map, List.getElem?_range hd]; rfl)
theorem least_low {n : Nat} {gs : List Grp} {s c : Nat} (hc : c < n) : leastK (flags n (sl n s)) (firstV gs (flags n (sl n s))).1 c n = true ↔ (c : Int) ∈ lows n gs s := by
  (unfold leastK); (rw [Bool.and_eq_true, List.all_eq_true, mem_lows, flag_sl hc, mem_sl])
  constructor
  · (rintro ⟨h1, h2⟩); (refine ⟨⟨⟨by omega, by omega⟩, by simpa using h1⟩, fun d hd => ?_⟩); (obtain ⟨⟨d0, dn⟩, db⟩ := mem_sl.1 hd); (have := h2 d.toNat (List.mem_range.2 (by omega))); (rw [flag_sl (by omega), db] at this)
    simp at this
    unfold vt
    simpa using this
  · (rintro ⟨⟨_, h1⟩, h2⟩); (refine ⟨by simpa using h1, fun d hd => ?_⟩); (have hd := List.mem_range.1 hd); (rw [flag_sl hd])
    cases hb : s.testBit d with
    | false => rfl
    | true =>
      (have := h2 (d : Int) (mem_sl.2 ⟨⟨by omega, by omega⟩, by simpa using hb⟩)); (unfold vt at this)
      simpa using this
theorem bits_clr : ∀ s : Nat, s < 128 → ∀ c : Nat, c < 7 → s.testBit c = true → Go.bits .andNot .i64 (s : Int) ((2 ^ c : Nat) : Int) = ((s - 2 ^ c : Nat) : Int) := by decide +kernel
end Go.Mg
namespace Go.Proofs.YtaobaaaihgahfaaGreat
open Go.RowKit Go.Mk Go.Pil Go.Mg
set_option maxRecDepth 100000 in
set_option maxHeartbeats 4000000 in
theorem possible_any (n : Int) (v : Value) (ps : List (Grp × Value)) (w : World) (hr : RdG w v ps) :
    Calls Tryz.prog 13 #[.int .i64 n, v] w fun e w' => ∃ v', e = .returned v' ∧ OwZ w w' v' (posB n (grps ps)) := by
  (obtain ⟨ag, cg, rfl, _, _⟩ := hr.shape); (have HV := hid (valid_any n _ ps w hr))
  cases hv : (decide (1 ≤ n ∧ n ≤ 7) && isPile n (grps ps)) with
  | false =>
    have hres : Hd (posB n (grps ps) = []) := ⟨by
      (unfold posB; rw [if_neg]); (rintro ⟨h1, h2⟩)
      rw [decide_eq_true h1, h2] at hv; cases hv⟩
    (rw [hv] at HV); (clear hr hv)
    go_enter Tryz.func13, Tryz.ntmps13
    (go_wp2_with fail); (refine HV.out.mono ?_); (rintro e w1 ⟨rfl, k1⟩); (have hO : Hd (OwZ w w1 (.slice none 0 0) (posB n (grps ps))) := ⟨by rw [hres.out]; exact (OwZ.nil w).keptNo k1⟩); (clear HV k1); (go_wp2); (go_ret); (exact ⟨_, rfl, hO.out⟩)
  | true =>
    rw [hv] at HV
    have hv1 : (1 ≤ n ∧ n ≤ 7) ∧ isPile n (grps ps) = true := by
      rw [Bool.and_eq_true, decide_eq_true_iff] at hv; exact hv
    (clear hv); (obtain ⟨N, rfl⟩ : ∃ N : Nat, n = (N : Int) := ⟨n.toNat, by omega⟩); (have hN1 : 0 < N := by omega); (have hN7 : N ≤ 7 := by omega); (have hp7 : Hd (isPile 7 (grps ps) = true) := ⟨isPile_mono (by omega) hv1.2⟩); (have hres : Hd (posB (N : Int) (grps ps) = posC N (grps ps) N) := ⟨by unfold posB; rw [if_pos hv1, Int.toNat_natCast]⟩); (clear hv1); (replace hr := hid hr); (obtain ⟨F, hF⟩ : ∃ F : Nat, (2 : Nat) ^ N = F := ⟨_, rfl⟩); (have hF1 : 1 ≤ F := by rw [← hF]; exact Nat.two_pow_pos N); (have hF128 : F ≤ 128 := by rw [← hF]; exact pow7 hN7); (have hsh : Hd (wrap64 ((2 : Int) ^ N) = (F : Int)) := ⟨by rw [shl_pow N hN7, hF]⟩); (have hst := inv_start 1 N (grps ps)); (rw [hF] at hst); (replace hF := hid hF); (have hFm : IntKind.i64.wrap ((F : Int) - 1) = ((F - 1 : Nat) : Int) := by rw [IntWalk.i64_in _ (by omega)]; omega); (obtain ⟨F1, hF1e⟩ : ∃ F1, F - 1 = F1 := ⟨_, rfl⟩); (rw [hF1e] at hFm hst); (have hF1i : (F1 : Int) < (F : Int) := by omega); (have hF1j : (0 : Int) ≤ (F1 : Int) := by omega); (replace hst := hid hst)
    go_enter Tryz.func13, Tryz.ntmps13
    (go_wp2_with fail); (refine HV.out.mono ?_); (rintro e w1 ⟨rfl, k1⟩); (replace k1 := hid k1); (have hmk := makeT F (by omega) w1); (have ga : (w1.alloc (.cells (zsT (List.replicate F false)) 4)).heap[w1.heap.size]? = some (.cells (zsT (List.replicate F false)) 4 (0, 0)) := heap_alloc_new _ _); (have c0 := zsT_cell ga F1 (by rw [List.length_replicate]; omega)); (have f0 : (w1.alloc (.cells (zsT (List.replicate F false)) 4)).frozen? ⟨w1.heap.size, F1, none⟩ = false := row_free ga F1); (have g0 : Hd ((w1.alloc (.cells ((zsT (List.replicate F false)).setIfInBounds F1 (.bool true)) 4)).heap[w1.heap.size]? = some (.cells (zsT ((List.replicate F false).set F1 true)) 4 (0, 0))) := ⟨by rw [zsT_set]; exact heap_alloc_new _ _⟩); (have k0 := hid (k1.out.alloc (.cells ((zsT (List.replicate F false)).setIfInBounds F1 (.bool true)) 4))); (have hgw : Hd (w.heap.size ≤ w1.heap.size) := ⟨k1.out.size⟩); (have hshv := hsh.out); (clear ga HV k1); (go_wp2); (clear c0 f0 hmk hshv hFm)
    go_loopw [6] (fun i wr => ∃ (s : Nat) (L : List Bool), s ≤ F1 ∧ i = .int .i64 (s : Int) ∧ Hd (Inv 1 N (grps ps) s L) ∧ Hd (wr.heap[w1.heap.size]? = some (.cells (zsT L) 4 (0, 0))) ∧ Hd (Kept no w wr)) (fun i _ => (intOf i).toNat)
    case atStart => exact ⟨F1, _, by omega, rfl, hst, g0, k0⟩
    case round =>
      (clear hst g0 k0); (obtain ⟨s, L, hs, rfl, hI, hg, hK⟩ := hrel)
      by_cases hs1 : 1 ≤ s
      · (have hsi : (0 : Int) < (s : Int) := by omega); (have hs0 : (0 : Int) ≤ (s : Int) := by omega); (have hsF : (s : Int) < (F : Int) := by omega); (have hsub : IntKind.i64.wrap ((s : Int) - 1) = ((s - 1 : Nat) : Int) := by rw [IntWalk.i64_in _ (by omega)]; omega); (have hLl : Hd (L.length = F) := ⟨by rw [hI.out.1, hF.out]⟩); (have hat := hid (inv_at hN7 hI.out (Nat.le_refl s) (by rw [hF.out]; omega))); (have cs := zsT_cell hg.out s (by rw [hLl.out]; omega))
        by_cases hR : Rc 1 N (grps ps) s
        case neg =>
          have hf : L.getD s false = false := by
            cases h : L.getD s false with
            | false => rfl
            | true => exact absurd (hat.out.1 h) hR
          (rw [hf] at cs); (have hI2 := hid (inv_next hs1 (by rw [hF.out]; omega) hI.out (fun h => absurd h hR))); (clear hf hat hI hR hLl); (go_wp2); (go_roundw)
          case rel => first | exact ⟨s - 1, L, by omega, by go_num, hI2, hg, hK⟩ | ((repeat apply Exists.intro); exact ⟨⟨s - 1, L, by omega, by go_num, hI2, hg, hK⟩, rfl⟩)
          case measure => first | (simp [intOf]; done) | (simp [intOf]; omega)
        (have ht : L.getD s false = true := hat.out.2 hR); (rw [ht] at cs); (have hmk2 := makeT N (by omega) wr); (have gm0 : Hd ((wr.alloc (.cells (zsT (List.replicate N false)) 4)).heap[wr.heap.size]? = some (.cells (zsT (memK N s 0)) 4 (0, 0))) := ⟨by rw [show memK N s 0 = List.replicate N false by simp [memK]]; exact heap_alloc_new _ _⟩); (have km0 := hid ((Kept.refl no wr).alloc (.cells (zsT (List.replicate N false)) 4))); (have hgl : Hd (w1.heap.size < wr.heap.size) := ⟨lt_of_heap hg.out⟩); (have hRz : Hd (Rc 1 N (grps ps) s ∧ 1 ≤ (sl N s).length) := ⟨⟨hR, sl_pos N hN7 s hR.lt hs1⟩⟩); (have hslt : Hd (s < 2 ^ N) := ⟨hR.lt⟩); (obtain ⟨w9, rfl⟩ : ∃ w9 : World, w9 = wr := ⟨_, rfl⟩); (clear ht hat hR); (go_wp2); (clear cs hmk2)
        go_loopw [44] (fun i wr => ∃ k : Nat, k ≤ N ∧ i = .int .i64 (k : Int) ∧ Hd (wr.heap[w9.heap.size]? = some (.cells (zsT (memK N s k)) 4 (0, 0))) ∧ Hd (Kept no w9 wr)) (fun i _ => N - (intOf i).toNat)
        case atStart => exact ⟨0, by omega, rfl, gm0, km0⟩
        case round =>
          (clear gm0 km0); (obtain ⟨k, hk, rfl, hgm, hW⟩ := hrel)
          by_cases hlt : k < N
          · (have hk1 : (k : Int) < (N : Int) := by omega); (have hk0 : (0 : Int) ≤ (k : Int) := by omega); (have hb := bit_and s (by omega) k (by omega)); (rw [show (((s / 2 ^ k : Nat)) : Int) = (s : Int) / 2 ^ k by rw [Int.natCast_ediv, Int.natCast_pow]; rfl] at hb); (replace hb := hid hb); (have fs : wr.frozen? ⟨w9.heap.size, k, none⟩ = false := row_free hgm.out k); (have cs := zsT_cell hgm.out k (by rw [memK_len _ _ _ hk]; exact hlt)); (have hg' : Hd ((wr.setCell ⟨w9.heap.size, k, none⟩ (.bool (s.testBit k))).heap[w9.heap.size]? = some (.cells (zsT (memK N s (k + 1))) 4 (0, 0))) := ⟨by rw [setCell_row hgm.out, zsT_set, memK_set _ _ _ hlt]⟩); (have hW' := hid (hW.out.setCell (a := ⟨w9.heap.size, k, none⟩) (.inr (Nat.le_refl _)) (.bool (s.testBit k)))); (generalize s.testBit k = bb at hb hg' hW'); (have hbv := hb.out); (clear hgm hW); (go_wp2); (clear hbv); (go_roundw)
            case rel => first | exact ⟨k + 1, by omega, by go_num, hg', hW'⟩ | ((repeat apply Exists.intro); exact ⟨⟨k + 1, by omega, by go_num, hg', hW'⟩, rfl⟩)
            case measure => simp [intOf]; omega
          · (obtain rfl : k = N := by omega); (have hk1 : ¬ (k : Int) < (k : Int) := by omega)
            have hrd : Hd (RdT wr (.slice (some ⟨w9.heap.size, 0, none⟩) k k) (flags k (sl k s))) := ⟨by
              (have := hgm.out); (rw [memK_all] at this)
              exact zsT_rd this k (flags_len _ _) (by have : maxLen = 9223372036854775807 := rfl; omega)⟩
            (have hKw := hid (hK.out.trans' hW.out)); (have hgr := hid ((hW.out.block _ (lt_of_heap hg.out) id).trans hg.out)); (have HC := first_any _ _ ps _ _ (hr.out.kept hKw.out) hrd.out); (rw [first_firstV hp7.out hN7] at HC); (replace HC := hid HC); (have hgm2 := hid (show wr.heap[w9.heap.size]? = some (.cells (zsT (flags k (sl k s))) 4 (0, 0)) from by have := hgm.out; rwa [memK_all] at this)); (clear hW hgm hrd hg hK); (go_wp2_with fail); (refine HC.out.mono ?_); (rintro e wC ⟨vv, rfl, ov⟩); (have hKC := hid (hKw.out.trans' ov.kept)); (have hgC := hid ((ov.kept.block _ (lt_of_heap hgr.out) id).trans hgr.out)); (have hmC := hid ((ov.kept.block _ (lt_of_heap hgm2.out) id).trans hgm2.out)); (obtain ⟨bV, oV, cV, rfl, hVc⟩ := votes_at ov hN1)
            have hnb : Hd (bV ≠ w1.heap.size) := ⟨by
              rcases ov.new with h | ⟨b2, h, h2⟩
              · cases h
              · (have : bV = b2 := by simpa [Value.ownBlock] using h); (have := lt_of_heap hgr.out)
                omega⟩
            (have hnm : Hd (w9.heap.size ≠ w1.heap.size) := ⟨by have := hgl.out; omega⟩); (have hmem : Hd (∀ c, c < k → wC.cell? ⟨w9.heap.size, c, none⟩ = some (.bool ((flags k (sl k s)).getD c false))) := ⟨fun c hc => zsT_cell hmC.out c (by rw [flags_len]; exact hc)⟩); (have hVV : Hd (∀ c, c < k → wC.cell? ⟨bV, oV + c, none⟩ = some (.int .i64 ((firstV (grps ps) (flags k (sl k s))).1.getD c 0))) := ⟨fun c hc => by rw [hVc c hc]; unfold vt; rw [Int.toNat_natCast]⟩); (have hll := hid (fun (c : Nat) (hc : c < k) => least_low (n := k) (gs := grps ps) (s := s) hc)); (obtain ⟨BS, hBS⟩ : ∃ l, flags k (sl k s) = l := ⟨_, rfl⟩); (rw [hBS] at hmem hVV hll); (obtain ⟨VS, hVS⟩ : ∃ l, (firstV (grps ps) BS).1 = l := ⟨_, rfl⟩); (rw [hVS] at hVV hll)
            have hIQ : Hd (InvQ 1 k (grps ps) s (fun x => x < ((0 : Nat) : Int)) L) := ⟨invQ_congr hI.out fun c hc => by
              have := (mem_sl.1 (mem_lows.1 hc).1).1.1
              simp; omega⟩
            (clear ov hVc HC hKw hgr hgm2 hmC hBS hVS hI hLl); (go_wp2)
            go_loopw [64] (fun i wr => ∃ (c : Nat) (L : List Bool), c ≤ k ∧ i = .int .i64 (c : Int) ∧ Hd (InvQ 1 k (grps ps) s (fun x => x < (c : Int)) L) ∧ Hd (wr.heap[w1.heap.size]? = some (.cells (zsT L) 4 (0, 0))) ∧ Hd (Kept no w wr) ∧ Hd (Kept (fun j => j = w1.heap.size) wC wr)) (fun i _ => k - (intOf i).toNat)
            case atStart => exact ⟨0, L, by omega, rfl, hIQ, hgC, hKC, ⟨Kept.refl _ _⟩⟩
            case round =>
              (clear hIQ hgC hKC); (obtain ⟨c, L, hc, rfl, hIQ, hg, hK, hK5⟩ := hrel)
              by_cases hcl : c < k
              · (have hci : (c : Int) < (k : Int) := by omega); (have hc0 : (0 : Int) ≤ (c : Int) := by omega); (have hmc := hK5.out.cell (hmem.out c hcl) (fun h => hnm.out h)); (obtain ⟨l0, hl0⟩ : ∃ l0, BS.getD c false = l0 := ⟨_, rfl⟩); (rw [hl0] at hmc); (have hstart : Hd (l0 = leastK BS VS c 0) := ⟨by unfold leastK; simp [← hl0]⟩); (have hVcc := hid (hK5.out.cell (hVV.out c hcl) (fun h => hnb.out h))); (obtain ⟨vc, hvc⟩ : ∃ x, VS.getD c 0 = x := ⟨_, rfl⟩); (rw [hvc] at hVcc); (obtain ⟨w10, rfl⟩ : ∃ w10 : World, w10 = wr := ⟨_, rfl⟩); (clear hl0); (go_wp2); (clear hmc)
                go_loopw [12, 73] (fun lo i wr => ∃ (d : Nat) (lb : Bool), d ≤ k ∧ i = .int .i64 (d : Int) ∧ lo = .bool lb ∧ Hd (lb = leastK BS VS c d) ∧ Hd (Kept no w10 wr)) (fun _ i _ => k - (intOf i).toNat)
                case atStart => exact ⟨0, l0, by omega, rfl, rfl, hstart, ⟨Kept.refl _ _⟩⟩
                case round =>
                  (clear hstart); (obtain ⟨d, lb, hd, rfl, rfl, hlb, hK6⟩ := hrel)
                  by_cases hdl : d < k
                  · (have hdi : (d : Int) < (k : Int) := by omega); (have hd0 : (0 : Int) ≤ (d : Int) := by omega); (have hmd := hid (hK6.out.cell (hK5.out.cell (hmem.out d hdl) (fun h => hnm.out h)) id)); (have hVd := hid (hK6.out.cell (hK5.out.cell (hVV.out d hdl) (fun h => hnb.out h)) id)); (have hVc6 := hid (hK6.out.cell hVcc.out id)); (have hst := hid (leastK_succ BS VS c d)); (rw [hvc, ← hlb.out] at hst); (obtain ⟨rd, hrd⟩ : ∃ x, BS.getD d false = x := ⟨_, rfl⟩); (obtain ⟨vd, hvd⟩ : ∃ x, VS.getD d 0 = x := ⟨_, rfl⟩); (rw [hrd] at hmd hst); (rw [hvd] at hVd hst); (clear hrd hvd hlb)
                    cases lb with
                    | false =>
                      (have hn2 : Hd (false = leastK BS VS c (d + 1)) := ⟨by rw [hst.out]; rfl⟩); (clear hst); (go_upto_region 23 with fail); (refine region_flow (S := no) (Sl := (fun _ => no)) [Is (.bool false), Is (.bool false), Is undef, Is undef, Is undef, Is undef, Is undef, Is undef, Is undef, Is undef, Is undef, Is undef, Is undef, Is undef, Is undef, Is undef, Is undef, Is undef, Is (.bool false), Is (.bool false)] [] (fun _ _ h => h) _ (by kernel_rfl) (by kernel_rfl) (by kernel_rfl) (by kernel_rfl) (fun x => by simp only [puts, Act.put, List.map_cons, List.map_nil, Nat.zero_add, Nat.reduceAdd, List.setIfInBounds_toArray, List.set_cons_zero, List.set_cons_succ]; exact rfl) ?_ ?_)
                      · (skip); (refine .cons (fun x wf Kk hq hdep hold => ?_) ?_)
                        · (try dsimp only); (have h19 : x 19 = (.bool false) := hold 19 (by kernel_rfl)); (clear hq hdep hold); (simp only [h19]); (clear h19); (rw [if_pos (by rfl)]); (refine OpY.val ?_ ⟨Kept.refl _ _, rfl⟩); (first | rfl | go_simp)
                        refine .cons (fun x wf Kk hq hdep hold => ?_) ?_
                        · (try dsimp only); (have h0 : x 0 = _ := hdep 0 (by kernel_rfl)); (clear hq hdep hold); (simp only [h0]); (clear h0); (rw [if_pos (by rfl)]); (refine OpY.val ?_ ⟨Kept.refl _ _, rfl⟩); (first | rfl | go_simp)
                        refine .cons (fun x wf Kk hq hdep hold => ?_) ?_
                        · (try dsimp only); (have h1 : x 1 = _ := hdep 1 (by kernel_rfl)); (clear hq hdep hold); (simp only [h1]); (clear h1); (exact stepOff rfl rfl)
                        refine .cons (fun x wf Kk hq hdep hold => ?_) ?_
                        · (try dsimp only); (have h1 : x 1 = _ := hdep 1 (by kernel_rfl)); (clear hq hdep hold); (simp only [h1]); (clear h1); (exact stepOff rfl rfl)
                        refine .cons (fun x wf Kk hq hdep hold => ?_) ?_
                        · (try dsimp only); (have h1 : x 1 = _ := hdep 1 (by kernel_rfl)); (clear hq hdep hold); (simp only [h1]); (clear h1); (exact stepOff rfl rfl)
                        refine .cons (fun x wf Kk hq hdep hold => ?_) ?_
                        · (try dsimp only); (have h1 : x 1 = _ := hdep 1 (by kernel_rfl)); (clear hq hdep hold); (simp only [h1]); (clear h1); (exact stepOff rfl rfl)
                        refine .cons (fun x wf Kk hq hdep hold => ?_) ?_
                        · (try dsimp only); (have h1 : x 1 = _ := hdep 1 (by kernel_rfl)); (clear hq hdep hold); (simp only [h1]); (clear h1); (exact stepOff rfl rfl)
                        refine .cons (fun x wf Kk hq hdep hold => ?_) ?_
                        · (try dsimp only); (have h1 : x 1 = _ := hdep 1 (by kernel_rfl)); (clear hq hdep hold); (simp only [h1]); (clear h1); (exact stepOff rfl rfl)
                        refine .cons (fun x wf Kk hq hdep hold => ?_) ?_
                        · (try dsimp only); (have h7 : x 7 = _ := hdep 7 (by kernel_rfl)); (clear hq hdep hold); (simp only [h7]); (clear h7); (exact stepOff rfl rfl)
                        refine .cons (fun x wf Kk hq hdep hold => ?_) ?_
                        · (try dsimp only); (have h7 : x 7 = _ := hdep 7 (by kernel_rfl)); (clear hq hdep hold); (simp only [h7]); (clear h7); (exact stepOff rfl rfl)
                        refine .cons (fun x wf Kk hq hdep hold => ?_) ?_
                        · (try dsimp only); (have h7 : x 7 = _ := hdep 7 (by kernel_rfl)); (clear hq hdep hold); (simp only [h7]); (clear h7); (exact stepOff rfl rfl)
                        refine .cons (fun x wf Kk hq hdep hold => ?_) ?_
                        · (try dsimp only); (have h7 : x 7 = _ := hdep 7 (by kernel_rfl)); (clear hq hdep hold); (simp only [h7]); (clear h7); (exact stepOff rfl rfl)
                        refine .cons (fun x wf Kk hq hdep hold => ?_) ?_
                        · (try dsimp only); (have h7 : x 7 = _ := hdep 7 (by kernel_rfl)); (clear hq hdep hold); (simp only [h7]); (clear h7); (exact stepOff rfl rfl)
                        refine .cons (fun x wf Kk hq hdep hold => ?_) ?_
                        · (try dsimp only); (have h7 : x 7 = _ := hdep 7 (by kernel_rfl)); (clear hq hdep hold); (simp only [h7]); (clear h7); (exact stepOff rfl rfl)
                        refine .cons (fun x wf Kk hq hdep hold => ?_) ?_
                        · (try dsimp only); (have h7 : x 7 = _ := hdep 7 (by kernel_rfl)); (clear hq hdep hold); (simp only [h7]); (clear h7); (exact stepOff rfl rfl)
                        refine .cons (fun x wf Kk hq hdep hold => ?_) ?_
                        · (try dsimp only); (have h7 : x 7 = _ := hdep 7 (by kernel_rfl)); (clear hq hdep hold); (simp only [h7]); (clear h7); (exact stepOff rfl rfl)
                        refine .cons (fun x wf Kk hq hdep hold => ?_) ?_
                        · (try dsimp only); (have h7 : x 7 = _ := hdep 7 (by kernel_rfl)); (clear hq hdep hold); (simp only [h7]); (clear h7); (exact stepOff rfl rfl)
                        refine .cons (fun x wf Kk hq hdep hold => ?_) ?_
                        · (try dsimp only); (have h1 : x 1 = _ := hdep 1 (by kernel_rfl)); (clear hq hdep hold); (simp only [h1]); (clear h1); (exact stepOff rfl rfl)
                        refine .cons (fun x wf Kk hq hdep hold => ?_) ?_
                        · (try dsimp only); (have h1 : x 1 = _ := hdep 1 (by kernel_rfl)); (have h17 : x 17 = _ := hdep 17 (by kernel_rfl)); (clear hq hdep hold); (simp only [h1, h17]); (clear h1 h17); (rw [if_pos (by rfl)]); (refine OpY.val ?_ ⟨Kept.refl _ _, rfl⟩); (first | rfl | go_simp)
                        refine .cons (fun x wf Kk hq hdep hold => ?_) ?_
                        · (try dsimp only); (have h18 : x 18 = _ := hdep 18 (by kernel_rfl)); (clear hq hdep hold); (simp only [h18]); (clear h18); (rw [if_pos (by rfl)]); (refine OpY.val ?_ ⟨Kept.refl _ _, rfl⟩); (first | rfl | go_simp)
                        exact .nil _
                      · (intro x wf Kk hv); (try dsimp only); (have h19 : x 19 = _ := hv 19 (by kernel_rfl)); (clear hv); (simp only [h19]); (clear h19); (have hK9 := hid (hK6.out.trans' Kk.undrew)); (clear Kk hK6 hmd hVd hVc6); (go_wp2); (go_roundw)
                        case rel => first | exact ⟨d + 1, false, by omega, by go_num, rfl, hn2, hK9⟩ | ((repeat apply Exists.intro); exact ⟨⟨d + 1, false, by omega, by go_num, rfl, hn2, hK9⟩, rfl⟩)
                        case measure => simp [intOf]; omega
                    | true =>
                      cases rd with
                      | false =>
                        (have hn2 : Hd (true = leastK BS VS c (d + 1)) := ⟨by rw [hst.out]; rfl⟩); (clear hst); (go_upto_region 23 with fail); (refine region_flow (S := no) (Sl := (fun _ => no)) [Is (.bool true), Is (.bool true), Is (.slice (some ⟨w9.heap.size, 0, none⟩) k k), Is (.int .i64 (d : Int)), Is (.pointer (some ⟨w9.heap.size, d, none⟩)), Is (.bool false), Is (.bool true), Is (.bool true), Is undef, Is undef, Is undef, Is undef, Is undef, Is undef, Is undef, Is undef, Is undef, Is (.bool true), Is (.bool true), Is (.bool true)] [] (fun _ _ h => h) _ (by kernel_rfl) (by kernel_rfl) (by kernel_rfl) (by kernel_rfl) (fun x => by simp only [puts, Act.put, List.map_cons, List.map_nil, Nat.zero_add, Nat.reduceAdd, List.setIfInBounds_toArray, List.set_cons_zero, List.set_cons_succ]; exact rfl) ?_ ?_)
                        · (skip); (refine .cons (fun x wf Kk hq hdep hold => ?_) ?_)
                          · (try dsimp only); (have h19 : x 19 = (.bool true) := hold 19 (by kernel_rfl)); (clear hq hdep hold); (simp only [h19]); (clear h19); (rw [if_pos (by rfl)]); (refine OpY.val ?_ ⟨Kept.refl _ _, rfl⟩); (first | rfl | go_simp)
                          refine .cons (fun x wf Kk hq hdep hold => ?_) ?_
                          · (try dsimp only); (have h0 : x 0 = _ := hdep 0 (by kernel_rfl)); (clear hq hdep hold); (simp only [h0]); (clear h0); (rw [if_pos (by rfl)]); (refine OpY.val ?_ ⟨Kept.refl _ _, rfl⟩); (first | rfl | go_simp)
                          refine .cons (fun x wf Kk hq hdep hold => ?_) ?_
                          · (try dsimp only); (have h1 : x 1 = _ := hdep 1 (by kernel_rfl)); (clear hq hdep hold); (simp only [h1]); (clear h1); (rw [if_pos (by rfl)]); (refine OpY.val ?_ ⟨Kept.refl _ _, rfl⟩); (first | rfl | go_simp)
                          refine .cons (fun x wf Kk hq hdep hold => ?_) ?_
                          · (try dsimp only); (have h1 : x 1 = _ := hdep 1 (by kernel_rfl)); (clear hq hdep hold); (simp only [h1]); (clear h1); (rw [if_pos (by rfl)]); (refine OpY.val ?_ ⟨Kept.refl _ _, rfl⟩); (first | rfl | go_simp)
                          refine .cons (fun x wf Kk hq hdep hold => ?_) ?_
                          · (try dsimp only); (have h2 : x 2 = _ := hdep 2 (by kernel_rfl)); (have h3 : x 3 = _ := hdep 3 (by kernel_rfl)); (have h1 : x 1 = _ := hdep 1 (by kernel_rfl)); (clear hq hdep hold); (simp only [h2, h3, h1]); (clear h2 h3 h1); (rw [if_pos (by rfl)]); (refine OpY.val ?_ ⟨Kept.refl _ _, rfl⟩); (first | rfl | go_simp)
                          refine .cons (fun x wf Kk hq hdep hold => ?_) ?_
                          · (try dsimp only); (have h4 : x 4 = _ := hdep 4 (by kernel_rfl)); (have h1 : x 1 = _ := hdep 1 (by kernel_rfl)); (clear hq hdep hold); (simp only [h4, h1]); (clear h4 h1); (have c1 := Kk.undrew.cell hmd.out id); (rw [if_pos (by rfl)]); (refine OpY.val ?_ ⟨Kept.refl _ _, rfl⟩); (first | rfl | go_simp)
                          refine .cons (fun x wf Kk hq hdep hold => ?_) ?_
                          · (try dsimp only); (have h5 : x 5 = _ := hdep 5 (by kernel_rfl)); (have h1 : x 1 = _ := hdep 1 (by kernel_rfl)); (clear hq hdep hold); (simp only [h5, h1]); (clear h5 h1); (rw [if_pos (by rfl)]); (refine OpY.val ?_ ⟨Kept.refl _ _, rfl⟩); (first | rfl | go_simp)
                          refine .cons (fun x wf Kk hq hdep hold => ?_) ?_
                          · (try dsimp only); (have h6 : x 6 = _ := hdep 6 (by kernel_rfl)); (have h1 : x 1 = _ := hdep 1 (by kernel_rfl)); (clear hq hdep hold); (simp only [h6, h1]); (clear h6 h1); (rw [if_pos (by rfl)]); (refine OpY.val ?_ ⟨Kept.refl _ _, rfl⟩); (first | rfl | go_simp)
                          refine .cons (fun x wf Kk hq hdep hold => ?_) ?_
                          · (try dsimp only); (have h7 : x 7 = _ := hdep 7 (by kernel_rfl)); (clear hq hdep hold); (simp only [h7]); (clear h7); (exact stepOff rfl rfl)
                          refine .cons (fun x wf Kk hq hdep hold => ?_) ?_
                          · (try dsimp only); (have h7 : x 7 = _ := hdep 7 (by kernel_rfl)); (clear hq hdep hold); (simp only [h7]); (clear h7); (exact stepOff rfl rfl)
                          refine .cons (fun x wf Kk hq hdep hold => ?_) ?_
                          · (try dsimp only); (have h7 : x 7 = _ := hdep 7 (by kernel_rfl)); (clear hq hdep hold); (simp only [h7]); (clear h7); (exact stepOff rfl rfl)
                          refine .cons (fun x wf Kk hq hdep hold => ?_) ?_
                          · (try dsimp only); (have h7 : x 7 = _ := hdep 7 (by kernel_rfl)); (clear hq hdep hold); (simp only [h7]); (clear h7); (exact stepOff rfl rfl)
                          refine .cons (fun x wf Kk hq hdep hold => ?_) ?_
                          · (try dsimp only); (have h7 : x 7 = _ := hdep 7 (by kernel_rfl)); (clear hq hdep hold); (simp only [h7]); (clear h7); (exact stepOff rfl rfl)
                          refine .cons (fun x wf Kk hq hdep hold => ?_) ?_
                          · (try dsimp only); (have h7 : x 7 = _ := hdep 7 (by kernel_rfl)); (clear hq hdep hold); (simp only [h7]); (clear h7); (exact stepOff rfl rfl)
                          refine .cons (fun x wf Kk hq hdep hold => ?_) ?_
                          · (try dsimp only); (have h7 : x 7 = _ := hdep 7 (by kernel_rfl)); (clear hq hdep hold); (simp only [h7]); (clear h7); (exact stepOff rfl rfl)
                          refine .cons (fun x wf Kk hq hdep hold => ?_) ?_
                          · (try dsimp only); (have h7 : x 7 = _ := hdep 7 (by kernel_rfl)); (clear hq hdep hold); (simp only [h7]); (clear h7); (exact stepOff rfl rfl)
                          refine .cons (fun x wf Kk hq hdep hold => ?_) ?_
                          · (try dsimp only); (have h7 : x 7 = _ := hdep 7 (by kernel_rfl)); (clear hq hdep hold); (simp only [h7]); (clear h7); (exact stepOff rfl rfl)
                          refine .cons (fun x wf Kk hq hdep hold => ?_) ?_
                          · (try dsimp only); (have h7 : x 7 = _ := hdep 7 (by kernel_rfl)); (have h16 : x 16 = _ := hdep 16 (by kernel_rfl)); (have h1 : x 1 = _ := hdep 1 (by kernel_rfl)); (clear hq hdep hold); (simp only [h7, h16, h1]); (clear h7 h16 h1); (rw [if_pos (by rfl)]); (refine OpY.val ?_ ⟨Kept.refl _ _, rfl⟩); (first | rfl | go_simp)
                          refine .cons (fun x wf Kk hq hdep hold => ?_) ?_
                          · (try dsimp only); (have h1 : x 1 = _ := hdep 1 (by kernel_rfl)); (have h17 : x 17 = _ := hdep 17 (by kernel_rfl)); (clear hq hdep hold); (simp only [h1, h17]); (clear h1 h17); (rw [if_pos (by rfl)]); (refine OpY.val ?_ ⟨Kept.refl _ _, rfl⟩); (first | rfl | go_simp)
                          refine .cons (fun x wf Kk hq hdep hold => ?_) ?_
                          · (try dsimp only); (have h18 : x 18 = _ := hdep 18 (by kernel_rfl)); (clear hq hdep hold); (simp only [h18]); (clear h18); (rw [if_pos (by rfl)]); (refine OpY.val ?_ ⟨Kept.refl _ _, rfl⟩); (first | rfl | go_simp)
                          exact .nil _
                        · (intro x wf Kk hv); (try dsimp only); (have h19 : x 19 = _ := hv 19 (by kernel_rfl)); (clear hv); (simp only [h19]); (clear h19); (have hK9 := hid (hK6.out.trans' Kk.undrew)); (clear Kk hK6 hmd hVd hVc6); (go_wp2); (go_roundw)
                          case rel => first | exact ⟨d + 1, true, by omega, by go_num, rfl, hn2, hK9⟩ | ((repeat apply Exists.intro); exact ⟨⟨d + 1, true, by omega, by go_num, rfl, hn2, hK9⟩, rfl⟩)
                          case measure => simp [intOf]; omega
                      | true =>
                        by_cases hle : vc ≤ vd
                        · (have hled : decide (vc ≤ vd) = true := decide_eq_true hle); (have hn2 : Hd (true = leastK BS VS c (d + 1)) := ⟨by rw [hst.out, hled]; rfl⟩); (clear hst); (go_upto_region 23 with fail); (refine region_flow (S := no) (Sl := (fun _ => no)) [Is (.bool true), Is (.bool true), Is (.slice (some ⟨w9.heap.size, 0, none⟩) k k), Is (.int .i64 (d : Int)), Is (.pointer (some ⟨w9.heap.size, d, none⟩)), Is (.bool true), Is (.bool false), Is (.bool false), Is (.slice (some ⟨bV, oV, none⟩) k cV), Is (.int .i64 (c : Int)), Is (.pointer (some ⟨bV, oV + c, none⟩)), Is (.int .i64 vc), Is (.slice (some ⟨bV, oV, none⟩) k cV), Is (.int .i64 (d : Int)), Is (.pointer (some ⟨bV, oV + d, none⟩)), Is (.int .i64 vd), Is (.bool true), Is (.bool true), Is (.bool true), Is (.bool true)] [] (fun _ _ h => h) _ (by kernel_rfl) (by kernel_rfl) (by kernel_rfl) (by kernel_rfl) (fun x => by simp only [puts, Act.put, List.map_cons, List.map_nil, Nat.zero_add, Nat.reduceAdd, List.setIfInBounds_toArray, List.set_cons_zero, List.set_cons_succ]; exact rfl) ?_ ?_)
                          · (skip); (refine .cons (fun x wf Kk hq hdep hold => ?_) ?_)
                            · (try dsimp only); (have h19 : x 19 = (.bool true) := hold 19 (by kernel_rfl)); (clear hq hdep hold); (simp only [h19]); (clear h19); (rw [if_pos (by rfl)]); (refine OpY.val ?_ ⟨Kept.refl _ _, rfl⟩); (first | rfl | go_simp)
                            refine .cons (fun x wf Kk hq hdep hold => ?_) ?_
                            · (try dsimp only); (have h0 : x 0 = _ := hdep 0 (by kernel_rfl)); (clear hq hdep hold); (simp only [h0]); (clear h0); (rw [if_pos (by rfl)]); (refine OpY.val ?_ ⟨Kept.refl _ _, rfl⟩); (first | rfl | go_simp)
                            refine .cons (fun x wf Kk hq hdep hold => ?_) ?_
                            · (try dsimp only); (have h1 : x 1 = _ := hdep 1 (by kernel_rfl)); (clear hq hdep hold); (simp only [h1]); (clear h1); (rw [if_pos (by rfl)]); (refine OpY.val ?_ ⟨Kept.refl _ _, rfl⟩); (first | rfl | go_simp)
                            refine .cons (fun x wf Kk hq hdep hold => ?_) ?_
                            · (try dsimp only); (have h1 : x 1 = _ := hdep 1 (by kernel_rfl)); (clear hq hdep hold); (simp only [h1]); (clear h1); (rw [if_pos (by rfl)]); (refine OpY.val ?_ ⟨Kept.refl _ _, rfl⟩); (first | rfl | go_simp)
                            refine .cons (fun x wf Kk hq hdep hold => ?_) ?_
                            · (try dsimp only); (have h2 : x 2 = _ := hdep 2 (by kernel_rfl)); (have h3 : x 3 = _ := hdep 3 (by kernel_rfl)); (have h1 : x 1 = _ := hdep 1 (by kernel_rfl)); (clear hq hdep hold); (simp only [h2, h3, h1]); (clear h2 h3 h1); (rw [if_pos (by rfl)]); (refine OpY.val ?_ ⟨Kept.refl _ _, rfl⟩); (first | rfl | go_simp)
                            refine .cons (fun x wf Kk hq hdep hold => ?_) ?_
                            · (try dsimp only); (have h4 : x 4 = _ := hdep 4 (by kernel_rfl)); (have h1 : x 1 = _ := hdep 1 (by kernel_rfl)); (clear hq hdep hold); (simp only [h4, h1]); (clear h4 h1); (have c1 := Kk.undrew.cell hmd.out id); (rw [if_pos (by rfl)]); (refine OpY.val ?_ ⟨Kept.refl _ _, rfl⟩); (first | rfl | go_simp)
                            refine .cons (fun x wf Kk hq hdep hold => ?_) ?_
                            · (try dsimp only); (have h5 : x 5 = _ := hdep 5 (by kernel_rfl)); (have h1 : x 1 = _ := hdep 1 (by kernel_rfl)); (clear hq hdep hold); (simp only [h5, h1]); (clear h5 h1); (rw [if_pos (by rfl)]); (refine OpY.val ?_ ⟨Kept.refl _ _, rfl⟩); (first | rfl | go_simp)
                            refine .cons (fun x wf Kk hq hdep hold => ?_) ?_
                            · (try dsimp only); (have h6 : x 6 = _ := hdep 6 (by kernel_rfl)); (have h1 : x 1 = _ := hdep 1 (by kernel_rfl)); (clear hq hdep hold); (simp only [h6, h1]); (clear h6 h1); (rw [if_pos (by rfl)]); (refine OpY.val ?_ ⟨Kept.refl _ _, rfl⟩); (first | rfl | go_simp)
                            refine .cons (fun x wf Kk hq hdep hold => ?_) ?_
                            · (try dsimp only); (have h7 : x 7 = _ := hdep 7 (by kernel_rfl)); (clear hq hdep hold); (simp only [h7]); (clear h7); (rw [if_pos (by rfl)]); (refine OpY.val ?_ ⟨Kept.refl _ _, rfl⟩); (first | rfl | go_simp)
                            refine .cons (fun x wf Kk hq hdep hold => ?_) ?_
                            · (try dsimp only); (have h7 : x 7 = _ := hdep 7 (by kernel_rfl)); (clear hq hdep hold); (simp only [h7]); (clear h7); (rw [if_pos (by rfl)]); (refine OpY.val ?_ ⟨Kept.refl _ _, rfl⟩); (first | rfl | go_simp)
                            refine .cons (fun x wf Kk hq hdep hold => ?_) ?_
                            · (try dsimp only); (have h8 : x 8 = _ := hdep 8 (by kernel_rfl)); (have h9 : x 9 = _ := hdep 9 (by kernel_rfl)); (have h7 : x 7 = _ := hdep 7 (by kernel_rfl)); (clear hq hdep hold); (simp only [h8, h9, h7]); (clear h8 h9 h7); (rw [if_pos (by rfl)]); (refine OpY.val ?_ ⟨Kept.refl _ _, rfl⟩); (first | rfl | go_simp)
                            refine .cons (fun x wf Kk hq hdep hold => ?_) ?_
                            · (try dsimp only); (have h10 : x 10 = _ := hdep 10 (by kernel_rfl)); (have h7 : x 7 = _ := hdep 7 (by kernel_rfl)); (clear hq hdep hold); (simp only [h10, h7]); (clear h10 h7); (have c1 := Kk.undrew.cell hVc6.out id); (rw [if_pos (by rfl)]); (refine OpY.val ?_ ⟨Kept.refl _ _, rfl⟩); (first | rfl | go_simp)
                            refine .cons (fun x wf Kk hq hdep hold => ?_) ?_
                            · (try dsimp only); (have h7 : x 7 = _ := hdep 7 (by kernel_rfl)); (clear hq hdep hold); (simp only [h7]); (clear h7); (rw [if_pos (by rfl)]); (refine OpY.val ?_ ⟨Kept.refl _ _, rfl⟩); (first | rfl | go_simp)
                            refine .cons (fun x wf Kk hq hdep hold => ?_) ?_
                            · (try dsimp only); (have h7 : x 7 = _ := hdep 7 (by kernel_rfl)); (clear hq hdep hold); (simp only [h7]); (clear h7); (rw [if_pos (by rfl)]); (refine OpY.val ?_ ⟨Kept.refl _ _, rfl⟩); (first | rfl | go_simp)
                            refine .cons (fun x wf Kk hq hdep hold => ?_) ?_
                            · (try dsimp only); (have h12 : x 12 = _ := hdep 12 (by kernel_rfl)); (have h13 : x 13 = _ := hdep 13 (by kernel_rfl)); (have h7 : x 7 = _ := hdep 7 (by kernel_rfl)); (clear hq hdep hold); (simp only [h12, h13, h7]); (clear h12 h13 h7); (rw [if_pos (by rfl)]); (refine OpY.val ?_ ⟨Kept.refl _ _, rfl⟩); (first | rfl | go_simp)
                            refine .cons (fun x wf Kk hq hdep hold => ?_) ?_
                            · (try dsimp only); (have h14 : x 14 = _ := hdep 14 (by kernel_rfl)); (have h7 : x 7 = _ := hdep 7 (by kernel_rfl)); (clear hq hdep hold); (simp only [h14, h7]); (clear h14 h7); (have c1 := Kk.undrew.cell hVd.out id); (rw [if_pos (by rfl)]); (refine OpY.val ?_ ⟨Kept.refl _ _, rfl⟩); (first | rfl | go_simp)
                            refine .cons (fun x wf Kk hq hdep hold => ?_) ?_
                            · (try dsimp only); (have h11 : x 11 = _ := hdep 11 (by kernel_rfl)); (have h15 : x 15 = _ := hdep 15 (by kernel_rfl)); (have h7 : x 7 = _ := hdep 7 (by kernel_rfl)); (clear hq hdep hold); (simp only [h11, h15, h7]); (clear h11 h15 h7); (rw [if_pos (by rfl)]); (refine OpY.val ?_ ⟨Kept.refl _ _, rfl⟩); (first | rfl | go_simp)
                            refine .cons (fun x wf Kk hq hdep hold => ?_) ?_
                            · (try dsimp only); (have h7 : x 7 = _ := hdep 7 (by kernel_rfl)); (have h16 : x 16 = _ := hdep 16 (by kernel_rfl)); (have h1 : x 1 = _ := hdep 1 (by kernel_rfl)); (clear hq hdep hold); (simp only [h7, h16, h1]); (clear h7 h16 h1); (rw [if_pos (by rfl)]); (refine OpY.val ?_ ⟨Kept.refl _ _, rfl⟩); (first | rfl | go_simp)
                            refine .cons (fun x wf Kk hq hdep hold => ?_) ?_
                            · (try dsimp only); (have h1 : x 1 = _ := hdep 1 (by kernel_rfl)); (have h17 : x 17 = _ := hdep 17 (by kernel_rfl)); (clear hq hdep hold); (simp only [h1, h17]); (clear h1 h17); (rw [if_pos (by rfl)]); (refine OpY.val ?_ ⟨Kept.refl _ _, rfl⟩); (first | rfl | go_simp)
                            refine .cons (fun x wf Kk hq hdep hold => ?_) ?_
                            · (try dsimp only); (have h18 : x 18 = _ := hdep 18 (by kernel_rfl)); (clear hq hdep hold); (simp only [h18]); (clear h18); (rw [if_pos (by rfl)]); (refine OpY.val ?_ ⟨Kept.refl _ _, rfl⟩); (first | rfl | go_simp)
                            exact .nil _
                          · (intro x wf Kk hv); (try dsimp only); (have h19 : x 19 = _ := hv 19 (by kernel_rfl)); (clear hv); (simp only [h19]); (clear h19); (have hK9 := hid (hK6.out.trans' Kk.undrew)); (clear Kk hK6 hmd hVd hVc6); (go_wp2); (go_roundw)
                            case rel => first | exact ⟨d + 1, true, by omega, by go_num, rfl, hn2, hK9⟩ | ((repeat apply Exists.intro); exact ⟨⟨d + 1, true, by omega, by go_num, rfl, hn2, hK9⟩, rfl⟩)
                            case measure => simp [intOf]; omega
                        · (have hled : decide (vc ≤ vd) = false := decide_eq_false hle); (have hn2 : Hd (false = leastK BS VS c (d + 1)) := ⟨by rw [hst.out, hled]; rfl⟩); (clear hst); (go_upto_region 23 with fail); (refine region_flow (S := no) (Sl := (fun _ => no)) [Is (.bool true), Is (.bool true), Is (.slice (some ⟨w9.heap.size, 0, none⟩) k k), Is (.int .i64 (d : Int)), Is (.pointer (some ⟨w9.heap.size, d, none⟩)), Is (.bool true), Is (.bool false), Is (.bool false), Is (.slice (some ⟨bV, oV, none⟩) k cV), Is (.int .i64 (c : Int)), Is (.pointer (some ⟨bV, oV + c, none⟩)), Is (.int .i64 vc), Is (.slice (some ⟨bV, oV, none⟩) k cV), Is (.int .i64 (d : Int)), Is (.pointer (some ⟨bV, oV + d, none⟩)), Is (.int .i64 vd), Is (.bool false), Is (.bool false), Is (.bool false), Is (.bool false)] [] (fun _ _ h => h) _ (by kernel_rfl) (by kernel_rfl) (by kernel_rfl) (by kernel_rfl) (fun x => by simp only [puts, Act.put, List.map_cons, List.map_nil, Nat.zero_add, Nat.reduceAdd, List.setIfInBounds_toArray, List.set_cons_zero, List.set_cons_succ]; exact rfl) ?_ ?_)
                          · (skip); (refine .cons (fun x wf Kk hq hdep hold => ?_) ?_)
                            · (try dsimp only); (have h19 : x 19 = (.bool true) := hold 19 (by kernel_rfl)); (clear hq hdep hold); (simp only [h19]); (clear h19); (rw [if_pos (by rfl)]); (refine OpY.val ?_ ⟨Kept.refl _ _, rfl⟩); (first | rfl | go_simp)
                            refine .cons (fun x wf Kk hq hdep hold => ?_) ?_
                            · (try dsimp only); (have h0 : x 0 = _ := hdep 0 (by kernel_rfl)); (clear hq hdep hold); (simp only [h0]); (clear h0); (rw [if_pos (by rfl)]); (refine OpY.val ?_ ⟨Kept.refl _ _, rfl⟩); (first | rfl | go_simp)
                            refine .cons (fun x wf Kk hq hdep hold => ?_) ?_
                            · (try dsimp only); (have h1 : x 1 = _ := hdep 1 (by kernel_rfl)); (clear hq hdep hold); (simp only [h1]); (clear h1); (rw [if_pos (by rfl)]); (refine OpY.val ?_ ⟨Kept.refl _ _, rfl⟩); (first | rfl | go_simp)
                            refine .cons (fun x wf Kk hq hdep hold => ?_) ?_
                            · (try dsimp only); (have h1 : x 1 = _ := hdep 1 (by kernel_rfl)); (clear hq hdep hold); (simp only [h1]); (clear h1); (rw [if_pos (by rfl)]); (refine OpY.val ?_ ⟨Kept.refl _ _, rfl⟩); (first | rfl | go_simp)
                            refine .cons (fun x wf Kk hq hdep hold => ?_) ?_
                            · (try dsimp only); (have h2 : x 2 = _ := hdep 2 (by kernel_rfl)); (have h3 : x 3 = _ := hdep 3 (by kernel_rfl)); (have h1 : x 1 = _ := hdep 1 (by kernel_rfl)); (clear hq hdep hold); (simp only [h2, h3, h1]); (clear h2 h3 h1); (rw [if_pos (by rfl)]); (refine OpY.val ?_ ⟨Kept.refl _ _, rfl⟩); (first | rfl | go_simp)
                            refine .cons (fun x wf Kk hq hdep hold => ?_) ?_
                            · (try dsimp only); (have h4 : x 4 = _ := hdep 4 (by kernel_rfl)); (have h1 : x 1 = _ := hdep 1 (by kernel_rfl)); (clear hq hdep hold); (simp only [h4, h1]); (clear h4 h1); (have c1 := Kk.undrew.cell hmd.out id); (rw [if_pos (by rfl)]); (refine OpY.val ?_ ⟨Kept.refl _ _, rfl⟩); (first | rfl | go_simp)
                            refine .cons (fun x wf Kk hq hdep hold => ?_) ?_
                            · (try dsimp only); (have h5 : x 5 = _ := hdep 5 (by kernel_rfl)); (have h1 : x 1 = _ := hdep 1 (by kernel_rfl)); (clear hq hdep hold); (simp only [h5, h1]); (clear h5 h1); (rw [if_pos (by rfl)]); (refine OpY.val ?_ ⟨Kept.refl _ _, rfl⟩); (first | rfl | go_simp)
                            refine .cons (fun x wf Kk hq hdep hold => ?_) ?_
                            · (try dsimp only); (have h6 : x 6 = _ := hdep 6 (by kernel_rfl)); (have h1 : x 1 = _ := hdep 1 (by kernel_rfl)); (clear hq hdep hold); (simp only [h6, h1]); (clear h6 h1); (rw [if_pos (by rfl)]); (refine OpY.val ?_ ⟨Kept.refl _ _, rfl⟩); (first | rfl | go_simp)
                            refine .cons (fun x wf Kk hq hdep hold => ?_) ?_
                            · (try dsimp only); (have h7 : x 7 = _ := hdep 7 (by kernel_rfl)); (clear hq hdep hold); (simp only [h7]); (clear h7); (rw [if_pos (by rfl)]); (refine OpY.val ?_ ⟨Kept.refl _ _, rfl⟩); (first | rfl | go_simp)
                            refine .cons (fun x wf Kk hq hdep hold => ?_) ?_
                            · (try dsimp only); (have h7 : x 7 = _ := hdep 7 (by kernel_rfl)); (clear hq hdep hold); (simp only [h7]); (clear h7); (rw [if_pos (by rfl)]); (refine OpY.val ?_ ⟨Kept.refl _ _, rfl⟩); (first | rfl | go_simp)
                            refine .cons (fun x wf Kk hq hdep hold => ?_) ?_
                            · (try dsimp only); (have h8 : x 8 = _ := hdep 8 (by kernel_rfl)); (have h9 : x 9 = _ := hdep 9 (by kernel_rfl)); (have h7 : x 7 = _ := hdep 7 (by kernel_rfl)); (clear hq hdep hold); (simp only [h8, h9, h7]); (clear h8 h9 h7); (rw [if_pos (by rfl)]); (refine OpY.val ?_ ⟨Kept.refl _ _, rfl⟩); (first | rfl | go_simp)
                            refine .cons (fun x wf Kk hq hdep hold => ?_) ?_
                            · (try dsimp only); (have h10 : x 10 = _ := hdep 10 (by kernel_rfl)); (have h7 : x 7 = _ := hdep 7 (by kernel_rfl)); (clear hq hdep hold); (simp only [h10, h7]); (clear h10 h7); (have c1 := Kk.undrew.cell hVc6.out id); (rw [if_pos (by rfl)]); (refine OpY.val ?_ ⟨Kept.refl _ _, rfl⟩); (first | rfl | go_simp)
                            refine .cons (fun x wf Kk hq hdep hold => ?_) ?_
                            · (try dsimp only); (have h7 : x 7 = _ := hdep 7 (by kernel_rfl)); (clear hq hdep hold); (simp only [h7]); (clear h7); (rw [if_pos (by rfl)]); (refine OpY.val ?_ ⟨Kept.refl _ _, rfl⟩); (first | rfl | go_simp)
                            refine .cons (fun x wf Kk hq hdep hold => ?_) ?_
                            · (try dsimp only); (have h7 : x 7 = _ := hdep 7 (by kernel_rfl)); (clear hq hdep hold); (simp only [h7]); (clear h7); (rw [if_pos (by rfl)]); (refine OpY.val ?_ ⟨Kept.refl _ _, rfl⟩); (first | rfl | go_simp)
                            refine .cons (fun x wf Kk hq hdep hold => ?_) ?_
                            · (try dsimp only); (have h12 : x 12 = _ := hdep 12 (by kernel_rfl)); (have h13 : x 13 = _ := hdep 13 (by kernel_rfl)); (have h7 : x 7 = _ := hdep 7 (by kernel_rfl)); (clear hq hdep hold); (simp only [h12, h13, h7]); (clear h12 h13 h7); (rw [if_pos (by rfl)]); (refine OpY.val ?_ ⟨Kept.refl _ _, rfl⟩); (first | rfl | go_simp)
                            refine .cons (fun x wf Kk hq hdep hold => ?_) ?_
                            · (try dsimp only); (have h14 : x 14 = _ := hdep 14 (by kernel_rfl)); (have h7 : x 7 = _ := hdep 7 (by kernel_rfl)); (clear hq hdep hold); (simp only [h14, h7]); (clear h14 h7); (have c1 := Kk.undrew.cell hVd.out id); (rw [if_pos (by rfl)]); (refine OpY.val ?_ ⟨Kept.refl _ _, rfl⟩); (first | rfl | go_simp)
                            refine .cons (fun x wf Kk hq hdep hold => ?_) ?_
                            · (try dsimp only); (have h11 : x 11 = _ := hdep 11 (by kernel_rfl)); (have h15 : x 15 = _ := hdep 15 (by kernel_rfl)); (have h7 : x 7 = _ := hdep 7 (by kernel_rfl)); (clear hq hdep hold); (simp only [h11, h15, h7]); (clear h11 h15 h7); (rw [if_pos (by rfl)]); (refine OpY.val ?_ ⟨Kept.refl _ _, rfl⟩); (first | rfl | go_simp)
                            refine .cons (fun x wf Kk hq hdep hold => ?_) ?_
                            · (try dsimp only); (have h7 : x 7 = _ := hdep 7 (by kernel_rfl)); (have h16 : x 16 = _ := hdep 16 (by kernel_rfl)); (have h1 : x 1 = _ := hdep 1 (by kernel_rfl)); (clear hq hdep hold); (simp only [h7, h16, h1]); (clear h7 h16 h1); (rw [if_pos (by rfl)]); (refine OpY.val ?_ ⟨Kept.refl _ _, rfl⟩); (first | rfl | go_simp)
                            refine .cons (fun x wf Kk hq hdep hold => ?_) ?_
                            · (try dsimp only); (have h1 : x 1 = _ := hdep 1 (by kernel_rfl)); (have h17 : x 17 = _ := hdep 17 (by kernel_rfl)); (clear hq hdep hold); (simp only [h1, h17]); (clear h1 h17); (rw [if_pos (by rfl)]); (refine OpY.val ?_ ⟨Kept.refl _ _, rfl⟩); (first | rfl | go_simp)
                            refine .cons (fun x wf Kk hq hdep hold => ?_) ?_
                            · (try dsimp only); (have h18 : x 18 = _ := hdep 18 (by kernel_rfl)); (clear hq hdep hold); (simp only [h18]); (clear h18); (rw [if_pos (by rfl)]); (refine OpY.val ?_ ⟨Kept.refl _ _, rfl⟩); (first | rfl | go_simp)
                            exact .nil _
                          · (intro x wf Kk hv); (try dsimp only); (have h19 : x 19 = _ := hv 19 (by kernel_rfl)); (clear hv); (simp only [h19]); (clear h19); (have hK9 := hid (hK6.out.trans' Kk.undrew)); (clear Kk hK6 hmd hVd hVc6); (go_wp2); (go_roundw)
                            case rel => first | exact ⟨d + 1, false, by omega, by go_num, rfl, hn2, hK9⟩ | ((repeat apply Exists.intro); exact ⟨⟨d + 1, false, by omega, by go_num, rfl, hn2, hK9⟩, rfl⟩)
                            case measure => simp [intOf]; omega
                  · (obtain rfl : d = k := by omega); (have hdi : ¬ (d : Int) < (d : Int) := by omega); (have hlow := hid (hll.out c hcl)); (rw [← hlb.out] at hlow); (have hK7 := hid (hK.out.trans' hK6.out)); (have hK8 := hid (hK5.out.trans hK6.out (fun _ _ f => f.elim))); (have hg7 := hid ((hK6.out.block _ (lt_of_heap hg.out) id).trans hg.out)); (clear hlb hK hK5 hK6 hg hVcc)
                    cases lb with
                    | false =>
                      have hIQ2 : Hd (InvQ 1 d (grps ps) s (fun x => x < ((c + 1 : Nat) : Int)) L) := ⟨invQ_congr hIQ.out fun x hx => by
                        have hne : x ≠ (c : Int) := fun e => by subst e; have := hlow.out.2 hx; cases this
                        show x < (c : Int) ↔ x < ((c + 1 : Nat) : Int)
                        omega⟩
                      (clear hIQ hlow); (go_wp2); (go_roundw)
                      case rel => first | exact ⟨c + 1, L, by omega, by go_num, hIQ2, hg7, hK7, hK8⟩ | ((repeat apply Exists.intro); exact ⟨⟨c + 1, L, by omega, by go_num, hIQ2, hg7, hK7, hK8⟩, rfl⟩)
                      case measure => simp [intOf]; omega
                    | true =>
                      (have hcm := hlow.out.1 rfl); (have hls := low_sub hN7 hslt.out hcm); (have hbc := bits_clr s (by omega) c (by omega) (by simpa using hls.2.2.2)); (have hcs : (2 : Nat) ^ c ≤ s := by simpa using hls.1); (have hsh : wrap64 ((2 : Int) ^ c) = ((2 ^ c : Nat) : Int) := shl_pow c (by omega)); (have hset := inv_set (Q' := fun x => x < ((c + 1 : Nat) : Int)) hN7 hIQ.out hRz.out.1 hRz.out.2 hcm (fun x => by show x < ((c + 1 : Nat) : Int) ↔ x < (c : Int) ∨ x = (c : Int); omega)); (rw [Int.toNat_natCast] at hset); (obtain ⟨F2, hF2⟩ : ∃ F2 : Nat, (2 : Nat) ^ c = F2 := ⟨_, rfl⟩); (rw [hF2] at hbc hcs hsh hset); (replace hsh := hid hsh); (clear hF2 hls hcm hlow); (have hLl : L.length = F := by rw [hIQ.out.1, hF.out]); (have cs := zsT_cell hg7.out (s - F2) (by omega)); (have fs : wr.frozen? ⟨w1.heap.size, s - F2, none⟩ = false := row_free hg7.out _); (have hg2 : Hd ((wr.setCell ⟨w1.heap.size, s - F2, none⟩ (.bool true)).heap[w1.heap.size]? = some (.cells (zsT (L.set (s - F2) true)) 4 (0, 0))) := ⟨by rw [setCell_row hg7.out, zsT_set]⟩); (have hK2 := hid (hK7.out.setCell (a := ⟨w1.heap.size, s - F2, none⟩) (.inr hgw.out) (.bool true))); (have hK6 := hid (hK8.out.setCell (a := ⟨w1.heap.size, s - F2, none⟩) (.inl rfl) (.bool true))); (have hi1 : ((s - F2 : Nat) : Int) < (F : Int) := by omega); (have hi0 : (0 : Int) ≤ ((s - F2 : Nat) : Int) := by omega); (obtain ⟨sF, hsF2⟩ : ∃ x, s - F2 = x := ⟨_, rfl⟩); (rw [hsF2] at hbc cs fs hg2 hK2 hK6 hset hi1 hi0); (replace hset := hid hset); (have hshv := hsh.out); (clear hIQ hg7 hK7 hK8 hcs hLl hsF2); (go_wp2); (clear hshv hbc); (go_roundw)
                      case rel => first | exact ⟨c + 1, _, by omega, by go_num, hset, hg2, hK2, hK6⟩ | ((repeat apply Exists.intro); exact ⟨⟨c + 1, _, by omega, by go_num, hset, hg2, hK2, hK6⟩, rfl⟩)
                      case measure => simp [intOf]; omega
              · (obtain rfl : c = k := by omega); (have hci : ¬ (c : Int) < (c : Int) := by omega); (have hI2 := hid (inv_next hs1 hslt.out hIQ.out (fun _ _ x hx => by have := (mem_sl.1 (mem_lows.1 hx).1).1.2; exact this))); (clear hIQ hK5 hmem hVV hRz); (go_wp2); (go_roundw)
                case rel => first | exact ⟨s - 1, L, by omega, by go_num, hI2, hg, hK⟩ | ((repeat apply Exists.intro); exact ⟨⟨s - 1, L, by omega, by go_num, hI2, hg, hK⟩, rfl⟩)
                case measure => first | (simp [intOf]; done) | (simp [intOf]; omega)
      · (obtain rfl : s = 0 := by omega); (have hsi : ¬ (0 : Int) < ((0 : Nat) : Int) := by omega); (have hLl : Hd (L.length = F) := ⟨by rw [hI.out.1, hF.out]⟩)
        have hLR : Hd (∀ c, c < N → ∃ P : Nat, (2 : Nat) ^ c = P ∧ P < F ∧ wrap64 ((2 : Int) ^ c) = (P : Int) ∧ (L.getD P false = true ↔ Rc 2 N (grps ps) P)) := ⟨fun c hc => by
          (have h1 := one_pow_lt N hN7 c hc); (refine ⟨2 ^ c, rfl, by rw [← hF.out]; exact h1, shl_pow c (by omega), ?_⟩)
          rw [inv_at hN7 hI.out (Nat.zero_le _) h1, rc12 hN7 (Nat.two_pow_pos c)]⟩
        (have hszE : (Nat.cast 0 : Int) = 0 := rfl); (obtain ⟨w9, rfl⟩ : ∃ w9 : World, w9 = wr := ⟨_, rfl⟩); (clear hI); (go_wp2)
        go_loopw [14, 105] (fun out i wr => ∃ (c : Nat), c ≤ N ∧ i = .int .i64 (c : Int) ∧ Hd (OwZ w9 wr out (posC N (grps ps) c))) (fun _ i _ => N - (intOf i).toNat)
        case atStart => exact ⟨0, by omega, rfl, ⟨by rw [show posC N (grps ps) 0 = [] by simp [posC]]; exact OwZ.nil w9⟩⟩
        case round =>
          obtain ⟨c, hcN, rfl, hO⟩ := hrel
          by_cases hcl : c < N
          · (have hc1 : (c : Int) < (N : Int) := by omega); (have hc0 : (0 : Int) ≤ (c : Int) := by omega); (obtain ⟨P, hP, hPF, hshP, hLP⟩ := hLR.out c hcl); (replace hP := hid hP); (replace hshP := hid hshP); (have hPi : (P : Int) < (F : Int) := by omega); (have hP0 : (0 : Int) ≤ (P : Int) := by omega); (have cs := zsT_cell ((hO.out.kept.block _ (lt_of_heap hg.out) id).trans hg.out) P (by rw [hLl.out]; exact hPF)); (have hpl := posC_len N (grps ps) c)
            cases hb : L.getD P false with
            | false =>
              (rw [hb] at cs); (have hO2 : Hd (OwZ w9 wr u14 (posC N (grps ps) (c + 1))) := ⟨by rw [posC_skip (fun h => by rw [hP.out] at h; rw [hLP.2 h] at hb; cases hb)]; exact hO.out⟩); (have hsv := hshP.out); (clear hO hLP hb hpl); (go_wp2); (clear hsv); (go_roundw)
              case rel => first | exact ⟨c + 1, by omega, by go_num, hO2⟩ | ((repeat apply Exists.intro); exact ⟨⟨c + 1, by omega, by go_num, hO2⟩, rfl⟩)
              case measure => simp [intOf]; omega
            | true =>
              (rw [hb] at cs); (have hm := hid (posC_more (n := N) (gs := grps ps) (k := c) (by rw [hP.out]; exact hLP.1 hb))); (have hls : Hd ((posC N (grps ps) c).length + 1 ≤ maxLen ∧ ((posC N (grps ps) c).length + 1) * 8 ≤ 140737488355328) := ⟨by have hm : maxLen = 9223372036854775807 := rfl; omega⟩); (obtain ⟨PL, hPL⟩ : ∃ l, posC N (grps ps) c = l := ⟨_, rfl⟩); (rw [hPL] at hO hm hls); (have hsv := hshP.out); (clear hLP hb hpl hPL); (go_wp2_with (at_builtin; refine wpList_append_lit _ rfl _ _ 26 rfl 3 1 8 TInts _ _ _ rfl hO.out.own 1 [.int .i64 (c : Int)] rfl rfl ?c1 ?c2 ?c3 ?_))
              case c1 => simp [Value.oneCell']
              case c2 => exact hls.out.1
              case c3 => exact hls.out.2
              (intro v' w3 h2 h3 h4 _); (have hO3 := hO.out.add _ h2 h3 h4); (have hO4 : Hd (OwZ w9 w3 v' (posC N (grps ps) (c + 1))) := ⟨by rw [hm.out]; exact hO3⟩); (clear h2 h3 h4 hO hO3 hls hm); (go_wp2); (clear hsv); (go_roundw)
              case rel => first | exact ⟨c + 1, by omega, by go_num, hO4⟩ | ((repeat apply Exists.intro); exact ⟨⟨c + 1, by omega, by go_num, hO4⟩, rfl⟩)
              case measure => simp [intOf]; omega
          · (obtain rfl : c = N := by omega); (have hc1 : ¬ (c : Int) < (c : Int) := by omega); (have hO2 : Hd (OwZ w wr u14 (posB (c : Int) (grps ps))) := ⟨by rw [hres.out]; exact hO.out.of_kept hK.out⟩); (clear hO); (go_wp2); (go_ret); (exact ⟨_, rfl, hO2.out⟩)
end Go.Proofs.YtaobaaaihgahfaaGreat
