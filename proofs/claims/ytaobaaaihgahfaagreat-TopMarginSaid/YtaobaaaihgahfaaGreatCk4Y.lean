/- Check and Least of certificate (printed by gen_ck4.py). -/
import Derived.Test.YtaobaaaihgahfaaGreatCkY
import Derived.Test.YtaobaaaihgahfaaGreatCntY
import Derived.Test.YtaobaaaihgahfaaGreatGrpY
namespace Go.Mg
open Go.Pil
def restB (n : Nat) (gs : List Grp) (l : List Nd) (len k : Nat) : List Int := bestK n gs l k ++ List.replicate (len - k) 0
theorem restB_len (n : Nat) (gs : List Grp) (l : List Nd) {len k : Nat} (h : k ≤ len) : (restB n gs l len k).length = len := by unfold restB; rw [List.length_append, bestK_len, List.length_replicate]; omega
theorem restB_set (n : Nat) (gs : List Grp) (l : List Nd) {len k : Nat} (h : k < len) (b : Int) (hb : b = bestV n gs (bestK n gs l k) (l.getD k default)) : (restB n gs l len k).set k b = restB n gs l len (k + 1) := by
  (unfold restB); (rw [List.set_append_right _ _ (by rw [bestK_len]; exact Nat.le_refl _), bestK_len, Nat.sub_self, show len - k = (len - (k + 1)) + 1 by omega, List.replicate_succ, List.set_cons_zero, bestK, List.append_assoc, hb])
  rfl
theorem restB_at (n : Nat) (gs : List Grp) (l : List Nd) {len k p : Nat} (h : p < k) : (restB n gs l len k).getD p 0 = (bestK n gs l k).getD p 0 := by
  (unfold restB); (rw [List.getD_eq_getElem?_getD, List.getElem?_append_left (by rw [bestK_len]; exact h), ← List.getD_eq_getElem?_getD])
theorem chk_range {n : Int} {gs : List Grp} {win mar : Int} {l : List Nd} (h : ¬ ((2 ≤ n ∧ n ≤ 7) ∧ (0 ≤ win ∧ win < n) ∧ 0 ≤ mar)) : chkE n gs win mar l = 4 := by unfold chkE; rw [if_pos h]
theorem chk_form {n : Int} {gs : List Grp} {win mar : Int} {l : List Nd} (h : (2 ≤ n ∧ n ≤ 7) ∧ (0 ≤ win ∧ win < n) ∧ 0 ≤ mar) (h2 : isPile n gs = false) : chkE n gs win mar l = 8 := by unfold chkE; rw [if_neg (fun h' => h' h), if_pos h2]
theorem chk_len {n : Int} {gs : List Grp} {win mar : Int} {l : List Nd} (h : (2 ≤ n ∧ n ≤ 7) ∧ (0 ≤ win ∧ win < n) ∧ 0 ≤ mar) (h2 : isPile n gs = true) (h3 : 4000 < l.length) : chkE n gs win mar l = 7 := by
  unfold chkE; rw [if_neg (fun h' => h' h), if_neg (by rw [h2]; decide), if_pos h3]
theorem chk_step {N : Nat} {gs : List Grp} {win mar : Int} {l : List Nd} (h : (2 ≤ (N : Int) ∧ (N : Int) ≤ 7) ∧ (0 ≤ win ∧ win < (N : Int)) ∧ 0 ≤ mar) (h2 : isPile (N : Int) gs = true) (h3 : ¬ 4000 < l.length) (h4 : ¬ CodeCov N win l) : chkE (N : Int) gs win mar l = 14 := by
  unfold chkE; rw [if_neg (fun h' => h' h), if_neg (by rw [h2]; decide), if_neg h3, if_pos (by rw [Int.toNat_natCast]; exact h4)]
theorem chk_bound {N : Nat} {gs : List Grp} {win mar : Int} {l : List Nd} (h : (2 ≤ (N : Int) ∧ (N : Int) ≤ 7) ∧ (0 ≤ win ∧ win < (N : Int)) ∧ 0 ≤ mar) (h2 : isPile (N : Int) gs = true) (h3 : ¬ 4000 < l.length) (h4 : CodeCov N win l) (h5 : ¬ ∀ i, i < l.length → BdOk N gs mar l i) : chkE (N : Int) gs win mar l = 15 := by
  unfold chkE; rw [if_neg (fun h' => h' h), if_neg (by rw [h2]; decide), if_neg h3, if_neg (fun h => h (by rw [Int.toNat_natCast]; exact h4)), if_pos (by rw [Int.toNat_natCast]; exact h5)]
theorem chk_ok {N : Nat} {gs : List Grp} {win mar : Int} {l : List Nd} (h : (2 ≤ (N : Int) ∧ (N : Int) ≤ 7) ∧ (0 ≤ win ∧ win < (N : Int)) ∧ 0 ≤ mar) (h2 : isPile (N : Int) gs = true) (h3 : ¬ 4000 < l.length) (h4 : CodeCov N win l) (h5 : ∀ i, i < l.length → BdOk N gs mar l i) : chkE (N : Int) gs win mar l = 0 := by
  unfold chkE; rw [if_neg (fun h' => h' h), if_neg (by rw [h2]; decide), if_neg h3, if_neg (fun h => h (by rw [Int.toNat_natCast]; exact h4)), if_neg (fun h => h (by rw [Int.toNat_natCast]; exact h5))]
/-- What Least returns. -/
def leastV (l : List Nd) : Int := if leastN l l.length < 0 then -1 else (l.getD (leastN l l.length).toNat default).bd
end Go.Mg
namespace Go.Proofs.YtaobaaaihgahfaaGreat
open Go.RowKit Go.Mk Go.Pil Go.Mg
theorem makeI (n : Nat) (h : n ≤ 1000000) (w : World) : (Instr.makeSlice 26 (.int .i64 (n : Int)) (.int .i64 (n : Int))).run Tryz.prog w = .ok (.slice (some ⟨w.heap.size, 0, none⟩) n n) (w.alloc (.cells (zsI (List.replicate n 0)) 3)) := makeZ n h w
set_option maxRecDepth 100000 in
set_option maxHeartbeats 8000000 in
theorem ccheck_any (n : Int) (vg : Value) (ps : List (Grp × Value)) (A M : Int) (v : Value) (q : List (Nd × Value)) (w : World) (hg : RdG w vg ps) (hq : RdN w v q) :
    Calls Tryz.prog 10 #[.int .i64 n, vg, .agg #[.int .i64 A, .int .i64 M, v]] w fun e w' => e = .returned (.int .i64 (chkE n (grps ps) A M (nds q))) ∧ Kept no w w' := by
  (obtain ⟨an, cn, rfl, hlc, hcm⟩ := Rd.shape2 hq.2); (have hm63 := maxLen_63); (obtain ⟨ag, cg, rfl, _, _⟩ := hg.shape); (obtain ⟨len, hlen⟩ : ∃ n, q.length = n := ⟨_, rfl⟩); (rw [hlen] at hq hlc ⊢); (have hndl : Hd ((nds q).length = len) := ⟨by rw [nds_length]; exact hlen⟩); (replace hlen := hid hlen); (obtain ⟨w1, hw1, g1, k1⟩ := alloc_named w (.cells #[.int .i64 A, .int .i64 M, .slice an len cn] 41)); (have gC := hid g1); (have k01 := hid k1); (have hSZ : Hd (w.heap.size < w1.heap.size) := ⟨by rw [hw1]; simp⟩); (replace hq := hid hq); (replace hg := hid hg); (obtain ⟨R, hR⟩ : ∃ r, chkE n (grps ps) A M (nds q) = r := ⟨_, rfl⟩); (rw [hR]); (replace hR := hid hR)
  go_enter Tryz.func10, Tryz.ntmps10
  (go_upto_region 1 with fail); (rw [← hw1]); (generalize w.heap.size = GC at gC hSZ); (obtain ⟨c0, c1, c2⟩ := slotC gC.out); (clear hw1 g1 k1)
  by_cases b1 : n < 2
  · (have b1d : decide (n < 2) = true := decide_eq_true b1); (have hv := hid (hR.out.symm.trans (chk_range (by omega)))); (clear hR); (go_wp2); (go_ret); (exact ⟨by rw [hv.out]; rfl, k01.out⟩)
  have b1d : decide (n < 2) = false := decide_eq_false b1
  by_cases b2 : 7 < n
  · (have b2d : decide (7 < n) = true := decide_eq_true b2); (have hv := hid (hR.out.symm.trans (chk_range (by omega)))); (clear hR); (go_wp2); (go_ret); (exact ⟨by rw [hv.out]; rfl, k01.out⟩)
  have b2d : decide (7 < n) = false := decide_eq_false b2
  by_cases b3 : A < 0
  · (have b3d : decide (A < 0) = true := decide_eq_true b3); (have hv := hid (hR.out.symm.trans (chk_range (by omega)))); (clear hR); (go_wp2); (go_ret); (exact ⟨by rw [hv.out]; rfl, k01.out⟩)
  have b3d : decide (A < 0) = false := decide_eq_false b3
  by_cases b4 : n ≤ A
  · (have b4d : decide (n ≤ A) = true := decide_eq_true b4); (have hv := hid (hR.out.symm.trans (chk_range (by omega)))); (clear hR); (go_wp2); (go_ret); (exact ⟨by rw [hv.out]; rfl, k01.out⟩)
  have b4d : decide (n ≤ A) = false := decide_eq_false b4
  by_cases b5 : M < 0
  · (have b5d : decide (M < 0) = true := decide_eq_true b5); (have hv := hid (hR.out.symm.trans (chk_range (by omega)))); (clear hR); (go_wp2); (go_ret); (exact ⟨by rw [hv.out]; rfl, k01.out⟩)
  (have b5d : decide (M < 0) = false := decide_eq_false b5); (have hrng : Hd ((2 ≤ n ∧ n ≤ 7) ∧ (0 ≤ A ∧ A < n) ∧ 0 ≤ M) := ⟨by omega⟩); (obtain ⟨N, rfl⟩ : ∃ N : Nat, n = (N : Int) := ⟨n.toNat, by omega⟩); (have hN2 : 2 ≤ N := by omega); (have hN7 : N ≤ 7 := by omega); (have HV := hid (valid_any (N : Int) (.slice ag ps.length cg) ps w1 (hg.out.kept k01.out))); (have hdec : decide (1 ≤ (N : Int) ∧ (N : Int) ≤ 7) = true := decide_eq_true ⟨by omega, by omega⟩); (rw [hdec, Bool.true_and] at HV); (clear hdec)
  cases hP : isPile (N : Int) (grps ps) with
  | false =>
    (have hv := hid (hR.out.symm.trans (chk_form hrng.out hP))); (rw [hP] at HV); (clear hR hP); (go_wp2_with fail); (with_reducible refine HV.out.mono ?_); (rintro e w2 ⟨rfl, k2⟩); (have k02 := hid (k01.out.trans' k2)); (clear k2 HV); (go_wp2); (go_ret); (exact ⟨by rw [hv.out]; rfl, k02.out⟩)
  | true =>
  (rw [hP] at HV); (go_wp2_with fail); (with_reducible refine HV.out.mono ?_); (rintro e w2 ⟨rfl, k2⟩); (have k12 := hid k2); (have k02 := hid (k01.out.trans' k12.out)); (have gC2 := hid (k12.out.blk gC.out)); (obtain ⟨c0, c1, c2⟩ := slotC gC2.out); (clear k2 HV c0 c1 c2); (obtain ⟨c0, c1, c2⟩ := slotC gC2.out); (replace hP := hid hP)
  by_cases hl4 : 4000 < len
  · (have hl4i : (4000 : Int) < (len : Int) := by omega); (have hl4d : decide ((4000 : Int) < (len : Int)) = true := decide_eq_true hl4i); (have hv := hid (hR.out.symm.trans (chk_len hrng.out hP.out (by rw [hndl.out]; exact hl4)))); (clear hR); (go_wp2); (go_ret); (exact ⟨by rw [hv.out]; rfl, k02.out⟩)
  (have hl4i : ¬ (4000 : Int) < (len : Int) := by omega); (have hl4d : decide ((4000 : Int) < (len : Int)) = false := decide_eq_false hl4i); (have HC := hid (covers_any N hN2 hN7 A M hrng.out.2.1 (.slice an len cn) q w2 (hq.out.kept k02.out) (by rw [hlen.out]; omega))); (go_wp2_with fail); (with_reducible refine HC.out.mono ?_); (rintro e w3 ⟨⟨b, rfl, hb⟩, k3⟩); (have k03 := hid (k02.out.trans' k3)); (have gC3 := hid (k3.blk gC2.out)); (have hSZ3 : Hd (GC < w3.heap.size) := ⟨lt_of_heap gC3.out⟩); (clear HC k3 c0 c1 c2); (obtain ⟨c0, c1, c2⟩ := slotC gC3.out)
  cases b with
  | false =>
    (have hv := hid (hR.out.symm.trans (chk_step hrng.out hP.out (by rw [hndl.out]; exact hl4) (fun h => by have := hb.2 h; cases this)))); (clear hR hb); (go_wp2); (go_ret); (exact ⟨by rw [hv.out]; rfl, k03.out⟩)
  | true =>
  (have hcov := hid (hb.1 rfl)); (have hbadB : Hd (∀ i, i < len → ¬ BdOk N (grps ps) M (nds q) i → R = 15) := ⟨fun i hi hn => hR.out.symm.trans (chk_bound hrng.out hP.out (by rw [hndl.out]; exact hl4) hcov.out (fun h => hn (h i (by rw [hndl.out]; exact hi))))⟩); (have hokB : Hd ((∀ i, i < len → BdOk N (grps ps) M (nds q) i) → R = 0) := ⟨fun h => hR.out.symm.trans (chk_ok hrng.out hP.out (by rw [hndl.out]; exact hl4) hcov.out (fun i hi => h i (by rw [← hndl.out]; exact hi)))⟩); (have hbr := hid (fun k => bestK_rng (n := N) hP.out (nds q) k)); (have hp7 : Hd (isPile 7 (grps ps) = true) := ⟨isPile_mono (by omega) hP.out⟩); (have hbl := hid (fun (x : Nd) => bd_le (n := N) hP.out x.tail)); (clear hb hR hrng b1 b1d b2 b2d b3 b3d b4 b4d b5 b5d hl4i hl4d gC2 gC k01 k02 k12); (have hmk := makeI len (by omega) w3); (obtain ⟨w4, hw4, g4, k4⟩ := alloc_named w3 (.cells (zsI (List.replicate len 0)) 3)); (have gB := hid (show w4.heap[w3.heap.size]? = some (.cells (zsI (restB N (grps ps) (nds q) len 0)) 3 (0, 0)) from by unfold restB bestK; exact g4)); (have gC4 := hid (k4.blk gC3.out)); (have k04 := hid (k03.out.trans' k4)); (have hsz : Hd (w.heap.size ≤ w3.heap.size) := ⟨k03.out.size⟩); (replace hw4 := hid hw4); (clear g4 k4); (go_upto_region 10 with fail); (rw [← hw4.out]); (clear c0 c1 c2 hw4 hmk); (obtain ⟨c0, c1, c2⟩ := slotC gC4.out); (generalize w3.heap.size = GB at gB hsz hSZ3); (have hCB : Hd (GC ≠ GB) := ⟨by have := hSZ3.out; omega⟩); (clear gC3 k03 hSZ3); (go_wp2)
  go_loopw [55] (fun i wr => ∃ k : Nat, k ≤ len ∧ i = .int .i64 (k : Int) ∧ Hd (∀ j, j < k → BdOk N (grps ps) M (nds q) j) ∧ Hd (wr.heap[GC]? = some (.cells #[.int .i64 A, .int .i64 M, .slice an len cn] 41 (0, 0))) ∧ Hd (wr.heap[GB]? = some (.cells (zsI (restB N (grps ps) (nds q) len k)) 3 (0, 0))) ∧ Hd (Kept no w wr)) (fun i _ => len - (intOf i).toNat)
  case atStart => exact ⟨0, by omega, rfl, ⟨fun j hj => by omega⟩, gC4, gB, k04⟩
  case round =>
    (clear gC4 gB k04 c0 c1 c2); (obtain ⟨k, hk, rfl, hbd, hC, hB, hW⟩ := hrel)
    by_cases hlt : k < len
    · (have hk1 : (k : Int) < (len : Int) := by omega); (have hk0 : (0 : Int) ≤ (k : Int) := by omega); (obtain ⟨b, o, x, tv, rfl, ex, a0, a1, a2, a3, hz⟩ := (hq.out.kept hW.out).at k (by rw [hlen.out]; exact hlt)); (have hxk : Hd ((nds q).getD k default = x) := ⟨nds_at (by rw [hlen.out]; exact hlt) ex⟩); (have hT : isTail (N : Int) x.tail = true := by have := (hcov.out.ok k (by rw [hndl.out]; exact hlt)).tail; rwa [hxk.out] at this); (have hhi : x.par < (k : Int) := by have := (hcov.out.ok k (by rw [hndl.out]; exact hlt)).hi; rwa [hxk.out] at this); (obtain ⟨av, cv, rfl, _, _⟩ := Rd.shape2 hz); (obtain ⟨lv, hlv⟩ : ∃ l, x.tail.length = l := ⟨_, rfl⟩); (rw [hlv] at a1 hz); (obtain ⟨P, hPe⟩ : ∃ p, x.par = p := ⟨_, rfl⟩); (obtain ⟨L, hL⟩ : ∃ l, x.leaf = l := ⟨_, rfl⟩); (obtain ⟨B, hBe⟩ : ∃ l, x.bd = l := ⟨_, rfl⟩); (rw [hPe] at a0 hhi); (rw [hBe] at a2); (rw [hL] at a3); (have hBV : Hd (bestV N (grps ps) (bestK N (grps ps) (nds q) k) x = if 0 ≤ P then max (bd N (grps ps) x.tail) ((bestK N (grps ps) (nds q) k).getD P.toNat 0) else bd N (grps ps) x.tail) := ⟨by unfold bestV; rw [hPe]⟩); (have hBO : Hd (BdOk N (grps ps) M (nds q) k ↔ B ≤ bestV N (grps ps) (bestK N (grps ps) (nds q) k) x ∧ (L = true → M ≤ B)) := ⟨by unfold BdOk; rw [hxk.out, hBe, hL]⟩); (have hset := hid (fun b hb => restB_set N (grps ps) (nds q) hlt b hb)); (rw [hxk.out] at hset); (have hpn := hid (proved_any N (.slice ag ps.length cg) (.slice av lv cv) ps x.tail)); (clear ex hxk hPe hBe hL); (go_upto_region 13 with fail); (obtain ⟨w5, hw5, g5, k5⟩ := alloc_named wr (.cells #[.int .i64 P, .slice av lv cv, .int .i64 B, .bool L] 98)); (rw [← hw5]); (generalize wr.heap.size = G9 at g5); (have hW5 := hid (hW.out.trans' k5)); (have hC5 := hid (k5.blk hC.out)); (have hB5 := hid (k5.blk hB.out)); (have hz5 : RdZ w5 (.slice av lv cv) x.tail := by rw [← hlv] at hz ⊢; exact RdZ.kept hz k5); (have HP := hid (hpn.out w5 (by omega) hN7 hP.out hT (hg.out.kept hW5.out) hz5)); (obtain ⟨d0, d1, d2, d3⟩ := slotN4 g5); (replace g5 := hid g5); (clear hw5 k5 hW hC hB hz hz5 hpn a0 a1 a2 a3); (go_wp2_with fail); (with_reducible refine HP.out.mono ?_); (rintro e w6 ⟨rfl, k6⟩); (have hW6 := hid (hW5.out.trans' k6)); (have hC6 := hid (k6.blk hC5.out)); (have hB6 := hid (k6.blk hB5.out)); (have g6 := hid (k6.blk g5.out))
      have hgne : G9 ≠ GB ∧ G9 ≠ GC := by
        constructor
        · (intro e); (have h1 := g6.out); (rw [e, hB6.out] at h1)
          simp at h1
        · (intro e); (have h1 := g6.out); (rw [e, hC6.out] at h1)
          simp at h1
      (replace hgne := hid hgne); (have hblx := hbl.out x); (have hbn := bd_nonneg N (grps ps) x.tail); (obtain ⟨D, hD⟩ : ∃ d, bd N (grps ps) x.tail = d := ⟨_, rfl⟩); (rw [hD] at hblx hbn hBV ⊢); (have hrl := restB_len N (grps ps) (nds q) hk); (have hcold := zsI_cell hB6.out (c := k) (by rw [hrl]; exact hlt)); (have fz := row_free hB6.out k); (clear HP k6 hW5 hC5 hB5 g5 d0 d1 d2 d3); (have kS := (Kept.refl (fun j => j = GB) w6).setCell (a := ⟨GB, k, none⟩) (.inl rfl) (.int .i64 D)); (have hB7 : Hd ((w6.setCell ⟨GB, k, none⟩ (.int .i64 D)).heap[GB]? = some (.cells (zsI ((restB N (grps ps) (nds q) len k).set k D)) 3 (0, 0))) := ⟨by rw [setCell_row hB6.out, zsI_set]⟩); (have hC7 := hid ((kS.block GC (lt_of_heap hC6.out) hCB.out).trans hC6.out)); (have g7 := hid ((kS.block G9 (lt_of_heap g6.out) hgne.out.1).trans g6.out)); (have hW7 := hid (hW6.out.setCell (a := ⟨GB, k, none⟩) (.inr hsz.out) (.int .i64 D))); (obtain ⟨d0, d1, d2, d3⟩ := slotN4 g7.out)
      go_upto_if 70 with fail
      (obtain ⟨w7, hw7⟩ : ∃ w7, w7 = w6.setCell ⟨GB, k, none⟩ (.int .i64 D) := ⟨_, rfl⟩); (rw [← hw7] at hB7 hC7 g7 hW7 d0 d1 d2 d3 ⊢); (clear hw7 kS hC6 hB6 g6 hW6 hcold fz d0 d1 d2 d3)
      go_cut [] (fun wx => Hd (wx.heap[GB]? = some (.cells (zsI (restB N (grps ps) (nds q) len (k + 1))) 3 (0, 0))) ∧ Hd (wx.heap[GC]? = some (.cells #[.int .i64 A, .int .i64 M, .slice (some ⟨b, o, none⟩) len cn] 41 (0, 0))) ∧ Hd (wx.heap[G9]? = some (.cells #[.int .i64 P, .slice av lv cv, .int .i64 B, .bool L] 98 (0, 0))) ∧ Hd (Kept no w wx))
      case first =>
        by_cases hP0 : 0 ≤ P
        · (have hP0d : decide (0 ≤ P) = true := decide_eq_true hP0); (obtain ⟨p, rfl⟩ : ∃ p : Nat, P = (p : Int) := ⟨P.toNat, by omega⟩); (have hpl : (p : Int) < (len : Int) := by omega); (have hpk : p < k := by omega); (rw [if_pos hP0, Int.toNat_natCast] at hBV)
          have hatp : ((restB N (grps ps) (nds q) len k).set k D).getD p 0 = (bestK N (grps ps) (nds q) k).getD p 0 := by
            rw [List.getD_eq_getElem?_getD, List.getElem?_set_ne (by omega), ← List.getD_eq_getElem?_getD, restB_at N (grps ps) (nds q) hpk]
          have hatk : ((restB N (grps ps) (nds q) len k).set k D).getD k 0 = D := by
            rw [List.getD_eq_getElem?_getD, List.getElem?_set_self (by rw [hrl]; exact hlt)]; rfl
          (have e1 := hid (zsI_cell hB7.out (c := p) (by rw [List.length_set, hrl]; omega))); (have e2 := hid (zsI_cell hB7.out (c := k) (by rw [List.length_set, hrl]; omega))); (rw [hatp] at e1); (rw [hatk] at e2)
          have hbp : 0 ≤ (bestK N (grps ps) (nds q) k).getD p 0 ∧ (bestK N (grps ps) (nds q) k).getD p 0 ≤ 50000 := by
            (refine hbr.out k _ ?_); (rw [List.getD_eq_getElem?_getD, List.getElem?_eq_getElem (by rw [bestK_len]; exact hpk)]); (exact List.getElem_mem _)
          (obtain ⟨Q, hQ⟩ : ∃ b, (bestK N (grps ps) (nds q) k).getD p 0 = b := ⟨_, rfl⟩); (rw [hQ] at e1 hBV hbp); (have hset2 : Hd (((restB N (grps ps) (nds q) len k).set k D).set k (max D Q) = restB N (grps ps) (nds q) len (k + 1)) := ⟨by rw [List.set_set]; exact hset.out _ hBV.out.symm⟩); (have d0 := hid (slotN4 g7.out).1); (clear hatp hatk hQ hset hBV); (go_upto_region 15 with fail); (refine region_flow (S := (fun k => k = GB)) (Sl := (fun j k => j = 13 ∧ k = GB)) [Is (.slice (some ⟨GB, 0, none⟩) len len), Is (.int .i64 (k : Int)), Is (.slice (some ⟨GB, 0, none⟩) len len), Is (.int .i64 (k : Int)), Is (.pointer (some ⟨GB, k, none⟩)), Is (.int .i64 D), Is (.slice (some ⟨GB, 0, none⟩) len len), Is (.pointer (some ⟨G9, 0, none⟩)), Is (.int .i64 (p : Int)), Is (.pointer (some ⟨GB, p, none⟩)), Is (.int .i64 Q), Is (.int .i64 (max D Q)), Is (.pointer (some ⟨GB, k, none⟩)), PBlkI GB 3 (restB N (grps ps) (nds q) len (k + 1))] [13] (fun j k h => h.2) _ (by kernel_rfl) (by kernel_rfl) (by kernel_rfl) (by kernel_rfl) (fun x => by simp only [puts, Act.put, List.map_cons, List.map_nil, Nat.zero_add, Nat.reduceAdd, List.setIfInBounds_toArray, List.set_cons_zero, List.set_cons_succ]; exact rfl) ?_ ?_)
          · (skip); (refine .cons (fun x wf Kk hq hdep hold => ?_) ?_)
            · (try dsimp only); (clear hq hdep hold); (rw [if_pos (by rfl)]); (refine OpY.val ?_ ⟨Kept.refl _ _, rfl⟩); (first | rfl | go_simp)
            refine .cons (fun x wf Kk hq hdep hold => ?_) ?_
            · (try dsimp only); (clear hq hdep hold); (rw [if_pos (by rfl)]); (refine OpY.val ?_ ⟨Kept.refl _ _, rfl⟩); (first | rfl | go_simp)
            refine .cons (fun x wf Kk hq hdep hold => ?_) ?_
            · (try dsimp only); (clear hq hdep hold); (rw [if_pos (by rfl)]); (refine OpY.val ?_ ⟨Kept.refl _ _, rfl⟩); (first | rfl | go_simp)
            refine .cons (fun x wf Kk hq hdep hold => ?_) ?_
            · (try dsimp only); (clear hq hdep hold); (rw [if_pos (by rfl)]); (refine OpY.val ?_ ⟨Kept.refl _ _, rfl⟩); (first | rfl | go_simp)
            refine .cons (fun x wf Kk hq hdep hold => ?_) ?_
            · (try dsimp only); (have h2 : x 2 = _ := hdep 2 (by kernel_rfl)); (have h3 : x 3 = _ := hdep 3 (by kernel_rfl)); (clear hq hdep hold); (simp only [h2, h3]); (clear h2 h3); (rw [if_pos (by rfl)]); (refine OpY.val ?_ ⟨Kept.refl _ _, rfl⟩); (first | rfl | go_simp)
            refine .cons (fun x wf Kk hq hdep hold => ?_) ?_
            · (try dsimp only); (have h4 : x 4 = _ := hdep 4 (by kernel_rfl)); (have Kq := hq no (fun j hj => by cases (show j ∈ ([] : List Nat) from by (have e : ∀ l : List Nat, l = [] → j ∈ l → j ∈ ([] : List Nat) := fun l h h2 => h ▸ h2); exact e _ (by kernel_rfl) hj))); (clear hq hdep hold); (simp only [h4]); (clear h4); (have m1 := Kq.undrew.cell e2.out id); (rw [if_pos (by rfl)]); (refine OpY.val ?_ ⟨Kept.refl _ _, rfl⟩); (first | rfl | go_simp)
            refine .cons (fun x wf Kk hq hdep hold => ?_) ?_
            · (try dsimp only); (clear hq hdep hold); (rw [if_pos (by rfl)]); (refine OpY.val ?_ ⟨Kept.refl _ _, rfl⟩); (first | rfl | go_simp)
            refine .cons (fun x wf Kk hq hdep hold => ?_) ?_
            · (try dsimp only); (clear hq hdep hold); (rw [if_pos (by rfl)]); (refine OpY.val ?_ ⟨Kept.refl _ _, rfl⟩); (first | rfl | go_simp)
            refine .cons (fun x wf Kk hq hdep hold => ?_) ?_
            · (try dsimp only); (have h7 : x 7 = _ := hdep 7 (by kernel_rfl)); (have Kq := hq no (fun j hj => by cases (show j ∈ ([] : List Nat) from by (have e : ∀ l : List Nat, l = [] → j ∈ l → j ∈ ([] : List Nat) := fun l h h2 => h ▸ h2); exact e _ (by kernel_rfl) hj))); (clear hq hdep hold); (simp only [h7]); (clear h7); (have m1 := Kq.undrew.cell d0.out id); (rw [if_pos (by rfl)]); (refine OpY.val ?_ ⟨Kept.refl _ _, rfl⟩); (first | rfl | go_simp)
            refine .cons (fun x wf Kk hq hdep hold => ?_) ?_
            · (try dsimp only); (have h6 : x 6 = _ := hdep 6 (by kernel_rfl)); (have h8 : x 8 = _ := hdep 8 (by kernel_rfl)); (clear hq hdep hold); (simp only [h6, h8]); (clear h6 h8); (rw [if_pos (by rfl)]); (refine OpY.val ?_ ⟨Kept.refl _ _, rfl⟩); (first | rfl | go_simp)
            refine .cons (fun x wf Kk hq hdep hold => ?_) ?_
            · (try dsimp only); (have h9 : x 9 = _ := hdep 9 (by kernel_rfl)); (have Kq := hq no (fun j hj => by cases (show j ∈ ([] : List Nat) from by (have e : ∀ l : List Nat, l = [] → j ∈ l → j ∈ ([] : List Nat) := fun l h h2 => h ▸ h2); exact e _ (by kernel_rfl) hj))); (clear hq hdep hold); (simp only [h9]); (clear h9); (have m1 := Kq.undrew.cell e1.out id); (rw [if_pos (by rfl)]); (refine OpY.val ?_ ⟨Kept.refl _ _, rfl⟩); (first | rfl | go_simp)
            refine .cons (fun x wf Kk hq hdep hold => ?_) ?_
            · (try dsimp only); (have h5 : x 5 = _ := hdep 5 (by kernel_rfl)); (have h10 : x 10 = _ := hdep 10 (by kernel_rfl)); (clear hq hdep hold); (simp only [h5, h10]); (clear h5 h10); (rw [if_pos (by rfl)]); (refine OpY.val ?_ ⟨Kept.refl _ _, rfl⟩); (first | rfl | (go_simp; done) | (go_simp; split <;> omega))
            refine .cons (fun x wf Kk hq hdep hold => ?_) ?_
            · (try dsimp only); (have h0 : x 0 = _ := hdep 0 (by kernel_rfl)); (have h1 : x 1 = _ := hdep 1 (by kernel_rfl)); (clear hq hdep hold); (simp only [h0, h1]); (clear h0 h1); (rw [if_pos (by rfl)]); (refine OpY.val ?_ ⟨Kept.refl _ _, rfl⟩); (first | rfl | go_simp)
            refine .cons (fun x wf Kk hq hdep hold => ?_) ?_
            · (try dsimp only); (have h12 : x 12 = _ := hdep 12 (by kernel_rfl)); (have h11 : x 11 = _ := hdep 11 (by kernel_rfl)); (have Kq := hq no (fun j hj => by cases (show j ∈ ([] : List Nat) from by (have e : ∀ l : List Nat, l = [] → j ∈ l → j ∈ ([] : List Nat) := fun l h h2 => h ▸ h2); exact e _ (by kernel_rfl) hj))); (clear hq hdep hold); (simp only [h12, h11]); (clear h12 h11); (rw [if_pos (by rfl)]); (have hb := Kq.undrew.blk hB7.out); (have fz := row_free hb k); (have m1 := Kq.undrew.cell e2.out id); (have kS := (Kept.refl (fun j => j = GB) wf).setCell (a := ⟨GB, k, none⟩) (.inl rfl) (.int .i64 (max D Q))); (refine OpY.skipY (w' := wf.setCell ⟨GB, k, none⟩ (.int .i64 (max D Q))) (by go_simp) ⟨kS.mono fun k _ h => ⟨by trivial, h⟩, ?_⟩)
              show (wf.setCell ⟨GB, k, none⟩ (.int .i64 (max D Q))).heap[GB]? = _
              rw [setCell_row hb, zsI_set, hset2.out]
            exact .nil _
          · (intro x wf Kk hv); (try dsimp only); (have p13 : Pr.p (Sl := (fun j k => j = 13 ∧ k = GB)) (PBlkI GB 3 (restB N (grps ps) (nds q) len (k + 1))) (x 13) wf := hv 13 (by kernel_rfl)); (clear hv); (have hC8 := hid ((Kk.undrew.block GC (lt_of_heap hC7.out) hCB.out).trans hC7.out)); (have g8 := hid ((Kk.undrew.block G9 (lt_of_heap g7.out) hgne.out.1).trans g7.out)); (have hB8 := hid p13)
            have hW8 : Hd (Kept no w wf) := ⟨hW7.out.trans Kk.undrew fun j hj h => by
              rw [h] at hj; have := hsz.out; omega⟩
            (clear Kk p13); (go_wp2)
            go_meet
            exact ⟨hB8, hC8, g8, hW8⟩
        · (have hP0d : decide (0 ≤ P) = false := decide_eq_false hP0); (rw [if_neg hP0] at hBV); (have hB8 : Hd (w7.heap[GB]? = some (.cells (zsI (restB N (grps ps) (nds q) len (k + 1))) 3 (0, 0))) := ⟨by rw [← hset.out D hBV.out.symm]; exact hB7.out⟩); (clear hB7 hset hBV); (go_wp2)
          go_meet
          exact ⟨hB8, hC7, g7, hW7⟩
      case rest =>
      obtain ⟨hB8, hC8, g8, hW8⟩ := hcut
      have hatk : (restB N (grps ps) (nds q) len (k + 1)).getD k 0 = bestV N (grps ps) (bestK N (grps ps) (nds q) k) x := by
        rw [← hset.out _ rfl, List.getD_eq_getElem?_getD, List.getElem?_set_self (by rw [hrl]; exact hlt)]; rfl
      (have hck := zsI_cell hB8.out (c := k) (by rw [restB_len _ _ _ (by omega)]; exact hlt)); (rw [hatk] at hck); (obtain ⟨BV, hBVe⟩ : ∃ b, bestV N (grps ps) (bestK N (grps ps) (nds q) k) x = b := ⟨_, rfl⟩); (rw [hBVe] at hck hBO); (obtain ⟨d0, d1, d2, d3⟩ := slotN4 g8.out); (obtain ⟨c0, c1, c2⟩ := slotC hC8.out); (clear hBV hset hatk hBVe hB7 hC7 g7 hW7 hrl)
      by_cases h1 : BV < B
      · (have h1d : decide (BV < B) = true := decide_eq_true h1); (have hv := hid (hbadB.out k hlt (fun h => by have := (hBO.out.1 h).1; omega))); (clear hbadB hokB hBO); (go_wp2_with fail); (go_quiet (fail)); (have kF := hid (hW8.out.drewN nq)); (go_wp2); (go_ret); (exact ⟨by rw [hv.out]; rfl, kF.out⟩)
      have h1d : decide (BV < B) = false := decide_eq_false h1
      cases L with
      | true =>
        by_cases h2 : B < M
        · (have h2d : decide (B < M) = true := decide_eq_true h2); (have hv := hid (hbadB.out k hlt (fun h => by have := (hBO.out.1 h).2 rfl; omega))); (clear hbadB hokB hBO); (go_wp2_with fail); (go_quiet (fail)); (have kF := hid (hW8.out.drewN nq)); (go_wp2); (go_ret); (exact ⟨by rw [hv.out]; rfl, kF.out⟩)
        · have h2d : decide (B < M) = false := decide_eq_false h2
          have hbd2 : Hd (∀ j, j < k + 1 → BdOk N (grps ps) M (nds q) j) := ⟨fun j hj => by
            by_cases hjk : j = k
            · subst hjk; exact hBO.out.2 ⟨by omega, fun _ => by omega⟩
            · exact hbd.out j (by omega)⟩
          (clear hBO hbd); (go_wp2_with fail); (go_quiet (fail)); (have kF := hid (hW8.out.drewN nq)); (have hC9 := hid (((Kept.refl no wc).drewN nq).blk hC8.out)); (have hB9 := hid (((Kept.refl no wc).drewN nq).blk hB8.out)); (go_wp2); (go_roundw)
          case rel => first | exact ⟨k + 1, by omega, by go_num, hbd2, hC9, hB9, kF⟩ | ((repeat apply Exists.intro); exact ⟨⟨k + 1, by omega, by go_num, hbd2, hC9, hB9, kF⟩, rfl⟩)
          case measure => simp [intOf]; omega
      | false =>
        have hbd2 : Hd (∀ j, j < k + 1 → BdOk N (grps ps) M (nds q) j) := ⟨fun j hj => by
          by_cases hjk : j = k
          · subst hjk; exact hBO.out.2 ⟨by omega, fun h => by cases h⟩
          · exact hbd.out j (by omega)⟩
        (clear hBO hbd); (go_wp2_with fail); (go_quiet (fail)); (have kF := hid (hW8.out.drewN nq)); (have hC9 := hid (((Kept.refl no wc).drewN nq).blk hC8.out)); (have hB9 := hid (((Kept.refl no wc).drewN nq).blk hB8.out)); (go_wp2); (go_roundw)
        case rel => first | exact ⟨k + 1, by omega, by go_num, hbd2, hC9, hB9, kF⟩ | ((repeat apply Exists.intro); exact ⟨⟨k + 1, by omega, by go_num, hbd2, hC9, hB9, kF⟩, rfl⟩)
        case measure => simp [intOf]; omega
    · (obtain rfl : k = len := by omega); (have hv := hid (hokB.out hbd.out)); (clear hokB hbadB hbd); (go_wp2); (go_ret); (exact ⟨by rw [hv.out]; rfl, hW.out⟩)
end Go.Proofs.YtaobaaaihgahfaaGreat
