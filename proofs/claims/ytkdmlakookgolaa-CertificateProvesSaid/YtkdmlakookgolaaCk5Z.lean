/- electionref31.Check (printed by gen_ck5.py). -/
import Derived.Test.YtkdmlakookgolaaCk3Z
import Derived.Test.YtkdmlakookgolaaCk4Z
namespace Go.Proofs.Ytkdmlakookgolaa
open Go.RowKit Go.Mk Go.Pil Go.Mg
set_option maxRecDepth 100000 in
set_option maxHeartbeats 8000000 in
theorem rcheck_any (n : Int) (vg : Value) (ps : List (Grp × Value)) (A M : Int) (v : Value) (q : List (Nd × Value)) (w : World) (hg : RdG w vg ps) (hq : RdN w v q) :
    Calls Try.prog 24 #[.int .i64 n, vg, .agg #[.int .i64 A, .int .i64 M, v]] w fun e w' => e = .returned (.int .i64 (chkE n (grps ps) A M (nds q))) ∧ Kept no w w' := by
  (obtain ⟨an, cn, rfl, hlc, hcm⟩ := Rd.shape2 hq.2); (have hm63 := maxLen_63); (obtain ⟨ag, cg, rfl, _, _⟩ := hg.shape); (obtain ⟨len, hlen⟩ : ∃ n, q.length = n := ⟨_, rfl⟩); (rw [hlen] at hq hlc ⊢); (have hndl : Hd ((nds q).length = len) := ⟨by rw [nds_length]; exact hlen⟩); (replace hlen := hid hlen); (obtain ⟨w1, hw1, g1, k1⟩ := alloc_named w (.cells #[.int .i64 A, .int .i64 M, .slice an len cn] 25)); (have gC := hid g1); (have k01 := hid k1); (have hSZ : Hd (w.heap.size < w1.heap.size) := ⟨by rw [hw1]; simp⟩); (replace hq := hid hq); (replace hg := hid hg); (obtain ⟨R, hR⟩ : ∃ r, chkE n (grps ps) A M (nds q) = r := ⟨_, rfl⟩); (rw [hR]); (replace hR := hid hR)
  go_enter Try.func24, Try.ntmps24
  (go_upto_region 1 with fail); (rw [← hw1]); (generalize w.heap.size = GC at gC hSZ); (obtain ⟨c0, c1, c2⟩ := slotC gC.out); (clear hw1 g1 k1)
  by_cases b1 : n < 2
  · (have b1d : decide (n < 2) = true := decide_eq_true b1); (have hv := hid (hR.out.symm.trans (chk_range (by omega)))); (clear hR); (go_wp2); (go_ret); (exact ⟨by rw [hv.out]; rfl, k01.out⟩)
  have b1d : decide (n < 2) = false := decide_eq_false b1
  by_cases b2 : 7 < n
  · (have b2d : decide (7 < n) = true := decide_eq_true b2); (have hv := hid (hR.out.symm.trans (chk_range (by omega)))); (clear hR); (go_wp2); (go_ret); (exact ⟨by rw [hv.out]; rfl, k01.out⟩)
  have b2d : decide (7 < n) = false := decide_eq_false b2
  by_cases b3 : A < 0
  · (have b3d : decide (A < 0) = true := decide_eq_true b3); (have hv := hid (hR.out.symm.trans (chk_range (by omega)))); (clear hR); (go_wp2); (go_ret); (exact ⟨by rw [hv.out]; rfl, k01.out⟩)
  have b3d : decide (A < 0) = false := decide_eq_false b3
  by_cases b4 : n ≤ A
  · (have b4d : decide (n ≤ A) = true := decide_eq_true b4); (have hv := hid (hR.out.symm.trans (chk_range (by omega)))); (clear hR); (go_wp2); (go_ret); (exact ⟨by rw [hv.out]; rfl, k01.out⟩)
  have b4d : decide (n ≤ A) = false := decide_eq_false b4
  by_cases b5 : M < 0
  · (have b5d : decide (M < 0) = true := decide_eq_true b5); (have hv := hid (hR.out.symm.trans (chk_range (by omega)))); (clear hR); (go_wp2); (go_ret); (exact ⟨by rw [hv.out]; rfl, k01.out⟩)
  (have b5d : decide (M < 0) = false := decide_eq_false b5); (have hrng : Hd ((2 ≤ n ∧ n ≤ 7) ∧ (0 ≤ A ∧ A < n) ∧ 0 ≤ M) := ⟨by omega⟩); (obtain ⟨N, rfl⟩ : ∃ N : Nat, n = (N : Int) := ⟨n.toNat, by omega⟩); (have hN2 : 2 ≤ N := by omega); (have hN7 : N ≤ 7 := by omega); (have HV := hid (refvalid_any (N : Int) (.slice ag ps.length cg) ps w1 (hg.out.kept k01.out))); (have hdec : decide (1 ≤ (N : Int) ∧ (N : Int) ≤ 7) = true := decide_eq_true ⟨by omega, by omega⟩); (rw [hdec, Bool.true_and] at HV); (clear hdec)
  cases hP : isPile (N : Int) (grps ps) with
  | false =>
    (have hv := hid (hR.out.symm.trans (chk_form hrng.out hP))); (rw [hP] at HV); (clear hR hP); (go_wp2_with fail); (with_reducible refine HV.out.mono ?_); (rintro e w2 ⟨rfl, k2⟩); (have k02 := hid (k01.out.trans' k2.kept)); (clear k2 HV); (go_wp2); (go_ret); (exact ⟨by rw [hv.out]; rfl, k02.out⟩)
  | true =>
  (rw [hP] at HV); (go_wp2_with fail); (with_reducible refine HV.out.mono ?_); (rintro e w2 ⟨rfl, k2⟩); (have k12 := hid k2.kept); (have k02 := hid (k01.out.trans' k12.out)); (have gC2 := hid (k12.out.blk gC.out)); (obtain ⟨c0, c1, c2⟩ := slotC gC2.out); (clear k2 HV c0 c1 c2); (obtain ⟨c0, c1, c2⟩ := slotC gC2.out); (replace hP := hid hP)
  by_cases hl4 : 4000 < len
  · (have hl4i : (4000 : Int) < (len : Int) := by omega); (have hl4d : decide ((4000 : Int) < (len : Int)) = true := decide_eq_true hl4i); (have hv := hid (hR.out.symm.trans (chk_len hrng.out hP.out (by rw [hndl.out]; exact hl4)))); (clear hR); (go_wp2); (go_ret); (exact ⟨by rw [hv.out]; rfl, k02.out⟩)
  (have hl4i : ¬ (4000 : Int) < (len : Int) := by omega); (have hl4d : decide ((4000 : Int) < (len : Int)) = false := decide_eq_false hl4i); (have HC := hid (refcov_any N hN2 hN7 A M hrng.out.2.1 (.slice an len cn) q w2 (hq.out.kept k02.out) (by rw [hlen.out]; omega))); (go_wp2_with fail); (with_reducible refine HC.out.mono ?_); (rintro e w3 ⟨⟨b, rfl, hb⟩, k3⟩); (have k03 := hid (k02.out.trans' k3)); (have gC3 := hid (k3.blk gC2.out)); (have hSZ3 : Hd (GC < w3.heap.size) := ⟨lt_of_heap gC3.out⟩); (clear HC k3 c0 c1 c2); (obtain ⟨c0, c1, c2⟩ := slotC gC3.out)
  cases b with
  | false =>
    (have hv := hid (hR.out.symm.trans (chk_step hrng.out hP.out (by rw [hndl.out]; exact hl4) (fun h => by have := hb.2 h; cases this)))); (clear hR hb); (go_wp2); (go_ret); (exact ⟨by rw [hv.out]; rfl, k03.out⟩)
  | true =>
  (have hcov := hid (hb.1 rfl)); (have hbadB : Hd (∀ i, i < len → ¬ BdOk N (grps ps) M (nds q) i → R = 15) := ⟨fun i hi hn => hR.out.symm.trans (chk_bound hrng.out hP.out (by rw [hndl.out]; exact hl4) hcov.out (fun h => hn (h i (by rw [hndl.out]; exact hi))))⟩); (have hokB : Hd ((∀ i, i < len → BdOk N (grps ps) M (nds q) i) → R = 0) := ⟨fun h => hR.out.symm.trans (chk_ok hrng.out hP.out (by rw [hndl.out]; exact hl4) hcov.out (fun i hi => h i (by rw [← hndl.out]; exact hi)))⟩); (have hbr := hid (fun k => bestK_rng (n := N) hP.out (nds q) k)); (have hp7 : Hd (isPile 7 (grps ps) = true) := ⟨isPile_mono (by omega) hP.out⟩); (have hbl := hid (fun (x : Nd) => bd_le (n := N) hP.out x.tail)); (clear hb hR hrng b1 b1d b2 b2d b3 b3d b4 b4d b5 b5d hl4i hl4d gC2 gC k01 k02 k12); (have hres := hid (show (R = 0 ∨ R = 15) ∨ True from .inr trivial)); (clear hres); (go_wp2)
  go_loopw [7, 8] (fun out i wr => ∃ k : Nat, k ≤ len ∧ i = .int .i64 (k : Int) ∧ Hd (∀ j, j < k → BdOk N (grps ps) M (nds q) j) ∧ Hd (OwZ w3 wr out (bestK N (grps ps) (nds q) k))) (fun _ i _ => len - (intOf i).toNat)
  case atStart => exact ⟨0, by omega, rfl, ⟨fun j hj => by omega⟩, ⟨OwZ.nil w3⟩⟩
  case round =>
    (clear c0 c1 c2); (obtain ⟨k, hk, rfl, hbd, hO⟩ := hrel); (have hW := hid (k03.out.trans' hO.out.kept)); (have hC := hid (hO.out.kept.blk gC3.out)); (obtain ⟨c0, c1, c2⟩ := slotC hC.out)
    by_cases hlt : k < len
    · (have hk1 : (k : Int) < (len : Int) := by omega); (have hk0 : (0 : Int) ≤ (k : Int) := by omega); (obtain ⟨b, o, x, tv, rfl, ex, a0, a1, a2, a3, hz⟩ := (hq.out.kept hW.out).at k (by rw [hlen.out]; exact hlt)); (have hxk : Hd ((nds q).getD k default = x) := ⟨nds_at (by rw [hlen.out]; exact hlt) ex⟩); (have hT : isTail (N : Int) x.tail = true := by have := (hcov.out.ok k (by rw [hndl.out]; exact hlt)).tail; rwa [hxk.out] at this); (have hhi : x.par < (k : Int) := by have := (hcov.out.ok k (by rw [hndl.out]; exact hlt)).hi; rwa [hxk.out] at this); (obtain ⟨av, cv, rfl, _, _⟩ := Rd.shape2 hz); (obtain ⟨lv, hlv⟩ : ∃ l, x.tail.length = l := ⟨_, rfl⟩); (rw [hlv] at a1 hz); (obtain ⟨P, hPe⟩ : ∃ p, x.par = p := ⟨_, rfl⟩); (obtain ⟨L, hL⟩ : ∃ l, x.leaf = l := ⟨_, rfl⟩); (obtain ⟨B, hBe⟩ : ∃ l, x.bd = l := ⟨_, rfl⟩); (rw [hPe] at a0 hhi); (rw [hBe] at a2); (rw [hL] at a3); (have hBV : Hd (bestV N (grps ps) (bestK N (grps ps) (nds q) k) x = if 0 ≤ P then max (bd N (grps ps) x.tail) ((bestK N (grps ps) (nds q) k).getD P.toNat 0) else bd N (grps ps) x.tail) := ⟨by unfold bestV; rw [hPe]⟩); (have hBO : Hd (BdOk N (grps ps) M (nds q) k ↔ B ≤ bestV N (grps ps) (bestK N (grps ps) (nds q) k) x ∧ (L = true → M ≤ B)) := ⟨by unfold BdOk; rw [hxk.out, hBe, hL]⟩); (have hnx : Hd (bestK N (grps ps) (nds q) (k + 1) = bestK N (grps ps) (nds q) k ++ [bestV N (grps ps) (bestK N (grps ps) (nds q) k) x]) := ⟨by rw [bestK, hxk.out]⟩); (clear ex hxk hPe hBe hL); (go_upto_region 14 with fail); (obtain ⟨w5, hw5, g5, k5⟩ := alloc_named wr (.cells #[.int .i64 P, .slice av lv cv, .int .i64 B, .bool L] 76)); (rw [← hw5]); (generalize wr.heap.size = G9 at g5); (have hW5 := hid (hW.out.trans' k5)); (have hC5 := hid (k5.blk hC.out)); (have hO5 := hid (hO.out.keptNo k5)); (have hz5 : RdZ w5 (.slice av lv cv) x.tail := by rw [← hlv] at hz ⊢; exact RdZ.kept hz k5); (have HT := reftail_any (N : Int) (.slice ag ps.length cg) (.slice av lv cv) ps x.tail w5 (hg.out.kept hW5.out) hz5)
      have hval : tailB (N : Int) (grps ps) x.tail = bd N (grps ps) x.tail := by
        unfold tailB; rw [if_pos ⟨⟨by omega, by omega⟩, hP.out, hT⟩, Int.toNat_natCast]
      (rw [hval] at HT); (replace HT := hid HT); (obtain ⟨d0, d1, d2, d3⟩ := slotN4 g5); (replace g5 := hid g5); (clear hw5 k5 hW hC hO hz hz5 hval a0 a1 a2 a3 c0 c1 c2); (go_wp2_with fail); (with_reducible refine HT.out.mono ?_); (rintro e w6 ⟨rfl, k6⟩); (have hW6 := hid (hW5.out.trans' k6)); (have hC6 := hid (k6.blk hC5.out)); (have hO6 := hid (hO5.out.keptNo k6)); (have g6 := hid (k6.blk g5.out)); (have hblx := hbl.out x); (have hbn := bd_nonneg N (grps ps) x.tail); (obtain ⟨D, hD⟩ : ∃ d, bd N (grps ps) x.tail = d := ⟨_, rfl⟩); (rw [hD] at hblx hbn hBV ⊢); (clear HT k6 hW5 hC5 hO5 g5 d0 d1 d2 d3); (obtain ⟨d0, d1, d2, d3⟩ := slotN4 g6.out)
      go_upto_if 64 with fail
      (clear d0 d1 d2 d3); (obtain ⟨_, a7, c7, rfl, _⟩ := Rd.of_own hO6.out.own)
      go_cut [10] (fun c wx => c = .int .i64 (bestV N (grps ps) (bestK N (grps ps) (nds q) k) x) ∧ Hd (Kept no w6 wx))
      case first =>
        by_cases hP0 : 0 ≤ P
        · (have hP0d : decide (0 ≤ P) = true := decide_eq_true hP0); (obtain ⟨p, rfl⟩ : ∃ p : Nat, P = (p : Int) := ⟨P.toNat, by omega⟩); (have hpk : p < k := by omega); (rw [if_pos hP0, Int.toNat_natCast] at hBV); (obtain ⟨b7, o7, h7, e1⟩ := hO6.out.rd.at p (by rw [bestK_len]; exact hpk))
          cases h7
          have hbp : 0 ≤ (bestK N (grps ps) (nds q) k).getD p 0 ∧ (bestK N (grps ps) (nds q) k).getD p 0 ≤ 50000 := by
            (refine hbr.out k _ ?_); (rw [List.getD_eq_getElem?_getD, List.getElem?_eq_getElem (by rw [bestK_len]; exact hpk)]); (exact List.getElem_mem _)
          (have hpl : (p : Int) < ((bestK N (grps ps) (nds q) k).length : Int) := by rw [bestK_len]; omega); (obtain ⟨Q, hQ⟩ : ∃ b, (bestK N (grps ps) (nds q) k).getD p 0 = b := ⟨_, rfl⟩); (rw [hQ] at e1 hBV hbp); (have hmi : (if D < Q then Q else D) = max D Q := by split <;> omega); (obtain ⟨d0, d1, d2, d3⟩ := slotN4 g6.out); (have hf := hid hBV.out); (clear hQ hBV); (go_wp2)
          go_meet
          exact ⟨by rw [hf.out] <;> rfl, ⟨Kept.refl _ _⟩⟩
        · (have hP0d : decide (0 ≤ P) = false := decide_eq_false hP0); (rw [if_neg hP0] at hBV); (have hf := hid hBV.out); (clear hBV); (go_wp2)
          go_meet
          exact ⟨by rw [hf.out] <;> rfl, ⟨Kept.refl _ _⟩⟩
      case rest =>
      (obtain ⟨rfl, k7⟩ := hcut); (obtain ⟨w7, rfl⟩ : ∃ w7 : World, w7 = wc := ⟨_, rfl⟩); (have hC7 := hid (k7.out.blk hC6.out)); (have hO7 := hid (hO6.out.keptNo k7.out)); (have g7 := hid (k7.out.blk g6.out)); (have hW7 := hid (hW6.out.trans' k7.out)); (obtain ⟨BV, hBVe⟩ : ∃ b, bestV N (grps ps) (bestK N (grps ps) (nds q) k) x = b := ⟨_, rfl⟩); (rw [hBVe] at hBO hnx ⊢)
      have hbl1 : Hd ((bestK N (grps ps) (nds q) k).length + 1 ≤ maxLen ∧ ((bestK N (grps ps) (nds q) k).length + 1) * 8 ≤ 140737488355328) := ⟨by
        rw [bestK_len]; have hmx : maxLen = 9223372036854775807 := rfl; omega⟩
      (clear hBV hBVe hC6 hO6 g6 hW6 k7); (go_wp2_with (at_builtin; refine wpList_append_lit _ rfl _ _ 40 rfl 3 1 8 TInts _ _ _ rfl hO7.out.own 1 [_] rfl rfl ?c1 ?c2 ?c3 ?_))
      case c1 => simp [Value.oneCell']
      case c2 => exact hbl1.out.1
      case c3 => exact hbl1.out.2
      (intro v8 w8 h2 h3 h4 _); (have hO8 : Hd (OwZ w3 w8 v8 (bestK N (grps ps) (nds q) (k + 1))) := ⟨by rw [hnx.out]; exact hO7.out.add BV h2 h3 h4⟩); (have k78 := hid (hO7.out.new.kept hO7.out.kept (h3.mono fun _ _ h => h))); (have hC8 := hid (hO8.out.kept.blk gC3.out)); (have g8 : Hd (w8.heap[G9]? = some (.cells #[.int .i64 P, .slice av lv cv, .int .i64 B, .bool L] 76 (0, 0))) := ⟨(h3.block G9 (lt_of_heap g7.out) (fun hh => own_ne hO7.out.own g7.out (by decide) G9 hh rfl)).trans g7.out⟩); (have hW8 := hid (k03.out.trans' hO8.out.kept)); (obtain ⟨d0, d1, d2, d3⟩ := slotN4 g8.out); (obtain ⟨c0, c1, c2⟩ := slotC hC8.out); (clear h2 h3 h4 hO7 hC7 g7 hW7 hbl1 hnx k78)
      by_cases h1 : BV < B
      · (have h1d : decide (BV < B) = true := decide_eq_true h1); (have hv := hid (hbadB.out k hlt (fun h => by have := (hBO.out.1 h).1; omega))); (clear hbadB hokB hBO); (go_wp2); (go_ret); (exact ⟨by rw [hv.out]; rfl, hW8.out⟩)
      have h1d : decide (BV < B) = false := decide_eq_false h1
      cases L with
      | true =>
        by_cases h2 : B < M
        · (have h2d : decide (B < M) = true := decide_eq_true h2); (have hv := hid (hbadB.out k hlt (fun h => by have := (hBO.out.1 h).2 rfl; omega))); (clear hbadB hokB hBO); (go_wp2); (go_ret); (exact ⟨by rw [hv.out]; rfl, hW8.out⟩)
        · have h2d : decide (B < M) = false := decide_eq_false h2
          have hbd2 : Hd (∀ j, j < k + 1 → BdOk N (grps ps) M (nds q) j) := ⟨fun j hj => by
            by_cases hjk : j = k
            · subst hjk; exact hBO.out.2 ⟨by omega, fun _ => by omega⟩
            · exact hbd.out j (by omega)⟩
          (clear hBO hbd); (go_wp2); (go_roundw)
          case rel => first | exact ⟨k + 1, by omega, by go_num, hbd2, hO8⟩ | ((repeat apply Exists.intro); exact ⟨⟨k + 1, by omega, by go_num, hbd2, hO8⟩, rfl⟩)
          case measure => simp [intOf]; omega
      | false =>
        have hbd2 : Hd (∀ j, j < k + 1 → BdOk N (grps ps) M (nds q) j) := ⟨fun j hj => by
          by_cases hjk : j = k
          · subst hjk; exact hBO.out.2 ⟨by omega, fun h => by cases h⟩
          · exact hbd.out j (by omega)⟩
        (clear hBO hbd); (go_wp2); (go_roundw)
        case rel => first | exact ⟨k + 1, by omega, by go_num, hbd2, hO8⟩ | ((repeat apply Exists.intro); exact ⟨⟨k + 1, by omega, by go_num, hbd2, hO8⟩, rfl⟩)
        case measure => simp [intOf]; omega
    · (obtain rfl : k = len := by omega); (have hv := hid (hokB.out hbd.out)); (clear hokB hbadB hbd); (go_wp2); (go_ret); (exact ⟨by rw [hv.out]; rfl, hW.out⟩)
end Go.Proofs.Ytkdmlakookgolaa
