/- electionref31.covering (printed by gen_ck3.py). -/
import Derived.Test.YtkdmlakookgolaaCk2Z
import Derived.Test.YtkdmlakookgolaaIsbZ
namespace Go.Mg
open Go.Pil
theorem cntP_take {l : List Nd} {k : Nat} {x : Nd} (h : l.take (k + 1) = l.take k ++ [x]) (i : Int) : cntP (l.take (k + 1)) i = cntP (l.take k) i + if x.par = i then 1 else 0 := by
  (unfold cntP); (rw [h, List.countP_append, List.countP_singleton]); (simp only [beq_iff_eq])
theorem cntP_le (l : List Nd) (i : Int) : cntP l i ≤ l.length := List.countP_le_length
end Go.Mg
namespace Go.Proofs.Ytkdmlakookgolaa
open Go.RowKit Go.Mk Go.Pil Go.Mg
set_option maxRecDepth 100000 in
set_option maxHeartbeats 8000000 in
theorem refcov_any (N : Nat) (h2 : 2 ≤ N) (h7 : N ≤ 7) (A M : Int) (hA : 0 ≤ A ∧ A < (N : Int)) (v : Value) (q : List (Nd × Value)) (w : World) (hq : RdN w v q) (hl : q.length ≤ 4000) :
    Calls Try.prog 58 #[.int .i64 (N : Int), .agg #[.int .i64 A, .int .i64 M, v]] w fun e w' => RetIff (CodeCov N A (nds q)) e ∧ Kept no w w' := by
  (have hci := hid (cov_iff (l := nds q) hA)); (obtain ⟨an, cn, rfl, _, _⟩ := Rd.shape2 hq.2); (obtain ⟨len, hlen⟩ : ∃ n, q.length = n := ⟨_, rfl⟩); (rw [hlen] at hq hl ⊢); (have hndl : Hd ((nds q).length = len) := ⟨by rw [nds_length]; exact hlen⟩); (replace hlen := hid hlen); (obtain ⟨w1, hw1, g1, k1⟩ := alloc_named w (.cells #[.int .i64 A, .int .i64 M, .slice an len cn] 25)); (have gC := hid g1); (have k01 := hid k1); (replace hq := hid hq)
  go_enter Try.func58, Try.ntmps58
  (go_upto_region 1 with fail); (rw [← hw1]); (generalize w.heap.size = GC at gC); (clear hw1 g1 k1); (go_wp2)
  go_loopw [5] (fun i wr => ∃ k : Nat, k ≤ len ∧ i = .int .i64 (k : Int) ∧ Hd (∀ j, j < k → OkC N (nds q) j ((nds q).getD j default) ∧ (((nds q).getD j default).par < 0 → hdN ((nds q).getD j default) ≠ A) ∧ ∀ r, r < j → ¬ (((nds q).getD r default).par = ((nds q).getD j default).par ∧ ((nds q).getD r default).tail = ((nds q).getD j default).tail)) ∧ Hd (Kept no w1 wr)) (fun i _ => len - (intOf i).toNat)
  case atStart => exact ⟨0, by omega, rfl, ⟨fun j hj => by omega⟩, ⟨Kept.refl _ _⟩⟩
  case round =>
    (obtain ⟨k, hk, rfl, hok, hW1⟩ := hrel); (have hW := hid (k01.out.trans' hW1.out)); (obtain ⟨c0, c1, c2⟩ := slotC (hW1.out.blk gC.out))
    by_cases hlt : k < len
    · (have hk1 : (k : Int) < (len : Int) := by omega); (have hk0 : (0 : Int) ≤ (k : Int) := by omega); (obtain ⟨b, o, x, tv, rfl, ex, a0, a1, a2, a3, hz⟩ := (hq.out.kept hW.out).at k (by rw [hlen.out]; exact hlt)); (have hxk : Hd ((nds q).getD k default = x) := ⟨nds_at (by rw [hlen.out]; exact hlt) ex⟩); (have hbad : Hd (¬ OkC N (nds q) k x → ¬ CodeCov N A (nds q)) := ⟨fun h hc => h (by have := hc.ok k (by rw [hndl.out]; exact hlt); rwa [hxk.out] at this)⟩); (have hbad2 : Hd (¬ ((x.par < 0 → hdN x ≠ A) ∧ ∀ r, r < k → ¬ (((nds q).getD r default).par = x.par ∧ ((nds q).getD r default).tail = x.tail)) → ¬ CodeCov N A (nds q)) := ⟨fun h hc => h (by have := ((hci.out.2 hc).1 k (by rw [hndl.out]; exact hlt)).2; rwa [hxk.out] at this)⟩); (obtain ⟨av, cv, rfl, hcv1, _⟩ := Rd.shape2 hz); (obtain ⟨lv, hlv⟩ : ∃ l, x.tail.length = l := ⟨_, rfl⟩); (rw [hlv] at a1 hz hcv1); (replace hlv := hid hlv); (obtain ⟨P, hP⟩ : ∃ p, x.par = p := ⟨_, rfl⟩); (obtain ⟨L, hL⟩ : ∃ l, x.leaf = l := ⟨_, rfl⟩); (obtain ⟨B, hB⟩ : ∃ l, x.bd = l := ⟨_, rfl⟩); (rw [hP] at a0); (rw [hB] at a2); (rw [hL] at a3); (replace hP := hid hP); (replace hL := hid hL); (clear ex hB); (go_upto_region 5 with fail); (obtain ⟨w4, hw4, g4, k4⟩ := alloc_named wr (.cells #[.int .i64 P, .slice av lv cv, .int .i64 B, .bool L] 76)); (rw [← hw4]); (generalize wr.heap.size = G8 at g4); (have hW14 := hid (hW1.out.trans' k4)); (have hz4 := hz.kept k4); (replace g4 := hid g4); (have HT := hid (refistail_any (N : Int) (.slice av lv cv) x.tail w4 hz4)); (obtain ⟨d0, d1, d2, d3⟩ := slotN4 g4.out); (obtain ⟨c0, c1, c2⟩ := slotC (hW14.out.blk gC.out)); (have hqW4 := hid (hq.out.kept (k01.out.trans' hW14.out))); (obtain ⟨BT, hBT⟩ : ∃ bt, isTail (N : Int) x.tail = bt := ⟨_, rfl⟩); (rw [hBT] at HT); (clear hw4 k4 hW hW1 hz a0 a1 a2 a3)
      go_cut [66] (fun c wx => IsB c (¬ (BT = true ∧ -1 ≤ P ∧ P < (k : Int) ∧ (0 ≤ P → ((nds q).getD P.toNat default).leaf = false) ∧ (lv = N → L = true))) ∧ Hd (Kept no w4 wx))
      case first =>
        (go_wp2_with fail); (with_reducible refine HT.out.mono ?_); (rintro e w5 ⟨rfl, q5⟩); (have k45 := hid q5.kept); (have d0' := k45.out.cell d0 id); (have d3' := k45.out.cell d3 id); (have d1' := k45.out.cell d1 id); (have c2' := k45.out.cell c2 id); (have hq5 := hid (hqW4.out.kept k45.out)); (clear q5 HT d0 d1 d2 d3 c0 c1 c2 hqW4)
        cases BT with
        | false =>
          go_wp2
          go_meet
          exact ⟨⟨true, rfl, by simp⟩, k45⟩
        | true =>
        by_cases hPm : P < -1
        · (have hPd : decide (P < -1) = true := decide_eq_true hPm); (go_wp2)
          go_meet
          exact ⟨⟨true, rfl, by simp; intro h; omega⟩, k45⟩
        have hPd : decide (P < -1) = false := decide_eq_false hPm
        by_cases hPk : (k : Int) ≤ P
        · (have hPkd : decide ((k : Int) ≤ P) = true := decide_eq_true hPk); (go_wp2)
          go_meet
          exact ⟨⟨true, rfl, by simp; intro h1 h2; omega⟩, k45⟩
        have hPkd : decide ((k : Int) ≤ P) = false := decide_eq_false hPk
        by_cases hP0 : 0 ≤ P
        · (have hP0d : decide (0 ≤ P) = true := decide_eq_true hP0); (obtain ⟨p, rfl⟩ : ∃ p : Nat, P = (p : Int) := ⟨P.toNat, by omega⟩); (have hpl : (p : Int) < (len : Int) := by omega); (obtain ⟨b', o', y, ty, hbo, ey, _, b1, _, b3, hzy⟩ := hq5.out.at p (by rw [hlen.out]; omega))
          cases hbo
          (have hyk : Hd (((nds q).getD (p : Int).toNat default).leaf = y.leaf) := ⟨by rw [Int.toNat_natCast, nds_at (by rw [hlen.out]; omega) ey]⟩); (obtain ⟨Ly, hLy⟩ : ∃ l, y.leaf = l := ⟨_, rfl⟩); (rw [hLy] at b3 hyk); (have hPkN : ¬ k ≤ p := by omega); (have hPkNd : decide (k ≤ p) = false := decide_eq_false hPkN); (clear ey hLy hzy)
          cases Ly with
          | true =>
            go_wp2
            go_meet
            exact ⟨⟨true, rfl, by rw [hyk.out]; simp⟩, k45⟩
          | false =>
            by_cases hlN : lv = N
            · (have hf1i : (lv : Int) = (N : Int) := by omega); (have hbe : ((lv : Int) == (N : Int)) = true := by rw [beq_iff_eq]; exact hf1i); (have hbd : decide ((lv : Int) = (N : Int)) = true := decide_eq_true hf1i); (have hlN' := hid hlN); (clear hf1i hlN)
              cases L with
              | true =>
                go_wp2
                go_meet
                exact ⟨⟨false, rfl, by rw [hyk.out]; simp; omega⟩, k45⟩
              | false =>
                go_wp2
                go_meet
                exact ⟨⟨true, rfl, by simp [hlN'.out]⟩, k45⟩
            · (have hf1i : ¬ (lv : Int) = (N : Int) := by omega); (have hbe : ((lv : Int) == (N : Int)) = false := by rw [beq_eq_false_iff_ne]; exact hf1i); (have hbd : decide ((lv : Int) = (N : Int)) = false := decide_eq_false hf1i); (go_wp2)
              go_meet
              exact ⟨⟨false, rfl, by rw [hyk.out]; simp [hlN]; omega⟩, k45⟩
        · have hP0d : decide (0 ≤ P) = false := decide_eq_false hP0
          by_cases hlN : lv = N
          · (have hf1i : (lv : Int) = (N : Int) := by omega); (have hbe : ((lv : Int) == (N : Int)) = true := by rw [beq_iff_eq]; exact hf1i); (have hbd : decide ((lv : Int) = (N : Int)) = true := decide_eq_true hf1i); (have hlN' := hid hlN); (clear hf1i hlN)
            cases L with
            | true =>
              go_wp2
              go_meet
              exact ⟨⟨false, rfl, by simp; omega⟩, k45⟩
            | false =>
              go_wp2
              go_meet
              exact ⟨⟨true, rfl, by simp [hlN'.out]⟩, k45⟩
          · (have hf1i : ¬ (lv : Int) = (N : Int) := by omega); (have hbe : ((lv : Int) == (N : Int)) = false := by rw [beq_eq_false_iff_ne]; exact hf1i); (have hbd : decide ((lv : Int) = (N : Int)) = false := decide_eq_false hf1i); (go_wp2)
            go_meet
            exact ⟨⟨false, rfl, by simp [hlN]; omega⟩, k45⟩
      case rest =>
      (obtain ⟨⟨bb, rfl, hbb⟩, k45⟩ := hcut); (have hW5 := hid ((k01.out.trans' hW14.out).trans' k45.out)); (have hW15 := hid (hW14.out.trans' k45.out)); (have g5 := hid (k45.out.blk g4.out)); (have hz5 := hid (show RdZ wc (.slice av lv cv) x.tail from RdZ.kept hz4 k45.out)); (clear HT d0 d1 d2 d3 c0 c1 c2 hqW4 hz4)
      cases bb with
      | true =>
        have hn := hid (show ¬ CodeCov N A (nds q) from fun hc => by
          (have ho := hc.ok k (by rw [hndl.out]; exact hlt)); (rw [hxk.out] at ho); (have h4 := ho.leafp); (rw [hP.out] at h4)
          exact hbb.1 rfl ⟨hBT ▸ ho.tail, hP.out ▸ ho.lo, hP.out ▸ ho.hi, h4, fun e => by rw [← hL.out]; exact ho.full (hlv.out.trans e)⟩)
        (clear hbb hBT); (go_wp2); (go_ret); (exact ⟨retNo hn.out, hW5.out⟩)
      | false =>
      (obtain ⟨rfl, hlo, hhi, hlf, hfu⟩ := Classical.not_not.1 (fun h => by have := hbb.2 h; cases this)); (have hTl := hid (isTail_iff.1 hBT)); (have hTc := hid (isTail_cons hBT)); (have hlv1 : 0 < lv := by rw [← hlv.out]; exact List.length_pos_iff.2 hTl.out.1); (have hOk : Hd (x.tail.drop 1 = upT (nds q) x → OkC N (nds q) k x) := ⟨fun h => ⟨hBT, fun e => by rw [hL.out]; exact hfu (hlv.out.symm.trans e), by rw [hP.out]; exact hlo, by rw [hP.out]; exact hhi, fun h0 => by rw [hP.out] at h0 ⊢; exact hlf h0, h⟩⟩)
      have hul : Hd ((upT (nds q) x).length ≤ 7) := ⟨by
        unfold upT
        split
        · rename_i h0
          (rw [hP.out] at h0 ⊢); (exact tail_len7 (hok.out P.toNat (by omega)).1.tail h7)
        · simp⟩
      (obtain ⟨UP, hUP⟩ : ∃ u, upT (nds q) x = u := ⟨_, rfl⟩); (rw [hUP] at hOk hul); (replace hBT := hid hBT); (replace hUP := hid hUP); (clear hbb hlf hfu); (have hcC := hid (hW15.out.blk gC.out)); (obtain ⟨d0, d1, d2, d3⟩ := slotN4 g5.out)
      go_upto_if 69 with fail
      clear d0 d1 d2 d3
      go_cut [7] (fun u wx => (∃ (au : Option Addr) (cu : Nat), u = .slice au UP.length cu ∧ Hd (RdZ wx u UP)) ∧ Hd (Kept no wc wx))
      case first =>
        (obtain ⟨c0, c1, c2⟩ := slotC hcC.out); (obtain ⟨d0, d1, d2, d3⟩ := slotN4 g5.out)
        by_cases hP0 : 0 ≤ P
        · (have hP0d : decide (0 ≤ P) = true := decide_eq_true hP0); (obtain ⟨p, rfl⟩ : ∃ p : Nat, P = (p : Int) := ⟨P.toNat, by omega⟩); (have hpl : (p : Int) < (len : Int) := by omega); (obtain ⟨b', o', y, ty, hbo, ey, _, b1, _, b3, hzy⟩ := (hq.out.kept hW5.out).at p (by rw [hlen.out]; omega))
          cases hbo
          (have hyU : Hd (y.tail = UP) := ⟨by rw [← hUP.out]; unfold upT; rw [hP.out, if_pos hP0, Int.toNat_natCast, nds_at (by rw [hlen.out]; omega) ey]⟩); (rw [hyU.out] at hzy); (obtain ⟨ay, cy, rfl, _, _⟩ := Rd.shape2 hzy); (replace hzy := hid hzy); (clear ey); (go_wp2)
          go_meet
          exact ⟨⟨_, _, rfl, hzy⟩, ⟨Kept.refl _ _⟩⟩
        · (have hP0d : decide (0 ≤ P) = false := decide_eq_false hP0); (have hyU : UP = [] := by rw [← hUP.out]; unfold upT; rw [hP.out, if_neg hP0]); (go_wp2)
          go_meet
          exact ⟨⟨none, 0, by rw [hyU]; rfl, ⟨by rw [hyU]; exact nil_rd _ _⟩⟩, ⟨Kept.refl _ _⟩⟩
      case rest =>
      (obtain ⟨⟨au, cu, rfl, hzu0⟩, k56⟩ := hcut); (obtain ⟨w6, rfl⟩ : ∃ w6 : World, w6 = wc := ⟨_, rfl⟩); (have hW6 := hid (hW5.out.trans' k56.out)); (have hW16 := hid (hW15.out.trans' k56.out)); (have g6 := hid (k56.out.blk g5.out)); (have hz6 := hid (RdZ.kept hz5.out k56.out)); (clear hcC g5 hz5 hW5 hW15 k56); (obtain ⟨bt, ot, rfl, hd0⟩ := hz6.out.at 0 (by rw [hlv.out]; exact hlv1)); (have hhd : Hd (x.tail.getD 0 0 = hdN x) := ⟨by unfold hdN; rw [hTc.out]; simp⟩); (rw [hhd.out, Nat.add_zero] at hd0); (have hsl : ∀ w, (Instr.slice 40 (.slice (some ⟨bt, ot, none⟩) lv cv) (some (.int .i64 1)) none none).run Try.prog w = .ok (.slice (if cv = 1 then (some ⟨bt, ot, none⟩ : Option Addr) else (some ⟨bt, ot, none⟩ : Option Addr).map (·.add 1)) (lv - 1) (cv - 1)) w := fun w => post_sliceI (some ⟨bt, ot, none⟩) lv cv 1 (by omega) w); (have hzd0 := hz6.out.dropI 1 (by rw [hlv.out]; omega)); (rw [hlv.out] at hzd0); (obtain ⟨ad, had⟩ : ∃ ad, (if cv = 1 then (some ⟨bt, ot, none⟩ : Option Addr) else (some ⟨bt, ot, none⟩ : Option Addr).map (·.add 1)) = ad := ⟨_, rfl⟩); (rw [had] at hsl hzd0); (obtain ⟨ld, hld⟩ : ∃ l, lv - 1 = l := ⟨_, rfl⟩); (obtain ⟨cd, hcd⟩ : ∃ l, cv - 1 = l := ⟨_, rfl⟩); (rw [hld, hcd] at hsl hzd0); (obtain ⟨lu, hlu⟩ : ∃ l, UP.length = l := ⟨_, rfl⟩); (rw [hlu] at hul hzu0 ⊢); (have hu7 := hul.out); (have HE := Qt.quiet (w := w6) fun W (kw : Qt w6 W) => eqz_any (.slice ad ld cd) (.slice au lu cu) (x.tail.drop 1) UP W (RdZ.kept hzd0 kw.kept) (RdZ.kept hzu0.out kw.kept))
      have hll : Hd (x.tail.drop 1 = UP → lv = lu + 1) := ⟨fun h => by
        have := congrArg List.length h
        rw [List.length_drop, hlv.out, hlu] at this; omega⟩
      (have hlu1 : IntKind.i64.wrap ((lu : Int) + 1) = (lu : Int) + 1 := IntWalk.i64_in _ (by omega)); (have hlv0i : (0 : Int) < (lv : Int) := by omega); (have hcC := hid (hW16.out.blk gC.out)); (replace hd0 := hid hd0); (replace hzu0 := hid hzu0); (clear had hld hcd hlu hhd hul hu7 hzd0); (go_upto_region 10 with fail)
      go_cut [105] (fun c wx => IsB c (¬ (x.tail.drop 1 = UP ∧ (P < 0 → hdN x ≠ A))) ∧ Hd (Kept no w6 wx))
      case first =>
        (obtain ⟨c0, c1, c2⟩ := slotC hcC.out); (obtain ⟨d0, d1, d2, d3⟩ := slotN4 g6.out); (have hd0' := hd0.out)
        by_cases hlen2 : lv = lu + 1
        · subst hlen2
          by_cases heq : x.tail.drop 1 = UP
          · (rw [decide_eq_true heq] at HE); (replace HE := hid HE); (have heq' := hid heq); (clear heq)
            by_cases hP0 : P < 0
            · (have hP0d : decide (P < 0) = true := decide_eq_true hP0); (obtain ⟨HD, hHD⟩ : ∃ h, hdN x = h := ⟨_, rfl⟩); (rw [hHD] at hd0')
              by_cases hHA : HD = A
              · (have hHb : (HD == A) = true := by rw [beq_iff_eq]; exact hHA); (have hHd : decide (HD = A) = true := decide_eq_true hHA); (have hF : Hd (¬ (x.tail.drop 1 = UP ∧ (P < 0 → hdN x ≠ A))) := ⟨fun h => h.2 hP0 (hHD.trans hHA)⟩); (clear hHA hHD); (go_wp2_with fail); (go_quiet ((go_at_call 28; exact HE.out _))); (have kF := hid ((Kept.refl no w6).drewN nq)); (go_wp2)
                go_meet
                exact ⟨isB_yes hF.out, kF⟩
              · (have hHb : (HD == A) = false := by rw [beq_eq_false_iff_ne]; exact hHA); (have hHd : decide (HD = A) = false := decide_eq_false hHA); (have hF : Hd (x.tail.drop 1 = UP ∧ (P < 0 → hdN x ≠ A)) := ⟨⟨heq'.out, fun _ h => hHA (hHD ▸ h)⟩⟩); (clear hHD); (go_wp2_with fail); (go_quiet ((go_at_call 28; exact HE.out _))); (have kF := hid ((Kept.refl no w6).drewN nq)); (go_wp2)
                go_meet
                exact ⟨isB_no (fun h => h hF.out), kF⟩
            · (have hP0d : decide (P < 0) = false := decide_eq_false hP0); (have hF : Hd (x.tail.drop 1 = UP ∧ (P < 0 → hdN x ≠ A)) := ⟨⟨heq'.out, fun h => absurd h hP0⟩⟩); (go_wp2_with fail); (go_quiet ((go_at_call 28; exact HE.out _))); (have kF := hid ((Kept.refl no w6).drewN nq)); (go_wp2)
              go_meet
              exact ⟨isB_no (fun h => h hF.out), kF⟩
          · (rw [decide_eq_false heq] at HE); (replace HE := hid HE); (have hF : Hd (¬ (x.tail.drop 1 = UP ∧ (P < 0 → hdN x ≠ A))) := ⟨fun h => heq h.1⟩); (clear heq); (go_wp2_with fail); (go_quiet ((go_at_call 28; exact HE.out _))); (have kF := hid ((Kept.refl no w6).drewN nq)); (go_wp2)
            go_meet
            exact ⟨isB_yes hF.out, kF⟩
        · (have hle : ((lv : Int) == (lu : Int) + 1) = false := by rw [beq_eq_false_iff_ne]; omega); (have hled : decide ((lv : Int) = (lu : Int) + 1) = false := decide_eq_false (by omega)); (have hlei : ¬ (lv : Int) = (lu : Int) + 1 := by omega); (have hleb : ((lv : Int) != (lu : Int) + 1) = true := by rw [bne_iff_ne]; exact hlei); (have hleb : ((lv : Int) != (lu : Int) + 1) = true := by rw [bne_iff_ne]; exact hlei); (have hlen3 : decide (lv = lu + 1) = false := decide_eq_false hlen2); (have hlen4 : (lv == lu + 1) = false := by rw [beq_eq_false_iff_ne]; exact hlen2); (have hlen5 : (lv != lu + 1) = true := by rw [bne_iff_ne]; exact hlen2); (have hF : Hd (¬ (x.tail.drop 1 = UP ∧ (P < 0 → hdN x ≠ A))) := ⟨fun h => hlen2 (hll.out h.1)⟩); (clear HE); (go_wp2_with fail); (go_quiet (fail)); (have kF := hid ((Kept.refl no w6).drewN nq)); (go_wp2)
          go_meet
          exact ⟨isB_yes hF.out, kF⟩
      case rest =>
      (obtain ⟨⟨bb, rfl, hbb⟩, k67⟩ := hcut); (have hW7 := hid (hW6.out.trans' k67.out)); (have hW17 := hid (hW16.out.trans' k67.out)); (have g7 := hid (k67.out.blk g6.out)); (have hz7 := hid (RdZ.kept hz6.out k67.out)); (clear HE hcC g6 hz6 hW6 hW16 k67 hd0 hsl hlu1 hzu0)
      cases bb with
      | true =>
        have hn := hid (show ¬ CodeCov N A (nds q) from fun hc => by
          by_cases h : x.tail.drop 1 = upT (nds q) x
          · refine hbad2.out (fun h2 => hbb.1 rfl ⟨by rw [← hUP.out]; exact h, fun h0 => h2.1 (by rw [hP.out]; exact h0)⟩) hc
          · exact hbad.out (fun ho => h ho.cons) hc)
        (clear hbb); (go_wp2); (go_ret); (exact ⟨retNo hn.out, hW7.out⟩)
      | false =>
      (obtain ⟨hcons, hroot⟩ := Classical.not_not.1 (fun h => by have := hbb.2 h; cases this)); (have hOkk := hid (hOk.out hcons)); (replace hroot := hid hroot); (clear hbb hOk hcons); (obtain ⟨w7, rfl⟩ : ∃ w7 : World, w7 = wc := ⟨_, rfl⟩); (go_wp2)
      go_loopw [8] (fun i wr => ∃ r : Nat, r ≤ k ∧ i = .int .i64 (r : Int) ∧ Hd (∀ j, j < r → ¬ (((nds q).getD j default).par = x.par ∧ ((nds q).getD j default).tail = x.tail)) ∧ Hd (Kept no w7 wr)) (fun i _ => k - (intOf i).toNat)
      case atStart => exact ⟨0, by omega, rfl, ⟨fun j hj => by omega⟩, ⟨Kept.refl _ _⟩⟩
      case round =>
        obtain ⟨r, hr, rfl, hno, hK⟩ := hrel
        by_cases hrl : r < k
        · (have hr1 : (r : Int) < (k : Int) := by omega); (have hr0 : (0 : Int) ≤ (r : Int) := by omega); (have hr2 : (r : Int) < (len : Int) := by omega); (have hWr := hid (hW7.out.trans' hK.out)); (have hcC := hid ((hW17.out.trans' hK.out).blk gC.out)); (have g8 := hid (hK.out.blk g7.out)); (obtain ⟨b', o', y, ty, hbo, ey, e0, e1, _, _, hzy⟩ := (hq.out.kept hWr.out).at r (by rw [hlen.out]; omega))
          cases hbo
          (have hyk : Hd ((nds q).getD r default = y) := ⟨nds_at (by rw [hlen.out]; omega) ey⟩); (obtain ⟨ay, cy, rfl, _, _⟩ := Rd.shape2 hzy); (obtain ⟨ly, hly⟩ : ∃ l, y.tail.length = l := ⟨_, rfl⟩); (rw [hly] at e1 hzy); (obtain ⟨PY, hPY⟩ : ∃ l, y.par = l := ⟨_, rfl⟩); (rw [hPY] at e0); (have HE := Qt.quiet (w := wr) fun W (kw : Qt wr W) => eqz_any (.slice ay ly cy) (.slice (some ⟨bt, ot, none⟩) lv cv) y.tail x.tail W (RdZ.kept (show RdZ wr (.slice ay ly cy) y.tail from by rw [← hly] at hzy ⊢; exact hzy) kw.kept) (RdZ.kept (RdZ.kept hz7.out hK.out) kw.kept)); (clear ey hly hzy); (obtain ⟨w8, rfl⟩ : ∃ w8 : World, w8 = wr := ⟨_, rfl⟩); (go_upto_region 15 with fail)
          go_cut [130] (fun c wx => IsB c (PY = P ∧ y.tail = x.tail) ∧ Hd (Kept no w8 wx))
          case first =>
            (obtain ⟨c0, c1, c2⟩ := slotC hcC.out); (obtain ⟨d0, d1, d2, d3⟩ := slotN4 g8.out)
            by_cases hpp : PY = P
            · (have hpb : (PY == P) = true := by rw [beq_iff_eq]; exact hpp); (have hpd : decide (PY = P) = true := decide_eq_true hpp); (have hpp' := hid hpp); (clear hpp)
              by_cases htt : y.tail = x.tail
              · (rw [decide_eq_true htt] at HE); (replace HE := hid HE); (replace htt := hid htt); (go_wp2_with fail); (go_quiet ((go_at_call 28; exact HE.out _))); (have kF := hid ((Kept.refl no w8).drewN nq)); (go_wp2)
                go_meet
                exact ⟨isB_yes ⟨hpp'.out, htt.out⟩, kF⟩
              · (rw [decide_eq_false htt] at HE); (replace HE := hid HE); (go_wp2_with fail); (go_quiet ((go_at_call 28; exact HE.out _))); (have kF := hid ((Kept.refl no w8).drewN nq)); (go_wp2)
                go_meet
                exact ⟨isB_no (fun h => htt h.2), kF⟩
            · (have hpb : (PY == P) = false := by rw [beq_eq_false_iff_ne]; exact hpp); (have hpd : decide (PY = P) = false := decide_eq_false hpp); (clear HE); (go_wp2_with fail); (go_quiet (fail)); (have kF := hid ((Kept.refl no w8).drewN nq)); (go_wp2)
              go_meet
              exact ⟨isB_no (fun h => hpp h.1), kF⟩
          case rest =>
          (obtain ⟨⟨bb, rfl, hbb⟩, k89⟩ := hcut); (have hWF := hid (hWr.out.trans' k89.out)); (have hKF := hid (hK.out.trans' k89.out)); (clear HE hcC g8 e0 e1 k89)
          cases bb with
          | true =>
            (have hn := hid (show ¬ CodeCov N A (nds q) from fun hc => hbad2.out (fun h2 => h2.2 r hrl (by rw [hyk.out, hPY, hP.out]; exact hbb.1 rfl)) hc)); (clear hbb); (go_wp2); (go_ret); (exact ⟨retNo hn.out, hWF.out⟩)
          | false =>
            have hno2 : Hd (∀ j, j < r + 1 → ¬ (((nds q).getD j default).par = x.par ∧ ((nds q).getD j default).tail = x.tail)) := ⟨fun j hj => by
              by_cases hjr : j = r
              · (subst hjr); (rw [hyk.out, hPY, hP.out]); (exact fun h => by have := hbb.2 h; cases this)
              · exact hno.out j (by omega)⟩
            (clear hbb hno hPY); (go_wp2); (go_roundw)
            case rel => first | exact ⟨r + 1, by omega, by go_num, hno2, hKF⟩ | ((repeat apply Exists.intro); exact ⟨⟨r + 1, by omega, by go_num, hno2, hKF⟩, rfl⟩)
            case measure => simp [intOf]; omega
        · obtain rfl : r = k := by omega
          have hok2 : Hd (∀ j, j < r + 1 → OkC N (nds q) j ((nds q).getD j default) ∧ (((nds q).getD j default).par < 0 → hdN ((nds q).getD j default) ≠ A) ∧ ∀ i, i < j → ¬ (((nds q).getD i default).par = ((nds q).getD j default).par ∧ ((nds q).getD i default).tail = ((nds q).getD j default).tail)) := ⟨fun j hj => by
            by_cases hjr : j = r
            · (subst hjr); (rw [hxk.out]); (exact ⟨hOkk.out, fun h => hroot.out (by rw [← hP.out]; exact h), hno.out⟩)
            · exact hok.out j (by omega)⟩
          (have hWF := hid (hW17.out.trans' hK.out)); (clear hok hno hbad hbad2 hOkk hroot); (go_wp2); (go_roundw)
          case rel => first | exact ⟨r + 1, by omega, by go_num, hok2, hWF⟩ | ((repeat apply Exists.intro); exact ⟨⟨r + 1, by omega, by go_num, hok2, hWF⟩, rfl⟩)
          case measure => simp [intOf]; omega
    · (obtain rfl : k = len := by omega); (have hokC : Hd (∀ j, j < k → OkC N (nds q) j ((nds q).getD j default)) := ⟨fun j hj => (hok.out j hj).1⟩); (have hfst : Hd (∀ i, i < (nds q).length → OkC N (nds q) i ((nds q).getD i default) ∧ (((nds q).getD i default).par < 0 → hdN ((nds q).getD i default) ≠ A) ∧ ∀ r, r < i → ¬ (((nds q).getD r default).par = ((nds q).getD i default).par ∧ ((nds q).getD r default).tail = ((nds q).getD i default).tail)) := ⟨fun i hi => hok.out i (by rw [← hndl.out]; exact hi)⟩); (obtain ⟨w9, rfl⟩ : ∃ w9 : World, w9 = wr := ⟨_, rfl⟩); (clear hok); (go_wp2)
      go_loopw [9] (fun i wr => ∃ t : Nat, t ≤ k + 1 ∧ i = .int .i64 ((t : Int) - 1) ∧ Hd (∀ i' : Int, -1 ≤ i' → i' < (t : Int) - 1 → (0 ≤ i' → ((nds q).getD i'.toNat default).leaf = false) → cntP (nds q) i' = wantP N (nds q) i') ∧ Hd (Kept no w9 wr)) (fun i _ => k + 1 - (intOf i + 1).toNat)
      case atStart => exact ⟨0, by omega, by first | rfl | go_num, ⟨fun i' h1 h2 h3 => by omega⟩, ⟨Kept.refl _ _⟩⟩
      case round =>
        (clear c0 c1 c2); (obtain ⟨t, ht, rfl, hdone, hKt⟩ := hrel); (have hWk := hid (hW1.out.trans' hKt.out)); (obtain ⟨c0, c1, c2⟩ := slotC (hWk.out.blk gC.out))
        by_cases htl : t < k + 1
        · by_cases ht0 : t = 0
          · (subst ht0); (have hm1 : (((0 : Nat) : Int) - 1) = -1 := rfl); (rw [hm1] at hdone ⊢); (have hkm : (-1 : Int) < (k : Int) := by omega); (have hkmd : decide ((-1 : Int) < (k : Int)) = true := decide_eq_true hkm); (obtain ⟨WV, hWe⟩ : ∃ n, N - 1 = n := ⟨_, rfl⟩); (have hWi : (N : Int) - 1 = (WV : Int) := by omega); (have hwN : IntKind.i64.wrap ((N : Int) - 1) = (WV : Int) := by rw [hWi]; exact IntWalk.i64_in _ (by omega)); (clear hm1); (have hWV : Hd (wantP N (nds q) (-1 : Int) = WV) := ⟨(by unfold wantP; rw [if_pos (by omega)]; exact hWe)⟩); (have hlfI : Hd (0 ≤ (-1 : Int) → ((nds q).getD (-1 : Int).toNat default).leaf = false) := ⟨(fun h => by omega)⟩); (have hIlo : -1 ≤ (-1 : Int) ∧ (-1 : Int) < (k : Int) := by omega); (obtain ⟨wi, hwi⟩ : ∃ wi : World, wi = wr := ⟨_, rfl⟩); (subst hwi); (go_wp2)
            go_loopw [11, 12] (fun H ii wr => ∃ (r hv : Nat), r ≤ k ∧ ii = .int .i64 (r : Int) ∧ H = .int .i64 (hv : Int) ∧ hv ≤ 4000 ∧ Hd (cntP ((nds q).take r) (-1 : Int) = hv) ∧ Hd (Kept no wi wr)) (fun _ ii _ => k - (intOf ii).toNat)
            case atStart => exact ⟨0, 0, by omega, rfl, rfl, by omega, ⟨by rw [List.take_zero]; rfl⟩, ⟨Kept.refl _ _⟩⟩
            case round =>
              (obtain ⟨r, hv, hr, rfl, rfl, hv4, hcn, hKi⟩ := hrel); (obtain ⟨c0, c1, c2⟩ := slotC (((hWk.out.trans' hKi.out)).blk gC.out))
              by_cases hrl : r < k
              · (have hr1 : (r : Int) < (k : Int) := by omega); (have hr0 : (0 : Int) ≤ (r : Int) := by omega); (obtain ⟨b', o', y, ty, hbo, ey, e0, _, _, _, _⟩ := (hq.out.kept (k01.out.trans' (hWk.out.trans' hKi.out))).at r (by rw [hlen.out]; exact hrl))
                cases hbo
                (have hct := cntP_take (nds_take q (by rw [hlen.out]; exact hrl) ey) (-1 : Int)); (have hcl := cntP_le ((nds q).take (r + 1)) (-1 : Int)); (rw [List.length_take, hndl.out] at hcl); (rw [hcn.out] at hct); (obtain ⟨PY, hPY⟩ : ∃ l, y.par = l := ⟨_, rfl⟩); (rw [hPY] at e0 hct); (clear ey hPY); (have hwr : IntKind.i64.wrap ((hv : Int) + 1) = (hv : Int) + 1 := IntWalk.i64_in _ (by omega))
                by_cases hpp : PY = (-1 : Int)
                · (rw [if_pos hpp] at hct); (have hpb : (PY == (-1 : Int)) = true := by rw [beq_iff_eq]; exact hpp); (have hpd : decide (PY = (-1 : Int)) = true := decide_eq_true hpp); (have hcn2 : Hd (cntP ((nds q).take (r + 1)) (-1 : Int) = hv + 1) := ⟨hct⟩); (have hv5 : hv + 1 ≤ 4000 := by omega); (clear hpp hct hcl hcn); (go_wp2); (go_roundw)
                  case rel => first | exact ⟨r + 1, hv + 1, by omega, by go_num, by go_num, hv5, hcn2, hKi⟩ | ((repeat apply Exists.intro); exact ⟨⟨r + 1, hv + 1, by omega, by go_num, by go_num, hv5, hcn2, hKi⟩, rfl⟩)
                  case measure => first | (simp [intOf]; done) | (simp [intOf]; omega)
                · (rw [if_neg hpp] at hct); (have hpb : (PY == (-1 : Int)) = false := by rw [beq_eq_false_iff_ne]; exact hpp); (have hpd : decide (PY = (-1 : Int)) = false := decide_eq_false hpp); (have hcn2 : Hd (cntP ((nds q).take (r + 1)) (-1 : Int) = hv) := ⟨hct⟩); (clear hct hcl hcn); (go_wp2); (go_roundw)
                  case rel => first | exact ⟨r + 1, hv, by omega, by go_num, rfl, hv4, hcn2, hKi⟩ | ((repeat apply Exists.intro); exact ⟨⟨r + 1, hv, by omega, by go_num, rfl, hv4, hcn2, hKi⟩, rfl⟩)
                  case measure => first | (simp [intOf]; done) | (simp [intOf]; omega)
              · (obtain rfl : r = k := by omega); (rw [List.take_of_length_le (by rw [hndl.out]; exact Nat.le_refl _)] at hcn); (have hKF := hid (hKt.out.trans' hKi.out))
                by_cases he : hv = WV
                · have hmi : (hv : Int) = (WV : Int) := by omega
                  have hnx : Hd (∀ i' : Int, -1 ≤ i' → i' < (-1 : Int) + 1 → (0 ≤ i' → ((nds q).getD i'.toNat default).leaf = false) → cntP (nds q) i' = wantP N (nds q) i') := ⟨fun i' h1 h2 h3 => by
                    by_cases hii : i' = (-1 : Int)
                    · rw [hii, hcn.out, hWV.out, he]
                    · exact hdone.out i' h1 (by omega) h3⟩
                  (have hmb : ((hv : Int) != ((WV : Int))) = false := by rw [bne_eq_false_iff_eq]; omega); (have hmb2 : ((hv : Int) == ((WV : Int))) = true := by rw [beq_iff_eq]; omega); (subst he); (clear hdone hcn hWV); (go_wp2); (go_roundw)
                  case rel => first | exact ⟨1, by omega, by first | rfl | go_num, ⟨fun i' h1 h2 h3 => hnx.out i' h1 (by omega) h3⟩, hKF⟩ | ((repeat apply Exists.intro); exact ⟨⟨1, by omega, by first | rfl | go_num, ⟨fun i' h1 h2 h3 => hnx.out i' h1 (by omega) h3⟩, hKF⟩, rfl⟩)
                  case measure => first | (simp [intOf]; done) | (simp [intOf]; omega)
                · have hn := hid (show ¬ CodeCov N A (nds q) from fun hc => he (by
                    rw [← hcn.out, ← hWV.out]
                    exact (hci.out.2 hc).2 (-1 : Int) hIlo.1 (by rw [hndl.out]; exact hIlo.2) hlfI.out))
                  (have hmi : ¬ (hv : Int) = (WV : Int) := by omega); (have hmb : ((hv : Int) != ((WV : Int))) = true := by rw [bne_iff_ne]; exact hmi); (have hmb2 : ((hv : Int) == ((WV : Int))) = false := by rw [beq_eq_false_iff_ne]; exact hmi); (have kF := hid (k01.out.trans' (hW1.out.trans' hKF.out))); (clear hdone hcn hWV); (go_wp2); (go_ret); (exact ⟨retNo hn.out, kF.out⟩)
          · (obtain ⟨i, rfl⟩ : ∃ i, t = i + 1 := ⟨t - 1, by omega⟩); (have hqi : ((i + 1 : Nat) : Int) - 1 = (i : Int) := by omega); (rw [hqi] at hdone ⊢); (have hi1 : (i : Int) < (k : Int) := by omega); (have hi0 : (0 : Int) ≤ (i : Int) := by omega); (have hiN : (0 : Int) ≤ (i : Int) := hi0); (obtain ⟨b, o, x, tv, rfl, ex, _, a1, _, a3, hz⟩ := (hq.out.kept (k01.out.trans' hWk.out)).at i (by rw [hlen.out]; omega)); (have hxi : Hd ((nds q).getD i default = x) := ⟨nds_at (by rw [hlen.out]; omega) ex⟩); (obtain ⟨av, cv, rfl, _, _⟩ := Rd.shape2 hz)
            have hxl : Hd (x.tail.length ≤ N) := ⟨by
              (have h := isTail_iff.1 (hokC.out i (by omega)).tail); (rw [hxi.out] at h)
              exact nodup_len N x.tail h.2.1 h.2.2⟩
            (obtain ⟨lv, hlv⟩ : ∃ l, x.tail.length = l := ⟨_, rfl⟩); (rw [hlv] at a1 hxl); (obtain ⟨L, hL⟩ : ∃ l, x.leaf = l := ⟨_, rfl⟩); (rw [hL] at a3); (clear ex hz)
            cases L with
            | true =>
              have hnx : Hd (∀ i' : Int, -1 ≤ i' → i' < (i : Int) + 1 → (0 ≤ i' → ((nds q).getD i'.toNat default).leaf = false) → cntP (nds q) i' = wantP N (nds q) i') := ⟨fun i' h1 h2 h3 => by
                by_cases hii : i' = (i : Int)
                · (subst hii); (have := h3 hi0); (rw [Int.toNat_natCast, hxi.out, hL] at this; cases this)
                · exact hdone.out i' h1 (by omega) h3⟩
              (clear hdone hL hlv hqi); (go_wp2); (go_roundw)
              case rel => first | exact ⟨i + 2, by omega, by first | rfl | go_num, ⟨fun i' h1 h2 h3 => hnx.out i' h1 (by omega) h3⟩, hKt⟩ | ((repeat apply Exists.intro); exact ⟨⟨i + 2, by omega, by first | rfl | go_num, ⟨fun i' h1 h2 h3 => hnx.out i' h1 (by omega) h3⟩, hKt⟩, rfl⟩)
              case measure => first | (simp [intOf]; done) | (simp [intOf]; omega)
            | false =>
              (obtain ⟨WV, hWe⟩ : ∃ n, N - lv = n := ⟨_, rfl⟩); (have hWi : (N : Int) - (lv : Int) = (WV : Int) := by have := hxl.out; omega); (have hwN : IntKind.i64.wrap ((N : Int) - (lv : Int)) = (WV : Int) := by rw [hWi]; exact IntWalk.i64_in _ (by omega)); (have hw0 : IntKind.i64.wrap ((N : Int) - 1) = (N : Int) - 1 := IntWalk.i64_in _ (by omega)); (clear hqi); (have hWV : Hd (wantP N (nds q) (i : Int) = WV) := ⟨(by unfold wantP; rw [if_neg (by omega), Int.toNat_natCast, hxi.out, hlv]; exact hWe)⟩); (have hlfI : Hd (0 ≤ (i : Int) → ((nds q).getD (i : Int).toNat default).leaf = false) := ⟨(fun _ => by rw [Int.toNat_natCast, hxi.out, hL])⟩); (have hIlo : -1 ≤ (i : Int) ∧ (i : Int) < (k : Int) := by omega); (obtain ⟨wi, hwi⟩ : ∃ wi : World, wi = wr := ⟨_, rfl⟩); (subst hwi); (go_wp2)
              go_loopw [11, 12] (fun H ii wr => ∃ (r hv : Nat), r ≤ k ∧ ii = .int .i64 (r : Int) ∧ H = .int .i64 (hv : Int) ∧ hv ≤ 4000 ∧ Hd (cntP ((nds q).take r) (i : Int) = hv) ∧ Hd (Kept no wi wr)) (fun _ ii _ => k - (intOf ii).toNat)
              case atStart => exact ⟨0, 0, by omega, rfl, rfl, by omega, ⟨by rw [List.take_zero]; rfl⟩, ⟨Kept.refl _ _⟩⟩
              case round =>
                (obtain ⟨r, hv, hr, rfl, rfl, hv4, hcn, hKi⟩ := hrel); (obtain ⟨c0, c1, c2⟩ := slotC (((hWk.out.trans' hKi.out)).blk gC.out))
                by_cases hrl : r < k
                · (have hr1 : (r : Int) < (k : Int) := by omega); (have hr0 : (0 : Int) ≤ (r : Int) := by omega); (obtain ⟨b', o', y, ty, hbo, ey, e0, _, _, _, _⟩ := (hq.out.kept (k01.out.trans' (hWk.out.trans' hKi.out))).at r (by rw [hlen.out]; exact hrl))
                  cases hbo
                  (have hct := cntP_take (nds_take q (by rw [hlen.out]; exact hrl) ey) (i : Int)); (have hcl := cntP_le ((nds q).take (r + 1)) (i : Int)); (rw [List.length_take, hndl.out] at hcl); (rw [hcn.out] at hct); (obtain ⟨PY, hPY⟩ : ∃ l, y.par = l := ⟨_, rfl⟩); (rw [hPY] at e0 hct); (clear ey hPY); (have hwr : IntKind.i64.wrap ((hv : Int) + 1) = (hv : Int) + 1 := IntWalk.i64_in _ (by omega))
                  by_cases hpp : PY = (i : Int)
                  · (rw [if_pos hpp] at hct); (have hpb : (PY == (i : Int)) = true := by rw [beq_iff_eq]; exact hpp); (have hpd : decide (PY = (i : Int)) = true := decide_eq_true hpp); (have hcn2 : Hd (cntP ((nds q).take (r + 1)) (i : Int) = hv + 1) := ⟨hct⟩); (have hv5 : hv + 1 ≤ 4000 := by omega); (clear hpp hct hcl hcn); (go_wp2); (go_roundw)
                    case rel => first | exact ⟨r + 1, hv + 1, by omega, by go_num, by go_num, hv5, hcn2, hKi⟩ | ((repeat apply Exists.intro); exact ⟨⟨r + 1, hv + 1, by omega, by go_num, by go_num, hv5, hcn2, hKi⟩, rfl⟩)
                    case measure => first | (simp [intOf]; done) | (simp [intOf]; omega)
                  · (rw [if_neg hpp] at hct); (have hpb : (PY == (i : Int)) = false := by rw [beq_eq_false_iff_ne]; exact hpp); (have hpd : decide (PY = (i : Int)) = false := decide_eq_false hpp); (have hcn2 : Hd (cntP ((nds q).take (r + 1)) (i : Int) = hv) := ⟨hct⟩); (clear hct hcl hcn); (go_wp2); (go_roundw)
                    case rel => first | exact ⟨r + 1, hv, by omega, by go_num, rfl, hv4, hcn2, hKi⟩ | ((repeat apply Exists.intro); exact ⟨⟨r + 1, hv, by omega, by go_num, rfl, hv4, hcn2, hKi⟩, rfl⟩)
                    case measure => first | (simp [intOf]; done) | (simp [intOf]; omega)
                · (obtain rfl : r = k := by omega); (rw [List.take_of_length_le (by rw [hndl.out]; exact Nat.le_refl _)] at hcn); (have hKF := hid (hKt.out.trans' hKi.out))
                  by_cases he : hv = WV
                  · have hmi : (hv : Int) = (WV : Int) := by omega
                    have hnx : Hd (∀ i' : Int, -1 ≤ i' → i' < (i : Int) + 1 → (0 ≤ i' → ((nds q).getD i'.toNat default).leaf = false) → cntP (nds q) i' = wantP N (nds q) i') := ⟨fun i' h1 h2 h3 => by
                      by_cases hii : i' = (i : Int)
                      · rw [hii, hcn.out, hWV.out, he]
                      · exact hdone.out i' h1 (by omega) h3⟩
                    (have hmb : ((hv : Int) != ((WV : Int))) = false := by rw [bne_eq_false_iff_eq]; omega); (have hmb2 : ((hv : Int) == ((WV : Int))) = true := by rw [beq_iff_eq]; omega); (subst he); (clear hdone hcn hWV); (go_wp2); (go_roundw)
                    case rel => first | exact ⟨i + 2, by omega, by first | rfl | go_num, ⟨fun i' h1 h2 h3 => hnx.out i' h1 (by omega) h3⟩, hKF⟩ | ((repeat apply Exists.intro); exact ⟨⟨i + 2, by omega, by first | rfl | go_num, ⟨fun i' h1 h2 h3 => hnx.out i' h1 (by omega) h3⟩, hKF⟩, rfl⟩)
                    case measure => first | (simp [intOf]; done) | (simp [intOf]; omega)
                  · have hn := hid (show ¬ CodeCov N A (nds q) from fun hc => he (by
                      rw [← hcn.out, ← hWV.out]
                      exact (hci.out.2 hc).2 (i : Int) hIlo.1 (by rw [hndl.out]; exact hIlo.2) hlfI.out))
                    (have hmi : ¬ (hv : Int) = (WV : Int) := by omega); (have hmb : ((hv : Int) != ((WV : Int))) = true := by rw [bne_iff_ne]; exact hmi); (have hmb2 : ((hv : Int) == ((WV : Int))) = false := by rw [beq_eq_false_iff_ne]; exact hmi); (have kF := hid (k01.out.trans' (hW1.out.trans' hKF.out))); (clear hdone hcn hWV); (go_wp2); (go_ret); (exact ⟨retNo hn.out, kF.out⟩)
        · (obtain rfl : t = k + 1 := by omega); (have hcov : Hd (CodeCov N A (nds q)) := ⟨hci.out.1 ⟨hfst.out, fun i h1 h2 h3 => hdone.out i h1 (by rw [hndl.out] at h2; omega) h3⟩⟩); (have hke : ((k + 1 : Nat) : Int) - 1 = (k : Int) := by omega); (rw [hke]); (have kF := hid (k01.out.trans' hWk.out)); (clear hdone hfst hokC hke); (go_wp2); (go_ret); (exact ⟨retYes hcov.out, kF.out⟩)
end Go.Proofs.Ytkdmlakookgolaa
