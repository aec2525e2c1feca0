/- electionref31.Upper (printed by gen_rupper.py). -/
import Derived.Test.YtkdmlakookgolaaReachZ
namespace Go.Mg
open Go.Pil
def mnStep (b d : Int) : Int := if b < 0 ∨ d < b then d else b
/-- The least of some numbers; -1 of none. -/
def mn (l : List Int) : Int := l.foldl mnStep (-1)
theorem mn_snoc (l : List Int) (x : Int) : mn (l ++ [x]) = mnStep (mn l) x := by simp [mn, List.foldl_append]
open Classical in
/-- What it takes to pull level with each of the first k candidates with whom w can remain alone. -/
noncomputable def upL (n : Nat) (gs : List Grp) (w k : Nat) : List Int := ((List.range k).filter fun r => decide (r ≠ w ∧ Rc 2 n gs (2 ^ r + 2 ^ w))).map fun r : Nat => half (vt n gs [(r : Int), (w : Int)] (w : Int) - vt n gs [(r : Int), (w : Int)] (r : Int))
open Classical in
noncomputable def upV (n : Nat) (gs : List Grp) (w : Nat) : Int := if ∃ r, r < n ∧ r ≠ w ∧ Rc 2 n gs (2 ^ r) then 0 else mn (upL n gs w n)
noncomputable def upperB (n : Int) (gs : List Grp) (w : Int) : Int := if 2 ≤ n ∧ (n ≤ 7 ∧ isPile n gs = true) ∧ 0 ≤ w ∧ w < n then upV n.toNat gs w.toNat else -1
open Classical in
theorem upL_skip {n : Nat} {gs : List Grp} {w k : Nat} (h : ¬ (k ≠ w ∧ Rc 2 n gs (2 ^ k + 2 ^ w))) : upL n gs w (k + 1) = upL n gs w k := by
  (unfold upL); (rw [List.range_succ, List.filter_append]); (simp only [List.filter_cons, List.filter_nil, decide_eq_false h])
  simp
open Classical in
theorem upL_more {n : Nat} {gs : List Grp} {w k : Nat} (h : k ≠ w ∧ Rc 2 n gs (2 ^ k + 2 ^ w)) : upL n gs w (k + 1) = upL n gs w k ++ [half (vt n gs [(k : Int), (w : Int)] (w : Int) - vt n gs [(k : Int), (w : Int)] (k : Int))] := by
  (unfold upL); (rw [List.range_succ, List.filter_append]); (simp only [List.filter_cons, List.filter_nil, decide_eq_true h])
  simp
theorem two_pow_lt : ∀ n ≤ 7, ∀ r < n, ∀ w < n, r ≠ w → 2 ^ r + 2 ^ w < 2 ^ n := by decide +kernel
theorem one_pow_lt : ∀ n ≤ 7, ∀ r < n, 2 ^ r < 2 ^ n := by decide +kernel
end Go.Mg
namespace Go.Proofs.Ytkdmlakookgolaa
open Go.RowKit Go.Mk Go.Pil Go.Mg
set_option maxRecDepth 100000 in
set_option maxHeartbeats 4000000 in
theorem refupper_any (n : Int) (v : Value) (ps : List (Grp × Value)) (wn : Int) (w : World) (hr : RdG w v ps) :
    Calls Try.prog 37 #[.int .i64 n, v, .int .i64 wn] w fun e w' => e = .returned (.int .i64 (upperB n (grps ps) wn)) ∧ Kept no w w' := by
  obtain ⟨ag, cg, rfl, _, _⟩ := hr.shape
  by_cases hn2 : n < 2
  · (have hd2 : decide (n < 2) = true := decide_eq_true hn2); (have hres : Hd (upperB n (grps ps) wn = -1) := ⟨by unfold upperB; rw [if_neg (by omega)]⟩); (clear hr)
    go_enter Try.func37, Try.ntmps37
    (go_wp2); (go_ret); (exact ⟨by rw [hres.out]; rfl, Kept.refl _ _⟩)
  (have hd2 : decide (n < 2) = false := decide_eq_false hn2); (have HV := hid (refvalid_any n _ ps w hr))
  cases hv : (decide (1 ≤ n ∧ n ≤ 7) && isPile n (grps ps)) with
  | false =>
    have hres : Hd (upperB n (grps ps) wn = -1) := ⟨by
      (unfold upperB; rw [if_neg]); (rintro ⟨h1, ⟨h2, h3⟩, _⟩)
      rw [decide_eq_true ⟨by omega, h2⟩, h3] at hv; cases hv⟩
    (rw [hv] at HV); (clear hr hv)
    go_enter Try.func37, Try.ntmps37
    (go_wp2_with fail); (refine HV.out.mono ?_); (rintro e w1 ⟨rfl, q1⟩); (have k1 := hid q1.kept); (clear q1 HV); (go_wp2); (go_ret); (exact ⟨by rw [hres.out]; rfl, k1.out⟩)
  | true =>
    rw [hv] at HV
    have hv1 : (1 ≤ n ∧ n ≤ 7) ∧ isPile n (grps ps) = true := by
      rw [Bool.and_eq_true, decide_eq_true_iff] at hv; exact hv
    clear hv
    by_cases hw0 : wn < 0
    · (have hdw : decide (wn < 0) = true := decide_eq_true hw0); (have hres : Hd (upperB n (grps ps) wn = -1) := ⟨by unfold upperB; rw [if_neg (by omega)]⟩); (clear hr hv1)
      go_enter Try.func37, Try.ntmps37
      (go_wp2_with fail); (refine HV.out.mono ?_); (rintro e w1 ⟨rfl, q1⟩); (have k1 := hid q1.kept); (clear q1 HV); (go_wp2); (go_ret); (exact ⟨by rw [hres.out]; rfl, k1.out⟩)
    have hdw : decide (wn < 0) = false := decide_eq_false hw0
    by_cases hwn : n ≤ wn
    · (have hdn : decide (n ≤ wn) = true := decide_eq_true hwn); (have hres : Hd (upperB n (grps ps) wn = -1) := ⟨by unfold upperB; rw [if_neg (by omega)]⟩); (clear hr hv1)
      go_enter Try.func37, Try.ntmps37
      (go_wp2_with fail); (refine HV.out.mono ?_); (rintro e w1 ⟨rfl, q1⟩); (have k1 := hid q1.kept); (clear q1 HV); (go_wp2); (go_ret); (exact ⟨by rw [hres.out]; rfl, k1.out⟩)
    (have hdn : decide (n ≤ wn) = false := decide_eq_false hwn); (obtain ⟨N, rfl⟩ : ∃ N : Nat, n = (N : Int) := ⟨n.toNat, by omega⟩); (obtain ⟨V, rfl⟩ : ∃ V : Nat, wn = (V : Int) := ⟨wn.toNat, by omega⟩); (have hN2 : 2 ≤ N := by omega); (have hN7 : N ≤ 7 := by omega); (have hVN : V < N := by omega); (have hp7 : Hd (isPile 7 (grps ps) = true) := ⟨isPile_mono (by omega) hv1.2⟩)
    have hres : Hd (upperB (N : Int) (grps ps) (V : Int) = upV N (grps ps) V) := ⟨by
      unfold upperB; rw [if_pos ⟨by omega, ⟨by omega, hv1.2⟩, by omega, by omega⟩, Int.toNat_natCast, Int.toNat_natCast]⟩
    (have HR := hid (fun w h => reachable_any N (.slice ag ps.length cg) ps w (by omega) hN7 hp7.out h)); (replace hr := hid hr); (clear hv1)
    go_enter Try.func37, Try.ntmps37
    (go_wp2_with fail); (refine HV.out.mono ?_); (rintro e w1 ⟨rfl, q1⟩); (have k1 := hid q1.kept); (clear q1 HV); (go_wp2_with fail); (refine (HR.out _ (hr.out.kept k1.out)).mono ?_); (rintro e w2 ⟨vc, L, rfl, hL, hLl, hLR, k2⟩); (have hK2 := hid (k1.out.trans' k2)); (obtain ⟨aL, cL, rfl, _, _⟩ := Rd.shape2 hL); (obtain ⟨F, hF⟩ : ∃ F : Nat, (2 : Nat) ^ N = F := ⟨_, rfl⟩)
    have hLb : Hd (∀ t, t < F → ∃ b o, aL = some ⟨b, o, none⟩ ∧ ∀ W, Kept no w2 W → W.cell? ⟨b, o + t, none⟩ = some (.bool (L.getD t false))) := ⟨fun t ht => by
      obtain ⟨b, o, e, hc⟩ := hL.at t (by rw [hLl, hF]; exact ht)
      exact ⟨b, o, e, fun W k => k.cell hc id⟩⟩
    (have hF128 : F ≤ 128 := by rw [← hF]; exact pow7 hN7); (rw [hLl, hF]); (have hLR2 : Hd (∀ t, t < F → (L.getD t false = true ↔ Rc 2 N (grps ps) t)) := ⟨fun t ht => hLR t (by rw [hF]; exact ht)⟩); (have hpw : Hd (∀ r, r < N → ∃ P : Nat, (2 : Nat) ^ r = P ∧ P < F ∧ wrap64 ((2 : Int) ^ r) = (P : Int)) := ⟨fun r hr => ⟨2 ^ r, rfl, by rw [← hF]; exact one_pow_lt N hN7 r hr, shl_pow r (by omega)⟩⟩); (have hpw2 : Hd (∀ r, r < N → r ≠ V → (2 : Nat) ^ r + 2 ^ V < F) := ⟨fun r hr hne => by rw [← hF]; exact two_pow_lt N hN7 r hr V hVN hne⟩); (obtain ⟨PV, hPV, hPVF, hshV⟩ := hpw.out V hVN); (replace hPV := hid hPV); (replace hshV := hid hshV); (replace hF := hid hF); (obtain ⟨bL, oL, rfl, _⟩ := hLb.out 0 (by omega)); (clear hL hLl hLR k1 k2 HR hF); (go_wp2)
    go_loopw [8, 9] (fun B i wr => ∃ (r : Nat) (bb : Int), r ≤ N ∧ i = .int .i64 (r : Int) ∧ B = .int .i64 bb ∧ Hd (bb = mn (upL N (grps ps) V r)) ∧ Hd (∀ t, t < r → t ≠ V → ¬ Rc 2 N (grps ps) (2 ^ t)) ∧ Hd (Kept no w2 wr)) (fun _ i _ => N - (intOf i).toNat)
    case atStart => exact ⟨0, -1, by omega, rfl, rfl, ⟨by simp [upL, mn]⟩, ⟨fun t ht => by omega⟩, ⟨Kept.refl _ _⟩⟩
    case round =>
      obtain ⟨r, bb, hrN, rfl, rfl, hB, hno, hK⟩ := hrel
      by_cases hrl : r < N
      · (have hr1 : (r : Int) < (N : Int) := by omega); (have hr0 : (0 : Int) ≤ (r : Int) := by omega)
        by_cases hrV : r = V
        · (have hri : (r : Int) = (V : Int) := by omega); (have hB2 : Hd (bb = mn (upL N (grps ps) V (r + 1))) := ⟨by rw [upL_skip (fun h => h.1 hrV)]; exact hB.out⟩); (have hno2 : Hd (∀ t, t < r + 1 → t ≠ V → ¬ Rc 2 N (grps ps) (2 ^ t)) := ⟨fun t ht hne => hno.out t (by omega) hne⟩); (clear hB hno); (go_wp2); (go_roundw)
          case rel => first | exact ⟨r + 1, bb, by omega, by go_num, rfl, hB2, hno2, hK⟩ | ((repeat apply Exists.intro); exact ⟨⟨r + 1, bb, by omega, by go_num, rfl, hB2, hno2, hK⟩, rfl⟩)
          case measure => simp [intOf]; omega
        (have hri : ¬ (r : Int) = (V : Int) := by omega); (obtain ⟨P, hP, hPF, hshr⟩ := hpw.out r hrl); (replace hP := hid hP); (replace hshr := hid hshr); (have hPi : (P : Int) < (F : Int) := by omega); (have hP0 : (0 : Int) ≤ (P : Int) := by omega); (obtain ⟨b', o', e', hc1⟩ := hLb.out P hPF)
        cases e'
        (have hc1 := hc1 wr hK.out); (have hRP := hid (hLR2.out P hPF))
        cases hLP : L.getD P false with
        | true =>
          (rw [hLP] at hc1 hRP); (have h0 : Hd (upV N (grps ps) V = 0) := ⟨by unfold upV; rw [if_pos ⟨r, hrl, hrV, by rw [hP.out]; exact hRP.out.1 rfl⟩]⟩); (have hKr := hid (hK2.out.trans' hK.out)); (clear hRP hLP hB hno); (replace hshr := hshr.out); (go_wp2); (go_ret); (exact ⟨by rw [hres.out, h0.out]; rfl, hKr.out⟩)
        | false =>
          rw [hLP] at hc1 hRP
          have hno2 : Hd (∀ t, t < r + 1 → t ≠ V → ¬ Rc 2 N (grps ps) (2 ^ t)) := ⟨fun t ht hne => by
            by_cases htr : t = r
            · subst htr; rw [hP.out]; intro h; have := hRP.out.2 h; cases this
            · exact hno.out t (by omega) hne⟩
          (have hPP : P + PV < F := by have := hpw2.out r hrl hrV; rw [hP.out, hPV.out] at this; exact this); (have hadd : IntKind.i64.wrap ((P : Int) + (PV : Int)) = ((P + PV : Nat) : Int) := by rw [IntWalk.i64_in _ (by omega)]; omega); (obtain ⟨b', o', e', hc2⟩ := hLb.out (P + PV) hPP)
          cases e'
          (have hc2 := hc2 wr hK.out); (have hR2 := hid (hLR2.out (P + PV) hPP)); (have hPPe : Hd ((2 : Nat) ^ r + 2 ^ V = P + PV) := ⟨by rw [hP.out, hPV.out]⟩); (obtain ⟨Q, hQ⟩ : ∃ Q, P + PV = Q := ⟨_, rfl⟩); (rw [hQ] at hadd hc2 hR2 hPP hPPe); (have hQi : (Q : Int) < (F : Int) := by omega); (have hQ0 : (0 : Int) ≤ (Q : Int) := by omega); (clear hRP hLP hno hQ hP)
          cases hLQ : L.getD Q false with
          | false =>
            (rw [hLQ] at hc2 hR2); (have hB2 : Hd (bb = mn (upL N (grps ps) V (r + 1))) := ⟨by rw [upL_skip (fun h => by rw [hPPe.out] at h; have := hR2.out.2 h.2; cases this)]; exact hB.out⟩); (clear hR2 hLQ hB hPPe); (have hs1 := hshr.out); (have hs2 := hshV.out); (go_wp2); (clear hs1 hs2); (go_roundw)
            case rel => first | exact ⟨r + 1, bb, by omega, by go_num, rfl, hB2, hno2, hK⟩ | ((repeat apply Exists.intro); exact ⟨⟨r + 1, bb, by omega, by go_num, rfl, hB2, hno2, hK⟩, rfl⟩)
            case measure => simp [intOf]; omega
          | true =>
            (rw [hLQ] at hc2 hR2); (have hmore := hid (upL_more (n := N) (gs := grps ps) (w := V) (k := r) ⟨hrV, by rw [hPPe.out]; exact hR2.out.1 rfl⟩)); (have kb := hid (hK.out.alloc (.cells #[.int .i64 (r : Int), .int .i64 (V : Int)] 3))); (have hz2 : RdZ (wr.alloc (.cells #[.int .i64 (r : Int), .int .i64 (V : Int)] 3)) (.slice (some ⟨wr.heap.size, 0, none⟩) 2 2) [(r : Int), (V : Int)] := Rd.block (us := [.int .i64 (r : Int), .int .i64 (V : Int)]) (heap_alloc_new wr _) rfl (by decide))
            have HF := hid (refflags_any N _ [(r : Int), (V : Int)] _ hN7 (fun x hx => by
              rcases List.mem_cons.1 hx with rfl | hx
              · omega
              · rw [List.mem_singleton.1 hx]; omega) hz2)
            (clear hz2 hR2 hLQ hPPe); (have hsA := hshr.out); (have hsB := hshV.out); (go_wp2_with fail); (clear hsA hsB); (refine HF.out.mono ?_); (rintro e w3 ⟨vf, rfl, hf, k3⟩); (have hK3 := hid (kb.out.trans' k3)); (have HC := hid (reffirst_any _ vf ps _ w3 (hr.out.kept (hK2.out.trans' hK3.out)) hf)); (rw [first_firstV hp7.out hN7] at HC); (clear hf k3 HF kb); (go_wp2_with fail); (refine HC.out.mono ?_); (rintro e w4 ⟨vv, rfl, ov⟩); (have hK4 := hid (hK3.out.trans' ov.kept)); (obtain ⟨bV, oV, cV, rfl, hVc⟩ := votes_at ov (by omega)); (have hx1 := hid (hVc V hVN)); (have hx2 := hid (hVc r hrl)); (have hs1 := vt_small (n := N) hp7.out [(r : Int), (V : Int)] (V : Int)); (have hs2 := vt_small (n := N) hp7.out [(r : Int), (V : Int)] (r : Int)); (obtain ⟨x1, he1⟩ : ∃ x, vt N (grps ps) [(r : Int), (V : Int)] (V : Int) = x := ⟨_, rfl⟩); (obtain ⟨x2, he2⟩ : ∃ x, vt N (grps ps) [(r : Int), (V : Int)] (r : Int) = x := ⟨_, rfl⟩); (rw [he1] at hx1 hs1 hmore); (rw [he2] at hx2 hs2 hmore); (have hwr : IntKind.i64.wrap (x1 - x2) = x1 - x2 := IntWalk.i64_in _ (by omega)); (have HH := hid (fun w => refhalf_any (x1 - x2) w (by omega))); (obtain ⟨h, hh⟩ : ∃ h, half (x1 - x2) = h := ⟨_, rfl⟩); (rw [hh] at HH hmore); (have hst : Hd (mn (upL N (grps ps) V (r + 1)) = mnStep bb h) := ⟨by rw [hmore.out, mn_snoc, ← hB.out]⟩); (have hVi : (V : Int) < (N : Int) := by omega); (have hV0 : (0 : Int) ≤ (V : Int) := by omega); (clear ov hVc HC hK3 he1 he2 hh hmore hB hK); (go_upto_region 13 with fail); (refine region_flow (S := no) (Sl := (fun _ => no)) [Is (.slice (some ⟨bV, oV, none⟩) N cV), Is (.int .i64 (V : Int)), Is (.pointer (some ⟨bV, oV + V, none⟩)), Is (.int .i64 x1), Is (.slice (some ⟨bV, oV, none⟩) N cV), Is (.int .i64 (r : Int)), Is (.pointer (some ⟨bV, oV + r, none⟩)), Is (.int .i64 x2), Is (.int .i64 (x1 - x2)), Is (.int .i64 h), Is (.int .i64 h)] [] (fun _ _ h => h) _ (by kernel_rfl) (by kernel_rfl) (by kernel_rfl) (by kernel_rfl) (fun x => by simp only [puts, Act.put, List.map_cons, List.map_nil, Nat.zero_add, Nat.reduceAdd, List.setIfInBounds_toArray, List.set_cons_zero, List.set_cons_succ]; exact rfl) ?_ ?_)
            · (skip); (refine .cons (fun x wf Kk hq hdep hold => ?_) ?_)
              · (try dsimp only); (clear hq hdep hold); (rw [if_pos (by rfl)]); (refine OpY.val ?_ ⟨Kept.refl _ _, rfl⟩); (first | rfl | go_simp)
              refine .cons (fun x wf Kk hq hdep hold => ?_) ?_
              · (try dsimp only); (clear hq hdep hold); (rw [if_pos (by rfl)]); (refine OpY.val ?_ ⟨Kept.refl _ _, rfl⟩); (first | rfl | go_simp)
              refine .cons (fun x wf Kk hq hdep hold => ?_) ?_
              · (try dsimp only); (have h0 : x 0 = _ := hdep 0 (by kernel_rfl)); (have h1 : x 1 = _ := hdep 1 (by kernel_rfl)); (clear hq hdep hold); (simp only [h0, h1]); (clear h0 h1); (rw [if_pos (by rfl)]); (refine OpY.val ?_ ⟨Kept.refl _ _, rfl⟩); (first | rfl | go_simp)
              refine .cons (fun x wf Kk hq hdep hold => ?_) ?_
              · (try dsimp only); (have h2 : x 2 = _ := hdep 2 (by kernel_rfl)); (clear hq hdep hold); (simp only [h2]); (clear h2); (have c1 := Kk.undrew.cell hx1.out id); (rw [if_pos (by rfl)]); (refine OpY.val ?_ ⟨Kept.refl _ _, rfl⟩); (first | rfl | go_simp)
              refine .cons (fun x wf Kk hq hdep hold => ?_) ?_
              · (try dsimp only); (clear hq hdep hold); (rw [if_pos (by rfl)]); (refine OpY.val ?_ ⟨Kept.refl _ _, rfl⟩); (first | rfl | go_simp)
              refine .cons (fun x wf Kk hq hdep hold => ?_) ?_
              · (try dsimp only); (clear hq hdep hold); (rw [if_pos (by rfl)]); (refine OpY.val ?_ ⟨Kept.refl _ _, rfl⟩); (first | rfl | go_simp)
              refine .cons (fun x wf Kk hq hdep hold => ?_) ?_
              · (try dsimp only); (have h4 : x 4 = _ := hdep 4 (by kernel_rfl)); (have h5 : x 5 = _ := hdep 5 (by kernel_rfl)); (clear hq hdep hold); (simp only [h4, h5]); (clear h4 h5); (rw [if_pos (by rfl)]); (refine OpY.val ?_ ⟨Kept.refl _ _, rfl⟩); (first | rfl | go_simp)
              refine .cons (fun x wf Kk hq hdep hold => ?_) ?_
              · (try dsimp only); (have h6 : x 6 = _ := hdep 6 (by kernel_rfl)); (clear hq hdep hold); (simp only [h6]); (clear h6); (have c1 := Kk.undrew.cell hx2.out id); (rw [if_pos (by rfl)]); (refine OpY.val ?_ ⟨Kept.refl _ _, rfl⟩); (first | rfl | go_simp)
              refine .cons (fun x wf Kk hq hdep hold => ?_) ?_
              · (try dsimp only); (have h3 : x 3 = _ := hdep 3 (by kernel_rfl)); (have h7 : x 7 = _ := hdep 7 (by kernel_rfl)); (clear hq hdep hold); (simp only [h3, h7]); (clear h3 h7); (rw [if_pos (by rfl)]); (refine OpY.val ?_ ⟨Kept.refl _ _, rfl⟩); (first | rfl | go_simp)
              refine .cons (fun x wf Kk hq hdep hold => ?_) ?_
              · (try dsimp only); (have h8 : x 8 = _ := hdep 8 (by kernel_rfl)); (clear hq hdep hold); (simp only [h8]); (clear h8); (rw [if_pos (by rfl)]); (refine OpY.call (f := 75) (args := #[(.int .i64 (x1 - x2))]) (by go_simp) ?_); (refine (HH.out _).mono ?_); (rintro e w2 ⟨rfl, rfl⟩); (exact ⟨_, rfl, Kept.refl _ _, rfl⟩)
              refine .cons (fun x wf Kk hq hdep hold => ?_) ?_
              · (try dsimp only); (have h9 : x 9 = _ := hdep 9 (by kernel_rfl)); (clear hq hdep hold); (simp only [h9]); (clear h9); (rw [if_pos (by rfl)]); (refine OpY.val ?_ ⟨Kept.refl _ _, rfl⟩); (first | rfl | go_simp)
              exact .nil _
            · (intro x wf Kk hv); (try dsimp only); (have h10 : x 10 = _ := hv 10 (by kernel_rfl)); (clear hv); (simp only [h10]); (clear h10); (have hK5 := hid (hK4.out.trans' Kk.undrew)); (clear Kk hK4 hx1 hx2 HH hwr)
              by_cases hb0 : bb < 0
              · (have hbd : decide (bb < 0) = true := decide_eq_true hb0); (have hB2 : Hd (h = mn (upL N (grps ps) V (r + 1))) := ⟨by rw [hst.out]; unfold mnStep; rw [if_pos (.inl hb0)]⟩); (clear hst); (go_wp2); (go_roundw)
                case rel => first | exact ⟨r + 1, h, by omega, by go_num, rfl, hB2, hno2, hK5⟩ | ((repeat apply Exists.intro); exact ⟨⟨r + 1, h, by omega, by go_num, rfl, hB2, hno2, hK5⟩, rfl⟩)
                case measure => simp [intOf]; omega
              have hbd : decide (bb < 0) = false := decide_eq_false hb0
              by_cases hhb : h < bb
              · (have hhd : decide (h < bb) = true := decide_eq_true hhb); (have hB2 : Hd (h = mn (upL N (grps ps) V (r + 1))) := ⟨by rw [hst.out]; unfold mnStep; rw [if_pos (.inr hhb)]⟩); (clear hst); (go_wp2); (go_roundw)
                case rel => first | exact ⟨r + 1, h, by omega, by go_num, rfl, hB2, hno2, hK5⟩ | ((repeat apply Exists.intro); exact ⟨⟨r + 1, h, by omega, by go_num, rfl, hB2, hno2, hK5⟩, rfl⟩)
                case measure => simp [intOf]; omega
              · (have hhd : decide (h < bb) = false := decide_eq_false hhb); (have hB2 : Hd (bb = mn (upL N (grps ps) V (r + 1))) := ⟨by rw [hst.out]; unfold mnStep; rw [if_neg (by omega)]⟩); (clear hst); (go_wp2); (go_roundw)
                case rel => first | exact ⟨r + 1, bb, by omega, by go_num, rfl, hB2, hno2, hK5⟩ | ((repeat apply Exists.intro); exact ⟨⟨r + 1, bb, by omega, by go_num, rfl, hB2, hno2, hK5⟩, rfl⟩)
                case measure => simp [intOf]; omega
      · (obtain rfl : r = N := by omega); (have hr1 : ¬ (r : Int) < (r : Int) := by omega)
        have hfin : Hd (upV r (grps ps) V = bb) := ⟨by
          unfold upV
          rw [if_neg (fun ⟨t, h1, h2, h3⟩ => hno.out t h1 h2 h3), ← hB.out]⟩
        (have hKr := hid (hK2.out.trans' hK.out)); (clear hB hno hK hK2); (go_wp2); (go_ret); (exact ⟨by rw [hres.out, hfin.out]; rfl, hKr.out⟩)
end Go.Proofs.Ytkdmlakookgolaa
