/- The law MarginLower: its walk (printed by gen_mlower.py). -/
import Derived.Test.YtkdmlakookgolaaCovLZ
namespace Go.Mg
open Go.Pil
theorem pos_ne {n : Nat} {gs : List Grp} (h7 : n ≤ 7) (h2 : 2 ≤ n) : posC n gs n ≠ [] := fun e => by
  (obtain ⟨c, hc, hr⟩ := rc_single h7 (gs := gs) (2 ^ n - 1) (by have : 2 ^ 1 ≤ 2 ^ n := Nat.pow_le_pow_right (by decide) (by omega); omega) .full); (have : (c : Int) ∈ posC n gs n := mem_posC.2 ⟨c, hc, hr, rfl⟩); (rw [e] at this; cases this)
theorem posB_posC {n : Nat} {gs : List Grp} (h1 : 1 ≤ n) (h7 : n ≤ 7) (hp : isPile (n : Int) gs = true) : posB (n : Int) gs = posC n gs n := by unfold posB; rw [if_pos ⟨⟨by omega, by omega⟩, hp⟩, Int.toNat_natCast]
theorem other_of {n : Nat} {gs : List Grp} {w : Nat} (h7 : n ≤ 7) (hw : w < n) (h : posC n gs n ≠ [(w : Int)]) : ∃ r, r < n ∧ r ≠ w ∧ Rc 2 n gs (2 ^ r) := Classical.byContradiction fun hn => h ((pos_only h7 hw).2 hn)
theorem upV_zero {n : Nat} {gs : List Grp} {w : Nat} (h : ∃ r, r < n ∧ r ≠ w ∧ Rc 2 n gs (2 ^ r)) : upV n gs w = 0 := by unfold upV; rw [if_pos h]
end Go.Mg
namespace Go.Proofs.Ytkdmlakookgolaa
open Go.RowKit Go.Mk Go.Pil Go.Mg
set_option maxRecDepth 100000 in
set_option maxHeartbeats 4000000 in
theorem marginlower_any (n wn nd : Int) (vx vy : Value) (xs ys : List (List Int × Value)) (w : World) (hx : RdB w vx xs) (hy : RdB w vy ys) :
    Calls Try.prog 12 #[.int .i64 n, vx, vy, .int .i64 wn, .int .i64 nd] w fun e w' => e = .returned (.bool true) ∧ Kept no w w' := by
  (replace hx := hid hx); (replace hy := hid hy); (have HM := hid (fun w => mod_any n 4 w (by decide) (by decide))); (obtain ⟨hm0, hm1⟩ := modI_lt n 4 (by decide)); (obtain ⟨M, hM⟩ : ∃ M, modI n 4 = M := ⟨_, rfl⟩); (rw [hM] at HM hm0 hm1); (have hw1 : IntKind.i64.wrap (2 + M) = 2 + M := IntWalk.i64_in _ (by omega)); (obtain ⟨N, hN⟩ : ∃ N : Nat, 2 + M = (N : Int) := ⟨(2 + M).toNat, by omega⟩); (replace hw1 := hw1.trans hN); (have hN2 : 2 ≤ N := by omega); (have hN7 : N ≤ 7 := by omega); (clear hM); (have HC1 := cut_any vx xs 24 w (by decide) hx.out); (rw [show ((24 : Nat) : Int) = 24 from rfl] at HC1); (replace HC1 := hid HC1)
  go_enter Try.func12, Try.ntmps12
  (go_wp2_with fail); (with_reducible refine (HM.out _).mono ?_); (rintro e w2 ⟨rfl, rfl⟩); (clear HM hm0 hm1 hN); (go_wp2_with fail); (with_reducible refine HC1.out.mono ?_); (rintro e w3 ⟨v3, q3, rfl, hq3, o3⟩); (have HC2 := cut_any vy ys 24 w3 (by decide) (hy.out.kept o3.kept)); (rw [show ((24 : Nat) : Int) = 24 from rfl] at HC2); (replace HC2 := hid HC2); (have hl3 : q3.length ≤ 24 := by rw [← lists_length, hq3, List.length_map, List.length_take]; omega); (clear HC1 hq3); (go_wp2_with fail); (with_reducible refine HC2.out.mono ?_); (rintro e w4 ⟨v4, q4, rfl, hq4, o4⟩); (have hl4 : q4.length ≤ 24 := by rw [← lists_length, hq4, List.length_map, List.length_take]; omega); (have hrA := hid (o3.rd.kept o4.kept)); (have hrB := hid o4.rd); (have k4 := hid (o3.kept.trans' o4.kept)); (obtain ⟨a3, c3, rfl, _, _⟩ := Rd.shape2 o3.rd.2); (obtain ⟨a4, c4, rfl, _, _⟩ := Rd.shape2 o4.rd.2); (have hmn := minNat q3.length q4.length); (have htA : Hd (tot (genP (N : Int) (lists q3) (min q3.length q4.length)) = (min q3.length q4.length : Nat)) := ⟨by rw [genP_tot, lists_length]; congr 1; omega⟩); (have htB : Hd (tot (genP (N : Int) (lists q4) (min q3.length q4.length)) = (min q3.length q4.length : Nat)) := ⟨by rw [genP_tot, lists_length]; congr 1; omega⟩); (obtain ⟨K, hKe⟩ : ∃ K, min q3.length q4.length = K := ⟨_, rfl⟩); (rw [hKe] at hmn htA htB); (have hK24 : K ≤ 24 := by omega); (have HP1 := hid (genpile_any (N : Int) (.slice a3 q3.length c3) q3 K w4 (by omega) (by omega) (by omega) hrA.out)); (have hpA : Hd (isPile (N : Int) (genP (N : Int) (lists q3) K) = true) := ⟨genP_pile (by omega) _ _ (by omega)⟩); (have hpB : Hd (isPile (N : Int) (genP (N : Int) (lists q4) K) = true) := ⟨genP_pile (by omega) _ _ (by omega)⟩); (obtain ⟨hmn1, hmn2⟩ := hmn); (obtain ⟨l3, hl3e⟩ : ∃ l, q3.length = l := ⟨_, rfl⟩); (obtain ⟨l4, hl4e⟩ : ∃ l, q4.length = l := ⟨_, rfl⟩); (rw [hl3e] at hmn1 hmn2 hKe HP1 ⊢); (rw [hl4e] at hmn1 hmn2 hKe ⊢); (have hmn3 : (if l4 < l3 then (l4 : Int) else (l3 : Int)) = (K : Int) := by split <;> omega); (have hrB2 : Hd (RdB w4 (.slice a4 l4 c4) q4) := ⟨by have := hrB.out; rwa [hl4e] at this⟩); (clear HC2 hq4 o3 o4 hrA hrB hKe hl3e hl4e hl3 hl4); (go_wp2_with fail); (with_reducible refine HP1.out.mono ?_); (rintro e w5 ⟨vA, rfl, pA, hgA, rA, k5⟩); (have HP2 := hid (genpile_any (N : Int) (.slice a4 l4 c4) q4 K w5 (by omega) (by omega) (by omega) (hrB2.out.kept k5))); (rw [← hgA] at htA hpA); (have k45 := hid (k4.out.trans' k5)); (clear HP1 hgA); (go_wp2_with fail); (with_reducible refine HP2.out.mono ?_); (rintro e w6 ⟨vB, rfl, pB, hgB, rB, k6⟩); (rw [← hgB] at htB hpB); (have hrA := hid (rA.kept k6)); (have hrB := hid rB); (have k46 := hid (k45.out.trans' k6)); (have htt : Hd (tot (grps pA) = tot (grps pB)) := ⟨by rw [htA.out, htB.out]⟩); (have ha7 : Hd (isPile 7 (grps pA) = true) := ⟨isPile_mono (by omega) hpA.out⟩); (have hb7 : Hd (isPile 7 (grps pB) = true) := ⟨isPile_mono (by omega) hpB.out⟩)
  have hdist : Hd (dist (grps pA) (grps pB) = tot (grps pA) - com (grps pA) (grps pB)) := ⟨by
    (have h1 : total (grps pA) = tot (grps pA) := by unfold total; rw [if_pos ha7.out]); (have h2 : total (grps pB) = tot (grps pB) := by unfold total; rw [if_pos hb7.out]); (unfold dist)
    rw [if_pos ⟨ha7.out, hb7.out, by rw [h1, h2, htt.out]⟩, h1]⟩
  (clear HP2 hgB rA rB k5 k6 k4 k45 hrB2 hmn1 hmn2 hmn3); (have HM2 := hid (fun w => mod_any wn (N : Int) w (by omega) (by omega))); (obtain ⟨hv0, hv1⟩ := modI_lt wn (N : Int) (by omega)); (obtain ⟨V, hV⟩ : ∃ V : Nat, modI wn (N : Int) = (V : Int) := ⟨(modI wn (N : Int)).toNat, by omega⟩); (rw [hV] at HM2 hv0 hv1); (have hVN : V < N := by omega); (have HM3 := hid (fun w => mod_any nd 300 w (by decide) (by decide))); (obtain ⟨hq0, hq1⟩ := modI_lt nd 300 (by decide)); (obtain ⟨D2, hD2⟩ : ∃ M, modI nd 300 = M := ⟨_, rfl⟩); (rw [hD2] at HM3 hq0 hq1); (have hw2 : IntKind.i64.wrap (1 + D2) = 1 + D2 := IntWalk.i64_in _ (by omega)); (clear hV hD2); (go_wp2_with fail); (with_reducible refine (HM2.out _).mono ?_); (rintro e w7 ⟨rfl, rfl⟩); (go_wp2_with fail); (with_reducible refine (HM3.out _).mono ?_); (rintro e w8 ⟨rfl, rfl⟩); (have HS := hid (msearch_any (N : Int) vA pA (V : Int) (1 + D2) w8 hrA.out)); (clear HM2 HM3); (go_wp2_with fail); (with_reducible refine HS.out.mono ?_); (rintro e w9 ⟨win, mar, err, vn, q, rfl, hs, hq, k9⟩); (obtain ⟨rfl, rfl, -⟩ := srch_ok hpA.out hVN hN2 hN7 ⟨by omega, by omega⟩ hs); (obtain ⟨hmar0, hmarU⟩ := srch_nonneg hpA.out hVN hN2 hN7 ⟨by omega, by omega⟩ hs)
  have hlow : Hd (posC N (grps pB) N ≠ [(V : Int)] → mar ≤ dist (grps pA) (grps pB)) := ⟨fun h => by
    (obtain ⟨r, h1, h2, h3⟩ := other_of hN7 hVN h); (rw [hdist.out])
    exact srch_lower hpA.out hpB.out hVN hN2 hN7 ⟨by omega, by omega⟩ hs htt.out h1 h2 h3⟩
  have hone : Hd (mar ≠ 0 → posC N (grps pA) N = [(V : Int)]) := ⟨fun h => Classical.byContradiction fun hc => by
    have := upV_zero (other_of hN7 hVN hc)
    omega⟩
  (obtain ⟨an, ln, cn, rfl⟩ : ∃ a l c, vn = .slice a l c := by obtain ⟨a, c, e⟩ := Rd.shapeZ hq.2; exact ⟨a, _, c, e⟩); (have hmd : decide (mar < 0) = false := decide_eq_false (by omega)); (have hml : ¬ mar < 0 := by omega); (clear hs hq HS hmarU); (go_upto_region 7 with fail); (obtain ⟨w10, hw10, g10, k10⟩ := alloc_named w9 (.cells #[.int .i64 (V : Int), .int .i64 mar, .slice an ln cn] 25)); (rw [← hw10]); (have k910 := hid (k9.trans' k10)); (have hrB10 := hid (hrB.out.kept k910.out)); (have HPo := hid (possible_any (N : Int) vB pB w10 hrB10.out)); (replace g10 := hid g10); (generalize w9.heap.size = G1 at g10); (obtain ⟨c0, c1, c2⟩ := slot3 g10.out); (clear hw10 k9 k10); (go_wp2_with fail); (with_reducible refine HPo.out.mono ?_); (rintro e w11 ⟨vp, rfl, op⟩); (rw [posB_posC (by omega) hN7 hpB.out] at op); (have hne := List.length_pos_iff.2 (pos_ne (gs := grps pB) hN7 hN2)); (obtain ⟨ap, cp, rfl, _, _⟩ := Rd.shape2 op.rd); (have k11 := hid (k910.out.trans' op.kept)); (have kk11 := hid (k46.out.trans' k11.out)); (have hrA11 := hid (hrA.out.kept k11.out)); (have hrB11 := hid (hrB.out.kept k11.out)); (have c1h := hid (op.kept.cell c1 id)); (have hpd := hid op.rd); (obtain ⟨lp, hlp⟩ : ∃ l, (posC N (grps pB) N).length = l := ⟨_, rfl⟩); (rw [hlp] at hne hpd ⊢); (have hlpi : ¬ (lp : Int) = 0 := by omega); (have hlpd : decide ((lp : Int) = 0) = false := decide_eq_false hlpi); (have hlpb : ((lp : Int) == 0) = false := by rw [beq_eq_false_iff_ne]; omega); (have HAw := hid (fun W => awake31_any W)); (have HEq := hid (fun (W : World) (k : Kept no w11 W) (v : Value) (hz : RdZ W v [(V : Int)]) => eqz_any (.slice ap lp cp) v (posC N (grps pB) N) [(V : Int)] W (RdZ.kept (show RdZ w11 (.slice ap lp cp) (posC N (grps pB) N) from hpd.out) k) hz)); (have HDi := hid (fun (W : World) (k : Kept no w11 W) => distance_any vA vB pA pB W (hrA11.out.kept k) (hrB11.out.kept k))); (have HPa := hid (fun (W : World) (k : Kept no w11 W) => possible_any (N : Int) vA pA W (hrA11.out.kept k))); (rw [posB_posC (by omega) hN7 hpA.out] at HPa); (have HEq2 := hid (fun (W : World) (v u : Value) (hu : RdZ W u (posC N (grps pA) N)) (hz : RdZ W v [(V : Int)]) => eqz_any u v (posC N (grps pA) N) [(V : Int)] W hu hz)); (obtain ⟨DD, hDD⟩ : ∃ d, dist (grps pA) (grps pB) = d := ⟨_, rfl⟩); (rw [hDD] at HDi hlow); (clear HPo op hlp hdist htA htB htt hpA hpB ha7 hb7 hrA11 hrB11 hrA hrB hrB10 k910 k11 c0 c1 c2 g10 hDD hpd hne k46)
  by_cases hB : posC N (grps pB) N = [(V : Int)]
  · (rw [decide_eq_true hB] at HEq); (clear hlow hB)
    by_cases hz : mar = 0
    · (clear hone HEq2); (go_upto_region 12 with fail); (refine region_flow (S := no) (Sl := (fun _ => no)) [Is (.bool true), Is (.bool true), Is (.slice ap lp cp), Is (.int .i64 (V : Int)), RdIs 1 1 [.int .i64 (V : Int)], Is (.bool true), Is (.bool true), Is undef, Is undef, Is undef, Is undef, Is undef, Is undef, Is (.bool true), Is (.bool true), Is (.bool true), Is (.pointer (some ⟨G1, 1, none⟩)), Is (.int .i64 mar), Is (.bool true), Is (.bool true), Is undef, Is undef, Is undef, Is undef, Is undef, Is undef, Is (.bool true), Is (.bool true), Is (.bool true)] [] (fun _ _ h => h) _ (by kernel_rfl) (by kernel_rfl) (by kernel_rfl) (by kernel_rfl) (fun x => by simp only [puts, Act.put, List.map_cons, List.map_nil, Nat.zero_add, Nat.reduceAdd, List.setIfInBounds_toArray, List.set_cons_zero, List.set_cons_succ]; exact rfl) ?_ ?_)
      · (skip); (refine .cons (fun x wf Kk hq hdep hold => ?_) ?_)
        · (try dsimp only); (clear hq hdep hold); (rw [if_pos (by rfl)]); (refine OpY.call (f := 32) (args := #[]) (by go_simp) ?_); (refine (HAw.out wf).mono ?_); (rintro e w2 ⟨rfl, k2⟩); (exact ⟨_, rfl, k2, rfl⟩)
        refine .cons (fun x wf Kk hq hdep hold => ?_) ?_
        · (try dsimp only); (have h0 : x 0 = _ := hdep 0 (by kernel_rfl)); (clear hq hdep hold); (simp only [h0]); (clear h0); (rw [if_pos (by rfl)]); (refine OpY.val ?_ ⟨Kept.refl _ _, rfl⟩); (first | rfl | go_simp)
        refine .cons (fun x wf Kk hq hdep hold => ?_) ?_
        · (try dsimp only); (have h1 : x 1 = _ := hdep 1 (by kernel_rfl)); (clear hq hdep hold); (simp only [h1]); (clear h1); (rw [if_pos (by rfl)]); (refine OpY.val ?_ ⟨Kept.refl _ _, rfl⟩); (first | rfl | go_simp)
        refine .cons (fun x wf Kk hq hdep hold => ?_) ?_
        · (try dsimp only); (have h1 : x 1 = _ := hdep 1 (by kernel_rfl)); (clear hq hdep hold); (simp only [h1]); (clear h1); (rw [if_pos (by rfl)]); (refine OpY.val ?_ ⟨Kept.refl _ _, rfl⟩); (first | rfl | go_simp)
        refine .cons (fun x wf Kk hq hdep hold => ?_) ?_
        · (try dsimp only); (have h3 : x 3 = _ := hdep 3 (by kernel_rfl)); (have h1 : x 1 = _ := hdep 1 (by kernel_rfl)); (clear hq hdep hold); (simp only [h3, h1]); (clear h3 h1); (rw [if_pos (by rfl)]); (refine OpY.build 40 3 1 _ rfl 1 (.int .i64 0) Try.underlying40 infI (by decide) (by decide) [.int .i64 (V : Int)] [(0, .int .i64 (V : Int))] rfl (fill_rows 1 (by decide) (.int .i64 0) [.int .i64 (V : Int)] (fun v hv => by obtain rfl := List.mem_singleton.1 hv; rfl)) rfl (by decide) ?_); (intro w' hg k ho); (exact ⟨k, Rd.of_own ho⟩)
        refine .cons (fun x wf Kk hq hdep hold => ?_) ?_
        · (try dsimp only); (have h2 : x 2 = _ := hdep 2 (by kernel_rfl)); (have p4 : Pr.p (Sl := (fun _ => no)) (RdIs 1 1 [.int .i64 (V : Int)]) (x 4) wf := hdep 4 (by kernel_rfl)); (have h1 : x 1 = _ := hdep 1 (by kernel_rfl)); (clear hq hdep hold); (simp only [h2, h1]); (clear h2 h1); (rw [if_pos (by rfl)]); (refine OpY.call (f := 28) (args := #[(.slice ap lp cp), x 4]) (by go_simp) ?_); (refine (HEq.out wf Kk.undrew _ p4).mono ?_); (rintro e w2 ⟨rfl, q2⟩); (exact ⟨_, rfl, q2.kept, rfl⟩)
        refine .cons (fun x wf Kk hq hdep hold => ?_) ?_
        · (try dsimp only); (have h5 : x 5 = _ := hdep 5 (by kernel_rfl)); (have h1 : x 1 = _ := hdep 1 (by kernel_rfl)); (clear hq hdep hold); (simp only [h5, h1]); (clear h5 h1); (rw [if_pos (by rfl)]); (refine OpY.val ?_ ⟨Kept.refl _ _, rfl⟩); (first | rfl | go_simp)
        refine .cons (fun x wf Kk hq hdep hold => ?_) ?_
        · (try dsimp only); (have h6 : x 6 = _ := hdep 6 (by kernel_rfl)); (clear hq hdep hold); (simp only [h6]); (clear h6); (exact stepOff rfl rfl)
        refine .cons (fun x wf Kk hq hdep hold => ?_) ?_
        · (try dsimp only); (have h6 : x 6 = _ := hdep 6 (by kernel_rfl)); (clear hq hdep hold); (simp only [h6]); (clear h6); (exact stepOff rfl rfl)
        refine .cons (fun x wf Kk hq hdep hold => ?_) ?_
        · (try dsimp only); (have h6 : x 6 = _ := hdep 6 (by kernel_rfl)); (clear hq hdep hold); (simp only [h6]); (clear h6); (exact stepOff rfl rfl)
        refine .cons (fun x wf Kk hq hdep hold => ?_) ?_
        · (try dsimp only); (have h6 : x 6 = _ := hdep 6 (by kernel_rfl)); (clear hq hdep hold); (simp only [h6]); (clear h6); (exact stepOff rfl rfl)
        refine .cons (fun x wf Kk hq hdep hold => ?_) ?_
        · (try dsimp only); (have h6 : x 6 = _ := hdep 6 (by kernel_rfl)); (clear hq hdep hold); (simp only [h6]); (clear h6); (exact stepOff rfl rfl)
        refine .cons (fun x wf Kk hq hdep hold => ?_) ?_
        · (try dsimp only); (have h6 : x 6 = _ := hdep 6 (by kernel_rfl)); (clear hq hdep hold); (simp only [h6]); (clear h6); (exact stepOff rfl rfl)
        refine .cons (fun x wf Kk hq hdep hold => ?_) ?_
        · (try dsimp only); (have h6 : x 6 = _ := hdep 6 (by kernel_rfl)); (have h12 : x 12 = _ := hdep 12 (by kernel_rfl)); (have h1 : x 1 = _ := hdep 1 (by kernel_rfl)); (clear hq hdep hold); (simp only [h6, h12, h1]); (clear h6 h12 h1); (rw [if_pos (by rfl)]); (refine OpY.val ?_ ⟨Kept.refl _ _, rfl⟩); (first | rfl | go_simp)
        refine .cons (fun x wf Kk hq hdep hold => ?_) ?_
        · (try dsimp only); (have h1 : x 1 = _ := hdep 1 (by kernel_rfl)); (have h13 : x 13 = _ := hdep 13 (by kernel_rfl)); (clear hq hdep hold); (simp only [h1, h13]); (clear h1 h13); (rw [if_pos (by rfl)]); (refine OpY.val ?_ ⟨Kept.refl _ _, rfl⟩); (first | rfl | go_simp)
        refine .cons (fun x wf Kk hq hdep hold => ?_) ?_
        · (try dsimp only); (have h14 : x 14 = _ := hdep 14 (by kernel_rfl)); (clear hq hdep hold); (simp only [h14]); (clear h14); (rw [if_pos (by rfl)]); (refine OpY.val ?_ ⟨Kept.refl _ _, rfl⟩); (first | rfl | go_simp)
        refine .cons (fun x wf Kk hq hdep hold => ?_) ?_
        · (try dsimp only); (have h15 : x 15 = _ := hdep 15 (by kernel_rfl)); (clear hq hdep hold); (simp only [h15]); (clear h15); (rw [if_pos (by rfl)]); (refine OpY.val ?_ ⟨Kept.refl _ _, rfl⟩); (first | rfl | go_simp)
        refine .cons (fun x wf Kk hq hdep hold => ?_) ?_
        · (try dsimp only); (have h16 : x 16 = _ := hdep 16 (by kernel_rfl)); (have h15 : x 15 = _ := hdep 15 (by kernel_rfl)); (clear hq hdep hold); (simp only [h16, h15]); (clear h16 h15); (have m1 := Kk.undrew.cell c1h.out id); (rw [if_pos (by rfl)]); (refine OpY.val ?_ ⟨Kept.refl _ _, rfl⟩); (first | rfl | go_simp)
        refine .cons (fun x wf Kk hq hdep hold => ?_) ?_
        · (try dsimp only); (have h17 : x 17 = _ := hdep 17 (by kernel_rfl)); (have h15 : x 15 = _ := hdep 15 (by kernel_rfl)); (clear hq hdep hold); (simp only [h17, h15]); (clear h17 h15); (rw [if_pos (by rfl)]); (refine OpY.val ?_ ⟨Kept.refl _ _, rfl⟩); (first | rfl | go_simp)
        refine .cons (fun x wf Kk hq hdep hold => ?_) ?_
        · (try dsimp only); (have h18 : x 18 = _ := hdep 18 (by kernel_rfl)); (have h15 : x 15 = _ := hdep 15 (by kernel_rfl)); (clear hq hdep hold); (simp only [h18, h15]); (clear h18 h15); (rw [if_pos (by rfl)]); (refine OpY.val ?_ ⟨Kept.refl _ _, rfl⟩); (first | rfl | go_simp)
        refine .cons (fun x wf Kk hq hdep hold => ?_) ?_
        · (try dsimp only); (have h19 : x 19 = _ := hdep 19 (by kernel_rfl)); (clear hq hdep hold); (simp only [h19]); (clear h19); (exact stepOff rfl rfl)
        refine .cons (fun x wf Kk hq hdep hold => ?_) ?_
        · (try dsimp only); (have h19 : x 19 = _ := hdep 19 (by kernel_rfl)); (clear hq hdep hold); (simp only [h19]); (clear h19); (exact stepOff rfl rfl)
        refine .cons (fun x wf Kk hq hdep hold => ?_) ?_
        · (try dsimp only); (have h19 : x 19 = _ := hdep 19 (by kernel_rfl)); (clear hq hdep hold); (simp only [h19]); (clear h19); (exact stepOff rfl rfl)
        refine .cons (fun x wf Kk hq hdep hold => ?_) ?_
        · (try dsimp only); (have h19 : x 19 = _ := hdep 19 (by kernel_rfl)); (clear hq hdep hold); (simp only [h19]); (clear h19); (exact stepOff rfl rfl)
        refine .cons (fun x wf Kk hq hdep hold => ?_) ?_
        · (try dsimp only); (have h19 : x 19 = _ := hdep 19 (by kernel_rfl)); (clear hq hdep hold); (simp only [h19]); (clear h19); (exact stepOff rfl rfl)
        refine .cons (fun x wf Kk hq hdep hold => ?_) ?_
        · (try dsimp only); (have h19 : x 19 = _ := hdep 19 (by kernel_rfl)); (clear hq hdep hold); (simp only [h19]); (clear h19); (exact stepOff rfl rfl)
        refine .cons (fun x wf Kk hq hdep hold => ?_) ?_
        · (try dsimp only); (have h19 : x 19 = _ := hdep 19 (by kernel_rfl)); (have h25 : x 25 = _ := hdep 25 (by kernel_rfl)); (have h15 : x 15 = _ := hdep 15 (by kernel_rfl)); (clear hq hdep hold); (simp only [h19, h25, h15]); (clear h19 h25 h15); (rw [if_pos (by rfl)]); (refine OpY.val ?_ ⟨Kept.refl _ _, rfl⟩); (first | rfl | go_simp)
        refine .cons (fun x wf Kk hq hdep hold => ?_) ?_
        · (try dsimp only); (have h15 : x 15 = _ := hdep 15 (by kernel_rfl)); (have h26 : x 26 = _ := hdep 26 (by kernel_rfl)); (clear hq hdep hold); (simp only [h15, h26]); (clear h15 h26); (rw [if_pos (by rfl)]); (refine OpY.val ?_ ⟨Kept.refl _ _, rfl⟩); (first | rfl | go_simp)
        refine .cons (fun x wf Kk hq hdep hold => ?_) ?_
        · (try dsimp only); (have h27 : x 27 = _ := hdep 27 (by kernel_rfl)); (clear hq hdep hold); (simp only [h27]); (clear h27); (rw [if_pos (by rfl)]); (refine OpY.val ?_ ⟨Kept.refl _ _, rfl⟩); (first | rfl | go_simp)
        exact .nil _
      · (intro x wf Kk hv); (try dsimp only); (have h28 : x 28 = _ := hv 28 (by kernel_rfl)); (clear hv); (simp only [h28]); (clear h28); (have kF := hid (kk11.out.trans' Kk.undrew)); (clear Kk HAw HEq HDi HPa c1h); (go_wp2); (go_ret); (exact ⟨rfl, kF.out⟩)
    · (have hA := hone.out hz); (rw [hA] at HPa); (have HEq3 := hid (fun (W : World) (v u : Value) (hu : RdZ W u [(V : Int)]) (hz : RdZ W v [(V : Int)]) => by have := HEq2.out W v u (by rw [hA]; exact hu) hz; rw [hA, decide_eq_true rfl] at this; exact this)); (clear hone HEq2 hA); (go_upto_region 12 with fail); (refine region_flow (S := no) (Sl := (fun _ => no)) [Is (.bool true), Is (.bool true), Is (.slice ap lp cp), Is (.int .i64 (V : Int)), RdIs 1 1 [.int .i64 (V : Int)], Is (.bool true), Is (.bool true), Is undef, Is undef, Is undef, Is undef, Is undef, Is undef, Is (.bool true), Is (.bool true), Is (.bool true), Is (.pointer (some ⟨G1, 1, none⟩)), Is (.int .i64 mar), Is (.bool false), Is (.bool false), Is (.int .i64 (N : Int)), Is (vA), RdIs 1 1 [.int .i64 (V : Int)], Is (.int .i64 (V : Int)), RdIs 1 1 [.int .i64 (V : Int)], Is (.bool true), Is (.bool true), Is (.bool true), Is (.bool true)] [] (fun _ _ h => h) _ (by kernel_rfl) (by kernel_rfl) (by kernel_rfl) (by kernel_rfl) (fun x => by simp only [puts, Act.put, List.map_cons, List.map_nil, Nat.zero_add, Nat.reduceAdd, List.setIfInBounds_toArray, List.set_cons_zero, List.set_cons_succ]; exact rfl) ?_ ?_)
      · (skip); (refine .cons (fun x wf Kk hq hdep hold => ?_) ?_)
        · (try dsimp only); (clear hq hdep hold); (rw [if_pos (by rfl)]); (refine OpY.call (f := 32) (args := #[]) (by go_simp) ?_); (refine (HAw.out wf).mono ?_); (rintro e w2 ⟨rfl, k2⟩); (exact ⟨_, rfl, k2, rfl⟩)
        refine .cons (fun x wf Kk hq hdep hold => ?_) ?_
        · (try dsimp only); (have h0 : x 0 = _ := hdep 0 (by kernel_rfl)); (clear hq hdep hold); (simp only [h0]); (clear h0); (rw [if_pos (by rfl)]); (refine OpY.val ?_ ⟨Kept.refl _ _, rfl⟩); (first | rfl | go_simp)
        refine .cons (fun x wf Kk hq hdep hold => ?_) ?_
        · (try dsimp only); (have h1 : x 1 = _ := hdep 1 (by kernel_rfl)); (clear hq hdep hold); (simp only [h1]); (clear h1); (rw [if_pos (by rfl)]); (refine OpY.val ?_ ⟨Kept.refl _ _, rfl⟩); (first | rfl | go_simp)
        refine .cons (fun x wf Kk hq hdep hold => ?_) ?_
        · (try dsimp only); (have h1 : x 1 = _ := hdep 1 (by kernel_rfl)); (clear hq hdep hold); (simp only [h1]); (clear h1); (rw [if_pos (by rfl)]); (refine OpY.val ?_ ⟨Kept.refl _ _, rfl⟩); (first | rfl | go_simp)
        refine .cons (fun x wf Kk hq hdep hold => ?_) ?_
        · (try dsimp only); (have h3 : x 3 = _ := hdep 3 (by kernel_rfl)); (have h1 : x 1 = _ := hdep 1 (by kernel_rfl)); (clear hq hdep hold); (simp only [h3, h1]); (clear h3 h1); (rw [if_pos (by rfl)]); (refine OpY.build 40 3 1 _ rfl 1 (.int .i64 0) Try.underlying40 infI (by decide) (by decide) [.int .i64 (V : Int)] [(0, .int .i64 (V : Int))] rfl (fill_rows 1 (by decide) (.int .i64 0) [.int .i64 (V : Int)] (fun v hv => by obtain rfl := List.mem_singleton.1 hv; rfl)) rfl (by decide) ?_); (intro w' hg k ho); (exact ⟨k, Rd.of_own ho⟩)
        refine .cons (fun x wf Kk hq hdep hold => ?_) ?_
        · (try dsimp only); (have h2 : x 2 = _ := hdep 2 (by kernel_rfl)); (have p4 : Pr.p (Sl := (fun _ => no)) (RdIs 1 1 [.int .i64 (V : Int)]) (x 4) wf := hdep 4 (by kernel_rfl)); (have h1 : x 1 = _ := hdep 1 (by kernel_rfl)); (clear hq hdep hold); (simp only [h2, h1]); (clear h2 h1); (rw [if_pos (by rfl)]); (refine OpY.call (f := 28) (args := #[(.slice ap lp cp), x 4]) (by go_simp) ?_); (refine (HEq.out wf Kk.undrew _ p4).mono ?_); (rintro e w2 ⟨rfl, q2⟩); (exact ⟨_, rfl, q2.kept, rfl⟩)
        refine .cons (fun x wf Kk hq hdep hold => ?_) ?_
        · (try dsimp only); (have h5 : x 5 = _ := hdep 5 (by kernel_rfl)); (have h1 : x 1 = _ := hdep 1 (by kernel_rfl)); (clear hq hdep hold); (simp only [h5, h1]); (clear h5 h1); (rw [if_pos (by rfl)]); (refine OpY.val ?_ ⟨Kept.refl _ _, rfl⟩); (first | rfl | go_simp)
        refine .cons (fun x wf Kk hq hdep hold => ?_) ?_
        · (try dsimp only); (have h6 : x 6 = _ := hdep 6 (by kernel_rfl)); (clear hq hdep hold); (simp only [h6]); (clear h6); (exact stepOff rfl rfl)
        refine .cons (fun x wf Kk hq hdep hold => ?_) ?_
        · (try dsimp only); (have h6 : x 6 = _ := hdep 6 (by kernel_rfl)); (clear hq hdep hold); (simp only [h6]); (clear h6); (exact stepOff rfl rfl)
        refine .cons (fun x wf Kk hq hdep hold => ?_) ?_
        · (try dsimp only); (have h6 : x 6 = _ := hdep 6 (by kernel_rfl)); (clear hq hdep hold); (simp only [h6]); (clear h6); (exact stepOff rfl rfl)
        refine .cons (fun x wf Kk hq hdep hold => ?_) ?_
        · (try dsimp only); (have h6 : x 6 = _ := hdep 6 (by kernel_rfl)); (clear hq hdep hold); (simp only [h6]); (clear h6); (exact stepOff rfl rfl)
        refine .cons (fun x wf Kk hq hdep hold => ?_) ?_
        · (try dsimp only); (have h6 : x 6 = _ := hdep 6 (by kernel_rfl)); (clear hq hdep hold); (simp only [h6]); (clear h6); (exact stepOff rfl rfl)
        refine .cons (fun x wf Kk hq hdep hold => ?_) ?_
        · (try dsimp only); (have h6 : x 6 = _ := hdep 6 (by kernel_rfl)); (clear hq hdep hold); (simp only [h6]); (clear h6); (exact stepOff rfl rfl)
        refine .cons (fun x wf Kk hq hdep hold => ?_) ?_
        · (try dsimp only); (have h6 : x 6 = _ := hdep 6 (by kernel_rfl)); (have h12 : x 12 = _ := hdep 12 (by kernel_rfl)); (have h1 : x 1 = _ := hdep 1 (by kernel_rfl)); (clear hq hdep hold); (simp only [h6, h12, h1]); (clear h6 h12 h1); (rw [if_pos (by rfl)]); (refine OpY.val ?_ ⟨Kept.refl _ _, rfl⟩); (first | rfl | go_simp)
        refine .cons (fun x wf Kk hq hdep hold => ?_) ?_
        · (try dsimp only); (have h1 : x 1 = _ := hdep 1 (by kernel_rfl)); (have h13 : x 13 = _ := hdep 13 (by kernel_rfl)); (clear hq hdep hold); (simp only [h1, h13]); (clear h1 h13); (rw [if_pos (by rfl)]); (refine OpY.val ?_ ⟨Kept.refl _ _, rfl⟩); (first | rfl | go_simp)
        refine .cons (fun x wf Kk hq hdep hold => ?_) ?_
        · (try dsimp only); (have h14 : x 14 = _ := hdep 14 (by kernel_rfl)); (clear hq hdep hold); (simp only [h14]); (clear h14); (rw [if_pos (by rfl)]); (refine OpY.val ?_ ⟨Kept.refl _ _, rfl⟩); (first | rfl | go_simp)
        refine .cons (fun x wf Kk hq hdep hold => ?_) ?_
        · (try dsimp only); (have h15 : x 15 = _ := hdep 15 (by kernel_rfl)); (clear hq hdep hold); (simp only [h15]); (clear h15); (rw [if_pos (by rfl)]); (refine OpY.val ?_ ⟨Kept.refl _ _, rfl⟩); (first | rfl | go_simp)
        refine .cons (fun x wf Kk hq hdep hold => ?_) ?_
        · (try dsimp only); (have h16 : x 16 = _ := hdep 16 (by kernel_rfl)); (have h15 : x 15 = _ := hdep 15 (by kernel_rfl)); (clear hq hdep hold); (simp only [h16, h15]); (clear h16 h15); (have m1 := Kk.undrew.cell c1h.out id); (rw [if_pos (by rfl)]); (refine OpY.val ?_ ⟨Kept.refl _ _, rfl⟩); (first | rfl | go_simp)
        refine .cons (fun x wf Kk hq hdep hold => ?_) ?_
        · (try dsimp only); (have h17 : x 17 = _ := hdep 17 (by kernel_rfl)); (have h15 : x 15 = _ := hdep 15 (by kernel_rfl)); (clear hq hdep hold); (simp only [h17, h15]); (clear h17 h15); (rw [if_pos (by rfl)]); (refine OpY.val ?_ ⟨Kept.refl _ _, rfl⟩); (first | rfl | go_simp)
        refine .cons (fun x wf Kk hq hdep hold => ?_) ?_
        · (try dsimp only); (have h18 : x 18 = _ := hdep 18 (by kernel_rfl)); (have h15 : x 15 = _ := hdep 15 (by kernel_rfl)); (clear hq hdep hold); (simp only [h18, h15]); (clear h18 h15); (rw [if_pos (by rfl)]); (refine OpY.val ?_ ⟨Kept.refl _ _, rfl⟩); (first | rfl | go_simp)
        refine .cons (fun x wf Kk hq hdep hold => ?_) ?_
        · (try dsimp only); (have h19 : x 19 = _ := hdep 19 (by kernel_rfl)); (clear hq hdep hold); (simp only [h19]); (clear h19); (rw [if_pos (by rfl)]); (refine OpY.val ?_ ⟨Kept.refl _ _, rfl⟩); (first | rfl | go_simp)
        refine .cons (fun x wf Kk hq hdep hold => ?_) ?_
        · (try dsimp only); (have h19 : x 19 = _ := hdep 19 (by kernel_rfl)); (clear hq hdep hold); (simp only [h19]); (clear h19); (rw [if_pos (by rfl)]); (refine OpY.val ?_ ⟨Kept.refl _ _, rfl⟩); (first | rfl | go_simp)
        refine .cons (fun x wf Kk hq hdep hold => ?_) ?_
        · (try dsimp only); (have h20 : x 20 = _ := hdep 20 (by kernel_rfl)); (have h21 : x 21 = _ := hdep 21 (by kernel_rfl)); (have h19 : x 19 = _ := hdep 19 (by kernel_rfl)); (clear hq hdep hold); (simp only [h20, h21, h19]); (clear h20 h21 h19); (rw [if_pos (by rfl)]); (refine OpY.call (f := 27) (args := #[(.int .i64 (N : Int)), (vA)]) (by go_simp) ?_); (refine (HPa.out wf Kk.undrew).mono ?_); (rintro e w2 ⟨v2, rfl, o2⟩); (exact ⟨_, rfl, o2.kept, o2.rd⟩)
        refine .cons (fun x wf Kk hq hdep hold => ?_) ?_
        · (try dsimp only); (have h19 : x 19 = _ := hdep 19 (by kernel_rfl)); (clear hq hdep hold); (simp only [h19]); (clear h19); (rw [if_pos (by rfl)]); (refine OpY.val ?_ ⟨Kept.refl _ _, rfl⟩); (first | rfl | go_simp)
        refine .cons (fun x wf Kk hq hdep hold => ?_) ?_
        · (try dsimp only); (have h23 : x 23 = _ := hdep 23 (by kernel_rfl)); (have h19 : x 19 = _ := hdep 19 (by kernel_rfl)); (clear hq hdep hold); (simp only [h23, h19]); (clear h23 h19); (rw [if_pos (by rfl)]); (refine OpY.build 40 3 1 _ rfl 1 (.int .i64 0) Try.underlying40 infI (by decide) (by decide) [.int .i64 (V : Int)] [(0, .int .i64 (V : Int))] rfl (fill_rows 1 (by decide) (.int .i64 0) [.int .i64 (V : Int)] (fun v hv => by obtain rfl := List.mem_singleton.1 hv; rfl)) rfl (by decide) ?_); (intro w' hg k ho); (exact ⟨k, Rd.of_own ho⟩)
        refine .cons (fun x wf Kk hq hdep hold => ?_) ?_
        · (try dsimp only); (have p22 : Pr.p (Sl := (fun _ => no)) (RdIs 1 1 [.int .i64 (V : Int)]) (x 22) wf := hdep 22 (by kernel_rfl)); (have p24 : Pr.p (Sl := (fun _ => no)) (RdIs 1 1 [.int .i64 (V : Int)]) (x 24) wf := hdep 24 (by kernel_rfl)); (have h19 : x 19 = _ := hdep 19 (by kernel_rfl)); (clear hq hdep hold); (simp only [h19]); (clear h19); (rw [if_pos (by rfl)]); (refine OpY.call (f := 28) (args := #[x 22, x 24]) (by go_simp) ?_); (refine (HEq3.out wf _ _ p22 p24).mono ?_); (rintro e w2 ⟨rfl, q2⟩); (exact ⟨_, rfl, q2.kept, rfl⟩)
        refine .cons (fun x wf Kk hq hdep hold => ?_) ?_
        · (try dsimp only); (have h19 : x 19 = _ := hdep 19 (by kernel_rfl)); (have h25 : x 25 = _ := hdep 25 (by kernel_rfl)); (have h15 : x 15 = _ := hdep 15 (by kernel_rfl)); (clear hq hdep hold); (simp only [h19, h25, h15]); (clear h19 h25 h15); (rw [if_pos (by rfl)]); (refine OpY.val ?_ ⟨Kept.refl _ _, rfl⟩); (first | rfl | go_simp)
        refine .cons (fun x wf Kk hq hdep hold => ?_) ?_
        · (try dsimp only); (have h15 : x 15 = _ := hdep 15 (by kernel_rfl)); (have h26 : x 26 = _ := hdep 26 (by kernel_rfl)); (clear hq hdep hold); (simp only [h15, h26]); (clear h15 h26); (rw [if_pos (by rfl)]); (refine OpY.val ?_ ⟨Kept.refl _ _, rfl⟩); (first | rfl | go_simp)
        refine .cons (fun x wf Kk hq hdep hold => ?_) ?_
        · (try dsimp only); (have h27 : x 27 = _ := hdep 27 (by kernel_rfl)); (clear hq hdep hold); (simp only [h27]); (clear h27); (rw [if_pos (by rfl)]); (refine OpY.val ?_ ⟨Kept.refl _ _, rfl⟩); (first | rfl | go_simp)
        exact .nil _
      · (intro x wf Kk hv); (try dsimp only); (have h28 : x 28 = _ := hv 28 (by kernel_rfl)); (clear hv); (simp only [h28]); (clear h28); (have kF := hid (kk11.out.trans' Kk.undrew)); (clear Kk HAw HEq HDi HPa c1h); (go_wp2); (go_ret); (exact ⟨rfl, kF.out⟩)
  · (rw [decide_eq_false hB] at HEq); (have hle := hlow.out hB); (have hled : decide (mar ≤ DD) = true := decide_eq_true hle); (clear hlow hB)
    by_cases hz : mar = 0
    · (have hle0 : 0 ≤ DD := by omega); (have hle0d : decide (0 ≤ DD) = true := decide_eq_true hle0); (clear hone HEq2); (go_upto_region 12 with fail); (refine region_flow (S := no) (Sl := (fun _ => no)) [Is (.bool true), Is (.bool true), Is (.slice ap lp cp), Is (.int .i64 (V : Int)), RdIs 1 1 [.int .i64 (V : Int)], Is (.bool false), Is (.bool false), Is (.pointer (some ⟨G1, 1, none⟩)), Is (.int .i64 mar), Is (vA), Is (vB), Is (.int .i64 DD), Is (.bool true), Is (.bool true), Is (.bool true), Is (.bool true), Is (.pointer (some ⟨G1, 1, none⟩)), Is (.int .i64 mar), Is (.bool true), Is (.bool true), Is undef, Is undef, Is undef, Is undef, Is undef, Is undef, Is (.bool true), Is (.bool true), Is (.bool true)] [] (fun _ _ h => h) _ (by kernel_rfl) (by kernel_rfl) (by kernel_rfl) (by kernel_rfl) (fun x => by simp only [puts, Act.put, List.map_cons, List.map_nil, Nat.zero_add, Nat.reduceAdd, List.setIfInBounds_toArray, List.set_cons_zero, List.set_cons_succ]; exact rfl) ?_ ?_)
      · (skip); (refine .cons (fun x wf Kk hq hdep hold => ?_) ?_)
        · (try dsimp only); (clear hq hdep hold); (rw [if_pos (by rfl)]); (refine OpY.call (f := 32) (args := #[]) (by go_simp) ?_); (refine (HAw.out wf).mono ?_); (rintro e w2 ⟨rfl, k2⟩); (exact ⟨_, rfl, k2, rfl⟩)
        refine .cons (fun x wf Kk hq hdep hold => ?_) ?_
        · (try dsimp only); (have h0 : x 0 = _ := hdep 0 (by kernel_rfl)); (clear hq hdep hold); (simp only [h0]); (clear h0); (rw [if_pos (by rfl)]); (refine OpY.val ?_ ⟨Kept.refl _ _, rfl⟩); (first | rfl | go_simp)
        refine .cons (fun x wf Kk hq hdep hold => ?_) ?_
        · (try dsimp only); (have h1 : x 1 = _ := hdep 1 (by kernel_rfl)); (clear hq hdep hold); (simp only [h1]); (clear h1); (rw [if_pos (by rfl)]); (refine OpY.val ?_ ⟨Kept.refl _ _, rfl⟩); (first | rfl | go_simp)
        refine .cons (fun x wf Kk hq hdep hold => ?_) ?_
        · (try dsimp only); (have h1 : x 1 = _ := hdep 1 (by kernel_rfl)); (clear hq hdep hold); (simp only [h1]); (clear h1); (rw [if_pos (by rfl)]); (refine OpY.val ?_ ⟨Kept.refl _ _, rfl⟩); (first | rfl | go_simp)
        refine .cons (fun x wf Kk hq hdep hold => ?_) ?_
        · (try dsimp only); (have h3 : x 3 = _ := hdep 3 (by kernel_rfl)); (have h1 : x 1 = _ := hdep 1 (by kernel_rfl)); (clear hq hdep hold); (simp only [h3, h1]); (clear h3 h1); (rw [if_pos (by rfl)]); (refine OpY.build 40 3 1 _ rfl 1 (.int .i64 0) Try.underlying40 infI (by decide) (by decide) [.int .i64 (V : Int)] [(0, .int .i64 (V : Int))] rfl (fill_rows 1 (by decide) (.int .i64 0) [.int .i64 (V : Int)] (fun v hv => by obtain rfl := List.mem_singleton.1 hv; rfl)) rfl (by decide) ?_); (intro w' hg k ho); (exact ⟨k, Rd.of_own ho⟩)
        refine .cons (fun x wf Kk hq hdep hold => ?_) ?_
        · (try dsimp only); (have h2 : x 2 = _ := hdep 2 (by kernel_rfl)); (have p4 : Pr.p (Sl := (fun _ => no)) (RdIs 1 1 [.int .i64 (V : Int)]) (x 4) wf := hdep 4 (by kernel_rfl)); (have h1 : x 1 = _ := hdep 1 (by kernel_rfl)); (clear hq hdep hold); (simp only [h2, h1]); (clear h2 h1); (rw [if_pos (by rfl)]); (refine OpY.call (f := 28) (args := #[(.slice ap lp cp), x 4]) (by go_simp) ?_); (refine (HEq.out wf Kk.undrew _ p4).mono ?_); (rintro e w2 ⟨rfl, q2⟩); (exact ⟨_, rfl, q2.kept, rfl⟩)
        refine .cons (fun x wf Kk hq hdep hold => ?_) ?_
        · (try dsimp only); (have h5 : x 5 = _ := hdep 5 (by kernel_rfl)); (have h1 : x 1 = _ := hdep 1 (by kernel_rfl)); (clear hq hdep hold); (simp only [h5, h1]); (clear h5 h1); (rw [if_pos (by rfl)]); (refine OpY.val ?_ ⟨Kept.refl _ _, rfl⟩); (first | rfl | go_simp)
        refine .cons (fun x wf Kk hq hdep hold => ?_) ?_
        · (try dsimp only); (have h6 : x 6 = _ := hdep 6 (by kernel_rfl)); (clear hq hdep hold); (simp only [h6]); (clear h6); (rw [if_pos (by rfl)]); (refine OpY.val ?_ ⟨Kept.refl _ _, rfl⟩); (first | rfl | go_simp)
        refine .cons (fun x wf Kk hq hdep hold => ?_) ?_
        · (try dsimp only); (have h7 : x 7 = _ := hdep 7 (by kernel_rfl)); (have h6 : x 6 = _ := hdep 6 (by kernel_rfl)); (clear hq hdep hold); (simp only [h7, h6]); (clear h7 h6); (have m1 := Kk.undrew.cell c1h.out id); (rw [if_pos (by rfl)]); (refine OpY.val ?_ ⟨Kept.refl _ _, rfl⟩); (first | rfl | go_simp)
        refine .cons (fun x wf Kk hq hdep hold => ?_) ?_
        · (try dsimp only); (have h6 : x 6 = _ := hdep 6 (by kernel_rfl)); (clear hq hdep hold); (simp only [h6]); (clear h6); (rw [if_pos (by rfl)]); (refine OpY.val ?_ ⟨Kept.refl _ _, rfl⟩); (first | rfl | go_simp)
        refine .cons (fun x wf Kk hq hdep hold => ?_) ?_
        · (try dsimp only); (have h6 : x 6 = _ := hdep 6 (by kernel_rfl)); (clear hq hdep hold); (simp only [h6]); (clear h6); (rw [if_pos (by rfl)]); (refine OpY.val ?_ ⟨Kept.refl _ _, rfl⟩); (first | rfl | go_simp)
        refine .cons (fun x wf Kk hq hdep hold => ?_) ?_
        · (try dsimp only); (have h9 : x 9 = _ := hdep 9 (by kernel_rfl)); (have h10 : x 10 = _ := hdep 10 (by kernel_rfl)); (have h6 : x 6 = _ := hdep 6 (by kernel_rfl)); (clear hq hdep hold); (simp only [h9, h10, h6]); (clear h9 h10 h6); (rw [if_pos (by rfl)]); (refine OpY.call (f := 29) (args := #[(vA), (vB)]) (by go_simp) ?_); (refine (HDi.out wf Kk.undrew).mono ?_); (rintro e w2 ⟨rfl, k2⟩); (exact ⟨_, rfl, k2, rfl⟩)
        refine .cons (fun x wf Kk hq hdep hold => ?_) ?_
        · (try dsimp only); (have h8 : x 8 = _ := hdep 8 (by kernel_rfl)); (have h11 : x 11 = _ := hdep 11 (by kernel_rfl)); (have h6 : x 6 = _ := hdep 6 (by kernel_rfl)); (clear hq hdep hold); (simp only [h8, h11, h6]); (clear h8 h11 h6); (rw [if_pos (by rfl)]); (refine OpY.val ?_ ⟨Kept.refl _ _, rfl⟩); (first | rfl | go_simp)
        refine .cons (fun x wf Kk hq hdep hold => ?_) ?_
        · (try dsimp only); (have h6 : x 6 = _ := hdep 6 (by kernel_rfl)); (have h12 : x 12 = _ := hdep 12 (by kernel_rfl)); (have h1 : x 1 = _ := hdep 1 (by kernel_rfl)); (clear hq hdep hold); (simp only [h6, h12, h1]); (clear h6 h12 h1); (rw [if_pos (by rfl)]); (refine OpY.val ?_ ⟨Kept.refl _ _, rfl⟩); (first | rfl | go_simp)
        refine .cons (fun x wf Kk hq hdep hold => ?_) ?_
        · (try dsimp only); (have h1 : x 1 = _ := hdep 1 (by kernel_rfl)); (have h13 : x 13 = _ := hdep 13 (by kernel_rfl)); (clear hq hdep hold); (simp only [h1, h13]); (clear h1 h13); (rw [if_pos (by rfl)]); (refine OpY.val ?_ ⟨Kept.refl _ _, rfl⟩); (first | rfl | go_simp)
        refine .cons (fun x wf Kk hq hdep hold => ?_) ?_
        · (try dsimp only); (have h14 : x 14 = _ := hdep 14 (by kernel_rfl)); (clear hq hdep hold); (simp only [h14]); (clear h14); (rw [if_pos (by rfl)]); (refine OpY.val ?_ ⟨Kept.refl _ _, rfl⟩); (first | rfl | go_simp)
        refine .cons (fun x wf Kk hq hdep hold => ?_) ?_
        · (try dsimp only); (have h15 : x 15 = _ := hdep 15 (by kernel_rfl)); (clear hq hdep hold); (simp only [h15]); (clear h15); (rw [if_pos (by rfl)]); (refine OpY.val ?_ ⟨Kept.refl _ _, rfl⟩); (first | rfl | go_simp)
        refine .cons (fun x wf Kk hq hdep hold => ?_) ?_
        · (try dsimp only); (have h16 : x 16 = _ := hdep 16 (by kernel_rfl)); (have h15 : x 15 = _ := hdep 15 (by kernel_rfl)); (clear hq hdep hold); (simp only [h16, h15]); (clear h16 h15); (have m1 := Kk.undrew.cell c1h.out id); (rw [if_pos (by rfl)]); (refine OpY.val ?_ ⟨Kept.refl _ _, rfl⟩); (first | rfl | go_simp)
        refine .cons (fun x wf Kk hq hdep hold => ?_) ?_
        · (try dsimp only); (have h17 : x 17 = _ := hdep 17 (by kernel_rfl)); (have h15 : x 15 = _ := hdep 15 (by kernel_rfl)); (clear hq hdep hold); (simp only [h17, h15]); (clear h17 h15); (rw [if_pos (by rfl)]); (refine OpY.val ?_ ⟨Kept.refl _ _, rfl⟩); (first | rfl | go_simp)
        refine .cons (fun x wf Kk hq hdep hold => ?_) ?_
        · (try dsimp only); (have h18 : x 18 = _ := hdep 18 (by kernel_rfl)); (have h15 : x 15 = _ := hdep 15 (by kernel_rfl)); (clear hq hdep hold); (simp only [h18, h15]); (clear h18 h15); (rw [if_pos (by rfl)]); (refine OpY.val ?_ ⟨Kept.refl _ _, rfl⟩); (first | rfl | go_simp)
        refine .cons (fun x wf Kk hq hdep hold => ?_) ?_
        · (try dsimp only); (have h19 : x 19 = _ := hdep 19 (by kernel_rfl)); (clear hq hdep hold); (simp only [h19]); (clear h19); (exact stepOff rfl rfl)
        refine .cons (fun x wf Kk hq hdep hold => ?_) ?_
        · (try dsimp only); (have h19 : x 19 = _ := hdep 19 (by kernel_rfl)); (clear hq hdep hold); (simp only [h19]); (clear h19); (exact stepOff rfl rfl)
        refine .cons (fun x wf Kk hq hdep hold => ?_) ?_
        · (try dsimp only); (have h19 : x 19 = _ := hdep 19 (by kernel_rfl)); (clear hq hdep hold); (simp only [h19]); (clear h19); (exact stepOff rfl rfl)
        refine .cons (fun x wf Kk hq hdep hold => ?_) ?_
        · (try dsimp only); (have h19 : x 19 = _ := hdep 19 (by kernel_rfl)); (clear hq hdep hold); (simp only [h19]); (clear h19); (exact stepOff rfl rfl)
        refine .cons (fun x wf Kk hq hdep hold => ?_) ?_
        · (try dsimp only); (have h19 : x 19 = _ := hdep 19 (by kernel_rfl)); (clear hq hdep hold); (simp only [h19]); (clear h19); (exact stepOff rfl rfl)
        refine .cons (fun x wf Kk hq hdep hold => ?_) ?_
        · (try dsimp only); (have h19 : x 19 = _ := hdep 19 (by kernel_rfl)); (clear hq hdep hold); (simp only [h19]); (clear h19); (exact stepOff rfl rfl)
        refine .cons (fun x wf Kk hq hdep hold => ?_) ?_
        · (try dsimp only); (have h19 : x 19 = _ := hdep 19 (by kernel_rfl)); (have h25 : x 25 = _ := hdep 25 (by kernel_rfl)); (have h15 : x 15 = _ := hdep 15 (by kernel_rfl)); (clear hq hdep hold); (simp only [h19, h25, h15]); (clear h19 h25 h15); (rw [if_pos (by rfl)]); (refine OpY.val ?_ ⟨Kept.refl _ _, rfl⟩); (first | rfl | go_simp)
        refine .cons (fun x wf Kk hq hdep hold => ?_) ?_
        · (try dsimp only); (have h15 : x 15 = _ := hdep 15 (by kernel_rfl)); (have h26 : x 26 = _ := hdep 26 (by kernel_rfl)); (clear hq hdep hold); (simp only [h15, h26]); (clear h15 h26); (rw [if_pos (by rfl)]); (refine OpY.val ?_ ⟨Kept.refl _ _, rfl⟩); (first | rfl | go_simp)
        refine .cons (fun x wf Kk hq hdep hold => ?_) ?_
        · (try dsimp only); (have h27 : x 27 = _ := hdep 27 (by kernel_rfl)); (clear hq hdep hold); (simp only [h27]); (clear h27); (rw [if_pos (by rfl)]); (refine OpY.val ?_ ⟨Kept.refl _ _, rfl⟩); (first | rfl | go_simp)
        exact .nil _
      · (intro x wf Kk hv); (try dsimp only); (have h28 : x 28 = _ := hv 28 (by kernel_rfl)); (clear hv); (simp only [h28]); (clear h28); (have kF := hid (kk11.out.trans' Kk.undrew)); (clear Kk HAw HEq HDi HPa c1h); (go_wp2); (go_ret); (exact ⟨rfl, kF.out⟩)
    · (have hA := hone.out hz); (rw [hA] at HPa); (have HEq3 := hid (fun (W : World) (v u : Value) (hu : RdZ W u [(V : Int)]) (hz : RdZ W v [(V : Int)]) => by have := HEq2.out W v u (by rw [hA]; exact hu) hz; rw [hA, decide_eq_true rfl] at this; exact this)); (clear hone HEq2 hA); (go_upto_region 12 with fail); (refine region_flow (S := no) (Sl := (fun _ => no)) [Is (.bool true), Is (.bool true), Is (.slice ap lp cp), Is (.int .i64 (V : Int)), RdIs 1 1 [.int .i64 (V : Int)], Is (.bool false), Is (.bool false), Is (.pointer (some ⟨G1, 1, none⟩)), Is (.int .i64 mar), Is (vA), Is (vB), Is (.int .i64 DD), Is (.bool true), Is (.bool true), Is (.bool true), Is (.bool true), Is (.pointer (some ⟨G1, 1, none⟩)), Is (.int .i64 mar), Is (.bool false), Is (.bool false), Is (.int .i64 (N : Int)), Is (vA), RdIs 1 1 [.int .i64 (V : Int)], Is (.int .i64 (V : Int)), RdIs 1 1 [.int .i64 (V : Int)], Is (.bool true), Is (.bool true), Is (.bool true), Is (.bool true)] [] (fun _ _ h => h) _ (by kernel_rfl) (by kernel_rfl) (by kernel_rfl) (by kernel_rfl) (fun x => by simp only [puts, Act.put, List.map_cons, List.map_nil, Nat.zero_add, Nat.reduceAdd, List.setIfInBounds_toArray, List.set_cons_zero, List.set_cons_succ]; exact rfl) ?_ ?_)
      · (skip); (refine .cons (fun x wf Kk hq hdep hold => ?_) ?_)
        · (try dsimp only); (clear hq hdep hold); (rw [if_pos (by rfl)]); (refine OpY.call (f := 32) (args := #[]) (by go_simp) ?_); (refine (HAw.out wf).mono ?_); (rintro e w2 ⟨rfl, k2⟩); (exact ⟨_, rfl, k2, rfl⟩)
        refine .cons (fun x wf Kk hq hdep hold => ?_) ?_
        · (try dsimp only); (have h0 : x 0 = _ := hdep 0 (by kernel_rfl)); (clear hq hdep hold); (simp only [h0]); (clear h0); (rw [if_pos (by rfl)]); (refine OpY.val ?_ ⟨Kept.refl _ _, rfl⟩); (first | rfl | go_simp)
        refine .cons (fun x wf Kk hq hdep hold => ?_) ?_
        · (try dsimp only); (have h1 : x 1 = _ := hdep 1 (by kernel_rfl)); (clear hq hdep hold); (simp only [h1]); (clear h1); (rw [if_pos (by rfl)]); (refine OpY.val ?_ ⟨Kept.refl _ _, rfl⟩); (first | rfl | go_simp)
        refine .cons (fun x wf Kk hq hdep hold => ?_) ?_
        · (try dsimp only); (have h1 : x 1 = _ := hdep 1 (by kernel_rfl)); (clear hq hdep hold); (simp only [h1]); (clear h1); (rw [if_pos (by rfl)]); (refine OpY.val ?_ ⟨Kept.refl _ _, rfl⟩); (first | rfl | go_simp)
        refine .cons (fun x wf Kk hq hdep hold => ?_) ?_
        · (try dsimp only); (have h3 : x 3 = _ := hdep 3 (by kernel_rfl)); (have h1 : x 1 = _ := hdep 1 (by kernel_rfl)); (clear hq hdep hold); (simp only [h3, h1]); (clear h3 h1); (rw [if_pos (by rfl)]); (refine OpY.build 40 3 1 _ rfl 1 (.int .i64 0) Try.underlying40 infI (by decide) (by decide) [.int .i64 (V : Int)] [(0, .int .i64 (V : Int))] rfl (fill_rows 1 (by decide) (.int .i64 0) [.int .i64 (V : Int)] (fun v hv => by obtain rfl := List.mem_singleton.1 hv; rfl)) rfl (by decide) ?_); (intro w' hg k ho); (exact ⟨k, Rd.of_own ho⟩)
        refine .cons (fun x wf Kk hq hdep hold => ?_) ?_
        · (try dsimp only); (have h2 : x 2 = _ := hdep 2 (by kernel_rfl)); (have p4 : Pr.p (Sl := (fun _ => no)) (RdIs 1 1 [.int .i64 (V : Int)]) (x 4) wf := hdep 4 (by kernel_rfl)); (have h1 : x 1 = _ := hdep 1 (by kernel_rfl)); (clear hq hdep hold); (simp only [h2, h1]); (clear h2 h1); (rw [if_pos (by rfl)]); (refine OpY.call (f := 28) (args := #[(.slice ap lp cp), x 4]) (by go_simp) ?_); (refine (HEq.out wf Kk.undrew _ p4).mono ?_); (rintro e w2 ⟨rfl, q2⟩); (exact ⟨_, rfl, q2.kept, rfl⟩)
        refine .cons (fun x wf Kk hq hdep hold => ?_) ?_
        · (try dsimp only); (have h5 : x 5 = _ := hdep 5 (by kernel_rfl)); (have h1 : x 1 = _ := hdep 1 (by kernel_rfl)); (clear hq hdep hold); (simp only [h5, h1]); (clear h5 h1); (rw [if_pos (by rfl)]); (refine OpY.val ?_ ⟨Kept.refl _ _, rfl⟩); (first | rfl | go_simp)
        refine .cons (fun x wf Kk hq hdep hold => ?_) ?_
        · (try dsimp only); (have h6 : x 6 = _ := hdep 6 (by kernel_rfl)); (clear hq hdep hold); (simp only [h6]); (clear h6); (rw [if_pos (by rfl)]); (refine OpY.val ?_ ⟨Kept.refl _ _, rfl⟩); (first | rfl | go_simp)
        refine .cons (fun x wf Kk hq hdep hold => ?_) ?_
        · (try dsimp only); (have h7 : x 7 = _ := hdep 7 (by kernel_rfl)); (have h6 : x 6 = _ := hdep 6 (by kernel_rfl)); (clear hq hdep hold); (simp only [h7, h6]); (clear h7 h6); (have m1 := Kk.undrew.cell c1h.out id); (rw [if_pos (by rfl)]); (refine OpY.val ?_ ⟨Kept.refl _ _, rfl⟩); (first | rfl | go_simp)
        refine .cons (fun x wf Kk hq hdep hold => ?_) ?_
        · (try dsimp only); (have h6 : x 6 = _ := hdep 6 (by kernel_rfl)); (clear hq hdep hold); (simp only [h6]); (clear h6); (rw [if_pos (by rfl)]); (refine OpY.val ?_ ⟨Kept.refl _ _, rfl⟩); (first | rfl | go_simp)
        refine .cons (fun x wf Kk hq hdep hold => ?_) ?_
        · (try dsimp only); (have h6 : x 6 = _ := hdep 6 (by kernel_rfl)); (clear hq hdep hold); (simp only [h6]); (clear h6); (rw [if_pos (by rfl)]); (refine OpY.val ?_ ⟨Kept.refl _ _, rfl⟩); (first | rfl | go_simp)
        refine .cons (fun x wf Kk hq hdep hold => ?_) ?_
        · (try dsimp only); (have h9 : x 9 = _ := hdep 9 (by kernel_rfl)); (have h10 : x 10 = _ := hdep 10 (by kernel_rfl)); (have h6 : x 6 = _ := hdep 6 (by kernel_rfl)); (clear hq hdep hold); (simp only [h9, h10, h6]); (clear h9 h10 h6); (rw [if_pos (by rfl)]); (refine OpY.call (f := 29) (args := #[(vA), (vB)]) (by go_simp) ?_); (refine (HDi.out wf Kk.undrew).mono ?_); (rintro e w2 ⟨rfl, k2⟩); (exact ⟨_, rfl, k2, rfl⟩)
        refine .cons (fun x wf Kk hq hdep hold => ?_) ?_
        · (try dsimp only); (have h8 : x 8 = _ := hdep 8 (by kernel_rfl)); (have h11 : x 11 = _ := hdep 11 (by kernel_rfl)); (have h6 : x 6 = _ := hdep 6 (by kernel_rfl)); (clear hq hdep hold); (simp only [h8, h11, h6]); (clear h8 h11 h6); (rw [if_pos (by rfl)]); (refine OpY.val ?_ ⟨Kept.refl _ _, rfl⟩); (first | rfl | go_simp)
        refine .cons (fun x wf Kk hq hdep hold => ?_) ?_
        · (try dsimp only); (have h6 : x 6 = _ := hdep 6 (by kernel_rfl)); (have h12 : x 12 = _ := hdep 12 (by kernel_rfl)); (have h1 : x 1 = _ := hdep 1 (by kernel_rfl)); (clear hq hdep hold); (simp only [h6, h12, h1]); (clear h6 h12 h1); (rw [if_pos (by rfl)]); (refine OpY.val ?_ ⟨Kept.refl _ _, rfl⟩); (first | rfl | go_simp)
        refine .cons (fun x wf Kk hq hdep hold => ?_) ?_
        · (try dsimp only); (have h1 : x 1 = _ := hdep 1 (by kernel_rfl)); (have h13 : x 13 = _ := hdep 13 (by kernel_rfl)); (clear hq hdep hold); (simp only [h1, h13]); (clear h1 h13); (rw [if_pos (by rfl)]); (refine OpY.val ?_ ⟨Kept.refl _ _, rfl⟩); (first | rfl | go_simp)
        refine .cons (fun x wf Kk hq hdep hold => ?_) ?_
        · (try dsimp only); (have h14 : x 14 = _ := hdep 14 (by kernel_rfl)); (clear hq hdep hold); (simp only [h14]); (clear h14); (rw [if_pos (by rfl)]); (refine OpY.val ?_ ⟨Kept.refl _ _, rfl⟩); (first | rfl | go_simp)
        refine .cons (fun x wf Kk hq hdep hold => ?_) ?_
        · (try dsimp only); (have h15 : x 15 = _ := hdep 15 (by kernel_rfl)); (clear hq hdep hold); (simp only [h15]); (clear h15); (rw [if_pos (by rfl)]); (refine OpY.val ?_ ⟨Kept.refl _ _, rfl⟩); (first | rfl | go_simp)
        refine .cons (fun x wf Kk hq hdep hold => ?_) ?_
        · (try dsimp only); (have h16 : x 16 = _ := hdep 16 (by kernel_rfl)); (have h15 : x 15 = _ := hdep 15 (by kernel_rfl)); (clear hq hdep hold); (simp only [h16, h15]); (clear h16 h15); (have m1 := Kk.undrew.cell c1h.out id); (rw [if_pos (by rfl)]); (refine OpY.val ?_ ⟨Kept.refl _ _, rfl⟩); (first | rfl | go_simp)
        refine .cons (fun x wf Kk hq hdep hold => ?_) ?_
        · (try dsimp only); (have h17 : x 17 = _ := hdep 17 (by kernel_rfl)); (have h15 : x 15 = _ := hdep 15 (by kernel_rfl)); (clear hq hdep hold); (simp only [h17, h15]); (clear h17 h15); (rw [if_pos (by rfl)]); (refine OpY.val ?_ ⟨Kept.refl _ _, rfl⟩); (first | rfl | go_simp)
        refine .cons (fun x wf Kk hq hdep hold => ?_) ?_
        · (try dsimp only); (have h18 : x 18 = _ := hdep 18 (by kernel_rfl)); (have h15 : x 15 = _ := hdep 15 (by kernel_rfl)); (clear hq hdep hold); (simp only [h18, h15]); (clear h18 h15); (rw [if_pos (by rfl)]); (refine OpY.val ?_ ⟨Kept.refl _ _, rfl⟩); (first | rfl | go_simp)
        refine .cons (fun x wf Kk hq hdep hold => ?_) ?_
        · (try dsimp only); (have h19 : x 19 = _ := hdep 19 (by kernel_rfl)); (clear hq hdep hold); (simp only [h19]); (clear h19); (rw [if_pos (by rfl)]); (refine OpY.val ?_ ⟨Kept.refl _ _, rfl⟩); (first | rfl | go_simp)
        refine .cons (fun x wf Kk hq hdep hold => ?_) ?_
        · (try dsimp only); (have h19 : x 19 = _ := hdep 19 (by kernel_rfl)); (clear hq hdep hold); (simp only [h19]); (clear h19); (rw [if_pos (by rfl)]); (refine OpY.val ?_ ⟨Kept.refl _ _, rfl⟩); (first | rfl | go_simp)
        refine .cons (fun x wf Kk hq hdep hold => ?_) ?_
        · (try dsimp only); (have h20 : x 20 = _ := hdep 20 (by kernel_rfl)); (have h21 : x 21 = _ := hdep 21 (by kernel_rfl)); (have h19 : x 19 = _ := hdep 19 (by kernel_rfl)); (clear hq hdep hold); (simp only [h20, h21, h19]); (clear h20 h21 h19); (rw [if_pos (by rfl)]); (refine OpY.call (f := 27) (args := #[(.int .i64 (N : Int)), (vA)]) (by go_simp) ?_); (refine (HPa.out wf Kk.undrew).mono ?_); (rintro e w2 ⟨v2, rfl, o2⟩); (exact ⟨_, rfl, o2.kept, o2.rd⟩)
        refine .cons (fun x wf Kk hq hdep hold => ?_) ?_
        · (try dsimp only); (have h19 : x 19 = _ := hdep 19 (by kernel_rfl)); (clear hq hdep hold); (simp only [h19]); (clear h19); (rw [if_pos (by rfl)]); (refine OpY.val ?_ ⟨Kept.refl _ _, rfl⟩); (first | rfl | go_simp)
        refine .cons (fun x wf Kk hq hdep hold => ?_) ?_
        · (try dsimp only); (have h23 : x 23 = _ := hdep 23 (by kernel_rfl)); (have h19 : x 19 = _ := hdep 19 (by kernel_rfl)); (clear hq hdep hold); (simp only [h23, h19]); (clear h23 h19); (rw [if_pos (by rfl)]); (refine OpY.build 40 3 1 _ rfl 1 (.int .i64 0) Try.underlying40 infI (by decide) (by decide) [.int .i64 (V : Int)] [(0, .int .i64 (V : Int))] rfl (fill_rows 1 (by decide) (.int .i64 0) [.int .i64 (V : Int)] (fun v hv => by obtain rfl := List.mem_singleton.1 hv; rfl)) rfl (by decide) ?_); (intro w' hg k ho); (exact ⟨k, Rd.of_own ho⟩)
        refine .cons (fun x wf Kk hq hdep hold => ?_) ?_
        · (try dsimp only); (have p22 : Pr.p (Sl := (fun _ => no)) (RdIs 1 1 [.int .i64 (V : Int)]) (x 22) wf := hdep 22 (by kernel_rfl)); (have p24 : Pr.p (Sl := (fun _ => no)) (RdIs 1 1 [.int .i64 (V : Int)]) (x 24) wf := hdep 24 (by kernel_rfl)); (have h19 : x 19 = _ := hdep 19 (by kernel_rfl)); (clear hq hdep hold); (simp only [h19]); (clear h19); (rw [if_pos (by rfl)]); (refine OpY.call (f := 28) (args := #[x 22, x 24]) (by go_simp) ?_); (refine (HEq3.out wf _ _ p22 p24).mono ?_); (rintro e w2 ⟨rfl, q2⟩); (exact ⟨_, rfl, q2.kept, rfl⟩)
        refine .cons (fun x wf Kk hq hdep hold => ?_) ?_
        · (try dsimp only); (have h19 : x 19 = _ := hdep 19 (by kernel_rfl)); (have h25 : x 25 = _ := hdep 25 (by kernel_rfl)); (have h15 : x 15 = _ := hdep 15 (by kernel_rfl)); (clear hq hdep hold); (simp only [h19, h25, h15]); (clear h19 h25 h15); (rw [if_pos (by rfl)]); (refine OpY.val ?_ ⟨Kept.refl _ _, rfl⟩); (first | rfl | go_simp)
        refine .cons (fun x wf Kk hq hdep hold => ?_) ?_
        · (try dsimp only); (have h15 : x 15 = _ := hdep 15 (by kernel_rfl)); (have h26 : x 26 = _ := hdep 26 (by kernel_rfl)); (clear hq hdep hold); (simp only [h15, h26]); (clear h15 h26); (rw [if_pos (by rfl)]); (refine OpY.val ?_ ⟨Kept.refl _ _, rfl⟩); (first | rfl | go_simp)
        refine .cons (fun x wf Kk hq hdep hold => ?_) ?_
        · (try dsimp only); (have h27 : x 27 = _ := hdep 27 (by kernel_rfl)); (clear hq hdep hold); (simp only [h27]); (clear h27); (rw [if_pos (by rfl)]); (refine OpY.val ?_ ⟨Kept.refl _ _, rfl⟩); (first | rfl | go_simp)
        exact .nil _
      · (intro x wf Kk hv); (try dsimp only); (have h28 : x 28 = _ := hv 28 (by kernel_rfl)); (clear hv); (simp only [h28]); (clear h28); (have kF := hid (kk11.out.trans' Kk.undrew)); (clear Kk HAw HEq HDi HPa c1h); (go_wp2); (go_ret); (exact ⟨rfl, kF.out⟩)
end Go.Proofs.Ytkdmlakookgolaa
