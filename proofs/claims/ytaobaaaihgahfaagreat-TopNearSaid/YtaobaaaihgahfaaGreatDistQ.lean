/- Number, Distance of both packages (printed by gen_dist.py). -/
import Derived.Test.YtaobaaaihgahfaaGreatGenQ
namespace Go.Pil
theorem com_drop {a b : List Grp} {i j : Nat} {x y : Grp} (hx : a[i]? = some x) (hy : b[j]? = some y) :
    com (a.drop i) (b.drop j) = if lt x.p y.p = true then com (a.drop (i + 1)) (b.drop j) else if lt y.p x.p = true then com (a.drop i) (b.drop (j + 1)) else min x.n y.n + com (a.drop (i + 1)) (b.drop (j + 1)) := by
  (obtain ⟨h1, h2⟩ := List.getElem?_eq_some_iff.1 hx); (obtain ⟨h3, h4⟩ := List.getElem?_eq_some_iff.1 hy); (have e1 : a.drop i = x :: a.drop (i + 1) := by rw [List.drop_eq_getElem_cons h1, h2]); (have e2 : b.drop j = y :: b.drop (j + 1) := by rw [List.drop_eq_getElem_cons h3, h4])
  conv => lhs; rw [e1, e2]
  rw [com.eq_3, ← e1, ← e2]
theorem com_end {a b : List Grp} {i j : Nat} (h : a.length ≤ i ∨ b.length ≤ j) : com (a.drop i) (b.drop j) = 0 := by
  rcases h with h | h
  · rw [List.drop_of_length_le h]; simp [com]
  · rw [List.drop_of_length_le h, com_nil]
theorem com_rest {a b : List Grp} (ha : isPile 7 a = true) (hb : isPile 7 b = true) (i j : Nat) : 0 ≤ com (a.drop i) (b.drop j) := by
  (have h1 := (isPile_iff 7 _).1 ha); (have h2 := (isPile_iff 7 _).1 hb); (exact com_nonneg _ _ (fun g hg => (h1.1 g (List.mem_of_mem_drop hg)).2) (fun g hg => (h2.1 g (List.mem_of_mem_drop hg)).2))
theorem com_tot {a b : List Grp} (ha : isPile 7 a = true) (hb : isPile 7 b = true) : com a b ≤ 100000 ∧ com a b ≤ tot a := by
  (have h1 := (isPile_iff 7 _).1 ha); (have h2 := (isPile_iff 7 _).1 hb); (have := com_le a b (fun g hg => (h1.1 g hg).2) (fun g hg => (h2.1 g hg).2)); (exact ⟨by have := pile_tot ha; omega, this⟩)
end Go.Pil
namespace Go.Proofs.YtaobaaaihgahfaaGreat
open Go.RowKit Go.Mk Go.Pil
set_option maxRecDepth 100000 in
set_option maxHeartbeats 4000000 in
theorem distance_any (va vb : Value) (ps qs : List (Grp × Value)) (w : World) (ha : RdG w va ps) (hb : RdG w vb qs) : Calls Tryz.prog 11 #[va, vb] w fun e w' => e = .returned (.int .i64 (dist (grps ps) (grps qs))) ∧ Kept no w w' := by
  (obtain ⟨aa, ca, rfl, hca, hcam⟩ := ha.shape); (obtain ⟨ab, cb, rfl, hcb, hcbm⟩ := hb.shape); (have hm63 := maxLen_63); (obtain ⟨res, hres⟩ : ∃ res, dist (grps ps) (grps qs) = res := ⟨_, rfl⟩); (rw [hres]); (obtain ⟨la, hla⟩ : ∃ la, ps.length = la := ⟨_, rfl⟩); (obtain ⟨lb, hlb⟩ : ∃ lb, qs.length = lb := ⟨_, rfl⟩); (rw [hla] at ha hca ⊢); (rw [hlb] at hb hcb ⊢); (replace ha := hid ha); (replace hb := hid hb); (replace hla := hid hla); (replace hlb := hid hlb); (have K := hid (Kept.refl no w)); (obtain ⟨Pa, hPa⟩ : ∃ P, isPile 7 (grps ps) = P := ⟨_, rfl⟩); (obtain ⟨Pb, hPb⟩ : ∃ P, isPile 7 (grps qs) = P := ⟨_, rfl⟩); (obtain ⟨Ta, hTa⟩ : ∃ T, total (grps ps) = T := ⟨_, rfl⟩); (obtain ⟨Tb, hTb⟩ : ∃ T, total (grps qs) = T := ⟨_, rfl⟩); (have hd : Hd (res = if Pa = true ∧ Pb = true ∧ Ta = Tb then Ta - com (grps ps) (grps qs) else -1) := ⟨by rw [← hres]; unfold dist; rw [hPa, hPb, hTa, hTb]⟩); (replace hPa := hid hPa); (replace hPb := hid hPb); (replace hTa := hid hTa); (replace hTb := hid hTb); (clear hres)
  cases Pa with
  | false =>
    (have hv : Hd (res = -1) := ⟨by rw [hd.out, if_neg (fun h => by cases h.1)]⟩); (clear hd)
    go_enter Tryz.func11, Tryz.ntmps11
    (have H1 := isany_any _ ps w (ha.out.kept K.out)); (rw [hPa.out] at H1); (replace H1 := hid H1); (go_wp2_with fail); (refine H1.out.mono ?_); (rintro e x1 ⟨rfl, k⟩); (replace K := hid (K.out.trans' k)); (clear H1 k); (go_wp2); (go_ret); (exact ⟨by rw [hv.out] <;> rfl, K.out⟩)
  | true =>
    cases Pb with
    | false =>
      (have hv : Hd (res = -1) := ⟨by rw [hd.out, if_neg (fun h => by cases h.2.1)]⟩); (clear hd)
      go_enter Tryz.func11, Tryz.ntmps11
      (have H1 := isany_any _ ps w (ha.out.kept K.out)); (rw [hPa.out] at H1); (replace H1 := hid H1); (go_wp2_with fail); (refine H1.out.mono ?_); (rintro e x1 ⟨rfl, k⟩); (replace K := hid (K.out.trans' k)); (clear H1 k); (have H2 := isany_any _ qs x1 (hb.out.kept K.out)); (rw [hPb.out] at H2); (replace H2 := hid H2); (go_wp2_with fail); (refine H2.out.mono ?_); (rintro e x2 ⟨rfl, k⟩); (replace K := hid (K.out.trans' k)); (clear H2 k); (go_wp2); (go_ret); (exact ⟨by rw [hv.out] <;> rfl, K.out⟩)
    | true =>
      by_cases hT : Ta = Tb
      · (subst hT); (have hTn : (Ta != Ta) = false := by simp); (have hv : Hd (res = Ta - com (grps ps) (grps qs)) := ⟨by rw [hd.out, if_pos ⟨rfl, rfl, rfl⟩]⟩); (have hcr := hid (com_rest hPa.out hPb.out)); (have hct := com_tot hPa.out hPb.out); (have hTr := total_range (grps ps)); (rw [hTa.out] at hTr); (have hTe : tot (grps ps) = Ta := by have := hTa.out; unfold total at this; rwa [if_pos hPa.out] at this); (rw [hTe] at hct); (replace hct := hid hct); (replace hTr := hid hTr); (clear hd hTe)
        go_enter Tryz.func11, Tryz.ntmps11
        (have H1 := isany_any _ ps w (ha.out.kept K.out)); (rw [hPa.out] at H1); (replace H1 := hid H1); (go_wp2_with fail); (refine H1.out.mono ?_); (rintro e x1 ⟨rfl, k⟩); (replace K := hid (K.out.trans' k)); (clear H1 k); (have H2 := isany_any _ qs x1 (hb.out.kept K.out)); (rw [hPb.out] at H2); (replace H2 := hid H2); (go_wp2_with fail); (refine H2.out.mono ?_); (rintro e x2 ⟨rfl, k⟩); (replace K := hid (K.out.trans' k)); (clear H2 k); (have H3 := total_any _ ps x2 (ha.out.kept K.out)); (rw [hTa.out] at H3); (replace H3 := hid H3); (go_wp2_with fail); (refine H3.out.mono ?_); (rintro e x3 ⟨rfl, k⟩); (replace K := hid (K.out.trans' k)); (clear H3 k); (have H4 := total_any _ qs x3 (hb.out.kept K.out)); (rw [hTb.out] at H4); (replace H4 := hid H4); (go_wp2_with fail); (refine H4.out.mono ?_); (rintro e x4 ⟨rfl, k⟩); (replace K := hid (K.out.trans' k)); (clear H4 k); (go_wp2)
        go_loopw [5, 6, 7] (fun c i j wr => ∃ (ix iy : Nat) (C : Int), ix ≤ la ∧ iy ≤ lb ∧ i = .int .i64 (ix : Int) ∧ j = .int .i64 (iy : Int) ∧ c = .int .i64 C ∧ Hd (0 ≤ C ∧ com (grps ps) (grps qs) = C + com ((grps ps).drop ix) ((grps qs).drop iy)) ∧ Hd (Kept no w wr)) (fun _ i j _ => (la - (intOf i).toNat) + (lb - (intOf j).toNat))
        case atStart => exact ⟨0, 0, 0, by omega, by omega, rfl, rfl, rfl, ⟨by omega, by simp⟩, K⟩
        case round =>
          obtain ⟨ix, iy, C, hx, hy, rfl, rfl, rfl, hC, hW⟩ := hrel
          by_cases hlx : ix < la
          · (have hx1 : (ix : Int) < (la : Int) := by omega); (have hxd : decide ((ix : Int) < (la : Int)) = true := decide_eq_true hx1); (have hx0 : (0 : Int) ≤ (ix : Int) := by omega)
            by_cases hly : iy < lb
            · (have hy1 : (iy : Int) < (lb : Int) := by omega); (have hyd : decide ((iy : Int) < (lb : Int)) = true := decide_eq_true hy1); (have hy0 : (0 : Int) ≤ (iy : Int) := by omega); (obtain ⟨b1, o1, g, vg, rfl, hel1, c0, c1, hz1⟩ := (ha.out.kept hW.out).at ix (by rw [hla.out]; exact hlx)); (obtain ⟨b2, o2, g', vg', rfl, hel2, d0, d1, hz2⟩ := (hb.out.kept hW.out).at iy (by rw [hlb.out]; exact hly)); (have hcd := com_drop (grps_get _ hel1) (grps_get _ hel2)); (have hr1 := hcr.out (ix + 1) (iy + 1)); (have HC := hid (Qt.quiet (w := wr) fun W (kw : Qt wr W) => (compare_any vg vg' g.p g'.p W (hz1.kept kw.kept) (hz2.kept kw.kept)).mono fun e w' ⟨he, hw⟩ => (⟨he, by rw [hw]; exact Qt.refl _⟩ : e = .returned (.int .i64 (cmp g.p g'.p)) ∧ Qt W w'))); (have hcl := cmp_lt g.p g'.p); (have hcg := cmp_gt g.p g'.p); (have hnn : 1 ≤ g.n ∧ 1 ≤ g'.n := ⟨(((isPile_iff 7 _).1 hPa.out).1 g (List.mem_of_getElem? (grps_get _ hel1))).2, (((isPile_iff 7 _).1 hPb.out).1 g' (List.mem_of_getElem? (grps_get _ hel2))).2⟩); (obtain ⟨hn1, hn2⟩ := hnn); (have c0' : (wr).cell? ⟨b1, o1 + ix * 2, none⟩ = some vg := c0); (generalize cmp g.p g'.p = cc at HC hcl hcg); (generalize g.n = N at c1 hcd hn1); (generalize g'.n = M at d1 hcd hn2); (generalize lt g.p g'.p = L1 at hcl hcd); (generalize lt g'.p g.p = L2 at hcg hcd); (have hCC := hC.out); (have hCT := hct.out); (clear hel1 hel2 hz1 hz2)
              by_cases h1 : cc < 0
              · (have h1d : decide (cc < 0) = true := decide_eq_true h1); (have hC' : Hd (0 ≤ C ∧ com (grps ps) (grps qs) = C + com ((grps ps).drop (ix + 1)) ((grps qs).drop iy)) := ⟨hCC.1, by rw [hCC.2, hcd, if_pos (hcl.1 h1)]⟩); (clear hcd hcl hcg hCC hC hr1 hn1 hn2 c1 d1 hCT); (go_wp2_with fail); (go_quiet ((go_at_call 45; exact HC.out _))); (have hW' := hid (hW.out.drewN nq)); (clear HC hW c0 d0 c0'); (go_wp2); (go_roundw)
                case rel => first | exact ⟨ix + 1, iy, C, by omega, by omega, by go_num, rfl, rfl, hC', hW'⟩ | ((repeat apply Exists.intro); exact ⟨⟨ix + 1, iy, C, by omega, by omega, by go_num, rfl, rfl, hC', hW'⟩, rfl⟩)
                case measure => simp [intOf]; omega
              · have h1d : decide (cc < 0) = false := decide_eq_false h1
                by_cases h2 : 0 < cc
                · (have h2d : decide (0 < cc) = true := decide_eq_true h2); (have hC' : Hd (0 ≤ C ∧ com (grps ps) (grps qs) = C + com ((grps ps).drop ix) ((grps qs).drop (iy + 1))) := ⟨hCC.1, by rw [hCC.2, hcd, if_neg (fun h => h1 (hcl.2 h)), if_pos (hcg.1 h2)]⟩); (clear hcd hcl hcg hCC hC hr1 hn1 hn2 c1 d1 hCT); (go_wp2_with fail); (go_quiet ((go_at_call 45; exact HC.out _))); (have hW' := hid (hW.out.drewN nq)); (clear HC hW c0 d0 c0'); (go_wp2); (go_roundw)
                  case rel => first | exact ⟨ix, iy + 1, C, by omega, by omega, rfl, by go_num, rfl, hC', hW'⟩ | ((repeat apply Exists.intro); exact ⟨⟨ix, iy + 1, C, by omega, by omega, rfl, by go_num, rfl, hC', hW'⟩, rfl⟩)
                  case measure => simp [intOf]; omega
                · (have h2d : decide (0 < cc) = false := decide_eq_false h2); (have hcz : cc = 0 := by omega); (subst hcz); (have hde : com (grps ps) (grps qs) = C + (min N M + com ((grps ps).drop (ix + 1)) ((grps qs).drop (iy + 1))) := by rw [hCC.2, hcd, if_neg (fun h => h1 (hcl.2 h)), if_neg (fun h => h2 (hcg.2 h))]); (obtain ⟨X, hX⟩ : ∃ X, min N M = X := ⟨_, rfl⟩); (have hX2 : (if M < N then M else N) = X := by rw [← hX]; split <;> omega); (have hX0 : 1 ≤ X := by omega); (rw [hX] at hde); (have hs : IntKind.i64.wrap (C + X) = C + X := IntWalk.i64_in _ (by omega)); (have hC' : Hd (0 ≤ C + X ∧ com (grps ps) (grps qs) = C + X + com ((grps ps).drop (ix + 1)) ((grps qs).drop (iy + 1))) := ⟨by omega, by rw [hde]; omega⟩); (clear hcd hcl hcg hCC hC hr1 hn1 hn2 hCT hde hX0 h1 h2 h1d h2d); (go_wp2_with fail); (go_quiet ((go_at_call 45; exact HC.out _))); (have hW' := hid (hW.out.drewN nq)); (have e1 : Hd ((wr.drewN nq).cell? ⟨b1, o1 + ix * 2 + 1, none⟩ = some (.int .i64 N)) := ⟨c1⟩); (have e2 : Hd ((wr.drewN nq).cell? ⟨b2, o2 + iy * 2 + 1, none⟩ = some (.int .i64 M)) := ⟨d1⟩); (generalize wr.drewN nq = w3 at hW' e1 e2 ⊢); (clear HC hW c0 d0 c0' c1 d1); (go_upto_region 7 with fail); (refine region_flow (S := no) (Sl := (fun _ => no)) [Is (.int .i64 C), Is (.slice (some ⟨b1, o1, none⟩) la ca), Is (.int .i64 (ix : Int)), Is (.pointer (some ⟨b1, o1 + ix * 2, none⟩)), Is (.pointer (some ⟨b1, o1 + ix * 2 + 1, none⟩)), Is (.int .i64 N), Is (.slice (some ⟨b2, o2, none⟩) lb cb), Is (.int .i64 (iy : Int)), Is (.pointer (some ⟨b2, o2 + iy * 2, none⟩)), Is (.pointer (some ⟨b2, o2 + iy * 2 + 1, none⟩)), Is (.int .i64 M), Is (.int .i64 X), Is (.int .i64 (C + X)), Is (.int .i64 (C + X))] [] (fun _ _ h => h) _ (by kernel_rfl) (by kernel_rfl) (by kernel_rfl) (by kernel_rfl) (fun x => by simp only [puts, Act.put, List.map_cons, List.map_nil, Nat.zero_add, Nat.reduceAdd, List.setIfInBounds_toArray, List.set_cons_zero, List.set_cons_succ]; exact rfl) ?_ ?_)
                  · (skip); (refine Steps.cons (fun x wf Kk hq hdep hold => ?_) ?_)
                    · (try dsimp only); (have h13 : x 13 = (.int .i64 C) := hold 13 (by kernel_rfl)); (clear hq hdep hold); (simp only [h13]); (clear h13); (rw [if_pos (by rfl)]); (refine OpY.val (v := (.int .i64 C)) ?_ ⟨Kept.refl _ _, rfl⟩); (first | rfl | go_simp)
                    refine Steps.cons (fun x wf Kk hq hdep hold => ?_) ?_
                    · (try dsimp only); (clear hq hdep hold); (rw [if_pos (by rfl)]); (refine OpY.val (v := (.slice (some ⟨b1, o1, none⟩) la ca)) ?_ ⟨Kept.refl _ _, rfl⟩); (first | rfl | go_simp)
                    refine Steps.cons (fun x wf Kk hq hdep hold => ?_) ?_
                    · (try dsimp only); (clear hq hdep hold); (rw [if_pos (by rfl)]); (refine OpY.val (v := (.int .i64 (ix : Int))) ?_ ⟨Kept.refl _ _, rfl⟩); (first | rfl | go_simp)
                    refine Steps.cons (fun x wf Kk hq hdep hold => ?_) ?_
                    · (try dsimp only); (have h1 : x 1 = (.slice (some ⟨b1, o1, none⟩) la ca) := hdep 1 (by kernel_rfl)); (have h2 : x 2 = (.int .i64 (ix : Int)) := hdep 2 (by kernel_rfl)); (clear hq hdep hold); (simp only [h1, h2]); (clear h1 h2); (rw [if_pos (by rfl)]); (refine OpY.val (v := (.pointer (some ⟨b1, o1 + ix * 2, none⟩))) ?_ ⟨Kept.refl _ _, rfl⟩); (first | rfl | go_simp)
                    refine Steps.cons (fun x wf Kk hq hdep hold => ?_) ?_
                    · (try dsimp only); (have h3 : x 3 = (.pointer (some ⟨b1, o1 + ix * 2, none⟩)) := hdep 3 (by kernel_rfl)); (clear hq hdep hold); (simp only [h3]); (clear h3); (rw [if_pos (by rfl)]); (refine OpY.val (v := (.pointer (some ⟨b1, o1 + ix * 2 + 1, none⟩))) ?_ ⟨Kept.refl _ _, rfl⟩); (first | rfl | go_simp)
                    refine Steps.cons (fun x wf Kk hq hdep hold => ?_) ?_
                    · (try dsimp only); (have h4 : x 4 = (.pointer (some ⟨b1, o1 + ix * 2 + 1, none⟩)) := hdep 4 (by kernel_rfl)); (have Kq := hq no (fun j hj => by cases (show j ∈ ([] : List Nat) from by (have e : ∀ l : List Nat, l = [] → j ∈ l → j ∈ ([] : List Nat) := fun l h h2 => h ▸ h2); exact e _ (by kernel_rfl) hj))); (clear hq hdep hold); (simp only [h4]); (clear h4); (have cvf := Kq.undrew.cell e1.out id); (rw [if_pos (by rfl)]); (refine OpY.val (v := (.int .i64 N)) ?_ ⟨Kept.refl _ _, rfl⟩); (first | rfl | go_simp)
                    refine Steps.cons (fun x wf Kk hq hdep hold => ?_) ?_
                    · (try dsimp only); (clear hq hdep hold); (rw [if_pos (by rfl)]); (refine OpY.val (v := (.slice (some ⟨b2, o2, none⟩) lb cb)) ?_ ⟨Kept.refl _ _, rfl⟩); (first | rfl | go_simp)
                    refine Steps.cons (fun x wf Kk hq hdep hold => ?_) ?_
                    · (try dsimp only); (clear hq hdep hold); (rw [if_pos (by rfl)]); (refine OpY.val (v := (.int .i64 (iy : Int))) ?_ ⟨Kept.refl _ _, rfl⟩); (first | rfl | go_simp)
                    refine Steps.cons (fun x wf Kk hq hdep hold => ?_) ?_
                    · (try dsimp only); (have h6 : x 6 = (.slice (some ⟨b2, o2, none⟩) lb cb) := hdep 6 (by kernel_rfl)); (have h7 : x 7 = (.int .i64 (iy : Int)) := hdep 7 (by kernel_rfl)); (clear hq hdep hold); (simp only [h6, h7]); (clear h6 h7); (rw [if_pos (by rfl)]); (refine OpY.val (v := (.pointer (some ⟨b2, o2 + iy * 2, none⟩))) ?_ ⟨Kept.refl _ _, rfl⟩); (first | rfl | go_simp)
                    refine Steps.cons (fun x wf Kk hq hdep hold => ?_) ?_
                    · (try dsimp only); (have h8 : x 8 = (.pointer (some ⟨b2, o2 + iy * 2, none⟩)) := hdep 8 (by kernel_rfl)); (clear hq hdep hold); (simp only [h8]); (clear h8); (rw [if_pos (by rfl)]); (refine OpY.val (v := (.pointer (some ⟨b2, o2 + iy * 2 + 1, none⟩))) ?_ ⟨Kept.refl _ _, rfl⟩); (first | rfl | go_simp)
                    refine Steps.cons (fun x wf Kk hq hdep hold => ?_) ?_
                    · (try dsimp only); (have h9 : x 9 = (.pointer (some ⟨b2, o2 + iy * 2 + 1, none⟩)) := hdep 9 (by kernel_rfl)); (have Kq := hq no (fun j hj => by cases (show j ∈ ([] : List Nat) from by (have e : ∀ l : List Nat, l = [] → j ∈ l → j ∈ ([] : List Nat) := fun l h h2 => h ▸ h2); exact e _ (by kernel_rfl) hj))); (clear hq hdep hold); (simp only [h9]); (clear h9); (have cvf := Kq.undrew.cell e2.out id); (rw [if_pos (by rfl)]); (refine OpY.val (v := (.int .i64 M)) ?_ ⟨Kept.refl _ _, rfl⟩); (first | rfl | go_simp)
                    refine Steps.cons (fun x wf Kk hq hdep hold => ?_) ?_
                    · (try dsimp only); (have h5 : x 5 = (.int .i64 N) := hdep 5 (by kernel_rfl)); (have h10 : x 10 = (.int .i64 M) := hdep 10 (by kernel_rfl)); (clear hq hdep hold); (simp only [h5, h10]); (clear h5 h10); (rw [if_pos (by rfl)]); (refine OpY.val (v := (.int .i64 X)) ?_ ⟨Kept.refl _ _, rfl⟩); (first | rfl | go_simp)
                    refine Steps.cons (fun x wf Kk hq hdep hold => ?_) ?_
                    · (try dsimp only); (have h0 : x 0 = (.int .i64 C) := hdep 0 (by kernel_rfl)); (have h11 : x 11 = (.int .i64 X) := hdep 11 (by kernel_rfl)); (clear hq hdep hold); (simp only [h0, h11]); (clear h0 h11); (rw [if_pos (by rfl)]); (refine OpY.val (v := (.int .i64 (C + X))) ?_ ⟨Kept.refl _ _, rfl⟩); (first | rfl | go_simp)
                    refine Steps.cons (fun x wf Kk hq hdep hold => ?_) ?_
                    · (try dsimp only); (have h12 : x 12 = (.int .i64 (C + X)) := hdep 12 (by kernel_rfl)); (clear hq hdep hold); (simp only [h12]); (clear h12); (rw [if_pos (by rfl)]); (refine OpY.val (v := (.int .i64 (C + X))) ?_ ⟨Kept.refl _ _, rfl⟩); (first | rfl | go_simp)
                    exact Steps.nil _
                  · (intro x wf Kk hv); (try dsimp only); (have h0 : x 0 = (.int .i64 C) := hv 0 (by kernel_rfl)); (have h1 : x 1 = (.slice (some ⟨b1, o1, none⟩) la ca) := hv 1 (by kernel_rfl)); (have h2 : x 2 = (.int .i64 (ix : Int)) := hv 2 (by kernel_rfl)); (have h3 : x 3 = (.pointer (some ⟨b1, o1 + ix * 2, none⟩)) := hv 3 (by kernel_rfl)); (have h4 : x 4 = (.pointer (some ⟨b1, o1 + ix * 2 + 1, none⟩)) := hv 4 (by kernel_rfl)); (have h5 : x 5 = (.int .i64 N) := hv 5 (by kernel_rfl)); (have h6 : x 6 = (.slice (some ⟨b2, o2, none⟩) lb cb) := hv 6 (by kernel_rfl)); (have h7 : x 7 = (.int .i64 (iy : Int)) := hv 7 (by kernel_rfl)); (have h8 : x 8 = (.pointer (some ⟨b2, o2 + iy * 2, none⟩)) := hv 8 (by kernel_rfl)); (have h9 : x 9 = (.pointer (some ⟨b2, o2 + iy * 2 + 1, none⟩)) := hv 9 (by kernel_rfl)); (have h10 : x 10 = (.int .i64 M) := hv 10 (by kernel_rfl)); (have h11 : x 11 = (.int .i64 X) := hv 11 (by kernel_rfl)); (have h12 : x 12 = (.int .i64 (C + X)) := hv 12 (by kernel_rfl)); (have h13 : x 13 = (.int .i64 (C + X)) := hv 13 (by kernel_rfl)); (clear hv); (simp only [h0, h1, h2, h3, h4, h5, h6, h7, h8, h9, h10, h11, h12, h13]); (clear h0 h1 h2 h3 h4 h5 h6 h7 h8 h9 h10 h11 h12 h13); (have hW3 := hid (hW'.out.trans' Kk.undrew)); (clear Kk hW' e1 e2); (go_wp2); (go_roundw)
                    case rel => first | exact ⟨ix + 1, iy + 1, C + X, by omega, by omega, by go_num, by go_num, rfl, hC', hW3⟩ | ((repeat apply Exists.intro); exact ⟨⟨ix + 1, iy + 1, C + X, by omega, by omega, by go_num, by go_num, rfl, hC', hW3⟩, rfl⟩)
                    case measure => simp [intOf]; omega
            · (have hyd : decide ((iy : Int) < (lb : Int)) = false := decide_eq_false (by omega)); (have hCe : Hd (com (grps ps) (grps qs) = C) := ⟨by rw [hC.out.2, com_end (.inr (by rw [grps_length, hlb.out]; omega)), Int.add_zero]⟩); (have HT := total_any _ ps wr (ha.out.kept hW.out)); (rw [hTa.out] at HT); (replace HT := hid HT); (have hcc := hct.out); (have hTT := hTr.out); (rw [hCe.out] at hcc); (have hC0 := hC.out.1); (have hs : IntKind.i64.wrap (Ta - C) = Ta - C := IntWalk.i64_in _ (by omega)); (have hv' : Hd (res = Ta - C) := ⟨by rw [hv.out, hCe.out]⟩); (clear hcc hTT hC hC0 hv hCe hct hTr hcr); (go_wp2_with fail); (refine HT.out.mono ?_); (rintro e w3 ⟨rfl, k3⟩); (have hW' := hid (hW.out.trans' k3)); (clear k3 HT hW); (go_wp2); (go_ret); (exact ⟨by rw [hv'.out] <;> rfl, hW'.out⟩)
          · (have hxd : decide ((ix : Int) < (la : Int)) = false := decide_eq_false (by omega)); (have hx1 : ¬ (ix : Int) < (la : Int) := by omega); (have hCe : Hd (com (grps ps) (grps qs) = C) := ⟨by rw [hC.out.2, com_end (.inl (by rw [grps_length, hla.out]; omega)), Int.add_zero]⟩); (have HT := total_any _ ps wr (ha.out.kept hW.out)); (rw [hTa.out] at HT); (replace HT := hid HT); (have hcc := hct.out); (have hTT := hTr.out); (rw [hCe.out] at hcc); (have hC0 := hC.out.1); (have hs : IntKind.i64.wrap (Ta - C) = Ta - C := IntWalk.i64_in _ (by omega)); (have hv' : Hd (res = Ta - C) := ⟨by rw [hv.out, hCe.out]⟩); (clear hcc hTT hC hC0 hv hCe hct hTr hcr); (go_wp2_with fail); (refine HT.out.mono ?_); (rintro e w3 ⟨rfl, k3⟩); (have hW' := hid (hW.out.trans' k3)); (clear k3 HT hW); (go_wp2); (go_ret); (exact ⟨by rw [hv'.out] <;> rfl, hW'.out⟩)
      · (have hTn : (Ta != Tb) = true := by simpa using hT); (have hv : Hd (res = -1) := ⟨by rw [hd.out, if_neg (fun h => hT h.2.2)]⟩); (clear hd hT)
        go_enter Tryz.func11, Tryz.ntmps11
        (have H1 := isany_any _ ps w (ha.out.kept K.out)); (rw [hPa.out] at H1); (replace H1 := hid H1); (go_wp2_with fail); (refine H1.out.mono ?_); (rintro e x1 ⟨rfl, k⟩); (replace K := hid (K.out.trans' k)); (clear H1 k); (have H2 := isany_any _ qs x1 (hb.out.kept K.out)); (rw [hPb.out] at H2); (replace H2 := hid H2); (go_wp2_with fail); (refine H2.out.mono ?_); (rintro e x2 ⟨rfl, k⟩); (replace K := hid (K.out.trans' k)); (clear H2 k); (have H3 := total_any _ ps x2 (ha.out.kept K.out)); (rw [hTa.out] at H3); (replace H3 := hid H3); (go_wp2_with fail); (refine H3.out.mono ?_); (rintro e x3 ⟨rfl, k⟩); (replace K := hid (K.out.trans' k)); (clear H3 k); (have H4 := total_any _ qs x3 (hb.out.kept K.out)); (rw [hTb.out] at H4); (replace H4 := hid H4); (go_wp2_with fail); (refine H4.out.mono ?_); (rintro e x4 ⟨rfl, k⟩); (replace K := hid (K.out.trans' k)); (clear H4 k); (go_wp2); (go_ret); (exact ⟨by rw [hv.out] <;> rfl, K.out⟩)
end Go.Proofs.YtaobaaaihgahfaaGreat

/- A list of ballots of one's own, whose ballots are those of an older world; slices of ballots. -/
namespace Go.Pil
end Go.Pil
namespace Go.Proofs.YtaobaaaihgahfaaGreat
open Go.RowKit Go.Mk Go.Pil
theorem RdB.addr {w : World} {av : Option Addr} {lv cv : Nat} {bs : List (List Int × Value)} (h : RdB w (.slice av lv cv) bs) : cv = 0 ∨ ∃ b o, av = some ⟨b, o, none⟩ := by
  obtain ⟨_, _, _, _, e, _, _, h | ⟨b, o, rfl, _⟩⟩ := h
  · cases e; exact .inl h
  · cases e; exact .inr ⟨b, o, rfl⟩
theorem pre_sliceB (av : Option Addr) (lv cv m : Nat) (hav : cv = 0 ∨ ∃ b o, av = some ⟨b, o, none⟩) (hm : m ≤ cv) (w : World) : (Instr.slice 25 (.slice av lv cv) none (some (.int .i64 (m : Int))) none).run Tryz.prog w = .ok (.slice av m cv) w := by
  (have h0 : (0 : Int) ≤ (m : Int) := by omega); (have hc : Tryz.prog.underlying 25 = some (.slice 26) := by kernel_rfl)
  rcases hav with rfl | ⟨b, o, rfl⟩
  · obtain rfl : m = 0 := by omega
    simp [Instr.slice, Instr.sliceBounds, Instr.sliceBound, run_underlying hc, asIntOf]
  · simp [Instr.slice, Instr.sliceBounds, Instr.sliceBound, run_underlying hc, asIntOf, h0]
    (have e : (⟨b, o, none⟩ : Addr).add 0 = ⟨b, o, none⟩ := by simp [Addr.add]); (rw [if_pos hm, e]; simp)
theorem RdB.take {w : World} {ao : Option Addr} {n cap : Nat} {bs : List (List Int × Value)} (h : RdB w (.slice ao n cap) bs) (k : Nat) (hk : k ≤ bs.length) : RdB w (.slice ao k cap) (bs.take k) := by
  (refine ⟨fun x hx => h.1 x (List.mem_of_mem_take hx), ?_⟩); (obtain ⟨_, hl, _, _, e, h1, h2, h3⟩ := h)
  cases e
  (have hlk : (bs.take k).length = k := by rw [List.length_take]; omega); (refine ⟨by simp, ao, cap, by rw [hlk], by omega, h2, h3.imp id fun ⟨b, o, e, hc⟩ => ⟨b, o, e, fun j u hj => hc j u ?_⟩⟩); (rw [List.map_take, List.getElem?_take] at hj)
  split at hj
  · exact hj
  · cases hj
theorem lists_take (bs : List (List Int × Value)) (k : Nat) : lists (bs.take k) = (lists bs).take k := by simp [lists, List.map_take]
end Go.Proofs.YtaobaaaihgahfaaGreat
