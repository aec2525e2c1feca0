/- electionlaw31.swapped: two candidates exchanged on some ballots (printed by gen_swp.py). -/
import Derived.Test.YtkdmlakookgolaaUppLZ
import Derived.Test.YtkdmlakookgolaaCntZ
import Derived.Test.YtkdmlakookgolaaAddZ
import Derived.Test.YtkdmlakookgolaaGenZ
namespace Go.Mg
open Go.Pil
theorem sw_take {x y : Int} {p : List Int} {j : Nat} (hj : j < p.length) : sw x y (p.take (j + 1)) = sw x y (p.take j) ++ [sw1 x y (p.getD j 0)] := by
  (unfold sw); (rw [List.take_succ_eq_append_getElem hj, List.map_append, List.getD_eq_getElem?_getD, List.getElem?_eq_getElem hj]; rfl)
theorem sw_fold_take {x y : Int} {l : List Grp} {s : List Grp × Int} {j : Nat} {g : Grp} (h : l[j]? = some g) : (l.take (j + 1)).foldl (swStep x y) s = swStep x y ((l.take j).foldl (swStep x y) s) g := by
  (obtain ⟨h1, h2⟩ := List.getElem?_eq_some_iff.1 h); (rw [List.take_succ_eq_append_getElem h1, h2, List.foldl_append]; rfl)
theorem sw_pos {x y : Int} {gs : List Grp} {u : Int} (j : Nat) {l : List Grp} {k : Int} (h : (gs.take j).foldl (swStep x y) ([], u) = (l, k)) (hu : 0 ≤ u) (hp : ∀ g ∈ gs, 1 ≤ g.n) (ht : tot gs ≤ 100000) : (∀ g ∈ l, 1 ≤ g.n) ∧ tot l ≤ 100000 := by
  (rw [sw_fold] at h); (have hl : l = swL x y (gs.take j) u := by simpa using (congrArg Prod.fst h).symm); (have hpt : ∀ g ∈ gs.take j, 1 ≤ g.n := fun g hg => hp g (List.mem_of_mem_take hg)); (rw [hl]); (refine ⟨swL_pos x y _ u, ?_⟩); (rw [swL_tot x y _ u hu hpt]); (have e : tot gs = tot (gs.take j) + tot (gs.drop j) := by rw [← tot_append, List.take_append_drop]); (have := tot_nonneg (l := gs.drop j) fun g hg => hp g (List.mem_of_mem_drop hg))
  omega
end Go.Mg
namespace Go.Proofs.Ytkdmlakookgolaa
open Go.RowKit Go.Mk Go.Pil Go.Mg
theorem pileOf_add (l : List Grp) (p : List Int) (n : Int) : addG (pileOf l) p n = pileOf (l ++ [⟨p, n⟩]) := by unfold pileOf; rw [List.foldl_append]; rfl
set_option maxRecDepth 100000 in
set_option maxHeartbeats 4000000 in
theorem swapped_any (v : Value) (ps : List (Grp × Value)) (x y u : Int) (w : World) (hr : RdG w v ps) (hp : isPile 7 (grps ps) = true) (hu : 0 ≤ u ∧ u ≤ 100000) :
    Calls Try.prog 49 #[v, .int .i64 x, .int .i64 y, .int .i64 u] w fun e w' => ∃ v', e = .returned v' ∧ GR w w' v' (pileOf (swL x y (grps ps) u)) := by
  (obtain ⟨ao, cap, rfl, hcap, hcm⟩ := hr.shape); (have hm63 := maxLen_63); (have hpp := hid ((isPile_iff 7 _).1 hp))
  have hsh : Hd (ps.length ≤ 100000) := ⟨by
    (have h1 := len_tot (l := grps ps) fun g hg => (hpp.out.1 g hg).2); (rw [grps_length] at h1); (have h2 := hpp.out.2.1)
    omega⟩
  (clear hp); (obtain ⟨len, hlen⟩ : ∃ len, ps.length = len := ⟨_, rfl⟩); (have hl5 : len ≤ 100000 := by have := hsh.out; omega); (rw [hlen] at hr hcap ⊢); (replace hlen := hid hlen); (replace hr := hid hr); (have hres : Hd (∀ k l, (grps ps).foldl (swStep x y) ([], u) = (l, k) → l = swL x y (grps ps) u) := ⟨fun k l h => by rw [sw_fold] at h; simpa using (congrArg Prod.fst h).symm⟩); (have hsp := hid (fun (j : Nat) (l : List Grp) (k : Int) (h : ((grps ps).take j).foldl (swStep x y) ([], u) = (l, k)) => sw_pos j h hu.1 (fun g hg => (hpp.out.1 g hg).2) hpp.out.2.1))
  go_enter Try.func49, Try.ntmps49
  go_wp2
  go_loopw [3, 9, 10] (fun K out i wr => ∃ (j : Nat) (rs : List (Grp × Value)) (l : List Grp) (k : Int), j ≤ len ∧ i = .int .i64 (j : Int) ∧ K = .int .i64 k ∧ 0 ≤ k ∧ k ≤ 100000 ∧ Hd (((grps ps).take j).foldl (swStep x y) ([], u) = (l, k)) ∧ Hd (grps rs = pileOf l) ∧ Hd (RdG wr out rs) ∧ Hd (Kept no w wr)) (fun _ _ i _ => len - (intOf i).toNat)
  case atStart => exact ⟨0, [], [], u, by omega, rfl, rfl, hu.1, hu.2, ⟨rfl⟩, ⟨rfl⟩, ⟨(fun x hx => by cases hx), nil_rd _ _⟩, ⟨Kept.refl _ _⟩⟩
  case round =>
    obtain ⟨j, rs, l, k, hj, rfl, rfl, hk0, hk1, hfo, hrs, hR, hW⟩ := hrel
    by_cases hlt : j < len
    · (have hj1 : (j : Int) < (len : Int) := by omega); (have hj0 : (0 : Int) ≤ (j : Int) := by omega); (obtain ⟨b, o, g, vg, rfl, hel, c0, c1, hz⟩ := (hr.out.kept hW.out).at j (by rw [hlen.out]; exact hlt)); (have hgk := grps_get _ hel); (have hgm := List.mem_of_getElem? hgk); (have hg1 := (hpp.out.1 g hgm).2)
      have hg2 : g.n ≤ 100000 := by
        (have h2 := n_le_tot (fun y hy => (hpp.out.1 y hy).2) g hgm); (have h3 := hpp.out.2.1)
        omega
      (have hgl : g.p.length ≤ 1000000 := by have := ballot_len (hpp.out.1 g hgm).1 (by omega); omega); (have hft := hid (sw_fold_take (x := x) (y := y) (s := ([], u)) hgk)); (rw [hfo.out] at hft); (have hsl := hsp.out j l k hfo.out); (have hsm : Hd (small rs) := ⟨small_of (by rw [hrs.out]; exact pileOf_pos hsl.1) (by rw [hrs.out, pileOf_tot hsl.1]; exact hsl.2)⟩); (obtain ⟨av, cv, rfl, _, _⟩ := Rd.shape2 hz); (obtain ⟨lv, hlv⟩ : ∃ lv, g.p.length = lv := ⟨_, rfl⟩); (rw [hlv] at c0 hz hgl); (replace hz := hid hz); (replace hlv := hid hlv); (have hst : Hd (∀ t, takeK x y k g = t → swStep x y (l, k) g = (l ++ swOne x y t g, k - t)) := ⟨fun t h => by unfold swStep; rw [h]⟩); (obtain ⟨N, hN⟩ : ∃ N, g.n = N := ⟨_, rfl⟩); (rw [hN] at c1 hg1 hg2); (clear hel hgk hgm hsl hfo); (go_upto_region 6 with fail); (obtain ⟨w1, hw1, g1, k1⟩ := alloc_named wr (.cells #[.slice av lv cv, .int .i64 N] 74)); (rw [← hw1]); (have d0 : w1.cell? ⟨wr.heap.size, 0, none⟩ = some (.slice av lv cv) := by rw [cell_of_row w1 _ 0 _ _ _ g1]; rfl); (have d1 : w1.cell? ⟨wr.heap.size, 1, none⟩ = some (.int .i64 N) := by rw [cell_of_row w1 _ 1 _ _ _ g1]; rfl); (have K1 := hid (hW.out.trans' k1)); (have hR1 := hid (hR.out.kept k1)); (have hz1 := hid (hz.out.kept k1)); (generalize wr.heap.size = q at d0 d1); (have H1 := hid (fun z => Qt.quiet (w := w1) fun W (kw : Qt w1 W) => place_any (.slice av lv cv) g.p z W (hz1.out.kept kw.kept))); (obtain ⟨ix, hix⟩ : ∃ ix, g.p.idxOf x = ix := ⟨_, rfl⟩); (obtain ⟨iy, hiy⟩ : ∃ iy, g.p.idxOf y = iy := ⟨_, rfl⟩); (have hpf : Hd (pref g.p x y = decide (ix < iy)) := ⟨by unfold pref; rw [hix, hiy]⟩); (clear hw1 g1 k1 c0 c1 hW hR hz)
      by_cases hlt2 : ix < iy
      · (have hd2 : decide ((ix : Int) < (iy : Int)) = true := decide_eq_true (by omega)); (have hlt3 : (ix : Int) < (iy : Int) := by omega)
        by_cases hkN : k < N
        · (have hT : takeK x y k g = k := by unfold takeK; rw [hpf.out, if_pos (decide_eq_true hlt2), hN]; omega); (have hTm : min k N = k := by omega); (have hTi : (if N < k then N else k) = k := by rw [if_neg (by omega)]); (rw [hst.out k hT] at hft); (have hkk : k - k = 0 := by omega); (rw [hkk] at hft); (have hwk : IntKind.i64.wrap (k - k) = 0 := by rw [hkk]; rfl); (have hdN : decide (k < N) = true := decide_eq_true hkN); (have hwn : IntKind.i64.wrap (N - k) = N - k := IntWalk.i64_in _ (by omega)); (clear hst hT hpf hlt2 hkk); (go_wp2_with fail); (go_quiet ((go_at_call 93; exact H1.out _ _))); (try rw [hix, hiy]); (obtain ⟨w2, hw2⟩ : ∃ w2, w2 = w1.drewN nq := ⟨_, rfl⟩); (have k12 : Kept no w1 w2 := by rw [hw2]; exact (Kept.refl no w1).drewN nq); (have K2 := hid (K1.out.trans' k12)); (have hR2 := hid (hR1.out.kept k12)); (have hz2 := hid (hz1.out.kept k12)); (have e0 := hid (k12.cell d0 id)); (have e1 := hid (k12.cell d1 id)); (rw [← hw2]); (clear hw2 k12 K1 hR1 hz1 d0 d1 H1 hix hiy); (have e1' := e1.out); (have e0' := e0.out); (have HA := hid (refadd_any u9 (.slice av lv cv) rs g.p (N - k) w2 hR2.out hz2.out hsm.out (by omega))); (go_wp2_with fail); (with_reducible refine HA.out.mono ?_); (rintro e w3 ⟨v3, rs3, rfl, o3, hg3⟩); (have k3 := hid (K2.out.trans' o3.kept)); (have hz3 := hid (hz2.out.kept o3.kept)); (have f0 := hid (o3.kept.cell e0.out id)); (have hR3 := hid o3.rd); (rw [hrs.out, pileOf_add] at hg3); (replace hg3 := hid hg3); (clear HA o3 hR2 hz2 e0 e1 e0' e1' K2 hsm)
          by_cases hT1 : 0 < k
          · (have hdT : decide (0 < k) = true := decide_eq_true hT1); (have hone : swOne x y k g = [⟨g.p, N - k⟩] ++ [⟨sw x y g.p, k⟩] := by unfold swOne; rw [hN, if_pos hkN, if_pos hT1]); (rw [hone, ← List.append_assoc] at hft); (have hsl2 := hsp.out (j + 1) _ _ hft.out)
            have hsm3 : Hd (small rs3) := ⟨by
              (have hp1 : ∀ g' ∈ l ++ [(⟨g.p, N - k⟩ : Grp)], 1 ≤ g'.n := fun g' hg' => hsl2.1 g' (List.mem_append_left _ hg')); (refine small_of (by rw [hg3.out]; exact pileOf_pos hp1) ?_); (rw [hg3.out, pileOf_tot hp1]); (have := hsl2.2); (rw [tot_append] at this); (have h1 : tot [(⟨sw x y g.p, k⟩ : Grp)] = k := by simp [tot])
              omega⟩
            (clear hone hsl2 hrs); (have hlv0 := hlv.out); (go_wp2)
            go_loopw [13, 14] (fun out i wr => ∃ m : Nat, m ≤ lv ∧ i = .int .i64 (m : Int) ∧ Hd (OwZ w3 wr out (sw x y (g.p.take m)))) (fun _ i _ => lv - (intOf i).toNat)
            case atStart => exact ⟨0, by omega, rfl, ⟨by rw [List.take_zero]; exact OwZ.nil w3⟩⟩
            case round =>
              (obtain ⟨m, hm, rfl, hO⟩ := hrel); (have dd := hO.out.kept.cell f0.out id)
              by_cases hml : m < lv
              · (have hm1 : (m : Int) < (lv : Int) := by omega); (have hm0 : (0 : Int) ≤ (m : Int) := by omega); (obtain ⟨ba, oa, rfl, hc⟩ := RdZ.at (show RdZ wr (.slice av lv cv) g.p from hz3.out.kept hO.out.kept) m (by rw [hlv.out]; exact hml)); (have hnx := hid (sw_take (x := x) (y := y) (show m < g.p.length by rw [hlv.out]; exact hml)))
                have hl1 : Hd ((sw x y (g.p.take m)).length + 1 ≤ maxLen ∧ ((sw x y (g.p.take m)).length + 1) * 8 ≤ 140737488355328) := ⟨by
                  (have : (sw x y (g.p.take m)).length ≤ m := by unfold sw; rw [List.length_map, List.length_take]; omega); (have hmx : maxLen = 9223372036854775807 := rfl)
                  omega⟩
                generalize g.p.getD m 0 = z at hc hnx
                by_cases hzx : z = x
                · (subst hzx); (have hzb : (z == z) = true := by simp); (have hs1 : sw1 z y z = y := by unfold sw1; rw [if_pos rfl]); (rw [hs1] at hnx); (clear hs1); (go_wp2_with (at_builtin; refine wpList_append_lit _ rfl _ _ 40 rfl 3 1 8 TInts _ _ _ rfl hO.out.own 1 [_] rfl rfl ?c1 ?c2 ?c3 ?_))
                  case c1 => simp [Value.oneCell']
                  case c2 => exact hl1.out.1
                  case c3 => exact hl1.out.2
                  (intro v' w5 h2 h3 h4 _); (have hO' : Hd (OwZ w3 w5 v' (sw z y (g.p.take (m + 1)))) := ⟨by rw [hnx.out]; exact hO.out.add _ h2 h3 h4⟩); (clear h2 h3 h4 hO hnx hl1 hc dd); (go_wp2); (go_roundw)
                  case rel => first | exact ⟨m + 1, by omega, by go_num, hO'⟩ | ((repeat apply Exists.intro); exact ⟨⟨m + 1, by omega, by go_num, hO'⟩, rfl⟩)
                  case measure => simp [intOf]; omega
                · have hzb : (z == x) = false := by rw [beq_eq_false_iff_ne]; exact hzx
                  by_cases hzy : z = y
                  · (subst hzy); (have hzb2 : (z == z) = true := by simp); (have hs1 : sw1 x z z = x := by unfold sw1; rw [if_neg hzx, if_pos rfl]); (rw [hs1] at hnx); (clear hs1); (go_wp2_with (at_builtin; refine wpList_append_lit _ rfl _ _ 40 rfl 3 1 8 TInts _ _ _ rfl hO.out.own 1 [_] rfl rfl ?c1 ?c2 ?c3 ?_))
                    case c1 => simp [Value.oneCell']
                    case c2 => exact hl1.out.1
                    case c3 => exact hl1.out.2
                    (intro v' w5 h2 h3 h4 _); (have hO' : Hd (OwZ w3 w5 v' (sw x z (g.p.take (m + 1)))) := ⟨by rw [hnx.out]; exact hO.out.add _ h2 h3 h4⟩); (clear h2 h3 h4 hO hnx hl1 hc dd); (go_wp2); (go_roundw)
                    case rel => first | exact ⟨m + 1, by omega, by go_num, hO'⟩ | ((repeat apply Exists.intro); exact ⟨⟨m + 1, by omega, by go_num, hO'⟩, rfl⟩)
                    case measure => simp [intOf]; omega
                  · (have hzb2 : (z == y) = false := by rw [beq_eq_false_iff_ne]; exact hzy); (have hs1 : sw1 x y z = z := by unfold sw1; rw [if_neg hzx, if_neg hzy]); (rw [hs1] at hnx); (clear hs1); (go_wp2_with (at_builtin; refine wpList_append_lit _ rfl _ _ 40 rfl 3 1 8 TInts _ _ _ rfl hO.out.own 1 [_] rfl rfl ?c1 ?c2 ?c3 ?_))
                    case c1 => simp [Value.oneCell']
                    case c2 => exact hl1.out.1
                    case c3 => exact hl1.out.2
                    (intro v' w5 h2 h3 h4 _); (have hO' : Hd (OwZ w3 w5 v' (sw x y (g.p.take (m + 1)))) := ⟨by rw [hnx.out]; exact hO.out.add _ h2 h3 h4⟩); (clear h2 h3 h4 hO hnx hl1 hc dd); (go_wp2); (go_roundw)
                    case rel => first | exact ⟨m + 1, by omega, by go_num, hO'⟩ | ((repeat apply Exists.intro); exact ⟨⟨m + 1, by omega, by go_num, hO'⟩, rfl⟩)
                    case measure => simp [intOf]; omega
              · (obtain rfl : m = lv := by omega); (have hsw : Hd (OwZ w3 wr u13 (sw x y g.p)) := ⟨by have := hO.out; rwa [← hlv.out, List.take_length] at this⟩); (have HB := hid (refadd_any v3 u13 rs3 (sw x y g.p) k wr (hR3.out.kept hsw.out.kept) hsw.out.rd hsm3.out (by omega))); (have kW := hid (k3.out.trans' hsw.out.kept)); (clear hO); (go_wp2_with fail); (with_reducible refine HB.out.mono ?_); (rintro e w5 ⟨v5, rs5, rfl, o5, hg5⟩); (have kW5 := hid (kW.out.trans' o5.kept)); (have hR5 := hid o5.rd); (rw [hg3.out, pileOf_add] at hg5); (replace hg5 := hid hg5); (clear HB o5 kW hsw dd); (go_wp2); (go_roundw)
                case rel => first | exact ⟨j + 1, rs5, _, 0, by omega, by go_num, rfl, by omega, by omega, hft, hg5, hR5, kW5⟩ | ((repeat apply Exists.intro); exact ⟨⟨j + 1, rs5, _, 0, by omega, by go_num, rfl, by omega, by omega, hft, hg5, hR5, kW5⟩, rfl⟩)
                case measure => simp [intOf]; omega
          · (obtain rfl : k = 0 := by omega); (have hone : swOne x y 0 g = [⟨g.p, N - 0⟩] := by unfold swOne; rw [hN, if_pos hkN, if_neg (by omega)]; rfl); (rw [hone] at hft); (clear hone hrs hz3 f0); (go_wp2); (go_roundw)
            case rel => first | exact ⟨j + 1, rs3, _, 0, by omega, by go_num, rfl, by omega, by omega, hft, hg3, hR3, k3⟩ | ((repeat apply Exists.intro); exact ⟨⟨j + 1, rs3, _, 0, by omega, by go_num, rfl, by omega, by omega, hft, hg3, hR3, k3⟩, rfl⟩)
            case measure => simp [intOf]; omega
        · (have hT : takeK x y k g = N := by unfold takeK; rw [hpf.out, if_pos (decide_eq_true hlt2), hN]; omega); (have hTm : min k N = N := by omega); (have hTi : (if N < k then N else k) = N := by split <;> omega); (rw [hst.out N hT] at hft); (have hwk : IntKind.i64.wrap (k - N) = k - N := IntWalk.i64_in _ (by omega)); (have hdN : decide (N < N) = false := decide_eq_false (by omega)); (have hTN : ¬ N < N := by omega); (have hT1 : 0 < N := by omega); (have hdT : decide (0 < N) = true := decide_eq_true hT1); (have hone : swOne x y N g = [⟨sw x y g.p, N⟩] := by unfold swOne; rw [hN, if_neg (by omega), if_pos hT1]; rfl); (rw [hone] at hft); (clear hst hT hpf hlt2 hone); (go_wp2_with fail); (go_quiet ((go_at_call 93; exact H1.out _ _))); (try rw [hix, hiy]); (obtain ⟨w2, hw2⟩ : ∃ w2, w2 = w1.drewN nq := ⟨_, rfl⟩); (have k12 : Kept no w1 w2 := by rw [hw2]; exact (Kept.refl no w1).drewN nq); (have K2 := hid (K1.out.trans' k12)); (have hR2 := hid (hR1.out.kept k12)); (have hz2 := hid (hz1.out.kept k12)); (have e0 := hid (k12.cell d0 id)); (have e1 := hid (k12.cell d1 id)); (rw [← hw2]); (clear hw2 k12 K1 hR1 hz1 d0 d1 H1 hix hiy); (have e1' := e1.out); (have hlv0 := hlv.out); (go_wp2)
          go_loopw [13, 14] (fun out i wr => ∃ m : Nat, m ≤ lv ∧ i = .int .i64 (m : Int) ∧ Hd (OwZ w2 wr out (sw x y (g.p.take m)))) (fun _ i _ => lv - (intOf i).toNat)
          case atStart => exact ⟨0, by omega, rfl, ⟨by rw [List.take_zero]; exact OwZ.nil w2⟩⟩
          case round =>
            (obtain ⟨m, hm, rfl, hO⟩ := hrel); (have dd := hO.out.kept.cell e0.out id)
            by_cases hml : m < lv
            · (have hm1 : (m : Int) < (lv : Int) := by omega); (have hm0 : (0 : Int) ≤ (m : Int) := by omega); (obtain ⟨ba, oa, rfl, hc⟩ := RdZ.at (show RdZ wr (.slice av lv cv) g.p from hz2.out.kept hO.out.kept) m (by rw [hlv.out]; exact hml)); (have hnx := hid (sw_take (x := x) (y := y) (show m < g.p.length by rw [hlv.out]; exact hml)))
              have hl1 : Hd ((sw x y (g.p.take m)).length + 1 ≤ maxLen ∧ ((sw x y (g.p.take m)).length + 1) * 8 ≤ 140737488355328) := ⟨by
                (have : (sw x y (g.p.take m)).length ≤ m := by unfold sw; rw [List.length_map, List.length_take]; omega); (have hmx : maxLen = 9223372036854775807 := rfl)
                omega⟩
              generalize g.p.getD m 0 = z at hc hnx
              by_cases hzx : z = x
              · (subst hzx); (have hzb : (z == z) = true := by simp); (have hs1 : sw1 z y z = y := by unfold sw1; rw [if_pos rfl]); (rw [hs1] at hnx); (clear hs1); (go_wp2_with (at_builtin; refine wpList_append_lit _ rfl _ _ 40 rfl 3 1 8 TInts _ _ _ rfl hO.out.own 1 [_] rfl rfl ?c1 ?c2 ?c3 ?_))
                case c1 => simp [Value.oneCell']
                case c2 => exact hl1.out.1
                case c3 => exact hl1.out.2
                (intro v' w5 h2 h3 h4 _); (have hO' : Hd (OwZ w2 w5 v' (sw z y (g.p.take (m + 1)))) := ⟨by rw [hnx.out]; exact hO.out.add _ h2 h3 h4⟩); (clear h2 h3 h4 hO hnx hl1 hc dd); (go_wp2); (go_roundw)
                case rel => first | exact ⟨m + 1, by omega, by go_num, hO'⟩ | ((repeat apply Exists.intro); exact ⟨⟨m + 1, by omega, by go_num, hO'⟩, rfl⟩)
                case measure => simp [intOf]; omega
              · have hzb : (z == x) = false := by rw [beq_eq_false_iff_ne]; exact hzx
                by_cases hzy : z = y
                · (subst hzy); (have hzb2 : (z == z) = true := by simp); (have hs1 : sw1 x z z = x := by unfold sw1; rw [if_neg hzx, if_pos rfl]); (rw [hs1] at hnx); (clear hs1); (go_wp2_with (at_builtin; refine wpList_append_lit _ rfl _ _ 40 rfl 3 1 8 TInts _ _ _ rfl hO.out.own 1 [_] rfl rfl ?c1 ?c2 ?c3 ?_))
                  case c1 => simp [Value.oneCell']
                  case c2 => exact hl1.out.1
                  case c3 => exact hl1.out.2
                  (intro v' w5 h2 h3 h4 _); (have hO' : Hd (OwZ w2 w5 v' (sw x z (g.p.take (m + 1)))) := ⟨by rw [hnx.out]; exact hO.out.add _ h2 h3 h4⟩); (clear h2 h3 h4 hO hnx hl1 hc dd); (go_wp2); (go_roundw)
                  case rel => first | exact ⟨m + 1, by omega, by go_num, hO'⟩ | ((repeat apply Exists.intro); exact ⟨⟨m + 1, by omega, by go_num, hO'⟩, rfl⟩)
                  case measure => simp [intOf]; omega
                · (have hzb2 : (z == y) = false := by rw [beq_eq_false_iff_ne]; exact hzy); (have hs1 : sw1 x y z = z := by unfold sw1; rw [if_neg hzx, if_neg hzy]); (rw [hs1] at hnx); (clear hs1); (go_wp2_with (at_builtin; refine wpList_append_lit _ rfl _ _ 40 rfl 3 1 8 TInts _ _ _ rfl hO.out.own 1 [_] rfl rfl ?c1 ?c2 ?c3 ?_))
                  case c1 => simp [Value.oneCell']
                  case c2 => exact hl1.out.1
                  case c3 => exact hl1.out.2
                  (intro v' w5 h2 h3 h4 _); (have hO' : Hd (OwZ w2 w5 v' (sw x y (g.p.take (m + 1)))) := ⟨by rw [hnx.out]; exact hO.out.add _ h2 h3 h4⟩); (clear h2 h3 h4 hO hnx hl1 hc dd); (go_wp2); (go_roundw)
                  case rel => first | exact ⟨m + 1, by omega, by go_num, hO'⟩ | ((repeat apply Exists.intro); exact ⟨⟨m + 1, by omega, by go_num, hO'⟩, rfl⟩)
                  case measure => simp [intOf]; omega
            · (obtain rfl : m = lv := by omega); (have hsw : Hd (OwZ w2 wr u13 (sw x y g.p)) := ⟨by have := hO.out; rwa [← hlv.out, List.take_length] at this⟩); (have HB := hid (refadd_any u9 u13 rs (sw x y g.p) N wr (hR2.out.kept hsw.out.kept) hsw.out.rd hsm.out (by omega))); (have kW := hid (K2.out.trans' hsw.out.kept)); (clear hO); (go_wp2_with fail); (with_reducible refine HB.out.mono ?_); (rintro e w5 ⟨v5, rs5, rfl, o5, hg5⟩); (have kW5 := hid (kW.out.trans' o5.kept)); (have hR5 := hid o5.rd); (rw [hrs.out, pileOf_add] at hg5); (replace hg5 := hid hg5); (clear HB o5 kW hsw dd); (go_wp2); (go_roundw)
              case rel => first | exact ⟨j + 1, rs5, _, (k - N), by omega, by go_num, rfl, by omega, by omega, hft, hg5, hR5, kW5⟩ | ((repeat apply Exists.intro); exact ⟨⟨j + 1, rs5, _, (k - N), by omega, by go_num, rfl, by omega, by omega, hft, hg5, hR5, kW5⟩, rfl⟩)
              case measure => simp [intOf]; omega
      · (have hd2 : decide ((ix : Int) < (iy : Int)) = false := decide_eq_false (by omega)); (have hlt3 : ¬ (ix : Int) < (iy : Int) := by omega); (have hT : takeK x y k g = 0 := by unfold takeK; rw [hpf.out, if_neg (by rw [decide_eq_false hlt2]; decide)]); (rw [hst.out 0 hT] at hft); (have hone : swOne x y 0 g = [⟨g.p, N⟩] := by unfold swOne; rw [hN, if_pos (by omega), if_neg (by omega)]; simp); (rw [hone, Int.sub_zero] at hft); (have hwk : IntKind.i64.wrap (k - 0) = k := by rw [Int.sub_zero]; exact IntWalk.i64_in _ (by omega)); (have hwk2 : IntKind.i64.wrap k = k := IntWalk.i64_in _ (by omega)); (have hwn : IntKind.i64.wrap (N - 0) = N := by rw [Int.sub_zero]; exact IntWalk.i64_in _ (by omega)); (have hwn2 : IntKind.i64.wrap N = N := IntWalk.i64_in _ (by omega)); (have hT1 : 0 < N := by omega); (have hdT : decide (0 < N) = true := decide_eq_true hT1); (clear hst hT hpf hlt2 hone); (go_wp2_with fail); (go_quiet ((go_at_call 93; exact H1.out _ _))); (try rw [hix, hiy]); (obtain ⟨w2, hw2⟩ : ∃ w2, w2 = w1.drewN nq := ⟨_, rfl⟩); (have k12 : Kept no w1 w2 := by rw [hw2]; exact (Kept.refl no w1).drewN nq); (have K2 := hid (K1.out.trans' k12)); (have hR2 := hid (hR1.out.kept k12)); (have hz2 := hid (hz1.out.kept k12)); (have e0 := hid (k12.cell d0 id)); (have e1 := hid (k12.cell d1 id)); (rw [← hw2]); (clear hw2 k12 K1 hR1 hz1 d0 d1 H1 hix hiy); (have e1' := e1.out); (have e0' := e0.out); (have HA := hid (refadd_any u9 (.slice av lv cv) rs g.p N w2 hR2.out hz2.out hsm.out (by omega))); (go_wp2_with fail); (with_reducible refine HA.out.mono ?_); (rintro e w3 ⟨v3, rs3, rfl, o3, hg3⟩); (have k3 := hid (K2.out.trans' o3.kept)); (have hR3 := hid o3.rd); (rw [hrs.out, pileOf_add] at hg3); (replace hg3 := hid hg3); (clear HA o3 hR2 hz2 e0 e1 e0' e1' K2 hsm hrs); (go_wp2); (go_roundw)
        case rel => first | exact ⟨j + 1, rs3, _, k, by omega, by go_num, rfl, by omega, by omega, hft, hg3, hR3, k3⟩ | ((repeat apply Exists.intro); exact ⟨⟨j + 1, rs3, _, k, by omega, by go_num, rfl, by omega, by omega, hft, hg3, hR3, k3⟩, rfl⟩)
        case measure => simp [intOf]; omega
    · obtain rfl : j = len := by omega
      have hG : Hd (grps rs = pileOf (swL x y (grps ps) u)) := ⟨by
        (have h := hfo.out); (rw [List.take_of_length_le (by rw [grps_length, hlen.out]; exact Nat.le_refl _)] at h)
        rw [hrs.out, hres.out k l h]⟩
      (clear hrs hfo hres hsp); (go_wp2); (go_ret); (exact ⟨_, rfl, ⟨rs, hG.out, hR.out, hW.out⟩⟩)
end Go.Proofs.Ytkdmlakookgolaa
