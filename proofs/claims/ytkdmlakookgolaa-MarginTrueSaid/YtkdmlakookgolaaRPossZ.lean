/- electionref24.Possible. -/
import Derived.Test.YtkdmlakookgolaaPossZ
namespace Go.Proofs.Ytkdmlakookgolaa
open Go.RowKit Go.Mk Go.Pil Go.Mg
set_option maxRecDepth 100000 in
set_option maxHeartbeats 4000000 in
theorem refpossible_any (n : Int) (v : Value) (ps : List (Grp × Value)) (w : World) (hr : RdG w v ps) :
    Calls Try.prog 88 #[.int .i64 n, v] w fun e w' => ∃ v', e = .returned v' ∧ OwZ w w' v' (posB n (grps ps)) := by
  (obtain ⟨ag, cg, rfl, _, _⟩ := hr.shape); (have HV := hid (refvalid_any n _ ps w hr))
  cases hv : (decide (1 ≤ n ∧ n ≤ 7) && isPile n (grps ps)) with
  | false =>
    have hres : Hd (posB n (grps ps) = []) := ⟨by
      (unfold posB; rw [if_neg]); (rintro ⟨h1, h2⟩)
      rw [decide_eq_true h1, h2] at hv; cases hv⟩
    (rw [hv] at HV); (clear hr hv)
    go_enter Try.func88, Try.ntmps88
    (go_wp2_with fail); (refine HV.out.mono ?_); (rintro e w1 ⟨rfl, q1⟩); (have hO : Hd (OwZ w w1 (.slice none 0 0) (posB n (grps ps))) := ⟨by rw [hres.out]; exact (OwZ.nil w).keptNo q1.kept⟩); (clear HV q1); (go_wp2); (go_ret); (exact ⟨_, rfl, hO.out⟩)
  | true =>
    rw [hv] at HV
    have hv1 : (1 ≤ n ∧ n ≤ 7) ∧ isPile n (grps ps) = true := by
      rw [Bool.and_eq_true, decide_eq_true_iff] at hv; exact hv
    (clear hv); (obtain ⟨N, rfl⟩ : ∃ N : Nat, n = (N : Int) := ⟨n.toNat, by omega⟩); (have hN1 : 0 < N := by omega); (have hN7 : N ≤ 7 := by omega); (have hp7 : Hd (isPile 7 (grps ps) = true) := ⟨isPile_mono (by omega) hv1.2⟩); (have hres : Hd (posB (N : Int) (grps ps) = posC N (grps ps) N) := ⟨by unfold posB; rw [if_pos hv1, Int.toNat_natCast]⟩); (have HR := hid (fun w h => reachable_any N (.slice ag ps.length cg) ps w (by omega) hN7 hp7.out h)); (replace hr := hid hr); (clear hv1)
    go_enter Try.func88, Try.ntmps88
    (go_wp2_with fail); (refine HV.out.mono ?_); (rintro e w1 ⟨rfl, q1⟩); (have k1 := hid q1.kept); (clear q1 HV); (go_wp2_with fail); (refine (HR.out _ (hr.out.kept k1.out)).mono ?_); (rintro e w2 ⟨vc, L, rfl, hL, hLl, hLR, k2⟩); (have hK2 := hid (k1.out.trans' k2)); (obtain ⟨aL, cL, rfl, _, _⟩ := Rd.shape2 hL); (obtain ⟨F, hF⟩ : ∃ F : Nat, (2 : Nat) ^ N = F := ⟨_, rfl⟩)
    have hLb : Hd (∀ t, t < F → ∃ b o, aL = some ⟨b, o, none⟩ ∧ ∀ W, Kept no w2 W → W.cell? ⟨b, o + t, none⟩ = some (.bool (L.getD t false))) := ⟨fun t ht => by
      obtain ⟨b, o, e, hc⟩ := hL.at t (by rw [hLl, hF]; exact ht)
      exact ⟨b, o, e, fun W k => k.cell hc id⟩⟩
    (have hF128 : F ≤ 128 := by rw [← hF]; exact pow7 hN7); (rw [hLl, hF])
    have hLR2 : Hd (∀ r, r < N → ∃ P : Nat, (2 : Nat) ^ r = P ∧ P < F ∧ wrap64 ((2 : Int) ^ r) = (P : Int) ∧ (L.getD P false = true ↔ Rc 2 N (grps ps) P)) := ⟨fun r hr => by
      have hlt := one_pow_lt N hN7 r hr
      exact ⟨2 ^ r, rfl, by rw [← hF]; exact hlt, shl_pow r (by omega), hLR _ hlt⟩⟩
    (have hF0 : 0 < F := by rw [← hF]; exact Nat.two_pow_pos N); (replace hF := hid hF); (obtain ⟨bL, oL, rfl, _⟩ := hLb.out 0 hF0); (clear hL hLl hLR k1 k2 HR hF); (go_wp2)
    go_loopw [6, 7] (fun out i wr => ∃ c : Nat, c ≤ N ∧ i = .int .i64 (c : Int) ∧ Hd (OwZ w2 wr out (posC N (grps ps) c))) (fun _ i _ => N - (intOf i).toNat)
    case atStart => exact ⟨0, by omega, rfl, ⟨by rw [show posC N (grps ps) 0 = [] by simp [posC]]; exact OwZ.nil w2⟩⟩
    case round =>
      obtain ⟨c, hcN, rfl, hO⟩ := hrel
      by_cases hcl : c < N
      · (have hc1 : (c : Int) < (N : Int) := by omega); (have hc0 : (0 : Int) ≤ (c : Int) := by omega); (obtain ⟨P, hP, hPF, hshP, hLP⟩ := hLR2.out c hcl); (replace hP := hid hP); (replace hshP := hid hshP); (have hPi : (P : Int) < (F : Int) := by omega); (have hP0 : (0 : Int) ≤ (P : Int) := by omega); (obtain ⟨b', o', e', hcs⟩ := hLb.out P hPF)
        cases e'
        (have cs := hcs wr hO.out.kept); (have hpl := posC_len N (grps ps) c); (clear hcs)
        cases hb : L.getD P false with
        | false =>
          (rw [hb] at cs); (have hO2 : Hd (OwZ w2 wr u6 (posC N (grps ps) (c + 1))) := ⟨by rw [posC_skip (fun h => by rw [hP.out] at h; rw [hLP.2 h] at hb; cases hb)]; exact hO.out⟩); (have hsv := hshP.out); (clear hO hLP hb hpl); (go_wp2); (clear hsv); (go_roundw)
          case rel => first | exact ⟨c + 1, by omega, by go_num, hO2⟩ | ((repeat apply Exists.intro); exact ⟨⟨c + 1, by omega, by go_num, hO2⟩, rfl⟩)
          case measure => simp [intOf]; omega
        | true =>
          (rw [hb] at cs); (have hm := hid (posC_more (n := N) (gs := grps ps) (k := c) (by rw [hP.out]; exact hLP.1 hb))); (have hls : Hd ((posC N (grps ps) c).length + 1 ≤ maxLen ∧ ((posC N (grps ps) c).length + 1) * 8 ≤ 140737488355328) := ⟨by have hm : maxLen = 9223372036854775807 := rfl; omega⟩); (obtain ⟨PL, hPL⟩ : ∃ l, posC N (grps ps) c = l := ⟨_, rfl⟩); (rw [hPL] at hO hm hls); (have hsv := hshP.out); (clear hLP hb hpl hPL); (go_wp2_with (at_builtin; refine wpList_append_lit _ rfl _ _ 40 rfl 3 1 8 TInts _ _ _ rfl hO.out.own 1 [.int .i64 (c : Int)] rfl rfl ?c1 ?c2 ?c3 ?_))
          case c1 => simp [Value.oneCell']
          case c2 => exact hls.out.1
          case c3 => exact hls.out.2
          (intro v' w3 h2 h3 h4 _); (have hO3 := hO.out.add _ h2 h3 h4); (have hO4 : Hd (OwZ w2 w3 v' (posC N (grps ps) (c + 1))) := ⟨by rw [hm.out]; exact hO3⟩); (clear h2 h3 h4 hO hO3 hls hm); (go_wp2); (clear hsv); (go_roundw)
          case rel => first | exact ⟨c + 1, by omega, by go_num, hO4⟩ | ((repeat apply Exists.intro); exact ⟨⟨c + 1, by omega, by go_num, hO4⟩, rfl⟩)
          case measure => simp [intOf]; omega
      · (obtain rfl : c = N := by omega); (have hc1 : ¬ (c : Int) < (c : Int) := by omega); (have hO2 : Hd (OwZ w wr u6 (posB (c : Int) (grps ps))) := ⟨by rw [hres.out]; exact hO.out.of_kept hK2.out⟩); (clear hO); (go_wp2); (go_ret); (exact ⟨_, rfl, hO2.out⟩)
end Go.Proofs.Ytkdmlakookgolaa
