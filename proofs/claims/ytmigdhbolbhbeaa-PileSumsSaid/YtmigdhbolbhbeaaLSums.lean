/- PileSums: the walk (printed by gen_sums.py). -/
import Derived.Test.YtmigdhbolbhbeaaSumK
namespace Go.Proofs.Ytmigdhbolbhbeaa
open Go.RowKit Go.Mk Go.Pil
theorem few_len {ls : List (List Int)} (h : few ls = true) : ls.length ≤ 60 := (of_decide_eq_true h).2
set_option maxRecDepth 100000 in
set_option maxHeartbeats 4000000 in
theorem pilesums_any (n : Int) (v : Value) (bs : List (List Int × Value)) (vr : Value) (fs : List Bool) (a b : Int) (w : World) (hr : RdB w v bs) (ht : RdT w vr fs) : Calls Try.prog 4 #[.int .i64 n, v, vr, .int .i64 a, .int .i64 b] w fun e w' => e = .returned (.bool true) ∧ Kept no w w' := by
  obtain ⟨ao, cap, rfl, hcap, hcm⟩ := Rd.shape2 hr.2
  have hm63 := maxLen_63
  have HF := hid (lawsmall_any _ bs w hr)
  replace hr := hid hr
  replace ht := hid ht
  cases hf : few (lists bs) with
  | false =>
    rw [hf] at HF
    clear hf hr ht
    go_enter Try.func4, Try.ntmps4
    go_wp2_with fail
    refine HF.out.mono ?_
    rintro e w1 ⟨rfl, k1⟩
    replace k1 := hid k1
    clear HF
    go_wp2_with fail
    refine (awake_any _).mono ?_
    rintro e w2 ⟨rfl, k2⟩
    have k3 := hid (k1.out.kept.trans' k2)
    clear k2 k1
    go_wp2
    go_ret
    exact ⟨rfl, k3.out⟩
  | true =>
    have hl60 := few_len hf
    rw [lists_length] at hl60
    rw [hf] at HF
    clear hf
    obtain ⟨hm0, hm1⟩ := modI_lt n 6 (by decide)
    have HMo := hid (mod_any n 6 · (by decide) (by decide))
    obtain ⟨N, hN⟩ : ∃ N : Nat, 2 + modI n 6 = (N : Int) := ⟨(2 + modI n 6).toNat, by omega⟩
    have hw1 : IntKind.i64.wrap (2 + modI n 6) = (N : Int) := by rw [IntWalk.i64_in _ (by omega), hN]
    generalize modI n 6 = m at HMo hm0 hm1 hN hw1
    have hN2 : 2 ≤ N := by omega
    have hN7 : N ≤ 7 := by omega
    clear hN
    have HA := hid (mod_any a (N : Int) · (by omega) (by omega))
    have HB := hid (mod_any b (N : Int) · (by omega) (by omega))
    obtain ⟨A, hA⟩ : ∃ A : Nat, modI a (N : Int) = (A : Int) := ⟨(modI a (N : Int)).toNat, by have := modI_lt a (N : Int) (by omega); omega⟩
    obtain ⟨B, hB⟩ : ∃ B : Nat, modI b (N : Int) = (B : Int) := ⟨(modI b (N : Int)).toNat, by have := modI_lt b (N : Int) (by omega); omega⟩
    have hAN : A < N := by have := modI_lt a (N : Int) (by omega); omega
    have hBN : B < N := by have := modI_lt b (N : Int) (by omega); omega
    rw [hA] at HA
    rw [hB] at HB
    obtain ⟨len, hlen⟩ : ∃ len, bs.length = len := ⟨_, rfl⟩
    rw [hlen] at hr hcap HF hl60 ⊢
    have hgt : Hd (tot (genP (N : Int) (lists bs) 60) = (len : Int)) := ⟨by rw [genP_tot, lists_length, hlen]; omega⟩
    have hgp : Hd (isPile 7 (genP (N : Int) (lists bs) 60) = true) := ⟨isPile_mono (by omega) (genP_pile (by omega) _ _ (by decide))⟩
    replace hlen := hid hlen
    clear hA hB
    go_enter Try.func4, Try.ntmps4
    go_wp2_with fail
    refine HF.out.mono ?_
    rintro e w1 ⟨rfl, k1⟩
    replace k1 := hid k1.kept
    have hr1 := hid (hr.out.kept k1.out)
    have ht1 := hid (ht.out.kept k1.out)
    clear HF hr ht
    go_wp2_with fail
    refine (HMo.out w1).mono ?_
    rintro e w2 ⟨rfl, rfl⟩
    have HFl := hid (flags_any vr fs w2 ht1.out)
    clear HMo ht1
    go_wp2_with fail
    refine HFl.out.mono ?_
    rintro e w3 ⟨⟨vf, rfl, htf⟩, rfl⟩
    generalize fs.take 10 = f10 at htf
    have HG := hid (genpile_any (N : Int) _ bs 60 w3 (by omega) (by omega) (by decide) hr1.out)
    obtain ⟨af, cf, rfl, hcf, hcfm⟩ := Rd.shape2 htf
    replace htf := hid htf
    clear HFl hr1
    go_wp2_with fail
    refine HG.out.mono ?_
    rintro e w4 ⟨vg, rfl, ps, hps, hrg, k4⟩
    rw [← hps] at hgt hgp
    have k4' := hid (k1.out.trans' k4)
    have htf4 := htf.out.kept k4
    have hsl := pre_sliceT af f10.length cf (min f10.length 7) (RdT.addr htf4) (by omega)
    obtain ⟨q1, q2⟩ := minNat f10.length 7
    have hcut := htf4.cut 7
    have q1' : min (f10.length : Int) 7 = ((min f10.length 7 : Nat) : Int) := q1
    have q2' : (if 7 < (f10.length : Int) then (7 : Int) else (f10.length : Int)) = ((min f10.length 7 : Nat) : Int) := q2
    generalize min f10.length 7 = mf at hsl hcut q1' q2'
    have HFi := hid (first_any vg _ ps (f10.take 7) w4 hrg hcut)
    have hfst : Hd (first (grps ps) (f10.take 7) = firstV (grps ps) (f10.take 7)) := ⟨by unfold first; rw [if_pos ⟨hgp.out, by rw [List.length_take]; omega⟩]⟩
    have hsum : Hd ((first (grps ps) (f10.take 7)).2 + (first (grps ps) (f10.take 7)).1.sum = (len : Int)) := ⟨by rw [hfst.out, ← hgt.out, ← first_sum (grps ps) (f10.take 7)]; omega⟩
    have hvn : Hd (∀ x ∈ (first (grps ps) (f10.take 7)).1, 0 ≤ x) := ⟨by rw [hfst.out]; exact first_nonneg _ hgp.out⟩
    have hrest0 : 0 ≤ (first (grps ps) (f10.take 7)).2 := by rw [hfst.out, ← firstK_all (Nat.le_refl _)]; exact (firstK_facts _ hgp.out _).2.2.1
    replace hrg := hid hrg
    generalize (first (grps ps) (f10.take 7)).1 = vs at HFi hsum hvn
    generalize (first (grps ps) (f10.take 7)).2 = rest at HFi hsum hrest0
    generalize f10.length = lf at hsl q1' q2' ⊢
    clear q1 q2 htf htf4 hcut HG k4 k1 hps hfst hcf
    go_wp2_with fail
    refine HFi.out.mono ?_
    rintro e w5 ⟨vv, rfl, hO⟩
    have k5 := hid (k4'.out.trans' hO.kept)
    have hrg5 := hid (hrg.out.kept hO.kept)
    obtain ⟨av, cv, rfl, _, _⟩ := Rd.shape2 hO.rd
    have hz := hid hO.rd
    have hpart : Hd (∀ k, 0 ≤ (vs.take k).sum ∧ (vs.take k).sum ≤ vs.sum) := ⟨sum_take_le vs hvn.out⟩
    clear HFi hO hrg k4' hsl q1' q2'
    go_wp2
    go_loopw [13, 14] (fun r i wr => ∃ (k : Nat) (R : Int), k ≤ vs.length ∧ i = .int .i64 (k : Int) ∧ r = .int .i64 R ∧ Hd (R = rest + (vs.take k).sum) ∧ Hd (Qt w5 wr)) (fun _ i _ => vs.length - (intOf i).toNat)
    case atStart => exact ⟨0, rest, by omega, rfl, rfl, ⟨by simp⟩, ⟨Qt.refl _⟩⟩
    case round =>
      obtain ⟨k, R, hk, rfl, rfl, hR, hW⟩ := hrel
      by_cases hlt : k < vs.length
      · obtain ⟨bz, oz, rfl, hc⟩ := (hz.out.kept hW.out.kept).at k hlt
        have hk1 : (k : Int) < (vs.length : Int) := by omega
        have hk0 : (0 : Int) ≤ (k : Int) := by omega
        have hs1 := sum_take_succ hlt
        have hp1 := hpart.out k
        have hp2 := hpart.out (k + 1)
        have hsm := hsum.out
        generalize vs.getD k 0 = z at hc hs1
        have hRe := hR.out
        have hw2 : IntKind.i64.wrap (R + z) = R + z := IntWalk.i64_in _ (by omega)
        have hR' : Hd (R + z = rest + (vs.take (k + 1)).sum) := ⟨by rw [hs1]; omega⟩
        clear hs1 hp1 hp2 hsm hRe hR
        go_wp2
        go_roundw
        case rel => first | exact ⟨k + 1, R + z, by omega, by go_num, rfl, hR', hW⟩ | ((repeat apply Exists.intro); exact ⟨⟨k + 1, R + z, by omega, by go_num, rfl, hR', hW⟩, rfl⟩)
        case measure => simp [intOf]; omega
      · obtain rfl : k = vs.length := by omega
        have hRl : R = (len : Int) := by rw [hR.out, List.take_of_length_le (Nat.le_refl _)]; exact hsum.out
        subst hRl
        have hW5 := hid (k5.out.trans' hW.out.kept)
        have hrg6 := hid (hrg5.out.kept hW.out.kept)
        have hrefl : ((len : Int) == (len : Int)) = true := by simp
        clear hR hsum hvn hpart hz hrest0 k5 hrg5 hW hk hlt
        go_wp2_with fail
        refine (HA.out _).mono ?_
        rintro e w6 ⟨rfl, rfl⟩
        go_wp2_with fail
        refine (HB.out _).mono ?_
        rintro e w7 ⟨rfl, rfl⟩
        clear HA HB
        by_cases hab : A = B
        · have habz : ((A : Int) == (B : Int)) = true := by subst hab; simp
          have hpz : Hd (prefers (grps ps) (A : Int) (B : Int) = 0) := ⟨by unfold prefers; rw [if_neg (fun h => h.2 (by omega))]⟩
          clear hab
          go_wp2_with fail
          refine (awake_any _).mono ?_
          rintro e w8 ⟨rfl, k8⟩
          have k8' := hid (hW5.out.trans' k8)
          have HP := hid (prefers_any vg ps (A : Int) (B : Int) w8 (hrg6.out.kept k8))
          rw [hpz.out] at HP
          clear k8 hW5 hrg6
          go_wp2_with fail
          refine HP.out.mono ?_
          rintro e w9 ⟨rfl, k9⟩
          have k9' := hid (k8'.out.trans' k9)
          clear k9 HP k8'
          go_wp2
          go_ret
          exact ⟨rfl, k9'.out⟩
        · have habz : ((A : Int) == (B : Int)) = false := by simp; omega
          obtain ⟨e1, e2, e3, e4⟩ := first_two hgp.out hN7 hAN hBN hab
          rw [hgt.out] at e4
          have hmk := fun w => makeT N (by omega) w
          have hpr : ∀ x y : Int, 0 ≤ prefers (grps ps) x y ∧ prefers (grps ps) x y ≤ 100000 := fun x y => by
            unfold prefers
            split
            · have := sumIf_le (Q := fun p => pref p x y) (l := grps ps) fun g hg => (((isPile_iff 7 _).1 hgp.out).1 g hg).2
              have := pile_tot hgp.out
              omega
            · omega
          obtain ⟨P1, hP1⟩ : ∃ P1, prefers (grps ps) (A : Int) (B : Int) = P1 := ⟨_, rfl⟩
          obtain ⟨P2, hP2⟩ : ∃ P2, prefers (grps ps) (B : Int) (A : Int) = P2 := ⟨_, rfl⟩
          have hb1 := hpr A B
          have hb2 := hpr B A
          rw [hP1] at hb1 e2 e4
          rw [hP2] at hb2 e3 e4
          have hs1 : IntKind.i64.wrap ((len : Int) - P1) = (len : Int) - P1 := IntWalk.i64_in _ (by omega)
          have hs2 : IntKind.i64.wrap ((len : Int) - P1 - P2) = (len : Int) - P1 - P2 := IntWalk.i64_in _ (by omega)
          replace e1 := hid e1
          replace e2 := hid e2
          replace e3 := hid e3
          replace e4 := hid e4
          replace hP1 := hid hP1
          replace hP2 := hid hP2
          clear hpr hb1 hb2
          go_upto_region 15 with fail
          obtain ⟨w8, hw8, g8, k8⟩ := alloc_named w7 (.cells (zsT (List.replicate N false)) 4)
          rw [← hw8]
          obtain ⟨q, hq⟩ : ∃ q, w7.heap.size = q := ⟨_, rfl⟩
          rw [hq] at g8 ⊢
          have hrep : (List.replicate N false).length = N := List.length_replicate
          have cA : w8.cell? ⟨q, A, none⟩ = some (.bool false) := by rw [cell_of_row w8 _ _ _ _ _ g8]; simp [zsT, hAN]
          have fA : w8.frozen? ⟨q, A, none⟩ = false := row_free g8 A
          have g9 := setCell_row g8 A (.bool true)
          rw [zsT_set] at g9
          obtain ⟨w9, hw9⟩ : ∃ w9, w9 = w8.setCell ⟨q, A, none⟩ (.bool true) := ⟨_, rfl⟩
          rw [← hw9] at g9
          have cB : w9.cell? ⟨q, B, none⟩ = some (.bool false) := by
            rw [cell_of_row w9 _ _ _ _ _ g9]; simp [zsT, hBN]; rw [List.getElem_set_ne hab]; simp
          have fB : w9.frozen? ⟨q, B, none⟩ = false := row_free g9 B
          have g10 := setCell_row g9 B (.bool true)
          rw [zsT_set] at g10
          obtain ⟨w10, hw10⟩ : ∃ w10, w10 = w9.setCell ⟨q, B, none⟩ (.bool true) := ⟨_, rfl⟩
          rw [← hw10] at g10
          have hqs : w7.heap.size ≤ q := by omega
          have kk : Kept no w7 w10 := by rw [hw10, hw9]; exact (k8.setCell (a := ⟨q, A, none⟩) (.inr hqs) _).setCell (a := ⟨q, B, none⟩) (.inr hqs) _
          have hrg7 := hid (hrg6.out.kept kk)
          have hW7 := hid (hW5.out.trans' kk)
          have HFi := hid (first_any vg _ ps (two N A B) w10 hrg7.out (zsT_rd g10 N (two_len _ _ _) (by have : maxLen = 9223372036854775807 := rfl; omega)))
          rw [e4.out] at HFi
          rw [hw9] at cB fB hw10
          have hA0 : (0 : Int) ≤ (A : Int) := by omega
          have hB0 : (0 : Int) ≤ (B : Int) := by omega
          have hA1 : (A : Int) < (N : Int) := by omega
          have hB1 : (B : Int) < (N : Int) := by omega
          replace hw10 := hid hw10
          clear g8 g9 g10 hw9 kk k8 hrg6 hW5 hq hqs hw8 hmk
          go_wp2_with fail
          rw [← hw10.out]
          refine HFi.out.mono ?_
          rintro e w11 ⟨v2, rfl, hO⟩
          have hW8 := hid (hW7.out.trans' hO.kept)
          have hrg8 := hid (hrg7.out.kept hO.kept)
          obtain ⟨al, cl, rfl, _, _⟩ := Rd.shape2 hO.rd
          obtain ⟨bl, ol, rfl, hcl⟩ := hO.rd.base (by rw [e1.out]; omega)
          have cPA := hcl A (by rw [e1.out]; exact hAN)
          have cPB := hcl B (by rw [e1.out]; exact hBN)
          rw [e2.out] at cPA
          rw [e3.out] at cPB
          replace cPA := hid cPA
          replace cPB := hid cPB
          rw [e1.out]
          clear hcl hO hW7 hrg7 HFi cA cB fA fB hw10
          go_upto_region 17 with fail
          refine region_flow (S := no) (Sl := (fun _ => no)) [Is (.bool true), Is (.bool true), Is (.int .i64 (len : Int)), Is (.slice ao len cap), Is (.int .i64 (len : Int)), Is (.bool true), Is (.bool true), Is (.bool true), Is (.slice (some ⟨bl, ol, none⟩) N cl), Is (.int .i64 (N : Int)), Is (.int .i64 (N : Int)), Is (.bool true), Is (.bool true), Is (.bool true), Is (.slice (some ⟨bl, ol, none⟩) N cl), Is (.int .i64 (A : Int)), Is (.pointer (some ⟨bl, ol + A, none⟩)), Is (.int .i64 P1), Is (vg), Is (.int .i64 (A : Int)), Is (.int .i64 (B : Int)), Is (.int .i64 P1), Is (.bool true), Is (.bool true), Is (.bool true), Is (.slice (some ⟨bl, ol, none⟩) N cl), Is (.int .i64 (B : Int)), Is (.pointer (some ⟨bl, ol + B, none⟩)), Is (.int .i64 P2), Is (vg), Is (.int .i64 (B : Int)), Is (.int .i64 (A : Int)), Is (.int .i64 P2), Is (.bool true), Is (.bool true), Is (.bool true), Is (.int .i64 ((len : Int) - P1 - P2)), Is (.slice ao len cap), Is (.int .i64 (len : Int)), Is (.slice (some ⟨bl, ol, none⟩) N cl), Is (.int .i64 (A : Int)), Is (.pointer (some ⟨bl, ol + A, none⟩)), Is (.int .i64 P1), Is (.int .i64 ((len : Int) - P1)), Is (.slice (some ⟨bl, ol, none⟩) N cl), Is (.int .i64 (B : Int)), Is (.pointer (some ⟨bl, ol + B, none⟩)), Is (.int .i64 P2), Is (.int .i64 ((len : Int) - P1 - P2)), Is (.bool true), Is (.bool true), Is (.bool true)] [] (fun _ _ h => h) _ (by kernel_rfl) (by kernel_rfl) (by kernel_rfl) (by kernel_rfl) (fun x => by simp only [puts, Act.put, List.map_cons, List.map_nil, Nat.zero_add, Nat.reduceAdd, List.setIfInBounds_toArray, List.set_cons_zero, List.set_cons_succ]; exact rfl) ?_ ?_
          · skip
            refine Steps.cons (fun x wf Kk hq hdep hold => ?_) ?_
            · try dsimp only
              clear hq hdep hold
              rw [if_pos (by rfl)]
              refine OpY.call (f := 13) (args := #[]) (by go_simp) ?_
              refine (awake_any wf).mono ?_
              rintro e w2 ⟨rfl, k2⟩
              exact ⟨_, rfl, k2, rfl⟩
            refine Steps.cons (fun x wf Kk hq hdep hold => ?_) ?_
            · try dsimp only
              have h0 : x 0 = (.bool true) := hdep 0 (by kernel_rfl)
              clear hq hdep hold
              simp only [h0]
              clear h0
              rw [if_pos (by rfl)]
              refine OpY.val (v := (.bool true)) ?_ ⟨Kept.refl _ _, rfl⟩
              first | rfl | go_simp
            refine Steps.cons (fun x wf Kk hq hdep hold => ?_) ?_
            · try dsimp only
              have h1 : x 1 = (.bool true) := hdep 1 (by kernel_rfl)
              clear hq hdep hold
              simp only [h1]
              clear h1
              rw [if_pos (by rfl)]
              refine OpY.val (v := (.int .i64 (len : Int))) ?_ ⟨Kept.refl _ _, rfl⟩
              first | rfl | go_simp
            refine Steps.cons (fun x wf Kk hq hdep hold => ?_) ?_
            · try dsimp only
              have h1 : x 1 = (.bool true) := hdep 1 (by kernel_rfl)
              clear hq hdep hold
              simp only [h1]
              clear h1
              rw [if_pos (by rfl)]
              refine OpY.val (v := (.slice ao len cap)) ?_ ⟨Kept.refl _ _, rfl⟩
              first | rfl | go_simp
            refine Steps.cons (fun x wf Kk hq hdep hold => ?_) ?_
            · try dsimp only
              have h3 : x 3 = (.slice ao len cap) := hdep 3 (by kernel_rfl)
              have h1 : x 1 = (.bool true) := hdep 1 (by kernel_rfl)
              clear hq hdep hold
              simp only [h3, h1]
              clear h3 h1
              rw [if_pos (by rfl)]
              refine OpY.val (v := (.int .i64 (len : Int))) ?_ ⟨Kept.refl _ _, rfl⟩
              first | rfl | go_simp
            refine Steps.cons (fun x wf Kk hq hdep hold => ?_) ?_
            · try dsimp only
              have h2 : x 2 = (.int .i64 (len : Int)) := hdep 2 (by kernel_rfl)
              have h4 : x 4 = (.int .i64 (len : Int)) := hdep 4 (by kernel_rfl)
              have h1 : x 1 = (.bool true) := hdep 1 (by kernel_rfl)
              clear hq hdep hold
              simp only [h2, h4, h1]
              clear h2 h4 h1
              rw [if_pos (by rfl)]
              refine OpY.val (v := (.bool true)) ?_ ⟨Kept.refl _ _, rfl⟩
              first | rfl | go_simp
            refine Steps.cons (fun x wf Kk hq hdep hold => ?_) ?_
            · try dsimp only
              have h1 : x 1 = (.bool true) := hdep 1 (by kernel_rfl)
              have h5 : x 5 = (.bool true) := hdep 5 (by kernel_rfl)
              clear hq hdep hold
              simp only [h1, h5]
              clear h1 h5
              rw [if_pos (by rfl)]
              refine OpY.val (v := (.bool true)) ?_ ⟨Kept.refl _ _, rfl⟩
              first | rfl | go_simp
            refine Steps.cons (fun x wf Kk hq hdep hold => ?_) ?_
            · try dsimp only
              have h6 : x 6 = (.bool true) := hdep 6 (by kernel_rfl)
              clear hq hdep hold
              simp only [h6]
              clear h6
              rw [if_pos (by rfl)]
              refine OpY.val (v := (.bool true)) ?_ ⟨Kept.refl _ _, rfl⟩
              first | rfl | go_simp
            refine Steps.cons (fun x wf Kk hq hdep hold => ?_) ?_
            · try dsimp only
              have h7 : x 7 = (.bool true) := hdep 7 (by kernel_rfl)
              clear hq hdep hold
              simp only [h7]
              clear h7
              rw [if_pos (by rfl)]
              refine OpY.val (v := (.slice (some ⟨bl, ol, none⟩) N cl)) ?_ ⟨Kept.refl _ _, rfl⟩
              first | rfl | go_simp
            refine Steps.cons (fun x wf Kk hq hdep hold => ?_) ?_
            · try dsimp only
              have h8 : x 8 = (.slice (some ⟨bl, ol, none⟩) N cl) := hdep 8 (by kernel_rfl)
              have h7 : x 7 = (.bool true) := hdep 7 (by kernel_rfl)
              clear hq hdep hold
              simp only [h8, h7]
              clear h8 h7
              rw [if_pos (by rfl)]
              refine OpY.val (v := (.int .i64 (N : Int))) ?_ ⟨Kept.refl _ _, rfl⟩
              first | rfl | go_simp
            refine Steps.cons (fun x wf Kk hq hdep hold => ?_) ?_
            · try dsimp only
              have h7 : x 7 = (.bool true) := hdep 7 (by kernel_rfl)
              clear hq hdep hold
              simp only [h7]
              clear h7
              rw [if_pos (by rfl)]
              refine OpY.val (v := (.int .i64 (N : Int))) ?_ ⟨Kept.refl _ _, rfl⟩
              first | rfl | go_simp
            refine Steps.cons (fun x wf Kk hq hdep hold => ?_) ?_
            · try dsimp only
              have h9 : x 9 = (.int .i64 (N : Int)) := hdep 9 (by kernel_rfl)
              have h10 : x 10 = (.int .i64 (N : Int)) := hdep 10 (by kernel_rfl)
              have h7 : x 7 = (.bool true) := hdep 7 (by kernel_rfl)
              clear hq hdep hold
              simp only [h9, h10, h7]
              clear h9 h10 h7
              rw [if_pos (by rfl)]
              refine OpY.val (v := (.bool true)) ?_ ⟨Kept.refl _ _, rfl⟩
              first | rfl | go_simp
            refine Steps.cons (fun x wf Kk hq hdep hold => ?_) ?_
            · try dsimp only
              have h7 : x 7 = (.bool true) := hdep 7 (by kernel_rfl)
              have h11 : x 11 = (.bool true) := hdep 11 (by kernel_rfl)
              clear hq hdep hold
              simp only [h7, h11]
              clear h7 h11
              rw [if_pos (by rfl)]
              refine OpY.val (v := (.bool true)) ?_ ⟨Kept.refl _ _, rfl⟩
              first | rfl | go_simp
            refine Steps.cons (fun x wf Kk hq hdep hold => ?_) ?_
            · try dsimp only
              have h12 : x 12 = (.bool true) := hdep 12 (by kernel_rfl)
              clear hq hdep hold
              simp only [h12]
              clear h12
              rw [if_pos (by rfl)]
              refine OpY.val (v := (.bool true)) ?_ ⟨Kept.refl _ _, rfl⟩
              first | rfl | go_simp
            refine Steps.cons (fun x wf Kk hq hdep hold => ?_) ?_
            · try dsimp only
              have h13 : x 13 = (.bool true) := hdep 13 (by kernel_rfl)
              clear hq hdep hold
              simp only [h13]
              clear h13
              rw [if_pos (by rfl)]
              refine OpY.val (v := (.slice (some ⟨bl, ol, none⟩) N cl)) ?_ ⟨Kept.refl _ _, rfl⟩
              first | rfl | go_simp
            refine Steps.cons (fun x wf Kk hq hdep hold => ?_) ?_
            · try dsimp only
              have h13 : x 13 = (.bool true) := hdep 13 (by kernel_rfl)
              clear hq hdep hold
              simp only [h13]
              clear h13
              rw [if_pos (by rfl)]
              refine OpY.val (v := (.int .i64 (A : Int))) ?_ ⟨Kept.refl _ _, rfl⟩
              first | rfl | go_simp
            refine Steps.cons (fun x wf Kk hq hdep hold => ?_) ?_
            · try dsimp only
              have h14 : x 14 = (.slice (some ⟨bl, ol, none⟩) N cl) := hdep 14 (by kernel_rfl)
              have h15 : x 15 = (.int .i64 (A : Int)) := hdep 15 (by kernel_rfl)
              have h13 : x 13 = (.bool true) := hdep 13 (by kernel_rfl)
              clear hq hdep hold
              simp only [h14, h15, h13]
              clear h14 h15 h13
              rw [if_pos (by rfl)]
              refine OpY.val (v := (.pointer (some ⟨bl, ol + A, none⟩))) ?_ ⟨Kept.refl _ _, rfl⟩
              first | rfl | go_simp
            refine Steps.cons (fun x wf Kk hq hdep hold => ?_) ?_
            · try dsimp only
              have h16 : x 16 = (.pointer (some ⟨bl, ol + A, none⟩)) := hdep 16 (by kernel_rfl)
              have h13 : x 13 = (.bool true) := hdep 13 (by kernel_rfl)
              have Kq := hq no (fun j hj => by cases (show j ∈ ([] : List Nat) from by (have e : ∀ l : List Nat, l = [] → j ∈ l → j ∈ ([] : List Nat) := fun l h h2 => h ▸ h2); exact e _ (by kernel_rfl) hj))
              clear hq hdep hold
              simp only [h16, h13]
              clear h16 h13
              have cvf := Kq.undrew.cell cPA.out id
              rw [if_pos (by rfl)]
              refine OpY.val (v := (.int .i64 P1)) ?_ ⟨Kept.refl _ _, rfl⟩
              first | rfl | go_simp
            refine Steps.cons (fun x wf Kk hq hdep hold => ?_) ?_
            · try dsimp only
              have h13 : x 13 = (.bool true) := hdep 13 (by kernel_rfl)
              clear hq hdep hold
              simp only [h13]
              clear h13
              rw [if_pos (by rfl)]
              refine OpY.val (v := (vg)) ?_ ⟨Kept.refl _ _, rfl⟩
              first | rfl | go_simp
            refine Steps.cons (fun x wf Kk hq hdep hold => ?_) ?_
            · try dsimp only
              have h13 : x 13 = (.bool true) := hdep 13 (by kernel_rfl)
              clear hq hdep hold
              simp only [h13]
              clear h13
              rw [if_pos (by rfl)]
              refine OpY.val (v := (.int .i64 (A : Int))) ?_ ⟨Kept.refl _ _, rfl⟩
              first | rfl | go_simp
            refine Steps.cons (fun x wf Kk hq hdep hold => ?_) ?_
            · try dsimp only
              have h13 : x 13 = (.bool true) := hdep 13 (by kernel_rfl)
              clear hq hdep hold
              simp only [h13]
              clear h13
              rw [if_pos (by rfl)]
              refine OpY.val (v := (.int .i64 (B : Int))) ?_ ⟨Kept.refl _ _, rfl⟩
              first | rfl | go_simp
            refine Steps.cons (fun x wf Kk hq hdep hold => ?_) ?_
            · try dsimp only
              have h18 : x 18 = (vg) := hdep 18 (by kernel_rfl)
              have h19 : x 19 = (.int .i64 (A : Int)) := hdep 19 (by kernel_rfl)
              have h20 : x 20 = (.int .i64 (B : Int)) := hdep 20 (by kernel_rfl)
              have h13 : x 13 = (.bool true) := hdep 13 (by kernel_rfl)
              have Kq := hq no (fun j hj => by cases (show j ∈ ([] : List Nat) from by (have e : ∀ l : List Nat, l = [] → j ∈ l → j ∈ ([] : List Nat) := fun l h h2 => h ▸ h2); exact e _ (by kernel_rfl) hj))
              clear hq hdep hold
              simp only [h18, h19, h20, h13]
              clear h18 h19 h20 h13
              rw [if_pos (by rfl)]
              refine OpY.call (f := 22) (args := #[(vg), (.int .i64 (A : Int)), (.int .i64 (B : Int))]) (by go_simp) ?_
              refine (hP1.out ▸ prefers_any vg ps (A : Int) (B : Int) wf (hrg8.out.kept Kq.undrew)).mono ?_
              rintro e w2 ⟨rfl, k2⟩
              exact ⟨_, rfl, k2, rfl⟩
            refine Steps.cons (fun x wf Kk hq hdep hold => ?_) ?_
            · try dsimp only
              have h17 : x 17 = (.int .i64 P1) := hdep 17 (by kernel_rfl)
              have h21 : x 21 = (.int .i64 P1) := hdep 21 (by kernel_rfl)
              have h13 : x 13 = (.bool true) := hdep 13 (by kernel_rfl)
              clear hq hdep hold
              simp only [h17, h21, h13]
              clear h17 h21 h13
              rw [if_pos (by rfl)]
              refine OpY.val (v := (.bool true)) ?_ ⟨Kept.refl _ _, rfl⟩
              first | rfl | go_simp
            refine Steps.cons (fun x wf Kk hq hdep hold => ?_) ?_
            · try dsimp only
              have h13 : x 13 = (.bool true) := hdep 13 (by kernel_rfl)
              have h22 : x 22 = (.bool true) := hdep 22 (by kernel_rfl)
              clear hq hdep hold
              simp only [h13, h22]
              clear h13 h22
              rw [if_pos (by rfl)]
              refine OpY.val (v := (.bool true)) ?_ ⟨Kept.refl _ _, rfl⟩
              first | rfl | go_simp
            refine Steps.cons (fun x wf Kk hq hdep hold => ?_) ?_
            · try dsimp only
              have h23 : x 23 = (.bool true) := hdep 23 (by kernel_rfl)
              clear hq hdep hold
              simp only [h23]
              clear h23
              rw [if_pos (by rfl)]
              refine OpY.val (v := (.bool true)) ?_ ⟨Kept.refl _ _, rfl⟩
              first | rfl | go_simp
            refine Steps.cons (fun x wf Kk hq hdep hold => ?_) ?_
            · try dsimp only
              have h24 : x 24 = (.bool true) := hdep 24 (by kernel_rfl)
              clear hq hdep hold
              simp only [h24]
              clear h24
              rw [if_pos (by rfl)]
              refine OpY.val (v := (.slice (some ⟨bl, ol, none⟩) N cl)) ?_ ⟨Kept.refl _ _, rfl⟩
              first | rfl | go_simp
            refine Steps.cons (fun x wf Kk hq hdep hold => ?_) ?_
            · try dsimp only
              have h24 : x 24 = (.bool true) := hdep 24 (by kernel_rfl)
              clear hq hdep hold
              simp only [h24]
              clear h24
              rw [if_pos (by rfl)]
              refine OpY.val (v := (.int .i64 (B : Int))) ?_ ⟨Kept.refl _ _, rfl⟩
              first | rfl | go_simp
            refine Steps.cons (fun x wf Kk hq hdep hold => ?_) ?_
            · try dsimp only
              have h25 : x 25 = (.slice (some ⟨bl, ol, none⟩) N cl) := hdep 25 (by kernel_rfl)
              have h26 : x 26 = (.int .i64 (B : Int)) := hdep 26 (by kernel_rfl)
              have h24 : x 24 = (.bool true) := hdep 24 (by kernel_rfl)
              clear hq hdep hold
              simp only [h25, h26, h24]
              clear h25 h26 h24
              rw [if_pos (by rfl)]
              refine OpY.val (v := (.pointer (some ⟨bl, ol + B, none⟩))) ?_ ⟨Kept.refl _ _, rfl⟩
              first | rfl | go_simp
            refine Steps.cons (fun x wf Kk hq hdep hold => ?_) ?_
            · try dsimp only
              have h27 : x 27 = (.pointer (some ⟨bl, ol + B, none⟩)) := hdep 27 (by kernel_rfl)
              have h24 : x 24 = (.bool true) := hdep 24 (by kernel_rfl)
              have Kq := hq no (fun j hj => by cases (show j ∈ ([] : List Nat) from by (have e : ∀ l : List Nat, l = [] → j ∈ l → j ∈ ([] : List Nat) := fun l h h2 => h ▸ h2); exact e _ (by kernel_rfl) hj))
              clear hq hdep hold
              simp only [h27, h24]
              clear h27 h24
              have cvf := Kq.undrew.cell cPB.out id
              rw [if_pos (by rfl)]
              refine OpY.val (v := (.int .i64 P2)) ?_ ⟨Kept.refl _ _, rfl⟩
              first | rfl | go_simp
            refine Steps.cons (fun x wf Kk hq hdep hold => ?_) ?_
            · try dsimp only
              have h24 : x 24 = (.bool true) := hdep 24 (by kernel_rfl)
              clear hq hdep hold
              simp only [h24]
              clear h24
              rw [if_pos (by rfl)]
              refine OpY.val (v := (vg)) ?_ ⟨Kept.refl _ _, rfl⟩
              first | rfl | go_simp
            refine Steps.cons (fun x wf Kk hq hdep hold => ?_) ?_
            · try dsimp only
              have h24 : x 24 = (.bool true) := hdep 24 (by kernel_rfl)
              clear hq hdep hold
              simp only [h24]
              clear h24
              rw [if_pos (by rfl)]
              refine OpY.val (v := (.int .i64 (B : Int))) ?_ ⟨Kept.refl _ _, rfl⟩
              first | rfl | go_simp
            refine Steps.cons (fun x wf Kk hq hdep hold => ?_) ?_
            · try dsimp only
              have h24 : x 24 = (.bool true) := hdep 24 (by kernel_rfl)
              clear hq hdep hold
              simp only [h24]
              clear h24
              rw [if_pos (by rfl)]
              refine OpY.val (v := (.int .i64 (A : Int))) ?_ ⟨Kept.refl _ _, rfl⟩
              first | rfl | go_simp
            refine Steps.cons (fun x wf Kk hq hdep hold => ?_) ?_
            · try dsimp only
              have h29 : x 29 = (vg) := hdep 29 (by kernel_rfl)
              have h30 : x 30 = (.int .i64 (B : Int)) := hdep 30 (by kernel_rfl)
              have h31 : x 31 = (.int .i64 (A : Int)) := hdep 31 (by kernel_rfl)
              have h24 : x 24 = (.bool true) := hdep 24 (by kernel_rfl)
              have Kq := hq no (fun j hj => by cases (show j ∈ ([] : List Nat) from by (have e : ∀ l : List Nat, l = [] → j ∈ l → j ∈ ([] : List Nat) := fun l h h2 => h ▸ h2); exact e _ (by kernel_rfl) hj))
              clear hq hdep hold
              simp only [h29, h30, h31, h24]
              clear h29 h30 h31 h24
              rw [if_pos (by rfl)]
              refine OpY.call (f := 22) (args := #[(vg), (.int .i64 (B : Int)), (.int .i64 (A : Int))]) (by go_simp) ?_
              refine (hP2.out ▸ prefers_any vg ps (B : Int) (A : Int) wf (hrg8.out.kept Kq.undrew)).mono ?_
              rintro e w2 ⟨rfl, k2⟩
              exact ⟨_, rfl, k2, rfl⟩
            refine Steps.cons (fun x wf Kk hq hdep hold => ?_) ?_
            · try dsimp only
              have h28 : x 28 = (.int .i64 P2) := hdep 28 (by kernel_rfl)
              have h32 : x 32 = (.int .i64 P2) := hdep 32 (by kernel_rfl)
              have h24 : x 24 = (.bool true) := hdep 24 (by kernel_rfl)
              clear hq hdep hold
              simp only [h28, h32, h24]
              clear h28 h32 h24
              rw [if_pos (by rfl)]
              refine OpY.val (v := (.bool true)) ?_ ⟨Kept.refl _ _, rfl⟩
              first | rfl | go_simp
            refine Steps.cons (fun x wf Kk hq hdep hold => ?_) ?_
            · try dsimp only
              have h24 : x 24 = (.bool true) := hdep 24 (by kernel_rfl)
              have h33 : x 33 = (.bool true) := hdep 33 (by kernel_rfl)
              clear hq hdep hold
              simp only [h24, h33]
              clear h24 h33
              rw [if_pos (by rfl)]
              refine OpY.val (v := (.bool true)) ?_ ⟨Kept.refl _ _, rfl⟩
              first | rfl | go_simp
            refine Steps.cons (fun x wf Kk hq hdep hold => ?_) ?_
            · try dsimp only
              have h34 : x 34 = (.bool true) := hdep 34 (by kernel_rfl)
              clear hq hdep hold
              simp only [h34]
              clear h34
              rw [if_pos (by rfl)]
              refine OpY.val (v := (.bool true)) ?_ ⟨Kept.refl _ _, rfl⟩
              first | rfl | go_simp
            refine Steps.cons (fun x wf Kk hq hdep hold => ?_) ?_
            · try dsimp only
              have h35 : x 35 = (.bool true) := hdep 35 (by kernel_rfl)
              clear hq hdep hold
              simp only [h35]
              clear h35
              rw [if_pos (by rfl)]
              refine OpY.val (v := (.int .i64 ((len : Int) - P1 - P2))) ?_ ⟨Kept.refl _ _, rfl⟩
              first | rfl | go_simp
            refine Steps.cons (fun x wf Kk hq hdep hold => ?_) ?_
            · try dsimp only
              have h35 : x 35 = (.bool true) := hdep 35 (by kernel_rfl)
              clear hq hdep hold
              simp only [h35]
              clear h35
              rw [if_pos (by rfl)]
              refine OpY.val (v := (.slice ao len cap)) ?_ ⟨Kept.refl _ _, rfl⟩
              first | rfl | go_simp
            refine Steps.cons (fun x wf Kk hq hdep hold => ?_) ?_
            · try dsimp only
              have h37 : x 37 = (.slice ao len cap) := hdep 37 (by kernel_rfl)
              have h35 : x 35 = (.bool true) := hdep 35 (by kernel_rfl)
              clear hq hdep hold
              simp only [h37, h35]
              clear h37 h35
              rw [if_pos (by rfl)]
              refine OpY.val (v := (.int .i64 (len : Int))) ?_ ⟨Kept.refl _ _, rfl⟩
              first | rfl | go_simp
            refine Steps.cons (fun x wf Kk hq hdep hold => ?_) ?_
            · try dsimp only
              have h35 : x 35 = (.bool true) := hdep 35 (by kernel_rfl)
              clear hq hdep hold
              simp only [h35]
              clear h35
              rw [if_pos (by rfl)]
              refine OpY.val (v := (.slice (some ⟨bl, ol, none⟩) N cl)) ?_ ⟨Kept.refl _ _, rfl⟩
              first | rfl | go_simp
            refine Steps.cons (fun x wf Kk hq hdep hold => ?_) ?_
            · try dsimp only
              have h35 : x 35 = (.bool true) := hdep 35 (by kernel_rfl)
              clear hq hdep hold
              simp only [h35]
              clear h35
              rw [if_pos (by rfl)]
              refine OpY.val (v := (.int .i64 (A : Int))) ?_ ⟨Kept.refl _ _, rfl⟩
              first | rfl | go_simp
            refine Steps.cons (fun x wf Kk hq hdep hold => ?_) ?_
            · try dsimp only
              have h39 : x 39 = (.slice (some ⟨bl, ol, none⟩) N cl) := hdep 39 (by kernel_rfl)
              have h40 : x 40 = (.int .i64 (A : Int)) := hdep 40 (by kernel_rfl)
              have h35 : x 35 = (.bool true) := hdep 35 (by kernel_rfl)
              clear hq hdep hold
              simp only [h39, h40, h35]
              clear h39 h40 h35
              rw [if_pos (by rfl)]
              refine OpY.val (v := (.pointer (some ⟨bl, ol + A, none⟩))) ?_ ⟨Kept.refl _ _, rfl⟩
              first | rfl | go_simp
            refine Steps.cons (fun x wf Kk hq hdep hold => ?_) ?_
            · try dsimp only
              have h41 : x 41 = (.pointer (some ⟨bl, ol + A, none⟩)) := hdep 41 (by kernel_rfl)
              have h35 : x 35 = (.bool true) := hdep 35 (by kernel_rfl)
              have Kq := hq no (fun j hj => by cases (show j ∈ ([] : List Nat) from by (have e : ∀ l : List Nat, l = [] → j ∈ l → j ∈ ([] : List Nat) := fun l h h2 => h ▸ h2); exact e _ (by kernel_rfl) hj))
              clear hq hdep hold
              simp only [h41, h35]
              clear h41 h35
              have cvf := Kq.undrew.cell cPA.out id
              rw [if_pos (by rfl)]
              refine OpY.val (v := (.int .i64 P1)) ?_ ⟨Kept.refl _ _, rfl⟩
              first | rfl | go_simp
            refine Steps.cons (fun x wf Kk hq hdep hold => ?_) ?_
            · try dsimp only
              have h38 : x 38 = (.int .i64 (len : Int)) := hdep 38 (by kernel_rfl)
              have h42 : x 42 = (.int .i64 P1) := hdep 42 (by kernel_rfl)
              have h35 : x 35 = (.bool true) := hdep 35 (by kernel_rfl)
              clear hq hdep hold
              simp only [h38, h42, h35]
              clear h38 h42 h35
              rw [if_pos (by rfl)]
              refine OpY.val (v := (.int .i64 ((len : Int) - P1))) ?_ ⟨Kept.refl _ _, rfl⟩
              first | rfl | go_simp
            refine Steps.cons (fun x wf Kk hq hdep hold => ?_) ?_
            · try dsimp only
              have h35 : x 35 = (.bool true) := hdep 35 (by kernel_rfl)
              clear hq hdep hold
              simp only [h35]
              clear h35
              rw [if_pos (by rfl)]
              refine OpY.val (v := (.slice (some ⟨bl, ol, none⟩) N cl)) ?_ ⟨Kept.refl _ _, rfl⟩
              first | rfl | go_simp
            refine Steps.cons (fun x wf Kk hq hdep hold => ?_) ?_
            · try dsimp only
              have h35 : x 35 = (.bool true) := hdep 35 (by kernel_rfl)
              clear hq hdep hold
              simp only [h35]
              clear h35
              rw [if_pos (by rfl)]
              refine OpY.val (v := (.int .i64 (B : Int))) ?_ ⟨Kept.refl _ _, rfl⟩
              first | rfl | go_simp
            refine Steps.cons (fun x wf Kk hq hdep hold => ?_) ?_
            · try dsimp only
              have h44 : x 44 = (.slice (some ⟨bl, ol, none⟩) N cl) := hdep 44 (by kernel_rfl)
              have h45 : x 45 = (.int .i64 (B : Int)) := hdep 45 (by kernel_rfl)
              have h35 : x 35 = (.bool true) := hdep 35 (by kernel_rfl)
              clear hq hdep hold
              simp only [h44, h45, h35]
              clear h44 h45 h35
              rw [if_pos (by rfl)]
              refine OpY.val (v := (.pointer (some ⟨bl, ol + B, none⟩))) ?_ ⟨Kept.refl _ _, rfl⟩
              first | rfl | go_simp
            refine Steps.cons (fun x wf Kk hq hdep hold => ?_) ?_
            · try dsimp only
              have h46 : x 46 = (.pointer (some ⟨bl, ol + B, none⟩)) := hdep 46 (by kernel_rfl)
              have h35 : x 35 = (.bool true) := hdep 35 (by kernel_rfl)
              have Kq := hq no (fun j hj => by cases (show j ∈ ([] : List Nat) from by (have e : ∀ l : List Nat, l = [] → j ∈ l → j ∈ ([] : List Nat) := fun l h h2 => h ▸ h2); exact e _ (by kernel_rfl) hj))
              clear hq hdep hold
              simp only [h46, h35]
              clear h46 h35
              have cvf := Kq.undrew.cell cPB.out id
              rw [if_pos (by rfl)]
              refine OpY.val (v := (.int .i64 P2)) ?_ ⟨Kept.refl _ _, rfl⟩
              first | rfl | go_simp
            refine Steps.cons (fun x wf Kk hq hdep hold => ?_) ?_
            · try dsimp only
              have h43 : x 43 = (.int .i64 ((len : Int) - P1)) := hdep 43 (by kernel_rfl)
              have h47 : x 47 = (.int .i64 P2) := hdep 47 (by kernel_rfl)
              have h35 : x 35 = (.bool true) := hdep 35 (by kernel_rfl)
              clear hq hdep hold
              simp only [h43, h47, h35]
              clear h43 h47 h35
              rw [if_pos (by rfl)]
              refine OpY.val (v := (.int .i64 ((len : Int) - P1 - P2))) ?_ ⟨Kept.refl _ _, rfl⟩
              first | rfl | go_simp
            refine Steps.cons (fun x wf Kk hq hdep hold => ?_) ?_
            · try dsimp only
              have h36 : x 36 = (.int .i64 ((len : Int) - P1 - P2)) := hdep 36 (by kernel_rfl)
              have h48 : x 48 = (.int .i64 ((len : Int) - P1 - P2)) := hdep 48 (by kernel_rfl)
              have h35 : x 35 = (.bool true) := hdep 35 (by kernel_rfl)
              clear hq hdep hold
              simp only [h36, h48, h35]
              clear h36 h48 h35
              rw [if_pos (by rfl)]
              refine OpY.val (v := (.bool true)) ?_ ⟨Kept.refl _ _, rfl⟩
              first | rfl | go_simp
            refine Steps.cons (fun x wf Kk hq hdep hold => ?_) ?_
            · try dsimp only
              have h35 : x 35 = (.bool true) := hdep 35 (by kernel_rfl)
              have h49 : x 49 = (.bool true) := hdep 49 (by kernel_rfl)
              clear hq hdep hold
              simp only [h35, h49]
              clear h35 h49
              rw [if_pos (by rfl)]
              refine OpY.val (v := (.bool true)) ?_ ⟨Kept.refl _ _, rfl⟩
              first | rfl | go_simp
            refine Steps.cons (fun x wf Kk hq hdep hold => ?_) ?_
            · try dsimp only
              have h50 : x 50 = (.bool true) := hdep 50 (by kernel_rfl)
              clear hq hdep hold
              simp only [h50]
              clear h50
              rw [if_pos (by rfl)]
              refine OpY.val (v := (.bool true)) ?_ ⟨Kept.refl _ _, rfl⟩
              first | rfl | go_simp
            exact Steps.nil _
          · intro x wf Kk hv
            try dsimp only
            have h0 : x 0 = (.bool true) := hv 0 (by kernel_rfl)
            have h1 : x 1 = (.bool true) := hv 1 (by kernel_rfl)
            have h2 : x 2 = (.int .i64 (len : Int)) := hv 2 (by kernel_rfl)
            have h3 : x 3 = (.slice ao len cap) := hv 3 (by kernel_rfl)
            have h4 : x 4 = (.int .i64 (len : Int)) := hv 4 (by kernel_rfl)
            have h5 : x 5 = (.bool true) := hv 5 (by kernel_rfl)
            have h6 : x 6 = (.bool true) := hv 6 (by kernel_rfl)
            have h7 : x 7 = (.bool true) := hv 7 (by kernel_rfl)
            have h8 : x 8 = (.slice (some ⟨bl, ol, none⟩) N cl) := hv 8 (by kernel_rfl)
            have h9 : x 9 = (.int .i64 (N : Int)) := hv 9 (by kernel_rfl)
            have h10 : x 10 = (.int .i64 (N : Int)) := hv 10 (by kernel_rfl)
            have h11 : x 11 = (.bool true) := hv 11 (by kernel_rfl)
            have h12 : x 12 = (.bool true) := hv 12 (by kernel_rfl)
            have h13 : x 13 = (.bool true) := hv 13 (by kernel_rfl)
            have h14 : x 14 = (.slice (some ⟨bl, ol, none⟩) N cl) := hv 14 (by kernel_rfl)
            have h15 : x 15 = (.int .i64 (A : Int)) := hv 15 (by kernel_rfl)
            have h16 : x 16 = (.pointer (some ⟨bl, ol + A, none⟩)) := hv 16 (by kernel_rfl)
            have h17 : x 17 = (.int .i64 P1) := hv 17 (by kernel_rfl)
            have h18 : x 18 = (vg) := hv 18 (by kernel_rfl)
            have h19 : x 19 = (.int .i64 (A : Int)) := hv 19 (by kernel_rfl)
            have h20 : x 20 = (.int .i64 (B : Int)) := hv 20 (by kernel_rfl)
            have h21 : x 21 = (.int .i64 P1) := hv 21 (by kernel_rfl)
            have h22 : x 22 = (.bool true) := hv 22 (by kernel_rfl)
            have h23 : x 23 = (.bool true) := hv 23 (by kernel_rfl)
            have h24 : x 24 = (.bool true) := hv 24 (by kernel_rfl)
            have h25 : x 25 = (.slice (some ⟨bl, ol, none⟩) N cl) := hv 25 (by kernel_rfl)
            have h26 : x 26 = (.int .i64 (B : Int)) := hv 26 (by kernel_rfl)
            have h27 : x 27 = (.pointer (some ⟨bl, ol + B, none⟩)) := hv 27 (by kernel_rfl)
            have h28 : x 28 = (.int .i64 P2) := hv 28 (by kernel_rfl)
            have h29 : x 29 = (vg) := hv 29 (by kernel_rfl)
            have h30 : x 30 = (.int .i64 (B : Int)) := hv 30 (by kernel_rfl)
            have h31 : x 31 = (.int .i64 (A : Int)) := hv 31 (by kernel_rfl)
            have h32 : x 32 = (.int .i64 P2) := hv 32 (by kernel_rfl)
            have h33 : x 33 = (.bool true) := hv 33 (by kernel_rfl)
            have h34 : x 34 = (.bool true) := hv 34 (by kernel_rfl)
            have h35 : x 35 = (.bool true) := hv 35 (by kernel_rfl)
            have h36 : x 36 = (.int .i64 ((len : Int) - P1 - P2)) := hv 36 (by kernel_rfl)
            have h37 : x 37 = (.slice ao len cap) := hv 37 (by kernel_rfl)
            have h38 : x 38 = (.int .i64 (len : Int)) := hv 38 (by kernel_rfl)
            have h39 : x 39 = (.slice (some ⟨bl, ol, none⟩) N cl) := hv 39 (by kernel_rfl)
            have h40 : x 40 = (.int .i64 (A : Int)) := hv 40 (by kernel_rfl)
            have h41 : x 41 = (.pointer (some ⟨bl, ol + A, none⟩)) := hv 41 (by kernel_rfl)
            have h42 : x 42 = (.int .i64 P1) := hv 42 (by kernel_rfl)
            have h43 : x 43 = (.int .i64 ((len : Int) - P1)) := hv 43 (by kernel_rfl)
            have h44 : x 44 = (.slice (some ⟨bl, ol, none⟩) N cl) := hv 44 (by kernel_rfl)
            have h45 : x 45 = (.int .i64 (B : Int)) := hv 45 (by kernel_rfl)
            have h46 : x 46 = (.pointer (some ⟨bl, ol + B, none⟩)) := hv 46 (by kernel_rfl)
            have h47 : x 47 = (.int .i64 P2) := hv 47 (by kernel_rfl)
            have h48 : x 48 = (.int .i64 ((len : Int) - P1 - P2)) := hv 48 (by kernel_rfl)
            have h49 : x 49 = (.bool true) := hv 49 (by kernel_rfl)
            have h50 : x 50 = (.bool true) := hv 50 (by kernel_rfl)
            have h51 : x 51 = (.bool true) := hv 51 (by kernel_rfl)
            clear hv
            simp only [h0, h1, h2, h3, h4, h5, h6, h7, h8, h9, h10, h11, h12, h13, h14, h15, h16, h17, h18, h19, h20, h21, h22, h23, h24, h25, h26, h27, h28, h29, h30, h31, h32, h33, h34, h35, h36, h37, h38, h39, h40, h41, h42, h43, h44, h45, h46, h47, h48, h49, h50, h51]
            clear h0 h1 h2 h3 h4 h5 h6 h7 h8 h9 h10 h11 h12 h13 h14 h15 h16 h17 h18 h19 h20 h21 h22 h23 h24 h25 h26 h27 h28 h29 h30 h31 h32 h33 h34 h35 h36 h37 h38 h39 h40 h41 h42 h43 h44 h45 h46 h47 h48 h49 h50 h51
            have hW9 := hid (hW8.out.trans' Kk.undrew)
            clear Kk hW8
            go_wp2
            go_ret
            exact ⟨rfl, hW9.out⟩
end Go.Proofs.Ytmigdhbolbhbeaa
