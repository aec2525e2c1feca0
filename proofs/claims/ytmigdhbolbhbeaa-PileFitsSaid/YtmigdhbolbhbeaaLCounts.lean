/- PileCounts: the walk (printed by gen_counts.py). -/
import Derived.Test.YtmigdhbolbhbeaaSumK
import Derived.Test.YtmigdhbolbhbeaaCnt4
import Derived.Test.YtmigdhbolbhbeaaCnt7
namespace Go.Pil
theorem prefers_ref (gs : List Grp) (a b : Int) : (if isPile 7 gs = true then sumIf (fun p => pref p a b) gs else 0) = prefers gs a b := by
  unfold prefers
  by_cases h : isPile 7 gs = true
  · rw [if_pos h]
    by_cases e : a = b
    · subst e
      rw [if_neg (fun h => h.2 rfl)]
      have : sumIf (fun p => pref p a a) gs = sumIf (fun _ => false) gs := sumIf_congr fun g _ => by unfold pref; simp
      have z : ∀ l : List Grp, sumIf (fun _ => false) l = 0 := by
        intro l
        induction l with
        | nil => rfl
        | cons g l ih => rw [sumIf_cons, ih]; simp
      rw [this, z]
    · rw [if_pos ⟨h, e⟩]
  · rw [if_neg h, if_neg (fun h' => h h'.1)]
end Go.Pil
namespace Go.Proofs.Ytmigdhbolbhbeaa
open Go.RowKit Go.Mk Go.Pil
/-- Few groups with short preferences. -/
def shortG (gs : List Grp) : Bool := decide ((∀ g ∈ gs, g.p.length ≤ 12) ∧ gs.length ≤ 60)
set_option maxHeartbeats 1000000 in
theorem short_any (v : Value) (ps : List (Grp × Value)) (w : World) (hr : RdG w v ps) : Calls Try.prog 23 #[v] w fun e w' => e = .returned (.bool (shortG (grps ps))) ∧ Qt w w' := by
  obtain ⟨ao, cap, rfl, hcap, hcm⟩ := hr.shape
  have hm63 := maxLen_63
  obtain ⟨res, hres⟩ : ∃ res, shortG (grps ps) = res := ⟨_, rfl⟩
  rw [hres]
  replace hres := hid hres
  replace hr := hid hr
  obtain ⟨len, hlen⟩ : ∃ len, ps.length = len := ⟨_, rfl⟩
  rw [hlen] at hr hcap ⊢
  replace hlen := hid hlen
  go_enter Try.func23, Try.ntmps23
  go_wp2
  go_loopw [3] (fun i wr => ∃ (k : Nat), k ≤ len ∧ i = .int .i64 (k : Int) ∧ Hd (∀ g ∈ (grps ps).take k, g.p.length ≤ 12) ∧ Hd (Qt w wr)) (fun i _ => len - (intOf i).toNat)
  case atStart => exact ⟨0, by omega, rfl, ⟨by simp⟩, ⟨Qt.refl _⟩⟩
  case round =>
    obtain ⟨k, hk, rfl, ht, hW⟩ := hrel
    by_cases hlt : k < len
    · have hk1 : (k : Int) < (len : Int) := by omega
      have hk0 : (0 : Int) ≤ (k : Int) := by omega
      obtain ⟨b, o, g, vg, rfl, hel, c0, c1, hz⟩ := (hr.out.kept hW.out.kept).at k (by rw [hlen.out]; exact hlt)
      have hpk := grps_get _ hel
      obtain ⟨av, cv, rfl, _, _⟩ := Rd.shape2 hz
      have hbig : Hd (12 < g.p.length → res = false) := ⟨fun h => by
        rw [← hres.out]; exact decide_eq_false fun hh => by have := hh.1 g (List.mem_of_getElem? hpk); omega⟩
      have hst : Hd (g.p.length ≤ 12 → ∀ x ∈ (grps ps).take (k + 1), x.p.length ≤ 12) := ⟨fun h x hx => by
        obtain ⟨h1, h2⟩ := List.getElem?_eq_some_iff.1 hpk
        rw [List.take_succ_eq_append_getElem h1, List.mem_append, h2] at hx
        rcases hx with hx | hx
        · exact ht.out x hx
        · obtain rfl : x = g := by simpa using hx
          exact h⟩
      generalize g.p.length = lp at c0 hbig hst
      clear hel hz hpk c1
      by_cases h12 : 12 < lp
      · have h12' : (12 : Int) < (lp : Int) := by omega
        obtain rfl := hbig.out h12
        clear hbig hst ht hres
        go_wp2
        go_ret
        exact ⟨rfl, hW.out⟩
      · have h12' : ¬ (12 : Int) < (lp : Int) := by omega
        have ht' := hid (hst.out (by omega))
        clear hbig hst ht
        go_wp2
        go_roundw
        case rel => first | exact ⟨k + 1, by omega, by go_num, ht', hW⟩ | ((repeat apply Exists.intro); exact ⟨⟨k + 1, by omega, by go_num, ht', hW⟩, rfl⟩)
        case measure => simp [intOf]; omega
    · obtain rfl : k = len := by omega
      have hv : Hd (res = decide ((k : Int) ≤ 60)) := ⟨by
        rw [← hres.out]; unfold shortG
        have := ht.out
        rw [List.take_of_length_le (by rw [grps_length, hlen.out]; exact Nat.le_refl _)] at this
        rw [grps_length, hlen.out]
        by_cases h : k ≤ 60
        · rw [decide_eq_true (show _ ∧ k ≤ 60 from ⟨this, h⟩), decide_eq_true (by omega)]
        · rw [decide_eq_false (fun hh => h hh.2), decide_eq_false (by omega)]⟩
      clear ht hres
      go_wp2
      go_ret
      exact ⟨by rw [hv.out] <;> rfl, hW.out⟩
set_option maxRecDepth 20000 in
set_option maxHeartbeats 4000000 in
theorem pilecounts_any (n : Int) (v : Value) (qs : List (Grp × Value)) (vr : Value) (fs : List Bool) (a b : Int) (raw : Bool) (vb : Value) (bs : List (List Int × Value)) (w : World) (hg : RdG w v qs) (ht : RdT w vr fs) (hr : RdB w vb bs) : Calls Try.prog 5 #[.int .i64 n, v, vr, .int .i64 a, .int .i64 b, .bool raw, vb] w fun e w' => e = .returned (.bool true) ∧ Kept no w w' := by
  replace hg := hid hg
  replace ht := hid ht
  replace hr := hid hr
  have K := hid (Kept.refl no w)
  cases hs : shortG (grps qs) with
  | false =>
    have hs' := hid hs
    clear hs
    go_enter Try.func5, Try.ntmps5
    have H1 := short_any v qs w (hg.out.kept K.out)
    rw [hs'.out] at H1
    replace H1 := hid H1
    go_wp2_with fail
    refine H1.out.mono ?_
    rintro e x1 ⟨rfl, k⟩
    replace K := hid (K.out.trans' k.kept)
    clear H1 k
    have H2 := awake_any x1
    replace H2 := hid H2
    go_wp2_with fail
    refine H2.out.mono ?_
    rintro e x2 ⟨rfl, k⟩
    replace K := hid (K.out.trans' k)
    clear H2 k
    go_wp2
    go_ret
    exact ⟨rfl, K.out⟩
  | true =>
    have hs' := hid hs
    clear hs
    cases hf : few (lists bs) with
    | false =>
      have hf' := hid hf
      clear hf
      go_enter Try.func5, Try.ntmps5
      have H1 := short_any v qs w (hg.out.kept K.out)
      rw [hs'.out] at H1
      replace H1 := hid H1
      go_wp2_with fail
      refine H1.out.mono ?_
      rintro e x1 ⟨rfl, k⟩
      replace K := hid (K.out.trans' k.kept)
      clear H1 k
      have H2 := lawsmall_any vb bs x1 (hr.out.kept K.out)
      rw [hf'.out] at H2
      replace H2 := hid H2
      go_wp2_with fail
      refine H2.out.mono ?_
      rintro e x2 ⟨rfl, k⟩
      replace K := hid (K.out.trans' k.kept)
      clear H2 k
      have H3 := awake_any x2
      replace H3 := hid H3
      go_wp2_with fail
      refine H3.out.mono ?_
      rintro e x3 ⟨rfl, k⟩
      replace K := hid (K.out.trans' k)
      clear H3 k
      go_wp2
      go_ret
      exact ⟨rfl, K.out⟩
    | true =>
      have hf' := hid hf
      clear hf
      cases raw with
      | true =>
        go_enter Try.func5, Try.ntmps5
        have H1 := short_any v qs w (hg.out.kept K.out)
        rw [hs'.out] at H1
        replace H1 := hid H1
        go_wp2_with fail
        refine H1.out.mono ?_
        rintro e x1 ⟨rfl, k⟩
        replace K := hid (K.out.trans' k.kept)
        clear H1 k
        have H2 := lawsmall_any vb bs x1 (hr.out.kept K.out)
        rw [hf'.out] at H2
        replace H2 := hid H2
        go_wp2_with fail
        refine H2.out.mono ?_
        rintro e x2 ⟨rfl, k⟩
        replace K := hid (K.out.trans' k.kept)
        clear H2 k
        have H3 := hid (flags_any vr fs x2 (ht.out.kept K.out))
        go_wp2_with fail
        refine H3.out.mono ?_
        rintro e x3 ⟨⟨vf, rfl, hf10⟩, rfl⟩
        generalize fs.take 10 = f10 at hf10
        replace hf10 := hid hf10
        have KF := hid (Kept.refl no x3)
        clear H3
        have H4 := first_any _ vf qs (f10) x3 (hg.out.kept K.out) (hf10.out.kept KF.out)
        replace H4 := hid H4
        go_wp2_with fail
        refine H4.out.mono ?_
        rintro e x4 ⟨v1, rfl, o1⟩
        replace K := hid (K.out.trans' o1.kept)
        replace KF := hid (KF.out.trans' o1.kept)
        obtain ⟨a1, c1, rfl, _, _⟩ := Rd.shape2 o1.rd
        have Z1 := hid o1.rd
        have KZ1 := hid (Kept.refl no x4)
        clear o1
        clear H4
        have H5 := reffirst_any _ vf qs f10 x4 (hg.out.kept K.out) (hf10.out.kept KF.out)
        replace H5 := hid H5
        go_wp2_with fail
        refine H5.out.mono ?_
        rintro e x5 ⟨v2, rfl, o2⟩
        replace K := hid (K.out.trans' o2.kept)
        replace KF := hid (KF.out.trans' o2.kept)
        replace KZ1 := hid (KZ1.out.trans' o2.kept)
        obtain ⟨a2, c2, rfl, _, _⟩ := Rd.shape2 o2.rd
        have Z2 := hid o2.rd
        have KZ2 := hid (Kept.refl no x5)
        clear o2
        clear H5
        obtain ⟨F1, hF1⟩ : ∃ F, (first (grps qs) f10).1 = F := ⟨_, rfl⟩
        obtain ⟨F2, hF2⟩ : ∃ F, (first (grps qs) f10).2 = F := ⟨_, rfl⟩
        rw [hF1] at Z1 Z2
        rw [hF2]
        try rw [hF1]
        clear hF1 hF2
        have eF : (F2 == F2) = true := by simp
        have H6 := awake_any x5
        replace H6 := hid H6
        go_wp2_with fail
        refine H6.out.mono ?_
        rintro e x6 ⟨rfl, k⟩
        replace K := hid (K.out.trans' k)
        replace KF := hid (KF.out.trans' k)
        replace KZ1 := hid (KZ1.out.trans' k)
        replace KZ2 := hid (KZ2.out.trans' k)
        clear H6 k
        obtain ⟨rv, hrv⟩ : ∃ r, (decide (1 ≤ n ∧ n ≤ 7) && isPile n (grps qs)) = r := ⟨_, rfl⟩
        have H7 := valid_any n _ qs x6 (hg.out.kept K.out)
        rw [hrv] at H7
        replace H7 := hid H7
        go_wp2_with fail
        refine H7.out.mono ?_
        rintro e x7 ⟨rfl, k⟩
        replace K := hid (K.out.trans' k)
        replace KF := hid (KF.out.trans' k)
        replace KZ1 := hid (KZ1.out.trans' k)
        replace KZ2 := hid (KZ2.out.trans' k)
        clear H7 k
        have H8 := refvalid_any n _ qs x7 (hg.out.kept K.out)
        rw [hrv] at H8
        replace H8 := hid H8
        go_wp2_with fail
        refine H8.out.mono ?_
        rintro e x8 ⟨rfl, k⟩
        replace K := hid (K.out.trans' k.kept)
        replace KF := hid (KF.out.trans' k.kept)
        replace KZ1 := hid (KZ1.out.trans' k.kept)
        replace KZ2 := hid (KZ2.out.trans' k.kept)
        clear H8 k
        clear hrv
        have erv : (rv == rv) = true := by simp
        obtain ⟨rtotal, hrtotal⟩ : ∃ r, total (grps qs) = r := ⟨_, rfl⟩
        have H9 := total_any _ qs x8 (hg.out.kept K.out)
        rw [hrtotal] at H9
        replace H9 := hid H9
        go_wp2_with fail
        refine H9.out.mono ?_
        rintro e x9 ⟨rfl, k⟩
        replace K := hid (K.out.trans' k)
        replace KF := hid (KF.out.trans' k)
        replace KZ1 := hid (KZ1.out.trans' k)
        replace KZ2 := hid (KZ2.out.trans' k)
        clear H9 k
        have H10 := reftotal_any _ qs x9 (hg.out.kept K.out)
        rw [hrtotal] at H10
        replace H10 := hid H10
        go_wp2_with fail
        refine H10.out.mono ?_
        rintro e x10 ⟨rfl, k⟩
        replace K := hid (K.out.trans' k.kept)
        replace KF := hid (KF.out.trans' k.kept)
        replace KZ1 := hid (KZ1.out.trans' k.kept)
        replace KZ2 := hid (KZ2.out.trans' k.kept)
        clear H10 k
        clear hrtotal
        have ertotal : (rtotal == rtotal) = true := by simp
        obtain ⟨rmarked, hrmarked⟩ : ∃ r, marked (grps qs) = r := ⟨_, rfl⟩
        have H11 := marked_any _ qs x10 (hg.out.kept K.out)
        rw [hrmarked] at H11
        replace H11 := hid H11
        go_wp2_with fail
        refine H11.out.mono ?_
        rintro e x11 ⟨rfl, k⟩
        replace K := hid (K.out.trans' k)
        replace KF := hid (KF.out.trans' k)
        replace KZ1 := hid (KZ1.out.trans' k)
        replace KZ2 := hid (KZ2.out.trans' k)
        clear H11 k
        have H12 := refmarked_any _ qs x11 (hg.out.kept K.out)
        rw [hrmarked] at H12
        replace H12 := hid H12
        go_wp2_with fail
        refine H12.out.mono ?_
        rintro e x12 ⟨rfl, k⟩
        replace K := hid (K.out.trans' k.kept)
        replace KF := hid (KF.out.trans' k.kept)
        replace KZ1 := hid (KZ1.out.trans' k.kept)
        replace KZ2 := hid (KZ2.out.trans' k.kept)
        clear H12 k
        clear hrmarked
        have ermarked : (rmarked == rmarked) = true := by simp
        have H13 := same_any _ _ F1 F1 x12 (Z1.out.kept KZ1.out) (Z2.out.kept KZ2.out)
        rw [decide_eq_true rfl] at H13
        replace H13 := hid H13
        go_wp2_with fail
        refine H13.out.mono ?_
        rintro e x13 ⟨rfl, k⟩
        replace K := hid (K.out.trans' k.kept)
        replace KF := hid (KF.out.trans' k.kept)
        replace KZ1 := hid (KZ1.out.trans' k.kept)
        replace KZ2 := hid (KZ2.out.trans' k.kept)
        clear H13 k
        obtain ⟨rp, hrp⟩ : ∃ r, prefers (grps qs) (a) (b) = r := ⟨_, rfl⟩
        have H14 := prefers_any _ qs (a) (b) x13 (hg.out.kept K.out)
        rw [hrp] at H14
        replace H14 := hid H14
        go_wp2_with fail
        refine H14.out.mono ?_
        rintro e x14 ⟨rfl, k⟩
        replace K := hid (K.out.trans' k)
        replace KF := hid (KF.out.trans' k)
        replace KZ1 := hid (KZ1.out.trans' k)
        replace KZ2 := hid (KZ2.out.trans' k)
        clear H14 k
        have H15 := refprefers_any _ qs (a) (b) x14 (hg.out.kept K.out)
        rw [prefers_ref, hrp] at H15
        replace H15 := hid H15
        go_wp2_with fail
        refine H15.out.mono ?_
        rintro e x15 ⟨rfl, k⟩
        replace K := hid (K.out.trans' k.kept)
        replace KF := hid (KF.out.trans' k.kept)
        replace KZ1 := hid (KZ1.out.trans' k.kept)
        replace KZ2 := hid (KZ2.out.trans' k.kept)
        clear H15 k
        clear hrp
        have erp : (rp == rp) = true := by simp
        go_wp2
        go_ret
        exact ⟨rfl, K.out⟩
      | false =>
        obtain ⟨hm0, hm1⟩ := modI_lt n 7 (by decide)
        generalize hmod : modI n 7 = m at hm0 hm1
        have hw1 : IntKind.i64.wrap (1 + m) = 1 + m := IntWalk.i64_in _ (by omega)
        replace hmod := hid hmod
        go_enter Try.func5, Try.ntmps5
        have H1 := short_any v qs w (hg.out.kept K.out)
        rw [hs'.out] at H1
        replace H1 := hid H1
        go_wp2_with fail
        refine H1.out.mono ?_
        rintro e x1 ⟨rfl, k⟩
        replace K := hid (K.out.trans' k.kept)
        clear H1 k
        have H2 := lawsmall_any vb bs x1 (hr.out.kept K.out)
        rw [hf'.out] at H2
        replace H2 := hid H2
        go_wp2_with fail
        refine H2.out.mono ?_
        rintro e x2 ⟨rfl, k⟩
        replace K := hid (K.out.trans' k.kept)
        clear H2 k
        have H3 := hid (flags_any vr fs x2 (ht.out.kept K.out))
        go_wp2_with fail
        refine H3.out.mono ?_
        rintro e x3 ⟨⟨vf, rfl, hf10⟩, rfl⟩
        generalize fs.take 10 = f10 at hf10
        replace hf10 := hid hf10
        have KF := hid (Kept.refl no x3)
        clear H3
        have H4 := mod_any n 7 x3 (by decide) (by decide)
        rw [hmod.out] at H4
        replace H4 := hid H4
        go_wp2_with fail
        refine H4.out.mono ?_
        rintro e x4 ⟨rfl, rfl⟩
        clear H4
        have H5 := genpile_any (1 + m) vb bs 60 x4 (by omega) (by omega) (by decide) (hr.out.kept K.out)
        replace H5 := hid H5
        go_wp2_with fail
        refine H5.out.mono ?_
        rintro e x5 ⟨vg, rfl, ps, hps, hrg, k⟩
        replace K := hid (K.out.trans' k)
        replace KF := hid (KF.out.trans' k)
        clear hps
        obtain ⟨ag, cg, rfl, _, _⟩ := hrg.shape
        replace hrg := hid hrg
        have KG := hid (Kept.refl no x5)
        clear H5 k
        have H6 := mod_any a 8 x5 (by decide) (by decide)
        replace H6 := hid H6
        go_wp2_with fail
        refine H6.out.mono ?_
        rintro e x6 ⟨rfl, rfl⟩
        clear H6
        have H7 := mod_any b 8 x6 (by decide) (by decide)
        replace H7 := hid H7
        go_wp2_with fail
        refine H7.out.mono ?_
        rintro e x7 ⟨rfl, rfl⟩
        clear H7
        generalize modI a 8 = ma
        generalize modI b 8 = mb
        have H8 := first_any _ vf ps (f10) x7 (hrg.out.kept KG.out) (hf10.out.kept KF.out)
        replace H8 := hid H8
        go_wp2_with fail
        refine H8.out.mono ?_
        rintro e x8 ⟨v1, rfl, o1⟩
        replace K := hid (K.out.trans' o1.kept)
        replace KF := hid (KF.out.trans' o1.kept)
        replace KG := hid (KG.out.trans' o1.kept)
        obtain ⟨a1, c1, rfl, _, _⟩ := Rd.shape2 o1.rd
        have Z1 := hid o1.rd
        have KZ1 := hid (Kept.refl no x8)
        clear o1
        clear H8
        have H9 := reffirst_any _ vf ps f10 x8 (hrg.out.kept KG.out) (hf10.out.kept KF.out)
        replace H9 := hid H9
        go_wp2_with fail
        refine H9.out.mono ?_
        rintro e x9 ⟨v2, rfl, o2⟩
        replace K := hid (K.out.trans' o2.kept)
        replace KF := hid (KF.out.trans' o2.kept)
        replace KG := hid (KG.out.trans' o2.kept)
        replace KZ1 := hid (KZ1.out.trans' o2.kept)
        obtain ⟨a2, c2, rfl, _, _⟩ := Rd.shape2 o2.rd
        have Z2 := hid o2.rd
        have KZ2 := hid (Kept.refl no x9)
        clear o2
        clear H9
        obtain ⟨F1, hF1⟩ : ∃ F, (first (grps ps) f10).1 = F := ⟨_, rfl⟩
        obtain ⟨F2, hF2⟩ : ∃ F, (first (grps ps) f10).2 = F := ⟨_, rfl⟩
        rw [hF1] at Z1 Z2
        rw [hF2]
        try rw [hF1]
        clear hF1 hF2
        have eF : (F2 == F2) = true := by simp
        have H10 := awake_any x9
        replace H10 := hid H10
        go_wp2_with fail
        refine H10.out.mono ?_
        rintro e x10 ⟨rfl, k⟩
        replace K := hid (K.out.trans' k)
        replace KF := hid (KF.out.trans' k)
        replace KG := hid (KG.out.trans' k)
        replace KZ1 := hid (KZ1.out.trans' k)
        replace KZ2 := hid (KZ2.out.trans' k)
        clear H10 k
        obtain ⟨rv, hrv⟩ : ∃ r, (decide (1 ≤ n ∧ n ≤ 7) && isPile n (grps ps)) = r := ⟨_, rfl⟩
        have H11 := valid_any n _ ps x10 (hrg.out.kept KG.out)
        rw [hrv] at H11
        replace H11 := hid H11
        go_wp2_with fail
        refine H11.out.mono ?_
        rintro e x11 ⟨rfl, k⟩
        replace K := hid (K.out.trans' k)
        replace KF := hid (KF.out.trans' k)
        replace KG := hid (KG.out.trans' k)
        replace KZ1 := hid (KZ1.out.trans' k)
        replace KZ2 := hid (KZ2.out.trans' k)
        clear H11 k
        have H12 := refvalid_any n _ ps x11 (hrg.out.kept KG.out)
        rw [hrv] at H12
        replace H12 := hid H12
        go_wp2_with fail
        refine H12.out.mono ?_
        rintro e x12 ⟨rfl, k⟩
        replace K := hid (K.out.trans' k.kept)
        replace KF := hid (KF.out.trans' k.kept)
        replace KG := hid (KG.out.trans' k.kept)
        replace KZ1 := hid (KZ1.out.trans' k.kept)
        replace KZ2 := hid (KZ2.out.trans' k.kept)
        clear H12 k
        clear hrv
        have erv : (rv == rv) = true := by simp
        obtain ⟨rtotal, hrtotal⟩ : ∃ r, total (grps ps) = r := ⟨_, rfl⟩
        have H13 := total_any _ ps x12 (hrg.out.kept KG.out)
        rw [hrtotal] at H13
        replace H13 := hid H13
        go_wp2_with fail
        refine H13.out.mono ?_
        rintro e x13 ⟨rfl, k⟩
        replace K := hid (K.out.trans' k)
        replace KF := hid (KF.out.trans' k)
        replace KG := hid (KG.out.trans' k)
        replace KZ1 := hid (KZ1.out.trans' k)
        replace KZ2 := hid (KZ2.out.trans' k)
        clear H13 k
        have H14 := reftotal_any _ ps x13 (hrg.out.kept KG.out)
        rw [hrtotal] at H14
        replace H14 := hid H14
        go_wp2_with fail
        refine H14.out.mono ?_
        rintro e x14 ⟨rfl, k⟩
        replace K := hid (K.out.trans' k.kept)
        replace KF := hid (KF.out.trans' k.kept)
        replace KG := hid (KG.out.trans' k.kept)
        replace KZ1 := hid (KZ1.out.trans' k.kept)
        replace KZ2 := hid (KZ2.out.trans' k.kept)
        clear H14 k
        clear hrtotal
        have ertotal : (rtotal == rtotal) = true := by simp
        obtain ⟨rmarked, hrmarked⟩ : ∃ r, marked (grps ps) = r := ⟨_, rfl⟩
        have H15 := marked_any _ ps x14 (hrg.out.kept KG.out)
        rw [hrmarked] at H15
        replace H15 := hid H15
        go_wp2_with fail
        refine H15.out.mono ?_
        rintro e x15 ⟨rfl, k⟩
        replace K := hid (K.out.trans' k)
        replace KF := hid (KF.out.trans' k)
        replace KG := hid (KG.out.trans' k)
        replace KZ1 := hid (KZ1.out.trans' k)
        replace KZ2 := hid (KZ2.out.trans' k)
        clear H15 k
        have H16 := refmarked_any _ ps x15 (hrg.out.kept KG.out)
        rw [hrmarked] at H16
        replace H16 := hid H16
        go_wp2_with fail
        refine H16.out.mono ?_
        rintro e x16 ⟨rfl, k⟩
        replace K := hid (K.out.trans' k.kept)
        replace KF := hid (KF.out.trans' k.kept)
        replace KG := hid (KG.out.trans' k.kept)
        replace KZ1 := hid (KZ1.out.trans' k.kept)
        replace KZ2 := hid (KZ2.out.trans' k.kept)
        clear H16 k
        clear hrmarked
        have ermarked : (rmarked == rmarked) = true := by simp
        have H17 := same_any _ _ F1 F1 x16 (Z1.out.kept KZ1.out) (Z2.out.kept KZ2.out)
        rw [decide_eq_true rfl] at H17
        replace H17 := hid H17
        go_wp2_with fail
        refine H17.out.mono ?_
        rintro e x17 ⟨rfl, k⟩
        replace K := hid (K.out.trans' k.kept)
        replace KF := hid (KF.out.trans' k.kept)
        replace KG := hid (KG.out.trans' k.kept)
        replace KZ1 := hid (KZ1.out.trans' k.kept)
        replace KZ2 := hid (KZ2.out.trans' k.kept)
        clear H17 k
        obtain ⟨rp, hrp⟩ : ∃ r, prefers (grps ps) (ma) (mb) = r := ⟨_, rfl⟩
        have H18 := prefers_any _ ps (ma) (mb) x17 (hrg.out.kept KG.out)
        rw [hrp] at H18
        replace H18 := hid H18
        go_wp2_with fail
        refine H18.out.mono ?_
        rintro e x18 ⟨rfl, k⟩
        replace K := hid (K.out.trans' k)
        replace KF := hid (KF.out.trans' k)
        replace KG := hid (KG.out.trans' k)
        replace KZ1 := hid (KZ1.out.trans' k)
        replace KZ2 := hid (KZ2.out.trans' k)
        clear H18 k
        have H19 := refprefers_any _ ps (ma) (mb) x18 (hrg.out.kept KG.out)
        rw [prefers_ref, hrp] at H19
        replace H19 := hid H19
        go_wp2_with fail
        refine H19.out.mono ?_
        rintro e x19 ⟨rfl, k⟩
        replace K := hid (K.out.trans' k.kept)
        replace KF := hid (KF.out.trans' k.kept)
        replace KG := hid (KG.out.trans' k.kept)
        replace KZ1 := hid (KZ1.out.trans' k.kept)
        replace KZ2 := hid (KZ2.out.trans' k.kept)
        clear H19 k
        clear hrp
        have erp : (rp == rp) = true := by simp
        go_wp2
        go_ret
        exact ⟨rfl, K.out⟩
end Go.Proofs.Ytmigdhbolbhbeaa
