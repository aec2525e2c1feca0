/- PileRestricts: the walk (printed by gen_lres.py). -/
import Derived.Test.YtmigdhbolbhbeaaRRes
namespace Go.Pil
theorem res_facts {n : Int} {gs : List Grp} (h : isPile n gs = true) (hn : n ≤ 7) (R : List Bool) (hl : R.length ≤ 7) :
    isPile n (restr gs R) = true ∧ total (restr gs R) = tot gs ∧ first (restr gs R) R = first gs R ∧ (first gs R).2 = total (restr gs R) - marked (restr gs R) := by
  have h7 := isPile_mono hn h
  have e : restr gs R = pileOf (gs.map fun g => ⟨kept R g.p, g.n⟩) := by unfold restr; rw [if_pos h7]
  rw [e]
  have p := restr_pile h R
  have p7 := isPile_mono hn p
  have t := restr_tot h R
  have hf : first gs R = firstV gs R := by unfold first; rw [if_pos ⟨h7, hl⟩]
  have hf2 : first (pileOf (gs.map fun g => (⟨kept R g.p, g.n⟩ : Grp))) R = firstV gs R := by unfold first; rw [if_pos ⟨p7, hl⟩, restr_first]
  refine ⟨p, ?_, by rw [hf2, hf], ?_⟩
  · unfold total; rw [if_pos p7, t]
  · rw [hf, ← restr_first gs R, restr_rest R]
    unfold total marked
    rw [if_pos p7, if_pos p7]
end Go.Pil
namespace Go.Proofs.Ytmigdhbolbhbeaa
open Go.RowKit Go.Mk Go.Pil
set_option maxRecDepth 20000 in
set_option maxHeartbeats 4000000 in
theorem pilerestricts_any (n : Int) (vx : Value) (xs : List (List Int × Value)) (vr : Value) (fs : List Bool) (w : World) (hx : RdB w vx xs) (ht : RdT w vr fs) : Calls Try.prog 11 #[.int .i64 n, vx, vr] w fun e w' => e = .returned (.bool true) ∧ Kept no w w' := by
  have hm63 := maxLen_63
  obtain ⟨ax, cx, rfl, hcx, hcxm⟩ := Rd.shape2 hx.2
  obtain ⟨lx, hlx⟩ : ∃ l, xs.length = l := ⟨_, rfl⟩
  rw [hlx] at hx hcx ⊢
  replace hx := hid hx
  replace ht := hid ht
  have K := hid (Kept.refl no w)
  cases h1 : few (lists xs) with
  | false =>
    replace h1 := hid h1
    go_enter Try.func11, Try.ntmps11
    have H1 := lawsmall_any _ xs w (hx.out.kept K.out)
    rw [h1.out] at H1
    replace H1 := hid H1
    go_wp2_with fail
    with_reducible refine H1.out.mono ?_
    rintro e x1 ⟨rfl, kq⟩
    replace K := hid (K.out.trans' kq.kept)
    clear H1 kq
    have H2 := awake_any x1
    replace H2 := hid H2
    go_wp2_with fail
    with_reducible refine H2.out.mono ?_
    rintro e x2 ⟨rfl, kq⟩
    replace K := hid (K.out.trans' kq)
    clear H2 kq
    go_wp2
    go_ret
    exact ⟨rfl, K.out⟩
  | true =>
    have l1 := (of_decide_eq_true h1 : _ ∧ _).2
    rw [lists_length, hlx] at l1
    replace h1 := hid h1
    obtain ⟨hm0, hm1⟩ := modI_lt n 7 (by decide)
    obtain ⟨N, hN⟩ : ∃ N : Nat, 1 + modI n 7 = (N : Int) := ⟨(1 + modI n 7).toNat, by omega⟩
    generalize hmod : modI n 7 = m at hm0 hm1 hN
    have hw1 : IntKind.i64.wrap (1 + m) = (N : Int) := by rw [IntWalk.i64_in _ (by omega), hN]
    have hN1 : 1 ≤ N := by omega
    have hN7 : N ≤ 7 := by omega
    clear hN hm0 hm1
    replace hmod := hid hmod
    have hgp := hid (genP_pile (n := (N : Int)) (by omega) (lists xs) 60 (by decide))
    have hgt : Hd (tot (genP (N : Int) (lists xs) 60) = (lx : Int)) := ⟨by rw [genP_tot, lists_length, hlx]; omega⟩
    replace hlx := hid hlx
    go_enter Try.func11, Try.ntmps11
    have H1 := lawsmall_any _ xs w (hx.out.kept K.out)
    rw [h1.out] at H1
    replace H1 := hid H1
    go_wp2_with fail
    with_reducible refine H1.out.mono ?_
    rintro e x1 ⟨rfl, kq⟩
    replace K := hid (K.out.trans' kq.kept)
    clear H1 kq
    have H2 := mod_any n 7 x1 (by decide) (by decide)
    rw [hmod.out] at H2
    replace H2 := hid H2
    go_wp2_with fail
    with_reducible refine H2.out.mono ?_
    rintro e x2 ⟨rfl, rfl⟩
    clear H2
    have H3 := hid (flags_any vr fs x2 (ht.out.kept K.out))
    go_wp2_with fail
    with_reducible refine H3.out.mono ?_
    rintro e x3 ⟨⟨vf, rfl, hf10⟩, rfl⟩
    generalize fs.take 10 = f10 at hf10
    clear H3
    obtain ⟨af, cf, rfl, hcf, hcfm⟩ := Rd.shape2 hf10
    have hsl := pre_sliceT af f10.length cf (min f10.length N) (RdT.addr hf10) (by omega)
    obtain ⟨q1, q2⟩ := minNat f10.length N
    have hcut := hf10.cut N
    have q3 : (if N < f10.length then (N : Int) else (f10.length : Int)) = ((min f10.length N : Nat) : Int) := by split <;> omega
    have hRl : Hd ((f10.take N).length ≤ 7) := ⟨by rw [List.length_take]; omega⟩
    generalize f10.take N = R at hcut hRl
    generalize min f10.length N = mf at hsl hcut q1 q2 q3
    generalize f10.length = lf at hsl q1 q2 q3 ⊢
    replace hcut := hid hcut
    have KF := hid (Kept.refl no x3)
    clear hf10 hcf
    have H4 := genpile_any (N : Int) _ xs 60 x3 (by omega) (by omega) (by decide) (hx.out.kept K.out)
    rw [show ((60 : Nat) : Int) = 60 from rfl] at H4
    replace H4 := hid H4
    go_wp2_with fail
    with_reducible refine H4.out.mono ?_
    rintro e x4 ⟨vA, rfl, pA, eA, rA, kq⟩
    replace K := hid (K.out.trans' kq)
    replace KF := hid (KF.out.trans' kq)
    rw [← eA] at hgp hgt
    clear eA
    replace rA := hid rA
    have KA := hid (Kept.refl no x4)
    have hfx := hid (res_facts hgp.out (by omega) R hRl.out)
    clear q1 q2 q3 hsl
    clear H4 kq
    have H5 := restrict_any _ _ pA R x4 (rA.out.kept KA.out) (hcut.out.kept KF.out)
    replace H5 := hid H5
    go_wp2_with fail
    with_reducible refine H5.out.mono ?_
    rintro e x5 ⟨vB, rfl, pB, eB, rB, kq⟩
    replace K := hid (K.out.trans' kq)
    replace KF := hid (KF.out.trans' kq)
    replace KA := hid (KA.out.trans' kq)
    replace eB := hid eB
    replace rB := hid rB
    have KB := hid (Kept.refl no x5)
    clear H5 kq
    obtain ⟨f1, f2, f3, f4⟩ := hfx.out
    rw [← eB.out] at f1 f2 f3 f4
    rw [hgt.out] at f2
    obtain ⟨F, hF⟩ : ∃ F, first (grps pA) R = F := ⟨_, rfl⟩
    obtain ⟨vs, rest⟩ := F
    rw [hF] at f3 f4
    simp only at f4
    obtain ⟨mk, hmk⟩ : ∃ x, marked (grps pB) = x := ⟨_, rfl⟩
    rw [f2, hmk] at f4
    have hmr : 0 ≤ mk ∧ mk ≤ 100000 := by
      rw [← hmk]; unfold marked
      have := sumIf_pre (n := 7) (Q := fun p => !p.isEmpty) (isPile_mono (by omega) f1) (grps pB).length
      rw [List.take_length] at this
      split
      · exact this
      · omega
    have hsw : IntKind.i64.wrap ((lx : Int) - mk) = (lx : Int) - mk := IntWalk.i64_in _ (by omega)
    have hre : rest = (lx : Int) - mk := f4
    have hb1 : ((lx : Int) == (lx : Int)) = true := by simp
    have hb2 : (rest == rest) = true := by simp
    have hb3 : (rest == (lx : Int) - mk) = true := by rw [hre]; simp
    have fV : Hd ((decide ((1 : Int) ≤ (N : Int) ∧ (N : Int) ≤ 7) && isPile (N : Int) (grps pB)) = true) := ⟨by rw [f1, decide_eq_true (by omega)]; rfl⟩
    replace f1 := hid f1
    replace f2 := hid f2
    replace f3 := hid f3
    replace hF := hid hF
    replace hmk := hid hmk
    clear f4 hre hfx hmr
    have H6 := first_any _ _ pA R x5 (rA.out.kept KA.out) (hcut.out.kept KF.out)
    rw [hF.out] at H6
    replace H6 := hid H6
    go_wp2_with fail
    with_reducible refine H6.out.mono ?_
    rintro e x6 ⟨v1, rfl, o1⟩
    replace K := hid (K.out.trans' o1.kept)
    replace KF := hid (KF.out.trans' o1.kept)
    replace KA := hid (KA.out.trans' o1.kept)
    replace KB := hid (KB.out.trans' o1.kept)
    obtain ⟨a1, c1, rfl, _, _⟩ := Rd.shape2 o1.rd
    have Z1 := hid o1.rd
    have KZ1 := hid (Kept.refl no x6)
    clear o1
    clear H6
    have H7 := first_any _ _ pB R x6 (rB.out.kept KB.out) (hcut.out.kept KF.out)
    rw [f3.out] at H7
    replace H7 := hid H7
    go_wp2_with fail
    with_reducible refine H7.out.mono ?_
    rintro e x7 ⟨v2, rfl, o2⟩
    replace K := hid (K.out.trans' o2.kept)
    replace KF := hid (KF.out.trans' o2.kept)
    replace KA := hid (KA.out.trans' o2.kept)
    replace KB := hid (KB.out.trans' o2.kept)
    replace KZ1 := hid (KZ1.out.trans' o2.kept)
    obtain ⟨a2, c2, rfl, _, _⟩ := Rd.shape2 o2.rd
    have Z2 := hid o2.rd
    have KZ2 := hid (Kept.refl no x7)
    clear o2
    clear H7
    try simp only at Z1 Z2
    have H8 := awake_any x7
    replace H8 := hid H8
    go_wp2_with fail
    with_reducible refine H8.out.mono ?_
    rintro e x8 ⟨rfl, kq⟩
    replace K := hid (K.out.trans' kq)
    replace KF := hid (KF.out.trans' kq)
    replace KA := hid (KA.out.trans' kq)
    replace KB := hid (KB.out.trans' kq)
    replace KZ1 := hid (KZ1.out.trans' kq)
    replace KZ2 := hid (KZ2.out.trans' kq)
    clear H8 kq
    have H9 := refrestrict_any _ _ pA R x8 (rA.out.kept KA.out) (hcut.out.kept KF.out)
    replace H9 := hid H9
    go_wp2_with fail
    with_reducible refine H9.out.mono ?_
    rintro e x9 ⟨vC, rfl, pC, eC, rC, kq⟩
    replace K := hid (K.out.trans' kq)
    replace KF := hid (KF.out.trans' kq)
    replace KA := hid (KA.out.trans' kq)
    replace KB := hid (KB.out.trans' kq)
    replace KZ1 := hid (KZ1.out.trans' kq)
    replace KZ2 := hid (KZ2.out.trans' kq)
    replace eC := hid eC
    replace rC := hid rC
    have KC := hid (Kept.refl no x9)
    clear H9 kq
    have H10 := samepile_any _ _ pB pC x9 (rB.out.kept KB.out) (rC.out.kept KC.out)
    rw [decide_eq_true (eB.out.trans eC.out.symm)] at H10
    replace H10 := hid H10
    go_wp2_with fail
    with_reducible refine H10.out.mono ?_
    rintro e x10 ⟨rfl, kq⟩
    replace K := hid (K.out.trans' kq.kept)
    replace KF := hid (KF.out.trans' kq.kept)
    replace KA := hid (KA.out.trans' kq.kept)
    replace KB := hid (KB.out.trans' kq.kept)
    replace KZ1 := hid (KZ1.out.trans' kq.kept)
    replace KZ2 := hid (KZ2.out.trans' kq.kept)
    replace KC := hid (KC.out.trans' kq.kept)
    clear H10 kq
    have H11 := valid_any (N : Int) _ pB x10 (rB.out.kept KB.out)
    rw [fV.out] at H11
    replace H11 := hid H11
    go_wp2_with fail
    with_reducible refine H11.out.mono ?_
    rintro e x11 ⟨rfl, kq⟩
    replace K := hid (K.out.trans' kq)
    replace KF := hid (KF.out.trans' kq)
    replace KA := hid (KA.out.trans' kq)
    replace KB := hid (KB.out.trans' kq)
    replace KZ1 := hid (KZ1.out.trans' kq)
    replace KZ2 := hid (KZ2.out.trans' kq)
    replace KC := hid (KC.out.trans' kq)
    clear H11 kq
    have H12 := total_any _ pB x11 (rB.out.kept KB.out)
    rw [f2.out] at H12
    replace H12 := hid H12
    go_wp2_with fail
    with_reducible refine H12.out.mono ?_
    rintro e x12 ⟨rfl, kq⟩
    replace K := hid (K.out.trans' kq)
    replace KF := hid (KF.out.trans' kq)
    replace KA := hid (KA.out.trans' kq)
    replace KB := hid (KB.out.trans' kq)
    replace KZ1 := hid (KZ1.out.trans' kq)
    replace KZ2 := hid (KZ2.out.trans' kq)
    replace KC := hid (KC.out.trans' kq)
    clear H12 kq
    have H13 := same_any _ _ vs vs x12 (Z1.out.kept KZ1.out) (Z2.out.kept KZ2.out)
    rw [decide_eq_true rfl] at H13
    replace H13 := hid H13
    go_wp2_with fail
    with_reducible refine H13.out.mono ?_
    rintro e x13 ⟨rfl, kq⟩
    replace K := hid (K.out.trans' kq.kept)
    replace KF := hid (KF.out.trans' kq.kept)
    replace KA := hid (KA.out.trans' kq.kept)
    replace KB := hid (KB.out.trans' kq.kept)
    replace KZ1 := hid (KZ1.out.trans' kq.kept)
    replace KZ2 := hid (KZ2.out.trans' kq.kept)
    replace KC := hid (KC.out.trans' kq.kept)
    clear H13 kq
    have H14 := total_any _ pB x13 (rB.out.kept KB.out)
    rw [f2.out] at H14
    replace H14 := hid H14
    go_wp2_with fail
    with_reducible refine H14.out.mono ?_
    rintro e x14 ⟨rfl, kq⟩
    replace K := hid (K.out.trans' kq)
    replace KF := hid (KF.out.trans' kq)
    replace KA := hid (KA.out.trans' kq)
    replace KB := hid (KB.out.trans' kq)
    replace KZ1 := hid (KZ1.out.trans' kq)
    replace KZ2 := hid (KZ2.out.trans' kq)
    replace KC := hid (KC.out.trans' kq)
    clear H14 kq
    have H15 := marked_any _ pB x14 (rB.out.kept KB.out)
    rw [hmk.out] at H15
    replace H15 := hid H15
    go_wp2_with fail
    with_reducible refine H15.out.mono ?_
    rintro e x15 ⟨rfl, kq⟩
    replace K := hid (K.out.trans' kq)
    replace KF := hid (KF.out.trans' kq)
    replace KA := hid (KA.out.trans' kq)
    replace KB := hid (KB.out.trans' kq)
    replace KZ1 := hid (KZ1.out.trans' kq)
    replace KZ2 := hid (KZ2.out.trans' kq)
    replace KC := hid (KC.out.trans' kq)
    clear H15 kq
    go_wp2
    go_ret
    exact ⟨rfl, K.out⟩
end Go.Proofs.Ytmigdhbolbhbeaa
