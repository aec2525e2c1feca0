/- PileBack: the walk (printed by gen_lback.py). -/
import Derived.Test.YtmigdhbolbhbeaaBals
import Derived.Test.YtmigdhbolbhbeaaAwk24
namespace Go.Pil
theorem back_mk {n : Int} (h1 : 1 ≤ n) (h2 : n ≤ 7) {gs : List Grp} (h : isPile n gs = true) : mk n (expand gs) = (gs, 0) := by
  have hp := (isPile_iff n gs).1 h
  have hl := expand_len gs fun g hg => (hp.1 g hg).2
  unfold mk
  rw [if_neg (by omega), if_neg (by omega), if_pos, expand_back gs hp.2.2 fun g hg => (hp.1 g hg).2]
  unfold allB
  rw [List.all_eq_true]
  intro b hb
  obtain ⟨g, hg, hb⟩ := List.mem_flatMap.1 hb
  rw [(List.mem_replicate.1 hb).2]
  exact (hp.1 g hg).1
theorem back_sorted {gs : List Grp} (hs : Srt gs) {i : Nat} {a b : List Int} (h1 : (expand gs)[i]? = some a) (h2 : (expand gs)[i + 1]? = some b) : lt b a = false := by
  have := expand_sorted gs hs
  rw [List.pairwise_iff_getElem] at this
  obtain ⟨h3, h4⟩ := List.getElem?_eq_some_iff.1 h1
  obtain ⟨h5, h6⟩ := List.getElem?_eq_some_iff.1 h2
  have := this i (i + 1) h3 h5 (by omega)
  rwa [h4, h6] at this
end Go.Pil
namespace Go.Proofs.Ytmigdhbolbhbeaa
open Go.RowKit Go.Mk Go.Pil
set_option maxRecDepth 20000 in
set_option maxHeartbeats 4000000 in
theorem pileback_any (n : Int) (vx : Value) (xs : List (List Int × Value)) (w : World) (hx : RdB w vx xs) : Calls Try.prog 6 #[.int .i64 n, vx] w fun e w' => e = .returned (.bool true) ∧ Kept no w w' := by
  have hm63 := maxLen_63
  obtain ⟨ax, cx, rfl, hcx, hcxm⟩ := Rd.shape2 hx.2
  obtain ⟨lx, hlx⟩ : ∃ l, xs.length = l := ⟨_, rfl⟩
  rw [hlx] at hx hcx ⊢
  replace hx := hid hx
  have K := hid (Kept.refl no w)
  cases h1 : few (lists xs) with
  | false =>
    replace h1 := hid h1
    go_enter Try.func6, Try.ntmps6
    have H1 := lawsmall_any _ xs w (hx.out.kept K.out)
    rw [h1.out] at H1
    replace H1 := hid H1
    go_wp2_with fail
    with_reducible refine H1.out.mono ?_
    rintro e x1 ⟨rfl, kq⟩
    replace K := hid (K.out.trans' kq.kept)
    clear H1 kq
    have H2 := awake_any x1
    replace H2 := hid H2
    go_wp2_with fail
    with_reducible refine H2.out.mono ?_
    rintro e x2 ⟨rfl, kq⟩
    replace K := hid (K.out.trans' kq)
    clear H2 kq
    go_wp2
    go_ret
    exact ⟨rfl, K.out⟩
  | true =>
    have l1 := (of_decide_eq_true h1 : _ ∧ _).2
    rw [lists_length, hlx] at l1
    replace h1 := hid h1
    obtain ⟨hm0, hm1⟩ := modI_lt n 7 (by decide)
    generalize hmod : modI n 7 = m at hm0 hm1
    have hw1 : IntKind.i64.wrap (1 + m) = 1 + m := IntWalk.i64_in _ (by omega)
    replace hmod := hid hmod
    have hgp := hid (genP_pile (n := 1 + m) (by omega) (lists xs) 60 (by decide))
    have hgt : Hd (tot (genP (1 + m) (lists xs) 60) = (lx : Int)) := ⟨by rw [genP_tot, lists_length, hlx]; omega⟩
    replace hlx := hid hlx
    go_enter Try.func6, Try.ntmps6
    have H1 := lawsmall_any _ xs w (hx.out.kept K.out)
    rw [h1.out] at H1
    replace H1 := hid H1
    go_wp2_with fail
    with_reducible refine H1.out.mono ?_
    rintro e x1 ⟨rfl, kq⟩
    replace K := hid (K.out.trans' kq.kept)
    clear H1 kq
    have H2 := mod_any n 7 x1 (by decide) (by decide)
    rw [hmod.out] at H2
    replace H2 := hid H2
    go_wp2_with fail
    with_reducible refine H2.out.mono ?_
    rintro e x2 ⟨rfl, rfl⟩
    clear H2
    have H3 := genpile_any (1 + m) _ xs 60 x2 (by omega) (by omega) (by decide) (hx.out.kept K.out)
    rw [show ((60 : Nat) : Int) = 60 from rfl] at H3
    replace H3 := hid H3
    go_wp2_with fail
    with_reducible refine H3.out.mono ?_
    rintro e x3 ⟨vA, rfl, pA, eA, rA, kq⟩
    replace K := hid (K.out.trans' kq)
    rw [← eA] at hgp hgt
    clear eA
    replace rA := hid rA
    have KA := hid (Kept.refl no x3)
    clear H3 kq
    have H4 := pballots_any _ pA x3 (rA.out.kept KA.out)
    replace H4 := hid H4
    go_wp2_with fail
    with_reducible refine H4.out.mono ?_
    rintro e x4 ⟨vl, ls, rfl, hls, hO⟩
    replace K := hid (K.out.trans' hO.kept)
    replace KA := hid (KA.out.trans' hO.kept)
    have hls2 : Hd (lists ls = expand (grps pA)) := ⟨by rw [hls]; unfold balsOf; rw [if_pos (isPile_mono (by omega) hgp.out)]⟩
    have hll : ls.length = lx := by
      have h2 := expand_len (grps pA) fun g hg => (((isPile_iff _ _).1 hgp.out).1 g hg).2
      have h3 := hgt.out
      have h4 := congrArg List.length hls2.out
      rw [lists_length] at h4
      omega
    have hrl := hid hO.rd
    have KL := hid (Kept.refl no x4)
    obtain ⟨al, cl, rfl, _, _⟩ := Rd.shape2 hrl.out.2
    rw [hll] at hrl ⊢
    clear hls hO hgt
    replace hll := hid hll
    have hbne : ((lx : Int) != (lx : Int)) = false := by simp
    clear H4
    go_wp2
    have hsrt : Hd (Srt (grps pA)) := ⟨((isPile_iff _ _).1 hgp.out).2.2⟩
    go_loopw [7] (fun i wr => ∃ (k : Nat), 1 ≤ k ∧ (k ≤ lx ∨ k = 1) ∧ i = .int .i64 (k : Int) ∧ Hd (Qt x4 wr)) (fun i _ => lx - (intOf i).toNat)
    case atStart => exact ⟨1, by omega, .inr rfl, rfl, ⟨Qt.refl _⟩⟩
    case round =>
      obtain ⟨k, hk1, hk2, rfl, hW⟩ := hrel
      by_cases hlt : k < lx
      · obtain ⟨j, rfl⟩ : ∃ j, k = j + 1 := ⟨k - 1, by omega⟩
        have hkl : ((j + 1 : Nat) : Int) < (lx : Int) := by omega
        have hk0 : (0 : Int) ≤ ((j + 1 : Nat) : Int) := by omega
        have hj0 : (0 : Int) ≤ (j : Int) := by omega
        have hjl : (j : Int) < (lx : Int) := by omega
        have hjw : IntKind.i64.wrap (((j + 1 : Nat) : Int) - 1) = (j : Int) := by rw [IntWalk.i64_in _ (by omega)]; omega
        obtain ⟨b1, o1, p1, v1, hb1, he1, c1, z1⟩ := (hrl.out.kept hW.out.kept).at j (by rw [hll.out]; omega)
        obtain ⟨b2, o2, p2, v2, rfl, he2, c2, z2⟩ := (hrl.out.kept hW.out.kept).at (j + 1) (by rw [hll.out]; omega)
        cases hb1
        have hs := back_sorted hsrt.out (by rw [← hls2.out]; exact lists_get _ he1) (by rw [← hls2.out]; exact lists_get _ he2)
        have HL := hid (Qt.quiet (w := wr) fun W (kw : Qt wr W) => less_any v2 v1 p2 p1 W (z2.kept kw.kept) (z1.kept kw.kept))
        rw [hs] at HL
        clear hs he1 he2 z1 z2
        go_wp2_with fail
        go_quiet ((go_at_call 34; exact HL.out _))
        have hW' := hid (hW.out.drewN nq)
        clear HL hW c1 c2
        go_wp2
        go_roundw
        case rel => first | exact ⟨j + 1 + 1, by omega, by omega, by go_num, hW'⟩ | ((repeat apply Exists.intro); exact ⟨⟨j + 1 + 1, by omega, by omega, by go_num, hW'⟩, rfl⟩)
        case measure => simp [intOf]; omega
      · have hkl : ¬ (k : Int) < (lx : Int) := by omega
        clear hk1 hk2 hlt

        replace K := hid (K.out.trans' hW.out.kept)
        replace KA := hid (KA.out.trans' hW.out.kept)
        replace KL := hid (KL.out.trans' hW.out.kept)
        clear hW
        have H21 := make_any (1 + m) _ ls wr (hrl.out.kept KL.out)
        rw [hls2.out, back_mk (by omega) (by omega) hgp.out] at H21
        replace H21 := hid H21
        go_wp2_with fail
        with_reducible refine H21.out.mono ?_
        rintro e x21 ⟨vB, rfl, pB, eB, rB, kq⟩
        replace K := hid (K.out.trans' kq)
        replace KA := hid (KA.out.trans' kq)
        replace KL := hid (KL.out.trans' kq)
        replace eB := hid eB
        replace rB := hid rB
        have KB := hid (Kept.refl no x21)
        clear H21 kq
        have H22 := awake_any x21
        replace H22 := hid H22
        go_wp2_with fail
        with_reducible refine H22.out.mono ?_
        rintro e x22 ⟨rfl, kq⟩
        replace K := hid (K.out.trans' kq)
        replace KA := hid (KA.out.trans' kq)
        replace KL := hid (KL.out.trans' kq)
        replace KB := hid (KB.out.trans' kq)
        clear H22 kq
        have H23 := samepile_any _ _ pA pB x22 (rA.out.kept KA.out) (rB.out.kept KB.out)
        rw [decide_eq_true eB.out.symm] at H23
        replace H23 := hid H23
        go_wp2_with fail
        with_reducible refine H23.out.mono ?_
        rintro e x23 ⟨rfl, kq⟩
        replace K := hid (K.out.trans' kq.kept)
        replace KA := hid (KA.out.trans' kq.kept)
        replace KL := hid (KL.out.trans' kq.kept)
        replace KB := hid (KB.out.trans' kq.kept)
        clear H23 kq
        go_wp2
        go_ret
        exact ⟨rfl, K.out⟩
end Go.Proofs.Ytmigdhbolbhbeaa
