/- PileJoins: the walk (printed by gen_ljoin.py). -/
import Derived.Test.YtmigdhbolbhbeaaJoin24
import Derived.Test.YtmigdhbolbhbeaaLCounts
namespace Go.Pil
theorem joinP_total {a b : List Grp} (h : (joinP a b).2 = 0) : total (joinP a b).1 = total a + total b := by
  unfold joinP at *
  by_cases hp : isPile 7 a = true ∧ isPile 7 b = true
  · rw [if_pos hp] at h ⊢
    by_cases ht : 100000 < tot a + tot b
    · rw [if_pos ht] at h; cases h
    · rw [if_neg ht]
      have h1 := (isPile_iff 7 _).1 hp.1
      have h2 := (isPile_iff 7 _).1 hp.2
      have hpos : ∀ g ∈ a ++ b, 1 ≤ g.n := fun g hg => by
        rcases List.mem_append.1 hg with hg | hg
        · exact (h1.1 g hg).2
        · exact (h2.1 g hg).2
      have ht2 : tot (pileOf (a ++ b)) = tot a + tot b := by rw [pileOf_tot hpos, tot_append]
      have hj : isPile 7 (pileOf (a ++ b)) = true := by
        rw [isPile_iff]
        refine ⟨fun g hg => ⟨?_, pileOf_pos hpos g hg⟩, by rw [ht2]; omega, pileOf_srt hpos⟩
        obtain ⟨y, hy, e⟩ := pileOf_mem hpos g hg
        rw [← e]
        rcases List.mem_append.1 hy with hy | hy
        · exact (h1.1 y hy).1
        · exact (h2.1 y hy).1
      unfold total
      simp only [hj, hp.1, hp.2, if_true]
      exact ht2
  · rw [if_neg hp] at h; cases h
end Go.Pil
namespace Go.Proofs.Ytmigdhbolbhbeaa
open Go.RowKit Go.Mk Go.Pil
set_option maxRecDepth 20000 in
set_option maxHeartbeats 8000000 in
theorem pilejoins_any (va vb : Value) (us bs : List (Grp × Value)) (n : Int) (vx vy : Value) (xs ys : List (List Int × Value)) (raw : Bool) (w : World) (ha : RdG w va us) (hb : RdG w vb bs) (hx : RdB w vx xs) (hy : RdB w vy ys) : Calls Try.prog 7 #[va, vb, .int .i64 n, vx, vy, .bool raw] w fun e w' => e = .returned (.bool true) ∧ Kept no w w' := by
  replace ha := hid ha
  replace hb := hid hb
  replace hx := hid hx
  replace hy := hid hy
  have K := hid (Kept.refl no w)
  cases h1 : shortG (grps us) with
  | false =>
    replace h1 := hid h1
    go_enter Try.func7, Try.ntmps7
    have H1 := short_any _ us w (ha.out.kept K.out)
    rw [h1.out] at H1
    replace H1 := hid H1
    go_wp2_with fail
    with_reducible refine H1.out.mono ?_
    rintro e x1 ⟨rfl, kq⟩
    replace K := hid (K.out.trans' kq.kept)
    clear H1 kq
    have H2 := awake_any x1
    replace H2 := hid H2
    go_wp2_with fail
    with_reducible refine H2.out.mono ?_
    rintro e x2 ⟨rfl, kq⟩
    replace K := hid (K.out.trans' kq)
    clear H2 kq
    go_wp2
    go_ret
    exact ⟨rfl, K.out⟩
  | true =>
    replace h1 := hid h1
    cases h2 : shortG (grps bs) with
    | false =>
      replace h2 := hid h2
      go_enter Try.func7, Try.ntmps7
      have H1 := short_any _ us w (ha.out.kept K.out)
      rw [h1.out] at H1
      replace H1 := hid H1
      go_wp2_with fail
      with_reducible refine H1.out.mono ?_
      rintro e x1 ⟨rfl, kq⟩
      replace K := hid (K.out.trans' kq.kept)
      clear H1 kq
      have H2 := short_any _ bs x1 (hb.out.kept K.out)
      rw [h2.out] at H2
      replace H2 := hid H2
      go_wp2_with fail
      with_reducible refine H2.out.mono ?_
      rintro e x2 ⟨rfl, kq⟩
      replace K := hid (K.out.trans' kq.kept)
      clear H2 kq
      have H3 := awake_any x2
      replace H3 := hid H3
      go_wp2_with fail
      with_reducible refine H3.out.mono ?_
      rintro e x3 ⟨rfl, kq⟩
      replace K := hid (K.out.trans' kq)
      clear H3 kq
      go_wp2
      go_ret
      exact ⟨rfl, K.out⟩
    | true =>
      replace h2 := hid h2
      cases h3 : few (lists xs) with
      | false =>
        replace h3 := hid h3
        go_enter Try.func7, Try.ntmps7
        have H1 := short_any _ us w (ha.out.kept K.out)
        rw [h1.out] at H1
        replace H1 := hid H1
        go_wp2_with fail
        with_reducible refine H1.out.mono ?_
        rintro e x1 ⟨rfl, kq⟩
        replace K := hid (K.out.trans' kq.kept)
        clear H1 kq
        have H2 := short_any _ bs x1 (hb.out.kept K.out)
        rw [h2.out] at H2
        replace H2 := hid H2
        go_wp2_with fail
        with_reducible refine H2.out.mono ?_
        rintro e x2 ⟨rfl, kq⟩
        replace K := hid (K.out.trans' kq.kept)
        clear H2 kq
        have H3 := lawsmall_any _ xs x2 (hx.out.kept K.out)
        rw [h3.out] at H3
        replace H3 := hid H3
        go_wp2_with fail
        with_reducible refine H3.out.mono ?_
        rintro e x3 ⟨rfl, kq⟩
        replace K := hid (K.out.trans' kq.kept)
        clear H3 kq
        have H4 := awake_any x3
        replace H4 := hid H4
        go_wp2_with fail
        with_reducible refine H4.out.mono ?_
        rintro e x4 ⟨rfl, kq⟩
        replace K := hid (K.out.trans' kq)
        clear H4 kq
        go_wp2
        go_ret
        exact ⟨rfl, K.out⟩
      | true =>
        replace h3 := hid h3
        cases h4 : few (lists ys) with
        | false =>
          replace h4 := hid h4
          go_enter Try.func7, Try.ntmps7
          have H1 := short_any _ us w (ha.out.kept K.out)
          rw [h1.out] at H1
          replace H1 := hid H1
          go_wp2_with fail
          with_reducible refine H1.out.mono ?_
          rintro e x1 ⟨rfl, kq⟩
          replace K := hid (K.out.trans' kq.kept)
          clear H1 kq
          have H2 := short_any _ bs x1 (hb.out.kept K.out)
          rw [h2.out] at H2
          replace H2 := hid H2
          go_wp2_with fail
          with_reducible refine H2.out.mono ?_
          rintro e x2 ⟨rfl, kq⟩
          replace K := hid (K.out.trans' kq.kept)
          clear H2 kq
          have H3 := lawsmall_any _ xs x2 (hx.out.kept K.out)
          rw [h3.out] at H3
          replace H3 := hid H3
          go_wp2_with fail
          with_reducible refine H3.out.mono ?_
          rintro e x3 ⟨rfl, kq⟩
          replace K := hid (K.out.trans' kq.kept)
          clear H3 kq
          have H4 := lawsmall_any _ ys x3 (hy.out.kept K.out)
          rw [h4.out] at H4
          replace H4 := hid H4
          go_wp2_with fail
          with_reducible refine H4.out.mono ?_
          rintro e x4 ⟨rfl, kq⟩
          replace K := hid (K.out.trans' kq.kept)
          clear H4 kq
          have H5 := awake_any x4
          replace H5 := hid H5
          go_wp2_with fail
          with_reducible refine H5.out.mono ?_
          rintro e x5 ⟨rfl, kq⟩
          replace K := hid (K.out.trans' kq)
          clear H5 kq
          go_wp2
          go_ret
          exact ⟨rfl, K.out⟩
        | true =>
          replace h4 := hid h4
          cases raw with
          | true =>
            go_enter Try.func7, Try.ntmps7
            have H1 := short_any _ us w (ha.out.kept K.out)
            rw [h1.out] at H1
            replace H1 := hid H1
            go_wp2_with fail
            with_reducible refine H1.out.mono ?_
            rintro e x1 ⟨rfl, kq⟩
            replace K := hid (K.out.trans' kq.kept)
            clear H1 kq
            have H2 := short_any _ bs x1 (hb.out.kept K.out)
            rw [h2.out] at H2
            replace H2 := hid H2
            go_wp2_with fail
            with_reducible refine H2.out.mono ?_
            rintro e x2 ⟨rfl, kq⟩
            replace K := hid (K.out.trans' kq.kept)
            clear H2 kq
            have H3 := lawsmall_any _ xs x2 (hx.out.kept K.out)
            rw [h3.out] at H3
            replace H3 := hid H3
            go_wp2_with fail
            with_reducible refine H3.out.mono ?_
            rintro e x3 ⟨rfl, kq⟩
            replace K := hid (K.out.trans' kq.kept)
            clear H3 kq
            have H4 := lawsmall_any _ ys x3 (hy.out.kept K.out)
            rw [h4.out] at H4
            replace H4 := hid H4
            go_wp2_with fail
            with_reducible refine H4.out.mono ?_
            rintro e x4 ⟨rfl, kq⟩
            replace K := hid (K.out.trans' kq.kept)
            clear H4 kq
            have hjc := hid (joinP_comm (grps bs) (grps us))
            have hjt := hid (joinP_total (a := grps us) (b := grps bs))
            obtain ⟨J, hJ⟩ : ∃ J, joinP (grps us) (grps bs) = J := ⟨_, rfl⟩
            obtain ⟨G, c⟩ := J
            rw [hJ] at hjc hjt
            replace hJ := hid hJ
            try simp only at hjt
            have H5 := join_any _ _ us bs x4 (ha.out.kept K.out) (hb.out.kept K.out)
            rw [hJ.out] at H5
            replace H5 := hid H5
            go_wp2_with fail
            with_reducible refine H5.out.mono ?_
            rintro e x5 ⟨v1, rfl, p1, e1, r1, kq⟩
            replace K := hid (K.out.trans' kq)
            try simp only at e1
            replace e1 := hid e1
            replace r1 := hid r1
            have K1 := hid (Kept.refl no x5)
            clear H5 kq
            have H6 := join_any _ _ bs us x5 (hb.out.kept K.out) (ha.out.kept K.out)
            rw [hjc.out] at H6
            replace H6 := hid H6
            go_wp2_with fail
            with_reducible refine H6.out.mono ?_
            rintro e x6 ⟨v2, rfl, p2, e2, r2, kq⟩
            replace K := hid (K.out.trans' kq)
            replace K1 := hid (K1.out.trans' kq)
            try simp only at e2
            replace e2 := hid e2
            replace r2 := hid r2
            have K2 := hid (Kept.refl no x6)
            clear H6 kq
            have H7 := refjoin_any _ _ us bs x6 (ha.out.kept K.out) (hb.out.kept K.out)
            rw [hJ.out] at H7
            replace H7 := hid H7
            go_wp2_with fail
            with_reducible refine H7.out.mono ?_
            rintro e x7 ⟨v3, rfl, p3, e3, r3, kq⟩
            replace K := hid (K.out.trans' kq)
            replace K1 := hid (K1.out.trans' kq)
            replace K2 := hid (K2.out.trans' kq)
            try simp only at e3
            replace e3 := hid e3
            replace r3 := hid r3
            have K3 := hid (Kept.refl no x7)
            clear H7 kq
            have hcc : (c == c) = true := by simp
            have H8 := awake_any x7
            replace H8 := hid H8
            go_wp2_with fail
            with_reducible refine H8.out.mono ?_
            rintro e x8 ⟨rfl, kq⟩
            replace K := hid (K.out.trans' kq)
            replace K1 := hid (K1.out.trans' kq)
            replace K2 := hid (K2.out.trans' kq)
            replace K3 := hid (K3.out.trans' kq)
            clear H8 kq
            have H9 := samepile_any _ _ p1 p3 x8 (r1.out.kept K1.out) (r3.out.kept K3.out)
            rw [decide_eq_true (e1.out.trans e3.out.symm)] at H9
            replace H9 := hid H9
            go_wp2_with fail
            with_reducible refine H9.out.mono ?_
            rintro e x9 ⟨rfl, kq⟩
            replace K := hid (K.out.trans' kq.kept)
            replace K1 := hid (K1.out.trans' kq.kept)
            replace K2 := hid (K2.out.trans' kq.kept)
            replace K3 := hid (K3.out.trans' kq.kept)
            clear H9 kq
            have H10 := samepile_any _ _ p2 p3 x9 (r2.out.kept K2.out) (r3.out.kept K3.out)
            rw [decide_eq_true (e2.out.trans e3.out.symm)] at H10
            replace H10 := hid H10
            go_wp2_with fail
            with_reducible refine H10.out.mono ?_
            rintro e x10 ⟨rfl, kq⟩
            replace K := hid (K.out.trans' kq.kept)
            replace K1 := hid (K1.out.trans' kq.kept)
            replace K2 := hid (K2.out.trans' kq.kept)
            replace K3 := hid (K3.out.trans' kq.kept)
            clear H10 kq
            by_cases hc0 : c = 0
            · have hcn : (c != 0) = false := by simp [hc0]
              have hT := hjt.out hc0
              obtain ⟨TA, hTA⟩ : ∃ T, total (grps us) = T := ⟨_, rfl⟩
              obtain ⟨TB, hTB⟩ : ∃ T, total (grps bs) = T := ⟨_, rfl⟩
              have r1' := total_range (grps us)
              have r2' := total_range (grps bs)
              rw [hTA] at hT r1'
              rw [hTB] at hT r2'
              have hws : IntKind.i64.wrap (TA + TB) = TA + TB := IntWalk.i64_in _ (by omega)
              have hee : (TA + TB == TA + TB) = true := by simp
              replace hT := hid hT
              replace hTA := hid hTA
              replace hTB := hid hTB
              clear hc0 r1' r2'
              have H11 := total_any _ p1 x10 (r1.out.kept K1.out)
              rw [e1.out, hT.out] at H11
              replace H11 := hid H11
              go_wp2_with fail
              with_reducible refine H11.out.mono ?_
              rintro e x11 ⟨rfl, kq⟩
              replace K := hid (K.out.trans' kq)
              replace K1 := hid (K1.out.trans' kq)
              replace K2 := hid (K2.out.trans' kq)
              replace K3 := hid (K3.out.trans' kq)
              clear H11 kq
              have H12 := reftotal_any _ us x11 (ha.out.kept K.out)
              rw [hTA.out] at H12
              replace H12 := hid H12
              go_wp2_with fail
              with_reducible refine H12.out.mono ?_
              rintro e x12 ⟨rfl, kq⟩
              replace K := hid (K.out.trans' kq.kept)
              replace K1 := hid (K1.out.trans' kq.kept)
              replace K2 := hid (K2.out.trans' kq.kept)
              replace K3 := hid (K3.out.trans' kq.kept)
              clear H12 kq
              have H13 := reftotal_any _ bs x12 (hb.out.kept K.out)
              rw [hTB.out] at H13
              replace H13 := hid H13
              go_wp2_with fail
              with_reducible refine H13.out.mono ?_
              rintro e x13 ⟨rfl, kq⟩
              replace K := hid (K.out.trans' kq.kept)
              replace K1 := hid (K1.out.trans' kq.kept)
              replace K2 := hid (K2.out.trans' kq.kept)
              replace K3 := hid (K3.out.trans' kq.kept)
              clear H13 kq
              go_wp2
              go_ret
              exact ⟨rfl, K.out⟩
            · have hcn : (c != 0) = true := by simpa using hc0
              clear hc0
              go_wp2
              go_ret
              exact ⟨rfl, K.out⟩
          | false =>
            obtain ⟨hm0, hm1⟩ := modI_lt n 7 (by decide)
            generalize hmod : modI n 7 = m at hm0 hm1
            have hw1 : IntKind.i64.wrap (1 + m) = 1 + m := IntWalk.i64_in _ (by omega)
            replace hmod := hid hmod
            go_enter Try.func7, Try.ntmps7
            have H1 := short_any _ us w (ha.out.kept K.out)
            rw [h1.out] at H1
            replace H1 := hid H1
            go_wp2_with fail
            with_reducible refine H1.out.mono ?_
            rintro e x1 ⟨rfl, kq⟩
            replace K := hid (K.out.trans' kq.kept)
            clear H1 kq
            have H2 := short_any _ bs x1 (hb.out.kept K.out)
            rw [h2.out] at H2
            replace H2 := hid H2
            go_wp2_with fail
            with_reducible refine H2.out.mono ?_
            rintro e x2 ⟨rfl, kq⟩
            replace K := hid (K.out.trans' kq.kept)
            clear H2 kq
            have H3 := lawsmall_any _ xs x2 (hx.out.kept K.out)
            rw [h3.out] at H3
            replace H3 := hid H3
            go_wp2_with fail
            with_reducible refine H3.out.mono ?_
            rintro e x3 ⟨rfl, kq⟩
            replace K := hid (K.out.trans' kq.kept)
            clear H3 kq
            have H4 := lawsmall_any _ ys x3 (hy.out.kept K.out)
            rw [h4.out] at H4
            replace H4 := hid H4
            go_wp2_with fail
            with_reducible refine H4.out.mono ?_
            rintro e x4 ⟨rfl, kq⟩
            replace K := hid (K.out.trans' kq.kept)
            clear H4 kq
            have H5 := mod_any n 7 x4 (by decide) (by decide)
            rw [hmod.out] at H5
            replace H5 := hid H5
            go_wp2_with fail
            with_reducible refine H5.out.mono ?_
            rintro e x5 ⟨rfl, rfl⟩
            clear H5
            have H6 := genpile_any (1 + m) _ xs 60 x5 (by omega) (by omega) (by decide) (hx.out.kept K.out)
            rw [show ((60 : Nat) : Int) = 60 from rfl] at H6
            replace H6 := hid H6
            go_wp2_with fail
            with_reducible refine H6.out.mono ?_
            rintro e x6 ⟨vA, rfl, pA, eA, rA, kq⟩
            replace K := hid (K.out.trans' kq)
            clear eA
            replace rA := hid rA
            have KA := hid (Kept.refl no x6)
            clear H6 kq
            have H7 := genpile_any (1 + m) _ ys 60 x6 (by omega) (by omega) (by decide) (hy.out.kept K.out)
            rw [show ((60 : Nat) : Int) = 60 from rfl] at H7
            replace H7 := hid H7
            go_wp2_with fail
            with_reducible refine H7.out.mono ?_
            rintro e x7 ⟨vB, rfl, pB, eB, rB, kq⟩
            replace K := hid (K.out.trans' kq)
            replace KA := hid (KA.out.trans' kq)
            clear eB
            replace rB := hid rB
            have KB := hid (Kept.refl no x7)
            clear H7 kq
            have hjc := hid (joinP_comm (grps pB) (grps pA))
            have hjt := hid (joinP_total (a := grps pA) (b := grps pB))
            obtain ⟨J, hJ⟩ : ∃ J, joinP (grps pA) (grps pB) = J := ⟨_, rfl⟩
            obtain ⟨G, c⟩ := J
            rw [hJ] at hjc hjt
            replace hJ := hid hJ
            try simp only at hjt
            have H8 := join_any _ _ pA pB x7 (rA.out.kept KA.out) (rB.out.kept KB.out)
            rw [hJ.out] at H8
            replace H8 := hid H8
            go_wp2_with fail
            with_reducible refine H8.out.mono ?_
            rintro e x8 ⟨v1, rfl, p1, e1, r1, kq⟩
            replace K := hid (K.out.trans' kq)
            replace KA := hid (KA.out.trans' kq)
            replace KB := hid (KB.out.trans' kq)
            try simp only at e1
            replace e1 := hid e1
            replace r1 := hid r1
            have K1 := hid (Kept.refl no x8)
            clear H8 kq
            have H9 := join_any _ _ pB pA x8 (rB.out.kept KB.out) (rA.out.kept KA.out)
            rw [hjc.out] at H9
            replace H9 := hid H9
            go_wp2_with fail
            with_reducible refine H9.out.mono ?_
            rintro e x9 ⟨v2, rfl, p2, e2, r2, kq⟩
            replace K := hid (K.out.trans' kq)
            replace KA := hid (KA.out.trans' kq)
            replace KB := hid (KB.out.trans' kq)
            replace K1 := hid (K1.out.trans' kq)
            try simp only at e2
            replace e2 := hid e2
            replace r2 := hid r2
            have K2 := hid (Kept.refl no x9)
            clear H9 kq
            have H10 := refjoin_any _ _ pA pB x9 (rA.out.kept KA.out) (rB.out.kept KB.out)
            rw [hJ.out] at H10
            replace H10 := hid H10
            go_wp2_with fail
            with_reducible refine H10.out.mono ?_
            rintro e x10 ⟨v3, rfl, p3, e3, r3, kq⟩
            replace K := hid (K.out.trans' kq)
            replace KA := hid (KA.out.trans' kq)
            replace KB := hid (KB.out.trans' kq)
            replace K1 := hid (K1.out.trans' kq)
            replace K2 := hid (K2.out.trans' kq)
            try simp only at e3
            replace e3 := hid e3
            replace r3 := hid r3
            have K3 := hid (Kept.refl no x10)
            clear H10 kq
            have hcc : (c == c) = true := by simp
            have H11 := awake_any x10
            replace H11 := hid H11
            go_wp2_with fail
            with_reducible refine H11.out.mono ?_
            rintro e x11 ⟨rfl, kq⟩
            replace K := hid (K.out.trans' kq)
            replace KA := hid (KA.out.trans' kq)
            replace KB := hid (KB.out.trans' kq)
            replace K1 := hid (K1.out.trans' kq)
            replace K2 := hid (K2.out.trans' kq)
            replace K3 := hid (K3.out.trans' kq)
            clear H11 kq
            have H12 := samepile_any _ _ p1 p3 x11 (r1.out.kept K1.out) (r3.out.kept K3.out)
            rw [decide_eq_true (e1.out.trans e3.out.symm)] at H12
            replace H12 := hid H12
            go_wp2_with fail
            with_reducible refine H12.out.mono ?_
            rintro e x12 ⟨rfl, kq⟩
            replace K := hid (K.out.trans' kq.kept)
            replace KA := hid (KA.out.trans' kq.kept)
            replace KB := hid (KB.out.trans' kq.kept)
            replace K1 := hid (K1.out.trans' kq.kept)
            replace K2 := hid (K2.out.trans' kq.kept)
            replace K3 := hid (K3.out.trans' kq.kept)
            clear H12 kq
            have H13 := samepile_any _ _ p2 p3 x12 (r2.out.kept K2.out) (r3.out.kept K3.out)
            rw [decide_eq_true (e2.out.trans e3.out.symm)] at H13
            replace H13 := hid H13
            go_wp2_with fail
            with_reducible refine H13.out.mono ?_
            rintro e x13 ⟨rfl, kq⟩
            replace K := hid (K.out.trans' kq.kept)
            replace KA := hid (KA.out.trans' kq.kept)
            replace KB := hid (KB.out.trans' kq.kept)
            replace K1 := hid (K1.out.trans' kq.kept)
            replace K2 := hid (K2.out.trans' kq.kept)
            replace K3 := hid (K3.out.trans' kq.kept)
            clear H13 kq
            by_cases hc0 : c = 0
            · have hcn : (c != 0) = false := by simp [hc0]
              have hT := hjt.out hc0
              obtain ⟨TA, hTA⟩ : ∃ T, total (grps pA) = T := ⟨_, rfl⟩
              obtain ⟨TB, hTB⟩ : ∃ T, total (grps pB) = T := ⟨_, rfl⟩
              have r1' := total_range (grps pA)
              have r2' := total_range (grps pB)
              rw [hTA] at hT r1'
              rw [hTB] at hT r2'
              have hws : IntKind.i64.wrap (TA + TB) = TA + TB := IntWalk.i64_in _ (by omega)
              have hee : (TA + TB == TA + TB) = true := by simp
              replace hT := hid hT
              replace hTA := hid hTA
              replace hTB := hid hTB
              clear hc0 r1' r2'
              have H14 := total_any _ p1 x13 (r1.out.kept K1.out)
              rw [e1.out, hT.out] at H14
              replace H14 := hid H14
              go_wp2_with fail
              with_reducible refine H14.out.mono ?_
              rintro e x14 ⟨rfl, kq⟩
              replace K := hid (K.out.trans' kq)
              replace KA := hid (KA.out.trans' kq)
              replace KB := hid (KB.out.trans' kq)
              replace K1 := hid (K1.out.trans' kq)
              replace K2 := hid (K2.out.trans' kq)
              replace K3 := hid (K3.out.trans' kq)
              clear H14 kq
              have H15 := reftotal_any _ pA x14 (rA.out.kept KA.out)
              rw [hTA.out] at H15
              replace H15 := hid H15
              go_wp2_with fail
              with_reducible refine H15.out.mono ?_
              rintro e x15 ⟨rfl, kq⟩
              replace K := hid (K.out.trans' kq.kept)
              replace KA := hid (KA.out.trans' kq.kept)
              replace KB := hid (KB.out.trans' kq.kept)
              replace K1 := hid (K1.out.trans' kq.kept)
              replace K2 := hid (K2.out.trans' kq.kept)
              replace K3 := hid (K3.out.trans' kq.kept)
              clear H15 kq
              have H16 := reftotal_any _ pB x15 (rB.out.kept KB.out)
              rw [hTB.out] at H16
              replace H16 := hid H16
              go_wp2_with fail
              with_reducible refine H16.out.mono ?_
              rintro e x16 ⟨rfl, kq⟩
              replace K := hid (K.out.trans' kq.kept)
              replace KA := hid (KA.out.trans' kq.kept)
              replace KB := hid (KB.out.trans' kq.kept)
              replace K1 := hid (K1.out.trans' kq.kept)
              replace K2 := hid (K2.out.trans' kq.kept)
              replace K3 := hid (K3.out.trans' kq.kept)
              clear H16 kq
              go_wp2
              go_ret
              exact ⟨rfl, K.out⟩
            · have hcn : (c != 0) = true := by simpa using hc0
              clear hc0
              go_wp2
              go_ret
              exact ⟨rfl, K.out⟩
end Go.Proofs.Ytmigdhbolbhbeaa
