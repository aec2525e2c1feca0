/- PileDistance: the walk (printed by gen_ldist.py). -/
import Derived.Test.YtmigdhbolbhbeaaOwS
namespace Go.Pil
/-- A pile of k ballots. -/
structure Of (k : Nat) (a : List Grp) : Prop where
  p : isPile 7 a = true
  t : tot a = (k : Int)
theorem Of.pos {k : Nat} {a : List Grp} (h : Of k a) : ∀ g ∈ a, 1 ≤ g.n := fun g hg => (((isPile_iff 7 _).1 h.p).1 g hg).2
theorem Of.srt {k : Nat} {a : List Grp} (h : Of k a) : Srt a := ((isPile_iff 7 _).1 h.p).2.2
theorem Of.total {k : Nat} {a : List Grp} (h : Of k a) : total a = (k : Int) := by unfold Go.Pil.total; rw [if_pos h.p, h.t]
theorem Of.dist {k : Nat} {a b : List Grp} (h : Of k a) (h' : Of k b) : dist a b = (k : Int) - com a b := by
  unfold Go.Pil.dist; rw [if_pos ⟨h.p, h'.p, by rw [h.total, h'.total]⟩, h.total]
theorem Of.other {k m : Nat} {a b : List Grp} (h : Of k a) (h' : Of m b) (hne : k ≠ m) : Go.Pil.dist a b = -1 := by
  unfold Go.Pil.dist; rw [if_neg (fun hh => by have := hh.2.2; rw [h.total, h'.total] at this; omega)]
theorem Of.range {k : Nat} {a b : List Grp} (h : Of k a) (h' : Of k b) : 0 ≤ Go.Pil.dist a b ∧ Go.Pil.dist a b ≤ (k : Int) := by
  rw [h.dist h']
  have h1 := com_le a b h.pos h'.pos
  have h2 := com_nonneg a b h.pos h'.pos
  have := h.t
  omega
theorem Of.comm {k : Nat} {a b : List Grp} (h : Of k a) (h' : Of k b) : Go.Pil.dist a b = Go.Pil.dist b a := by rw [h.dist h', h'.dist h, com_comm]
theorem Of.tri {k : Nat} {a b c : List Grp} (ha : Of k a) (hb : Of k b) (hc : Of k c) : Go.Pil.dist a c ≤ Go.Pil.dist a b + Go.Pil.dist b c := by
  rw [ha.dist hc, ha.dist hb, hb.dist hc]
  have := com_tri a b c ha.srt hb.srt hc.srt ha.pos hb.pos hc.pos
  have := hb.t
  omega
theorem Of.same {k : Nat} {a b : List Grp} (h : Of k a) (h' : Of k b) : decide (Go.Pil.dist a b = 0) = decide (a = b) := by
  by_cases e : a = b
  · subst e
    rw [decide_eq_true rfl, decide_eq_true]
    rw [h.dist h, com_self, h.t]; omega
  · rw [decide_eq_false e, decide_eq_false]
    intro hd
    rw [h.dist h'] at hd
    exact e (com_full a b h.pos h'.pos (by rw [h.t, h'.t]) (by rw [h.t]; omega))
theorem Of.gen {n : Int} (h1 : 1 ≤ n) (h2 : n ≤ 7) (ls : List (List Int)) (k : Nat) (hk : k ≤ ls.length) (hb : k ≤ 100000) : Of k (pileOf (ones (bals n ls k))) := ⟨isPile_mono h2 (pile_of_ballots (bals_all (by omega) ls k) (by rw [bals_len]; omega)), by rw [pileOf_tot (ones_pos _), ones_tot, bals_len, Nat.min_eq_left hk]⟩
end Go.Pil
namespace Go.Proofs.Ytmigdhbolbhbeaa
open Go.RowKit Go.Mk Go.Pil
theorem few_len' {ls : List (List Int)} (h : few ls = true) : ls.length ≤ 60 := (of_decide_eq_true h).2
set_option maxRecDepth 20000 in
set_option maxHeartbeats 4000000 in
theorem piledistance_any (n : Int) (vx vy vz : Value) (xs ys zs : List (List Int × Value)) (w : World) (hx : RdB w vx xs) (hy : RdB w vy ys) (hz : RdB w vz zs) : Calls Try.prog 8 #[.int .i64 n, vx, vy, vz] w fun e w' => e = .returned (.bool true) ∧ Kept no w w' := by
  have hm63 := maxLen_63
  obtain ⟨ax, cx, rfl, hcx, hcxm⟩ := Rd.shape2 hx.2
  obtain ⟨ay, cy, rfl, _, _⟩ := Rd.shape2 hy.2
  obtain ⟨az, cz, rfl, _, _⟩ := Rd.shape2 hz.2
  replace hx := hid hx
  replace hy := hid hy
  replace hz := hid hz
  have K := hid (Kept.refl no w)
  have E := Try.func8
  clear E
  cases h1 : few (lists xs) with
  | false =>
    replace h1 := hid h1
    go_enter Try.func8, Try.ntmps8
    have H1 := lawsmall_any _ xs w (hx.out.kept K.out)
    rw [h1.out] at H1
    replace H1 := hid H1
    go_wp2_with fail
    with_reducible refine H1.out.mono ?_
    rintro e x1 ⟨rfl, kq⟩
    replace K := hid (K.out.trans' kq.kept)
    clear H1 kq
    have H2 := awake_any x1
    replace H2 := hid H2
    go_wp2_with fail
    with_reducible refine H2.out.mono ?_
    rintro e x2 ⟨rfl, kq⟩
    replace K := hid (K.out.trans' kq)
    clear H2 kq
    go_wp2
    go_ret
    exact ⟨rfl, K.out⟩
  | true =>
    have l1 := few_len' h1
    rw [lists_length] at l1
    replace h1 := hid h1
    cases h2 : few (lists ys) with
    | false =>
      replace h2 := hid h2
      go_enter Try.func8, Try.ntmps8
      have H1 := lawsmall_any _ xs w (hx.out.kept K.out)
      rw [h1.out] at H1
      replace H1 := hid H1
      go_wp2_with fail
      with_reducible refine H1.out.mono ?_
      rintro e x1 ⟨rfl, kq⟩
      replace K := hid (K.out.trans' kq.kept)
      clear H1 kq
      have H2 := lawsmall_any _ ys x1 (hy.out.kept K.out)
      rw [h2.out] at H2
      replace H2 := hid H2
      go_wp2_with fail
      with_reducible refine H2.out.mono ?_
      rintro e x2 ⟨rfl, kq⟩
      replace K := hid (K.out.trans' kq.kept)
      clear H2 kq
      have H3 := awake_any x2
      replace H3 := hid H3
      go_wp2_with fail
      with_reducible refine H3.out.mono ?_
      rintro e x3 ⟨rfl, kq⟩
      replace K := hid (K.out.trans' kq)
      clear H3 kq
      go_wp2
      go_ret
      exact ⟨rfl, K.out⟩
    | true =>
      have l2 := few_len' h2
      rw [lists_length] at l2
      replace h2 := hid h2
      cases h3 : few (lists zs) with
      | false =>
        replace h3 := hid h3
        go_enter Try.func8, Try.ntmps8
        have H1 := lawsmall_any _ xs w (hx.out.kept K.out)
        rw [h1.out] at H1
        replace H1 := hid H1
        go_wp2_with fail
        with_reducible refine H1.out.mono ?_
        rintro e x1 ⟨rfl, kq⟩
        replace K := hid (K.out.trans' kq.kept)
        clear H1 kq
        have H2 := lawsmall_any _ ys x1 (hy.out.kept K.out)
        rw [h2.out] at H2
        replace H2 := hid H2
        go_wp2_with fail
        with_reducible refine H2.out.mono ?_
        rintro e x2 ⟨rfl, kq⟩
        replace K := hid (K.out.trans' kq.kept)
        clear H2 kq
        have H3 := lawsmall_any _ zs x2 (hz.out.kept K.out)
        rw [h3.out] at H3
        replace H3 := hid H3
        go_wp2_with fail
        with_reducible refine H3.out.mono ?_
        rintro e x3 ⟨rfl, kq⟩
        replace K := hid (K.out.trans' kq.kept)
        clear H3 kq
        have H4 := awake_any x3
        replace H4 := hid H4
        go_wp2_with fail
        with_reducible refine H4.out.mono ?_
        rintro e x4 ⟨rfl, kq⟩
        replace K := hid (K.out.trans' kq)
        clear H4 kq
        go_wp2
        go_ret
        exact ⟨rfl, K.out⟩
      | true =>
        have l3 := few_len' h3
        rw [lists_length] at l3
        replace h3 := hid h3
        obtain ⟨hm0, hm1⟩ := modI_lt n 4 (by decide)
        generalize hmod : modI n 4 = m at hm0 hm1
        have hw1 : IntKind.i64.wrap (1 + m) = 1 + m := IntWalk.i64_in _ (by omega)
        replace hmod := hid hmod
        obtain ⟨k, hk⟩ : ∃ k : Nat, min (min xs.length ys.length) zs.length = k := ⟨_, rfl⟩
        have hx1 : Hd (k ≤ xs.length ∧ k ≤ ys.length ∧ k ≤ zs.length) := ⟨by omega⟩
        have oA := hid (Of.gen (n := 1 + m) (by omega) (by omega) (lists xs) k (by rw [lists_length]; omega) (by omega))
        have oB := hid (Of.gen (n := 1 + m) (by omega) (by omega) (lists ys) k (by rw [lists_length]; omega) (by omega))
        have oC := hid (Of.gen (n := 1 + m) (by omega) (by omega) (lists zs) k (by rw [lists_length]; omega) (by omega))
        have oD : Hd (∀ p, Of (k + 1) (genP (1 + m) ((lists xs).take k ++ [p]) (k + 1))) := ⟨fun p => Of.gen (n := 1 + m) (by omega) (by omega) _ (k + 1) (by simp [lists_length]; omega) (by omega)⟩
        obtain ⟨lx, hlx⟩ : ∃ l, xs.length = l := ⟨_, rfl⟩
        obtain ⟨ly, hly⟩ : ∃ l, ys.length = l := ⟨_, rfl⟩
        obtain ⟨lz, hlz⟩ : ∃ l, zs.length = l := ⟨_, rfl⟩
        rw [hlx] at hx hk l1 hcx ⊢
        rw [hly] at hy hk ⊢
        rw [hlz] at hz hk ⊢
        have q1 : min (min (lx : Int) (ly : Int)) (lz : Int) = (k : Int) := by omega
        have q2 : (if (ly : Int) < (lx : Int) then (ly : Int) else (lx : Int)) = ((min lx ly : Nat) : Int) := by split <;> omega
        have q3 : min (lx : Int) (ly : Int) = ((min lx ly : Nat) : Int) := by omega
        have q4 : (if (lz : Int) < ((min lx ly : Nat) : Int) then (lz : Int) else ((min lx ly : Nat) : Int)) = (k : Int) := by split <;> omega
        have q5 : min ((min lx ly : Nat) : Int) (lz : Int) = (k : Int) := by omega
        have q6 : (if ly < lx then (ly : Int) else (lx : Int)) = ((min lx ly : Nat) : Int) := by split <;> omega
        have q7 : (if lz < min lx ly then (lz : Int) else ((min lx ly : Nat) : Int)) = (k : Int) := by split <;> omega
        have hk60 : k ≤ 60 := by omega
        have hkc : k ≤ cx := by omega
        have hkx : Hd (k ≤ xs.length) := ⟨by omega⟩
        replace hlx := hid hlx
        replace hly := hid hly
        replace hlz := hid hlz
        replace hk := hid hk
        generalize min lx ly = mxy at q2 q3 q4 q5 q6 q7
        go_enter Try.func8, Try.ntmps8
        have H1 := lawsmall_any _ xs w (hx.out.kept K.out)
        rw [h1.out] at H1
        replace H1 := hid H1
        go_wp2_with fail
        with_reducible refine H1.out.mono ?_
        rintro e x1 ⟨rfl, kq⟩
        replace K := hid (K.out.trans' kq.kept)
        clear H1 kq
        have H2 := lawsmall_any _ ys x1 (hy.out.kept K.out)
        rw [h2.out] at H2
        replace H2 := hid H2
        go_wp2_with fail
        with_reducible refine H2.out.mono ?_
        rintro e x2 ⟨rfl, kq⟩
        replace K := hid (K.out.trans' kq.kept)
        clear H2 kq
        have H3 := lawsmall_any _ zs x2 (hz.out.kept K.out)
        rw [h3.out] at H3
        replace H3 := hid H3
        go_wp2_with fail
        with_reducible refine H3.out.mono ?_
        rintro e x3 ⟨rfl, kq⟩
        replace K := hid (K.out.trans' kq.kept)
        clear H3 kq
        have H4 := mod_any n 4 x3 (by decide) (by decide)
        rw [hmod.out] at H4
        replace H4 := hid H4
        go_wp2_with fail
        refine H4.out.mono ?_
        rintro e x4 ⟨rfl, rfl⟩
        clear H4
        have H5 := genpile_any (1 + m) _ xs k x4 (by omega) (by omega) (by omega) (hx.out.kept K.out)
        replace H5 := hid H5
        go_wp2_with fail
        with_reducible refine H5.out.mono ?_
        rintro e x5 ⟨vA, rfl, pA, eA, rA, kq⟩
        replace K := hid (K.out.trans' kq)
        rw [show pileOf (ones (bals (1 + m) (lists xs) k)) = genP (1 + m) (lists xs) k from rfl, ← eA] at oA
        replace eA := hid eA
        replace rA := hid rA
        have KA := hid (Kept.refl no x5)
        clear q1
        clear H5 kq
        have H6 := genpile_any (1 + m) _ ys k x5 (by omega) (by omega) (by omega) (hy.out.kept K.out)
        replace H6 := hid H6
        go_wp2_with fail
        with_reducible refine H6.out.mono ?_
        rintro e x6 ⟨vB, rfl, pB, eB, rB, kq⟩
        replace K := hid (K.out.trans' kq)
        replace KA := hid (KA.out.trans' kq)
        rw [show pileOf (ones (bals (1 + m) (lists ys) k)) = genP (1 + m) (lists ys) k from rfl, ← eB] at oB
        replace eB := hid eB
        replace rB := hid rB
        have KB := hid (Kept.refl no x6)
        clear H6 kq
        have H7 := genpile_any (1 + m) _ zs k x6 (by omega) (by omega) (by omega) (hz.out.kept K.out)
        replace H7 := hid H7
        go_wp2_with fail
        with_reducible refine H7.out.mono ?_
        rintro e x7 ⟨vC, rfl, pC, eC, rC, kq⟩
        replace K := hid (K.out.trans' kq)
        replace KA := hid (KA.out.trans' kq)
        replace KB := hid (KB.out.trans' kq)
        rw [show pileOf (ones (bals (1 + m) (lists zs) k)) = genP (1 + m) (lists zs) k from rfl, ← eC] at oC
        replace eC := hid eC
        replace rC := hid rC
        have KC := hid (Kept.refl no x7)
        clear H7 kq
        have fR := hid (oA.out.range oB.out)
        have fR2 := hid (oB.out.range oC.out)
        have fR3 := hid (oA.out.range oC.out)
        have fT := hid (oA.out.tri oB.out oC.out)
        have fC := hid (oA.out.comm oB.out)
        have fS := hid (oA.out.same oB.out)
        obtain ⟨dab, hab⟩ : ∃ d, dist (grps pA) (grps pB) = d := ⟨_, rfl⟩
        obtain ⟨dbc, hbc⟩ : ∃ d, dist (grps pB) (grps pC) = d := ⟨_, rfl⟩
        obtain ⟨dac, hac⟩ : ∃ d, dist (grps pA) (grps pC) = d := ⟨_, rfl⟩
        rw [hab] at fR fT fC fS
        rw [hbc] at fR2 fT
        rw [hac] at fR3 fT
        obtain ⟨a1, a2⟩ := fR.out
        obtain ⟨b1, b2⟩ := fR2.out
        have t1 := fT.out
        have n1 : (dab != dab) = false := by simp
        have n2 : decide (dab < 0) = false := decide_eq_false (by omega)
        have n3 : decide ((k : Int) < dab) = false := decide_eq_false (by omega)
        have n4 : decide (dab + dbc < dac) = false := decide_eq_false (by omega)
        have n5 : IntKind.i64.wrap (dab + dbc) = dab + dbc := IntWalk.i64_in _ (by omega)
        replace hab := hid hab
        replace hbc := hid hbc
        replace hac := hid hac
        have n6 : Hd ((dab == 0) = decide (grps pA = grps pB)) := ⟨by rw [← fS.out]; exact Bool.beq_eq_decide_eq _ _⟩
        clear a1 a2 b1 b2 t1 fR fR2 fR3 fT fS
        have H8 := distance_any _ _ pA pB x7 (rA.out.kept KA.out) (rB.out.kept KB.out)
        rw [hab.out] at H8
        replace H8 := hid H8
        go_wp2_with fail
        with_reducible refine H8.out.mono ?_
        rintro e x8 ⟨rfl, kq⟩
        replace K := hid (K.out.trans' kq)
        replace KA := hid (KA.out.trans' kq)
        replace KB := hid (KB.out.trans' kq)
        replace KC := hid (KC.out.trans' kq)
        clear H8 kq
        have H9 := distance_any _ _ pB pC x8 (rB.out.kept KB.out) (rC.out.kept KC.out)
        rw [hbc.out] at H9
        replace H9 := hid H9
        go_wp2_with fail
        with_reducible refine H9.out.mono ?_
        rintro e x9 ⟨rfl, kq⟩
        replace K := hid (K.out.trans' kq)
        replace KA := hid (KA.out.trans' kq)
        replace KB := hid (KB.out.trans' kq)
        replace KC := hid (KC.out.trans' kq)
        clear H9 kq
        have H10 := distance_any _ _ pA pC x9 (rA.out.kept KA.out) (rC.out.kept KC.out)
        rw [hac.out] at H10
        replace H10 := hid H10
        go_wp2_with fail
        with_reducible refine H10.out.mono ?_
        rintro e x10 ⟨rfl, kq⟩
        replace K := hid (K.out.trans' kq)
        replace KA := hid (KA.out.trans' kq)
        replace KB := hid (KB.out.trans' kq)
        replace KC := hid (KC.out.trans' kq)
        clear H10 kq
        have H11 := refdistance_any _ _ pA pB x10 (rA.out.kept KA.out) (rB.out.kept KB.out)
        rw [hab.out] at H11
        replace H11 := hid H11
        go_wp2_with fail
        with_reducible refine H11.out.mono ?_
        rintro e x11 ⟨rfl, kq⟩
        replace K := hid (K.out.trans' kq)
        replace KA := hid (KA.out.trans' kq)
        replace KB := hid (KB.out.trans' kq)
        replace KC := hid (KC.out.trans' kq)
        clear H11 kq
        have H12 := distance_any _ _ pB pA x11 (rB.out.kept KB.out) (rA.out.kept KA.out)
        rw [← fC.out] at H12
        replace H12 := hid H12
        go_wp2_with fail
        with_reducible refine H12.out.mono ?_
        rintro e x12 ⟨rfl, kq⟩
        replace K := hid (K.out.trans' kq)
        replace KA := hid (KA.out.trans' kq)
        replace KB := hid (KB.out.trans' kq)
        replace KC := hid (KC.out.trans' kq)
        clear H12 kq
        have H13 := samepile_any _ _ pA pB x12 (rA.out.kept KA.out) (rB.out.kept KB.out)
        rw [← n6.out] at H13
        replace H13 := hid H13
        go_wp2_with fail
        with_reducible refine H13.out.mono ?_
        rintro e x13 ⟨rfl, kq⟩
        replace K := hid (K.out.trans' kq.kept)
        replace KA := hid (KA.out.trans' kq.kept)
        replace KB := hid (KB.out.trans' kq.kept)
        replace KC := hid (KC.out.trans' kq.kept)
        clear H13 kq
        have hslB := pre_sliceB ax lx cx k (RdB.addr hx.out) hkc
        have hcutB := (RdB.take (hx.out.kept K.out) k hkx.out)
        have hlt : (xs.take k).length = k := by rw [List.length_take]; have := hkx.out; omega
        have hold : ∀ x ∈ xs.take k, RdZ w x.2 x.1 := fun x hx' => hx.out.1 x (List.mem_of_mem_take hx')
        have hlk := lists_take xs k
        generalize xs.take k = xk at hcutB hlt hold hlk
        replace hold := hid hold
        have hnilB : Hd (x13.ownsRow 0 36 1 (.slice none 0 0) 0 []) := ⟨World.ownsRow_nil _ _ _ _⟩
        have hcb : Hd (Rd x13 1 (.slice ax k cx) k (xk.map (·.2))) := ⟨by have := hcutB.2; rwa [hlt] at this⟩
        replace hlt := hid hlt
        replace hlk := hid hlk
        have hls : k ≤ maxLen ∧ k * 24 ≤ 140737488355328 ∧ k + 1 ≤ maxLen ∧ (k + 1) * 24 ≤ 140737488355328 := by have hm : maxLen = 9223372036854775807 := rfl; omega
        replace hls := hid hls
        have hk1w : IntKind.i64.wrap ((k : Int) + 1) = (k : Int) + 1 := IntWalk.i64_in _ (by omega)
        clear hcutB
        go_wp2_with (at_builtin; refine wpList_append _ rfl _ _ 22 rfl 36 1 24 TBals _ _ _ rfl hnilB.out _ _ _ rfl hcb.out (bals_one _ w hold.out) ?c1 ?c2 ?_)
        case c1 => rw [Nat.zero_add]; exact hls.out.1
        case c2 => rw [Nat.zero_add]; exact hls.out.2.1
        intro v1 y1 g1 g2 g3 _
        try rw [Nat.zero_add, List.nil_append] at g1
        have hS1 := hid (OwS.start K.out hold.out (by rw [hlt.out]; exact g1) g2 g3)
        have kk1 := hid (Kept.ob_nil g2)
        have nw1 := hid (newOr_nil g3)
        have hS1o : Hd (y1.ownsRow 0 36 1 v1 k (xk.map (·.2))) := ⟨by have := hS1.out.own; rwa [hlt.out] at this⟩
        clear g1 g2 g3 hnilB hcb
        go_wp2_with (at_builtin; refine wpList_append_lit _ rfl _ _ 22 rfl 36 1 24 TBals _ _ _ rfl hS1o.out 1 [_] rfl rfl ?c1 ?c2 ?c3 ?_)
        case c1 => simp [Value.oneCell']
        case c2 => exact hls.out.2.2.1
        case c3 => exact hls.out.2.2.2
        intro v2 y2 g1 g2 g3 _
        have hS2 := hid (hS1.out.add [] (.slice none 0 0) (nil_rd _ _) (by rw [hlt.out]; exact g1) g2 g3)
        have kk2 := nw1.out.kept kk1.out g2
        replace K := hid (K.out.trans' kk2)
        replace KA := hid (KA.out.trans' kk2)
        replace KB := hid (KB.out.trans' kk2)
        replace KC := hid (KC.out.trans' kk2)
        have hlD : Hd (lists (xk ++ [(([] : List Int), Value.slice none 0 0)]) = (lists xs).take k ++ [[]]) := ⟨by rw [lists_append, hlk.out]; rfl⟩
        clear g1 g2 g3 hS1 hS1o hslB kk1 kk2 nw1 hls
        have oD' := oD.out []
        rw [← hlD.out] at oD'
        replace oD' := hid oD'
        have HG := genpile_any (1 + m) _ (xk ++ [(([] : List Int), Value.slice none 0 0)]) (k + 1) y2 (by omega) (by omega) (by omega) hS2.out.rd
        rw [show ((k + 1 : Nat) : Int) = (k : Int) + 1 by omega] at HG
        replace HG := hid HG
        clear hS2
        go_wp2_with fail
        with_reducible refine HG.out.mono ?_
        rintro e y3 ⟨vD, rfl, pD, eD, rD, kq⟩
        replace K := hid (K.out.trans' kq)
        replace KA := hid (KA.out.trans' kq)
        replace KB := hid (KB.out.trans' kq)
        replace KC := hid (KC.out.trans' kq)
        have hne := Of.other oA.out (by have := oD'.out; rw [← eD] at this; exact this) (show k ≠ k + 1 by omega)
        replace hne := hid hne
        replace eD := hid eD
        replace rD := hid rD
        have KD := hid (Kept.refl no y3)
        clear HG kq
        have H14 := awake_any y3
        replace H14 := hid H14
        go_wp2_with fail
        with_reducible refine H14.out.mono ?_
        rintro e x14 ⟨rfl, kq⟩
        replace K := hid (K.out.trans' kq)
        replace KA := hid (KA.out.trans' kq)
        replace KB := hid (KB.out.trans' kq)
        replace KC := hid (KC.out.trans' kq)
        replace KD := hid (KD.out.trans' kq)
        clear H14 kq
        have H15 := distance_any _ _ pA pD x14 (rA.out.kept KA.out) (rD.out.kept KD.out)
        rw [hne.out] at H15
        replace H15 := hid H15
        go_wp2_with fail
        with_reducible refine H15.out.mono ?_
        rintro e x15 ⟨rfl, kq⟩
        replace K := hid (K.out.trans' kq)
        replace KA := hid (KA.out.trans' kq)
        replace KB := hid (KB.out.trans' kq)
        replace KC := hid (KC.out.trans' kq)
        replace KD := hid (KD.out.trans' kq)
        clear H15 kq
        go_wp2
        go_ret
        exact ⟨rfl, K.out⟩
end Go.Proofs.Ytmigdhbolbhbeaa
