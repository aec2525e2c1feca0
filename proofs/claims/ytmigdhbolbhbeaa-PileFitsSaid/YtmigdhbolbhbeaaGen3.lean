/- The reference's Make, made piles, SamePile, the statements' small, same, Short. -/
import Derived.Test.YtmigdhbolbhbeaaGen2
namespace Go.Pil
theorem pileOf_snoc (l : List Grp) (g : Grp) : pileOf (l ++ [g]) = addG (pileOf l) g.p g.n := by unfold pileOf; rw [List.foldl_append]; rfl
theorem len_tot : ∀ {l : List Grp}, (∀ g ∈ l, 1 ≤ g.n) → (l.length : Int) ≤ tot l
  | [], _ => by simp [tot]
  | g :: l, h => by
    have := len_tot (l := l) fun x hx => h x (by simp [hx])
    have := h g (by simp)
    rw [tot_cons]; simp only [List.length_cons]; omega
theorem n_le_tot : ∀ {l : List Grp}, (∀ g ∈ l, 1 ≤ g.n) → ∀ g ∈ l, g.n ≤ tot l
  | [], _ => fun g hg => by cases hg
  | x :: l, h => fun g hg => by
    have h1 := tot_nonneg (l := l) fun x hx => h x (by simp [hx])
    have h2 := h x (by simp)
    rw [tot_cons]
    rcases List.mem_cons.1 hg with rfl | hg
    · omega
    · have := n_le_tot (l := l) (fun x hx => h x (by simp [hx])) g hg; omega
/-- Few and short lists. -/
def few (ls : List (List Int)) : Bool := decide ((∀ b ∈ ls, b.length ≤ 12) ∧ ls.length ≤ 60)
end Go.Pil
namespace Go.Proofs.Ytmigdhbolbhbeaa
open Go.RowKit Go.Mk Go.Pil
theorem small_of {ps : List (Grp × Value)} (h : ∀ g ∈ grps ps, 1 ≤ g.n) (ht : tot (grps ps) ≤ 100000) : small ps := by
  have h1 := len_tot h
  rw [grps_length] at h1
  refine ⟨by omega, fun x hx => ?_⟩
  have hm : x.1 ∈ grps ps := List.mem_map_of_mem hx
  have := h _ hm
  have := n_le_tot h _ hm
  omega
theorem small_pile {n : Int} {ps : List (Grp × Value)} (h : isPile n (grps ps) = true) : small ps := by
  have := (isPile_iff n _).1 h
  exact small_of (fun g hg => (this.1 g hg).2) this.2.1
set_option maxRecDepth 100000 in
set_option maxHeartbeats 2000000 in
theorem refmake_any (n : Int) (v : Value) (bs : List (List Int × Value)) (w : World) (hr : RdB w v bs) : Calls Try.prog 17 #[.int .i64 n, v] w fun e w' => ∃ v', e = .returned (.tuple #[v', .int .i64 (mk n (lists bs)).2]) ∧ GR w w' v' (mk n (lists bs)).1 := by
  obtain ⟨ao, cap, rfl, hcap, hcm⟩ := Rd.shape2 hr.2
  have hm63 := maxLen_63
  have nilGR : ∀ W, Kept no w W → GR w W (.slice none 0 0) [] := fun W k => ⟨[], rfl, ⟨(fun x hx => by cases hx), nil_rd _ _⟩, k⟩
  by_cases hn : n < 1 ∨ 7 < n
  · have hv : Hd (mk n (lists bs) = ([], 4)) := ⟨by unfold mk; rw [if_pos hn]⟩
    rw [hv.out]
    by_cases h1 : n < 1
    · have hd1 : decide (n < 1) = true := decide_eq_true h1
      clear hr hn hv
      go_enter Try.func17, Try.ntmps17
      go_wp2
      go_ret2
      exact ⟨_, rfl, nilGR _ (Kept.refl _ _)⟩
    · have hd1 : decide (n < 1) = false := decide_eq_false h1
      have h7 : 7 < n := by omega
      have hd7 : decide (7 < n) = true := decide_eq_true h7
      clear hr hn hv
      go_enter Try.func17, Try.ntmps17
      go_wp2
      go_ret2
      exact ⟨_, rfl, nilGR _ (Kept.refl _ _)⟩
  have hd1 : decide (n < 1) = false := decide_eq_false (by omega)
  have hd7 : decide (7 < n) = false := decide_eq_false (by omega)
  have hn1 : ¬ n < 1 := by omega
  have hn7 : ¬ 7 < n := by omega
  by_cases hl : 100000 < bs.length
  · have hv : Hd (mk n (lists bs) = ([], 7)) := ⟨by unfold mk; rw [if_neg hn, if_pos (by rw [lists_length]; exact hl)]⟩
    rw [hv.out]
    have hl' : (100000 : Int) < (bs.length : Int) := by omega
    clear hr hn hv
    go_enter Try.func17, Try.ntmps17
    go_wp2
    go_ret2
    exact ⟨_, rfl, nilGR _ (Kept.refl _ _)⟩
  have hl' : ¬ (100000 : Int) < (bs.length : Int) := by omega
  have hmk : Hd (mk n (lists bs) = if allB n (lists bs) = true then (pileOf (ones (lists bs)), 0) else ([], 8)) := ⟨by unfold mk; rw [if_neg hn, if_neg (by rw [lists_length]; exact hl)]⟩
  replace hr := hid hr
  clear hn
  obtain ⟨len, hlen⟩ : ∃ len, bs.length = len := ⟨_, rfl⟩
  rw [hlen] at hr hcap hl hl' ⊢
  replace hlen := hid hlen
  go_enter Try.func17, Try.ntmps17
  go_wp2
  go_loopw [6, 7] (fun out i wr => ∃ (k : Nat) (qs : List (Grp × Value)), k ≤ len ∧ i = .int .i64 (k : Int) ∧ Hd (grps qs = pileOf (ones ((lists bs).take k))) ∧ Hd (allB n ((lists bs).take k) = true) ∧ Hd (RdG wr out qs) ∧ Hd (Kept no w wr)) (fun _ i _ => len - (intOf i).toNat)
  case atStart => exact ⟨0, [], by omega, rfl, ⟨rfl⟩, ⟨rfl⟩, ⟨(fun x hx => by cases hx), nil_rd _ _⟩, ⟨Kept.refl _ _⟩⟩
  case round =>
    obtain ⟨k, qs, hk, rfl, hqs, hA, hO, hW⟩ := hrel
    by_cases hlt : k < len
    · have hk1 : (k : Int) < (len : Int) := by omega
      have hk0 : (0 : Int) ≤ (k : Int) := by omega
      obtain ⟨b, o, p, vp, rfl, hel, c0, hz⟩ := (hr.out.kept hW.out).at k (by rw [hlen.out]; exact hlt)
      have hpk := hid (lists_get _ hel)
      have HB := hid (refballot_any n vp p wr hz)
      replace hz := hid hz
      clear hel
      cases hb : ballot n p with
      | false =>
        have hv : Hd (mk n (lists bs) = ([], 8)) := ⟨by rw [hmk.out, allB_fail hpk.out hb, if_neg (by decide)]⟩
        rw [hb] at HB
        clear hb hmk hA hqs hO hpk hz
        go_wp2_with fail
        refine HB.out.mono ?_
        rintro e w1 ⟨rfl, k1⟩
        have hk2 := hid (hW.out.trans' k1.kept)
        clear k1 HB hW c0
        go_wp2
        go_ret2
        exact ⟨_, by rw [hv.out] <;> rfl, by rw [hv.out]; exact nilGR _ hk2.out⟩
      | true =>
        have hA' := hid (allB_take hpk.out hA.out hb)
        have hq' : Hd (addG (grps qs) p 1 = pileOf (ones ((lists bs).take (k + 1)))) := ⟨by rw [hqs.out, ones_take hpk.out, pileOf_snoc]⟩
        have hpl := ballot_len hb (by omega)
        have hsm : Hd (small qs) := ⟨small_of (by rw [hqs.out]; exact pileOf_pos (ones_pos _)) (by rw [hqs.out, pileOf_tot (ones_pos _), ones_tot, List.length_take]; omega)⟩
        rw [hb] at HB
        clear hb hA hqs hpk
        go_wp2_with fail
        refine HB.out.mono ?_
        rintro e w1 ⟨rfl, k1⟩
        have d0 := k1.kept.cell c0 id
        have hz1 := hid (hz.out.kept k1.kept)
        have hO1 := hid (hO.out.kept k1.kept)
        have hW1 := hid (hW.out.trans' k1.kept)
        have hls : p.length ≤ maxLen ∧ p.length * 8 ≤ 140737488355328 := by have hm : maxLen = 9223372036854775807 := rfl; omega
        replace hls := hid hls
        have hnil : Hd (w1.ownsRow 0 3 1 (.slice none 0 0) 0 []) := ⟨World.ownsRow_nil _ _ _ _⟩
        clear HB k1 hO hW hz c0 hpl
        go_wp2_with (at_builtin; refine wpList_append _ rfl _ _ 36 rfl 3 1 8 TInts _ _ _ rfl hnil.out _ _ _ rfl hz1.out (Z_one p) ?c1 ?c2 ?_)
        case c1 => rw [Nat.zero_add]; exact hls.out.1
        case c2 => rw [Nat.zero_add]; exact hls.out.2
        intro v' w2 h4 h5 _ _
        try rw [Nat.zero_add, List.nil_append] at h4
        have k2 := Kept.ob_nil h5
        have HA := hid (refadd_any _ v' qs p 1 w2 (hO1.out.kept k2) (own_RdZ h4) hsm.out ⟨by omega, by omega⟩)
        have hW2 := hid (hW1.out.trans' k2)
        clear h4 h5 k2 hO1 hz1 hnil d0 hW1
        go_wp2_with fail
        refine HA.out.mono ?_
        rintro e w3 ⟨v3, rs, rfl, hO3, hrs⟩
        have hq3 : Hd (grps rs = pileOf (ones ((lists bs).take (k + 1)))) := ⟨by rw [hrs]; exact hq'.out⟩
        have hO4 := hid hO3.rd
        have hW3 := hid (hW2.out.trans' hO3.kept)
        clear hO3 hrs HA hq' hW2 hsm hls
        go_wp2
        go_roundw
        case rel => first | exact ⟨k + 1, rs, by omega, by go_num, hq3, hA', hO4, hW3⟩ | ((repeat apply Exists.intro); exact ⟨⟨k + 1, rs, by omega, by go_num, hq3, hA', hO4, hW3⟩, rfl⟩)
        case measure => simp [intOf]; omega
    · obtain rfl : k = len := by omega
      have hall : (lists bs).take k = lists bs := List.take_of_length_le (by rw [lists_length, hlen.out]; exact Nat.le_refl _)
      have hv : Hd (mk n (lists bs) = (grps qs, 0)) := ⟨by
        have h1 := hA.out
        have h2 := hqs.out
        rw [hall] at h1 h2
        rw [hmk.out, h1, if_pos rfl, h2]⟩
      clear hA hqs hmk hall
      go_wp2
      go_ret2
      exact ⟨_, by rw [hv.out] <;> rfl, by rw [hv.out]; exact ⟨qs, rfl, hO.out, hW.out⟩⟩
/-- What Pile makes. -/
def genP (n : Int) (ls : List (List Int)) (m : Nat) : List Grp := pileOf (ones (bals n ls m))
theorem genP_pile {n : Int} (h : 0 < n) (ls : List (List Int)) (m : Nat) (hm : m ≤ 100000) : isPile n (genP n ls m) = true :=
  pile_of_ballots (bals_all h ls m) (by rw [bals_len]; omega)
theorem genP_tot (n : Int) (ls : List (List Int)) (m : Nat) : tot (genP n ls m) = (min m ls.length : Nat) := by
  unfold genP; rw [pileOf_tot (ones_pos _), ones_tot, bals_len]
theorem mk_bals {n : Int} (h1 : 1 ≤ n) (h2 : n ≤ 7) (ls : List (List Int)) (m : Nat) (hm : m ≤ 100000) : mk n (bals n ls m) = (genP n ls m, 0) := by
  unfold mk
  rw [if_neg (by omega), if_neg (by rw [bals_len]; omega), if_pos (by unfold allB; rw [List.all_eq_true]; exact bals_all (by omega) ls m)]; rfl
set_option maxHeartbeats 400000 in
theorem genpile_any (n : Int) (v : Value) (bs : List (List Int × Value)) (m : Nat) (w : World) (h1 : 1 ≤ n) (h2 : n ≤ 7) (hm : m ≤ 100000) (hr : RdB w v bs) : Calls Try.prog 20 #[.int .i64 n, v, .int .i64 (m : Int)] w fun e w' => ∃ v', e = .returned v' ∧ GR w w' v' (genP n (lists bs) m) := by
  have HB := hid (ballots_any n v bs m w h1 h2 (by omega) hr)
  have hmk := hid (mk_bals h1 h2 (lists bs) m hm)
  clear hr
  go_enter Try.func20, Try.ntmps20
  go_wp2_with fail
  refine HB.out.mono ?_
  rintro e w1 ⟨v1, qs, rfl, hqs, hO⟩
  have HM := hid (refmake_any n v1 qs w1 hO.rd)
  rw [hqs, hmk.out] at HM
  have k1 := hid hO.kept
  clear hO hqs HB
  go_wp2_with fail
  refine HM.out.mono ?_
  rintro e w2 ⟨v2, rfl, ps, hps, hrd, k2⟩
  have hG : Hd (GR w w2 v2 (genP n (lists bs) m)) := ⟨ps, hps, hrd, k1.out.trans' k2⟩
  clear hps hrd k2 HM
  go_wp2
  go_ret
  exact ⟨_, rfl, hG.out⟩
theorem grps_take_step {ps qs : List Grp} {k : Nat} {g h : Grp} (hg : ps[k]? = some g) (hh : qs[k]? = some h) (ht : ps.take k = qs.take k) (e : g = h) : ps.take (k + 1) = qs.take (k + 1) := by
  obtain ⟨h1, h2⟩ := List.getElem?_eq_some_iff.1 hg
  obtain ⟨h3, h4⟩ := List.getElem?_eq_some_iff.1 hh
  rw [List.take_succ_eq_append_getElem h1, List.take_succ_eq_append_getElem h3, ht, h2, h4, e]
set_option maxRecDepth 100000 in
set_option maxHeartbeats 2000000 in
theorem samepile_any (va vb : Value) (ps qs : List (Grp × Value)) (w : World) (ha : RdG w va ps) (hb : RdG w vb qs) : Calls Try.prog 18 #[va, vb] w fun e w' => e = .returned (.bool (decide (grps ps = grps qs))) ∧ Qt w w' := by
  obtain ⟨aa, ca, rfl, hca, hcam⟩ := ha.shape
  obtain ⟨ab, cb, rfl, hcb, hcbm⟩ := hb.shape
  have hm63 := maxLen_63
  obtain ⟨res, hres⟩ : ∃ res, decide (grps ps = grps qs) = res := ⟨_, rfl⟩
  rw [hres]
  obtain ⟨la, hla⟩ : ∃ la, ps.length = la := ⟨_, rfl⟩
  obtain ⟨lb, hlb⟩ : ∃ lb, qs.length = lb := ⟨_, rfl⟩
  rw [hla] at ha hca ⊢
  rw [hlb] at hb hcb ⊢
  by_cases hl : la = lb
  · subst hl
    have hbn : ((la : Int) != (la : Int)) = false := by simp
    replace hres := hid hres
    replace ha := hid ha
    replace hb := hid hb
    replace hla := hid hla
    replace hlb := hid hlb
    go_enter Try.func18, Try.ntmps18
    go_wp2
    go_loopw [5] (fun i wr => ∃ (k : Nat), k ≤ la ∧ i = .int .i64 (k : Int) ∧ Hd ((grps ps).take k = (grps qs).take k) ∧ Hd (Qt w wr)) (fun i _ => la - (intOf i).toNat)
    case atStart => exact ⟨0, by omega, rfl, ⟨rfl⟩, ⟨Qt.refl _⟩⟩
    case round =>
      obtain ⟨k, hk, rfl, ht, hW⟩ := hrel
      by_cases hlt : k < la
      · have hk1 : (k : Int) < (la : Int) := by omega
        have hk0 : (0 : Int) ≤ (k : Int) := by omega
        obtain ⟨b1, o1, g, vg, rfl, hel1, c0, c1, hz1⟩ := (ha.out.kept hW.out.kept).at k (by rw [hla.out]; exact hlt)
        obtain ⟨b2, o2, g', vg', rfl, hel2, d0, d1, hz2⟩ := (hb.out.kept hW.out.kept).at k (by rw [hlb.out]; exact hlt)
        have hg1 := hid (grps_get _ hel1)
        have hg2 := hid (grps_get _ hel2)
        have hne : Hd (g ≠ g' → res = false) := ⟨fun h => by
          rw [← hres.out]; refine decide_eq_false fun e => h ?_
          have := hg1.out; rw [e, hg2.out] at this; exact (Option.some.inj this).symm⟩
        have hst : Hd (g = g' → (grps ps).take (k + 1) = (grps qs).take (k + 1)) := ⟨fun e => grps_take_step hg1.out hg2.out ht.out e⟩
        have HE := hid (Qt.quiet (w := wr) fun W (kw : Qt wr W) => eqz_any vg vg' g.p g'.p W (hz1.kept kw.kept) (hz2.kept kw.kept))
        have hext : Hd (g.p = g'.p → g.n = g'.n → g = g') := ⟨fun h1 h2 => by cases g; cases g'; simp only at h1 h2; rw [h1, h2]⟩
        have hnn : Hd (g.n ≠ g'.n → g ≠ g') := ⟨fun h e => h (by rw [e])⟩
        have hpp : Hd (g.p ≠ g'.p → g ≠ g') := ⟨fun h e => h (by rw [e])⟩
        generalize g.n = N at c1 hext hnn
        generalize g'.n = M at d1 hext hnn
        clear hel1 hel2 hz1 hz2 hg1 hg2
        by_cases hN : N = M
        · have hb0 : (N != M) = false := by simpa using hN
          by_cases hP : g.p = g'.p
          · have ht' := hid (hst.out (hext.out hP hN))
            rw [decide_eq_true hP] at HE
            clear hne hst hext hnn hpp hP hN ht
            go_wp2_with fail
            go_quiet ((go_at_call 52; exact HE.out _))
            have hW' := hid (hW.out.drewN nq)
            clear HE hW c0 c1 d0 d1
            go_wp2
            go_roundw
            case rel => first | exact ⟨k + 1, by omega, by go_num, ht', hW'⟩ | ((repeat apply Exists.intro); exact ⟨⟨k + 1, by omega, by go_num, ht', hW'⟩, rfl⟩)
            case measure => simp [intOf]; omega
          · obtain rfl := hne.out (hpp.out hP)
            rw [decide_eq_false hP] at HE
            clear hne hst hext hnn hpp hP hN ht hres
            go_wp2_with fail
            go_quiet ((go_at_call 52; exact HE.out _))
            have hW' := hid (hW.out.drewN nq)
            clear HE hW c0 c1 d0 d1
            go_wp2
            go_ret
            exact ⟨rfl, hW'.out⟩
        · have hb0 : (N != M) = true := by simpa using hN
          obtain rfl := hne.out (hnn.out hN)
          clear hne hst hext hnn hpp hN ht hres
          go_wp2_with fail
          go_quiet ((go_at_call 52; exact HE.out _))
          have hW' := hid (hW.out.drewN nq)
          clear HE hW c0 c1 d0 d1
          go_wp2
          go_ret
          exact ⟨rfl, hW'.out⟩
      · obtain rfl : k = la := by omega
        have hv : Hd (res = true) := ⟨by
          rw [← hres.out]; refine decide_eq_true ?_
          have := ht.out
          rwa [List.take_of_length_le (by rw [grps_length, hla.out]; exact Nat.le_refl _), List.take_of_length_le (by rw [grps_length, hlb.out]; exact Nat.le_refl _)] at this⟩
        clear ht hres
        go_wp2
        go_ret
        exact ⟨by rw [hv.out] <;> rfl, hW.out⟩
  · have hbn : ((la : Int) != (lb : Int)) = true := by simp; omega
    have hv : res = false := by
      rw [← hres]; refine decide_eq_false fun e => hl ?_
      rw [← hla, ← hlb, ← grps_length ps, ← grps_length qs, e]
    subst hv
    clear hres ha hb hl
    go_enter Try.func18, Try.ntmps18
    go_wp2
    go_ret
    exact ⟨rfl, Qt.refl _⟩
set_option maxHeartbeats 1000000 in
theorem lawsmall_any (v : Value) (bs : List (List Int × Value)) (w : World) (hr : RdB w v bs) : Calls Try.prog 12 #[v] w fun e w' => e = .returned (.bool (few (lists bs))) ∧ Qt w w' := by
  obtain ⟨ao, cap, rfl, hcap, hcm⟩ := Rd.shape2 hr.2
  have hm63 := maxLen_63
  obtain ⟨res, hres⟩ : ∃ res, few (lists bs) = res := ⟨_, rfl⟩
  rw [hres]
  replace hres := hid hres
  replace hr := hid hr
  obtain ⟨len, hlen⟩ : ∃ len, bs.length = len := ⟨_, rfl⟩
  rw [hlen] at hr hcap ⊢
  replace hlen := hid hlen
  go_enter Try.func12, Try.ntmps12
  go_wp2
  go_loopw [3] (fun i wr => ∃ (k : Nat), k ≤ len ∧ i = .int .i64 (k : Int) ∧ Hd (∀ b ∈ (lists bs).take k, b.length ≤ 12) ∧ Hd (Qt w wr)) (fun i _ => len - (intOf i).toNat)
  case atStart => exact ⟨0, by omega, rfl, ⟨by simp⟩, ⟨Qt.refl _⟩⟩
  case round =>
    obtain ⟨k, hk, rfl, ht, hW⟩ := hrel
    by_cases hlt : k < len
    · have hk1 : (k : Int) < (len : Int) := by omega
      have hk0 : (0 : Int) ≤ (k : Int) := by omega
      obtain ⟨b, o, p, vp, rfl, hel, c0, hz⟩ := (hr.out.kept hW.out.kept).at k (by rw [hlen.out]; exact hlt)
      have hpk := lists_get _ hel
      obtain ⟨av, cv, rfl, _, _⟩ := Rd.shape2 hz
      have hbig : Hd (12 < p.length → res = false) := ⟨fun h => by
        rw [← hres.out]; exact decide_eq_false fun hh => by have := hh.1 p (List.mem_of_getElem? hpk); omega⟩
      have hst : Hd (p.length ≤ 12 → ∀ b ∈ (lists bs).take (k + 1), b.length ≤ 12) := ⟨fun h b hb => by
        obtain ⟨h1, h2⟩ := List.getElem?_eq_some_iff.1 hpk
        rw [List.take_succ_eq_append_getElem h1, List.mem_append, h2] at hb
        rcases hb with hb | hb
        · exact ht.out b hb
        · obtain rfl : b = p := by simpa using hb
          exact h⟩
      generalize p.length = lp at c0 hbig hst
      clear hel hz hpk
      by_cases h12 : 12 < lp
      · have h12' : (12 : Int) < (lp : Int) := by omega
        obtain rfl := hbig.out h12
        clear hbig hst ht hres
        go_wp2
        go_ret
        exact ⟨rfl, hW.out⟩
      · have h12' : ¬ (12 : Int) < (lp : Int) := by omega
        have ht' := hid (hst.out (by omega))
        clear hbig hst ht
        go_wp2
        go_roundw
        case rel => first | exact ⟨k + 1, by omega, by go_num, ht', hW⟩ | ((repeat apply Exists.intro); exact ⟨⟨k + 1, by omega, by go_num, ht', hW⟩, rfl⟩)
        case measure => simp [intOf]; omega
    · obtain rfl : k = len := by omega
      have hv : Hd (res = decide ((k : Int) ≤ 60)) := ⟨by
        rw [← hres.out]; unfold few
        have := ht.out
        rw [List.take_of_length_le (by rw [lists_length, hlen.out]; exact Nat.le_refl _)] at this
        rw [lists_length, hlen.out]
        by_cases h : k ≤ 60
        · rw [decide_eq_true (show _ ∧ k ≤ 60 from ⟨this, h⟩), decide_eq_true (by omega)]
        · rw [decide_eq_false (fun hh => h hh.2), decide_eq_false (by omega)]⟩
      clear ht hres
      go_wp2
      go_ret
      exact ⟨by rw [hv.out] <;> rfl, hW.out⟩
set_option maxHeartbeats 400000 in
theorem same_any (va vb : Value) (xs ys : List Int) (w : World) (ha : RdZ w va xs) (hb : RdZ w vb ys) : Calls Try.prog 31 #[va, vb] w fun e w' => e = .returned (.bool (decide (xs = ys))) ∧ Qt w w' := by
  have H := hid (eqz_any va vb xs ys w ha hb)
  clear ha hb
  go_enter Try.func31, Try.ntmps31
  go_wp2_with fail
  refine H.out.mono ?_
  rintro e w1 ⟨rfl, k1⟩
  replace k1 := hid k1
  go_wp2
  go_ret
  exact ⟨rfl, k1.out⟩
end Go.Proofs.Ytmigdhbolbhbeaa
