/- PileReplaced: the walk (printed by gen_lrep.py). -/
import Derived.Test.YtmigdhbolbhbeaaLDist
namespace Go.Proofs.Ytmigdhbolbhbeaa
open Go.RowKit Go.Mk Go.Pil
theorem own_block {w : World} {e : TypeId} {n cap g : Nat} {xs : List Value} (h : w.ownsRow 0 e 1 (.slice (some ⟨g, 0, none⟩) n cap) n xs) : ∃ cur, w.heap[g]? = some (.cells cur e (0, 0)) ∧ ∀ i, i < n → ∃ u, w.cell? ⟨g, i, none⟩ = some u := by
  obtain ⟨hl, ⟨h, _⟩ | ⟨g', c, cur, e', _, hg, hn, hcm, hcs, ht⟩⟩ := h
  · cases h
  · cases e'
    refine ⟨cur, hg, fun i hi => ?_⟩
    obtain ⟨u, hu⟩ : ∃ u, cur[i]? = some u := ⟨_, Array.getElem?_eq_getElem (by omega)⟩
    exact ⟨u, by rw [cell_of_row w _ _ _ _ _ hg]; exact hu⟩
theorem own_addr {w : World} {e : TypeId} {n : Nat} {v : Value} {xs : List Value} (h : w.ownsRow 0 e 1 v n xs) (hn : 0 < n) : ∃ g cap, v = .slice (some ⟨g, 0, none⟩) n cap := by
  obtain ⟨hl, ⟨_, h⟩ | ⟨g', c, cur, e', _⟩⟩ := h
  · omega
  · exact ⟨g', c, e'⟩
set_option maxRecDepth 100000 in
set_option maxHeartbeats 4000000 in
theorem pilereplaced_any (n : Int) (vx vy vz : Value) (xs ys : List (List Int × Value)) (zs : List Int) (w : World) (hx : RdB w vx xs) (hy : RdB w vy ys) (hz : RdZ w vz zs) : Calls Try.prog 9 #[.int .i64 n, vx, vy, vz] w fun e w' => e = .returned (.bool true) ∧ Kept no w w' := by
  have hm63 := maxLen_63
  obtain ⟨ax, cx, rfl, hcx, hcxm⟩ := Rd.shape2 hx.2
  obtain ⟨ay, cy, rfl, hcy, hcym⟩ := Rd.shape2 hy.2
  obtain ⟨az, cz, rfl, _, _⟩ := Rd.shape2 hz
  obtain ⟨lx, hlx⟩ : ∃ l, xs.length = l := ⟨_, rfl⟩
  obtain ⟨ly, hly⟩ : ∃ l, ys.length = l := ⟨_, rfl⟩
  rw [hlx] at hx hcx ⊢
  rw [hly] at hy hcy ⊢
  replace hx := hid hx
  replace hy := hid hy
  replace hz := hid hz
  have K := hid (Kept.refl no w)
  cases h1 : few (lists xs) with
  | false =>
    replace h1 := hid h1
    go_enter Try.func9, Try.ntmps9
    have H1 := lawsmall_any _ xs w (hx.out.kept K.out)
    rw [h1.out] at H1
    replace H1 := hid H1
    go_wp2_with fail
    with_reducible refine H1.out.mono ?_
    rintro e x1 ⟨rfl, kq⟩
    replace K := hid (K.out.trans' kq.kept)
    clear H1 kq
    have H2 := awake_any x1
    replace H2 := hid H2
    go_wp2_with fail
    with_reducible refine H2.out.mono ?_
    rintro e x2 ⟨rfl, kq⟩
    replace K := hid (K.out.trans' kq)
    clear H2 kq
    go_wp2
    go_ret
    exact ⟨rfl, K.out⟩
  | true =>
    have l1 := few_len' h1
    rw [lists_length, hlx] at l1
    replace h1 := hid h1
    cases h2 : few (lists ys) with
    | false =>
      replace h2 := hid h2
      go_enter Try.func9, Try.ntmps9
      have H1 := lawsmall_any _ xs w (hx.out.kept K.out)
      rw [h1.out] at H1
      replace H1 := hid H1
      go_wp2_with fail
      with_reducible refine H1.out.mono ?_
      rintro e x1 ⟨rfl, kq⟩
      replace K := hid (K.out.trans' kq.kept)
      clear H1 kq
      have H2 := lawsmall_any _ ys x1 (hy.out.kept K.out)
      rw [h2.out] at H2
      replace H2 := hid H2
      go_wp2_with fail
      with_reducible refine H2.out.mono ?_
      rintro e x2 ⟨rfl, kq⟩
      replace K := hid (K.out.trans' kq.kept)
      clear H2 kq
      have H3 := awake_any x2
      replace H3 := hid H3
      go_wp2_with fail
      with_reducible refine H3.out.mono ?_
      rintro e x3 ⟨rfl, kq⟩
      replace K := hid (K.out.trans' kq)
      clear H3 kq
      go_wp2
      go_ret
      exact ⟨rfl, K.out⟩
    | true =>
      have l2 := few_len' h2
      rw [lists_length, hly] at l2
      replace h2 := hid h2
      by_cases hx0 : lx = 0
      · subst hx0
        go_enter Try.func9, Try.ntmps9
        have H1 := lawsmall_any _ xs w (hx.out.kept K.out)
        rw [h1.out] at H1
        replace H1 := hid H1
        go_wp2_with fail
        with_reducible refine H1.out.mono ?_
        rintro e x1 ⟨rfl, kq⟩
        replace K := hid (K.out.trans' kq.kept)
        clear H1 kq
        have H2 := lawsmall_any _ ys x1 (hy.out.kept K.out)
        rw [h2.out] at H2
        replace H2 := hid H2
        go_wp2_with fail
        with_reducible refine H2.out.mono ?_
        rintro e x2 ⟨rfl, kq⟩
        replace K := hid (K.out.trans' kq.kept)
        clear H2 kq
        have H3 := awake_any x2
        replace H3 := hid H3
        go_wp2_with fail
        with_reducible refine H3.out.mono ?_
        rintro e x3 ⟨rfl, kq⟩
        replace K := hid (K.out.trans' kq)
        clear H3 kq
        go_wp2
        go_ret
        exact ⟨rfl, K.out⟩
      by_cases hy0 : ly = 0
      · subst hy0
        have hx0' : ((lx : Int) == 0) = false := by simp; omega
        go_enter Try.func9, Try.ntmps9
        have H1 := lawsmall_any _ xs w (hx.out.kept K.out)
        rw [h1.out] at H1
        replace H1 := hid H1
        go_wp2_with fail
        with_reducible refine H1.out.mono ?_
        rintro e x1 ⟨rfl, kq⟩
        replace K := hid (K.out.trans' kq.kept)
        clear H1 kq
        have H2 := lawsmall_any _ ys x1 (hy.out.kept K.out)
        rw [h2.out] at H2
        replace H2 := hid H2
        go_wp2_with fail
        with_reducible refine H2.out.mono ?_
        rintro e x2 ⟨rfl, kq⟩
        replace K := hid (K.out.trans' kq.kept)
        clear H2 kq
        have H3 := awake_any x2
        replace H3 := hid H3
        go_wp2_with fail
        with_reducible refine H3.out.mono ?_
        rintro e x3 ⟨rfl, kq⟩
        replace K := hid (K.out.trans' kq)
        clear H3 kq
        go_wp2
        go_ret
        exact ⟨rfl, K.out⟩
      have hx0' : ((lx : Int) == 0) = false := by simp; omega
      have hy0' : ((ly : Int) == 0) = false := by simp; omega
      have hxp : 0 < lx := by omega
      have hyp : 0 < ly := by omega
      obtain ⟨hm0, hm1⟩ := modI_lt n 7 (by decide)
      generalize hmod : modI n 7 = m at hm0 hm1
      have hw1 : IntKind.i64.wrap (1 + m) = 1 + m := IntWalk.i64_in _ (by omega)
      replace hmod := hid hmod
      have hlsx : Hd ((lists xs).length = lx) := ⟨by rw [lists_length, hlx]⟩
      have oA := hid (Of.gen (n := 1 + m) (by omega) (by omega) (lists xs) lx (by rw [hlsx.out]; exact Nat.le_refl _) (by omega))
      replace hlx := hid hlx
      replace hly := hid hly
      have hls : lx ≤ maxLen ∧ lx * 24 ≤ 140737488355328 := by have hm : maxLen = 9223372036854775807 := rfl; omega
      replace hls := hid hls
      go_enter Try.func9, Try.ntmps9
      have H1 := lawsmall_any _ xs w (hx.out.kept K.out)
      rw [h1.out] at H1
      replace H1 := hid H1
      go_wp2_with fail
      with_reducible refine H1.out.mono ?_
      rintro e x1 ⟨rfl, kq⟩
      replace K := hid (K.out.trans' kq.kept)
      clear H1 kq
      have H2 := lawsmall_any _ ys x1 (hy.out.kept K.out)
      rw [h2.out] at H2
      replace H2 := hid H2
      go_wp2_with fail
      with_reducible refine H2.out.mono ?_
      rintro e x2 ⟨rfl, kq⟩
      replace K := hid (K.out.trans' kq.kept)
      clear H2 kq
      have H3 := mod_any n 7 x2 (by decide) (by decide)
      rw [hmod.out] at H3
      replace H3 := hid H3
      go_wp2_with fail
      with_reducible refine H3.out.mono ?_
      rintro e x3 ⟨rfl, rfl⟩
      clear H3
      have hcb : Hd (Rd x3 1 (.slice ax lx cx) lx (xs.map (·.2))) := ⟨by have := (hx.out.kept K.out).2; rwa [hlx.out] at this⟩
      have hnilB : Hd (x3.ownsRow 0 36 1 (.slice none 0 0) 0 []) := ⟨World.ownsRow_nil _ _ _ _⟩
      go_wp2_with (at_builtin; refine wpList_append _ rfl _ _ 22 rfl 36 1 24 TBals _ _ _ rfl hnilB.out _ _ _ rfl hcb.out (bals_one _ w hx.out.1) ?c1 ?c2 ?_)
      case c1 => rw [Nat.zero_add]; exact hls.out.1
      case c2 => rw [Nat.zero_add]; exact hls.out.2
      intro v1 y1 g1 g2 g3 _
      try rw [Nat.zero_add, List.nil_append] at g1
      have hS1 := OwS.start K.out hx.out.1 (by rw [hlx.out]; exact g1) g2 g3
      obtain ⟨g, cl, rfl⟩ := own_addr g1 hxp
      replace hS1 := hid hS1
      have hD1 : Hd ((lx : Int) - com (genP (1 + m) (lists xs) lx) (genP (1 + m) (lists xs) lx) ≤ 0) := ⟨by
        rw [com_self]; have := oA.out.t; rw [show pileOf (ones (bals (1 + m) (lists xs) lx)) = genP (1 + m) (lists xs) lx from rfl] at this; omega⟩
      clear g1 g2 g3 hnilB hcb hls K
      obtain ⟨lz, hlz⟩ : ∃ l, zs.length = l := ⟨_, rfl⟩
      rw [hlz] at hz ⊢
      replace hlz := hid hlz
      go_wp2
      go_loopw [10] (fun i wr => ∃ (k : Nat) (bs : List (List Int × Value)), k ≤ lz ∧ k ≤ 10 ∧ i = .int .i64 (k : Int) ∧ Hd (bs.length = lx) ∧ Hd (OwS w wr (.slice (some ⟨g, 0, none⟩) lx cl) bs) ∧ Hd ((lx : Int) - com (genP (1 + m) (lists xs) lx) (genP (1 + m) (lists bs) lx) ≤ (k : Int))) (fun i _ => lz - (intOf i).toNat)
      case atStart => exact ⟨0, xs, by omega, by omega, rfl, hlx, hS1, hD1⟩
      case round =>
        clear hS1 hD1
        obtain ⟨k, bs, hk, hk10, rfl, hbl, hO, hD⟩ := hrel
        by_cases hlt : k < lz ∧ k < 10
        · obtain ⟨hk1, hk2⟩ := hlt
          have hk1' : (k : Int) < (lz : Int) := by omega
          have hk2' : (k : Int) < 10 := by omega
          have hkd1 : decide ((k : Int) < (lz : Int)) = true := decide_eq_true hk1'
          have hkd2 : decide ((k : Int) < 10) = true := decide_eq_true hk2'
          have hk0 : (0 : Int) ≤ (k : Int) := by omega
          obtain ⟨bz, oz, rfl, hcz⟩ := (hz.out.kept hO.out.kept).at k (by rw [hlz.out]; exact hk1)
          generalize zs.getD k 0 = z at hcz
          obtain ⟨c, hc⟩ : ∃ c : Nat, modI z (lx : Int) = (c : Int) := ⟨(modI z (lx : Int)).toNat, by have := modI_lt z (lx : Int) (by omega); omega⟩
          have hcl : c < lx := by have := modI_lt z (lx : Int) (by omega); omega
          have HMz := hid (fun W => mod_any z (lx : Int) W (by omega) (by omega))
          rw [hc] at HMz
          obtain ⟨r, hr⟩ : ∃ r, k % ly = r := ⟨_, rfl⟩
          have hrl : r < ly := by rw [← hr]; exact Nat.mod_lt _ hyp
          have hrm : (k : Int).tmod (ly : Int) = (r : Int) := by rw [← hr]; exact (Int.ofNat_tmod k ly).symm
          have hrw : IntKind.i64.wrap (r : Int) = (r : Int) := IntWalk.i64_in _ (by omega)
          have hyz : ¬ (ly : Int) = 0 := by omega
          obtain ⟨by_, oy, p, vu, hay, hel, hcy2, hzu⟩ := (hy.out.kept hO.out.kept).at r (by rw [hly.out]; exact hrl)
          have hzw : RdZ w vu p := by have := hy.out.1 _ (List.getElem_mem (show r < ys.length by rw [hly.out]; exact hrl)); rwa [hel] at this
          obtain ⟨au, cu, rfl, _, _⟩ := Rd.shape2 hzw
          subst hay
          have hnew := hid (hO.out.set hbl.out c p (.slice au p.length cu) hzw)
          obtain ⟨cur, hbk, hce⟩ := own_block (show wr.ownsRow 0 36 1 (.slice (some ⟨g, 0, none⟩) lx cl) lx _ from by have := hO.out.own; rwa [hbl.out] at this)
          obtain ⟨old, hV⟩ := hce c hcl
          have hfr := hid (fr_row hbk c)
          have hD' : Hd ((lx : Int) - com (genP (1 + m) (lists xs) lx) (genP (1 + m) (lists (bs.set c (p, .slice au p.length cu))) lx) ≤ ((k + 1 : Nat) : Int)) := ⟨by
            have h1 := dist_step (bals (1 + m) (lists xs) lx) (bals (1 + m) (lists bs) lx) c (bal (1 + m) (p.take 12))
            rw [bals_len, hlsx.out, Nat.min_self] at h1
            rw [lists_set]
            unfold genP
            rw [bals_set _ _ _ _ _ (by rw [lists_length, hbl.out]; exact Nat.le_refl _)]
            have h2 := hD.out
            unfold genP at h2
            omega⟩
          have hbl' : Hd ((bs.set c (p, Value.slice au p.length cu)).length = lx) := ⟨by rw [List.length_set]; exact hbl.out⟩
          have hOs : Hd (∀ W, Kept no wr W → OwS w (W.setCell ⟨g, c, none⟩ (.slice au p.length cu)) (.slice (some ⟨g, 0, none⟩) lx cl) (bs.set c (p, .slice au p.length cu))) := ⟨fun W kw => (hO.out.keptNo kw).set hbl.out c p _ hzw⟩
          generalize p.length = lp at hcy2 hD' hbl' hOs hnew ⊢
          have hc1 : (c : Int) < (lx : Int) := by omega
          have hr1 : (r : Int) < (ly : Int) := by omega
          replace hV := hid hV
          replace hcz := hid hcz
          replace hcy2 := hid hcy2
          replace hc := hid hc
          generalize hsu : Value.slice au lp cu = su at hcy2 hD' hbl' hOs
          clear hnew hel hzu hzw hbk hce hD hr
          go_upto_region 8 with fail
          refine region_flow (S := (fun j => j = g)) (Sl := (fun _ => (fun j => j = g))) [Is (.slice (some ⟨g, 0, none⟩) lx cl), Is (.slice (some ⟨bz, oz, none⟩) lz cz), Is (.int .i64 (k : Int)), Is (.pointer (some ⟨bz, oz + k, none⟩)), Is (.int .i64 z), Is (.slice (some ⟨g, 0, none⟩) lx cl), Is (.int .i64 (lx : Int)), Is (.int .i64 (c : Int)), Is (.slice (some ⟨by_, oy, none⟩) ly cy), Is (.int .i64 (k : Int)), Is (.slice (some ⟨by_, oy, none⟩) ly cy), Is (.int .i64 (ly : Int)), Is (.int .i64 (r : Int)), Is (.pointer (some ⟨by_, oy + r, none⟩)), Is (su), Is (.pointer (some ⟨g, c, none⟩)), PUv wr g c su] [16] (fun _ _ h => h) _ (by kernel_rfl) (by kernel_rfl) (by kernel_rfl) (by kernel_rfl) (fun x => by simp only [puts, Act.put, List.map_cons, List.map_nil, Nat.zero_add, Nat.reduceAdd, List.setIfInBounds_toArray, List.set_cons_zero, List.set_cons_succ]; exact rfl) ?_ ?_
          · skip
            refine Steps.cons (fun x wf Kk hq hdep hold => ?_) ?_
            · try dsimp only
              clear hq hdep hold
              rw [if_pos (by rfl)]
              refine OpY.val (v := (.slice (some ⟨g, 0, none⟩) lx cl)) ?_ ⟨Kept.refl _ _, rfl⟩
              first | rfl | go_simp
            refine Steps.cons (fun x wf Kk hq hdep hold => ?_) ?_
            · try dsimp only
              clear hq hdep hold
              rw [if_pos (by rfl)]
              refine OpY.val (v := (.slice (some ⟨bz, oz, none⟩) lz cz)) ?_ ⟨Kept.refl _ _, rfl⟩
              first | rfl | go_simp
            refine Steps.cons (fun x wf Kk hq hdep hold => ?_) ?_
            · try dsimp only
              clear hq hdep hold
              rw [if_pos (by rfl)]
              refine OpY.val (v := (.int .i64 (k : Int))) ?_ ⟨Kept.refl _ _, rfl⟩
              first | rfl | go_simp
            refine Steps.cons (fun x wf Kk hq hdep hold => ?_) ?_
            · try dsimp only
              have h1 : x 1 = (.slice (some ⟨bz, oz, none⟩) lz cz) := hdep 1 (by kernel_rfl)
              have h2 : x 2 = (.int .i64 (k : Int)) := hdep 2 (by kernel_rfl)
              clear hq hdep hold
              simp only [h1, h2]
              clear h1 h2
              rw [if_pos (by rfl)]
              refine OpY.val (v := (.pointer (some ⟨bz, oz + k, none⟩))) ?_ ⟨Kept.refl _ _, rfl⟩
              first | rfl | go_simp
            refine Steps.cons (fun x wf Kk hq hdep hold => ?_) ?_
            · try dsimp only
              have h3 : x 3 = (.pointer (some ⟨bz, oz + k, none⟩)) := hdep 3 (by kernel_rfl)
              have Kq := hq no (fun j hj => by cases (show j ∈ ([] : List Nat) from by (have e : ∀ l : List Nat, l = [] → j ∈ l → j ∈ ([] : List Nat) := fun l h h2 => h ▸ h2); exact e _ (by kernel_rfl) hj))
              clear hq hdep hold
              simp only [h3]
              clear h3
              have cvf := Kq.undrew.cell hcz.out id
              rw [if_pos (by rfl)]
              refine OpY.val (v := (.int .i64 z)) ?_ ⟨Kept.refl _ _, rfl⟩
              first | rfl | go_simp
            refine Steps.cons (fun x wf Kk hq hdep hold => ?_) ?_
            · try dsimp only
              clear hq hdep hold
              rw [if_pos (by rfl)]
              refine OpY.val (v := (.slice (some ⟨g, 0, none⟩) lx cl)) ?_ ⟨Kept.refl _ _, rfl⟩
              first | rfl | go_simp
            refine Steps.cons (fun x wf Kk hq hdep hold => ?_) ?_
            · try dsimp only
              have h5 : x 5 = (.slice (some ⟨g, 0, none⟩) lx cl) := hdep 5 (by kernel_rfl)
              clear hq hdep hold
              simp only [h5]
              clear h5
              rw [if_pos (by rfl)]
              refine OpY.val (v := (.int .i64 (lx : Int))) ?_ ⟨Kept.refl _ _, rfl⟩
              first | rfl | go_simp
            refine Steps.cons (fun x wf Kk hq hdep hold => ?_) ?_
            · try dsimp only
              have h4 : x 4 = (.int .i64 z) := hdep 4 (by kernel_rfl)
              have h6 : x 6 = (.int .i64 (lx : Int)) := hdep 6 (by kernel_rfl)
              clear hq hdep hold
              simp only [h4, h6]
              clear h4 h6
              rw [if_pos (by rfl)]
              refine OpY.call (f := 14) (args := #[(.int .i64 z), (.int .i64 (lx : Int))]) (by go_simp) ?_
              refine (HMz.out wf).mono ?_
              rintro e w2 ⟨rfl, rfl⟩
              exact ⟨_, rfl, Kept.refl _ _, rfl⟩
            refine Steps.cons (fun x wf Kk hq hdep hold => ?_) ?_
            · try dsimp only
              clear hq hdep hold
              rw [if_pos (by rfl)]
              refine OpY.val (v := (.slice (some ⟨by_, oy, none⟩) ly cy)) ?_ ⟨Kept.refl _ _, rfl⟩
              first | rfl | go_simp
            refine Steps.cons (fun x wf Kk hq hdep hold => ?_) ?_
            · try dsimp only
              clear hq hdep hold
              rw [if_pos (by rfl)]
              refine OpY.val (v := (.int .i64 (k : Int))) ?_ ⟨Kept.refl _ _, rfl⟩
              first | rfl | go_simp
            refine Steps.cons (fun x wf Kk hq hdep hold => ?_) ?_
            · try dsimp only
              clear hq hdep hold
              rw [if_pos (by rfl)]
              refine OpY.val (v := (.slice (some ⟨by_, oy, none⟩) ly cy)) ?_ ⟨Kept.refl _ _, rfl⟩
              first | rfl | go_simp
            refine Steps.cons (fun x wf Kk hq hdep hold => ?_) ?_
            · try dsimp only
              have h10 : x 10 = (.slice (some ⟨by_, oy, none⟩) ly cy) := hdep 10 (by kernel_rfl)
              clear hq hdep hold
              simp only [h10]
              clear h10
              rw [if_pos (by rfl)]
              refine OpY.val (v := (.int .i64 (ly : Int))) ?_ ⟨Kept.refl _ _, rfl⟩
              first | rfl | go_simp
            refine Steps.cons (fun x wf Kk hq hdep hold => ?_) ?_
            · try dsimp only
              have h9 : x 9 = (.int .i64 (k : Int)) := hdep 9 (by kernel_rfl)
              have h11 : x 11 = (.int .i64 (ly : Int)) := hdep 11 (by kernel_rfl)
              clear hq hdep hold
              simp only [h9, h11]
              clear h9 h11
              rw [if_pos (by rfl)]
              refine OpY.val (v := (.int .i64 (r : Int))) ?_ ⟨Kept.refl _ _, rfl⟩
              first | rfl | go_simp
            refine Steps.cons (fun x wf Kk hq hdep hold => ?_) ?_
            · try dsimp only
              have h8 : x 8 = (.slice (some ⟨by_, oy, none⟩) ly cy) := hdep 8 (by kernel_rfl)
              have h12 : x 12 = (.int .i64 (r : Int)) := hdep 12 (by kernel_rfl)
              clear hq hdep hold
              simp only [h8, h12]
              clear h8 h12
              rw [if_pos (by rfl)]
              refine OpY.val (v := (.pointer (some ⟨by_, oy + r, none⟩))) ?_ ⟨Kept.refl _ _, rfl⟩
              first | rfl | go_simp
            refine Steps.cons (fun x wf Kk hq hdep hold => ?_) ?_
            · try dsimp only
              have h13 : x 13 = (.pointer (some ⟨by_, oy + r, none⟩)) := hdep 13 (by kernel_rfl)
              have Kq := hq no (fun j hj => by cases (show j ∈ ([] : List Nat) from by (have e : ∀ l : List Nat, l = [] → j ∈ l → j ∈ ([] : List Nat) := fun l h h2 => h ▸ h2); exact e _ (by kernel_rfl) hj))
              clear hq hdep hold
              simp only [h13]
              clear h13
              have cvf := Kq.undrew.cell hcy2.out id
              rw [if_pos (by rfl)]
              refine OpY.val (v := (su)) ?_ ⟨Kept.refl _ _, rfl⟩
              first | rfl | go_simp
            refine Steps.cons (fun x wf Kk hq hdep hold => ?_) ?_
            · try dsimp only
              have h0 : x 0 = (.slice (some ⟨g, 0, none⟩) lx cl) := hdep 0 (by kernel_rfl)
              have h7 : x 7 = (.int .i64 (c : Int)) := hdep 7 (by kernel_rfl)
              clear hq hdep hold
              simp only [h0, h7]
              clear h0 h7
              rw [if_pos (by rfl)]
              refine OpY.val (v := (.pointer (some ⟨g, c, none⟩))) ?_ ⟨Kept.refl _ _, rfl⟩
              first | rfl | go_simp
            refine Steps.cons (fun x wf Kk hq hdep hold => ?_) ?_
            · try dsimp only
              have h15 : x 15 = (.pointer (some ⟨g, c, none⟩)) := hdep 15 (by kernel_rfl)
              have h14 : x 14 = (su) := hdep 14 (by kernel_rfl)
              have Kq := hq no (fun j hj => by cases (show j ∈ ([] : List Nat) from by (have e : ∀ l : List Nat, l = [] → j ∈ l → j ∈ ([] : List Nat) := fun l h h2 => h ▸ h2); exact e _ (by kernel_rfl) hj))
              clear hq hdep hold
              simp only [h15, h14]
              clear h15 h14
              rw [if_pos (by rfl)]
              have kq := Kq.undrew
              have hc1 := kq.cell hV.out id
              have hc2 := hfr.out _ kq
              subst hsu
              refine OpY.skipY (w' := wf.setCell ⟨g, c, none⟩ (.slice au lp cu)) (by go_simp) ⟨(Kept.refl (fun j => j = g) wf).setCell (a := ⟨g, c, none⟩) (.inl rfl) _, wf, kq, Kept.refl _ _⟩
            exact Steps.nil _
          · intro x wf Kk hv
            try dsimp only
            have h0 : x 0 = (.slice (some ⟨g, 0, none⟩) lx cl) := hv 0 (by kernel_rfl)
            have h1 : x 1 = (.slice (some ⟨bz, oz, none⟩) lz cz) := hv 1 (by kernel_rfl)
            have h2 : x 2 = (.int .i64 (k : Int)) := hv 2 (by kernel_rfl)
            have h3 : x 3 = (.pointer (some ⟨bz, oz + k, none⟩)) := hv 3 (by kernel_rfl)
            have h4 : x 4 = (.int .i64 z) := hv 4 (by kernel_rfl)
            have h5 : x 5 = (.slice (some ⟨g, 0, none⟩) lx cl) := hv 5 (by kernel_rfl)
            have h6 : x 6 = (.int .i64 (lx : Int)) := hv 6 (by kernel_rfl)
            have h7 : x 7 = (.int .i64 (c : Int)) := hv 7 (by kernel_rfl)
            have h8 : x 8 = (.slice (some ⟨by_, oy, none⟩) ly cy) := hv 8 (by kernel_rfl)
            have h9 : x 9 = (.int .i64 (k : Int)) := hv 9 (by kernel_rfl)
            have h10 : x 10 = (.slice (some ⟨by_, oy, none⟩) ly cy) := hv 10 (by kernel_rfl)
            have h11 : x 11 = (.int .i64 (ly : Int)) := hv 11 (by kernel_rfl)
            have h12 : x 12 = (.int .i64 (r : Int)) := hv 12 (by kernel_rfl)
            have h13 : x 13 = (.pointer (some ⟨by_, oy + r, none⟩)) := hv 13 (by kernel_rfl)
            have h14 : x 14 = (su) := hv 14 (by kernel_rfl)
            have h15 : x 15 = (.pointer (some ⟨g, c, none⟩)) := hv 15 (by kernel_rfl)
            have p16 : Pr.p (Sl := (fun _ => (fun j => j = g))) (PUv wr g c su) (x 16) wf := hv 16 (by kernel_rfl)
            clear hv
            simp only [h0, h1, h2, h3, h4, h5, h6, h7, h8, h9, h10, h11, h12, h13, h14, h15]
            clear h0 h1 h2 h3 h4 h5 h6 h7 h8 h9 h10 h11 h12 h13 h14 h15
            obtain ⟨wm, km, kn⟩ := p16
            have hO' := hid ((hOs.out wm km).keptNo kn)
            clear km kn hO Kk hV hfr hOs hcz hcy2 HMz
            go_wp2
            go_roundw
            case rel => first | exact ⟨k + 1, _, by omega, by omega, by go_num, hbl', hO', hD'⟩ | ((repeat apply Exists.intro); exact ⟨⟨k + 1, _, by omega, by omega, by go_num, hbl', hO', hD'⟩, rfl⟩)
            case measure => simp [intOf]; omega
        · have oB := hid (Of.gen (n := 1 + m) (by omega) (by omega) (lists bs) lx (by rw [lists_length, hbl.out]; exact Nat.le_refl _) (by omega))
          have hr0 := oA.out.range oB.out
          have hde := oA.out.dist oB.out
          rw [show pileOf (ones (bals (1 + m) (lists xs) lx)) = genP (1 + m) (lists xs) lx from rfl, show pileOf (ones (bals (1 + m) (lists bs) lx)) = genP (1 + m) (lists bs) lx from rfl] at hr0 hde
          have eX : Hd (genP (1 + m) (lists xs) 60 = genP (1 + m) (lists xs) lx) := ⟨by unfold genP; rw [bals_all_of (Nat.le_of_eq hlsx.out) 60 (by omega)]⟩
          have eB : Hd (genP (1 + m) (lists bs) 60 = genP (1 + m) (lists bs) lx) := ⟨by unfold genP; rw [bals_all_of (Nat.le_of_eq (by rw [lists_length, hbl.out])) 60 (by omega)]⟩
          have hDk := hD.out
          rw [← hde] at hDk
          have K := hid hO.out.kept
          have KR := hid (Kept.refl no wr)
          have hrdO := hid hO.out.rd
          clear hO hD oB hde oA
          have fin : ∀ {P : Prop}, (∀ (h : ¬ (k < lz ∧ k < 10)), P) → P := fun h => h hlt
          by_cases hk1 : k < lz
          · have hk2 : ¬ k < 10 := fun h => hlt ⟨hk1, h⟩
            have hkd1 : decide ((k : Int) < (lz : Int)) = true := decide_eq_true (by omega)
            have hk1' : (k : Int) < (lz : Int) := by omega
            have hkd2 : decide ((k : Int) < 10) = false := decide_eq_false (by omega)
            clear fin hlt
            have H1 := genpile_any (1 + m) _ xs 60 wr (by omega) (by omega) (by decide) (hx.out.kept K.out)
            rw [show ((60 : Nat) : Int) = 60 from rfl] at H1
            replace H1 := hid H1
            go_wp2_with fail
            with_reducible refine H1.out.mono ?_
            rintro e x1 ⟨vA, rfl, pA, eA, rA, kq⟩
            replace K := hid (K.out.trans' kq)
            replace KR := hid (KR.out.trans' kq)
            rw [eX.out] at eA
            replace eA := hid eA
            replace rA := hid rA
            have KA := hid (Kept.refl no x1)
            clear H1 kq
            have H2 := genpile_any (1 + m) _ bs 60 x1 (by omega) (by omega) (by decide) (hrdO.out.kept KR.out)
            rw [show ((60 : Nat) : Int) = 60 from rfl] at H2
            replace H2 := hid H2
            go_wp2_with fail
            with_reducible refine H2.out.mono ?_
            rintro e x2 ⟨vB, rfl, pB, eB2, rB, kq⟩
            replace K := hid (K.out.trans' kq)
            replace KR := hid (KR.out.trans' kq)
            replace KA := hid (KA.out.trans' kq)
            rw [eB.out] at eB2
            replace eB2 := hid eB2
            replace rB := hid rB
            have KB := hid (Kept.refl no x2)
            clear H2 kq
            rw [← eA.out, ← eB2.out] at hr0 hDk
            obtain ⟨d, hd⟩ : ∃ d, dist (grps pA) (grps pB) = d := ⟨_, rfl⟩
            rw [hd] at hr0 hDk
            have hd0 : decide ((0 : Int) ≤ d) = true := decide_eq_true (by omega)
            have hd1 : decide (d ≤ (k : Int)) = true := decide_eq_true (by omega)
            replace hd := hid hd
            clear hr0
            have H3 := distance_any _ _ pA pB x2 (rA.out.kept KA.out) (rB.out.kept KB.out)
            rw [hd.out] at H3
            replace H3 := hid H3
            go_wp2_with fail
            with_reducible refine H3.out.mono ?_
            rintro e x3 ⟨rfl, kq⟩
            replace K := hid (K.out.trans' kq)
            replace KR := hid (KR.out.trans' kq)
            replace KA := hid (KA.out.trans' kq)
            replace KB := hid (KB.out.trans' kq)
            clear H3 kq
            have H4 := awake_any x3
            replace H4 := hid H4
            go_wp2_with fail
            with_reducible refine H4.out.mono ?_
            rintro e x4 ⟨rfl, kq⟩
            replace K := hid (K.out.trans' kq)
            replace KR := hid (KR.out.trans' kq)
            replace KA := hid (KA.out.trans' kq)
            replace KB := hid (KB.out.trans' kq)
            clear H4 kq
            go_wp2
            go_ret
            exact ⟨rfl, K.out⟩
          · have hkd1 : decide ((k : Int) < (lz : Int)) = false := decide_eq_false (by omega)
            have hk1' : ¬ (k : Int) < (lz : Int) := by omega
            clear fin hlt
            have H1 := genpile_any (1 + m) _ xs 60 wr (by omega) (by omega) (by decide) (hx.out.kept K.out)
            rw [show ((60 : Nat) : Int) = 60 from rfl] at H1
            replace H1 := hid H1
            go_wp2_with fail
            with_reducible refine H1.out.mono ?_
            rintro e x1 ⟨vA, rfl, pA, eA, rA, kq⟩
            replace K := hid (K.out.trans' kq)
            replace KR := hid (KR.out.trans' kq)
            rw [eX.out] at eA
            replace eA := hid eA
            replace rA := hid rA
            have KA := hid (Kept.refl no x1)
            clear H1 kq
            have H2 := genpile_any (1 + m) _ bs 60 x1 (by omega) (by omega) (by decide) (hrdO.out.kept KR.out)
            rw [show ((60 : Nat) : Int) = 60 from rfl] at H2
            replace H2 := hid H2
            go_wp2_with fail
            with_reducible refine H2.out.mono ?_
            rintro e x2 ⟨vB, rfl, pB, eB2, rB, kq⟩
            replace K := hid (K.out.trans' kq)
            replace KR := hid (KR.out.trans' kq)
            replace KA := hid (KA.out.trans' kq)
            rw [eB.out] at eB2
            replace eB2 := hid eB2
            replace rB := hid rB
            have KB := hid (Kept.refl no x2)
            clear H2 kq
            rw [← eA.out, ← eB2.out] at hr0 hDk
            obtain ⟨d, hd⟩ : ∃ d, dist (grps pA) (grps pB) = d := ⟨_, rfl⟩
            rw [hd] at hr0 hDk
            have hd0 : decide ((0 : Int) ≤ d) = true := decide_eq_true (by omega)
            have hd1 : decide (d ≤ (k : Int)) = true := decide_eq_true (by omega)
            replace hd := hid hd
            clear hr0
            have H3 := distance_any _ _ pA pB x2 (rA.out.kept KA.out) (rB.out.kept KB.out)
            rw [hd.out] at H3
            replace H3 := hid H3
            go_wp2_with fail
            with_reducible refine H3.out.mono ?_
            rintro e x3 ⟨rfl, kq⟩
            replace K := hid (K.out.trans' kq)
            replace KR := hid (KR.out.trans' kq)
            replace KA := hid (KA.out.trans' kq)
            replace KB := hid (KB.out.trans' kq)
            clear H3 kq
            have H4 := awake_any x3
            replace H4 := hid H4
            go_wp2_with fail
            with_reducible refine H4.out.mono ?_
            rintro e x4 ⟨rfl, kq⟩
            replace K := hid (K.out.trans' kq)
            replace KR := hid (KR.out.trans' kq)
            replace KA := hid (KA.out.trans' kq)
            replace KB := hid (KB.out.trans' kq)
            clear H4 kq
            go_wp2
            go_ret
            exact ⟨rfl, K.out⟩
end Go.Proofs.Ytmigdhbolbhbeaa
