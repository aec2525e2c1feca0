/- electionref24.Restrict; PileRestricts: the walk (printed by gen_rres.py). -/
import Derived.Test.YtmigdhbolbhbeaaRes
import Derived.Test.YtmigdhbolbhbeaaSumK
namespace Go.Proofs.Ytmigdhbolbhbeaa
open Go.RowKit Go.Mk Go.Pil
set_option maxRecDepth 100000 in
set_option maxHeartbeats 4000000 in
theorem refrestrict_any (v vr : Value) (ps : List (Grp × Value)) (bs : List Bool) (w : World) (hr : RdG w v ps) (hb : RdT w vr bs) : Calls Try.prog 45 #[v, vr] w fun e w' => ∃ v', e = .returned v' ∧ GR w w' v' (restr (grps ps) bs) := by
  obtain ⟨ao, cap, rfl, hcap, hcm⟩ := hr.shape
  obtain ⟨ab, cb, rfl, hcb, hcbm⟩ := Rd.shape2 hb
  have hm63 := maxLen_63
  have HI := refpile_any _ ps w hr
  replace hr := hid hr
  replace hb := hid hb
  cases hP : isPile 7 (grps ps) with
  | false =>
    have hv : Hd (restr (grps ps) bs = []) := ⟨by unfold restr; rw [if_neg (by rw [hP]; simp)]⟩
    rw [hP] at HI
    replace HI := hid HI
    clear hP
    go_enter Try.func45, Try.ntmps45
    go_wp2_with fail
    refine HI.out.mono ?_
    rintro e w1 ⟨rfl, k1⟩
    have k2 := hid k1.kept
    clear k1 HI
    go_wp2
    go_ret
    exact ⟨_, rfl, by rw [hv.out]; exact nilGR k2.out⟩
  | true =>
    have hv : Hd (restr (grps ps) bs = pileOf ((grps ps).map fun g => ⟨kept bs g.p, g.n⟩)) := ⟨by unfold restr; rw [if_pos hP]⟩
    rw [hP] at HI
    replace HI := hid HI
    have hpp := hid ((isPile_iff 7 _).1 hP)
    have hsh := hid (pile_short hP)
    clear hP
    obtain ⟨len, hlen⟩ : ∃ len, ps.length = len := ⟨_, rfl⟩
    have hl5 : len ≤ 100000 := by have := hsh.out.1; omega
    rw [hlen] at hr hcap HI ⊢
    replace hlen := hid hlen
    have hsm : Hd (∀ k, ∀ rs : List (Grp × Value), grps rs = pileOf (((grps ps).take k).map fun g => ⟨kept bs g.p, g.n⟩) → small rs) := ⟨fun k rs h => by
      have hpos : ∀ g ∈ ((grps ps).take k).map (fun g => (⟨kept bs g.p, g.n⟩ : Grp)), 1 ≤ g.n := fun g hg => by
        obtain ⟨y, hy, he⟩ := List.mem_map.1 hg
        rw [← he]; exact (hpp.out.1 y (List.mem_of_mem_take hy)).2
      refine small_of (by rw [h]; exact pileOf_pos hpos) ?_
      rw [h, pileOf_tot hpos]
      have e : tot (((grps ps).take k).map fun g => (⟨kept bs g.p, g.n⟩ : Grp)) = tot ((grps ps).take k) := by simp [tot, Function.comp_def]
      rw [e]
      exact (tot_pre (n := 7) ((isPile_iff 7 _).2 hpp.out) k).2⟩
    go_enter Try.func45, Try.ntmps45
    go_wp2_with fail
    refine HI.out.mono ?_
    rintro e w1 ⟨rfl, k1⟩
    have k1' := hid k1.kept
    clear HI k1
    go_wp2
    go_loopw [5, 6] (fun out i wr => ∃ (k : Nat) (rs : List (Grp × Value)), k ≤ len ∧ i = .int .i64 (k : Int) ∧ Hd (grps rs = pileOf (((grps ps).take k).map fun g => ⟨kept bs g.p, g.n⟩)) ∧ Hd (RdG wr out rs) ∧ Hd (Kept no w wr)) (fun _ i _ => len - (intOf i).toNat)
    case atStart => exact ⟨0, [], by omega, rfl, ⟨rfl⟩, ⟨(fun x hx => by cases hx), nil_rd _ _⟩, k1'⟩
    case round =>
      clear k1'
      obtain ⟨k, rs, hk, rfl, hrs, hR, hW⟩ := hrel
      by_cases hlt : k < len
      · have hk1 : (k : Int) < (len : Int) := by omega
        have hk0 : (0 : Int) ≤ (k : Int) := by omega
        obtain ⟨b, o, g, vg, rfl, hel, c0, c1, hz⟩ := (hr.out.kept hW.out).at k (by rw [hlen.out]; exact hlt)
        have hgk := grps_get _ hel
        have hgm := List.mem_of_getElem? hgk
        have hst : Hd (addG (grps rs) (kept bs g.p) g.n = pileOf (((grps ps).take (k + 1)).map fun g => ⟨kept bs g.p, g.n⟩)) := ⟨by
          obtain ⟨h1, h2⟩ := List.getElem?_eq_some_iff.1 hgk
          rw [List.take_succ_eq_append_getElem h1, h2, List.map_append, List.map_cons, List.map_nil, pileOf_snoc, hrs.out]⟩
        have hgn : -1000000 ≤ g.n ∧ g.n ≤ 1000000 := by
          have h1 := (hpp.out.1 g hgm).2
          have h2 := n_le_tot (fun y hy => (hpp.out.1 y hy).2) g hgm
          have h3 := hpp.out.2.1
          omega
        have hgl : g.p.length ≤ 1000000 := by have := ballot_len (hpp.out.1 g hgm).1 (by omega); omega
        obtain ⟨N, hN⟩ : ∃ N, g.n = N := ⟨_, rfl⟩
        rw [hN] at c1 hst hgn
        have HK := hid (fun W (kw : Kept no wr W) => kept_any vg g.p (.slice ab bs.length cb) bs W (hz.kept kw) ((hb.out.kept hW.out).kept kw) hgl)
        have HA := hid (fun W (u : Value) (kw : Kept no wr W) (hu : RdZ W u (kept bs g.p)) => refadd_any u5 u rs (kept bs g.p) N W (hR.out.kept kw) hu (hsm.out k rs hrs.out) hgn)
        obtain ⟨av, cv, rfl, _, _⟩ := Rd.shape2 hz
        replace c0 := hid c0
        replace c1 := hid c1
        clear hel hgk hgm hgn hgl hN hz hrs hR
        go_upto_region 7 with fail
        refine region_flow (S := no) (Sl := (fun _ => no)) [Is (u5), Is (.slice (some ⟨b, o, none⟩) len cap), Is (.int .i64 (k : Int)), Is (.pointer (some ⟨b, o + k * 2, none⟩)), Is (.pointer (some ⟨b, o + k * 2, none⟩)), Is (.slice av g.p.length cv), Is (.slice ab bs.length cb), OwNw wr (kept bs g.p), Is (.slice (some ⟨b, o, none⟩) len cap), Is (.int .i64 (k : Int)), Is (.pointer (some ⟨b, o + k * 2, none⟩)), Is (.pointer (some ⟨b, o + k * 2 + 1, none⟩)), Is (.int .i64 N), AddP (addG (grps rs) (kept bs g.p) N), AddP (addG (grps rs) (kept bs g.p) N)] [] (fun _ _ h => h) _ (by kernel_rfl) (by kernel_rfl) (by kernel_rfl) (by kernel_rfl) (fun x => by simp only [puts, Act.put, List.map_cons, List.map_nil, Nat.zero_add, Nat.reduceAdd, List.setIfInBounds_toArray, List.set_cons_zero, List.set_cons_succ]; exact rfl) ?_ ?_
        · skip
          refine Steps.cons (fun x wf Kk hq hdep hold => ?_) ?_
          · try dsimp only
            have h14 : x 14 = (u5) := hold 14 (by kernel_rfl)
            clear hq hdep hold
            simp only [h14]
            clear h14
            rw [if_pos (by rfl)]
            refine OpY.val (v := (u5)) ?_ ⟨Kept.refl _ _, rfl⟩
            first | rfl | go_simp
          refine Steps.cons (fun x wf Kk hq hdep hold => ?_) ?_
          · try dsimp only
            clear hq hdep hold
            rw [if_pos (by rfl)]
            refine OpY.val (v := (.slice (some ⟨b, o, none⟩) len cap)) ?_ ⟨Kept.refl _ _, rfl⟩
            first | rfl | go_simp
          refine Steps.cons (fun x wf Kk hq hdep hold => ?_) ?_
          · try dsimp only
            clear hq hdep hold
            rw [if_pos (by rfl)]
            refine OpY.val (v := (.int .i64 (k : Int))) ?_ ⟨Kept.refl _ _, rfl⟩
            first | rfl | go_simp
          refine Steps.cons (fun x wf Kk hq hdep hold => ?_) ?_
          · try dsimp only
            have h1 : x 1 = (.slice (some ⟨b, o, none⟩) len cap) := hdep 1 (by kernel_rfl)
            have h2 : x 2 = (.int .i64 (k : Int)) := hdep 2 (by kernel_rfl)
            clear hq hdep hold
            simp only [h1, h2]
            clear h1 h2
            rw [if_pos (by rfl)]
            refine OpY.val (v := (.pointer (some ⟨b, o + k * 2, none⟩))) ?_ ⟨Kept.refl _ _, rfl⟩
            first | rfl | go_simp
          refine Steps.cons (fun x wf Kk hq hdep hold => ?_) ?_
          · try dsimp only
            have h3 : x 3 = (.pointer (some ⟨b, o + k * 2, none⟩)) := hdep 3 (by kernel_rfl)
            clear hq hdep hold
            simp only [h3]
            clear h3
            rw [if_pos (by rfl)]
            refine OpY.val (v := (.pointer (some ⟨b, o + k * 2, none⟩))) ?_ ⟨Kept.refl _ _, rfl⟩
            first | rfl | go_simp
          refine Steps.cons (fun x wf Kk hq hdep hold => ?_) ?_
          · try dsimp only
            have h4 : x 4 = (.pointer (some ⟨b, o + k * 2, none⟩)) := hdep 4 (by kernel_rfl)
            have Kq := hq no (fun j hj => by cases (show j ∈ ([] : List Nat) from by (have e : ∀ l : List Nat, l = [] → j ∈ l → j ∈ ([] : List Nat) := fun l h h2 => h ▸ h2); exact e _ (by kernel_rfl) hj))
            clear hq hdep hold
            simp only [h4]
            clear h4
            have cvf := Kq.undrew.cell c0.out id
            rw [if_pos (by rfl)]
            refine OpY.val (v := (.slice av g.p.length cv)) ?_ ⟨Kept.refl _ _, rfl⟩
            first | rfl | go_simp
          refine Steps.cons (fun x wf Kk hq hdep hold => ?_) ?_
          · try dsimp only
            clear hq hdep hold
            rw [if_pos (by rfl)]
            refine OpY.val (v := (.slice ab bs.length cb)) ?_ ⟨Kept.refl _ _, rfl⟩
            first | rfl | go_simp
          refine Steps.cons (fun x wf Kk hq hdep hold => ?_) ?_
          · try dsimp only
            have h5 : x 5 = (.slice av g.p.length cv) := hdep 5 (by kernel_rfl)
            have h6 : x 6 = (.slice ab bs.length cb) := hdep 6 (by kernel_rfl)
            have Kq := hq no (fun j hj => by cases (show j ∈ ([] : List Nat) from by (have e : ∀ l : List Nat, l = [] → j ∈ l → j ∈ ([] : List Nat) := fun l h h2 => h ▸ h2); exact e _ (by kernel_rfl) hj))
            clear hq hdep hold
            simp only [h5, h6]
            clear h5 h6
            rw [if_pos (by rfl)]
            refine OpY.call (f := 59) (args := #[(.slice av g.p.length cv), (.slice ab bs.length cb)]) (by go_simp) ?_
            refine (HK.out wf Kq.undrew).mono ?_
            rintro e w3 ⟨v3, rfl, o3⟩
            exact ⟨_, rfl, o3.kept, o3.of_kept Kq.undrew⟩
          refine Steps.cons (fun x wf Kk hq hdep hold => ?_) ?_
          · try dsimp only
            clear hq hdep hold
            rw [if_pos (by rfl)]
            refine OpY.val (v := (.slice (some ⟨b, o, none⟩) len cap)) ?_ ⟨Kept.refl _ _, rfl⟩
            first | rfl | go_simp
          refine Steps.cons (fun x wf Kk hq hdep hold => ?_) ?_
          · try dsimp only
            clear hq hdep hold
            rw [if_pos (by rfl)]
            refine OpY.val (v := (.int .i64 (k : Int))) ?_ ⟨Kept.refl _ _, rfl⟩
            first | rfl | go_simp
          refine Steps.cons (fun x wf Kk hq hdep hold => ?_) ?_
          · try dsimp only
            have h8 : x 8 = (.slice (some ⟨b, o, none⟩) len cap) := hdep 8 (by kernel_rfl)
            have h9 : x 9 = (.int .i64 (k : Int)) := hdep 9 (by kernel_rfl)
            clear hq hdep hold
            simp only [h8, h9]
            clear h8 h9
            rw [if_pos (by rfl)]
            refine OpY.val (v := (.pointer (some ⟨b, o + k * 2, none⟩))) ?_ ⟨Kept.refl _ _, rfl⟩
            first | rfl | go_simp
          refine Steps.cons (fun x wf Kk hq hdep hold => ?_) ?_
          · try dsimp only
            have h10 : x 10 = (.pointer (some ⟨b, o + k * 2, none⟩)) := hdep 10 (by kernel_rfl)
            clear hq hdep hold
            simp only [h10]
            clear h10
            rw [if_pos (by rfl)]
            refine OpY.val (v := (.pointer (some ⟨b, o + k * 2 + 1, none⟩))) ?_ ⟨Kept.refl _ _, rfl⟩
            first | rfl | go_simp
          refine Steps.cons (fun x wf Kk hq hdep hold => ?_) ?_
          · try dsimp only
            have h11 : x 11 = (.pointer (some ⟨b, o + k * 2 + 1, none⟩)) := hdep 11 (by kernel_rfl)
            have Kq := hq no (fun j hj => by cases (show j ∈ ([] : List Nat) from by (have e : ∀ l : List Nat, l = [] → j ∈ l → j ∈ ([] : List Nat) := fun l h h2 => h ▸ h2); exact e _ (by kernel_rfl) hj))
            clear hq hdep hold
            simp only [h11]
            clear h11
            have cvf := Kq.undrew.cell c1.out id
            rw [if_pos (by rfl)]
            refine OpY.val (v := (.int .i64 N)) ?_ ⟨Kept.refl _ _, rfl⟩
            first | rfl | go_simp
          refine Steps.cons (fun x wf Kk hq hdep hold => ?_) ?_
          · try dsimp only
            have h0 : x 0 = (u5) := hdep 0 (by kernel_rfl)
            have p7 : Pr.p (Sl := (fun _ => no)) (OwNw wr (kept bs g.p)) (x 7) wf := hdep 7 (by kernel_rfl)
            have h12 : x 12 = (.int .i64 N) := hdep 12 (by kernel_rfl)
            have Kq := hq no (fun j hj => by cases (show j ∈ ([] : List Nat) from by (have e : ∀ l : List Nat, l = [] → j ∈ l → j ∈ ([] : List Nat) := fun l h h2 => h ▸ h2); exact e _ (by kernel_rfl) hj))
            clear hq hdep hold
            simp only [h0, h12]
            clear h0 h12
            rw [if_pos (by rfl)]
            refine OpY.call (f := 51) (args := #[(u5), x 7, (.int .i64 N)]) (by go_simp) ?_
            refine (HA.out wf (x 7) Kq.undrew (OwZ.rd p7)).mono ?_
            rintro e w3 ⟨v3, rs3, rfl, o3, e3⟩
            exact ⟨_, rfl, o3.kept, rs3, e3, o3.rd⟩
          refine Steps.cons (fun x wf Kk hq hdep hold => ?_) ?_
          · try dsimp only
            have p13 : Pr.p (Sl := (fun _ => no)) (AddP (addG (grps rs) (kept bs g.p) N)) (x 13) wf := hdep 13 (by kernel_rfl)
            clear hq hdep hold
            rw [if_pos (by rfl)]
            exact OpY.val (v := x 13) rfl ⟨Kept.refl _ _, p13⟩
          exact Steps.nil _
        · intro x wf Kk hv
          try dsimp only
          have h0 : x 0 = (u5) := hv 0 (by kernel_rfl)
          have h1 : x 1 = (.slice (some ⟨b, o, none⟩) len cap) := hv 1 (by kernel_rfl)
          have h2 : x 2 = (.int .i64 (k : Int)) := hv 2 (by kernel_rfl)
          have h3 : x 3 = (.pointer (some ⟨b, o + k * 2, none⟩)) := hv 3 (by kernel_rfl)
          have h4 : x 4 = (.pointer (some ⟨b, o + k * 2, none⟩)) := hv 4 (by kernel_rfl)
          have h5 : x 5 = (.slice av g.p.length cv) := hv 5 (by kernel_rfl)
          have h6 : x 6 = (.slice ab bs.length cb) := hv 6 (by kernel_rfl)
          have h8 : x 8 = (.slice (some ⟨b, o, none⟩) len cap) := hv 8 (by kernel_rfl)
          have h9 : x 9 = (.int .i64 (k : Int)) := hv 9 (by kernel_rfl)
          have h10 : x 10 = (.pointer (some ⟨b, o + k * 2, none⟩)) := hv 10 (by kernel_rfl)
          have h11 : x 11 = (.pointer (some ⟨b, o + k * 2 + 1, none⟩)) := hv 11 (by kernel_rfl)
          have h12 : x 12 = (.int .i64 N) := hv 12 (by kernel_rfl)
          have p14 : Pr.p (Sl := (fun _ => no)) (AddP (addG (grps rs) (kept bs g.p) N)) (x 14) wf := hv 14 (by kernel_rfl)
          clear hv
          simp only [h0, h1, h2, h3, h4, h5, h6, h8, h9, h10, h11, h12]
          clear h0 h1 h2 h3 h4 h5 h6 h8 h9 h10 h11 h12
          obtain ⟨rs3, e3, r3⟩ := p14
          have hrs3 : Hd (grps rs3 = pileOf (((grps ps).take (k + 1)).map fun g => ⟨kept bs g.p, g.n⟩)) := ⟨by rw [e3]; exact hst.out⟩
          have hW3 := hid (hW.out.trans' Kk.undrew)
          replace r3 := hid r3
          generalize x 14 = v' at r3 ⊢
          clear hW hst HA HK e3 Kk c0 c1
          go_wp2
          go_roundw
          case rel => first | exact ⟨k + 1, rs3, by omega, by go_num, hrs3, r3, hW3⟩ | ((repeat apply Exists.intro); exact ⟨⟨k + 1, rs3, by omega, by go_num, hrs3, r3, hW3⟩, rfl⟩)
          case measure => simp [intOf]; omega
      · obtain rfl : k = len := by omega
        have hG : Hd (grps rs = restr (grps ps) bs) := ⟨by rw [hrs.out, hv.out, List.take_of_length_le (by rw [grps_length, hlen.out]; exact Nat.le_refl _)]⟩
        clear hrs hsm hv
        go_wp2
        go_ret
        exact ⟨_, rfl, ⟨rs, hG.out, hR.out, hW.out⟩⟩
end Go.Proofs.Ytmigdhbolbhbeaa
