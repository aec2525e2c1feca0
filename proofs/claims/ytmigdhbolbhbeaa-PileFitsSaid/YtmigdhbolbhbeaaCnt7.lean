/- The reference's First (printed by gen_cnt7.py). -/
import Derived.Test.YtmigdhbolbhbeaaCnt3
namespace Go.Proofs.Ytmigdhbolbhbeaa
open Go.RowKit Go.Mk Go.Pil
set_option maxRecDepth 100000 in
set_option maxHeartbeats 4000000 in
theorem reffirst_any (v vr : Value) (ps : List (Grp × Value)) (bs : List Bool) (w : World) (hr : RdG w v ps) (hb : RdT w vr bs) : Calls Try.prog 24 #[v, vr] w fun e w' => ∃ v', e = .returned (.tuple #[v', .int .i64 (first (grps ps) bs).2]) ∧ OwZ w w' v' (first (grps ps) bs).1 := by
  obtain ⟨ao, cap, rfl, hcap, hcm⟩ := hr.shape
  obtain ⟨ab, cb, rfl, hcb, hcbm⟩ := Rd.shape2 hb
  have hm63 := maxLen_63
  by_cases hl : bs.length ≤ 7
  · have hle : decide ((7 : Int) < (bs.length : Int)) = false := decide_eq_false (by omega)
    have HI := refpile_any _ ps w hr
    cases hP : isPile 7 (grps ps) with
    | false =>
      have hv : Hd (first (grps ps) bs = ([], 0)) := ⟨by unfold first; rw [if_neg (by rw [hP]; simp)]⟩
      rw [hP] at HI
      replace HI := hid HI
      clear hP hr hb
      go_enter Try.func24, Try.ntmps24
      go_wp2_with fail
      refine HI.out.mono ?_
      rintro e w1 ⟨rfl, k1⟩
      have k2 := hid k1.kept
      clear k1 HI
      go_wp2
      go_ret2
      exact ⟨_, by rw [hv.out] <;> rfl, by rw [hv.out]; exact (OwZ.nil w).keptNo k2.out⟩
    | true =>
      rw [hP] at HI
      replace HI := hid HI
      have hv : Hd (first (grps ps) bs = firstV (grps ps) bs) := ⟨by unfold first; rw [if_pos ⟨hP, hl⟩]⟩
      have HF := hid (firstK_facts bs hP)
      have hlk : Hd (∀ k, (firstK (grps ps) bs k).1.length = bs.length) := ⟨fun k => (HF.out k).1⟩
      have hshort : Hd (∀ x ∈ ps, x.1.p.length ≤ 1000000) := ⟨fun x hx => by
        have := ((isPile_iff 7 _).1 hP).1 x.1 (by unfold grps; exact List.mem_map_of_mem hx)
        have := ballot_len this.1 (by omega); omega⟩
      have hmk := fun w => makeZ bs.length (by omega) w
      replace hr := hid hr
      replace hb := hid hb
      clear hP
      obtain ⟨len, hlen⟩ : ∃ len, ps.length = len := ⟨_, rfl⟩
      rw [hlen] at hr hcap HI ⊢
      replace hlen := hid hlen
      go_enter Try.func24, Try.ntmps24
      go_wp2_with fail
      refine HI.out.mono ?_
      rintro e w1 ⟨rfl, k1⟩
      have k2 := hid k1.kept
      clear k1 HI
      go_wp2
      obtain ⟨w2, hw2, g2, k3⟩ := alloc_named w1 (.cells (zsA (List.replicate bs.length 0)) 3)
      rw [← hw2]
      obtain ⟨bv, hbv⟩ : ∃ bv, w1.heap.size = bv := ⟨_, rfl⟩
      rw [hbv] at g2 ⊢
      have hbv2 : Hd (w.heap.size ≤ bv) := ⟨by rw [← hbv]; exact k2.out.size⟩
      replace hbv := hid hbv
      have hk2 := hid (k2.out.trans' k3)
      replace g2 := hid g2
      clear k3 k2 hw2 hmk
      go_loopw [7, 8] (fun R i wr => ∃ (k : Nat) (X : Int), k ≤ len ∧ i = .int .i64 (k : Int) ∧ R = .int .i64 X ∧ 0 ≤ X ∧ X ≤ 100000 ∧ Hd (X = (firstK (grps ps) bs k).2) ∧ Hd (wr.heap[bv]? = some (.cells (zsA (firstK (grps ps) bs k).1) 3 (0, 0))) ∧ Hd (Kept no w wr)) (fun _ i _ => len - (intOf i).toNat)
      case atStart => exact ⟨0, 0, by omega, rfl, rfl, by omega, by omega, ⟨rfl⟩, g2, hk2⟩
      case round =>
        obtain ⟨k, X, hk, rfl, rfl, hX0, hX1, hX, hg, hW⟩ := hrel
        by_cases hlt : k < len
        · have hk1 : (k : Int) < (len : Int) := by omega
          have hk0 : (0 : Int) ≤ (k : Int) := by omega
          have hkl : k < ps.length := by rw [hlen.out]; exact hlt
          obtain ⟨b, o, g, vg, rfl, hel, e0, e1, hz⟩ := (hr.out.kept hW.out).at k hkl
          have hst := hid (firstK_step (remain := bs) (grps_get _ hel))
          have hgl := hshort.out _ (List.getElem_mem hkl)
          rw [hel] at hgl
          have hF1 := hid (HF.out (k + 1))
          obtain ⟨N, hN⟩ : ∃ N, g.n = N := ⟨_, rfl⟩
          rw [hN] at e1
          replace hN := hid hN
          have HK := hid (kept_any vg g.p (.slice ab bs.length cb) bs wr hz (hb.out.kept hW.out) hgl)
          clear hel hz hgl
          go_wp2_with fail
          refine HK.out.mono ?_
          rintro e w3 ⟨vk, rfl, hOk⟩
          have f1 := hid (hOk.kept.cell e1 id)
          have hW3 := hid (hW.out.trans' hOk.kept)
          have hg3 := hid (hOk.kept.blk hg.out)
          have hzk := hid hOk.rd
          clear hOk HK hg hW e0 e1
          obtain ⟨ak, ck, rfl, _, _⟩ := Rd.shape2 hzk.out
          cases hkp : kept bs g.p with
          | nil =>
            have hno : hd bs g.p = none := by unfold hd; rw [hkp]; rfl
            have hX' : Hd (X + N = (firstK (grps ps) bs (k + 1)).2) := ⟨by rw [hst.out, fstep_none hno, hX.out, hN.out]⟩
            have hb1 := hF1.out.2.2
            rw [← hX'.out] at hb1
            obtain ⟨hb1, hb2⟩ := hb1
            have hw1 : IntKind.i64.wrap (X + N) = X + N := IntWalk.i64_in _ (by omega)
            have hg' : Hd (w3.heap[bv]? = some (.cells (zsA (firstK (grps ps) bs (k + 1)).1) 3 (0, 0))) := ⟨by rw [hst.out, fstep_none hno]; exact hg3.out⟩
            have f1' := f1.out
            clear hno hst hX hF1 hg3 f1 hzk hkp
            go_wp2
            go_roundw
            case rel => first | exact ⟨k + 1, X + N, by omega, by go_num, rfl, hb1, hb2, hX', hg', hW3⟩ | ((repeat apply Exists.intro); exact ⟨⟨k + 1, X + N, by omega, by go_num, rfl, hb1, hb2, hX', hg', hW3⟩, rfl⟩)
            case measure => simp [intOf]; omega
          | cons zc zr =>
            have hso : hd bs g.p = some zc := by unfold hd; rw [hkp]; rfl
            obtain ⟨bk, ok, hak, fz⟩ := hzk.out.at 0 (by rw [hkp]; simp)
            obtain ⟨hc0, hcl, _, _⟩ := hd_in hso
            obtain ⟨c, rfl⟩ : ∃ c : Nat, zc = (c : Int) := ⟨zc.toNat, by omega⟩
            rw [hkp] at fz
            simp only [List.getD_cons_zero, Nat.add_zero] at fz
            rw [Int.toNat_natCast] at hcl
            subst hak
            obtain ⟨V, hVe⟩ : ∃ V, (firstK (grps ps) bs k).1.getD c 0 = V := ⟨_, rfl⟩
            have hV := zsA_at hg3.out c (by rw [hlk.out k]; exact hcl)
            rw [hVe] at hV
            have hfr := hid (fr_row hg3.out c)
            have he : Hd (firstK (grps ps) bs (k + 1) = ((firstK (grps ps) bs k).1.set c (V + N), (firstK (grps ps) bs k).2)) := ⟨by rw [hst.out, fstep_some hso, hVe, hN.out]⟩
            have hbb := hF1.out.2.1 c
            rw [he.out] at hbb
            simp only [List.getD_eq_getElem?_getD] at hbb
            rw [List.getElem?_set_self (by rw [hlk.out k]; exact hcl)] at hbb
            simp only [Option.getD_some] at hbb
            have hX' : Hd (X = (firstK (grps ps) bs (k + 1)).2) := ⟨by rw [he.out]; exact hX.out⟩
            have hsum : IntKind.i64.wrap (V + N) = V + N := IntWalk.i64_in _ (by omega)
            have hc1 : (c : Int) < (bs.length : Int) := by omega
            obtain ⟨lk, hlk2⟩ : ∃ lk, ((c : Int) :: zr).length = lk := ⟨_, rfl⟩
            have hlk3 : (0 : Int) < (lk : Int) := by rw [← hlk2]; simp only [List.length_cons]; omega
            rw [hlk2]
            replace hV := hid hV
            replace fz := hid fz
            replace hVe := hid hVe
            clear hso hst hX hF1 hbb hzk hkp hlk2
            go_upto_region 10 with fail
            refine region_flow (S := (fun j => j = bv)) (Sl := (fun _ => (fun j => j = bv))) [Is (.slice (some ⟨bv, 0, none⟩) bs.length bs.length), Is (.slice (some ⟨bk, ok, none⟩) lk ck), Is (.pointer (some ⟨bk, ok, none⟩)), Is (.int .i64 (c : Int)), Is (.pointer (some ⟨bv, c, none⟩)), Is (.int .i64 V), Is (.slice (some ⟨b, o, none⟩) len cap), Is (.int .i64 (k : Int)), Is (.pointer (some ⟨b, o + k * 2, none⟩)), Is (.pointer (some ⟨b, o + k * 2 + 1, none⟩)), Is (.int .i64 N), Is (.int .i64 (V + N)), Is (.pointer (some ⟨bv, c, none⟩)), PUv w3 bv c (.int .i64 (V + N))] [13] (fun _ _ h => h) _ (by kernel_rfl) (by kernel_rfl) (by kernel_rfl) (by kernel_rfl) (fun x => by simp only [puts, Act.put, List.map_cons, List.map_nil, Nat.zero_add, Nat.reduceAdd, List.setIfInBounds_toArray, List.set_cons_zero, List.set_cons_succ]; exact rfl) ?_ ?_
            · skip
              refine Steps.cons (fun x wf Kk hq hdep hold => ?_) ?_
              · try dsimp only
                clear hq hdep hold
                rw [if_pos (by rfl)]
                refine OpY.val (v := (.slice (some ⟨bv, 0, none⟩) bs.length bs.length)) ?_ ⟨Kept.refl _ _, rfl⟩
                first | rfl | go_simp
              refine Steps.cons (fun x wf Kk hq hdep hold => ?_) ?_
              · try dsimp only
                clear hq hdep hold
                rw [if_pos (by rfl)]
                refine OpY.val (v := (.slice (some ⟨bk, ok, none⟩) lk ck)) ?_ ⟨Kept.refl _ _, rfl⟩
                first | rfl | go_simp
              refine Steps.cons (fun x wf Kk hq hdep hold => ?_) ?_
              · try dsimp only
                have h1 : x 1 = (.slice (some ⟨bk, ok, none⟩) lk ck) := hdep 1 (by kernel_rfl)
                clear hq hdep hold
                simp only [h1]
                clear h1
                rw [if_pos (by rfl)]
                refine OpY.val (v := (.pointer (some ⟨bk, ok, none⟩))) ?_ ⟨Kept.refl _ _, rfl⟩
                first | rfl | go_simp
              refine Steps.cons (fun x wf Kk hq hdep hold => ?_) ?_
              · try dsimp only
                have h2 : x 2 = (.pointer (some ⟨bk, ok, none⟩)) := hdep 2 (by kernel_rfl)
                have Kq := hq no (fun j hj => by cases (show j ∈ ([] : List Nat) from by (have e : ∀ l : List Nat, l = [] → j ∈ l → j ∈ ([] : List Nat) := fun l h h2 => h ▸ h2); exact e _ (by kernel_rfl) hj))
                clear hq hdep hold
                simp only [h2]
                clear h2
                have cvf := Kq.undrew.cell fz.out id
                rw [if_pos (by rfl)]
                refine OpY.val (v := (.int .i64 (c : Int))) ?_ ⟨Kept.refl _ _, rfl⟩
                first | rfl | go_simp
              refine Steps.cons (fun x wf Kk hq hdep hold => ?_) ?_
              · try dsimp only
                have h0 : x 0 = (.slice (some ⟨bv, 0, none⟩) bs.length bs.length) := hdep 0 (by kernel_rfl)
                have h3 : x 3 = (.int .i64 (c : Int)) := hdep 3 (by kernel_rfl)
                clear hq hdep hold
                simp only [h0, h3]
                clear h0 h3
                rw [if_pos (by rfl)]
                refine OpY.val (v := (.pointer (some ⟨bv, c, none⟩))) ?_ ⟨Kept.refl _ _, rfl⟩
                first | rfl | go_simp
              refine Steps.cons (fun x wf Kk hq hdep hold => ?_) ?_
              · try dsimp only
                have h4 : x 4 = (.pointer (some ⟨bv, c, none⟩)) := hdep 4 (by kernel_rfl)
                have Kq := hq no (fun j hj => by cases (show j ∈ ([] : List Nat) from by (have e : ∀ l : List Nat, l = [] → j ∈ l → j ∈ ([] : List Nat) := fun l h h2 => h ▸ h2); exact e _ (by kernel_rfl) hj))
                clear hq hdep hold
                simp only [h4]
                clear h4
                have cvf := Kq.undrew.cell hV.out id
                rw [if_pos (by rfl)]
                refine OpY.val (v := (.int .i64 V)) ?_ ⟨Kept.refl _ _, rfl⟩
                first | rfl | go_simp
              refine Steps.cons (fun x wf Kk hq hdep hold => ?_) ?_
              · try dsimp only
                clear hq hdep hold
                rw [if_pos (by rfl)]
                refine OpY.val (v := (.slice (some ⟨b, o, none⟩) len cap)) ?_ ⟨Kept.refl _ _, rfl⟩
                first | rfl | go_simp
              refine Steps.cons (fun x wf Kk hq hdep hold => ?_) ?_
              · try dsimp only
                clear hq hdep hold
                rw [if_pos (by rfl)]
                refine OpY.val (v := (.int .i64 (k : Int))) ?_ ⟨Kept.refl _ _, rfl⟩
                first | rfl | go_simp
              refine Steps.cons (fun x wf Kk hq hdep hold => ?_) ?_
              · try dsimp only
                have h6 : x 6 = (.slice (some ⟨b, o, none⟩) len cap) := hdep 6 (by kernel_rfl)
                have h7 : x 7 = (.int .i64 (k : Int)) := hdep 7 (by kernel_rfl)
                clear hq hdep hold
                simp only [h6, h7]
                clear h6 h7
                rw [if_pos (by rfl)]
                refine OpY.val (v := (.pointer (some ⟨b, o + k * 2, none⟩))) ?_ ⟨Kept.refl _ _, rfl⟩
                first | rfl | go_simp
              refine Steps.cons (fun x wf Kk hq hdep hold => ?_) ?_
              · try dsimp only
                have h8 : x 8 = (.pointer (some ⟨b, o + k * 2, none⟩)) := hdep 8 (by kernel_rfl)
                clear hq hdep hold
                simp only [h8]
                clear h8
                rw [if_pos (by rfl)]
                refine OpY.val (v := (.pointer (some ⟨b, o + k * 2 + 1, none⟩))) ?_ ⟨Kept.refl _ _, rfl⟩
                first | rfl | go_simp
              refine Steps.cons (fun x wf Kk hq hdep hold => ?_) ?_
              · try dsimp only
                have h9 : x 9 = (.pointer (some ⟨b, o + k * 2 + 1, none⟩)) := hdep 9 (by kernel_rfl)
                have Kq := hq no (fun j hj => by cases (show j ∈ ([] : List Nat) from by (have e : ∀ l : List Nat, l = [] → j ∈ l → j ∈ ([] : List Nat) := fun l h h2 => h ▸ h2); exact e _ (by kernel_rfl) hj))
                clear hq hdep hold
                simp only [h9]
                clear h9
                have cvf := Kq.undrew.cell f1.out id
                rw [if_pos (by rfl)]
                refine OpY.val (v := (.int .i64 N)) ?_ ⟨Kept.refl _ _, rfl⟩
                first | rfl | go_simp
              refine Steps.cons (fun x wf Kk hq hdep hold => ?_) ?_
              · try dsimp only
                have h5 : x 5 = (.int .i64 V) := hdep 5 (by kernel_rfl)
                have h10 : x 10 = (.int .i64 N) := hdep 10 (by kernel_rfl)
                clear hq hdep hold
                simp only [h5, h10]
                clear h5 h10
                rw [if_pos (by rfl)]
                refine OpY.val (v := (.int .i64 (V + N))) ?_ ⟨Kept.refl _ _, rfl⟩
                first | rfl | go_simp
              refine Steps.cons (fun x wf Kk hq hdep hold => ?_) ?_
              · try dsimp only
                have h0 : x 0 = (.slice (some ⟨bv, 0, none⟩) bs.length bs.length) := hdep 0 (by kernel_rfl)
                have h3 : x 3 = (.int .i64 (c : Int)) := hdep 3 (by kernel_rfl)
                clear hq hdep hold
                simp only [h0, h3]
                clear h0 h3
                rw [if_pos (by rfl)]
                refine OpY.val (v := (.pointer (some ⟨bv, c, none⟩))) ?_ ⟨Kept.refl _ _, rfl⟩
                first | rfl | go_simp
              refine Steps.cons (fun x wf Kk hq hdep hold => ?_) ?_
              · try dsimp only
                have h12 : x 12 = (.pointer (some ⟨bv, c, none⟩)) := hdep 12 (by kernel_rfl)
                have h11 : x 11 = (.int .i64 (V + N)) := hdep 11 (by kernel_rfl)
                have Kq := hq no (fun j hj => by cases (show j ∈ ([] : List Nat) from by (have e : ∀ l : List Nat, l = [] → j ∈ l → j ∈ ([] : List Nat) := fun l h h2 => h ▸ h2); exact e _ (by kernel_rfl) hj))
                clear hq hdep hold
                simp only [h12, h11]
                clear h12 h11
                rw [if_pos (by rfl)]
                have kq := Kq.undrew
                have hc1 := kq.cell hV.out id
                have hc2 := hfr.out _ kq
                refine OpY.skipY (w' := wf.setCell ⟨bv, c, none⟩ (.int .i64 (V + N))) (by go_simp) ⟨(Kept.refl (fun j => j = bv) wf).setCell (a := ⟨bv, c, none⟩) (.inl rfl) _, wf, kq, Kept.refl _ _⟩
              exact Steps.nil _
            · intro x wf Kk hv
              try dsimp only
              have h0 : x 0 = (.slice (some ⟨bv, 0, none⟩) bs.length bs.length) := hv 0 (by kernel_rfl)
              have h1 : x 1 = (.slice (some ⟨bk, ok, none⟩) lk ck) := hv 1 (by kernel_rfl)
              have h2 : x 2 = (.pointer (some ⟨bk, ok, none⟩)) := hv 2 (by kernel_rfl)
              have h3 : x 3 = (.int .i64 (c : Int)) := hv 3 (by kernel_rfl)
              have h4 : x 4 = (.pointer (some ⟨bv, c, none⟩)) := hv 4 (by kernel_rfl)
              have h5 : x 5 = (.int .i64 V) := hv 5 (by kernel_rfl)
              have h6 : x 6 = (.slice (some ⟨b, o, none⟩) len cap) := hv 6 (by kernel_rfl)
              have h7 : x 7 = (.int .i64 (k : Int)) := hv 7 (by kernel_rfl)
              have h8 : x 8 = (.pointer (some ⟨b, o + k * 2, none⟩)) := hv 8 (by kernel_rfl)
              have h9 : x 9 = (.pointer (some ⟨b, o + k * 2 + 1, none⟩)) := hv 9 (by kernel_rfl)
              have h10 : x 10 = (.int .i64 N) := hv 10 (by kernel_rfl)
              have h11 : x 11 = (.int .i64 (V + N)) := hv 11 (by kernel_rfl)
              have h12 : x 12 = (.pointer (some ⟨bv, c, none⟩)) := hv 12 (by kernel_rfl)
              have p13 : Pr.p (Sl := (fun _ => (fun j => j = bv))) (PUv w3 bv c (.int .i64 (V + N))) (x 13) wf := hv 13 (by kernel_rfl)
              clear hv
              simp only [h0, h1, h2, h3, h4, h5, h6, h7, h8, h9, h10, h11, h12]
              clear h0 h1 h2 h3 h4 h5 h6 h7 h8 h9 h10 h11 h12
              obtain ⟨wm, km, kn⟩ := p13
              have hg' : Hd (wf.heap[bv]? = some (.cells (zsA (firstK (grps ps) bs (k + 1)).1) 3 (0, 0))) := ⟨by rw [he.out]; exact zsA_step hg3.out km kn⟩
              have hW' := hid (((hW3.out.trans' km).setCell (a := ⟨bv, c, none⟩) (.inr hbv2.out) (.int .i64 (V + N))).trans' kn)
              clear km kn hW3 hg3 Kk f1 fz hV hfr he
              go_wp2
              go_roundw
              case rel => first | exact ⟨k + 1, X, by omega, by go_num, rfl, hX0, hX1, hX', hg', hW'⟩ | ((repeat apply Exists.intro); exact ⟨⟨k + 1, X, by omega, by go_num, rfl, hX0, hX1, hX', hg', hW'⟩, rfl⟩)
              case measure => simp [intOf]; omega
        · obtain rfl : k = len := by omega
          have hfk : Hd (firstK (grps ps) bs k = firstV (grps ps) bs) := ⟨firstK_all (by rw [grps_length, hlen.out]; exact Nat.le_refl _)⟩
          have hfl : Hd ((firstV (grps ps) bs).1.length = bs.length) := ⟨by rw [← hfk.out]; exact hlk.out k⟩
          have hX' : Hd (X = (first (grps ps) bs).2) := ⟨by rw [hX.out, hfk.out, hv.out]⟩
          have hg' : Hd (wr.heap[bv]? = some (.cells (zsA (first (grps ps) bs).1) 3 (0, 0))) := ⟨by rw [hg.out, hfk.out, hv.out]⟩
          have hln : Hd ((first (grps ps) bs).1.length = bs.length) := ⟨by rw [hv.out]; exact hfl.out⟩
          have hbm : bs.length ≤ maxLen := by omega
          clear hX hg hfk hfl HF hlk hv
          go_wp2
          go_ret2
          exact ⟨_, by rw [hX'.out] <;> rfl, own_zsA hg'.out _ hln.out hbm, hW.out, .inr ⟨_, rfl, hbv2.out⟩⟩
  · have hv : Hd (first (grps ps) bs = ([], 0)) := ⟨by unfold first; rw [if_neg (by omega)]⟩
    have hle : decide ((7 : Int) < (bs.length : Int)) = true := decide_eq_true (by omega)
    have hle' : (7 : Int) < (bs.length : Int) := by omega
    clear hr hb hl
    go_enter Try.func24, Try.ntmps24
    go_wp2
    go_ret2
    exact ⟨_, by rw [hv.out] <;> rfl, by rw [hv.out]; exact OwZ.nil w⟩
end Go.Proofs.Ytmigdhbolbhbeaa
