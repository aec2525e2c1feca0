/- electionlaw38.CommitVerifies answers true (printed by gen_cver.py). -/
import Derived.Test.YtggcbjchnefhfaaDoorHead38
namespace Go.Cmt
theorem findD_of_mem {ds : List (List UInt8)} {d : List UInt8} (h : d ∈ ds) : ∃ j : Nat, findD ds d = (j : Int) ∧ j < ds.length ∧ ds.getD j [] = d := by
  have hj : ds.idxOf d < ds.length := List.idxOf_lt_length_iff.2 h
  refine ⟨ds.idxOf d, by unfold findD; rw [if_pos h], hj, ?_⟩
  rw [List.getD_eq_getElem?_getD, List.getElem?_eq_getElem hj]
  simp [List.getElem_idxOf]
end Go.Cmt
namespace Go.Proofs.YtggcbjchnefhfaaDoor
open Go.RowKit Go.Mk Go.Sha Go.Cmt
set_option maxRecDepth 100000 in
set_option maxHeartbeats 4000000 in
theorem cver_any (s : ByteArray) (c n : Int) (v3 v4 : Value) (bs : List (List Int × Value)) (fs : List Bool) (w : World) (hs : s.size ≤ 9223372036854775807) (hr : Pl.RdB w v3 bs) (hf : RdF w v4 fs) (hT : Tab w) (hR : TabR w) :
    Calls Tryd.prog 5 #[.string s, .int .i64 c, .int .i64 n, v3, v4] w fun e w' => e = .returned (.bool true) ∧ Kept no w w' := by
  have hsz := shortS_size s
  have HSH := hid (fun w => short_any s hs w)
  obtain ⟨s', hs'⟩ : ∃ s', shortS s = s' := ⟨_, rfl⟩
  rw [hs'] at hsz HSH
  clear hs'
  have HM := hid (fun w => mod7 n w)
  have hmI := Pl.modI_lt n 7 (by decide)
  obtain ⟨r, hr7⟩ : ∃ r : Int, Pl.modI n 7 = r := ⟨_, rfl⟩
  rw [hr7] at HM hmI
  clear hr7
  have HI := hid (fun w hr hf => items_any (1 + r) v3 v4 bs fs 8 w (by omega) (by omega) (by decide) hr hf)
  have hrw : IntKind.i64.wrap (1 + r) = 1 + r := IntWalk.i64_in _ (by omega)
  have HA := hid (fun w hT hR => awake38_any w hT hR)
  obtain ⟨a3, c3, rfl⟩ := Rd.shapeZ hr.2
  obtain ⟨a4, c4, rfl⟩ := Rd.shapeZ hf
  replace hr := hid hr
  replace hf := hid hf
  replace hT := hid hT
  replace hR := hid hR
  go_enter Tryd.func5, Tryd.ntmps5
  go_wp2_with fail
  refine (HSH.out _).mono ?_
  rintro e w' ⟨rfl, rfl⟩
  go_wp2_with fail
  refine (HM.out _).mono ?_
  rintro e w' ⟨rfl, rfl⟩
  go_wp2_with fail
  refine (HI.out _ hr.out hf.out).mono ?_
  rintro e w1 ⟨vi, its, rfl, hil, hip, hir, k1⟩
  replace k1 := hid k1
  clear HI HM HSH hrw hmI hr hf
  have HL := hid (fun w hi hT => clist_any s' c vi its w (by omega) (by omega) hip hi hT)
  obtain ⟨ai, ci, rfl, _, _⟩ := hir.shape
  replace hir := hid hir
  replace hip := hid hip
  obtain ⟨N, hN⟩ : ∃ N, its.length = N := ⟨_, rfl⟩
  rw [hN] at hil hir HL ⊢
  replace hN := hid hN
  have hmem : Hd (∀ j (h : j < its.length), its[j].1.ph = false → com s'.data.toList c its[j].1 ∈ sortD (coms s'.data.toList c (itms its))) := ⟨fun j h hp => by
    refine (sortD_spec _).1.mem_iff.2 ?_
    unfold coms itms
    refine List.mem_map.2 ⟨its[j].1, List.mem_filter.2 ⟨List.mem_map.2 ⟨its[j], List.getElem_mem h, rfl⟩, by rw [hp]; rfl⟩, rfl⟩⟩
  have hDm : Hd ((sortD (coms s'.data.toList c (itms its))).length ≤ 8) := ⟨by rw [sortD_length]; have := coms_le s'.data.toList c (itms its); rw [itms_length, hN.out] at this; omega⟩
  obtain ⟨D, hD⟩ : ∃ D, sortD (coms s'.data.toList c (itms its)) = D := ⟨_, rfl⟩
  rw [hD] at HL hmem hDm
  clear hD
  go_wp2_with fail
  refine (HL.out _ hir.out (hT.out.kept k1.out)).mono ?_
  rintro e w2 ⟨va, rfl, oa⟩
  have k2 := hid (k1.out.trans' oa.kept)
  have hir2 := hid (hir.out.kept oa.kept)
  replace oa := hid oa.rd
  obtain ⟨aa, ca, rfl, _, _⟩ := oa.out.shape
  obtain ⟨q, hq⟩ : ∃ q, D.length = q := ⟨_, rfl⟩
  rw [hq] at oa hDm ⊢
  replace hq := hid hq
  have hun := Tryd.underlying43
  have hgd := guard_digest
  clear HL k1 hir
  go_wp2
  go_loopw [14] (fun i wr => ∃ k : Nat, k ≤ N ∧ i = .int .i64 (k : Int) ∧ Hd (Kept no w2 wr)) (fun i _ => N - (intOf i).toNat)
  case atStart => exact ⟨0, by omega, rfl, ⟨Kept.refl _ _⟩⟩
  case round =>
    obtain ⟨k, hk, rfl, hK⟩ := hrel
    by_cases hlt : k < N
    · have hk1 : (k : Int) < (N : Int) := by omega
      have hk0 : (0 : Int) ≤ (k : Int) := by omega
      obtain ⟨b, o, it, vx, rfl, hel, c0, c1, c2, c3, c4, hz⟩ := (hir2.out.kept hK.out).at k (by rw [hN.out]; exact hlt)
      obtain ⟨av, lv, cv, rfl⟩ : ∃ a l c, vx = .slice a l c := by obtain ⟨_, a, c, e, _⟩ := hz; exact ⟨a, _, c, e⟩
      have hpl : Hd (it.pr.length ≤ 1000) := ⟨by have := hip.out _ (List.getElem_mem (show k < its.length by rw [hN.out]; exact hlt)); rwa [hel] at this⟩
      have hmm : Hd (it.ph = false → com s'.data.toList c it ∈ D) := ⟨fun h => by have := hmem.out k (by rw [hN.out]; exact hlt); rw [hel] at this; exact this h⟩
      replace hz := hid hz
      have hk3 : Kept no wr (wr.alloc (.cells #[.int .i64 it.s, .int .i64 it.b, .int .i64 it.p] 31)) := (Kept.refl no wr).alloc _
      have hS3 : Hd (S3 wr.heap.size it.s it.b it.p (wr.alloc (.cells #[.int .i64 it.s, .int .i64 it.b, .int .i64 it.p] 31))) := ⟨⟨cell_of_row _ _ 0 _ _ _ (heap_alloc_new _ _), cell_of_row _ _ 1 _ _ _ (heap_alloc_new _ _), cell_of_row _ _ 2 _ _ _ (heap_alloc_new _ _)⟩⟩
      have c3' := hk3.cell c3 id
      have hK3 := hid (hK.out.trans' hk3)
      clear hel
      cases hph : it.ph with
      | true =>
        rw [hph] at c3 c3'
        clear hmm hpl hz hk3 hS3
        go_wp2
        go_roundw
        case rel => first | exact ⟨k + 1, by omega, by go_num, hK3⟩ | ((repeat apply Exists.intro); exact ⟨⟨k + 1, by omega, by go_num, hK3⟩, rfl⟩)
        case measure => simp [intOf]; omega
      | false =>
        rw [hph] at c3 c3'
        obtain ⟨C, hC⟩ : ∃ C, com s'.data.toList c it = C := ⟨_, rfl⟩
        have hmC := hmm.out hph
        rw [hC] at hmC
        have hC32 : C.length = 32 := by rw [← hC]; exact com_length _ _ _
        obtain ⟨j, hfj, hjq, hjC⟩ := findD_of_mem hmC
        rw [hq.out] at hjq
        obtain ⟨S, hS⟩ : ∃ S, saltD s'.data.toList [c, it.s, it.b, it.p] = S := ⟨_, rfl⟩
        have hS32 : S.length = 32 := by rw [← hS]; exact salt_length _ _
        have hCe : commitD S [c, it.s, it.b, it.p] it.pr = C := by rw [← hS, ← hC]; rfl
        obtain ⟨Ls, hLs⟩ : ∃ L, S.map B = L := ⟨_, rfl⟩
        obtain ⟨Lc, hLc⟩ : ∃ L, C.map B = L := ⟨_, rfl⟩
        have HS : Hd (∀ w, Tab w → Calls Tryd.prog 15 #[.string s', .int .i64 c, .agg #[.int .i64 it.s, .int .i64 it.b, .int .i64 it.p]] w fun e w' => e = .returned (.agg Ls.toArray) ∧ Kept no w w') := ⟨fun w h => by rw [← hLs, ← hS]; exact salt_any s' c it.s it.b it.p w (by omega) h⟩
        have HO : Hd (∀ w, RdZ w (.slice av lv cv) it.pr → Tab w → Calls Tryd.prog 17 #[.agg Ls.toArray, .int .i64 c, .agg #[.int .i64 it.s, .int .i64 it.b, .int .i64 it.p], .slice av lv cv] w fun e w' => e = .returned (.agg Lc.toArray) ∧ Kept no w w') := ⟨fun w h1 h => by
          have := commit_any (.slice av lv cv) S it.pr c it.s it.b it.p w hS32 hpl.out h1 h
          rw [hCe] at this
          rw [← hLs, ← hLc]; exact this⟩
        have HV : Hd (∀ w, RdD w (.slice aa q ca) D → RdZ w (.slice av lv cv) it.pr → Tab w → Calls Tryd.prog 16 #[.slice aa q ca, .agg Ls.toArray, .int .i64 c, .agg #[.int .i64 it.s, .int .i64 it.b, .int .i64 it.p], .slice av lv cv] w fun e w' => e = .returned (.int .i64 (j : Int)) ∧ Kept no w w') := ⟨fun w h0 h1 h => by
          have := verify_any (.slice aa q ca) (.slice av lv cv) D S c it.s it.b it.p it.pr w hS32 hpl.out (by rw [hq.out]; have := hDm.out; omega) h0 h1 h
          rw [hCe, hfj] at this
          rw [← hLs]; exact this⟩
        have HF : Hd (∀ w, RdD w (.slice aa q ca) D → Calls Tryd.prog 18 #[.slice aa q ca, .agg Lc.toArray] w fun e w' => e = .returned (.int .i64 (j : Int)) ∧ Kept no w w') := ⟨fun w h0 => by
          have := find_any (.slice aa q ca) D C w hC32 (by rw [hq.out]; have := hDm.out; omega) h0
          rw [hfj] at this
          rw [← hLc]; exact this⟩
        have hne : Hd (∀ w, (binOp .neq 43 (.agg Lc.toArray) (.agg Lc.toArray)).run Tryd.prog w = .ok (.bool false) w) := ⟨fun w => by rw [← hLc, neq_digest C C hC32 hC32 w]; simp⟩
        have infLs : Hd ((Tryd.prog.info? 43).map (·.size) = some Ls.length) := ⟨by rw [← hLs, List.length_map, hS32]; kernel_rfl⟩
        have infLc : Hd ((Tryd.prog.info? 43).map (·.size) = some Lc.length) := ⟨by rw [← hLc, List.length_map, hC32]; kernel_rfl⟩
        have infS' : Hd ((Tryd.prog.info? 43).map (·.size) = some Ls.toArray.size) := ⟨infLs.out⟩
        have oldS : Hd (Z32.size = Ls.toArray.size) := ⟨by rw [show Ls.toArray.size = Ls.length from rfl, ← hLs, List.length_map, hS32]; rfl⟩
        have oneS : Hd (Ls.toArray.all (·.oneCell') = true) := ⟨by rw [← hLs]; exact all_oneCell_toArray (B_one _)⟩
        obtain ⟨b2, o2, rfl, hrg⟩ := RdD.at (oa.out.kept hK.out) j (by rw [hq.out]; exact hjq)
        rw [hjC, hLc] at hrg
        replace hrg := hid hrg
        have oaK := hid (oa.out.kept hK3.out)
        have c4 := hid (hk3.cell c4 id)
        have hzK := hid (hz.out.kept hk3)
        replace hrg := hid (hk3.rng hrg.out)
        clear hmm hC hmC hfj hjC hS hS32 hCe hLs hLc hph hpl hz hC32
        go_upto_region 11 with fail
        clear hk3 c0 c1 c2 c3 hK
        generalize wr.alloc (.cells #[.int .i64 it.s, .int .i64 it.b, .int .i64 it.p] 31) = w3 at hS3 hK3 c3' oaK c4 hzK hrg ⊢
        generalize wr.heap.size = gp at hS3 ⊢
        obtain ⟨c0, c1, c2⟩ := hS3.out
        clear c3'
        go_wp2_with fail
        refine (HS.out w3 (hT.out.kept (k2.out.trans' hK3.out))).mono ?_
        rintro e w4 ⟨rfl, k4⟩
        replace hS3 := hid (hS3.out.kept k4)
        have hK4 := hid (hK3.out.trans' k4)
        replace oaK := hid (oaK.out.kept k4)
        replace c4 := hid (k4.cell c4.out id)
        replace hzK := hid (hzK.out.kept k4)
        replace hrg := hid (k4.rng hrg.out)
        have hNa := hid (heap_alloc_new w4 (.cells Z32 43))
        obtain ⟨w5, gs, hg, hw5, r5, K45⟩ : ∃ w5 gs, gs = w4.heap.size ∧ w5 = (w4.alloc (.cells Z32 43)).setRow w4.heap.size Ls.toArray ∧ w5.heap[gs]? = some (.cells Ls.toArray 43 (0, 0)) ∧ Kept no w4 w5 :=
          ⟨_, _, rfl, rfl, setRow_heap _ _ _ _ _ _ hNa.out, ((Kept.refl no w4).alloc _).setRow (.inr (Nat.le_refl _)) _⟩
        unfold Z32 at hNa oldS hw5
        replace hw5 := hid hw5
        replace r5 := hid (range_row r5)
        clear hK3 k4 c0 c1 c2
        go_upto_region 12 with (with_reducible refine wpList_store_row rfl 43 _ _ rfl w4.heap.size Ls.toArray rfl rfl 43 _ hNa.out infS'.out oldS.out oneS.out ?_; rw [← hw5.out, ← hg])
        replace hS3 := hid (hS3.out.kept K45)
        have hK5 := hid (hK4.out.trans' K45)
        replace oaK := hid (oaK.out.kept K45)
        replace c4 := hid (K45.cell c4.out id)
        replace hzK := hid (hzK.out.kept K45)
        replace hrg := hid (K45.rng hrg.out)
        have hTK := hid (hT.out.kept (k2.out.trans' hK5.out))
        clear hNa hw5 hg oldS hK4 K45 HS oneS infS'
        refine region_flow (S := no) (Sl := (fun _ => no)) [Is (.slice (some ⟨b2, o2, none⟩) q ca), Is (.agg Ls.toArray), Is (.int .i64 c), Is (.agg #[.int .i64 it.s, .int .i64 it.b, .int .i64 it.p]), Is (.slice (some ⟨b, o, none⟩) N ci), Is (.int .i64 (k : Int)), Is (.pointer (some ⟨b, o + k * 5, none⟩)), Is (.pointer (some ⟨b, o + k * 5 + 4, none⟩)), Is (.slice av lv cv), Is (.int .i64 (j : Int)), Is (.int .i64 (j : Int))] [] (fun _ _ h => h) _ (by kernel_rfl) (by kernel_rfl) (by kernel_rfl) (by kernel_rfl) (fun x => by simp only [puts, Act.put, List.map_cons, List.map_nil, Nat.zero_add, Nat.reduceAdd, List.setIfInBounds_toArray, List.set_cons_zero, List.set_cons_succ]; exact rfl) ?_ ?_
        · skip
          refine Steps.cons (fun x wf Kk hq hdep hold => ?_) ?_
          · try dsimp only
            clear hq hdep hold
            rw [if_pos (by rfl)]
            refine OpY.val (v := (.slice (some ⟨b2, o2, none⟩) q ca)) ?_ ⟨Kept.refl _ _, rfl⟩
            first | rfl | go_simp
          refine Steps.cons (fun x wf Kk hq hdep hold => ?_) ?_
          · try dsimp only
            clear hq hdep hold
            rw [if_pos (by rfl)]
            exact OpY.row 43 _ rfl gs 0 rfl Ls _ (Kk.undrew.rng r5.out) hun rfl infLs.out ⟨Kept.refl _ _, rfl⟩
          refine Steps.cons (fun x wf Kk hq hdep hold => ?_) ?_
          · try dsimp only
            clear hq hdep hold
            rw [if_pos (by rfl)]
            refine OpY.val (v := (.int .i64 c)) ?_ ⟨Kept.refl _ _, rfl⟩
            first | rfl | go_simp
          refine Steps.cons (fun x wf Kk hq hdep hold => ?_) ?_
          · try dsimp only
            clear hq hdep hold
            obtain ⟨c0, c1, c2⟩ := hS3.out.kept Kk.undrew
            rw [if_pos (by rfl)]
            refine OpY.val (v := (.agg #[.int .i64 it.s, .int .i64 it.b, .int .i64 it.p])) ?_ ⟨Kept.refl _ _, rfl⟩
            first | rfl | go_simp
          refine Steps.cons (fun x wf Kk hq hdep hold => ?_) ?_
          · try dsimp only
            clear hq hdep hold
            rw [if_pos (by rfl)]
            refine OpY.val (v := (.slice (some ⟨b, o, none⟩) N ci)) ?_ ⟨Kept.refl _ _, rfl⟩
            first | rfl | go_simp
          refine Steps.cons (fun x wf Kk hq hdep hold => ?_) ?_
          · try dsimp only
            clear hq hdep hold
            rw [if_pos (by rfl)]
            refine OpY.val (v := (.int .i64 (k : Int))) ?_ ⟨Kept.refl _ _, rfl⟩
            first | rfl | go_simp
          refine Steps.cons (fun x wf Kk hq hdep hold => ?_) ?_
          · try dsimp only
            have h4 : x 4 = (.slice (some ⟨b, o, none⟩) N ci) := hdep 4 (by kernel_rfl)
            have h5 : x 5 = (.int .i64 (k : Int)) := hdep 5 (by kernel_rfl)
            clear hq hdep hold
            simp only [h4, h5]
            clear h4 h5
            rw [if_pos (by rfl)]
            refine OpY.val (v := (.pointer (some ⟨b, o + k * 5, none⟩))) ?_ ⟨Kept.refl _ _, rfl⟩
            first | rfl | go_simp
          refine Steps.cons (fun x wf Kk hq hdep hold => ?_) ?_
          · try dsimp only
            have h6 : x 6 = (.pointer (some ⟨b, o + k * 5, none⟩)) := hdep 6 (by kernel_rfl)
            clear hq hdep hold
            simp only [h6]
            clear h6
            rw [if_pos (by rfl)]
            refine OpY.val (v := (.pointer (some ⟨b, o + k * 5 + 4, none⟩))) ?_ ⟨Kept.refl _ _, rfl⟩
            first | rfl | go_simp
          refine Steps.cons (fun x wf Kk hq hdep hold => ?_) ?_
          · try dsimp only
            have h7 : x 7 = (.pointer (some ⟨b, o + k * 5 + 4, none⟩)) := hdep 7 (by kernel_rfl)
            clear hq hdep hold
            simp only [h7]
            clear h7
            have c4 := Kk.undrew.cell c4.out id
            rw [if_pos (by rfl)]
            refine OpY.val (v := (.slice av lv cv)) ?_ ⟨Kept.refl _ _, rfl⟩
            first | rfl | go_simp
          refine Steps.cons (fun x wf Kk hq hdep hold => ?_) ?_
          · try dsimp only
            have h0 : x 0 = (.slice (some ⟨b2, o2, none⟩) q ca) := hdep 0 (by kernel_rfl)
            have h1 : x 1 = (.agg Ls.toArray) := hdep 1 (by kernel_rfl)
            have h2 : x 2 = (.int .i64 c) := hdep 2 (by kernel_rfl)
            have h3 : x 3 = (.agg #[.int .i64 it.s, .int .i64 it.b, .int .i64 it.p]) := hdep 3 (by kernel_rfl)
            have h8 : x 8 = (.slice av lv cv) := hdep 8 (by kernel_rfl)
            clear hq hdep hold
            simp only [h0, h1, h2, h3, h8]
            clear h0 h1 h2 h3 h8
            rw [if_pos (by rfl)]
            refine OpY.call (f := 16) (args := #[(.slice (some ⟨b2, o2, none⟩) q ca), (.agg Ls.toArray), (.int .i64 c), (.agg #[.int .i64 it.s, .int .i64 it.b, .int .i64 it.p]), (.slice av lv cv)]) (by go_simp) ?_
            refine (HV.out _ (oaK.out.kept Kk.undrew) (hzK.out.kept Kk.undrew) (hTK.out.kept Kk.undrew)).mono ?_
            rintro e w2 ⟨rfl, k2⟩
            exact ⟨_, rfl, k2, rfl⟩
          refine Steps.cons (fun x wf Kk hq hdep hold => ?_) ?_
          · try dsimp only
            have h9 : x 9 = (.int .i64 (j : Int)) := hdep 9 (by kernel_rfl)
            clear hq hdep hold
            simp only [h9]
            clear h9
            rw [if_pos (by rfl)]
            refine OpY.val (v := (.int .i64 (j : Int))) ?_ ⟨Kept.refl _ _, rfl⟩
            first | rfl | go_simp
          exact Steps.nil _
        · intro x wf Kk hv
          try dsimp only
          have h0 : x 0 = (.slice (some ⟨b2, o2, none⟩) q ca) := hv 0 (by kernel_rfl)
          have h1 : x 1 = (.agg Ls.toArray) := hv 1 (by kernel_rfl)
          have h2 : x 2 = (.int .i64 c) := hv 2 (by kernel_rfl)
          have h3 : x 3 = (.agg #[.int .i64 it.s, .int .i64 it.b, .int .i64 it.p]) := hv 3 (by kernel_rfl)
          have h4 : x 4 = (.slice (some ⟨b, o, none⟩) N ci) := hv 4 (by kernel_rfl)
          have h5 : x 5 = (.int .i64 (k : Int)) := hv 5 (by kernel_rfl)
          have h6 : x 6 = (.pointer (some ⟨b, o + k * 5, none⟩)) := hv 6 (by kernel_rfl)
          have h7 : x 7 = (.pointer (some ⟨b, o + k * 5 + 4, none⟩)) := hv 7 (by kernel_rfl)
          have h8 : x 8 = (.slice av lv cv) := hv 8 (by kernel_rfl)
          have h9 : x 9 = (.int .i64 (j : Int)) := hv 9 (by kernel_rfl)
          have h10 : x 10 = (.int .i64 (j : Int)) := hv 10 (by kernel_rfl)
          clear hv
          simp only [h0, h1, h2, h3, h4, h5, h6, h7, h8, h9, h10]
          clear h0 h1 h2 h3 h4 h5 h6 h7 h8 h9 h10
          replace hS3 := hid (hS3.out.kept Kk.undrew)
          replace oaK := hid (oaK.out.kept Kk.undrew)
          replace c4 := hid (Kk.undrew.cell c4.out id)
          replace hzK := hid (hzK.out.kept Kk.undrew)
          replace hrg := hid (Kk.undrew.rng hrg.out)
          replace r5 := hid (Kk.undrew.rng r5.out)
          replace hTK := hid (hTK.out.kept Kk.undrew)
          have hK6 := hid (hK5.out.trans' Kk.undrew)
          obtain ⟨w6, rfl⟩ : ∃ w6 : World, w6 = wf := ⟨_, rfl⟩
          have hj0 : (0 : Int) ≤ (j : Int) := by omega
          have hjn : ¬ (j : Int) < 0 := by omega
          have hj1 : (j : Int) < (q : Int) := by omega
          have hjg : ¬ (q : Int) ≤ (j : Int) := by omega
          have hne1 := hne.out
          clear Kk hK5 HV
          go_upto_region 13 with fail
          refine region_flow (S := no) (Sl := (fun _ => no)) [Is (.int .i64 (j : Int)), Is (.bool false), Is (.bool false), Is (.int .i64 (j : Int)), Is (.slice (some ⟨b2, o2, none⟩) q ca), Is (.int .i64 (q : Int)), Is (.bool false), Is (.bool false), Is (.bool false), Is (.slice (some ⟨b2, o2, none⟩) q ca), Is (.int .i64 (j : Int)), Is (.pointer (some ⟨b2, o2 + j * 32, none⟩)), Is (.agg Lc.toArray), Is (.agg Ls.toArray), Is (.int .i64 c), Is (.agg #[.int .i64 it.s, .int .i64 it.b, .int .i64 it.p]), Is (.slice (some ⟨b, o, none⟩) N ci), Is (.int .i64 (k : Int)), Is (.pointer (some ⟨b, o + k * 5, none⟩)), Is (.pointer (some ⟨b, o + k * 5 + 4, none⟩)), Is (.slice av lv cv), Is (.agg Lc.toArray), Is (.bool false), Is (.bool false), Is (.bool false), Is (.int .i64 (j : Int)), Is (.slice (some ⟨b2, o2, none⟩) q ca), Is (.slice (some ⟨b2, o2, none⟩) q ca), Is (.int .i64 (j : Int)), Is (.pointer (some ⟨b2, o2 + j * 32, none⟩)), Is (.agg Lc.toArray), Is (.int .i64 (j : Int)), Is (.bool false), Is (.bool false)] [] (fun _ _ h => h) _ (by kernel_rfl) (by kernel_rfl) (by kernel_rfl) (by kernel_rfl) (fun x => by simp only [puts, Act.put, List.map_cons, List.map_nil, Nat.zero_add, Nat.reduceAdd, List.setIfInBounds_toArray, List.set_cons_zero, List.set_cons_succ]; exact rfl) ?_ ?_
          · skip
            refine Steps.cons (fun x wf Kk hq hdep hold => ?_) ?_
            · try dsimp only
              clear hq hdep hold
              rw [if_pos (by rfl)]
              refine OpY.val (v := (.int .i64 (j : Int))) ?_ ⟨Kept.refl _ _, rfl⟩
              first | rfl | go_simp
            refine Steps.cons (fun x wf Kk hq hdep hold => ?_) ?_
            · try dsimp only
              have h0 : x 0 = (.int .i64 (j : Int)) := hdep 0 (by kernel_rfl)
              clear hq hdep hold
              simp only [h0]
              clear h0
              rw [if_pos (by rfl)]
              refine OpY.val (v := (.bool false)) ?_ ⟨Kept.refl _ _, rfl⟩
              first | rfl | go_simp
            refine Steps.cons (fun x wf Kk hq hdep hold => ?_) ?_
            · try dsimp only
              have h1 : x 1 = (.bool false) := hdep 1 (by kernel_rfl)
              clear hq hdep hold
              simp only [h1]
              clear h1
              rw [if_pos (by rfl)]
              refine OpY.val (v := (.bool false)) ?_ ⟨Kept.refl _ _, rfl⟩
              first | rfl | go_simp
            refine Steps.cons (fun x wf Kk hq hdep hold => ?_) ?_
            · try dsimp only
              have h2 : x 2 = (.bool false) := hdep 2 (by kernel_rfl)
              clear hq hdep hold
              simp only [h2]
              clear h2
              rw [if_pos (by rfl)]
              refine OpY.val (v := (.int .i64 (j : Int))) ?_ ⟨Kept.refl _ _, rfl⟩
              first | rfl | go_simp
            refine Steps.cons (fun x wf Kk hq hdep hold => ?_) ?_
            · try dsimp only
              have h2 : x 2 = (.bool false) := hdep 2 (by kernel_rfl)
              clear hq hdep hold
              simp only [h2]
              clear h2
              rw [if_pos (by rfl)]
              refine OpY.val (v := (.slice (some ⟨b2, o2, none⟩) q ca)) ?_ ⟨Kept.refl _ _, rfl⟩
              first | rfl | go_simp
            refine Steps.cons (fun x wf Kk hq hdep hold => ?_) ?_
            · try dsimp only
              have h4 : x 4 = (.slice (some ⟨b2, o2, none⟩) q ca) := hdep 4 (by kernel_rfl)
              have h2 : x 2 = (.bool false) := hdep 2 (by kernel_rfl)
              clear hq hdep hold
              simp only [h4, h2]
              clear h4 h2
              rw [if_pos (by rfl)]
              refine OpY.val (v := (.int .i64 (q : Int))) ?_ ⟨Kept.refl _ _, rfl⟩
              first | rfl | go_simp
            refine Steps.cons (fun x wf Kk hq hdep hold => ?_) ?_
            · try dsimp only
              have h3 : x 3 = (.int .i64 (j : Int)) := hdep 3 (by kernel_rfl)
              have h5 : x 5 = (.int .i64 (q : Int)) := hdep 5 (by kernel_rfl)
              have h2 : x 2 = (.bool false) := hdep 2 (by kernel_rfl)
              clear hq hdep hold
              simp only [h3, h5, h2]
              clear h3 h5 h2
              rw [if_pos (by rfl)]
              refine OpY.val (v := (.bool false)) ?_ ⟨Kept.refl _ _, rfl⟩
              first | rfl | go_simp
            refine Steps.cons (fun x wf Kk hq hdep hold => ?_) ?_
            · try dsimp only
              have h2 : x 2 = (.bool false) := hdep 2 (by kernel_rfl)
              have h6 : x 6 = (.bool false) := hdep 6 (by kernel_rfl)
              clear hq hdep hold
              simp only [h2, h6]
              clear h2 h6
              rw [if_pos (by rfl)]
              refine OpY.val (v := (.bool false)) ?_ ⟨Kept.refl _ _, rfl⟩
              first | rfl | go_simp
            refine Steps.cons (fun x wf Kk hq hdep hold => ?_) ?_
            · try dsimp only
              have h7 : x 7 = (.bool false) := hdep 7 (by kernel_rfl)
              clear hq hdep hold
              simp only [h7]
              clear h7
              rw [if_pos (by rfl)]
              refine OpY.val (v := (.bool false)) ?_ ⟨Kept.refl _ _, rfl⟩
              first | rfl | go_simp
            refine Steps.cons (fun x wf Kk hq hdep hold => ?_) ?_
            · try dsimp only
              have h8 : x 8 = (.bool false) := hdep 8 (by kernel_rfl)
              clear hq hdep hold
              simp only [h8]
              clear h8
              rw [if_pos (by rfl)]
              refine OpY.val (v := (.slice (some ⟨b2, o2, none⟩) q ca)) ?_ ⟨Kept.refl _ _, rfl⟩
              first | rfl | go_simp
            refine Steps.cons (fun x wf Kk hq hdep hold => ?_) ?_
            · try dsimp only
              have h8 : x 8 = (.bool false) := hdep 8 (by kernel_rfl)
              clear hq hdep hold
              simp only [h8]
              clear h8
              rw [if_pos (by rfl)]
              refine OpY.val (v := (.int .i64 (j : Int))) ?_ ⟨Kept.refl _ _, rfl⟩
              first | rfl | go_simp
            refine Steps.cons (fun x wf Kk hq hdep hold => ?_) ?_
            · try dsimp only
              have h9 : x 9 = (.slice (some ⟨b2, o2, none⟩) q ca) := hdep 9 (by kernel_rfl)
              have h10 : x 10 = (.int .i64 (j : Int)) := hdep 10 (by kernel_rfl)
              have h8 : x 8 = (.bool false) := hdep 8 (by kernel_rfl)
              clear hq hdep hold
              simp only [h9, h10, h8]
              clear h9 h10 h8
              rw [if_pos (by rfl)]
              refine OpY.val (v := (.pointer (some ⟨b2, o2 + j * 32, none⟩))) ?_ ⟨Kept.refl _ _, rfl⟩
              first | rfl | go_simp
            refine Steps.cons (fun x wf Kk hq hdep hold => ?_) ?_
            · try dsimp only
              have h11 : x 11 = (.pointer (some ⟨b2, o2 + j * 32, none⟩)) := hdep 11 (by kernel_rfl)
              have h8 : x 8 = (.bool false) := hdep 8 (by kernel_rfl)
              clear hq hdep hold
              simp only [h11, h8]
              clear h11 h8
              rw [if_pos (by rfl)]
              exact OpY.row 43 _ rfl b2 (o2 + j * 32) rfl Lc _ (Kk.undrew.rng hrg.out) hun rfl infLc.out ⟨Kept.refl _ _, rfl⟩
            refine Steps.cons (fun x wf Kk hq hdep hold => ?_) ?_
            · try dsimp only
              have h8 : x 8 = (.bool false) := hdep 8 (by kernel_rfl)
              clear hq hdep hold
              simp only [h8]
              clear h8
              rw [if_pos (by rfl)]
              exact OpY.row 43 _ rfl gs 0 rfl Ls _ (Kk.undrew.rng r5.out) hun rfl infLs.out ⟨Kept.refl _ _, rfl⟩
            refine Steps.cons (fun x wf Kk hq hdep hold => ?_) ?_
            · try dsimp only
              have h8 : x 8 = (.bool false) := hdep 8 (by kernel_rfl)
              clear hq hdep hold
              simp only [h8]
              clear h8
              rw [if_pos (by rfl)]
              refine OpY.val (v := (.int .i64 c)) ?_ ⟨Kept.refl _ _, rfl⟩
              first | rfl | go_simp
            refine Steps.cons (fun x wf Kk hq hdep hold => ?_) ?_
            · try dsimp only
              have h8 : x 8 = (.bool false) := hdep 8 (by kernel_rfl)
              clear hq hdep hold
              simp only [h8]
              clear h8
              obtain ⟨c0, c1, c2⟩ := hS3.out.kept Kk.undrew
              rw [if_pos (by rfl)]
              refine OpY.val (v := (.agg #[.int .i64 it.s, .int .i64 it.b, .int .i64 it.p])) ?_ ⟨Kept.refl _ _, rfl⟩
              first | rfl | go_simp
            refine Steps.cons (fun x wf Kk hq hdep hold => ?_) ?_
            · try dsimp only
              have h8 : x 8 = (.bool false) := hdep 8 (by kernel_rfl)
              clear hq hdep hold
              simp only [h8]
              clear h8
              rw [if_pos (by rfl)]
              refine OpY.val (v := (.slice (some ⟨b, o, none⟩) N ci)) ?_ ⟨Kept.refl _ _, rfl⟩
              first | rfl | go_simp
            refine Steps.cons (fun x wf Kk hq hdep hold => ?_) ?_
            · try dsimp only
              have h8 : x 8 = (.bool false) := hdep 8 (by kernel_rfl)
              clear hq hdep hold
              simp only [h8]
              clear h8
              rw [if_pos (by rfl)]
              refine OpY.val (v := (.int .i64 (k : Int))) ?_ ⟨Kept.refl _ _, rfl⟩
              first | rfl | go_simp
            refine Steps.cons (fun x wf Kk hq hdep hold => ?_) ?_
            · try dsimp only
              have h16 : x 16 = (.slice (some ⟨b, o, none⟩) N ci) := hdep 16 (by kernel_rfl)
              have h17 : x 17 = (.int .i64 (k : Int)) := hdep 17 (by kernel_rfl)
              have h8 : x 8 = (.bool false) := hdep 8 (by kernel_rfl)
              clear hq hdep hold
              simp only [h16, h17, h8]
              clear h16 h17 h8
              rw [if_pos (by rfl)]
              refine OpY.val (v := (.pointer (some ⟨b, o + k * 5, none⟩))) ?_ ⟨Kept.refl _ _, rfl⟩
              first | rfl | go_simp
            refine Steps.cons (fun x wf Kk hq hdep hold => ?_) ?_
            · try dsimp only
              have h18 : x 18 = (.pointer (some ⟨b, o + k * 5, none⟩)) := hdep 18 (by kernel_rfl)
              have h8 : x 8 = (.bool false) := hdep 8 (by kernel_rfl)
              clear hq hdep hold
              simp only [h18, h8]
              clear h18 h8
              rw [if_pos (by rfl)]
              refine OpY.val (v := (.pointer (some ⟨b, o + k * 5 + 4, none⟩))) ?_ ⟨Kept.refl _ _, rfl⟩
              first | rfl | go_simp
            refine Steps.cons (fun x wf Kk hq hdep hold => ?_) ?_
            · try dsimp only
              have h19 : x 19 = (.pointer (some ⟨b, o + k * 5 + 4, none⟩)) := hdep 19 (by kernel_rfl)
              have h8 : x 8 = (.bool false) := hdep 8 (by kernel_rfl)
              clear hq hdep hold
              simp only [h19, h8]
              clear h19 h8
              have c4 := Kk.undrew.cell c4.out id
              rw [if_pos (by rfl)]
              refine OpY.val (v := (.slice av lv cv)) ?_ ⟨Kept.refl _ _, rfl⟩
              first | rfl | go_simp
            refine Steps.cons (fun x wf Kk hq hdep hold => ?_) ?_
            · try dsimp only
              have h13 : x 13 = (.agg Ls.toArray) := hdep 13 (by kernel_rfl)
              have h14 : x 14 = (.int .i64 c) := hdep 14 (by kernel_rfl)
              have h15 : x 15 = (.agg #[.int .i64 it.s, .int .i64 it.b, .int .i64 it.p]) := hdep 15 (by kernel_rfl)
              have h20 : x 20 = (.slice av lv cv) := hdep 20 (by kernel_rfl)
              have h8 : x 8 = (.bool false) := hdep 8 (by kernel_rfl)
              clear hq hdep hold
              simp only [h13, h14, h15, h20, h8]
              clear h13 h14 h15 h20 h8
              rw [if_pos (by rfl)]
              refine OpY.call (f := 17) (args := #[(.agg Ls.toArray), (.int .i64 c), (.agg #[.int .i64 it.s, .int .i64 it.b, .int .i64 it.p]), (.slice av lv cv)]) (by go_simp) ?_
              refine (HO.out _ (hzK.out.kept Kk.undrew) (hTK.out.kept Kk.undrew)).mono ?_
              rintro e w2 ⟨rfl, k2⟩
              exact ⟨_, rfl, k2, rfl⟩
            refine Steps.cons (fun x wf Kk hq hdep hold => ?_) ?_
            · try dsimp only
              have h12 : x 12 = (.agg Lc.toArray) := hdep 12 (by kernel_rfl)
              have h21 : x 21 = (.agg Lc.toArray) := hdep 21 (by kernel_rfl)
              have h8 : x 8 = (.bool false) := hdep 8 (by kernel_rfl)
              clear hq hdep hold
              simp only [h12, h21, h8]
              clear h12 h21 h8
              rw [if_pos (by rfl)]
              refine OpY.val (v := (.bool false)) ?_ ⟨Kept.refl _ _, rfl⟩
              first | rfl | go_simp
            refine Steps.cons (fun x wf Kk hq hdep hold => ?_) ?_
            · try dsimp only
              have h8 : x 8 = (.bool false) := hdep 8 (by kernel_rfl)
              have h22 : x 22 = (.bool false) := hdep 22 (by kernel_rfl)
              clear hq hdep hold
              simp only [h8, h22]
              clear h8 h22
              rw [if_pos (by rfl)]
              refine OpY.val (v := (.bool false)) ?_ ⟨Kept.refl _ _, rfl⟩
              first | rfl | go_simp
            refine Steps.cons (fun x wf Kk hq hdep hold => ?_) ?_
            · try dsimp only
              have h23 : x 23 = (.bool false) := hdep 23 (by kernel_rfl)
              clear hq hdep hold
              simp only [h23]
              clear h23
              rw [if_pos (by rfl)]
              refine OpY.val (v := (.bool false)) ?_ ⟨Kept.refl _ _, rfl⟩
              first | rfl | go_simp
            refine Steps.cons (fun x wf Kk hq hdep hold => ?_) ?_
            · try dsimp only
              have h24 : x 24 = (.bool false) := hdep 24 (by kernel_rfl)
              clear hq hdep hold
              simp only [h24]
              clear h24
              rw [if_pos (by rfl)]
              refine OpY.val (v := (.int .i64 (j : Int))) ?_ ⟨Kept.refl _ _, rfl⟩
              first | rfl | go_simp
            refine Steps.cons (fun x wf Kk hq hdep hold => ?_) ?_
            · try dsimp only
              have h24 : x 24 = (.bool false) := hdep 24 (by kernel_rfl)
              clear hq hdep hold
              simp only [h24]
              clear h24
              rw [if_pos (by rfl)]
              refine OpY.val (v := (.slice (some ⟨b2, o2, none⟩) q ca)) ?_ ⟨Kept.refl _ _, rfl⟩
              first | rfl | go_simp
            refine Steps.cons (fun x wf Kk hq hdep hold => ?_) ?_
            · try dsimp only
              have h24 : x 24 = (.bool false) := hdep 24 (by kernel_rfl)
              clear hq hdep hold
              simp only [h24]
              clear h24
              rw [if_pos (by rfl)]
              refine OpY.val (v := (.slice (some ⟨b2, o2, none⟩) q ca)) ?_ ⟨Kept.refl _ _, rfl⟩
              first | rfl | go_simp
            refine Steps.cons (fun x wf Kk hq hdep hold => ?_) ?_
            · try dsimp only
              have h24 : x 24 = (.bool false) := hdep 24 (by kernel_rfl)
              clear hq hdep hold
              simp only [h24]
              clear h24
              rw [if_pos (by rfl)]
              refine OpY.val (v := (.int .i64 (j : Int))) ?_ ⟨Kept.refl _ _, rfl⟩
              first | rfl | go_simp
            refine Steps.cons (fun x wf Kk hq hdep hold => ?_) ?_
            · try dsimp only
              have h27 : x 27 = (.slice (some ⟨b2, o2, none⟩) q ca) := hdep 27 (by kernel_rfl)
              have h28 : x 28 = (.int .i64 (j : Int)) := hdep 28 (by kernel_rfl)
              have h24 : x 24 = (.bool false) := hdep 24 (by kernel_rfl)
              clear hq hdep hold
              simp only [h27, h28, h24]
              clear h27 h28 h24
              rw [if_pos (by rfl)]
              refine OpY.val (v := (.pointer (some ⟨b2, o2 + j * 32, none⟩))) ?_ ⟨Kept.refl _ _, rfl⟩
              first | rfl | go_simp
            refine Steps.cons (fun x wf Kk hq hdep hold => ?_) ?_
            · try dsimp only
              have h29 : x 29 = (.pointer (some ⟨b2, o2 + j * 32, none⟩)) := hdep 29 (by kernel_rfl)
              have h24 : x 24 = (.bool false) := hdep 24 (by kernel_rfl)
              clear hq hdep hold
              simp only [h29, h24]
              clear h29 h24
              rw [if_pos (by rfl)]
              exact OpY.row 43 _ rfl b2 (o2 + j * 32) rfl Lc _ (Kk.undrew.rng hrg.out) hun rfl infLc.out ⟨Kept.refl _ _, rfl⟩
            refine Steps.cons (fun x wf Kk hq hdep hold => ?_) ?_
            · try dsimp only
              have h26 : x 26 = (.slice (some ⟨b2, o2, none⟩) q ca) := hdep 26 (by kernel_rfl)
              have h30 : x 30 = (.agg Lc.toArray) := hdep 30 (by kernel_rfl)
              have h24 : x 24 = (.bool false) := hdep 24 (by kernel_rfl)
              clear hq hdep hold
              simp only [h26, h30, h24]
              clear h26 h30 h24
              rw [if_pos (by rfl)]
              refine OpY.call (f := 18) (args := #[(.slice (some ⟨b2, o2, none⟩) q ca), (.agg Lc.toArray)]) (by go_simp) ?_
              refine (HF.out _ (oaK.out.kept Kk.undrew)).mono ?_
              rintro e w2 ⟨rfl, k2⟩
              exact ⟨_, rfl, k2, rfl⟩
            refine Steps.cons (fun x wf Kk hq hdep hold => ?_) ?_
            · try dsimp only
              have h25 : x 25 = (.int .i64 (j : Int)) := hdep 25 (by kernel_rfl)
              have h31 : x 31 = (.int .i64 (j : Int)) := hdep 31 (by kernel_rfl)
              have h24 : x 24 = (.bool false) := hdep 24 (by kernel_rfl)
              clear hq hdep hold
              simp only [h25, h31, h24]
              clear h25 h31 h24
              rw [if_pos (by rfl)]
              refine OpY.val (v := (.bool false)) ?_ ⟨Kept.refl _ _, rfl⟩
              first | rfl | go_simp
            refine Steps.cons (fun x wf Kk hq hdep hold => ?_) ?_
            · try dsimp only
              have h24 : x 24 = (.bool false) := hdep 24 (by kernel_rfl)
              have h32 : x 32 = (.bool false) := hdep 32 (by kernel_rfl)
              clear hq hdep hold
              simp only [h24, h32]
              clear h24 h32
              rw [if_pos (by rfl)]
              refine OpY.val (v := (.bool false)) ?_ ⟨Kept.refl _ _, rfl⟩
              first | rfl | go_simp
            exact Steps.nil _
          · intro x wf Kk hv
            try dsimp only
            have h0 : x 0 = (.int .i64 (j : Int)) := hv 0 (by kernel_rfl)
            have h1 : x 1 = (.bool false) := hv 1 (by kernel_rfl)
            have h2 : x 2 = (.bool false) := hv 2 (by kernel_rfl)
            have h3 : x 3 = (.int .i64 (j : Int)) := hv 3 (by kernel_rfl)
            have h4 : x 4 = (.slice (some ⟨b2, o2, none⟩) q ca) := hv 4 (by kernel_rfl)
            have h5 : x 5 = (.int .i64 (q : Int)) := hv 5 (by kernel_rfl)
            have h6 : x 6 = (.bool false) := hv 6 (by kernel_rfl)
            have h7 : x 7 = (.bool false) := hv 7 (by kernel_rfl)
            have h8 : x 8 = (.bool false) := hv 8 (by kernel_rfl)
            have h9 : x 9 = (.slice (some ⟨b2, o2, none⟩) q ca) := hv 9 (by kernel_rfl)
            have h10 : x 10 = (.int .i64 (j : Int)) := hv 10 (by kernel_rfl)
            have h11 : x 11 = (.pointer (some ⟨b2, o2 + j * 32, none⟩)) := hv 11 (by kernel_rfl)
            have h12 : x 12 = (.agg Lc.toArray) := hv 12 (by kernel_rfl)
            have h13 : x 13 = (.agg Ls.toArray) := hv 13 (by kernel_rfl)
            have h14 : x 14 = (.int .i64 c) := hv 14 (by kernel_rfl)
            have h15 : x 15 = (.agg #[.int .i64 it.s, .int .i64 it.b, .int .i64 it.p]) := hv 15 (by kernel_rfl)
            have h16 : x 16 = (.slice (some ⟨b, o, none⟩) N ci) := hv 16 (by kernel_rfl)
            have h17 : x 17 = (.int .i64 (k : Int)) := hv 17 (by kernel_rfl)
            have h18 : x 18 = (.pointer (some ⟨b, o + k * 5, none⟩)) := hv 18 (by kernel_rfl)
            have h19 : x 19 = (.pointer (some ⟨b, o + k * 5 + 4, none⟩)) := hv 19 (by kernel_rfl)
            have h20 : x 20 = (.slice av lv cv) := hv 20 (by kernel_rfl)
            have h21 : x 21 = (.agg Lc.toArray) := hv 21 (by kernel_rfl)
            have h22 : x 22 = (.bool false) := hv 22 (by kernel_rfl)
            have h23 : x 23 = (.bool false) := hv 23 (by kernel_rfl)
            have h24 : x 24 = (.bool false) := hv 24 (by kernel_rfl)
            have h25 : x 25 = (.int .i64 (j : Int)) := hv 25 (by kernel_rfl)
            have h26 : x 26 = (.slice (some ⟨b2, o2, none⟩) q ca) := hv 26 (by kernel_rfl)
            have h27 : x 27 = (.slice (some ⟨b2, o2, none⟩) q ca) := hv 27 (by kernel_rfl)
            have h28 : x 28 = (.int .i64 (j : Int)) := hv 28 (by kernel_rfl)
            have h29 : x 29 = (.pointer (some ⟨b2, o2 + j * 32, none⟩)) := hv 29 (by kernel_rfl)
            have h30 : x 30 = (.agg Lc.toArray) := hv 30 (by kernel_rfl)
            have h31 : x 31 = (.int .i64 (j : Int)) := hv 31 (by kernel_rfl)
            have h32 : x 32 = (.bool false) := hv 32 (by kernel_rfl)
            have h33 : x 33 = (.bool false) := hv 33 (by kernel_rfl)
            clear hv
            simp only [h0, h1, h2, h3, h4, h5, h6, h7, h8, h9, h10, h11, h12, h13, h14, h15, h16, h17, h18, h19, h20, h21, h22, h23, h24, h25, h26, h27, h28, h29, h30, h31, h32, h33]
            clear h0 h1 h2 h3 h4 h5 h6 h7 h8 h9 h10 h11 h12 h13 h14 h15 h16 h17 h18 h19 h20 h21 h22 h23 h24 h25 h26 h27 h28 h29 h30 h31 h32 h33
            have hK7 := hid (hK6.out.trans' Kk.undrew)
            clear Kk hK6 HO HF hne hne1 hS3 oaK c4 hzK hrg r5 hTK infLs infLc hj0 hjn hj1 hjg
            go_wp2
            go_roundw
            case rel => first | exact ⟨k + 1, by omega, by go_num, hK7⟩ | ((repeat apply Exists.intro); exact ⟨⟨k + 1, by omega, by go_num, hK7⟩, rfl⟩)
            case measure => simp [intOf]; omega
    · obtain rfl : k = N := by omega
      have K4 := hid (k2.out.trans' hK.out)
      clear k2 hK
      go_wp2_with fail
      refine (HA.out _ (hT.out.kept K4.out) (hR.out.kept K4.out)).mono ?_
      rintro e w4 ⟨rfl, k4⟩
      have K5 := hid (K4.out.trans' k4)
      clear K4 k4
      go_wp2
      go_ret
      exact ⟨rfl, K5.out⟩
end Go.Proofs.YtggcbjchnefhfaaDoor
