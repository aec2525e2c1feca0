/- electionlaw38.CommitList (printed by gen_clistl.py). -/
import Derived.Test.YtggcbjchnefhfaaDoorHead38
import Derived.Test.YtggcbjchnefhfaaDoorRList
namespace Go.Proofs.YtggcbjchnefhfaaDoor
open Go.RowKit Go.Mk Go.Sha Go.Cmt
theorem makeI (w : World) : ∃ cs, (Instr.makeSlice 25 (.int .i64 1025) (.int .i64 1025)).run Tryd.prog w = .ok (.slice (some ⟨w.heap.size, 0, none⟩) 1025 1025) (w.alloc (.cells cs 33)) := by
  obtain ⟨i, hi, hz, hs, hb⟩ := info_parts (P := Tryd.prog) (e := 33) (z := .agg #[.int .i64 0, .int .i64 0, .int .i64 0, .bool false, .slice none 0 0]) (size := 5) (bytes := 56) (by kernel_rfl)
  have := run_make (P := Tryd.prog) w 25 33 i _ Tryd.underlying25 hi hz .i64 .i64 1025 1025 (by omega) (by omega) (by rw [hb]; omega) (by omega)
  exact ⟨_, this⟩
set_option maxRecDepth 100000 in
set_option maxHeartbeats 4000000 in
theorem clistl_any (s : ByteArray) (c n : Int) (v3 v4 : Value) (bs : List (List Int × Value)) (fs : List Bool) (many : Int) (w : World) (hs : s.size ≤ 9223372036854775807) (hr : Pl.RdB w v3 bs) (hf : RdF w v4 fs) (hT : Tab w) (hR : TabR w) :
    Calls Tryd.prog 4 #[.string s, .int .i64 c, .int .i64 n, v3, v4, .int .i64 many] w fun e w' => e = .returned (.bool true) ∧ Kept no w w' := by
  have hsz := shortS_size s
  have HSH := hid (fun w => short_any s hs w)
  obtain ⟨s', hs'⟩ : ∃ s', shortS s = s' := ⟨_, rfl⟩
  rw [hs'] at hsz HSH
  clear hs'
  have HM := hid (fun w => mod7 n w)
  have hmI := Pl.modI_lt n 7 (by decide)
  obtain ⟨r, hr7⟩ : ∃ r : Int, Pl.modI n 7 = r := ⟨_, rfl⟩
  rw [hr7] at HM hmI
  clear hr7
  have HI := hid (fun w hr hf => items_any (1 + r) v3 v4 bs fs 10 w (by omega) (by omega) (by decide) hr hf)
  have hrw : IntKind.i64.wrap (1 + r) = 1 + r := IntWalk.i64_in _ (by omega)
  have HA := hid (fun w hT hR => awake38_any w hT hR)
  obtain ⟨a3, c3, rfl⟩ := Rd.shapeZ hr.2
  obtain ⟨a4, c4, rfl⟩ := Rd.shapeZ hf
  replace hr := hid hr
  replace hf := hid hf
  replace hT := hid hT
  replace hR := hid hR
  go_enter Tryd.func4, Tryd.ntmps4
  go_wp2_with fail
  refine (HSH.out _).mono ?_
  rintro e w' ⟨rfl, rfl⟩
  go_wp2_with fail
  refine (HM.out _).mono ?_
  rintro e w' ⟨rfl, rfl⟩
  go_wp2_with fail
  refine (HI.out _ hr.out hf.out).mono ?_
  rintro e w1 ⟨vi, its, rfl, hil, hip, hir, k1⟩
  replace k1 := hid k1
  clear HI HM HSH hrw hmI
  by_cases h7 : many = 7
  · subst h7
    obtain ⟨cs, hmk⟩ := makeI w1
    have HL := hid (fun w => clist_long s' c (some ⟨w1.heap.size, 0, none⟩) 1025 1025 w (by decide))
    clear hil hip hir
    go_wp2_with fail
    refine (HL.out _).mono ?_
    rintro e w2 ⟨rfl, rfl⟩
    have K2 := hid (k1.out.alloc (.cells cs 33))
    generalize w1.alloc (.cells cs 33) = w2 at K2 ⊢
    clear k1 hmk HL
    go_wp2_with fail
    refine (HA.out _ (hT.out.kept K2.out) (hR.out.kept K2.out)).mono ?_
    rintro e w3 ⟨rfl, k3⟩
    have K3 := hid (K2.out.trans' k3)
    clear K2 k3
    go_wp2
    go_ret
    exact ⟨rfl, K3.out⟩
  · have HL := hid (fun w hi hT => clist_any s' c vi its w (by omega) (by omega) hip hi hT)
    have HQ := hid (fun w hi hT => rlist_any s' c vi its w (by omega) (by omega) hip hi hT)
    replace hir := hid hir
    obtain ⟨D0, hD0⟩ : ∃ D0, coms s'.data.toList c (itms its) = D0 := ⟨_, rfl⟩
    have hDl : (sortD D0).length ≤ 10 := by rw [sortD_length, ← hD0]; have := coms_le s'.data.toList c (itms its); rw [itms_length] at this; omega
    rw [hD0] at HL HQ
    have hsa := hid (fun i h => sort_at (l := D0) i h)
    obtain ⟨D, hD⟩ : ∃ D, sortD D0 = D := ⟨_, rfl⟩
    rw [hD] at HL HQ hDl hsa
    clear hil hip hD0 hD
    go_wp2_with fail
    refine (HL.out w1 hir.out (hT.out.kept k1.out)).mono ?_
    rintro e w2 ⟨va, rfl, oa⟩
    have K2 := hid (k1.out.trans' oa.kept)
    have hir2 := hid (hir.out.kept oa.kept)
    replace oa := hid oa.rd
    obtain ⟨aa, ca, rfl, _, _⟩ := oa.out.shape
    clear HL k1 hir
    go_wp2_with fail
    refine (HQ.out w2 hir2.out (hR.out.kept K2.out)).mono ?_
    rintro e w3 ⟨vb, rfl, ob⟩
    have K3 := hid (K2.out.trans' ob.kept)
    replace oa := hid (oa.out.kept ob.kept)
    replace ob := hid ob.rd
    obtain ⟨ab, cb, rfl, _, _⟩ := ob.out.shape
    obtain ⟨q, hq⟩ : ∃ q, D.length = q := ⟨_, rfl⟩
    rw [hq] at oa ob hDl ⊢
    replace hq := hid hq
    have hun := Tryd.underlying43
    clear HQ hir2 K2
    go_wp2
    go_loopw [20] (fun i wr => ∃ k : Nat, 1 ≤ k ∧ k ≤ q + 1 ∧ i = .int .i64 (k : Int) ∧ Hd (Kept no w3 wr)) (fun i _ => q + 1 - (intOf i).toNat)
    case atStart => exact ⟨1, by omega, by omega, rfl, ⟨Kept.refl _ _⟩⟩
    case round =>
      obtain ⟨k, hk0, hk, rfl, hK⟩ := hrel
      by_cases hlt : k < q
      · have hk1 : (k : Int) < (q : Int) := by omega
        have hkz : (0 : Int) ≤ (k : Int) := by omega
        obtain ⟨j, hjk⟩ : ∃ j, k = j + 1 := ⟨k - 1, by omega⟩
        obtain ⟨b, o, rfl, hrg⟩ := RdD.at (oa.out.kept hK.out) k (by rw [hq.out]; exact hlt)
        obtain ⟨b', o', hbo, hrg'⟩ := RdD.at (oa.out.kept hK.out) j (by rw [hq.out]; omega)
        cases hbo
        have h32 : ∀ i, i < q → (D.getD i []).length = 32 := fun i hi => oa.out.1 _ (by rw [List.getD_eq_getElem?_getD, List.getElem?_eq_getElem (by rw [hq.out]; exact hi)]; simp)
        have hX := h32 k hlt
        have hY := h32 j (by omega)
        have hls := hsa.out j (by rw [hq.out]; omega)
        rw [← hjk] at hls
        generalize D.getD k [] = X at hrg hX hls
        generalize D.getD j [] = Y at hrg' hY hls
        have HC := hid (fun w => less_any X Y w hX hY)
        rw [hls] at HC
        obtain ⟨M, hM⟩ : ∃ M, X.map B = M := ⟨_, rfl⟩
        obtain ⟨L, hL⟩ : ∃ L, Y.map B = L := ⟨_, rfl⟩
        rw [hM] at hrg HC
        rw [hL] at hrg' HC
        have infM : Hd ((Tryd.prog.info? 43).map (·.size) = some M.length) := ⟨by rw [← hM, List.length_map, hX]; kernel_rfl⟩
        have infL : Hd ((Tryd.prog.info? 43).map (·.size) = some L.length) := ⟨by rw [← hL, List.length_map, hY]; kernel_rfl⟩
        replace hrg := hid hrg
        replace hrg' := hid hrg'
        have hsub : IntKind.i64.wrap ((k : Int) - 1) = (j : Int) := by rw [IntWalk.i64_in _ (by omega)]; omega
        have hj0 : (0 : Int) ≤ (j : Int) := by omega
        have hj1 : (j : Int) < (q : Int) := by omega
        clear hM hL hX hY h32 hls hjk
        go_upto_region 11 with fail
        refine region_flow (S := no) (Sl := (fun _ => no)) [Is (.slice (some ⟨b, o, none⟩) q ca), Is (.int .i64 (k : Int)), Is (.pointer (some ⟨b, o + k * 32, none⟩)), Is (.agg M.toArray), Is (.slice (some ⟨b, o, none⟩) q ca), Is (.int .i64 (k : Int)), Is (.int .i64 (j : Int)), Is (.pointer (some ⟨b, o + j * 32, none⟩)), Is (.agg L.toArray), Is (.bool false)] [] (fun _ _ h => h) _ (by kernel_rfl) (by kernel_rfl) (by kernel_rfl) (by kernel_rfl) (fun x => by simp only [puts, Act.put, List.map_cons, List.map_nil, Nat.zero_add, Nat.reduceAdd, List.setIfInBounds_toArray, List.set_cons_zero, List.set_cons_succ]; exact rfl) ?_ ?_
        · skip
          refine Steps.cons (fun x wf Kk hq hdep hold => ?_) ?_
          · try dsimp only
            clear hq hdep hold
            rw [if_pos (by rfl)]
            refine OpY.val (v := (.slice (some ⟨b, o, none⟩) q ca)) ?_ ⟨Kept.refl _ _, rfl⟩
            first | rfl | go_simp
          refine Steps.cons (fun x wf Kk hq hdep hold => ?_) ?_
          · try dsimp only
            clear hq hdep hold
            rw [if_pos (by rfl)]
            refine OpY.val (v := (.int .i64 (k : Int))) ?_ ⟨Kept.refl _ _, rfl⟩
            first | rfl | go_simp
          refine Steps.cons (fun x wf Kk hq hdep hold => ?_) ?_
          · try dsimp only
            have h0 : x 0 = (.slice (some ⟨b, o, none⟩) q ca) := hdep 0 (by kernel_rfl)
            have h1 : x 1 = (.int .i64 (k : Int)) := hdep 1 (by kernel_rfl)
            clear hq hdep hold
            simp only [h0, h1]
            clear h0 h1
            rw [if_pos (by rfl)]
            refine OpY.val (v := (.pointer (some ⟨b, o + k * 32, none⟩))) ?_ ⟨Kept.refl _ _, rfl⟩
            first | rfl | go_simp
          refine Steps.cons (fun x wf Kk hq hdep hold => ?_) ?_
          · try dsimp only
            have h2 : x 2 = (.pointer (some ⟨b, o + k * 32, none⟩)) := hdep 2 (by kernel_rfl)
            clear hq hdep hold
            simp only [h2]
            clear h2
            rw [if_pos (by rfl)]
            exact OpY.row 43 _ rfl b (o + k * 32) rfl M _ (Kk.undrew.rng hrg.out) hun rfl infM.out ⟨Kept.refl _ _, rfl⟩
          refine Steps.cons (fun x wf Kk hq hdep hold => ?_) ?_
          · try dsimp only
            clear hq hdep hold
            rw [if_pos (by rfl)]
            refine OpY.val (v := (.slice (some ⟨b, o, none⟩) q ca)) ?_ ⟨Kept.refl _ _, rfl⟩
            first | rfl | go_simp
          refine Steps.cons (fun x wf Kk hq hdep hold => ?_) ?_
          · try dsimp only
            clear hq hdep hold
            rw [if_pos (by rfl)]
            refine OpY.val (v := (.int .i64 (k : Int))) ?_ ⟨Kept.refl _ _, rfl⟩
            first | rfl | go_simp
          refine Steps.cons (fun x wf Kk hq hdep hold => ?_) ?_
          · try dsimp only
            have h5 : x 5 = (.int .i64 (k : Int)) := hdep 5 (by kernel_rfl)
            clear hq hdep hold
            simp only [h5]
            clear h5
            rw [if_pos (by rfl)]
            refine OpY.val (v := (.int .i64 (j : Int))) ?_ ⟨Kept.refl _ _, rfl⟩
            first | rfl | go_simp
          refine Steps.cons (fun x wf Kk hq hdep hold => ?_) ?_
          · try dsimp only
            have h4 : x 4 = (.slice (some ⟨b, o, none⟩) q ca) := hdep 4 (by kernel_rfl)
            have h6 : x 6 = (.int .i64 (j : Int)) := hdep 6 (by kernel_rfl)
            clear hq hdep hold
            simp only [h4, h6]
            clear h4 h6
            rw [if_pos (by rfl)]
            refine OpY.val (v := (.pointer (some ⟨b, o + j * 32, none⟩))) ?_ ⟨Kept.refl _ _, rfl⟩
            first | rfl | go_simp
          refine Steps.cons (fun x wf Kk hq hdep hold => ?_) ?_
          · try dsimp only
            have h7 : x 7 = (.pointer (some ⟨b, o + j * 32, none⟩)) := hdep 7 (by kernel_rfl)
            clear hq hdep hold
            simp only [h7]
            clear h7
            rw [if_pos (by rfl)]
            exact OpY.row 43 _ rfl b (o + j * 32) rfl L _ (Kk.undrew.rng hrg'.out) hun rfl infL.out ⟨Kept.refl _ _, rfl⟩
          refine Steps.cons (fun x wf Kk hq hdep hold => ?_) ?_
          · try dsimp only
            have h3 : x 3 = (.agg M.toArray) := hdep 3 (by kernel_rfl)
            have h8 : x 8 = (.agg L.toArray) := hdep 8 (by kernel_rfl)
            clear hq hdep hold
            simp only [h3, h8]
            clear h3 h8
            rw [if_pos (by rfl)]
            refine OpY.call (f := 14) (args := #[(.agg M.toArray), (.agg L.toArray)]) (by go_simp) ?_
            refine (HC.out _).mono ?_
            rintro e w2 ⟨rfl, k2⟩
            exact ⟨_, rfl, k2, rfl⟩
          exact Steps.nil _
        · intro x wf Kk hv
          try dsimp only
          have h0 : x 0 = (.slice (some ⟨b, o, none⟩) q ca) := hv 0 (by kernel_rfl)
          have h1 : x 1 = (.int .i64 (k : Int)) := hv 1 (by kernel_rfl)
          have h2 : x 2 = (.pointer (some ⟨b, o + k * 32, none⟩)) := hv 2 (by kernel_rfl)
          have h3 : x 3 = (.agg M.toArray) := hv 3 (by kernel_rfl)
          have h4 : x 4 = (.slice (some ⟨b, o, none⟩) q ca) := hv 4 (by kernel_rfl)
          have h5 : x 5 = (.int .i64 (k : Int)) := hv 5 (by kernel_rfl)
          have h6 : x 6 = (.int .i64 (j : Int)) := hv 6 (by kernel_rfl)
          have h7 : x 7 = (.pointer (some ⟨b, o + j * 32, none⟩)) := hv 7 (by kernel_rfl)
          have h8 : x 8 = (.agg L.toArray) := hv 8 (by kernel_rfl)
          have h9 : x 9 = (.bool false) := hv 9 (by kernel_rfl)
          clear hv
          simp only [h0, h1, h2, h3, h4, h5, h6, h7, h8, h9]
          clear h0 h1 h2 h3 h4 h5 h6 h7 h8 h9
          have hK2 := hid (hK.out.trans' Kk.undrew)
          clear Kk hK HC hrg hrg' infM infL
          go_wp2
          go_roundw
          case rel => first | exact ⟨k + 1, by omega, by omega, by go_num, hK2⟩ | ((repeat apply Exists.intro); exact ⟨⟨k + 1, by omega, by omega, by go_num, hK2⟩, rfl⟩)
          case measure => simp [intOf]; omega
      · have hk1 : ¬ (k : Int) < (q : Int) := by omega
        have HS := hid (samed_any (.slice aa q ca) (.slice ab q cb) D)
        have K4 := hid (K3.out.trans' hK.out)
        have oa4 := hid (oa.out.kept hK.out)
        have ob4 := hid (ob.out.kept hK.out)
        have hqm : Hd (D.length ≤ 1000000) := ⟨by rw [hq.out]; omega⟩
        clear K3 hK oa ob hsa
        go_wp2_with fail
        refine (HA.out _ (hT.out.kept K4.out) (hR.out.kept K4.out)).mono ?_
        rintro e w4 ⟨rfl, k4⟩
        have K5 := hid (K4.out.trans' k4)
        have oa5 := hid (oa4.out.kept k4)
        have ob5 := hid (ob4.out.kept k4)
        clear K4 k4 oa4 ob4
        go_wp2_with fail
        refine (HS.out _ hqm.out oa5.out ob5.out).mono ?_
        rintro e w5 ⟨rfl, k5⟩
        have K6 := hid (K5.out.trans' k5)
        clear K5 k5 oa5 ob5
        go_wp2
        go_ret
        exact ⟨rfl, K6.out⟩
end Go.Proofs.YtggcbjchnefhfaaDoor
