/- electionlaw38.CommitOrder answers true. -/
import Derived.Test.YtggcbjchnefhfaaDoorHead38
namespace Go.Cmt
theorem coms_take (sec : List UInt8) (c : Int) (l : List Itm) (k : Nat) (h : k < l.length) : (coms sec c (l.take (k + 1))).length = (coms sec c (l.take k)).length + if l[k].ph then 0 else 1 := by
  rw [List.take_succ_eq_append_getElem h, coms_snoc, List.length_append]
  cases l[k].ph <;> simp
end Go.Cmt
namespace Go.Proofs.YtggcbjchnefhfaaDoor
open Go.RowKit Go.Mk Go.Sha Go.Cmt
def pickI (l : List (Itm × Value)) (z : Int) : Itm × Value := l.getD z.toNat (⟨0, 0, 0, false, []⟩, .slice none 0 0)
theorem pick_all (l : List (Itm × Value)) : ((List.range l.length).map Int.ofNat).map (pickI l) = l := by
  rw [List.map_map]
  apply List.ext_getElem
  · simp
  · intro i h1 h2
    simp only [List.getElem_map, List.getElem_range, Function.comp, pickI, Int.ofNat_eq_natCast, Int.toNat_natCast]
    rw [List.getD_eq_getElem?_getD, List.getElem?_eq_getElem h2]; rfl
theorem pick_perm {l : List (Itm × Value)} {zs : List Int} (h : zs.Perm ((List.range l.length).map Int.ofNat)) : (zs.map (pickI l)).Perm l := by
  have := h.map (pickI l)
  rwa [pick_all] at this
set_option maxRecDepth 100000 in
set_option maxHeartbeats 4000000 in
theorem cordl_any (s : ByteArray) (c n : Int) (v3 v4 : Value) (bs : List (List Int × Value)) (fs : List Bool) (code : Int) (w : World) (hs : s.size ≤ 9223372036854775807) (hr : Pl.RdB w v3 bs) (hf : RdF w v4 fs) (hT : Tab w) (hR : TabR w) :
    Calls Tryd.prog 3 #[.string s, .int .i64 c, .int .i64 n, v3, v4, .int .i64 code] w fun e w' => e = .returned (.bool true) ∧ Kept no w w' := by
  have hsz := shortS_size s
  have HSH := hid (fun w => short_any s hs w)
  obtain ⟨s', hs'⟩ : ∃ s', shortS s = s' := ⟨_, rfl⟩
  rw [hs'] at hsz HSH
  clear hs'
  have HM := hid (fun w => mod7 n w)
  have hmI := Pl.modI_lt n 7 (by decide)
  obtain ⟨r, hr7⟩ : ∃ r : Int, Pl.modI n 7 = r := ⟨_, rfl⟩
  rw [hr7] at HM hmI
  clear hr7
  have HI := hid (fun w hr hf => items_any (1 + r) v3 v4 bs fs 8 w (by omega) (by omega) (by decide) hr hf)
  have hrw : IntKind.i64.wrap (1 + r) = 1 + r := IntWalk.i64_in _ (by omega)
  have HA := hid (fun w hT hR => awake38_any w hT hR)
  obtain ⟨a3, c3, rfl⟩ := Rd.shapeZ hr.2
  obtain ⟨a4, c4, rfl⟩ := Rd.shapeZ hf
  replace hr := hid hr
  replace hf := hid hf
  replace hT := hid hT
  replace hR := hid hR
  go_enter Tryd.func3, Tryd.ntmps3
  go_wp2_with fail
  refine (HSH.out _).mono ?_
  rintro e w' ⟨rfl, rfl⟩
  go_wp2_with fail
  refine (HM.out _).mono ?_
  rintro e w' ⟨rfl, rfl⟩
  go_wp2_with fail
  refine (HI.out _ hr.out hf.out).mono ?_
  rintro e w1 ⟨vi, its, rfl, hil, hip, hir, k1⟩
  replace k1 := hid k1
  clear HI HM HSH hrw hmI hr hf
  obtain ⟨ai, ci, rfl, _, _⟩ := hir.shape
  have HP := hid (fun w => Pl.gperm_any its.length code w (by omega))
  replace hir := hid hir
  replace hip := hid hip
  obtain ⟨N, hN⟩ : ∃ N, its.length = N := ⟨_, rfl⟩
  rw [hN] at hil hir HP ⊢
  replace hN := hid hN
  go_wp2_with fail
  refine (HP.out w1).mono ?_
  rintro e w2 ⟨vp, zs, rfl, hzp, oz⟩
  have k2 := hid (k1.out.trans' oz.kept)
  have hir2 := hid (hir.out.kept oz.kept)
  replace oz := hid oz.rd
  have hzl : zs.length = N := by rw [hzp.length_eq]; simp
  have hzm : Hd (∀ z ∈ zs, ∃ m : Nat, z = (m : Int) ∧ m < N) := ⟨fun z hz => by
    have := hzp.mem_iff.1 hz
    obtain ⟨m, hm, rfl⟩ := List.mem_map.1 this
    exact ⟨m, rfl, List.mem_range.1 hm⟩⟩
  have hpp : Hd ((zs.map (pickI its)).Perm its) := ⟨pick_perm (by rw [hN.out]; exact hzp)⟩
  obtain ⟨ap, cp, rfl⟩ := Rd.shapeZ oz.out
  rw [hzl] at oz ⊢
  replace hzl := hid hzl
  clear HP k1 hir hzp
  go_wp2
  go_loopw [15, 16] (fun out i wr => ∃ (k : Nat) (l : List (Itm × Value)), k ≤ N ∧ i = .int .i64 (k : Int) ∧ Hd (l.length = k) ∧ Hd (l = (zs.take k).map (pickI its)) ∧ Hd (OwI w2 wr out l)) (fun _ i _ => N - (intOf i).toNat)
  case atStart => exact ⟨0, [], by omega, rfl, ⟨rfl⟩, ⟨rfl⟩, ⟨OwI.nil w2⟩⟩
  case round =>
    obtain ⟨k, l, hk, rfl, hlk, hle, hO⟩ := hrel
    by_cases hlt : k < N
    · have hk1' : (k : Int) < (N : Int) := by omega
      have hk0 : (0 : Int) ≤ (k : Int) := by omega
      have hls : Hd (l.length + 1 ≤ maxLen ∧ (l.length + 1) * 56 ≤ 140737488355328) := ⟨by rw [hlk.out]; have hmx : maxLen = 9223372036854775807 := rfl; omega⟩
      obtain ⟨bp, op, rfl, cp0⟩ := Pl.RdZ.at oz.out k (by rw [hzl.out]; exact hlt)
      have cp0 := hO.out.kept.cell cp0 id
      obtain ⟨m, hm, hmN⟩ := hzm.out (zs.getD k 0) (by rw [List.getD_eq_getElem?_getD, List.getElem?_eq_getElem (by rw [hzl.out]; exact hlt)]; simp)
      have hst : Hd ((zs.take (k + 1)).map (pickI its) = (zs.take k).map (pickI its) ++ [pickI its (m : Int)]) := ⟨by
        have hkz : k < zs.length := by rw [hzl.out]; exact hlt
        rw [← hm, List.take_succ_eq_append_getElem hkz, List.map_append, List.getD_eq_getElem?_getD, List.getElem?_eq_getElem hkz]; rfl⟩
      rw [hm] at cp0
      obtain ⟨b, o, it, vx, rfl, hel, c0, c1, c2, c3, c4, hz⟩ := (hir2.out.kept hO.out.kept).at m (by rw [hN.out]; exact hmN)
      obtain ⟨av, lv, cv, rfl⟩ : ∃ a l c, vx = .slice a l c := by obtain ⟨_, a, c, e, _⟩ := hz; exact ⟨a, _, c, e⟩
      have hpi : Hd (pickI its (m : Int) = (it, .slice av lv cv)) := ⟨by
        unfold pickI
        rw [Int.toNat_natCast, List.getD_eq_getElem?_getD, List.getElem?_eq_getElem (by rw [hN.out]; exact hmN)]
        exact hel⟩
      have hz2 : Hd (RdZ w2 (.slice av lv cv) it.pr) := ⟨by have := hir2.out.1 _ (List.getElem_mem (show m < its.length by rw [hN.out]; exact hmN)); rwa [hel] at this⟩
      have hm1 : (m : Int) < (N : Int) := by omega
      have hm0 : (0 : Int) ≤ (m : Int) := by omega
      have hle2 : Hd (l ++ [(it, Value.slice av lv cv)] = (zs.take (k + 1)).map (pickI its)) := ⟨by rw [hst.out, hpi.out, hle.out]⟩
      have hlk2 : Hd ((l ++ [(it, Value.slice av lv cv)]).length = k + 1) := ⟨by rw [List.length_append, hlk.out]; rfl⟩
      clear hel hz hm hst hpi hle hlk
      go_wp2_with (at_builtin; refine wpList_append_lit _ rfl _ _ 25 rfl 33 5 56 TItems _ _ _ rfl hO.out.own 1 (itmC (it, .slice av lv cv)) rfl rfl ?c1 ?c2 ?c3 ?_)
      case c1 => simp [itmC, Value.oneCell']
      case c2 => exact hls.out.1
      case c3 => exact hls.out.2
      intro v' w3 h2 h3 h4 _
      have hO3 := hid (hO.out.add (it, .slice av lv cv) hz2.out h2 h3 h4)
      clear h2 h3 h4 hO hls c0 c1 c2 c3 c4 cp0 hz2
      go_wp2
      go_roundw
      case rel => first | exact ⟨k + 1, _, by omega, by go_num, hlk2, hle2, hO3⟩ | ((repeat apply Exists.intro); exact ⟨⟨k + 1, _, by omega, by go_num, hlk2, hle2, hO3⟩, rfl⟩)
      case measure => simp [intOf]; omega
    · obtain rfl : k = N := by omega
      have hlp : Hd (l.Perm its) := ⟨by rw [hle.out, List.take_of_length_le (by rw [hzl.out]; exact Nat.le_refl _)]; exact hpp.out⟩
      have k3 := hid (k2.out.trans' hO.out.kept)
      have hir3 := hid (hir2.out.kept hO.out.kept)
      replace hO := hid hO.out.rd
      have HL := hid (fun w hi hT => clist_any s' c (.slice ai k ci) its w (by omega) (by rw [hN.out]; omega) hip.out hi hT)
      have HL2 := hid (fun w hi hT => clist_any s' c u15 l w (by omega) (by rw [hlk.out]; omega) (fun x hx => hip.out x (hlp.out.mem_iff.1 hx)) hi hT)
      have hss : sortD (coms s'.data.toList c (itms l)) = sortD (coms s'.data.toList c (itms its)) := sortD_perm (coms_perm (hlp.out.map _))
      rw [hss] at HL2
      obtain ⟨D, hD⟩ : ∃ D, sortD (coms s'.data.toList c (itms its)) = D := ⟨_, rfl⟩
      rw [hD] at HL HL2
      have hDl : Hd (D.length = (coms s'.data.toList c (itms its)).length) := ⟨by rw [← hD, sortD_length]⟩
      have hDm : Hd (D.length ≤ 8) := ⟨by rw [hDl.out]; have := coms_le s'.data.toList c (itms its); rw [itms_length, hN.out] at this; omega⟩
      clear hle hlk hlp hpp hzm oz hss hD k2 hir2
      go_wp2_with fail
      refine (HL.out _ hir3.out (hT.out.kept k3.out)).mono ?_
      rintro e w4 ⟨va, rfl, oa⟩
      have k4 := hid (k3.out.trans' oa.kept)
      have hir4 := hid (hir3.out.kept oa.kept)
      replace hO := hid (hO.out.kept oa.kept)
      replace oa := hid oa.rd
      obtain ⟨aa, ca, rfl, _, _⟩ := oa.out.shape
      clear HL k3 hir3
      go_wp2_with fail
      refine (HL2.out _ hO.out (hT.out.kept k4.out)).mono ?_
      rintro e w5 ⟨vb, rfl, ob⟩
      have k5 := hid (k4.out.trans' ob.kept)
      have hir5 := hid (hir4.out.kept ob.kept)
      replace oa := hid (oa.out.kept ob.kept)
      replace ob := hid ob.rd
      obtain ⟨ab, cb, rfl, _, _⟩ := ob.out.shape
      obtain ⟨q, hq⟩ : ∃ q, D.length = q := ⟨_, rfl⟩
      rw [hq] at oa ob hDl hDm ⊢
      replace hq := hid hq
      obtain ⟨w6, hw6⟩ : ∃ w6 : World, w6 = wr := ⟨_, rfl⟩
      rw [← hw6] at *
      clear HL2 hir4 k4 hO hw6
      go_wp2
      go_loopw [21, 22] (fun cn i wr => ∃ (j p : Nat), j ≤ k ∧ i = .int .i64 (j : Int) ∧ cn = .int .i64 (p : Int) ∧ p ≤ j ∧ Hd (p = (coms s'.data.toList c (itms (its.take j))).length) ∧ Hd (Kept no w5 wr)) (fun _ i _ => k - (intOf i).toNat)
      case atStart => exact ⟨0, 0, by omega, rfl, rfl, by omega, ⟨rfl⟩, ⟨Kept.refl _ _⟩⟩
      case round =>
        obtain ⟨j, p, hj, rfl, rfl, hpj, hp, hK⟩ := hrel
        by_cases hlt2 : j < k
        · have hj1 : (j : Int) < (k : Int) := by omega
          have hj0 : (0 : Int) ≤ (j : Int) := by omega
          obtain ⟨b, o, it, vx, rfl, hel, c0, c1, c2, c3, c4, hz⟩ := (hir5.out.kept hK.out).at j (by rw [hN.out]; exact hlt2)
          have hct : Hd ((coms s'.data.toList c (itms (its.take (j + 1)))).length = (coms s'.data.toList c (itms (its.take j))).length + if it.ph then 0 else 1) := ⟨by
            have := coms_take s'.data.toList c (itms its) j (by rw [itms_length, hN.out]; exact hlt2)
            have e : (itms its)[j]'(by rw [itms_length, hN.out]; exact hlt2) = it := by unfold itms; rw [List.getElem_map, hel]
            rw [e] at this
            unfold itms at this ⊢
            rw [List.map_take, List.map_take]; exact this⟩
          clear c0 c1 c2 c4 hz hel
          cases hph : it.ph with
          | true =>
            rw [hph] at c3 hct
            have hp2 : Hd (p = (coms s'.data.toList c (itms (its.take (j + 1)))).length) := ⟨by rw [hct.out, ← hp.out]; rfl⟩
            clear hct hp hph
            go_wp2
            go_roundw
            case rel => first | exact ⟨j + 1, p, by omega, by go_num, rfl, by omega, hp2, hK⟩ | ((repeat apply Exists.intro); exact ⟨⟨j + 1, p, by omega, by go_num, rfl, by omega, hp2, hK⟩, rfl⟩)
            case measure => simp [intOf]; omega
          | false =>
            rw [hph] at c3 hct
            have hp2 : Hd (p + 1 = (coms s'.data.toList c (itms (its.take (j + 1)))).length) := ⟨by rw [hct.out, ← hp.out]; rfl⟩
            clear hct hp hph
            go_wp2
            go_roundw
            case rel => first | exact ⟨j + 1, p + 1, by omega, by go_num, by go_num, by omega, hp2, hK⟩ | ((repeat apply Exists.intro); exact ⟨⟨j + 1, p + 1, by omega, by go_num, by go_num, by omega, hp2, hK⟩, rfl⟩)
            case measure => simp [intOf]; omega
        · obtain rfl : j = k := by omega
          have hpq : p = q := by rw [hDl.out, hp.out, List.take_of_length_le (by rw [hN.out]; exact Nat.le_refl _)]
          subst hpq
          have HS := hid (samed_any (.slice aa p ca) (.slice ab p cb) D)
          have K4 := hid (k5.out.trans' hK.out)
          have oa4 := hid (oa.out.kept hK.out)
          have ob4 := hid (ob.out.kept hK.out)
          have hqm : Hd (D.length ≤ 1000000) := ⟨by rw [hq.out]; omega⟩
          clear k5 hK oa ob hp hDl
          go_wp2_with fail
          refine (HA.out _ (hT.out.kept K4.out) (hR.out.kept K4.out)).mono ?_
          rintro e w4 ⟨rfl, k4⟩
          have K5 := hid (K4.out.trans' k4)
          have oa5 := hid (oa4.out.kept k4)
          have ob5 := hid (ob4.out.kept k4)
          clear K4 k4 oa4 ob4
          go_wp2_with fail
          refine (HS.out _ hqm.out oa5.out ob5.out).mono ?_
          rintro e w5 ⟨rfl, k5⟩
          have K6 := hid (K5.out.trans' k5)
          clear K5 k5 oa5 ob5
          go_wp2
          go_ret
          exact ⟨rfl, K6.out⟩
end Go.Proofs.YtggcbjchnefhfaaDoor
