/- certificate.Encode. -/
import Derived.Test.YtkdmlakookgolaaEncdZ
namespace Go.Mg
open Go.Pil
theorem encNs_ones : ∀ vs : List Nat, encNs (List.replicate vs.length 1) vs = vs.map fun n => byt n 0
  | [] => rfl
  | v :: vs => by
    show encB v 1 ++ encNs (List.replicate vs.length 1) vs = _
    rw [encNs_ones vs]; rfl
/-- A node's bytes ahead of its tail. -/
def hdNd (x : Nd) : List UInt8 := encB (x.par + 1).toNat 2 ++ encB x.bd.toNat 4 ++ [byt (leafN x) 0, byt x.tail.length 0]
def tlNd (t : List Int) : List UInt8 := t.map fun c => byt c.toNat 0
theorem encNd_eq (x : Nd) : encNd x = hdNd x ++ tlNd x.tail := by
  (unfold encNd hdNd tlNd); (have := encNs_ones (x.tail.map Int.toNat)); (rw [List.length_map] at this); (rw [this, List.map_map])
  simp [encNs, encB]
theorem encC_eq (A M : Int) (l : List Nd) : encC A M l = ([byt A.toNat 0] ++ encB M.toNat 4 ++ encB l.length 2) ++ l.flatMap encNd := by
  unfold encC
  simp [encNs, encB]
theorem hdNd_len (x : Nd) : (hdNd x).length = 8 := by unfold hdNd; simp [encB_len]
theorem tl_take {t : List Int} {z : Nat} (h : z < t.length) : tlNd (t.take (z + 1)) = tlNd (t.take z) ++ [byt (t.getD z 0).toNat 0] := by
  (unfold tlNd); (rw [List.take_succ_eq_append_getElem h, List.map_append, List.getD_eq_getElem?_getD, List.getElem?_eq_getElem h]; rfl)
/-- The bytes of the first k nodes, behind the head. -/
def encK (A M : Int) (l : List Nd) (k : Nat) : List UInt8 := ([byt A.toNat 0] ++ encB M.toNat 4 ++ encB l.length 2) ++ (l.take k).flatMap encNd
theorem encK_succ {A M : Int} {l : List Nd} {k : Nat} (h : k < l.length) : encK A M l (k + 1) = encK A M l k ++ encNd (l.getD k default) := by
  (unfold encK); (rw [List.take_succ_eq_append_getElem h, List.flatMap_append, List.append_assoc, List.getD_eq_getElem?_getD, List.getElem?_eq_getElem h])
  simp
theorem encK_all (A M : Int) (l : List Nd) : encK A M l l.length = encC A M l := by
  rw [encC_eq]; unfold encK; rw [List.take_length]
theorem encNd_len {i : Nat} {x : Nd} (h : NdOk i x) : (encNd x).length ≤ 15 := by
  (rw [encNd_eq, List.length_append, hdNd_len]); (unfold tlNd); (rw [List.length_map]); (have := h.t1)
  omega
theorem encK_len {A M : Int} {l : List Nd} (h : EncOk A M l) : ∀ k, k ≤ l.length → (encK A M l k).length ≤ 7 + 15 * k
  | 0, _ => by unfold encK; simp [encB_len]
  | k + 1, hk => by
    (rw [encK_succ (by omega), List.length_append]); (have := encK_len h k (by omega)); (have := encNd_len (h.nd k (by omega)))
    omega
end Go.Mg
namespace Go.Proofs.Ytkdmlakookgolaa
open Go.RowKit Go.Mk Go.Pil Go.Mg
theorem Ext.keptNo {w w1 w2 : World} {v v1 : Value} {L : List UInt8} (h : Ext w w1 v v1 L) (k : Kept no w1 w2) : Ext w w2 v v1 L :=
  ⟨k.ownsRow h.own fun _ _ => id, h.kept.trans k fun _ _ e => e.elim, h.new⟩
theorem byt_lit {n : Nat} (h : n < 256) : Value.int .u8 (n : Int) = B8 (byt n 0) := by
  (unfold B8); (rw [byt_low, Nat.mod_eq_of_lt h])
/-- What Encode answers. -/
def EncR (A M : Int) (l : List Nd) (e : Ending) (w' : World) : Prop := (EncOk A M l ∧ ∃ v', e = .returned (.tuple #[v', .int .i64 0]) ∧ Rd w' 1 v' (encC A M l).length ((encC A M l).map B8)) ∨ (¬ EncOk A M l ∧ e = .returned (.tuple #[.slice none 0 0, .int .i64 8]))
set_option maxRecDepth 100000 in
set_option maxHeartbeats 4000000 in
theorem cencode_any (A M : Int) (v : Value) (q : List (Nd × Value)) (w : World) (hq : RdN w v q) :
    Calls Try.prog 47 #[.agg #[.int .i64 A, .int .i64 M, v]] w fun e w' => EncR A M (nds q) e w' ∧ Kept no w w' := by
  (obtain ⟨an, cn, rfl, hlc, hcm⟩ := Rd.shape2 hq.2); (have hm63 := maxLen_63); (obtain ⟨len, hlen⟩ : ∃ n, q.length = n := ⟨_, rfl⟩); (rw [hlen] at hq hlc ⊢); (have hndl : Hd ((nds q).length = len) := ⟨by rw [nds_length]; exact hlen⟩); (replace hlen := hid hlen); (obtain ⟨w1, hw1, g1, k1⟩ := alloc_named w (.cells #[.int .i64 A, .int .i64 M, .slice an len cn] 25)); (have gC := hid g1); (have k01 := hid k1); (replace hq := hid hq); (have HE := hid (encodable_any A M (.slice an len cn) q w1 (hq.out.kept k1)))
  go_enter Try.func47, Try.ntmps47
  (go_upto_region 1 with fail); (rw [← hw1]); (generalize w.heap.size = GC at gC); (obtain ⟨c0, c1, c2⟩ := slotC gC.out); (clear hw1 g1 k1); (go_wp2_with fail); (with_reducible refine HE.out.mono ?_); (rintro e w2 ⟨⟨_, rfl, bb, rfl, hbb⟩, k2⟩); (have k02 := hid (k01.out.trans' k2)); (have gC2 := hid (k2.blk gC.out)); (obtain ⟨c0, c1, c2⟩ := slotC gC2.out); (replace hbb := hid hbb); (clear HE k2 k01 gC)
  cases bb with
  | false =>
    (have hv : Hd (¬ EncOk A M (nds q)) := ⟨fun h => by have := hbb.out.2 h; cases this⟩); (go_wp2); (go_ret2); (exact ⟨.inr ⟨hv.out, rfl⟩, k02.out⟩)
  | true =>
  (have hok := hid (hbb.out.1 rfl)); (clear hbb); (obtain ⟨A', hA'⟩ : ∃ a : Nat, A = (a : Int) := ⟨A.toNat, by have := hok.out.a0; omega⟩); (obtain ⟨M', hM'⟩ : ∃ m : Nat, M = (m : Int) := ⟨M.toNat, by have := hok.out.m0; omega⟩); (subst hA' hM'); (have hA7 : A' < 7 := by have := hok.out.a1; omega); (have hl4 : len ≤ 4000 := by have := hok.out.len; rw [hndl.out] at this; exact this); (have hM5 : M' ≤ 100000 := by have := hok.out.m1; omega); (go_upto_region 4 with fail); (obtain ⟨w3, hw3, g3, k3⟩ := alloc_named w2 (.cells #[.int .u8 (A' : Int)] 5)); (rw [← hw3])
  have E3 : Hd (Ext w2 w3 (.slice none 0 0) (.slice (some ⟨w2.heap.size, 0, none⟩) 1 1) [byt A' 0]) := ⟨by
    refine ⟨⟨rfl, .inr ⟨w2.heap.size, 1, #[.int .u8 (A' : Int)], rfl, Nat.zero_le _, g3, Nat.le_refl _, by decide, rfl, ?_⟩⟩, k3.of_no, .inr ⟨_, rfl, Nat.le_refl _⟩⟩
    rw [List.map_cons, List.map_nil, ← byt_lit (by omega)]; rfl⟩
  (have gC3 := hid (k3.blk gC2.out)); (clear c0 c1 c2 hw3 g3 k3); (obtain ⟨c0, c1, c2⟩ := slotC gC3.out); (generalize (Value.slice (some ⟨w2.heap.size, 0, none⟩) 1 1) = v3 at E3 ⊢); (have HM := appnum_any v3 [byt A' 0] M' 4 w3 E3.out.own (by decide) (by simp)); (rw [show ((4 : Nat) : Int) = 4 from rfl] at HM); (replace HM := hid HM); (go_wp2_with fail); (with_reducible refine HM.out.mono ?_); (rintro e w4 ⟨v4, rfl, E4⟩); (have E4' := hid (E3.out.trans E4)); (have gC4 := hid ((Kept.ob_nil E4'.out.kept).blk gC2.out)); (clear c0 c1 c2 HM E4 E3 gC3); (obtain ⟨c0, c1, c2⟩ := slotC gC4.out); (have HL := appnum_any v4 _ len 2 w4 E4'.out.own (by decide) (by simp [encB_len])); (rw [show ((2 : Nat) : Int) = 2 from rfl] at HL); (replace HL := hid HL); (go_wp2_with fail); (with_reducible refine HL.out.mono ?_); (rintro e w5 ⟨v5, rfl, E5⟩)
  have E5' : Hd (Ext w2 w5 (.slice none 0 0) v5 (encK (A' : Int) (M' : Int) (nds q) 0)) := ⟨by
    have := E4'.out.trans E5
    have e : encK (A' : Int) (M' : Int) (nds q) 0 = [byt A' 0] ++ encB M' 4 ++ encB len 2 := by
      (unfold encK); (rw [hndl.out, List.take_zero])
      simp
    rw [e]; exact this⟩
  (have gC5 := hid ((Kept.ob_nil E5'.out.kept).blk gC2.out)); (clear c0 c1 c2 HL E5 E4' gC4); (obtain ⟨c0, c1, c2⟩ := slotC gC5.out); (go_wp2); (clear c0 c1 c2)
  go_loopw [4, 29] (fun out i wr => ∃ k : Nat, k ≤ len ∧ i = .int .i64 (k : Int) ∧ Hd (Ext w2 wr (.slice none 0 0) out (encK (A' : Int) (M' : Int) (nds q) k))) (fun _ i _ => len - (intOf i).toNat)
  case atStart => exact ⟨0, by omega, rfl, E5'⟩
  case round =>
    (clear E5' gC5); (obtain ⟨k, hk, rfl, hE⟩ := hrel); (have kW := hid (k02.out.trans' (Kept.ob_nil hE.out.kept)))
    by_cases hlt : k < len
    · (have hk1 : (k : Int) < (len : Int) := by omega); (have hk0 : (0 : Int) ≤ (k : Int) := by omega); (obtain ⟨uo, huo⟩ : ∃ uo, uo = u4 := ⟨_, rfl⟩); (subst huo); (obtain ⟨b, o, x, tv, rfl, ex, a0, a1, a2, a3, hz⟩ := (hq.out.kept kW.out).at k (by rw [hlen.out]; exact hlt)); (have hxe := nds_at (by rw [hlen.out]; exact hlt) ex)
      have hzw : RdZ w tv x.tail := by
        (have h1 := hq.out.1 _ (List.getElem_mem (show k < q.length by rw [hlen.out]; exact hlt))); (rw [ex] at h1; exact h1)
      (have hxo := hok.out.nd k (by rw [hndl.out]; exact hlt)); (rw [hxe] at hxo); (have hnx : Hd (encK (A' : Int) (M' : Int) (nds q) (k + 1) = encK (A' : Int) (M' : Int) (nds q) k ++ encNd x) := ⟨by rw [encK_succ (by rw [hndl.out]; exact hlt), hxe]⟩); (have hkl := encK_len hok.out k (by rw [hndl.out]; omega)); (obtain ⟨KB, hKB⟩ : ∃ l, encK (A' : Int) (M' : Int) (nds q) k = l := ⟨_, rfl⟩); (rw [hKB] at hE hnx hkl); (obtain ⟨av, cv, rfl, hcv1, _⟩ := Rd.shape2 hz); (obtain ⟨P, hP⟩ : ∃ p : Nat, x.par + 1 = (p : Int) := ⟨(x.par + 1).toNat, by have := hxo.lo; omega⟩); (obtain ⟨D, hD⟩ : ∃ p : Nat, x.bd = (p : Int) := ⟨x.bd.toNat, by have := hxo.b0; omega⟩); (have hPw : IntKind.i64.wrap (x.par + 1) = (P : Int) := by rw [hP]; exact IntWalk.i64_in _ (by have := hxo.hi; omega)); (have hDb : D ≤ 100000 := by have := hxo.b1; omega); (have ht7 : x.tail.length ≤ 7 := hxo.t1)
      have hhd : Hd (hdNd x = encB P 2 ++ encB D 4 ++ [byt (if x.leaf = true then 1 else 0) 0, byt x.tail.length 0]) := ⟨by
        unfold hdNd leafN
        rw [hP, hD, Int.toNat_natCast, Int.toNat_natCast]⟩
      (have hcs := hid hxo.cs); (have hnd := hid (encNd_eq x)); (obtain ⟨lv, hlv⟩ : ∃ l, x.tail.length = l := ⟨_, rfl⟩); (rw [hlv] at a1 hz hcv1 ht7 hhd hzw); (replace hzw := hid hzw); (rw [hD] at a2); (obtain ⟨XP, hXP⟩ : ∃ p, x.par = p := ⟨_, rfl⟩); (rw [hXP] at a0 hPw); (obtain ⟨L, hL⟩ : ∃ l, x.leaf = l := ⟨_, rfl⟩); (rw [hL] at a3 hhd); (replace hlv := hid hlv); (clear ex hKB hxe hxo hP hD hXP hL); (go_upto_region 9 with fail); (obtain ⟨w6, hw6, g6, k6⟩ := alloc_named wr (.cells #[.int .i64 XP, .slice av lv cv, .int .i64 (D : Int), .bool L] 76)); (rw [← hw6]); (obtain ⟨d0, d1, d2, d3⟩ := slotN4 g6)
      have hGo : Hd (¬ ob uo wr.heap.size) := ⟨fun e => by
        have := own_lt hE.out.own _ e
        omega⟩
      (generalize wr.heap.size = G8 at d0 d1 d2 d3 g6 hGo); (have hE6 := hid (hE.out.keptNo k6)); (replace g6 := hid g6); (clear hw6 k6 hE hz a0 a1 a2 a3 kW); (have E0 := hid (Ext.refl hE6.out.own)); (have HP := appnum_any uo KB P 2 w6 E0.out.own (by decide) (by omega)); (rw [show ((2 : Nat) : Int) = 2 from rfl] at HP); (replace HP := hid HP); (go_wp2_with fail); (with_reducible refine HP.out.mono ?_); (rintro e w7 ⟨v7, rfl, E7⟩); (replace E7 := hid E7); (have g7 := hid ((E7.out.kept.block G8 (lt_of_heap g6.out) hGo.out).trans g6.out)); (clear HP d0 d1 d2 d3 E0); (obtain ⟨d0, d1, d2, d3⟩ := slotN4 g7.out); (have HD := appnum_any v7 _ D 4 w7 E7.out.own (by decide) (by simp [encB_len]; omega)); (rw [show ((4 : Nat) : Int) = 4 from rfl] at HD); (replace HD := hid HD); (go_wp2_with fail); (with_reducible refine HD.out.mono ?_); (rintro e w8 ⟨v8, rfl, E8⟩); (have E8' := hid (E7.out.trans E8)); (have g8 := hid ((E8'.out.kept.block G8 (lt_of_heap g6.out) hGo.out).trans g6.out)); (clear HD d0 d1 d2 d3 E8 E7 g7); (obtain ⟨d0, d1, d2, d3⟩ := slotN4 g8.out)
      cases L with
      | false =>
        have hs8 : Hd ((KB ++ encB P 2 ++ encB D 4).length + 2 ≤ maxLen ∧ ((KB ++ encB P 2 ++ encB D 4).length + 2) * 1 ≤ 140737488355328) := ⟨by
          have hm : maxLen = 9223372036854775807 := rfl
          simp [encB_len]; omega⟩
        go_wp2_with (at_builtin; refine wpList_append_lit _ rfl _ _ 45 rfl 5 1 1 TByt _ _ _ rfl E8'.out.own 2 [_, _] rfl rfl ?c1 ?c2 ?c3 ?_)
        case c1 => simp [Value.oneCell']
        case c2 => exact hs8.out.1
        case c3 => exact hs8.out.2
        intro v9 w9 h2 h3 h4 _
        have E9 : Hd (Ext w6 w9 uo v9 (KB ++ hdNd x)) := ⟨by
          have := E8'.out.add (us := [byt 0 0, byt lv 0]) (by
            rw [List.map_cons, List.map_cons, List.map_nil, ← byt_lit (show lv < 256 by omega), ← byt_lit (show 0 < 256 by decide)]
            simpa using h2) h3 h4
          rw [hhd.out]
          simpa using this⟩
        (have g9 := hid ((E9.out.kept.block G8 (lt_of_heap g6.out) hGo.out).trans g6.out)); (clear h2 h3 h4 hs8 E8' d0 d1 d2 d3 g8 hhd); (obtain ⟨d0, d1, d2, d3⟩ := slotN4 g9.out); (obtain ⟨know, hknow⟩ : ∃ know : Nat, know = k := ⟨_, rfl⟩); (subst hknow); (go_wp2); (clear d0 d1 d2 d3)
        go_loopw [4, 55] (fun out i wr => ∃ z : Nat, z ≤ lv ∧ i = .int .i64 (z : Int) ∧ Hd (Ext w6 wr uo out (KB ++ hdNd x ++ tlNd (x.tail.take z)))) (fun _ i _ => lv - (intOf i).toNat)
        case atStart => exact ⟨0, by omega, rfl, ⟨by rw [List.take_zero]; unfold tlNd; rw [List.map_nil, List.append_nil]; exact E9.out⟩⟩
        case round =>
          (clear E9 g9); (obtain ⟨z, hzz, rfl, hEz⟩ := hrel)
          by_cases hzl : z < lv
          · (have hz1 : (z : Int) < (lv : Int) := by omega); (have hz0 : (0 : Int) ≤ (z : Int) := by omega); (have gz := (hEz.out.kept.block G8 (lt_of_heap g6.out) hGo.out).trans g6.out); (obtain ⟨d0, d1, d2, d3⟩ := slotN4 gz); (have hzr : RdZ wr (.slice av lv cv) x.tail := hzw.out.kept (k02.out.trans' (Kept.ob_nil (hE6.out.trans hEz.out).kept))); (obtain ⟨b', o', rfl, hc⟩ := RdZ.at hzr z (by rw [hlv.out]; exact hzl)); (have hnz := hid (tl_take (t := x.tail) (z := z) (by rw [hlv.out]; exact hzl))); (have hcr := hcs.out (x.tail.getD z 0) (by rw [List.getD_eq_getElem?_getD, List.getElem?_eq_getElem (by rw [hlv.out]; exact hzl)]; exact List.getElem_mem _)); (obtain ⟨cc, hcc⟩ : ∃ c : Nat, x.tail.getD z 0 = (c : Int) := ⟨(x.tail.getD z 0).toNat, by omega⟩); (rw [hcc] at hc hnz hcr); (rw [Int.toNat_natCast] at hnz); (have hc7 : cc < 7 := by omega)
            have hsz : Hd ((KB ++ hdNd x ++ tlNd (x.tail.take z)).length + 1 ≤ maxLen ∧ ((KB ++ hdNd x ++ tlNd (x.tail.take z)).length + 1) * 1 ≤ 140737488355328) := ⟨by
              (have hm : maxLen = 9223372036854775807 := rfl); (have h1 : (tlNd (x.tail.take z)).length ≤ z := by unfold tlNd; rw [List.length_map, List.length_take]; omega)
              rw [List.length_append, List.length_append, hdNd_len]; omega⟩
            (clear hcc hcr hzr gz); (go_wp2_with (at_builtin; refine wpList_append_lit _ rfl _ _ 45 rfl 5 1 1 TByt _ _ _ rfl hEz.out.own 1 [_] rfl rfl ?c1 ?c2 ?c3 ?_))
            case c1 => simp [Value.oneCell']
            case c2 => exact hsz.out.1
            case c3 => exact hsz.out.2
            intro v' wz h2 h3 h4 _
            have hEz' : Hd (Ext w6 wz uo v' (KB ++ hdNd x ++ tlNd (x.tail.take (z + 1)))) := ⟨by
              (rw [hnz.out, ← List.append_assoc]); (refine hEz.out.add (us := [byt cc 0]) ?_ h3 h4); (rw [List.map_cons, List.map_nil, ← byt_lit (show cc < 256 by omega)])
              simpa using h2⟩
            (clear h2 h3 h4 hEz hsz hnz d0 d1 d2 d3 hc); (go_wp2); (go_roundw)
            case rel => first | exact ⟨z + 1, by omega, by go_num, hEz'⟩ | ((repeat apply Exists.intro); exact ⟨⟨z + 1, by omega, by go_num, hEz'⟩, rfl⟩)
            case measure => simp [intOf]; omega
          · have hz1 : ¬ (z : Int) < (lv : Int) := by omega
            have hEn : Hd (Ext w2 wr (.slice none 0 0) u4 (encK (A' : Int) (M' : Int) (nds q) (know + 1))) := ⟨by
              (have := hE6.out.trans hEz.out); (rw [List.take_of_length_le (by rw [hlv.out]; omega)] at this); (rw [hnx.out, hnd.out, ← List.append_assoc])
              exact this⟩
            (clear hEz hnx hnd); (go_wp2); (go_roundw)
            case rel => first | exact ⟨know + 1, by omega, by go_num, hEn⟩ | ((repeat apply Exists.intro); exact ⟨⟨know + 1, by omega, by go_num, hEn⟩, rfl⟩)
            case measure => simp [intOf]; omega
      | true =>
        have hs8 : Hd ((KB ++ encB P 2 ++ encB D 4).length + 2 ≤ maxLen ∧ ((KB ++ encB P 2 ++ encB D 4).length + 2) * 1 ≤ 140737488355328) := ⟨by
          have hm : maxLen = 9223372036854775807 := rfl
          simp [encB_len]; omega⟩
        go_wp2_with (at_builtin; refine wpList_append_lit _ rfl _ _ 45 rfl 5 1 1 TByt _ _ _ rfl E8'.out.own 2 [_, _] rfl rfl ?c1 ?c2 ?c3 ?_)
        case c1 => simp [Value.oneCell']
        case c2 => exact hs8.out.1
        case c3 => exact hs8.out.2
        intro v9 w9 h2 h3 h4 _
        have E9 : Hd (Ext w6 w9 uo v9 (KB ++ hdNd x)) := ⟨by
          have := E8'.out.add (us := [byt 1 0, byt lv 0]) (by
            rw [List.map_cons, List.map_cons, List.map_nil, ← byt_lit (show lv < 256 by omega), ← byt_lit (show 1 < 256 by decide)]
            simpa using h2) h3 h4
          rw [hhd.out]
          simpa using this⟩
        (have g9 := hid ((E9.out.kept.block G8 (lt_of_heap g6.out) hGo.out).trans g6.out)); (clear h2 h3 h4 hs8 E8' d0 d1 d2 d3 g8 hhd); (obtain ⟨d0, d1, d2, d3⟩ := slotN4 g9.out); (obtain ⟨know, hknow⟩ : ∃ know : Nat, know = k := ⟨_, rfl⟩); (subst hknow); (go_wp2); (clear d0 d1 d2 d3)
        go_loopw [4, 55] (fun out i wr => ∃ z : Nat, z ≤ lv ∧ i = .int .i64 (z : Int) ∧ Hd (Ext w6 wr uo out (KB ++ hdNd x ++ tlNd (x.tail.take z)))) (fun _ i _ => lv - (intOf i).toNat)
        case atStart => exact ⟨0, by omega, rfl, ⟨by rw [List.take_zero]; unfold tlNd; rw [List.map_nil, List.append_nil]; exact E9.out⟩⟩
        case round =>
          (clear E9 g9); (obtain ⟨z, hzz, rfl, hEz⟩ := hrel)
          by_cases hzl : z < lv
          · (have hz1 : (z : Int) < (lv : Int) := by omega); (have hz0 : (0 : Int) ≤ (z : Int) := by omega); (have gz := (hEz.out.kept.block G8 (lt_of_heap g6.out) hGo.out).trans g6.out); (obtain ⟨d0, d1, d2, d3⟩ := slotN4 gz); (have hzr : RdZ wr (.slice av lv cv) x.tail := hzw.out.kept (k02.out.trans' (Kept.ob_nil (hE6.out.trans hEz.out).kept))); (obtain ⟨b', o', rfl, hc⟩ := RdZ.at hzr z (by rw [hlv.out]; exact hzl)); (have hnz := hid (tl_take (t := x.tail) (z := z) (by rw [hlv.out]; exact hzl))); (have hcr := hcs.out (x.tail.getD z 0) (by rw [List.getD_eq_getElem?_getD, List.getElem?_eq_getElem (by rw [hlv.out]; exact hzl)]; exact List.getElem_mem _)); (obtain ⟨cc, hcc⟩ : ∃ c : Nat, x.tail.getD z 0 = (c : Int) := ⟨(x.tail.getD z 0).toNat, by omega⟩); (rw [hcc] at hc hnz hcr); (rw [Int.toNat_natCast] at hnz); (have hc7 : cc < 7 := by omega)
            have hsz : Hd ((KB ++ hdNd x ++ tlNd (x.tail.take z)).length + 1 ≤ maxLen ∧ ((KB ++ hdNd x ++ tlNd (x.tail.take z)).length + 1) * 1 ≤ 140737488355328) := ⟨by
              (have hm : maxLen = 9223372036854775807 := rfl); (have h1 : (tlNd (x.tail.take z)).length ≤ z := by unfold tlNd; rw [List.length_map, List.length_take]; omega)
              rw [List.length_append, List.length_append, hdNd_len]; omega⟩
            (clear hcc hcr hzr gz); (go_wp2_with (at_builtin; refine wpList_append_lit _ rfl _ _ 45 rfl 5 1 1 TByt _ _ _ rfl hEz.out.own 1 [_] rfl rfl ?c1 ?c2 ?c3 ?_))
            case c1 => simp [Value.oneCell']
            case c2 => exact hsz.out.1
            case c3 => exact hsz.out.2
            intro v' wz h2 h3 h4 _
            have hEz' : Hd (Ext w6 wz uo v' (KB ++ hdNd x ++ tlNd (x.tail.take (z + 1)))) := ⟨by
              (rw [hnz.out, ← List.append_assoc]); (refine hEz.out.add (us := [byt cc 0]) ?_ h3 h4); (rw [List.map_cons, List.map_nil, ← byt_lit (show cc < 256 by omega)])
              simpa using h2⟩
            (clear h2 h3 h4 hEz hsz hnz d0 d1 d2 d3 hc); (go_wp2); (go_roundw)
            case rel => first | exact ⟨z + 1, by omega, by go_num, hEz'⟩ | ((repeat apply Exists.intro); exact ⟨⟨z + 1, by omega, by go_num, hEz'⟩, rfl⟩)
            case measure => simp [intOf]; omega
          · have hz1 : ¬ (z : Int) < (lv : Int) := by omega
            have hEn : Hd (Ext w2 wr (.slice none 0 0) u4 (encK (A' : Int) (M' : Int) (nds q) (know + 1))) := ⟨by
              (have := hE6.out.trans hEz.out); (rw [List.take_of_length_le (by rw [hlv.out]; omega)] at this); (rw [hnx.out, hnd.out, ← List.append_assoc])
              exact this⟩
            (clear hEz hnx hnd); (go_wp2); (go_roundw)
            case rel => first | exact ⟨know + 1, by omega, by go_num, hEn⟩ | ((repeat apply Exists.intro); exact ⟨⟨know + 1, by omega, by go_num, hEn⟩, rfl⟩)
            case measure => simp [intOf]; omega
    · (obtain rfl : k = len := by omega); (have hk1 : ¬ (k : Int) < (k : Int) := by omega)
      have hv : Hd (Rd wr 1 u4 (encC (A' : Int) (M' : Int) (nds q)).length ((encC (A' : Int) (M' : Int) (nds q)).map B8)) := ⟨by
        have := Rd.of_own hE.out.own
        rw [← encK_all, hndl.out]; exact this⟩
      (clear hE); (go_wp2); (go_ret2); (exact ⟨.inl ⟨hok.out, _, rfl, hv.out⟩, kW.out⟩)
end Go.Proofs.Ytkdmlakookgolaa
