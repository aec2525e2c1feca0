/- certificate.encodable (printed by gen_encd.py). -/
import Derived.Test.YtkdmlakookgolaaEncLZ
import Derived.Test.YtkdmlakookgolaaCk2Z
namespace Go.Mg
def okB1 (x : Int) : Bool := decide (0 ≤ x ∧ x ≤ 100000)
def okB2 (x : Int) : Bool := decide (0 ≤ x ∧ x < 7)
end Go.Mg
namespace Go.Proofs.Ytkdmlakookgolaa
open Go.RowKit Go.Mk Go.Pil Go.Mg
theorem encb1_any (x : Int) (w : World) : Calls Try.prog 106 #[.int .i64 x] w fun e w' => e = .returned (.bool (okB1 x)) ∧ w' = w := by
  by_cases h0 : 0 ≤ x
  · by_cases h1 : x ≤ 100000
    · (have hv : okB1 x = true := decide_eq_true ⟨h0, h1⟩); (rw [hv])
      go_enter Try.func106, Try.ntmps106
      (go_wp2); (go_ret); (exact ⟨rfl, rfl⟩)
    · (have hv : okB1 x = false := decide_eq_false fun h => h1 h.2); (rw [hv])
      go_enter Try.func106, Try.ntmps106
      (go_wp2); (go_ret); (exact ⟨rfl, rfl⟩)
  · (have hv : okB1 x = false := decide_eq_false fun h => h0 h.1); (rw [hv])
    go_enter Try.func106, Try.ntmps106
    (go_wp2); (go_ret); (exact ⟨rfl, rfl⟩)
theorem encb2_any (x : Int) (w : World) : Calls Try.prog 107 #[.int .i64 x] w fun e w' => e = .returned (.bool (okB2 x)) ∧ w' = w := by
  by_cases h0 : 0 ≤ x
  · by_cases h1 : x < 7
    · (have hv : okB2 x = true := decide_eq_true ⟨h0, h1⟩); (rw [hv])
      go_enter Try.func107, Try.ntmps107
      (go_wp2); (go_ret); (exact ⟨rfl, rfl⟩)
    · (have hv : okB2 x = false := decide_eq_false fun h => h1 h.2); (rw [hv])
      go_enter Try.func107, Try.ntmps107
      (go_wp2); (go_ret); (exact ⟨rfl, rfl⟩)
  · (have hv : okB2 x = false := decide_eq_false fun h => h0 h.1); (rw [hv])
    go_enter Try.func107, Try.ntmps107
    (go_wp2); (go_ret); (exact ⟨rfl, rfl⟩)
set_option maxRecDepth 100000 in
set_option maxHeartbeats 4000000 in
theorem encodable_any (A M : Int) (v : Value) (q : List (Nd × Value)) (w : World) (hq : RdN w v q) :
    Calls Try.prog 67 #[.agg #[.int .i64 A, .int .i64 M, v]] w fun e w' => (∃ c, e = .returned c ∧ IsB c (EncOk A M (nds q))) ∧ Kept no w w' := by
  (obtain ⟨an, cn, rfl, hlc, hcm⟩ := Rd.shape2 hq.2); (have hm63 := maxLen_63); (obtain ⟨len, hlen⟩ : ∃ n, q.length = n := ⟨_, rfl⟩); (rw [hlen] at hq hlc ⊢); (have hndl : Hd ((nds q).length = len) := ⟨by rw [nds_length]; exact hlen⟩); (replace hlen := hid hlen); (obtain ⟨w1, hw1, g1, k1⟩ := alloc_named w (.cells #[.int .i64 A, .int .i64 M, .slice an len cn] 25)); (have gC := hid g1); (have kF := hid k1); (replace hq := hid hq)
  go_enter Try.func67, Try.ntmps67
  (go_upto_region 1 with fail); (rw [← hw1]); (generalize w.heap.size = GC at gC); (obtain ⟨c0, c1, c2⟩ := slotC gC.out); (clear hw1 g1 k1); (have H2 := hid (fun x W => encb2_any x W)); (have H1 := hid (fun x W => encb1_any x W)); (go_wp2_with fail); (with_reducible refine (H2.out A w1).mono ?_); (rintro e w2 ⟨rfl, hw⟩); (obtain rfl := hw.symm)
  cases hA : okB2 A with
  | false =>
    (have hv : Hd (¬ EncOk A M (nds q)) := ⟨fun h => of_decide_eq_false hA ⟨h.a0, h.a1⟩⟩); (clear hA); (go_wp2); (go_ret); (exact ⟨⟨_, rfl, isB_no hv.out⟩, kF.out⟩)
  | true =>
  (have hA' := hid (of_decide_eq_true hA)); (clear hA); (go_wp2_with fail); (with_reducible refine (H1.out M _).mono ?_); (rintro e w2 ⟨rfl, hw⟩); (obtain rfl := hw.symm)
  cases hM : okB1 M with
  | false =>
    (have hv : Hd (¬ EncOk A M (nds q)) := ⟨fun h => of_decide_eq_false hM ⟨h.m0, h.m1⟩⟩); (clear hM); (go_wp2); (go_ret); (exact ⟨⟨_, rfl, isB_no hv.out⟩, kF.out⟩)
  | true =>
  (have hM' := hid (of_decide_eq_true hM)); (clear hM)
  by_cases hl4 : 4000 < len
  · (have hl4i : (4000 : Int) < (len : Int) := by omega); (have hl4d : decide ((4000 : Int) < (len : Int)) = true := decide_eq_true hl4i); (have hv : Hd (¬ EncOk A M (nds q)) := ⟨fun h => by have := h.len; rw [hndl.out] at this; omega⟩); (go_wp2); (go_ret); (exact ⟨⟨_, rfl, isB_no hv.out⟩, kF.out⟩)
  (have hl4i : ¬ (4000 : Int) < (len : Int) := by omega); (have hl4d : decide ((4000 : Int) < (len : Int)) = false := decide_eq_false hl4i); (go_wp2)
  go_loopw [30] (fun i wr => ∃ k : Nat, k ≤ len ∧ i = .int .i64 (k : Int) ∧ Hd (∀ j, j < k → NdOk j ((nds q).getD j default)) ∧ Hd (Kept no w1 wr)) (fun i _ => len - (intOf i).toNat)
  case atStart => exact ⟨0, by omega, rfl, ⟨fun j hj => by omega⟩, ⟨Kept.refl _ _⟩⟩
  case round =>
    (obtain ⟨k, hk, rfl, hok, hW⟩ := hrel); (have kW := hid (kF.out.trans' hW.out))
    by_cases hlt : k < len
    · (have hk1 : (k : Int) < (len : Int) := by omega); (have hk0 : (0 : Int) ≤ (k : Int) := by omega); (obtain ⟨b, o, x, tv, rfl, ex, a0, a1, a2, a3, hz⟩ := (hq.out.kept kW.out).at k (by rw [hlen.out]; exact hlt)); (have hxk : Hd ((nds q).getD k default = x) := ⟨nds_at (by rw [hlen.out]; exact hlt) ex⟩); (have hbad : Hd (¬ NdOk k x → ¬ EncOk A M (nds q)) := ⟨fun h hc => h (by have := hc.nd k (by rw [hndl.out]; exact hlt); rwa [hxk.out] at this)⟩)
      have hgood : Hd (NdOk k x → ∀ j, j < k + 1 → NdOk j ((nds q).getD j default)) := ⟨fun h j hj => by
        by_cases hjk : j = k
        · subst hjk; rw [hxk.out]; exact h
        · exact hok.out j (by omega)⟩
      (obtain ⟨av, cv, rfl, hcv1, _⟩ := Rd.shape2 hz); (obtain ⟨lv, hlv⟩ : ∃ l, x.tail.length = l := ⟨_, rfl⟩); (rw [hlv] at a1 hz hcv1); (replace hlv := hid hlv); (obtain ⟨P, hP⟩ : ∃ p, x.par = p := ⟨_, rfl⟩); (obtain ⟨L, hL⟩ : ∃ l, x.leaf = l := ⟨_, rfl⟩); (obtain ⟨B, hB⟩ : ∃ l, x.bd = l := ⟨_, rfl⟩); (rw [hP] at a0); (rw [hB] at a2); (rw [hL] at a3); (replace hP := hid hP); (replace hB := hid hB); (clear ex hL hok hxk); (go_upto_region 8 with fail); (obtain ⟨w4, hw4, g4, k4⟩ := alloc_named wr (.cells #[.int .i64 P, .slice av lv cv, .int .i64 B, .bool L] 76)); (rw [← hw4]); (obtain ⟨d0, d1, d2, d3⟩ := slotN4 g4); (generalize wr.heap.size = G8 at d0 d1 d2 d3 g4); (have hW4 := hid (hW.out.trans' k4)); (have hz4 := hid (hz.kept k4)); (have kF := hid (kW.out.trans' k4)); (replace g4 := hid g4); (clear hw4 k4 hW hz a0 a1 a2 a3 kW)
      by_cases b1 : P < -1
      · (have b1d : decide (P < -1) = true := decide_eq_true b1); (have hv : Hd (¬ EncOk A M (nds q)) := ⟨hbad.out fun h => by have := h.lo; rw [hP.out] at this; omega⟩); (go_wp2); (go_ret); (exact ⟨⟨_, rfl, isB_no hv.out⟩, kF.out⟩)
      have b1d : decide (P < -1) = false := decide_eq_false b1
      by_cases b2 : (k : Int) ≤ P
      · (have b2d : decide ((k : Int) ≤ P) = true := decide_eq_true b2); (have hv : Hd (¬ EncOk A M (nds q)) := ⟨hbad.out fun h => by have := h.hi; rw [hP.out] at this; omega⟩); (go_wp2); (go_ret); (exact ⟨⟨_, rfl, isB_no hv.out⟩, kF.out⟩)
      (have b2d : decide ((k : Int) ≤ P) = false := decide_eq_false b2); (go_wp2_with fail); (with_reducible refine (H1.out B _).mono ?_); (rintro e w5 ⟨rfl, hw⟩); (obtain rfl := hw.symm)
      cases hBo : okB1 B with
      | false =>
        have hv : Hd (¬ EncOk A M (nds q)) := ⟨hbad.out fun h => by
          (have h1 := h.b0); (have h2 := h.b1); (rw [hB.out] at h1 h2)
          exact of_decide_eq_false hBo ⟨h1, h2⟩⟩
        (clear hBo); (go_wp2); (go_ret); (exact ⟨⟨_, rfl, isB_no hv.out⟩, kF.out⟩)
      | true =>
      (have hB' := hid (of_decide_eq_true hBo)); (clear hBo)
      by_cases b3 : lv < 1
      · (have b3i : (lv : Int) < 1 := by omega); (have b3d : decide ((lv : Int) < 1) = true := decide_eq_true b3i); (have b3z : lv = 0 := by omega); (have hv : Hd (¬ EncOk A M (nds q)) := ⟨hbad.out fun h => by have := h.t0; rw [hlv.out] at this; omega⟩); (go_wp2); (go_ret); (exact ⟨⟨_, rfl, isB_no hv.out⟩, kF.out⟩)
      (have b3i : ¬ (lv : Int) < 1 := by omega); (have b3d : decide ((lv : Int) < 1) = false := decide_eq_false b3i)
      by_cases b4 : 7 < lv
      · (have b4i : (7 : Int) < (lv : Int) := by omega); (have b4d : decide ((7 : Int) < (lv : Int)) = true := decide_eq_true b4i); (have hv : Hd (¬ EncOk A M (nds q)) := ⟨hbad.out fun h => by have := h.t1; rw [hlv.out] at this; omega⟩); (go_wp2); (go_ret); (exact ⟨⟨_, rfl, isB_no hv.out⟩, kF.out⟩)
      (have b4i : ¬ (7 : Int) < (lv : Int) := by omega); (have b4d : decide ((7 : Int) < (lv : Int)) = false := decide_eq_false b4i); (obtain ⟨know, hknow⟩ : ∃ know : Nat, know = k := ⟨_, rfl⟩); (subst hknow); (go_wp2)
      go_loopw [66] (fun i wr => ∃ z : Nat, z ≤ lv ∧ i = .int .i64 (z : Int) ∧ Hd (∀ c ∈ x.tail.take z, 0 ≤ c ∧ c < 7) ∧ Hd (Kept no w4 wr)) (fun i _ => lv - (intOf i).toNat)
      case atStart => exact ⟨0, by omega, rfl, ⟨fun c h => by simp at h⟩, ⟨Kept.refl _ _⟩⟩
      case round =>
        (obtain ⟨z, hz, rfl, hcs, hKz⟩ := hrel); (have kFz := hid (kF.out.trans' hKz.out))
        by_cases hzl : z < lv
        · (have hz1 : (z : Int) < (lv : Int) := by omega); (have hz0 : (0 : Int) ≤ (z : Int) := by omega); (obtain ⟨b', o', rfl, hc⟩ := RdZ.at (hz4.out.kept hKz.out) z (by rw [hlv.out]; exact hzl)); (have hmem : x.tail.getD z 0 ∈ x.tail := by rw [List.getD_eq_getElem?_getD, List.getElem?_eq_getElem (by rw [hlv.out]; exact hzl)]; exact List.getElem_mem _); (have hbad2 : Hd (¬ (0 ≤ x.tail.getD z 0 ∧ x.tail.getD z 0 < 7) → ¬ EncOk A M (nds q)) := ⟨fun h => hbad.out fun h' => h (h'.cs _ hmem)⟩)
          have hstep : Hd (0 ≤ x.tail.getD z 0 ∧ x.tail.getD z 0 < 7 → ∀ c ∈ x.tail.take (z + 1), 0 ≤ c ∧ c < 7) := ⟨fun h c hc => by
            rw [List.take_succ_eq_append_getElem (by rw [hlv.out]; exact hzl), List.mem_append] at hc
            rcases hc with hc | hc
            · exact hcs.out c hc
            · (rw [List.mem_singleton.1 hc]); (rw [List.getD_eq_getElem?_getD, List.getElem?_eq_getElem (by rw [hlv.out]; exact hzl)] at h)
              exact h⟩
          (generalize x.tail.getD z 0 = cc at hc hbad2 hstep); (clear hmem hcs); (go_wp2_with fail); (with_reducible refine (H2.out cc _).mono ?_); (rintro e w6 ⟨rfl, hw⟩); (obtain rfl := hw.symm)
          cases hco : okB2 cc with
          | false =>
            (have hv : Hd (¬ EncOk A M (nds q)) := ⟨hbad2.out (of_decide_eq_false hco)⟩); (have kF := kFz); (clear hco); (go_wp2); (go_ret); (exact ⟨⟨_, rfl, isB_no hv.out⟩, kF.out⟩)
          | true =>
            (have hcs2 := hid (hstep.out (of_decide_eq_true hco))); (clear hco hstep hbad2 hc); (go_wp2); (go_roundw)
            case rel => first | exact ⟨z + 1, by omega, by go_num, hcs2, hKz⟩ | ((repeat apply Exists.intro); exact ⟨⟨z + 1, by omega, by go_num, hcs2, hKz⟩, rfl⟩)
            case measure => simp [intOf]; omega
        · (have hz1 : ¬ (z : Int) < (lv : Int) := by omega); (have hall := hid (hgood.out ⟨by rw [hP.out]; omega, by rw [hP.out]; omega, by rw [hB.out]; exact hB'.out.1, by rw [hB.out]; exact hB'.out.2, by rw [hlv.out]; omega, by rw [hlv.out]; omega, fun c hc => hcs.out c (by rw [List.take_of_length_le (by rw [hlv.out]; omega)]; exact hc)⟩)); (have hWz := hid (hW4.out.trans' hKz.out)); (clear hcs hKz hgood hbad kFz kF hW4 hz4 g4 d0 d1 d2 d3); (go_wp2); (go_roundw)
          case rel => first | exact ⟨know + 1, by omega, by go_num, hall, hWz⟩ | ((repeat apply Exists.intro); exact ⟨⟨know + 1, by omega, by go_num, hall, hWz⟩, rfl⟩)
          case measure => simp [intOf]; omega
    · (have hk1 : ¬ (k : Int) < (len : Int) := by omega); (have hv : Hd (EncOk A M (nds q)) := ⟨⟨hA'.out.1, hA'.out.2, hM'.out.1, hM'.out.2, by rw [hndl.out]; omega, fun i hi => hok.out i (by rw [hndl.out] at hi; omega)⟩⟩); (clear hok); (go_wp2); (go_ret); (exact ⟨⟨_, rfl, isB_yes hv.out⟩, kW.out⟩)
end Go.Proofs.Ytkdmlakookgolaa
