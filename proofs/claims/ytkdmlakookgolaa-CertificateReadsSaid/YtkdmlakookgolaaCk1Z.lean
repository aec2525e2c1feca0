/- certificate.only, isTail, later, proved (printed by gen_ck1.py). -/
import Derived.Test.YtkdmlakookgolaaRTailZ
import Derived.Test.YtkdmlakookgolaaCntZ
namespace Go.Mg
open Go.Pil
theorem hd_all {n : Nat} {p : List Int} (h : ballot (n : Int) p = true) : hd (flags n (allC n)) p = p.head? := by
  (unfold ballot at h); (have h := of_decide_eq_true h); (unfold hd kept); (rw [List.filter_eq_self.2 fun x hx => ?_]); (rw [flags_in]); (have := h.2 x hx); (exact decide_eq_true ⟨this.1, this.2, mem_allC.2 this⟩)
/-- First of all, or ranked later. -/
theorem first_later {n : Nat} {gs : List Grp} (hp : isPile (n : Int) gs = true) (h7 : n ≤ 7) {e : Int} (h0 : 0 ≤ e) (hn : e < n) : prefers gs e (-1) - sumIf (fun p => decide (0 < idxI p e)) gs = vt n gs (allC n) e := by
  (have hb := (isPile_iff _ _).1 hp); (unfold prefers); (rw [if_pos ⟨isPile_mono (by omega) hp, by omega⟩, vt_eq _ _ h0 hn])
  have h1 : ∀ g ∈ gs, ((hd (flags n (allC n)) g.p == some e) || decide (0 < idxI g.p e)) = pref g.p e (-1) ∧ ¬ ((hd (flags n (allC n)) g.p == some e) = true ∧ decide (0 < idxI g.p e) = true) := fun g hg => by
    (have hbg := (hb.1 g hg).1); (rw [hd_all hbg]); (unfold ballot at hbg); (have hbg := of_decide_eq_true hbg); (have hm1 : (-1 : Int) ∉ g.p := fun h => by have := hbg.2 _ h; omega); (generalize g.p = p at hm1 ⊢)
    cases p with
    | nil => simp [idxI, pref]
    | cons x t =>
      (have hx1 : x ≠ -1 := fun h => hm1 (by simp [h])); (have ht1 : (-1 : Int) ∉ t := fun h => hm1 (by simp [h])); (have hl : t.idxOf (-1) = t.length := List.idxOf_eq_length ht1); (have hl2 : (x :: t).idxOf (-1) = t.length + 1 := by rw [List.idxOf_cons, show (x == (-1 : Int)) = false from by rw [beq_eq_false_iff_ne]; exact hx1]; simp only [cond_false]; rw [hl]); (unfold pref idxI); (rw [hl2, List.idxOf_cons])
      by_cases hxe : x = e
      · subst hxe
        simp
      · (rw [show (x == e) = false from by rw [beq_eq_false_iff_ne]; exact hxe]); (simp only [cond_false, List.head?_cons, List.mem_cons]); (have hse : (some x == some e) = false := by simpa using hxe); (rw [hse])
        by_cases het : e ∈ t
        · (have := List.idxOf_lt_length_iff.2 het); (rw [if_pos (.inr het)])
          simp
          omega
        · (have := List.idxOf_eq_length het); (rw [if_neg (fun h => h.elim (fun h => hxe h.symm) het), this])
          simp
  (have h2 := sumIf_or (Q := fun p => hd (flags n (allC n)) p == some e) (R := fun p => decide (0 < idxI p e)) gs fun g hg => (h1 g hg).2); (have h3 : sumIf (fun p => (hd (flags n (allC n)) p == some e) || decide (0 < idxI p e)) gs = sumIf (fun p => pref p e (-1)) gs := sumIf_congr fun g hg => (h1 g hg).1)
  omega
/-- The differences within a tail, and of each with itself. -/
def rowC (n : Nat) (gs : List Grp) (tail : List Int) (i : Nat) : List Int := (tail.drop i).map fun d => vt n gs (tail.drop i) (tail.getD i 0) - vt n gs (tail.drop i) d
def dinC (n : Nat) (gs : List Grp) (tail : List Int) (k : Nat) : List Int := (List.range k).flatMap (rowC n gs tail)
theorem dinC_succ (n : Nat) (gs : List Grp) (tail : List Int) (k : Nat) : dinC n gs tail (k + 1) = dinC n gs tail k ++ rowC n gs tail k := by simp [dinC, List.range_succ]
theorem rowC_len (n : Nat) (gs : List Grp) (tail : List Int) (i : Nat) : (rowC n gs tail i).length = tail.length - i := by simp [rowC]
theorem rowC_at {n : Nat} {gs : List Grp} {tail : List Int} {i k : Nat} (h : i + k < tail.length) : (rowC n gs tail i).getD k 0 = vt n gs (tail.drop i) (tail.getD i 0) - vt n gs (tail.drop i) (tail.getD (i + k) 0) := by
  (unfold rowC); (rw [List.getD_eq_getElem?_getD, List.getElem?_map, List.getElem?_drop, List.getElem?_eq_getElem h, List.getD_eq_getElem?_getD (i := i + k), List.getElem?_eq_getElem h]; rfl)
theorem rowC_cons {n : Nat} {gs : List Grp} {tail : List Int} {i : Nat} (h : i < tail.length) : rowC n gs tail i = 0 :: rowI n gs tail i := by
  unfold rowC rowI
  conv => lhs; rw [List.drop_eq_getElem_cons h]
  (rw [List.map_cons, List.getD_eq_getElem?_getD, List.getElem?_eq_getElem h]); (have e : tail[i] :: tail.drop (i + 1) = tail.drop i := (List.drop_eq_getElem_cons h).symm); (rw [e]; simp)
theorem dinC_mx (n : Nat) (gs : List Grp) (tail : List Int) (L : List Int) : mx (dinC n gs tail tail.length ++ L) = mx (din n gs tail ++ L) := by
  have h1 : ∀ x, x ∈ dinC n gs tail tail.length → x ≤ 0 ∨ x ∈ din n gs tail := fun x hx => by
    (unfold dinC at hx); (obtain ⟨i, hi, hx⟩ := List.mem_flatMap.1 hx); (rw [rowC_cons (List.mem_range.1 hi)] at hx)
    rcases List.mem_cons.1 hx with rfl | hx
    · exact .inl (Int.le_refl _)
    · exact .inr (List.mem_flatMap.2 ⟨i, hi, hx⟩)
  have h2 : ∀ x, x ∈ din n gs tail → x ∈ dinC n gs tail tail.length := fun x hx => by
    (obtain ⟨i, hi, hx⟩ := List.mem_flatMap.1 (show x ∈ (List.range tail.length).flatMap (rowI n gs tail) from hx)); (refine List.mem_flatMap.2 ⟨i, hi, ?_⟩); (rw [rowC_cons (List.mem_range.1 hi)]); (exact List.mem_cons_of_mem _ hx)
  refine mx_eq (fun x hx => ?_) (fun x hx => ?_)
  · rcases List.mem_append.1 hx with hx | hx
    · exact (h1 x hx).imp id fun h => List.mem_append_left _ h
    · exact .inr (List.mem_append_right _ hx)
  · rcases List.mem_append.1 hx with hx | hx
    · exact .inr (List.mem_append_left _ (h2 x hx))
    · exact .inr (List.mem_append_right _ hx)
theorem din_leC {n : Nat} {m : Int} {gs : List Grp} (h : isPile m gs = true) (tail : List Int) (k : Nat) : ∀ x ∈ dinC n gs tail k, x ≤ 100000 := fun x hx => by
  (unfold dinC at hx); (obtain ⟨t, _, hx⟩ := List.mem_flatMap.1 hx); (unfold rowC at hx); (obtain ⟨d, _, rfl⟩ := List.mem_map.1 hx); (have := vt_small (n := n) h (tail.drop t) (tail.getD t 0)); (have := vt_small (n := n) h (tail.drop t) d)
  omega
theorem dout_leC {n : Nat} {m : Int} {gs : List Grp} (h : isPile m gs = true) (tail : List Int) (k : Nat) : ∀ x ∈ doutK n gs tail k, x ≤ 100000 := fun x hx => by
  (unfold doutK at hx); (obtain ⟨e, _, hx⟩ := List.mem_flatMap.1 hx); (unfold colE at hx); (obtain ⟨t, _, rfl⟩ := List.mem_map.1 hx); (have := vt_small (n := n) h (allC n) e); (have := prefers_small h t e)
  omega
end Go.Mg
namespace Go.Proofs.Ytkdmlakookgolaa
open Go.RowKit Go.Mk Go.Pil Go.Mg
set_option maxRecDepth 20000 in
set_option maxHeartbeats 1000000 in
theorem ccontains_any (v : Value) (zs : List Int) (x : Int) (w : World) (hr : RdZ w v zs) : Calls Try.prog 87 #[v, .int .i64 x] w fun e w' => e = .returned (.bool (decide (x ∈ zs))) ∧ Qt w w' := by
  have HI := hid (index_any v zs x w hr)
  have hd : Hd (decide (0 ≤ idxI zs x) = decide (x ∈ zs)) := ⟨by
    unfold idxI
    by_cases h : x ∈ zs
    · rw [if_pos h, decide_eq_true h]; exact decide_eq_true (by omega)
    · rw [if_neg h, decide_eq_false h]; rfl⟩
  (obtain ⟨i, hi⟩ : ∃ i, idxI zs x = i := ⟨_, rfl⟩); (rw [hi] at HI hd); (clear hr hi)
  go_enter Try.func87, Try.ntmps87
  (go_wp2_with fail); (refine HI.out.mono ?_); (rintro e w1 ⟨rfl, q1⟩); (have hd := hd.out); (replace q1 := hid q1); (clear HI); (go_wp2); (go_ret); (exact ⟨by first | rfl | rw [← hd] | rw [hd], q1.out⟩)
set_option maxRecDepth 20000 in
set_option maxHeartbeats 1000000 in
theorem conly_any (n : Nat) (v : Value) (l : List Int) (w : World) (hn : n ≤ 7) (hl : ∀ x ∈ l, 0 ≤ x ∧ x < (n : Int)) (hr : RdZ w v l) : Calls Try.prog 96 #[.int .i64 (n : Int), v] w fun e w' => ∃ v', e = .returned v' ∧ RdT w' v' (flags n l) ∧ Kept no w w' := by
  (obtain ⟨ao, cap, rfl, hcap, hcm⟩ := Rd.shape2 hr); (have hm63 := maxLen_63); (have hmk := makeT n (by omega) w); (have g0 : Hd ((w.alloc (.cells (zsT (List.replicate n false)) 4)).heap[w.heap.size]? = some (.cells (zsT (flags n (l.take 0))) 4 (0, 0))) := ⟨by rw [List.take_zero, flags_nil]; exact heap_alloc_new _ _⟩); (have k0 := hid ((Kept.refl no w).alloc (.cells (zsT (List.replicate n false)) 4))); (replace hr := hid hr); (replace hl := hid hl)
  go_enter Try.func96, Try.ntmps96
  go_wp2
  go_loopw [12] (fun i wr => ∃ k : Nat, k ≤ l.length ∧ i = .int .i64 (k : Int) ∧ Hd (wr.heap[w.heap.size]? = some (.cells (zsT (flags n (l.take k))) 4 (0, 0))) ∧ Hd (Kept no w wr)) (fun i _ => l.length - (intOf i).toNat)
  case atStart => exact ⟨0, by omega, rfl, g0, k0⟩
  case round =>
    (clear g0 k0); (obtain ⟨k, hk, rfl, hg, hW⟩ := hrel)
    by_cases hlt : k < l.length
    · (have hk1 : (k : Int) < (l.length : Int) := by omega); (have hk0 : (0 : Int) ≤ (k : Int) := by omega); (obtain ⟨b, o, rfl, hc⟩ := (hr.out.kept hW.out).at k hlt); (have HT : Hd (l.take (k + 1) = l.take k ++ [l.getD k 0]) := ⟨by rw [List.take_succ_eq_append_getElem hlt]; simp [List.getD_eq_getElem?_getD, hlt]⟩); (have hz := hl.out (l.getD k 0) (by rw [List.getD_eq_getElem?_getD, List.getElem?_eq_getElem hlt]; simp)); (generalize l.getD k 0 = z at hc HT hz); (obtain ⟨c, rfl⟩ : ∃ c : Nat, z = (c : Int) := ⟨z.toNat, by omega⟩); (have hc1 : (c : Int) < (n : Int) := hz.2); (have hc0 : (0 : Int) ≤ (c : Int) := by omega); (have fs : wr.frozen? ⟨w.heap.size, c, none⟩ = false := row_free hg.out c)
      have cs : wr.cell? ⟨w.heap.size, c, none⟩ = some (.bool ((flags n (l.take k)).getD c false)) := by
        (rw [cell_of_row wr _ c _ _ _ hg.out]); (have : c < (flags n (l.take k)).length := by rw [flags_len]; omega)
        simp [zsT, this]
      (have hg' : Hd ((wr.setCell ⟨w.heap.size, c, none⟩ (.bool true)).heap[w.heap.size]? = some (.cells (zsT (flags n (l.take (k + 1)))) 4 (0, 0))) := ⟨by rw [setCell_row hg.out, zsT_set, flags_set _ _ (by omega), HT.out]⟩); (have hW' := hid (hW.out.setCell (a := ⟨w.heap.size, c, none⟩) (.inr (Nat.le_refl _)) (.bool true))); (clear HT hg hW hz); (go_wp2); (go_roundw)
      case rel => first | exact ⟨k + 1, by omega, by go_num, hg', hW'⟩ | ((repeat apply Exists.intro); exact ⟨⟨k + 1, by omega, by go_num, hg', hW'⟩, rfl⟩)
      case measure => simp [intOf]; omega
    · (obtain rfl : k = l.length := by omega); (have hrd : Hd (RdT wr (.slice (some ⟨w.heap.size, 0, none⟩) n n) (flags n l)) := ⟨zsT_rd (by have := hg.out; rwa [List.take_length] at this) n (flags_len _ _) (by have : maxLen = 9223372036854775807 := rfl; omega)⟩); (clear hg); (go_wp2); (go_ret); (exact ⟨_, rfl, hrd.out, hW.out⟩)
set_option maxRecDepth 20000 in
set_option maxHeartbeats 1000000 in
theorem ctail_any (n : Int) (v : Value) (p : List Int) (w : World) (hr : RdZ w v p) : Calls Try.prog 95 #[.int .i64 n, v] w fun e w' => e = .returned (.bool (isTail n p)) ∧ Kept no w w' := by
  (obtain ⟨ao, cap, rfl, hcap, hcm⟩ := Rd.shape2 hr); (have hm63 := maxLen_63); (have hadr := hid hr.addr); (replace hr := hid hr)
  go_enter Try.func95, Try.ntmps95
  go_wp2
  go_loopw [9] (fun i wr => ∃ k : Nat, k ≤ p.length ∧ i = .int .i64 (k : Int) ∧ Hd (ballot n (p.take k) = true) ∧ Hd (Kept no w wr)) (fun i _ => p.length - (intOf i).toNat)
  case atStart => exact ⟨0, by omega, rfl, ⟨by rw [ballot_iff]; simp⟩, ⟨Kept.refl _ _⟩⟩
  case round =>
    obtain ⟨k, hk, rfl, hb, hW⟩ := hrel
    by_cases hlt : k < p.length
    · (have hk1 : (k : Int) < (p.length : Int) := by omega); (have hk0 : (0 : Int) ≤ (k : Int) := by omega); (have hrw := hr.out.kept hW.out); (have hsl := pre_slice ao p.length cap k hadr.out (by omega)); (have hzt := hid (hrw.take k hk)); (obtain ⟨b, o, rfl, hc⟩ := hrw.at k hlt); (have HS := hid (ballot_step hlt hb.out)); (have HF := hid (ballot_fail hlt hb.out)); (have HT : Hd (p.take (k + 1) = p.take k ++ [p.getD k 0]) := ⟨by rw [List.take_succ_eq_append_getElem hlt]; simp [List.getD_eq_getElem?_getD, hlt]⟩); (generalize p.getD k 0 = z at hc HS HF HT); (clear hrw)
      by_cases h0 : z < 0
      · (have hd : decide (z < 0) = true := decide_eq_true h0); (have hv := hid (HF.out (by omega))); (clear HS HF HT hb hsl hzt); (go_wp2); (go_ret); (exact ⟨by rw [isTail_no hv.out]; rfl, hW.out⟩)
      · have hd : decide (z < 0) = false := decide_eq_false h0
        by_cases h1 : n ≤ z
        · (have hd1 : decide (n ≤ z) = true := decide_eq_true h1); (have hv := hid (HF.out (by omega))); (clear HS HF HT hb hsl hzt); (go_wp2); (go_ret); (exact ⟨by rw [isTail_no hv.out]; rfl, hW.out⟩)
        · have hd1 : decide (n ≤ z) = false := decide_eq_false h1
          have HC := hid (ccontains_any (.slice (some ⟨b, o, none⟩) k cap) (p.take k) z wr (by
            have := hzt.out; exact this))
          by_cases h2 : z ∈ p.take k
          · (have hv := hid (HF.out (fun h => h.2.2 h2))); (rw [decide_eq_true h2] at HC); (clear HS HF HT hb h2 hzt); (go_wp2_with fail); (with_reducible refine HC.out.mono ?_); (rintro e w2 ⟨rfl, q2⟩); (have kF := hid (hW.out.trans' q2.kept)); (clear HC q2); (go_wp2); (go_ret); (exact ⟨by rw [isTail_no hv.out]; rfl, kF.out⟩)
          · (have hb' := hid (HS.out.2 ⟨by omega, by omega, h2⟩)); (rw [decide_eq_false h2] at HC); (clear HS HF HT hb h2 hzt); (go_wp2_with fail); (with_reducible refine HC.out.mono ?_); (rintro e w2 ⟨rfl, q2⟩); (have kF := hid (hW.out.trans' q2.kept)); (clear HC q2); (go_wp2); (go_roundw)
            case rel => first | exact ⟨k + 1, by omega, by go_num, hb', kF⟩ | ((repeat apply Exists.intro); exact ⟨⟨k + 1, by omega, by go_num, hb', kF⟩, rfl⟩)
            case measure => simp [intOf]; omega
    · (obtain rfl : k = p.length := by omega); (have hv : Hd (ballot n p = true) := ⟨by have := hb.out; rwa [List.take_length] at this⟩); (clear hb)
      by_cases h0 : p.length = 0
      · (have h1 : ¬ (0 : Int) < (p.length : Int) := by omega); (have hd : decide ((0 : Int) < (p.length : Int)) = false := decide_eq_false h1); (have ht : Hd (isTail n p = false) := ⟨isTail_nil n (List.eq_nil_of_length_eq_zero h0)⟩); (go_wp2); (go_ret); (exact ⟨by rw [ht.out]; rfl, hW.out⟩)
      · (have h1 : (0 : Int) < (p.length : Int) := by omega); (have hd : decide ((0 : Int) < (p.length : Int)) = true := decide_eq_true h1); (have ht : Hd (isTail n p = decide (0 < p.length)) := ⟨by rw [isTail_yes hv.out (fun e => h0 (by rw [e]; rfl)), decide_eq_true (by omega)]⟩); (go_wp2); (go_ret); (exact ⟨by rw [ht.out]; rfl, hW.out⟩)
set_option maxRecDepth 20000 in
set_option maxHeartbeats 1000000 in
theorem later_any (v : Value) (ps : List (Grp × Value)) (c : Int) (w : World) (hr : RdG w v ps) (hp : isPile 7 (grps ps) = true) : Calls Try.prog 97 #[v, .int .i64 c] w fun e w' => e = .returned (.int .i64 (sumIf (fun p => decide (0 < idxI p c)) (grps ps))) ∧ Kept no w w' := by
  (obtain ⟨ao, cap, rfl, hcap, hcm⟩ := hr.shape); (have hm63 := maxLen_63); (have hb : Hd (∀ k, 0 ≤ sumIf (fun p => decide (0 < idxI p c)) ((grps ps).take k) ∧ sumIf (fun p => decide (0 < idxI p c)) ((grps ps).take k) ≤ 100000) := ⟨fun k => sumIf_pre (n := 7) hp k⟩); (replace hr := hid hr); (obtain ⟨len, hlen⟩ : ∃ len, ps.length = len := ⟨_, rfl⟩); (rw [hlen] at hr hcap ⊢); (replace hlen := hid hlen); (clear hp)
  go_enter Try.func97, Try.ntmps97
  go_wp2
  go_loopw [5, 10] (fun s i wr => ∃ (k : Nat) (T : Int), k ≤ len ∧ i = .int .i64 (k : Int) ∧ s = .int .i64 T ∧ Hd (T = sumIf (fun p => decide (0 < idxI p c)) ((grps ps).take k)) ∧ Hd (Kept no w wr)) (fun _ i _ => len - (intOf i).toNat)
  case atStart => exact ⟨0, 0, by omega, rfl, rfl, ⟨by simp [sumIf]⟩, ⟨Kept.refl _ _⟩⟩
  case round =>
    obtain ⟨k, T, hk, rfl, rfl, hT, hW⟩ := hrel
    by_cases hlt : k < len
    · (have hk1 : (k : Int) < (len : Int) := by omega); (have hk0 : (0 : Int) ≤ (k : Int) := by omega); (obtain ⟨b, o, g, vg, rfl, hel, c0, c1, hz⟩ := (hr.out.kept hW.out).at k (by rw [hlen.out]; exact hlt)); (have hts := sumIf_take (Q := fun p => decide (0 < idxI p c)) (grps_get _ hel)); (have hb1 := hb.out k); (have hb2 := hb.out (k + 1)); (rw [hts] at hb2); (rw [← hT.out] at hb1 hb2); (obtain ⟨av, cv, rfl, _, _⟩ := Rd.shape2 hz); (obtain ⟨lv, hlv⟩ : ∃ lv, g.p.length = lv := ⟨_, rfl⟩); (rw [hlv] at c0 hz); (replace hz := hid hz); (replace hlv := hid hlv); (replace hts := hid hts); (clear hel); (obtain ⟨N, hN⟩ : ∃ N, g.n = N := ⟨_, rfl⟩); (rw [hN] at c1 hts hb2); (clear hN); (go_upto_region 5 with fail); (obtain ⟨w1, hw1, g1, k1⟩ := alloc_named wr (.cells #[.slice av lv cv, .int .i64 N] 74)); (rw [← hw1]); (have d0 : w1.cell? ⟨wr.heap.size, 0, none⟩ = some (.slice av lv cv) := by rw [cell_of_row w1 _ 0 _ _ _ g1]; rfl); (have d1 : w1.cell? ⟨wr.heap.size, 1, none⟩ = some (.int .i64 N) := by rw [cell_of_row w1 _ 1 _ _ _ g1]; rfl); (have K1 := hid (hW.out.trans' k1)); (have HI := hid (index_any (.slice av lv cv) g.p c w1 (hz.out.kept k1))); (obtain ⟨I, hI⟩ : ∃ I, idxI g.p c = I := ⟨_, rfl⟩); (rw [hI] at HI hb2 hts); (generalize wr.heap.size = q at d0 d1); (clear hw1 g1 k1 hz hI c0 c1)
      by_cases hpos : 0 < I
      · (have hpd : decide (0 < I) = true := decide_eq_true hpos); (rw [hpd, if_pos rfl] at hts hb2); (have hw1 : IntKind.i64.wrap (T + N) = T + N := IntWalk.i64_in _ (by omega)); (have hT' : Hd (T + N = sumIf (fun p => decide (0 < idxI p c)) ((grps ps).take (k + 1))) := ⟨by rw [hts.out, hT.out]⟩); (clear hts hT hb1 hb2); (go_wp2_with fail); (with_reducible refine HI.out.mono ?_); (rintro e w2 ⟨rfl, q2⟩); (have kF := hid (K1.out.trans' q2.kept)); (have d1' := q2.kept.cell d1 id); (clear HI q2 d0 d1); (go_wp2); (go_roundw)
        case rel => first | exact ⟨k + 1, T + N, by omega, by go_num, rfl, hT', kF⟩ | ((repeat apply Exists.intro); exact ⟨⟨k + 1, T + N, by omega, by go_num, rfl, hT', kF⟩, rfl⟩)
        case measure => simp [intOf]; omega
      · (have hpd : decide (0 < I) = false := decide_eq_false hpos); (have hT' : Hd (T = sumIf (fun p => decide (0 < idxI p c)) ((grps ps).take (k + 1))) := ⟨by rw [hts.out, hpd, if_neg (by decide), Int.add_zero, hT.out]⟩); (clear hts hT hb1 hb2); (go_wp2_with fail); (with_reducible refine HI.out.mono ?_); (rintro e w2 ⟨rfl, q2⟩); (have kF := hid (K1.out.trans' q2.kept)); (clear HI q2 d0 d1); (go_wp2); (go_roundw)
        case rel => first | exact ⟨k + 1, T, by omega, by go_num, rfl, hT', kF⟩ | ((repeat apply Exists.intro); exact ⟨⟨k + 1, T, by omega, by go_num, rfl, hT', kF⟩, rfl⟩)
        case measure => simp [intOf]; omega
    · (obtain rfl : k = len := by omega); (have hv : Hd (T = sumIf (fun p => decide (0 < idxI p c)) (grps ps)) := ⟨by rw [hT.out, List.take_of_length_le (by rw [grps_length, hlen.out]; exact Nat.le_refl _)]⟩); (clear hT hb); (go_wp2); (go_ret); (exact ⟨by rw [hv.out] <;> rfl, hW.out⟩)
set_option maxRecDepth 100000 in
set_option maxHeartbeats 4000000 in
theorem proved_any (N : Nat) (v vz : Value) (ps : List (Grp × Value)) (tail : List Int) (w : World) (hN1 : 1 ≤ N) (hN7 : N ≤ 7) (hp : isPile (N : Int) (grps ps) = true) (ht : isTail (N : Int) tail = true) (hr : RdG w v ps) (hz : RdZ w vz tail) :
    Calls Try.prog 57 #[.int .i64 (N : Int), v, vz] w fun e w' => e = .returned (.int .i64 (bd N (grps ps) tail)) ∧ Kept no w w' := by
  (obtain ⟨ag, cg, rfl, _, _⟩ := hr.shape); (have hp7 : Hd (isPile 7 (grps ps) = true) := ⟨isPile_mono (by omega) hp⟩)
  have hres : Hd (bd N (grps ps) tail = (mx (dinC N (grps ps) tail tail.length ++ doutK N (grps ps) tail N) + 1) / 2) := ⟨by
    (rw [dinC_mx, doutK_all]); (have := (mx_spec (din N (grps ps) tail ++ dout N (grps ps) tail)).1)
    unfold bd half; split <;> omega⟩
  (have htl := isTail_iff.1 ht); (have hfl := hid (fun (e : Nat) (he : e < N) => first_later hp hN7 (e := (e : Int)) (by omega) (by omega))); (obtain ⟨b, o, ct, he, hm0, hmc, hTc⟩ := tail_at hz ht); (subst he); (have hm7 := tail_len7 ht hN7); (have hdrng := hid (fun (q : Nat) x (hx : x ∈ tail.drop q) => htl.2.2 x (List.mem_of_mem_drop hx))); (obtain ⟨m, hm⟩ : ∃ m, tail.length = m := ⟨_, rfl⟩); (rw [hm] at hm0 hmc hTc hm7 hz hres ⊢); (replace hm := hid hm); (replace hz := hid hz); (replace hr := hid hr); (replace htl := hid htl); (replace hTc := hid hTc); (have hm63 := maxLen_63); (clear ht hp)
  go_enter Try.func57, Try.ntmps57
  go_wp2
  go_loopw [7, 21] (fun B i wr => ∃ (q : Nat) (bb : Int), q ≤ m ∧ i = .int .i64 (q : Int) ∧ B = .int .i64 bb ∧ Hd (bb = mx (dinC N (grps ps) tail q)) ∧ Hd (Kept no w wr)) (fun _ i _ => m - (intOf i).toNat)
  case atStart => exact ⟨0, 0, by omega, rfl, rfl, ⟨by simp [dinC, mx]⟩, ⟨Kept.refl _ _⟩⟩
  case round =>
    obtain ⟨q, bb, hk, rfl, rfl, hB, hK⟩ := hrel
    by_cases hlt : q < m
    · (have hq0 : (0 : Int) ≤ (q : Int) := by omega); (have hqm : (q : Int) < (m : Int) := by omega); (obtain ⟨ck, hckN, hck, hTk⟩ := hTc.out q (by omega)); (have hTk1 := hK.out.cell hTk id); (have hckI : (ck : Int) < (N : Int) := by omega); (have hckJ : (0 : Int) ≤ (ck : Int) := by omega); (have hsl := post_sliceI (some ⟨b, o, none⟩) m ct q (by omega)); (have hdr := (hz.out.kept hK.out).dropI q (by rw [hm.out]; omega)); (rw [hm.out] at hdr); (obtain ⟨ad, had⟩ : ∃ ad, (if ct = q then (some ⟨b, o, none⟩ : Option Addr) else (some ⟨b, o, none⟩ : Option Addr).map (·.add q)) = ad := ⟨_, rfl⟩); (rw [had] at hsl hdr); (obtain ⟨mq, hmq⟩ : ∃ mq, m - q = mq := ⟨_, rfl⟩); (obtain ⟨cq, hcq⟩ : ∃ cq, ct - q = cq := ⟨_, rfl⟩); (rw [hmq, hcq] at hsl hdr); (have hld : Hd ((tail.drop q).length = mq) := ⟨by rw [List.length_drop, hm.out, hmq]⟩); (have hmq1 : q + mq = m := by omega); (replace hdr := hid hdr); (have HO := hid (conly_any N (.slice ad mq cq) (tail.drop q) wr hN7 (hdrng.out q) hdr.out)); (clear had hmq hcq); (go_wp2_with fail); (with_reducible refine HO.out.mono ?_); (rintro e w3 ⟨vf, rfl, hf, k3⟩); (have HC := first_any (.slice ag ps.length cg) vf ps _ w3 (hr.out.kept (hK.out.trans' k3)) hf); (rw [first_firstV hp7.out hN7] at HC); (replace HC := hid HC); (have hK3 := hid (hK.out.trans' k3)); (have hd3 := hid (hdr.out.kept k3)); (clear HO hf k3 hdr); (go_wp2_with fail); (with_reducible refine HC.out.mono ?_); (rintro e w4 ⟨vv, rfl, ov⟩); (have hK4 := hid (hK3.out.trans' ov.kept)); (have hd4 := hid (hd3.out.kept ov.kept)); (obtain ⟨bV, oV, cV, rfl, hVc⟩ := votes_at ov hN1); (replace hVc := hid hVc); (have hVk := hid (hVc.out ck hckN)); (have hsm : Hd (∀ c, 0 ≤ vt N (grps ps) (tail.drop q) c ∧ vt N (grps ps) (tail.drop q) c ≤ 100000) := ⟨fun c => vt_small hp7.out _ c⟩)
      have hrow : Hd (∀ t : Nat, q + t < m → ∀ cj : Nat, tail.getD (q + t) 0 = (cj : Int) → (rowC N (grps ps) tail q).getD t 0 = vt N (grps ps) (tail.drop q) (ck : Int) - vt N (grps ps) (tail.drop q) (cj : Int)) := ⟨fun t h1 cj h3 => by
        have := rowC_at (n := N) (gs := grps ps) (tail := tail) (i := q) (k := t) (by rw [hm.out]; omega)
        rw [this, hck, h3]⟩
      (obtain ⟨VT, hVT⟩ : ∃ f, vt N (grps ps) (tail.drop q) = f := ⟨_, rfl⟩); (rw [hVT] at hVc hVk hsm hrow); (have hxk := hsm.out (ck : Int)); (obtain ⟨xk, hxe⟩ : ∃ x, VT (ck : Int) = x := ⟨_, rfl⟩); (rw [hxe] at hVk hxk hrow); (clear ov HC hVT hTk hTk1 hxe hK hd3 hK3); (obtain ⟨w9, rfl⟩ : ∃ w9 : World, w9 = wr := ⟨_, rfl⟩); (go_wp2)
      go_loopw [7, 40] (fun B j wr => ∃ (t : Nat) (b2 : Int), t ≤ mq ∧ j = .int .i64 (t : Int) ∧ B = .int .i64 b2 ∧ Hd (b2 = mx (dinC N (grps ps) tail q ++ (rowC N (grps ps) tail q).take t)) ∧ Hd (Kept no w4 wr)) (fun _ j _ => mq - (intOf j).toNat)
      case atStart => exact ⟨0, bb, by omega, rfl, rfl, ⟨by rw [hB.out, List.take_zero, List.append_nil]⟩, ⟨Kept.refl _ _⟩⟩
      case round =>
        obtain ⟨t, b2, hj, rfl, rfl, hB2, hK2⟩ := hrel
        by_cases hjl : t < mq
        · (have hj1 : (t : Int) < (mq : Int) := by omega); (have hj00 : (0 : Int) ≤ (t : Int) := by omega); (obtain ⟨cj, hcjN, hcj, _⟩ := hTc.out (q + t) (by omega)); (obtain ⟨bd, od, hde, hTj⟩ := (hd4.out.kept hK2.out).at t (by rw [hld.out]; exact hjl)); (obtain rfl := hde)
          have hde2 : (tail.drop q).getD t 0 = (cj : Int) := by
            rw [← hcj, List.getD_eq_getElem?_getD, List.getD_eq_getElem?_getD, List.getElem?_drop]
          (rw [hde2] at hTj); (have hVk5 := hid (hK2.out.cell hVk.out id)); (have hVj5 := hid (hK2.out.cell (hVc.out cj hcjN) id)); (have hxj := hsm.out (cj : Int)); (have hst := hid (mx_take (dinC N (grps ps) tail q) (rowC N (grps ps) tail q) t (by rw [rowC_len, hm.out]; omega))); (rw [hrow.out t (by omega) cj hcj] at hst); (obtain ⟨xj, hxje⟩ : ∃ x, VT (cj : Int) = x := ⟨_, rfl⟩); (rw [hxje] at hVj5 hxj hst); (have hwr : IntKind.i64.wrap (xk - xj) = xk - xj := IntWalk.i64_in _ (by omega)); (have hcjI : (cj : Int) < (N : Int) := by omega); (have hcjJ : (0 : Int) ≤ (cj : Int) := by omega); (have hB3 : Hd (max b2 (xk - xj) = mx (dinC N (grps ps) tail q ++ (rowC N (grps ps) tail q).take (t + 1))) := ⟨by rw [hst.out, ← hB2.out]⟩); (clear hxje hst hB2 hcj hde2); (go_upto_region 9 with fail); (refine region_flow (S := no) (Sl := (fun _ => no)) [Is (.int .i64 b2), Is (.slice (some ⟨bV, oV, none⟩) N cV), Is (.int .i64 (ck : Int)), Is (.pointer (some ⟨bV, oV + ck, none⟩)), Is (.int .i64 xk), Is (.slice (some ⟨bV, oV, none⟩) N cV), Is (.int .i64 (cj : Int)), Is (.pointer (some ⟨bV, oV + cj, none⟩)), Is (.int .i64 xj), Is (.int .i64 (xk - xj)), Is (.int .i64 (max b2 (xk - xj))), Is (.int .i64 (max b2 (xk - xj)))] [] (fun _ _ h => h) _ (by kernel_rfl) (by kernel_rfl) (by kernel_rfl) (by kernel_rfl) (fun x => by simp only [puts, Act.put, List.map_cons, List.map_nil, Nat.zero_add, Nat.reduceAdd, List.setIfInBounds_toArray, List.set_cons_zero, List.set_cons_succ]; exact rfl) ?_ ?_)
          · (skip); (refine .cons (fun x wf Kk hq hdep hold => ?_) ?_)
            · (try dsimp only); (have h11 : x 11 = (.int .i64 b2) := hold 11 (by kernel_rfl)); (clear hq hdep hold); (simp only [h11]); (clear h11); (rw [if_pos (by rfl)]); (refine OpY.val ?_ ⟨Kept.refl _ _, rfl⟩); (first | rfl | go_simp)
            refine .cons (fun x wf Kk hq hdep hold => ?_) ?_
            · (try dsimp only); (clear hq hdep hold); (rw [if_pos (by rfl)]); (refine OpY.val ?_ ⟨Kept.refl _ _, rfl⟩); (first | rfl | go_simp)
            refine .cons (fun x wf Kk hq hdep hold => ?_) ?_
            · (try dsimp only); (clear hq hdep hold); (rw [if_pos (by rfl)]); (refine OpY.val ?_ ⟨Kept.refl _ _, rfl⟩); (first | rfl | go_simp)
            refine .cons (fun x wf Kk hq hdep hold => ?_) ?_
            · (try dsimp only); (have h1 : x 1 = _ := hdep 1 (by kernel_rfl)); (have h2 : x 2 = _ := hdep 2 (by kernel_rfl)); (clear hq hdep hold); (simp only [h1, h2]); (clear h1 h2); (rw [if_pos (by rfl)]); (refine OpY.val ?_ ⟨Kept.refl _ _, rfl⟩); (first | rfl | go_simp)
            refine .cons (fun x wf Kk hq hdep hold => ?_) ?_
            · (try dsimp only); (have h3 : x 3 = _ := hdep 3 (by kernel_rfl)); (clear hq hdep hold); (simp only [h3]); (clear h3); (have c1 := Kk.undrew.cell hVk5.out id); (rw [if_pos (by rfl)]); (refine OpY.val ?_ ⟨Kept.refl _ _, rfl⟩); (first | rfl | go_simp)
            refine .cons (fun x wf Kk hq hdep hold => ?_) ?_
            · (try dsimp only); (clear hq hdep hold); (rw [if_pos (by rfl)]); (refine OpY.val ?_ ⟨Kept.refl _ _, rfl⟩); (first | rfl | go_simp)
            refine .cons (fun x wf Kk hq hdep hold => ?_) ?_
            · (try dsimp only); (clear hq hdep hold); (rw [if_pos (by rfl)]); (refine OpY.val ?_ ⟨Kept.refl _ _, rfl⟩); (first | rfl | go_simp)
            refine .cons (fun x wf Kk hq hdep hold => ?_) ?_
            · (try dsimp only); (have h5 : x 5 = _ := hdep 5 (by kernel_rfl)); (have h6 : x 6 = _ := hdep 6 (by kernel_rfl)); (clear hq hdep hold); (simp only [h5, h6]); (clear h5 h6); (rw [if_pos (by rfl)]); (refine OpY.val ?_ ⟨Kept.refl _ _, rfl⟩); (first | rfl | go_simp)
            refine .cons (fun x wf Kk hq hdep hold => ?_) ?_
            · (try dsimp only); (have h7 : x 7 = _ := hdep 7 (by kernel_rfl)); (clear hq hdep hold); (simp only [h7]); (clear h7); (have c1 := Kk.undrew.cell hVj5.out id); (rw [if_pos (by rfl)]); (refine OpY.val ?_ ⟨Kept.refl _ _, rfl⟩); (first | rfl | go_simp)
            refine .cons (fun x wf Kk hq hdep hold => ?_) ?_
            · (try dsimp only); (have h4 : x 4 = _ := hdep 4 (by kernel_rfl)); (have h8 : x 8 = _ := hdep 8 (by kernel_rfl)); (clear hq hdep hold); (simp only [h4, h8]); (clear h4 h8); (rw [if_pos (by rfl)]); (refine OpY.val ?_ ⟨Kept.refl _ _, rfl⟩); (first | rfl | go_simp)
            refine .cons (fun x wf Kk hq hdep hold => ?_) ?_
            · (try dsimp only); (have h0 : x 0 = _ := hdep 0 (by kernel_rfl)); (have h9 : x 9 = _ := hdep 9 (by kernel_rfl)); (clear hq hdep hold); (simp only [h0, h9]); (clear h0 h9); (rw [if_pos (by rfl)]); (refine OpY.val ?_ ⟨Kept.refl _ _, rfl⟩); (first | rfl | (go_simp; done) | (go_simp; split <;> omega))
            refine .cons (fun x wf Kk hq hdep hold => ?_) ?_
            · (try dsimp only); (have h10 : x 10 = _ := hdep 10 (by kernel_rfl)); (clear hq hdep hold); (simp only [h10]); (clear h10); (rw [if_pos (by rfl)]); (refine OpY.val ?_ ⟨Kept.refl _ _, rfl⟩); (first | rfl | (go_simp; done) | (go_simp; split <;> omega))
            exact .nil _
          · (intro x wf Kk hv); (try dsimp only); (have h11 : x 11 = _ := hv 11 (by kernel_rfl)); (clear hv); (simp only [h11]); (clear h11); (generalize max b2 (xk - xj) = b3 at hB3); (have hK5 := hid (hK2.out.trans' Kk.undrew)); (clear Kk hK2 hVk5 hVj5 hTj hwr); (go_wp2); (go_roundw)
            case rel => first | exact ⟨t + 1, b3, by omega, by go_num, rfl, hB3, hK5⟩ | ((repeat apply Exists.intro); exact ⟨⟨t + 1, b3, by omega, by go_num, rfl, hB3, hK5⟩, rfl⟩)
            case measure => simp [intOf]; omega
        · (obtain rfl : t = mq := by omega); (have hj1 : ¬ (t : Int) < (t : Int) := by omega); (have hB5 : Hd (b2 = mx (dinC N (grps ps) tail (q + 1))) := ⟨by rw [hB2.out, dinC_succ, List.take_of_length_le (by rw [rowC_len, hm.out]; omega)]⟩); (have hK5 := hid (hK4.out.trans' hK2.out)); (clear hB2 hK2 hK4 hVk hrow hsl); (go_wp2); (go_roundw)
          case rel => first | exact ⟨q + 1, b2, by omega, by go_num, rfl, hB5, hK5⟩ | ((repeat apply Exists.intro); exact ⟨⟨q + 1, b2, by omega, by go_num, rfl, hB5, hK5⟩, rfl⟩)
          case measure => simp [intOf]; omega
    · (obtain rfl : q = m := by omega); (have hqm : ¬ (q : Int) < (q : Int) := by omega); (have HO := hid (conly_any N (.slice (some ⟨b, o, none⟩) q ct) tail wr hN7 (fun x hx => htl.out.2.2 x hx) (hz.out.kept hK.out))); (go_wp2_with fail); (with_reducible refine HO.out.mono ?_); (rintro e w3 ⟨vf, rfl, hf, k3⟩); (obtain ⟨bf, cf, rfl, _, _⟩ := Rd.shape2 hf); (rw [flags_len] at hf ⊢); (have hf3 : Hd (RdT w3 (.slice bf N cf) (flags N tail)) := ⟨hf⟩); (have hK3 := hid (hK.out.trans' k3))
      have hLb : Hd (∀ e, 0 ≤ mx (dinC N (grps ps) tail q ++ doutK N (grps ps) tail e) ∧ mx (dinC N (grps ps) tail q ++ doutK N (grps ps) tail e) ≤ 100000) := ⟨fun e => ⟨(mx_spec _).1, mx_le (by decide) fun x hx => by
        rcases List.mem_append.1 hx with hx | hx
        · exact din_leC hp7.out _ _ x hx
        · exact dout_leC hp7.out _ _ x hx⟩⟩
      (obtain ⟨L0, hL0⟩ : ∃ L, dinC N (grps ps) tail q = L := ⟨_, rfl⟩); (rw [hL0] at hB hres hLb); (clear HO hf k3 hL0 hK); (obtain ⟨w9, rfl⟩ : ∃ w9 : World, w9 = wr := ⟨_, rfl⟩); (go_wp2)
      go_loopw [7, 61] (fun B i wr => ∃ (e : Nat) (bb : Int), e ≤ N ∧ i = .int .i64 (e : Int) ∧ B = .int .i64 bb ∧ Hd (bb = mx (L0 ++ doutK N (grps ps) tail e)) ∧ Hd (Kept no w3 wr)) (fun _ i _ => N - (intOf i).toNat)
      case atStart => exact ⟨0, bb, by omega, rfl, rfl, ⟨by rw [hB.out]; simp [doutK, allC]⟩, ⟨Kept.refl _ _⟩⟩
      case round =>
        (clear hB); (obtain ⟨e, bb, he, rfl, rfl, hB, hK2⟩ := hrel)
        by_cases hel : e < N
        · (have he1 : (e : Int) < (N : Int) := by omega); (have he0 : (0 : Int) ≤ (e : Int) := by omega); (obtain ⟨bg, og, hge, hgc⟩ := RdT.at (n := N) (bs := flags N tail) (show RdT wr (.slice bf N cf) _ from hf3.out.kept hK2.out) e (by rw [flags_len]; exact hel)); (subst hge)
          have hfe : (flags N tail).getD e false = decide ((e : Int) ∈ tail) := by
            (have h := flags_in (n := N) tail (e : Int)); (unfold inB at h); (rw [decide_eq_true he0, Bool.true_and, Int.toNat_natCast] at h); (rw [h, decide_eq_decide]); (exact ⟨fun h => h.2.2, fun h => ⟨he0, he1, h⟩⟩)
          (rw [hfe] at hgc); (have hns := hid (doutK_succ N (grps ps) tail e)); (obtain ⟨L1, hL1⟩ : ∃ L, L0 ++ doutK N (grps ps) tail e = L := ⟨_, rfl⟩); (have hnext : Hd (L0 ++ doutK N (grps ps) tail (e + 1) = L1 ++ if (e : Int) ∈ tail then [] else colE N (grps ps) tail (e : Int)) := ⟨by rw [hns.out, ← List.append_assoc, hL1]⟩); (rw [hL1] at hB); (clear hns hL1 hfe)
          by_cases het : (e : Int) ∈ tail
          · (rw [decide_eq_true het] at hgc); (have hB5 : Hd (bb = mx (L0 ++ doutK N (grps ps) tail (e + 1))) := ⟨by rw [hB.out, hnext.out, if_pos het, List.append_nil]⟩); (clear hB het hnext); (go_wp2); (go_roundw)
            case rel => first | exact ⟨e + 1, bb, by omega, by go_num, rfl, hB5, hK2⟩ | ((repeat apply Exists.intro); exact ⟨⟨e + 1, bb, by omega, by go_num, rfl, hB5, hK2⟩, rfl⟩)
            case measure => simp [intOf]; omega
          · (rw [decide_eq_false het] at hgc); (have hKw := hid (hK3.out.trans' hK2.out)); (have HP1 := hid (prefers_any (.slice ag ps.length cg) ps (e : Int) (-1) wr (hr.out.kept hKw.out))); (have hfe := hfl.out e hel); (have hps1 := prefers_small hp7.out (e : Int) (-1)); (obtain ⟨P1, hP1⟩ : ∃ x, prefers (grps ps) (e : Int) (-1) = x := ⟨_, rfl⟩); (rw [hP1] at HP1 hfe hps1); (have hls := sumIf_pre (Q := fun p => decide (0 < idxI p (e : Int))) (n := 7) hp7.out ps.length); (rw [List.take_of_length_le (by rw [grps_length]; exact Nat.le_refl _)] at hls)
            have hcol : Hd (∀ (jn : Nat), jn < q → ∀ cj : Nat, tail.getD jn 0 = (cj : Int) → (colE N (grps ps) tail (e : Int)).getD jn 0 = vt N (grps ps) (allC N) (e : Int) - prefers (grps ps) (cj : Int) (e : Int)) := ⟨fun jn h1 cj h3 => by
              rw [colE_at (by rw [hm.out]; exact h1), h3]⟩
            (have hxs := vt_small (n := N) hp7.out (allC N) (e : Int)); (obtain ⟨xe, hxe⟩ : ∃ x, vt N (grps ps) (allC N) (e : Int) = x := ⟨_, rfl⟩); (rw [hxe] at hfe hcol hxs); (obtain ⟨S1, hS1⟩ : ∃ x, sumIf (fun p => decide (0 < idxI p (e : Int))) (grps ps) = x := ⟨_, rfl⟩); (have HL0 := hid (fun w h => later_any (.slice ag ps.length cg) ps (e : Int) w h hp7.out)); (rw [hS1] at hfe hls HL0); (have hwp : IntKind.i64.wrap (P1 - S1) = xe := by rw [hfe]; exact IntWalk.i64_in _ (by omega)); (clear hP1 hxe hS1 hfe); (go_wp2_with fail); (with_reducible refine HP1.out.mono ?_); (rintro e' w5 ⟨rfl, k5⟩); (have HL := hid (HL0.out w5 (hr.out.kept (hKw.out.trans' k5)))); (have hK5 := hid (hK2.out.trans' k5)); (clear HP1 HL0 k5 hK2 hKw hgc); (go_wp2_with fail); (with_reducible refine HL.out.mono ?_); (rintro e' w6 ⟨rfl, k6⟩); (have hK6 := hid (hK5.out.trans' k6)); (clear HL k6 hK5); (go_wp2)
            go_loopw [7, 77] (fun B j wr => ∃ (jn : Nat) (b2 : Int), jn ≤ q ∧ j = .int .i64 (jn : Int) ∧ B = .int .i64 b2 ∧ Hd (b2 = mx (L1 ++ (colE N (grps ps) tail (e : Int)).take jn)) ∧ Hd (Kept no w3 wr)) (fun _ j _ => q - (intOf j).toNat)
            case atStart => exact ⟨0, bb, by omega, rfl, rfl, ⟨by rw [hB.out, List.take_zero, List.append_nil]⟩, hK6⟩
            case round =>
              (clear hK6); (obtain ⟨jn, b2, hj, rfl, rfl, hB2, hK7⟩ := hrel)
              by_cases hjl : jn < q
              · (have hj1 : (jn : Int) < (q : Int) := by omega); (have hj00 : (0 : Int) ≤ (jn : Int) := by omega); (obtain ⟨cj, hcjN, hcj, hTj⟩ := hTc.out jn hjl); (have hst := hid (mx_take L1 (colE N (grps ps) tail (e : Int)) jn (by rw [colE_len, hm.out]; exact hjl))); (rw [hcol.out jn hjl cj hcj] at hst); (have hps := prefers_small hp7.out (cj : Int) (e : Int)); (have hKv := hid (hK3.out.trans' hK7.out)); (have HP := prefers_any (.slice ag ps.length cg) ps (cj : Int) (e : Int) wr (hr.out.kept hKv.out)); (obtain ⟨pp, hpp⟩ : ∃ x, prefers (grps ps) (cj : Int) (e : Int) = x := ⟨_, rfl⟩); (rw [hpp] at hst hps HP); (have hwr : IntKind.i64.wrap (xe - pp) = xe - pp := IntWalk.i64_in _ (by omega)); (have hB3 : Hd (max b2 (xe - pp) = mx (L1 ++ (colE N (grps ps) tail (e : Int)).take (jn + 1))) := ⟨by rw [hst.out, ← hB2.out]⟩); (have hmi : (if b2 < xe - pp then xe - pp else b2) = max b2 (xe - pp) := by split <;> omega); (replace HP := hid HP); (have hTj5 := hKv.out.cell hTj id); (clear hpp hst hB2 hcj hTj); (go_wp2_with fail); (with_reducible refine HP.out.mono ?_); (rintro e' w7 ⟨rfl, k7⟩); (have hK8 := hid (hK7.out.trans' k7)); (clear HP k7 hK7 hKv hTj5); (generalize max b2 (xe - pp) = b3 at hB3 hmi); (go_wp2); (go_roundw)
                case rel => first | exact ⟨jn + 1, b3, by omega, by go_num, rfl, hB3, hK8⟩ | ((repeat apply Exists.intro); exact ⟨⟨jn + 1, b3, by omega, by go_num, rfl, hB3, hK8⟩, rfl⟩)
                case measure => simp [intOf]; omega
              · (obtain rfl : jn = q := by omega); (have hB5 : Hd (b2 = mx (L0 ++ doutK N (grps ps) tail (e + 1))) := ⟨by rw [hB2.out, hnext.out, if_neg het, List.take_of_length_le (by rw [colE_len, hm.out]; omega)]⟩); (clear hB2 hB hnext het hcol); (go_wp2); (go_roundw)
                case rel => first | exact ⟨e + 1, b2, by omega, by go_num, rfl, hB5, hK7⟩ | ((repeat apply Exists.intro); exact ⟨⟨e + 1, b2, by omega, by go_num, rfl, hB5, hK7⟩, rfl⟩)
                case measure => simp [intOf]; omega
        · (obtain rfl : e = N := by omega); (have hbb := hLb.out e); (rw [← hB.out] at hbb hres); (have hw1 : IntKind.i64.wrap (bb + 1) = bb + 1 := IntWalk.i64_in _ (by omega)); (have hq : (bb + 1).tdiv 2 = (bb + 1) / 2 := Int.tdiv_eq_ediv_of_nonneg (by omega)); (have hw2 : IntKind.i64.wrap ((bb + 1) / 2) = (bb + 1) / 2 := IntWalk.i64_in _ (by omega)); (have kF := hid (hK3.out.trans' hK2.out)); (generalize (bb + 1) / 2 = R at hres hq hw2); (clear hB hLb); (go_wp2); (go_ret); (exact ⟨by rw [hres.out] <;> rfl, kF.out⟩)
end Go.Proofs.Ytkdmlakookgolaa
