/- What a search's margin is worth, in plain Lean. -/
import Derived.Test.YtkdmlakookgolaaLowLZ
import Derived.Test.YtkdmlakookgolaaMSearchesZ
namespace Go.Mg
open Go.Pil
/-- The nodes cover the order o: a leaf's tail ends it; what is claimed of such nodes is at most D. -/
def CovN (o : List Int) (D : Int) (l : List Nd) : Prop := (∃ x ∈ l, x.leaf = true ∧ ∃ j, j < o.length ∧ x.tail = o.drop j) ∧ ∀ x ∈ l, (∃ j, j < o.length ∧ x.tail = o.drop j) → x.bd ≤ D
theorem cov_start {n w : Nat} {a b : List Grp} {o : List Int} {D : Int} (ho : Ord n b o) (h2 : 2 ≤ n) (hl : o.getD (n - 1) 0 ≠ (w : Int)) (hD : ∀ j, j < o.length → bd n a (o.drop j) ≤ D) : CovN o D (startS n a (w : Int) n) := by
  (have hlen := ord_len ho); (refine ⟨⟨rootE n a (o.getD (n - 1) 0), ?_, rfl, n - 1, by omega, ?_⟩, fun x hx ⟨j, hj, he⟩ => ?_⟩)
  · (unfold startS); (refine List.mem_map_of_mem (List.mem_filter.2 ⟨mem_allC.2 ((ho.mem _).1 (getD_mem (by omega))), decide_eq_true hl⟩))
  · show [o.getD (n - 1) 0] = o.drop (n - 1)
    rw [List.drop_eq_getElem_cons (show n - 1 < o.length by omega), List.drop_eq_nil_of_le (by omega), List.getD_eq_getElem?_getD, List.getElem?_eq_getElem (by omega)]; rfl
  · (unfold startS at hx); (obtain ⟨e, _, rfl⟩ := List.mem_map.1 hx)
    show bd n a [e] ≤ D
    (have he' : [e] = o.drop j := he); (rw [he']; exact hD j hj)
theorem cov_step {n : Nat} {a b : List Grp} {o : List Int} {D : Int} {l : List Nd} (ho : Ord n b o) (hD : ∀ j, j < o.length → bd n a (o.drop j) ≤ D) (hW : WfN n l) (hL : HasLeaf l) (hc : CovN o D l) (hn : (selN l).tail.length ≠ n) : CovN o D (stepS n a l) := by
  (obtain ⟨s1, _, s3, s4, _⟩ := selK_spec hL); (have hlen := ord_len ho); (obtain ⟨⟨y, hy, hyl, j, hj, hyt⟩, hall⟩ := hc); (unfold stepS); (refine ⟨?_, fun x hx ⟨q, hq, he⟩ => ?_⟩)
  · obtain ⟨i, hi, rfl⟩ := List.getElem_of_mem hy
    by_cases hik : i = selK l
    · -- the leaf that is opened
      have hys : l[i] = selN l := by
        (unfold selN); (rw [List.getD_eq_getElem?_getD, ← hik, List.getElem?_eq_getElem hi]; rfl)
      rw [hys] at hyt
      have hj0 : 0 < j := by
        rcases Nat.eq_zero_or_pos j with h | h
        · subst h; rw [List.drop_zero] at hyt; exact absurd (by rw [hyt]; exact hlen) hn
        · exact h
      have hdc : o.drop (j - 1) = o.getD (j - 1) 0 :: o.drop j := by
        rw [List.drop_eq_getElem_cons (show j - 1 < o.length by omega), List.getD_eq_getElem?_getD, List.getElem?_eq_getElem (by omega)]
        congr 1; congr 1; omega
      have hnm : o.getD (j - 1) 0 ∉ o.drop j := by
        (have h := ho.nodup.sublist (List.drop_sublist (j - 1) o)); (rw [hdc, List.nodup_cons] at h; exact h.1)
      refine ⟨kidsE n a (selK l) (selN l) (o.getD (j - 1) 0), List.mem_append_right _ ?_, rfl, j - 1, by omega, ?_⟩
      · (unfold kids); (exact List.mem_map_of_mem (List.mem_filter.2 ⟨mem_allC.2 ((ho.mem _).1 (getD_mem (by omega))), decide_eq_true (by rw [hyt]; exact hnm)⟩))
      · show o.getD (j - 1) 0 :: (selN l).tail = _
        rw [hyt, hdc]
    · (refine ⟨l[i], List.mem_append_left _ ?_, hyl, j, hj, hyt⟩); (rw [List.mem_iff_getElem]); (exact ⟨i, by rw [List.length_set]; exact hi, by rw [List.getElem_set_ne (Ne.symm hik)]⟩)
  · rcases List.mem_append.1 hx with hx | hx
    · rcases List.mem_or_eq_of_mem_set hx with hx | rfl
      · exact hall x hx ⟨q, hq, he⟩
      · exact hall (selN l) s4 ⟨q, hq, he⟩
    · (unfold kids at hx); (obtain ⟨e, _, rfl⟩ := List.mem_map.1 hx); (have he' : e :: (selN l).tail = o.drop q := he); (have hdc : o.drop q = o[q] :: o.drop (q + 1) := List.drop_eq_getElem_cons hq)
      have ht : (selN l).tail = o.drop (q + 1) := by
        (rw [hdc] at he'); (exact (List.cons.inj he').2)
      (have hne : (selN l).tail ≠ [] := (isTail_iff.1 (hW _ s4).1).1); (have hq1 : q + 1 < o.length := Nat.lt_of_not_le fun h => hne (by rw [ht, List.drop_eq_nil_of_le h])); (have h1 := hall (selN l) s4 ⟨q + 1, hq1, ht⟩); (have h2 := hD q hq)
      show max (selN l).bd (bd n a (e :: (selN l).tail)) ≤ D
      rw [he']; omega
theorem cov_run {n w : Nat} {a b : List Grp} {o : List Int} {D up lim : Int} (hp : isPile (n : Int) a = true) (hw : w < n) (h2 : 2 ≤ n) (ho : Ord n b o) (hl : o.getD (n - 1) 0 ≠ (w : Int)) (hD : ∀ j, j < o.length → bd n a (o.drop j) ≤ D) : ∀ i, (∀ j, j < i → stopS n up lim (runS n a (w : Int) j) = false) → CovN o D (runS n a (w : Int) i)
  | 0, _ => cov_start ho h2 hl hD
  | i + 1, h => by
    (have h1 := cov_run hp hw h2 ho hl hD i fun j hj => h j (by omega)); (obtain ⟨hW, hL⟩ := run_wf hp hw h2 i fun j hj => h j (by omega)); (have hs := h i (by omega)); (unfold stopS at hs); (simp only [Bool.or_eq_false_iff, decide_eq_false_iff_not] at hs); (exact cov_step ho hD hW hL h1 hs.1.2)
theorem cov_sel {o : List Int} {D : Int} {l : List Nd} (hc : CovN o D l) : (selN l).bd ≤ D := by
  (obtain ⟨⟨y, hy, hyl, hj⟩, hall⟩ := hc); (have := (selK_spec ⟨y, hy, hyl⟩).2.2.2.2 y hy hyl); (have := hall y hy hj)
  omega
open Classical in
theorem upV_nonneg {n w : Nat} {gs : List Grp} (hn : n ≤ 7) (hw : w < n) (h2 : 2 ≤ n) : 0 ≤ upV n gs w := by
  by_cases h : ∃ r, r < n ∧ r ≠ w ∧ Rc 2 n gs (2 ^ r)
  · unfold upV; rw [if_pos h]; exact Int.le_refl _
  · -- the set of two from which w comes
    have hfull : ∀ s, Rc 2 n gs s → 2 ≤ (sl n s).length → ∃ r, r < n ∧ r ≠ w ∧ Rc 2 n gs (2 ^ r + 2 ^ w) := by
      intro s
      induction s using Nat.strongRecOn with
      | ind s ih =>
        (intro hr h2s); (have hlt := hr.lt)
        by_cases h2e : (sl n s).length = 2
        · cases hb : s.testBit w with
          | true =>
            (obtain ⟨r, h1, h3, rfl⟩ := pair_of hn hlt h2e hw hb); (exact ⟨r, h1, h3, hr⟩)
          | false =>
            exfalso
            (obtain ⟨c, hc⟩ := low_exists gs (n := n) (s := s) (by intro e; rw [e] at h2s; simp at h2s)); (have hl := low_sub hn hlt hc); (have hs := sl_sub n hn s hlt c.toNat (by omega) hl.2.2.2); (obtain ⟨d, hd⟩ := List.exists_mem_of_length_pos (show 0 < (sl n (s - 2 ^ c.toNat)).length by omega)); (obtain ⟨⟨d0, dn⟩, db⟩ := mem_sl.1 hd); (have hr2 : Rc 2 n gs (s - 2 ^ c.toNat) := .step hr h2s hc); (have e := single n hn _ hr2.lt d.toNat (by omega) db (by omega)); (refine h ⟨d.toNat, by omega, fun hdw => ?_, e ▸ hr2⟩); (rw [hdw] at db); (have := pow7 hn); (have := (bits_sub s (by omega) c.toNat (by omega) hl.2.2.2).2 w (by omega)); (rw [this, hb] at db; cases db)
        · (obtain ⟨c, hc⟩ := low_exists gs (n := n) (s := s) (by intro e; rw [e] at h2s; simp at h2s)); (have hl := low_sub hn hlt hc); (have hs := sl_sub n hn s hlt c.toNat (by omega) hl.2.2.2); (exact ih _ hl.2.1 (.step hr h2s hc) (by omega))
    (obtain ⟨r, h1, h3, h4⟩ := hfull (2 ^ n - 1) .full (by rw [sl_full hn]; simp [allC]; omega)); (unfold upV); (rw [if_neg h])
    rcases mn_spec (upL n gs w n) (fun x hx => by
      (unfold upL at hx); (obtain ⟨r, _, rfl⟩ := List.mem_map.1 hx)
      exact half_nonneg _) with ⟨_, hno⟩ | ⟨h0, _⟩
    · exfalso
      apply hno (pairV n gs w r)
      (unfold upL); (exact List.mem_map.2 ⟨r, List.mem_filter.2 ⟨List.mem_range.2 h1, decide_eq_true ⟨h3, h4⟩⟩, rfl⟩)
    · exact h0
/-- What Search ends with, in range. -/
theorem srch_ok {n w : Nat} {a : List Grp} {lim win mar err : Int} {l : List Nd} (hp : isPile (n : Int) a = true) (hw : w < n) (h2 : 2 ≤ n) (h7 : n ≤ 7) (hl : 1 ≤ lim ∧ lim ≤ 4000) (h : SrchR (n : Int) a (w : Int) lim win mar err l) :
    win = (w : Int) ∧ err = 0 ∧ mar = min (upV n a w) (selN l).bd ∧ ∃ i, l = runS n a (w : Int) i ∧ ∀ j, j < i → stopS n (upV n a w) lim (runS n a (w : Int) j) = false := by
  (have hu : upperB (n : Int) a (w : Int) = upV n a w := by unfold upperB; rw [if_pos ⟨by omega, ⟨by omega, hp⟩, by omega, by omega⟩, Int.toNat_natCast, Int.toNat_natCast]); (unfold SrchR at h); (rw [if_neg (fun h => h ⟨⟨by omega, by omega⟩, ⟨by omega, by omega⟩, hl⟩), if_neg (by rw [hp]; decide), hu, Int.toNat_natCast] at h); (obtain ⟨h1, h3, ⟨i, h4, _, h5⟩, h6⟩ := h); (exact ⟨h1, h3, h6, i, h4, h5⟩)
theorem srch_nonneg {n w : Nat} {a : List Grp} {lim win mar err : Int} {l : List Nd} (hp : isPile (n : Int) a = true) (hw : w < n) (h2 : 2 ≤ n) (h7 : n ≤ 7) (hl : 1 ≤ lim ∧ lim ≤ 4000) (h : SrchR (n : Int) a (w : Int) lim win mar err l) : 0 ≤ mar ∧ mar ≤ upV n a w := by
  (obtain ⟨_, _, rfl, i, rfl, hi⟩ := srch_ok hp hw h2 h7 hl h); (obtain ⟨hW, hL⟩ := run_wf hp hw h2 i hi); (have := (hW _ (selK_spec hL).2.2.2.1).2.1); (have := upV_nonneg (gs := a) h7 hw h2)
  omega
/-- P31.1: where another candidate may win, at least Margin ballots were replaced. -/
theorem srch_lower {n w : Nat} {a b : List Grp} {lim win mar err : Int} {l : List Nd} (hp : isPile (n : Int) a = true) (hpb : isPile (n : Int) b = true) (hw : w < n) (h2 : 2 ≤ n) (h7 : n ≤ 7) (hl : 1 ≤ lim ∧ lim ≤ 4000) (h : SrchR (n : Int) a (w : Int) lim win mar err l)
    (ht : tot a = tot b) {r : Nat} (hr : r < n) (hrw : r ≠ w) (hR : Rc 2 n b (2 ^ r)) : mar ≤ tot a - com a b := by
  (obtain ⟨_, _, rfl, i, rfl, hi⟩ := srch_ok hp hw h2 h7 hl h); (obtain ⟨o, ho, hlast⟩ := rc_ord h7 hr hR); (have ha7 : isPile 7 a = true := isPile_mono (by omega) hp); (have hb7 : isPile 7 b = true := isPile_mono (by omega) hpb); (have hD : 0 ≤ tot a - com a b := by have := com_le a b (pile_pos ha7) (pile_pos hb7); omega); (have hc := cov_run (up := upV n a w) (lim := lim) hp hw h2 ho (by rw [hlast]; omega) (fun j _ => tail_le ha7 hb7 ht hD ho (j := j)) i hi); (have := cov_sel hc)
  omega
end Go.Mg
