/- What a search's margin is worth, in plain Lean. -/
import Derived.Test.YtaobaaaihgahfaaGreatMpLY
import Derived.Test.YtaobaaaihgahfaaGreatMSearchesY
import Derived.Test.YtaobaaaihgahfaaGreatCk4Y
import Derived.Test.YtaobaaaihgahfaaGreatTwoY
import Derived.Test.YtaobaaaihgahfaaGreatPossY
namespace Go.Mg
open Go.Pil
/-- The nodes cover the order o: a leaf's tail ends it; what is claimed of such nodes is at most D. -/
def CovN (o : List Int) (D : Int) (l : List Nd) : Prop := (∃ x ∈ l, x.leaf = true ∧ ∃ j, j < o.length ∧ x.tail = o.drop j) ∧ ∀ x ∈ l, (∃ j, j < o.length ∧ x.tail = o.drop j) → x.bd ≤ D
theorem cov_start {n w : Nat} {a b : List Grp} {o : List Int} {D : Int} (ho : Ord n b o) (h2 : 2 ≤ n) (hl : o.getD (n - 1) 0 ≠ (w : Int)) (hD : ∀ j, j < o.length → bd n a (o.drop j) ≤ D) : CovN o D (startS n a (w : Int) n) := by
  (have hlen := ord_len ho); (refine ⟨⟨rootE n a (o.getD (n - 1) 0), ?_, rfl, n - 1, by omega, ?_⟩, fun x hx ⟨j, hj, he⟩ => ?_⟩)
  · (unfold startS); (refine List.mem_map_of_mem (List.mem_filter.2 ⟨mem_allC.2 ((ho.mem _).1 (getD_mem (by omega))), decide_eq_true hl⟩))
  · show [o.getD (n - 1) 0] = o.drop (n - 1)
    rw [List.drop_eq_getElem_cons (show n - 1 < o.length by omega), List.drop_eq_nil_of_le (by omega), List.getD_eq_getElem?_getD, List.getElem?_eq_getElem (by omega)]; rfl
  · (unfold startS at hx); (obtain ⟨e, _, rfl⟩ := List.mem_map.1 hx)
    show bd n a [e] ≤ D
    (have he' : [e] = o.drop j := he); (rw [he']; exact hD j hj)
theorem cov_step {n : Nat} {a b : List Grp} {o : List Int} {D : Int} {l : List Nd} (ho : Ord n b o) (hD : ∀ j, j < o.length → bd n a (o.drop j) ≤ D) (hW : WfN n l) (hL : HasLeaf l) (hc : CovN o D l) (hn : (selN l).tail.length ≠ n) : CovN o D (stepS n a l) := by
  (obtain ⟨s1, _, s3, s4, _⟩ := selK_spec hL); (have hlen := ord_len ho); (obtain ⟨⟨y, hy, hyl, j, hj, hyt⟩, hall⟩ := hc); (unfold stepS); (refine ⟨?_, fun x hx ⟨q, hq, he⟩ => ?_⟩)
  · obtain ⟨i, hi, rfl⟩ := List.getElem_of_mem hy
    by_cases hik : i = selK l
    · -- the leaf that is opened
      have hys : l[i] = selN l := by
        (unfold selN); (rw [List.getD_eq_getElem?_getD, ← hik, List.getElem?_eq_getElem hi]; rfl)
      rw [hys] at hyt
      have hj0 : 0 < j := by
        rcases Nat.eq_zero_or_pos j with h | h
        · subst h; rw [List.drop_zero] at hyt; exact absurd (by rw [hyt]; exact hlen) hn
        · exact h
      have hdc : o.drop (j - 1) = o.getD (j - 1) 0 :: o.drop j := by
        rw [List.drop_eq_getElem_cons (show j - 1 < o.length by omega), List.getD_eq_getElem?_getD, List.getElem?_eq_getElem (by omega)]
        congr 1; congr 1; omega
      have hnm : o.getD (j - 1) 0 ∉ o.drop j := by
        (have h := ho.nodup.sublist (List.drop_sublist (j - 1) o)); (rw [hdc, List.nodup_cons] at h; exact h.1)
      refine ⟨kidsE n a (selK l) (selN l) (o.getD (j - 1) 0), List.mem_append_right _ ?_, rfl, j - 1, by omega, ?_⟩
      · (unfold kids); (exact List.mem_map_of_mem (List.mem_filter.2 ⟨mem_allC.2 ((ho.mem _).1 (getD_mem (by omega))), decide_eq_true (by rw [hyt]; exact hnm)⟩))
      · show o.getD (j - 1) 0 :: (selN l).tail = _
        rw [hyt, hdc]
    · (refine ⟨l[i], List.mem_append_left _ ?_, hyl, j, hj, hyt⟩); (rw [List.mem_iff_getElem]); (exact ⟨i, by rw [List.length_set]; exact hi, by rw [List.getElem_set_ne (Ne.symm hik)]⟩)
  · rcases List.mem_append.1 hx with hx | hx
    · rcases List.mem_or_eq_of_mem_set hx with hx | rfl
      · exact hall x hx ⟨q, hq, he⟩
      · exact hall (selN l) s4 ⟨q, hq, he⟩
    · (unfold kids at hx); (obtain ⟨e, _, rfl⟩ := List.mem_map.1 hx); (have he' : e :: (selN l).tail = o.drop q := he); (have hdc : o.drop q = o[q] :: o.drop (q + 1) := List.drop_eq_getElem_cons hq)
      have ht : (selN l).tail = o.drop (q + 1) := by
        (rw [hdc] at he'); (exact (List.cons.inj he').2)
      (have hne : (selN l).tail ≠ [] := (isTail_iff.1 (hW _ s4).1).1); (have hq1 : q + 1 < o.length := Nat.lt_of_not_le fun h => hne (by rw [ht, List.drop_eq_nil_of_le h])); (have h1 := hall (selN l) s4 ⟨q + 1, hq1, ht⟩); (have h2 := hD q hq)
      show max (selN l).bd (bd n a (e :: (selN l).tail)) ≤ D
      rw [he']; omega
theorem cov_run {n w : Nat} {a b : List Grp} {o : List Int} {D up lim : Int} (hp : isPile (n : Int) a = true) (hw : w < n) (h2 : 2 ≤ n) (ho : Ord n b o) (hl : o.getD (n - 1) 0 ≠ (w : Int)) (hD : ∀ j, j < o.length → bd n a (o.drop j) ≤ D) : ∀ i, (∀ j, j < i → stopS n up lim (runS n a (w : Int) j) = false) → CovN o D (runS n a (w : Int) i)
  | 0, _ => cov_start ho h2 hl hD
  | i + 1, h => by
    (have h1 := cov_run hp hw h2 ho hl hD i fun j hj => h j (by omega)); (obtain ⟨hW, hL⟩ := run_wf hp hw h2 i fun j hj => h j (by omega)); (have hs := h i (by omega)); (unfold stopS at hs); (simp only [Bool.or_eq_false_iff, decide_eq_false_iff_not] at hs); (exact cov_step ho hD hW hL h1 hs.1.2)
theorem cov_sel {o : List Int} {D : Int} {l : List Nd} (hc : CovN o D l) : (selN l).bd ≤ D := by
  (obtain ⟨⟨y, hy, hyl, hj⟩, hall⟩ := hc); (have := (selK_spec ⟨y, hy, hyl⟩).2.2.2.2 y hy hyl); (have := hall y hy hj)
  omega
open Classical in
theorem upV_nonneg {n w : Nat} {gs : List Grp} (hn : n ≤ 7) (hw : w < n) (h2 : 2 ≤ n) : 0 ≤ upV n gs w := by
  by_cases h : ∃ r, r < n ∧ r ≠ w ∧ Rc 2 n gs (2 ^ r)
  · unfold upV; rw [if_pos h]; exact Int.le_refl _
  · -- the set of two from which w comes
    have hfull : ∀ s, Rc 2 n gs s → 2 ≤ (sl n s).length → ∃ r, r < n ∧ r ≠ w ∧ Rc 2 n gs (2 ^ r + 2 ^ w) := by
      intro s
      induction s using Nat.strongRecOn with
      | ind s ih =>
        (intro hr h2s); (have hlt := hr.lt)
        by_cases h2e : (sl n s).length = 2
        · cases hb : s.testBit w with
          | true =>
            (obtain ⟨r, h1, h3, rfl⟩ := pair_of hn hlt h2e hw hb); (exact ⟨r, h1, h3, hr⟩)
          | false =>
            exfalso
            (obtain ⟨c, hc⟩ := low_exists gs (n := n) (s := s) (by intro e; rw [e] at h2s; simp at h2s)); (have hl := low_sub hn hlt hc); (have hs := sl_sub n hn s hlt c.toNat (by omega) hl.2.2.2); (obtain ⟨d, hd⟩ := List.exists_mem_of_length_pos (show 0 < (sl n (s - 2 ^ c.toNat)).length by omega)); (obtain ⟨⟨d0, dn⟩, db⟩ := mem_sl.1 hd); (have hr2 : Rc 2 n gs (s - 2 ^ c.toNat) := .step hr h2s hc); (have e := single n hn _ hr2.lt d.toNat (by omega) db (by omega)); (refine h ⟨d.toNat, by omega, fun hdw => ?_, e ▸ hr2⟩); (rw [hdw] at db); (have := pow7 hn); (have := (bits_sub s (by omega) c.toNat (by omega) hl.2.2.2).2 w (by omega)); (rw [this, hb] at db; cases db)
        · (obtain ⟨c, hc⟩ := low_exists gs (n := n) (s := s) (by intro e; rw [e] at h2s; simp at h2s)); (have hl := low_sub hn hlt hc); (have hs := sl_sub n hn s hlt c.toNat (by omega) hl.2.2.2); (exact ih _ hl.2.1 (.step hr h2s hc) (by omega))
    (obtain ⟨r, h1, h3, h4⟩ := hfull (2 ^ n - 1) .full (by rw [sl_full hn]; simp [allC]; omega)); (unfold upV); (rw [if_neg h])
    rcases mn_spec (upL n gs w n) (fun x hx => by
      (unfold upL at hx); (obtain ⟨r, _, rfl⟩ := List.mem_map.1 hx)
      exact half_nonneg _) with ⟨_, hno⟩ | ⟨h0, _⟩
    · exfalso
      apply hno (pairV n gs w r)
      (unfold upL); (exact List.mem_map.2 ⟨r, List.mem_filter.2 ⟨List.mem_range.2 h1, decide_eq_true ⟨h3, h4⟩⟩, rfl⟩)
    · exact h0
/-- What Search ends with, in range. -/
theorem srch_ok {n w : Nat} {a : List Grp} {lim win mar err : Int} {l : List Nd} (hp : isPile (n : Int) a = true) (hw : w < n) (h2 : 2 ≤ n) (h7 : n ≤ 7) (hl : 1 ≤ lim ∧ lim ≤ 4000) (h : SrchR (n : Int) a (w : Int) lim win mar err l) :
    win = (w : Int) ∧ err = 0 ∧ mar = min (upV n a w) (selN l).bd ∧ ∃ i, l = runS n a (w : Int) i ∧ ∀ j, j < i → stopS n (upV n a w) lim (runS n a (w : Int) j) = false := by
  (have hu : upperB (n : Int) a (w : Int) = upV n a w := by unfold upperB; rw [if_pos ⟨by omega, ⟨by omega, hp⟩, by omega, by omega⟩, Int.toNat_natCast, Int.toNat_natCast]); (unfold SrchR at h); (rw [if_neg (fun h => h ⟨⟨by omega, by omega⟩, ⟨by omega, by omega⟩, hl⟩), if_neg (by rw [hp]; decide), hu, Int.toNat_natCast] at h); (obtain ⟨h1, h3, ⟨i, h4, _, h5⟩, h6⟩ := h); (exact ⟨h1, h3, h6, i, h4, h5⟩)
theorem srch_nonneg {n w : Nat} {a : List Grp} {lim win mar err : Int} {l : List Nd} (hp : isPile (n : Int) a = true) (hw : w < n) (h2 : 2 ≤ n) (h7 : n ≤ 7) (hl : 1 ≤ lim ∧ lim ≤ 4000) (h : SrchR (n : Int) a (w : Int) lim win mar err l) : 0 ≤ mar ∧ mar ≤ upV n a w := by
  (obtain ⟨_, _, rfl, i, rfl, hi⟩ := srch_ok hp hw h2 h7 hl h); (obtain ⟨hW, hL⟩ := run_wf hp hw h2 i hi); (have := (hW _ (selK_spec hL).2.2.2.1).2.1); (have := upV_nonneg (gs := a) h7 hw h2)
  omega
/-- P31.1: where another candidate may win, at least Margin ballots were replaced. -/
theorem srch_lower {n w : Nat} {a b : List Grp} {lim win mar err : Int} {l : List Nd} (hp : isPile (n : Int) a = true) (hpb : isPile (n : Int) b = true) (hw : w < n) (h2 : 2 ≤ n) (h7 : n ≤ 7) (hl : 1 ≤ lim ∧ lim ≤ 4000) (h : SrchR (n : Int) a (w : Int) lim win mar err l)
    (ht : tot a = tot b) {r : Nat} (hr : r < n) (hrw : r ≠ w) (hR : Rc 2 n b (2 ^ r)) : mar ≤ tot a - com a b := by
  (obtain ⟨_, _, rfl, i, rfl, hi⟩ := srch_ok hp hw h2 h7 hl h); (obtain ⟨o, ho, hlast⟩ := rc_ord h7 hr hR); (have ha7 : isPile 7 a = true := isPile_mono (by omega) hp); (have hb7 : isPile 7 b = true := isPile_mono (by omega) hpb); (have hD : 0 ≤ tot a - com a b := by have := com_le a b (pile_pos ha7) (pile_pos hb7); omega); (have hc := cov_run (up := upV n a w) (lim := lim) hp hw h2 ho (by rw [hlast]; omega) (fun j _ => tail_le ha7 hb7 ht hD ho (j := j)) i hi); (have := cov_sel hc)
  omega
end Go.Mg

/- A search's certificate is a covering tree, its bounds are proved (plain). -/
namespace Go.Mg
open Go.Pil
section
variable {n : Nat} {gs : List Grp} {l : List Nd}
theorem getD_app1 {a b : List Nd} {i : Nat} (h : i < a.length) : (a ++ b).getD i default = a.getD i default := by
  rw [List.getD_eq_getElem?_getD, List.getElem?_append_left h, ← List.getD_eq_getElem?_getD]
theorem getD_app2 {a b : List Nd} {i : Nat} (h : a.length ≤ i) : (a ++ b).getD i default = b.getD (i - a.length) default := by
  rw [List.getD_eq_getElem?_getD, List.getElem?_append_right h, ← List.getD_eq_getElem?_getD]
theorem getD_mem' {a : List Nd} {i : Nat} (h : i < a.length) : a.getD i default ∈ a := by
  rw [List.getD_eq_getElem?_getD, List.getElem?_eq_getElem h]; exact List.getElem_mem h
theorem getD_set' {a : List Nd} {K i : Nat} {x : Nd} (h : K < a.length) : (a.set K x).getD i default = if i = K then x else a.getD i default := by
  rw [List.getD_eq_getElem?_getD, List.getElem?_set]
  by_cases hk : K = i
  · subst hk; rw [if_pos rfl, if_pos h, if_pos rfl]; rfl
  · rw [if_neg hk, if_neg (Ne.symm hk), ← List.getD_eq_getElem?_getD]
/-- Behind a step: the nodes that were there. -/
theorem step_old (hK : selK l < l.length) {i : Nat} (hi : i < l.length) : (stepS n gs l).getD i default = if i = selK l then clr (selN l) else l.getD i default := by
  (unfold stepS); (rw [getD_app1 (by rw [List.length_set]; exact hi), getD_set' hK])
theorem step_tail (hK : selK l < l.length) {i : Nat} (hi : i < l.length) : ((stepS n gs l).getD i default).tail = (l.getD i default).tail ∧ ((stepS n gs l).getD i default).par = (l.getD i default).par ∧ ((stepS n gs l).getD i default).bd = (l.getD i default).bd := by
  rw [step_old hK hi]
  by_cases h : i = selK l
  · rw [if_pos h, h]; exact ⟨rfl, rfl, rfl⟩
  · rw [if_neg h]; exact ⟨rfl, rfl, rfl⟩
/-- The nodes that came. -/
theorem step_new {i : Nat} (hi : l.length ≤ i) (hi2 : i < (stepS n gs l).length) : ∃ e, (0 ≤ e ∧ e < (n : Int)) ∧ e ∉ (selN l).tail ∧ (stepS n gs l).getD i default = kidsE n gs (selK l) (selN l) e := by
  (unfold stepS at hi2 ⊢); (rw [getD_app2 (by rw [List.length_set]; exact hi), List.length_set]); (rw [List.length_append, List.length_set] at hi2); (have hm := getD_mem' (a := kids n gs (selK l) (selN l) n) (i := i - l.length) (by omega)); (unfold kids at hm); (obtain ⟨e, he, h⟩ := List.mem_map.1 hm); (obtain ⟨h1, h2⟩ := List.mem_filter.1 he); (exact ⟨e, mem_allC.1 h1, of_decide_eq_true h2, h.symm⟩)
theorem cntH_app (a b : List Nd) (i c : Int) : cntH (a ++ b) i c = cntH a i c + cntH b i c := List.countP_append
theorem cntH_set {K : Nat} (hK : K < l.length) {x : Nd} (hp : x.par = (l.getD K default).par) (ht : x.tail = (l.getD K default).tail) (i c : Int) : cntH (l.set K x) i c = cntH l i c := by
  have e : (l.set K x).map (fun y => (y.par, hdN y)) = l.map (fun y => (y.par, hdN y)) := by
    apply List.ext_getElem (by simp)
    (intro j h1 h2); (simp only [List.getElem_map, List.getElem_set])
    by_cases hj : K = j
    · (subst hj); (rw [if_pos rfl]); (have e2 : l.getD K default = l[K] := by rw [List.getD_eq_getElem?_getD, List.getElem?_eq_getElem hK]; rfl); (rw [e2] at hp ht); (unfold hdN); (rw [hp, ht])
    · rw [if_neg hj]
  (have h : ∀ m : List Nd, cntH m i c = (m.map fun y => (y.par, hdN y)).countP fun p => p.1 == i && p.2 == c := fun m => by unfold cntH; rw [List.countP_map]; rfl); (rw [h, h, e])
theorem cnt_kids (K : Nat) (x : Nd) {i c : Int} (h0 : 0 ≤ c) (hn : c < (n : Int)) : cntH (kids n gs K x n) i c = if i = (K : Int) ∧ c ∉ x.tail then 1 else 0 := by
  (unfold kids cntH); (rw [List.countP_map])
  have e : ((fun y : Nd => y.par == i && hdN y == c) ∘ kidsE n gs K x) = fun e => ((K : Int) == i) && (e == c) := by
    funext e; rfl
  rw [e]
  by_cases hi : i = (K : Int)
  · (have hk : ((K : Int) == i) = true := by rw [beq_iff_eq]; exact hi.symm); (simp only [hk, Bool.true_and])
    show ((allC n).filter fun e => decide (e ∉ x.tail)).count c = _
    by_cases hc : c ∈ x.tail
    · (rw [if_neg (fun h => h.2 hc)]); (exact List.count_eq_zero.2 fun h => by have := of_decide_eq_true (List.mem_filter.1 h).2; exact this hc)
    · (rw [if_pos ⟨hi, hc⟩]); (exact one_of_mem ((nodup_allC n).sublist List.filter_sublist) (List.mem_filter.2 ⟨mem_allC.2 ⟨h0, hn⟩, decide_eq_true hc⟩))
  · (have hk : ((K : Int) == i) = false := by rw [beq_eq_false_iff_ne]; exact Ne.symm hi); (simp only [hk, Bool.false_and]); (rw [if_neg (fun h => hi h.1)])
    simp
theorem cnt_start (w : Int) {i c : Int} (h0 : 0 ≤ c) (hn : c < (n : Int)) : cntH (startS n gs w n) i c = if i = -1 ∧ c ≠ w then 1 else 0 := by
  (unfold startS cntH); (rw [List.countP_map])
  have e : ((fun y : Nd => y.par == i && hdN y == c) ∘ rootE n gs) = fun e => ((-1 : Int) == i) && (e == c) := by
    funext e; rfl
  rw [e]
  by_cases hi : i = -1
  · (have hk : ((-1 : Int) == i) = true := by rw [beq_iff_eq]; exact hi.symm); (simp only [hk, Bool.true_and])
    show ((allC n).filter fun e => decide (e ≠ w)).count c = _
    by_cases hc : c = w
    · (rw [if_neg (fun h => h.2 hc)]); (exact List.count_eq_zero.2 fun h => by have := of_decide_eq_true (List.mem_filter.1 h).2; exact this hc)
    · (rw [if_pos ⟨hi, hc⟩]); (exact one_of_mem ((nodup_allC n).sublist List.filter_sublist) (List.mem_filter.2 ⟨mem_allC.2 ⟨h0, hn⟩, decide_eq_true hc⟩))
  · (have hk : ((-1 : Int) == i) = false := by rw [beq_eq_false_iff_ne]; exact fun e => hi e.symm); (simp only [hk, Bool.false_and]); (rw [if_neg (fun h => hi h.1)])
    simp
theorem start_at {w : Int} {i : Nat} (hi : i < (startS n gs w n).length) : ∃ e, (0 ≤ e ∧ e < (n : Int)) ∧ e ≠ w ∧ (startS n gs w n).getD i default = rootE n gs e := by
  (have hm := getD_mem' hi); (unfold startS at hm); (obtain ⟨e, he, h⟩ := List.mem_map.1 hm); (obtain ⟨h1, h2⟩ := List.mem_filter.1 he); (exact ⟨e, mem_allC.1 h1, of_decide_eq_true h2, h.symm⟩)
theorem code_start (w : Int) : CodeCov n w (startS n gs w n) := by
  refine ⟨fun i hi => ?_, fun i c h1 h2 h3 h4 => ?_, fun i c h1 h2 h3 h4 => ?_⟩
  · (obtain ⟨e, he, _, h⟩ := start_at hi); (rw [h]); (exact ⟨isTail_iff.2 ⟨by show [e] ≠ []; simp, by show [e].Nodup; simp, fun x hx => by rw [List.mem_singleton.1 (show x ∈ [e] from hx)]; exact he⟩, fun _ => rfl, by show (-1 : Int) ≤ -1; decide, by show (-1 : Int) < _; omega, fun h => by have : (0 : Int) ≤ -1 := h; omega, rfl⟩)
  · (rw [cnt_start w (by omega) (by omega)]); (unfold wantH at h4)
    by_cases h0 : i < 0
    · (rw [if_pos h0] at h4); (rw [if_pos ⟨by omega, h4⟩])
    · (rw [if_neg h0] at h4); (obtain ⟨e, _, _, h⟩ := start_at (show i.toNat < (startS n gs w n).length by omega)); (rw [h] at h4)
      cases h4.1
  · (rw [cnt_start w (by omega) (by omega)]); (unfold wantH at h4)
    by_cases h0 : i < 0
    · (rw [if_pos h0] at h4); (rw [if_neg (fun h => h4 h.2)])
    · rw [if_neg (by omega)]
theorem code_step {w : Int} (hL : HasLeaf l) (hn : (selN l).tail.length ≠ n) (h : CodeCov n w l) : CodeCov n w (stepS n gs l) := by
  (obtain ⟨hK, _, hlf, hmem, _⟩ := selK_spec hL); (have hKx : l.getD (selK l) default = selN l := rfl); (have hkO := h.ok (selK l) hK); (rw [hKx] at hkO)
  have hcnt : ∀ (i c : Int), 0 ≤ c → c < (n : Int) → cntH (stepS n gs l) i c = cntH l i c + if i = (selK l : Int) ∧ c ∉ (selN l).tail then 1 else 0 := fun i c h0 h1 => by
    (unfold stepS); (rw [cntH_app, cntH_set hK (x := clr (selN l)) rfl rfl, cnt_kids _ _ h0 h1])
  have hold : ∀ i, i < l.length → OkC n (stepS n gs l) i ((stepS n gs l).getD i default) := fun i hi => by
    (have ho := h.ok i hi); (obtain ⟨t1, t2, _⟩ := step_tail (n := n) (gs := gs) hK hi); (have hlen : l.length ≤ (stepS n gs l).length := by unfold stepS; rw [List.length_append, List.length_set]; omega); (refine ⟨by rw [t1]; exact ho.tail, fun e => ?_, by rw [t2]; exact ho.lo, by rw [t2]; exact ho.hi, fun e => ?_, ?_⟩)
    · (rw [t1] at e); (rw [step_old hK hi])
      by_cases hik : i = selK l
      · subst hik; rw [hKx] at e; exact absurd e hn
      · rw [if_neg hik]; exact ho.full e
    · (rw [t2] at e ⊢); (have hp : (l.getD i default).par.toNat < l.length := by have := ho.hi; omega); (rw [step_old hK hp])
      by_cases hik : (l.getD i default).par.toNat = selK l
      · rw [if_pos hik]; rfl
      · rw [if_neg hik]; exact ho.leafp e
    · (rw [t1, ho.cons]); (unfold upT); (rw [t2])
      by_cases e : 0 ≤ (l.getD i default).par
      · rw [if_pos e, if_pos e, (step_tail (n := n) (gs := gs) hK (by have := ho.hi; omega)).1]
      · rw [if_neg e, if_neg e]
  refine ⟨fun i hi => ?_, fun i c h1 h2 h3 h4 => ?_, fun i c h1 h2 h3 h4 => ?_⟩
  · by_cases hil : i < l.length
    · exact hold i hil
    · (obtain ⟨e, he, het, h'⟩ := step_new (by omega) hi); (rw [h']); (refine ⟨tail_cons hkO.tail he.1 he.2 het, fun _ => rfl, by show (-1 : Int) ≤ (selK l : Int); omega, by show (selK l : Int) < (i : Int); omega, fun _ => ?_, ?_⟩)
      · show ((stepS n gs l).getD (Int.toNat (selK l : Int)) default).leaf = false
        rw [Int.toNat_natCast, step_old hK hK, if_pos rfl]; rfl
      · show (selN l).tail = _
        (unfold upT); (rw [if_pos (by show (0 : Int) ≤ (selK l : Int); omega)])
        show _ = ((stepS n gs l).getD (Int.toNat (selK l : Int)) default).tail
        rw [Int.toNat_natCast, step_old hK hK, if_pos rfl]; rfl
  · (rw [hcnt i c (by omega) (by omega)]); (unfold wantH at h4)
    by_cases h0 : i < 0
    · (rw [if_pos h0] at h4); (rw [h.yes i c h1 (by omega) h3 (by unfold wantH; rw [if_pos h0]; exact h4), if_neg (by omega)])
    · rw [if_neg h0] at h4
      by_cases hil : i.toNat < l.length
      · rw [step_old hK hil] at h4
        by_cases hik : i.toNat = selK l
        · (rw [if_pos hik] at h4); (have h5 : (c : Int) ∉ (selN l).tail := h4.2); (rw [h.no i c h1 (by omega) h3 (by unfold wantH; rw [if_neg h0, hik, hKx, hlf]; exact fun h => by cases h.1), if_pos ⟨by omega, h5⟩])
        · (rw [if_neg hik] at h4); (rw [h.yes i c h1 (by omega) h3 (by unfold wantH; rw [if_neg h0]; exact h4), if_neg (by omega)])
      · (obtain ⟨e, _, _, h'⟩ := step_new (n := n) (gs := gs) (l := l) (i := i.toNat) (by omega) (by omega)); (rw [h'] at h4)
        cases h4.1
  · (rw [hcnt i c (by omega) (by omega)]); (unfold wantH at h4)
    by_cases h0 : i < 0
    · (rw [if_pos h0] at h4); (rw [h.no i c h1 (by omega) h3 (by unfold wantH; rw [if_pos h0]; exact h4), if_neg (by omega)])
    · rw [if_neg h0] at h4
      by_cases hil : i.toNat < l.length
      · rw [step_old hK hil] at h4
        by_cases hik : i.toNat = selK l
        · (rw [if_pos hik] at h4); (have h5 : (c : Int) ∈ (selN l).tail := Classical.byContradiction fun hc => h4 ⟨rfl, hc⟩); (rw [h.no i c h1 (by omega) h3 (by unfold wantH; rw [if_neg h0, hik, hKx, hlf]; exact fun h => by cases h.1), if_neg (fun h => h.2 h5)])
        · (rw [if_neg hik] at h4); (rw [h.no i c h1 (by omega) h3 (by unfold wantH; rw [if_neg h0]; exact h4), if_neg (by omega)])
      · have hz : cntH l i c = 0 := by
          (unfold cntH); (rw [List.countP_eq_zero]); (intro x hx hh); (rw [Bool.and_eq_true, beq_iff_eq] at hh); (obtain ⟨k, hk, rfl⟩ := getD_of_mem hx); (have := (h.ok k hk).hi)
          omega
        rw [hz, if_neg (by omega)]
/-- A node's bound is the best of its tail and of its parent's bound. -/
def BdI (n : Nat) (gs : List Grp) (l : List Nd) : Prop := ∀ i, i < l.length → (l.getD i default).par < (i : Int) ∧ (l.getD i default).bd = if 0 ≤ (l.getD i default).par then max (bd n gs (l.getD i default).tail) (l.getD (l.getD i default).par.toNat default).bd else bd n gs (l.getD i default).tail
theorem bdi_start (w : Int) : BdI n gs (startS n gs w n) := fun i hi => by
  (obtain ⟨e, _, _, h⟩ := start_at hi); (rw [h, if_neg (by show ¬ (0 : Int) ≤ -1; decide)]); (exact ⟨by show (-1 : Int) < _; omega, rfl⟩)
theorem bdi_step (hL : HasLeaf l) (h : BdI n gs l) : BdI n gs (stepS n gs l) := fun i hi => by
  obtain ⟨hK, _⟩ := selK_spec hL
  by_cases hil : i < l.length
  · (obtain ⟨t1, t2, t3⟩ := step_tail (n := n) (gs := gs) hK hil); (obtain ⟨h1, h2⟩ := h i hil); (rw [t1, t2, t3]); (refine ⟨h1, ?_⟩)
    by_cases e : 0 ≤ (l.getD i default).par
    · (rw [if_pos e] at h2 ⊢); (rw [(step_tail (n := n) (gs := gs) hK (by omega)).2.2]; exact h2)
    · rw [if_neg e] at h2 ⊢; exact h2
  · (obtain ⟨e, _, _, h'⟩ := step_new (by omega) hi); (rw [h']); (refine ⟨by show (selK l : Int) < (i : Int); omega, ?_⟩); (rw [if_pos (by show (0 : Int) ≤ (selK l : Int); omega)])
    show max (selN l).bd (bd n gs (e :: (selN l).tail)) = max (bd n gs (e :: (selN l).tail)) ((stepS n gs l).getD (Int.toNat (selK l : Int)) default).bd
    (rw [Int.toNat_natCast, (step_tail (n := n) (gs := gs) hK hK).2.2]); (exact Int.max_comm _ _)
theorem bdi_best (h : BdI n gs l) : ∀ i, i < l.length → bestV n gs (bestK n gs l i) (l.getD i default) = (l.getD i default).bd := by
  intro i
  induction i using Nat.strongRecOn with
  | ind i ih =>
    (intro hi); (obtain ⟨h1, h2⟩ := h i hi); (rw [h2]); (unfold bestV)
    by_cases e : 0 ≤ (l.getD i default).par
    · rw [if_pos e, if_pos e, bestK_at n gs l (by omega), ih _ (by omega) (by omega)]
    · rw [if_neg e, if_neg e]
end
theorem code_run {n w : Nat} {gs : List Grp} {up lim : Int} (hp : isPile (n : Int) gs = true) (hw : w < n) (h2 : 2 ≤ n) : ∀ i, (∀ j, j < i → stopS n up lim (runS n gs (w : Int) j) = false) → CodeCov n (w : Int) (runS n gs (w : Int) i) ∧ BdI n gs (runS n gs (w : Int) i)
  | 0, _ => ⟨code_start _, bdi_start _⟩
  | i + 1, h => by
    (obtain ⟨h1, h3⟩ := code_run hp hw h2 i fun j hj => h j (by omega)); (obtain ⟨_, hL⟩ := run_wf hp hw h2 i fun j hj => h j (by omega)); (have hs := h i (by omega)); (unfold stopS at hs); (simp only [Bool.or_eq_false_iff, decide_eq_false_iff_not] at hs); (exact ⟨code_step hL hs.1.2 h1, bdi_step hL h3⟩)
/-- Check accepts what Search returns; its least bound is at least its margin. -/
theorem srch_accepts {n w : Nat} {a : List Grp} {lim win mar err : Int} {l : List Nd} (hp : isPile (n : Int) a = true) (hw : w < n) (h2 : 2 ≤ n) (h7 : n ≤ 7) (hl : 1 ≤ lim ∧ lim ≤ 4000) (h : SrchR (n : Int) a (w : Int) lim win mar err l) :
    win = (w : Int) ∧ err = 0 ∧ chkE (n : Int) a win mar l = 0 ∧ mar ≤ leastV l ∧ l.length ≤ 4000 := by
  (have hn := srch_nonneg hp hw h2 h7 hl h); (obtain ⟨rfl, h3, hm, i, rfl, hi⟩ := srch_ok hp hw h2 h7 hl h); (obtain ⟨hc, hb⟩ := code_run hp hw h2 i hi); (obtain ⟨_, hL⟩ := run_wf hp hw h2 i hi); (have hlen := run_len hp hw h2 h7 hl.2 i hi); (obtain ⟨s1, s2, s3, s4, s5⟩ := selK_spec hL); (have hmb : mar ≤ (selN (runS n a (w : Int) i)).bd := by omega); (refine ⟨rfl, h3, chk_ok ⟨by omega, by omega, hn.1⟩ hp (by omega) hc fun j hj => ⟨?_, fun hlf => ?_⟩, ?_, hlen⟩)
  · rw [bdi_best hb j hj]; exact Int.le_refl _
  · have := s5 _ (getD_mem' hj) hlf; omega
  · (unfold leastV); (rw [s2, if_neg (by omega), Int.toNat_natCast]); (exact hmb)
end Go.Mg

/- electionref05.Eq on equal lists; the last six bits of a number. -/
namespace Go.Proofs.YtaobaaaihgahfaaGreat
open Go.RowKit Go.Mk Go.Pil Go.Nt Go.Mg Go.Tp
set_option maxRecDepth 20000 in
set_option maxHeartbeats 400000 in
theorem eq5_any (va vb : Value) (xs : List Int) (w : World) (ha : RdZ w va xs) (hb : RdZ w vb xs) :
    Calls Tryz.prog 12 #[va, vb] w fun e w' => e = .returned (.bool true) ∧ Kept no w w' := by
  (obtain ⟨ao, ca, rfl, hca, hcam⟩ := Rd.shape2 ha); (have hm63 := maxLen_63); (obtain ⟨bo, cb, rfl⟩ := Rd.shapeZ hb); (obtain ⟨n, hn⟩ : ∃ n, xs.length = n := ⟨_, rfl⟩); (rw [hn] at ha hb hca ⊢); (replace ha := hid ha); (replace hb := hid hb); (replace hn := hid hn); (have hlb : ((n : Int) != (n : Int)) = false := by simp)
  go_enter Tryz.func12, Tryz.ntmps12
  go_wp2
  go_loopw [5] (fun i wr => ∃ k : Nat, k ≤ n ∧ i = .int .i64 (k : Int) ∧ Hd (Kept no w wr)) (fun i _ => n - (intOf i).toNat)
  case atStart => exact ⟨0, by omega, rfl, ⟨Kept.refl _ _⟩⟩
  case round =>
    obtain ⟨k, hk, rfl, hW⟩ := hrel
    by_cases hlt : k < n
    · (have hk1 : (k : Int) < (n : Int) := by omega); (have hk0 : (0 : Int) ≤ (k : Int) := by omega); (have hkl : k < xs.length := by rw [hn.out]; exact hlt); (obtain ⟨b1, o1, rfl, c1⟩ := RdZ.at (ha.out.kept hW.out) k hkl); (obtain ⟨b2, o2, rfl, c2⟩ := RdZ.at (hb.out.kept hW.out) k hkl); (generalize xs.getD k 0 = x at c1 c2); (have hb0 : (x != x) = false := by simp); (go_wp2_with fail); (go_quiet (fail)); (have hW' : Hd (Kept no w (wr.drewN nq)) := ⟨hW.out.drewN nq⟩); (go_wp2); (go_roundw)
      case rel => first | exact ⟨k + 1, by omega, by go_num, hW'⟩ | ((repeat apply Exists.intro); exact ⟨⟨k + 1, by omega, by go_num, hW'⟩, rfl⟩)
      case measure => simp [intOf]; omega
    · (obtain rfl : k = n := by omega); (have hk1 : ¬ (k : Int) < (k : Int) := by omega); (go_wp2); (go_ret); (exact ⟨rfl, hW.out⟩)
theorem bits63 (x : Int) : ∃ m : Nat, m ≤ 63 ∧ bits .and .i64 x 63 = (m : Int) := by
  have h : (BitVec.ofInt 64 x &&& BitVec.ofInt 64 63).toNat ≤ 63 := by
    (rw [BitVec.toNat_and]); (exact Nat.and_le_right)
  exact ⟨_, h, (show bits .and .i64 x 63 = IntKind.i64.wrap ((BitVec.ofInt 64 x &&& BitVec.ofInt 64 63).toNat : Int) from rfl).trans (IntWalk.i64_in _ (by omega))⟩
end Go.Proofs.YtaobaaaihgahfaaGreat
namespace Go.Tp
open Go.Pil Go.Mg
theorem mk_ok {n : Int} {ls : List (List Int)} (h : (mk n ls).2 = 0) : isPile n (mk n ls).1 = true ∧ tot (mk n ls).1 = (ls.length : Int) := by
  unfold mk at h ⊢
  by_cases h1 : n < 1 ∨ 7 < n
  · rw [if_pos h1] at h; simp at h
  · rw [if_neg h1] at h ⊢
    by_cases h2 : 100000 < ls.length
    · rw [if_pos h2] at h; simp at h
    · rw [if_neg h2] at h ⊢
      by_cases h3 : allB n ls = true
      · (rw [if_pos h3] at h ⊢); (exact ⟨pile_of_ballots (List.all_eq_true.1 h3) (by omega), by rw [pileOf_tot (ones_pos _), ones_tot]⟩)
      · rw [if_neg h3] at h; simp at h
theorem fit_ok {n : Nat} {t : Int} {g : List Grp} {l : List Int} (h : fitP 1 n 1 1 0 t g l = 0) : 1 ≤ n ∧ n ≤ 7 ∧ isPile (n : Int) g = true ∧ l.length = n ∧ ballot (n : Int) l = true := by
  (unfold fitP at h); (rw [if_neg (by omega)] at h)
  have hn : 1 ≤ n ∧ n ≤ 7 := Classical.byContradiction fun hh => by
    rw [if_pos (by omega)] at h
    simp at h
  have h2 : ¬ (n < 1 ∨ 7 < n ∨ (1 : Int) < 1 ∨ (5 : Int) < 1 ∨ ((1 : Int) = 1 ∧ (1 : Int) ≠ 1) ∨ (if (1 : Int) = 2 then (0 : Int) < 1 ∨ (6 : Int) < 0 else (0 : Int) ≠ 0) ∨ t < 1 ∨ 3 < t) := fun hh => by
    rw [if_pos hh] at h
    simp at h
  rw [if_neg h2] at h
  by_cases h3 : isPile (n : Int) g = true
  · rw [if_pos h3] at h
    by_cases h4 : permB n l = true
    · (unfold permB at h4); (rw [Bool.and_eq_true] at h4); (obtain ⟨h5, h6⟩ := h4); (refine ⟨hn.1, hn.2, h3, ?_, ?_⟩)
      · first | exact of_decide_eq_true h6 | exact of_decide_eq_true h5
      · first | exact h5 | exact h6
    · rw [if_neg h4] at h
      simp at h
  · rw [if_neg h3] at h
    simp at h
theorem dist_eq {n : Nat} {a b : List Grp} (h7 : n ≤ 7) (ha : isPile (n : Int) a = true) (hb : isPile (n : Int) b = true) (ht : tot a = tot b) : dist a b = tot a - com a b := by
  (have ha7 := isPile_mono (show (n : Int) ≤ 7 by omega) ha); (have hb7 := isPile_mono (show (n : Int) ≤ 7 by omega) hb); (have e1 : total a = tot a := by unfold total; rw [if_pos ha7]); (have e2 : total b = tot b := by unfold total; rw [if_pos hb7]); (unfold dist); (rw [if_pos ⟨ha7, hb7, by rw [e1, e2]; exact ht⟩, e1])
/-- The winner of a pile near by is the same, and no other can win. -/
theorem top_same {n w wb : Nat} {a b : List Grp} {lim win mar err : Int} {l : List Nd} (hp : isPile (n : Int) a = true) (hpb : isPile (n : Int) b = true) (hw : w < n) (h2 : 2 ≤ n) (h7 : n ≤ 7) (hl : 1 ≤ lim ∧ lim ≤ 4000) (h : SrchR (n : Int) a (w : Int) lim win mar err l) (ht : tot a = tot b) (hd : dist a b < mar) (hwb : wb < n) (hR : Rc 2 n b (2 ^ wb)) :
    wb = w ∧ posB (n : Int) b = [(w : Int)] := by
  rw [dist_eq h7 hp hpb ht] at hd
  have key : ∀ r, r < n → Rc 2 n b (2 ^ r) → r = w := fun r hr hRr => by
    (refine Classical.byContradiction fun hne => ?_); (have := srch_lower hp hpb hw h2 h7 hl h ht hr hne hRr)
    omega
  (refine ⟨key wb hwb hR, ?_⟩); (unfold posB); (rw [if_pos ⟨⟨by omega, by omega⟩, hpb⟩, Int.toNat_natCast]); (exact (pos_only h7 hw).2 fun ⟨r, hr, hne, hRr⟩ => hne (key r hr hRr))
end Go.Tp
