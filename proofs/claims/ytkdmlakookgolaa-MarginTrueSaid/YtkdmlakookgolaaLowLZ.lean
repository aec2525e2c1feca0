/- Lower bounds in plain Lean: Tail's bound; what a search's margin is worth. -/
import Derived.Test.YtkdmlakookgolaaMUpLZ
import Derived.Test.YtkdmlakookgolaaSrchZ
namespace Go.Mg
open Go.Pil
/-- A complete order of exclusion of b. -/
structure Ord (n : Nat) (b : List Grp) (o : List Int) : Prop where
  nodup : o.Nodup
  mem : ∀ x : Int, x ∈ o ↔ 0 ≤ x ∧ x < (n : Int)
  low : ∀ i, i < o.length → ∀ d ∈ o.drop i, vt n b (o.drop i) (o.getD i 0) ≤ vt n b (o.drop i) d
theorem vt_congr {n : Nat} (gs : List Grp) {l m : List Int} (h : ∀ x : Int, 0 ≤ x → x < n → (x ∈ l ↔ x ∈ m)) (c : Int) : vt n gs l c = vt n gs m c := by unfold vt; rw [flags_congr h]
theorem ord_len {n : Nat} {b : List Grp} {o : List Int} (h : Ord n b o) : o.length = n := by
  have := out_len n o h.nodup fun x hx => (h.mem x).1 hx
  have e : ((allC n).filter fun e => decide (e ∉ o)) = [] := by
    (rw [List.filter_eq_nil_iff]); (intro x hx); (have := (h.mem x).2 (mem_allC.1 hx))
    simp [this]
  rw [e] at this; simpa using this
theorem ord_tail {n : Nat} {b : List Grp} {o : List Int} (h : Ord n b o) {j : Nat} (hj : j < o.length) : isTail (n : Int) (o.drop j) = true := by
  (rw [isTail_iff]); (refine ⟨fun e => ?_, h.nodup.sublist (List.drop_sublist _ _), fun x hx => (h.mem x).1 (List.mem_of_mem_drop hx)⟩); (have := congrArg List.length e); (rw [List.length_drop] at this)
  simp at this; omega
theorem hd_find (remain : List Bool) (p : List Int) : hd remain p = p.find? (inB remain) := by unfold hd kept; rw [List.head?_filter]
theorem hd_iff {remain : List Bool} {p : List Int} {c : Int} : hd remain p = some c ↔ inB remain c = true ∧ ∃ pre post, p = pre ++ c :: post ∧ ∀ x ∈ pre, inB remain x = false := by
  rw [hd_find, List.find?_eq_some_iff_append]
  simp
/-- Who is first of all is first of any who remain with him. -/
theorem hd_mono {n : Nat} {R : List Int} {e : Int} {p : List Int} (he : e ∈ R) (h : hd (flags n (allC n)) p = some e) : hd (flags n R) p = some e := by
  (rw [hd_iff] at h ⊢); (obtain ⟨h1, pre, post, rfl, h2⟩ := h); (rw [flags_in] at h1); (have h1' := of_decide_eq_true h1); (refine ⟨by rw [flags_in]; exact decide_eq_true ⟨h1'.1, h1'.2.1, he⟩, pre, post, rfl, fun x hx => ?_⟩); (have := h2 x hx); (rw [flags_in] at this ⊢); (have h3 := of_decide_eq_false this); (exact decide_eq_false fun hc => h3 ⟨hc.1, hc.2.1, mem_allC.2 ⟨hc.1, hc.2.1⟩⟩)
/-- Who is first of some who remain is preferred to each of them. -/
theorem hd_pref {n : Nat} {R : List Int} {e t : Int} {p : List Int} (he : e ∈ R) (h0 : 0 ≤ e) (hn : e < n) (hne : e ≠ t) (h : hd (flags n R) p = some t) : pref p t e = true := by
  (rw [hd_iff] at h); (obtain ⟨h1, pre, post, rfl, h2⟩ := h); (have ht : t ∉ pre := fun hm => by rw [h2 t hm] at h1; cases h1)
  have hep : e ∉ pre := fun hm => by
    (have := h2 e hm); (rw [flags_in] at this); (exact of_decide_eq_false this ⟨h0, hn, he⟩)
  (unfold pref); (refine decide_eq_true ?_); (rw [List.idxOf_append, List.idxOf_append, if_neg ht, if_neg hep, List.idxOf_cons_self, List.idxOf_cons, show (t == e) = false from beq_eq_false_iff_ne.2 (Ne.symm hne)]); (simp only [cond_false])
  omega
theorem getD_mem {o : List Int} {i : Nat} (h : i < o.length) : o.getD i 0 ∈ o := by rw [List.getD_eq_getElem?_getD, List.getElem?_eq_getElem h]; exact List.getElem_mem h
theorem getD_drop (o : List Int) (j i : Nat) : (o.drop j).getD i 0 = o.getD (j + i) 0 := by simp [List.getD_eq_getElem?_getD, List.getElem?_drop]
/-- Tail's bound: for the tails of an order of b, at most as many as the ballots that differ. -/
theorem tail_le {n : Nat} {a b : List Grp} {o : List Int} (ha : isPile 7 a = true) (hb : isPile 7 b = true) (ht : tot a = tot b) (hD : 0 ≤ tot a - com a b) (ho : Ord n b o) {j : Nat} : bd n a (o.drop j) ≤ tot a - com a b := by
  (have hpa := pile_pos ha); (have hpb := pile_pos hb); (unfold bd); (refine half_le hD (mx_le (by omega) fun x hx => ?_))
  rcases List.mem_append.1 hx with hx | hx
  · (unfold din at hx); (obtain ⟨i, hi, hx⟩ := List.mem_flatMap.1 hx); (obtain ⟨d, hdd, rfl⟩ := List.mem_map.1 hx); (have hi := List.mem_range.1 hi); (rw [List.length_drop] at hi); (have e1 : (o.drop j).drop i = o.drop (j + i) := by rw [List.drop_drop]); (have hij : j + i < o.length := by omega); (rw [e1, getD_drop])
    have hdm : d ∈ o.drop (j + i) := by
      (rw [List.drop_drop] at hdd); (have : o.drop (j + i) = o[j + i] :: o.drop (j + i + 1) := List.drop_eq_getElem_cons hij); (rw [this]); (exact List.mem_cons_of_mem _ (by rw [show j + i + 1 = j + (i + 1) by omega]; exact hdd))
    (have h1 := ho.low (j + i) hij d hdm); (have c1 := (ho.mem _).1 (getD_mem hij)); (have c2 := (ho.mem _).1 (List.mem_of_mem_drop hdm)); (rw [vt_eq b _ c1.1 c1.2, vt_eq b _ c2.1 c2.2] at h1); (rw [vt_eq a _ c1.1 c1.2, vt_eq a _ c2.1 c2.2]); (have := diff_com (fun p => hd (flags n (o.drop (j + i))) p == some (o.getD (j + i) 0)) (fun p => hd (flags n (o.drop (j + i))) p == some d) a b hpa hpb)
    omega
  · (unfold dout at hx); (obtain ⟨e, he, hx⟩ := List.mem_flatMap.1 hx); (obtain ⟨t, htm, rfl⟩ := List.mem_map.1 hx); (obtain ⟨he1, he2⟩ := List.mem_filter.1 he); (have he2 : e ∉ o.drop j := of_decide_eq_true he2); (have hec := mem_allC.1 he1); (have heo := (ho.mem e).2 hec); (obtain ⟨i, hi, hie⟩ := List.getElem_of_mem heo)
    have hij : i < j := Nat.lt_of_not_le fun h => he2 (by
      (have : o.drop j = (o.drop j) := rfl); (rw [← hie]); (have e3 : o[i] = (o.drop j)[i - j]'(by rw [List.length_drop]; omega) := by rw [List.getElem_drop]; congr 1; omega)
      rw [e3]; exact List.getElem_mem _)
    have hto : t ∈ o.drop i := by
      (have : o.drop j = (o.drop i).drop (j - i) := by rw [List.drop_drop]; congr 1; omega); (rw [this] at htm); (exact List.mem_of_mem_drop htm)
    (have htr := (ho.mem t).1 (List.mem_of_mem_drop hto)); (have hgd : o.getD i 0 = e := by rw [List.getD_eq_getElem?_getD, List.getElem?_eq_getElem hi]; exact hie)
    have hei : e ∈ o.drop i := by
      rw [List.drop_eq_getElem_cons hi, hie]; exact List.mem_cons_self
    (have hne : e ≠ t := fun h => he2 (h ▸ htm)); (have h1 := ho.low i hi t hto); (rw [hgd, vt_eq b _ hec.1 hec.2, vt_eq b _ htr.1 htr.2] at h1)
    have h2 : sumIf (fun p => hd (flags n (allC n)) p == some e) b ≤ sumIf (fun p => hd (flags n (o.drop i)) p == some e) b := sumIf_mono hpb fun g _ hq => by
      have := hd_mono (n := n) hei (by simpa using hq)
      simp [this]
    (have h3 : sumIf (fun p => hd (flags n (o.drop i)) p == some t) b ≤ sumIf (fun p => pref p t e) b := sumIf_mono hpb fun g _ hq => hd_pref hei hec.1 hec.2 hne (by simpa using hq)); (rw [vt_eq a _ hec.1 hec.2]); (unfold prefers); (rw [if_pos ⟨ha, Ne.symm hne⟩]); (have := diff_com (fun p => hd (flags n (allC n)) p == some e) (fun p => pref p t e) a b hpa hpb)
    omega
/-- A set that is reached: those who left it, in their order. -/
theorem rc_path {k n : Nat} {b : List Grp} (hn : n ≤ 7) {s : Nat} (h : Rc k n b s) : ∃ pre : List Int, pre.Nodup ∧ (∀ x : Int, x ∈ pre ↔ (0 ≤ x ∧ x < (n : Int)) ∧ x ∉ sl n s) ∧ ∀ i, i < pre.length → ∀ R : List Int, (∀ x, x ∈ R ↔ x ∈ pre.drop i ∨ x ∈ sl n s) → ∀ d ∈ R, vt n b R (pre.getD i 0) ≤ vt n b R d := by
  induction h with
  | full => refine ⟨[], by simp, fun x => ?_, fun i hi => by simp at hi⟩; rw [sl_full hn, mem_allC]; simp
  | step h1 h2 h3 ih =>
    rename_i u c
    (obtain ⟨pre, p1, p2, p3⟩ := ih); (have hl := low_sub hn h1.lt h3); (have hcu := (mem_lows.1 h3).1); (have hu := pow7 hn); (have hlt := h1.lt)
    have hsl : ∀ x : Int, x ∈ sl n (u - 2 ^ c.toNat) ↔ x ∈ sl n u ∧ x ≠ c := fun x => by
      rw [mem_sl, mem_sl]
      by_cases hx : 0 ≤ x ∧ x < (n : Int)
      · (have hb := (bits_sub u (by omega) c.toNat (by omega) hl.2.2.2).2 x.toNat (by omega)); (rw [hb, Bool.and_eq_true, decide_eq_true_iff]); (have : x.toNat ≠ c.toNat ↔ x ≠ c := by omega); (rw [this])
        constructor
        · rintro ⟨_, h, h'⟩; exact ⟨⟨hx, h⟩, h'⟩
        · rintro ⟨⟨_, h⟩, h'⟩; exact ⟨hx, h, h'⟩
      · constructor
        · rintro ⟨h, _⟩; exact absurd h hx
        · rintro ⟨⟨h, _⟩, _⟩; exact absurd h hx
    (have hcp : c ∉ pre := fun hm => ((p2 c).1 hm).2 hcu); (refine ⟨pre ++ [c], ?_, fun x => ?_, fun i hi R hR d hd => ?_⟩)
    · (rw [List.nodup_append]); (exact ⟨p1, by simp, fun x hx y hy => by rw [List.mem_singleton.1 hy]; intro e; subst e; exact hcp hx⟩)
    · rw [List.mem_append, List.mem_singleton, p2, hsl]
      constructor
      · rintro (⟨h, h'⟩ | rfl)
        · exact ⟨h, fun hc => h' hc.1⟩
        · exact ⟨hl.2.2.1, fun hc => hc.2 rfl⟩
      · rintro ⟨h, h'⟩
        by_cases hxc : x = c
        · exact .inr hxc
        · exact .inl ⟨h, fun hm => h' ⟨hm, hxc⟩⟩
    · by_cases hil : i < pre.length
      · (have e1 : (pre ++ [c]).getD i 0 = pre.getD i 0 := by simp [List.getD_eq_getElem?_getD, List.getElem?_append, hil]); (rw [e1]); (refine p3 i hil R (fun x => ?_) d hd); (rw [hR, List.drop_append_of_le_length (by omega), List.mem_append, List.mem_singleton, hsl])
        constructor
        · rintro ((h | rfl) | h)
          · exact .inl h
          · exact .inr hcu
          · exact .inr h.1
        · rintro (h | h)
          · exact .inl (.inl h)
          · by_cases hxc : x = c
            · exact .inl (.inr hxc)
            · exact .inr ⟨h, hxc⟩
      · (have hie : i = pre.length := by simp at hi; omega); (subst hie); (have e1 : (pre ++ [c]).getD pre.length 0 = c := by simp [List.getD_eq_getElem?_getD]); (rw [e1])
        have hRs : ∀ x : Int, x ∈ R ↔ x ∈ sl n u := fun x => by
          rw [hR, List.drop_left, List.mem_singleton, hsl]
          constructor
          · rintro (rfl | h)
            · exact hcu
            · exact h.1
          · intro h
            by_cases hxc : x = c
            · exact .inl hxc
            · exact .inr ⟨h, hxc⟩
        (rw [vt_congr b (fun x _ _ => hRs x), vt_congr b (fun x _ _ => hRs x)]); (exact (mem_lows.1 h3).2 d ((hRs d).1 hd))
/-- Whoever can win is the last of an order of exclusion. -/
theorem rc_ord {n : Nat} {b : List Grp} (hn : n ≤ 7) {c : Nat} (hc : c < n) (h : Rc 2 n b (2 ^ c)) : ∃ o, Ord n b o ∧ o.getD (n - 1) 0 = (c : Int) := by
  obtain ⟨pre, p1, p2, p3⟩ := rc_path hn h
  have hs : ∀ x : Int, x ∈ sl n (2 ^ c) ↔ x = (c : Int) := fun x => by
    rw [mem_sl]
    constructor
    · (rintro ⟨h1, h2⟩); (have := bits_pow c (by omega) x.toNat (by omega)); (rw [this] at h2); (have := of_decide_eq_true h2)
      omega
    · (rintro rfl); (refine ⟨⟨by omega, by omega⟩, ?_⟩); (rw [Int.toNat_natCast, bits_pow c (by omega) c (by omega)]); (exact decide_eq_true rfl)
  have hcp : (c : Int) ∉ pre := fun hm => ((p2 _).1 hm).2 ((hs _).2 rfl)
  have ho : Ord n b (pre ++ [(c : Int)]) := by
    refine ⟨?_, fun x => ?_, fun i hi d hd => ?_⟩
    · (rw [List.nodup_append]); (exact ⟨p1, by simp, fun x hx y hy => by rw [List.mem_singleton.1 hy]; intro e; subst e; exact hcp hx⟩)
    · rw [List.mem_append, List.mem_singleton, p2, hs]
      constructor
      · rintro (⟨h, _⟩ | rfl)
        · exact h
        · exact ⟨by omega, by omega⟩
      · intro h
        by_cases hxc : x = (c : Int)
        · exact .inr hxc
        · exact .inl ⟨h, hxc⟩
    · by_cases hil : i < pre.length
      · (have e1 : (pre ++ [(c : Int)]).getD i 0 = pre.getD i 0 := by simp [List.getD_eq_getElem?_getD, List.getElem?_append, hil]); (rw [e1]); (refine p3 i hil _ (fun x => ?_) d hd); (rw [List.drop_append_of_le_length (by omega), List.mem_append, List.mem_singleton, hs])
      · (have hie : i = pre.length := by simp at hi; omega); (subst hie); (rw [List.drop_left] at hd ⊢); (have e1 : (pre ++ [(c : Int)]).getD pre.length 0 = (c : Int) := by simp [List.getD_eq_getElem?_getD]); (rw [e1, List.mem_singleton.1 hd]; exact Int.le_refl _)
  (refine ⟨_, ho, ?_⟩); (have := ord_len ho); (rw [List.length_append] at this); (have e : n - 1 = pre.length := by simp at this; omega); (rw [e]; simp [List.getD_eq_getElem?_getD])
end Go.Mg
