/- What the reference's search ends with can be encoded (plain). -/
import Derived.Test.YtkdmlakookgolaaSrRZ
import Derived.Test.YtkdmlakookgolaaMUpLZ
import Derived.Test.YtkdmlakookgolaaEncLZ
import Derived.Test.YtkdmlakookgolaaPossZ
namespace Go.Mg
open Go.Pil
open Classical in
theorem upV_nn {n w : Nat} {gs : List Grp} (hn : n ≤ 7) (hw : w < n) (h2 : 2 ≤ n) : 0 ≤ upV n gs w := by
  by_cases h : ∃ r, r < n ∧ r ≠ w ∧ Rc 2 n gs (2 ^ r)
  · unfold upV; rw [if_pos h]; exact Int.le_refl _
  · -- the set of two from which w comes
    have hfull : ∀ s, Rc 2 n gs s → 2 ≤ (sl n s).length → ∃ r, r < n ∧ r ≠ w ∧ Rc 2 n gs (2 ^ r + 2 ^ w) := by
      intro s
      induction s using Nat.strongRecOn with
      | ind s ih =>
        (intro hr h2s); (have hlt := hr.lt)
        by_cases h2e : (sl n s).length = 2
        · cases hb : s.testBit w with
          | true =>
            (obtain ⟨r, h1, h3, rfl⟩ := pair_of hn hlt h2e hw hb); (exact ⟨r, h1, h3, hr⟩)
          | false =>
            exfalso
            (obtain ⟨c, hc⟩ := low_exists gs (n := n) (s := s) (by intro e; rw [e] at h2s; simp at h2s)); (have hl := low_sub hn hlt hc); (have hs := sl_sub n hn s hlt c.toNat (by omega) hl.2.2.2); (obtain ⟨d, hd⟩ := List.exists_mem_of_length_pos (show 0 < (sl n (s - 2 ^ c.toNat)).length by omega)); (obtain ⟨⟨d0, dn⟩, db⟩ := mem_sl.1 hd); (have hr2 : Rc 2 n gs (s - 2 ^ c.toNat) := .step hr h2s hc); (have e := single n hn _ hr2.lt d.toNat (by omega) db (by omega)); (refine h ⟨d.toNat, by omega, fun hdw => ?_, e ▸ hr2⟩); (rw [hdw] at db); (have := pow7 hn); (have := (bits_sub s (by omega) c.toNat (by omega) hl.2.2.2).2 w (by omega)); (rw [this, hb] at db; cases db)
        · (obtain ⟨c, hc⟩ := low_exists gs (n := n) (s := s) (by intro e; rw [e] at h2s; simp at h2s)); (have hl := low_sub hn hlt hc); (have hs := sl_sub n hn s hlt c.toNat (by omega) hl.2.2.2); (exact ih _ hl.2.1 (.step hr h2s hc) (by omega))
    (obtain ⟨r, h1, h3, h4⟩ := hfull (2 ^ n - 1) .full (by rw [sl_full hn]; simp [allC]; omega)); (unfold upV); (rw [if_neg h])
    rcases mn_spec (upL n gs w n) (fun x hx => by
      (unfold upL at hx); (obtain ⟨r, _, rfl⟩ := List.mem_map.1 hx)
      exact half_nonneg _) with ⟨_, hno⟩ | ⟨h0, _⟩
    · exfalso
      apply hno (pairV n gs w r)
      (unfold upL); (exact List.mem_map.2 ⟨r, List.mem_filter.2 ⟨List.mem_range.2 h1, decide_eq_true ⟨h3, h4⟩⟩, rfl⟩)
    · exact h0
/-- Parents stand ahead of their children. -/
def ParI (l : List Nd) : Prop := ∀ i, i < l.length → -1 ≤ (l.getD i default).par ∧ (l.getD i default).par < (i : Int)
theorem getD_inE {a : List Nd} {i : Nat} (h : i < a.length) : a.getD i default ∈ a := by
  rw [List.getD_eq_getElem?_getD, List.getElem?_eq_getElem h]; exact List.getElem_mem h
theorem par_start (n : Nat) (gs : List Grp) (w : Int) : ParI (startS n gs w n) := fun i hi => by
  (have hm := getD_inE hi); (unfold startS at hm); (obtain ⟨e, _, h⟩ := List.mem_map.1 hm); (unfold startS); (rw [← h]); (exact ⟨by show (-1 : Int) ≤ -1; omega, by show (-1 : Int) < _; omega⟩)
theorem par_step {n : Nat} {gs : List Grp} {l : List Nd} (hK : selK l < l.length) (h : ParI l) : ParI (stepS n gs l) := fun i hi => by
  by_cases hil : i < l.length
  · have e : ((stepS n gs l).getD i default).par = (l.getD i default).par := by
      (unfold stepS); (rw [List.getD_eq_getElem?_getD, List.getElem?_append_left (by rw [List.length_set]; exact hil), List.getElem?_set])
      by_cases hk : selK l = i
      · rw [if_pos hk, if_pos hK, ← hk]; rfl
      · rw [if_neg hk, ← List.getD_eq_getElem?_getD]
    rw [e]; exact h i hil
  · (unfold stepS at hi ⊢); (rw [List.length_append, List.length_set] at hi); (rw [List.getD_eq_getElem?_getD, List.getElem?_append_right (by rw [List.length_set]; omega), ← List.getD_eq_getElem?_getD, List.length_set]); (have hm := getD_inE (a := kids n gs (selK l) (selN l) n) (i := i - l.length) (by omega)); (unfold kids at hm ⊢); (obtain ⟨e, _, h⟩ := List.mem_map.1 hm); (rw [← h]); (refine ⟨?_, ?_⟩)
    · show (-1 : Int) ≤ (selK l : Int); omega
    · show (selK l : Int) < (i : Int); omega
theorem par_run {n w : Nat} {gs : List Grp} {up lim : Int} (hp : isPile (n : Int) gs = true) (hw : w < n) (h2 : 2 ≤ n) : ∀ i, (∀ j, j < i → stopS n up lim (runS n gs (w : Int) j) = false) → ParI (runS n gs (w : Int) i)
  | 0, _ => par_start _ _ _
  | i + 1, h => by
    (have h1 := par_run hp hw h2 i fun j hj => h j (by omega)); (obtain ⟨_, hL⟩ := run_wfC hp hw h2 i fun j hj => h j (by omega)); (exact par_step (selK_spec hL).1 h1)
theorem srch_enc {n w : Nat} {a : List Grp} {lim win mar err : Int} {l : List Nd} (hp : isPile (n : Int) a = true) (hw : w < n) (h2 : 2 ≤ n) (h7 : n ≤ 7) (hl : 1 ≤ lim ∧ lim ≤ 4000) (h : SrchR (n : Int) a (w : Int) lim win mar err l) : EncOk win mar l := by
  (have hr := srch_rdy hp hw h2 h7 hl h); (have hu : upperB (n : Int) a (w : Int) = upV n a w := by unfold upperB; rw [if_pos ⟨by omega, ⟨by omega, hp⟩, by omega, by omega⟩, Int.toNat_natCast, Int.toNat_natCast]); (unfold SrchR at h); (rw [if_neg (fun h => h ⟨⟨by omega, by omega⟩, ⟨by omega, by omega⟩, hl⟩), if_neg (by rw [hp]; decide), hu, Int.toNat_natCast] at h); (obtain ⟨rfl, _, ⟨i, rfl, _, hi⟩, hm⟩ := h); (obtain ⟨hW, hL⟩ := run_wfC hp hw h2 i hi); (have hsel := (hW _ (selK_spec hL).2.2.2.1).2.1); (have hupn := upV_nn (gs := a) h7 hw h2); (refine ⟨by omega, by omega, by omega, hr.mhi, hr.len, fun j hj => ?_⟩); (have hx := getD_inE hj); (have hpj := par_run hp hw h2 i hi j hj); (have ht := isTail_iff.1 (hW _ hx).1); (have hwf := hr.wf _ hx); (have h3 := nodup_len n _ ht.2.1 ht.2.2); (refine ⟨hpj.1, hpj.2, hwf.2.2.1, hwf.2.2.2, ?_, by omega, fun c hc => ?_⟩)
  · have := List.length_pos_iff.2 ht.1; omega
  · have := ht.2.2 c hc; omega
end Go.Mg
