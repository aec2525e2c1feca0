/- What a certificate that is accepted proves (plain). -/
import Derived.Test.YtkdmlakookgolaaLowLZ
import Derived.Test.YtkdmlakookgolaaCkLZ
namespace Go.Mg
open Go.Pil
theorem pos_neC {n : Nat} {gs : List Grp} (h7 : n ≤ 7) (h2 : 2 ≤ n) : posC n gs n ≠ [] := fun e => by
  (obtain ⟨c, hc, hr⟩ := rc_single h7 (gs := gs) (2 ^ n - 1) (by have : 2 ^ 1 ≤ 2 ^ n := Nat.pow_le_pow_right (by decide) (by omega); omega) .full); (have : (c : Int) ∈ posC n gs n := mem_posC.2 ⟨c, hc, hr, rfl⟩); (rw [e] at this; cases this)
theorem posB_posD {n : Nat} {gs : List Grp} (h1 : 1 ≤ n) (h7 : n ≤ 7) (hp : isPile (n : Int) gs = true) : posB (n : Int) gs = posC n gs n := by unfold posB; rw [if_pos ⟨⟨by omega, by omega⟩, hp⟩, Int.toNat_natCast]
theorem other_ofC {n : Nat} {gs : List Grp} {w : Nat} (h7 : n ≤ 7) (hw : w < n) (h : posC n gs n ≠ [(w : Int)]) : ∃ r, r < n ∧ r ≠ w ∧ Rc 2 n gs (2 ^ r) := Classical.byContradiction fun hn => h ((pos_only h7 hw).2 hn)
theorem getD_dropC {o : List Int} {j : Nat} (h : j < o.length) : o.drop j = o.getD j 0 :: o.drop (j + 1) := by
  rw [List.drop_eq_getElem_cons h, List.getD_eq_getElem?_getD, List.getElem?_eq_getElem h]; rfl
theorem chk_zero {N : Nat} {gs : List Grp} {win mar : Int} {l : List Nd} (h : chkE (N : Int) gs win mar l = 0) : (0 ≤ win ∧ win < (N : Int)) ∧ CodeCov N win l ∧ ∀ i, i < l.length → BdOk N gs mar l i := by
  unfold chkE at h
  by_cases h1 : (2 ≤ (N : Int) ∧ (N : Int) ≤ 7) ∧ (0 ≤ win ∧ win < (N : Int)) ∧ 0 ≤ mar
  · (rw [if_neg (fun h' => h' h1)] at h); (refine ⟨h1.2.1, ?_⟩)
    by_cases h2 : isPile (N : Int) gs = false
    · rw [if_pos h2] at h; cases h
    · rw [if_neg h2] at h
      by_cases h3 : 4000 < l.length
      · rw [if_pos h3] at h; cases h
      · rw [if_neg h3] at h
        by_cases h4 : CodeCov N win l
        · (rw [if_neg (fun h' => h' (by rw [Int.toNat_natCast]; exact h4))] at h); (refine ⟨h4, Classical.byContradiction fun h5 => ?_⟩); (rw [if_pos (by rw [Int.toNat_natCast]; exact h5)] at h)
          cases h
        · rw [if_pos (by rw [Int.toNat_natCast]; exact h4)] at h; cases h
  · rw [if_pos h1] at h; cases h
section
variable {n : Nat} {win : Int} {l : List Nd} {o : List Int} {a b : List Grp}
theorem mem_of_cntH {i c : Int} (h : cntH l i c = 1) : ∃ k, k < l.length ∧ (l.getD k default).par = i ∧ hdN (l.getD k default) = c := by
  (unfold cntH at h); (obtain ⟨x, hx, hp⟩ := List.countP_pos_iff.1 (by rw [h]; exact Nat.one_pos)); (obtain ⟨k, hk, rfl⟩ := getD_of_mem hx); (rw [Bool.and_eq_true, beq_iff_eq, beq_iff_eq] at hp); (exact ⟨k, hk, hp⟩)
/-- A leaf's tail ends the order. -/
theorem cov_leaf (ho : Ord n b o) (hc : CodeCov n win l) : ∀ (j i : Nat), i < l.length → j < o.length → (l.getD i default).tail = o.drop j → ∃ k j', k < l.length ∧ j' < o.length ∧ (l.getD k default).leaf = true ∧ (l.getD k default).tail = o.drop j'
  | j, i, hi, hj, ht => by
    cases hlf : (l.getD i default).leaf with
    | true => exact ⟨i, j, hi, hj, hlf, ht⟩
    | false =>
      match j, hj, ht with
      | 0, hj, ht =>
        (have := (hc.ok i hi).full (by rw [ht, List.drop_zero, ord_len ho])); (rw [hlf] at this; cases this)
      | j + 1, hj, ht =>
        (have hcr := (ho.mem _).1 (getD_mem (show j < o.length by omega))); (obtain ⟨c, hcc⟩ : ∃ c : Nat, o.getD j 0 = (c : Int) := ⟨(o.getD j 0).toNat, by omega⟩)
        have hnm : o.getD j 0 ∉ o.drop (j + 1) := by
          (have h := ho.nodup.sublist (List.drop_sublist j o)); (rw [getD_dropC (by omega), List.nodup_cons] at h; exact h.1)
        have h1 := hc.yes (i : Int) c (by omega) (by omega) (by omega) (by
          (unfold wantH); (rw [if_neg (by omega), Int.toNat_natCast])
          exact ⟨hlf, by rw [ht, ← hcc]; exact hnm⟩)
        (obtain ⟨k, hk, kp, kh⟩ := mem_of_cntH h1); (have hkt := ok_tail (hc.ok k hk))
        have hup : upT l (l.getD k default) = o.drop (j + 1) := by
          (unfold upT); (rw [kp, if_pos (by omega), Int.toNat_natCast, ht])
        exact cov_leaf ho hc j k hk (by omega) (by rw [hkt, hup, kh, ← hcc, ← getD_dropC (by omega)])
/-- Along the order every bound is proved by the ballots that differ. -/
theorem best_le (hc : CodeCov n win l) {D : Int} (hD : ∀ j, bd n a (o.drop j) ≤ D) : ∀ i, i < l.length → (∃ j, (l.getD i default).tail = o.drop j) → bestV n a (bestK n a l i) (l.getD i default) ≤ D := by
  intro i
  induction i using Nat.strongRecOn with
  | ind i ih =>
    (intro hi ⟨j, ht⟩); (have hok := hc.ok i hi); (have h1 : bd n a (l.getD i default).tail ≤ D := by rw [ht]; exact hD j); (unfold bestV)
    by_cases e : 0 ≤ (l.getD i default).par
    · (rw [if_pos e]); (have hlt : (l.getD i default).par.toNat < i := by have := hok.hi; omega); (rw [bestK_at n a l hlt])
      have h2 := ih _ hlt (by omega) ⟨j + 1, by
        (have := hok.cons); (unfold upT at this); (rw [if_pos e, ht, List.drop_drop] at this)
        exact this.symm⟩
      omega
    · rw [if_neg e]; exact h1
/-- P32.1: whom an accepted certificate names is the only winner, or at least Margin ballots were replaced. -/
theorem chk_proves {mar : Int} (h : chkE (n : Int) a win mar l = 0) (h2 : 2 ≤ n) (h7 : n ≤ 7) (hpa : isPile (n : Int) a = true) (hpb : isPile (n : Int) b = true) (ht : tot a = tot b) (hw : posC n b n ≠ [win]) : mar ≤ tot a - com a b := by
  (obtain ⟨hwin, hc, hbd⟩ := chk_zero h); (obtain ⟨w, rfl⟩ : ∃ w : Nat, win = (w : Int) := ⟨win.toNat, by omega⟩); (obtain ⟨r, hr, hrw, hR⟩ := other_ofC h7 (by omega) hw); (obtain ⟨o, ho, hlast⟩ := rc_ord h7 hr hR); (have ha7 : isPile 7 a = true := isPile_mono (by omega) hpa); (have hb7 : isPile 7 b = true := isPile_mono (by omega) hpb); (have hD : 0 ≤ tot a - com a b := by have := com_le a b (pile_pos ha7) (pile_pos hb7); omega); (have hlen := ord_len ho); (have h1 := hc.yes (-1) r (by omega) (by omega) hr (by unfold wantH; rw [if_pos (by decide)]; omega)); (obtain ⟨k, hk, kp, kh⟩ := mem_of_cntH h1); (have hkt := ok_tail (hc.ok k hk))
  have hup : upT l (l.getD k default) = [] := by
    (unfold upT); (rw [kp, if_neg (by decide)])
  (obtain ⟨i, j, hi, hj, hlf, hti⟩ := cov_leaf ho hc (n - 1) k hk (by omega) (by rw [hkt, hup, kh, ← hlast, getD_dropC (by omega), List.drop_eq_nil_of_le (by omega)])); (have h3 := best_le (a := a) hc (D := tot a - com a b) (fun j => tail_le ha7 hb7 ht hD ho (j := j)) i hi ⟨j, hti⟩); (have h4 := hbd i hi); (have h5 := h4.2 hlf); (have h6 := h4.1)
  omega
end
end Go.Mg
