/- A search's certificate is a covering tree, its bounds are proved (plain). -/
import Derived.Test.YtkdmlakookgolaaCk4Z
import Derived.Test.YtkdmlakookgolaaCovLZ
namespace Go.Mg
open Go.Pil
section
variable {n : Nat} {gs : List Grp} {l : List Nd}
theorem getD_app1 {a b : List Nd} {i : Nat} (h : i < a.length) : (a ++ b).getD i default = a.getD i default := by
  rw [List.getD_eq_getElem?_getD, List.getElem?_append_left h, ← List.getD_eq_getElem?_getD]
theorem getD_app2 {a b : List Nd} {i : Nat} (h : a.length ≤ i) : (a ++ b).getD i default = b.getD (i - a.length) default := by
  rw [List.getD_eq_getElem?_getD, List.getElem?_append_right h, ← List.getD_eq_getElem?_getD]
theorem getD_mem' {a : List Nd} {i : Nat} (h : i < a.length) : a.getD i default ∈ a := by
  rw [List.getD_eq_getElem?_getD, List.getElem?_eq_getElem h]; exact List.getElem_mem h
theorem getD_set' {a : List Nd} {K i : Nat} {x : Nd} (h : K < a.length) : (a.set K x).getD i default = if i = K then x else a.getD i default := by
  rw [List.getD_eq_getElem?_getD, List.getElem?_set]
  by_cases hk : K = i
  · subst hk; rw [if_pos rfl, if_pos h, if_pos rfl]; rfl
  · rw [if_neg hk, if_neg (Ne.symm hk), ← List.getD_eq_getElem?_getD]
/-- Behind a step: the nodes that were there. -/
theorem step_old (hK : selK l < l.length) {i : Nat} (hi : i < l.length) : (stepS n gs l).getD i default = if i = selK l then clr (selN l) else l.getD i default := by
  (unfold stepS); (rw [getD_app1 (by rw [List.length_set]; exact hi), getD_set' hK])
theorem step_tail (hK : selK l < l.length) {i : Nat} (hi : i < l.length) : ((stepS n gs l).getD i default).tail = (l.getD i default).tail ∧ ((stepS n gs l).getD i default).par = (l.getD i default).par ∧ ((stepS n gs l).getD i default).bd = (l.getD i default).bd := by
  rw [step_old hK hi]
  by_cases h : i = selK l
  · rw [if_pos h, h]; exact ⟨rfl, rfl, rfl⟩
  · rw [if_neg h]; exact ⟨rfl, rfl, rfl⟩
/-- The nodes that came. -/
theorem step_new {i : Nat} (hi : l.length ≤ i) (hi2 : i < (stepS n gs l).length) : ∃ e, (0 ≤ e ∧ e < (n : Int)) ∧ e ∉ (selN l).tail ∧ (stepS n gs l).getD i default = kidsE n gs (selK l) (selN l) e := by
  (unfold stepS at hi2 ⊢); (rw [getD_app2 (by rw [List.length_set]; exact hi), List.length_set]); (rw [List.length_append, List.length_set] at hi2); (have hm := getD_mem' (a := kids n gs (selK l) (selN l) n) (i := i - l.length) (by omega)); (unfold kids at hm); (obtain ⟨e, he, h⟩ := List.mem_map.1 hm); (obtain ⟨h1, h2⟩ := List.mem_filter.1 he); (exact ⟨e, mem_allC.1 h1, of_decide_eq_true h2, h.symm⟩)
theorem cntH_app (a b : List Nd) (i c : Int) : cntH (a ++ b) i c = cntH a i c + cntH b i c := List.countP_append
theorem cntH_set {K : Nat} (hK : K < l.length) {x : Nd} (hp : x.par = (l.getD K default).par) (ht : x.tail = (l.getD K default).tail) (i c : Int) : cntH (l.set K x) i c = cntH l i c := by
  have e : (l.set K x).map (fun y => (y.par, hdN y)) = l.map (fun y => (y.par, hdN y)) := by
    apply List.ext_getElem (by simp)
    (intro j h1 h2); (simp only [List.getElem_map, List.getElem_set])
    by_cases hj : K = j
    · (subst hj); (rw [if_pos rfl]); (have e2 : l.getD K default = l[K] := by rw [List.getD_eq_getElem?_getD, List.getElem?_eq_getElem hK]; rfl); (rw [e2] at hp ht); (unfold hdN); (rw [hp, ht])
    · rw [if_neg hj]
  (have h : ∀ m : List Nd, cntH m i c = (m.map fun y => (y.par, hdN y)).countP fun p => p.1 == i && p.2 == c := fun m => by unfold cntH; rw [List.countP_map]; rfl); (rw [h, h, e])
theorem cnt_kids (K : Nat) (x : Nd) {i c : Int} (h0 : 0 ≤ c) (hn : c < (n : Int)) : cntH (kids n gs K x n) i c = if i = (K : Int) ∧ c ∉ x.tail then 1 else 0 := by
  (unfold kids cntH); (rw [List.countP_map])
  have e : ((fun y : Nd => y.par == i && hdN y == c) ∘ kidsE n gs K x) = fun e => ((K : Int) == i) && (e == c) := by
    funext e; rfl
  rw [e]
  by_cases hi : i = (K : Int)
  · (have hk : ((K : Int) == i) = true := by rw [beq_iff_eq]; exact hi.symm); (simp only [hk, Bool.true_and])
    show ((allC n).filter fun e => decide (e ∉ x.tail)).count c = _
    by_cases hc : c ∈ x.tail
    · (rw [if_neg (fun h => h.2 hc)]); (exact List.count_eq_zero.2 fun h => by have := of_decide_eq_true (List.mem_filter.1 h).2; exact this hc)
    · (rw [if_pos ⟨hi, hc⟩]); (exact one_of_mem ((nodup_allC n).sublist List.filter_sublist) (List.mem_filter.2 ⟨mem_allC.2 ⟨h0, hn⟩, decide_eq_true hc⟩))
  · (have hk : ((K : Int) == i) = false := by rw [beq_eq_false_iff_ne]; exact Ne.symm hi); (simp only [hk, Bool.false_and]); (rw [if_neg (fun h => hi h.1)])
    simp
theorem cnt_start (w : Int) {i c : Int} (h0 : 0 ≤ c) (hn : c < (n : Int)) : cntH (startS n gs w n) i c = if i = -1 ∧ c ≠ w then 1 else 0 := by
  (unfold startS cntH); (rw [List.countP_map])
  have e : ((fun y : Nd => y.par == i && hdN y == c) ∘ rootE n gs) = fun e => ((-1 : Int) == i) && (e == c) := by
    funext e; rfl
  rw [e]
  by_cases hi : i = -1
  · (have hk : ((-1 : Int) == i) = true := by rw [beq_iff_eq]; exact hi.symm); (simp only [hk, Bool.true_and])
    show ((allC n).filter fun e => decide (e ≠ w)).count c = _
    by_cases hc : c = w
    · (rw [if_neg (fun h => h.2 hc)]); (exact List.count_eq_zero.2 fun h => by have := of_decide_eq_true (List.mem_filter.1 h).2; exact this hc)
    · (rw [if_pos ⟨hi, hc⟩]); (exact one_of_mem ((nodup_allC n).sublist List.filter_sublist) (List.mem_filter.2 ⟨mem_allC.2 ⟨h0, hn⟩, decide_eq_true hc⟩))
  · (have hk : ((-1 : Int) == i) = false := by rw [beq_eq_false_iff_ne]; exact fun e => hi e.symm); (simp only [hk, Bool.false_and]); (rw [if_neg (fun h => hi h.1)])
    simp
theorem start_at {w : Int} {i : Nat} (hi : i < (startS n gs w n).length) : ∃ e, (0 ≤ e ∧ e < (n : Int)) ∧ e ≠ w ∧ (startS n gs w n).getD i default = rootE n gs e := by
  (have hm := getD_mem' hi); (unfold startS at hm); (obtain ⟨e, he, h⟩ := List.mem_map.1 hm); (obtain ⟨h1, h2⟩ := List.mem_filter.1 he); (exact ⟨e, mem_allC.1 h1, of_decide_eq_true h2, h.symm⟩)
theorem code_start (w : Int) : CodeCov n w (startS n gs w n) := by
  refine ⟨fun i hi => ?_, fun i c h1 h2 h3 h4 => ?_, fun i c h1 h2 h3 h4 => ?_⟩
  · (obtain ⟨e, he, _, h⟩ := start_at hi); (rw [h]); (exact ⟨isTail_iff.2 ⟨by show [e] ≠ []; simp, by show [e].Nodup; simp, fun x hx => by rw [List.mem_singleton.1 (show x ∈ [e] from hx)]; exact he⟩, fun _ => rfl, by show (-1 : Int) ≤ -1; decide, by show (-1 : Int) < _; omega, fun h => by have : (0 : Int) ≤ -1 := h; omega, rfl⟩)
  · (rw [cnt_start w (by omega) (by omega)]); (unfold wantH at h4)
    by_cases h0 : i < 0
    · (rw [if_pos h0] at h4); (rw [if_pos ⟨by omega, h4⟩])
    · (rw [if_neg h0] at h4); (obtain ⟨e, _, _, h⟩ := start_at (show i.toNat < (startS n gs w n).length by omega)); (rw [h] at h4)
      cases h4.1
  · (rw [cnt_start w (by omega) (by omega)]); (unfold wantH at h4)
    by_cases h0 : i < 0
    · (rw [if_pos h0] at h4); (rw [if_neg (fun h => h4 h.2)])
    · rw [if_neg (by omega)]
theorem code_step {w : Int} (hL : HasLeaf l) (hn : (selN l).tail.length ≠ n) (h : CodeCov n w l) : CodeCov n w (stepS n gs l) := by
  (obtain ⟨hK, _, hlf, hmem, _⟩ := selK_spec hL); (have hKx : l.getD (selK l) default = selN l := rfl); (have hkO := h.ok (selK l) hK); (rw [hKx] at hkO)
  have hcnt : ∀ (i c : Int), 0 ≤ c → c < (n : Int) → cntH (stepS n gs l) i c = cntH l i c + if i = (selK l : Int) ∧ c ∉ (selN l).tail then 1 else 0 := fun i c h0 h1 => by
    (unfold stepS); (rw [cntH_app, cntH_set hK (x := clr (selN l)) rfl rfl, cnt_kids _ _ h0 h1])
  have hold : ∀ i, i < l.length → OkC n (stepS n gs l) i ((stepS n gs l).getD i default) := fun i hi => by
    (have ho := h.ok i hi); (obtain ⟨t1, t2, _⟩ := step_tail (n := n) (gs := gs) hK hi); (have hlen : l.length ≤ (stepS n gs l).length := by unfold stepS; rw [List.length_append, List.length_set]; omega); (refine ⟨by rw [t1]; exact ho.tail, fun e => ?_, by rw [t2]; exact ho.lo, by rw [t2]; exact ho.hi, fun e => ?_, ?_⟩)
    · (rw [t1] at e); (rw [step_old hK hi])
      by_cases hik : i = selK l
      · subst hik; rw [hKx] at e; exact absurd e hn
      · rw [if_neg hik]; exact ho.full e
    · (rw [t2] at e ⊢); (have hp : (l.getD i default).par.toNat < l.length := by have := ho.hi; omega); (rw [step_old hK hp])
      by_cases hik : (l.getD i default).par.toNat = selK l
      · rw [if_pos hik]; rfl
      · rw [if_neg hik]; exact ho.leafp e
    · (rw [t1, ho.cons]); (unfold upT); (rw [t2])
      by_cases e : 0 ≤ (l.getD i default).par
      · rw [if_pos e, if_pos e, (step_tail (n := n) (gs := gs) hK (by have := ho.hi; omega)).1]
      · rw [if_neg e, if_neg e]
  refine ⟨fun i hi => ?_, fun i c h1 h2 h3 h4 => ?_, fun i c h1 h2 h3 h4 => ?_⟩
  · by_cases hil : i < l.length
    · exact hold i hil
    · (obtain ⟨e, he, het, h'⟩ := step_new (by omega) hi); (rw [h']); (refine ⟨tail_cons hkO.tail he.1 he.2 het, fun _ => rfl, by show (-1 : Int) ≤ (selK l : Int); omega, by show (selK l : Int) < (i : Int); omega, fun _ => ?_, ?_⟩)
      · show ((stepS n gs l).getD (Int.toNat (selK l : Int)) default).leaf = false
        rw [Int.toNat_natCast, step_old hK hK, if_pos rfl]; rfl
      · show (selN l).tail = _
        (unfold upT); (rw [if_pos (by show (0 : Int) ≤ (selK l : Int); omega)])
        show _ = ((stepS n gs l).getD (Int.toNat (selK l : Int)) default).tail
        rw [Int.toNat_natCast, step_old hK hK, if_pos rfl]; rfl
  · (rw [hcnt i c (by omega) (by omega)]); (unfold wantH at h4)
    by_cases h0 : i < 0
    · (rw [if_pos h0] at h4); (rw [h.yes i c h1 (by omega) h3 (by unfold wantH; rw [if_pos h0]; exact h4), if_neg (by omega)])
    · rw [if_neg h0] at h4
      by_cases hil : i.toNat < l.length
      · rw [step_old hK hil] at h4
        by_cases hik : i.toNat = selK l
        · (rw [if_pos hik] at h4); (have h5 : (c : Int) ∉ (selN l).tail := h4.2); (rw [h.no i c h1 (by omega) h3 (by unfold wantH; rw [if_neg h0, hik, hKx, hlf]; exact fun h => by cases h.1), if_pos ⟨by omega, h5⟩])
        · (rw [if_neg hik] at h4); (rw [h.yes i c h1 (by omega) h3 (by unfold wantH; rw [if_neg h0]; exact h4), if_neg (by omega)])
      · (obtain ⟨e, _, _, h'⟩ := step_new (n := n) (gs := gs) (l := l) (i := i.toNat) (by omega) (by omega)); (rw [h'] at h4)
        cases h4.1
  · (rw [hcnt i c (by omega) (by omega)]); (unfold wantH at h4)
    by_cases h0 : i < 0
    · (rw [if_pos h0] at h4); (rw [h.no i c h1 (by omega) h3 (by unfold wantH; rw [if_pos h0]; exact h4), if_neg (by omega)])
    · rw [if_neg h0] at h4
      by_cases hil : i.toNat < l.length
      · rw [step_old hK hil] at h4
        by_cases hik : i.toNat = selK l
        · (rw [if_pos hik] at h4); (have h5 : (c : Int) ∈ (selN l).tail := Classical.byContradiction fun hc => h4 ⟨rfl, hc⟩); (rw [h.no i c h1 (by omega) h3 (by unfold wantH; rw [if_neg h0, hik, hKx, hlf]; exact fun h => by cases h.1), if_neg (fun h => h.2 h5)])
        · (rw [if_neg hik] at h4); (rw [h.no i c h1 (by omega) h3 (by unfold wantH; rw [if_neg h0]; exact h4), if_neg (by omega)])
      · have hz : cntH l i c = 0 := by
          (unfold cntH); (rw [List.countP_eq_zero]); (intro x hx hh); (rw [Bool.and_eq_true, beq_iff_eq] at hh); (obtain ⟨k, hk, rfl⟩ := getD_of_mem hx); (have := (h.ok k hk).hi)
          omega
        rw [hz, if_neg (by omega)]
/-- A node's bound is the best of its tail and of its parent's bound. -/
def BdI (n : Nat) (gs : List Grp) (l : List Nd) : Prop := ∀ i, i < l.length → (l.getD i default).par < (i : Int) ∧ (l.getD i default).bd = if 0 ≤ (l.getD i default).par then max (bd n gs (l.getD i default).tail) (l.getD (l.getD i default).par.toNat default).bd else bd n gs (l.getD i default).tail
theorem bdi_start (w : Int) : BdI n gs (startS n gs w n) := fun i hi => by
  (obtain ⟨e, _, _, h⟩ := start_at hi); (rw [h, if_neg (by show ¬ (0 : Int) ≤ -1; decide)]); (exact ⟨by show (-1 : Int) < _; omega, rfl⟩)
theorem bdi_step (hL : HasLeaf l) (h : BdI n gs l) : BdI n gs (stepS n gs l) := fun i hi => by
  obtain ⟨hK, _⟩ := selK_spec hL
  by_cases hil : i < l.length
  · (obtain ⟨t1, t2, t3⟩ := step_tail (n := n) (gs := gs) hK hil); (obtain ⟨h1, h2⟩ := h i hil); (rw [t1, t2, t3]); (refine ⟨h1, ?_⟩)
    by_cases e : 0 ≤ (l.getD i default).par
    · (rw [if_pos e] at h2 ⊢); (rw [(step_tail (n := n) (gs := gs) hK (by omega)).2.2]; exact h2)
    · rw [if_neg e] at h2 ⊢; exact h2
  · (obtain ⟨e, _, _, h'⟩ := step_new (by omega) hi); (rw [h']); (refine ⟨by show (selK l : Int) < (i : Int); omega, ?_⟩); (rw [if_pos (by show (0 : Int) ≤ (selK l : Int); omega)])
    show max (selN l).bd (bd n gs (e :: (selN l).tail)) = max (bd n gs (e :: (selN l).tail)) ((stepS n gs l).getD (Int.toNat (selK l : Int)) default).bd
    (rw [Int.toNat_natCast, (step_tail (n := n) (gs := gs) hK hK).2.2]); (exact Int.max_comm _ _)
theorem bdi_best (h : BdI n gs l) : ∀ i, i < l.length → bestV n gs (bestK n gs l i) (l.getD i default) = (l.getD i default).bd := by
  intro i
  induction i using Nat.strongRecOn with
  | ind i ih =>
    (intro hi); (obtain ⟨h1, h2⟩ := h i hi); (rw [h2]); (unfold bestV)
    by_cases e : 0 ≤ (l.getD i default).par
    · rw [if_pos e, if_pos e, bestK_at n gs l (by omega), ih _ (by omega) (by omega)]
    · rw [if_neg e, if_neg e]
end
theorem code_run {n w : Nat} {gs : List Grp} {up lim : Int} (hp : isPile (n : Int) gs = true) (hw : w < n) (h2 : 2 ≤ n) : ∀ i, (∀ j, j < i → stopS n up lim (runS n gs (w : Int) j) = false) → CodeCov n (w : Int) (runS n gs (w : Int) i) ∧ BdI n gs (runS n gs (w : Int) i)
  | 0, _ => ⟨code_start _, bdi_start _⟩
  | i + 1, h => by
    (obtain ⟨h1, h3⟩ := code_run hp hw h2 i fun j hj => h j (by omega)); (obtain ⟨_, hL⟩ := run_wf hp hw h2 i fun j hj => h j (by omega)); (have hs := h i (by omega)); (unfold stopS at hs); (simp only [Bool.or_eq_false_iff, decide_eq_false_iff_not] at hs); (exact ⟨code_step hL hs.1.2 h1, bdi_step hL h3⟩)
/-- Check accepts what Search returns; its least bound is at least its margin. -/
theorem srch_accepts {n w : Nat} {a : List Grp} {lim win mar err : Int} {l : List Nd} (hp : isPile (n : Int) a = true) (hw : w < n) (h2 : 2 ≤ n) (h7 : n ≤ 7) (hl : 1 ≤ lim ∧ lim ≤ 4000) (h : SrchR (n : Int) a (w : Int) lim win mar err l) :
    win = (w : Int) ∧ err = 0 ∧ chkE (n : Int) a win mar l = 0 ∧ mar ≤ leastV l ∧ l.length ≤ 4000 := by
  (have hn := srch_nonneg hp hw h2 h7 hl h); (obtain ⟨rfl, h3, hm, i, rfl, hi⟩ := srch_ok hp hw h2 h7 hl h); (obtain ⟨hc, hb⟩ := code_run hp hw h2 i hi); (obtain ⟨_, hL⟩ := run_wf hp hw h2 i hi); (have hlen := run_len hp hw h2 h7 hl.2 i hi); (obtain ⟨s1, s2, s3, s4, s5⟩ := selK_spec hL); (have hmb : mar ≤ (selN (runS n a (w : Int) i)).bd := by omega); (refine ⟨rfl, h3, chk_ok ⟨by omega, by omega, hn.1⟩ hp (by omega) hc fun j hj => ⟨?_, fun hlf => ?_⟩, ?_, hlen⟩)
  · rw [bdi_best hb j hj]; exact Int.le_refl _
  · have := s5 _ (getD_mem' hj) hlf; omega
  · (unfold leastV); (rw [s2, if_neg (by omega), Int.toNat_natCast]); (exact hmb)
end Go.Mg
