/- What the nearest pile is worth (plain). -/
import Derived.Test.YtkdmlakookgolaaNearLZ
import Derived.Test.YtkdmlakookgolaaUppLZ
import Derived.Test.YtkdmlakookgolaaCovLZ
namespace Go.Mg
open Go.Pil
theorem upd_fold (f : Nat → Int) : ∀ (L : List Nat) (b : Int), (L.foldl (fun b j => updN b (f j)) b = b ∨ ∃ j ∈ L, 0 ≤ f j ∧ L.foldl (fun b j => updN b (f j)) b = f j) ∧ (0 ≤ b → 0 ≤ L.foldl (fun b j => updN b (f j)) b ∧ L.foldl (fun b j => updN b (f j)) b ≤ b) ∧ ∀ j ∈ L, 0 ≤ f j → 0 ≤ L.foldl (fun b j => updN b (f j)) b ∧ L.foldl (fun b j => updN b (f j)) b ≤ f j
  | [], b => ⟨.inl rfl, fun h => ⟨h, Int.le_refl _⟩, fun j hj => by cases hj⟩
  | x :: L, b => by
    (obtain ⟨h1, h2, h3⟩ := upd_fold f L (updN b (f x))); (rw [List.foldl_cons])
    have hu : (updN b (f x) = b ∨ (updN b (f x) = f x ∧ 0 ≤ f x)) ∧ (0 ≤ b → 0 ≤ updN b (f x) ∧ updN b (f x) ≤ b) ∧ (0 ≤ f x → 0 ≤ updN b (f x) ∧ updN b (f x) ≤ f x) := by
      unfold updN
      split
      · rename_i h; exact ⟨.inr ⟨rfl, h.1⟩, fun hb => ⟨h.1, by omega⟩, fun h => ⟨h, Int.le_refl _⟩⟩
      · rename_i h; exact ⟨.inl rfl, fun hb => ⟨hb, Int.le_refl _⟩, fun h' => by omega⟩
    refine ⟨?_, fun hb => ?_, fun j hj hf => ?_⟩
    · rcases h1 with h1 | ⟨j, hj, hf, he⟩
      · rcases hu.1 with h | ⟨h, h0⟩
        · exact .inl (h1.trans h)
        · exact .inr ⟨x, List.mem_cons_self, h0, h1.trans h⟩
      · exact .inr ⟨j, List.mem_cons_of_mem _ hj, hf, he⟩
    · (have := hu.2.1 hb); (have := h2 this.1)
      omega
    · rcases List.mem_cons.1 hj with rfl | hj
      · (have := hu.2.2 hf); (have := h2 this.1)
        omega
      · exact h3 j hj hf
section
variable {n V : Nat} {a : List Grp} {all : List (List Int)}
theorem near_found : ∀ (k : Nat) (s : List (List Int)) (fr : Nat), 0 ≤ nearV n V a all k s fr → ∃ t : List (List Int), (∀ x ∈ t, x ∈ s ∨ x ∈ all) ∧ t.length = s.length + k ∧ posB (n : Int) (pileOf (ones t)) ≠ [(V : Int)] ∧ nearV n V a all k s fr = dist a (pileOf (ones t))
  | 0, s, fr, h => by
    unfold nearV at h
    by_cases hq : posB (n : Int) (pileOf (ones s)) = [(V : Int)]
    · rw [if_pos hq] at h; omega
    · exact ⟨s, fun x hx => .inl hx, rfl, hq, by unfold nearV; rw [if_neg hq]⟩
  | k + 1, s, fr, h => by
    (have he : nearV n V a all (k + 1) s fr = (List.range (all.length - fr)).foldl (fun b j => updN b ((fun j => nearV n V a all k (s ++ [all.getD (fr + j) []]) (fr + j)) j)) (-1) := rfl); (rw [he] at h ⊢); (obtain ⟨h1, _⟩ := upd_fold (fun j => nearV n V a all k (s ++ [all.getD (fr + j) []]) (fr + j)) (List.range (all.length - fr)) (-1))
    rcases h1 with h1 | ⟨j, hj, hf, h1⟩
    · rw [h1] at h; omega
    · (rw [h1]); (obtain ⟨t, t1, t2, t3, t4⟩ := near_found k _ _ hf); (have hjl := List.mem_range.1 hj); (refine ⟨t, fun x hx => ?_, by rw [t2, List.length_append, List.length_singleton]; omega, t3, t4⟩)
      rcases t1 x hx with hx | hx
      · rcases List.mem_append.1 hx with hx | hx
        · exact .inl hx
        · right
          (rw [List.mem_singleton.1 hx, List.getD_eq_getElem?_getD, List.getElem?_eq_getElem (by omega)]); (exact List.getElem_mem _)
      · exact .inr hx
theorem near_least : ∀ (is : List Nat) (s : List (List Int)) (fr : Nat), (fr :: is).Pairwise (· ≤ ·) → (∀ i ∈ is, i < all.length) → posB (n : Int) (pileOf (ones (s ++ is.map fun i => all.getD i []))) ≠ [(V : Int)] → 0 ≤ dist a (pileOf (ones (s ++ is.map fun i => all.getD i []))) →
    0 ≤ nearV n V a all is.length s fr ∧ nearV n V a all is.length s fr ≤ dist a (pileOf (ones (s ++ is.map fun i => all.getD i [])))
  | [], s, fr, _, _, h3, h4 => by
    rw [List.map_nil, List.append_nil] at h3 h4 ⊢
    show 0 ≤ nearV n V a all 0 s fr ∧ nearV n V a all 0 s fr ≤ _
    (unfold nearV); (rw [if_neg h3]); (exact ⟨h4, Int.le_refl _⟩)
  | i :: is, s, fr, h1, h2, h3, h4 => by
    (have hp := List.pairwise_cons.1 h1); (have hfi : fr ≤ i := hp.1 i List.mem_cons_self); (have hil := h2 i List.mem_cons_self); (have he : s ++ (i :: is).map (fun i => all.getD i []) = (s ++ [all.getD i []]) ++ is.map fun i => all.getD i [] := by simp); (rw [he] at h3 h4 ⊢); (have ih := near_least is (s ++ [all.getD i []]) i hp.2 (fun j hj => h2 j (List.mem_cons_of_mem _ hj)) h3 h4); (have hv : nearV n V a all (is.length + 1) s fr = (List.range (all.length - fr)).foldl (fun b j => updN b ((fun j => nearV n V a all is.length (s ++ [all.getD (fr + j) []]) (fr + j)) j)) (-1) := rfl)
    show 0 ≤ nearV n V a all (is.length + 1) s fr ∧ nearV n V a all (is.length + 1) s fr ≤ _
    (rw [hv]); (have hj : fr + (i - fr) = i := by omega)
    have h5 := (upd_fold (fun j => nearV n V a all is.length (s ++ [all.getD (fr + j) []]) (fr + j)) (List.range (all.length - fr)) (-1)).2.2 (i - fr) (List.mem_range.2 (by omega)) (by
      show 0 ≤ nearV n V a all is.length (s ++ [all.getD (fr + (i - fr)) []]) (fr + (i - fr))
      rw [hj]; exact ih.1)
    refine ⟨h5.1, Int.le_trans h5.2 ?_⟩
    show nearV n V a all is.length (s ++ [all.getD (fr + (i - fr)) []]) (fr + (i - fr)) ≤ _
    rw [hj]; exact ih.2
end
/-- Whatever is found: every pile of k such ballots is tried. -/
theorem near_tried {n V : Nat} {a b : List Grp} {all : List (List Int)} (hb : isPile (n : Int) b = true) (hall : ∀ p, ballot (n : Int) p = true → p ∈ all) {k : Nat} (hk : tot b = (k : Int)) (hq : posB (n : Int) b ≠ [(V : Int)]) (hd : 0 ≤ dist a b) :
    0 ≤ nearV n V a all k [] 0 ∧ nearV n V a all k [] 0 ≤ dist a b := by
  (obtain ⟨h1, h2, h3⟩ := (isPile_iff _ _).1 hb); (have hpos : ∀ g ∈ b, 1 ≤ g.n := fun g hg => (h1 g hg).2)
  have hX : ∀ x ∈ expand b, x ∈ all := fun x hx => by
    (unfold expand at hx); (obtain ⟨g, hg, hx⟩ := List.mem_flatMap.1 hx); (rw [(List.mem_replicate.1 hx).2]); (exact hall _ (h1 g hg).1)
  have hxl : ((expand b).length : Int) = (k : Int) := by rw [expand_len b hpos, hk]
  obtain ⟨is, hper, hsrt⟩ : ∃ is : List Nat, is.Perm ((expand b).map fun x => all.idxOf x) ∧ is.Pairwise (· ≤ ·) :=
    ⟨((expand b).map fun x => all.idxOf x).mergeSort (fun a b => decide (a ≤ b)), List.mergeSort_perm _ _, by
      have := List.pairwise_mergeSort (le := fun a b : Nat => decide (a ≤ b)) (fun a b c h1 h2 => by simp at *; omega) (fun a b => by simp; omega) ((expand b).map fun x => all.idxOf x)
      exact this.imp fun h => of_decide_eq_true h⟩
  have hback : ((expand b).map fun x => all.idxOf x).map (fun i => all.getD i []) = expand b := by
    rw [List.map_map]
    conv => rhs; rw [← List.map_id (expand b)]
    refine List.map_congr_left fun x hx => ?_
    show all.getD (all.idxOf x) [] = x
    (have hlt := List.idxOf_lt_length_of_mem (hX x hx)); (rw [List.getD_eq_getElem?_getD, List.getElem?_eq_getElem hlt]); (exact List.getElem_idxOf hlt)
  have hpb : pileOf (ones ([] ++ is.map fun i => all.getD i [])) = b := by
    rw [List.nil_append]
    have hp2 : (ones (is.map fun i => all.getD i [])).Perm (ones (expand b)) := by
      (unfold ones); (refine List.Perm.map _ ?_); (have := hper.map (fun i => all.getD i []))
      rwa [hback] at this
    rw [pileOf_perm hp2, expand_back b h3 hpos]
  have hlen : is.length = k := by
    (have := hper.length_eq); (rw [List.length_map] at this)
    omega
  have := near_least (n := n) (V := V) (a := a) (all := all) is [] 0 (List.pairwise_cons.2 ⟨fun _ _ => Nat.zero_le _, hsrt⟩) (fun i hi => by
    obtain ⟨x, hx, rfl⟩ := List.mem_map.1 (hper.mem_iff.1 hi)
    exact List.idxOf_lt_length_of_mem (hX x hx)) (by rw [hpb]; exact hq) (by rw [hpb]; exact hd)
  (rw [hpb, hlen] at this); (exact this)
theorem balR_all {n : Nat} : ∀ (m : Nat) (p q : List Int), ballot (n : Int) (p ++ q) = true → p.length + m = n → p ++ q ∈ balR n m p
  | 0, p, q, h, hl => by
    (obtain ⟨h1, h2⟩ : (p ++ q).Nodup ∧ ∀ x ∈ p ++ q, 0 ≤ x ∧ x < (n : Int) := by unfold ballot at h; exact of_decide_eq_true h); (have := nodup_len n (p ++ q) h1 h2); (rw [List.length_append] at this); (have : q = [] := List.eq_nil_of_length_eq_zero (by omega)); (rw [this, List.append_nil]); (exact List.mem_singleton.2 rfl)
  | m + 1, p, [], _, _ => by rw [List.append_nil]; exact List.mem_cons_self
  | m + 1, p, c :: q, h, hl => by
    (obtain ⟨h1, h2⟩ : (p ++ c :: q).Nodup ∧ ∀ x ∈ p ++ c :: q, 0 ≤ x ∧ x < (n : Int) := by unfold ballot at h; exact of_decide_eq_true h); (have hc := h2 c (by simp)); (have hcp : c ∉ p := fun hm => (List.nodup_append.1 h1).2.2 c hm c List.mem_cons_self rfl); (have e : p ++ c :: q = (p ++ [c]) ++ q := by simp); (rw [e]); (refine List.mem_cons_of_mem _ (List.mem_flatMap.2 ⟨c, List.mem_filter.2 ⟨mem_allC.2 hc, decide_eq_true hcp⟩, balR_all m (p ++ [c]) q (by rw [← e]; exact h) (by rw [List.length_append, List.length_singleton]; omega)⟩))
theorem balR_ballot {n : Nat} : ∀ (m : Nat) (p : List Int), ballot (n : Int) p = true → ∀ x ∈ balR n m p, ballot (n : Int) x = true
  | 0, p, h, x, hx => by rw [List.mem_singleton.1 hx]; exact h
  | m + 1, p, h, x, hx => by
    rcases List.mem_cons.1 hx with rfl | hx
    · exact h
    · (obtain ⟨c, hc, hx⟩ := List.mem_flatMap.1 hx); (obtain ⟨h1, h2⟩ := List.mem_filter.1 hc); (have hr := mem_allC.1 h1); (obtain ⟨j, rfl⟩ : ∃ j : Nat, c = (j : Int) := ⟨c.toNat, by omega⟩); (exact balR_ballot m _ (bal_more h (by omega) (of_decide_eq_true h2)).1 x hx)
/-- P31.3: the true margin lies between Margin and Upper. -/
theorem true_law {n V L : Nat} {gs : List Grp} {lim win mar err : Int} {l : List Nd} (hp : isPile (n : Int) gs = true) (hV : V < n) (h2 : 2 ≤ n) (h7 : n ≤ 7) (hl : 1 ≤ lim ∧ lim ≤ 4000) (hs : SrchR (n : Int) gs (V : Int) lim win mar err l) (ht : tot gs = (L : Int)) (hL : L ≤ 1000) :
    win = (V : Int) ∧ err = 0 ∧ 0 ≤ mar ∧ 0 ≤ nearV n V gs (balR n n []) L [] 0 ∧ mar ≤ nearV n V gs (balR n n []) L [] 0 ∧ nearV n V gs (balR n n []) L [] 0 ≤ upperB (n : Int) gs (V : Int) := by
  (obtain ⟨hw, he, _⟩ := srch_ok hp hV h2 h7 hl hs); (obtain ⟨hm0, _⟩ := srch_nonneg hp hV h2 h7 hl hs); (have ha7 : isPile 7 gs = true := isPile_mono (by omega) hp); (have hposC : ∀ b : List Grp, isPile (n : Int) b = true → posB (n : Int) b = posC n b n := fun b hb => by unfold posB; rw [if_pos ⟨⟨by omega, by omega⟩, hb⟩, Int.toNat_natCast])
  have hdist : ∀ b : List Grp, isPile (n : Int) b = true → tot b = tot gs → dist gs b = tot gs - com gs b := fun b hb htb => by
    (have hb7 : isPile 7 b = true := isPile_mono (by omega) hb); (have t1 : total gs = tot gs := by unfold total; rw [if_pos ha7]); (have t2 : total b = tot b := by unfold total; rw [if_pos hb7]); (unfold dist); (rw [if_pos ⟨ha7, hb7, by rw [t1, t2, htb]⟩, t1])
  (have hnil : ballot (n : Int) [] = true := by unfold ballot; exact decide_eq_true ⟨List.nodup_nil, fun x hx => by cases hx⟩); (have hup : upperB (n : Int) gs (V : Int) = upV n gs V := by unfold upperB; rw [if_pos ⟨by omega, ⟨by omega, hp⟩, by omega, by omega⟩, Int.toNat_natCast, Int.toNat_natCast])
  -- a pile that shows it
  obtain ⟨b, hb, htb, hqb, hdb⟩ : ∃ b, isPile (n : Int) b = true ∧ tot b = tot gs ∧ (∃ r, r < n ∧ r ≠ V ∧ Rc 2 n b (2 ^ r)) ∧ tot gs - com gs b ≤ upV n gs V := by
    by_cases hno : ∃ r, r < n ∧ r ≠ V ∧ Rc 2 n gs (2 ^ r)
    · (refine ⟨gs, hp, rfl, hno, ?_⟩); (have h0 : upV n gs V = 0 := by unfold upV; rw [if_pos hno]); (have hc := com_self gs)
      omega
    · (obtain ⟨h1, y, hy, hyV, hd, hr⟩ := upper_law hp hV h2 h7 hno); (obtain ⟨p1, p2⟩ := sw_pile (x := (V : Int)) (y := (y : Int)) ⟨by omega, by omega⟩ ⟨by omega, by omega⟩ hp (Int.le_of_lt h1)); (exact ⟨_, p1, p2, hr, hd⟩)
  have hb7 : isPile 7 b = true := isPile_mono (by omega) hb
  have hd0 : 0 ≤ dist gs b := by
    (rw [hdist b hb htb]); (have := com_le gs b (pile_pos ha7) (pile_pos hb7))
    omega
  (obtain ⟨n0, n1⟩ := near_tried (V := V) (a := gs) hb (all := balR n n []) (fun p hp => by have := balR_all n [] p (by rw [List.nil_append]; exact hp) (by simp); rwa [List.nil_append] at this) (k := L) (by rw [htb, ht]) (by rw [hposC b hb, Ne, pos_only h7 hV]; exact fun h => h hqb) hd0); (refine ⟨hw, he, hm0, n0, ?_, ?_⟩)
  · obtain ⟨t, t1, t2, t3, t4⟩ := near_found (n := n) (V := V) (a := gs) (all := balR n n []) L [] 0 n0
    have hball : ∀ x ∈ t, ballot (n : Int) x = true := fun x hx => by
      rcases t1 x hx with hx | hx
      · cases hx
      · exact balR_ballot n [] hnil x hx
    (rw [List.length_nil, Nat.zero_add] at t2); (have hpt := pile_of_ballots hball (by omega)); (have htt : tot (pileOf (ones t)) = tot gs := by rw [pileOf_tot (ones_pos t), ones_tot, t2, ht]); (rw [t4, hdist _ hpt htt]); (rw [hposC _ hpt] at t3); (obtain ⟨r, hr, hrV, hR⟩ : ∃ r, r < n ∧ r ≠ V ∧ Rc 2 n (pileOf (ones t)) (2 ^ r) := Classical.byContradiction fun hn => t3 ((pos_only h7 hV).2 hn)); (exact srch_lower hp hpt hV h2 h7 hl hs htt.symm hr hrV hR)
  · (rw [hup]); (rw [hdist b hb htb] at n1)
    omega
end Go.Mg
