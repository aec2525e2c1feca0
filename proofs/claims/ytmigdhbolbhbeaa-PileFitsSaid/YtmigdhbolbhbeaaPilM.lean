/- Piles in plain Lean: totals, first preferences, distances. -/
import Derived.Test.YtmigdhbolbhbeaaPilL
namespace Go.Pil
def Srt (l : List Grp) : Prop := l.Pairwise fun a b => lt a.p b.p = true
def tot (l : List Grp) : Int := (l.map (·.n)).sum
theorem tot_cons (g : Grp) (l : List Grp) : tot (g :: l) = g.n + tot l := by simp [tot]
theorem tot_append (l m : List Grp) : tot (l ++ m) = tot l + tot m := by simp [tot]
theorem tot_addG (s : List Grp) (p : List Int) (k : Int) : tot (addG s p k) = tot s + k := by
  induction s with
  | nil => simp [addG, tot]
  | cons g r ih =>
    simp only [addG]
    split
    · rw [tot_cons, tot_cons, ih]; omega
    · split
      · rw [tot_cons, tot_cons]; simp only; omega
      · rw [tot_cons, tot_cons]; simp only; omega
theorem addG_mem {s : List Grp} {p : List Int} {k : Int} {x : Grp} (h : x ∈ addG s p k) : x.p = p ∨ x ∈ s := by
  induction s with
  | nil => simp only [addG, List.mem_singleton] at h; exact .inl (by rw [h])
  | cons g r ih =>
    simp only [addG] at h
    split at h
    · rcases List.mem_cons.1 h with h | h
      · exact .inr (by rw [h]; simp)
      · rcases ih h with h | h
        · exact .inl h
        · exact .inr (by simp [h])
    · split at h
      · rcases List.mem_cons.1 h with h | h
        · exact .inl (by rw [h])
        · exact .inr (by simp [h])
      · rcases List.mem_cons.1 h with h | h
        · exact .inl (by rw [h])
        · exact .inr h
theorem addG_srt {s : List Grp} (hs : Srt s) (p : List Int) (k : Int) : Srt (addG s p k) := by
  induction s with
  | nil => simp [addG, Srt]
  | cons g r ih =>
    obtain ⟨h1, h2⟩ := List.pairwise_cons.1 hs
    simp only [addG]
    split
    · rename_i h
      refine List.pairwise_cons.2 ⟨fun x hx => ?_, ih h2⟩
      rcases addG_mem hx with hx | hx
      · rw [hx]; exact h
      · exact h1 x hx
    · rename_i h
      split
      · rename_i he
        exact List.pairwise_cons.2 ⟨fun x hx => by rw [← he]; exact h1 x hx, h2⟩
      · rename_i he
        have hlt : lt p g.p = true := by
          rcases lt_tri g.p p with hh | hh | hh
          · exact absurd hh h
          · exact absurd hh he
          · exact hh
        refine List.pairwise_cons.2 ⟨fun x hx => ?_, hs⟩
        rcases List.mem_cons.1 hx with rfl | hx
        · exact hlt
        · exact lt_trans hlt (h1 x hx)
theorem addG_pos {s : List Grp} (hs : ∀ g ∈ s, 1 ≤ g.n) {p : List Int} {k : Int} (hk : 1 ≤ k) : ∀ g ∈ addG s p k, 1 ≤ g.n := by
  induction s with
  | nil => intro g hg; simp only [addG, List.mem_singleton] at hg; rw [hg]; exact hk
  | cons x r ih =>
    have hx := hs x (by simp)
    have hr := ih fun g hg => hs g (by simp [hg])
    intro g hg
    simp only [addG] at hg
    split at hg
    · rcases List.mem_cons.1 hg with rfl | hg
      · exact hx
      · exact hr g hg
    · split at hg
      · rcases List.mem_cons.1 hg with rfl | hg
        · simp only; omega
        · exact hs g (by simp [hg])
      · rcases List.mem_cons.1 hg with rfl | hg
        · exact hk
        · exact hs g hg
/-- Adding one after the other: what is kept. -/
theorem fold_add (l : List Grp) : ∀ s : List Grp, Srt s → (∀ g ∈ s, 1 ≤ g.n) → (∀ g ∈ l, 1 ≤ g.n) → Srt (l.foldl (fun a g => addG a g.p g.n) s) ∧ (∀ g ∈ l.foldl (fun a g => addG a g.p g.n) s, 1 ≤ g.n) ∧ tot (l.foldl (fun a g => addG a g.p g.n) s) = tot s + tot l ∧ ∀ x ∈ l.foldl (fun a g => addG a g.p g.n) s, (∃ y ∈ s, y.p = x.p) ∨ ∃ y ∈ l, y.p = x.p := by
  induction l with
  | nil => intro s h1 h2 _; exact ⟨h1, h2, by simp [tot], fun x hx => .inl ⟨x, hx, rfl⟩⟩
  | cons g l ih =>
    intro s h1 h2 h3
    obtain ⟨i1, i2, i3, i4⟩ := ih (addG s g.p g.n) (addG_srt h1 _ _) (addG_pos h2 (h3 g (by simp))) fun x hx => h3 x (by simp [hx])
    simp only [List.foldl_cons]
    refine ⟨i1, i2, by rw [i3, tot_addG, tot_cons]; omega, fun x hx => ?_⟩
    rcases i4 x hx with ⟨y, hy, h⟩ | ⟨y, hy, h⟩
    · rcases addG_mem hy with hy | hy
      · exact .inr ⟨g, by simp, by rw [← h, hy]⟩
      · exact .inl ⟨y, hy, h⟩
    · exact .inr ⟨y, by simp [hy], h⟩
theorem pileOf_srt {l : List Grp} (h : ∀ g ∈ l, 1 ≤ g.n) : Srt (pileOf l) := (fold_add l [] (by simp [Srt]) (by simp) h).1
theorem pileOf_pos {l : List Grp} (h : ∀ g ∈ l, 1 ≤ g.n) : ∀ g ∈ pileOf l, 1 ≤ g.n := (fold_add l [] (by simp [Srt]) (by simp) h).2.1
theorem pileOf_tot {l : List Grp} (h : ∀ g ∈ l, 1 ≤ g.n) : tot (pileOf l) = tot l := by have := (fold_add l [] (by simp [Srt]) (by simp) h).2.2.1; simpa [tot, pileOf] using this
theorem pileOf_mem {l : List Grp} (h : ∀ g ∈ l, 1 ≤ g.n) : ∀ x ∈ pileOf l, ∃ y ∈ l, y.p = x.p := fun x hx => by
  rcases (fold_add l [] (by simp [Srt]) (by simp) h).2.2.2 x hx with ⟨y, hy, _⟩ | h
  · simp at hy
  · exact h
theorem tot_nonneg {l : List Grp} (h : ∀ g ∈ l, 1 ≤ g.n) : 0 ≤ tot l := by
  induction l with
  | nil => simp [tot]
  | cons g l ih => rw [tot_cons]; have := h g (by simp); have := ih fun x hx => h x (by simp [hx]); omega
theorem validA_iff (n : Int) (l : List Grp) : ∀ (room : Int) (prev : Option (List Int)), validA n room prev l = true ↔ (∀ g ∈ l, ballot n g.p = true ∧ 1 ≤ g.n) ∧ (l = [] ∨ tot l ≤ room) ∧ Srt l ∧ (match prev with | none => True | some q => ∀ g ∈ l, lt q g.p = true) := by
  induction l with
  | nil => intro room prev; cases prev <;> simp [validA, Srt]
  | cons g l ih =>
    intro room prev
    simp only [validA, Bool.and_eq_true, decide_eq_true_eq]
    rw [ih]
    constructor
    · rintro ⟨⟨⟨⟨h1, h2⟩, h3⟩, h4⟩, h5, h6, h7, h8⟩
      simp only at h8
      refine ⟨fun x hx => ?_, .inr ?_, List.pairwise_cons.2 ⟨h8, h7⟩, ?_⟩
      · rcases List.mem_cons.1 hx with rfl | hx
        · exact ⟨h1, h2⟩
        · exact h5 x hx
      · rw [tot_cons]
        rcases h6 with rfl | h6
        · simp [tot]; exact h3
        · omega
      · cases prev with
        | none => trivial
        | some q =>
          simp only at h4 ⊢
          intro x hx
          rcases List.mem_cons.1 hx with rfl | hx
          · exact h4
          · exact lt_trans h4 (h8 x hx)
    · rintro ⟨h1, h2, h3, h4⟩
      obtain ⟨h5, h6⟩ := List.pairwise_cons.1 h3
      have h7 : tot (g :: l) ≤ room := by rcases h2 with h | h; cases h; exact h
      rw [tot_cons] at h7
      have h8 := tot_nonneg (l := l) fun x hx => (h1 x (by simp [hx])).2
      refine ⟨⟨⟨h1 g (by simp), by omega⟩, ?_⟩, fun x hx => h1 x (by simp [hx]), .inr (by omega), h6, h5⟩
      cases prev with
      | none => rfl
      | some q => exact h4 g (by simp)
theorem isPile_iff (n : Int) (l : List Grp) : isPile n l = true ↔ (∀ g ∈ l, ballot n g.p = true ∧ 1 ≤ g.n) ∧ tot l ≤ 100000 ∧ Srt l := by
  unfold isPile
  rw [validA_iff]
  constructor
  · rintro ⟨h1, h2, h3, _⟩
    exact ⟨h1, by rcases h2 with rfl | h; simp [tot]; exact h, h3⟩
  · rintro ⟨h1, h2, h3⟩
    exact ⟨h1, .inr h2, h3, trivial⟩
theorem ballot_mono {n m : Int} (h : n ≤ m) {p : List Int} (hb : ballot n p = true) : ballot m p = true := by
  simp only [ballot, decide_eq_true_eq] at hb ⊢
  exact ⟨hb.1, fun x hx => by have := hb.2 x hx; omega⟩
theorem isPile_mono {n m : Int} (h : n ≤ m) {l : List Grp} (hb : isPile n l = true) : isPile m l = true := by
  rw [isPile_iff] at hb ⊢
  exact ⟨fun g hg => ⟨ballot_mono h (hb.1 g hg).1, (hb.1 g hg).2⟩, hb.2⟩
/-- The pile of ballots. -/
def ones (bs : List (List Int)) : List Grp := bs.map fun b => ⟨b, 1⟩
theorem ones_pos (bs : List (List Int)) : ∀ g ∈ ones bs, 1 ≤ g.n := fun g hg => by
  obtain ⟨b, _, rfl⟩ := List.mem_map.1 hg
  exact Int.le_refl 1
theorem ones_tot (bs : List (List Int)) : tot (ones bs) = bs.length := by
  induction bs with
  | nil => rfl
  | cons b bs ih => show tot (_ :: ones bs) = _; rw [tot_cons, ih, List.length_cons]; simp only; omega
theorem pile_of_ballots {n : Int} {bs : List (List Int)} (h : ∀ b ∈ bs, ballot n b = true) (hl : bs.length ≤ 100000) : isPile n (pileOf (ones bs)) = true := by
  rw [isPile_iff]
  have hp := ones_pos bs
  refine ⟨fun g hg => ⟨?_, pileOf_pos hp g hg⟩, by rw [pileOf_tot hp, ones_tot]; omega, pileOf_srt hp⟩
  obtain ⟨y, hy, e⟩ := pileOf_mem hp g hg
  obtain ⟨b, hb, rfl⟩ := List.mem_map.1 hy
  rw [← e]; exact h b hb
/-! Distances. -/
def com : List Grp → List Grp → Int
  | [], _ => 0
  | _ :: _, [] => 0
  | x :: xs, y :: ys => if lt x.p y.p = true then com xs (y :: ys) else if lt y.p x.p = true then com (x :: xs) ys else min x.n y.n + com xs ys
termination_by a b => a.length + b.length
theorem com_nil (a : List Grp) : com a [] = 0 := by cases a <;> simp [com]
theorem com_comm (a b : List Grp) : com a b = com b a := by
  fun_induction com a b with
  | case1 b => rw [com_nil]
  | case2 x xs => simp [com]
  | case3 x xs y ys h ih => rw [com.eq_3, if_neg (by rw [lt_asymm h]; decide), if_pos h]; exact ih
  | case4 x xs y ys h1 h2 ih => rw [com.eq_3, if_pos h2]; exact ih
  | case5 x xs y ys h1 h2 ih => rw [com.eq_3, if_neg h2, if_neg h1, ih, Int.min_comm]
theorem com_nonneg (a b : List Grp) (ha : ∀ g ∈ a, 1 ≤ g.n) (hb : ∀ g ∈ b, 1 ≤ g.n) : 0 ≤ com a b := by
  fun_induction com a b with
  | case1 b => exact Int.le_refl _
  | case2 x xs => exact Int.le_refl _
  | case3 x xs y ys h ih => exact ih (fun g hg => ha g (by simp [hg])) hb
  | case4 x xs y ys h1 h2 ih => exact ih ha fun g hg => hb g (by simp [hg])
  | case5 x xs y ys h1 h2 ih =>
    have := ih (fun g hg => ha g (by simp [hg])) (fun g hg => hb g (by simp [hg]))
    have := ha x (by simp)
    have := hb y (by simp)
    omega
theorem com_le (a b : List Grp) (ha : ∀ g ∈ a, 1 ≤ g.n) (hb : ∀ g ∈ b, 1 ≤ g.n) : com a b ≤ tot a := by
  fun_induction com a b with
  | case1 b => simp [tot]
  | case2 x xs => exact tot_nonneg ha
  | case3 x xs y ys h ih => have := ih (fun g hg => ha g (by simp [hg])) hb; rw [tot_cons]; have := ha x (by simp); omega
  | case4 x xs y ys h1 h2 ih => exact ih ha fun g hg => hb g (by simp [hg])
  | case5 x xs y ys h1 h2 ih =>
    have := ih (fun g hg => ha g (by simp [hg])) (fun g hg => hb g (by simp [hg]))
    rw [tot_cons]
    omega
theorem com_self (a : List Grp) : com a a = tot a := by
  induction a with
  | nil => simp [com, tot]
  | cons x xs ih => rw [com.eq_3, if_neg (by rw [lt_irrefl]; decide), if_neg (by rw [lt_irrefl]; decide), ih, tot_cons]; omega
theorem com_full (a b : List Grp) (ha : ∀ g ∈ a, 1 ≤ g.n) (hb : ∀ g ∈ b, 1 ≤ g.n) (ht : tot a = tot b) (h : com a b = tot a) : a = b := by
  fun_induction com a b with
  | case1 b =>
    cases b with
    | nil => rfl
    | cons y ys => have := tot_nonneg (l := ys) (fun g hg => hb g (by simp [hg])); have h2 := hb y (by simp); rw [tot_cons] at ht; simp [tot] at ht h; simp [tot] at this; omega
  | case2 x xs => have := tot_nonneg (l := xs) (fun g hg => ha g (by simp [hg])); have h2 := ha x (by simp); rw [tot_cons] at h; omega
  | case3 x xs y ys h1 ih =>
    have := com_le xs (y :: ys) (fun g hg => ha g (by simp [hg])) hb
    rw [tot_cons] at h
    have := ha x (by simp); omega
  | case4 x xs y ys h1 h2 ih =>
    have := com_le ys (x :: xs) (fun g hg => hb g (by simp [hg])) ha
    rw [com_comm] at this
    have e1 := tot_cons y ys
    have h3 := hb y (by simp)
    omega
  | case5 x xs y ys h1 h2 ih =>
    have i1 := com_le xs ys (fun g hg => ha g (by simp [hg])) (fun g hg => hb g (by simp [hg]))
    have i2 := com_le ys xs (fun g hg => hb g (by simp [hg])) (fun g hg => ha g (by simp [hg]))
    rw [com_comm] at i2
    rw [tot_cons] at h ht
    rw [tot_cons] at ht
    have e : x.p = y.p := eq_of_not (by simpa using h1) (by simpa using h2)
    have en : x.n = y.n := by omega
    have hx : x = y := by cases x; cases y; simp_all
    rw [hx, ih (fun g hg => ha g (by simp [hg])) (fun g hg => hb g (by simp [hg])) (by omega) (by omega)]
/-- How many ballots of the pile equal p. -/
def num : List Grp → List Int → Int
  | [], _ => 0
  | g :: r, p => if g.p = p then g.n else num r p
theorem num_none {l : List Grp} {p : List Int} (h : ∀ g ∈ l, g.p ≠ p) : num l p = 0 := by
  induction l with
  | nil => rfl
  | cons g r ih => simp only [num]; rw [if_neg (h g (by simp))]; exact ih fun x hx => h x (by simp [hx])
theorem num_nonneg {l : List Grp} (h : ∀ g ∈ l, 1 ≤ g.n) (p : List Int) : 0 ≤ num l p := by
  induction l with
  | nil => exact Int.le_refl _
  | cons g r ih =>
    simp only [num]
    split
    · have := h g (by simp); omega
    · exact ih fun x hx => h x (by simp [hx])
theorem num_add (s : List Grp) (hs : Srt s) (p q : List Int) (k : Int) : num (addG s p k) q = num s q + if p = q then k else 0 := by
  induction s with
  | nil => simp only [addG, num]; omega
  | cons g r ih =>
    obtain ⟨h1, h2⟩ := List.pairwise_cons.1 hs
    simp only [addG]
    split
    · rename_i h
      simp only [num]
      split
      · rename_i he
        rw [if_neg (fun e => by rw [e] at h; rw [he, lt_irrefl] at h; cases h)]; omega
      · exact ih h2
    · rename_i h
      split
      · rename_i he
        simp only [num]
        by_cases hpq : p = q
        · rw [if_pos hpq, if_pos (he.trans hpq), if_pos hpq]
        · rw [if_neg hpq, if_neg (fun e => hpq (he.symm.trans e)), if_neg hpq]; omega
      · rename_i he
        simp only [num]
        have hlt : lt p g.p = true := by
          rcases lt_tri g.p p with hh | hh | hh
          · exact absurd hh h
          · exact absurd hh he
          · exact hh
        by_cases hpq : p = q
        · rw [if_pos hpq, if_pos hpq, if_neg (fun e => he (e.trans hpq.symm))]
          rw [num_none (fun x hx e => by have := lt_trans hlt (h1 x hx); rw [e, hpq, lt_irrefl] at this; cases this)]; omega
        · rw [if_neg hpq, if_neg hpq]; omega
theorem num_fold (l : List Grp) (q : List Int) : ∀ s : List Grp, Srt s → num (l.foldl (fun a g => addG a g.p g.n) s) q = num s q + ((l.filter fun g => decide (g.p = q)).map (·.n)).sum := by
  induction l with
  | nil => intro s _; simp
  | cons g l ih =>
    intro s hs
    simp only [List.foldl_cons]
    rw [ih _ (addG_srt hs _ _), num_add s hs]
    by_cases h : g.p = q
    · simp [h]; omega
    · simp [h]
theorem com_num (a b : List Grp) (ha : Srt a) (hb : Srt b) (hn : ∀ g ∈ b, 1 ≤ g.n) (hp : ∀ g ∈ a, 1 ≤ g.n) : com a b = (a.map fun g => min g.n (num b g.p)).sum := by
  fun_induction com a b with
  | case1 b => simp
  | case2 x xs =>
    have : ∀ l : List Grp, (∀ g ∈ l, 1 ≤ g.n) → (l.map fun g => min g.n (num [] g.p)).sum = 0 := by
      intro l
      induction l with
      | nil => intro _; rfl
      | cons g l ih => intro h; rw [List.map_cons, List.sum_cons, ih fun x hx => h x (by simp [hx])]; have := h g (by simp); simp only [num]; omega
    exact (this _ hp).symm
  | case3 x xs y ys h ih =>
    obtain ⟨h1, h2⟩ := List.pairwise_cons.1 ha
    obtain ⟨h3, h4⟩ := List.pairwise_cons.1 hb
    rw [ih h2 hb hn fun g hg => hp g (by simp [hg]), List.map_cons, List.sum_cons]
    rw [num_none (fun g hg e => by
      rcases List.mem_cons.1 hg with rfl | hg
      · rw [e, lt_irrefl] at h; cases h
      · have := lt_trans h (h3 g hg); rw [e, lt_irrefl] at this; cases this)]
    have := hp x (by simp)
    omega
  | case4 x xs y ys h1 h2 ih =>
    obtain ⟨h3, h4⟩ := List.pairwise_cons.1 hb
    obtain ⟨h5, h6⟩ := List.pairwise_cons.1 ha
    rw [ih ha h4 (fun g hg => hn g (by simp [hg])) hp]
    congr 1
    refine List.map_congr_left fun g hg => ?_
    simp only [num]
    rw [if_neg]
    intro e
    rcases List.mem_cons.1 hg with rfl | hg
    · rw [e, lt_irrefl] at h2; cases h2
    · have := lt_trans h2 (h5 g hg); rw [e, lt_irrefl] at this; cases this
  | case5 x xs y ys h1 h2 ih =>
    obtain ⟨h3, h4⟩ := List.pairwise_cons.1 hb
    obtain ⟨h5, h6⟩ := List.pairwise_cons.1 ha
    have e : x.p = y.p := eq_of_not (by simpa using h1) (by simpa using h2)
    rw [ih h6 h4 (fun g hg => hn g (by simp [hg])) (fun g hg => hp g (by simp [hg])), List.map_cons, List.sum_cons]
    congr 1
    · simp only [num]; rw [if_pos e.symm]
    · congr 1
      refine List.map_congr_left fun g hg => ?_
      simp only [num]
      rw [if_neg]
      intro e2
      have := h5 g hg
      rw [← e2, e, lt_irrefl] at this; cases this
theorem sum_nonneg {f : List Int → Int} (hf : ∀ p, 0 ≤ f p) (L : List (List Int)) : 0 ≤ (L.map f).sum := by
  induction L with
  | nil => simp
  | cons x L ih => rw [List.map_cons, List.sum_cons]; have := hf x; omega
theorem sum_take {f : List Int → Int} (hf : ∀ p, 0 ≤ f p) (k : List Int) : ∀ L : List (List Int), k ∈ L → f k + (L.map fun p => if p = k then 0 else f p).sum ≤ (L.map f).sum := by
  have h0 : ∀ L : List (List Int), (L.map fun p => if p = k then 0 else f p).sum ≤ (L.map f).sum := by
    intro L
    induction L with
    | nil => simp
    | cons x L ih =>
      rw [List.map_cons, List.sum_cons, List.map_cons, List.sum_cons]
      have := hf x
      split <;> omega
  intro L
  induction L with
  | nil => intro h; simp at h
  | cons x L ih =>
    intro h
    rw [List.map_cons, List.sum_cons, List.map_cons, List.sum_cons]
    by_cases hx : x = k
    · rw [if_pos hx, hx]; have := h0 L; omega
    · rw [if_neg hx]
      have := ih (by rcases List.mem_cons.1 h with h | h; exact absurd h.symm hx; exact h)
      omega
/-- A sum over different keys of something that is 0 outside other keys. -/
theorem sum_keys : ∀ (K L : List (List Int)) (f : List Int → Int), (∀ p, 0 ≤ f p) → K.Nodup → (∀ p, p ∉ L → f p = 0) → (K.map f).sum ≤ (L.map f).sum := by
  intro K
  induction K with
  | nil => intro L f hf _ _; simpa using sum_nonneg hf L
  | cons k K ih =>
    intro L f hf hn h0
    obtain ⟨hk, hn'⟩ := List.nodup_cons.1 hn
    rw [List.map_cons, List.sum_cons]
    by_cases hkL : k ∈ L
    · have h1 := ih L (fun p => if p = k then 0 else f p) (fun p => by split; exact Int.le_refl _; exact hf p) hn' (fun p hp => by split; rfl; exact h0 p hp)
      have h2 : (K.map fun p => if p = k then 0 else f p) = K.map f := List.map_congr_left fun p hp => if_neg fun (e : p = k) => hk (e ▸ hp)
      rw [h2] at h1
      have h3 := sum_take hf k L hkL
      omega
    · rw [h0 k hkL]
      have := ih L f hf hn' h0
      omega
theorem srt_nodup {l : List Grp} (h : Srt l) : (l.map (·.p)).Nodup := by
  rw [List.nodup_iff_pairwise_ne, List.pairwise_map]
  exact h.imp fun hh => lt_ne hh
theorem num_self {l : List Grp} (h : Srt l) : ∀ g ∈ l, num l g.p = g.n := by
  induction l with
  | nil => intro g hg; simp at hg
  | cons x r ih =>
    obtain ⟨h1, h2⟩ := List.pairwise_cons.1 h
    intro g hg
    simp only [num]
    rcases List.mem_cons.1 hg with rfl | hg
    · rw [if_pos rfl]
    · rw [if_neg (lt_ne (h1 g hg))]; exact ih h2 g hg
/-- Of three piles. -/
theorem com_tri (a b c : List Grp) (ha : Srt a) (hb : Srt b) (hc : Srt c) (pa : ∀ g ∈ a, 1 ≤ g.n) (pb : ∀ g ∈ b, 1 ≤ g.n) (pc : ∀ g ∈ c, 1 ≤ g.n) : com a b + com b c ≤ tot b + com a c := by
  have h1 : com a b = (b.map fun g => min g.n (num a g.p)).sum := by rw [com_comm]; exact com_num b a hb ha pa pb
  have h2 : com b c = (b.map fun g => min g.n (num c g.p)).sum := com_num b c hb hc pc pb
  have h3 : com a c = (a.map fun g => min g.n (num c g.p)).sum := com_num a c ha hc pc pa
  have h4 : ((b.map (·.p)).map fun p => min (num a p) (num c p)).sum ≤ ((a.map (·.p)).map fun p => min (num a p) (num c p)).sum :=
    sum_keys _ _ _ (fun p => by have := num_nonneg pa p; have := num_nonneg pc p; omega) (srt_nodup hb) (fun p hp => by
      have : num a p = 0 := num_none fun g hg e => hp (e ▸ List.mem_map_of_mem hg)
      have := num_nonneg pc p; omega)
  rw [List.map_map, List.map_map] at h4
  have h5 : (a.map ((fun p => min (num a p) (num c p)) ∘ (·.p))).sum = com a c := by
    rw [h3]
    congr 1
    exact List.map_congr_left fun g hg => by simp only [Function.comp]; rw [num_self ha g hg]
  rw [h5] at h4
  have h6 : (b.map fun g => min g.n (num a g.p)).sum + (b.map fun g => min g.n (num c g.p)).sum ≤ tot b + (b.map ((fun p => min (num a p) (num c p)) ∘ (·.p))).sum := by
    have : ∀ l : List Grp, (l.map fun g => min g.n (num a g.p)).sum + (l.map fun g => min g.n (num c g.p)).sum ≤ tot l + (l.map ((fun p => min (num a p) (num c p)) ∘ (·.p))).sum := by
      intro l
      induction l with
      | nil => simp [tot]
      | cons g l ih =>
        rw [List.map_cons, List.sum_cons, List.map_cons, List.sum_cons, List.map_cons, List.sum_cons, tot_cons]
        simp only [Function.comp] at ih ⊢
        omega
    exact this b
  omega
end Go.Pil
