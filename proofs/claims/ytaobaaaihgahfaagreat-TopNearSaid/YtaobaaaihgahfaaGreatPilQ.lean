/- Piles in plain Lean: ballots, the order of preferences, adding, merging, counts, distances. -/
namespace Go.Pil
structure Grp where
  p : List Int
  n : Int
deriving DecidableEq
instance : Inhabited Grp := ⟨⟨[], 0⟩⟩
def ballot (n : Int) (p : List Int) : Bool := decide (p.Nodup ∧ ∀ x ∈ p, 0 ≤ x ∧ x < n)
/-- before. -/
def lt : List Int → List Int → Bool
  | _, [] => false
  | [], _ :: _ => true
  | x :: xs, y :: ys => if x = y then lt xs ys else decide (x < y)
def cmp : List Int → List Int → Int
  | [], [] => 0
  | [], _ :: _ => -1
  | _ :: _, [] => 1
  | x :: xs, y :: ys => if x = y then cmp xs ys else if x < y then -1 else 1
theorem lt_irrefl : ∀ a, lt a a = false
  | [] => rfl
  | x :: xs => by simp [lt, lt_irrefl xs]
theorem lt_trans : ∀ {a b c}, lt a b = true → lt b c = true → lt a c = true
  | [], [], _, h, _ => by simp [lt] at h
  | [], _ :: _, [], _, h => by simp [lt] at h
  | [], _ :: _, _ :: _, _, _ => rfl
  | _ :: _, [], _, h, _ => by simp [lt] at h
  | _ :: _, _ :: _, [], _, h => by simp [lt] at h
  | x :: xs, y :: ys, z :: zs, h1, h2 => by
    simp only [lt] at h1 h2 ⊢
    by_cases e1 : x = y
    · (subst e1); (rw [if_pos rfl] at h1)
      by_cases e2 : x = z
      · rw [if_pos e2] at h2 ⊢; exact lt_trans h1 h2
      · rw [if_neg e2] at h2 ⊢; exact h2
    · rw [if_neg e1] at h1
      by_cases e2 : y = z
      · subst e2; rw [if_neg e1]; exact h1
      · (rw [if_neg e2] at h2); (have h1 := of_decide_eq_true h1); (have h2 := of_decide_eq_true h2); (rw [if_neg (by omega)]); (exact decide_eq_true (by omega))
theorem lt_tri : ∀ a b, lt a b = true ∨ a = b ∨ lt b a = true
  | [], [] => .inr (.inl rfl)
  | [], _ :: _ => .inl rfl
  | _ :: _, [] => .inr (.inr rfl)
  | x :: xs, y :: ys => by
    simp only [lt]
    by_cases e : x = y
    · (subst e); (rw [if_pos rfl, if_pos rfl])
      rcases lt_tri xs ys with h | h | h
      · exact .inl h
      · exact .inr (.inl (by rw [h]))
      · exact .inr (.inr h)
    · rw [if_neg e, if_neg (Ne.symm e)]
      rcases Int.lt_or_gt_of_ne e with h | h
      · exact .inl (decide_eq_true h)
      · exact .inr (.inr (decide_eq_true h))
theorem lt_asymm {a b} (h : lt a b = true) : lt b a = false := by
  cases h2 : lt b a with
  | false => rfl
  | true => have := lt_trans h h2; rw [lt_irrefl] at this; cases this
theorem lt_ne {a b} (h : lt a b = true) : a ≠ b := fun e => by subst e; rw [lt_irrefl] at h; cases h
theorem eq_of_not {a b} (h1 : lt a b = false) (h2 : lt b a = false) : a = b := by
  rcases lt_tri a b with h | h | h
  · rw [h] at h1; cases h1
  · exact h
  · rw [h] at h2; cases h2
theorem cmp_lt : ∀ a b, cmp a b < 0 ↔ lt a b = true
  | [], [] => by simp [cmp, lt]
  | [], _ :: _ => by simp [cmp, lt]
  | _ :: _, [] => by simp [cmp, lt]
  | x :: xs, y :: ys => by
    simp only [cmp, lt]
    by_cases e : x = y
    · rw [if_pos e, if_pos e]; exact cmp_lt xs ys
    · rw [if_neg e, if_neg e]
      by_cases h : x < y <;> simp [h]
theorem cmp_gt : ∀ a b, 0 < cmp a b ↔ lt b a = true
  | [], [] => by simp [cmp, lt]
  | [], _ :: _ => by simp [cmp, lt]
  | _ :: _, [] => by simp [cmp, lt]
  | x :: xs, y :: ys => by
    simp only [cmp, lt]
    by_cases e : x = y
    · rw [if_pos e, if_pos e.symm]; exact cmp_gt xs ys
    · rw [if_neg e, if_neg (Ne.symm e)]
      by_cases h : x < y
      · simp [h]; omega
      · simp [h]; omega
theorem cmp_self : ∀ a, cmp a a = 0
  | [] => rfl
  | x :: xs => by simp [cmp, cmp_self xs]
theorem cmp_eq (a b : List Int) : cmp a b = 0 ↔ a = b := by
  constructor
  · (intro h); (exact eq_of_not (by cases hh : lt a b with | false => rfl | true => have := (cmp_lt a b).2 hh; omega) (by cases hh : lt b a with | false => rfl | true => have := (cmp_gt a b).2 hh; omega))
  · rintro rfl; exact cmp_self a
theorem cmp_at {xs ys : List Int} {k : Nat} (hx : k < xs.length) (hy : k < ys.length) (ht : xs.take k = ys.take k) (hne : xs.getD k 0 ≠ ys.getD k 0) : cmp xs ys = if xs.getD k 0 < ys.getD k 0 then -1 else 1 := by
  induction k generalizing xs ys with
  | zero =>
    match xs, ys, hx, hy with
    | x :: xs, y :: ys, _, _ =>
      have hne' : x ≠ y := by simpa using hne
      simp [cmp, hne']
  | succ k ih =>
    match xs, ys, hx, hy with
    | x :: xs, y :: ys, hx, hy =>
      (simp only [List.take_succ_cons, List.cons.injEq] at ht); (obtain ⟨rfl, ht⟩ := ht); (have := ih (xs := xs) (ys := ys) (by simpa using hx) (by simpa using hy) ht (by simpa using hne))
      simpa [cmp] using this
theorem cmp_pre {xs ys : List Int} (h : xs = ys.take xs.length) : cmp xs ys = if xs.length < ys.length then -1 else 0 := by
  induction xs generalizing ys with
  | nil => cases ys <;> simp [cmp]
  | cons x xs ih =>
    match ys, h with
    | y :: ys, h =>
      (simp only [List.length_cons, List.take_succ_cons, List.cons.injEq] at h); (obtain ⟨rfl, h⟩ := h); (simp only [cmp, if_true, List.length_cons, Nat.add_lt_add_iff_right]); (exact ih h)
theorem cmp_pos {xs ys : List Int} (h : ys = xs.take ys.length) (hl : ys.length < xs.length) : cmp xs ys = 1 := by
  induction ys generalizing xs with
  | nil => cases xs with | nil => simp at hl | cons => rfl
  | cons y ys ih =>
    match xs, h, hl with
    | x :: xs, h, hl =>
      (simp only [List.length_cons, List.take_succ_cons, List.cons.injEq] at h); (obtain ⟨rfl, h⟩ := h); (simp only [cmp, if_true]); (exact ih h (by simpa using hl))
/-- The groups beside each other are those of a pile of n candidates. -/
def validA (n : Int) : Int → Option (List Int) → List Grp → Bool
  | _, _, [] => true
  | room, prev, g :: r => ballot n g.p && decide (1 ≤ g.n) && decide (g.n ≤ room) && (match prev with | none => true | some q => lt q g.p) && validA n (room - g.n) (some g.p) r
def isPile (n : Int) (gs : List Grp) : Bool := validA n 100000 none gs
def addG : List Grp → List Int → Int → List Grp
  | [], p, k => [⟨p, k⟩]
  | g :: r, p, k => if lt g.p p = true then g :: addG r p k else if g.p = p then ⟨p, g.n + k⟩ :: r else ⟨p, k⟩ :: g :: r
def pileOf (l : List Grp) : List Grp := l.foldl (fun a g => addG a g.p g.n) []
theorem addG_comm_lt {p q : List Int} (h : lt p q = true) (k m : Int) : ∀ s : List Grp, addG (addG s p k) q m = addG (addG s q m) p k := by
  (have hpq := lt_ne h); (have hqp := lt_asymm h); (intro s)
  induction s with
  | nil => simp [addG, h, hqp, Ne.symm hpq]
  | cons g r ih =>
    simp only [addG]
    by_cases h1 : lt g.p p = true
    · (have h2 := lt_trans h1 h); (rw [if_pos h1, if_pos h2]); (simp only [addG]); (rw [if_pos h1, if_pos h2, ih])
    · rw [if_neg h1]
      by_cases h3 : g.p = p
      · (rw [if_pos h3, if_pos (by rw [h3]; exact h)]); (simp only [addG]); (rw [if_pos h, if_neg h1, if_pos h3])
      · (rw [if_neg h3]); (simp only [addG]); (rw [if_pos h])
        by_cases h4 : lt g.p q = true
        · (rw [if_pos h4]); (simp only [addG]); (rw [if_neg h1, if_neg h3])
        · rw [if_neg h4]
          by_cases h5 : g.p = q
          · (rw [if_pos h5]); (simp only [addG]); (rw [if_neg (by rw [hqp]; decide), if_neg (Ne.symm hpq)])
          · (rw [if_neg h5]); (simp only [addG]); (rw [if_neg (by rw [hqp]; decide), if_neg (Ne.symm hpq)])
theorem addG_comm_eq (p : List Int) (k m : Int) : ∀ s : List Grp, addG (addG s p k) p m = addG (addG s p m) p k := by
  (have hi := lt_irrefl p); (intro s)
  induction s with
  | nil => simp [addG, hi, Int.add_comm]
  | cons g r ih =>
    simp only [addG]
    by_cases h1 : lt g.p p = true
    · (rw [if_pos h1, if_pos h1]); (simp only [addG]); (rw [if_pos h1, if_pos h1, ih])
    · rw [if_neg h1, if_neg h1]
      by_cases h3 : g.p = p
      · rw [if_pos h3, if_pos h3]
        simp [addG, hi]; omega
      · rw [if_neg h3, if_neg h3]
        simp [addG, hi]; omega
theorem addG_comm (s : List Grp) (p q : List Int) (k m : Int) : addG (addG s p k) q m = addG (addG s q m) p k := by
  rcases lt_tri p q with h | h | h
  · exact addG_comm_lt h k m s
  · subst h; exact addG_comm_eq p k m s
  · exact (addG_comm_lt h m k s).symm
theorem pileOf_perm {l l' : List Grp} (h : l.Perm l') : pileOf l = pileOf l' := by
  (unfold pileOf); (exact h.foldl_eq' (fun x _ y _ z => addG_comm z x.p y.p x.n y.n) [])
/-- One step of the merge of a sorted list. -/
def mstep (out : List Grp) (g : Grp) : List Grp :=
  match out.getLast? with
  | none => [g]
  | some l => if l.p = g.p then out.dropLast ++ [⟨l.p, l.n + g.n⟩] else out ++ [g]
def mergeG (l : List Grp) : List Grp := l.foldl mstep []
theorem addG_last (out : List Grp) (g : Grp) (h : ∀ x ∈ out, lt g.p x.p = false) (hs : out.Pairwise fun a b => lt a.p b.p = true) : addG out g.p g.n = mstep out g := by
  induction out with
  | nil => rfl
  | cons x r ih =>
    (have hx := h x (by simp)); (simp only [addG])
    by_cases h1 : lt x.p g.p = true
    · rw [if_pos h1, ih (fun y hy => h y (by simp [hy])) (List.pairwise_cons.1 hs).2]
      cases r with
      | nil => simp [mstep, lt_ne h1]
      | cons y r =>
        (unfold mstep); (rw [List.getLast?_cons_cons]); (obtain ⟨z, hz⟩ : ∃ z, (y :: r).getLast? = some z := ⟨_, List.getLast?_eq_some_getLast (by simp)⟩); (rw [hz]); (simp only)
        split
        · simp
        · simp
    · (rw [if_neg h1]); (have he : x.p = g.p := eq_of_not (by simpa using h1) hx); (rw [if_pos he])
      have hr : r = [] := by
        cases r with
        | nil => rfl
        | cons y r =>
          (have h2 := (List.pairwise_cons.1 hs).1 y (by simp)); (have h3 := h y (by simp)); (rw [he, h3] at h2; cases h2)
      subst hr
      simp [mstep, he]
theorem mstep_sorted (out : List Grp) (g : Grp) (h : ∀ x ∈ out, lt g.p x.p = false) (hs : out.Pairwise fun a b => lt a.p b.p = true) : (mstep out g).Pairwise (fun a b => lt a.p b.p = true) ∧ ∀ x ∈ mstep out g, x.p = g.p ∨ ∃ y ∈ out, y.p = x.p := by
  rcases List.eq_nil_or_concat out with rfl | ⟨o, l, rfl⟩
  · simp [mstep]
  · (unfold mstep); (rw [List.concat_eq_append] at *); (rw [List.getLast?_concat]); (simp only [List.dropLast_concat]); (rw [List.pairwise_append] at hs); (obtain ⟨h1, _, h3⟩ := hs)
    split
    · rename_i he
      refine ⟨?_, ?_⟩
      · (rw [List.pairwise_append]); (refine ⟨h1, by simp, fun a ha b hb => ?_⟩); (obtain rfl : b = ⟨l.p, l.n + g.n⟩ := by simpa using hb); (exact h3 a ha l (by simp))
      · intro x hx
        rcases List.mem_append.1 hx with hx | hx
        · exact .inr ⟨x, by simp [hx], rfl⟩
        · (obtain rfl : x = ⟨l.p, l.n + g.n⟩ := by simpa using hx); (exact .inl he)
    · rename_i he
      refine ⟨?_, ?_⟩
      · (rw [List.pairwise_append]); (refine ⟨by rw [List.pairwise_append]; exact ⟨h1, by simp, h3⟩, by simp, fun a ha b hb => ?_⟩); (obtain rfl : b = g := by simpa using hb); (have hn := h a ha)
        rcases lt_tri a.p b.p with hh | hh | hh
        · exact hh
        · rcases List.mem_append.1 ha with ha | ha
          · (have h4 := h3 a ha l (by simp)); (have h5 := h l (by simp)); (rw [hh] at h4; rw [h4] at h5; cases h5)
          · (obtain rfl : a = l := by simpa using ha); (exact absurd hh he)
        · rw [hn] at hh; cases hh
      · intro x hx
        rcases List.mem_append.1 hx with hx | hx
        · exact .inr ⟨x, hx, rfl⟩
        · (obtain rfl : x = g := by simpa using hx); (exact .inl rfl)
theorem merge_fold (l : List Grp) (hl : l.Pairwise fun a b => lt b.p a.p = false) : ∀ out : List Grp, (out.Pairwise fun a b => lt a.p b.p = true) → (∀ x ∈ out, ∀ g ∈ l, lt g.p x.p = false) → l.foldl mstep out = l.foldl (fun a g => addG a g.p g.n) out := by
  induction l with
  | nil => intro out _ _; rfl
  | cons g l ih =>
    (intro out hs hx); (obtain ⟨h1, h2⟩ := List.pairwise_cons.1 hl); (have hg : ∀ x ∈ out, lt g.p x.p = false := fun x hx' => hx x hx' g (by simp)); (obtain ⟨h3, h4⟩ := mstep_sorted out g hg hs); (simp only [List.foldl_cons]); (rw [addG_last out g hg hs])
    exact ih h2 _ h3 fun x hx' y hy => by
      rcases h4 x hx' with h | ⟨z, hz, h⟩
      · rw [h]; exact h1 y hy
      · rw [← h]; exact hx z hz y (by simp [hy])
/-- Merging a sorted rearrangement is adding one after the other. -/
theorem merge_eq {l s : List Grp} (hp : l.Perm s) (hs : s.Pairwise fun a b => lt b.p a.p = false) : mergeG s = pileOf l := by
  (rw [pileOf_perm hp]); (exact merge_fold s hs [] (by simp) (by simp))
end Go.Pil

/- Piles in plain Lean: totals, first preferences, distances. -/
namespace Go.Pil
def Srt (l : List Grp) : Prop := l.Pairwise fun a b => lt a.p b.p = true
def tot (l : List Grp) : Int := (l.map (·.n)).sum
theorem tot_cons (g : Grp) (l : List Grp) : tot (g :: l) = g.n + tot l := by simp [tot]
theorem tot_append (l m : List Grp) : tot (l ++ m) = tot l + tot m := by simp [tot]
theorem tot_addG (s : List Grp) (p : List Int) (k : Int) : tot (addG s p k) = tot s + k := by
  induction s with
  | nil => simp [addG, tot]
  | cons g r ih =>
    simp only [addG]
    split
    · rw [tot_cons, tot_cons, ih]; omega
    · split
      · rw [tot_cons, tot_cons]; simp only; omega
      · rw [tot_cons, tot_cons]; simp only; omega
theorem addG_mem {s : List Grp} {p : List Int} {k : Int} {x : Grp} (h : x ∈ addG s p k) : x.p = p ∨ x ∈ s := by
  induction s with
  | nil => simp only [addG, List.mem_singleton] at h; exact .inl (by rw [h])
  | cons g r ih =>
    simp only [addG] at h
    split at h
    · rcases List.mem_cons.1 h with h | h
      · exact .inr (by rw [h]; simp)
      · rcases ih h with h | h
        · exact .inl h
        · exact .inr (by simp [h])
    · split at h
      · rcases List.mem_cons.1 h with h | h
        · exact .inl (by rw [h])
        · exact .inr (by simp [h])
      · rcases List.mem_cons.1 h with h | h
        · exact .inl (by rw [h])
        · exact .inr h
theorem addG_srt {s : List Grp} (hs : Srt s) (p : List Int) (k : Int) : Srt (addG s p k) := by
  induction s with
  | nil => simp [addG, Srt]
  | cons g r ih =>
    (obtain ⟨h1, h2⟩ := List.pairwise_cons.1 hs); (simp only [addG])
    split
    · rename_i h
      refine List.pairwise_cons.2 ⟨fun x hx => ?_, ih h2⟩
      rcases addG_mem hx with hx | hx
      · rw [hx]; exact h
      · exact h1 x hx
    · rename_i h
      split
      · rename_i he
        exact List.pairwise_cons.2 ⟨fun x hx => by rw [← he]; exact h1 x hx, h2⟩
      · rename_i he
        have hlt : lt p g.p = true := by
          rcases lt_tri g.p p with hh | hh | hh
          · exact absurd hh h
          · exact absurd hh he
          · exact hh
        refine List.pairwise_cons.2 ⟨fun x hx => ?_, hs⟩
        rcases List.mem_cons.1 hx with rfl | hx
        · exact hlt
        · exact lt_trans hlt (h1 x hx)
theorem addG_pos {s : List Grp} (hs : ∀ g ∈ s, 1 ≤ g.n) {p : List Int} {k : Int} (hk : 1 ≤ k) : ∀ g ∈ addG s p k, 1 ≤ g.n := by
  induction s with
  | nil => intro g hg; simp only [addG, List.mem_singleton] at hg; rw [hg]; exact hk
  | cons x r ih =>
    (have hx := hs x (by simp)); (have hr := ih fun g hg => hs g (by simp [hg])); (intro g hg); (simp only [addG] at hg)
    split at hg
    · rcases List.mem_cons.1 hg with rfl | hg
      · exact hx
      · exact hr g hg
    · split at hg
      · rcases List.mem_cons.1 hg with rfl | hg
        · simp only; omega
        · exact hs g (by simp [hg])
      · rcases List.mem_cons.1 hg with rfl | hg
        · exact hk
        · exact hs g hg
/-- Adding one after the other: what is kept. -/
theorem fold_add (l : List Grp) : ∀ s : List Grp, Srt s → (∀ g ∈ s, 1 ≤ g.n) → (∀ g ∈ l, 1 ≤ g.n) → Srt (l.foldl (fun a g => addG a g.p g.n) s) ∧ (∀ g ∈ l.foldl (fun a g => addG a g.p g.n) s, 1 ≤ g.n) ∧ tot (l.foldl (fun a g => addG a g.p g.n) s) = tot s + tot l ∧ ∀ x ∈ l.foldl (fun a g => addG a g.p g.n) s, (∃ y ∈ s, y.p = x.p) ∨ ∃ y ∈ l, y.p = x.p := by
  induction l with
  | nil => intro s h1 h2 _; exact ⟨h1, h2, by simp [tot], fun x hx => .inl ⟨x, hx, rfl⟩⟩
  | cons g l ih =>
    (intro s h1 h2 h3); (obtain ⟨i1, i2, i3, i4⟩ := ih (addG s g.p g.n) (addG_srt h1 _ _) (addG_pos h2 (h3 g (by simp))) fun x hx => h3 x (by simp [hx])); (simp only [List.foldl_cons]); (refine ⟨i1, i2, by rw [i3, tot_addG, tot_cons]; omega, fun x hx => ?_⟩)
    rcases i4 x hx with ⟨y, hy, h⟩ | ⟨y, hy, h⟩
    · rcases addG_mem hy with hy | hy
      · exact .inr ⟨g, by simp, by rw [← h, hy]⟩
      · exact .inl ⟨y, hy, h⟩
    · exact .inr ⟨y, by simp [hy], h⟩
theorem pileOf_srt {l : List Grp} (h : ∀ g ∈ l, 1 ≤ g.n) : Srt (pileOf l) := (fold_add l [] (by simp [Srt]) (by simp) h).1
theorem pileOf_pos {l : List Grp} (h : ∀ g ∈ l, 1 ≤ g.n) : ∀ g ∈ pileOf l, 1 ≤ g.n := (fold_add l [] (by simp [Srt]) (by simp) h).2.1
theorem pileOf_tot {l : List Grp} (h : ∀ g ∈ l, 1 ≤ g.n) : tot (pileOf l) = tot l := by have := (fold_add l [] (by simp [Srt]) (by simp) h).2.2.1; simpa [tot, pileOf] using this
theorem pileOf_mem {l : List Grp} (h : ∀ g ∈ l, 1 ≤ g.n) : ∀ x ∈ pileOf l, ∃ y ∈ l, y.p = x.p := fun x hx => by
  rcases (fold_add l [] (by simp [Srt]) (by simp) h).2.2.2 x hx with ⟨y, hy, _⟩ | h
  · simp at hy
  · exact h
theorem tot_nonneg {l : List Grp} (h : ∀ g ∈ l, 1 ≤ g.n) : 0 ≤ tot l := by
  induction l with
  | nil => simp [tot]
  | cons g l ih => rw [tot_cons]; have := h g (by simp); have := ih fun x hx => h x (by simp [hx]); omega
theorem validA_iff (n : Int) (l : List Grp) : ∀ (room : Int) (prev : Option (List Int)), validA n room prev l = true ↔ (∀ g ∈ l, ballot n g.p = true ∧ 1 ≤ g.n) ∧ (l = [] ∨ tot l ≤ room) ∧ Srt l ∧ (match prev with | none => True | some q => ∀ g ∈ l, lt q g.p = true) := by
  induction l with
  | nil => intro room prev; cases prev <;> simp [validA, Srt]
  | cons g l ih =>
    (intro room prev); (simp only [validA, Bool.and_eq_true, decide_eq_true_eq]); (rw [ih])
    constructor
    · (rintro ⟨⟨⟨⟨h1, h2⟩, h3⟩, h4⟩, h5, h6, h7, h8⟩); (simp only at h8); (refine ⟨fun x hx => ?_, .inr ?_, List.pairwise_cons.2 ⟨h8, h7⟩, ?_⟩)
      · rcases List.mem_cons.1 hx with rfl | hx
        · exact ⟨h1, h2⟩
        · exact h5 x hx
      · rw [tot_cons]
        rcases h6 with rfl | h6
        · simp [tot]; exact h3
        · omega
      · cases prev with
        | none => trivial
        | some q =>
          (simp only at h4 ⊢); (intro x hx)
          rcases List.mem_cons.1 hx with rfl | hx
          · exact h4
          · exact lt_trans h4 (h8 x hx)
    · (rintro ⟨h1, h2, h3, h4⟩); (obtain ⟨h5, h6⟩ := List.pairwise_cons.1 h3); (have h7 : tot (g :: l) ≤ room := by rcases h2 with h | h; cases h; exact h); (rw [tot_cons] at h7); (have h8 := tot_nonneg (l := l) fun x hx => (h1 x (by simp [hx])).2); (refine ⟨⟨⟨h1 g (by simp), by omega⟩, ?_⟩, fun x hx => h1 x (by simp [hx]), .inr (by omega), h6, h5⟩)
      cases prev with
      | none => rfl
      | some q => exact h4 g (by simp)
theorem isPile_iff (n : Int) (l : List Grp) : isPile n l = true ↔ (∀ g ∈ l, ballot n g.p = true ∧ 1 ≤ g.n) ∧ tot l ≤ 100000 ∧ Srt l := by
  (unfold isPile); (rw [validA_iff])
  constructor
  · (rintro ⟨h1, h2, h3, _⟩); (exact ⟨h1, by rcases h2 with rfl | h; simp [tot]; exact h, h3⟩)
  · (rintro ⟨h1, h2, h3⟩); (exact ⟨h1, .inr h2, h3, trivial⟩)
theorem ballot_mono {n m : Int} (h : n ≤ m) {p : List Int} (hb : ballot n p = true) : ballot m p = true := by
  (simp only [ballot, decide_eq_true_eq] at hb ⊢); (exact ⟨hb.1, fun x hx => by have := hb.2 x hx; omega⟩)
theorem isPile_mono {n m : Int} (h : n ≤ m) {l : List Grp} (hb : isPile n l = true) : isPile m l = true := by
  (rw [isPile_iff] at hb ⊢); (exact ⟨fun g hg => ⟨ballot_mono h (hb.1 g hg).1, (hb.1 g hg).2⟩, hb.2⟩)
/-- The pile of ballots. -/
def ones (bs : List (List Int)) : List Grp := bs.map fun b => ⟨b, 1⟩
theorem ones_pos (bs : List (List Int)) : ∀ g ∈ ones bs, 1 ≤ g.n := fun g hg => by
  (obtain ⟨b, _, rfl⟩ := List.mem_map.1 hg); (exact Int.le_refl 1)
theorem ones_tot (bs : List (List Int)) : tot (ones bs) = bs.length := by
  induction bs with
  | nil => rfl
  | cons b bs ih => show tot (_ :: ones bs) = _; rw [tot_cons, ih, List.length_cons]; simp only; omega
theorem pile_of_ballots {n : Int} {bs : List (List Int)} (h : ∀ b ∈ bs, ballot n b = true) (hl : bs.length ≤ 100000) : isPile n (pileOf (ones bs)) = true := by
  (rw [isPile_iff]); (have hp := ones_pos bs); (refine ⟨fun g hg => ⟨?_, pileOf_pos hp g hg⟩, by rw [pileOf_tot hp, ones_tot]; omega, pileOf_srt hp⟩); (obtain ⟨y, hy, e⟩ := pileOf_mem hp g hg); (obtain ⟨b, hb, rfl⟩ := List.mem_map.1 hy); (rw [← e]; exact h b hb)
/-! Distances. -/
def com : List Grp → List Grp → Int
  | [], _ => 0
  | _ :: _, [] => 0
  | x :: xs, y :: ys => if lt x.p y.p = true then com xs (y :: ys) else if lt y.p x.p = true then com (x :: xs) ys else min x.n y.n + com xs ys
termination_by a b => a.length + b.length
theorem com_nil (a : List Grp) : com a [] = 0 := by cases a <;> simp [com]
theorem com_nonneg (a b : List Grp) (ha : ∀ g ∈ a, 1 ≤ g.n) (hb : ∀ g ∈ b, 1 ≤ g.n) : 0 ≤ com a b := by
  fun_induction com a b with
  | case1 b => exact Int.le_refl _
  | case2 x xs => exact Int.le_refl _
  | case3 x xs y ys h ih => exact ih (fun g hg => ha g (by simp [hg])) hb
  | case4 x xs y ys h1 h2 ih => exact ih ha fun g hg => hb g (by simp [hg])
  | case5 x xs y ys h1 h2 ih =>
    (have := ih (fun g hg => ha g (by simp [hg])) (fun g hg => hb g (by simp [hg]))); (have := ha x (by simp)); (have := hb y (by simp))
    omega
theorem com_le (a b : List Grp) (ha : ∀ g ∈ a, 1 ≤ g.n) (hb : ∀ g ∈ b, 1 ≤ g.n) : com a b ≤ tot a := by
  fun_induction com a b with
  | case1 b => simp [tot]
  | case2 x xs => exact tot_nonneg ha
  | case3 x xs y ys h ih => have := ih (fun g hg => ha g (by simp [hg])) hb; rw [tot_cons]; have := ha x (by simp); omega
  | case4 x xs y ys h1 h2 ih => exact ih ha fun g hg => hb g (by simp [hg])
  | case5 x xs y ys h1 h2 ih =>
    (have := ih (fun g hg => ha g (by simp [hg])) (fun g hg => hb g (by simp [hg]))); (rw [tot_cons])
    omega
end Go.Pil

/- Piles in plain Lean: first preferences, restriction, replacement, the ballots of a pile. -/
namespace Go.Pil
def inB (remain : List Bool) (x : Int) : Bool := decide (0 ≤ x) && remain.getD x.toNat false
def kept (remain : List Bool) (p : List Int) : List Int := p.filter (inB remain)
def hd (remain : List Bool) (p : List Int) : Option Int := (kept remain p).head?
def fstep (remain : List Bool) (s : List Int × Int) (g : Grp) : List Int × Int :=
  match hd remain g.p with
  | none => (s.1, s.2 + g.n)
  | some c => (s.1.set c.toNat (s.1.getD c.toNat 0 + g.n), s.2)
def firstV (gs : List Grp) (remain : List Bool) : List Int × Int := gs.foldl (fstep remain) (List.replicate remain.length 0, 0)
def first (gs : List Grp) (remain : List Bool) : List Int × Int := if isPile 7 gs = true ∧ remain.length ≤ 7 then firstV gs remain else ([], 0)
def total (gs : List Grp) : Int := if isPile 7 gs = true then tot gs else 0
/-- The sum over those groups whose preferences are such. -/
def sumIf (Q : List Int → Bool) (l : List Grp) : Int := (l.map fun g => if Q g.p = true then g.n else 0).sum
def pref (p : List Int) (a b : Int) : Bool := decide (p.idxOf a < p.idxOf b)
def prefers (gs : List Grp) (a b : Int) : Int := if isPile 7 gs = true ∧ a ≠ b then sumIf (fun p => pref p a b) gs else 0
def dist (a b : List Grp) : Int := if isPile 7 a = true ∧ isPile 7 b = true ∧ total a = total b then total a - com a b else -1
theorem sumIf_cons (Q : List Int → Bool) (g : Grp) (l : List Grp) : sumIf Q (g :: l) = (if Q g.p = true then g.n else 0) + sumIf Q l := by simp [sumIf]
theorem sumIf_all (l : List Grp) : sumIf (fun _ => true) l = tot l := by simp [sumIf, tot]
theorem sumIf_or {Q R : List Int → Bool} (l : List Grp) (h : ∀ g ∈ l, ¬ (Q g.p = true ∧ R g.p = true)) : sumIf (fun p => Q p || R p) l = sumIf Q l + sumIf R l := by
  induction l with
  | nil => rfl
  | cons g l ih =>
    (rw [sumIf_cons, sumIf_cons, sumIf_cons, ih fun x hx => h x (by simp [hx])]); (have := h g (by simp))
    cases hq : Q g.p <;> cases hr : R g.p <;> simp_all <;> omega
theorem hd_in {remain : List Bool} {p : List Int} {c : Int} (h : hd remain p = some c) : 0 ≤ c ∧ c.toNat < remain.length ∧ c ∈ p ∧ inB remain c = true := by
  (unfold hd at h); (have hm := List.mem_of_head? h); (obtain ⟨h1, h2⟩ := List.mem_filter.1 hm); (have h3 := h2); (simp only [inB, Bool.and_eq_true, decide_eq_true_eq] at h2); (refine ⟨h2.1, ?_, h1, h3⟩)
  by_cases hl : c.toNat < remain.length
  · exact hl
  · rw [List.getD_eq_getElem?_getD, List.getElem?_eq_none (by omega)] at h2; simp at h2
theorem sum_set (l : List Int) (i : Nat) (k : Int) (hi : i < l.length) : (l.set i (l.getD i 0 + k)).sum = l.sum + k := by
  induction l generalizing i with
  | nil => simp at hi
  | cons x l ih =>
    cases i with
    | zero => simp; omega
    | succ i => simp only [List.set_cons_succ, List.sum_cons, List.getD_cons_succ]; rw [ih i (by simpa using hi)]; omega
theorem fold_first (remain : List Bool) (gs : List Grp) : ∀ s : List Int × Int, s.1.length = remain.length →
    (gs.foldl (fstep remain) s).1.length = remain.length ∧ (∀ c : Nat, c < remain.length → (gs.foldl (fstep remain) s).1.getD c 0 = s.1.getD c 0 + sumIf (fun p => hd remain p == some (c : Int)) gs) ∧
    (gs.foldl (fstep remain) s).2 = s.2 + sumIf (fun p => hd remain p == none) gs ∧ (gs.foldl (fstep remain) s).1.sum + (gs.foldl (fstep remain) s).2 = s.1.sum + s.2 + tot gs := by
  induction gs with
  | nil => intro s h; simp [sumIf, tot, h]
  | cons g gs ih =>
    (intro s h); (simp only [List.foldl_cons])
    cases hh : hd remain g.p with
    | none =>
      (have e : fstep remain s g = (s.1, s.2 + g.n) := by unfold fstep; rw [hh]); (rw [e]); (obtain ⟨h1, h2, h3, h4⟩ := ih (s.1, s.2 + g.n) h); (refine ⟨h1, fun c hc => ?_, ?_, ?_⟩)
      · rw [h2 c hc, sumIf_cons, hh]; simp
      · rw [h3, sumIf_cons, hh]; simp; omega
      · rw [h4, tot_cons]; simp only; omega
    | some c =>
      (have e : fstep remain s g = (s.1.set c.toNat (s.1.getD c.toNat 0 + g.n), s.2) := by unfold fstep; rw [hh]); (obtain ⟨c0, c1, _, _⟩ := hd_in hh); (rw [e]); (obtain ⟨h1, h2, h3, h4⟩ := ih (s.1.set c.toNat (s.1.getD c.toNat 0 + g.n), s.2) (by simpa using h)); (refine ⟨h1, fun d hd' => ?_, ?_, ?_⟩)
      · rw [h2 d hd', sumIf_cons, hh]
        by_cases hcd : c.toNat = d
        · (subst hcd); (rw [if_pos (by simp; omega)]); (simp only [List.getD_eq_getElem?_getD, List.getElem?_set_self (show c.toNat < s.1.length by omega)])
          simp; omega
        · (rw [if_neg (by simp; omega)]); (simp only [List.getD_eq_getElem?_getD, List.getElem?_set_ne hcd]; omega)
      · rw [h3, sumIf_cons, hh]; simp
      · (rw [h4, tot_cons]); (simp only); (rw [sum_set _ _ _ (by omega)]; omega)
theorem first_len (gs : List Grp) (remain : List Bool) : (firstV gs remain).1.length = remain.length := (fold_first remain gs (List.replicate remain.length 0, 0) (by simp)).1
theorem first_at (gs : List Grp) (remain : List Bool) (c : Nat) (hc : c < remain.length) : (firstV gs remain).1.getD c 0 = sumIf (fun p => hd remain p == some (c : Int)) gs := by
  have := (fold_first remain gs (List.replicate remain.length 0, 0) (by simp)).2.1 c hc
  simp [hc] at this
  simpa [firstV] using this
theorem first_rest (gs : List Grp) (remain : List Bool) : (firstV gs remain).2 = sumIf (fun p => hd remain p == none) gs := by
  have := (fold_first remain gs (List.replicate remain.length 0, 0) (by simp)).2.2.1
  simpa [firstV] using this
theorem first_sum (gs : List Grp) (remain : List Bool) : (firstV gs remain).1.sum + (firstV gs remain).2 = tot gs := by
  have := (fold_first remain gs (List.replicate remain.length 0, 0) (by simp)).2.2.2
  simpa [firstV] using this
/-- Of two candidates. -/
def two (n : Nat) (a b : Nat) : List Bool := ((List.replicate n false).set a true).set b true
theorem count_set (l : List (List Int)) (i : Nat) (b q : List Int) : (l.count q : Int) - (if l[i]? = some q then 1 else 0) ≤ ((l.set i b).count q : Int) := by
  induction l generalizing i with
  | nil => simp
  | cons x l ih =>
    cases i with
    | zero =>
      simp only [List.set_cons_zero, List.count_cons, List.getElem?_cons_zero, Option.some.injEq]
      by_cases h : x = q <;> by_cases h2 : b = q <;> simp [h, h2] <;> omega
    | succ i =>
      (simp only [List.set_cons_succ, List.count_cons, List.getElem?_cons_succ]); (have := ih i)
      omega
end Go.Pil

/- Margins in plain Lean: bounds of tails, distances. -/
namespace Go.Mg
open Go.Pil
/-- The greatest of some numbers, at least 0. -/
def mx (l : List Int) : Int := l.foldl max 0
/-- Half of it, rounded up; 0 if it is negative. -/
def half (d : Int) : Int := if d ≤ 0 then 0 else (d + 1) / 2
/-- Which of n candidates are in l. -/
def flags (n : Nat) (l : List Int) : List Bool := (List.range n).map fun i : Nat => decide ((i : Int) ∈ l)
theorem flags_len (n : Nat) (l : List Int) : (flags n l).length = n := by simp [flags]
theorem flags_in {n : Nat} (l : List Int) (x : Int) : inB (flags n l) x = decide (0 ≤ x ∧ x < (n : Int) ∧ x ∈ l) := by
  unfold inB
  by_cases h0 : 0 ≤ x
  · rw [decide_eq_true h0, Bool.true_and]
    by_cases hn : x < (n : Int)
    · (have hx : x.toNat < n := by omega); (have he : ((x.toNat : Nat) : Int) = x := by omega); (rw [List.getD_eq_getElem?_getD, List.getElem?_eq_getElem (by rw [flags_len]; exact hx)])
      simp [flags, he, h0, hn]
    · rw [List.getD_eq_getElem?_getD, List.getElem?_eq_none (by rw [flags_len]; omega)]
      simp [hn]
  · simp [h0]
def isTail (n : Int) (l : List Int) : Bool := decide (l ≠ []) && ballot n l
/-- The votes of c if the candidates of l remain. -/
def vt (n : Nat) (gs : List Grp) (l : List Int) (c : Int) : Int := (firstV gs (flags n l)).1.getD c.toNat 0
/-- All n candidates. -/
def allC (n : Nat) : List Int := (List.range n).map Int.ofNat
theorem mem_allC {n : Nat} {x : Int} : x ∈ allC n ↔ 0 ≤ x ∧ x < n := by
  (unfold allC); (simp only [List.mem_map, List.mem_range, Int.ofNat_eq_natCast])
  constructor
  · rintro ⟨i, hi, rfl⟩; omega
  · intro h; exact ⟨x.toNat, by omega, by omega⟩
/-- The differences within a tail. -/
def din (n : Nat) (gs : List Grp) (tail : List Int) : List Int := (List.range tail.length).flatMap fun i => (tail.drop (i + 1)).map fun d => vt n gs (tail.drop i) (tail.getD i 0) - vt n gs (tail.drop i) d
/-- The differences with those that are not in the tail. -/
def dout (n : Nat) (gs : List Grp) (tail : List Int) : List Int := ((allC n).filter fun e => decide (e ∉ tail)).flatMap fun e => tail.map fun t => vt n gs (allC n) e - prefers gs t e
/-- The bound of a tail. -/
def bd (n : Nat) (gs : List Grp) (tail : List Int) : Int := half (mx (din n gs tail ++ dout n gs tail))
theorem sumIf_bnd {Q : List Int → Bool} {l : List Grp} (h : ∀ g ∈ l, 1 ≤ g.n) : 0 ≤ sumIf Q l ∧ sumIf Q l ≤ tot l := by
  induction l with
  | nil => simp [sumIf, tot]
  | cons g l ih =>
    (have h1 := h g (by simp)); (have h2 := ih fun x hx => h x (by simp [hx])); (rw [sumIf_cons, tot_cons])
    split <;> omega
theorem sumIf_mono {Q R : List Int → Bool} {l : List Grp} (h : ∀ g ∈ l, 1 ≤ g.n) (hq : ∀ g ∈ l, Q g.p = true → R g.p = true) : sumIf Q l ≤ sumIf R l := by
  induction l with
  | nil => simp [sumIf]
  | cons g l ih =>
    (have h1 := h g (by simp)); (have h2 := ih (fun x hx => h x (by simp [hx])) fun x hx => hq x (by simp [hx])); (have h3 := hq g (by simp)); (rw [sumIf_cons, sumIf_cons])
    by_cases hQ : Q g.p = true
    · rw [if_pos hQ, if_pos (h3 hQ)]; omega
    · rw [if_neg hQ]; split <;> omega
theorem two_tot {Q R : List Int → Bool} {l : List Grp} (h : ∀ g ∈ l, 1 ≤ g.n) : sumIf Q l - sumIf R l ≤ tot l := by
  (have := sumIf_bnd (Q := Q) h); (have := sumIf_bnd (Q := R) h)
  omega
/-- Replacing a ballot turns a difference of two counts by at most two. -/
theorem diff_com (Q R : List Int → Bool) (a b : List Grp) (ha : ∀ g ∈ a, 1 ≤ g.n) (hb : ∀ g ∈ b, 1 ≤ g.n) :
    (sumIf Q a - sumIf R a) - (sumIf Q b - sumIf R b) ≤ tot a + tot b - 2 * com a b := by
  fun_induction com a b with
  | case1 b => have := two_tot (Q := R) (R := Q) hb; simp [sumIf, tot] at *; omega
  | case2 x xs => have := two_tot (Q := Q) (R := R) ha; simp [sumIf, tot] at *; omega
  | case3 x xs y ys h ih =>
    (have := ih (fun g hg => ha g (by simp [hg])) hb); (have h1 := ha x (by simp)); (rw [sumIf_cons, sumIf_cons, tot_cons])
    split <;> split <;> omega
  | case4 x xs y ys h h' ih =>
    (have := ih ha fun g hg => hb g (by simp [hg])); (have h1 := hb y (by simp)); (rw [sumIf_cons Q y, sumIf_cons R y, tot_cons y])
    split <;> split <;> omega
  | case5 x xs y ys h h' ih =>
    (have := ih (fun g hg => ha g (by simp [hg])) fun g hg => hb g (by simp [hg])); (have h1 := ha x (by simp)); (have h2 := hb y (by simp)); (have he : x.p = y.p := eq_of_not (by simpa using h) (by simpa using h')); (rw [sumIf_cons, sumIf_cons, sumIf_cons, sumIf_cons, tot_cons, tot_cons, he])
    split <;> split <;> omega
end Go.Mg
