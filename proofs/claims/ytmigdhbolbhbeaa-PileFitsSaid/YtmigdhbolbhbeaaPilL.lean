/- Piles in plain Lean: ballots, the order of preferences, adding, merging, counts, distances. -/
namespace Go.Pil
structure Grp where
  p : List Int
  n : Int
deriving DecidableEq
instance : Inhabited Grp := ⟨⟨[], 0⟩⟩
def ballot (n : Int) (p : List Int) : Bool := decide (p.Nodup ∧ ∀ x ∈ p, 0 ≤ x ∧ x < n)
/-- before. -/
def lt : List Int → List Int → Bool
  | _, [] => false
  | [], _ :: _ => true
  | x :: xs, y :: ys => if x = y then lt xs ys else decide (x < y)
def cmp : List Int → List Int → Int
  | [], [] => 0
  | [], _ :: _ => -1
  | _ :: _, [] => 1
  | x :: xs, y :: ys => if x = y then cmp xs ys else if x < y then -1 else 1
theorem lt_irrefl : ∀ a, lt a a = false
  | [] => rfl
  | x :: xs => by simp [lt, lt_irrefl xs]
theorem lt_trans : ∀ {a b c}, lt a b = true → lt b c = true → lt a c = true
  | [], [], _, h, _ => by simp [lt] at h
  | [], _ :: _, [], _, h => by simp [lt] at h
  | [], _ :: _, _ :: _, _, _ => rfl
  | _ :: _, [], _, h, _ => by simp [lt] at h
  | _ :: _, _ :: _, [], _, h => by simp [lt] at h
  | x :: xs, y :: ys, z :: zs, h1, h2 => by
    simp only [lt] at h1 h2 ⊢
    by_cases e1 : x = y
    · subst e1
      rw [if_pos rfl] at h1
      by_cases e2 : x = z
      · rw [if_pos e2] at h2 ⊢; exact lt_trans h1 h2
      · rw [if_neg e2] at h2 ⊢; exact h2
    · rw [if_neg e1] at h1
      by_cases e2 : y = z
      · subst e2; rw [if_neg e1]; exact h1
      · rw [if_neg e2] at h2
        have h1 := of_decide_eq_true h1
        have h2 := of_decide_eq_true h2
        rw [if_neg (by omega)]
        exact decide_eq_true (by omega)
theorem lt_tri : ∀ a b, lt a b = true ∨ a = b ∨ lt b a = true
  | [], [] => .inr (.inl rfl)
  | [], _ :: _ => .inl rfl
  | _ :: _, [] => .inr (.inr rfl)
  | x :: xs, y :: ys => by
    simp only [lt]
    by_cases e : x = y
    · subst e
      rw [if_pos rfl, if_pos rfl]
      rcases lt_tri xs ys with h | h | h
      · exact .inl h
      · exact .inr (.inl (by rw [h]))
      · exact .inr (.inr h)
    · rw [if_neg e, if_neg (Ne.symm e)]
      rcases Int.lt_or_gt_of_ne e with h | h
      · exact .inl (decide_eq_true h)
      · exact .inr (.inr (decide_eq_true h))
theorem lt_asymm {a b} (h : lt a b = true) : lt b a = false := by
  cases h2 : lt b a with
  | false => rfl
  | true => have := lt_trans h h2; rw [lt_irrefl] at this; cases this
theorem lt_ne {a b} (h : lt a b = true) : a ≠ b := fun e => by subst e; rw [lt_irrefl] at h; cases h
theorem eq_of_not {a b} (h1 : lt a b = false) (h2 : lt b a = false) : a = b := by
  rcases lt_tri a b with h | h | h
  · rw [h] at h1; cases h1
  · exact h
  · rw [h] at h2; cases h2
theorem cmp_lt : ∀ a b, cmp a b < 0 ↔ lt a b = true
  | [], [] => by simp [cmp, lt]
  | [], _ :: _ => by simp [cmp, lt]
  | _ :: _, [] => by simp [cmp, lt]
  | x :: xs, y :: ys => by
    simp only [cmp, lt]
    by_cases e : x = y
    · rw [if_pos e, if_pos e]; exact cmp_lt xs ys
    · rw [if_neg e, if_neg e]
      by_cases h : x < y <;> simp [h]
theorem cmp_gt : ∀ a b, 0 < cmp a b ↔ lt b a = true
  | [], [] => by simp [cmp, lt]
  | [], _ :: _ => by simp [cmp, lt]
  | _ :: _, [] => by simp [cmp, lt]
  | x :: xs, y :: ys => by
    simp only [cmp, lt]
    by_cases e : x = y
    · rw [if_pos e, if_pos e.symm]; exact cmp_gt xs ys
    · rw [if_neg e, if_neg (Ne.symm e)]
      by_cases h : x < y
      · simp [h]; omega
      · simp [h]; omega
theorem cmp_self : ∀ a, cmp a a = 0
  | [] => rfl
  | x :: xs => by simp [cmp, cmp_self xs]
theorem cmp_eq (a b : List Int) : cmp a b = 0 ↔ a = b := by
  constructor
  · intro h
    exact eq_of_not (by cases hh : lt a b with | false => rfl | true => have := (cmp_lt a b).2 hh; omega) (by cases hh : lt b a with | false => rfl | true => have := (cmp_gt a b).2 hh; omega)
  · rintro rfl; exact cmp_self a
theorem cmp_at {xs ys : List Int} {k : Nat} (hx : k < xs.length) (hy : k < ys.length) (ht : xs.take k = ys.take k) (hne : xs.getD k 0 ≠ ys.getD k 0) : cmp xs ys = if xs.getD k 0 < ys.getD k 0 then -1 else 1 := by
  induction k generalizing xs ys with
  | zero =>
    match xs, ys, hx, hy with
    | x :: xs, y :: ys, _, _ =>
      have hne' : x ≠ y := by simpa using hne
      simp [cmp, hne']
  | succ k ih =>
    match xs, ys, hx, hy with
    | x :: xs, y :: ys, hx, hy =>
      simp only [List.take_succ_cons, List.cons.injEq] at ht
      obtain ⟨rfl, ht⟩ := ht
      have := ih (xs := xs) (ys := ys) (by simpa using hx) (by simpa using hy) ht (by simpa using hne)
      simpa [cmp] using this
theorem cmp_pre {xs ys : List Int} (h : xs = ys.take xs.length) : cmp xs ys = if xs.length < ys.length then -1 else 0 := by
  induction xs generalizing ys with
  | nil => cases ys <;> simp [cmp]
  | cons x xs ih =>
    match ys, h with
    | y :: ys, h =>
      simp only [List.length_cons, List.take_succ_cons, List.cons.injEq] at h
      obtain ⟨rfl, h⟩ := h
      simp only [cmp, if_true, List.length_cons, Nat.add_lt_add_iff_right]
      exact ih h
theorem cmp_pos {xs ys : List Int} (h : ys = xs.take ys.length) (hl : ys.length < xs.length) : cmp xs ys = 1 := by
  induction ys generalizing xs with
  | nil => cases xs with | nil => simp at hl | cons => rfl
  | cons y ys ih =>
    match xs, h, hl with
    | x :: xs, h, hl =>
      simp only [List.length_cons, List.take_succ_cons, List.cons.injEq] at h
      obtain ⟨rfl, h⟩ := h
      simp only [cmp, if_true]
      exact ih h (by simpa using hl)
/-- The groups beside each other are those of a pile of n candidates. -/
def validA (n : Int) : Int → Option (List Int) → List Grp → Bool
  | _, _, [] => true
  | room, prev, g :: r => ballot n g.p && decide (1 ≤ g.n) && decide (g.n ≤ room) && (match prev with | none => true | some q => lt q g.p) && validA n (room - g.n) (some g.p) r
def isPile (n : Int) (gs : List Grp) : Bool := validA n 100000 none gs
def addG : List Grp → List Int → Int → List Grp
  | [], p, k => [⟨p, k⟩]
  | g :: r, p, k => if lt g.p p = true then g :: addG r p k else if g.p = p then ⟨p, g.n + k⟩ :: r else ⟨p, k⟩ :: g :: r
def pileOf (l : List Grp) : List Grp := l.foldl (fun a g => addG a g.p g.n) []
theorem addG_comm_lt {p q : List Int} (h : lt p q = true) (k m : Int) : ∀ s : List Grp, addG (addG s p k) q m = addG (addG s q m) p k := by
  have hpq := lt_ne h
  have hqp := lt_asymm h
  intro s
  induction s with
  | nil => simp [addG, h, hqp, Ne.symm hpq]
  | cons g r ih =>
    simp only [addG]
    by_cases h1 : lt g.p p = true
    · have h2 := lt_trans h1 h
      rw [if_pos h1, if_pos h2]
      simp only [addG]
      rw [if_pos h1, if_pos h2, ih]
    · rw [if_neg h1]
      by_cases h3 : g.p = p
      · rw [if_pos h3, if_pos (by rw [h3]; exact h)]
        simp only [addG]
        rw [if_pos h, if_neg h1, if_pos h3]
      · rw [if_neg h3]
        simp only [addG]
        rw [if_pos h]
        by_cases h4 : lt g.p q = true
        · rw [if_pos h4]
          simp only [addG]
          rw [if_neg h1, if_neg h3]
        · rw [if_neg h4]
          by_cases h5 : g.p = q
          · rw [if_pos h5]
            simp only [addG]
            rw [if_neg (by rw [hqp]; decide), if_neg (Ne.symm hpq)]
          · rw [if_neg h5]
            simp only [addG]
            rw [if_neg (by rw [hqp]; decide), if_neg (Ne.symm hpq)]
theorem addG_comm_eq (p : List Int) (k m : Int) : ∀ s : List Grp, addG (addG s p k) p m = addG (addG s p m) p k := by
  have hi := lt_irrefl p
  intro s
  induction s with
  | nil => simp [addG, hi, Int.add_comm]
  | cons g r ih =>
    simp only [addG]
    by_cases h1 : lt g.p p = true
    · rw [if_pos h1, if_pos h1]
      simp only [addG]
      rw [if_pos h1, if_pos h1, ih]
    · rw [if_neg h1, if_neg h1]
      by_cases h3 : g.p = p
      · rw [if_pos h3, if_pos h3]
        simp [addG, hi]; omega
      · rw [if_neg h3, if_neg h3]
        simp [addG, hi]; omega
theorem addG_comm (s : List Grp) (p q : List Int) (k m : Int) : addG (addG s p k) q m = addG (addG s q m) p k := by
  rcases lt_tri p q with h | h | h
  · exact addG_comm_lt h k m s
  · subst h; exact addG_comm_eq p k m s
  · exact (addG_comm_lt h m k s).symm
theorem pileOf_perm {l l' : List Grp} (h : l.Perm l') : pileOf l = pileOf l' := by
  unfold pileOf
  exact h.foldl_eq' (fun x _ y _ z => addG_comm z x.p y.p x.n y.n) []
/-- One step of the merge of a sorted list. -/
def mstep (out : List Grp) (g : Grp) : List Grp :=
  match out.getLast? with
  | none => [g]
  | some l => if l.p = g.p then out.dropLast ++ [⟨l.p, l.n + g.n⟩] else out ++ [g]
def mergeG (l : List Grp) : List Grp := l.foldl mstep []
theorem addG_last (out : List Grp) (g : Grp) (h : ∀ x ∈ out, lt g.p x.p = false) (hs : out.Pairwise fun a b => lt a.p b.p = true) : addG out g.p g.n = mstep out g := by
  induction out with
  | nil => rfl
  | cons x r ih =>
    have hx := h x (by simp)
    simp only [addG]
    by_cases h1 : lt x.p g.p = true
    · rw [if_pos h1, ih (fun y hy => h y (by simp [hy])) (List.pairwise_cons.1 hs).2]
      cases r with
      | nil => simp [mstep, lt_ne h1]
      | cons y r =>
        unfold mstep
        rw [List.getLast?_cons_cons]
        obtain ⟨z, hz⟩ : ∃ z, (y :: r).getLast? = some z := ⟨_, List.getLast?_eq_some_getLast (by simp)⟩
        rw [hz]
        simp only
        split
        · simp
        · simp
    · rw [if_neg h1]
      have he : x.p = g.p := eq_of_not (by simpa using h1) hx
      rw [if_pos he]
      have hr : r = [] := by
        cases r with
        | nil => rfl
        | cons y r =>
          have h2 := (List.pairwise_cons.1 hs).1 y (by simp)
          have h3 := h y (by simp)
          rw [he, h3] at h2; cases h2
      subst hr
      simp [mstep, he]
theorem mstep_sorted (out : List Grp) (g : Grp) (h : ∀ x ∈ out, lt g.p x.p = false) (hs : out.Pairwise fun a b => lt a.p b.p = true) : (mstep out g).Pairwise (fun a b => lt a.p b.p = true) ∧ ∀ x ∈ mstep out g, x.p = g.p ∨ ∃ y ∈ out, y.p = x.p := by
  rcases List.eq_nil_or_concat out with rfl | ⟨o, l, rfl⟩
  · simp [mstep]
  · unfold mstep
    rw [List.concat_eq_append] at *
    rw [List.getLast?_concat]
    simp only [List.dropLast_concat]
    rw [List.pairwise_append] at hs
    obtain ⟨h1, _, h3⟩ := hs
    split
    · rename_i he
      refine ⟨?_, ?_⟩
      · rw [List.pairwise_append]
        refine ⟨h1, by simp, fun a ha b hb => ?_⟩
        obtain rfl : b = ⟨l.p, l.n + g.n⟩ := by simpa using hb
        exact h3 a ha l (by simp)
      · intro x hx
        rcases List.mem_append.1 hx with hx | hx
        · exact .inr ⟨x, by simp [hx], rfl⟩
        · obtain rfl : x = ⟨l.p, l.n + g.n⟩ := by simpa using hx
          exact .inl he
    · rename_i he
      refine ⟨?_, ?_⟩
      · rw [List.pairwise_append]
        refine ⟨by rw [List.pairwise_append]; exact ⟨h1, by simp, h3⟩, by simp, fun a ha b hb => ?_⟩
        obtain rfl : b = g := by simpa using hb
        have hn := h a ha
        rcases lt_tri a.p b.p with hh | hh | hh
        · exact hh
        · rcases List.mem_append.1 ha with ha | ha
          · have h4 := h3 a ha l (by simp)
            have h5 := h l (by simp)
            rw [hh] at h4; rw [h4] at h5; cases h5
          · obtain rfl : a = l := by simpa using ha
            exact absurd hh he
        · rw [hn] at hh; cases hh
      · intro x hx
        rcases List.mem_append.1 hx with hx | hx
        · exact .inr ⟨x, hx, rfl⟩
        · obtain rfl : x = g := by simpa using hx
          exact .inl rfl
theorem merge_fold (l : List Grp) (hl : l.Pairwise fun a b => lt b.p a.p = false) : ∀ out : List Grp, (out.Pairwise fun a b => lt a.p b.p = true) → (∀ x ∈ out, ∀ g ∈ l, lt g.p x.p = false) → l.foldl mstep out = l.foldl (fun a g => addG a g.p g.n) out := by
  induction l with
  | nil => intro out _ _; rfl
  | cons g l ih =>
    intro out hs hx
    obtain ⟨h1, h2⟩ := List.pairwise_cons.1 hl
    have hg : ∀ x ∈ out, lt g.p x.p = false := fun x hx' => hx x hx' g (by simp)
    obtain ⟨h3, h4⟩ := mstep_sorted out g hg hs
    simp only [List.foldl_cons]
    rw [addG_last out g hg hs]
    exact ih h2 _ h3 fun x hx' y hy => by
      rcases h4 x hx' with h | ⟨z, hz, h⟩
      · rw [h]; exact h1 y hy
      · rw [← h]; exact hx z hz y (by simp [hy])
/-- Merging a sorted rearrangement is adding one after the other. -/
theorem merge_eq {l s : List Grp} (hp : l.Perm s) (hs : s.Pairwise fun a b => lt b.p a.p = false) : mergeG s = pileOf l := by
  rw [pileOf_perm hp]
  exact merge_fold s hs [] (by simp) (by simp)
end Go.Pil
