/- Piles in plain Lean: first preferences, restriction, replacement, the ballots of a pile. -/
import Derived.Test.YtmigdhbolbhbeaaPilM
namespace Go.Pil
def inB (remain : List Bool) (x : Int) : Bool := decide (0 ≤ x) && remain.getD x.toNat false
def kept (remain : List Bool) (p : List Int) : List Int := p.filter (inB remain)
def hd (remain : List Bool) (p : List Int) : Option Int := (kept remain p).head?
def fstep (remain : List Bool) (s : List Int × Int) (g : Grp) : List Int × Int :=
  match hd remain g.p with
  | none => (s.1, s.2 + g.n)
  | some c => (s.1.set c.toNat (s.1.getD c.toNat 0 + g.n), s.2)
def firstV (gs : List Grp) (remain : List Bool) : List Int × Int := gs.foldl (fstep remain) (List.replicate remain.length 0, 0)
def first (gs : List Grp) (remain : List Bool) : List Int × Int := if isPile 7 gs = true ∧ remain.length ≤ 7 then firstV gs remain else ([], 0)
def total (gs : List Grp) : Int := if isPile 7 gs = true then tot gs else 0
/-- The sum over those groups whose preferences are such. -/
def sumIf (Q : List Int → Bool) (l : List Grp) : Int := (l.map fun g => if Q g.p = true then g.n else 0).sum
def marked (gs : List Grp) : Int := if isPile 7 gs = true then sumIf (fun p => !p.isEmpty) gs else 0
def pref (p : List Int) (a b : Int) : Bool := decide (p.idxOf a < p.idxOf b)
def prefers (gs : List Grp) (a b : Int) : Int := if isPile 7 gs = true ∧ a ≠ b then sumIf (fun p => pref p a b) gs else 0
def dist (a b : List Grp) : Int := if isPile 7 a = true ∧ isPile 7 b = true ∧ total a = total b then total a - com a b else -1
def restr (gs : List Grp) (remain : List Bool) : List Grp := if isPile 7 gs = true then pileOf (gs.map fun g => ⟨kept remain g.p, g.n⟩) else []
theorem sumIf_cons (Q : List Int → Bool) (g : Grp) (l : List Grp) : sumIf Q (g :: l) = (if Q g.p = true then g.n else 0) + sumIf Q l := by simp [sumIf]
theorem sumIf_nil (Q : List Int → Bool) : sumIf Q [] = 0 := rfl
theorem sumIf_addG (Q : List Int → Bool) (s : List Grp) (p : List Int) (k : Int) : sumIf Q (addG s p k) = sumIf Q s + if Q p = true then k else 0 := by
  induction s with
  | nil => simp only [addG, sumIf_cons, sumIf_nil]; omega
  | cons g r ih =>
    simp only [addG]
    split
    · rw [sumIf_cons, sumIf_cons, ih]; omega
    · split
      · rename_i he
        rw [sumIf_cons, sumIf_cons, ← he]
        simp only
        split <;> omega
      · simp only [sumIf_cons]; omega
theorem sumIf_pileOf (Q : List Int → Bool) (l : List Grp) : sumIf Q (pileOf l) = sumIf Q l := by
  have : ∀ (l s : List Grp), sumIf Q (l.foldl (fun a g => addG a g.p g.n) s) = sumIf Q s + sumIf Q l := by
    intro l
    induction l with
    | nil => intro s; simp [sumIf]
    | cons g l ih => intro s; simp only [List.foldl_cons]; rw [ih, sumIf_addG, sumIf_cons]; omega
  have := this l []
  simpa [sumIf_nil, pileOf] using this
theorem sumIf_all (l : List Grp) : sumIf (fun _ => true) l = tot l := by simp [sumIf, tot]
theorem sumIf_congr {Q R : List Int → Bool} {l : List Grp} (h : ∀ g ∈ l, Q g.p = R g.p) : sumIf Q l = sumIf R l := by
  unfold sumIf
  congr 1
  exact List.map_congr_left fun g hg => by rw [h g hg]
theorem sumIf_or {Q R : List Int → Bool} (l : List Grp) (h : ∀ g ∈ l, ¬ (Q g.p = true ∧ R g.p = true)) : sumIf (fun p => Q p || R p) l = sumIf Q l + sumIf R l := by
  induction l with
  | nil => rfl
  | cons g l ih =>
    rw [sumIf_cons, sumIf_cons, sumIf_cons, ih fun x hx => h x (by simp [hx])]
    have := h g (by simp)
    cases hq : Q g.p <;> cases hr : R g.p <;> simp_all <;> omega
theorem hd_in {remain : List Bool} {p : List Int} {c : Int} (h : hd remain p = some c) : 0 ≤ c ∧ c.toNat < remain.length ∧ c ∈ p ∧ inB remain c = true := by
  unfold hd at h
  have hm := List.mem_of_head? h
  obtain ⟨h1, h2⟩ := List.mem_filter.1 hm
  have h3 := h2
  simp only [inB, Bool.and_eq_true, decide_eq_true_eq] at h2
  refine ⟨h2.1, ?_, h1, h3⟩
  by_cases hl : c.toNat < remain.length
  · exact hl
  · rw [List.getD_eq_getElem?_getD, List.getElem?_eq_none (by omega)] at h2; simp at h2
theorem sum_set (l : List Int) (i : Nat) (k : Int) (hi : i < l.length) : (l.set i (l.getD i 0 + k)).sum = l.sum + k := by
  induction l generalizing i with
  | nil => simp at hi
  | cons x l ih =>
    cases i with
    | zero => simp; omega
    | succ i => simp only [List.set_cons_succ, List.sum_cons, List.getD_cons_succ]; rw [ih i (by simpa using hi)]; omega
theorem fold_first (remain : List Bool) (gs : List Grp) : ∀ s : List Int × Int, s.1.length = remain.length →
    (gs.foldl (fstep remain) s).1.length = remain.length ∧ (∀ c : Nat, c < remain.length → (gs.foldl (fstep remain) s).1.getD c 0 = s.1.getD c 0 + sumIf (fun p => hd remain p == some (c : Int)) gs) ∧
    (gs.foldl (fstep remain) s).2 = s.2 + sumIf (fun p => hd remain p == none) gs ∧ (gs.foldl (fstep remain) s).1.sum + (gs.foldl (fstep remain) s).2 = s.1.sum + s.2 + tot gs := by
  induction gs with
  | nil => intro s h; simp [sumIf, tot, h]
  | cons g gs ih =>
    intro s h
    simp only [List.foldl_cons]
    cases hh : hd remain g.p with
    | none =>
      have e : fstep remain s g = (s.1, s.2 + g.n) := by unfold fstep; rw [hh]
      rw [e]
      obtain ⟨h1, h2, h3, h4⟩ := ih (s.1, s.2 + g.n) h
      refine ⟨h1, fun c hc => ?_, ?_, ?_⟩
      · rw [h2 c hc, sumIf_cons, hh]; simp
      · rw [h3, sumIf_cons, hh]; simp; omega
      · rw [h4, tot_cons]; simp only; omega
    | some c =>
      have e : fstep remain s g = (s.1.set c.toNat (s.1.getD c.toNat 0 + g.n), s.2) := by unfold fstep; rw [hh]
      obtain ⟨c0, c1, _, _⟩ := hd_in hh
      rw [e]
      obtain ⟨h1, h2, h3, h4⟩ := ih (s.1.set c.toNat (s.1.getD c.toNat 0 + g.n), s.2) (by simpa using h)
      refine ⟨h1, fun d hd' => ?_, ?_, ?_⟩
      · rw [h2 d hd', sumIf_cons, hh]
        by_cases hcd : c.toNat = d
        · subst hcd
          rw [if_pos (by simp; omega)]
          simp only [List.getD_eq_getElem?_getD, List.getElem?_set_self (show c.toNat < s.1.length by omega)]
          simp; omega
        · rw [if_neg (by simp; omega)]
          simp only [List.getD_eq_getElem?_getD, List.getElem?_set_ne hcd]; omega
      · rw [h3, sumIf_cons, hh]; simp
      · rw [h4, tot_cons]
        simp only
        rw [sum_set _ _ _ (by omega)]; omega
theorem first_len (gs : List Grp) (remain : List Bool) : (firstV gs remain).1.length = remain.length := (fold_first remain gs (List.replicate remain.length 0, 0) (by simp)).1
theorem first_at (gs : List Grp) (remain : List Bool) (c : Nat) (hc : c < remain.length) : (firstV gs remain).1.getD c 0 = sumIf (fun p => hd remain p == some (c : Int)) gs := by
  have := (fold_first remain gs (List.replicate remain.length 0, 0) (by simp)).2.1 c hc
  simp [hc] at this
  simpa [firstV] using this
theorem first_rest (gs : List Grp) (remain : List Bool) : (firstV gs remain).2 = sumIf (fun p => hd remain p == none) gs := by
  have := (fold_first remain gs (List.replicate remain.length 0, 0) (by simp)).2.2.1
  simpa [firstV] using this
theorem first_sum (gs : List Grp) (remain : List Bool) : (firstV gs remain).1.sum + (firstV gs remain).2 = tot gs := by
  have := (fold_first remain gs (List.replicate remain.length 0, 0) (by simp)).2.2.2
  simpa [firstV] using this
theorem kept_kept (remain : List Bool) (p : List Int) : kept remain (kept remain p) = kept remain p := by simp [kept]
theorem ballot_kept {n : Int} {p : List Int} (h : ballot n p = true) (remain : List Bool) : ballot n (kept remain p) = true := by
  simp only [ballot, decide_eq_true_eq] at h ⊢
  exact ⟨h.1.filter _, fun x hx => h.2 x (List.mem_filter.1 hx).1⟩
theorem restr_pile {n : Int} {gs : List Grp} (h : isPile n gs = true) (remain : List Bool) : isPile n (pileOf (gs.map fun g => ⟨kept remain g.p, g.n⟩)) = true := by
  rw [isPile_iff] at h ⊢
  have hp : ∀ g ∈ gs.map (fun g => (⟨kept remain g.p, g.n⟩ : Grp)), 1 ≤ g.n := fun g hg => by
    obtain ⟨x, hx, rfl⟩ := List.mem_map.1 hg
    exact (h.1 x hx).2
  have ht : tot (gs.map fun g => (⟨kept remain g.p, g.n⟩ : Grp)) = tot gs := by unfold tot; rw [List.map_map]; rfl
  refine ⟨fun g hg => ⟨?_, pileOf_pos hp g hg⟩, by rw [pileOf_tot hp, ht]; exact h.2.1, pileOf_srt hp⟩
  obtain ⟨y, hy, e⟩ := pileOf_mem hp g hg
  obtain ⟨x, hx, rfl⟩ := List.mem_map.1 hy
  rw [← e]; exact ballot_kept (h.1 x hx).1 remain
theorem restr_tot {n : Int} {gs : List Grp} (h : isPile n gs = true) (remain : List Bool) : tot (pileOf (gs.map fun g => (⟨kept remain g.p, g.n⟩ : Grp))) = tot gs := by
  rw [isPile_iff] at h
  rw [pileOf_tot fun g hg => by obtain ⟨x, hx, rfl⟩ := List.mem_map.1 hg; exact (h.1 x hx).2]
  unfold tot; rw [List.map_map]; rfl
theorem sumIf_restr (Q : List Int → Bool) (gs : List Grp) (remain : List Bool) : sumIf Q (pileOf (gs.map fun g => (⟨kept remain g.p, g.n⟩ : Grp))) = sumIf (fun p => Q (kept remain p)) gs := by
  rw [sumIf_pileOf]; unfold sumIf; rw [List.map_map]; rfl
theorem ext_getD {l m : List Int} (hl : l.length = m.length) (h : ∀ c, c < l.length → l.getD c 0 = m.getD c 0) : l = m := by
  refine List.ext_getElem hl fun i h1 h2 => ?_
  have := h i h1
  rw [List.getD_eq_getElem?_getD, List.getD_eq_getElem?_getD, List.getElem?_eq_getElem h1, List.getElem?_eq_getElem h2] at this
  simpa using this
theorem restr_first (gs : List Grp) (remain : List Bool) : firstV (pileOf (gs.map fun g => (⟨kept remain g.p, g.n⟩ : Grp))) remain = firstV gs remain := by
  have e : ∀ p, hd remain (kept remain p) = hd remain p := fun p => by unfold hd; rw [kept_kept]
  refine Prod.ext (ext_getD (by rw [first_len, first_len]) fun c hc => ?_) ?_
  · rw [first_len] at hc
    rw [first_at _ _ c hc, first_at _ _ c hc, sumIf_restr]
    simp only [e]
  · rw [first_rest, first_rest, sumIf_restr]
    simp only [e]
theorem restr_rest {gs : List Grp} (remain : List Bool) : (firstV (pileOf (gs.map fun g => (⟨kept remain g.p, g.n⟩ : Grp))) remain).2 = tot (pileOf (gs.map fun g => (⟨kept remain g.p, g.n⟩ : Grp))) - sumIf (fun p => !p.isEmpty) (pileOf (gs.map fun g => (⟨kept remain g.p, g.n⟩ : Grp))) := by
  rw [first_rest, ← sumIf_all, sumIf_restr, sumIf_restr, sumIf_restr]
  have h := sumIf_or (Q := fun p => hd remain (kept remain p) == none) (R := fun p => !(kept remain p).isEmpty) gs (fun g _ => by
    unfold hd; rw [kept_kept]; cases kept remain g.p <;> simp)
  have h2 : sumIf (fun p => (hd remain (kept remain p) == none) || !(kept remain p).isEmpty) gs = sumIf (fun _ => true) gs := sumIf_congr fun g _ => by
    unfold hd; rw [kept_kept]; cases kept remain g.p <;> simp
  omega
/-- Of two candidates. -/
def two (n : Nat) (a b : Nat) : List Bool := ((List.replicate n false).set a true).set b true
theorem two_len (n a b : Nat) : (two n a b).length = n := by simp [two]
theorem inB_two {n a b : Nat} (ha : a < n) (hb : b < n) (x : Int) : inB (two n a b) x = decide (x = (a : Int) ∨ x = (b : Int)) := by
  unfold inB two
  by_cases hx : 0 ≤ x
  · rw [decide_eq_true hx, Bool.true_and]
    by_cases hxb : x.toNat = b
    · rw [List.getD_eq_getElem?_getD, hxb, List.getElem?_set_self (by simpa using hb)]
      simp; omega
    · rw [List.getD_eq_getElem?_getD, List.getElem?_set_ne (Ne.symm hxb)]
      by_cases hxa : x.toNat = a
      · rw [hxa, List.getElem?_set_self (by simpa using ha)]
        simp; omega
      · rw [List.getElem?_set_ne (Ne.symm hxa)]
        have : ¬ (x = (a : Int) ∨ x = (b : Int)) := by omega
        simp only [this, decide_false]
        by_cases hl : x.toNat < n
        · simp [hl]
        · simp [hl]
  · have : ¬ (x = (a : Int) ∨ x = (b : Int)) := by omega
    simp [hx, this]
theorem hd_two {n a b : Nat} (ha : a < n) (hb : b < n) (hab : a ≠ b) (p : List Int) : (hd (two n a b) p == some (a : Int)) = pref p a b ∧ (hd (two n a b) p == some (b : Int)) = pref p b a := by
  induction p with
  | nil => simp [hd, kept, pref]
  | cons x p ih =>
    have hx := inB_two ha hb x
    unfold hd kept at ih ⊢
    by_cases h1 : x = (a : Int)
    · rw [List.filter_cons_of_pos (by rw [hx]; simp [h1])]
      have h2 : ¬ (x = (b : Int)) := by omega
      simp only [List.head?_cons, pref, List.idxOf_cons]
      subst h1
      have e1 : ((a : Int) == (b : Int)) = false := by rw [beq_eq_false_iff_ne]; omega
      constructor
      · simp [e1]
      · simp [e1]; try exact fun h => h2 h
    · by_cases h2 : x = (b : Int)
      · rw [List.filter_cons_of_pos (by rw [hx]; simp [h2])]
        simp only [List.head?_cons, pref, List.idxOf_cons]
        subst h2
        have e1 : ((b : Int) == (a : Int)) = false := by rw [beq_eq_false_iff_ne]; omega
        constructor
        · simp [e1]; try exact fun h => h1 h
        · simp [e1]
      · rw [List.filter_cons_of_neg (by rw [hx]; simp [h1, h2])]
        rw [ih.1, ih.2]
        unfold pref
        have b1 : (x == (a : Int)) = false := by rw [beq_eq_false_iff_ne]; exact h1
        have b2 : (x == (b : Int)) = false := by rw [beq_eq_false_iff_ne]; exact h2
        simp [List.idxOf_cons, b1, b2]
/-! Replacing ballots. -/
theorem num_ones (l : List (List Int)) (q : List Int) : num (pileOf (ones l)) q = (l.count q : Int) := by
  have := num_fold (ones l) q [] (by simp [Srt])
  unfold pileOf
  rw [this]
  have : ∀ l : List (List Int), (((ones l).filter fun g => decide (g.p = q)).map (·.n)).sum = (l.count q : Int) := by
    intro l
    induction l with
    | nil => rfl
    | cons x l ih =>
      show (((⟨x, 1⟩ :: ones l : List Grp).filter fun g => decide (g.p = q)).map (·.n)).sum = _
      by_cases h : x = q
      · rw [List.filter_cons_of_pos (by simpa using h), List.map_cons, List.sum_cons, ih, List.count_cons]
        simp [h]; omega
      · rw [List.filter_cons_of_neg (by simpa using h), ih, List.count_cons]
        simp [h]
  rw [this]; simp [num]
theorem count_set (l : List (List Int)) (i : Nat) (b q : List Int) : (l.count q : Int) - (if l[i]? = some q then 1 else 0) ≤ ((l.set i b).count q : Int) := by
  induction l generalizing i with
  | nil => simp
  | cons x l ih =>
    cases i with
    | zero =>
      simp only [List.set_cons_zero, List.count_cons, List.getElem?_cons_zero, Option.some.injEq]
      by_cases h : x = q <;> by_cases h2 : b = q <;> simp [h, h2] <;> omega
    | succ i =>
      simp only [List.set_cons_succ, List.count_cons, List.getElem?_cons_succ]
      have := ih i
      omega
theorem com_step (l : List (List Int)) (i : Nat) (b : List Int) : (l.length : Int) - 1 ≤ com (pileOf (ones l)) (pileOf (ones (l.set i b))) := by
  have p1 := pileOf_pos (ones_pos l)
  have p2 := pileOf_pos (ones_pos (l.set i b))
  have s1 := pileOf_srt (ones_pos l)
  have s2 := pileOf_srt (ones_pos (l.set i b))
  rw [com_num _ _ s1 s2 p2 p1]
  have ht : tot (pileOf (ones l)) = (l.length : Int) := by rw [pileOf_tot (ones_pos l), ones_tot]
  rw [← ht]
  have hnum : ∀ g ∈ pileOf (ones l), g.n - (if l[i]? = some g.p then 1 else 0) ≤ min g.n (num (pileOf (ones (l.set i b))) g.p) := fun g hg => by
    have h1 := num_self s1 g hg
    rw [num_ones] at h1
    rw [num_ones]
    have := count_set l i b g.p
    have h3 := p1 g hg
    by_cases hh : l[i]? = some g.p
    · rw [if_pos hh] at this ⊢; omega
    · rw [if_neg hh] at this ⊢; omega
  have key : ∀ m : List Grp, (m.map (·.p)).Nodup → (∀ g ∈ m, g.n - (if l[i]? = some g.p then 1 else 0) ≤ min g.n (num (pileOf (ones (l.set i b))) g.p)) → tot m - (if ∃ g ∈ m, l[i]? = some g.p then 1 else 0) ≤ (m.map fun g => min g.n (num (pileOf (ones (l.set i b))) g.p)).sum := by
    intro m
    induction m with
    | nil => intro _ _; simp [tot]
    | cons g m ih =>
      intro hn hm
      rw [List.map_cons, List.nodup_cons] at hn
      have i1 := ih hn.2 fun x hx => hm x (by simp [hx])
      have i2 := hm g (by simp)
      rw [tot_cons, List.map_cons, List.sum_cons]
      by_cases h : l[i]? = some g.p
      · rw [if_pos h] at i2
        rw [if_pos ⟨g, by simp, h⟩]
        rw [if_neg (fun ⟨x, hx, e⟩ => hn.1 (by
          rw [h] at e
          have e : g.p = x.p := Option.some.inj e
          rw [e]; exact List.mem_map_of_mem hx))] at i1
        omega
      · rw [if_neg h] at i2
        have he : (∃ x ∈ g :: m, l[i]? = some x.p) ↔ ∃ x ∈ m, l[i]? = some x.p := by
          constructor
          · rintro ⟨x, hx, e⟩
            rcases List.mem_cons.1 hx with rfl | hx
            · exact absurd e h
            · exact ⟨x, hx, e⟩
          · rintro ⟨x, hx, e⟩; exact ⟨x, by simp [hx], e⟩
        simp only [he]
        omega
  have := key _ (srt_nodup s1) hnum
  split at this <;> omega
/-- Distances of piles of as many ballots. -/
theorem dist_step (x l : List (List Int)) (i : Nat) (b : List Int) : (x.length : Int) - com (pileOf (ones x)) (pileOf (ones (l.set i b))) ≤ (x.length : Int) - com (pileOf (ones x)) (pileOf (ones l)) + 1 := by
  have h1 := com_tri (pileOf (ones x)) (pileOf (ones l)) (pileOf (ones (l.set i b))) (pileOf_srt (ones_pos _)) (pileOf_srt (ones_pos _)) (pileOf_srt (ones_pos _)) (pileOf_pos (ones_pos _)) (pileOf_pos (ones_pos _)) (pileOf_pos (ones_pos _))
  have h2 := com_step l i b
  rw [pileOf_tot (ones_pos l), ones_tot] at h1
  omega
/-! The ballots of a pile. -/
def expand (gs : List Grp) : List (List Int) := gs.flatMap fun g => List.replicate g.n.toNat g.p
theorem expand_len (gs : List Grp) (h : ∀ g ∈ gs, 1 ≤ g.n) : ((expand gs).length : Int) = tot gs := by
  induction gs with
  | nil => rfl
  | cons g r ih =>
    have h1 := h g (by simp)
    show ((List.replicate g.n.toNat g.p ++ expand r).length : Int) = _
    rw [List.length_append, List.length_replicate, tot_cons, ← ih fun x hx => h x (by simp [hx])]
    omega
theorem add_many (s : List Grp) (p : List Int) (k : Nat) (hs : ∀ g ∈ s, lt g.p p = true) : (List.replicate (k + 1) (⟨p, 1⟩ : Grp)).foldl (fun a g => addG a g.p g.n) s = s ++ [⟨p, (k : Int) + 1⟩] := by
  have h0 : ∀ (s : List Grp) (m : Int), (∀ g ∈ s, lt g.p p = true) → addG (s ++ [⟨p, m⟩]) p 1 = s ++ [⟨p, m + 1⟩] := by
    intro s m
    induction s with
    | nil => intro _; simp [addG, lt_irrefl]
    | cons g r ih => intro h; simp only [List.cons_append, addG]; rw [if_pos (h g (by simp)), ih fun x hx => h x (by simp [hx])]
  have h1 : ∀ s : List Grp, (∀ g ∈ s, lt g.p p = true) → addG s p 1 = s ++ [⟨p, 1⟩] := by
    intro s
    induction s with
    | nil => intro _; rfl
    | cons g r ih => intro h; simp only [addG]; rw [if_pos (h g (by simp)), ih fun x hx => h x (by simp [hx])]; rfl
  induction k with
  | zero => simp only [Nat.zero_add, List.replicate_succ, List.replicate_zero, List.foldl_cons, List.foldl_nil]; rw [h1 s hs]; rfl
  | succ k ih =>
    rw [List.replicate_succ', List.foldl_append, ih]
    simp only [List.foldl_cons, List.foldl_nil]
    rw [h0 s _ hs]
    congr 2
theorem expand_back (gs : List Grp) (hs : Srt gs) (hp : ∀ g ∈ gs, 1 ≤ g.n) : pileOf (ones (expand gs)) = gs := by
  have : ∀ (gs s : List Grp), Srt gs → (∀ g ∈ gs, 1 ≤ g.n) → (∀ x ∈ s, ∀ g ∈ gs, lt x.p g.p = true) → (ones (expand gs)).foldl (fun a g => addG a g.p g.n) s = s ++ gs := by
    intro gs
    induction gs with
    | nil => intro s _ _ _; simp [expand, ones]
    | cons g r ih =>
      intro s h1 h2 h3
      obtain ⟨h4, h5⟩ := List.pairwise_cons.1 h1
      have hg := h2 g (by simp)
      obtain ⟨k, hk⟩ : ∃ k : Nat, g.n = (k : Int) + 1 := ⟨(g.n - 1).toNat, by omega⟩
      have e : ones (expand (g :: r)) = List.replicate (k + 1) (⟨g.p, 1⟩ : Grp) ++ ones (expand r) := by
        show ones (List.replicate g.n.toNat g.p ++ expand r) = _
        unfold ones
        rw [List.map_append, List.map_replicate, show g.n.toNat = k + 1 by omega]
      rw [e, List.foldl_append, add_many s g.p k fun x hx => h3 x hx g (by simp)]
      have hg' : (⟨g.p, (k : Int) + 1⟩ : Grp) = g := by rw [← hk]
      rw [hg', ih (s ++ [g]) h5 (fun x hx => h2 x (by simp [hx])) fun x hx y hy => by
        rcases List.mem_append.1 hx with hx | hx
        · exact h3 x hx y (by simp [hy])
        · obtain rfl : x = g := by simpa using hx
          exact h4 y hy]
      simp
  have := this gs [] hs hp (by simp)
  simpa [pileOf] using this
theorem expand_sorted (gs : List Grp) (hs : Srt gs) : (expand gs).Pairwise fun a b => lt b a = false := by
  induction gs with
  | nil => simp [expand]
  | cons g r ih =>
    obtain ⟨h1, h2⟩ := List.pairwise_cons.1 hs
    show (List.replicate g.n.toNat g.p ++ expand r).Pairwise _
    rw [List.pairwise_append]
    refine ⟨?_, ih h2, fun a ha b hb => ?_⟩
    · rw [List.pairwise_replicate]; exact .inr (lt_irrefl _)
    · obtain rfl := List.eq_of_mem_replicate ha
      obtain ⟨x, hx, hb⟩ := List.mem_flatMap.1 hb
      obtain rfl := List.eq_of_mem_replicate hb
      exact lt_asymm (h1 x hx)
end Go.Pil
