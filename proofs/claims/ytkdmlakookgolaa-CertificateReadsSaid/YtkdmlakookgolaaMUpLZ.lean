/- Upper's plain law: the least over the pairs that are reached. -/
import Derived.Test.YtkdmlakookgolaaPossZ
namespace Go.Mg
open Go.Pil
/-- b is the least number of P (all at least 0); -1: there is none. -/
def MnS (b : Int) (P : Int → Prop) : Prop := (b = -1 ∧ ∀ x, ¬ P x) ∨ (0 ≤ b ∧ P b ∧ ∀ x, P x → b ≤ x)
theorem mns_unique {a b : Int} {P : Int → Prop} (ha : MnS a P) (hb : MnS b P) : a = b := by
  rcases ha with ⟨rfl, h1⟩ | ⟨_, h2, h3⟩
  · rcases hb with ⟨rfl, _⟩ | ⟨_, h, _⟩
    · rfl
    · exact absurd h (h1 _)
  · rcases hb with ⟨rfl, h⟩ | ⟨_, h4, h5⟩
    · exact absurd h2 (h _)
    · have := h3 _ h4; have := h5 _ h2; omega
theorem mns_congr {b : Int} {P Q : Int → Prop} (h : MnS b P) (hq : ∀ x, Q x ↔ P x) : MnS b Q := by
  (have : P = Q := funext fun x => propext (hq x).symm); (exact this ▸ h)
theorem mns_step {b m : Int} {P Q : Int → Prop} (h : MnS b P) (hm : 0 ≤ m) (hq : ∀ x, Q x ↔ P x ∨ x = m) : MnS (mnStep b m) Q := by
  unfold mnStep
  rcases h with ⟨rfl, h1⟩ | ⟨h0, h2, h3⟩
  · rw [if_pos (by omega)]
    exact .inr ⟨hm, (hq m).2 (.inr rfl), fun x hx => by
      rcases (hq x).1 hx with h | h
      · exact absurd h (h1 x)
      · omega⟩
  · by_cases hmb : m < b
    · rw [if_pos (.inr hmb)]
      exact .inr ⟨hm, (hq m).2 (.inr rfl), fun x hx => by
        rcases (hq x).1 hx with h | h
        · have := h3 x h; omega
        · omega⟩
    · rw [if_neg (by omega)]
      exact .inr ⟨h0, (hq b).2 (.inl h2), fun x hx => by
        rcases (hq x).1 hx with h | h
        · exact h3 x h
        · omega⟩
theorem mn_spec (l : List Int) (h : ∀ x ∈ l, 0 ≤ x) : MnS (mn l) (· ∈ l) := by
  have : ∀ (r : List Int), (∀ x ∈ r, 0 ≤ x) → MnS (mn r.reverse) (· ∈ r.reverse) := by
    intro r
    induction r with
    | nil => intro _; exact .inl ⟨rfl, by simp⟩
    | cons a r ih =>
      (intro h); (rw [List.reverse_cons, mn_snoc]); (refine mns_step (ih fun x hx => h x (List.mem_cons_of_mem _ hx)) (h a List.mem_cons_self) fun x => ?_)
      simp
  have := this l.reverse (by simpa using h)
  rwa [List.reverse_reverse] at this
def pairV (n : Nat) (gs : List Grp) (w r : Nat) : Int := half (vt n gs [(r : Int), (w : Int)] (w : Int) - vt n gs [(r : Int), (w : Int)] (r : Int))
/-- What it takes to pull level in the pairs behind s. -/
def PrP (n : Nat) (gs : List Grp) (w s : Nat) (x : Int) : Prop := ∃ r, r < n ∧ r ≠ w ∧ Rc 2 n gs (2 ^ r + 2 ^ w) ∧ s < 2 ^ r + 2 ^ w ∧ x = pairV n gs w r
open Classical in
theorem upV_of {n : Nat} {gs : List Grp} {w : Nat} {b : Int} (h : ¬ ∃ r, r < n ∧ r ≠ w ∧ Rc 2 n gs (2 ^ r)) (hb : MnS b (PrP n gs w 0)) : upV n gs w = b := by
  (unfold upV); (rw [if_neg h]); (refine mns_unique (mn_spec _ fun x hx => ?_) (mns_congr hb fun x => ?_))
  · (unfold upL at hx); (obtain ⟨r, _, rfl⟩ := List.mem_map.1 hx); (exact half_nonneg _)
  · (unfold upL); (rw [List.mem_map])
    constructor
    · (rintro ⟨r, hr, rfl⟩); (obtain ⟨h1, h2⟩ := List.mem_filter.1 hr); (obtain ⟨h3, h4⟩ := of_decide_eq_true h2); (exact ⟨r, List.mem_range.1 h1, h3, h4, by have := Nat.two_pow_pos r; have := Nat.two_pow_pos w; omega, rfl⟩)
    · (rintro ⟨r, h1, h2, h3, _, rfl⟩); (exact ⟨r, List.mem_filter.2 ⟨List.mem_range.2 h1, decide_eq_true ⟨h2, h3⟩⟩, rfl⟩)
theorem pair_a : ∀ n ≤ 7, ∀ r < n, ∀ w < n, r ≠ w → (sl n (2 ^ r + 2 ^ w)).length = 2 := by decide +kernel
theorem pair_b : ∀ r < 7, ∀ w < 7, r ≠ w → (2 ^ r + 2 ^ w).testBit w = true := by decide +kernel
theorem pair_c : ∀ n ≤ 7, ∀ r < n, ∀ w < n, r ≠ w → sl n (2 ^ r + 2 ^ w) = [((min r w : Nat) : Int), ((max r w : Nat) : Int)] := by decide +kernel
theorem pair_sl {n : Nat} (hn : n ≤ 7) {r w : Nat} (hr : r < n) (hw : w < n) (h : r ≠ w) : 2 ^ r + 2 ^ w < 2 ^ n ∧ (sl n (2 ^ r + 2 ^ w)).length = 2 ∧ (2 ^ r + 2 ^ w).testBit w = true ∧ (2 ^ r + 2 ^ w).testBit r = true ∧ sl n (2 ^ r + 2 ^ w) = [((min r w : Nat) : Int), ((max r w : Nat) : Int)] :=
  ⟨two_pow_lt n hn r hr w hw h, pair_a n hn r hr w hw h, pair_b r (by omega) w (by omega) h, by rw [Nat.add_comm]; exact pair_b w (by omega) r (by omega) (Ne.symm h), pair_c n hn r hr w hw h⟩
theorem pair_ofB : ∀ n ≤ 7, ∀ s < 2 ^ n, (sl n s).length = 2 → ∀ w < n, s.testBit w = true → ((List.range n).any fun r => decide (r ≠ w) && decide (s = 2 ^ r + 2 ^ w)) = true := by decide +kernel
theorem pair_of {n : Nat} (hn : n ≤ 7) {s : Nat} (hs : s < 2 ^ n) (h2 : (sl n s).length = 2) {w : Nat} (hw : w < n) (hb : s.testBit w = true) : ∃ r, r < n ∧ r ≠ w ∧ s = 2 ^ r + 2 ^ w := by
  (obtain ⟨r, hr, h⟩ := List.any_eq_true.1 (pair_ofB n hn s hs h2 w hw hb)); (rw [Bool.and_eq_true] at h); (exact ⟨r, List.mem_range.1 hr, of_decide_eq_true h.1, of_decide_eq_true h.2⟩)
theorem sl_sub : ∀ n ≤ 7, ∀ u < 2 ^ n, ∀ c < n, u.testBit c = true → (sl n (u - 2 ^ c)).length + 1 = (sl n u).length := by decide +kernel
theorem pow_inj : ∀ r < 7, ∀ t < 7, 2 ^ r = 2 ^ t → r = t := by decide +kernel
theorem rc_size {k n : Nat} {gs : List Grp} (hn : n ≤ 7) (hkn : k ≤ n + 1) {t : Nat} (h : Rc k n gs t) : k ≤ (sl n t).length + 1 := by
  induction h with
  | full => rw [sl_full hn]; simp [allC]; omega
  | step h1 h2 h3 ih =>
    rename_i u c
    (have hl := low_sub hn h1.lt h3); (have := sl_sub n hn u h1.lt c.toNat (by omega) hl.2.2.2)
    omega
theorem rc23 {n : Nat} {gs : List Grp} (hn : n ≤ 7) {t : Nat} (ht : 2 ≤ (sl n t).length) : Rc 3 n gs t ↔ Rc 2 n gs t := by
  constructor
  · exact rc_down (by decide)
  · intro h
    induction h with
    | full => exact .full
    | step h1 h2 h3 ih =>
      rename_i u c
      (have hl := low_sub hn h1.lt h3); (have := sl_sub n hn u h1.lt c.toNat (by omega) hl.2.2.2); (exact .step (ih (by omega)) (by omega) h3)
theorem rc_single {n : Nat} {gs : List Grp} (hn : n ≤ 7) : ∀ s, 1 ≤ s → Rc 2 n gs s → ∃ c, c < n ∧ Rc 2 n gs (2 ^ c) := by
  intro s
  induction s using Nat.strongRecOn with
  | ind s ih =>
    (intro h1 hr); (have hp := sl_pos n hn s hr.lt h1)
    by_cases h2 : 2 ≤ (sl n s).length
    · (obtain ⟨c, hc⟩ := low_exists gs (n := n) (s := s) (by intro e; rw [e] at h2; simp at h2)); (have hl := low_sub hn hr.lt hc); (have hs := sl_sub n hn s hr.lt c.toNat (by omega) hl.2.2.2); (refine ih (s - 2 ^ c.toNat) hl.2.1 ?_ (.step hr h2 hc))
      rcases Nat.eq_zero_or_pos (s - 2 ^ c.toNat) with h | h
      · (rw [h] at hs); (have : (sl n 0).length = 0 := by simp [sl])
        omega
      · exact h
    · (obtain ⟨c, hc⟩ := List.exists_mem_of_length_pos (show 0 < (sl n s).length by omega)); (obtain ⟨⟨c0, cn⟩, cb⟩ := mem_sl.1 hc); (have e := single n hn s hr.lt c.toNat (by omega) cb (by omega)); (exact ⟨c.toNat, by omega, e ▸ hr⟩)
theorem posC_only {n : Nat} {gs : List Grp} {w : Nat} (hw : Rc 2 n gs (2 ^ w)) : ∀ k, (∀ r, r < k → r ≠ w → ¬ Rc 2 n gs (2 ^ r)) → posC n gs k = if w < k then [(w : Int)] else []
  | 0, _ => by simp [posC]
  | k + 1, h => by
    have ih := posC_only hw k fun r hr => h r (by omega)
    by_cases hk : k = w
    · (subst hk); (rw [posC_more hw, ih, if_neg (by omega), if_pos (by omega)]; rfl)
    · rw [posC_skip (h k (by omega) hk), ih]
      by_cases hwk : w < k
      · rw [if_pos hwk, if_pos (by omega)]
      · rw [if_neg hwk, if_neg (by omega)]
open Classical in
theorem mem_posC {n : Nat} {gs : List Grp} {k : Nat} {x : Int} : x ∈ posC n gs k ↔ ∃ c : Nat, c < k ∧ Rc 2 n gs (2 ^ c) ∧ x = (c : Int) := by
  (unfold posC); (rw [List.mem_map])
  constructor
  · (rintro ⟨c, hc, rfl⟩); (obtain ⟨h1, h2⟩ := List.mem_filter.1 hc); (exact ⟨c, List.mem_range.1 h1, of_decide_eq_true h2, rfl⟩)
  · (rintro ⟨c, h1, h2, rfl⟩); (exact ⟨c, List.mem_filter.2 ⟨List.mem_range.2 h1, decide_eq_true h2⟩, rfl⟩)
/-- w is the only one who can win exactly if nobody else can. -/
theorem pos_only {n : Nat} {gs : List Grp} {w : Nat} (hn : n ≤ 7) (hw : w < n) : posC n gs n = [(w : Int)] ↔ ¬ ∃ r, r < n ∧ r ≠ w ∧ Rc 2 n gs (2 ^ r) := by
  constructor
  · (rintro h ⟨r, h1, h2, h3⟩); (have : (r : Int) ∈ posC n gs n := mem_posC.2 ⟨r, h1, h3, rfl⟩); (rw [h] at this); (have := List.mem_singleton.1 this)
    omega
  · (intro h); (obtain ⟨c, hc, hr⟩ := rc_single hn (gs := gs) (2 ^ n - 1) (by have : 2 ^ 1 ≤ 2 ^ n := Nat.pow_le_pow_right (by decide) (by omega); omega) .full)
    have hcw : c = w := by
      apply Classical.byContradiction
      intro e; exact h ⟨c, hc, e, hr⟩
    (subst hcw); (rw [posC_only hr n fun r h1 h2 h3 => h ⟨r, h1, h2, h3⟩, if_pos hw])
theorem prp_skip {n : Nat} {gs : List Grp} {w s : Nat} (hn : n ≤ 7) (hw : w < n) (hs : 1 ≤ s) (h : ¬ (Rc 2 n gs s ∧ (sl n s).length = 2 ∧ s.testBit w = true)) (x : Int) : PrP n gs w (s - 1) x ↔ PrP n gs w s x := by
  constructor
  · (rintro ⟨r, h1, h2, h3, h4, h5⟩); (refine ⟨r, h1, h2, h3, ?_, h5⟩)
    rcases Nat.lt_or_ge s (2 ^ r + 2 ^ w) with hl | hl
    · exact hl
    · (have e : s = 2 ^ r + 2 ^ w := by omega); (have hp := pair_sl hn h1 hw h2); (rw [← e] at hp h3); (exact absurd ⟨h3, hp.2.1, hp.2.2.1⟩ h)
  · (rintro ⟨r, h1, h2, h3, h4, h5⟩); (exact ⟨r, h1, h2, h3, by omega, h5⟩)
theorem prp_more {n : Nat} {gs : List Grp} {w r : Nat} (hn : n ≤ 7) (hr : r < n) (hne : r ≠ w) (h : Rc 2 n gs (2 ^ r + 2 ^ w)) (x : Int) : PrP n gs w (2 ^ r + 2 ^ w - 1) x ↔ PrP n gs w (2 ^ r + 2 ^ w) x ∨ x = pairV n gs w r := by
  constructor
  · rintro ⟨t, h1, h2, h3, h4, h5⟩
    by_cases e : t = r
    · subst e; exact .inr h5
    · (refine .inl ⟨t, h1, h2, h3, ?_, h5⟩); (have h6 : 2 ^ t ≠ 2 ^ r := fun h => e (pow_inj t (by omega) r (by omega) h)); (have := Nat.two_pow_pos w); (generalize 2 ^ t = a at *); (generalize 2 ^ r = b at *); (generalize 2 ^ w = c at *)
      omega
  · rintro (⟨t, h1, h2, h3, h4, h5⟩ | h5)
    · exact ⟨t, h1, h2, h3, Nat.lt_of_le_of_lt (Nat.sub_le _ _) h4, h5⟩
    · exact ⟨r, hr, hne, h, by have := Nat.two_pow_pos r; have := Nat.two_pow_pos w; omega, h5⟩
theorem vt_pair {n : Nat} (hn : n ≤ 7) (gs : List Grp) {r w : Nat} (hr : r < n) (hw : w < n) (hne : r ≠ w) (c : Int) : vt n gs (sl n (2 ^ r + 2 ^ w)) c = vt n gs [(r : Int), (w : Int)] c := by
  (unfold vt); (rw [flags_congr (l := sl n (2 ^ r + 2 ^ w)) (m := [(r : Int), (w : Int)]) fun x _ _ => ?_]); (rw [(pair_sl hn hr hw hne).2.2.2.2])
  rcases Nat.lt_or_ge r w with h | h
  · rw [Nat.min_eq_left (by omega), Nat.max_eq_right (by omega)]
  · (rw [Nat.min_eq_right (by omega), Nat.max_eq_left (by omega)]); (simp only [List.mem_cons, List.not_mem_nil, or_false]); (exact Or.comm)
/-- The first of the set's candidates. -/
def slK (s k : Nat) : List Int := (allC k).filter fun c => s.testBit c.toNat
theorem slK_all (n s : Nat) : slK s n = sl n s := rfl
theorem slK_skip {s k : Nat} (h : s.testBit k = false) : slK s (k + 1) = slK s k := by unfold slK; rw [allC_succ, List.filter_append]; simp [h]
theorem slK_more {s k : Nat} (h : s.testBit k = true) : slK s (k + 1) = slK s k ++ [(k : Int)] := by unfold slK; rw [allC_succ, List.filter_append]; simp [h]
theorem slK_le (s k : Nat) : (slK s k).length ≤ k := Nat.le_trans (List.length_filter_le _ _) (by simp [allC])
end Go.Mg
