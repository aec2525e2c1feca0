/- Upper's plain law: the least over the pairs that are reached. -/
import Derived.Test.YtaobaaaihgahfaaGreatPossY
import Derived.Test.YtaobaaaihgahfaaGreatSrchY
namespace Go.Mg
open Go.Pil
/-- b is the least number of P (all at least 0); -1: there is none. -/
def MnS (b : Int) (P : Int → Prop) : Prop := (b = -1 ∧ ∀ x, ¬ P x) ∨ (0 ≤ b ∧ P b ∧ ∀ x, P x → b ≤ x)
theorem mns_unique {a b : Int} {P : Int → Prop} (ha : MnS a P) (hb : MnS b P) : a = b := by
  rcases ha with ⟨rfl, h1⟩ | ⟨_, h2, h3⟩
  · rcases hb with ⟨rfl, _⟩ | ⟨_, h, _⟩
    · rfl
    · exact absurd h (h1 _)
  · rcases hb with ⟨rfl, h⟩ | ⟨_, h4, h5⟩
    · exact absurd h2 (h _)
    · have := h3 _ h4; have := h5 _ h2; omega
theorem mns_congr {b : Int} {P Q : Int → Prop} (h : MnS b P) (hq : ∀ x, Q x ↔ P x) : MnS b Q := by
  (have : P = Q := funext fun x => propext (hq x).symm); (exact this ▸ h)
theorem mns_step {b m : Int} {P Q : Int → Prop} (h : MnS b P) (hm : 0 ≤ m) (hq : ∀ x, Q x ↔ P x ∨ x = m) : MnS (mnStep b m) Q := by
  unfold mnStep
  rcases h with ⟨rfl, h1⟩ | ⟨h0, h2, h3⟩
  · rw [if_pos (by omega)]
    exact .inr ⟨hm, (hq m).2 (.inr rfl), fun x hx => by
      rcases (hq x).1 hx with h | h
      · exact absurd h (h1 x)
      · omega⟩
  · by_cases hmb : m < b
    · rw [if_pos (.inr hmb)]
      exact .inr ⟨hm, (hq m).2 (.inr rfl), fun x hx => by
        rcases (hq x).1 hx with h | h
        · have := h3 x h; omega
        · omega⟩
    · rw [if_neg (by omega)]
      exact .inr ⟨h0, (hq b).2 (.inl h2), fun x hx => by
        rcases (hq x).1 hx with h | h
        · exact h3 x h
        · omega⟩
theorem mn_spec (l : List Int) (h : ∀ x ∈ l, 0 ≤ x) : MnS (mn l) (· ∈ l) := by
  have : ∀ (r : List Int), (∀ x ∈ r, 0 ≤ x) → MnS (mn r.reverse) (· ∈ r.reverse) := by
    intro r
    induction r with
    | nil => intro _; exact .inl ⟨rfl, by simp⟩
    | cons a r ih =>
      (intro h); (rw [List.reverse_cons, mn_snoc]); (refine mns_step (ih fun x hx => h x (List.mem_cons_of_mem _ hx)) (h a List.mem_cons_self) fun x => ?_)
      simp
  have := this l.reverse (by simpa using h)
  rwa [List.reverse_reverse] at this
def pairV (n : Nat) (gs : List Grp) (w r : Nat) : Int := half (vt n gs [(r : Int), (w : Int)] (w : Int) - vt n gs [(r : Int), (w : Int)] (r : Int))
/-- What it takes to pull level in the pairs behind s. -/
def PrP (n : Nat) (gs : List Grp) (w s : Nat) (x : Int) : Prop := ∃ r, r < n ∧ r ≠ w ∧ Rc 2 n gs (2 ^ r + 2 ^ w) ∧ s < 2 ^ r + 2 ^ w ∧ x = pairV n gs w r
open Classical in
theorem upV_of {n : Nat} {gs : List Grp} {w : Nat} {b : Int} (h : ¬ ∃ r, r < n ∧ r ≠ w ∧ Rc 2 n gs (2 ^ r)) (hb : MnS b (PrP n gs w 0)) : upV n gs w = b := by
  (unfold upV); (rw [if_neg h]); (refine mns_unique (mn_spec _ fun x hx => ?_) (mns_congr hb fun x => ?_))
  · (unfold upL at hx); (obtain ⟨r, _, rfl⟩ := List.mem_map.1 hx); (exact half_nonneg _)
  · (unfold upL); (rw [List.mem_map])
    constructor
    · (rintro ⟨r, hr, rfl⟩); (obtain ⟨h1, h2⟩ := List.mem_filter.1 hr); (obtain ⟨h3, h4⟩ := of_decide_eq_true h2); (exact ⟨r, List.mem_range.1 h1, h3, h4, by have := Nat.two_pow_pos r; have := Nat.two_pow_pos w; omega, rfl⟩)
    · (rintro ⟨r, h1, h2, h3, _, rfl⟩); (exact ⟨r, List.mem_filter.2 ⟨List.mem_range.2 h1, decide_eq_true ⟨h2, h3⟩⟩, rfl⟩)
theorem pair_a : ∀ n ≤ 7, ∀ r < n, ∀ w < n, r ≠ w → (sl n (2 ^ r + 2 ^ w)).length = 2 := by decide +kernel
theorem pair_b : ∀ r < 7, ∀ w < 7, r ≠ w → (2 ^ r + 2 ^ w).testBit w = true := by decide +kernel
theorem pair_c : ∀ n ≤ 7, ∀ r < n, ∀ w < n, r ≠ w → sl n (2 ^ r + 2 ^ w) = [((min r w : Nat) : Int), ((max r w : Nat) : Int)] := by decide +kernel
theorem pair_sl {n : Nat} (hn : n ≤ 7) {r w : Nat} (hr : r < n) (hw : w < n) (h : r ≠ w) : 2 ^ r + 2 ^ w < 2 ^ n ∧ (sl n (2 ^ r + 2 ^ w)).length = 2 ∧ (2 ^ r + 2 ^ w).testBit w = true ∧ (2 ^ r + 2 ^ w).testBit r = true ∧ sl n (2 ^ r + 2 ^ w) = [((min r w : Nat) : Int), ((max r w : Nat) : Int)] :=
  ⟨two_pow_lt n hn r hr w hw h, pair_a n hn r hr w hw h, pair_b r (by omega) w (by omega) h, by rw [Nat.add_comm]; exact pair_b w (by omega) r (by omega) (Ne.symm h), pair_c n hn r hr w hw h⟩
theorem pair_ofB : ∀ n ≤ 7, ∀ s < 2 ^ n, (sl n s).length = 2 → ∀ w < n, s.testBit w = true → ((List.range n).any fun r => decide (r ≠ w) && decide (s = 2 ^ r + 2 ^ w)) = true := by decide +kernel
theorem pair_of {n : Nat} (hn : n ≤ 7) {s : Nat} (hs : s < 2 ^ n) (h2 : (sl n s).length = 2) {w : Nat} (hw : w < n) (hb : s.testBit w = true) : ∃ r, r < n ∧ r ≠ w ∧ s = 2 ^ r + 2 ^ w := by
  (obtain ⟨r, hr, h⟩ := List.any_eq_true.1 (pair_ofB n hn s hs h2 w hw hb)); (rw [Bool.and_eq_true] at h); (exact ⟨r, List.mem_range.1 hr, of_decide_eq_true h.1, of_decide_eq_true h.2⟩)
theorem sl_sub : ∀ n ≤ 7, ∀ u < 2 ^ n, ∀ c < n, u.testBit c = true → (sl n (u - 2 ^ c)).length + 1 = (sl n u).length := by decide +kernel
theorem pow_inj : ∀ r < 7, ∀ t < 7, 2 ^ r = 2 ^ t → r = t := by decide +kernel
theorem rc_size {k n : Nat} {gs : List Grp} (hn : n ≤ 7) (hkn : k ≤ n + 1) {t : Nat} (h : Rc k n gs t) : k ≤ (sl n t).length + 1 := by
  induction h with
  | full => rw [sl_full hn]; simp [allC]; omega
  | step h1 h2 h3 ih =>
    rename_i u c
    (have hl := low_sub hn h1.lt h3); (have := sl_sub n hn u h1.lt c.toNat (by omega) hl.2.2.2)
    omega
theorem rc23 {n : Nat} {gs : List Grp} (hn : n ≤ 7) {t : Nat} (ht : 2 ≤ (sl n t).length) : Rc 3 n gs t ↔ Rc 2 n gs t := by
  constructor
  · exact rc_down (by decide)
  · intro h
    induction h with
    | full => exact .full
    | step h1 h2 h3 ih =>
      rename_i u c
      (have hl := low_sub hn h1.lt h3); (have := sl_sub n hn u h1.lt c.toNat (by omega) hl.2.2.2); (exact .step (ih (by omega)) (by omega) h3)
theorem rc_single {n : Nat} {gs : List Grp} (hn : n ≤ 7) : ∀ s, 1 ≤ s → Rc 2 n gs s → ∃ c, c < n ∧ Rc 2 n gs (2 ^ c) := by
  intro s
  induction s using Nat.strongRecOn with
  | ind s ih =>
    (intro h1 hr); (have hp := sl_pos n hn s hr.lt h1)
    by_cases h2 : 2 ≤ (sl n s).length
    · (obtain ⟨c, hc⟩ := low_exists gs (n := n) (s := s) (by intro e; rw [e] at h2; simp at h2)); (have hl := low_sub hn hr.lt hc); (have hs := sl_sub n hn s hr.lt c.toNat (by omega) hl.2.2.2); (refine ih (s - 2 ^ c.toNat) hl.2.1 ?_ (.step hr h2 hc))
      rcases Nat.eq_zero_or_pos (s - 2 ^ c.toNat) with h | h
      · (rw [h] at hs); (have : (sl n 0).length = 0 := by simp [sl])
        omega
      · exact h
    · (obtain ⟨c, hc⟩ := List.exists_mem_of_length_pos (show 0 < (sl n s).length by omega)); (obtain ⟨⟨c0, cn⟩, cb⟩ := mem_sl.1 hc); (have e := single n hn s hr.lt c.toNat (by omega) cb (by omega)); (exact ⟨c.toNat, by omega, e ▸ hr⟩)
theorem posC_only {n : Nat} {gs : List Grp} {w : Nat} (hw : Rc 2 n gs (2 ^ w)) : ∀ k, (∀ r, r < k → r ≠ w → ¬ Rc 2 n gs (2 ^ r)) → posC n gs k = if w < k then [(w : Int)] else []
  | 0, _ => by simp [posC]
  | k + 1, h => by
    have ih := posC_only hw k fun r hr => h r (by omega)
    by_cases hk : k = w
    · (subst hk); (rw [posC_more hw, ih, if_neg (by omega), if_pos (by omega)]; rfl)
    · rw [posC_skip (h k (by omega) hk), ih]
      by_cases hwk : w < k
      · rw [if_pos hwk, if_pos (by omega)]
      · rw [if_neg hwk, if_neg (by omega)]
open Classical in
theorem mem_posC {n : Nat} {gs : List Grp} {k : Nat} {x : Int} : x ∈ posC n gs k ↔ ∃ c : Nat, c < k ∧ Rc 2 n gs (2 ^ c) ∧ x = (c : Int) := by
  (unfold posC); (rw [List.mem_map])
  constructor
  · (rintro ⟨c, hc, rfl⟩); (obtain ⟨h1, h2⟩ := List.mem_filter.1 hc); (exact ⟨c, List.mem_range.1 h1, of_decide_eq_true h2, rfl⟩)
  · (rintro ⟨c, h1, h2, rfl⟩); (exact ⟨c, List.mem_filter.2 ⟨List.mem_range.2 h1, decide_eq_true h2⟩, rfl⟩)
/-- w is the only one who can win exactly if nobody else can. -/
theorem pos_only {n : Nat} {gs : List Grp} {w : Nat} (hn : n ≤ 7) (hw : w < n) : posC n gs n = [(w : Int)] ↔ ¬ ∃ r, r < n ∧ r ≠ w ∧ Rc 2 n gs (2 ^ r) := by
  constructor
  · (rintro h ⟨r, h1, h2, h3⟩); (have : (r : Int) ∈ posC n gs n := mem_posC.2 ⟨r, h1, h3, rfl⟩); (rw [h] at this); (have := List.mem_singleton.1 this)
    omega
  · (intro h); (obtain ⟨c, hc, hr⟩ := rc_single hn (gs := gs) (2 ^ n - 1) (by have : 2 ^ 1 ≤ 2 ^ n := Nat.pow_le_pow_right (by decide) (by omega); omega) .full)
    have hcw : c = w := by
      apply Classical.byContradiction
      intro e; exact h ⟨c, hc, e, hr⟩
    (subst hcw); (rw [posC_only hr n fun r h1 h2 h3 => h ⟨r, h1, h2, h3⟩, if_pos hw])
theorem prp_skip {n : Nat} {gs : List Grp} {w s : Nat} (hn : n ≤ 7) (hw : w < n) (hs : 1 ≤ s) (h : ¬ (Rc 2 n gs s ∧ (sl n s).length = 2 ∧ s.testBit w = true)) (x : Int) : PrP n gs w (s - 1) x ↔ PrP n gs w s x := by
  constructor
  · (rintro ⟨r, h1, h2, h3, h4, h5⟩); (refine ⟨r, h1, h2, h3, ?_, h5⟩)
    rcases Nat.lt_or_ge s (2 ^ r + 2 ^ w) with hl | hl
    · exact hl
    · (have e : s = 2 ^ r + 2 ^ w := by omega); (have hp := pair_sl hn h1 hw h2); (rw [← e] at hp h3); (exact absurd ⟨h3, hp.2.1, hp.2.2.1⟩ h)
  · (rintro ⟨r, h1, h2, h3, h4, h5⟩); (exact ⟨r, h1, h2, h3, by omega, h5⟩)
theorem prp_more {n : Nat} {gs : List Grp} {w r : Nat} (hn : n ≤ 7) (hr : r < n) (hne : r ≠ w) (h : Rc 2 n gs (2 ^ r + 2 ^ w)) (x : Int) : PrP n gs w (2 ^ r + 2 ^ w - 1) x ↔ PrP n gs w (2 ^ r + 2 ^ w) x ∨ x = pairV n gs w r := by
  constructor
  · rintro ⟨t, h1, h2, h3, h4, h5⟩
    by_cases e : t = r
    · subst e; exact .inr h5
    · (refine .inl ⟨t, h1, h2, h3, ?_, h5⟩); (have h6 : 2 ^ t ≠ 2 ^ r := fun h => e (pow_inj t (by omega) r (by omega) h)); (have := Nat.two_pow_pos w); (generalize 2 ^ t = a at *); (generalize 2 ^ r = b at *); (generalize 2 ^ w = c at *)
      omega
  · rintro (⟨t, h1, h2, h3, h4, h5⟩ | h5)
    · exact ⟨t, h1, h2, h3, Nat.lt_of_le_of_lt (Nat.sub_le _ _) h4, h5⟩
    · exact ⟨r, hr, hne, h, by have := Nat.two_pow_pos r; have := Nat.two_pow_pos w; omega, h5⟩
theorem vt_pair {n : Nat} (hn : n ≤ 7) (gs : List Grp) {r w : Nat} (hr : r < n) (hw : w < n) (hne : r ≠ w) (c : Int) : vt n gs (sl n (2 ^ r + 2 ^ w)) c = vt n gs [(r : Int), (w : Int)] c := by
  (unfold vt); (rw [flags_congr (l := sl n (2 ^ r + 2 ^ w)) (m := [(r : Int), (w : Int)]) fun x _ _ => ?_]); (rw [(pair_sl hn hr hw hne).2.2.2.2])
  rcases Nat.lt_or_ge r w with h | h
  · rw [Nat.min_eq_left (by omega), Nat.max_eq_right (by omega)]
  · (rw [Nat.min_eq_right (by omega), Nat.max_eq_left (by omega)]); (simp only [List.mem_cons, List.not_mem_nil, or_false]); (exact Or.comm)
/-- The first of the set's candidates. -/
def slK (s k : Nat) : List Int := (allC k).filter fun c => s.testBit c.toNat
theorem slK_all (n s : Nat) : slK s n = sl n s := rfl
theorem slK_skip {s k : Nat} (h : s.testBit k = false) : slK s (k + 1) = slK s k := by unfold slK; rw [allC_succ, List.filter_append]; simp [h]
theorem slK_more {s k : Nat} (h : s.testBit k = true) : slK s (k + 1) = slK s k ++ [(k : Int)] := by unfold slK; rw [allC_succ, List.filter_append]; simp [h]
theorem slK_le (s k : Nat) : (slK s k).length ≤ k := Nat.le_trans (List.length_filter_le _ _) (by simp [allC])
end Go.Mg

/- Lower bounds in plain Lean: Tail's bound; what a search's margin is worth. -/
namespace Go.Mg
open Go.Pil
/-- A complete order of exclusion of b. -/
structure Ord (n : Nat) (b : List Grp) (o : List Int) : Prop where
  nodup : o.Nodup
  mem : ∀ x : Int, x ∈ o ↔ 0 ≤ x ∧ x < (n : Int)
  low : ∀ i, i < o.length → ∀ d ∈ o.drop i, vt n b (o.drop i) (o.getD i 0) ≤ vt n b (o.drop i) d
theorem vt_congr {n : Nat} (gs : List Grp) {l m : List Int} (h : ∀ x : Int, 0 ≤ x → x < n → (x ∈ l ↔ x ∈ m)) (c : Int) : vt n gs l c = vt n gs m c := by unfold vt; rw [flags_congr h]
theorem ord_len {n : Nat} {b : List Grp} {o : List Int} (h : Ord n b o) : o.length = n := by
  have := out_len n o h.nodup fun x hx => (h.mem x).1 hx
  have e : ((allC n).filter fun e => decide (e ∉ o)) = [] := by
    (rw [List.filter_eq_nil_iff]); (intro x hx); (have := (h.mem x).2 (mem_allC.1 hx))
    simp [this]
  rw [e] at this; simpa using this
theorem hd_find (remain : List Bool) (p : List Int) : hd remain p = p.find? (inB remain) := by unfold hd kept; rw [List.head?_filter]
theorem hd_iff {remain : List Bool} {p : List Int} {c : Int} : hd remain p = some c ↔ inB remain c = true ∧ ∃ pre post, p = pre ++ c :: post ∧ ∀ x ∈ pre, inB remain x = false := by
  rw [hd_find, List.find?_eq_some_iff_append]
  simp
/-- Who is first of all is first of any who remain with him. -/
theorem hd_mono {n : Nat} {R : List Int} {e : Int} {p : List Int} (he : e ∈ R) (h : hd (flags n (allC n)) p = some e) : hd (flags n R) p = some e := by
  (rw [hd_iff] at h ⊢); (obtain ⟨h1, pre, post, rfl, h2⟩ := h); (rw [flags_in] at h1); (have h1' := of_decide_eq_true h1); (refine ⟨by rw [flags_in]; exact decide_eq_true ⟨h1'.1, h1'.2.1, he⟩, pre, post, rfl, fun x hx => ?_⟩); (have := h2 x hx); (rw [flags_in] at this ⊢); (have h3 := of_decide_eq_false this); (exact decide_eq_false fun hc => h3 ⟨hc.1, hc.2.1, mem_allC.2 ⟨hc.1, hc.2.1⟩⟩)
/-- Who is first of some who remain is preferred to each of them. -/
theorem hd_pref {n : Nat} {R : List Int} {e t : Int} {p : List Int} (he : e ∈ R) (h0 : 0 ≤ e) (hn : e < n) (hne : e ≠ t) (h : hd (flags n R) p = some t) : pref p t e = true := by
  (rw [hd_iff] at h); (obtain ⟨h1, pre, post, rfl, h2⟩ := h); (have ht : t ∉ pre := fun hm => by rw [h2 t hm] at h1; cases h1)
  have hep : e ∉ pre := fun hm => by
    (have := h2 e hm); (rw [flags_in] at this); (exact of_decide_eq_false this ⟨h0, hn, he⟩)
  (unfold pref); (refine decide_eq_true ?_); (rw [List.idxOf_append, List.idxOf_append, if_neg ht, if_neg hep, List.idxOf_cons_self, List.idxOf_cons, show (t == e) = false from beq_eq_false_iff_ne.2 (Ne.symm hne)]); (simp only [cond_false])
  omega
theorem getD_mem {o : List Int} {i : Nat} (h : i < o.length) : o.getD i 0 ∈ o := by rw [List.getD_eq_getElem?_getD, List.getElem?_eq_getElem h]; exact List.getElem_mem h
theorem getD_drop (o : List Int) (j i : Nat) : (o.drop j).getD i 0 = o.getD (j + i) 0 := by simp [List.getD_eq_getElem?_getD, List.getElem?_drop]
/-- Tail's bound: for the tails of an order of b, at most as many as the ballots that differ. -/
theorem tail_le {n : Nat} {a b : List Grp} {o : List Int} (ha : isPile 7 a = true) (hb : isPile 7 b = true) (ht : tot a = tot b) (hD : 0 ≤ tot a - com a b) (ho : Ord n b o) {j : Nat} : bd n a (o.drop j) ≤ tot a - com a b := by
  (have hpa := pile_pos ha); (have hpb := pile_pos hb); (unfold bd); (refine half_le hD (mx_le (by omega) fun x hx => ?_))
  rcases List.mem_append.1 hx with hx | hx
  · (unfold din at hx); (obtain ⟨i, hi, hx⟩ := List.mem_flatMap.1 hx); (obtain ⟨d, hdd, rfl⟩ := List.mem_map.1 hx); (have hi := List.mem_range.1 hi); (rw [List.length_drop] at hi); (have e1 : (o.drop j).drop i = o.drop (j + i) := by rw [List.drop_drop]); (have hij : j + i < o.length := by omega); (rw [e1, getD_drop])
    have hdm : d ∈ o.drop (j + i) := by
      (rw [List.drop_drop] at hdd); (have : o.drop (j + i) = o[j + i] :: o.drop (j + i + 1) := List.drop_eq_getElem_cons hij); (rw [this]); (exact List.mem_cons_of_mem _ (by rw [show j + i + 1 = j + (i + 1) by omega]; exact hdd))
    (have h1 := ho.low (j + i) hij d hdm); (have c1 := (ho.mem _).1 (getD_mem hij)); (have c2 := (ho.mem _).1 (List.mem_of_mem_drop hdm)); (rw [vt_eq b _ c1.1 c1.2, vt_eq b _ c2.1 c2.2] at h1); (rw [vt_eq a _ c1.1 c1.2, vt_eq a _ c2.1 c2.2]); (have := diff_com (fun p => hd (flags n (o.drop (j + i))) p == some (o.getD (j + i) 0)) (fun p => hd (flags n (o.drop (j + i))) p == some d) a b hpa hpb)
    omega
  · (unfold dout at hx); (obtain ⟨e, he, hx⟩ := List.mem_flatMap.1 hx); (obtain ⟨t, htm, rfl⟩ := List.mem_map.1 hx); (obtain ⟨he1, he2⟩ := List.mem_filter.1 he); (have he2 : e ∉ o.drop j := of_decide_eq_true he2); (have hec := mem_allC.1 he1); (have heo := (ho.mem e).2 hec); (obtain ⟨i, hi, hie⟩ := List.getElem_of_mem heo)
    have hij : i < j := Nat.lt_of_not_le fun h => he2 (by
      (have : o.drop j = (o.drop j) := rfl); (rw [← hie]); (have e3 : o[i] = (o.drop j)[i - j]'(by rw [List.length_drop]; omega) := by rw [List.getElem_drop]; congr 1; omega)
      rw [e3]; exact List.getElem_mem _)
    have hto : t ∈ o.drop i := by
      (have : o.drop j = (o.drop i).drop (j - i) := by rw [List.drop_drop]; congr 1; omega); (rw [this] at htm); (exact List.mem_of_mem_drop htm)
    (have htr := (ho.mem t).1 (List.mem_of_mem_drop hto)); (have hgd : o.getD i 0 = e := by rw [List.getD_eq_getElem?_getD, List.getElem?_eq_getElem hi]; exact hie)
    have hei : e ∈ o.drop i := by
      rw [List.drop_eq_getElem_cons hi, hie]; exact List.mem_cons_self
    (have hne : e ≠ t := fun h => he2 (h ▸ htm)); (have h1 := ho.low i hi t hto); (rw [hgd, vt_eq b _ hec.1 hec.2, vt_eq b _ htr.1 htr.2] at h1)
    have h2 : sumIf (fun p => hd (flags n (allC n)) p == some e) b ≤ sumIf (fun p => hd (flags n (o.drop i)) p == some e) b := sumIf_mono hpb fun g _ hq => by
      have := hd_mono (n := n) hei (by simpa using hq)
      simp [this]
    (have h3 : sumIf (fun p => hd (flags n (o.drop i)) p == some t) b ≤ sumIf (fun p => pref p t e) b := sumIf_mono hpb fun g _ hq => hd_pref hei hec.1 hec.2 hne (by simpa using hq)); (rw [vt_eq a _ hec.1 hec.2]); (unfold prefers); (rw [if_pos ⟨ha, Ne.symm hne⟩]); (have := diff_com (fun p => hd (flags n (allC n)) p == some e) (fun p => pref p t e) a b hpa hpb)
    omega
/-- A set that is reached: those who left it, in their order. -/
theorem rc_path {k n : Nat} {b : List Grp} (hn : n ≤ 7) {s : Nat} (h : Rc k n b s) : ∃ pre : List Int, pre.Nodup ∧ (∀ x : Int, x ∈ pre ↔ (0 ≤ x ∧ x < (n : Int)) ∧ x ∉ sl n s) ∧ ∀ i, i < pre.length → ∀ R : List Int, (∀ x, x ∈ R ↔ x ∈ pre.drop i ∨ x ∈ sl n s) → ∀ d ∈ R, vt n b R (pre.getD i 0) ≤ vt n b R d := by
  induction h with
  | full => refine ⟨[], by simp, fun x => ?_, fun i hi => by simp at hi⟩; rw [sl_full hn, mem_allC]; simp
  | step h1 h2 h3 ih =>
    rename_i u c
    (obtain ⟨pre, p1, p2, p3⟩ := ih); (have hl := low_sub hn h1.lt h3); (have hcu := (mem_lows.1 h3).1); (have hu := pow7 hn); (have hlt := h1.lt)
    have hsl : ∀ x : Int, x ∈ sl n (u - 2 ^ c.toNat) ↔ x ∈ sl n u ∧ x ≠ c := fun x => by
      rw [mem_sl, mem_sl]
      by_cases hx : 0 ≤ x ∧ x < (n : Int)
      · (have hb := (bits_sub u (by omega) c.toNat (by omega) hl.2.2.2).2 x.toNat (by omega)); (rw [hb, Bool.and_eq_true, decide_eq_true_iff]); (have : x.toNat ≠ c.toNat ↔ x ≠ c := by omega); (rw [this])
        constructor
        · rintro ⟨_, h, h'⟩; exact ⟨⟨hx, h⟩, h'⟩
        · rintro ⟨⟨_, h⟩, h'⟩; exact ⟨hx, h, h'⟩
      · constructor
        · rintro ⟨h, _⟩; exact absurd h hx
        · rintro ⟨⟨h, _⟩, _⟩; exact absurd h hx
    (have hcp : c ∉ pre := fun hm => ((p2 c).1 hm).2 hcu); (refine ⟨pre ++ [c], ?_, fun x => ?_, fun i hi R hR d hd => ?_⟩)
    · (rw [List.nodup_append]); (exact ⟨p1, by simp, fun x hx y hy => by rw [List.mem_singleton.1 hy]; intro e; subst e; exact hcp hx⟩)
    · rw [List.mem_append, List.mem_singleton, p2, hsl]
      constructor
      · rintro (⟨h, h'⟩ | rfl)
        · exact ⟨h, fun hc => h' hc.1⟩
        · exact ⟨hl.2.2.1, fun hc => hc.2 rfl⟩
      · rintro ⟨h, h'⟩
        by_cases hxc : x = c
        · exact .inr hxc
        · exact .inl ⟨h, fun hm => h' ⟨hm, hxc⟩⟩
    · by_cases hil : i < pre.length
      · (have e1 : (pre ++ [c]).getD i 0 = pre.getD i 0 := by simp [List.getD_eq_getElem?_getD, List.getElem?_append, hil]); (rw [e1]); (refine p3 i hil R (fun x => ?_) d hd); (rw [hR, List.drop_append_of_le_length (by omega), List.mem_append, List.mem_singleton, hsl])
        constructor
        · rintro ((h | rfl) | h)
          · exact .inl h
          · exact .inr hcu
          · exact .inr h.1
        · rintro (h | h)
          · exact .inl (.inl h)
          · by_cases hxc : x = c
            · exact .inl (.inr hxc)
            · exact .inr ⟨h, hxc⟩
      · (have hie : i = pre.length := by simp at hi; omega); (subst hie); (have e1 : (pre ++ [c]).getD pre.length 0 = c := by simp [List.getD_eq_getElem?_getD]); (rw [e1])
        have hRs : ∀ x : Int, x ∈ R ↔ x ∈ sl n u := fun x => by
          rw [hR, List.drop_left, List.mem_singleton, hsl]
          constructor
          · rintro (rfl | h)
            · exact hcu
            · exact h.1
          · intro h
            by_cases hxc : x = c
            · exact .inl hxc
            · exact .inr ⟨h, hxc⟩
        (rw [vt_congr b (fun x _ _ => hRs x), vt_congr b (fun x _ _ => hRs x)]); (exact (mem_lows.1 h3).2 d ((hRs d).1 hd))
/-- Whoever can win is the last of an order of exclusion. -/
theorem rc_ord {n : Nat} {b : List Grp} (hn : n ≤ 7) {c : Nat} (hc : c < n) (h : Rc 2 n b (2 ^ c)) : ∃ o, Ord n b o ∧ o.getD (n - 1) 0 = (c : Int) := by
  obtain ⟨pre, p1, p2, p3⟩ := rc_path hn h
  have hs : ∀ x : Int, x ∈ sl n (2 ^ c) ↔ x = (c : Int) := fun x => by
    rw [mem_sl]
    constructor
    · (rintro ⟨h1, h2⟩); (have := bits_pow c (by omega) x.toNat (by omega)); (rw [this] at h2); (have := of_decide_eq_true h2)
      omega
    · (rintro rfl); (refine ⟨⟨by omega, by omega⟩, ?_⟩); (rw [Int.toNat_natCast, bits_pow c (by omega) c (by omega)]); (exact decide_eq_true rfl)
  have hcp : (c : Int) ∉ pre := fun hm => ((p2 _).1 hm).2 ((hs _).2 rfl)
  have ho : Ord n b (pre ++ [(c : Int)]) := by
    refine ⟨?_, fun x => ?_, fun i hi d hd => ?_⟩
    · (rw [List.nodup_append]); (exact ⟨p1, by simp, fun x hx y hy => by rw [List.mem_singleton.1 hy]; intro e; subst e; exact hcp hx⟩)
    · rw [List.mem_append, List.mem_singleton, p2, hs]
      constructor
      · rintro (⟨h, _⟩ | rfl)
        · exact h
        · exact ⟨by omega, by omega⟩
      · intro h
        by_cases hxc : x = (c : Int)
        · exact .inr hxc
        · exact .inl ⟨h, hxc⟩
    · by_cases hil : i < pre.length
      · (have e1 : (pre ++ [(c : Int)]).getD i 0 = pre.getD i 0 := by simp [List.getD_eq_getElem?_getD, List.getElem?_append, hil]); (rw [e1]); (refine p3 i hil _ (fun x => ?_) d hd); (rw [List.drop_append_of_le_length (by omega), List.mem_append, List.mem_singleton, hs])
      · (have hie : i = pre.length := by simp at hi; omega); (subst hie); (rw [List.drop_left] at hd ⊢); (have e1 : (pre ++ [(c : Int)]).getD pre.length 0 = (c : Int) := by simp [List.getD_eq_getElem?_getD]); (rw [e1, List.mem_singleton.1 hd]; exact Int.le_refl _)
  (refine ⟨_, ho, ?_⟩); (have := ord_len ho); (rw [List.length_append] at this); (have e : n - 1 = pre.length := by simp at this; omega); (rw [e]; simp [List.getD_eq_getElem?_getD])
end Go.Mg
