/- Upper is an upper bound: the pile in which two candidates are exchanged (plain). -/
import Derived.Test.YtkdmlakookgolaaCovLZ
namespace Go.Mg
open Go.Pil
/-- x and y exchanged. -/
def sw1 (x y c : Int) : Int := if c = x then y else if c = y then x else c
def sw (x y : Int) (p : List Int) : List Int := p.map (sw1 x y)
def takeK (x y k : Int) (g : Grp) : Int := if pref g.p x y = true then min k g.n else 0
def swOne (x y t : Int) (g : Grp) : List Grp := (if t < g.n then [⟨g.p, g.n - t⟩] else []) ++ (if 0 < t then [⟨sw x y g.p, t⟩] else [])
def swStep (x y : Int) (s : List Grp × Int) (g : Grp) : List Grp × Int := (s.1 ++ swOne x y (takeK x y s.2 g) g, s.2 - takeK x y s.2 g)
/-- x and y exchanged on at most k ballots that prefer x to y. -/
def swL (x y : Int) : List Grp → Int → List Grp
  | [], _ => []
  | g :: r, k => swOne x y (takeK x y k g) g ++ swL x y r (k - takeK x y k g)
def swK (x y : Int) : List Grp → Int → Int
  | [], k => k
  | g :: r, k => swK x y r (k - takeK x y k g)
theorem sw_fold (x y : Int) : ∀ (l : List Grp) (s : List Grp × Int), l.foldl (swStep x y) s = (s.1 ++ swL x y l s.2, swK x y l s.2)
  | [], s => by simp [swL, swK]
  | g :: r, s => by rw [List.foldl_cons, sw_fold x y r]; simp [swStep, swL, swK]
theorem take_rng {x y k : Int} (hk : 0 ≤ k) {g : Grp} (hg : 1 ≤ g.n) : 0 ≤ takeK x y k g ∧ takeK x y k g ≤ g.n ∧ takeK x y k g ≤ k := by
  unfold takeK; split <;> omega
theorem sw1_inj (x y : Int) {a b : Int} (h : sw1 x y a = sw1 x y b) : a = b := by unfold sw1 at h; split at h <;> split at h <;> (try split at h) <;> (try split at h) <;> omega
theorem sw_ballot {n x y : Int} (hx : 0 ≤ x ∧ x < n) (hy : 0 ≤ y ∧ y < n) {p : List Int} (h : ballot n p = true) : ballot n (sw x y p) = true := by
  (simp only [ballot, decide_eq_true_eq] at h ⊢); (refine ⟨?_, fun c hc => ?_⟩)
  · (unfold sw); (exact List.pairwise_map.2 (h.1.imp fun hne e => hne (sw1_inj x y e)))
  · (obtain ⟨d, hd, rfl⟩ := List.mem_map.1 hc); (have := h.2 d hd); (unfold sw1; split)
    · exact hy
    · split
      · exact hx
      · exact this
theorem one_pos {x y t : Int} {g : Grp} : ∀ h ∈ swOne x y t g, 1 ≤ h.n := fun h hh => by
  unfold swOne at hh
  rcases List.mem_append.1 hh with hh | hh
  · split at hh
    · rw [List.mem_singleton.1 hh]; show 1 ≤ g.n - t; omega
    · cases hh
  · split at hh
    · rw [List.mem_singleton.1 hh]; show 1 ≤ t; omega
    · cases hh
theorem swL_pos (x y : Int) : ∀ (l : List Grp) (k : Int), ∀ h ∈ swL x y l k, 1 ≤ h.n
  | [], _ => fun h hh => by cases hh
  | g :: r, k => fun h hh => by
    rcases List.mem_append.1 hh with hh | hh
    · exact one_pos h hh
    · exact swL_pos x y r _ h hh
theorem swL_mem (x y : Int) : ∀ (l : List Grp) (k : Int), ∀ h ∈ swL x y l k, ∃ g ∈ l, h.p = g.p ∨ h.p = sw x y g.p
  | [], _ => fun h hh => by cases hh
  | g :: r, k => fun h hh => by
    rcases List.mem_append.1 hh with hh | hh
    · unfold swOne at hh
      rcases List.mem_append.1 hh with hh | hh
      · split at hh
        · rw [List.mem_singleton.1 hh]; exact ⟨g, by simp, .inl rfl⟩
        · cases hh
      · split at hh
        · rw [List.mem_singleton.1 hh]; exact ⟨g, by simp, .inr rfl⟩
        · cases hh
    · (obtain ⟨g', hg', h'⟩ := swL_mem x y r _ h hh); (exact ⟨g', by simp [hg'], h'⟩)
theorem tot_one {x y t : Int} {g : Grp} (h0 : 0 ≤ t) (h1 : t ≤ g.n) : tot (swOne x y t g) = g.n := by
  (unfold swOne); (rw [tot_append])
  split <;> split <;> simp [tot] <;> omega
theorem swL_tot (x y : Int) : ∀ (l : List Grp) (k : Int), 0 ≤ k → (∀ g ∈ l, 1 ≤ g.n) → tot (swL x y l k) = tot l
  | [], _, _, _ => rfl
  | g :: r, k, hk, h => by
    (have ht := take_rng (x := x) (y := y) hk (h g (by simp))); (rw [swL, tot_append, tot_one ht.1 ht.2.1, tot_cons, swL_tot x y r _ (by omega) fun g' hg' => h g' (by simp [hg'])])
theorem swK_eq (x y : Int) : ∀ (l : List Grp) (k : Int), 0 ≤ k → (∀ g ∈ l, 1 ≤ g.n) → swK x y l k = max 0 (k - sumIf (fun p => pref p x y) l)
  | [], k, hk, _ => by show k = max 0 (k - 0); omega
  | g :: r, k, hk, h => by
    (have ht := take_rng (x := x) (y := y) hk (h g (by simp))); (have hs := (sumIf_bnd (Q := fun p => pref p x y) (l := r) fun g' hg' => h g' (by simp [hg'])).1); (have hg := h g (by simp)); (rw [swK, swK_eq x y r _ (by omega) fun g' hg' => h g' (by simp [hg']), sumIf_cons]); (unfold takeK)
    split <;> omega
theorem swK_rng (x y : Int) (l : List Grp) (k : Int) (hk : 0 ≤ k) (h : ∀ g ∈ l, 1 ≤ g.n) : 0 ≤ swK x y l k ∧ swK x y l k ≤ k := by
  (rw [swK_eq x y l k hk h]); (have := (sumIf_bnd (Q := fun p => pref p x y) (l := l) h).1)
  omega
theorem sum_one (Q : List Int → Bool) {x y t : Int} {g : Grp} (h0 : 0 ≤ t) (h1 : t ≤ g.n) : sumIf Q (swOne x y t g) = (if Q g.p = true then g.n - t else 0) + (if Q (sw x y g.p) = true then t else 0) := by
  (unfold swOne); (have e : ∀ a b : List Grp, sumIf Q (a ++ b) = sumIf Q a + sumIf Q b := fun a b => by simp [sumIf]); (rw [e])
  by_cases h2 : t < g.n <;> by_cases h3 : 0 < t
  · rw [if_pos h2, if_pos h3]; simp [sumIf]
  · (have : t = 0 := by omega); (subst this); (rw [if_pos h2, if_neg h3]; simp [sumIf])
  · (have : t = g.n := by omega); (subst this); (rw [if_neg h2, if_pos h3]; simp [sumIf])
  · (have e0 : t = 0 := by omega); (have e1 : g.n = 0 := by omega); (rw [if_neg h2, if_neg h3, e0, e1]; simp [sumIf])
theorem sum_app (Q : List Int → Bool) (a b : List Grp) : sumIf Q (a ++ b) = sumIf Q a + sumIf Q b := by simp [sumIf]
theorem swL_same (Q : List Int → Bool) (x y : Int) : ∀ (l : List Grp) (k : Int), 0 ≤ k → (∀ g ∈ l, 1 ≤ g.n) → (∀ g ∈ l, pref g.p x y = true → Q (sw x y g.p) = Q g.p) → sumIf Q (swL x y l k) = sumIf Q l
  | [], _, _, _, _ => rfl
  | g :: r, k, hk, h, hq => by
    (have ht := take_rng (x := x) (y := y) hk (h g (by simp))); (rw [swL, sum_app, sum_one Q ht.1 ht.2.1, sumIf_cons, swL_same Q x y r _ (by omega) (fun g' hg' => h g' (by simp [hg'])) fun g' hg' => hq g' (by simp [hg'])]); (have h2 := hq g (by simp))
    by_cases hp : pref g.p x y = true
    · rw [h2 hp]; split <;> omega
    · (have : takeK x y k g = 0 := by unfold takeK; rw [if_neg hp]); (rw [this]; split <;> split <;> omega)
theorem swL_more (Q : List Int → Bool) (x y : Int) : ∀ (l : List Grp) (k : Int), 0 ≤ k → (∀ g ∈ l, 1 ≤ g.n) → (∀ g ∈ l, pref g.p x y = true → Q g.p = false) → sumIf Q l ≤ sumIf Q (swL x y l k)
  | [], _, _, _, _ => Int.le_refl _
  | g :: r, k, hk, h, hq => by
    (have ht := take_rng (x := x) (y := y) hk (h g (by simp))); (have ih := swL_more Q x y r (k - takeK x y k g) (by omega) (fun g' hg' => h g' (by simp [hg'])) fun g' hg' => hq g' (by simp [hg'])); (rw [swL, sum_app, sum_one Q ht.1 ht.2.1, sumIf_cons]); (have h2 := hq g (by simp))
    by_cases hp : pref g.p x y = true
    · rw [h2 hp]; simp; split <;> omega
    · (have : takeK x y k g = 0 := by unfold takeK; rw [if_neg hp]); (rw [this] at ih ⊢); (have e : (if Q (sw x y g.p) = true then (0 : Int) else 0) = 0 := by split <;> rfl); (rw [e, Int.sub_zero]; omega)
theorem swL_gain (Q R : List Int → Bool) (x y : Int) : ∀ (l : List Grp) (k : Int), 0 ≤ k → (∀ g ∈ l, 1 ≤ g.n) → (∀ g ∈ l, pref g.p x y = true → Q g.p = true ∧ Q (sw x y g.p) = false ∧ R g.p = false ∧ R (sw x y g.p) = true) →
    sumIf Q (swL x y l k) = sumIf Q l - (k - swK x y l k) ∧ sumIf R (swL x y l k) = sumIf R l + (k - swK x y l k)
  | [], k, _, _, _ => by simp [swL, swK, sumIf]
  | g :: r, k, hk, h, hq => by
    (have ht := take_rng (x := x) (y := y) hk (h g (by simp))); (have ih := swL_gain Q R x y r (k - takeK x y k g) (by omega) (fun g' hg' => h g' (by simp [hg'])) fun g' hg' => hq g' (by simp [hg'])); (rw [swL, sum_app, sum_app, sum_one Q ht.1 ht.2.1, sum_one R ht.1 ht.2.1, sumIf_cons, sumIf_cons, swK]); (have h2 := hq g (by simp))
    by_cases hp : pref g.p x y = true
    · (obtain ⟨a, b, c, d⟩ := h2 hp); (rw [a, b, c, d]; simp; omega)
    · (have : takeK x y k g = 0 := by unfold takeK; rw [if_neg hp]); (rw [this] at ih ⊢)
      constructor <;> (split <;> split <;> omega)
/-- What is left of each group. -/
def keptL (x y : Int) : List Grp → Int → List Grp
  | [], _ => []
  | g :: r, k => ⟨g.p, g.n - takeK x y k g⟩ :: keptL x y r (k - takeK x y k g)
theorem keptL_tot (x y : Int) : ∀ (l : List Grp) (k : Int), tot (keptL x y l k) = tot l - (k - swK x y l k)
  | [], k => by simp [keptL, swK, tot]
  | g :: r, k => by
    (have := keptL_tot x y r (k - takeK x y k g)); (rw [keptL, tot_cons, tot_cons, swK, this]; show g.n - takeK x y k g + _ = _; omega)
theorem keptL_le (x y : Int) (f : List Int → Int) : ∀ (l : List Grp) (k : Int), 0 ≤ k → (∀ g ∈ l, 1 ≤ g.n) → (∀ e ∈ keptL x y l k, e.n ≤ f e.p) → tot (keptL x y l k) ≤ (l.map fun g => min g.n (f g.p)).sum
  | [], _, _, _, _ => Int.le_refl _
  | g :: r, k, hk, h, hf => by
    (have ht := take_rng (x := x) (y := y) hk (h g (by simp))); (have ih := keptL_le x y f r (k - takeK x y k g) (by omega) (fun g' hg' => h g' (by simp [hg'])) fun e he => hf e (List.mem_cons_of_mem _ he)); (have h1 : g.n - takeK x y k g ≤ f g.p := hf ⟨g.p, g.n - takeK x y k g⟩ (by rw [keptL]; exact List.mem_cons_self)); (rw [keptL, tot_cons, List.map_cons, List.sum_cons])
    show g.n - takeK x y k g + _ ≤ _
    omega
theorem keptL_num (x y : Int) : ∀ (l : List Grp) (k : Int), 0 ≤ k → (∀ g ∈ l, 1 ≤ g.n) → ∀ e ∈ keptL x y l k, e.n ≤ sumIf (fun p => decide (p = e.p)) (swL x y l k)
  | [], _, _, _ => fun e he => by cases he
  | g :: r, k, hk, h => fun e he => by
    (have ht := take_rng (x := x) (y := y) hk (h g (by simp))); (have hs := (sumIf_bnd (Q := fun p => decide (p = e.p)) (swL_pos x y r (k - takeK x y k g))).1); (rw [swL, sum_app, sum_one _ ht.1 ht.2.1]); (rw [keptL] at he)
    rcases List.mem_cons.1 he with rfl | he
    · have hs' : 0 ≤ sumIf (fun p => decide (p = g.p)) (swL x y r (k - takeK x y k g)) := hs
      show g.n - takeK x y k g ≤ (if decide (g.p = g.p) = true then g.n - takeK x y k g else 0) + (if decide (sw x y g.p = g.p) = true then takeK x y k g else 0) + sumIf (fun p => decide (p = g.p)) (swL x y r (k - takeK x y k g))
      rw [if_pos (decide_eq_true rfl)]
      split <;> omega
    · have ih := keptL_num x y r (k - takeK x y k g) (by omega) (fun g' hg' => h g' (by simp [hg'])) e he
      split <;> split <;> omega
theorem num_sum (l : List Grp) (q : List Int) : num (pileOf l) q = sumIf (fun p => decide (p = q)) l := by
  have h := num_fold l q [] (by simp [Srt])
  have e : ((l.filter fun g => decide (g.p = q)).map (·.n)).sum = sumIf (fun p => decide (p = q)) l := by
    induction l with
    | nil => rfl
    | cons g l ih =>
      rw [sumIf_cons, List.filter_cons]
      by_cases hg : g.p = q
      · rw [if_pos (by simpa using hg), if_pos (by simpa using hg), List.map_cons, List.sum_cons, ih (num_fold l q [] (by simp [Srt]))]
      · rw [if_neg (by simpa using hg), if_neg (by simpa using hg), ih (num_fold l q [] (by simp [Srt]))]; omega
  (unfold pileOf); (rw [h, e]; simp [num])
theorem sw_pile {n x y : Int} (hx : 0 ≤ x ∧ x < n) (hy : 0 ≤ y ∧ y < n) {gs : List Grp} (hp : isPile n gs = true) {k : Int} (hk : 0 ≤ k) : isPile n (pileOf (swL x y gs k)) = true ∧ tot (pileOf (swL x y gs k)) = tot gs := by
  (rw [isPile_iff] at hp); (have hpos := fun g hg => (hp.1 g hg).2); (have h1 := swL_pos x y gs k); (have ht : tot (pileOf (swL x y gs k)) = tot gs := by rw [pileOf_tot h1, swL_tot x y gs k hk hpos]); (refine ⟨?_, ht⟩); (rw [isPile_iff]); (refine ⟨fun g hg => ⟨?_, pileOf_pos h1 g hg⟩, by rw [ht]; exact hp.2.1, pileOf_srt h1⟩); (obtain ⟨h, hh, e⟩ := pileOf_mem h1 g hg); (obtain ⟨g', hg', he⟩ := swL_mem x y gs k h hh); (rw [← e])
  rcases he with he | he
  · rw [he]; exact (hp.1 g' hg').1
  · rw [he]; exact sw_ballot hx hy (hp.1 g' hg').1
theorem sw_com {n x y : Int} {gs : List Grp} (hp : isPile n gs = true) {k : Int} (hk : 0 ≤ k) : tot gs - com gs (pileOf (swL x y gs k)) ≤ k := by
  (rw [isPile_iff] at hp); (have hpos := fun g hg => (hp.1 g hg).2); (have h1 := swL_pos x y gs k); (rw [com_num gs _ hp.2.2 (pileOf_srt h1) (pileOf_pos h1) hpos]); (have h2 := keptL_le x y (num (pileOf (swL x y gs k))) gs k hk hpos fun e he => by rw [num_sum]; exact keptL_num x y gs k hk hpos e he); (have h3 := keptL_tot x y gs k); (have h4 := swK_rng x y gs k hk hpos)
  omega
/-! Who is first when x and y are exchanged. -/
theorem sw_hd {R : List Bool} {x y : Int} (hx : inB R x = true) (hy : inB R y = true) (p : List Int) : hd R (sw x y p) = (hd R p).map (sw1 x y) := by
  have hin : ∀ c, inB R (sw1 x y c) = inB R c := fun c => by
    unfold sw1; split
    · rename_i h; rw [h, hx, hy]
    · split
      · rename_i h; rw [h, hx, hy]
      · rfl
  (rw [hd_find, hd_find]); (unfold sw)
  induction p with
  | nil => rfl
  | cons c p ih =>
    rw [List.map_cons, List.find?_cons, List.find?_cons, hin]
    cases inB R c
    · exact ih
    · rfl
theorem pref_mem {p : List Int} {x y : Int} (h : pref p x y = true) : x ∈ p := by
  (unfold pref at h); (have h := of_decide_eq_true h); (rw [← List.idxOf_lt_length_iff]); (exact Nat.lt_of_lt_of_le h (List.idxOf_le_length))
theorem pref_hd {R : List Bool} {x y : Int} (hx : inB R x = true) {p : List Int} (h : pref p x y = true) : hd R p ≠ some y ∧ hd R p ≠ none := by
  (have hm := pref_mem h); (refine ⟨fun e => ?_, fun e => ?_⟩)
  · (obtain ⟨_, pre, post, rfl, h2⟩ := hd_iff.1 e); (have hxp : x ∉ pre := fun hm => by rw [h2 x hm] at hx; cases hx); (unfold pref at h); (have h := of_decide_eq_true h); (rw [List.idxOf_append, List.idxOf_append, if_neg hxp] at h)
    split at h
    · rename_i hyp
      have := List.idxOf_lt_length_iff.2 hyp
      omega
    · rw [List.idxOf_cons_self] at h; omega
  · (rw [hd_find, List.find?_eq_none] at e); (exact e x hm hx)
theorem hd_pair {n r w : Nat} (hr : r < n) (hw : w < n) (hrw : r ≠ w) (p : List Int) : (hd (flags n [(r : Int), (w : Int)]) p == some (w : Int)) = pref p w r ∧ (hd (flags n [(r : Int), (w : Int)]) p == some (r : Int)) = pref p r w := by
  have e : hd (flags n [(r : Int), (w : Int)]) p = hd (two n w r) p := by
    unfold hd kept
    congr 1
    (refine List.filter_congr fun c _ => ?_); (rw [flags_in, inB_two hw hr, decide_eq_decide]); (simp only [List.mem_cons, List.not_mem_nil, or_false])
    omega
  (rw [e]); (exact hd_two hw hr (Ne.symm hrw) p)
section
variable {n : Nat} {gs : List Grp} {x y : Int} {k : Int}
theorem vt_sw (hpos : ∀ g ∈ gs, 1 ≤ g.n) (hk : 0 ≤ k) {S : List Int} (hx : inB (flags n S) x = true) (hy : inB (flags n S) y = true) {c : Int} (h0 : 0 ≤ c) (hn : c < n) (hcx : c ≠ x) :
    vt n gs S c ≤ vt n (pileOf (swL x y gs k)) S c ∧ (c ≠ y → vt n (pileOf (swL x y gs k)) S c = vt n gs S c) := by
  rw [vt_eq _ _ h0 hn, vt_eq _ _ h0 hn, sumIf_pileOf]
  by_cases hcy : c = y
  · (subst hcy); (refine ⟨swL_more _ x c gs k hk hpos fun g _ hp => ?_, fun h => absurd rfl h⟩); (have := (pref_hd hx hp).1)
    simpa using this
  · have := swL_same (fun p => hd (flags n S) p == some c) x y gs k hk hpos fun g _ _ => by
      rw [sw_hd hx hy]
      cases hd (flags n S) g.p with
      | none => rfl
      | some d =>
        (simp only [Option.map_some]); (have : (sw1 x y d = c) ↔ (d = c) := by unfold sw1; split <;> (try split) <;> omega); (rw [Bool.eq_iff_iff]; simp [this])
    (rw [this]); (exact ⟨Int.le_refl _, fun _ => rfl⟩)
theorem vt_sw2 {r w : Nat} (hr : r < n) (hw : w < n) (hrw : r ≠ w) (hpos : ∀ g ∈ gs, 1 ≤ g.n) (hk : 0 ≤ k) (hkl : k ≤ vt n gs [(r : Int), (w : Int)] w) :
    vt n (pileOf (swL (w : Int) (r : Int) gs k)) [(r : Int), (w : Int)] w = vt n gs [(r : Int), (w : Int)] w - k ∧ vt n (pileOf (swL (w : Int) (r : Int) gs k)) [(r : Int), (w : Int)] r = vt n gs [(r : Int), (w : Int)] r + k := by
  (rw [vt_eq gs _ (by omega) (by omega)] at hkl); (simp only [fun p => (hd_pair hr hw hrw p).1] at hkl); (rw [vt_eq _ _ (by omega) (by omega), vt_eq _ _ (by omega) (by omega), vt_eq _ _ (by omega) (by omega), vt_eq _ _ (by omega) (by omega), sumIf_pileOf, sumIf_pileOf]); (have hxw : inB (flags n [(r : Int), (w : Int)]) w = true := by rw [flags_in]; simp; omega); (have hxr : inB (flags n [(r : Int), (w : Int)]) r = true := by rw [flags_in]; simp; omega)
  have h := swL_gain (fun p => hd (flags n [(r : Int), (w : Int)]) p == some (w : Int)) (fun p => hd (flags n [(r : Int), (w : Int)]) p == some (r : Int)) w r gs k hk hpos fun g _ hp => by
    (have h1 := (hd_pair hr hw hrw g.p).1); (have h2 := pref_hd hxw hp); (rw [hp] at h1); (have h3 : hd (flags n [(r : Int), (w : Int)]) g.p = some (w : Int) := by simpa using h1); (rw [sw_hd hxw hxr, h3]); (have e : sw1 (w : Int) (r : Int) (w : Int) = r := by unfold sw1; rw [if_pos rfl]); (simp only [Option.map_some, e]); (refine ⟨by simp, ?_, ?_, by simp⟩)
    · simp; omega
    · simp; omega
  (have hz : swK (w : Int) (r : Int) gs k = 0 := by rw [swK_eq _ _ _ _ hk hpos]; omega); (rw [hz] at h)
  omega
end
/-- From any set that is reached somebody of it can win. -/
theorem rc_desc {n : Nat} {b : List Grp} (hn : n ≤ 7) : ∀ u, Rc 2 n b u → 1 ≤ (sl n u).length → ∃ r, r < n ∧ u.testBit r = true ∧ Rc 2 n b (2 ^ r) := by
  intro s
  induction s using Nat.strongRecOn with
  | ind s ih =>
    (intro hr h1); (have hlt := hr.lt)
    by_cases h1e : (sl n s).length = 1
    · (obtain ⟨d, hd⟩ := List.exists_mem_of_length_pos (show 0 < (sl n s).length by omega)); (obtain ⟨⟨d0, dn⟩, db⟩ := mem_sl.1 hd); (have e := single n hn s hlt d.toNat (by omega) db h1e); (exact ⟨d.toNat, by omega, db, e ▸ hr⟩)
    · (obtain ⟨c, hc⟩ := low_exists b (n := n) (s := s) (by intro e; rw [e] at h1; simp at h1)); (have hl := low_sub hn hlt hc); (have hs := sl_sub n hn s hlt c.toNat (by omega) hl.2.2.2); (obtain ⟨r, h2, h3, h4⟩ := ih _ hl.2.1 (.step hr (by omega) hc) (by omega)); (refine ⟨r, h2, ?_, h4⟩); (have := pow7 hn); (rw [(bits_sub s (by omega) c.toNat (by omega) hl.2.2.2).2 r (by omega), Bool.and_eq_true] at h3); (exact h3.1)
theorem rc_some {n : Nat} {b : List Grp} (hn : n ≤ 7) (h1 : 1 ≤ n) : ∃ r, r < n ∧ Rc 2 n b (2 ^ r) := by
  (obtain ⟨r, h2, _, h3⟩ := rc_desc hn _ (.full (gs := b)) (by rw [sl_full hn]; simp [allC]; omega)); (exact ⟨r, h2, h3⟩)
/-- A set with x and y that is reached: it is reached when they are exchanged too, or one without x. -/
theorem sw_path {n : Nat} (hn : n ≤ 7) {gs : List Grp} (hpos : ∀ g ∈ gs, 1 ≤ g.n) {x y : Nat} (hx : x < n) (hy : y < n) {k : Int} (hk : 0 ≤ k) {s : Nat} (hr : Rc 2 n gs s) : s.testBit x = true → s.testBit y = true →
    Rc 2 n (pileOf (swL x y gs k)) s ∨ ∃ u, Rc 2 n (pileOf (swL x y gs k)) u ∧ u.testBit x = false ∧ 1 ≤ (sl n u).length := by
  induction hr with
  | full => exact fun _ _ => .inl .full
  | step hr h2 hc ih =>
    rename_i s c
    (intro bx by_); (have hlt := hr.lt); (have hl := low_sub hn hlt hc); (have hp7 := pow7 hn); (have hb := (bits_sub s (by omega) c.toNat (by omega) hl.2.2.2).2); (have bx' := hb x (by omega)); (have by' := hb y (by omega)); (rw [bx] at bx'); (rw [by_] at by')
    have sx : s.testBit x = true ∧ x ≠ c.toNat := by
      have := bx'.symm; rw [Bool.and_eq_true, decide_eq_true_iff] at this; exact this
    have sy : s.testBit y = true ∧ y ≠ c.toNat := by
      have := by'.symm; rw [Bool.and_eq_true, decide_eq_true_iff] at this; exact this
    rcases ih sx.1 sy.1 with hR | hR
    · (have mx : (x : Int) ∈ sl n s := mem_sl.2 ⟨by omega, by simpa using sx.1⟩); (have my : (y : Int) ∈ sl n s := mem_sl.2 ⟨by omega, by simpa using sy.1⟩); (have ix : inB (flags n (sl n s)) x = true := by rw [flags_in]; exact decide_eq_true ⟨by omega, by omega, mx⟩); (have iy : inB (flags n (sl n s)) y = true := by rw [flags_in]; exact decide_eq_true ⟨by omega, by omega, my⟩); (have hcm := mem_lows.1 hc); (have hcv := vt_sw (n := n) (x := (x : Int)) (y := (y : Int)) hpos hk ix iy hl.2.2.1.1 hl.2.2.1.2 (by omega)); (have hcv2 := hcv.2 (by omega))
      by_cases hlow : vt n (pileOf (swL x y gs k)) (sl n s) x < vt n (pileOf (swL x y gs k)) (sl n s) c
      · right
        have hxl : (x : Int) ∈ lows n (pileOf (swL x y gs k)) s := mem_lows.2 ⟨mx, fun d hd => by
          by_cases hdx : d = (x : Int)
          · rw [hdx]; exact Int.le_refl _
          · (have hdr := (mem_sl.1 hd).1); (have h1 := (vt_sw (n := n) (x := (x : Int)) (y := (y : Int)) hpos hk ix iy hdr.1 hdr.2 hdx).1); (have h3 := hcm.2 d hd)
            omega⟩
        (have hxs := low_sub hn hlt hxl); (have hbx := (bits_sub s (by omega) x (by omega) sx.1).2); (refine ⟨s - 2 ^ x, ?_, ?_, ?_⟩)
        · have := Rc.step hR h2 hxl
          simpa using this
        · rw [hbx x (by omega)]; simp
        · have := sl_sub n hn s hlt x hx sx.1; omega
      · left
        refine .step hR h2 (mem_lows.2 ⟨hcm.1, fun d hd => ?_⟩)
        by_cases hdx : d = (x : Int)
        · rw [hdx]; omega
        · (have hdr := (mem_sl.1 hd).1); (have h1 := (vt_sw (n := n) (x := (x : Int)) (y := (y : Int)) hpos hk ix iy hdr.1 hdr.2 hdx).1); (have h3 := hcm.2 d hd)
          omega
    · exact .inr hR
open Classical in
theorem upV_le {n w : Nat} {m : Int} {gs : List Grp} (hp : isPile m gs = true) : upV n gs w ≤ 100000 := by
  have hmn := mn_spec (upL n gs w n) (fun x hx => by
      (unfold upL at hx); (obtain ⟨r, _, rfl⟩ := List.mem_map.1 hx)
      exact half_nonneg _)
  unfold upV
  split
  · decide
  · rcases hmn with ⟨h, _⟩ | ⟨_, hm, _⟩
    · omega
    · (unfold upL at hm); (obtain ⟨r, hr, he⟩ := List.mem_map.1 hm); (have h1 := vt_small (n := n) hp [(r : Int), (w : Int)] (w : Int)); (have h2 := vt_small (n := n) hp [(r : Int), (w : Int)] (r : Int)); (unfold upL); (rw [← he]; unfold half; split <;> omega)
open Classical in
/-- Where only w can win, the exchange of w and somebody on Upper ballots lets another win. -/
theorem upper_law {n w : Nat} {gs : List Grp} (hp : isPile (n : Int) gs = true) (hw : w < n) (h2 : 2 ≤ n) (h7 : n ≤ 7) (hno : ¬ ∃ r, r < n ∧ r ≠ w ∧ Rc 2 n gs (2 ^ r)) :
    0 < upV n gs w ∧ ∃ y, y < n ∧ y ≠ w ∧ tot gs - com gs (pileOf (swL (w : Int) (y : Int) gs (upV n gs w))) ≤ upV n gs w ∧ ∃ r, r < n ∧ r ≠ w ∧ Rc 2 n (pileOf (swL (w : Int) (y : Int) gs (upV n gs w))) (2 ^ r) := by
  (have hpos : ∀ g ∈ gs, 1 ≤ g.n := fun g hg => ((isPile_iff _ _).1 hp |>.1 g hg).2); (have hu0 := upV_nonneg (gs := gs) h7 hw h2)
  have hmn := mn_spec (upL n gs w n) (fun x hx => by
      (unfold upL at hx); (obtain ⟨r, _, rfl⟩ := List.mem_map.1 hx)
      exact half_nonneg _)
  (have hue : upV n gs w = mn (upL n gs w n) := by unfold upV; rw [if_neg hno]); (rw [← hue] at hmn)
  rcases hmn with ⟨h, _⟩ | ⟨_, hm, _⟩
  · omega
  · (unfold upL at hm); (obtain ⟨r, hr, he⟩ := List.mem_map.1 hm); (obtain ⟨hr1, hr2⟩ := List.mem_filter.1 hr); (obtain ⟨hrw, hR⟩ := of_decide_eq_true hr2); (have hrn := List.mem_range.1 hr1); (obtain ⟨p1, p2, p3, p4, p5⟩ := pair_sl h7 hrn hw hrw); (have hvw := vt_pair h7 gs hrn hw hrw (w : Int)); (have hvr := vt_pair h7 gs hrn hw hrw (r : Int))
    have hmem : ∀ x : Int, x ∈ sl n (2 ^ r + 2 ^ w) ↔ x = (r : Int) ∨ x = (w : Int) := fun x => by
      rw [p5]; simp only [List.mem_cons, List.not_mem_nil, or_false]; omega
    have hb := (bits_sub (2 ^ r + 2 ^ w) (by have := pow7 h7; omega) w (by omega) p3).1
    have hwin : vt n gs [(r : Int), (w : Int)] r < vt n gs [(r : Int), (w : Int)] w := by
      refine Int.not_le.1 fun hle => hno ⟨r, hrn, hrw, ?_⟩
      have hl : (w : Int) ∈ lows n gs (2 ^ r + 2 ^ w) := mem_lows.2 ⟨(hmem _).2 (.inr rfl), fun d hd => by
        rcases (hmem d).1 hd with rfl | rfl
        · rw [hvw, hvr]; exact hle
        · exact Int.le_refl _⟩
      have := Rc.step hR (by omega) hl
      simpa using this
    have hr0 : 0 ≤ vt n gs [(r : Int), (w : Int)] r := by rw [vt_eq _ _ (by omega) (by omega)]; exact (sumIf_bnd hpos).1
    have hu : 0 < upV n gs w ∧ upV n gs w ≤ vt n gs [(r : Int), (w : Int)] w ∧ vt n gs [(r : Int), (w : Int)] w - upV n gs w ≤ vt n gs [(r : Int), (w : Int)] r + upV n gs w := by
      rw [← he]; unfold half; split <;> omega
    (refine ⟨hu.1, r, hrn, hrw, sw_com hp hu0, ?_⟩); (have hv2 := vt_sw2 (n := n) (gs := gs) hrn hw hrw hpos hu0 hu.2.1)
    have fin : ∀ u : Nat, Rc 2 n (pileOf (swL (w : Int) (r : Int) gs (upV n gs w))) u → u.testBit w = false → 1 ≤ (sl n u).length → ∃ r', r' < n ∧ r' ≠ w ∧ Rc 2 n (pileOf (swL (w : Int) (r : Int) gs (upV n gs w))) (2 ^ r') := fun u h1 h3 h4 => by
      (obtain ⟨r', h5, h6, h8⟩ := rc_desc h7 u h1 h4); (have hne : r' ≠ w := fun e => by rw [e, h3] at h6; cases h6); (exact ⟨r', h5, hne, h8⟩)
    rcases sw_path h7 hpos hw hrn hu0 hR p3 p4 with hS | ⟨u, h1, h3, h4⟩
    · (have hvw' := vt_pair h7 (pileOf (swL (w : Int) (r : Int) gs (upV n gs w))) hrn hw hrw (w : Int)); (have hvr' := vt_pair h7 (pileOf (swL (w : Int) (r : Int) gs (upV n gs w))) hrn hw hrw (r : Int))
      have hl : (w : Int) ∈ lows n (pileOf (swL (w : Int) (r : Int) gs (upV n gs w))) (2 ^ r + 2 ^ w) := mem_lows.2 ⟨(hmem _).2 (.inr rfl), fun d hd => by
        rcases (hmem d).1 hd with rfl | rfl
        · rw [hvw', hvr']; omega
        · exact Int.le_refl _⟩
      (have := Rc.step hS (by omega) hl); (refine ⟨r, hrn, hrw, by simpa using this⟩)
    · exact fin u h1 h3 h4
end Go.Mg
