/- TopNear: what derived assertions say of piles (plain). -/
import Derived.Test.YtaobaaaihgahfaaGreatIrvCQ
import Derived.Test.YtaobaaaihgahfaaGreatGenQ
import Derived.Test.YtaobaaaihgahfaaGreatIrvAQ
import Derived.Maps.OwnSet
import Derived.RangeFuncBox
import Derived.RangeFuncLeaves
import Derived.RangeFuncNested
import Derived.RangeFuncBound
import Derived.RangeFuncCalls
import Derived.Shelf.Abstract
import Derived.Shelf.RegionOpen
import Derived.WalkKit
import Derived.OwnWalkIn
import Derived.TacticsInMore
import Derived.LoopNIn
import Derived.LoopIn
import Derived.Shelf.SortM.Plain
import Derived.Shelf.SortM.SortNone
import Derived.Maps.AppendAt
import Derived.RangeFuncFrom
import Derived.RangeFuncWrites
import Derived.Lib.SlKeysI
namespace Go.Nr
open Go.Pil Go.Mg
/-- An assertion. -/
structure As where
  k : Int
  a : Int
  b : Int
  am : List Int
  q : Int
def fst (c : Int) (p : List Int) : Bool := p.head? == some c
/-- The candidates of a list, ascending. -/
def srt (n : Nat) (T : List Int) : List Int := (allC n).filter fun c => decide (c ∈ T)
/-- The margin of an assertion of kind 1 (Beats) or 2 (Next). -/
def mg (n : Nat) (gs : List Grp) (x : As) : Int := if x.k = 1 then sumIf (fst x.a) gs - sumIf (fun p => pref p x.b x.a) gs else vt n gs x.am x.a - vt n gs x.am x.b
/-- An assertion of kind 1 or 2 that is valid. -/
structure Ok (n : Nat) (x : As) : Prop where
  a0 : 0 ≤ x.a
  an : x.a < n
  b0 : 0 ≤ x.b
  bn : x.b < n
  ne : x.a ≠ x.b
  q : x.q = 0
  kind : (x.k = 1 ∧ x.am = []) ∨ (x.k = 2 ∧ x.am = srt n x.am ∧ x.a ∈ x.am ∧ x.b ∈ x.am)
/-- A tail of an order of n candidates. -/
structure Tl (n : Nat) (T : List Int) : Prop where
  nd : T.Nodup
  rng : ∀ c ∈ T, 0 ≤ c ∧ c < n
  ne : T ≠ []
/-- The assertions that contradict a tail by its first candidate. -/
def opts (n : Nat) (T : List Int) : List As := match T with
  | [] => []
  | t :: r => ((allC n).filter fun c => decide (c ∉ t :: r)).map (fun a => ⟨1, a, t, [], 0⟩) ++ r.map fun b => ⟨2, t, b, srt n (t :: r), 0⟩
def kids (n : Nat) (T : List Int) : List (List Int) := ((allC n).filter fun c => decide (c ∉ T)).map (· :: T)
theorem mem_srt {n : Nat} {T : List Int} (hr : ∀ c ∈ T, 0 ≤ c ∧ c < (n : Int)) {c : Int} : c ∈ srt n T ↔ c ∈ T := by
  (unfold srt); (rw [List.mem_filter, mem_allC]); (simp only [decide_eq_true_iff]); (exact ⟨fun h => h.2, fun h => ⟨hr c h, h⟩⟩)
theorem mem_srt' {n : Nat} {T : List Int} {c : Int} (h : c ∈ srt n T) : c ∈ T ∧ 0 ≤ c ∧ c < (n : Int) := by
  (unfold srt at h); (rw [List.mem_filter, mem_allC] at h); (exact ⟨of_decide_eq_true h.2, h.1⟩)
theorem srt_srt {n : Nat} {T : List Int} : srt n (srt n T) = srt n T := by
  (unfold srt); (refine List.filter_congr fun c hc => ?_); (rw [decide_eq_decide, List.mem_filter]); (simp only [decide_eq_true_iff]); (exact ⟨fun h => h.2, fun h => ⟨hc, h⟩⟩)
theorem mem_opts {n : Nat} {t : Int} {r : List Int} {x : As} : x ∈ opts n (t :: r) ↔ (∃ a : Int, (0 ≤ a ∧ a < (n : Int)) ∧ a ∉ t :: r ∧ x = ⟨1, a, t, [], 0⟩) ∨ (∃ b ∈ r, x = ⟨2, t, b, srt n (t :: r), 0⟩) := by
  (unfold opts); (rw [List.mem_append, List.mem_map, List.mem_map])
  constructor
  · rintro (⟨a, h, rfl⟩ | ⟨b, h, rfl⟩)
    · (rw [List.mem_filter, mem_allC] at h); (exact .inl ⟨a, h.1, of_decide_eq_true h.2, rfl⟩)
    · exact .inr ⟨b, h, rfl⟩
  · rintro (⟨a, h1, h2, rfl⟩ | ⟨b, h, rfl⟩)
    · exact .inl ⟨a, by rw [List.mem_filter, mem_allC]; exact ⟨h1, decide_eq_true h2⟩, rfl⟩
    · exact .inr ⟨b, h, rfl⟩
theorem opts_ok {n : Nat} {T : List Int} (hT : Tl n T) {x : As} (h : x ∈ opts n T) : Ok n x := by
  cases T with
  | nil => cases h
  | cons t r =>
    (have ht := hT.rng t List.mem_cons_self); (have hnd := List.nodup_cons.1 hT.nd)
    rcases mem_opts.1 h with ⟨a, h1, h2, rfl⟩ | ⟨b, h1, rfl⟩
    · exact ⟨h1.1, h1.2, ht.1, ht.2, fun e => h2 (by show a ∈ _; rw [show a = t from e]; exact List.mem_cons_self), rfl, .inl ⟨rfl, rfl⟩⟩
    · (have hb := hT.rng b (List.mem_cons_of_mem _ h1)); (exact ⟨ht.1, ht.2, hb.1, hb.2, fun e => hnd.1 (by rw [show t = b from e]; exact h1), rfl, .inr ⟨rfl, srt_srt.symm, (mem_srt hT.rng).2 List.mem_cons_self, (mem_srt hT.rng).2 (List.mem_cons_of_mem _ h1)⟩⟩)
/-- Replacing ballots turns a margin by at most twice their number. -/
theorem near {n : Nat} {a b : List Grp} (ha : ∀ g ∈ a, 1 ≤ g.n) (hb : ∀ g ∈ b, 1 ≤ g.n) {x : As} (hx : Ok n x) : mg n a x - mg n b x ≤ tot a + tot b - 2 * com a b := by
  unfold mg
  by_cases h : x.k = 1
  · (rw [if_pos h, if_pos h]); (exact diff_com _ _ a b ha hb)
  · (rw [if_neg h, if_neg h, vt_eqM hx.a0 hx.an, vt_eqM hx.b0 hx.bn, vt_eqM hx.a0 hx.an, vt_eqM hx.b0 hx.bn]); (exact diff_com _ _ a b ha hb)
/-- No order that ends so is possible where the assertions hold. -/
inductive Blk (n : Nat) (l : List As) : List Int → Prop
  | here {T : List Int} {x : As} : x ∈ l → x ∈ opts n T → Blk n l T
  | kids {T : List Int} : T.length < n → (∀ c : Int, 0 ≤ c → c < n → c ∉ T → Blk n l (c :: T)) → Blk n l T
/-- Whoever is out was excluded while the others were in. -/
theorem was_low {n : Nat} {gs : List Grp} (hn : n ≤ 7) {s : Nat} (hr : Rc 2 n gs s) {a : Int} (h0 : 0 ≤ a) (h1 : a < n) (ha : a ∉ sl n s) : ∃ u, a ∈ lows n gs u ∧ ∀ x, x ∈ sl n s → x ∈ sl n u := by
  induction hr with
  | full => exact absurd (by rw [sl_full hn]; exact mem_allC.2 ⟨h0, h1⟩) ha
  | @step s d hr h2 hd ih =>
    (have hlt := hr.lt); (have hl := low_sub hn hlt hd); (have hbs := (bits_sub s (by have := pow7 hn; omega) d.toNat (by omega) hl.2.2.2).2)
    have hsub : ∀ x, x ∈ sl n (s - 2 ^ d.toNat) → x ∈ sl n s := fun x hx => by
      (have h3 := mem_sl.1 hx); (refine mem_sl.2 ⟨h3.1, ?_⟩); (have h4 := hbs x.toNat (by omega)); (rw [h3.2] at h4); (have h5 := h4.symm); (simp only [Bool.and_eq_true] at h5); (exact h5.1)
    by_cases hb : a ∈ sl n s
    · have had : a = d := by
        (refine Classical.byContradiction fun hne => ha (mem_sl.2 ⟨⟨h0, h1⟩, ?_⟩)); (rw [hbs a.toNat (by omega), (mem_sl.1 hb).2])
        simp; omega
      (subst had); (exact ⟨s, hd, hsub⟩)
    · (obtain ⟨u, h3, h4⟩ := ih hb); (exact ⟨u, h3, fun x hx => h4 x (hsub x hx)⟩)
theorem idx_lt {p pre post : List Int} {t a : Int} (hp : p = pre ++ t :: post) (hne : t ≠ a) (hpre : a ∉ pre) : pref p t a = true := by
  (subst hp); (unfold pref); (refine decide_eq_true ?_); (rw [List.idxOf_append, List.idxOf_append, if_neg hpre]); (have h2 : (t :: post).idxOf a = (post.idxOf a) + 1 := by rw [List.idxOf_cons, show (t == a) = false from beq_eq_false_iff_ne.2 hne]; rfl); (have h3 : (t :: post).idxOf t = 0 := List.idxOf_cons_self)
  split
  · rename_i ht
    have := List.idxOf_lt_length_of_mem ht
    omega
  · omega
/-- A candidate that beats another is not excluded before it. -/
theorem beats_stay {n : Nat} {gs : List Grp} (hpos : ∀ g ∈ gs, 1 ≤ g.n) {u : Nat} {a t : Int} (ha : a ∈ lows n gs u) (ht : t ∈ sl n u) (hne : a ≠ t) : sumIf (fst a) gs ≤ sumIf (fun p => pref p t a) gs := by
  (obtain ⟨h1, h2⟩ := mem_lows.1 ha); (have h3 := h2 t ht); (have ra := (mem_sl.1 h1).1); (have rt := (mem_sl.1 ht).1); (rw [vt_eqM ra.1 ra.2, vt_eqM rt.1 rt.2] at h3)
  have m1 : sumIf (fst a) gs ≤ sumIf (fun p => hd (flags n (sl n u)) p == some a) gs := sumIf_mono hpos fun g _ h => by
    (unfold fst at h); (simp only [beq_iff_eq] at h ⊢); (rw [hd_iff])
    cases hp : g.p with
    | nil => rw [hp] at h; cases h
    | cons y r =>
      (rw [hp] at h); (have : y = a := by simpa using h); (subst this); (exact ⟨in_sl.2 h1, [], r, rfl, fun x hx => by cases hx⟩)
  have m2 : sumIf (fun p => hd (flags n (sl n u)) p == some t) gs ≤ sumIf (fun p => pref p t a) gs := sumIf_mono hpos fun g _ h => by
    (simp only [beq_iff_eq] at h); (rw [hd_iff] at h); (obtain ⟨_, pre, post, e, hpre⟩ := h); (refine idx_lt e (fun e => hne e.symm) fun hm => ?_); (have := hpre a hm); (rw [in_sl.2 h1] at this)
    cases this
  omega
theorem sl_eq {n s : Nat} {T : List Int} (hs : ∀ c, c ∈ T ↔ c ∈ sl n s) : srt n T = sl n s := by
  (unfold srt sl); (refine List.filter_congr fun c hc => ?_); (have h := hs c); (rw [mem_sl] at h); (rw [mem_allC] at hc)
  by_cases hb : s.testBit c.toNat = true
  · rw [hb]; exact decide_eq_true (h.2 ⟨hc, hb⟩)
  · (rw [Bool.not_eq_true] at hb); (rw [hb]); (exact decide_eq_false fun hm => by rw [hb] at h; exact absurd (h.1 hm).2 (by decide))
theorem whole {n : Nat} {T : List Int} (hnd : T.Nodup) (hs : ∀ c, c ∈ T ↔ c ∈ allC n) : T.length = n := by
  have hnd2 : (allC n).Nodup := by
    (unfold allC); (exact List.Pairwise.map _ (fun a b h e => h (Int.ofNat.inj e)) List.nodup_range)
  (have hp : T.Perm (allC n) := (List.perm_ext_iff_of_nodup hnd hnd2).2 hs); (rw [hp.length_eq]); (unfold allC)
  simp
/-- An order that the count takes is blocked by no assertions that hold. -/
theorem not_blk {n : Nat} {gs : List Grp} {l : List As} (hn : n ≤ 7) (hpos : ∀ g ∈ gs, 1 ≤ g.n) (hl : ∀ x ∈ l, 0 < mg n gs x) {s : Nat} (hr : Rc 2 n gs s) : ∀ T : List Int, T.Nodup → (∀ c, c ∈ T ↔ c ∈ sl n s) → (∀ t r, T = t :: r → r ≠ [] → t ∈ lows n gs s) → ¬ Blk n l T := by
  have key : ∀ {s : Nat}, Rc 2 n gs s → ∀ T : List Int, (∀ c, c ∈ T ↔ c ∈ sl n s) → (∀ t r, T = t :: r → r ≠ [] → t ∈ lows n gs s) → ∀ x ∈ l, x ∈ opts n T → False := by
    (intro s hr T hs hlow x hxl hxo); (have hm := hl x hxl)
    cases T with
    | nil => cases hxo
    | cons t r =>
      have hts := (hs t).1 List.mem_cons_self
      rcases mem_opts.1 hxo with ⟨a, ⟨h0, h1⟩, h2, rfl⟩ | ⟨b, h1, rfl⟩
      · (obtain ⟨u, hu, hsub⟩ := was_low hn hr h0 h1 fun e => h2 ((hs a).2 e)); (have := beats_stay hpos hu (hsub t hts) (fun e => h2 (by rw [e]; exact List.mem_cons_self))); (unfold mg at hm); (rw [if_pos rfl] at hm)
        dsimp only at hm
        omega
      · (have hlo := hlow t r rfl (List.ne_nil_of_mem h1)); (have := (mem_lows.1 hlo).2 b ((hs b).1 (List.mem_cons_of_mem _ h1))); (unfold mg at hm); (rw [if_neg (by show ¬ (2 : Int) = 1; decide)] at hm)
        dsimp only at hm
        rw [sl_eq hs] at hm
        omega
  have hr' := hr
  induction hr with
  | full =>
    intro T hnd hs hlow hb
    cases hb with
    | here h1 h2 => exact key hr' T hs hlow _ h1 h2
    | kids h1 _ =>
      (rw [sl_full hn] at hs); (have := whole hnd hs)
      omega
  | @step s d hr2 h2 hd ih =>
    intro T hnd hs hlow hb
    cases hb with
    | here h3 h4 => exact key hr' T hs hlow _ h3 h4
    | kids h3 h4 =>
      (have hlt := hr2.lt); (have hls := low_sub hn hlt hd); (have hbs := (bits_sub s (by have := pow7 hn; omega) d.toNat (by omega) hls.2.2.2).2)
      have hdT : d ∉ T := fun e => by
        (have h5 := (mem_sl.1 ((hs d).1 e)).2); (rw [hbs d.toNat (by omega)] at h5)
        simp at h5
      (refine ih hr2 (d :: T) (List.nodup_cons.2 ⟨hdT, hnd⟩) (fun c => ?_) (fun t r e hne => by cases e; exact hd) (h4 d hls.2.2.1.1 hls.2.2.1.2 hdT)); (rw [List.mem_cons])
      by_cases hcd : c = d
      · (subst hcd); (exact ⟨fun _ => (mem_lows.1 hd).1, fun _ => .inl rfl⟩)
      · rw [hs c, mem_sl, mem_sl]
        constructor
        · rintro (h | ⟨h5, h6⟩)
          · exact absurd h hcd
          · (rw [hbs c.toNat (by omega)] at h6); (simp only [Bool.and_eq_true] at h6); (exact ⟨h5, h6.1⟩)
        · (rintro ⟨h5, h6⟩); (refine .inr ⟨h5, ?_⟩); (rw [hbs c.toNat (by omega), h6])
          simp; omega
theorem sl_one {n c : Nat} (hn : n ≤ 7) (hc : c < n) (x : Int) : x ∈ sl n (2 ^ c) ↔ x = (c : Int) := by
  rw [mem_sl]
  constructor
  · (rintro ⟨h1, h2⟩); (rw [bits_pow c (by omega) x.toNat (by omega)] at h2); (have := of_decide_eq_true h2)
    omega
  · (rintro rfl); (refine ⟨⟨by omega, by omega⟩, ?_⟩); (rw [Int.toNat_natCast, bits_pow c (by omega) c (by omega)]); (exact decide_eq_true rfl)
/-- If the assertions block every other winner and hold, the winner is the one. -/
theorem win_same {n : Nat} {gs : List Grp} {l : List As} (hn : n ≤ 7) (hpos : ∀ g ∈ gs, 1 ≤ g.n) (hl : ∀ x ∈ l, 0 < mg n gs x) {w v : Nat} (hv : v < n) (hb : ∀ c : Nat, c < n → c ≠ w → Blk n l [(c : Int)]) (hr : Rc 2 n gs (2 ^ v)) : v = w := by
  (refine Classical.byContradiction fun hne => ?_); (refine not_blk hn hpos hl hr [(v : Int)] (by simp) (fun c => ?_) (fun t r e hne2 => ?_) (hb v hv hne))
  · rw [sl_one hn hv, List.mem_singleton]
  · cases e; exact absurd rfl hne2
/-! ### What derive finds -/
def maxL : List Int → Int
  | [] => 0
  | [a] => a
  | a :: b :: l => max a (maxL (b :: l))
def minL : List Int → Int
  | [] => 0
  | [a] => a
  | a :: b :: l => min a (minL (b :: l))
theorem minL_le : ∀ (l : List Int) (x : Int), x ∈ l → minL l ≤ x
  | [], _, h => by cases h
  | [a], x, h => by rw [List.mem_singleton] at h; subst h; exact Int.le_refl _
  | a :: b :: l, x, h => by
    unfold minL
    rcases List.mem_cons.1 h with rfl | h
    · exact Int.min_le_left _ _
    · exact Int.le_trans (Int.min_le_right _ _) (minL_le (b :: l) x h)
def ownM (n : Nat) (gs : List Grp) (T : List Int) : Int := maxL ((opts n T).map (mg n gs))
def valF (n : Nat) (gs : List Grp) : Nat → List Int → Int
  | 0, T => ownM n gs T
  | f + 1, T => if kids n T = [] then ownM n gs T else max (ownM n gs T) (minL ((kids n T).map (valF n gs f)))
def val (n : Nat) (gs : List Grp) (T : List Int) : Int := valF n gs (n - T.length) T
/-- A list that derive gives for a tail. -/
structure Lst (n : Nat) (gs : List Grp) (T : List Int) (L : List As) : Prop where
  ok : ∀ x ∈ L, Ok n x ∧ val n gs T ≤ mg n gs x
  blk : ∀ l : List As, (∀ x ∈ L, x ∈ l) → Blk n l T
theorem Lst.own {n : Nat} {gs : List Grp} {T : List Int} (hT : Tl n T) {x : As} (hx : x ∈ opts n T) (hm : mg n gs x = val n gs T) : Lst n gs T [x] :=
  ⟨fun y hy => by rw [List.mem_singleton] at hy; subst hy; exact ⟨opts_ok hT hx, by omega⟩, fun l hl => .here (hl x (by simp)) hx⟩
theorem allC_nodup (n : Nat) : (allC n).Nodup := by
  (unfold allC); (exact List.Pairwise.map _ (fun a b h e => h (Int.ofNat.inj e)) List.nodup_range)
theorem srt_perm {n : Nat} {T : List Int} (hT : Tl n T) : T.Perm (srt n T) :=
  (List.perm_ext_iff_of_nodup hT.nd ((allC_nodup n).sublist List.filter_sublist)).2 fun _ => (mem_srt hT.rng).symm
theorem len_le {n : Nat} {T : List Int} (hT : Tl n T) : T.length ≤ n := by
  (rw [(srt_perm hT).length_eq]); (have := List.length_filter_le (fun c => decide (c ∈ T)) (allC n)); (have h : (allC n).length = n := by unfold allC; simp); (unfold srt)
  omega
theorem kids_lt {n : Nat} {T : List Int} (hT : Tl n T) (h : kids n T ≠ []) : T.length < n := by
  (refine Classical.byContradiction fun hn => h ?_); (have h1 := len_le hT)
  have h2 : (srt n T).length = (allC n).length := by
    (rw [← (srt_perm hT).length_eq]); (have h : (allC n).length = n := by unfold allC; simp)
    omega
  (unfold kids); (rw [List.map_eq_nil_iff, List.filter_eq_nil_iff]); (intro c hc); (have h3 := List.length_filter_eq_length_iff.1 h2 c hc)
  simpa using h3
theorem mem_kids {n : Nat} {T : List Int} {c : Int} : (c :: T) ∈ kids n T ↔ (0 ≤ c ∧ c < n) ∧ c ∉ T := by
  (unfold kids); (rw [List.mem_map])
  constructor
  · rintro ⟨a, h, e⟩
    cases e
    (rw [List.mem_filter, mem_allC] at h); (exact ⟨h.1, of_decide_eq_true h.2⟩)
  · (rintro ⟨h1, h2⟩); (exact ⟨c, by rw [List.mem_filter, mem_allC]; exact ⟨h1, decide_eq_true h2⟩, rfl⟩)
theorem Tl.kid {n : Nat} {T : List Int} (hT : Tl n T) {c : Int} (h : (0 ≤ c ∧ c < n) ∧ c ∉ T) : Tl n (c :: T) :=
  ⟨List.nodup_cons.2 ⟨h.2, hT.nd⟩, fun x hx => by rcases List.mem_cons.1 hx with rfl | hx; exact h.1; exact hT.rng x hx, by simp⟩
/-- The value of a tail by those of its children. -/
theorem val_kids {n : Nat} {gs : List Grp} {T : List Int} (hT : Tl n T) (h : kids n T ≠ []) : val n gs T = max (ownM n gs T) (minL ((kids n T).map (val n gs))) := by
  (have hlt := kids_lt hT h); (obtain ⟨f, hf⟩ : ∃ f, n - T.length = f + 1 := ⟨n - T.length - 1, by omega⟩); (unfold val); (rw [hf])
  show (if kids n T = [] then _ else _) = _
  rw [if_neg h]
  congr 2
  refine List.map_congr_left fun K hK => ?_
  have hl : K.length = T.length + 1 := by
    (unfold kids at hK); (obtain ⟨c, _, rfl⟩ := List.mem_map.1 hK)
    rfl
  rw [show n - K.length = f by omega]
theorem val_none {n : Nat} {gs : List Grp} {T : List Int} (h : kids n T = []) : val n gs T = ownM n gs T := by
  unfold val
  cases n - T.length with
  | zero => rfl
  | succ f => show (if kids n T = [] then _ else _) = _; rw [if_pos h]
/-- The children's lists, one behind the other. -/
theorem Lst.kids {n : Nat} {gs : List Grp} {T : List Int} (hT : Tl n T) (hne : ownM n gs T ≠ val n gs T) {L : List As} (h : ∀ K ∈ Go.Nr.kids n T, ∃ M, Lst n gs K M ∧ ∀ x ∈ M, x ∈ L) (hL : ∀ x ∈ L, ∃ K ∈ Go.Nr.kids n T, ∃ M, Lst n gs K M ∧ x ∈ M) : Lst n gs T L := by
  (have hk : Go.Nr.kids n T ≠ [] := fun e => hne (val_none e).symm); (have hv := val_kids (gs := gs) hT hk)
  have hle : ∀ K ∈ Go.Nr.kids n T, val n gs T ≤ val n gs K := fun K hK => by
    (have := minL_le _ _ (List.mem_map_of_mem (f := val n gs) hK)); (have h2 := Int.max_def (ownM n gs T) (minL ((Go.Nr.kids n T).map (val n gs)))); (rw [h2] at hv)
    split at hv <;> omega
  refine ⟨fun x hx => ?_, fun l hl => .kids (kids_lt hT hk) fun c h0 h1 hc => ?_⟩
  · (obtain ⟨K, hK, M, hM, hxM⟩ := hL x hx); (have := hM.ok x hxM); (exact ⟨this.1, Int.le_trans (hle K hK) this.2⟩)
  · (obtain ⟨M, hM, hsub⟩ := h (c :: T) (mem_kids.2 ⟨⟨h0, h1⟩, hc⟩)); (exact hM.blk l fun x hx => hl x (hsub x hx))
end Go.Nr

/- Package assertion: firsts, isAscending, votes; slices.Contains. -/
namespace Go.Nr
open Go.Pil Go.Mg
theorem foldl_sum (c : Int) (l : List Grp) (k : Nat) (h : k < l.length) : sumIf (fst c) (l.take (k + 1)) = sumIf (fst c) (l.take k) + if fst c l[k].p = true then l[k].n else 0 := by
  (rw [List.take_succ_eq_append_getElem h]); (unfold sumIf); (rw [List.map_append, List.sum_append])
  simp
theorem sum_bnd {gs : List Grp} (h : isPile 7 gs = true) (Q : List Int → Bool) (k : Nat) : 0 ≤ sumIf Q (gs.take k) ∧ sumIf Q (gs.take k) ≤ 100000 := by
  (obtain ⟨h1, h2, _⟩ := (isPile_iff _ _).1 h); (have hpos : ∀ g ∈ gs.take k, 1 ≤ g.n := fun g hg => (h1 g (List.take_subset _ _ hg)).2); (have hpos2 : ∀ g ∈ gs.drop k, 1 ≤ g.n := fun g hg => (h1 g (List.drop_subset _ _ hg)).2); (have h3 := tot_append (gs.take k) (gs.drop k)); (rw [List.take_append_drop] at h3); (have h4 := tot_nonneg hpos2); (have h5 := sumIf_le (Q := Q) hpos)
  omega
theorem srt_lt {n : Nat} {T : List Int} {i j : Nat} (h : i < j) (hj : j < (srt n T).length) : (srt n T).getD i 0 < (srt n T).getD j 0 := by
  have hp : (srt n T).Pairwise (· < ·) := by
    (unfold srt allC); (refine List.Pairwise.filter _ ?_); (rw [List.pairwise_map]); (exact List.pairwise_lt_range.imp fun h => Int.ofNat_lt.2 h)
  (have := List.pairwise_iff_getElem.1 hp i j (by omega) hj h); (rw [List.getD_eq_getElem?_getD, List.getD_eq_getElem?_getD, List.getElem?_eq_getElem (by omega), List.getElem?_eq_getElem hj]); (exact this)
theorem srt_in {n : Nat} {T : List Int} {j : Nat} (hj : j < (srt n T).length) : 0 ≤ (srt n T).getD j 0 ∧ (srt n T).getD j 0 < (n : Int) := by
  (rw [List.getD_eq_getElem?_getD, List.getElem?_eq_getElem hj]); (exact (mem_srt' (List.getElem_mem hj)).2)
end Go.Nr
namespace Go.Proofs.YtaobaaaihgahfaaGreat
open Go.RowKit Go.Mk Go.Pil Go.Mg Go.Nr
theorem containsN_any (v : Value) (zs : List Int) (x : Int) (w : World) (hr : RdZ w v zs) : Calls Tryz.prog 40 #[v, .int .i64 x] w fun e w' => e = .returned (.bool (decide (x ∈ zs))) ∧ Qt w w' := by
  have HI := hid (index_any v zs x w hr)
  have hd : Hd (decide (0 ≤ idxI zs x) = decide (x ∈ zs)) := ⟨by
    unfold idxI
    by_cases h : x ∈ zs
    · rw [if_pos h, decide_eq_true h]; exact decide_eq_true (by omega)
    · rw [if_neg h, decide_eq_false h]; rfl⟩
  (obtain ⟨i, hi⟩ : ∃ i, idxI zs x = i := ⟨_, rfl⟩); (rw [hi] at HI hd); (clear hr hi)
  go_enter Tryz.func40, Tryz.ntmps40
  (go_wp2_with fail); (refine HI.out.mono ?_); (rintro e w1 ⟨rfl, q1⟩); (have hd := hd.out); (replace q1 := hid q1); (clear HI); (go_wp2); (go_ret); (exact ⟨by first | rfl | rw [← hd] | rw [hd], q1.out⟩)
set_option maxRecDepth 20000 in
set_option maxHeartbeats 2000000 in
theorem firstsN_any (v : Value) (ps : List (Grp × Value)) (c : Int) (w : World) (hr : RdG w v ps) (hp : isPile 7 (grps ps) = true) : Calls Tryz.prog 136 #[v, .int .i64 c] w fun e w' => e = .returned (.int .i64 (sumIf (fst c) (grps ps))) ∧ Kept no w w' := by
  (obtain ⟨ag, cg, rfl, hcg, hcm⟩ := hr.shape); (have hm63 := maxLen_63); (obtain ⟨m, hm⟩ : ∃ m, ps.length = m := ⟨_, rfl⟩); (have hml : m ≤ 9223372036854775807 := by omega); (have hgl : Hd ((grps ps).length = m) := ⟨by unfold grps; rw [List.length_map]; exact hm⟩); (have hbd := hid (fun k => sum_bnd hp (fst c) k)); (have hpos := hid (fun (g : Grp) (hg : g ∈ grps ps) => (((isPile_iff _ _).1 hp).1 g hg).2)); (have hall : Hd (∀ k, m ≤ k → sumIf (fst c) ((grps ps).take k) = sumIf (fst c) (grps ps)) := ⟨fun k hk => by rw [List.take_of_length_le (by rw [hgl.out]; exact hk)]⟩); (rw [hm] at hr hcg ⊢); (replace hm := hid hm); (replace hr := hid hr); (clear hcg hcm hp)
  go_enter Tryz.func136, Tryz.ntmps136
  go_upto_region 3 with fail
  go_loopw [5, 10] (fun r i wr => ∃ k : Nat, k ≤ m ∧ i = .int .i64 (k : Int) ∧ r = .int .i64 (sumIf (fst c) ((grps ps).take k)) ∧ Hd (Kept no w wr)) (fun _ i _ => m - (intOf i).toNat)
  case atStart => exact ⟨0, by omega, rfl, rfl, ⟨Kept.refl _ _⟩⟩
  case round =>
    obtain ⟨k, hk, rfl, rfl, hK⟩ := hrel
    by_cases hlt : k < m
    · (have hk1 : (k : Int) < (m : Int) := by omega); (have hk0 : (0 : Int) ≤ (k : Int) := by omega); (have hil : k < ps.length := by rw [hm.out]; exact hlt); (have hig : k < (grps ps).length := by rw [hgl.out]; exact hlt); (obtain ⟨b, o, g, u, hao, hpk, c0, c1, hrz⟩ := (hr.out.kept hK.out).at k hil); (subst hao)
      have hgi : (grps ps)[k] = g := by
        (have : (grps ps)[k]? = some g := by unfold grps; rw [List.getElem?_map, List.getElem?_eq_getElem hil, hpk]; rfl); (rw [List.getElem?_eq_getElem hig] at this); (exact Option.some.inj this)
      (have hn1 := hpos.out _ (List.getElem_mem hig)); (have hst := foldl_sum c (grps ps) k hig); (rw [hgi] at hn1 hst); (have hb1 := hbd.out k); (have hb2 := hbd.out (k + 1)); (obtain ⟨S, hS⟩ : ∃ S, sumIf (fst c) ((grps ps).take k) = S := ⟨_, rfl⟩); (rw [hS] at hst hb1 ⊢); (rw [hst] at hb2); (obtain ⟨za, zc, rfl, hzl, hzm⟩ := Rd.shape2 hrz); (obtain ⟨gl, hgl2⟩ : ∃ l, g.p.length = l := ⟨_, rfl⟩); (rw [hgl2] at hzl); (have hglb : gl ≤ 9223372036854775807 := by omega); (clear hzl hzm); (rw [hgl2] at c0 hrz); (obtain ⟨w9, hw9, g9, k9⟩ := alloc_named wr (.cells #[.slice za gl zc, .int .i64 g.n] 105)); (obtain ⟨G, hG9⟩ : ∃ x, wr.heap.size = x := ⟨_, rfl⟩); (have hK0 := hid (hK.out.trans' k9)); (have hrz9 := hid (hrz.kept k9)); (replace hst := hid hst); (replace hb1 := hid hb1); (replace hb2 := hid hb2); (replace hn1 := hid hn1); (replace hgl2 := hid hgl2); (clear hpk hrz hil hig hgi hS hK k9); (go_upto_region 5 with fail); (rw [← hw9]); (try rw [hG9]); (rw [hG9] at g9); (have g9' := hid g9); (clear hw9 hG9 c0 c1 g9); (have s0 : w9.cell? ⟨G, 0, none⟩ = some (.slice za gl zc) := cell_at g9'.out rfl); (have s1 : w9.cell? ⟨G, 1, none⟩ = some (.int .i64 g.n) := cell_at g9'.out rfl)
      cases hpp : g.p with
      | nil =>
        (obtain rfl : 0 = gl := by have := hgl2.out; rw [hpp] at this; exact this); (have hr2 : Hd (sumIf (fst c) ((grps ps).take (k + 1)) = S) := ⟨by rw [hst.out, hpp]; simp [fst]⟩); (replace hpp := hid hpp); (go_wp2); (go_roundw)
        case rel => first | exact ⟨k + 1, by omega, by go_num, by rw [hr2.out], hK0⟩ | ((repeat apply Exists.intro); exact ⟨⟨k + 1, by omega, by go_num, by rw [hr2.out], hK0⟩, rfl⟩)
        case measure => simp [intOf]; omega
      | cons a t =>
        (have hgl0 : 0 < gl := by have := hgl2.out; rw [hpp] at this; rw [← this]; simp); (have hgl1 : (0 : Int) < (gl : Int) := by omega); (obtain ⟨bz, oz, hza, hcz⟩ := RdZ.at hrz9.out 0 (by rw [hpp]; simp)); (subst hza); (have hcz : w9.cell? ⟨bz, oz, none⟩ = some (.int .i64 a) := by rw [hpp] at hcz; exact hcz)
        by_cases hac : a = c
        · have hr2 : Hd (sumIf (fst c) ((grps ps).take (k + 1)) = S + g.n) := ⟨by rw [hst.out, hpp, hac]; simp [fst]⟩
          have hwp : IntKind.i64.wrap (S + g.n) = S + g.n := IntWalk.i64_in _ (by
            have h1 := hb1.out; have h2 := hb2.out; rw [hpp, hac] at h2; simp only [fst, List.head?_cons, beq_self_eq_true, if_true] at h2; omega)
          (have hbe : (a == c) = true := by rw [hac]; exact beq_self_eq_true c); (replace hpp := hid hpp); (replace hac := hid hac); (go_wp2); (go_roundw)
          case rel => first | exact ⟨k + 1, by omega, by go_num, by rw [hr2.out], hK0⟩ | ((repeat apply Exists.intro); exact ⟨⟨k + 1, by omega, by go_num, by rw [hr2.out], hK0⟩, rfl⟩)
          case measure => simp [intOf]; omega
        · (have hr2 : Hd (sumIf (fst c) ((grps ps).take (k + 1)) = S) := ⟨by rw [hst.out, hpp]; simp [fst, hac]⟩); (have hbe : (a == c) = false := beq_eq_false_iff_ne.2 hac); (replace hpp := hid hpp); (go_wp2); (go_roundw)
          case rel => first | exact ⟨k + 1, by omega, by go_num, by rw [hr2.out], hK0⟩ | ((repeat apply Exists.intro); exact ⟨⟨k + 1, by omega, by go_num, by rw [hr2.out], hK0⟩, rfl⟩)
          case measure => simp [intOf]; omega
    · (have hk1 : ¬ (k : Int) < (m : Int) := by omega); (rw [hall.out k (by omega)]); (go_wp2); (go_ret); (exact ⟨rfl, hK.out⟩)
set_option maxRecDepth 20000 in
set_option maxHeartbeats 2000000 in
theorem asc_any (n : Nat) (v : Value) (T : List Int) (w : World) (hr : RdZ w v (srt n T)) : Calls Tryz.prog 133 #[.int .i64 (n : Int), v] w fun e w' => e = .returned (.bool true) ∧ w' = w := by
  (obtain ⟨ao, cap, rfl, hcap, hcm⟩ := Rd.shape2 hr); (have hm63 := maxLen_63); (obtain ⟨m, hm⟩ : ∃ m, (srt n T).length = m := ⟨_, rfl⟩); (have hml : m ≤ 9223372036854775807 := by omega); (have hin := hid (fun (j : Nat) (h : j < m) => srt_in (n := n) (T := T) (j := j) (by rw [hm]; exact h))); (have hlt' := hid (fun (j : Nat) (h0 : 0 < j) (h : j < m) => srt_lt (n := n) (T := T) (i := j - 1) (j := j) (by omega) (by rw [hm]; exact h))); (rw [hm] at hr hcap ⊢); (replace hm := hid hm); (replace hr := hid hr); (clear hcap hcm)
  go_enter Tryz.func133, Tryz.ntmps133
  go_upto_region 2 with fail
  go_loopw [9] (fun i wr => ∃ k : Nat, k ≤ m ∧ i = .int .i64 (k : Int) ∧ wr = w) (fun i _ => m - (intOf i).toNat)
  case atStart => exact ⟨0, by omega, rfl, rfl⟩
  case round =>
    obtain ⟨k, hk, rfl, rfl⟩ := hrel
    by_cases hlt : k < m
    · (have hk1 : (k : Int) < (m : Int) := by omega); (have hk0 : (0 : Int) ≤ (k : Int) := by omega); (obtain ⟨b, o, hao, hc⟩ := RdZ.at hr.out k (by rw [hm.out]; exact hlt)); (obtain ⟨h0, h1⟩ := hin.out k hlt); (have hl' := hlt'.out k)
      have hc' : ∀ j, j < m → wr.cell? ⟨b, o + j, none⟩ = some (.int .i64 ((srt n T).getD j 0)) := fun j hj => by
        (obtain ⟨b', o', hao', hc'⟩ := RdZ.at hr.out j (by rw [hm.out]; exact hj)); (rw [hao] at hao'; cases hao'); (exact hc')
      (subst hao); (obtain ⟨z, hz⟩ : ∃ z, (srt n T).getD k 0 = z := ⟨_, rfl⟩); (rw [hz] at hc h0 h1 hl'); (have hz0 : ¬ z < 0 := by omega); (have hzn : ¬ (n : Int) ≤ z := by omega)
      by_cases hk00 : k = 0
      · (subst hk00); (have hc : wr.cell? ⟨b, o, none⟩ = some (.int .i64 z) := hc); (clear hc' hl' hz); (go_wp2); (go_roundw)
        case rel => first | exact ⟨1, by omega, by go_num, rfl⟩ | exact ⟨1, by omega, by go_num⟩ | exact ⟨1, by omega, by go_num, trivial⟩ | ((repeat apply Exists.intro); exact ⟨⟨1, by omega, by go_num, rfl⟩, rfl⟩)
        case measure => simp [intOf]; omega
      · (have hkp : (0 : Int) < (k : Int) := by omega); (have hkp' : 0 < k := by omega); (have hl := hl' hkp' hlt); (have hcp := hc' (k - 1) (by omega)); (obtain ⟨y, hy⟩ : ∃ y, (srt n T).getD (k - 1) 0 = y := ⟨_, rfl⟩); (rw [hy] at hl hcp); (have hzy : ¬ z ≤ y := by omega); (obtain ⟨j, rfl⟩ : ∃ j, k = j + 1 := ⟨k - 1, by omega⟩); (have hj1 : ((j + 1 : Nat) : Int) - 1 = (j : Int) := by omega); (have hj2 : (j : Int) + 1 - 1 = (j : Int) := by omega); (have hjw : IntKind.i64.wrap (j : Int) = (j : Int) := IntWalk.i64_in _ (by omega)); (have hjm : (j : Int) < (m : Int) := by omega); (have hj0 : (0 : Int) ≤ (j : Int) := by omega); (have hcp : wr.cell? ⟨b, o + j, none⟩ = some (.int .i64 y) := hcp); (clear hc' hl' hz hy); (go_wp2); (go_roundw)
        case rel => first | exact ⟨j + 1 + 1, by omega, by go_num, rfl⟩ | exact ⟨j + 1 + 1, by omega, by go_num⟩ | exact ⟨j + 1 + 1, by omega, by go_num, trivial⟩ | ((repeat apply Exists.intro); exact ⟨⟨j + 1 + 1, by omega, by go_num, rfl⟩, rfl⟩)
        case measure => simp [intOf]; omega
    · (have hk1 : ¬ (k : Int) < (m : Int) := by omega); (go_wp2); (go_ret); (exact ⟨rfl, rfl⟩)
set_option maxRecDepth 20000 in
set_option maxHeartbeats 2000000 in
theorem votesN_any (n : Nat) (vg v : Value) (ps : List (Grp × Value)) (zs : List Int) (w : World) (hn : n ≤ 7) (hg : RdG w vg ps) (hr : RdZ w v zs) (hz : ∀ z ∈ zs, 0 ≤ z ∧ z < (n : Int)) :
    Calls Tryz.prog 137 #[.int .i64 (n : Int), vg, v] w fun e w' => ∃ v', e = .returned v' ∧ OwZ w w' v' (first (grps ps) (flags n zs)).1 := by
  (obtain ⟨ao, cap, rfl, hcap, hcm⟩ := Rd.shape2 hr); (have hm63 := maxLen_63); (obtain ⟨m, hm⟩ : ∃ m, zs.length = m := ⟨_, rfl⟩); (have hml : m ≤ 9223372036854775807 := by omega); (rw [hm] at hr hcap ⊢); (have hmk := makeT n (by omega) w); (obtain ⟨w1, hw1, g1, k1⟩ := alloc_named w (.cells (zsT (List.replicate n false)) 4)); (obtain ⟨g7, hg7⟩ : ∃ g, w.heap.size = g := ⟨_, rfl⟩); (rw [hg7] at hmk g1); (have g1' : Hd (w1.heap[g7]? = some (.cells (zsT (flags n (zs.take 0))) 4 (0, 0))) := ⟨by rw [List.take_zero, flags_nil]; exact g1⟩); (have k01 := hid k1); (replace hm := hid hm); (replace hr := hid hr); (replace hg := hid hg); (replace hz := hid hz); (replace hw1 := hid hw1); (replace hg7 := hid hg7); (clear hcap hcm g1 k1)
  go_enter Tryz.func137, Tryz.ntmps137
  (go_upto_region 3 with fail); (try rw [hg7.out]); (rw [← hw1.out]); (clear hmk hw1)
  go_loopw [16] (fun i wr => ∃ k : Nat, k ≤ m ∧ i = .int .i64 (k : Int) ∧ Hd (wr.heap[g7]? = some (.cells (zsT (flags n (zs.take k))) 4 (0, 0))) ∧ Hd (Kept (fun j => j = g7) w1 wr)) (fun i _ => m - (intOf i).toNat)
  case atStart => exact ⟨0, by omega, rfl, g1', ⟨Kept.refl _ _⟩⟩
  case round =>
    (clear g1'); (obtain ⟨k, hk, rfl, hG, hK⟩ := hrel); (have kw : Hd (Kept no w wr) := ⟨k01.out.trans hK.out fun j hj (e : j = g7) => by have := hg7.out; omega⟩)
    by_cases hlt : k < m
    · (have hk1 : (k : Int) < (m : Int) := by omega); (have hk0 : (0 : Int) ≤ (k : Int) := by omega); (have hkl : k < zs.length := by rw [hm.out]; exact hlt); (obtain ⟨b, o, hao, hc⟩ := RdZ.at (RdZ.kept hr.out kw.out) k hkl); (subst hao); (obtain ⟨z, hzz⟩ : ∃ z, zs.getD k 0 = z := ⟨_, rfl⟩); (have hzr := hz.out z (by rw [← hzz, List.getD_eq_getElem?_getD, List.getElem?_eq_getElem hkl]; exact List.getElem_mem hkl)); (rw [hzz] at hc); (obtain ⟨c, rfl⟩ : ∃ c : Nat, z = (c : Int) := ⟨z.toNat, by omega⟩); (have hcn : c < n := by omega); (have hcn1 : (c : Int) < (n : Int) := by omega); (have hcn0 : (0 : Int) ≤ (c : Int) := by omega); (have fz := row_free hG.out c); (have hcell : ∃ b, wr.cell? ⟨g7, c, none⟩ = some (.bool b) := ⟨(flags n (zs.take k)).getD c false, cell_at hG.out (by unfold zsT; simp [flags_len, hcn])⟩); (obtain ⟨ob_, hcell⟩ := hcell)
      have hG2 : Hd ((wr.setCell ⟨g7, c, none⟩ (.bool true)).heap[g7]? = some (.cells (zsT (flags n (zs.take (k + 1)))) 4 (0, 0))) := ⟨by
        have hzk : zs[k] = (c : Int) := by rw [← hzz, List.getD_eq_getElem?_getD, List.getElem?_eq_getElem hkl]; rfl
        rw [setCell_row hG.out, zsT_set, flags_set _ _ hcn, List.take_succ_eq_append_getElem hkl, hzk]⟩
      (have hK2 : Hd (Kept (fun j => j = g7) w1 (wr.setCell ⟨g7, c, none⟩ (.bool true))) := ⟨hK.out.trans ((Kept.refl (fun j => j = g7) wr).setCell (a := ⟨g7, c, none⟩) (.inl rfl) (.bool true)) fun _ _ h => h⟩); (clear hzz hzr hkl hK hG kw); (go_wp2); (go_roundw)
      case rel => first | exact ⟨k + 1, by omega, by go_num, hG2, hK2⟩ | ((repeat apply Exists.intro); exact ⟨⟨k + 1, by omega, by go_num, hG2, hK2⟩, rfl⟩)
      case measure => simp [intOf]; omega
    · (have hk1 : ¬ (k : Int) < (m : Int) := by omega); (have hrd : RdT wr (.slice (some ⟨g7, 0, none⟩) n n) (flags n zs) := zsT_rd (by have := hG.out; rwa [List.take_of_length_le (by rw [hm.out]; omega)] at this) n (flags_len _ _) (by have : maxLen = 9223372036854775807 := rfl; omega)); (have HF := hid (first_any vg (.slice (some ⟨g7, 0, none⟩) n n) ps (flags n zs) wr (hg.out.kept kw.out) hrd)); (clear hrd hG hK); (go_wp2_with fail); (with_reducible refine HF.out.mono ?_); (rintro e w2 ⟨v', rfl, o⟩); (obtain ⟨av, cv, rfl⟩ := Rd.shapeZ o.rd); (have o' := hid o); (clear HF o); (go_wp2); (go_ret); (exact ⟨_, rfl, ⟨o'.out.own, kw.out.trans' o'.out.kept, o'.out.new.of kw.out.size⟩⟩)
end Go.Proofs.YtaobaaaihgahfaaGreat

/- Package assertion at valid assertions: Valid, Tally, Margin, Holds (printed by gen_as2.py). -/
namespace Go.Proofs.YtaobaaaihgahfaaGreat
open Go.RowKit Go.Mk Go.Pil Go.Mg Go.Nr
/-- An assertion as a value. -/
def asV (x : As) (v : Value) : Value := .agg #[.int .i64 x.k, .int .i64 x.a, .int .i64 x.b, v, .int .i64 x.q]
theorem results_2 {fn : Func} {t u : Tmp} (h : fn.results = #[.tmp t, .tmp u]) (tmps : Array Value) (P : Program) (w : World) : (results fn tmps).run P w = .ok (.tuple #[tmps.getD t undef, tmps.getD u undef]) w := by simp [results, h]
set_option maxRecDepth 20000 in
set_option maxHeartbeats 2000000 in
theorem validN_any (n : Nat) (x : As) (v : Value) (w : World) (hn1 : 1 ≤ n) (hn : n ≤ 7) (hx : Ok n x) (hr : RdZ w v x.am) : Calls Tryz.prog 69 #[.int .i64 (n : Int), asV x v] w fun e w' => e = .returned (.bool true) ∧ Kept no w w' := by
  (unfold asV); (obtain ⟨ao, cap, rfl, hcap, hcm⟩ := Rd.shape2 hr); (have hm63 := maxLen_63); (obtain ⟨k, a, b, am, q⟩ := x); (obtain ⟨a0, an, b0, bn, ne, hq, kind⟩ := hx)
  dsimp only at hcap hr a0 an b0 bn ne hq kind ⊢
  (subst hq); (obtain ⟨A, rfl⟩ : ∃ A : Nat, a = (A : Int) := ⟨a.toNat, by omega⟩); (obtain ⟨B, rfl⟩ : ∃ B : Nat, b = (B : Int) := ⟨b.toNat, by omega⟩); (have c1 : ¬ (n : Int) < 1 := by omega); (have c2 : ¬ (7 : Int) < (n : Int) := by omega); (have c3 : ¬ (A : Int) < 0 := by omega); (have c4 : ¬ (n : Int) ≤ (A : Int) := by omega); (have c5 : ¬ (B : Int) < 0 := by omega); (have c6 : ¬ (n : Int) ≤ (B : Int) := by omega); (have c7 : ((A : Int) == (B : Int)) = false := beq_eq_false_iff_ne.2 ne); (have c8 : ((A : Int) != (B : Int)) = true := bne_iff_ne.2 ne)
  rcases kind with ⟨rfl, rfl⟩ | ⟨rfl, ham, hma, hmb⟩
  · (obtain ⟨w1, hw1, g1, k1⟩ := alloc_named w (.cells #[.int .i64 1, .int .i64 (A : Int), .int .i64 (B : Int), .slice ao 0 cap, .int .i64 0] 59)); (rw [show ([] : List Int).length = 0 from rfl]); (obtain ⟨B0, hB0⟩ : ∃ g, w.heap.size = g := ⟨_, rfl⟩); (rw [hB0] at g1); (have k01 := hid k1); (have b0' := hid g1); (replace hw1 := hid hw1); (replace hB0 := hid hB0); (replace ne := hid ne); (clear hr hcap hcm k1 g1)
    go_enter Tryz.func69, Tryz.ntmps69
    (go_upto_region 1 with fail); (rw [← hw1.out, hB0.out]); (have a0 : w1.cell? ⟨B0, 0, none⟩ = some (.int .i64 1) := cell_at b0'.out rfl); (have a1 : w1.cell? ⟨B0, 1, none⟩ = some (.int .i64 (A : Int)) := cell_at b0'.out rfl); (have a2 : w1.cell? ⟨B0, 2, none⟩ = some (.int .i64 (B : Int)) := cell_at b0'.out rfl); (have a3 : w1.cell? ⟨B0, 3, none⟩ = some (.slice ao 0 cap) := cell_at b0'.out rfl); (have a4 : w1.cell? ⟨B0, 4, none⟩ = some (.int .i64 0) := cell_at b0'.out rfl); (go_wp2); (go_ret); (exact ⟨rfl, k01.out⟩)
  · (obtain ⟨la, hla⟩ : ∃ l, am.length = l := ⟨_, rfl⟩); (have HA := hid (fun (W : World) (k : Kept no w W) => asc_any n (.slice ao am.length cap) am W (by rw [← ham]; exact RdZ.kept hr k))); (have HCa := hid (fun (W : World) (k : Kept no w W) => containsN_any (.slice ao am.length cap) am (A : Int) W (RdZ.kept hr k))); (have HCb := hid (fun (W : World) (k : Kept no w W) => containsN_any (.slice ao am.length cap) am (B : Int) W (RdZ.kept hr k))); (rw [hla] at HA HCa HCb); (rw [decide_eq_true hma] at HCa); (rw [decide_eq_true hmb] at HCb); (obtain ⟨w1, hw1, g1, k1⟩ := alloc_named w (.cells #[.int .i64 2, .int .i64 (A : Int), .int .i64 (B : Int), .slice ao la cap, .int .i64 0] 59)); (obtain ⟨B0, hB0⟩ : ∃ g, w.heap.size = g := ⟨_, rfl⟩); (rw [hB0] at g1); (rw [hla]); (have k01 := hid k1); (have b0' := hid g1); (replace hw1 := hid hw1); (replace hB0 := hid hB0); (replace ne := hid ne); (clear hr hcap hcm k1 g1 ham hma hmb hla)
    go_enter Tryz.func69, Tryz.ntmps69
    (go_upto_region 1 with fail); (rw [← hw1.out, hB0.out]); (have a0 : w1.cell? ⟨B0, 0, none⟩ = some (.int .i64 2) := cell_at b0'.out rfl); (have a1 : w1.cell? ⟨B0, 1, none⟩ = some (.int .i64 (A : Int)) := cell_at b0'.out rfl); (have a2 : w1.cell? ⟨B0, 2, none⟩ = some (.int .i64 (B : Int)) := cell_at b0'.out rfl); (have a3 : w1.cell? ⟨B0, 3, none⟩ = some (.slice ao la cap) := cell_at b0'.out rfl); (have a4 : w1.cell? ⟨B0, 4, none⟩ = some (.int .i64 0) := cell_at b0'.out rfl); (have HA1 := hid (HA.out w1 k01.out)); (go_wp2_with fail); (with_reducible refine HA1.out.mono ?_); (rintro e w2 ⟨rfl, hw2⟩); (subst hw2); (have HC1 := hid (HCa.out w2 k01.out)); (clear HA HA1 HCa); (go_wp2_with fail); (with_reducible refine HC1.out.mono ?_); (rintro e w3 ⟨rfl, q3⟩); (have k03 := hid (k01.out.trans' q3.kept)); (have b3 := hid (q3.kept.blk b0'.out)); (have HC2 := hid (HCb.out w3 k03.out)); (clear HC1 HCb q3 a0 a1 a2 a3 a4 k01 b0'); (have a0 : w3.cell? ⟨B0, 0, none⟩ = some (.int .i64 2) := cell_at b3.out rfl); (have a1 : w3.cell? ⟨B0, 1, none⟩ = some (.int .i64 (A : Int)) := cell_at b3.out rfl); (have a2 : w3.cell? ⟨B0, 2, none⟩ = some (.int .i64 (B : Int)) := cell_at b3.out rfl); (have a3 : w3.cell? ⟨B0, 3, none⟩ = some (.slice ao la cap) := cell_at b3.out rfl); (go_wp2_with fail); (with_reducible refine HC2.out.mono ?_); (rintro e w4 ⟨rfl, q4⟩); (have k04 := hid (k03.out.trans' q4.kept)); (clear HC2 q4 a0 a1 a2 a3); (go_wp2); (go_ret); (exact ⟨rfl, k04.out⟩)
set_option maxRecDepth 20000 in
set_option maxHeartbeats 4000000 in
theorem tallyN_any (n : Nat) (x : As) (vg v : Value) (ps : List (Grp × Value)) (w : World) (hn1 : 1 ≤ n) (hn : n ≤ 7) (hp : isPile (n : Int) (grps ps) = true) (hx : Ok n x) (hr : RdZ w v x.am) (hg : RdG w vg ps) :
    Calls Tryz.prog 73 #[.int .i64 (n : Int), vg, asV x v] w fun e w' => ∃ f g : Int, e = .returned (.tuple #[.int .i64 f, .int .i64 g]) ∧ f - g = mg n (grps ps) x ∧ (0 ≤ f ∧ f ≤ 100000) ∧ (0 ≤ g ∧ g ≤ 100000) ∧ Kept no w w' := by
  (have HV := hid (fun (W : World) (k : Kept no w W) => validN_any n x v W hn1 hn hx (RdZ.kept hr k))); (unfold asV at HV ⊢); (obtain ⟨ao, cap, rfl, hcap, hcm⟩ := Rd.shape2 hr); (have hm63 := maxLen_63); (obtain ⟨k, a, b, am, q⟩ := x); (obtain ⟨a0, an, b0, bn, ne, hq, kind⟩ := hx)
  dsimp only at hcap hr a0 an b0 bn ne hq kind HV ⊢
  (subst hq); (obtain ⟨A, rfl⟩ : ∃ A : Nat, a = (A : Int) := ⟨a.toNat, by omega⟩); (obtain ⟨B, rfl⟩ : ∃ B : Nat, b = (B : Int) := ⟨b.toNat, by omega⟩); (have h7 : isPile 7 (grps ps) = true := isPile_mono (by omega) hp); (have hnp : (decide (1 ≤ (n : Int) ∧ (n : Int) ≤ 7) && isPile (n : Int) (grps ps)) = true := by rw [hp, Bool.and_true]; exact decide_eq_true ⟨by omega, by omega⟩); (have HP := hid (fun (W : World) (k : Kept no w W) => valid_any (n : Int) vg ps W (hg.kept k))); (rw [hnp] at HP); (have hbd := hid (fun (Q : List Int → Bool) => by have := sum_bnd h7 Q (grps ps).length; rwa [List.take_length] at this)); (obtain ⟨la, hla⟩ : ∃ l, am.length = l := ⟨_, rfl⟩); (obtain ⟨w1, hw1, g1, k1⟩ := alloc_named w (.cells #[.int .i64 k, .int .i64 (A : Int), .int .i64 (B : Int), .slice ao la cap, .int .i64 0] 59)); (obtain ⟨B0, hB0⟩ : ∃ g, w.heap.size = g := ⟨_, rfl⟩); (rw [hB0] at g1); (rw [hla] at HV ⊢); (have k01 := hid k1); (have b0' := hid g1); (obtain ⟨agv, cgv, evg, _, _⟩ := hg.shape); (replace evg := hid evg); (replace hw1 := hid hw1); (replace hB0 := hid hB0); (have ne' := hid ne); (have hr' := hid hr); (have hg' := hid hg); (have h7' := hid h7); (have hp' := hid hp); (replace hla := hid hla); (have HV1 := hid (HV.out w1 k1)); (clear hr hcap hcm k1 g1 ne hg h7 hp hnp HV)
  rcases kind with ⟨rfl, rfl⟩ | ⟨rfl, ham, hma, hmb⟩
  · have hpr : Hd (prefers (grps ps) (B : Int) (A : Int) = sumIf (fun p => pref p (B : Int) (A : Int)) (grps ps)) := ⟨by
      unfold prefers
      rw [if_pos ⟨h7'.out, fun e => ne'.out e.symm⟩]⟩
    (have hmg : Hd (mg n (grps ps) ⟨1, (A : Int), (B : Int), [], 0⟩ = sumIf (fst (A : Int)) (grps ps) - sumIf (fun p => pref p (B : Int) (A : Int)) (grps ps)) := ⟨by unfold mg; rw [if_pos rfl]⟩); (have b1 := hid (hbd.out (fst (A : Int)))); (have b2 := hid (hbd.out (fun p => pref p (B : Int) (A : Int)))); (have HF := hid (fun (W : World) (k : Kept no w W) => firstsN_any vg ps (A : Int) W (hg'.out.kept k) h7'.out)); (have HR := hid (fun (W : World) (k : Kept no w W) => prefers_any vg ps (B : Int) (A : Int) W (hg'.out.kept k))); (rw [hpr.out] at HR); (rw [hmg.out]); (obtain ⟨f, hf⟩ : ∃ f, sumIf (fst (A : Int)) (grps ps) = f := ⟨_, rfl⟩); (obtain ⟨g, hgg⟩ : ∃ f, sumIf (fun p => pref p (B : Int) (A : Int)) (grps ps) = f := ⟨_, rfl⟩); (rw [hf] at HF b1 ⊢); (rw [hgg] at HR b2 ⊢); (clear hpr hmg hf hgg hbd hr' h7' hp')
    go_enter Tryz.func73, Tryz.ntmps73
    (go_upto_region 1 with fail); (rw [← hw1.out, hB0.out]); (have a0 : w1.cell? ⟨B0, 0, none⟩ = some (.int .i64 1) := cell_at b0'.out rfl); (have a1 : w1.cell? ⟨B0, 1, none⟩ = some (.int .i64 (A : Int)) := cell_at b0'.out rfl); (have a2 : w1.cell? ⟨B0, 2, none⟩ = some (.int .i64 (B : Int)) := cell_at b0'.out rfl); (have a3 : w1.cell? ⟨B0, 3, none⟩ = some (.slice ao la cap) := cell_at b0'.out rfl); (have a4 : w1.cell? ⟨B0, 4, none⟩ = some (.int .i64 0) := cell_at b0'.out rfl); (go_wp2_with fail); (with_reducible refine HV1.out.mono ?_); (rintro e w2 ⟨rfl, k2⟩); (have k02 := hid (k01.out.trans' k2)); (have b2' := hid (k2.blk b0'.out)); (have HP1 := hid (HP.out w2 k02.out)); (clear HV1 HP a0 a1 a2 a3 a4 k2 k01 b0'); (go_wp2_with fail); (with_reducible refine HP1.out.mono ?_); (rintro e w3 ⟨rfl, k3⟩); (have k03 := hid (k02.out.trans' k3)); (have b3 := hid (k3.blk b2'.out)); (clear HP1 k3 k02 b2'); (have a0 : w3.cell? ⟨B0, 0, none⟩ = some (.int .i64 1) := cell_at b3.out rfl); (go_upto_region 5 with fail); (have d1 : Hd (w3.cell? ⟨B0, 1, none⟩ = some (.int .i64 (A : Int))) := ⟨cell_at b3.out rfl⟩); (have d2 : Hd (w3.cell? ⟨B0, 2, none⟩ = some (.int .i64 (B : Int))) := ⟨cell_at b3.out rfl⟩); (refine region_flow (S := no) (Sl := (fun _ => no)) [Is (vg), Is (.pointer (some ⟨B0, 1, none⟩)), Is (.int .i64 (A : Int)), Is (.int .i64 f), Is (vg), Is (.pointer (some ⟨B0, 2, none⟩)), Is (.int .i64 (B : Int)), Is (.pointer (some ⟨B0, 1, none⟩)), Is (.int .i64 (A : Int)), Is (.int .i64 g), Is (.int .i64 f), Is (.int .i64 g)] [] (fun _ _ h => h) _ (by kernel_rfl) (by kernel_rfl) (by kernel_rfl) (by kernel_rfl) (fun x => by simp only [puts, Act.put, List.map_cons, List.map_nil, Nat.zero_add, Nat.reduceAdd, List.setIfInBounds_toArray, List.set_cons_zero, List.set_cons_succ]; exact rfl) ?_ ?_)
    · (skip); (refine .cons (fun x wf Kk hq hdep hold => ?_) ?_)
      · (try dsimp only); (clear hq hdep hold); (rw [if_pos (by rfl)]); (refine OpY.val ?_ ⟨Kept.refl _ _, rfl⟩); (first | rfl | go_simp)
      refine .cons (fun x wf Kk hq hdep hold => ?_) ?_
      · (try dsimp only); (clear hq hdep hold); (rw [if_pos (by rfl)]); (refine OpY.val ?_ ⟨Kept.refl _ _, rfl⟩); (first | rfl | go_simp)
      refine .cons (fun x wf Kk hq hdep hold => ?_) ?_
      · (try dsimp only); (have h1 : x 1 = _ := hdep 1 (by kernel_rfl)); (have Kq := hq no (fun j hj => by cases (show j ∈ ([] : List Nat) from by (have e : ∀ l : List Nat, l = [] → j ∈ l → j ∈ ([] : List Nat) := fun l h h2 => h ▸ h2); exact e _ (by kernel_rfl) hj))); (clear hq hdep hold); (simp only [h1]); (clear h1); (have m1 := Kq.undrew.cell d1.out id); (rw [if_pos (by rfl)]); (refine OpY.val ?_ ⟨Kept.refl _ _, rfl⟩); (first | rfl | go_simp)
      refine .cons (fun x wf Kk hq hdep hold => ?_) ?_
      · (try dsimp only); (have h0 : x 0 = _ := hdep 0 (by kernel_rfl)); (have h2 : x 2 = _ := hdep 2 (by kernel_rfl)); (have Kq := hq no (fun j hj => by cases (show j ∈ ([] : List Nat) from by (have e : ∀ l : List Nat, l = [] → j ∈ l → j ∈ ([] : List Nat) := fun l h h2 => h ▸ h2); exact e _ (by kernel_rfl) hj))); (clear hq hdep hold); (simp only [h0, h2]); (clear h0 h2); (rw [if_pos (by rfl)]); (refine OpY.call (f := 136) (args := #[(vg), (.int .i64 (A : Int))]) (by go_simp) ?_); (refine (HF.out wf (k03.out.trans' Kq.undrew)).mono ?_); (rintro e w2 ⟨rfl, k2⟩); (exact ⟨_, rfl, k2, rfl⟩)
      refine .cons (fun x wf Kk hq hdep hold => ?_) ?_
      · (try dsimp only); (clear hq hdep hold); (rw [if_pos (by rfl)]); (refine OpY.val ?_ ⟨Kept.refl _ _, rfl⟩); (first | rfl | go_simp)
      refine .cons (fun x wf Kk hq hdep hold => ?_) ?_
      · (try dsimp only); (clear hq hdep hold); (rw [if_pos (by rfl)]); (refine OpY.val ?_ ⟨Kept.refl _ _, rfl⟩); (first | rfl | go_simp)
      refine .cons (fun x wf Kk hq hdep hold => ?_) ?_
      · (try dsimp only); (have h5 : x 5 = _ := hdep 5 (by kernel_rfl)); (have Kq := hq no (fun j hj => by cases (show j ∈ ([] : List Nat) from by (have e : ∀ l : List Nat, l = [] → j ∈ l → j ∈ ([] : List Nat) := fun l h h2 => h ▸ h2); exact e _ (by kernel_rfl) hj))); (clear hq hdep hold); (simp only [h5]); (clear h5); (have m1 := Kq.undrew.cell d2.out id); (rw [if_pos (by rfl)]); (refine OpY.val ?_ ⟨Kept.refl _ _, rfl⟩); (first | rfl | go_simp)
      refine .cons (fun x wf Kk hq hdep hold => ?_) ?_
      · (try dsimp only); (clear hq hdep hold); (rw [if_pos (by rfl)]); (refine OpY.val ?_ ⟨Kept.refl _ _, rfl⟩); (first | rfl | go_simp)
      refine .cons (fun x wf Kk hq hdep hold => ?_) ?_
      · (try dsimp only); (have h7 : x 7 = _ := hdep 7 (by kernel_rfl)); (have Kq := hq no (fun j hj => by cases (show j ∈ ([] : List Nat) from by (have e : ∀ l : List Nat, l = [] → j ∈ l → j ∈ ([] : List Nat) := fun l h h2 => h ▸ h2); exact e _ (by kernel_rfl) hj))); (clear hq hdep hold); (simp only [h7]); (clear h7); (have m1 := Kq.undrew.cell d1.out id); (rw [if_pos (by rfl)]); (refine OpY.val ?_ ⟨Kept.refl _ _, rfl⟩); (first | rfl | go_simp)
      refine .cons (fun x wf Kk hq hdep hold => ?_) ?_
      · (try dsimp only); (have h4 : x 4 = _ := hdep 4 (by kernel_rfl)); (have h6 : x 6 = _ := hdep 6 (by kernel_rfl)); (have h8 : x 8 = _ := hdep 8 (by kernel_rfl)); (have Kq := hq no (fun j hj => by cases (show j ∈ ([] : List Nat) from by (have e : ∀ l : List Nat, l = [] → j ∈ l → j ∈ ([] : List Nat) := fun l h h2 => h ▸ h2); exact e _ (by kernel_rfl) hj))); (clear hq hdep hold); (simp only [h4, h6, h8]); (clear h4 h6 h8); (rw [if_pos (by rfl)]); (refine OpY.call (f := 90) (args := #[(vg), (.int .i64 (B : Int)), (.int .i64 (A : Int))]) (by go_simp) ?_); (refine (HR.out wf (k03.out.trans' Kq.undrew)).mono ?_); (rintro e w2 ⟨rfl, k2⟩); (exact ⟨_, rfl, k2, rfl⟩)
      refine .cons (fun x wf Kk hq hdep hold => ?_) ?_
      · (try dsimp only); (have h3 : x 3 = _ := hdep 3 (by kernel_rfl)); (clear hq hdep hold); (simp only [h3]); (clear h3); (rw [if_pos (by rfl)]); (refine OpY.val ?_ ⟨Kept.refl _ _, rfl⟩); (first | rfl | go_simp)
      refine .cons (fun x wf Kk hq hdep hold => ?_) ?_
      · (try dsimp only); (have h9 : x 9 = _ := hdep 9 (by kernel_rfl)); (clear hq hdep hold); (simp only [h9]); (clear h9); (rw [if_pos (by rfl)]); (refine OpY.val ?_ ⟨Kept.refl _ _, rfl⟩); (first | rfl | go_simp)
      exact .nil _
    · (intro x wf Kk hv); (try dsimp only); (have h10 : x 10 = _ := hv 10 (by kernel_rfl)); (have h11 : x 11 = _ := hv 11 (by kernel_rfl)); (clear hv); (simp only [h10, h11]); (clear h10 h11); (have kF := hid (k03.out.trans' Kk.undrew)); (clear Kk); (go_wp2); (refine bodyPost_ret (v := .tuple #[.int .i64 f, .int .i64 g]) ?_ rfl ?_)
      · exact results_2 (t := 6) (u := 7) (by rfl) _ _ _
      · exact ⟨f, g, rfl, rfl, b1.out, b2.out, kF.out⟩
  · (have hz : ∀ z ∈ am, 0 ≤ z ∧ z < (n : Int) := fun z hz => (mem_srt' (by rw [← ham]; exact hz)).2); (have HVo := hid (fun (W : World) (k : Kept no w W) => votesN_any n vg (.slice ao am.length cap) ps am W hn (hg'.out.kept k) (RdZ.kept hr'.out k) hz))
    have hfe : first (grps ps) (flags n am) = firstV (grps ps) (flags n am) := by
      (unfold first); (rw [if_pos ⟨h7'.out, by rw [flags_len]; exact hn⟩])
    (rw [hfe, hla.out] at HVo); (have hmg : Hd (mg n (grps ps) ⟨2, (A : Int), (B : Int), am, 0⟩ = vt n (grps ps) am (A : Int) - vt n (grps ps) am (B : Int)) := ⟨by unfold mg; rw [if_neg (by show ¬ (2 : Int) = 1; decide)]⟩); (have e1 : vt n (grps ps) am (A : Int) = sumIf (fun p => hd (flags n am) p == some (A : Int)) (grps ps) := vt_eqM (by omega) an); (have e2 : vt n (grps ps) am (B : Int) = sumIf (fun p => hd (flags n am) p == some (B : Int)) (grps ps) := vt_eqM (by omega) bn); (have b1 := hbd.out (fun p => hd (flags n am) p == some (A : Int))); (have b2 := hbd.out (fun p => hd (flags n am) p == some (B : Int))); (rw [← e1] at b1); (rw [← e2] at b2); (rw [hmg.out]); (obtain ⟨f, hf⟩ : ∃ f, vt n (grps ps) am (A : Int) = f := ⟨_, rfl⟩); (obtain ⟨g, hgg⟩ : ∃ f, vt n (grps ps) am (B : Int) = f := ⟨_, rfl⟩); (rw [hf] at b1 ⊢); (rw [hgg] at b2 ⊢); (have hvl : Hd ((firstV (grps ps) (flags n am)).1.length = n) := ⟨by rw [first_len, flags_len]⟩); (have hfA : Hd ((firstV (grps ps) (flags n am)).1.getD A 0 = f) := ⟨by rw [← hf]; unfold vt; rw [Int.toNat_natCast]⟩); (have hfB : Hd ((firstV (grps ps) (flags n am)).1.getD B 0 = g) := ⟨by rw [← hgg]; unfold vt; rw [Int.toNat_natCast]⟩); (replace b1 := hid b1); (replace b2 := hid b2); (have hAn : A < n := by omega); (have hBn : B < n := by omega); (clear hmg hf hgg hbd h7' hp' e1 e2 hfe hz ham hma hmb)
    go_enter Tryz.func73, Tryz.ntmps73
    (go_upto_region 1 with fail); (rw [← hw1.out, hB0.out]); (have a0 : w1.cell? ⟨B0, 0, none⟩ = some (.int .i64 2) := cell_at b0'.out rfl); (have a1 : w1.cell? ⟨B0, 1, none⟩ = some (.int .i64 (A : Int)) := cell_at b0'.out rfl); (have a2 : w1.cell? ⟨B0, 2, none⟩ = some (.int .i64 (B : Int)) := cell_at b0'.out rfl); (have a3 : w1.cell? ⟨B0, 3, none⟩ = some (.slice ao la cap) := cell_at b0'.out rfl); (have a4 : w1.cell? ⟨B0, 4, none⟩ = some (.int .i64 0) := cell_at b0'.out rfl); (go_wp2_with fail); (with_reducible refine HV1.out.mono ?_); (rintro e w2 ⟨rfl, k2⟩); (have k02 := hid (k01.out.trans' k2)); (have b2' := hid (k2.blk b0'.out)); (have HP1 := hid (HP.out w2 k02.out)); (clear HV1 HP a0 a1 a2 a3 a4 k2 k01 b0'); (go_wp2_with fail); (with_reducible refine HP1.out.mono ?_); (rintro e w3 ⟨rfl, k3⟩); (have k03 := hid (k02.out.trans' k3)); (have b3 := hid (k3.blk b2'.out)); (clear HP1 k3 k02 b2'); (have a0 : w3.cell? ⟨B0, 0, none⟩ = some (.int .i64 2) := cell_at b3.out rfl); (have HVo1 := hid (HVo.out w3 k03.out)); (have a3 : w3.cell? ⟨B0, 3, none⟩ = some (.slice ao la cap) := cell_at b3.out rfl); (clear HVo); (go_wp2_with fail); (with_reducible refine HVo1.out.mono ?_); (rintro e w4 ⟨v4, rfl, o⟩); (obtain ⟨av, cv, hv4⟩ := Rd.shapeZ o.rd); (rw [hvl.out] at hv4); (subst hv4); (obtain ⟨bz, oz, hza, cA⟩ := RdZ.at o.rd A (by rw [hvl.out]; exact hAn)); (obtain ⟨bz', oz', hza', cB⟩ := RdZ.at o.rd B (by rw [hvl.out]; exact hBn)); (subst hza); (obtain ⟨rfl, rfl⟩ : bz = bz' ∧ oz = oz' := by cases hza'; exact ⟨rfl, rfl⟩); (rw [hfA.out] at cA); (rw [hfB.out] at cB); (have cA' := hid cA); (have cB' := hid cB); (have k04 := hid (k03.out.trans' o.kept)); (have b4 := hid (o.kept.blk b3.out)); (clear o HVo1 cA cB hza' a3 b3 k03); (have d1 : Hd (w4.cell? ⟨B0, 1, none⟩ = some (.int .i64 (A : Int))) := ⟨cell_at b4.out rfl⟩); (have d2 : Hd (w4.cell? ⟨B0, 2, none⟩ = some (.int .i64 (B : Int))) := ⟨cell_at b4.out rfl⟩); (go_upto_region 8 with fail); (have hA1 : (A : Int) < (n : Int) := by omega); (have hB1 : (B : Int) < (n : Int) := by omega); (have hA0 : (0 : Int) ≤ (A : Int) := by omega); (have hB0' : (0 : Int) ≤ (B : Int) := by omega); (refine region_flow (S := no) (Sl := (fun _ => no)) [Is (.slice (some ⟨bz, oz, none⟩) n cv), Is (.pointer (some ⟨B0, 1, none⟩)), Is (.int .i64 (A : Int)), Is (.pointer (some ⟨bz, oz + A, none⟩)), Is (.int .i64 f), Is (.slice (some ⟨bz, oz, none⟩) n cv), Is (.pointer (some ⟨B0, 2, none⟩)), Is (.int .i64 (B : Int)), Is (.pointer (some ⟨bz, oz + B, none⟩)), Is (.int .i64 g), Is (.int .i64 f), Is (.int .i64 g)] [] (fun _ _ h => h) _ (by kernel_rfl) (by kernel_rfl) (by kernel_rfl) (by kernel_rfl) (fun x => by simp only [puts, Act.put, List.map_cons, List.map_nil, Nat.zero_add, Nat.reduceAdd, List.setIfInBounds_toArray, List.set_cons_zero, List.set_cons_succ]; exact rfl) ?_ ?_)
    · (skip); (refine .cons (fun x wf Kk hq hdep hold => ?_) ?_)
      · (try dsimp only); (clear hq hdep hold); (rw [if_pos (by rfl)]); (refine OpY.val ?_ ⟨Kept.refl _ _, rfl⟩); (first | rfl | go_simp)
      refine .cons (fun x wf Kk hq hdep hold => ?_) ?_
      · (try dsimp only); (clear hq hdep hold); (rw [if_pos (by rfl)]); (refine OpY.val ?_ ⟨Kept.refl _ _, rfl⟩); (first | rfl | go_simp)
      refine .cons (fun x wf Kk hq hdep hold => ?_) ?_
      · (try dsimp only); (have h1 : x 1 = _ := hdep 1 (by kernel_rfl)); (have Kq := hq no (fun j hj => by cases (show j ∈ ([] : List Nat) from by (have e : ∀ l : List Nat, l = [] → j ∈ l → j ∈ ([] : List Nat) := fun l h h2 => h ▸ h2); exact e _ (by kernel_rfl) hj))); (clear hq hdep hold); (simp only [h1]); (clear h1); (have m1 := Kq.undrew.cell d1.out id); (rw [if_pos (by rfl)]); (refine OpY.val ?_ ⟨Kept.refl _ _, rfl⟩); (first | rfl | go_simp)
      refine .cons (fun x wf Kk hq hdep hold => ?_) ?_
      · (try dsimp only); (have h0 : x 0 = _ := hdep 0 (by kernel_rfl)); (have h2 : x 2 = _ := hdep 2 (by kernel_rfl)); (clear hq hdep hold); (simp only [h0, h2]); (clear h0 h2); (rw [if_pos (by rfl)]); (refine OpY.val ?_ ⟨Kept.refl _ _, rfl⟩); (first | rfl | go_simp)
      refine .cons (fun x wf Kk hq hdep hold => ?_) ?_
      · (try dsimp only); (have h3 : x 3 = _ := hdep 3 (by kernel_rfl)); (have Kq := hq no (fun j hj => by cases (show j ∈ ([] : List Nat) from by (have e : ∀ l : List Nat, l = [] → j ∈ l → j ∈ ([] : List Nat) := fun l h h2 => h ▸ h2); exact e _ (by kernel_rfl) hj))); (clear hq hdep hold); (simp only [h3]); (clear h3); (have m1 := Kq.undrew.cell cA'.out id); (rw [if_pos (by rfl)]); (refine OpY.val ?_ ⟨Kept.refl _ _, rfl⟩); (first | rfl | go_simp)
      refine .cons (fun x wf Kk hq hdep hold => ?_) ?_
      · (try dsimp only); (clear hq hdep hold); (rw [if_pos (by rfl)]); (refine OpY.val ?_ ⟨Kept.refl _ _, rfl⟩); (first | rfl | go_simp)
      refine .cons (fun x wf Kk hq hdep hold => ?_) ?_
      · (try dsimp only); (clear hq hdep hold); (rw [if_pos (by rfl)]); (refine OpY.val ?_ ⟨Kept.refl _ _, rfl⟩); (first | rfl | go_simp)
      refine .cons (fun x wf Kk hq hdep hold => ?_) ?_
      · (try dsimp only); (have h6 : x 6 = _ := hdep 6 (by kernel_rfl)); (have Kq := hq no (fun j hj => by cases (show j ∈ ([] : List Nat) from by (have e : ∀ l : List Nat, l = [] → j ∈ l → j ∈ ([] : List Nat) := fun l h h2 => h ▸ h2); exact e _ (by kernel_rfl) hj))); (clear hq hdep hold); (simp only [h6]); (clear h6); (have m1 := Kq.undrew.cell d2.out id); (rw [if_pos (by rfl)]); (refine OpY.val ?_ ⟨Kept.refl _ _, rfl⟩); (first | rfl | go_simp)
      refine .cons (fun x wf Kk hq hdep hold => ?_) ?_
      · (try dsimp only); (have h5 : x 5 = _ := hdep 5 (by kernel_rfl)); (have h7 : x 7 = _ := hdep 7 (by kernel_rfl)); (clear hq hdep hold); (simp only [h5, h7]); (clear h5 h7); (rw [if_pos (by rfl)]); (refine OpY.val ?_ ⟨Kept.refl _ _, rfl⟩); (first | rfl | go_simp)
      refine .cons (fun x wf Kk hq hdep hold => ?_) ?_
      · (try dsimp only); (have h8 : x 8 = _ := hdep 8 (by kernel_rfl)); (have Kq := hq no (fun j hj => by cases (show j ∈ ([] : List Nat) from by (have e : ∀ l : List Nat, l = [] → j ∈ l → j ∈ ([] : List Nat) := fun l h h2 => h ▸ h2); exact e _ (by kernel_rfl) hj))); (clear hq hdep hold); (simp only [h8]); (clear h8); (have m1 := Kq.undrew.cell cB'.out id); (rw [if_pos (by rfl)]); (refine OpY.val ?_ ⟨Kept.refl _ _, rfl⟩); (first | rfl | go_simp)
      refine .cons (fun x wf Kk hq hdep hold => ?_) ?_
      · (try dsimp only); (have h4 : x 4 = _ := hdep 4 (by kernel_rfl)); (clear hq hdep hold); (simp only [h4]); (clear h4); (rw [if_pos (by rfl)]); (refine OpY.val ?_ ⟨Kept.refl _ _, rfl⟩); (first | rfl | go_simp)
      refine .cons (fun x wf Kk hq hdep hold => ?_) ?_
      · (try dsimp only); (have h9 : x 9 = _ := hdep 9 (by kernel_rfl)); (clear hq hdep hold); (simp only [h9]); (clear h9); (rw [if_pos (by rfl)]); (refine OpY.val ?_ ⟨Kept.refl _ _, rfl⟩); (first | rfl | go_simp)
      exact .nil _
    · (intro x wf Kk hv); (try dsimp only); (have h10 : x 10 = _ := hv 10 (by kernel_rfl)); (have h11 : x 11 = _ := hv 11 (by kernel_rfl)); (clear hv); (simp only [h10, h11]); (clear h10 h11); (have kF := hid (k04.out.trans' Kk.undrew)); (clear Kk); (go_wp2); (refine bodyPost_ret (v := .tuple #[.int .i64 f, .int .i64 g]) ?_ rfl ?_)
      · exact results_2 (t := 6) (u := 7) (by rfl) _ _ _
      · exact ⟨f, g, rfl, rfl, b1.out, b2.out, kF.out⟩
set_option maxHeartbeats 1000000 in
theorem marginN_any (n : Nat) (x : As) (vg v : Value) (ps : List (Grp × Value)) (w : World) (hn1 : 1 ≤ n) (hn : n ≤ 7) (hp : isPile (n : Int) (grps ps) = true) (hx : Ok n x) (hr : RdZ w v x.am) (hg : RdG w vg ps) :
    Calls Tryz.prog 24 #[.int .i64 (n : Int), vg, asV x v] w fun e w' => e = .returned (.int .i64 (mg n (grps ps) x)) ∧ Kept no w w' := by
  (obtain ⟨ao, la, cap, rfl⟩ : ∃ ao la cap, v = .slice ao la cap := by obtain ⟨ao, cap, rfl, _⟩ := Rd.shape2 hr; exact ⟨_, _, _, rfl⟩); (obtain ⟨w1, hw1, g1, k1⟩ := alloc_named w (.cells #[.int .i64 x.k, .int .i64 x.a, .int .i64 x.b, .slice ao la cap, .int .i64 x.q] 59)); (have HT := hid (tallyN_any n x vg (.slice ao la cap) ps w1 hn1 hn hp hx (RdZ.kept hr k1) (hg.kept k1))); (obtain ⟨agv, cgv, evg, _, _⟩ := hg.shape); (obtain ⟨B0, hB0⟩ : ∃ g, w.heap.size = g := ⟨_, rfl⟩); (rw [hB0] at g1); (unfold asV at HT ⊢); (obtain ⟨k, a, b, am, q⟩ := x)
  dsimp only at HT hw1 g1 ⊢
  (have k01 := hid k1); (have b0' := hid g1); (replace evg := hid evg); (replace hw1 := hid hw1); (replace hB0 := hid hB0); (obtain ⟨mgx, hmgx⟩ : ∃ m, mg n (grps ps) ⟨k, a, b, am, q⟩ = m := ⟨_, rfl⟩); (rw [hmgx] at HT ⊢); (clear hr hg hp hx k1 g1 hmgx)
  go_enter Tryz.func24, Tryz.ntmps24
  (go_upto_region 1 with fail); (rw [← hw1.out, hB0.out]); (have a0 : w1.cell? ⟨B0, 0, none⟩ = some (.int .i64 k) := cell_at b0'.out rfl); (have a1 : w1.cell? ⟨B0, 1, none⟩ = some (.int .i64 a) := cell_at b0'.out rfl); (have a2 : w1.cell? ⟨B0, 2, none⟩ = some (.int .i64 b) := cell_at b0'.out rfl); (have a3 : w1.cell? ⟨B0, 3, none⟩ = some (.slice ao la cap) := cell_at b0'.out rfl); (have a4 : w1.cell? ⟨B0, 4, none⟩ = some (.int .i64 q) := cell_at b0'.out rfl); (go_wp2_with fail); (with_reducible refine HT.out.mono ?_); (rintro e w2 ⟨f, g, rfl, hfg, hf, hg2, k2⟩); (have kF := hid (k01.out.trans' k2)); (have hw : IntKind.i64.wrap (f - g) = f - g := IntWalk.i64_in _ (by omega)); (have hfg' := hid hfg); (clear HT a0 a1 a2 a3 a4 k2 hfg); (go_wp2); (go_ret); (first | exact ⟨rfl, kF.out⟩ | exact ⟨hfg'.out, kF.out⟩ | exact ⟨by rw [hfg'.out]; rfl, kF.out⟩)
set_option maxHeartbeats 1000000 in
theorem holdsN_any (n : Nat) (x : As) (vg v : Value) (ps : List (Grp × Value)) (w : World) (hn1 : 1 ≤ n) (hn : n ≤ 7) (hp : isPile (n : Int) (grps ps) = true) (hx : Ok n x) (hr : RdZ w v x.am) (hg : RdG w vg ps) :
    Calls Tryz.prog 23 #[.int .i64 (n : Int), vg, asV x v] w fun e w' => e = .returned (.bool (decide (0 < mg n (grps ps) x))) ∧ Kept no w w' := by
  (obtain ⟨ao, la, cap, rfl⟩ : ∃ ao la cap, v = .slice ao la cap := by obtain ⟨ao, cap, rfl, _⟩ := Rd.shape2 hr; exact ⟨_, _, _, rfl⟩); (obtain ⟨w1, hw1, g1, k1⟩ := alloc_named w (.cells #[.int .i64 x.k, .int .i64 x.a, .int .i64 x.b, .slice ao la cap, .int .i64 x.q] 59)); (have HT := hid (marginN_any n x vg (.slice ao la cap) ps w1 hn1 hn hp hx (RdZ.kept hr k1) (hg.kept k1))); (obtain ⟨agv, cgv, evg, _, _⟩ := hg.shape); (obtain ⟨B0, hB0⟩ : ∃ g, w.heap.size = g := ⟨_, rfl⟩); (rw [hB0] at g1); (unfold asV at HT ⊢); (obtain ⟨k, a, b, am, q⟩ := x)
  dsimp only at HT hw1 g1 ⊢
  (have k01 := hid k1); (have b0' := hid g1); (replace evg := hid evg); (replace hw1 := hid hw1); (replace hB0 := hid hB0); (obtain ⟨mgx, hmgx⟩ : ∃ m, mg n (grps ps) ⟨k, a, b, am, q⟩ = m := ⟨_, rfl⟩); (rw [hmgx] at HT ⊢); (clear hr hg hp hx k1 g1 hmgx)
  go_enter Tryz.func23, Tryz.ntmps23
  (go_upto_region 1 with fail); (rw [← hw1.out, hB0.out]); (have a0 : w1.cell? ⟨B0, 0, none⟩ = some (.int .i64 k) := cell_at b0'.out rfl); (have a1 : w1.cell? ⟨B0, 1, none⟩ = some (.int .i64 a) := cell_at b0'.out rfl); (have a2 : w1.cell? ⟨B0, 2, none⟩ = some (.int .i64 b) := cell_at b0'.out rfl); (have a3 : w1.cell? ⟨B0, 3, none⟩ = some (.slice ao la cap) := cell_at b0'.out rfl); (have a4 : w1.cell? ⟨B0, 4, none⟩ = some (.int .i64 q) := cell_at b0'.out rfl); (go_wp2_with fail); (with_reducible refine HT.out.mono ?_); (rintro e w2 ⟨rfl, k2⟩); (have kF := hid (k01.out.trans' k2)); (clear HT a0 a1 a2 a3 a4 k2); (go_wp2); (go_ret); (exact ⟨rfl, kF.out⟩)
end Go.Proofs.YtaobaaaihgahfaaGreat

/- A map of which one knows: every entry is right. And what lies beside two maps. -/
namespace Go.Nr
open Go.RowKit Go.Mk Go.Maps
/-- Elements are told as they are. -/
def heldR (v : Value) : Option (DataW Value × List MemPlace) := some (.held v, [])
/-- Block b is a map of at most N entries, each of which is right. -/
def MapS (P : Program) (K : TypeId) (w : World) (b N : Nat) (S : Lit → Value → Prop) : Prop :=
  ∃ D : DataW Value, w.ownsMap P K heldR b N D ∧ ∀ kl, Maps.has D kl = true → ∃ v, (∀ z, D.atKey kl z = .held v) ∧ S kl v
def IsMp (w : World) (b : Nat) : Prop := ∃ es c, w.heap[b]? = some (.map es c)
theorem MapS.isMp {P : Program} {K : TypeId} {w : World} {b N : Nat} {S : Lit → Value → Prop} (h : MapS P K w b N S) : IsMp w b := by
  (obtain ⟨D, ⟨es, c, h, _⟩, _⟩ := h); (exact ⟨es, c, h⟩)
theorem MapS.mono {P : Program} {K : TypeId} {w w' : World} {b N N' : Nat} {S S' : Lit → Value → Prop} (h : MapS P K w b N S) (hb : w'.heap[b]? = w.heap[b]?) (hN : N ≤ N') (hS : ∀ kl v, S kl v → S' kl v) : MapS P K w' b N' S' := by
  (obtain ⟨D, ⟨es, c, h1, h2, h3, h4⟩, h5⟩ := h); (refine ⟨D, ⟨es, c, hb.trans h1, h2, Nat.le_trans h3 hN, h4⟩, fun kl hk => ?_⟩); (obtain ⟨v, h6, h7⟩ := h5 kl hk); (exact ⟨v, h6, hS _ _ h7⟩)
theorem MapS.made (P : Program) (K : TypeId) (w : World) (S : Lit → Value → Prop) : MapS P K (w.alloc (.map #[] 0)) w.heap.size 0 S :=
  ⟨.map [], World.ownsMap_made w P K heldR, fun kl h => by cases h⟩
theorem MapS.look {P : Program} {K e t : TypeId} {w : World} {b N : Nat} {S : Lit → Value → Prop} (h : MapS P K w b N S) (law : Keyed P K) (ht : P.underlying t = some (.map K e)) {z : Value} (hz : (zeroValue e).run P w = .ok z w) {key : Value} {kl : Lit} (hk : keyOf P K key = some kl) :
    ∃ v, (∃ ok, (Instr.lookup t (.map (some b)) key true).run P w = .ok (.tuple #[v, .bool ok]) w ∧ ((ok = true ∧ S kl v) ∨ (ok = false ∧ v = z))) := by
  (obtain ⟨D, h1, h2⟩ := h); (obtain ⟨v, ps, hrun, hv⟩ := h1.look_ok law ht hz (zd := .held z) (zp := []) rfl hk)
  cases hh : Maps.has D kl with
  | true =>
    (obtain ⟨u, h3, h4⟩ := h2 kl hh); (rw [h3] at hv); (have : u = v := by unfold heldR at hv; cases hv; rfl); (subst this); (rw [hh] at hrun); (exact ⟨u, true, hrun, .inl ⟨rfl, h4⟩⟩)
  | false =>
    (rw [hh] at hrun); (refine ⟨v, false, hrun, .inr ⟨rfl, ?_⟩⟩); (obtain ⟨es, c, hb, F, _, rfl⟩ := h1)
    rcases Maps.fit_look true law ht hz hb F hk with ⟨hr2, _, _⟩ | ⟨e0, y, _, _, hr2, _, hat, _⟩
    · (rw [hr2] at hrun); (have := congrArg (fun r => match r with | Result.ok (Value.tuple a) _ => a.getD 0 undef | _ => undef) hrun)
      simpa using this.symm
    · rw [Maps.has_true_of_atKey hat] at hh; cases hh
theorem grown_kept {w w' : World} {b : Nat} (h : w.grownBy w' (some b)) : Kept (fun j => j = b) w w' := ⟨h.os, h.tape, h.output, h.size, fun j hj hn => h.block j hj fun e => hn (by cases e; rfl)⟩
theorem MapS.put {P : Program} {K e t : TypeId} {w : World} {b N : Nat} {S : Lit → Value → Prop} (h : MapS P K w b N S) (law : Keyed P K) (ht : P.underlying t = some (.map K e)) (hN : N < maxLen) {key val : Value} {kl : Lit} (hk : keyOf P K key = some kl) (hS : S kl val) :
    ∃ w', (Instr.mapUpdate t (.map (some b)) key val).run P w = .ok () w' ∧ MapS P K w' b (N + 1) S ∧ Kept (fun j => j = b) w w' := by
  (obtain ⟨D, h1, h2⟩ := h); (obtain ⟨w', hrun, h3, h4⟩ := h1.update law ht hN hk (d := .held val) (ps := []) rfl); (refine ⟨w', hrun, ⟨_, h3, fun kl' hh => ?_⟩, grown_kept h4⟩)
  by_cases he : kl' = kl
  · (subst he); (exact ⟨val, fun z => Maps.atKey_put_same h1.isMap (law.key hk) _ z, hS⟩)
  · (rw [Maps.has_put_other he] at hh); (obtain ⟨v, h5, h6⟩ := h2 kl' hh); (exact ⟨v, fun z => by rw [Maps.atKey_put_other he]; exact h5 z, h6⟩)
/-- What turns: the two maps. -/
def bm (V M j : Nat) : Prop := j = V ∨ j = M
theorem cell_km {w w' : World} {V M : Nat} (hV : IsMp w V) (hM : IsMp w M) (k : Kept (bm V M) w w') {a : Addr} {u : Value} (h : w.cell? a = some u) : w'.cell? a = some u := by
  refine k.cell h ?_
  have nomap : ∀ b, a.block = b → IsMp w b → False := fun b e ⟨es, c, hb⟩ => by
    (unfold World.cell? at h); (rw [e, hb] at h)
    simp at h
  rintro (e | e)
  · exact nomap _ e hV
  · exact nomap _ e hM
theorem rd_km {w w' : World} {V M : Nat} (hV : IsMp w V) (hM : IsMp w M) (k : Kept (bm V M) w w') {sz n : Nat} {v : Value} {xs : List Value} (h : Rd w sz v n xs) : Rd w' sz v n xs := by
  (obtain ⟨h1, ao, cap, h2, h3, h4, h5⟩ := h); (refine ⟨h1, ao, cap, h2, h3, h4, h5.imp_right ?_⟩); (rintro ⟨b, o, h6, h7⟩); (exact ⟨b, o, h6, fun j u hu => cell_km hV hM k (h7 j u hu)⟩)
theorem own_km {w w' : World} {V M : Nat} (hV : IsMp w V) (hM : IsMp w M) (k : Kept (bm V M) w w') {base size n : Nat} {e : TypeId} {v : Value} {xs : List Value} (h : w.ownsRow base e size v n xs) : w'.ownsRow base e size v n xs := by
  (refine k.ownsRow h fun j hj hs => ?_); (obtain ⟨_, ⟨rfl, _⟩ | ⟨g, cap, cur, rfl, _, hg, _⟩⟩ := h)
  · cases hj
  · (have : g = j := by have := hj; simpa [Value.ownBlock] using this); (subst this)
    rcases hs with rfl | rfl
    · obtain ⟨es, c, hb⟩ := hV; rw [hg] at hb; cases hb
    · obtain ⟨es, c, hb⟩ := hM; rw [hg] at hb; cases hb
theorem blk_km {w w' : World} {V M : Nat} (hV : IsMp w V) (hM : IsMp w M) (k : Kept (bm V M) w w') {g : Nat} {c : Array Value} {t : TypeId} {fr : Nat × Nat} (h : w.heap[g]? = some (.cells c t fr)) : w'.heap[g]? = some (.cells c t fr) := by
  (have hl : g < w.heap.size := lt_of_heap h); (refine (k.block g hl ?_).trans h); (rintro (rfl | rfl))
  · obtain ⟨es, c, hb⟩ := hV; rw [h] at hb; cases hb
  · obtain ⟨es, c, hb⟩ := hM; rw [h] at hb; cases hb
end Go.Nr
namespace Go.Proofs.YtaobaaaihgahfaaGreat
open Go.RowKit Go.Mk Go.Pil Go.Mg Go.Nr
theorem rdZ_km {w w' : World} {V M : Nat} (hV : IsMp w V) (hM : IsMp w M) (k : Kept (bm V M) w w') {v : Value} {zs : List Int} (h : RdZ w v zs) : RdZ w' v zs := rd_km hV hM k h
theorem rdG_km {w w' : World} {V M : Nat} (hV : IsMp w V) (hM : IsMp w M) (k : Kept (bm V M) w w') {v : Value} {ps : List (Grp × Value)} (h : RdG w v ps) : RdG w' v ps := ⟨fun x hx => rd_km hV hM k (h.1 x hx), rd_km hV hM k h.2⟩
theorem rdB_km {w w' : World} {V M : Nat} (hV : IsMp w V) (hM : IsMp w M) (k : Kept (bm V M) w w') {v : Value} {bs : List (List Int × Value)} (h : RdB w v bs) : RdB w' v bs := ⟨fun x hx => rd_km hV hM k (h.1 x hx), rd_km hV hM k h.2⟩
end Go.Proofs.YtaobaaaihgahfaaGreat

/- slices.Values of a list of numbers: the iterator's contract (turned from the worked example of slices.Values). -/
namespace Go.Proofs.YtaobaaaihgahfaaGreat
open Go.RowKit Go.Shelf Go.Mk Go.Pil Go.Nr
attribute [local go_sem] Oper.semAt_some
/-- The first k numbers. -/
def upTo (zs : List Int) (k : Nat) : List Int := (List.range k).map fun j => zs[j]?.getD 0
theorem upTo_succ (zs : List Int) (k : Nat) : upTo zs (k + 1) = upTo zs k ++ [zs[k]?.getD 0] := by simp [upTo, List.range_succ]
theorem upTo_len (zs : List Int) (k : Nat) : (upTo zs k).length = k := by simp [upTo]
theorem upTo_all (zs : List Int) : upTo zs zs.length = zs := by
  apply List.ext_getElem
  · simp [upTo]
  · intro i h1 h2
    simp [upTo, h2]
set_option maxRecDepth 100000 in
set_option maxHeartbeats 2000000 in
theorem values1_in (F : Fence) (n : Nat) (hf : F.fn 215) (hro : F.round = none) (hn : 1 ≤ n) (l Bs n0 b off len cap : Nat) (zs : List Int) (hreach : len ≤ 1000) (hb : b < n0) (J Jx : List Int → World → Prop)
    (hY : ∀ pre x W, J pre W → pre.length < len → YieldAt F (n - 1) Tryz.prog l #[.int .i64 x] W fun e W' =>
      (e = .returned (.bool true) ∧ J (pre ++ [x]) W' ∧ Below n0 W W') ∨ (e = .returned (.bool false) ∧ Jx (pre ++ [x]) W'))
    (W : World) (hBs : W.cell? ⟨Bs, 0, none⟩ = some (.slice (some ⟨b, off, none⟩) len cap)) (hc : ∀ j, j < len → W.cell? ⟨b, off + j, none⟩ = some (.int .i64 (zs[j]?.getD 0))) (h0 : J [] W) :
    CallsIn F n Tryz.prog 215 #[.func (.yield l) #[] #[], .pointer (some ⟨Bs, 0, none⟩)] W fun e W' => (∃ v, e = .returned v) ∧
      ((∃ ys, ys = upTo zs len ∧ J ys W') ∨ (∃ pre, (∃ k, k ≤ len ∧ pre = upTo zs k) ∧ Jx pre W')) := by
  (refine callsIn_of_wp Tryz.func215 rfl hf ?_ hro); (simp only [Tryz.ntmps215, List.size_toArray, List.length_cons, List.length_nil, Nat.reduceAdd, Nat.reduceSub, Array.replicate_succ, Array.replicate_zero, List.push_toArray, List.append_toArray, List.nil_append, List.cons_append])
  gi_wp2
  gi_loopw [7] (fun i wr => ∃ k : Nat, k ≤ len ∧ i = .int .i64 k ∧ J (upTo zs k) wr ∧ Below n0 W wr)
    (fun i _ => len - (intOf i).toNat)
  case atStart => exact ⟨0, Nat.zero_le _, rfl, h0, Below.refl _ _⟩
  case round =>
    (obtain ⟨k, hk, rfl, hJs, hnx⟩ := hrel); (have hcx : k < len → wr.cell? ⟨b, off + k, none⟩ = some (.int .i64 (zs[k]?.getD 0)) := fun h => (hnx.cell (p := ⟨b, off + k, none⟩) hb).trans (hc k h))
    by_cases hlt : k < len
    · (obtain ⟨fn, tmps, assign, body, hy, hR⟩ := hY _ (zs[k]?.getD 0) wr hJs (by rw [upTo_len]; exact hlt)); (have hcx' := hcx hlt)
      gi_wp2
      (refine hR.mono ?_); (rintro e W3 (⟨rfl, hJ3, hk3⟩ | ⟨rfl, hJx3⟩))
      · gi_wp2
        go_roundw
        case rel => exact ⟨k + 1, by omega, by simp, by rw [upTo_succ]; exact hJ3, hnx.trans hk3⟩
        case measure => simp [intOf]; omega
      · gi_wp2
        (refine bodyPost_ret (results_none rfl _ _ _) rfl ?_); (exact ⟨⟨_, rfl⟩, .inr ⟨_, ⟨k + 1, by omega, (upTo_succ _ _).symm⟩, hJx3⟩⟩)
    · obtain rfl : k = len := by omega
      gi_wp2
      go_end0
      exact ⟨⟨_, rfl⟩, .inl ⟨_, rfl, hJs⟩⟩
theorem values_stops (F : Fence) (n : Nat) (hf : F.fn 215) (hro : F.round = none) (hn : 1 ≤ n) (Bs n0 b off cap : Nat) (zs : List Int) (hreach : zs.length ≤ 1000) (w : World) (hBs : Bs < w.heap.size) (hn0 : n0 ≤ w.heap.size) (hb : b < n0)
    (hc : w.cell? ⟨Bs, 0, none⟩ = some (.slice (some ⟨b, off, none⟩) zs.length cap)) (hI : ∀ j, j < zs.length → w.cell? ⟨b, off + j, none⟩ = some (.int .i64 (zs[j]?.getD 0))) :
    SeqStopsK F n Tryz.prog 215 #[.pointer (some ⟨Bs, 0, none⟩)] (fun x : Int => #[Value.int .i64 x]) (Below n0) (fun ys => ys = zs) (fun _ => True) zs.length w := fun l J Jx W hW _ _ hY h0 => by
  (have hc' := (hW.cell (p := ⟨Bs, 0, none⟩) hBs).trans hc); (refine (values1_in F n hf hro hn l Bs n0 b off zs.length cap zs hreach hb J Jx hY W hc' (fun j hj => (hW.cell (p := ⟨b, off + j, none⟩) (Nat.lt_of_lt_of_le hb hn0)).trans (hI j hj)) h0).mono ?_); (rintro e W' ⟨he, ⟨ys, rfl, hj⟩ | ⟨pre, _, hj⟩⟩)
  · exact ⟨he, .inl ⟨_, upTo_all zs, hj⟩⟩
  · exact ⟨he, .inr ⟨_, trivial, hj⟩⟩
set_option maxHeartbeats 400000 in
theorem valuesN_any (a : Option Addr) (len cap : Nat) (w : World) : Calls Tryz.prog 180 #[.slice a len cap] w fun e w' => e = .returned (.func (.func 215) #[] #[.pointer (some ⟨w.heap.size, 0, none⟩)]) ∧ w' = w.alloc (.cells #[.slice a len cap] 26) := by
  go_enter Tryz.func180, Tryz.ntmps180
  (go_wp2); (go_ret); (exact ⟨rfl, rfl⟩)
end Go.Proofs.YtaobaaaihgahfaaGreat

/- slices.Sort at int: its laying (printed by gen_lays.py). -/
namespace Go.Proofs.YtaobaaaihgahfaaGreat
open Go.Shelf Go.RowKit
def sortIRen : Go.Shelf.Ren := ⟨fun | 5 => 157 | 7 => 203 | 8 => 131 | 10 => 226 | 11 => 227 | 12 => 228 | 13 => 229 | 14 => 230 | 15 => 231 | 16 => 232 | 17 => 233 | 18 => 234 | 19 => 189 | 20 => 190 | 30 => 249 | 31 => 217 | 32 => 218 | 33 => 250 | 34 => 251 | 35 => 145 | 40 => 255 | n => n, fun | 0 => 0 | 3 => 3 | 4 => 4 | 5 => 5 | 9 => 9 | 22 => 26 | 23 => 26 | 25 => 3 | 32 => 158 | 35 => 229 | 36 => 230 | 41 => 141 | 44 => 202 | 46 => 171 | 53 => 256 | 57 => 260 | 63 => 278 | 64 => 137 | n => n, fun n => n⟩
theorem sortILays : Go.Proofs.SlLaysM.n5 Tryz.prog sortIRen := { mixed := by kernel_rfl, f5 := ⟨Tryz.f157.name, by decide, by kernel_rfl⟩, f7 := ⟨Tryz.f203.name, by decide, by kernel_rfl⟩, f8 := by kernel_rfl, f10 := ⟨Tryz.f226.name, by decide, by kernel_rfl⟩, f11 := ⟨Tryz.f227.name, by decide, by kernel_rfl⟩, f12 := ⟨Tryz.f228.name, by decide, by kernel_rfl⟩, f13 := ⟨Tryz.f229.name, by decide, by kernel_rfl⟩, f14 := ⟨Tryz.f230.name, by decide, by kernel_rfl⟩, f15 := ⟨Tryz.f231.name, by decide, by kernel_rfl⟩, f16 := ⟨Tryz.f232.name, by decide, by kernel_rfl⟩, f17 := ⟨Tryz.f233.name, by decide, by kernel_rfl⟩, f18 := ⟨Tryz.f234.name, by decide, by kernel_rfl⟩, f19 := by kernel_rfl, f20 := by kernel_rfl, f30 := ⟨Tryz.f249.name, by decide, by kernel_rfl⟩, f31 := by kernel_rfl, f32 := by kernel_rfl, f33 := ⟨Tryz.f250.name, by decide, by kernel_rfl⟩, f34 := ⟨Tryz.f251.name, by decide, by kernel_rfl⟩, f35 := ⟨Tryz.f145.name, by decide, by kernel_rfl⟩, f40 := ⟨Tryz.f255.name, by decide, by kernel_rfl⟩, t0 := by kernel_rfl, a0 := fun _ => by kernel_rfl, z0 := fun _ => by kernel_rfl, v0 := fun _ => by kernel_rfl, t3 := by kernel_rfl, a3 := fun _ => by kernel_rfl, z3 := fun _ => by kernel_rfl, v3 := fun _ => by kernel_rfl, t4 := by kernel_rfl, a4 := fun _ => by kernel_rfl, z4 := fun _ => by kernel_rfl, v4 := fun _ => by kernel_rfl, t5 := by kernel_rfl, a5 := fun _ => by kernel_rfl, z5 := fun _ => by kernel_rfl, v5 := fun _ => by kernel_rfl, t9 := by kernel_rfl, a9 := fun _ => by kernel_rfl, z9 := fun _ => by kernel_rfl, v9 := fun _ => by kernel_rfl, t22 := by kernel_rfl, a22 := fun _ => by kernel_rfl, z22 := fun _ => by kernel_rfl, v22 := fun _ => by kernel_rfl, t23 := by kernel_rfl, a23 := fun _ => by kernel_rfl, z23 := fun _ => by kernel_rfl, v23 := fun _ => by kernel_rfl, t25 := by kernel_rfl, a25 := fun _ => by kernel_rfl, z25 := fun _ => by kernel_rfl, v25 := fun _ => by kernel_rfl, t32 := by kernel_rfl, a32 := fun _ => by kernel_rfl, z32 := fun _ => by kernel_rfl, v32 := fun _ => by kernel_rfl, t35 := by kernel_rfl, a35 := fun _ => by kernel_rfl, z35 := fun _ => by kernel_rfl, v35 := fun _ => by kernel_rfl, t36 := by kernel_rfl, a36 := fun _ => by kernel_rfl, z36 := fun _ => by kernel_rfl, v36 := fun _ => by kernel_rfl, t41 := by kernel_rfl, a41 := fun _ => by kernel_rfl, z41 := fun _ => by kernel_rfl, v41 := fun _ => by kernel_rfl, t44 := by kernel_rfl, a44 := fun _ => by kernel_rfl, z44 := fun _ => by kernel_rfl, v44 := fun _ => by kernel_rfl, t46 := by kernel_rfl, a46 := fun _ => by kernel_rfl, z46 := fun _ => by kernel_rfl, v46 := fun _ => by kernel_rfl, t53 := by kernel_rfl, a53 := fun _ => by kernel_rfl, z53 := fun _ => by kernel_rfl, v53 := fun _ => by kernel_rfl, t57 := by kernel_rfl, a57 := fun _ => by kernel_rfl, z57 := fun _ => by kernel_rfl, v57 := fun _ => by kernel_rfl, t63 := by kernel_rfl, a63 := fun _ => by kernel_rfl, z63 := fun _ => by kernel_rfl, v63 := fun _ => by kernel_rfl, t64 := by kernel_rfl, a64 := fun _ => by kernel_rfl, z64 := fun _ => by kernel_rfl, v64 := fun _ => by kernel_rfl }
end Go.Proofs.YtaobaaaihgahfaaGreat

/- slices.Sorted of slices.Values: AppendSeq, Collect, Sorted (the caller of an iterator, by the laws of a range over a function). -/
namespace Go.Proofs.YtaobaaaihgahfaaGreat
open Go.RowKit Go.Shelf Go.Mk Go.Pil Go.Nr Go.Sort
attribute [local go_sem] Oper.semAt_some
theorem infoInt3 : (Tryz.prog.info? 3).map (fun i => (i.zero, i.size, i.bytes)) = some (some (.int .i64 0), 1, 8) := by kernel_rfl
/-- The value that slices.Values hands back: its list lies boxed in block Bs. -/
def seqV (Bs : Nat) : Value := .func (.func 215) #[] #[.pointer (some ⟨Bs, 0, none⟩)]
structure SeqAt (w : World) (Bs : Nat) (zs : List Int) : Prop where
  lt : Bs < w.heap.size
  box : ∃ b off cap, b < w.heap.size ∧ w.cell? ⟨Bs, 0, none⟩ = some (.slice (some ⟨b, off, none⟩) zs.length cap) ∧ ∀ j, j < zs.length → w.cell? ⟨b, off + j, none⟩ = some (.int .i64 (zs[j]?.getD 0))
set_option maxRecDepth 100000 in
set_option maxHeartbeats 2000000 in
theorem appendSeqN_in (F : Fence) (n : Nat) (hf : F.fn 245) (hv1 : F.fn 215) (hro : F.round = none) (hn : 3 ≤ n) (Bs : Nat) (zs : List Int) (hz : zs.length ≤ 1000) (w : World) (hS : SeqAt w Bs zs) :
    CallsIn F n Tryz.prog 245 #[.slice none 0 0, seqV Bs] w fun e W' => ∃ v, e = .returned v ∧ W'.ownsRow w.heap.size 3 1 v zs.length (zs.map (Value.int .i64)) ∧ (v = .slice none 0 0 ↔ zs = []) ∧ Below w.heap.size w W' := by
  (have h1 : 1 ≤ n := by omega); (have hml : maxLen = 9223372036854775807 := rfl); (obtain ⟨hlt, b, off, cap, hb, hc, hI⟩ := hS); (obtain ⟨i0, hi, hz0, hz1, hz2⟩ := info_parts infoInt3); (refine callsIn_of_wp_marks Tryz.func245 rfl hf ?_ hro); (simp only [Tryz.ntmps245, List.size_toArray, List.length_cons, List.length_nil, Nat.reduceAdd, Nat.reduceSub, Array.replicate_succ, Array.replicate_zero, List.push_toArray, List.append_toArray, List.nil_append, List.cons_append])
  gi_wp2
  (have bO := Boxed.new w 26 (.slice none 0 0)); (have hB0 : Below w.heap.size w (w.alloc (.cells #[.slice none 0 0] 26)) := (Below.refl _ w).alloc (Nat.le_refl _) _)
  refine wpIn_rangeFunc_ownG hro h1 (gf := 215) (lb := #[.pointer (some ⟨Bs, 0, none⟩)]) rfl hv1 (enters_of Tryz.func215 (by kernel_rfl) rfl)
    (values_stops F (n - 1) hv1 hro (by omega) Bs w.heap.size b off cap zs hz _ (by simp; omega) (by simp) hb ((hB0.cell (p := ⟨Bs, 0, none⟩) hlt).trans hc) (fun j hj => (hB0.cell (p := ⟨b, off + j, none⟩) hb).trans (hI j hj))) belowK_t (belowK_b (by simp)) (Below.refl _ _) (fun _ => rfl)
    (fun pre W => (∃ v, Boxed W w.heap.size 26 v ∧ W.ownsRow w.heap.size 3 1 v pre.length (pre.map (Value.int .i64)) ∧ (v = .slice none 0 0 ↔ pre = [])) ∧ Below w.heap.size w W)
    (fun _ _ _ => False)
    (OwnFrom.and (Own.from (holdsRow_own w.heap.size w.heap.size 26 3 1 (fun pre : List Int => pre.length) (fun pre => pre.map (Value.int .i64)) (fun pre v => v = .slice none 0 0 ↔ pre = [])) _) (ownFrom_below (Nat.le_refl _) (by simp)))
    (fun _ _ _ _ _ hs _ _ => hs)
    ⟨⟨_, bO, World.ownsRow_nil _ _ _ _, by simp⟩, hB0⟩
    (fun x => { tmps := #[.slice none 0 0, seqV Bs, .pointer (some ⟨w.heap.size, 0, none⟩), undef, .slice none 0 0, .int .i64 x, seqV Bs, .int .i64 x, undef, undef, undef, undef, undef], defers := [] }) ?assign ?body ?done ?stop
  case assign =>
    intro l x W K hK
    gi_wp2
    exact hK
  case body =>
    (rintro l pre x W ⟨⟨v, hv, hrow, hnil⟩, hB⟩ hlt); (have hc := hv.cell); (have hle := hB.size)
    gi_wp2_with (gi_at_builtin; refine wpListIn_append_own _ rfl _ _ 26 rfl w.heap.size 3 i0 (.int .i64 0) 1 8 Tryz.underlying26 hi hz0 hz1 hz2 rfl (by decide) _ _ _ rfl (hrow.alloc _) ⟨W.heap.size, 0, none⟩ 1 1 [.int .i64 x] rfl rfl (cell_one_new _ _ _) (by simp [Value.oneCell']) (by omega) (by omega) (by have := hB.size; simp; omega) ?_; intro v' w1 hown' hgrow _; obtain ⟨g', cap', rfl⟩ := ownsRow_succ hown'; obtain ⟨hv1, hv2, hr2, hk2, hb2⟩ := hv.appended (by decide) hrow hB.size (Nat.le_refl _) hown' hgrow; have hc1 := hv1.cell; have hf1 := hv1.frozen)
    exact ⟨hk2.from _, hb2, ⟨_, hv2, by simpa using hr2, by simp⟩, hB.trans hb2⟩
  case done =>
    (rintro D ys W hD rfl ⟨⟨v, hv, hrow, hnil⟩, hB⟩ hK); (have hc := hv.cell)
    gi_wp2
    (refine ⟨by simp, .inl ⟨_, _, rfl, run_takeDeferred hK, ?_⟩⟩); (exact ⟨_, results_tmp rfl _ _ _, v, rfl, ownsRow_putObj hrow _ hK rfl, hnil, hB.trans (belowK_b (w := w) (Nat.le_refl _) W D _ _ (by simp at hD; omega) hK rfl rfl)⟩)
  case stop =>
    (rintro D c pre W _ _ h _); (exact h.elim)
set_option maxHeartbeats 1000000 in
theorem collectN_in (F : Fence) (n : Nat) (hf : F.fn 214) (hf2 : F.fn 245) (hv1 : F.fn 215) (hro : F.round = none) (hn : 4 ≤ n) (Bs : Nat) (zs : List Int) (hz : zs.length ≤ 1000) (w : World) (hS : SeqAt w Bs zs) :
    CallsIn F n Tryz.prog 214 #[seqV Bs] w fun e W' => ∃ v, e = .returned v ∧ W'.ownsRow w.heap.size 3 1 v zs.length (zs.map (Value.int .i64)) ∧ (v = .slice none 0 0 ↔ zs = []) ∧ Below w.heap.size w W' := by
  (have h1 : 1 ≤ n := by omega); (refine callsIn_of_wp Tryz.func214 rfl hf ?_ hro); (simp only [Tryz.ntmps214, List.size_toArray, List.length_cons, List.length_nil, Nat.reduceAdd, Nat.reduceSub, Array.replicate_succ, Array.replicate_zero, List.push_toArray, List.append_toArray, List.nil_append, List.cons_append])
  gi_wp2_with (gi_at_call 245; refine (appendSeqN_in F (n - 1) hf2 hv1 hro (by omega) Bs zs hz _ hS).mono ?_; rintro e w' ⟨v, rfl, hrow, hnil, hb⟩)
  (go_ret); (exact ⟨v, rfl, hrow, hnil, hb⟩)
theorem collectN_any (Bs : Nat) (zs : List Int) (hz : zs.length ≤ 1000) (w : World) (hS : SeqAt w Bs zs) :
    Calls Tryz.prog 214 #[seqV Bs] w fun e W' => ∃ v, e = .returned v ∧ W'.ownsRow w.heap.size 3 1 v zs.length (zs.map (Value.int .i64)) ∧ (v = .slice none 0 0 ↔ zs = []) ∧ Below w.heap.size w W' :=
  (callsIn_wide (n := 4)).1 (collectN_in Fence.wide 4 trivial trivial trivial rfl (by omega) Bs zs hz w hS)
def sortZ (zs : List Int) : List Int := zs.mergeSort fun x y => decide (x ≤ y)
set_option maxRecDepth 20000 in
set_option maxHeartbeats 1000000 in
theorem sortedN_any (Bs : Nat) (zs : List Int) (hz : zs.length ≤ 1000) (hne : zs ≠ []) (w : World) (hS : SeqAt w Bs zs) :
    Calls Tryz.prog 179 #[seqV Bs] w fun e w' => ∃ v, e = .returned v ∧ OwZ w w' v (sortZ zs) := by
  (have HC := hid (collectN_any Bs zs hz w hS)); (unfold seqV at HC ⊢)
  go_enter Tryz.func179, Tryz.ntmps179
  (go_wp2_with fail); (with_reducible refine HC.out.mono ?_); (rintro e w1 ⟨v, rfl, hrow, hnil, hb⟩); (clear HC)
  rcases hrow.2 with ⟨rfl, hz0⟩ | ⟨gb, cap, cur, rfl, hbase, hgb, r1, r2, r3, r4⟩
  · exact absurd (hnil.1 rfl) hne
  · (have hH : Holds (Value.int .i64) w1 gb 0 zs.toArray := holds_of_block_i hgb (by simpa using r4)); (have hgl : gb < w1.heap.size := (Array.getElem?_eq_some_iff.1 hgb).1); (have HS : Calls Tryz.prog 157 #[.slice (some ⟨gb, 0, none⟩) zs.length cap] w1 fun e w' => e = .returned (.tuple #[]) ∧ ∃ k os, w' = grow (putRow (Value.int .i64) (Sort.ahead w1 k) gb 0 (sortZ zs).toArray) os := AnyM.slices_Sort_int sortILays gb 0 cap zs w1 hH hgl (by omega))
    have ho : ∀ k os, OwZ w (grow (putRow (Value.int .i64) (Sort.ahead w1 k) gb 0 (sortZ zs).toArray) os) (.slice (some ⟨gb, 0, none⟩) zs.length cap) (sortZ zs) := fun k os => by
      (have h1 := ownsRow_sorted_i (w := w1) (base := w.heap.size) (n := k) (os := os) (ts := sortZ zs) (by unfold sortZ; simp) hbase hgb r1 r2 r3); (have h2 := hb.grown (grownBy_sorted_i (w := w1) (g := gb) (n := k) (os := os) (sortZ zs).toArray) hb.size (fun j hj => by cases hj; exact hbase)); (have hl : (sortZ zs).length = zs.length := by unfold sortZ; simp); (exact ⟨by rw [hl]; obtain ⟨q1, q2⟩ := h1; exact ⟨q1, q2.imp_right fun ⟨g, c, u, e1, _, e3⟩ => ⟨g, c, u, e1, Nat.zero_le _, e3⟩⟩, ⟨h2.os, h2.tape, h2.output, h2.size, fun j hj _ => h2.block j hj⟩, .inr ⟨gb, rfl, hbase⟩⟩)
    (replace HS := hid HS); (replace ho := hid ho); (clear hrow hnil hb hgb r1 r2 r3 r4 hH hgl hbase); (go_wp2_with fail); (with_reducible refine HS.out.mono ?_); (rintro e w2 ⟨rfl, k, os, rfl⟩); (have ho' := hid (ho.out k os)); (clear HS ho); (obtain ⟨w2, hw2⟩ : ∃ W, grow (putRow (Value.int .i64) (Sort.ahead w1 k) gb 0 (sortZ zs).toArray) os = W := ⟨_, rfl⟩); (rw [hw2] at ho' ⊢); (go_wp2); (go_ret); (exact ⟨_, rfl, ho'.out⟩)
end Go.Proofs.YtaobaaaihgahfaaGreat
