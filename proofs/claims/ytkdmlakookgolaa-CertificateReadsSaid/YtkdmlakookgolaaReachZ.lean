/- Sets of candidates as numbers; which sets can remain. -/
import Derived.Test.YtkdmlakookgolaaMTailZ
namespace Go.Mg
open Go.Pil
theorem bits_sub : ∀ s < 128, ∀ c < 7, s.testBit c = true → (2 ^ c ≤ s) ∧ ∀ i < 7, (s - 2 ^ c).testBit i = (s.testBit i && decide (i ≠ c)) := by decide +kernel
theorem bits_pow : ∀ c < 7, ∀ i < 7, (2 ^ c).testBit i = decide (i = c) := by decide +kernel
theorem bits_full : ∀ n ≤ 7, ∀ i < 7, (2 ^ n - 1).testBit i = decide (i < n) := by decide +kernel
theorem bits_ext : ∀ n ≤ 7, ∀ s < 2 ^ n, ∀ t < 2 ^ n, (∀ i < n, s.testBit i = t.testBit i) → s = t := by
  intro n hn s hs t ht h
  apply Nat.eq_of_testBit_eq
  intro i
  by_cases hi : i < n
  · exact h i hi
  · (have e : ∀ x, x < 2 ^ n → x.testBit i = false := fun x hx => Nat.testBit_lt_two_pow (Nat.lt_of_lt_of_le hx (Nat.pow_le_pow_right (by decide) (by omega)))); (rw [e s hs, e t ht])
/-- The candidates of a set, ascending. -/
def sl (n s : Nat) : List Int := (allC n).filter fun c => s.testBit c.toNat
theorem mem_sl {n s : Nat} {x : Int} : x ∈ sl n s ↔ (0 ≤ x ∧ x < n) ∧ s.testBit x.toNat = true := by unfold sl; rw [List.mem_filter, mem_allC]
theorem pow7 {n : Nat} (h : n ≤ 7) : 2 ^ n ≤ 128 := Nat.pow_le_pow_right (n := 2) (by decide) h
theorem sl_full {n : Nat} (h : n ≤ 7) : sl n (2 ^ n - 1) = allC n := by
  (unfold sl); (rw [List.filter_eq_self]); (intro x hx); (have := mem_allC.1 hx); (rw [bits_full n h x.toNat (by omega)])
  simp; omega
/-- The candidates of a set with the least votes. -/
def lows (n : Nat) (gs : List Grp) (s : Nat) : List Int := (sl n s).filter fun c => (sl n s).all fun d => decide (vt n gs (sl n s) c ≤ vt n gs (sl n s) d)
theorem mem_lows {n : Nat} {gs : List Grp} {s : Nat} {c : Int} : c ∈ lows n gs s ↔ c ∈ sl n s ∧ ∀ d ∈ sl n s, vt n gs (sl n s) c ≤ vt n gs (sl n s) d := by
  unfold lows; rw [List.mem_filter]; simp
theorem low_exists {n : Nat} (gs : List Grp) {s : Nat} (h : sl n s ≠ []) : ∃ c, c ∈ lows n gs s := by
  have : ∀ l : List Int, l ≠ [] → ∃ c ∈ l, ∀ d ∈ l, vt n gs (sl n s) c ≤ vt n gs (sl n s) d := by
    intro l
    induction l with
    | nil => intro h; exact absurd rfl h
    | cons x l ih =>
      intro _
      by_cases hl : l = []
      · subst hl; exact ⟨x, by simp, fun d hd => by rw [List.mem_singleton.1 hd]; exact Int.le_refl _⟩
      · obtain ⟨c, hc, hm⟩ := ih hl
        rcases Int.le_total (vt n gs (sl n s) x) (vt n gs (sl n s) c) with h1 | h1
        · exact ⟨x, by simp, fun d hd => by
            rcases List.mem_cons.1 hd with rfl | hd
            · exact Int.le_refl _
            · exact Int.le_trans h1 (hm d hd)⟩
        · exact ⟨c, by simp [hc], fun d hd => by
            rcases List.mem_cons.1 hd with rfl | hd
            · exact h1
            · exact hm d hd⟩
  (obtain ⟨c, hc, hm⟩ := this _ h); (exact ⟨c, mem_lows.2 ⟨hc, hm⟩⟩)
/-- The sets that can remain by some way of breaking ties, where candidates are excluded from sets of at least k. -/
inductive Rc (k n : Nat) (gs : List Grp) : Nat → Prop
  | full : Rc k n gs (2 ^ n - 1)
  | step {s : Nat} {c : Int} : Rc k n gs s → k ≤ (sl n s).length → c ∈ lows n gs s → Rc k n gs (s - 2 ^ c.toNat)
theorem Rc.lt {k n : Nat} {gs : List Grp} {s : Nat} (h : Rc k n gs s) : s < 2 ^ n := by
  induction h with
  | full => have := Nat.two_pow_pos n; omega
  | step _ _ _ ih => exact Nat.lt_of_le_of_lt (Nat.sub_le _ _) ih
theorem low_sub {n : Nat} {gs : List Grp} {s : Nat} {c : Int} (hn : n ≤ 7) (hs : s < 2 ^ n) (h : c ∈ lows n gs s) : 2 ^ c.toNat ≤ s ∧ s - 2 ^ c.toNat < s ∧ (0 ≤ c ∧ c < n) ∧ s.testBit c.toNat = true := by
  (have h1 := (mem_lows.1 h).1); (have h2 := mem_sl.1 h1); (have h3 := pow7 hn); (have h4 := (bits_sub s (by omega) c.toNat (by omega) h2.2).1); (have := Nat.two_pow_pos c.toNat); (exact ⟨h4, by omega, h2.1, h2.2⟩)
/-- What the list of reached sets holds when the sets above s have been looked at, and of s the exclusions of Q. -/
def InvQ (k n : Nat) (gs : List Grp) (s : Nat) (Q : Int → Prop) (L : List Bool) : Prop :=
  L.length = 2 ^ n ∧ ∀ t, t < 2 ^ n → (L.getD t false = true ↔ t = 2 ^ n - 1 ∨ (∃ u c, s < u ∧ u < 2 ^ n ∧ Rc k n gs u ∧ k ≤ (sl n u).length ∧ c ∈ lows n gs u ∧ t = u - 2 ^ c.toNat) ∨ (Rc k n gs s ∧ k ≤ (sl n s).length ∧ ∃ c, c ∈ lows n gs s ∧ Q c ∧ t = s - 2 ^ c.toNat))
def Inv (k n : Nat) (gs : List Grp) (s : Nat) (L : List Bool) : Prop := InvQ k n gs s (fun _ => False) L
theorem inv_start (k n : Nat) (gs : List Grp) : Inv k n gs (2 ^ n - 1) ((List.replicate (2 ^ n) false).set (2 ^ n - 1) true) := by
  (have hp := Nat.two_pow_pos n); (refine ⟨by simp, fun t ht => ?_⟩); (rw [List.getD_eq_getElem?_getD, List.getElem?_set])
  constructor
  · intro h
    by_cases he : 2 ^ n - 1 = t
    · exact .inl he.symm
    · rw [if_neg he] at h; simp [ht] at h
  · rintro (h | ⟨u, _, h1, h2, _⟩ | ⟨_, _, c, _, hf, _⟩)
    · rw [if_pos h.symm, if_pos (by rw [List.length_replicate]; omega)]; rfl
    · omega
    · exact hf.elim
theorem inv_at {k n : Nat} {gs : List Grp} {s : Nat} {L : List Bool} (hn : n ≤ 7) (h : Inv k n gs s L) {t : Nat} (hst : s ≤ t) (ht : t < 2 ^ n) : L.getD t false = true ↔ Rc k n gs t := by
  rw [h.2 t ht]
  constructor
  · rintro (h | ⟨u, c, _, _, h3, h4, h5, rfl⟩ | ⟨_, _, c, _, hf, _⟩)
    · rw [h]; exact .full
    · exact .step h3 h4 h5
    · exact hf.elim
  · intro hr
    cases hr with
    | full => exact .inl rfl
    | step h3 h4 h5 =>
      rename_i u c
      (have := low_sub hn h3.lt h5); (exact .inr (.inl ⟨u, c, by omega, h3.lt, h3, h4, h5, rfl⟩))
theorem inv_next {k n : Nat} {gs : List Grp} {s : Nat} {L : List Bool} {Q : Int → Prop} (hs : 1 ≤ s) (hs2 : s < 2 ^ n) (h : InvQ k n gs s Q L) (hQ : Rc k n gs s → k ≤ (sl n s).length → ∀ c ∈ lows n gs s, Q c) : Inv k n gs (s - 1) L := by
  (refine ⟨h.1, fun t ht => ?_⟩); (rw [h.2 t ht])
  constructor
  · rintro (h | ⟨u, c, h1, h2⟩ | ⟨h1, h2, c, h3, _, h4⟩)
    · exact .inl h
    · exact .inr (.inl ⟨u, c, by omega, h2⟩)
    · exact .inr (.inl ⟨s, c, by omega, hs2, h1, h2, h3, h4⟩)
  · rintro (h | ⟨u, c, h1, h2, h3, h4, h5, h6⟩ | ⟨_, _, c, _, hf, _⟩)
    · exact .inl h
    · by_cases hu : u = s
      · subst hu; exact .inr (.inr ⟨h3, h4, c, h5, hQ h3 h4 c h5, h6⟩)
      · exact .inr (.inl ⟨u, c, by omega, h2, h3, h4, h5, h6⟩)
    · exact hf.elim
theorem inv_set {k n : Nat} {gs : List Grp} {s : Nat} {L : List Bool} {Q Q' : Int → Prop} {c : Int} (hn : n ≤ 7) (h : InvQ k n gs s Q L) (hr : Rc k n gs s) (hk : k ≤ (sl n s).length) (hc : c ∈ lows n gs s) (hQ : ∀ x, Q' x ↔ Q x ∨ x = c) : InvQ k n gs s Q' (L.set (s - 2 ^ c.toNat) true) := by
  (have hl := low_sub hn hr.lt hc); (have hs := hr.lt); (refine ⟨by rw [List.length_set]; exact h.1, fun t ht => ?_⟩); (rw [List.getD_eq_getElem?_getD, List.getElem?_set])
  by_cases he : s - 2 ^ c.toNat = t
  · (rw [if_pos he, if_pos (by rw [h.1]; omega)]); (simp only [Option.getD_some, true_iff]); (exact .inr (.inr ⟨hr, hk, c, hc, (hQ c).2 (.inr rfl), he.symm⟩))
  · rw [if_neg he, ← List.getD_eq_getElem?_getD, h.2 t ht]
    constructor
    · rintro (h | h | ⟨h1, h2, x, h3, h4, h5⟩)
      · exact .inl h
      · exact .inr (.inl h)
      · exact .inr (.inr ⟨h1, h2, x, h3, (hQ x).2 (.inl h4), h5⟩)
    · rintro (h | h | ⟨h1, h2, x, h3, h4, h5⟩)
      · exact .inl h
      · exact .inr (.inl h)
      · rcases (hQ x).1 h4 with h4 | rfl
        · exact .inr (.inr ⟨h1, h2, x, h3, h4, h5⟩)
        · exact absurd h5.symm he
theorem invQ_congr {k n : Nat} {gs : List Grp} {s : Nat} {L : List Bool} {Q Q' : Int → Prop} (h : InvQ k n gs s Q L) (hQ : ∀ c ∈ lows n gs s, Q c ↔ Q' c) : InvQ k n gs s Q' L := by
  (refine ⟨h.1, fun t ht => ?_⟩); (rw [h.2 t ht])
  constructor
  · rintro (h | h | ⟨h1, h2, x, h3, h4, h5⟩)
    · exact .inl h
    · exact .inr (.inl h)
    · exact .inr (.inr ⟨h1, h2, x, h3, (hQ x h3).1 h4, h5⟩)
  · rintro (h | h | ⟨h1, h2, x, h3, h4, h5⟩)
    · exact .inl h
    · exact .inr (.inl h)
    · exact .inr (.inr ⟨h1, h2, x, h3, (hQ x h3).2 h4, h5⟩)
end Go.Mg

/- electionref24: Members, Size, Lowest (printed by gen_reach.py). -/
namespace Go.Mg
open Go.Pil
def memK (n s k : Nat) : List Bool := (List.range k).map (fun i => s.testBit i) ++ List.replicate (n - k) false
theorem memK_set (n s k : Nat) (h : k < n) : (memK n s k).set k (s.testBit k) = memK n s (k + 1) := by
  unfold memK
  apply List.ext_getElem
  · simp; omega
  · (intro i h1 h2); (rw [List.getElem_set])
    by_cases he : k = i
    · subst he; simp
    · (rw [if_neg he]); (simp only [List.getElem_append, List.length_map, List.length_range, List.getElem_map, List.getElem_range, List.getElem_replicate])
      split <;> split <;> first | rfl | omega
theorem memK_all (n s : Nat) : memK n s n = flags n (sl n s) := by
  (unfold memK flags); (rw [Nat.sub_self, List.replicate_zero, List.append_nil])
  apply List.map_congr_left
  (intro i hi); (have hi := List.mem_range.1 hi); (rw [Bool.eq_iff_iff, decide_eq_true_iff, mem_sl])
  simp; intro _; omega
theorem memK_len (n s k : Nat) (h : k ≤ n) : (memK n s k).length = n := by simp [memK]; omega
theorem bit_and : ∀ s < 128, ∀ k < 7, (Go.bits .and .i64 (((s / 2 ^ k : Nat)) : Int) 1 == 1) = s.testBit k := by decide +kernel
theorem count_sl (n s : Nat) : (flags n (sl n s)).countP id = (sl n s).length := by
  (rw [← memK_all]); (unfold memK sl allC); (rw [Nat.sub_self, List.replicate_zero, List.append_nil, List.countP_map, ← List.countP_eq_length_filter, List.countP_map])
  rfl
/-- Those that remain with the least votes. -/
def lowL (V : List Int) (bs : List Bool) : List Int := (allC V.length).filter fun c => inB bs c && (allC V.length).all fun d => !(inB bs d && decide (V.getD d.toNat 0 < V.getD c.toNat 0))
theorem lowL_lows {n : Nat} (gs : List Grp) (s : Nat) : lowL (firstV gs (flags n (sl n s))).1 (flags n (sl n s)) = lows n gs s := by
  (have hl : (firstV gs (flags n (sl n s))).1.length = n := by rw [first_len, flags_len]); (unfold lowL lows); (rw [hl]); (unfold sl); (rw [List.filter_filter])
  apply List.filter_congr
  (intro c hc); (have hc0 := mem_allC.1 hc); (rw [Bool.and_comm])
  have hin : ∀ x : Int, inB (flags n (List.filter (fun c => s.testBit c.toNat) (allC n))) x = decide ((0 ≤ x ∧ x < n) ∧ s.testBit x.toNat = true) := fun x => by
    (rw [flags_in, decide_eq_decide]); (rw [List.mem_filter, mem_allC])
    constructor
    · rintro ⟨a, b, c, d⟩; exact ⟨⟨a, b⟩, d⟩
    · rintro ⟨⟨a, b⟩, d⟩; exact ⟨a, b, ⟨a, b⟩, d⟩
  (rw [Bool.eq_iff_iff]); (simp only [Bool.and_eq_true, List.all_eq_true, hin, decide_eq_true_iff, Bool.not_eq_true', Bool.and_eq_false_iff, decide_eq_false_iff_not, List.mem_filter, mem_allC])
  constructor
  · (rintro ⟨h1, _, h2⟩); (refine ⟨fun d hd => ?_, h2⟩)
    rcases h1 d hd.1 with h | h
    · exact absurd hd h
    · exact Int.not_lt.1 h
  · (rintro ⟨h1, h2⟩); (refine ⟨fun d hd => ?_, hc0, h2⟩)
    by_cases hb : s.testBit d.toNat = true
    · right; exact Int.not_lt.2 (h1 d ⟨hd, hb⟩)
    · left; exact fun h => hb h.2
end Go.Mg
namespace Go.Proofs.Ytkdmlakookgolaa
open Go.RowKit Go.Mk Go.Pil Go.Mg
set_option maxRecDepth 20000 in
set_option maxHeartbeats 1000000 in
theorem members_any (n s : Nat) (w : World) (hn : n ≤ 7) (hs : s < 128) : Calls Try.prog 112 #[.int .i64 (n : Int), .int .i64 (s : Int)] w fun e w' => ∃ v', e = .returned v' ∧ RdT w' v' (flags n (sl n s)) ∧ Kept no w w' := by
  (have hmk := makeT n (by omega) w); (have g0 : Hd ((w.alloc (.cells (zsT (List.replicate n false)) 4)).heap[w.heap.size]? = some (.cells (zsT (memK n s 0)) 4 (0, 0))) := ⟨by rw [show memK n s 0 = List.replicate n false by simp [memK]]; exact heap_alloc_new _ _⟩); (have k0 := hid ((Kept.refl no w).alloc (.cells (zsT (List.replicate n false)) 4)))
  go_enter Try.func112, Try.ntmps112
  go_wp2
  go_loopw [6] (fun i wr => ∃ k : Nat, k ≤ n ∧ i = .int .i64 (k : Int) ∧ Hd (wr.heap[w.heap.size]? = some (.cells (zsT (memK n s k)) 4 (0, 0))) ∧ Hd (Kept no w wr)) (fun i _ => n - (intOf i).toNat)
  case atStart => exact ⟨0, by omega, rfl, g0, k0⟩
  case round =>
    (clear g0 k0); (obtain ⟨k, hk, rfl, hg, hW⟩ := hrel)
    by_cases hlt : k < n
    · (have hk1 : (k : Int) < (n : Int) := by omega); (have hk0 : (0 : Int) ≤ (k : Int) := by omega); (have hb := bit_and s hs k (by omega)); (rw [show (((s / 2 ^ k : Nat)) : Int) = (s : Int) / 2 ^ k by rw [Int.natCast_ediv, Int.natCast_pow]; rfl] at hb); (have fs : wr.frozen? ⟨w.heap.size, k, none⟩ = false := row_free hg.out k)
      have cs : wr.cell? ⟨w.heap.size, k, none⟩ = some (.bool ((memK n s k).getD k false)) := by
        (rw [cell_of_row wr _ k _ _ _ hg.out]); (have : k < (memK n s k).length := by rw [memK_len _ _ _ hk]; exact hlt)
        simp [zsT, this]
      (have hg' : Hd ((wr.setCell ⟨w.heap.size, k, none⟩ (.bool (s.testBit k))).heap[w.heap.size]? = some (.cells (zsT (memK n s (k + 1))) 4 (0, 0))) := ⟨by rw [setCell_row hg.out, zsT_set, memK_set _ _ _ hlt]⟩); (have hW' := hid (hW.out.setCell (a := ⟨w.heap.size, k, none⟩) (.inr (Nat.le_refl _)) (.bool (s.testBit k)))); (generalize s.testBit k = bb at hb hg' hW'); (clear hg hW); (go_wp2); (go_roundw)
      case rel => first | exact ⟨k + 1, by omega, by go_num, hg', hW'⟩ | ((repeat apply Exists.intro); exact ⟨⟨k + 1, by omega, by go_num, hg', hW'⟩, rfl⟩)
      case measure => simp [intOf]; omega
    · obtain rfl : k = n := by omega
      have hrd : Hd (RdT wr (.slice (some ⟨w.heap.size, 0, none⟩) k k) (flags k (sl k s))) := ⟨by
        (have := hg.out); (rw [memK_all] at this)
        exact zsT_rd this k (flags_len _ _) (by have : maxLen = 9223372036854775807 := rfl; omega)⟩
      (clear hg); (go_wp2); (go_ret); (exact ⟨_, rfl, hrd.out, hW.out⟩)
theorem count_take (bs : List Bool) (k : Nat) (h : k < bs.length) : (bs.take (k + 1)).countP id = (bs.take k).countP id + if bs.getD k false = true then 1 else 0 := by
  rw [List.take_succ_eq_append_getElem h, List.countP_append, List.getD_eq_getElem?_getD, List.getElem?_eq_getElem h]
  simp [List.countP_cons]
set_option maxRecDepth 20000 in
set_option maxHeartbeats 1000000 in
theorem size_any (v : Value) (bs : List Bool) (w : World) (hl : bs.length ≤ 1000) (hr : RdT w v bs) : Calls Try.prog 113 #[v] w fun e w' => e = .returned (.int .i64 (bs.countP id : Int)) ∧ w' = w := by
  (obtain ⟨ao, cap, rfl, _, _⟩ := Rd.shape2 hr); (replace hr := hid hr)
  go_enter Try.func113, Try.ntmps113
  go_wp2
  go_loopw [3, 4] (fun c i wr => ∃ (k p : Nat), k ≤ bs.length ∧ i = .int .i64 (k : Int) ∧ c = .int .i64 (p : Int) ∧ p ≤ k ∧ Hd (p = (bs.take k).countP id) ∧ wr = w) (fun _ i _ => bs.length - (intOf i).toNat)
  case atStart => exact ⟨0, 0, by omega, rfl, rfl, by omega, ⟨by simp⟩, rfl⟩
  case round =>
    obtain ⟨k, p, hk, rfl, rfl, hpk, hp, rfl⟩ := hrel
    by_cases hlt : k < bs.length
    · (have hk1 : (k : Int) < (bs.length : Int) := by omega); (have hk0 : (0 : Int) ≤ (k : Int) := by omega); (obtain ⟨b, o, rfl, hc⟩ := hr.out.at k hlt); (have hct := hid (count_take bs k hlt)); (have hp9 : p ≤ 1000 := by omega); (have hk9 : k ≤ 1000 := by omega)
      cases hb : bs.getD k false with
      | true =>
        (rw [hb] at hc hct); (have hp2 : Hd (p + 1 = (bs.take (k + 1)).countP id) := ⟨by rw [hct.out, ← hp.out]; rfl⟩); (clear hct hb hp); (go_wp2); (go_roundw)
        case rel => first | exact ⟨k + 1, p + 1, by omega, by go_num, by go_num, by omega, hp2, by trivial⟩ | ((repeat apply Exists.intro); exact ⟨⟨k + 1, p + 1, by omega, by go_num, by go_num, by omega, hp2, by trivial⟩, rfl⟩)
        case measure => simp [intOf]; omega
      | false =>
        (rw [hb] at hc hct); (have hp2 : Hd (p = (bs.take (k + 1)).countP id) := ⟨by rw [hct.out, ← hp.out]; rfl⟩); (clear hct hb hp); (go_wp2); (go_roundw)
        case rel => first | exact ⟨k + 1, p, by omega, by go_num, rfl, by omega, hp2, by trivial⟩ | ((repeat apply Exists.intro); exact ⟨⟨k + 1, p, by omega, by go_num, rfl, by omega, hp2, by trivial⟩, rfl⟩)
        case measure => simp [intOf]; omega
    · (obtain rfl : k = bs.length := by omega); (have hv : Hd (p = bs.countP id) := ⟨by rw [hp.out, List.take_length]⟩); (clear hp); (go_wp2); (go_ret); (exact ⟨by rw [← hv.out]; rfl, rfl⟩)
set_option maxRecDepth 20000 in
set_option maxHeartbeats 2000000 in
theorem lowest_any (v vr : Value) (V : List Int) (bs : List Bool) (w : World) (hl : V.length ≤ 7) (hr : RdZ w v V) (hb : RdT w vr bs) : Calls Try.prog 114 #[v, vr] w fun e w' => ∃ v', e = .returned v' ∧ OwZ w w' v' (lowL V bs) := by
  (obtain ⟨ao, cap, rfl, _, _⟩ := Rd.shape2 hr); (obtain ⟨ar, cr, rfl, _, _⟩ := Rd.shape2 hb); (obtain ⟨n, hn⟩ : ∃ n, V.length = n := ⟨_, rfl⟩); (rw [hn] at hl hr ⊢); (have hVc : Hd (∀ j, j < n → ∀ W, Kept no w W → ∃ b o, ao = some ⟨b, o, none⟩ ∧ W.cell? ⟨b, o + j, none⟩ = some (.int .i64 (V.getD j 0))) := ⟨fun j hj W k => (hr.kept k).at j (by rw [hn]; exact hj)⟩); (have hin := hid (fun (x : Nat) w h => in_any (.slice ar bs.length cr) bs (x : Int) w h)); (have hres : Hd (lowL V bs = (allC n).filter fun c => inB bs c && (allC n).all fun d => !(inB bs d && decide (V.getD d.toNat 0 < V.getD c.toNat 0))) := ⟨by unfold lowL; rw [hn]⟩); (replace hb := hid hb); (clear hr)
  go_enter Try.func114, Try.ntmps114
  (go_wp2); (obtain ⟨P, hP⟩ : ∃ P : Int → Bool, (fun c => inB bs c && (allC n).all fun d => !(inB bs d && decide (V.getD d.toNat 0 < V.getD c.toNat 0))) = P := ⟨_, rfl⟩); (rw [hP] at hres); (replace hP := hid hP)
  go_loopw [5, 6] (fun out i wr => ∃ (k : Nat), k ≤ n ∧ i = .int .i64 (k : Int) ∧ Hd (OwZ w wr out ((allC k).filter P))) (fun _ i _ => n - (intOf i).toNat)
  case atStart => exact ⟨0, by omega, rfl, ⟨OwZ.nil w⟩⟩
  case round =>
    obtain ⟨k, hk, rfl, hO⟩ := hrel
    by_cases hlt : k < n
    · (have hk1 : (k : Int) < (n : Int) := by omega); (have hk0 : (0 : Int) ≤ (k : Int) := by omega); (obtain ⟨b, o, rfl, _⟩ := hVc.out 0 (by omega) w (Kept.refl _ _)); (have HI := hid (hin.out k wr (hb.out.kept hO.out.kept))); (have hPk : Hd (P (k : Int) = (inB bs (k : Int) && (allC n).all fun d => !(inB bs d && decide (V.getD d.toNat 0 < V.getD k 0)))) := ⟨by rw [← hP.out]; rfl⟩); (obtain ⟨lw, hlw⟩ : ∃ lw, inB bs (k : Int) = lw := ⟨_, rfl⟩); (rw [hlw] at HI hPk); (clear hlw); (obtain ⟨w9, rfl⟩ : ∃ w9 : World, w9 = wr := ⟨_, rfl⟩); (obtain ⟨vk, hvk⟩ : ∃ x, V.getD k 0 = x := ⟨_, rfl⟩); (rw [hvk] at hPk)
      have hVk : Hd (∀ W, Kept no w W → W.cell? ⟨b, o + k, none⟩ = some (.int .i64 vk)) := ⟨fun W kk => by
        obtain ⟨b', o', e, h⟩ := hVc.out k hlt W kk
        cases e; rw [← hvk]; exact h⟩
      (clear hvk); (go_wp2_with fail); (refine HI.out.mono ?_); (rintro e w' ⟨rfl, rfl⟩); (clear HI); (go_wp2)
      go_loopw [7, 8] (fun lo j wr => ∃ (q : Nat) (lb : Bool), q ≤ n ∧ j = .int .i64 (q : Int) ∧ lo = .bool lb ∧ Hd (lb = (lw && (allC q).all fun d => !(inB bs d && decide (V.getD d.toNat 0 < vk)))) ∧ Hd (Kept no w' wr)) (fun _ j _ => n - (intOf j).toNat)
      case atStart => exact ⟨0, lw, by omega, rfl, rfl, ⟨by simp [allC]⟩, ⟨Kept.refl _ _⟩⟩
      case round =>
        obtain ⟨q, lb, hq, rfl, rfl, hlb, hK⟩ := hrel
        by_cases hql : q < n
        · (have hq1 : (q : Int) < (n : Int) := by omega); (have hq0 : (0 : Int) ≤ (q : Int) := by omega); (have hKw := hid (hO.out.kept.trans' hK.out))
          have hnx : Hd ((lw && (allC (q + 1)).all fun d => !(inB bs d && decide (V.getD d.toNat 0 < vk))) = (lb && !(inB bs (q : Int) && decide (V.getD q 0 < vk)))) := ⟨by
            rw [allC_succ, List.all_append, ← Bool.and_assoc, ← hlb.out]
            simp⟩
          have hVq : Hd (∀ W, Kept no w W → W.cell? ⟨b, o + q, none⟩ = some (.int .i64 (V.getD q 0))) := ⟨fun W kk => by
            obtain ⟨b', o', e, h⟩ := hVc.out q hql W kk
            cases e; exact h⟩
          (have HI := hid (fun W (kk : Kept no w W) => hin.out q W (hb.out.kept kk))); (obtain ⟨vq, hvq⟩ : ∃ x, V.getD q 0 = x := ⟨_, rfl⟩); (rw [hvq] at hnx hVq)
          cases hiq : inB bs (q : Int) with
          | false =>
            (rw [hiq] at HI hnx); (have hlb2 : Hd (lb = (lw && (allC (q + 1)).all fun d => !(inB bs d && decide (V.getD d.toNat 0 < vk)))) := ⟨by rw [hnx.out]; simp⟩); (clear hnx hiq hlb hvq); (go_upto_region 9 with fail); (refine region_flow (S := no) (Sl := (fun _ => no)) [Is (.slice ar bs.length cr), Is (.int .i64 (q : Int)), Is (.bool false), Is (.bool false), Is undef, Is undef, Is undef, Is undef, Is undef, Is undef, Is undef, Is undef, Is undef, Is (.bool false)] [] (fun _ _ h => h) _ (by kernel_rfl) (by kernel_rfl) (by kernel_rfl) (by kernel_rfl) (fun x => by simp only [puts, Act.put, List.map_cons, List.map_nil, Nat.zero_add, Nat.reduceAdd, List.setIfInBounds_toArray, List.set_cons_zero, List.set_cons_succ]; exact rfl) ?_ ?_)
            · (skip); (refine .cons (fun x wf Kk hq hdep hold => ?_) ?_)
              · (try dsimp only); (clear hq hdep hold); (rw [if_pos (by rfl)]); (refine OpY.val ?_ ⟨Kept.refl _ _, rfl⟩); (first | rfl | go_simp)
              refine .cons (fun x wf Kk hq hdep hold => ?_) ?_
              · (try dsimp only); (clear hq hdep hold); (rw [if_pos (by rfl)]); (refine OpY.val ?_ ⟨Kept.refl _ _, rfl⟩); (first | rfl | go_simp)
              refine .cons (fun x wf Kk hq hdep hold => ?_) ?_
              · (try dsimp only); (have h0 : x 0 = _ := hdep 0 (by kernel_rfl)); (have h1 : x 1 = _ := hdep 1 (by kernel_rfl)); (clear hq hdep hold); (simp only [h0, h1]); (clear h0 h1); (rw [if_pos (by rfl)]); (refine OpY.call (f := 123) (args := #[(.slice ar bs.length cr), (.int .i64 (q : Int))]) (by go_simp) ?_); (refine (HI.out _ (hKw.out.trans' Kk.undrew)).mono ?_); (rintro e w2 ⟨rfl, rfl⟩); (exact ⟨_, rfl, Kept.refl _ _, rfl⟩)
              refine .cons (fun x wf Kk hq hdep hold => ?_) ?_
              · (try dsimp only); (have h2 : x 2 = _ := hdep 2 (by kernel_rfl)); (clear hq hdep hold); (simp only [h2]); (clear h2); (rw [if_pos (by rfl)]); (refine OpY.val ?_ ⟨Kept.refl _ _, rfl⟩); (first | rfl | go_simp)
              refine .cons (fun x wf Kk hq hdep hold => ?_) ?_
              · (try dsimp only); (have h3 : x 3 = _ := hdep 3 (by kernel_rfl)); (clear hq hdep hold); (simp only [h3]); (clear h3); (exact stepOff rfl rfl)
              refine .cons (fun x wf Kk hq hdep hold => ?_) ?_
              · (try dsimp only); (have h3 : x 3 = _ := hdep 3 (by kernel_rfl)); (clear hq hdep hold); (simp only [h3]); (clear h3); (exact stepOff rfl rfl)
              refine .cons (fun x wf Kk hq hdep hold => ?_) ?_
              · (try dsimp only); (have h3 : x 3 = _ := hdep 3 (by kernel_rfl)); (clear hq hdep hold); (simp only [h3]); (clear h3); (exact stepOff rfl rfl)
              refine .cons (fun x wf Kk hq hdep hold => ?_) ?_
              · (try dsimp only); (have h3 : x 3 = _ := hdep 3 (by kernel_rfl)); (clear hq hdep hold); (simp only [h3]); (clear h3); (exact stepOff rfl rfl)
              refine .cons (fun x wf Kk hq hdep hold => ?_) ?_
              · (try dsimp only); (have h3 : x 3 = _ := hdep 3 (by kernel_rfl)); (clear hq hdep hold); (simp only [h3]); (clear h3); (exact stepOff rfl rfl)
              refine .cons (fun x wf Kk hq hdep hold => ?_) ?_
              · (try dsimp only); (have h3 : x 3 = _ := hdep 3 (by kernel_rfl)); (clear hq hdep hold); (simp only [h3]); (clear h3); (exact stepOff rfl rfl)
              refine .cons (fun x wf Kk hq hdep hold => ?_) ?_
              · (try dsimp only); (have h3 : x 3 = _ := hdep 3 (by kernel_rfl)); (clear hq hdep hold); (simp only [h3]); (clear h3); (exact stepOff rfl rfl)
              refine .cons (fun x wf Kk hq hdep hold => ?_) ?_
              · (try dsimp only); (have h3 : x 3 = _ := hdep 3 (by kernel_rfl)); (clear hq hdep hold); (simp only [h3]); (clear h3); (exact stepOff rfl rfl)
              refine .cons (fun x wf Kk hq hdep hold => ?_) ?_
              · (try dsimp only); (have h3 : x 3 = _ := hdep 3 (by kernel_rfl)); (clear hq hdep hold); (simp only [h3]); (clear h3); (exact stepOff rfl rfl)
              refine .cons (fun x wf Kk hq hdep hold => ?_) ?_
              · (try dsimp only); (have h3 : x 3 = _ := hdep 3 (by kernel_rfl)); (have h12 : x 12 = _ := hdep 12 (by kernel_rfl)); (clear hq hdep hold); (simp only [h3, h12]); (clear h3 h12); (rw [if_pos (by rfl)]); (refine OpY.val ?_ ⟨Kept.refl _ _, rfl⟩); (first | rfl | go_simp)
              exact .nil _
            · (intro x wf Kk hv); (try dsimp only); (have h13 : x 13 = _ := hv 13 (by kernel_rfl)); (clear hv); (simp only [h13]); (clear h13); (have hK2 := hid (hK.out.trans' Kk.undrew)); (clear Kk hK hKw HI hVq); (go_wp2); (go_roundw)
              case rel => first | exact ⟨q + 1, lb, by omega, by go_num, rfl, hlb2, hK2⟩ | ((repeat apply Exists.intro); exact ⟨⟨q + 1, lb, by omega, by go_num, rfl, hlb2, hK2⟩, rfl⟩)
              case measure => simp [intOf]; omega
          | true =>
            rw [hiq] at HI hnx
            by_cases hvv : vq < vk
            · (have hvd : decide (vq < vk) = true := decide_eq_true hvv); (rw [hvd] at hnx); (have hlb2 : Hd (false = (lw && (allC (q + 1)).all fun d => !(inB bs d && decide (V.getD d.toNat 0 < vk)))) := ⟨by rw [hnx.out]; simp⟩); (clear hnx hiq hlb hvq); (go_upto_region 9 with fail); (refine region_flow (S := no) (Sl := (fun _ => no)) [Is (.slice ar bs.length cr), Is (.int .i64 (q : Int)), Is (.bool true), Is (.bool true), Is (.slice (some ⟨b, o, none⟩) n cap), Is (.int .i64 (q : Int)), Is (.pointer (some ⟨b, o + q, none⟩)), Is (.int .i64 vq), Is (.slice (some ⟨b, o, none⟩) n cap), Is (.int .i64 (k : Int)), Is (.pointer (some ⟨b, o + k, none⟩)), Is (.int .i64 vk), Is (.bool true), Is (.bool true)] [] (fun _ _ h => h) _ (by kernel_rfl) (by kernel_rfl) (by kernel_rfl) (by kernel_rfl) (fun x => by simp only [puts, Act.put, List.map_cons, List.map_nil, Nat.zero_add, Nat.reduceAdd, List.setIfInBounds_toArray, List.set_cons_zero, List.set_cons_succ]; exact rfl) ?_ ?_)
              · (skip); (refine .cons (fun x wf Kk hq hdep hold => ?_) ?_)
                · (try dsimp only); (clear hq hdep hold); (rw [if_pos (by rfl)]); (refine OpY.val ?_ ⟨Kept.refl _ _, rfl⟩); (first | rfl | go_simp)
                refine .cons (fun x wf Kk hq hdep hold => ?_) ?_
                · (try dsimp only); (clear hq hdep hold); (rw [if_pos (by rfl)]); (refine OpY.val ?_ ⟨Kept.refl _ _, rfl⟩); (first | rfl | go_simp)
                refine .cons (fun x wf Kk hq hdep hold => ?_) ?_
                · (try dsimp only); (have h0 : x 0 = _ := hdep 0 (by kernel_rfl)); (have h1 : x 1 = _ := hdep 1 (by kernel_rfl)); (clear hq hdep hold); (simp only [h0, h1]); (clear h0 h1); (rw [if_pos (by rfl)]); (refine OpY.call (f := 123) (args := #[(.slice ar bs.length cr), (.int .i64 (q : Int))]) (by go_simp) ?_); (refine (HI.out _ (hKw.out.trans' Kk.undrew)).mono ?_); (rintro e w2 ⟨rfl, rfl⟩); (exact ⟨_, rfl, Kept.refl _ _, rfl⟩)
                refine .cons (fun x wf Kk hq hdep hold => ?_) ?_
                · (try dsimp only); (have h2 : x 2 = _ := hdep 2 (by kernel_rfl)); (clear hq hdep hold); (simp only [h2]); (clear h2); (rw [if_pos (by rfl)]); (refine OpY.val ?_ ⟨Kept.refl _ _, rfl⟩); (first | rfl | go_simp)
                refine .cons (fun x wf Kk hq hdep hold => ?_) ?_
                · (try dsimp only); (have h3 : x 3 = _ := hdep 3 (by kernel_rfl)); (clear hq hdep hold); (simp only [h3]); (clear h3); (rw [if_pos (by rfl)]); (refine OpY.val ?_ ⟨Kept.refl _ _, rfl⟩); (first | rfl | go_simp)
                refine .cons (fun x wf Kk hq hdep hold => ?_) ?_
                · (try dsimp only); (have h3 : x 3 = _ := hdep 3 (by kernel_rfl)); (clear hq hdep hold); (simp only [h3]); (clear h3); (rw [if_pos (by rfl)]); (refine OpY.val ?_ ⟨Kept.refl _ _, rfl⟩); (first | rfl | go_simp)
                refine .cons (fun x wf Kk hq hdep hold => ?_) ?_
                · (try dsimp only); (have h4 : x 4 = _ := hdep 4 (by kernel_rfl)); (have h5 : x 5 = _ := hdep 5 (by kernel_rfl)); (have h3 : x 3 = _ := hdep 3 (by kernel_rfl)); (clear hq hdep hold); (simp only [h4, h5, h3]); (clear h4 h5 h3); (rw [if_pos (by rfl)]); (refine OpY.val ?_ ⟨Kept.refl _ _, rfl⟩); (first | rfl | go_simp)
                refine .cons (fun x wf Kk hq hdep hold => ?_) ?_
                · (try dsimp only); (have h6 : x 6 = _ := hdep 6 (by kernel_rfl)); (have h3 : x 3 = _ := hdep 3 (by kernel_rfl)); (clear hq hdep hold); (simp only [h6, h3]); (clear h6 h3); (have c1 := hVq.out wf (hKw.out.trans' Kk.undrew)); (rw [if_pos (by rfl)]); (refine OpY.val ?_ ⟨Kept.refl _ _, rfl⟩); (first | rfl | go_simp)
                refine .cons (fun x wf Kk hq hdep hold => ?_) ?_
                · (try dsimp only); (have h3 : x 3 = _ := hdep 3 (by kernel_rfl)); (clear hq hdep hold); (simp only [h3]); (clear h3); (rw [if_pos (by rfl)]); (refine OpY.val ?_ ⟨Kept.refl _ _, rfl⟩); (first | rfl | go_simp)
                refine .cons (fun x wf Kk hq hdep hold => ?_) ?_
                · (try dsimp only); (have h3 : x 3 = _ := hdep 3 (by kernel_rfl)); (clear hq hdep hold); (simp only [h3]); (clear h3); (rw [if_pos (by rfl)]); (refine OpY.val ?_ ⟨Kept.refl _ _, rfl⟩); (first | rfl | go_simp)
                refine .cons (fun x wf Kk hq hdep hold => ?_) ?_
                · (try dsimp only); (have h8 : x 8 = _ := hdep 8 (by kernel_rfl)); (have h9 : x 9 = _ := hdep 9 (by kernel_rfl)); (have h3 : x 3 = _ := hdep 3 (by kernel_rfl)); (clear hq hdep hold); (simp only [h8, h9, h3]); (clear h8 h9 h3); (rw [if_pos (by rfl)]); (refine OpY.val ?_ ⟨Kept.refl _ _, rfl⟩); (first | rfl | go_simp)
                refine .cons (fun x wf Kk hq hdep hold => ?_) ?_
                · (try dsimp only); (have h10 : x 10 = _ := hdep 10 (by kernel_rfl)); (have h3 : x 3 = _ := hdep 3 (by kernel_rfl)); (clear hq hdep hold); (simp only [h10, h3]); (clear h10 h3); (have c1 := hVk.out wf (hKw.out.trans' Kk.undrew)); (rw [if_pos (by rfl)]); (refine OpY.val ?_ ⟨Kept.refl _ _, rfl⟩); (first | rfl | go_simp)
                refine .cons (fun x wf Kk hq hdep hold => ?_) ?_
                · (try dsimp only); (have h7 : x 7 = _ := hdep 7 (by kernel_rfl)); (have h11 : x 11 = _ := hdep 11 (by kernel_rfl)); (have h3 : x 3 = _ := hdep 3 (by kernel_rfl)); (clear hq hdep hold); (simp only [h7, h11, h3]); (clear h7 h11 h3); (rw [if_pos (by rfl)]); (refine OpY.val ?_ ⟨Kept.refl _ _, rfl⟩); (first | rfl | go_simp)
                refine .cons (fun x wf Kk hq hdep hold => ?_) ?_
                · (try dsimp only); (have h3 : x 3 = _ := hdep 3 (by kernel_rfl)); (have h12 : x 12 = _ := hdep 12 (by kernel_rfl)); (clear hq hdep hold); (simp only [h3, h12]); (clear h3 h12); (rw [if_pos (by rfl)]); (refine OpY.val ?_ ⟨Kept.refl _ _, rfl⟩); (first | rfl | go_simp)
                exact .nil _
              · (intro x wf Kk hv); (try dsimp only); (have h13 : x 13 = _ := hv 13 (by kernel_rfl)); (clear hv); (simp only [h13]); (clear h13); (have hK2 := hid (hK.out.trans' Kk.undrew)); (clear Kk hK hKw HI hVq); (go_wp2); (go_roundw)
                case rel => first | exact ⟨q + 1, false, by omega, by go_num, rfl, hlb2, hK2⟩ | ((repeat apply Exists.intro); exact ⟨⟨q + 1, false, by omega, by go_num, rfl, hlb2, hK2⟩, rfl⟩)
                case measure => simp [intOf]; omega
            · (have hvd : decide (vq < vk) = false := decide_eq_false hvv); (rw [hvd] at hnx); (have hlb2 : Hd (lb = (lw && (allC (q + 1)).all fun d => !(inB bs d && decide (V.getD d.toNat 0 < vk)))) := ⟨by rw [hnx.out]; simp⟩); (clear hnx hiq hlb hvq); (go_upto_region 9 with fail); (refine region_flow (S := no) (Sl := (fun _ => no)) [Is (.slice ar bs.length cr), Is (.int .i64 (q : Int)), Is (.bool true), Is (.bool true), Is (.slice (some ⟨b, o, none⟩) n cap), Is (.int .i64 (q : Int)), Is (.pointer (some ⟨b, o + q, none⟩)), Is (.int .i64 vq), Is (.slice (some ⟨b, o, none⟩) n cap), Is (.int .i64 (k : Int)), Is (.pointer (some ⟨b, o + k, none⟩)), Is (.int .i64 vk), Is (.bool false), Is (.bool false)] [] (fun _ _ h => h) _ (by kernel_rfl) (by kernel_rfl) (by kernel_rfl) (by kernel_rfl) (fun x => by simp only [puts, Act.put, List.map_cons, List.map_nil, Nat.zero_add, Nat.reduceAdd, List.setIfInBounds_toArray, List.set_cons_zero, List.set_cons_succ]; exact rfl) ?_ ?_)
              · (skip); (refine .cons (fun x wf Kk hq hdep hold => ?_) ?_)
                · (try dsimp only); (clear hq hdep hold); (rw [if_pos (by rfl)]); (refine OpY.val ?_ ⟨Kept.refl _ _, rfl⟩); (first | rfl | go_simp)
                refine .cons (fun x wf Kk hq hdep hold => ?_) ?_
                · (try dsimp only); (clear hq hdep hold); (rw [if_pos (by rfl)]); (refine OpY.val ?_ ⟨Kept.refl _ _, rfl⟩); (first | rfl | go_simp)
                refine .cons (fun x wf Kk hq hdep hold => ?_) ?_
                · (try dsimp only); (have h0 : x 0 = _ := hdep 0 (by kernel_rfl)); (have h1 : x 1 = _ := hdep 1 (by kernel_rfl)); (clear hq hdep hold); (simp only [h0, h1]); (clear h0 h1); (rw [if_pos (by rfl)]); (refine OpY.call (f := 123) (args := #[(.slice ar bs.length cr), (.int .i64 (q : Int))]) (by go_simp) ?_); (refine (HI.out _ (hKw.out.trans' Kk.undrew)).mono ?_); (rintro e w2 ⟨rfl, rfl⟩); (exact ⟨_, rfl, Kept.refl _ _, rfl⟩)
                refine .cons (fun x wf Kk hq hdep hold => ?_) ?_
                · (try dsimp only); (have h2 : x 2 = _ := hdep 2 (by kernel_rfl)); (clear hq hdep hold); (simp only [h2]); (clear h2); (rw [if_pos (by rfl)]); (refine OpY.val ?_ ⟨Kept.refl _ _, rfl⟩); (first | rfl | go_simp)
                refine .cons (fun x wf Kk hq hdep hold => ?_) ?_
                · (try dsimp only); (have h3 : x 3 = _ := hdep 3 (by kernel_rfl)); (clear hq hdep hold); (simp only [h3]); (clear h3); (rw [if_pos (by rfl)]); (refine OpY.val ?_ ⟨Kept.refl _ _, rfl⟩); (first | rfl | go_simp)
                refine .cons (fun x wf Kk hq hdep hold => ?_) ?_
                · (try dsimp only); (have h3 : x 3 = _ := hdep 3 (by kernel_rfl)); (clear hq hdep hold); (simp only [h3]); (clear h3); (rw [if_pos (by rfl)]); (refine OpY.val ?_ ⟨Kept.refl _ _, rfl⟩); (first | rfl | go_simp)
                refine .cons (fun x wf Kk hq hdep hold => ?_) ?_
                · (try dsimp only); (have h4 : x 4 = _ := hdep 4 (by kernel_rfl)); (have h5 : x 5 = _ := hdep 5 (by kernel_rfl)); (have h3 : x 3 = _ := hdep 3 (by kernel_rfl)); (clear hq hdep hold); (simp only [h4, h5, h3]); (clear h4 h5 h3); (rw [if_pos (by rfl)]); (refine OpY.val ?_ ⟨Kept.refl _ _, rfl⟩); (first | rfl | go_simp)
                refine .cons (fun x wf Kk hq hdep hold => ?_) ?_
                · (try dsimp only); (have h6 : x 6 = _ := hdep 6 (by kernel_rfl)); (have h3 : x 3 = _ := hdep 3 (by kernel_rfl)); (clear hq hdep hold); (simp only [h6, h3]); (clear h6 h3); (have c1 := hVq.out wf (hKw.out.trans' Kk.undrew)); (rw [if_pos (by rfl)]); (refine OpY.val ?_ ⟨Kept.refl _ _, rfl⟩); (first | rfl | go_simp)
                refine .cons (fun x wf Kk hq hdep hold => ?_) ?_
                · (try dsimp only); (have h3 : x 3 = _ := hdep 3 (by kernel_rfl)); (clear hq hdep hold); (simp only [h3]); (clear h3); (rw [if_pos (by rfl)]); (refine OpY.val ?_ ⟨Kept.refl _ _, rfl⟩); (first | rfl | go_simp)
                refine .cons (fun x wf Kk hq hdep hold => ?_) ?_
                · (try dsimp only); (have h3 : x 3 = _ := hdep 3 (by kernel_rfl)); (clear hq hdep hold); (simp only [h3]); (clear h3); (rw [if_pos (by rfl)]); (refine OpY.val ?_ ⟨Kept.refl _ _, rfl⟩); (first | rfl | go_simp)
                refine .cons (fun x wf Kk hq hdep hold => ?_) ?_
                · (try dsimp only); (have h8 : x 8 = _ := hdep 8 (by kernel_rfl)); (have h9 : x 9 = _ := hdep 9 (by kernel_rfl)); (have h3 : x 3 = _ := hdep 3 (by kernel_rfl)); (clear hq hdep hold); (simp only [h8, h9, h3]); (clear h8 h9 h3); (rw [if_pos (by rfl)]); (refine OpY.val ?_ ⟨Kept.refl _ _, rfl⟩); (first | rfl | go_simp)
                refine .cons (fun x wf Kk hq hdep hold => ?_) ?_
                · (try dsimp only); (have h10 : x 10 = _ := hdep 10 (by kernel_rfl)); (have h3 : x 3 = _ := hdep 3 (by kernel_rfl)); (clear hq hdep hold); (simp only [h10, h3]); (clear h10 h3); (have c1 := hVk.out wf (hKw.out.trans' Kk.undrew)); (rw [if_pos (by rfl)]); (refine OpY.val ?_ ⟨Kept.refl _ _, rfl⟩); (first | rfl | go_simp)
                refine .cons (fun x wf Kk hq hdep hold => ?_) ?_
                · (try dsimp only); (have h7 : x 7 = _ := hdep 7 (by kernel_rfl)); (have h11 : x 11 = _ := hdep 11 (by kernel_rfl)); (have h3 : x 3 = _ := hdep 3 (by kernel_rfl)); (clear hq hdep hold); (simp only [h7, h11, h3]); (clear h7 h11 h3); (rw [if_pos (by rfl)]); (refine OpY.val ?_ ⟨Kept.refl _ _, rfl⟩); (first | rfl | go_simp)
                refine .cons (fun x wf Kk hq hdep hold => ?_) ?_
                · (try dsimp only); (have h3 : x 3 = _ := hdep 3 (by kernel_rfl)); (have h12 : x 12 = _ := hdep 12 (by kernel_rfl)); (clear hq hdep hold); (simp only [h3, h12]); (clear h3 h12); (rw [if_pos (by rfl)]); (refine OpY.val ?_ ⟨Kept.refl _ _, rfl⟩); (first | rfl | go_simp)
                exact .nil _
              · (intro x wf Kk hv); (try dsimp only); (have h13 : x 13 = _ := hv 13 (by kernel_rfl)); (clear hv); (simp only [h13]); (clear h13); (have hK2 := hid (hK.out.trans' Kk.undrew)); (clear Kk hK hKw HI hVq); (go_wp2); (go_roundw)
                case rel => first | exact ⟨q + 1, lb, by omega, by go_num, rfl, hlb2, hK2⟩ | ((repeat apply Exists.intro); exact ⟨⟨q + 1, lb, by omega, by go_num, rfl, hlb2, hK2⟩, rfl⟩)
                case measure => simp [intOf]; omega
        · (obtain rfl : q = n := by omega); (have hq1 : ¬ (q : Int) < (q : Int) := by omega); (have hPl : Hd (P (k : Int) = lb) := ⟨by rw [hPk.out, hlb.out]⟩); (have hO2 := hid (hO.out.keptNo hK.out)); (clear hlb hK hVk hPk hO)
          have hfs : Hd ((allC (k + 1)).filter P = (allC k).filter P ++ if lb = true then [(k : Int)] else []) := ⟨by
            rw [allC_succ, List.filter_append, ← hPl.out]
            cases hb : P (k : Int) <;> simp [hb]⟩
          (obtain ⟨F, hF⟩ : ∃ F, (allC k).filter P = F := ⟨_, rfl⟩); (have hFl : F.length ≤ 7 := by rw [← hF]; exact Nat.le_trans (List.length_filter_le _ _) (by simp [allC]; omega)); (rw [hF] at hO2 hfs); (clear hF hPl)
          cases lb with
          | true =>
            (have hls : Hd (F.length + 1 ≤ maxLen ∧ (F.length + 1) * 8 ≤ 140737488355328) := ⟨by have hm : maxLen = 9223372036854775807 := rfl; omega⟩); (go_wp2_with (at_builtin; refine wpList_append_lit _ rfl _ _ 40 rfl 3 1 8 TInts _ _ _ rfl hO2.out.own 1 [.int .i64 (k : Int)] rfl rfl ?c1 ?c2 ?c3 ?_))
            case c1 => simp [Value.oneCell']
            case c2 => exact hls.out.1
            case c3 => exact hls.out.2
            (intro v' w3 h2 h3 h4 _); (have hO3 := hO2.out.add _ h2 h3 h4); (have hO4 : Hd (OwZ w w3 v' ((allC (k + 1)).filter P)) := ⟨by rw [hfs.out]; exact hO3⟩); (clear h2 h3 h4 hO2 hO3 hls hfs); (go_wp2); (go_roundw)
            case rel => first | exact ⟨k + 1, by omega, by go_num, hO4⟩ | ((repeat apply Exists.intro); exact ⟨⟨k + 1, by omega, by go_num, hO4⟩, rfl⟩)
            case measure => simp [intOf]; omega
          | false =>
            (have hO4 : Hd (OwZ w wr u5 ((allC (k + 1)).filter P)) := ⟨by rw [hfs.out]; simpa using hO2.out⟩); (clear hO2 hfs); (go_wp2); (go_roundw)
            case rel => first | exact ⟨k + 1, by omega, by go_num, hO4⟩ | ((repeat apply Exists.intro); exact ⟨⟨k + 1, by omega, by go_num, hO4⟩, rfl⟩)
            case measure => simp [intOf]; omega
    · (obtain rfl : k = n := by omega); (have hk1 : ¬ (k : Int) < (k : Int) := by omega); (have hO2 : Hd (OwZ w wr u5 (lowL V bs)) := ⟨by rw [hres.out]; exact hO.out⟩); (clear hO); (go_wp2); (go_ret); (exact ⟨_, rfl, hO2.out⟩)
end Go.Proofs.Ytkdmlakookgolaa

/- electionref24.Reachable. -/
namespace Go.Proofs.Ytkdmlakookgolaa
open Go.RowKit Go.Mk Go.Pil Go.Mg
theorem shl_pow : ∀ n ≤ 7, wrap64 ((2 : Int) ^ n) = ((2 ^ n : Nat) : Int) := by decide +kernel
theorem zsT_cell {w : World} {g : Nat} {L : List Bool} (h : w.heap[g]? = some (.cells (zsT L) 4 (0, 0))) (c : Nat) (hc : c < L.length) : w.cell? ⟨g, c, none⟩ = some (.bool (L.getD c false)) := by
  rw [cell_of_row w _ c _ _ _ h]
  simp [zsT, hc]
set_option maxRecDepth 100000 in
set_option maxHeartbeats 4000000 in
theorem reachable_any (n : Nat) (v : Value) (ps : List (Grp × Value)) (w : World) (hn0 : 1 ≤ n) (hn : n ≤ 7) (hp7 : isPile 7 (grps ps) = true) (hr : RdG w v ps) :
    Calls Try.prog 81 #[.int .i64 (n : Int), v] w fun e w' => ∃ v' L, e = .returned v' ∧ RdT w' v' L ∧ L.length = 2 ^ n ∧ (∀ t, t < 2 ^ n → (L.getD t false = true ↔ Rc 2 n (grps ps) t)) ∧ Kept no w w' := by
  (obtain ⟨ag, cg, rfl, _, _⟩ := hr.shape); (obtain ⟨F, hF⟩ : ∃ F, 2 ^ n = F := ⟨_, rfl⟩); (have hF1 : 1 ≤ F := by rw [← hF]; exact Nat.two_pow_pos n); (have hF128 : F ≤ 128 := by rw [← hF]; exact pow7 hn); (have hsh : wrap64 ((2 : Int) ^ n) = (F : Int) := by rw [shl_pow n hn, hF]); (have hmk := makeT F (by omega) w); (have hst := inv_start 2 n (grps ps)); (rw [hF] at hst); (have hFm : IntKind.i64.wrap ((F : Int) - 1) = ((F - 1 : Nat) : Int) := by rw [IntWalk.i64_in _ (by omega)]; omega); (obtain ⟨F1, hF1e⟩ : ∃ F1, F - 1 = F1 := ⟨_, rfl⟩); (rw [hF1e] at hFm hst); (have hF1i : (F1 : Int) < (F : Int) := by omega); (have hF1j : (0 : Int) ≤ (F1 : Int) := by omega); (have ga : (w.alloc (.cells (zsT (List.replicate F false)) 4)).heap[w.heap.size]? = some (.cells (zsT (List.replicate F false)) 4 (0, 0)) := heap_alloc_new _ _); (have c0 := zsT_cell ga F1 (by rw [List.length_replicate]; omega)); (have f0 : (w.alloc (.cells (zsT (List.replicate F false)) 4)).frozen? ⟨w.heap.size, F1, none⟩ = false := row_free ga F1); (have g0 : Hd ((w.alloc (.cells ((zsT (List.replicate F false)).setIfInBounds F1 (.bool true)) 4)).heap[w.heap.size]? = some (.cells (zsT ((List.replicate F false).set F1 true)) 4 (0, 0))) := ⟨by rw [zsT_set]; exact heap_alloc_new _ _⟩); (have k0 := hid ((Kept.refl no w).alloc (.cells ((zsT (List.replicate F false)).setIfInBounds F1 (.bool true)) 4))); (replace hst := hid hst); (replace hr := hid hr); (replace hp7 := hid hp7); (replace hF := hid hF); (clear ga)
  go_enter Try.func81, Try.ntmps81
  (go_wp2); (clear c0 f0 hmk hsh hFm)
  go_loopw [6] (fun i wr => ∃ (s : Nat) (L : List Bool), s ≤ F1 ∧ i = .int .i64 (s : Int) ∧ Hd (Inv 2 n (grps ps) s L) ∧ Hd (wr.heap[w.heap.size]? = some (.cells (zsT L) 4 (0, 0))) ∧ Hd (Kept no w wr)) (fun i _ => (intOf i).toNat)
  case atStart => exact ⟨F1, _, by omega, rfl, hst, g0, k0⟩
  case round =>
    (clear hst g0 k0); (obtain ⟨s, L, hs, rfl, hI, hg, hK⟩ := hrel)
    by_cases hs1 : 1 ≤ s
    · (have hsi : (1 : Int) ≤ (s : Int) := by omega); (have hs0 : (0 : Int) ≤ (s : Int) := by omega); (have hsF : (s : Int) < (F : Int) := by omega); (have hsub : IntKind.i64.wrap ((s : Int) - 1) = ((s - 1 : Nat) : Int) := by rw [IntWalk.i64_in _ (by omega)]; omega); (have hLl : Hd (L.length = F) := ⟨by rw [hI.out.1, hF.out]⟩); (have HM := hid (members_any n s wr hn (by omega))); (have hat := hid (inv_at hn hI.out (Nat.le_refl s) (by rw [hF.out]; omega))); (go_wp2_with fail); (refine HM.out.mono ?_); (rintro e w2 ⟨vm, rfl, hm, k2⟩); (have hK2 := hid (hK.out.trans' k2)); (have hg2 := hid ((k2.block _ (lt_of_heap hg.out) id).trans hg.out)); (have cs := zsT_cell hg2.out s (by rw [hLl.out]; omega)); (obtain ⟨am, cm, rfl, _, _⟩ := Rd.shape2 hm); (have hml : (flags n (sl n s)).length = n := flags_len _ _); (rw [hml] at hm ⊢); (replace hm := hid hm); (clear HM k2 hK hg)
      by_cases hR : Rc 2 n (grps ps) s
      case neg =>
        have hf : L.getD s false = false := by
          cases h : L.getD s false with
          | false => rfl
          | true => exact absurd (hat.out.1 h) hR
        (rw [hf] at cs); (have hI2 := hid (inv_next hs1 (by rw [hF.out]; omega) hI.out (fun h => absurd h hR))); (clear hf hat hI hm hR hml); (go_wp2); (go_roundw)
        case rel => first | exact ⟨s - 1, L, by omega, by go_num, hI2, hg2, hK2⟩ | ((repeat apply Exists.intro); exact ⟨⟨s - 1, L, by omega, by go_num, hI2, hg2, hK2⟩, rfl⟩)
        case measure => first | (simp [intOf]; done) | (simp [intOf]; omega)
      (have ht : L.getD s false = true := hat.out.2 hR); (rw [ht] at cs); (have HS := size_any (.slice am n cm) (flags n (sl n s)) w2 (by rw [hml]; omega) (by rw [← hml] at hm; rw [hml] at hm; exact hm.out)); (rw [count_sl] at HS); (obtain ⟨z, hz⟩ : ∃ z, (sl n s).length = z := ⟨_, rfl⟩); (rw [hz] at HS); (replace HS := hid HS); (clear ht hat)
      by_cases hz2 : z < 2
      · (have hzi : (z : Int) < 2 := by omega); (have hI2 := hid (inv_next hs1 (by rw [hF.out]; omega) hI.out (fun _ h => absurd h (by omega)))); (clear hI hm hR hml hz); (go_wp2_with fail); (refine HS.out.mono ?_); (rintro e w' ⟨rfl, rfl⟩); (clear HS); (go_wp2); (go_roundw)
        case rel => first | exact ⟨s - 1, L, by omega, by go_num, hI2, hg2, hK2⟩ | ((repeat apply Exists.intro); exact ⟨⟨s - 1, L, by omega, by go_num, hI2, hg2, hK2⟩, rfl⟩)
        case measure => first | (simp [intOf]; done) | (simp [intOf]; omega)
      (have hzi : ¬ (z : Int) < 2 := by omega); (go_wp2_with fail); (refine HS.out.mono ?_); (rintro e w' ⟨rfl, rfl⟩); (have HC := reffirst_any _ (.slice am n cm) ps (flags n (sl n s)) _ (hr.out.kept hK2.out) (by rw [← hml] at hm; rw [hml] at hm; exact hm.out)); (rw [first_firstV hp7.out hn] at HC); (replace HC := hid HC); (clear HS cs); (go_wp2_with fail); (refine HC.out.mono ?_); (rintro e w3 ⟨vv, rfl, ov⟩); (have hK3 := hid (hK2.out.trans' ov.kept)); (have hg3 := hid ((ov.kept.block _ (lt_of_heap hg2.out) id).trans hg2.out)); (have HL := lowest_any vv (.slice am n cm) _ (flags n (sl n s)) w3 (by rw [first_len, hml]; exact hn) ov.rd (hm.out.kept ov.kept)); (rw [lowL_lows] at HL); (replace HL := hid HL); (clear HC hK2 hg2 ov hm); (go_wp2_with fail); (refine HL.out.mono ?_); (rintro e w4 ⟨vl, rfl, ol⟩); (have hK4 := hid (hK3.out.trans' ol.kept)); (have hg4 := hid ((ol.kept.block _ (lt_of_heap hg3.out) id).trans hg3.out)); (obtain ⟨al, cl, rfl, _, _⟩ := Rd.shape2 ol.rd); (have hol := hid ol.rd); (obtain ⟨q, hq⟩ : ∃ q, (lows n (grps ps) s).length = q := ⟨_, rfl⟩); (rw [hq] at hol ⊢)
      have hq7 : q ≤ 7 := by
        (rw [← hq]); (unfold lows sl); (exact Nat.le_trans (List.length_filter_le _ _) (Nat.le_trans (List.length_filter_le _ _) (by simp [allC]; omega)))
      have hlow : Hd (∀ i, i < q → ∃ c : Nat, c < n ∧ (lows n (grps ps) s).getD i 0 = (c : Int) ∧ (c : Int) ∈ lows n (grps ps) s ∧ 2 ^ c ≤ s) := ⟨fun i hi => by
        (have hmem : (lows n (grps ps) s).getD i 0 ∈ lows n (grps ps) s := by rw [List.getD_eq_getElem?_getD, List.getElem?_eq_getElem (by rw [hq]; exact hi)]; simp); (have hl := low_sub hn hR.lt hmem); (refine ⟨((lows n (grps ps) s).getD i 0).toNat, by omega, by omega, ?_, hl.1⟩)
        rw [show ((((lows n (grps ps) s).getD i 0).toNat : Nat) : Int) = (lows n (grps ps) s).getD i 0 by omega]; exact hmem⟩
      have hnew : Hd (∀ k, (Value.slice al q cl).ownBlock = some k → ¬ k = w.heap.size) := ⟨fun k hk e => by
        (have h3 := lt_of_heap hg3.out); (have hnw := ol.new); (rw [hq] at hnw)
        rcases hnw with h | ⟨k2, h, h2⟩
        · rw [h] at hk; cases hk
        · (rw [h] at hk); (have : k2 = k := by simpa using hk)
          omega⟩
      (have hIQ : Hd (InvQ 2 n (grps ps) s (fun x => x ∈ (lows n (grps ps) s).take 0) L) := ⟨invQ_congr hI.out fun c _ => by simp⟩); (have hRz : Hd (Rc 2 n (grps ps) s ∧ 2 ≤ (sl n s).length) := ⟨⟨hR, by omega⟩⟩); (have hslt : Hd (s < 2 ^ n) := ⟨hR.lt⟩); (obtain ⟨lw, hlw⟩ : ∃ l, lows n (grps ps) s = l := ⟨_, rfl⟩); (rw [hlw] at hq hol hlow hIQ); (replace hlw := hid hlw); (replace hq := hid hq); (replace hz := hid hz); (clear HL hK3 hg3 hI ol hR hLl); (obtain ⟨w9, rfl⟩ : ∃ w9 : World, w9 = wr := ⟨_, rfl⟩); (go_wp2)
      go_loopw [11] (fun i wr => ∃ (j : Nat) (L : List Bool), j ≤ q ∧ i = .int .i64 (j : Int) ∧ Hd (InvQ 2 n (grps ps) s (fun x => x ∈ lw.take j) L) ∧ Hd (wr.heap[w.heap.size]? = some (.cells (zsT L) 4 (0, 0))) ∧ Hd (Kept no w wr) ∧ Hd (Kept (fun k => k = w.heap.size) w4 wr)) (fun i _ => q - (intOf i).toNat)
      case atStart => exact ⟨0, L, by omega, rfl, hIQ, hg4, hK4, ⟨Kept.refl _ _⟩⟩
      case round =>
        (clear hIQ); (obtain ⟨j, L, hj, rfl, hIQ, hg, hK, hK5⟩ := hrel)
        by_cases hjl : j < q
        · (have hji : (j : Int) < (q : Int) := by omega); (have hj0 : (0 : Int) ≤ (j : Int) := by omega); (obtain ⟨c, hcn, hce, hcm, hcs⟩ := hlow.out j hjl); (have hov : RdZ wr (.slice al q cl) lw := Rd.kept hol.out hK5.out hnew.out); (obtain ⟨b, o, rfl, hc⟩ := RdZ.at hov j (by rw [hq.out]; exact hjl)); (rw [hce] at hc); (have hsh : wrap64 ((2 : Int) ^ c) = ((2 ^ c : Nat) : Int) := shl_pow c (by omega)); (obtain ⟨F2, hF2⟩ : ∃ F2 : Nat, (2 : Nat) ^ c = F2 := ⟨_, rfl⟩); (rw [hF2] at hsh hcs); (replace hF2 := hid hF2); (replace hsh := hid hsh); (have hF2s : IntKind.i64.wrap ((s : Int) - (F2 : Int)) = ((s - F2 : Nat) : Int) := by rw [IntWalk.i64_in _ (by omega)]; omega); (have hLl : L.length = F := by rw [hIQ.out.1, hF.out]); (have cs := zsT_cell hg.out (s - F2) (by omega)); (have fs : wr.frozen? ⟨w.heap.size, s - F2, none⟩ = false := row_free hg.out _); (have hg2 : Hd ((wr.setCell ⟨w.heap.size, s - F2, none⟩ (.bool true)).heap[w.heap.size]? = some (.cells (zsT (L.set (s - F2) true)) 4 (0, 0))) := ⟨by rw [setCell_row hg.out, zsT_set]⟩); (have hK2 := hid (hK.out.setCell (a := ⟨w.heap.size, s - F2, none⟩) (.inr (Nat.le_refl _)) (.bool true))); (have hK6 := hid (hK5.out.setCell (a := ⟨w.heap.size, s - F2, none⟩) (.inl rfl) (.bool true)))
          have hIQ2 : Hd (InvQ 2 n (grps ps) s (fun x => x ∈ lw.take (j + 1)) (L.set (s - F2) true)) := ⟨by
            have hcm2 : (c : Int) ∈ lows n (grps ps) s := by rw [hlw.out]; exact hcm
            have := inv_set (c := (c : Int)) hn hIQ.out hRz.out.1 hRz.out.2 hcm2 (Q' := fun x => x ∈ lw.take (j + 1)) (fun x => by
              (rw [List.take_succ_eq_append_getElem (by rw [hq.out]; exact hjl), List.mem_append, List.mem_singleton]); (have : lw[j]'(by rw [hq.out]; exact hjl) = (c : Int) := by rw [← hce, List.getD_eq_getElem?_getD, List.getElem?_eq_getElem (by rw [hq.out]; exact hjl)]; rfl)
              rw [this])
            rw [Int.toNat_natCast, hF2.out] at this
            exact this⟩
          (have hi1 : ((s - F2 : Nat) : Int) < (F : Int) := by omega); (have hi0 : (0 : Int) ≤ ((s - F2 : Nat) : Int) := by omega); (obtain ⟨sF, hsF2⟩ : ∃ x, s - F2 = x := ⟨_, rfl⟩); (rw [hsF2] at hF2s cs fs hg2 hK2 hK6 hIQ2 hi1 hi0); (replace hsh := hsh.out); (clear hIQ hg hK hK5 hov hce hcm hcs hF2 hLl hsF2); (go_wp2); (go_roundw)
          case rel => first | exact ⟨j + 1, _, by omega, by go_num, hIQ2, hg2, hK2, hK6⟩ | ((repeat apply Exists.intro); exact ⟨⟨j + 1, _, by omega, by go_num, hIQ2, hg2, hK2, hK6⟩, rfl⟩)
          case measure => simp [intOf]; omega
        · (obtain rfl : j = q := by omega); (have hji : ¬ (j : Int) < (j : Int) := by omega)
          have hI2 := hid (inv_next hs1 hslt.out hIQ.out (fun _ _ c hc => by
            rw [List.take_of_length_le (by rw [hq.out]; exact Nat.le_refl _), ← hlw.out]; exact hc))
          (clear hIQ hK5 hol hlow hRz); (go_wp2); (go_roundw)
          case rel => first | exact ⟨s - 1, L, by omega, by go_num, hI2, hg, hK⟩ | ((repeat apply Exists.intro); exact ⟨⟨s - 1, L, by omega, by go_num, hI2, hg, hK⟩, rfl⟩)
          case measure => first | (simp [intOf]; done) | (simp [intOf]; omega)
    · (obtain rfl : s = 0 := by omega); (have hsi : ¬ (1 : Int) ≤ ((0 : Nat) : Int) := by omega); (have hLl : L.length = F := by rw [hI.out.1, hF.out]); (have hrd := hid (zsT_rd hg.out F hLl (by have : maxLen = 9223372036854775807 := rfl; omega))); (have hres : Hd (L.length = 2 ^ n ∧ ∀ t, t < 2 ^ n → (L.getD t false = true ↔ Rc 2 n (grps ps) t)) := ⟨hI.out.1, fun t ht => inv_at hn hI.out (Nat.zero_le _) ht⟩); (clear hI hg hLl); (go_wp2); (go_ret); (exact ⟨_, rfl, L, hrd.out, hres.out.1, hres.out.2, hK.out⟩)
end Go.Proofs.Ytkdmlakookgolaa
