/- Sets of candidates as numbers; which sets can remain. -/
import Derived.Test.YtaobaaaihgahfaaGreatMTailY
namespace Go.Mg
open Go.Pil
theorem bits_sub : ∀ s < 128, ∀ c < 7, s.testBit c = true → (2 ^ c ≤ s) ∧ ∀ i < 7, (s - 2 ^ c).testBit i = (s.testBit i && decide (i ≠ c)) := by decide +kernel
theorem bits_pow : ∀ c < 7, ∀ i < 7, (2 ^ c).testBit i = decide (i = c) := by decide +kernel
theorem bits_full : ∀ n ≤ 7, ∀ i < 7, (2 ^ n - 1).testBit i = decide (i < n) := by decide +kernel
/-- The candidates of a set, ascending. -/
def sl (n s : Nat) : List Int := (allC n).filter fun c => s.testBit c.toNat
theorem mem_sl {n s : Nat} {x : Int} : x ∈ sl n s ↔ (0 ≤ x ∧ x < n) ∧ s.testBit x.toNat = true := by unfold sl; rw [List.mem_filter, mem_allC]
theorem pow7 {n : Nat} (h : n ≤ 7) : 2 ^ n ≤ 128 := Nat.pow_le_pow_right (n := 2) (by decide) h
theorem sl_full {n : Nat} (h : n ≤ 7) : sl n (2 ^ n - 1) = allC n := by
  (unfold sl); (rw [List.filter_eq_self]); (intro x hx); (have := mem_allC.1 hx); (rw [bits_full n h x.toNat (by omega)])
  simp; omega
/-- The candidates of a set with the least votes. -/
def lows (n : Nat) (gs : List Grp) (s : Nat) : List Int := (sl n s).filter fun c => (sl n s).all fun d => decide (vt n gs (sl n s) c ≤ vt n gs (sl n s) d)
theorem mem_lows {n : Nat} {gs : List Grp} {s : Nat} {c : Int} : c ∈ lows n gs s ↔ c ∈ sl n s ∧ ∀ d ∈ sl n s, vt n gs (sl n s) c ≤ vt n gs (sl n s) d := by
  unfold lows; rw [List.mem_filter]; simp
theorem low_exists {n : Nat} (gs : List Grp) {s : Nat} (h : sl n s ≠ []) : ∃ c, c ∈ lows n gs s := by
  have : ∀ l : List Int, l ≠ [] → ∃ c ∈ l, ∀ d ∈ l, vt n gs (sl n s) c ≤ vt n gs (sl n s) d := by
    intro l
    induction l with
    | nil => intro h; exact absurd rfl h
    | cons x l ih =>
      intro _
      by_cases hl : l = []
      · subst hl; exact ⟨x, by simp, fun d hd => by rw [List.mem_singleton.1 hd]; exact Int.le_refl _⟩
      · obtain ⟨c, hc, hm⟩ := ih hl
        rcases Int.le_total (vt n gs (sl n s) x) (vt n gs (sl n s) c) with h1 | h1
        · exact ⟨x, by simp, fun d hd => by
            rcases List.mem_cons.1 hd with rfl | hd
            · exact Int.le_refl _
            · exact Int.le_trans h1 (hm d hd)⟩
        · exact ⟨c, by simp [hc], fun d hd => by
            rcases List.mem_cons.1 hd with rfl | hd
            · exact h1
            · exact hm d hd⟩
  (obtain ⟨c, hc, hm⟩ := this _ h); (exact ⟨c, mem_lows.2 ⟨hc, hm⟩⟩)
/-- The sets that can remain by some way of breaking ties, where candidates are excluded from sets of at least k. -/
inductive Rc (k n : Nat) (gs : List Grp) : Nat → Prop
  | full : Rc k n gs (2 ^ n - 1)
  | step {s : Nat} {c : Int} : Rc k n gs s → k ≤ (sl n s).length → c ∈ lows n gs s → Rc k n gs (s - 2 ^ c.toNat)
theorem Rc.lt {k n : Nat} {gs : List Grp} {s : Nat} (h : Rc k n gs s) : s < 2 ^ n := by
  induction h with
  | full => have := Nat.two_pow_pos n; omega
  | step _ _ _ ih => exact Nat.lt_of_le_of_lt (Nat.sub_le _ _) ih
theorem low_sub {n : Nat} {gs : List Grp} {s : Nat} {c : Int} (hn : n ≤ 7) (hs : s < 2 ^ n) (h : c ∈ lows n gs s) : 2 ^ c.toNat ≤ s ∧ s - 2 ^ c.toNat < s ∧ (0 ≤ c ∧ c < n) ∧ s.testBit c.toNat = true := by
  (have h1 := (mem_lows.1 h).1); (have h2 := mem_sl.1 h1); (have h3 := pow7 hn); (have h4 := (bits_sub s (by omega) c.toNat (by omega) h2.2).1); (have := Nat.two_pow_pos c.toNat); (exact ⟨h4, by omega, h2.1, h2.2⟩)
/-- What the list of reached sets holds when the sets above s have been looked at, and of s the exclusions of Q. -/
def InvQ (k n : Nat) (gs : List Grp) (s : Nat) (Q : Int → Prop) (L : List Bool) : Prop :=
  L.length = 2 ^ n ∧ ∀ t, t < 2 ^ n → (L.getD t false = true ↔ t = 2 ^ n - 1 ∨ (∃ u c, s < u ∧ u < 2 ^ n ∧ Rc k n gs u ∧ k ≤ (sl n u).length ∧ c ∈ lows n gs u ∧ t = u - 2 ^ c.toNat) ∨ (Rc k n gs s ∧ k ≤ (sl n s).length ∧ ∃ c, c ∈ lows n gs s ∧ Q c ∧ t = s - 2 ^ c.toNat))
def Inv (k n : Nat) (gs : List Grp) (s : Nat) (L : List Bool) : Prop := InvQ k n gs s (fun _ => False) L
theorem inv_start (k n : Nat) (gs : List Grp) : Inv k n gs (2 ^ n - 1) ((List.replicate (2 ^ n) false).set (2 ^ n - 1) true) := by
  (have hp := Nat.two_pow_pos n); (refine ⟨by simp, fun t ht => ?_⟩); (rw [List.getD_eq_getElem?_getD, List.getElem?_set])
  constructor
  · intro h
    by_cases he : 2 ^ n - 1 = t
    · exact .inl he.symm
    · rw [if_neg he] at h; simp [ht] at h
  · rintro (h | ⟨u, _, h1, h2, _⟩ | ⟨_, _, c, _, hf, _⟩)
    · rw [if_pos h.symm, if_pos (by rw [List.length_replicate]; omega)]; rfl
    · omega
    · exact hf.elim
theorem inv_at {k n : Nat} {gs : List Grp} {s : Nat} {L : List Bool} (hn : n ≤ 7) (h : Inv k n gs s L) {t : Nat} (hst : s ≤ t) (ht : t < 2 ^ n) : L.getD t false = true ↔ Rc k n gs t := by
  rw [h.2 t ht]
  constructor
  · rintro (h | ⟨u, c, _, _, h3, h4, h5, rfl⟩ | ⟨_, _, c, _, hf, _⟩)
    · rw [h]; exact .full
    · exact .step h3 h4 h5
    · exact hf.elim
  · intro hr
    cases hr with
    | full => exact .inl rfl
    | step h3 h4 h5 =>
      rename_i u c
      (have := low_sub hn h3.lt h5); (exact .inr (.inl ⟨u, c, by omega, h3.lt, h3, h4, h5, rfl⟩))
theorem inv_next {k n : Nat} {gs : List Grp} {s : Nat} {L : List Bool} {Q : Int → Prop} (hs : 1 ≤ s) (hs2 : s < 2 ^ n) (h : InvQ k n gs s Q L) (hQ : Rc k n gs s → k ≤ (sl n s).length → ∀ c ∈ lows n gs s, Q c) : Inv k n gs (s - 1) L := by
  (refine ⟨h.1, fun t ht => ?_⟩); (rw [h.2 t ht])
  constructor
  · rintro (h | ⟨u, c, h1, h2⟩ | ⟨h1, h2, c, h3, _, h4⟩)
    · exact .inl h
    · exact .inr (.inl ⟨u, c, by omega, h2⟩)
    · exact .inr (.inl ⟨s, c, by omega, hs2, h1, h2, h3, h4⟩)
  · rintro (h | ⟨u, c, h1, h2, h3, h4, h5, h6⟩ | ⟨_, _, c, _, hf, _⟩)
    · exact .inl h
    · by_cases hu : u = s
      · subst hu; exact .inr (.inr ⟨h3, h4, c, h5, hQ h3 h4 c h5, h6⟩)
      · exact .inr (.inl ⟨u, c, by omega, h2, h3, h4, h5, h6⟩)
    · exact hf.elim
theorem inv_set {k n : Nat} {gs : List Grp} {s : Nat} {L : List Bool} {Q Q' : Int → Prop} {c : Int} (hn : n ≤ 7) (h : InvQ k n gs s Q L) (hr : Rc k n gs s) (hk : k ≤ (sl n s).length) (hc : c ∈ lows n gs s) (hQ : ∀ x, Q' x ↔ Q x ∨ x = c) : InvQ k n gs s Q' (L.set (s - 2 ^ c.toNat) true) := by
  (have hl := low_sub hn hr.lt hc); (have hs := hr.lt); (refine ⟨by rw [List.length_set]; exact h.1, fun t ht => ?_⟩); (rw [List.getD_eq_getElem?_getD, List.getElem?_set])
  by_cases he : s - 2 ^ c.toNat = t
  · (rw [if_pos he, if_pos (by rw [h.1]; omega)]); (simp only [Option.getD_some, true_iff]); (exact .inr (.inr ⟨hr, hk, c, hc, (hQ c).2 (.inr rfl), he.symm⟩))
  · rw [if_neg he, ← List.getD_eq_getElem?_getD, h.2 t ht]
    constructor
    · rintro (h | h | ⟨h1, h2, x, h3, h4, h5⟩)
      · exact .inl h
      · exact .inr (.inl h)
      · exact .inr (.inr ⟨h1, h2, x, h3, (hQ x).2 (.inl h4), h5⟩)
    · rintro (h | h | ⟨h1, h2, x, h3, h4, h5⟩)
      · exact .inl h
      · exact .inr (.inl h)
      · rcases (hQ x).1 h4 with h4 | rfl
        · exact .inr (.inr ⟨h1, h2, x, h3, h4, h5⟩)
        · exact absurd h5.symm he
theorem invQ_congr {k n : Nat} {gs : List Grp} {s : Nat} {L : List Bool} {Q Q' : Int → Prop} (h : InvQ k n gs s Q L) (hQ : ∀ c ∈ lows n gs s, Q c ↔ Q' c) : InvQ k n gs s Q' L := by
  (refine ⟨h.1, fun t ht => ?_⟩); (rw [h.2 t ht])
  constructor
  · rintro (h | h | ⟨h1, h2, x, h3, h4, h5⟩)
    · exact .inl h
    · exact .inr (.inl h)
    · exact .inr (.inr ⟨h1, h2, x, h3, (hQ x h3).1 h4, h5⟩)
  · rintro (h | h | ⟨h1, h2, x, h3, h4, h5⟩)
    · exact .inl h
    · exact .inr (.inl h)
    · exact .inr (.inr ⟨h1, h2, x, h3, (hQ x h3).2 h4, h5⟩)
end Go.Mg

/- electionref24: Members, Size, Lowest (printed by gen_reach.py). -/
namespace Go.Mg
open Go.Pil
def memK (n s k : Nat) : List Bool := (List.range k).map (fun i => s.testBit i) ++ List.replicate (n - k) false
theorem memK_set (n s k : Nat) (h : k < n) : (memK n s k).set k (s.testBit k) = memK n s (k + 1) := by
  unfold memK
  apply List.ext_getElem
  · simp; omega
  · (intro i h1 h2); (rw [List.getElem_set])
    by_cases he : k = i
    · subst he; simp
    · (rw [if_neg he]); (simp only [List.getElem_append, List.length_map, List.length_range, List.getElem_map, List.getElem_range, List.getElem_replicate])
      split <;> split <;> first | rfl | omega
theorem memK_all (n s : Nat) : memK n s n = flags n (sl n s) := by
  (unfold memK flags); (rw [Nat.sub_self, List.replicate_zero, List.append_nil])
  apply List.map_congr_left
  (intro i hi); (have hi := List.mem_range.1 hi); (rw [Bool.eq_iff_iff, decide_eq_true_iff, mem_sl])
  simp; intro _; omega
theorem memK_len (n s k : Nat) (h : k ≤ n) : (memK n s k).length = n := by simp [memK]; omega
theorem bit_and : ∀ s < 128, ∀ k < 7, (Go.bits .and .i64 (((s / 2 ^ k : Nat)) : Int) 1 == 1) = s.testBit k := by decide +kernel
end Go.Mg
namespace Go.Proofs.YtaobaaaihgahfaaGreat
open Go.RowKit Go.Mk Go.Pil Go.Mg
end Go.Proofs.YtaobaaaihgahfaaGreat

/- electionref24.Reachable. -/
namespace Go.Proofs.YtaobaaaihgahfaaGreat
open Go.RowKit Go.Mk Go.Pil Go.Mg
theorem shl_pow : ∀ n ≤ 7, wrap64 ((2 : Int) ^ n) = ((2 ^ n : Nat) : Int) := by decide +kernel
theorem zsT_cell {w : World} {g : Nat} {L : List Bool} (h : w.heap[g]? = some (.cells (zsT L) 4 (0, 0))) (c : Nat) (hc : c < L.length) : w.cell? ⟨g, c, none⟩ = some (.bool (L.getD c false)) := by
  rw [cell_of_row w _ c _ _ _ h]
  simp [zsT, hc]
end Go.Proofs.YtaobaaaihgahfaaGreat
