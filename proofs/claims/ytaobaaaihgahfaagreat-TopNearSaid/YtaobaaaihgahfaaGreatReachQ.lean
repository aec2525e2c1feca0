/- Sets of candidates as numbers; which sets can remain. -/
import Derived.Test.YtaobaaaihgahfaaGreatRTailQ
import Derived.Laws.CopyRow
import Derived.Shelf.Bits.Mul64
namespace Go.Mg
open Go.Pil
theorem bits_sub : ∀ s < 128, ∀ c < 7, s.testBit c = true → (2 ^ c ≤ s) ∧ ∀ i < 7, (s - 2 ^ c).testBit i = (s.testBit i && decide (i ≠ c)) := by decide +kernel
theorem bits_pow : ∀ c < 7, ∀ i < 7, (2 ^ c).testBit i = decide (i = c) := by decide +kernel
theorem bits_full : ∀ n ≤ 7, ∀ i < 7, (2 ^ n - 1).testBit i = decide (i < n) := by decide +kernel
/-- The candidates of a set, ascending. -/
def sl (n s : Nat) : List Int := (allC n).filter fun c => s.testBit c.toNat
theorem mem_sl {n s : Nat} {x : Int} : x ∈ sl n s ↔ (0 ≤ x ∧ x < n) ∧ s.testBit x.toNat = true := by unfold sl; rw [List.mem_filter, mem_allC]
theorem pow7 {n : Nat} (h : n ≤ 7) : 2 ^ n ≤ 128 := Nat.pow_le_pow_right (n := 2) (by decide) h
theorem sl_full {n : Nat} (h : n ≤ 7) : sl n (2 ^ n - 1) = allC n := by
  (unfold sl); (rw [List.filter_eq_self]); (intro x hx); (have := mem_allC.1 hx); (rw [bits_full n h x.toNat (by omega)])
  simp; omega
/-- The candidates of a set with the least votes. -/
def lows (n : Nat) (gs : List Grp) (s : Nat) : List Int := (sl n s).filter fun c => (sl n s).all fun d => decide (vt n gs (sl n s) c ≤ vt n gs (sl n s) d)
theorem mem_lows {n : Nat} {gs : List Grp} {s : Nat} {c : Int} : c ∈ lows n gs s ↔ c ∈ sl n s ∧ ∀ d ∈ sl n s, vt n gs (sl n s) c ≤ vt n gs (sl n s) d := by
  unfold lows; rw [List.mem_filter]; simp
theorem low_exists {n : Nat} (gs : List Grp) {s : Nat} (h : sl n s ≠ []) : ∃ c, c ∈ lows n gs s := by
  have : ∀ l : List Int, l ≠ [] → ∃ c ∈ l, ∀ d ∈ l, vt n gs (sl n s) c ≤ vt n gs (sl n s) d := by
    intro l
    induction l with
    | nil => intro h; exact absurd rfl h
    | cons x l ih =>
      intro _
      by_cases hl : l = []
      · subst hl; exact ⟨x, by simp, fun d hd => by rw [List.mem_singleton.1 hd]; exact Int.le_refl _⟩
      · obtain ⟨c, hc, hm⟩ := ih hl
        rcases Int.le_total (vt n gs (sl n s) x) (vt n gs (sl n s) c) with h1 | h1
        · exact ⟨x, by simp, fun d hd => by
            rcases List.mem_cons.1 hd with rfl | hd
            · exact Int.le_refl _
            · exact Int.le_trans h1 (hm d hd)⟩
        · exact ⟨c, by simp [hc], fun d hd => by
            rcases List.mem_cons.1 hd with rfl | hd
            · exact h1
            · exact hm d hd⟩
  (obtain ⟨c, hc, hm⟩ := this _ h); (exact ⟨c, mem_lows.2 ⟨hc, hm⟩⟩)
/-- The sets that can remain by some way of breaking ties, where candidates are excluded from sets of at least k. -/
inductive Rc (k n : Nat) (gs : List Grp) : Nat → Prop
  | full : Rc k n gs (2 ^ n - 1)
  | step {s : Nat} {c : Int} : Rc k n gs s → k ≤ (sl n s).length → c ∈ lows n gs s → Rc k n gs (s - 2 ^ c.toNat)
theorem Rc.lt {k n : Nat} {gs : List Grp} {s : Nat} (h : Rc k n gs s) : s < 2 ^ n := by
  induction h with
  | full => have := Nat.two_pow_pos n; omega
  | step _ _ _ ih => exact Nat.lt_of_le_of_lt (Nat.sub_le _ _) ih
theorem low_sub {n : Nat} {gs : List Grp} {s : Nat} {c : Int} (hn : n ≤ 7) (hs : s < 2 ^ n) (h : c ∈ lows n gs s) : 2 ^ c.toNat ≤ s ∧ s - 2 ^ c.toNat < s ∧ (0 ≤ c ∧ c < n) ∧ s.testBit c.toNat = true := by
  (have h1 := (mem_lows.1 h).1); (have h2 := mem_sl.1 h1); (have h3 := pow7 hn); (have h4 := (bits_sub s (by omega) c.toNat (by omega) h2.2).1); (have := Nat.two_pow_pos c.toNat); (exact ⟨h4, by omega, h2.1, h2.2⟩)
end Go.Mg
