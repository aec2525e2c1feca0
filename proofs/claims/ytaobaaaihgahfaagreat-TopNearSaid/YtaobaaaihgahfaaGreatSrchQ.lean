/- The search for a certificate in plain Lean. -/
import Derived.Test.YtaobaaaihgahfaaGreatNodeQ
namespace Go.Mg
open Go.Pil
/-- The children of a node. -/
def kidsE (n : Nat) (gs : List Grp) (k : Nat) (x : Nd) (e : Int) : Nd := ⟨(k : Int), e :: x.tail, max x.bd (bd n gs (e :: x.tail)), true⟩
def kids (n : Nat) (gs : List Grp) (k : Nat) (x : Nd) (m : Nat) : List Nd := ((allC m).filter fun e => decide (e ∉ x.tail)).map (kidsE n gs k x)
end Go.Mg

/- The search's nodes: how many there are, that a leaf is left. -/
namespace Go.Mg
open Go.Pil
theorem allC_len (m : Nat) : (allC m).length = m := by simp [allC]
theorem kids_le (n k : Nat) (gs : List Grp) (x : Nd) (m : Nat) : (kids n gs k x m).length ≤ m := by
  unfold kids; rw [List.length_map]; exact Nat.le_trans (List.length_filter_le _ _) (by rw [allC_len]; exact Nat.le_refl _)
end Go.Mg

/- A heap of leaves in plain Lean. -/
namespace Go.Mg
open Go.Pil
/-- The order of the queue: by the bound, then by the index. -/
def lsN (l : List Nd) (a b : Nat) : Bool := if (l.getD a default).bd = (l.getD b default).bd then decide (a < b) else decide ((l.getD a default).bd < (l.getD b default).bd)
theorem lsN_iff {l : List Nd} {a b : Nat} : lsN l a b = true ↔ (l.getD a default).bd < (l.getD b default).bd ∨ ((l.getD a default).bd = (l.getD b default).bd ∧ a < b) := by
  unfold lsN
  split
  · rw [decide_eq_true_iff]; omega
  · rw [decide_eq_true_iff]; omega
theorem lsN_not {l : List Nd} {a b : Nat} : lsN l a b = false ↔ (l.getD b default).bd < (l.getD a default).bd ∨ ((l.getD b default).bd = (l.getD a default).bd ∧ b ≤ a) := by
  rw [← Bool.not_eq_true, lsN_iff]; omega
theorem le_trans {l : List Nd} {a b c : Nat} (h1 : lsN l b a = false) (h2 : lsN l c b = false) : lsN l c a = false := by
  rw [lsN_not] at *; omega
def up (h : List Nat) (j : Nat) : Nat := h.getD ((j - 1) / 2) 0
end Go.Mg
