/- A flag's meaning. -/
import Derived.Test.YtkdmlakookgolaaGrpZ
namespace Go.Mk
/-- A flag that tells whether p holds. -/
def IsB (c : Value) (p : Prop) : Prop := ∃ b : Bool, c = .bool b ∧ (b = true ↔ p)
theorem isB_yes {p : Prop} (h : p) : IsB (.bool true) p := ⟨true, rfl, by simpa using h⟩
theorem isB_no {p : Prop} (h : ¬ p) : IsB (.bool false) p := ⟨false, rfl, by simpa using h⟩
end Go.Mk
