/- Upper's plain law: the least over the pairs that are reached. -/
import Derived.Test.YtaobaaaihgahfaaGreatPossQ
import Derived.Test.YtaobaaaihgahfaaGreatSrchQ
namespace Go.Mg
open Go.Pil
theorem sl_sub : ∀ n ≤ 7, ∀ u < 2 ^ n, ∀ c < n, u.testBit c = true → (sl n (u - 2 ^ c)).length + 1 = (sl n u).length := by decide +kernel
end Go.Mg

/- Lower bounds in plain Lean: Tail's bound; what a search's margin is worth. -/
namespace Go.Mg
open Go.Pil
theorem hd_find (remain : List Bool) (p : List Int) : hd remain p = p.find? (inB remain) := by unfold hd kept; rw [List.head?_filter]
theorem hd_iff {remain : List Bool} {p : List Int} {c : Int} : hd remain p = some c ↔ inB remain c = true ∧ ∃ pre post, p = pre ++ c :: post ∧ ∀ x ∈ pre, inB remain x = false := by
  rw [hd_find, List.find?_eq_some_iff_append]
  simp
end Go.Mg
