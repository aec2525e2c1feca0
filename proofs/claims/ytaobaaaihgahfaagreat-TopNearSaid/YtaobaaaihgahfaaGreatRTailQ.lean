/- electionref31.Tail (printed by gen_rtail.py). -/
import Derived.Test.YtaobaaaihgahfaaGreatGenQ
import Derived.Test.YtaobaaaihgahfaaGreatCntQ
namespace Go.Proofs.YtaobaaaihgahfaaGreat
open Go.RowKit Go.Mk Go.Pil Go.Mg
theorem nodup_len : ∀ (n : Nat) (l : List Int), l.Nodup → (∀ x ∈ l, 0 ≤ x ∧ x < (n : Int)) → l.length ≤ n := by
  intro n
  induction n with
  | zero =>
    intro l _ h
    cases l with
    | nil => simp
    | cons x l => have := h x (by simp); omega
  | succ n ih =>
    intro l hd h
    have h2 := ih (l.erase (n : Int)) (hd.erase _) fun x hx => by
      (have h3 := (hd.mem_erase_iff).1 hx); (have h4 := h x h3.2); (have h5 := h3.1)
      omega
    have := List.length_erase (l := l) (a := (n : Int))
    split at this <;> omega
end Go.Proofs.YtaobaaaihgahfaaGreat
