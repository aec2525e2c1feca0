/- electionref04.Eq compares two byte strings. -/
import Derived.Test.YtggcbjchnefhfaaDoorNum
import Derived.Deep.QuietTactic
import Derived.BigQuiet
namespace Go.Proofs.YtggcbjchnefhfaaDoor
open Go.RowKit Go.Mk Go.Sha
/-- The cell of element k of a slice that reads as xs. -/
theorem Rd.at {w : World} {ao : Option Addr} {cap : Nat} {xs : List UInt8} (h : Rd w 1 (.slice ao xs.length cap) xs.length (xs.map B)) (k : Nat) (hk : k < xs.length) :
    ∃ b o, ao = some ⟨b, o, none⟩ ∧ w.cell? ⟨b, o + k, none⟩ = some (.int .u8 ((xs.getD k 0).toNat : Int)) := by
  obtain ⟨_, _, _, e, _, _, h | ⟨b, o, rfl, hc⟩⟩ := h
  · cases e; omega
  · cases e
    refine ⟨b, o, rfl, hc k _ ?_⟩
    rw [List.getElem?_map, List.getElem?_eq_getElem hk, List.getD_eq_getElem?_getD, List.getElem?_eq_getElem hk]; rfl
theorem eq_split (xs ys : List UInt8) (hl : xs.length = ys.length) (k : Nat) (hk : k < xs.length) (ht : xs.take k = ys.take k) (he : xs.getD k 0 = ys.getD k 0) : xs.take (k + 1) = ys.take (k + 1) := by
  have hk' : k < ys.length := by omega
  have h1 : xs[k] = ys[k] := by simpa [List.getD_eq_getElem?_getD, hk, hk'] using he
  rw [List.take_succ_eq_append_getElem hk, List.take_succ_eq_append_getElem hk', ht, h1]
end Go.Proofs.YtggcbjchnefhfaaDoor
