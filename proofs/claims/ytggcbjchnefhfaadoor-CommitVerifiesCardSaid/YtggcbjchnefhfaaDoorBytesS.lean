/- []byte(s): the bytes of a string in new memory. -/
import Derived.Test.YtggcbjchnefhfaaDoorNum
import Derived.Test.YtggcbjchnefhfaaDoorKit2
import Derived.Laws.IdiomStrings
namespace Go.Proofs.YtggcbjchnefhfaaDoor
open Go.RowKit Go.Mk Go.Sha
theorem sbytes_row {w : World} {g : Nat} {e : TypeId} {fr : Nat × Nat} {s : ByteArray} {cap : Nat} (h : w.heap[g]? = some (.cells (bytesRow s cap) e fr)) (hc : s.size ≤ cap) (hm : cap ≤ maxLen) :
    Rd w 1 (.slice (some ⟨g, 0, none⟩) s.size cap) s.data.toList.length (s.data.toList.map B) := by
  have hl : s.data.toList.length = s.size := Array.length_toList (xs := s.data)
  refine ⟨by simp, some ⟨g, 0, none⟩, cap, by rw [hl], by omega, hm, .inr ⟨g, 0, rfl, fun j u hu => ?_⟩⟩
  rw [cell_of_row w g (0 + j) _ e fr h]
  have hj : j < s.data.size := by
    have := (List.getElem?_eq_some_iff.1 hu).1
    simpa using this
  rw [bytesRow, Array.getElem?_append_left (by simpa using hj)]
  simp only [List.getElem?_map, Array.getElem?_toList] at hu
  simpa [B, Function.comp_def] using hu
theorem string_len (s : ByteArray) : s.data.toList.length = s.size := Array.length_toList (xs := s.data)
end Go.Proofs.YtggcbjchnefhfaaDoor
