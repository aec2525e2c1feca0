/- Bytes among the arguments. -/
import Derived.Test.YtkdmlakookgolaaReadZ
import Derived.Test.YtkdmlakookgolaaDec1Z
import Derived.Lib.SmallJoins
namespace Go.Proofs.Ytkdmlakookgolaa
open Go.ChangeShapes Go.WideShapes Go.ChangeAt Go.RowKit Go.Mk Go.Deep Go.Pil Go.Mg
theorem bounds_u8' {z : Int} (h : IntKind.u8.wrap z = z) : 0 ≤ z ∧ z < 256 := by
  rw [IntKind.wrap_u8] at h
  omega
theorem bytes_read {H : Type} {enc : TypeId × Value → H} {w : World} {base : Nat} {held : Bool} {fuel : Nat} {v : Value} {x : DataW H × List MemPlace}
    (h : DataW.trod enc Try.prog w base (fun _ => true) held fuel 45 [v] = some x) : ∃ xs : List UInt8, Rd8 w v xs ∧ xs.length ≤ 9223372036854775807 := by
  obtain ⟨n, f, hr, hn, hf⟩ := cells1_read Try.underlying45 (by kernel_rfl) h
  obtain ⟨g, hg⟩ : ∃ g : Nat → UInt8, ∀ i, i < n → f i = B8 (g i) := choose_lt (p := fun i z => f i = B8 z) fun i hi => by
    (obtain ⟨m, y, hy⟩ := hf i hi); (obtain ⟨z, hz, _, hw⟩ := DataW.trod_int Try.underlying5 hy); (have hz : f i = .int .u8 z := by simpa using hz); (have hb := bounds_u8 hw); (refine ⟨UInt8.ofNat z.toNat, ?_⟩); (rw [hz]); (unfold B8); (rw [UInt8.toNat_ofNat'])
    congr 1
    omega
  refine ⟨(List.range n).map g, ?_, by simpa using hn⟩
  have e : (List.range n).map f = ((List.range n).map g).map B8 := by
    (rw [List.map_map]); (exact List.map_congr_left fun i hi => hg i (by simpa using hi))
  (unfold Rd8); (rw [← e])
  simpa using hr
end Go.Proofs.Ytkdmlakookgolaa
