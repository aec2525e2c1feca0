/- A []Note among the arguments. -/
import Derived.Test.YtknbkhmpnanegaaDoorRead4
import Derived.Test.YtknbkhmpnanegaaDoorRead3
import Derived.Test.YtknbkhmpnanegaaDoorBM
namespace Go.Proofs.YtknbkhmpnanegaaDoor
open Go.ChangeShapes Go.WideShapes Go.ChangeAt Go.RowKit Go.Mk Go.Sha Go.Brd Go.Deep
theorem notes_read {H : Type} {enc : TypeId × Value → H} {w : World} {base : Nat} {held : Bool} {fuel : Nat} {v : Value} {x : DataW H × List MemPlace}
    (h : DataW.trod enc Tryd.prog w base (fun _ => true) held fuel 39 [v] = some x) : ∃ ns : List (Int × List UInt8 × Value), RdN w v ns ∧ ns.length ≤ 9223372036854775807 := by
  have e3 : Tryd.prog.cellsOf 3 = 1 := by kernel_rfl
  have e43 : Tryd.prog.cellsOf 43 = 1 := by kernel_rfl
  obtain ⟨n, f, hr, hn, hf⟩ := rows_read Tryd.underlying39 (sz := 2) (by kernel_rfl) (by decide) h
  obtain ⟨g, hg⟩ : ∃ g : Nat → Int × List UInt8 × Value, ∀ i, i < n → f i = noteC (g i) ∧ (g i).2.1.length ≤ 9223372036854775807 ∧ Rd w 1 (g i).2.2 (g i).2.1.length ((g i).2.1.map B) := choose_lt (α := Int × List UInt8 × Value) (p := fun i z => f i = noteC z ∧ z.2.1.length ≤ 9223372036854775807 ∧ Rd w 1 z.2.2 z.2.1.length (z.2.1.map B)) fun i hi => by
    obtain ⟨hl, m, y, hy⟩ := hf i hi
    obtain ⟨y0, y1, q, _, _, h0, h1⟩ := trod_struct2 Tryd.underlying45 hy
    match hfi : f i, hl with
    | [u0, u1], _ =>
      rw [hfi] at h0 h1
      simp only [e3, e43, List.drop_zero, List.drop_succ_cons, List.take_succ_cons, List.take_zero] at h0 h1
      obtain ⟨z0, hz0, _⟩ := DataW.trod_int Tryd.underlying3 h0
      obtain ⟨xs, hx, hxl⟩ := bytes_read h1
      cases hz0
      exact ⟨(z0, xs, u1), rfl, hxl, hx⟩
  refine ⟨(List.range n).map g, ⟨fun d hd => ?_, ?_⟩, by simpa using hn⟩
  · simp only [List.mem_map, List.mem_range] at hd
    obtain ⟨i, hi, rfl⟩ := hd
    exact (hg i hi).2
  · have e : (List.range n).flatMap f = ((List.range n).map g).flatMap noteC := by
      rw [List.flatMap_map]
      apply flat_congr
      intro i hi
      exact (hg i (by simpa using hi)).1
    rw [← e]
    simpa using hr
end Go.Proofs.YtknbkhmpnanegaaDoor
