/- Entries among the arguments. -/
import Derived.Test.YtknbkhmpnanegaaDoorEnt
import Derived.Test.YtknbkhmpnanegaaDoorRead2
import Derived.Test.YtknbkhmpnanegaaDoorRowsG
import Derived.Lib.SmallJoins
import Derived.Carry
namespace Go.Proofs.YtknbkhmpnanegaaDoor
open Go.ChangeShapes Go.WideShapes Go.ChangeAt Go.RowKit Go.Mk Go.Sha Go.Brd Go.Deep
set_option maxRecDepth 100000 in
theorem entry_cells {H : Type} {enc : TypeId × Value → H} {w : World} {base : Nat} {held : Bool} {fuel : Nat} {cs : List Value} {x : DataW H × List MemPlace}
    (h : DataW.trod enc Tryd.prog w base (fun _ => true) held fuel 47 cs = some x) : ∃ (e : Ent) (vb : Value), cs = entC e vb ∧ e.prev.length = 32 ∧ e.body.length ≤ 9223372036854775807 ∧ Rd w 1 vb e.body.length (e.body.map B) := by
  have e3 : Tryd.prog.cellsOf 3 = 1 := by kernel_rfl
  have e43 : Tryd.prog.cellsOf 43 = 1 := by kernel_rfl
  have e26 : Tryd.prog.cellsOf 26 = 32 := by kernel_rfl
  have e47 : Tryd.prog.cellsOf 47 = 35 := by kernel_rfl
  obtain ⟨y0, y1, y2, y3, n, _, hl, h0, h1, h2, h3⟩ := Go.Joins.trod_struct4 Tryd.underlying47 h
  rw [e47] at hl
  match cs, hl with
  | c0 :: c1 :: c2 :: rest, hl =>
    simp only [e3, e43, e26, List.drop_zero, List.drop_succ_cons, List.take_succ_cons, List.take_zero] at h0 h1 h2 h3
    have hr : rest.take 32 = rest := List.take_of_length_le (by simp at hl; omega)
    rw [hr] at h3
    obtain ⟨a, ha, _⟩ := DataW.trod_int Tryd.underlying3 h0
    obtain ⟨b, hb, _⟩ := DataW.trod_int Tryd.underlying3 h1
    obtain ⟨xs, hx, hxl⟩ := bytes_read h2
    obtain ⟨bs, hbl, hbs⟩ := digest_cells h3
    cases ha; cases hb
    exact ⟨⟨a, b, xs, bs⟩, c2, by rw [hbs]; rfl, hbl, hxl, hx⟩
set_option maxRecDepth 100000 in
theorem entry_read {H : Type} {enc : TypeId × Value → H} {w : World} {base base' : Nat} {held : Bool} {r : Reach} {v : Value} {d : DataW H} {p : List MemPlace}
    (hv : Value.okWide Tryd.prog w r base' 47 v) (h : DataW.Trod enc Tryd.prog w base (fun _ => true) held 47 v d p) : ∃ (e : Ent) (vb : Value), v = Ev e vb ∧ e.prev.length = 32 ∧ e.body.length ≤ 9223372036854775807 ∧ Rd w 1 vb e.body.length (e.body.map B) := by
  obtain ⟨fuel, h⟩ := h
  obtain ⟨e, vb, h1, h2, h3, h4⟩ := entry_cells h
  unfold Value.okWide at hv
  rw [Tryd.underlying47] at hv
  obtain ⟨cs, rfl, _, _⟩ := hv
  refine ⟨e, vb, ?_, h2, h3, h4⟩
  unfold Ev
  rw [← h1]
  simp [Value.cells]
end Go.Proofs.YtknbkhmpnanegaaDoor
