/- A Change among the arguments. -/
import Derived.Test.YtknbkhmpnanegaaDoorRead6
import Derived.Test.YtknbkhmpnanegaaDoorBCk
namespace Go.Proofs.YtknbkhmpnanegaaDoor
open Go.ChangeShapes Go.WideShapes Go.ChangeAt Go.RowKit Go.Mk Go.Sha Go.Brd Go.Deep
theorem cut_list {α : Type} (l : List α) (a k : Nat) : l.drop a = (l.drop a).take k ++ l.drop (a + k) := by
  rw [← List.drop_drop]; exact (List.take_append_drop k (l.drop a)).symm
set_option maxRecDepth 100000 in
theorem change_read {H : Type} {enc : TypeId × Value → H} {w : World} {base base' : Nat} {held : Bool} {r : Reach} {v : Value} {d : DataW H} {p : List MemPlace}
    (hv : Value.okWide Tryd.prog w r base' 58 v) (h : DataW.Trod enc Tryd.prog w base (fun _ => true) held 58 v d p) :
    ∃ (vn : Value) (ns : List (Int × List UInt8 × Value)) (a wh : Int) (e : Ent) (vb : Value), v = .agg (chgC vn a e vb wh).toArray ∧ ns.length ≤ 9223372036854775807 ∧ RdN w vn ns ∧ e.prev.length = 32 ∧ e.body.length ≤ 9223372036854775807 ∧ Rd w 1 vb e.body.length (e.body.map B) := by
  have e3 : Tryd.prog.cellsOf 3 = 1 := by kernel_rfl
  have e33 : Tryd.prog.cellsOf 39 = 1 := by kernel_rfl
  have e47 : Tryd.prog.cellsOf 47 = 35 := by kernel_rfl
  have e70 : Tryd.prog.cellsOf 58 = 38 := by kernel_rfl
  obtain ⟨fuel, h⟩ := h
  obtain ⟨y0, y1, y2, y3, k, _, hl, h0, h1, h2, h3⟩ := Go.Joins.trod_struct4 Tryd.underlying58 h
  rw [e70] at hl
  generalize hcs : v.cells.toList = cs at hl h0 h1 h2 h3
  simp only [e3, e33, e47] at h0 h1 h2 h3
  obtain ⟨a, ea, _⟩ := DataW.trod_int Tryd.underlying3 h1
  obtain ⟨wh, ew, _⟩ := DataW.trod_int Tryd.underlying3 h3
  obtain ⟨e, vb, eE, hp, hb, hr⟩ := entry_cells h2
  obtain ⟨vn, el⟩ : ∃ vn, (cs.drop 0).take 1 = [vn] := by
    have : ((cs.drop 0).take 1).length = 1 := by simp [hl]
    exact List.length_eq_one_iff.1 this
  have h0' : DataW.trod enc Tryd.prog w base (fun _ => true) held k 39 [vn] = some y0 := by rw [← el]; exact h0
  obtain ⟨ns, hns, hnl⟩ := notes_read h0'
  have ecs : cs = chgC vn a e vb wh := by
    have c0 := cut_list cs 0 1
    have c1 := cut_list cs 1 1
    have c2 := cut_list cs 2 35
    have c3 := cut_list cs 37 1
    have c6 : cs.drop 38 = [] := List.drop_of_length_le (by omega)
    simp only [Nat.reduceAdd] at c0 c1 c2 c3
    rw [c6, List.append_nil] at c3
    rw [el, c1, c2, c3, ea, eE, ew, List.drop_zero] at c0
    rw [c0]; simp [chgC]
  unfold Value.okWide at hv
  rw [Tryd.underlying58] at hv
  obtain ⟨cs', rfl, _, _⟩ := hv
  refine ⟨vn, ns, a, wh, e, vb, ?_, by first | exact hnl | exact hnl.1, hns, hp, hb, hr⟩
  rw [← ecs, ← hcs]
  simp [Value.cells]
end Go.Proofs.YtknbkhmpnanegaaDoor
