/- A Proof among the arguments. -/
import Derived.Test.YtknbkhmpnanegaaDoorRead4
import Derived.Test.YtknbkhmpnanegaaDoorRead3
import Derived.Test.YtknbkhmpnanegaaDoorBC
namespace Go.Proofs.YtknbkhmpnanegaaDoor
open Go.ChangeShapes Go.WideShapes Go.ChangeAt Go.RowKit Go.Mk Go.Sha Go.Brd Go.Deep
theorem cut_list {α : Type} (l : List α) (a k : Nat) : l.drop a = (l.drop a).take k ++ l.drop (a + k) := by
  rw [← List.drop_drop]; exact (List.take_append_drop k (l.drop a)).symm
theorem trod_struct6 {H : Type} {enc : TypeId × Value → H} {P : Program} {w : World} {base : Nat} {spare : Nat → Bool} {held : Bool} {t : TypeId} {f0 f1 f2 f3 f4 f5 : Field} {fuel : Nat} {cs : List Value} {x : DataW H × List MemPlace} (ht : P.underlying t = some (.struct #[f0, f1, f2, f3, f4, f5])) (h : DataW.trod enc P w base spare held fuel t cs = some x) :
    ∃ y0 y1 y2 y3 y4 y5 n, cs.length = P.cellsOf t ∧ DataW.trod enc P w base spare held n f0.type ((cs.drop f0.offset).take (P.cellsOf f0.type)) = some y0 ∧
      DataW.trod enc P w base spare held n f1.type ((cs.drop f1.offset).take (P.cellsOf f1.type)) = some y1 ∧ DataW.trod enc P w base spare held n f2.type ((cs.drop f2.offset).take (P.cellsOf f2.type)) = some y2 ∧
      DataW.trod enc P w base spare held n f3.type ((cs.drop f3.offset).take (P.cellsOf f3.type)) = some y3 ∧ DataW.trod enc P w base spare held n f4.type ((cs.drop f4.offset).take (P.cellsOf f4.type)) = some y4 ∧ DataW.trod enc P w base spare held n f5.type ((cs.drop f5.offset).take (P.cellsOf f5.type)) = some y5 := by
  obtain ⟨xs, n, _, _, hl, hlen, hf⟩ := DataW.trod_struct ht h
  match xs, hlen with
  | [y0, y1, y2, y3, y4, y5], _ => exact ⟨y0, y1, y2, y3, y4, y5, n, hl, by simpa using hf 0 f0 rfl, by simpa using hf 1 f1 rfl, by simpa using hf 2 f2 rfl, by simpa using hf 3 f3 rfl, by simpa using hf 4 f4 rfl, by simpa using hf 5 f5 rfl⟩
set_option maxRecDepth 100000 in
theorem proof_read {H : Type} {enc : TypeId × Value → H} {w : World} {base base' : Nat} {held : Bool} {r : Reach} {v : Value} {d : DataW H} {p : List MemPlace}
    (hv : Value.okWide Tryd.prog w r base' 70 v) (h : DataW.Trod enc Tryd.prog w base (fun _ => true) held 70 v d p) :
    ∃ (O R : List UInt8) (m n : Int) (e : Ent) (vb vl : Value) (ds : List (List UInt8)), v = .agg (prfC O R m n e vb vl).toArray ∧ O.length = 32 ∧ R.length = 32 ∧ e.prev.length = 32 ∧ e.body.length ≤ 9223372036854775807 ∧ Rd w 1 vb e.body.length (e.body.map B) ∧ RdD w vl ds ∧ ds.length ≤ 9223372036854775807 := by
  have e3 : Tryd.prog.cellsOf 3 = 1 := by kernel_rfl
  have e33 : Tryd.prog.cellsOf 33 = 1 := by kernel_rfl
  have e26 : Tryd.prog.cellsOf 26 = 32 := by kernel_rfl
  have e47 : Tryd.prog.cellsOf 47 = 35 := by kernel_rfl
  have e70 : Tryd.prog.cellsOf 70 = 102 := by kernel_rfl
  obtain ⟨fuel, h⟩ := h
  obtain ⟨y0, y1, y2, y3, y4, y5, k, hl, h0, h1, h2, h3, h4, h5⟩ := trod_struct6 Tryd.underlying70 h
  rw [e70] at hl
  generalize hcs : v.cells.toList = cs at hl h0 h1 h2 h3 h4 h5
  simp only [e3, e33, e26, e47] at h0 h1 h2 h3 h4 h5
  obtain ⟨O, hO, eO⟩ := digest_cells h0
  obtain ⟨R, hR, eR⟩ := digest_cells h1
  obtain ⟨m, em, _⟩ := DataW.trod_int Tryd.underlying3 h2
  obtain ⟨n, en, _⟩ := DataW.trod_int Tryd.underlying3 h3
  obtain ⟨e, vb, eE, hp, hb, hr⟩ := entry_cells h4
  have h101 : ∃ vl, (cs.drop 101).take 1 = [vl] := by
    have : ((cs.drop 101).take 1).length = 1 := by simp [hl]
    exact List.length_eq_one_iff.1 this
  obtain ⟨vl, el⟩ := h101
  have h5' : DataW.trod enc Tryd.prog w base (fun _ => true) held k 33 [vl] = some y5 := by rw [← el]; exact h5
  obtain ⟨ds, hds, hdl⟩ := digests_read h5'
  have ecs : cs = prfC O R m n e vb vl := by
    have c0 := cut_list cs 0 32
    have c1 := cut_list cs 32 32
    have c2 := cut_list cs 64 1
    have c3 := cut_list cs 65 1
    have c4 := cut_list cs 66 35
    have c5 := cut_list cs 101 1
    have c6 : cs.drop 102 = [] := List.drop_of_length_le (by omega)
    simp only [Nat.reduceAdd] at c0 c1 c2 c3 c4 c5
    rw [c6, List.append_nil] at c5
    rw [List.drop_zero] at c0
    have c0' : cs.take 32 = O.map B := by have := eO; rwa [List.drop_zero] at this
    rw [c0', c1, c2, c3, c4, c5, eR, em, en, eE, el] at c0
    rw [c0]; simp [prfC]
  unfold Value.okWide at hv
  rw [Tryd.underlying70] at hv
  obtain ⟨cs', rfl, _, _⟩ := hv
  refine ⟨O, R, m, n, e, vb, vl, ds, ?_, hO, hR, hp, hb, hr, hds, hdl⟩
  rw [← ecs, ← hcs]
  simp [Value.cells]
end Go.Proofs.YtknbkhmpnanegaaDoor
