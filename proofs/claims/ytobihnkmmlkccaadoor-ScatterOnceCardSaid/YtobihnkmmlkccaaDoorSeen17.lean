/- Arrays of flags (printed by gen_rl17.py out of XRandLaws). -/
import Derived.Test.YtobihnkmmlkccaaDoorScat2
namespace Go.Proofs.YtobihnkmmlkccaaDoor
open Go.RowKit Go.Mk Go.Sha Go.Rnd
/-- An array of n values. -/
def arrV (f : Nat → Value) (n : Nat) : Array Value := ((List.range n).map f).toArray
theorem arrV_cell {w : World} {g n : Nat} {t : TypeId} {f : Nat → Value} (h : w.heap[g]? = some (.cells (arrV f n) t (0, 0))) (j : Nat) (hj : j < n) : w.cell? ⟨g, j, none⟩ = some (f j) := by
  rw [cell_of_row w g j _ t (0, 0) h]; simp [arrV, hj]
theorem arrV_set {f f' : Nat → Value} {n j : Nat} {x : Value} (hj : f' j = x) (h : ∀ i, i < n → i ≠ j → f' i = f i) : (arrV f n).setIfInBounds j x = arrV f' n := by
  apply Array.ext_getElem?
  intro i
  rw [Array.getElem?_setIfInBounds]
  by_cases e : j = i
  · subst e
    rw [if_pos rfl]
    by_cases hn : j < n
    · simp [arrV, hn, hj]
    · simp [arrV, hn]
  · rw [if_neg e]
    by_cases hn : i < n
    · simp [arrV, hn, h i hn (Ne.symm e)]
    · simp [arrV, hn]
theorem made_bools (n : Nat) : madeCells #[Value.bool false] n = arrV (fun _ => .bool false) n := by
  apply Array.ext
  · simp [madeCells, arrV]
  · intro i h1 h2
    simp [madeCells, Nat.mod_one, arrV]
theorem make_bools (n : Nat) (h : n ≤ 1000000) (w : World) : (Instr.makeSlice 29 (.int .i64 (n : Int)) (.int .i64 (n : Int))).run Tryd.prog w = .ok (.slice (some ⟨w.heap.size, 0, none⟩) n n) (w.alloc (.cells (arrV (fun _ => .bool false) n) 4)) := by
  obtain ⟨i, hi, hz, hs, hb⟩ := info_parts (P := Tryd.prog) (e := 4) (z := .bool false) (size := 1) (bytes := 1) (by kernel_rfl)
  have := run_make (P := Tryd.prog) w 29 4 i _ Tryd.underlying29 hi hz .i64 .i64 n n (by omega) (by omega) (by rw [hb]; omega) (by omega)
  rw [this, hs, Nat.mul_one, Int.toNat_natCast]
  rw [show (Value.bool false).cells = #[Value.bool false] from rfl, made_bools]
def seenF (l : List Nat) (k j : Nat) : Value := .bool (decide (j ∈ l.take k))
theorem seenF_next (l : List Nat) (k : Nat) (h : k < l.length) : seenF l (k + 1) (l.getD k 0) = .bool true ∧ ∀ j, j ≠ l.getD k 0 → seenF l (k + 1) j = seenF l k j := by
  have e : l.take (k + 1) = l.take k ++ [l.getD k 0] := by rw [List.take_succ_eq_append_getElem h, List.getD_eq_getElem?_getD, List.getElem?_eq_getElem h]; rfl
  refine ⟨?_, fun j hj => ?_⟩
  · unfold seenF; rw [e]; simp
  · unfold seenF
    congr 1
    apply decide_eq_decide.2
    rw [e, List.mem_append, List.mem_singleton]
    exact ⟨fun h => h.resolve_right hj, .inl⟩
theorem seenF_new (l : List Nat) (k : Nat) (h : k < l.length) (hn : l.Nodup) : seenF l k (l.getD k 0) = .bool false := by
  unfold seenF
  rw [List.getD_eq_getElem?_getD, List.getElem?_eq_getElem h]
  simp only [Option.getD_some, Value.bool.injEq, decide_eq_false_iff_not]
  intro hm
  obtain ⟨i, hi, he⟩ := List.getElem_of_mem hm
  rw [List.getElem_take] at he
  have hik : i < k := by simp at hi; omega
  exact (List.pairwise_iff_getElem.1 hn) i k (by omega) h hik he
end Go.Proofs.YtobihnkmmlkccaaDoor
