/- Append and slice literals in a region shown operation by operation. -/
import Derived.Test.YtggcbjchnefhfaaDoorFlow
import Derived.Test.YtggcbjchnefhfaaDoorMark
import Derived.Great.BuildSlice
namespace Go.Mk
open Go.RowKit
section
variable {P : Program} {S : Nat → Prop}
/-- From the region's beginning: what is new may have turned, nothing else. -/
theorem Kept.fresh {w w' : World} (h : Kept (fun k => w.heap.size ≤ k) w w') : Kept no w w' := ⟨h.os, h.tape, h.output, h.size, fun k hk _ => h.block k hk (by show ¬ w.heap.size ≤ k; omega)⟩
theorem OpY.append {o : Oper} {a : Act} {w : World} {R : Value → World → Prop} (s x : Operand) (t : TypeId) (ty : TypeId) (hty : o.type = ty)
    (ho : o.op = .call { callee := .builtin .append, args := #[s, x], argTypes := #[t, t] }) (e : TypeId) (size bytes : Nat) (T : ElemT P t e size bytes)
    (v : Value) (n : Nat) (xs : List Value) (hs : a.eval s = v) (hown : w.ownsRow 0 e size v n xs)
    (y : Value) (m : Nat) (news : List Value) (hx : a.eval x = y) (hy : Rd w size y m news) (h1 : ∀ u ∈ news, u.oneCell' = true)
    (h63 : n + m ≤ maxLen) (hbytes : (n + m) * bytes ≤ 140737488355328)
    (h : ∀ v' w', w'.ownsRow 0 e size v' (n + m) (xs ++ news) → Kept (ob v) w w' → NewOr w v v' → (v' = .slice none 0 0 ↔ v = .slice none 0 0 ∧ m = 0) → R v' w') : OpY P o a w R := by
  obtain ⟨v', w', hr, h2, h3, h4, h5⟩ := run_append (P := P) w t ty e size bytes T v n xs hown y m news hy h1 h63 hbytes
  refine OpY.val (v := v') (w' := w') ?_ (h v' w' h2 h3 h4 h5)
  unfold execOp
  simp only [ho, hty, resolve, invoke, builtin, Sem.run_bind, Sem.run_pure, Result.andThen_ok, List.map_toArray, List.map_cons, List.map_nil, hs, hx, hr]
theorem OpY.row {o : Oper} {a : Act} {w : World} {R : Value → World → Prop} (ty : TypeId) (x : Operand) (ho : o.op = .load ty x) (b of : Nat) (hx : a.eval x = .pointer (some ⟨b, of, none⟩)) (cs : List Value) (d : TypeDesc) (hc : w.rangeAt b of cs)
    (hu : P.underlying ty = some d) (hd : d.isRow = true) (hi : (P.info? ty).map (·.size) = some cs.length) (h : R (.agg cs.toArray) w) : OpY P o a w R := by
  refine OpY.val (v := .agg cs.toArray) (w' := w) ?_ h
  unfold execOp
  simp only [ho, hx, Instr.loadAt, Instr.sureAddr, Sem.run_bind, Sem.run_pure, Result.andThen_ok, run_loadVar_mid w b of ty cs d hc hu hd hi]
theorem Kept.ob_nil {w w' : World} (h : Kept (ob (.slice none 0 0)) w w') : Kept no w w' := h.mono fun _ _ e => by simp [ob, Value.ownBlock] at e
/-- A slice literal of whole elements (each as its cells). -/
theorem OpY.build {o : Oper} {a : Act} {w : World} {R : Value → World → Prop} (t e : TypeId) (len : Nat) (parts : Array (Nat × Operand)) (ho : o.op = .buildSlice t len parts)
    (size : Nat) (z : Value) (hu : P.underlying t = some (.slice e)) (hie : (P.info? e).map (fun i => (i.zero, i.size)) = some (some z, size)) (hsmall : ¬ len * size > 2 ^ 24) (hpos : ¬ len * size = 0)
    (cells : List Value) (ps : List (Nat × Value)) (hps : parts.toList.map (fun p => (p.1, a.eval p.2)) = ps) (hf : Instr.fill (fun i => some (i * size, size)) ((Array.range (len * size)).map (z.cells[· % z.cells.size]!)) ps = some cells.toArray)
    (hc : cells.length = len * size) (hl : len ≤ maxLen)
    (h : ∀ w', w'.heap[w.heap.size]? = some (.cells cells.toArray e (0, 0)) → Kept no w w' → w'.ownsRow 0 e size (.slice (some ⟨w.heap.size, 0, none⟩) len len) len cells → R (.slice (some ⟨w.heap.size, 0, none⟩) len len) w') : OpY P o a w R := by
  obtain ⟨ie, hi, hz, hs⟩ : ∃ ie, P.info? e = some ie ∧ ie.zero = some z ∧ ie.size = size := by
    cases hi : P.info? e with
    | none => rw [hi] at hie; cases hie
    | some ie => rw [hi] at hie; simp at hie; exact ⟨ie, rfl, hie.1, hie.2⟩
  subst hs
  have hf : Instr.fill (fun i => some (i * ie.size, ie.size)) ((Array.range (len * ie.size)).map (z.cells[· % z.cells.size]!)) (parts.map fun (i, x) => (i, a.eval x)).toList = some cells.toArray := by
    rw [Array.toList_map, ← hf, ← hps]
  refine OpY.val (v := .slice (some ⟨w.heap.size, 0, none⟩) len len) (w' := w.alloc (.cells cells.toArray e)) ?_ (h _ (heap_alloc_new _ _) ((Kept.refl no w).alloc _) ⟨hc, .inr ⟨_, len, cells.toArray, rfl, Nat.zero_le _, heap_alloc_new _ _, Nat.le_refl _, hl, by simpa using hc, ?_⟩⟩)
  · unfold execOp
    simp only [ho, Sem.run_bind, run_buildSlice w t e len _ cells.toArray ie z hu hi hz hsmall hpos hf, Result.andThen_ok]
    rfl
  · rw [List.take_of_length_le (by simp [hc])]
theorem fill_rows (size : Nat) (hs : 0 < size) (z : Value) (vs : List Value) (hv : ∀ v ∈ vs, v.cells.size = size) : Instr.fill (fun i => some (i * size, size)) ((Array.range (vs.length * size)).map (z.cells[· % z.cells.size]!)) ((vs.zipIdx 0).map fun x => (x.2, x.1)) = some ((vs.flatMap fun v => v.cells.toList).toArray) :=
  Great.fill_whole (s := size) hs vs ((Array.range (vs.length * size)).map (z.cells[· % z.cells.size]!)) hv (by simp)
end
end Go.Mk
namespace Go.Mk
/-- A slice of its own in memory that is new since the block B. -/
def OwN {S : Nat → Nat → Prop} (B : Nat) (e : TypeId) (size n : Nat) (xs : List Value) : Pr S := soft (fun v w => w.ownsRow 0 e size v n xs ∧ ∀ k, v.ownBlock = some k → B ≤ k) fun _ _ _ h k => ⟨k.ownsRow h.1 fun _ _ => id, h.2⟩
theorem NewOr.fr {w : World} {v v' : Value} {B : Nat} (h : NewOr w v v') (hv : ∀ k, v.ownBlock = some k → B ≤ k) (hB : B ≤ w.heap.size) : ∀ k, v'.ownBlock = some k → B ≤ k := fun k hk => by
  rcases h with h | ⟨j, hj, hl⟩
  · exact hv k (h ▸ hk)
  · have : j = k := by have := hj.symm.trans hk; simpa using this
    omega
end Go.Mk
