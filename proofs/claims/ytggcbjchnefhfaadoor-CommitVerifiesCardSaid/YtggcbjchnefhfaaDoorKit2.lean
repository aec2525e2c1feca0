/- Append in a region that draws its order. -/
import Derived.Test.YtggcbjchnefhfaaDoorKit
import Derived.Deep.RegionHeld3
namespace Go.Mk
open Go.RowKit
theorem step_append {P : Program} {w : World} {ops : Array Oper} {o : Oper} {a : Act} {K : Act → World → Prop} {Q : Exit → Act → World → Prop} {E : Prop} (hgd : o.guard = none) (s x : Operand) (t : TypeId)
    (ho : o.op = .call { callee := .builtin .append, args := #[s, x], argTypes := #[t, t] }) (e : TypeId) (size bytes : Nat) (T : ElemT P t e size bytes)
    (v : Value) (n : Nat) (xs : List Value) (hs : a.eval s = v) (hown : w.ownsRow 0 e size v n xs)
    (y : Value) (m : Nat) (news : List Value) (hx : a.eval x = y) (hy : Rd w size y m news) (h1 : ∀ u ∈ news, u.oneCell' = true)
    (h63 : n + m ≤ maxLen) (hbytes : (n + m) * bytes ≤ 140737488355328)
    (h : ∀ v' w', w'.ownsRow 0 e size v' (n + m) (xs ++ news) → Kept (ob v) w w' → NewOr w v v' → (v' = .slice none 0 0 ↔ v = .slice none 0 0 ∧ m = 0) → K (a.put o.dst v') w') :
    if Region.wanted o (yielded ops a.tmps) = true then Oper.wp P o a w K Q else E := by
  rw [if_pos (by simp [Region.wanted, hgd])]
  obtain ⟨v', w', hr, h2, h3, h4, h5⟩ := run_append (P := P) w t o.type e size bytes T v n xs hown y m news hy h1 h63 hbytes
  unfold Oper.wp execOp
  simp only [ho, resolve, invoke, builtin, Sem.run_bind, Sem.run_pure, Result.andThen_ok, List.map_toArray, List.map_cons, List.map_nil, hs, hx, hr]
  exact h v' w' h2 h3 h4 h5
/-- The elements that were just laid, in a block of their own. -/
theorem Rd.new (w : World) (e : TypeId) (size m : Nat) (us : List Value) (hl : us.length = m * size) (hm : m ≤ maxLen) : Rd (w.alloc (.cells us.toArray e)) size (.slice (some ⟨w.heap.size, 0, none⟩) m m) m us :=
  ⟨hl, _, m, rfl, Nat.le_refl _, hm, .inr ⟨_, 0, rfl, fun j u hu => by
    rw [cell_of_row _ w.heap.size (0 + j) us.toArray e (0, 0) (heap_alloc_new w _)]; simpa using hu⟩⟩
theorem Rd.drew {w : World} {size n : Nat} {v : Value} {xs : List Value} (h : Rd w size v n xs) : Rd w.drew size v n xs := h
theorem Kept.after_lit {w w' : World} {v : Value} (o : Obj) (h : Kept (ob v) (w.alloc o).drew w') : Kept (ob v) w w' :=
  (((Kept.refl no w).alloc o).drew.of_no (S := ob v)).trans h fun _ _ x => x
theorem NewOr.after_lit {w : World} {v v' : Value} (o : Obj) (h : NewOr (w.alloc o).drew v v') : NewOr w v v' := by
  rcases h with h | ⟨k, hk, hl⟩
  · exact .inl h
  · exact .inr ⟨k, hk, by have : (w.alloc o).drew.heap.size = w.heap.size + 1 := World.size_alloc ..; omega⟩
theorem Calls.new1f {P : Program} {f : FuncId} {args : Array Value} {R : Ending → World → Prop} (w : World) (c : Array Value) (t : TypeId) (fr : Nat × Nat)
    (h : ∀ w1, w1.heap[w.heap.size]? = some (.cells c t fr) → Kept no w w1 → w1.heap.size = w.heap.size + 1 → Calls P f args w1 R) : Calls P f args (w.alloc (.cells c t fr)) R :=
  h _ (heap_alloc_new w _) ((Kept.refl no w).alloc _) (by simp)
theorem Calls.new2f {P : Program} {f : FuncId} {args : Array Value} {R : Ending → World → Prop} (w : World) (c : Array Value) (t : TypeId) (fr : Nat × Nat) (c' : Array Value) (t' : TypeId) (fr' : Nat × Nat)
    (h : ∀ w1, w1.heap[w.heap.size]? = some (.cells c t fr) → w1.heap[w.heap.size + 1]? = some (.cells c' t' fr') → Kept no w w1 → w1.heap.size = w.heap.size + 2 → Calls P f args w1 R) :
    Calls P f args ((w.alloc (.cells c t fr)).alloc (.cells c' t' fr')) R :=
  h _ (by rw [Below.heap_alloc _ _ _ (by simp)]; exact heap_alloc_new w _) (by rw [← World.size_alloc (w := w) (o := .cells c t fr)]; exact heap_alloc_new _ _) (((Kept.refl no w).alloc _).alloc _) (by simp)
/-- A slice over the whole of one block. -/
theorem Rd.block {w : World} {g : Nat} {e : TypeId} {fr : Nat × Nat} {size n : Nat} {us : List Value} (h : w.heap[g]? = some (.cells us.toArray e fr)) (hl : us.length = n * size) (hm : n ≤ maxLen) : Rd w size (.slice (some ⟨g, 0, none⟩) n n) n us :=
  ⟨hl, _, n, rfl, Nat.le_refl _, hm, .inr ⟨_, 0, rfl, fun j u hu => by rw [cell_of_row w g (0 + j) us.toArray e fr h]; simpa using hu⟩⟩
end Go.Mk
