/- []byte("..") of a constant, at any world; a drawn region's world named behind each step. -/
import Derived.Test.YtggcbjchnefhfaaDoorHeld
import Derived.Test.YtggcbjchnefhfaaDoorKit2
import Derived.Laws.IdiomStrings
namespace Go.Mk
open Go.RowKit
section
variable {P : Program}
theorem mark_any (w : World) (g : Nat) (t e : TypeId) (C : Array Value) (ht : P.underlying t = some (.slice e)) (he : P.underlying e = some (.int .u8)) (hg : w.heap[g]? = some (.cells C e (0, 0))) :
    ∃ w', (∀ n c, (convert t t (.slice (some ⟨g, 0, none⟩) n c)).run P w = .ok (.slice (some ⟨g, 0, none⟩) n c) w') ∧ Kept (fun k => k = g) w w' ∧ w'.heap.size = w.heap.size ∧ ∀ a, w'.cell? a = w.cell? a := by
  have hsh : w.shape? g = some (e, C.size) := by unfold World.shape?; rw [hg]
  refine ⟨w.freeze ⟨g, C.size, none⟩ 1, fun n c => ?_, ⟨?_, ?_, ?_, ?_, fun k _ hk => ?_⟩, ?_, fun a => ?_⟩
  · simp [convert, run_underlying ht, run_underlying he, markStringish, hsh]
  · unfold World.freeze; rw [if_neg (by decide)]
  · unfold World.freeze; rw [if_neg (by decide)]
  · unfold World.freeze; rw [if_neg (by decide)]
  · unfold World.freeze; rw [if_neg (by decide)]; simp
  · unfold World.freeze; rw [if_neg (by decide)]
    simp only [Array.getElem?_modify]
    rw [if_neg (fun h => hk h.symm)]
  · unfold World.freeze; rw [if_neg (by decide)]; simp
  · unfold World.freeze; rw [if_neg (by decide)]
    unfold World.cell?
    simp only [Array.getElem?_modify]
    by_cases h : g = a.block
    · rw [if_pos h, ← h, hg]; rfl
    · rw [if_neg h]
/-- What can be read in w reads the same in w'. -/
def Reads (w w' : World) : Prop := ∀ a u, w.cell? a = some u → w'.cell? a = some u
theorem Kept.reads {w w' : World} (h : Kept no w w') : Reads w w' := fun _ _ hc => h.cell hc id
theorem Reads.of_eq {w w' : World} (h : ∀ a, w'.cell? a = w.cell? a) : Reads w w' := fun a u hc => by rw [h a]; exact hc
theorem Rd.reads {w w' : World} {size n : Nat} {v : Value} {xs : List Value} (h : Rd w size v n xs) (hk : Reads w w') : Rd w' size v n xs := by
  obtain ⟨hl, ao, cap, hv, h1, h2, h3⟩ := h
  exact ⟨hl, ao, cap, hv, h1, h2, h3.imp id fun ⟨b, o, e, hc⟩ => ⟨b, o, e, fun j u hj => hk _ _ (hc j u hj)⟩⟩
variable {md : Region.Mode} {ops : Array Oper} {Q : Exit → Act → World → Prop} {S : World → Prop}
theorem lay_any {fuel : Nat} {listed : Array Bool} {a : Act} (w : World) (o : Obj)
    (h : ∀ w', w'.heap[w.heap.size]? = some o → Kept no w w' → w'.heap.size = w.heap.size + 1 → wpAnyH P md ops Q S fuel listed a w') : wpAnyH P md ops Q S fuel listed a (w.alloc o) :=
  h _ (heap_alloc_new w _) ((Kept.refl no w).alloc _) (by simp)
end
end Go.Mk
