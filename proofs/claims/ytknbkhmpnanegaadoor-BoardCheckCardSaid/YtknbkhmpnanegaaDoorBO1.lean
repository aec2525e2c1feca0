/- A store of an entry into one of the places of a list of entries. -/
import Derived.Test.YtknbkhmpnanegaaDoorBM
namespace Go.Proofs.YtknbkhmpnanegaaDoor
open Go.RowKit Go.Mk Go.Sha Go.Brd
theorem rows_cells {w : World} {b sz : Nat} : ∀ (L : List (List Value)) (o : Nat), (∀ l ∈ L, l.length = sz) → (∀ k (hk : k < L.length), w.rangeAt b (o + k * sz) (L[k]'hk)) → ∀ j u, L.flatten[j]? = some u → w.cell? ⟨b, o + j, none⟩ = some u := by
  intro L
  induction L with
  | nil => intro o _ _ j u h; simp at h
  | cons l r ih =>
    intro o hl hr j u h
    have hl0 : l.length = sz := hl l (List.mem_cons_self ..)
    by_cases hj : j < sz
    · rw [List.flatten_cons, List.getElem?_append_left (by omega)] at h
      have := hr 0 (by simp) j u h
      simpa using this
    · rw [List.flatten_cons, List.getElem?_append_right (by omega), hl0] at h
      have := ih (o + sz) (fun x hx => hl x (List.mem_cons_of_mem _ hx)) (fun k hk => by
        have := hr (k + 1) (by simp; omega)
        rw [show o + (k + 1) * sz = o + sz + k * sz by rw [Nat.succ_mul]; omega] at this
        simpa using this) (j - sz) u h
      rw [show o + sz + (j - sz) = o + j by omega] at this
      exact this
theorem flat35 : ∀ (L : List (Ent × Value)), (∀ p ∈ L, (entC p.1 p.2).length = 35) → (L.flatMap fun p => entC p.1 p.2).length = L.length * 35 := by
  intro L
  induction L with
  | nil => intro _; rfl
  | cons p r ih =>
    intro h
    rw [List.flatMap_cons, List.length_append, h p (List.mem_cons_self ..), ih fun x hx => h x (List.mem_cons_of_mem _ hx), List.length_cons]
    omega
/-- The list with place k changed, behind the store of the new entry there. -/
theorem RdE.set {w : World} {g cap : Nat} {e : TypeId} {ps : List (Ent × Value)} {C : List Value} (h : RdE w (.slice (some ⟨g, 0, none⟩) ps.length cap) ps) (hb : w.heap[g]? = some (.cells C.toArray e (0, 0))) (hC : ps.length * 35 ≤ C.length) (k : Nat) (hk : k < ps.length) (x : Ent) (vx : Value) (hx : x.prev.length = 32)
    (hok : OkE (w.setCells g (k * 35) (entC x vx)) x vx) (hoks : ∀ p ∈ ps, OkE (w.setCells g (k * 35) (entC x vx)) p.1 p.2) : RdE (w.setCells g (k * 35) (entC x vx)) (.slice (some ⟨g, 0, none⟩) ps.length cap) (ps.set k (x, vx)) := by
  have ht : w.there g (k * 35) (entC x vx).length := there_of hb _ _ (by rw [entC_length hx]; omega)
  refine ⟨fun p hp => ?_, ?_⟩
  · rcases List.mem_or_eq_of_mem_set hp with hp | rfl
    · exact hoks p hp
    · exact hok
  · have hr := h.2
    obtain ⟨h1, ao, c, he, h2, h3, h4⟩ := hr
    cases he
    refine ⟨?_, some ⟨g, 0, none⟩, cap, by rw [List.length_set], by rw [List.length_set]; exact h2, h3, .inr ⟨g, 0, rfl, fun j u hu => ?_⟩⟩
    · exact flat35 _ fun p hp => by
        rcases List.mem_or_eq_of_mem_set hp with hp | rfl
        · exact entC_length (h.1 p hp).1
        · exact entC_length hx
    · refine rows_cells (sz := 35) ((ps.set k (x, vx)).map fun p => entC p.1 p.2) 0 (fun l hl => ?_) (fun i hi => ?_) j u (by rw [← List.flatMap_def]; exact hu)
      · obtain ⟨p, hp, rfl⟩ := List.mem_map.1 hl
        rcases List.mem_or_eq_of_mem_set hp with hp | rfl
        · exact entC_length (h.1 p hp).1
        · exact entC_length hx
      · have hi' : i < ps.length := by simpa using hi
        rw [List.getElem_map, List.getElem_set]
        by_cases hki : k = i
        · subst hki
          rw [if_pos rfl, Nat.zero_add]
          exact World.rangeAt_setCells_same w g (k * 35) _ ht
        · rw [if_neg hki]
          obtain ⟨b, o, e1, hr⟩ := h.at i hi'
          cases e1
          refine World.rangeAt_setCells_apart hr g (k * 35) _ (.inr ?_)
          rw [entC_length hx, entC_length (h.1 _ (List.getElem_mem hi')).1]
          omega
end Go.Proofs.YtknbkhmpnanegaaDoor
