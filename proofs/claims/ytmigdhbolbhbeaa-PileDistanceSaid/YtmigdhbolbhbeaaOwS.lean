/- A list of ballots of one's own, whose ballots are those of an older world; slices of ballots. -/
import Derived.Test.YtmigdhbolbhbeaaDist
namespace Go.Pil
theorem bals_set (n : Int) (ls : List (List Int)) (m i : Nat) (b : List Int) (hm : ls.length ≤ m) : bals n (ls.set i b) m = (bals n ls m).set i (bal n (b.take 12)) := by
  unfold bals
  rw [List.take_of_length_le (by simpa using hm), List.take_of_length_le hm, List.map_set]
theorem bals_idem (n : Int) (ls : List (List Int)) (k m : Nat) (h : k ≤ m) : bals n (ls.take k) m = bals n ls k := by
  unfold bals; rw [List.take_take, Nat.min_eq_right h]
end Go.Pil
namespace Go.Proofs.Ytmigdhbolbhbeaa
open Go.RowKit Go.Mk Go.Pil
theorem newOr_nil {w : World} {v : Value} (h : NewOr w (.slice none 0 0) v) : New w v := by
  rcases h with h | ⟨j, h1, h2⟩
  · exact .inl h
  · exact .inr ⟨j, h1, h2⟩
structure OwS (w w' : World) (v : Value) (bs : List (List Int × Value)) : Prop where
  own : w'.ownsRow 0 36 1 v bs.length (bs.map (·.2))
  old : ∀ x ∈ bs, RdZ w x.2 x.1
  kept : Kept no w w'
  new : New w v
theorem OwS.rd {w w' : World} {v : Value} {bs : List (List Int × Value)} (h : OwS w w' v bs) : RdB w' v bs := ⟨fun x hx => (h.old x hx).kept h.kept, Rd.of_own h.own⟩
theorem OwS.keptNo {w w' w2 : World} {v : Value} {bs : List (List Int × Value)} (h : OwS w w' v bs) (k : Kept no w' w2) : OwS w w2 v bs := ⟨k.ownsRow h.own fun _ _ => id, h.old, h.kept.trans' k, h.new⟩
theorem OwS.add {w w1 w2 : World} {v v' : Value} {bs : List (List Int × Value)} (h : OwS w w1 v bs) (p : List Int) (u : Value) (hu : RdZ w u p) (ho : w2.ownsRow 0 36 1 v' (bs.length + 1) (bs.map (·.2) ++ [u])) (hk : Kept (ob v) w1 w2) (hn : NewOr w1 v v') : OwS w w2 v' (bs ++ [(p, u)]) :=
  ⟨by rw [List.length_append, List.map_append]; exact ho, (fun x hx => by
    rcases List.mem_append.1 hx with hx | hx
    · exact h.old x hx
    · obtain rfl : x = (p, u) := by simpa using hx
      exact hu), h.new.kept h.kept hk, h.new.step hn h.kept.size⟩
/-- Behind append(nil, l...). -/
theorem OwS.start {w w1 w2 : World} {v : Value} {bs : List (List Int × Value)} (hk : Kept no w w1) (hb : ∀ x ∈ bs, RdZ w x.2 x.1) (ho : w2.ownsRow 0 36 1 v bs.length (bs.map (·.2))) (k : Kept (ob (.slice none 0 0)) w1 w2) (hn : NewOr w1 (.slice none 0 0) v) : OwS w w2 v bs :=
  ⟨ho, hb, hk.trans' (Kept.ob_nil k), by
    rcases hn with hn | ⟨j, h1, h2⟩
    · exact .inl hn
    · exact .inr ⟨j, h1, by have := hk.size; omega⟩⟩
theorem OwS.set {w w1 : World} {g n cap : Nat} {bs : List (List Int × Value)} (h : OwS w w1 (.slice (some ⟨g, 0, none⟩) n cap) bs) (hl : bs.length = n) (i : Nat) (p : List Int) (u : Value) (hu : RdZ w u p) : OwS w (w1.setCell ⟨g, i, none⟩ u) (.slice (some ⟨g, 0, none⟩) n cap) (bs.set i (p, u)) := by
  refine ⟨?_, fun x hx => ?_, h.new.kept h.kept ((Kept.refl (ob (.slice (some ⟨g, 0, none⟩) n cap)) w1).setCell (a := ⟨g, i, none⟩) (.inl rfl) u), h.new⟩
  · have := h.own
    rw [hl] at this
    have := own_set this i u
    rw [List.length_set, hl, List.map_set]; exact this
  · rcases List.mem_or_eq_of_mem_set hx with hx | rfl
    · exact h.old x hx
    · exact hu
theorem bals_one (bs : List (List Int × Value)) (w : World) (h : ∀ x ∈ bs, RdZ w x.2 x.1) : ∀ u ∈ bs.map (·.2), u.oneCell' = true := fun u hu => by
  obtain ⟨x, hx, rfl⟩ := List.mem_map.1 hu
  exact (h x hx).one
theorem RdB.addr {w : World} {av : Option Addr} {lv cv : Nat} {bs : List (List Int × Value)} (h : RdB w (.slice av lv cv) bs) : cv = 0 ∨ ∃ b o, av = some ⟨b, o, none⟩ := by
  obtain ⟨_, _, _, _, e, _, _, h | ⟨b, o, rfl, _⟩⟩ := h
  · cases e; exact .inl h
  · cases e; exact .inr ⟨b, o, rfl⟩
theorem pre_sliceB (av : Option Addr) (lv cv m : Nat) (hav : cv = 0 ∨ ∃ b o, av = some ⟨b, o, none⟩) (hm : m ≤ cv) (w : World) : (Instr.slice 22 (.slice av lv cv) none (some (.int .i64 (m : Int))) none).run Try.prog w = .ok (.slice av m cv) w := by
  have h0 : (0 : Int) ≤ (m : Int) := by omega
  have hc : Try.prog.underlying 22 = some (.slice 36) := by kernel_rfl
  rcases hav with rfl | ⟨b, o, rfl⟩
  · obtain rfl : m = 0 := by omega
    simp [Instr.slice, Instr.sliceBounds, Instr.sliceBound, run_underlying hc, asIntOf]
  · simp [Instr.slice, Instr.sliceBounds, Instr.sliceBound, run_underlying hc, asIntOf, h0]
    have e : (⟨b, o, none⟩ : Addr).add 0 = ⟨b, o, none⟩ := by simp [Addr.add]
    rw [if_pos hm, e]; simp
theorem RdB.take {w : World} {ao : Option Addr} {n cap : Nat} {bs : List (List Int × Value)} (h : RdB w (.slice ao n cap) bs) (k : Nat) (hk : k ≤ bs.length) : RdB w (.slice ao k cap) (bs.take k) := by
  refine ⟨fun x hx => h.1 x (List.mem_of_mem_take hx), ?_⟩
  obtain ⟨_, hl, _, _, e, h1, h2, h3⟩ := h
  cases e
  have hlk : (bs.take k).length = k := by rw [List.length_take]; omega
  refine ⟨by simp, ao, cap, by rw [hlk], by omega, h2, h3.imp id fun ⟨b, o, e, hc⟩ => ⟨b, o, e, fun j u hj => hc j u ?_⟩⟩
  rw [List.map_take, List.getElem?_take] at hj
  split at hj
  · exact hj
  · cases hj
theorem lists_take (bs : List (List Int × Value)) (k : Nat) : lists (bs.take k) = (lists bs).take k := by simp [lists, List.map_take]
theorem lists_set (bs : List (List Int × Value)) (i : Nat) (p : List Int) (u : Value) : lists (bs.set i (p, u)) = (lists bs).set i p := by simp [lists, List.map_set]
end Go.Proofs.Ytmigdhbolbhbeaa
