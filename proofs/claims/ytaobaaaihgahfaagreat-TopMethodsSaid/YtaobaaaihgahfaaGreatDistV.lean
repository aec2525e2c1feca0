/- A list of ballots of one's own, whose ballots are those of an older world; slices of ballots. -/
import Derived.Test.YtaobaaaihgahfaaGreatGenV
namespace Go.Pil
end Go.Pil
namespace Go.Proofs.YtaobaaaihgahfaaGreat
open Go.RowKit Go.Mk Go.Pil
theorem RdB.addr {w : World} {av : Option Addr} {lv cv : Nat} {bs : List (List Int × Value)} (h : RdB w (.slice av lv cv) bs) : cv = 0 ∨ ∃ b o, av = some ⟨b, o, none⟩ := by
  obtain ⟨_, _, _, _, e, _, _, h | ⟨b, o, rfl, _⟩⟩ := h
  · cases e; exact .inl h
  · cases e; exact .inr ⟨b, o, rfl⟩
theorem pre_sliceB (av : Option Addr) (lv cv m : Nat) (hav : cv = 0 ∨ ∃ b o, av = some ⟨b, o, none⟩) (hm : m ≤ cv) (w : World) : (Instr.slice 25 (.slice av lv cv) none (some (.int .i64 (m : Int))) none).run Tryz.prog w = .ok (.slice av m cv) w := by
  (have h0 : (0 : Int) ≤ (m : Int) := by omega); (have hc : Tryz.prog.underlying 25 = some (.slice 26) := by kernel_rfl)
  rcases hav with rfl | ⟨b, o, rfl⟩
  · obtain rfl : m = 0 := by omega
    simp [Instr.slice, Instr.sliceBounds, Instr.sliceBound, run_underlying hc, asIntOf]
  · simp [Instr.slice, Instr.sliceBounds, Instr.sliceBound, run_underlying hc, asIntOf, h0]
    (have e : (⟨b, o, none⟩ : Addr).add 0 = ⟨b, o, none⟩ := by simp [Addr.add]); (rw [if_pos hm, e]; simp)
theorem RdB.take {w : World} {ao : Option Addr} {n cap : Nat} {bs : List (List Int × Value)} (h : RdB w (.slice ao n cap) bs) (k : Nat) (hk : k ≤ bs.length) : RdB w (.slice ao k cap) (bs.take k) := by
  (refine ⟨fun x hx => h.1 x (List.mem_of_mem_take hx), ?_⟩); (obtain ⟨_, hl, _, _, e, h1, h2, h3⟩ := h)
  cases e
  (have hlk : (bs.take k).length = k := by rw [List.length_take]; omega); (refine ⟨by simp, ao, cap, by rw [hlk], by omega, h2, h3.imp id fun ⟨b, o, e, hc⟩ => ⟨b, o, e, fun j u hj => hc j u ?_⟩⟩); (rw [List.map_take, List.getElem?_take] at hj)
  split at hj
  · exact hj
  · cases hj
end Go.Proofs.YtaobaaaihgahfaaGreat
