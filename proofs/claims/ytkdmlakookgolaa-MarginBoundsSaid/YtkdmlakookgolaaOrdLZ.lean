/- Orders of exclusion, made step by step (plain). -/
import Derived.Test.YtkdmlakookgolaaLowLZ
import Derived.Test.YtkdmlakookgolaaReachZ
namespace Go.Mg
open Go.Pil
/-- Those who remain behind the candidates of l. -/
def rem (n : Nat) (l : List Int) : List Int := (allC n).filter fun x => decide (x ∉ l)
theorem mem_rem {n : Nat} {l : List Int} {x : Int} : x ∈ rem n l ↔ (0 ≤ x ∧ x < (n : Int)) ∧ x ∉ l := by
  unfold rem; rw [List.mem_filter, mem_allC, decide_eq_true_iff]
/-- The beginning of an order of exclusion of b. -/
structure PreO (n : Nat) (b : List Grp) (p : List Int) : Prop where
  nodup : p.Nodup
  rng : ∀ x ∈ p, 0 ≤ x ∧ x < (n : Int)
  low : ∀ i, i < p.length → ∀ d ∈ rem n (p.take i), vt n b (rem n (p.take i)) (p.getD i 0) ≤ vt n b (rem n (p.take i)) d
theorem preO_nil (n : Nat) (b : List Grp) : PreO n b [] := ⟨by simp, by simp, fun i hi => by simp at hi⟩
theorem preO_len {n : Nat} {b : List Grp} {p : List Int} (h : PreO n b p) : (rem n p).length + p.length = n := out_len n p h.nodup h.rng
theorem preO_more {n : Nat} {b : List Grp} {p : List Int} (h : PreO n b p) {c : Int} (hc : c ∈ rem n p) (hl : ∀ d ∈ rem n p, vt n b (rem n p) c ≤ vt n b (rem n p) d) : PreO n b (p ++ [c]) := by
  (obtain ⟨h0, hn⟩ := mem_rem.1 hc); (refine ⟨?_, fun x hx => ?_, fun i hi d hd => ?_⟩)
  · (rw [List.nodup_append]); (exact ⟨h.nodup, by simp, fun x hx y hy => by rw [List.mem_singleton.1 hy]; intro e; subst e; exact hn hx⟩)
  · rcases List.mem_append.1 hx with hx | hx
    · exact h.rng x hx
    · rw [List.mem_singleton.1 hx]; exact h0
  · by_cases hil : i < p.length
    · (have e1 : (p ++ [c]).take i = p.take i := List.take_append_of_le_length (by omega)); (have e2 : (p ++ [c]).getD i 0 = p.getD i 0 := by simp [List.getD_eq_getElem?_getD, List.getElem?_append, hil]); (rw [e1] at hd ⊢); (rw [e2]; exact h.low i hil d hd)
    · (have hie : i = p.length := by simp at hi; omega); (subst hie); (have e1 : (p ++ [c]).take p.length = p := by simp); (have e2 : (p ++ [c]).getD p.length 0 = c := by simp [List.getD_eq_getElem?_getD]); (rw [e1] at hd ⊢); (rw [e2]; exact hl d hd)
theorem rem_snoc {n : Nat} {p : List Int} {c : Int} : rem n (p ++ [c]) = (rem n p).filter fun x => decide (x ≠ c) := by
  (unfold rem); (rw [List.filter_filter]); (refine List.filter_congr fun x _ => ?_); (simp only [List.mem_append, List.mem_singleton])
  by_cases h1 : x ∈ p <;> by_cases h2 : x = c <;> simp [h1, h2]
/-- A whole beginning is an order. -/
theorem preO_ord {n : Nat} {b : List Grp} {p : List Int} (h : PreO n b p) (hl : p.length = n) : Ord n b p := by
  (have hlen := preO_len h); (have hr : rem n p = [] := List.eq_nil_of_length_eq_zero (by omega))
  have hm : ∀ x : Int, x ∈ p ↔ 0 ≤ x ∧ x < (n : Int) := fun x => ⟨h.rng x, fun hx => Classical.byContradiction fun hn => by
    have : x ∈ rem n p := mem_rem.2 ⟨hx, hn⟩
    rw [hr] at this; cases this⟩
  refine ⟨h.nodup, hm, fun i hi d hd => ?_⟩
  have hmem : ∀ x : Int, 0 ≤ x → x < n → (x ∈ p.drop i ↔ x ∈ rem n (p.take i)) := fun x h0 hn => by
    (rw [mem_rem]); (have hx := (hm x).2 ⟨h0, hn⟩); (have hsp : p.take i ++ p.drop i = p := List.take_append_drop i p); (have hnd := h.nodup); (rw [← hsp, List.nodup_append] at hnd)
    constructor
    · intro hd; exact ⟨⟨h0, hn⟩, fun ht => hnd.2.2 x ht x hd rfl⟩
    · (rintro ⟨_, ht⟩); (rw [← hsp, List.mem_append] at hx); (exact hx.resolve_left ht)
  (rw [vt_congr b hmem, vt_congr b hmem]); (have hdr := (hm d).1 (List.mem_of_mem_drop hd)); (exact h.low i hi d ((hmem d hdr.1 hdr.2).1 hd))
/-- The lowest of those who remain, as the reference finds them. -/
theorem lowL_rem {n : Nat} (gs : List Grp) (p : List Int) : ∀ c : Int, c ∈ lowL (firstV gs (flags n (rem n p))).1 (flags n (rem n p)) → c ∈ rem n p ∧ ∀ d ∈ rem n p, vt n gs (rem n p) c ≤ vt n gs (rem n p) d := by
  (intro c hc); (unfold lowL at hc); (obtain ⟨h1, h2⟩ := List.mem_filter.1 hc); (rw [Bool.and_eq_true, List.all_eq_true] at h2); (obtain ⟨h3, h4⟩ := h2); (rw [flags_in] at h3); (have h3' := of_decide_eq_true h3); (refine ⟨h3'.2.2, fun d hd => ?_⟩)
  have hlen : (firstV gs (flags n (rem n p))).1.length = n := by
    rw [first_len, flags_len]
  (have hdr := mem_rem.1 hd); (have := h4 d (by rw [hlen]; exact mem_allC.2 hdr.1)); (rw [flags_in, decide_eq_true (show 0 ≤ d ∧ d < (n : Int) ∧ d ∈ rem n p from ⟨hdr.1.1, hdr.1.2, hd⟩)] at this)
  simp at this
  unfold vt; exact this
end Go.Mg
