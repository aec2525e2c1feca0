/- What a row's data say of slices of bytes, and of slices of such slices. -/
import Derived.Test.YtggcbjchnefhfaaDoorRow
import Derived.Test.YtggcbjchnefhfaaDoorJoin
import Derived.Deep.Slices
namespace Go.Proofs.YtggcbjchnefhfaaDoor
open Go.ChangeShapes Go.WideShapes Go.ChangeAt Go.RowKit Go.Mk Go.Sha Go.Deep
theorem maxLen_eq : maxLen = 9223372036854775807 := rfl
theorem plain_addr {w : World} {a : Addr} {v : Value} (h : w.cell? a = some v) : a = ⟨a.block, a.off, none⟩ := by
  obtain ⟨b, o, sp⟩ := a
  cases sp with
  | none => rfl
  | some s =>
    unfold World.cell? at h
    split at h
    · simp at h
    · cases h
/-- A []byte that can be read, its spare too. -/
theorem bytes_read {H : Type} {enc : TypeId × Value → H} {w : World} {base : Nat} {held : Bool} {fuel : Nat} {v : Value} {x : DataW H × List MemPlace}
    (h : DataW.trod enc Tryd.prog w base (fun _ => true) held fuel 53 [v] = some x) : ∃ xs : List UInt8, Rd w 1 v xs.length (xs.map B) ∧ xs.length ≤ 9223372036854775807 := by
  rcases open_slice1 Tryd.underlying53 (by kernel_rfl) h with ⟨hv, _⟩ | ⟨a, len, cap, m, n, V, D, Pl, hv, _, hlc, hcm, hm, _, hel⟩
  · obtain rfl : v = .slice none 0 0 := by simpa using hv
    exact ⟨[], ⟨rfl, none, 0, rfl, Nat.le_refl _, Nat.zero_le _, .inl rfl⟩, by decide⟩
  · obtain rfl : v = .slice (some a) len cap := by simpa using hv
    simp only [if_true] at hm
    subst hm
    obtain ⟨f, hf⟩ : ∃ f : Nat → UInt8, ∀ i, i < m → w.cell? (a.add i) = some (B (f i)) := by
      refine choose_lt (p := fun i z => w.cell? (a.add i) = some (B z)) fun i hi => ?_
      obtain ⟨h1, h2⟩ := hel i hi
      obtain ⟨z, hz, _, hw⟩ := DataW.trod_int Tryd.underlying5 h2
      have hz : V i = .int .u8 z := by simpa using hz
      have hb := bounds_u8 hw
      refine ⟨UInt8.ofNat z.toNat, ?_⟩
      rw [h1, hz, B_def]
      congr 2
      simp
      omega
    refine ⟨(List.range len).map f, ?_, by simp; rw [maxLen_eq] at hcm; omega⟩
    refine ⟨by simp, some a, m, by simp, by simpa using hlc, hcm, ?_⟩
    by_cases h0 : m = 0
    · exact .inl h0
    · have hp := plain_addr (hf 0 (by omega))
      have hp' : a = ⟨a.block, a.off, none⟩ := by simpa [Addr.add] using hp
      refine .inr ⟨a.block, a.off, by rw [← hp'], fun j u hu => ?_⟩
      simp only [List.map_map, List.getElem?_map] at hu
      have hj : j < len := by
        by_cases hj : j < len
        · exact hj
        · rw [List.getElem?_eq_none (by simp; omega)] at hu; cases hu
      rw [List.getElem?_range hj] at hu
      simp at hu
      subst hu
      have := hf j (by omega)
      rw [hp'] at this
      unfold Addr.add at this
      split at this
      · rename_i e; subst e; simpa using this
      · exact this
/-- A [][]byte that can be read. -/
theorem parts_read {H : Type} {enc : TypeId × Value → H} {w : World} {base : Nat} {held : Bool} {fuel : Nat} {v : Value} {x : DataW H × List MemPlace}
    (h : DataW.trod enc Tryd.prog w base (fun _ => true) held fuel 63 [v] = some x) : ∃ ps : List (List UInt8), RdP w v ps ∧ ps.length ≤ 9223372036854775807 ∧ ∀ p ∈ ps, p.length ≤ 9223372036854775807 := by
  rcases open_slice1 Tryd.underlying63 (by kernel_rfl) h with ⟨hv, _⟩ | ⟨a, len, cap, m, n, V, D, Pl, hv, _, hlc, hcm, hm, _, hel⟩
  · obtain rfl : v = .slice none 0 0 := by simpa using hv
    exact ⟨[], ⟨[], ⟨rfl, none, 0, rfl, Nat.le_refl _, Nat.zero_le _, .inl rfl⟩, fun i hi => absurd hi (by simp)⟩, by decide, fun p hp => by cases hp⟩
  · obtain rfl : v = .slice (some a) len cap := by simpa using hv
    simp only [if_true] at hm
    subst hm
    obtain ⟨f, hf⟩ : ∃ f : Nat → List UInt8, ∀ i, i < m → Rd w 1 (V i) (f i).length ((f i).map B) ∧ (f i).length ≤ 9223372036854775807 :=
      choose_lt (α := List UInt8) (p := fun i z => Rd w 1 (V i) z.length (z.map B) ∧ z.length ≤ 9223372036854775807) fun i hi => bytes_read (hel i hi).2
    rw [maxLen_eq] at hcm
    refine ⟨(List.range len).map f, ⟨(List.range len).map V, ⟨by simp, some a, m, by simp, by simpa using hlc, hcm, ?_⟩, fun i hi => ?_⟩, by simp; omega, fun p hp => ?_⟩
    · by_cases h0 : m = 0
      · exact .inl h0
      · have hp := plain_addr (hel 0 (by omega)).1
        have hp' : a = ⟨a.block, a.off, none⟩ := by simpa [Addr.add] using hp
        refine .inr ⟨a.block, a.off, by rw [← hp'], fun j u hu => ?_⟩
        simp only [List.getElem?_map] at hu
        have hj : j < len := by
          by_cases hj : j < len
          · exact hj
          · rw [List.getElem?_eq_none (by simp; omega)] at hu; cases hu
        rw [List.getElem?_range hj] at hu
        simp at hu
        subst hu
        have := (hel j (by omega)).1
        rw [hp'] at this
        unfold Addr.add at this
        split at this
        · rename_i e; subst e; simpa using this
        · exact this
    · have hi' : i < len := by simpa using hi
      have e1 : ((List.range len).map V).getD i undef = V i := by simp [List.getD_eq_getElem?_getD, hi']
      have e2 : ((List.range len).map f).getD i [] = f i := by simp [List.getD_eq_getElem?_getD, hi']
      rw [e1, e2]
      exact (hf i (by omega)).1
    · simp only [List.mem_map, List.mem_range] at hp
      obtain ⟨i, hi, rfl⟩ := hp
      exact (hf i (by omega)).2
end Go.Proofs.YtggcbjchnefhfaaDoor
