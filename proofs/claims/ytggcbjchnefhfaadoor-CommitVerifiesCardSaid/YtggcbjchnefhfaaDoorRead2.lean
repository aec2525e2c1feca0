/- What a row's data say of digests, strings and integers. -/
import Derived.Test.YtggcbjchnefhfaaDoorRead
import Derived.ChangeMaps5
import Derived.ShutString
namespace Go.Proofs.YtggcbjchnefhfaaDoor
open Go.ChangeShapes Go.WideShapes Go.ChangeAt Go.RowKit Go.Mk Go.Sha Go.Deep
set_option maxRecDepth 100000 in
/-- The cells of a digest. -/
theorem digest_cells {H : Type} {enc : TypeId × Value → H} {w : World} {base : Nat} {sp : Nat → Bool} {held : Bool} {fuel : Nat} {cs : List Value} {x : DataW H × List MemPlace}
    (h : DataW.trod enc Tryd.prog w base sp held fuel 43 cs = some x) : ∃ bs : List UInt8, bs.length = 32 ∧ cs = bs.map B := by
  have ht := Tryd.underlying43
  have he := Tryd.underlying5
  have hce : Tryd.prog.cellsOf 5 = 1 := by kernel_rfl
  have hct : Tryd.prog.cellsOf 43 = 32 := by kernel_rfl
  cases fuel with
  | zero => simp [DataW.trod] at h
  | succ fuel =>
    simp only [DataW.trod, ht, hce, hct, Nat.mul_one] at h
    split at h
    · rename_i hl
      have hl' : cs.length = 32 := by simpa using hl
      obtain ⟨xs, hm, hx⟩ := Option.map_eq_some_iff.1 h
      obtain ⟨f, hf⟩ : ∃ f : Nat → UInt8, ∀ i, i < 32 → cs[i]? = some (B (f i)) := by
        refine choose_lt (p := fun i z => cs[i]? = some (B z)) fun i hi => ?_
        obtain ⟨b, hb, hfi⟩ := Lib.mapM_at hm i i (by simp [hi])
        obtain ⟨z, hc, rfl, hw⟩ := DataW.trod_int he hfi
        have h1 : cs[i]? = some (.int .u8 z) := by
          have := congrArg (·[0]?) hc
          simpa [List.getElem?_take, List.getElem?_drop] using this
        have hb8 := bounds_u8 hw
        refine ⟨UInt8.ofNat z.toNat, ?_⟩
        rw [h1]
        show some (Value.int .u8 z) = some (Value.int .u8 ((UInt8.ofNat z.toNat).toNat : Int))
        rw [UInt8.toNat_ofNat']
        congr 2
        omega
      refine ⟨(List.range 32).map f, by simp, ?_⟩
      apply List.ext_getElem?
      intro i
      by_cases hi : i < 32
      · rw [hf i hi]; simp [hi]
      · rw [List.getElem?_eq_none (by omega), List.getElem?_eq_none (by simp; omega)]
    · cases h
set_option maxRecDepth 100000 in
theorem digest_read {H : Type} {enc : TypeId × Value → H} {w : World} {base base' : Nat} {sp : Nat → Bool} {held : Bool} {r : Reach} {v : Value} {d : DataW H} {p : List MemPlace}
    (hv : Value.okWide Tryd.prog w r base' 43 v) (h : DataW.Trod enc Tryd.prog w base sp held 43 v d p) : ∃ bs : List UInt8, v = .agg (bs.map B).toArray ∧ bs.length = 32 := by
  obtain ⟨fuel, h⟩ := h
  obtain ⟨bs, h1, h2⟩ := digest_cells h
  unfold Value.okWide at hv
  rw [Tryd.underlying43] at hv
  obtain ⟨cs, rfl, _, _⟩ := hv
  refine ⟨bs, ?_, h1⟩
  rw [← h2]
  simp [Value.cells]
set_option maxRecDepth 100000 in
theorem string_read {H : Type} {enc : TypeId × Value → H} {w : World} {base base' : Nat} {sp : Nat → Bool} {held : Bool} {r : Reach} {v : Value} {d : DataW H} {p : List MemPlace}
    (hv : Value.okWide Tryd.prog w r base' 9 v) (h : DataW.Trod enc Tryd.prog w base sp held 9 v d p) : ∃ s : ByteArray, v = .string s ∧ s.size ≤ 9223372036854775807 := by
  obtain ⟨s, rfl, _, _, hs⟩ := Go.ChangeMaps.open_string Tryd.underlying9 hv h
  exact ⟨s, rfl, by rw [maxLen_eq] at hs; exact hs⟩
set_option maxRecDepth 100000 in
theorem int_read {H : Type} {enc : TypeId × Value → H} {w : World} {base base' : Nat} {sp : Nat → Bool} {held : Bool} {r : Reach} {v : Value} {d : DataW H} {p : List MemPlace}
    (hv : Value.okWide Tryd.prog w r base' 3 v) (h : DataW.Trod enc Tryd.prog w base sp held 3 v d p) : ∃ n : Int, v = .int .i64 n ∧ -9223372036854775808 ≤ n ∧ n ≤ 9223372036854775807 := by
  obtain ⟨n, rfl, _, _, hw⟩ := open_int Tryd.underlying3 hv h
  refine ⟨n, rfl, ?_⟩
  simpa [Lit.wf, IntKind.min, IntKind.max, IntKind.bits, IntKind.signed] using hw
end Go.Proofs.YtggcbjchnefhfaaDoor
