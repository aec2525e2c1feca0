/- A batch among the arguments. -/
import Derived.Test.YtobihnkmmlkccaaDoorRead2
import Derived.Lib.SmallJoins
import Derived.Carry
namespace Go.Proofs.YtobihnkmmlkccaaDoor
open Go.ChangeShapes Go.WideShapes Go.ChangeAt Go.RowKit Go.Mk Go.Sha Go.Deep
set_option maxRecDepth 100000 in
theorem batch_read {H : Type} {enc : TypeId × Value → H} {w : World} {base base' : Nat} {sp : Nat → Bool} {held : Bool} {r : Reach} {v : Value} {d : DataW H} {p : List MemPlace}
    (hv : Value.okWide Tryd.prog w r base' 23 v) (h : DataW.Trod enc Tryd.prog w base sp held 23 v d p) :
    ∃ (s : ByteArray) (a b n : Int), v = .agg #[.string s, .int .i64 a, .int .i64 b, .int .i64 n] ∧ s.size ≤ 9223372036854775807 := by
  obtain ⟨v0, v1, v2, v3, y0, y1, y2, y3, n, rfl, _, _, h0, h1, h2, h3⟩ := Go.Joins.open_agg4 Tryd.underlying23 (by kernel_rfl) (by kernel_rfl) hv h
  obtain ⟨s, hs, _, hz⟩ := DataW.trod_string Tryd.underlying9 h0
  obtain ⟨a, ha, _⟩ := DataW.trod_int Tryd.underlying3 h1
  obtain ⟨b, hb, _⟩ := DataW.trod_int Tryd.underlying3 h2
  obtain ⟨c, hc, _⟩ := DataW.trod_int Tryd.underlying3 h3
  cases hs; cases ha; cases hb; cases hc
  exact ⟨s, a, b, c, rfl, by rw [maxLen_eq] at hz; exact hz⟩
end Go.Proofs.YtobihnkmmlkccaaDoor
