/- What the three laws of lists share: the seven's remainder, items made, a list that is too long. -/
import Derived.Test.YtggcbjchnefhfaaDoorCList
import Derived.Test.YtggcbjchnefhfaaDoorItems
import Derived.Test.YtggcbjchnefhfaaDoorSameD
import Derived.Test.YtggcbjchnefhfaaDoorAwk38
namespace Go.Proofs.YtggcbjchnefhfaaDoor
open Go.RowKit Go.Mk Go.Sha Go.Cmt
theorem mod7 (n : Int) (w : World) : Calls Tryd.prog 8 #[.int .i64 n, .int .i64 7] w fun e w' => e = .returned (.int .i64 (Pl.modI n 7)) ∧ w' = w := Pl.mod_any n 7 w (by decide) (by decide)
set_option maxRecDepth 100000 in
set_option maxHeartbeats 1000000 in
theorem clist_long (s : ByteArray) (c : Int) (ao : Option Addr) (n cap : Nat) (w : World) (hn : 1024 < n) :
    Calls Tryd.prog 10 #[.string s, .int .i64 c, .slice ao n cap] w fun e w' => e = .returned (.tuple #[.slice none 0 0, .int .i64 7]) ∧ w = w' := by
  have hn1 : (1024 : Int) < (n : Int) := by omega
  go_enter Tryd.func10, Tryd.ntmps10
  go_wp2
  go_ret2
  exact ⟨rfl, rfl⟩
theorem sort_at {l : List (List UInt8)} (i : Nat) (h : i + 1 < (sortD l).length) : lessD ((sortD l).getD (i + 1) []) ((sortD l).getD i []) = false := by
  have := List.pairwise_iff_getElem.1 (sortD_spec l).2 i (i + 1) (by omega) h (by omega)
  rw [List.getD_eq_getElem?_getD, List.getD_eq_getElem?_getD, List.getElem?_eq_getElem h, List.getElem?_eq_getElem (show i < (sortD l).length by omega)]
  exact this
theorem sortD_length (l : List (List UInt8)) : (sortD l).length = l.length := (sortD_spec l).1.length_eq
end Go.Proofs.YtggcbjchnefhfaaDoor
