/- Digests compared. -/
import Derived.Test.YtggcbjchnefhfaaDoorRefJoin
import Derived.Stop.BytesEq
namespace Go.Proofs.YtggcbjchnefhfaaDoor
open Go.RowKit Go.Mk Go.Sha
theorem eql_digest (a b : List UInt8) (ha : a.length = 32) (hb : b.length = 32) (w : World) : (binOp .eql 43 (.agg (a.map B).toArray) (.agg (b.map B).toArray)).run Tryd.prog w = .ok (.bool (a == b)) w :=
  run_eql_bytes w 43 5 32 Tryd.underlying43 Tryd.underlying5 (fun _ => by kernel_rfl) a b ha hb
theorem neq_digest (a b : List UInt8) (ha : a.length = 32) (hb : b.length = 32) (w : World) : (binOp .neq 43 (.agg (a.map B).toArray) (.agg (b.map B).toArray)).run Tryd.prog w = .ok (.bool (a != b)) w := by
  rw [run_neq_struct]
  have := run_equalIn_bytes (P := Tryd.prog) w 9998 43 5 32 Tryd.underlying43 Tryd.underlying5 (fun _ => by kernel_rfl) a b ha hb
  have e : ∀ l : List UInt8, l.map Extern.Stop.cell = l.map B := fun l => rfl
  rw [e, e] at this
  rw [this]
  rfl
theorem guard_digest (op : BinOp) (x y : Operand) (xs ys : Array Value) (w : World) : (eqGuard op 43 x y (.agg xs) (.agg ys)).run Tryd.prog w = .ok () w := run_eqGuard_agg w op _ x y xs ys (by kernel_rfl)
end Go.Proofs.YtggcbjchnefhfaaDoor
