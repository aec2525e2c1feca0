/- electiontop.two (printed by gen_two.py). -/
import Derived.Test.YtaobaaaihgahfaaGreatIrvCV
import Derived.Test.YtaobaaaihgahfaaGreatMkOV
import Derived.Test.YtaobaaaihgahfaaGreatDistV
namespace Go.Tp
open Go.Pil
end Go.Tp
namespace Go.Proofs.YtaobaaaihgahfaaGreat
open Go.RowKit Go.Mk Go.Pil Go.Nt Go.Mg Go.Tp
theorem OpY.storeRowT {P : Program} {o : Oper} {a : Act} {w : World} {R : Value → World → Prop} (ty : TypeId) (x y : Operand) (ho : o.op = .store ty x y)
    (g : Nat) (cells : Array Value) (hx : a.eval x = .pointer (some ⟨g, 0, none⟩)) (hy : a.eval y = .agg cells)
    (t : TypeId) (old : Array Value) (hg : w.heap[g]? = some (.cells old t (0, 0))) (hi : (P.info? ty).map (·.size) = some cells.size)
    (hold : old.size = cells.size) (h1 : cells.all (·.oneCell') = true) (h : R undef (w.setRow g cells)) : OpY P o a w R := by
  (unfold OpY execOp); (simp only [ho, hx, hy, Instr.storeAt, Instr.sureAddr, Sem.run_bind, Sem.run_pure, Result.andThen_ok, run_storeVar_row w g t ty old cells hg hi hold h1]); (exact h)
theorem rng_row {w : World} {g : Nat} {L : List Value} {t : TypeId} {fr : Nat × Nat} (h : w.heap[g]? = some (.cells L.toArray t fr)) : w.rangeAt g 0 L := fun j u hu => by
  rw [Nat.zero_add, cell_of_row w g j _ _ _ h]; simpa using hu
end Go.Proofs.YtaobaaaihgahfaaGreat
