/- math/bits.Mul: the kit's contract laid at this program. -/
import Derived.Test.YtaobaaaihgahfaaGreatRTailV
import Derived.Shelf.Bits.Mul64
import Derived.Laws.CopyRow
namespace Go.Proofs.YtaobaaaihgahfaaGreat
open Go.Shelf Go.RowKit
def mulRen : Go.Shelf.Ren := ⟨fun | 212 => 103 | 263 => 154 | 264 => 155 | n => n, fun | 46 => 158 | 51 => 202 | 53 => 171 | 146 => 203 | 148 => 205 | n => n, fun n => n⟩
theorem mulLays : Lays.n212 Tryz.prog mulRen := { mixed := by kernel_rfl, f212 := by kernel_rfl, f263 := by kernel_rfl, f264 := by kernel_rfl, t46 := by kernel_rfl, a46 := fun _ => by kernel_rfl, z46 := fun _ => by kernel_rfl, v46 := fun _ => by kernel_rfl, t51 := by kernel_rfl, a51 := fun _ => by kernel_rfl, z51 := fun _ => by kernel_rfl, v51 := fun _ => by kernel_rfl, t53 := by kernel_rfl, a53 := fun _ => by kernel_rfl, z53 := fun _ => by kernel_rfl, v53 := fun _ => by kernel_rfl, t146 := by kernel_rfl, a146 := fun _ => by kernel_rfl, z146 := fun _ => by kernel_rfl, v146 := fun _ => by kernel_rfl, t148 := by kernel_rfl, a148 := fun _ => by kernel_rfl, z148 := fun _ => by kernel_rfl, v148 := fun _ => by kernel_rfl }
/-- 1 times n. -/
theorem mul1_any (n : Nat) (hn : n < 1000000) (w : World) : Calls Tryz.prog 103 #[.int .u64 1, .int .u64 (n : Int)] w fun e w' => e = .returned (.tuple #[.int .u64 0, .int .u64 (n : Int)]) ∧ w' = w := by
  (have := Any.bits_Mul mulLays 1 n (by decide) (by omega) w); (rw [show 1 * n / 18446744073709551616 = 0 by omega, show 1 * n % 18446744073709551616 = n by omega] at this); (exact this)
end Go.Proofs.YtaobaaaihgahfaaGreat

/- slices.Repeat of one element, margin.all (printed by gen_rep.py). -/
namespace Go.Mk
open Go.RowKit
theorem OpY.copy {P : Program} {o : Oper} {a : Act} {w w' : World} {R : Value → World → Prop} (d s : Operand) (t t' : TypeId) (ho : o.op = .call { callee := .builtin .copy, args := #[d, s], argTypes := #[t, t'] })
    (v u : Value) (hd : a.eval d = v) (hs : a.eval s = u) {v' : Value} (hr : (Builtin.copy_ #[t, t'] o.type #[v, u]).run P w = .ok v' w') (h : R v' w') : OpY P o a w R := by
  (unfold OpY execOp); (simp only [ho, resolve, invoke, builtin, Sem.run_bind, Sem.run_pure, Result.andThen_ok, List.map_toArray, List.map_cons, List.map_nil, hd, hs, hr]); (exact h)
/-- The value and what the block holds. -/
def PCp {Sl : Nat → Nat → Prop} (x : Value) (g : Nat) (cs : Array Value) (t : TypeId) : Pr Sl := soft (fun v w => v = x ∧ w.heap[g]? = some (.cells cs t (0, 0))) fun _ _ _ ⟨h1, h2⟩ k => ⟨h1, (k.block _ (Array.getElem?_eq_some_iff.1 h2).1 id).trans h2⟩
def repC (u z : Value) (n k : Nat) : Array Value := (List.replicate k u ++ List.replicate (n - k) z).toArray
theorem rep_copy (u z : Value) (n k d : Nat) (h : k + d ≤ n) : ((repC u z n k).toList.take k ++ List.replicate d u ++ (repC u z n k).toList.drop (k + (List.replicate d u).length)).toArray = repC u z n (k + d) := by
  unfold repC
  congr 1
  apply List.ext_getElem
  · simp; omega
  · (intro i h1 h2); (simp only [List.getElem_append, List.length_replicate, List.getElem_replicate, List.length_take, List.length_append, List.getElem_take, List.getElem_drop])
    repeat' split
    all_goals first | rfl | (exfalso; omega)
theorem repC_size (u z : Value) (n k : Nat) (h : k ≤ n) : (repC u z n k).size = n := by simp [repC]; omega
theorem repC_at (u z : Value) (n k j : Nat) (h : j < k) : (repC u z n k)[j]? = some u := by simp [repC, List.getElem?_append, h]
end Go.Mk
namespace Go.Proofs.YtaobaaaihgahfaaGreat
open Go.RowKit Go.Mk Go.Pil Go.Mg
theorem pre_sliceJ (av : Option Addr) (lv cv m : Nat) (hav : cv = 0 ∨ ∃ b o, av = some ⟨b, o, none⟩) (hm : m ≤ cv) (w : World) : (Instr.slice 26 (.slice av lv cv) none (some (.int .i64 (m : Int))) none).run Tryz.prog w = .ok (.slice av m cv) w := pre_slice av lv cv m hav hm w
end Go.Proofs.YtaobaaaihgahfaaGreat
