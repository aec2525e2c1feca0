/- electionref31.Tail (printed by gen_rtail.py). -/
import Derived.Test.YtaobaaaihgahfaaGreatPilV
import Derived.Test.YtaobaaaihgahfaaGreatGenV
import Derived.Test.YtaobaaaihgahfaaGreatCntV
namespace Go.Proofs.YtaobaaaihgahfaaGreat
open Go.RowKit Go.Mk Go.Pil Go.Mg
theorem post_sliceI (av : Option Addr) (lv cv m : Nat) (hm : m ≤ lv) (w : World) : (Instr.slice 26 (.slice av lv cv) (some (.int .i64 (m : Int))) none none).run Tryz.prog w = .ok (.slice (if cv = m then av else av.map (·.add m)) (lv - m) (cv - m)) w := by
  (have h0 : (0 : Int) ≤ (m : Int) := by omega); (have hc : Tryz.prog.underlying 26 = some (.slice 3) := by kernel_rfl); (obtain ⟨i, hi, hz, hs, hb⟩ := info_parts (P := Tryz.prog) (e := 3) (z := .int .i64 0) (size := 1) (bytes := 8) (by kernel_rfl)); (have h1 : (m : Int) ≤ (lv : Int) := by omega)
  simp [Instr.slice, Instr.sliceBounds, Instr.sliceBound, run_underlying hc, asIntOf, h0, sizeOf, typeInfo, hi, hs, hm]
theorem nodup_len : ∀ (n : Nat) (l : List Int), l.Nodup → (∀ x ∈ l, 0 ≤ x ∧ x < (n : Int)) → l.length ≤ n := by
  intro n
  induction n with
  | zero =>
    intro l _ h
    cases l with
    | nil => simp
    | cons x l => have := h x (by simp); omega
  | succ n ih =>
    intro l hd h
    have h2 := ih (l.erase (n : Int)) (hd.erase _) fun x hx => by
      (have h3 := (hd.mem_erase_iff).1 hx); (have h4 := h x h3.2); (have h5 := h3.1)
      omega
    have := List.length_erase (l := l) (a := (n : Int))
    split at this <;> omega
end Go.Proofs.YtaobaaaihgahfaaGreat
