/- An imprint in a block; a list of digests of one's own grows; a literal of one digest. -/
import Derived.Test.YtggcbjchnefhfaaDoorItm
import Derived.Test.YtggcbjchnefhfaaDoorCmtRef
import Derived.Test.YtggcbjchnefhfaaDoorCmtSalt
namespace Go.Proofs.YtggcbjchnefhfaaDoor
open Go.RowKit Go.Mk Go.Sha Go.Cmt
theorem S3.kept {g : Nat} {a b d : Int} {w w' : World} (h : S3 g a b d w) (k : Kept no w w') : S3 g a b d w' := h.reads k.reads
theorem New.keptR {w w0 w' : World} {v : Value} (hn : New w v) (hk : Kept no w w0) (h : Kept (ob v) w0 w') : Kept no w w' := hk.trans h fun k hlt hv => by
  rcases hn with hn | ⟨j, hj, hl⟩
  · rw [ob, hn] at hv; cases hv
  · have : j = k := by have := hj.symm.trans hv; simpa using this
    omega
theorem New.stepR {w w0 : World} {v v' : Value} (hn : New w v) (h : NewOr w0 v v') (hs : w.heap.size ≤ w0.heap.size) : New w v' := by
  rcases h with h | ⟨j, hj, hl⟩
  · rcases hn with hn | ⟨k, hk, hl⟩
    · exact .inl (h.trans hn)
    · exact .inr ⟨k, h.trans hk, hl⟩
  · exact .inr ⟨j, hj, by omega⟩
theorem OwD.add {w w1 w2 : World} {v v' : Value} {ds : List (List UInt8)} {C : List UInt8} {L : List Value} (h : OwD w w1 v ds) (hC : C.length = 32) (hL : C.map B = L)
    (ho : w2.ownsRow 0 43 32 v' (ds.length + 1) (flatD ds ++ L)) (hk : Kept (ob v) w1 w2) (hn : NewOr w1 v v') : OwD w w2 v' (ds ++ [C]) :=
  ⟨by rw [List.length_append, flatD_snoc, hL]; exact ho, (fun d hd => by
    rcases List.mem_append.1 hd with hd | hd
    · exact h.len d hd
    · obtain rfl := List.mem_singleton.1 hd; exact hC), h.new.keptR h.kept hk, h.new.stepR hn h.kept.size⟩
def OwDs {Sl : Nat → Nat → Prop} (w0 : World) (ds : List (List UInt8)) : Pr Sl := soft (fun v w => OwD w0 w v ds) fun _ _ _ h k => h.keptNo k
theorem fill_one (L : List Value) (h : L.length = 32) : Instr.fill (fun i => some (i * 32, 32)) ((Array.range (1 * 32)).map ((Value.agg Z32).cells[· % (Value.agg Z32).cells.size]!)) [(0, .agg L.toArray)] = some L.toArray := by
  have := fill_rows 32 (by decide) (.agg Z32) [.agg L.toArray] (by intro v hv; (obtain rfl : v = .agg L.toArray := by simpa using hv); exact h)
  simpa [Value.cells] using this
end Go.Proofs.YtggcbjchnefhfaaDoor

/- Slices of lists of digests; a block for a digest that is laid and filled in a drawn region. -/
namespace Go.Mk
theorem Kept.rng {w w' : World} (k : Kept no w w') {b o : Nat} {cs : List Value} (h : w.rangeAt b o cs) : w'.rangeAt b o cs := fun j u hu => k.cell (h j u hu) id
theorem Kept.freshD {w w' : World} (h : Kept (fun j => w.heap.size ≤ j) w.drew w') : Kept no w.drew w' := ⟨h.os, h.tape, h.output, h.size, fun k hk _ => h.block k hk (by have : k < w.heap.size := hk; omega)⟩
end Go.Mk
namespace Go.Proofs.YtggcbjchnefhfaaDoor
open Go.RowKit Go.Mk Go.Sha Go.Cmt
theorem pre_sliceD (av : Option Addr) (lv cv m : Nat) (hav : cv = 0 ∨ ∃ b o, av = some ⟨b, o, none⟩) (hm : m ≤ cv) (w : World) : (Instr.slice 34 (.slice av lv cv) none (some (.int .i64 (m : Int))) none).run Tryd.prog w = .ok (.slice av m cv) w := by
  have h0 : (0 : Int) ≤ (m : Int) := by omega
  have hc : Tryd.prog.underlying 34 = some (.slice 43) := by kernel_rfl
  rcases hav with rfl | ⟨b, o, rfl⟩
  · obtain rfl : m = 0 := by omega
    simp [Instr.slice, Instr.sliceBounds, Instr.sliceBound, run_underlying hc, asIntOf]
  · simp [Instr.slice, Instr.sliceBounds, Instr.sliceBound, run_underlying hc, asIntOf, h0]
    have e : (⟨b, o, none⟩ : Addr).add 0 = ⟨b, o, none⟩ := by simp [Addr.add]
    rw [if_pos hm, e]; simp
theorem post_sliceD (av : Option Addr) (lv cv m : Nat) (hm : m ≤ lv) (w : World) : (Instr.slice 34 (.slice av lv cv) (some (.int .i64 (m : Int))) none none).run Tryd.prog w = .ok (.slice (if cv = m then av else av.map (·.add (m * 32))) (lv - m) (cv - m)) w := by
  have h0 : (0 : Int) ≤ (m : Int) := by omega
  have hc : Tryd.prog.underlying 34 = some (.slice 43) := by kernel_rfl
  obtain ⟨i, hi, hz, hs, hb⟩ := info_parts (P := Tryd.prog) (e := 43) (z := .agg Z32) (size := 32) (bytes := 32) (by kernel_rfl)
  have h1 : (m : Int) ≤ (lv : Int) := by omega
  simp [Instr.slice, Instr.sliceBounds, Instr.sliceBound, run_underlying hc, asIntOf, h0, sizeOf, typeInfo, hi, hs, hm]
theorem RdD.addr {w : World} {av : Option Addr} {lv cv : Nat} {ds : List (List UInt8)} (h : RdD w (.slice av lv cv) ds) : cv = 0 ∨ ∃ b o, av = some ⟨b, o, none⟩ := by
  obtain ⟨_, _, _, _, e, _, _, h | ⟨b, o, rfl, _⟩⟩ := h
  · cases e; exact .inl h
  · cases e; exact .inr ⟨b, o, rfl⟩
theorem flatD_len {ds : List (List UInt8)} (h : ∀ d ∈ ds, d.length = 32) : (flatD ds).length = ds.length * 32 := flatLen (f := fun d : List UInt8 => d.map B) fun x hx => by rw [List.length_map, h x hx]
theorem RdD.takeR {w : World} {ao : Option Addr} {n cap : Nat} {ds : List (List UInt8)} (h : RdD w (.slice ao n cap) ds) (m : Nat) (hm : m ≤ ds.length) : Rd w 32 (.slice ao m cap) m (flatD (ds.take m)) := by
  obtain ⟨hd, hl, _, _, e, h1, h2, h3⟩ := h
  cases e
  have hdt : ∀ x ∈ ds.take m, x.length = 32 := fun x hx => hd x (List.mem_of_mem_take hx)
  refine ⟨by rw [flatD_len hdt, List.length_take, Nat.min_eq_left hm], ao, cap, rfl, by omega, h2, h3.imp id fun ⟨b, o, e, hc⟩ => ⟨b, o, e, fun j u hj => hc j u ?_⟩⟩
  have hlt := (List.getElem?_eq_some_iff.1 hj).1
  have hs : ds.flatMap (·.map B) = flatD (ds.take m) ++ flatD (ds.drop m) := by
    unfold flatD
    rw [← List.flatMap_append, List.take_append_drop]
  rw [hs, List.getElem?_append_left hlt]
  exact hj
theorem RdD.dropR {w : World} {ao : Option Addr} {n cap : Nat} {ds : List (List UInt8)} (h : RdD w (.slice ao n cap) ds) (m : Nat) (hm : m ≤ ds.length) : Rd w 32 (.slice (if cap = m then ao else ao.map (·.add (m * 32))) (ds.length - m) (cap - m)) (ds.length - m) (flatD (ds.drop m)) := by
  obtain ⟨hd, hl, _, _, e, h1, h2, h3⟩ := h
  cases e
  have hdt : ∀ x ∈ ds.drop m, x.length = 32 := fun x hx => hd x (List.mem_of_mem_drop hx)
  have hdk : ∀ x ∈ ds.take m, x.length = 32 := fun x hx => hd x (List.mem_of_mem_take hx)
  refine ⟨by rw [flatD_len hdt, List.length_drop], _, _, rfl, by omega, by omega, ?_⟩
  by_cases hc : cap = m
  · exact .inl (by omega)
  · rcases h3 with h3 | ⟨b, o, rfl, hcc⟩
    · exact .inl (by omega)
    · refine .inr ⟨b, o + m * 32, ?_, fun j u hj => ?_⟩
      · rw [if_neg hc]
        simp only [Option.map_some, Addr.add]
        split
        · rename_i e0
          have e1 : m = 0 := by omega
          subst e1; simp
        · rfl
      · have hs : ds.flatMap (·.map B) = flatD (ds.take m) ++ flatD (ds.drop m) := by
          unfold flatD
          rw [← List.flatMap_append, List.take_append_drop]
        have hlk : (flatD (ds.take m)).length = m * 32 := by rw [flatD_len hdk, List.length_take, Nat.min_eq_left hm]
        have := hcc (m * 32 + j) u (by rw [hs, List.getElem?_append_right (by omega), hlk, Nat.add_sub_cancel_left]; exact hj)
        rw [Nat.add_assoc]; exact this
/-- A new block for a digest. -/
def PAlD {Sl : Nat → Nat → Prop} (n0 : Nat) : Pr Sl := soft (fun v w => ∃ g, v = .pointer (some ⟨g, 0, none⟩) ∧ n0 ≤ g ∧ w.heap[g]? = some (.cells Z32 43 (0, 0))) fun _ _ _ ⟨g, h1, h2, h3⟩ k => ⟨g, h1, h2, (k.block _ (lt_of_heap h3) id).trans h3⟩
/-- The digest stands in the block. -/
def PStD {Sl : Nat → Nat → Prop} (d n0 : Nat) (L : List Value) : Pr Sl := rel d (fun u _ w => ∃ g, u = .pointer (some ⟨g, 0, none⟩) ∧ n0 ≤ g ∧ w.heap[g]? = some (.cells L.toArray 43 (0, 0))) fun _ _ _ _ ⟨g, h1, h2, h3⟩ k => ⟨g, h1, h2, (k.block _ (lt_of_heap h3) id).trans h3⟩
theorem OpY.storeRowD {P : Program} {o : Oper} {a : Act} {w : World} {R : Value → World → Prop} (ty : TypeId) (x y : Operand) (ho : o.op = .store ty x y)
    (g : Nat) (cells : Array Value) (hx : a.eval x = .pointer (some ⟨g, 0, none⟩)) (hy : a.eval y = .agg cells)
    (t : TypeId) (old : Array Value) (hg : w.heap[g]? = some (.cells old t (0, 0))) (hi : (P.info? ty).map (·.size) = some cells.size)
    (hold : old.size = cells.size) (h1 : cells.all (·.oneCell') = true) (h : R undef (w.setRow g cells)) : OpY P o a w R := by
  unfold OpY execOp
  simp only [ho, hx, hy, Instr.storeAt, Instr.sureAddr, Sem.run_bind, Sem.run_pure, Result.andThen_ok, run_storeVar_row w g t ty old cells hg hi hold h1]
  exact h
theorem OpY.allocD {o : Oper} {a : Act} {w : World} {R : Value → World → Prop} (ho : o.op = .alloc 43) (h : R (.pointer (some ⟨w.heap.size, 0, none⟩)) (w.alloc (.cells Z32 43))) : OpY Tryd.prog o a w R := by
  refine OpY.val (v := .pointer (some ⟨w.heap.size, 0, none⟩)) (w' := w.alloc (.cells Z32 43)) ?_ h
  unfold execOp
  rw [ho]
  kernel_rfl
theorem insD_at {C : List UInt8} {ds : List (List UInt8)} {j : Nat} (h1 : ∀ x ∈ ds.take j, lessD x C = true) (h2 : j = ds.length ∨ ∃ h : j < ds.length, lessD ds[j] C = false) : insD C ds = ds.take j ++ [C] ++ ds.drop j := by
  have ht : ∀ (l : List (List UInt8)), (∀ x ∈ l, lessD x C = true) → ∀ r : List (List UInt8), (∀ y, r.head? = some y → lessD y C = false) → (l ++ r).takeWhile (lessD · C) = l ∧ (l ++ r).dropWhile (lessD · C) = r := by
    intro l
    induction l with
    | nil =>
      intro _ r hr
      cases r with
      | nil => exact ⟨rfl, rfl⟩
      | cons y r => have := hr y rfl; simp [this]
    | cons x l ih =>
      intro hl r hr
      have hx := hl x (by simp)
      have := ih (fun y hy => hl y (by simp [hy])) r hr
      simp [hx, this]
  have hd : ∀ y, (ds.drop j).head? = some y → lessD y C = false := by
    intro y hy
    rcases h2 with h2 | ⟨h, h2⟩
    · rw [List.drop_of_length_le (by omega)] at hy; cases hy
    · rw [List.head?_drop, List.getElem?_eq_getElem h] at hy
      obtain rfl := Option.some.inj hy
      exact h2
  obtain ⟨e1, e2⟩ := ht _ h1 _ hd
  rw [List.take_append_drop] at e1 e2
  unfold insD
  rw [e1, e2]
theorem OwD.from_ {w0 w w' : World} {v : Value} {ds : List (List UInt8)} (h : OwD w w' v ds) (k : Kept no w0 w) : OwD w0 w' v ds :=
  ⟨h.own, h.len, k.trans' h.kept, h.new.imp id fun ⟨j, e, hj⟩ => ⟨j, e, Nat.le_trans k.size hj⟩⟩
theorem OwD.app {w w1 w2 : World} {v v' : Value} {ds es : List (List UInt8)} {m : Nat} (h : OwD w w1 v ds) (hm : es.length = m) (he : ∀ d ∈ es, d.length = 32)
    (ho : w2.ownsRow 0 43 32 v' (ds.length + m) (flatD ds ++ flatD es)) (hk : Kept (ob v) w1 w2) (hn : NewOr w1 v v') : OwD w w2 v' (ds ++ es) :=
  ⟨by rw [List.length_append, hm]; unfold flatD at ho ⊢; rw [List.flatMap_append]; exact ho, (fun d hd => by
    rcases List.mem_append.1 hd with hd | hd
    · exact h.len d hd
    · exact he d hd), h.new.keptR h.kept hk, h.new.stepR hn h.kept.size⟩
theorem New.frD {w : World} {v : Value} (h : New w v) : ∀ j, ob v j → w.heap.size ≤ j := fun j hj => by
  rcases h with h | ⟨k, h, hl⟩
  · rw [ob, h] at hj; cases hj
  · have : k = j := by have := h.symm.trans hj; simpa using this
    omega
theorem newOr_nilD {w : World} {v : Value} (h : NewOr w (.slice none 0 0) v) : New w v := by
  rcases h with h | ⟨j, h1, h2⟩
  · exact .inl h
  · exact .inr ⟨j, h1, h2⟩
theorem flatD_one {l : List (List UInt8)} : ∀ u ∈ flatD l, u.oneCell' = true := fun u hu => by
  obtain ⟨_, _, h⟩ := List.mem_flatMap.1 hu
  exact B_one _ u h
end Go.Proofs.YtggcbjchnefhfaaDoor
