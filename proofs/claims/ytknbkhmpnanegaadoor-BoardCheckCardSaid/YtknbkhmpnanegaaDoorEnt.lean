/- Entries and rows in memory; digests as values that the walk does not look into. -/
import Derived.Test.YtknbkhmpnanegaaDoorBrdL
import Derived.Test.YtknbkhmpnanegaaDoorFlow2
import Derived.Test.YtknbkhmpnanegaaDoorFind
import Derived.Test.YtknbkhmpnanegaaDoorRefJoin
namespace Go.Mk
open Go.RowKit
section
variable {α : Type} {f : α → List Value} {sz : Nat} {ps : List α} {w : World} {ao : Option Addr} {n cap : Nat}
theorem flatLen (hf : ∀ x ∈ ps, (f x).length = sz) : (ps.flatMap f).length = ps.length * sz := by
  induction ps with
  | nil => simp
  | cons x ps ih => rw [List.flatMap_cons, List.length_append, hf x (by simp), ih fun y hy => hf y (by simp [hy]), List.length_cons, Nat.add_mul]; omega
theorem flatAt (hf : ∀ x ∈ ps, (f x).length = sz) (k j : Nat) (hk : k < ps.length) (hj : j < sz) : (ps.flatMap f)[k * sz + j]? = (f ps[k])[j]? := by
  induction ps generalizing k with
  | nil => simp at hk
  | cons x ps ih =>
    rw [List.flatMap_cons]
    have hl := hf x (by simp)
    match k with
    | 0 => rw [Nat.zero_mul, Nat.zero_add, List.getElem?_append_left (by omega)]; rfl
    | k + 1 =>
      rw [List.getElem?_append_right (by rw [hl, Nat.add_mul]; omega), hl, show (k + 1) * sz + j - sz = k * sz + j by rw [Nat.add_mul]; omega, ih (fun e he => hf e (by simp [he])) k (by simpa using hk)]
      rfl
theorem Rd.row (hf : ∀ x ∈ ps, (f x).length = sz) (h : Rd w sz (.slice ao n cap) ps.length (ps.flatMap f)) (k : Nat) (hk : k < ps.length) : ∃ b o, ao = some ⟨b, o, none⟩ ∧ w.rangeAt b (o + k * sz) (f ps[k]) := by
  obtain ⟨_, _, _, e, h1, _, h | ⟨b, o, rfl, hc⟩⟩ := h
  · cases e; omega
  · cases e
    refine ⟨b, o, rfl, fun j u hu => ?_⟩
    have hj : j < sz := by
      have := (List.getElem?_eq_some_iff.1 hu).1
      rwa [hf _ (List.getElem_mem hk)] at this
    rw [Nat.add_assoc]
    exact hc _ _ (by rw [flatAt hf k j hk hj]; exact hu)
theorem Rd.takeRows (hf : ∀ x ∈ ps, (f x).length = sz) (h : Rd w sz (.slice ao n cap) ps.length (ps.flatMap f)) (k : Nat) (hk : k ≤ ps.length) : Rd w sz (.slice ao k cap) (ps.take k).length ((ps.take k).flatMap f) := by
  obtain ⟨_, _, _, e, h1, h2, h3⟩ := h
  cases e
  have hl : (ps.take k).length = k := by rw [List.length_take]; omega
  refine ⟨flatLen fun x hx => hf x (List.mem_of_mem_take hx), ao, cap, by rw [hl], by omega, h2, h3.imp id fun ⟨b, o, e, hc⟩ => ⟨b, o, e, fun j u hj => hc j u ?_⟩⟩
  have hlt := (List.getElem?_eq_some_iff.1 hj).1
  have hs : ps.flatMap f = (ps.take k).flatMap f ++ (ps.drop k).flatMap f := by rw [← List.flatMap_append, List.take_append_drop]
  rw [hs, List.getElem?_append_left hlt]; exact hj
theorem Rd.dropRows (hf : ∀ x ∈ ps, (f x).length = sz) (h : Rd w sz (.slice ao n cap) ps.length (ps.flatMap f)) (k : Nat) (hk : k < ps.length) : ∃ b o, ao = some ⟨b, o, none⟩ ∧ Rd w sz (.slice (some ⟨b, o + k * sz, none⟩) (ps.length - k) (cap - k)) (ps.drop k).length ((ps.drop k).flatMap f) := by
  obtain ⟨_, _, _, e, h1, h2, h | ⟨b, o, rfl, hc⟩⟩ := h
  · cases e; omega
  · cases e
    have hl : (ps.drop k).length = ps.length - k := by rw [List.length_drop]
    refine ⟨b, o, rfl, flatLen fun x hx => hf x (List.mem_of_mem_drop hx), _, cap - k, by rw [hl], by omega, by omega, .inr ⟨b, _, rfl, fun j u hj => ?_⟩⟩
    have hs : ps.flatMap f = (ps.take k).flatMap f ++ (ps.drop k).flatMap f := by rw [← List.flatMap_append, List.take_append_drop]
    have ht : ((ps.take k).flatMap f).length = k * sz := by rw [flatLen fun x hx => hf x (List.mem_of_mem_take hx), List.length_take, Nat.min_eq_left (by omega)]
    rw [Nat.add_assoc]
    exact hc _ _ (by rw [hs, List.getElem?_append_right (by omega), ht, show k * sz + j - k * sz = j by omega]; exact hj)
end
theorem Kept.blk {w w' : World} (k : Kept no w w') {g : Nat} {o : Obj} (h : w.heap[g]? = some o) : w'.heap[g]? = some o := (k.block _ (Array.getElem?_eq_some_iff.1 h).1 id).trans h
theorem Kept.rng {w w' : World} (k : Kept no w w') {b o : Nat} {cs : List Value} (h : w.rangeAt b o cs) : w'.rangeAt b o cs := fun j u hu => k.cell (h j u hu) id
/-- What a region may turn that begins behind the block B. -/
def frm (B : Nat) : Nat → Prop := fun k => B ≤ k
theorem Kept.frm {w w1 w2 : World} (h : Kept no w w1) (h' : Kept (frm w.heap.size) w1 w2) : Kept no w w2 := h.trans h' fun k hk hs => by have : w.heap.size ≤ k := hs; omega
theorem Kept.frmB {w w1 w2 : World} {B : Nat} (h : Kept no w w1) (h' : Kept (Mk.frm B) w1 w2) (hB : w.heap.size ≤ B) : Kept no w w2 := h.trans h' fun k hk hs => by have : B ≤ k := hs; omega
section
variable {P : Program} {S : Nat → Prop}
/-- What a block holds. -/
def Blk {Sl : Nat → Nat → Prop} (g : Nat) (c : Array Value) (t : TypeId) : Pr Sl := soft (fun _ w => w.heap[g]? = some (.cells c t (0, 0))) fun _ _ _ h k => k.blk h
/-- What a block holds that the loud operations js leave alone. -/
def BlkS {Sl : Nat → Nat → Prop} (g : Nat) (c : Array Value) (t : TypeId) (js : Nat → Bool) (h : ∀ j, js j = true → ¬ Sl j g) : Pr Sl := ⟨fun _ _ w => w.heap[g]? = some (.cells c t (0, 0)), none, js, fun _ _ _ _ h k => k.blk h, fun j hj _ _ _ _ hb k => (k.block _ (Array.getElem?_eq_some_iff.1 hb).1 (h j hj)).trans hb, fun _ _ _ _ _ h => h⟩
theorem OpY.storeRow {o : Oper} {a : Act} {w : World} {R : Value → World → Prop} (ty : TypeId) (x y : Operand) (ho : o.op = .store ty x y)
    (g : Nat) (cells : Array Value) (hx : a.eval x = .pointer (some ⟨g, 0, none⟩)) (hy : a.eval y = .agg cells)
    (t : TypeId) (old : Array Value) (hg : w.heap[g]? = some (.cells old t (0, 0))) (hi : (P.info? ty).map (·.size) = some cells.size)
    (hold : old.size = cells.size) (h1 : cells.all (·.oneCell') = true) (h : R undef (w.setRow g cells)) : OpY P o a w R := by
  unfold OpY execOp
  simp only [ho, hx, hy, Instr.storeAt, Instr.sureAddr, Sem.run_bind, Sem.run_pure, Result.andThen_ok, run_storeVar_row w g t ty old cells hg hi hold h1]
  exact h
end
end Go.Mk
namespace Go.Proofs.YtknbkhmpnanegaaDoor
open Go.RowKit Go.Mk Go.Sha Go.Brd
def entC (e : Ent) (vb : Value) : List Value := .int .i64 e.number :: .int .i64 e.kind :: vb :: e.prev.map B
def Ev (e : Ent) (vb : Value) : Value := .agg (entC e vb).toArray
theorem entC_length {e : Ent} {vb : Value} (h : e.prev.length = 32) : (entC e vb).length = 35 := by simp [entC, h]
def OkE (w : World) (e : Ent) (vb : Value) : Prop := e.prev.length = 32 ∧ e.body.length ≤ 1000 ∧ Rd w 1 vb e.body.length (e.body.map B)
theorem OkE.kept {w w' : World} {e : Ent} {vb : Value} (h : OkE w e vb) (k : Kept no w w') : OkE w' e vb := ⟨h.1, h.2.1, h.2.2.keptNo k⟩
theorem OkE.one {w : World} {e : Ent} {vb : Value} (h : OkE w e vb) : ∀ u ∈ entC e vb, u.oneCell' = true := fun u hu => by
  obtain ⟨_, _, _, ao, cap, rfl, _⟩ := h
  rcases List.mem_cons.1 hu with rfl | hu
  · rfl
  rcases List.mem_cons.1 hu with rfl | hu
  · rfl
  rcases List.mem_cons.1 hu with rfl | hu
  · rfl
  exact B_one _ u hu
/-- A slice of entries. -/
def RdE (w : World) (v : Value) (ps : List (Ent × Value)) : Prop := (∀ p ∈ ps, OkE w p.1 p.2) ∧ Rd w 35 v ps.length (ps.flatMap fun p => entC p.1 p.2)
theorem RdE.kept {w w' : World} {v : Value} {ps : List (Ent × Value)} (h : RdE w v ps) (k : Kept no w w') : RdE w' v ps := ⟨fun p hp => (h.1 p hp).kept k, h.2.keptNo k⟩
theorem RdE.len {w : World} {v : Value} {ps : List (Ent × Value)} (h : RdE w v ps) : ∀ p ∈ ps, (entC p.1 p.2).length = 35 := fun p hp => entC_length (h.1 p hp).1
theorem RdE.at {w : World} {ao : Option Addr} {n cap : Nat} {ps : List (Ent × Value)} (h : RdE w (.slice ao n cap) ps) (k : Nat) (hk : k < ps.length) : ∃ b o, ao = some ⟨b, o, none⟩ ∧ w.rangeAt b (o + k * 35) (entC ps[k].1 ps[k].2) :=
  Rd.row (f := fun p : Ent × Value => entC p.1 p.2) h.len h.2 k hk
theorem RdE.take {w : World} {ao : Option Addr} {n cap : Nat} {ps : List (Ent × Value)} (h : RdE w (.slice ao n cap) ps) (k : Nat) (hk : k ≤ ps.length) : RdE w (.slice ao k cap) (ps.take k) :=
  ⟨fun p hp => h.1 p (List.mem_of_mem_take hp), Rd.takeRows (f := fun p : Ent × Value => entC p.1 p.2) h.len h.2 k hk⟩
theorem RdE.drop {w : World} {ao : Option Addr} {n cap : Nat} {ps : List (Ent × Value)} (h : RdE w (.slice ao n cap) ps) (k : Nat) (hk : k < ps.length) : ∃ b o, ao = some ⟨b, o, none⟩ ∧ RdE w (.slice (some ⟨b, o + k * 35, none⟩) (ps.length - k) (cap - k)) (ps.drop k) := by
  obtain ⟨b, o, e, hr⟩ := Rd.dropRows (f := fun p : Ent × Value => entC p.1 p.2) h.len h.2 k hk
  exact ⟨b, o, e, fun p hp => h.1 p (List.mem_of_mem_drop hp), hr⟩
theorem RdE.shape {w : World} {v : Value} {ps : List (Ent × Value)} (h : RdE w v ps) : ∃ ao cap, v = .slice ao ps.length cap ∧ ps.length ≤ cap := by
  obtain ⟨_, _, ao, cap, rfl, h1, _⟩ := h; exact ⟨ao, cap, rfl, h1⟩
theorem Dg_cells {D : List UInt8} (h : D.length = 32) : (D.map B).toArray.size = 32 := by simp [h]
theorem infD {D : List UInt8} (h : D.length = 32) : (Tryd.prog.info? 26).map (·.size) = some (D.map B).toArray.size := by rw [Dg_cells h]; kernel_rfl
theorem infDl {D : List UInt8} (h : D.length = 32) : (Tryd.prog.info? 26).map (·.size) = some (D.map B).length := by rw [List.length_map, h]; kernel_rfl
theorem infE {w : World} {e : Ent} {vb : Value} (h : OkE w e vb) : (Tryd.prog.info? 47).map (·.size) = some (entC e vb).toArray.size := by rw [List.size_toArray, entC_length h.1]; kernel_rfl
theorem infEl {w : World} {e : Ent} {vb : Value} (h : OkE w e vb) : (Tryd.prog.info? 47).map (·.size) = some (entC e vb).length := by rw [entC_length h.1]; kernel_rfl
theorem oneD (D : List UInt8) : (D.map B).toArray.all (·.oneCell') = true := all_oneCell_toArray (B_one _)
section
variable {ops : Array Oper} {rest : List Oper} {o : Oper} {a : Act} {w : World} {Q : Exit → Act → World → Prop}
/-- The load of a digest's variable. -/
theorem ld (hgd : o.guard = none) (x : Operand) (ho : o.op = .load 26 x) (g : Nat) (hx : a.eval x = .pointer (some ⟨g, 0, none⟩)) (D : List UInt8) (hb : w.heap[g]? = some (.cells (D.map B).toArray 26 (0, 0))) (hD : D.length = 32)
    (h : wpList Tryd.prog ops Q rest (a.put o.dst (Dg D)) w) : wpList Tryd.prog ops Q (o :: rest) a w :=
  wpList_load_row hgd 26 x ho g hx 26 _ _ _ hb Tryd.underlying26 rfl (infD hD) h
/-- The store into a digest's variable. -/
theorem sd (hgd : o.guard = none) (x y : Operand) (ho : o.op = .store 26 x y) (g : Nat) (hx : a.eval x = .pointer (some ⟨g, 0, none⟩)) (D : List UInt8) (hy : a.eval y = Dg D) (old : Array Value) (hb : w.heap[g]? = some (.cells old 26 (0, 0))) (hs : old.size = 32) (hD : D.length = 32)
    (h : wpList Tryd.prog ops Q rest (a.put o.dst undef) (w.setRow g (D.map B).toArray)) : wpList Tryd.prog ops Q (o :: rest) a w :=
  wpList_store_row hgd 26 x y ho g (D.map B).toArray hx hy 26 old hb (infD hD) (by rw [hs, Dg_cells hD]) (oneD D) h
/-- The load of an entry's variable. -/
theorem le (hgd : o.guard = none) (x : Operand) (ho : o.op = .load 47 x) (g : Nat) (hx : a.eval x = .pointer (some ⟨g, 0, none⟩)) (e : Ent) (vb : Value) (hb : w.heap[g]? = some (.cells (entC e vb).toArray 47 (0, 0))) {w0 : World} (hE : OkE w0 e vb)
    (h : wpList Tryd.prog ops Q rest (a.put o.dst (Ev e vb)) w) : wpList Tryd.prog ops Q (o :: rest) a w :=
  wpList_load_row hgd 47 x ho g hx 47 _ _ _ hb Tryd.underlying47 rfl (infE hE) h
/-- The load of an entry in the middle of an array. -/
theorem lem (hgd : o.guard = none) (x : Operand) (ho : o.op = .load 47 x) (b of : Nat) (hx : a.eval x = .pointer (some ⟨b, of, none⟩)) (e : Ent) (vb : Value) (hb : w.rangeAt b of (entC e vb)) {w0 : World} (hE : OkE w0 e vb)
    (h : wpList Tryd.prog ops Q rest (a.put o.dst (Ev e vb)) w) : wpList Tryd.prog ops Q (o :: rest) a w :=
  wpList_load_mid hgd 47 x ho b of hx _ _ hb Tryd.underlying47 rfl (infEl hE) h
end
section
variable {o : Oper} {a : Act} {w : World} {R : Value → World → Prop}
theorem yld (x : Operand) (ho : o.op = .load 26 x) (g : Nat) (hx : a.eval x = .pointer (some ⟨g, 0, none⟩)) (D : List UInt8) (hb : w.heap[g]? = some (.cells (D.map B).toArray 26 (0, 0))) (hD : D.length = 32) (h : R (Dg D) w) : OpY Tryd.prog o a w R :=
  OpY.row 26 x ho g 0 hx (D.map B) _ (range_row hb) Tryd.underlying26 rfl (infDl hD) h
theorem ysd (x y : Operand) (ho : o.op = .store 26 x y) (g : Nat) (hx : a.eval x = .pointer (some ⟨g, 0, none⟩)) (D : List UInt8) (hy : a.eval y = Dg D) (old : Array Value) (hb : w.heap[g]? = some (.cells old 26 (0, 0))) (hs : old.size = 32) (hD : D.length = 32)
    (h : R undef (w.setRow g (D.map B).toArray)) : OpY Tryd.prog o a w R :=
  OpY.storeRow 26 x y ho g (D.map B).toArray hx hy 26 old hb (infD hD) (by rw [hs, Dg_cells hD]) (oneD D) h
theorem ylem (x : Operand) (ho : o.op = .load 47 x) (b of : Nat) (hx : a.eval x = .pointer (some ⟨b, of, none⟩)) (e : Ent) (vb : Value) (hb : w.rangeAt b of (entC e vb)) {w0 : World} (hE : OkE w0 e vb) (h : R (Ev e vb) w) : OpY Tryd.prog o a w R :=
  OpY.row 47 x ho b of hx (entC e vb) _ hb Tryd.underlying47 rfl (infEl hE) h
end
/-- The result of a function that hands back a digest's variable. -/
theorem ret_dg {fn : Func} {tmps : Array Value} {w : World} {p : Tmp} (hres : fn.results = #[.cell p 26]) (g : Nat) (hp : tmps.getD p undef = .pointer (some ⟨g, 0, none⟩)) (D : List UInt8) (hb : w.heap[g]? = some (.cells (D.map B).toArray 26 (0, 0))) (hD : D.length = 32) :
    (results fn tmps).run Tryd.prog w = .ok (Dg D) w :=
  results_cell_row hres tmps w g 26 (D.map B).toArray (0, 0) _ hp hb Tryd.underlying26 rfl (infD hD)
def Z32l : List UInt8 := List.replicate 32 0
theorem Z32_eq : Z32 = (Z32l.map B).toArray := by kernel_rfl
theorem Z32_size : Z32.size = 32 := rfl
end Go.Proofs.YtknbkhmpnanegaaDoor
