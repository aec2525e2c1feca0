/- A certificate that is being made: its cells, its nodes. -/
import Derived.Test.YtkdmlakookgolaaSrchZ
import Derived.Test.YtkdmlakookgolaaAddZ
namespace Go.Proofs.Ytkdmlakookgolaa
open Go.RowKit Go.Mk Go.Pil Go.Mg
theorem node_ne_cert : 76 ≠ 25 := by decide
theorem int_ne_cert : 3 ≠ 25 := by decide
/-- The certificate in block gc, with nodes of its own. -/
structure CrtS (w1 w : World) (gc : Nat) (W M : Int) (v : Value) (q : List (Nd × Value)) : Prop where
  blk : w.heap[gc]? = some (.cells #[.int .i64 W, .int .i64 M, v] 25 (0, 0))
  own : OwNd w1 w v q
  new : w1.heap.size ≤ gc
def CrtA (w1 w : World) (gc : Nat) (W M : Int) (v : Value) (q r : List (Nd × Value)) : Prop := CrtS w1 w gc W M v (q ++ r)
def BlkN (w : World) (g : Nat) (c : Array Value) : Prop := w.heap[g]? = some (.cells c 76 (0, 0))
theorem CrtS.keptNo {w1 w w2 : World} {gc : Nat} {W M : Int} {v : Value} {q : List (Nd × Value)} (h : CrtS w1 w gc W M v q) (k : Kept no w w2) : CrtS w1 w2 gc W M v q := ⟨k.blk h.blk, h.own.keptNo k, h.new⟩
/-- Nodes are not touched by what turns certificates. -/
theorem OwNd.ofC {w1 w w2 : World} {v : Value} {q : List (Nd × Value)} (h : OwNd w1 w v q) (k : Kept (fun j => ∃ c fr, w.heap[j]? = some (.cells c 25 fr)) w w2) (k1 : Kept no w1 w2) : OwNd w1 w2 v q :=
  ⟨k.ownsRow h.own fun j hj ⟨_, _, hc⟩ => own_ne h.own hc node_ne_cert j hj rfl, fun x hx => k.ownsRow (h.rows x hx) fun j hj ⟨_, _, hc⟩ => own_ne (h.rows x hx) hc int_ne_cert j hj rfl, k1, h.new⟩
theorem OwNd.rdC {w1 w w2 : World} {v : Value} {q : List (Nd × Value)} (h : OwNd w1 w v q) (k : Kept (fun j => ∃ c fr, w.heap[j]? = some (.cells c 25 fr)) w w2) : RdN w2 v q :=
  ⟨fun x hx => own_RdZ (k.ownsRow (h.rows x hx) fun j hj ⟨_, _, hc⟩ => own_ne (h.rows x hx) hc int_ne_cert j hj rfl), Rd.of_own (k.ownsRow h.own fun j hj ⟨_, _, hc⟩ => own_ne h.own hc node_ne_cert j hj rfl)⟩
/-- The nodes' slice is stored. -/
theorem CrtS.store {w1 w : World} {gc : Nat} {W M : Int} {u v : Value} {q : List (Nd × Value)} (hb : w.heap[gc]? = some (.cells #[.int .i64 W, .int .i64 M, u] 25 (0, 0))) (h : OwNd w1 w v q) (hn : w1.heap.size ≤ gc) : CrtS w1 (w.setCell ⟨gc, 2, none⟩ v) gc W M v q := by
  (have k : Kept (fun j => ∃ c fr, w.heap[j]? = some (.cells c 25 fr)) w (w.setCell ⟨gc, 2, none⟩ v) := (Kept.refl _ w).setCell (.inl ⟨_, _, hb⟩) v); (exact ⟨by rw [setCell_row hb]; rfl, h.ofC k (h.kept.setCell (.inr hn) v), hn⟩)
theorem flatN_set {q : List (Nd × Value)} {K : Nat} (hK : K < q.length) {x : Nd} {tv : Value} (hx : q[K] = (x, tv)) : (flatN q).set (K * 4 + 3) (.bool false) = flatN (q.set K (clr x, tv)) := by
  have hq : q = q.take K ++ (x, tv) :: q.drop (K + 1) := by
    rw [← hx, ← List.drop_eq_getElem_cons hK, List.take_append_drop]
  have hl : (flatN (q.take K)).length = K * 4 := by
    (have := flatLen (f := ndC) (sz := 4) (ps := q.take K) fun _ _ => rfl); (rw [List.length_take, Nat.min_eq_left (by omega)] at this); (exact this)
  rw [show q.set K (clr x, tv) = q.take K ++ (clr x, tv) :: q.drop (K + 1) from by rw [List.set_eq_take_append_cons_drop, if_pos hK]]
  conv => lhs; rw [hq]
  (unfold flatN at *); (rw [List.flatMap_append, List.flatMap_append, List.flatMap_cons, List.flatMap_cons, List.set_append_right _ _ (by omega), hl, Nat.add_sub_cancel_left])
  rfl
/-- A leaf becomes an inner node. -/
theorem OwNd.setLeaf {w1 w : World} {g n cap : Nat} {q : List (Nd × Value)} (h : OwNd w1 w (.slice (some ⟨g, 0, none⟩) n cap) q) (hn : q.length = n) {K : Nat} (hK : K < q.length) {x : Nd} {tv : Value} (hx : q[K] = (x, tv)) :
    OwNd w1 (w.setCell ⟨g, K * 4 + 3, none⟩ (.bool false)) (.slice (some ⟨g, 0, none⟩) n cap) (q.set K (clr x, tv)) := by
  have hg : w1.heap.size ≤ g := by
    rcases h.new with h | ⟨k, hk, hl⟩
    · simp [Value.ownBlock] at h
    · have : g = k := by simpa [Value.ownBlock] using hk
      omega
  refine ⟨?_, fun y hy => ?_, h.kept.setCell (.inr hg) _, h.new⟩
  · (rw [List.length_set, ← flatN_set hK hx]); (have ho := h.own); (rw [hn] at ho ⊢); (exact own_set ho _ _)
  · have hy' : w.ownsRow 0 3 1 y.2 y.1.tail.length (y.1.tail.map Z) := by
      rcases List.mem_or_eq_of_mem_set hy with hy | rfl
      · exact h.rows y hy
      · (have := h.rows (x, tv) (hx ▸ List.getElem_mem hK)); (exact this)
    (have k : Kept (fun j => j = g) w (w.setCell ⟨g, K * 4 + 3, none⟩ (.bool false)) := (Kept.refl (fun j => j = g) w).setCell (a := ⟨g, K * 4 + 3, none⟩) (.inl rfl) _); (exact k.ownsRow hy' fun j hj e => own_own hy' h.own int_ne_node j hj (by subst e; rfl))
theorem OwNd.shape {w1 w : World} {v : Value} {q : List (Nd × Value)} (h : OwNd w1 w v q) (h0 : 0 < q.length) : ∃ g cap, v = .slice (some ⟨g, 0, none⟩) q.length cap ∧ q.length ≤ cap ∧ ∃ cur : Array Value, w.heap[g]? = some (.cells cur 76 (0, 0)) := by
  obtain ⟨_, ⟨_, h1⟩ | ⟨g, cap, cur, rfl, _, hg, h2, _⟩⟩ := h.own
  · omega
  · exact ⟨g, cap, rfl, h2, cur, hg⟩
/-- The length of the slice in a cell. -/
def lenC (w : World) (g o : Nat) : Nat := match w.cell? ⟨g, o, none⟩ with | some (.slice _ n _) => n | _ => 0
theorem lenC_eq {w : World} {g o n cap : Nat} {a : Option Addr} (h : w.cell? ⟨g, o, none⟩ = some (.slice a n cap)) : lenC w g o = n := by unfold lenC; rw [h]
theorem infN : (Try.prog.info? 76).map (fun i => (i.zero, i.size)) = some (some (.agg #[.int .i64 0, .slice none 0 0, .int .i64 0, .bool false]), 4) := by kernel_rfl
theorem infI : (Try.prog.info? 3).map (fun i => (i.zero, i.size)) = some (some (.int .i64 0), 1) := by kernel_rfl
/-- A node as one value; as a slice of one. -/
def PNd {Sl : Nat → Nat → Prop} (w0 : World) (x : Nd) : Pr Sl := soft (fun v w => ∃ a, v = .agg #[.int .i64 x.par, a, .int .i64 x.bd, .bool x.leaf] ∧ OwZ w0 w a x.tail) fun _ _ _ ⟨a, h, o⟩ k => ⟨a, h, o.keptNo k⟩
def PNs {Sl : Nat → Nat → Prop} (w0 : World) (x : Nd) : Pr Sl := soft (fun v w => ∃ a, Rd w 4 v 1 (ndC (x, a)) ∧ OwZ w0 w a x.tail) fun _ _ _ ⟨a, h, o⟩ k => ⟨a, h.keptNo k, o.keptNo k⟩
/-- The nodes with one more. -/
def PMore {Sl : Nat → Nat → Prop} (w1 w0 : World) (u : Value) (q : List (Nd × Value)) (x : Nd) : Pr Sl := soft (fun v w => ∃ a, OwNd w1 w v (q ++ [(x, a)]) ∧ ∀ k, v.ownBlock = some k → u.ownBlock = some k ∨ w0.heap.size ≤ k) fun _ _ _ ⟨a, h, o⟩ k => ⟨a, h.keptNo k, o⟩
def PCert {Sl : Nat → Nat → Prop} (w1 w0 : World) (gc : Nat) (W M : Int) (u : Value) (q : List (Nd × Value)) (x : Nd) : Pr Sl := soft (fun _ w => ∃ a v, CrtS w1 w gc W M v (q ++ [(x, a)]) ∧ ∀ k, v.ownBlock = some k → u.ownBlock = some k ∨ w0.heap.size ≤ k) fun _ _ _ ⟨a, v, h, o⟩ k => ⟨a, v, h.keptNo k, o⟩
theorem ndC_one {w0 w : World} {a : Value} {x : Nd} (h : OwZ w0 w a x.tail) : ∀ u ∈ ndC (x, a), u.oneCell' = true := fun u hu => by
  obtain ⟨aa, ca, rfl, _, _⟩ := Rd.shape2 h.rd
  simp [ndC] at hu
  rcases hu with rfl | rfl | rfl | rfl <;> rfl
theorem nd_fill {w0 w : World} {a : Value} {x : Nd} (h : OwZ w0 w a x.tail) : Instr.fill (fun i => some (i * 4, 4)) ((Array.range (1 * 4)).map ((Value.agg #[.int .i64 0, .slice none 0 0, .int .i64 0, .bool false]).cells[· % (Value.agg #[.int .i64 0, .slice none 0 0, .int .i64 0, .bool false]).cells.size]!)) [(0, .agg #[.int .i64 x.par, a, .int .i64 x.bd, .bool x.leaf])] = some (ndC (x, a)).toArray := by
  (obtain ⟨aa, ca, rfl, _, _⟩ := Rd.shape2 h.rd); (exact fill_rows 4 (by decide) _ [Value.agg #[.int .i64 x.par, .slice aa x.tail.length ca, .int .i64 x.bd, .bool x.leaf]] (fun v hv => by obtain rfl := List.mem_singleton.1 hv; rfl))
theorem newOr_or {w0 w : World} {v v' : Value} (h : NewOr w v v') (hs : w0.heap.size ≤ w.heap.size) : ∀ k, v'.ownBlock = some k → v.ownBlock = some k ∨ w0.heap.size ≤ k := fun k hk => by
  rcases h with h | ⟨j, hj, hl⟩
  · exact .inl (h ▸ hk)
  · (have : j = k := by have := hj.symm.trans hk; simpa using this); (exact .inr (by omega))
end Go.Proofs.Ytkdmlakookgolaa
