/- A certificate that is being made: its cells, its nodes. -/
import Derived.Test.YtaobaaaihgahfaaGreatSrchY
import Derived.Test.YtaobaaaihgahfaaGreatAddY
namespace Go.Proofs.YtaobaaaihgahfaaGreat
open Go.RowKit Go.Mk Go.Pil Go.Mg
theorem node_ne_cert : 98 ≠ 41 := by decide
theorem int_ne_cert : 3 ≠ 41 := by decide
def BlkN (w : World) (g : Nat) (c : Array Value) : Prop := w.heap[g]? = some (.cells c 98 (0, 0))
/-- Nodes are not touched by what turns certificates. -/
theorem OwNd.ofC {w1 w w2 : World} {v : Value} {q : List (Nd × Value)} (h : OwNd w1 w v q) (k : Kept (fun j => ∃ c fr, w.heap[j]? = some (.cells c 41 fr)) w w2) (k1 : Kept no w1 w2) : OwNd w1 w2 v q :=
  ⟨k.ownsRow h.own fun j hj ⟨_, _, hc⟩ => own_ne h.own hc node_ne_cert j hj rfl, fun x hx => k.ownsRow (h.rows x hx) fun j hj ⟨_, _, hc⟩ => own_ne (h.rows x hx) hc int_ne_cert j hj rfl, k1, h.new⟩
theorem OwNd.rdC {w1 w w2 : World} {v : Value} {q : List (Nd × Value)} (h : OwNd w1 w v q) (k : Kept (fun j => ∃ c fr, w.heap[j]? = some (.cells c 41 fr)) w w2) : RdN w2 v q :=
  ⟨fun x hx => own_RdZ (k.ownsRow (h.rows x hx) fun j hj ⟨_, _, hc⟩ => own_ne (h.rows x hx) hc int_ne_cert j hj rfl), Rd.of_own (k.ownsRow h.own fun j hj ⟨_, _, hc⟩ => own_ne h.own hc node_ne_cert j hj rfl)⟩
theorem flatN_set {q : List (Nd × Value)} {K : Nat} (hK : K < q.length) {x : Nd} {tv : Value} (hx : q[K] = (x, tv)) : (flatN q).set (K * 4 + 3) (.bool false) = flatN (q.set K (clr x, tv)) := by
  have hq : q = q.take K ++ (x, tv) :: q.drop (K + 1) := by
    rw [← hx, ← List.drop_eq_getElem_cons hK, List.take_append_drop]
  have hl : (flatN (q.take K)).length = K * 4 := by
    (have := flatLen (f := ndC) (sz := 4) (ps := q.take K) fun _ _ => rfl); (rw [List.length_take, Nat.min_eq_left (by omega)] at this); (exact this)
  rw [show q.set K (clr x, tv) = q.take K ++ (clr x, tv) :: q.drop (K + 1) from by rw [List.set_eq_take_append_cons_drop, if_pos hK]]
  conv => lhs; rw [hq]
  (unfold flatN at *); (rw [List.flatMap_append, List.flatMap_append, List.flatMap_cons, List.flatMap_cons, List.set_append_right _ _ (by omega), hl, Nat.add_sub_cancel_left])
  rfl
/-- A leaf becomes an inner node. -/
theorem OwNd.setLeaf {w1 w : World} {g n cap : Nat} {q : List (Nd × Value)} (h : OwNd w1 w (.slice (some ⟨g, 0, none⟩) n cap) q) (hn : q.length = n) {K : Nat} (hK : K < q.length) {x : Nd} {tv : Value} (hx : q[K] = (x, tv)) :
    OwNd w1 (w.setCell ⟨g, K * 4 + 3, none⟩ (.bool false)) (.slice (some ⟨g, 0, none⟩) n cap) (q.set K (clr x, tv)) := by
  have hg : w1.heap.size ≤ g := by
    rcases h.new with h | ⟨k, hk, hl⟩
    · simp [Value.ownBlock] at h
    · have : g = k := by simpa [Value.ownBlock] using hk
      omega
  refine ⟨?_, fun y hy => ?_, h.kept.setCell (.inr hg) _, h.new⟩
  · (rw [List.length_set, ← flatN_set hK hx]); (have ho := h.own); (rw [hn] at ho ⊢); (exact own_set ho _ _)
  · have hy' : w.ownsRow 0 3 1 y.2 y.1.tail.length (y.1.tail.map Z) := by
      rcases List.mem_or_eq_of_mem_set hy with hy | rfl
      · exact h.rows y hy
      · (have := h.rows (x, tv) (hx ▸ List.getElem_mem hK)); (exact this)
    (have k : Kept (fun j => j = g) w (w.setCell ⟨g, K * 4 + 3, none⟩ (.bool false)) := (Kept.refl (fun j => j = g) w).setCell (a := ⟨g, K * 4 + 3, none⟩) (.inl rfl) _); (exact k.ownsRow hy' fun j hj e => own_own hy' h.own int_ne_node j hj (by subst e; rfl))
theorem OwNd.shape {w1 w : World} {v : Value} {q : List (Nd × Value)} (h : OwNd w1 w v q) (h0 : 0 < q.length) : ∃ g cap, v = .slice (some ⟨g, 0, none⟩) q.length cap ∧ q.length ≤ cap ∧ ∃ cur : Array Value, w.heap[g]? = some (.cells cur 98 (0, 0)) := by
  obtain ⟨_, ⟨_, h1⟩ | ⟨g, cap, cur, rfl, _, hg, h2, _⟩⟩ := h.own
  · omega
  · exact ⟨g, cap, rfl, h2, cur, hg⟩
/-- The length of the slice in a cell. -/
def lenC (w : World) (g o : Nat) : Nat := match w.cell? ⟨g, o, none⟩ with | some (.slice _ n _) => n | _ => 0
theorem lenC_eq {w : World} {g o n cap : Nat} {a : Option Addr} (h : w.cell? ⟨g, o, none⟩ = some (.slice a n cap)) : lenC w g o = n := by unfold lenC; rw [h]
theorem newOr_or {w0 w : World} {v v' : Value} (h : NewOr w v v') (hs : w0.heap.size ≤ w.heap.size) : ∀ k, v'.ownBlock = some k → v.ownBlock = some k ∨ w0.heap.size ≤ k := fun k hk => by
  rcases h with h | ⟨j, hj, hl⟩
  · exact .inl (h ▸ hk)
  · (have : j = k := by have := hj.symm.trans hk; simpa using this); (exact .inr (by omega))
end Go.Proofs.YtaobaaaihgahfaaGreat

/- margin's tree in memory. -/
namespace Go.Proofs.YtaobaaaihgahfaaGreat
open Go.RowKit Go.Mk Go.Pil Go.Mg
def hz (h : List Nat) : List Int := h.map fun k : Nat => (k : Int)
theorem hz_len (h : List Nat) : (hz h).length = h.length := by simp [hz]
theorem hz_at (h : List Nat) (k : Nat) : (hz h).getD k 0 = ((h.getD k 0 : Nat) : Int) := by
  (unfold hz); (simp only [List.getD_eq_getElem?_getD, List.getElem?_map])
  cases h[k]? <;> rfl
theorem hz_snoc (h : List Nat) (x : Nat) : hz (h ++ [x]) = hz h ++ [(x : Int)] := by simp [hz]
theorem hz_set (h : List Nat) (i x : Nat) : hz (h.set i x) = (hz h).set i (x : Int) := by simp [hz, List.map_set]
def lessV (gv : Nat) : Value := .func (.func 84) #[] #[.pointer (some ⟨gv, 0, none⟩)]
theorem node_ne_tree : 98 ≠ 95 := by decide
theorem int_ne_tree : 3 ≠ 95 := by decide
theorem node_ne_ptree : 98 ≠ 88 := by decide
theorem int_ne_ptree : 3 ≠ 88 := by decide
theorem blk_ne {w : World} {g g' : Nat} {c c' : Array Value} {t t' : TypeId} {fr fr' : Nat × Nat} (h : w.heap[g]? = some (.cells c t fr)) (h' : w.heap[g']? = some (.cells c' t' fr')) (ht : t ≠ t') : g ≠ g' := fun e => by
  subst e; rw [h] at h'; cases h'; exact ht rfl
/-- The tree in block gt, whose variable lies in block gv: the nodes q, the queue h. -/
structure TreeS (w1 w : World) (gt gv : Nat) (vn : Value) (q : List (Nd × Value)) (ve : Value) (h : List Nat) : Prop where
  blk : w.heap[gt]? = some (.cells #[vn, ve, lessV gv] 95 (0, 0))
  var : w.heap[gv]? = some (.cells #[.pointer (some ⟨gt, 0, none⟩)] 88 (0, 0))
  own : OwNd w1 w vn q
  els : w.ownsRow 0 3 1 ve h.length ((hz h).map Z)
  newE : New w1 ve
  newT : w1.heap.size ≤ gt
  newV : w1.heap.size ≤ gv
  sep : ∀ x ∈ q, ∀ j, x.2.ownBlock = some j → ve.ownBlock ≠ some j
section
variable {w1 w w2 : World} {gt gv : Nat} {vn ve : Value} {q : List (Nd × Value)} {h : List Nat}
theorem TreeS.keptNo (T : TreeS w1 w gt gv vn q ve h) (k : Kept no w w2) : TreeS w1 w2 gt gv vn q ve h :=
  ⟨k.blk T.blk, k.blk T.var, T.own.keptNo k, k.ownsRow T.els fun _ _ => id, T.newE, T.newT, T.newV, T.sep⟩
theorem TreeS.rdE (T : TreeS w1 w gt gv vn q ve h) : RdZ w ve (hz h) := by
  (have := Rd.of_own T.els); (unfold RdZ); (rw [hz_len]; exact this)
/-- The queue's elements are others. -/
theorem TreeS.elems (T : TreeS w1 w gt gv vn q ve h) {v' : Value} {h' : List Nat} (ho : w2.ownsRow 0 3 1 v' h'.length ((hz h').map Z)) (k : Kept (ob ve) w w2) (hn : NewOr w ve v') : TreeS w1 (w2.setCell ⟨gt, 1, none⟩ v') gt gv vn q v' h' := by
  (have hb : w2.heap[gt]? = some (.cells #[vn, ve, lessV gv] 95 (0, 0)) := (k.block _ (lt_of_heap T.blk) fun e => own_ne T.els T.blk int_ne_tree _ e rfl).trans T.blk); (have hv : w2.heap[gv]? = some (.cells #[.pointer (some ⟨gt, 0, none⟩)] 88 (0, 0)) := (k.block _ (lt_of_heap T.var) fun e => own_ne T.els T.var int_ne_ptree _ e rfl).trans T.var); (have kg : Kept (fun j => j = gt) w2 (w2.setCell ⟨gt, 1, none⟩ v') := (Kept.refl (fun j => j = gt) w2).setCell (a := ⟨gt, 1, none⟩) (.inl rfl) v'); (have hne : gv ≠ gt := blk_ne hv hb (by decide)); (have oN : w2.ownsRow 0 98 4 vn q.length (flatN q) := k.ownsRow T.own.own fun j hj e => own_own T.els T.own.own int_ne_node j e hj); (have oR : ∀ x ∈ q, w2.ownsRow 0 3 1 x.2 x.1.tail.length (x.1.tail.map Z) := fun x hx => k.ownsRow (T.own.rows x hx) fun j hj e => T.sep x hx j hj e)
  refine ⟨by rw [setCell_row hb]; rfl, (kg.block _ (lt_of_heap hv) hne).trans hv, ⟨kg.ownsRow oN fun j hj e => own_ne oN hb node_ne_tree j hj e, fun x hx => kg.ownsRow (oR x hx) fun j hj e => own_ne (oR x hx) hb int_ne_tree j hj e, ?_, T.own.new⟩,
    kg.ownsRow ho fun j hj e => own_ne ho hb int_ne_tree j hj e, T.newE.step hn T.own.kept.size, T.newT, T.newV, fun x hx j hj hv' => ?_⟩
  · exact (T.newE.kept T.own.kept k).setCell (.inr T.newT) _
  · rcases hn with hn | ⟨i, hi, hl⟩
    · exact T.sep x hx j hj (hn ▸ hv')
    · (have : i = j := by have := hi.symm.trans hv'; simpa using this); (have := own_lt (T.own.rows x hx) j hj)
      omega
/-- One element of the queue is stored. -/
theorem TreeS.setE {g m cap : Nat} (T : TreeS w1 w gt gv vn q (.slice (some ⟨g, 0, none⟩) m cap) h) (hm : h.length = m) (i a : Nat) : TreeS w1 (w.setCell ⟨g, i, none⟩ (.int .i64 (a : Int))) gt gv vn q (.slice (some ⟨g, 0, none⟩) m cap) (h.set i a) := by
  have kg : Kept (fun j => j = g) w (w.setCell ⟨g, i, none⟩ (.int .i64 (a : Int))) := (Kept.refl (fun j => j = g) w).setCell (a := ⟨g, i, none⟩) (.inl rfl) _
  have hg : w1.heap.size ≤ g := by
    rcases T.newE with h | ⟨k, hk, hl⟩
    · simp [Value.ownBlock] at h
    · have : g = k := by simpa [Value.ownBlock] using hk
      omega
  refine ⟨(kg.block _ (lt_of_heap T.blk) fun e => own_ne T.els T.blk int_ne_tree g rfl e.symm).trans T.blk, (kg.block _ (lt_of_heap T.var) fun e => own_ne T.els T.var int_ne_ptree g rfl e.symm).trans T.var,
    ⟨kg.ownsRow T.own.own fun j hj e => own_own T.els T.own.own int_ne_node j (by subst e; rfl) hj, fun x hx => kg.ownsRow (T.own.rows x hx) fun j hj e => T.sep x hx j hj (by subst e; rfl), T.own.kept.setCell (.inr hg) _, T.own.new⟩, ?_, T.newE, T.newT, T.newV, T.sep⟩
  (have ho := T.els); (rw [List.length_set]); (rw [hm] at ho ⊢); (have := own_set ho i (.int .i64 (a : Int))); (rw [hz_set, List.map_set]); (exact this)
theorem own_take {w : World} {e : TypeId} {n cap g : Nat} {L : List Value} (h : w.ownsRow 0 e 1 (.slice (some ⟨g, 0, none⟩) n cap) n L) {k : Nat} (hk : k ≤ n) : w.ownsRow 0 e 1 (.slice (some ⟨g, 0, none⟩) k cap) k (L.take k) := by
  obtain ⟨h1, ⟨h, _⟩ | ⟨g', c, cur, e', _, hg, hn, hcm, hcs, ht⟩⟩ := h
  · cases h
  · cases e'
    (refine ⟨by rw [List.length_take]; omega, .inr ⟨g, cap, cur, rfl, Nat.zero_le _, hg, by omega, hcm, hcs, ?_⟩⟩); (rw [← ht, List.take_take, Nat.mul_one, Nat.mul_one, Nat.min_eq_left hk])
/-- The nodes have one more. -/
theorem TreeS.node (T : TreeS w1 w gt gv vn q ve h) {w3 : World} {v' : Value} (x : Nd × Value) (k1 : Kept no w w2) (hu : w2.ownsRow 0 3 1 x.2 x.1.tail.length (x.1.tail.map Z)) (hx : ∀ j, x.2.ownBlock = some j → w.heap.size ≤ j)
    (ho : w3.ownsRow 0 98 4 v' (q.length + 1) (flatN q ++ ndC x)) (hk : Kept (ob vn) w2 w3) (hv : NewOr w2 vn v') : TreeS w1 (w3.setCell ⟨gt, 0, none⟩ v') gt gv v' (q ++ [x]) ve h := by
  (have T2 := T.keptNo k1); (have hO := T.own.add x k1 hu ho hk hv); (have hb : w3.heap[gt]? = some (.cells #[vn, ve, lessV gv] 95 (0, 0)) := (hk.block _ (lt_of_heap T2.blk) fun e => own_ne T2.own.own T2.blk node_ne_tree _ e rfl).trans T2.blk); (have hvv : w3.heap[gv]? = some (.cells #[.pointer (some ⟨gt, 0, none⟩)] 88 (0, 0)) := (hk.block _ (lt_of_heap T2.var) fun e => own_ne T2.own.own T2.var node_ne_ptree _ e rfl).trans T2.var); (have kg : Kept (fun j => j = gt) w3 (w3.setCell ⟨gt, 0, none⟩ v') := (Kept.refl (fun j => j = gt) w3).setCell (a := ⟨gt, 0, none⟩) (.inl rfl) v'); (have hne : gv ≠ gt := blk_ne hvv hb (by decide)); (have oE : w3.ownsRow 0 3 1 ve h.length ((hz h).map Z) := hk.ownsRow T2.els fun j hj e => own_own T2.els T2.own.own int_ne_node j hj e)
  refine ⟨by rw [setCell_row hb]; rfl, (kg.block _ (lt_of_heap hvv) hne).trans hvv, ⟨kg.ownsRow hO.own fun j hj e => own_ne hO.own hb node_ne_tree j hj e, fun y hy => kg.ownsRow (hO.rows y hy) fun j hj e => own_ne (hO.rows y hy) hb int_ne_tree j hj e, hO.kept.setCell (.inr T.newT) _, hO.new⟩,
    kg.ownsRow oE fun j hj e => own_ne oE hb int_ne_tree j hj e, T.newE, T.newT, T.newV, fun y hy j hj hv' => ?_⟩
  rcases List.mem_append.1 hy with hy | hy
  · exact T.sep y hy j hj hv'
  · (obtain rfl := List.mem_singleton.1 hy); (have := hx j hj); (have := own_lt T.els j hv')
    omega
/-- A leaf becomes an inner node. -/
theorem TreeS.leaf {g n cap : Nat} (T : TreeS w1 w gt gv (.slice (some ⟨g, 0, none⟩) n cap) q ve h) (hn : q.length = n) {K : Nat} (hK : K < q.length) {x : Nd} {tv : Value} (hx : q[K] = (x, tv)) : TreeS w1 (w.setCell ⟨g, K * 4 + 3, none⟩ (.bool false)) gt gv (.slice (some ⟨g, 0, none⟩) n cap) (q.set K (clr x, tv)) ve h := by
  (have hO := T.own.setLeaf hn hK hx); (have kg : Kept (fun j => j = g) w (w.setCell ⟨g, K * 4 + 3, none⟩ (.bool false)) := (Kept.refl (fun j => j = g) w).setCell (a := ⟨g, K * 4 + 3, none⟩) (.inl rfl) _)
  refine ⟨(kg.block _ (lt_of_heap T.blk) fun e => own_ne T.own.own T.blk node_ne_tree g rfl e.symm).trans T.blk, (kg.block _ (lt_of_heap T.var) fun e => own_ne T.own.own T.var node_ne_ptree g rfl e.symm).trans T.var, hO,
    kg.ownsRow T.els fun j hj e => own_own T.els T.own.own int_ne_node j hj (by subst e; rfl), T.newE, T.newT, T.newV, fun y hy => ?_⟩
  rcases List.mem_or_eq_of_mem_set hy with hy | rfl
  · exact T.sep y hy
  · (have := T.sep (x, tv) (hx ▸ List.getElem_mem hK)); (exact this)
/-- What the queue's calls may turn. -/
def SQ (gt : Nat) (ve : Value) : Nat → Prop := fun k => k = gt ∨ ve.ownBlock = some k
end
end Go.Proofs.YtaobaaaihgahfaaGreat
