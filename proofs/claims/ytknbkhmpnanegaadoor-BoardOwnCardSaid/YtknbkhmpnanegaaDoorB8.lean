/- board.New, copied, Post (printed by gen_b8.py). -/
import Derived.Test.YtknbkhmpnanegaaDoorB4
namespace Go.Mk
open Go.RowKit
section
variable {P : Program}
theorem OpY.skip {o : Oper} {a : Act} {w w' : World} {R : Value → World → Prop} (h : (execOp a.eval o).run P w = .ok .skip w') (hr : R undef w') : OpY P o a w R := by
  unfold OpY; rw [h]; exact hr
theorem setCell_row {w : World} {g : Nat} {c : Array Value} {e : TypeId} {fr : Nat × Nat} (h : w.heap[g]? = some (.cells c e fr)) (j : Nat) (v : Value) : (w.setCell ⟨g, j, none⟩ v).heap[g]? = some (.cells (c.setIfInBounds j v) e fr) := by
  unfold World.setCell; simp only [Array.getElem?_modify, if_pos, h]; rfl
theorem setCells_row {g : Nat} {e : TypeId} {fr : Nat × Nat} : ∀ (vs : List Value) (j : Nat) (w : World) (c : List Value), w.heap[g]? = some (.cells c.toArray e fr) → (w.setCells g j vs).heap[g]? = some (.cells (List.foldl (fun (l : List Value) (p : Nat × Value) => l.set p.1 p.2) c (vs.zipIdx j |>.map fun p => (p.2, p.1))).toArray e fr)
  | [], _, _, _, h => h
  | v :: vs, j, w, c, h => by
    have h1 : (w.setCell ⟨g, j, none⟩ v).heap[g]? = some (.cells (c.set j v).toArray e fr) := by rw [setCell_row h]; simp
    have := setCells_row vs (j + 1) _ _ h1
    simpa [World.setCells] using this
theorem fold_set (pre mid : List Value) : ∀ (vs : List Value) (done : List Value), mid.length = vs.length →
    List.foldl (fun (l : List Value) (p : Nat × Value) => l.set p.1 p.2) (pre ++ done ++ mid) (vs.zipIdx (pre.length + done.length) |>.map fun p => (p.2, p.1)) = pre ++ done ++ vs := by
  intro vs
  induction vs generalizing mid with
  | nil => intro done h; have : mid = [] := List.eq_nil_of_length_eq_zero (by simpa using h); subst this; simp
  | cons v vs ih =>
    intro done h
    cases mid with
    | nil => simp at h
    | cons m mid =>
      have e : (pre ++ done ++ m :: mid).set (pre.length + done.length) v = pre ++ (done ++ [v]) ++ mid := by
        rw [← List.length_append, List.set_append_right _ _ (Nat.le_refl _)]
        simp
      simp only [List.zipIdx_cons, List.map_cons, List.foldl_cons, e]
      have := ih mid (done ++ [v]) (by simpa using h)
      rw [List.length_append, List.length_singleton, ← Nat.add_assoc] at this
      rw [this]; simp
theorem setCells_tail {w : World} {g : Nat} {e : TypeId} {fr : Nat × Nat} {pre mid vs : List Value} (h : w.heap[g]? = some (.cells (pre ++ mid).toArray e fr)) (hl : mid.length = vs.length) : (w.setCells g pre.length vs).heap[g]? = some (.cells (pre ++ vs).toArray e fr) := by
  have h1 := setCells_row vs pre.length w (pre ++ mid) h
  have h2 := fold_set pre mid vs [] hl
  simp only [List.append_nil, List.length_nil, Nat.add_zero] at h2
  rw [h2] at h1; exact h1
theorem setCells_other (g k : Nat) (hk : k ≠ g) : ∀ (vs : List Value) (j : Nat) (w : World), (w.setCells g j vs).heap[k]? = w.heap[k]?
  | [], _, _ => rfl
  | v :: vs, j, w => by rw [World.setCells, setCells_other g k hk vs (j + 1)]; exact Below.heap_setCell w ⟨g, j, none⟩ v k hk
theorem setCells_size (g : Nat) : ∀ (vs : List Value) (j : Nat) (w : World), (w.setCells g j vs).heap.size = w.heap.size
  | [], _, _ => rfl
  | v :: vs, j, w => by rw [World.setCells, setCells_size g vs (j + 1)]; simp [World.setCell]
theorem setCells_rest (g : Nat) : ∀ (vs : List Value) (j : Nat) (w : World), (w.setCells g j vs).os = w.os ∧ (w.setCells g j vs).tape = w.tape ∧ (w.setCells g j vs).output = w.output
  | [], _, _ => ⟨rfl, rfl, rfl⟩
  | v :: vs, j, w => setCells_rest g vs (j + 1) (w.setCell ⟨g, j, none⟩ v)
theorem Kept.setCells {S : Nat → Prop} {w w1 : World} (h : Kept S w w1) {g : Nat} (hg : S g ∨ w.heap.size ≤ g) (j : Nat) (vs : List Value) : Kept S w (w1.setCells g j vs) :=
  h.trans (S' := fun k => k = g) ⟨(setCells_rest g vs j w1).1, (setCells_rest g vs j w1).2.1, (setCells_rest g vs j w1).2.2, by rw [setCells_size]; exact Nat.le_refl _, fun k _ hk => setCells_other g k hk vs j w1⟩ fun k hk e => by
    subst e; rcases hg with h | h
    · exact h
    · omega
theorem OpY.storeMid {o : Oper} {a : Act} {w : World} {R : Value → World → Prop} (ty : TypeId) (x y : Operand) (ho : o.op = .store ty x y)
    (b of : Nat) (cells : Array Value) (hx : a.eval x = .pointer (some ⟨b, of, none⟩)) (hy : a.eval y = .agg cells)
    (ht : w.there b of cells.size) (hi : (P.info? ty).map (·.size) = some cells.size) (h1 : cells.all (·.oneCell') = true)
    (h : R undef (w.setCells b of cells.toList)) : OpY P o a w R := by
  refine OpY.skip ?_ h
  unfold execOp
  simp only [ho, hx, hy, Instr.storeAt, Instr.sureAddr, Sem.run_bind, Sem.run_pure, Result.andThen_ok, run_storeVar_mid w b of ty cells ht hi h1]
theorem there_of {w : World} {g : Nat} {cs : List Value} {e : TypeId} (h : w.heap[g]? = some (.cells cs.toArray e (0, 0))) (o n : Nat) (hn : o + n ≤ cs.length) : w.there g o n := fun j hj => by
  refine ⟨?_, row_free h (o + j)⟩
  rw [cell_of_row w g (o + j) _ e (0, 0) h]
  simp [show o + j < cs.length by omega]
end
end Go.Mk
namespace Go.Proofs.YtknbkhmpnanegaaDoor
open Go.RowKit Go.Mk Go.Sha Go.Brd
def ZE : Array Value := (entC ⟨0, 0, [], Z32l⟩ (.slice none 0 0)).toArray
theorem ZE_eq : (#[.int .i64 0, .int .i64 0, .slice none 0 0, .int .u8 0, .int .u8 0, .int .u8 0, .int .u8 0, .int .u8 0, .int .u8 0, .int .u8 0, .int .u8 0, .int .u8 0, .int .u8 0, .int .u8 0, .int .u8 0, .int .u8 0, .int .u8 0, .int .u8 0, .int .u8 0, .int .u8 0, .int .u8 0, .int .u8 0, .int .u8 0, .int .u8 0, .int .u8 0, .int .u8 0, .int .u8 0, .int .u8 0, .int .u8 0, .int .u8 0, .int .u8 0, .int .u8 0, .int .u8 0, .int .u8 0, .int .u8 0] : Array Value) = ZE := by kernel_rfl
/-- An entry whose body lies in memory of its own. -/
def OwE (w : World) (e : Ent) (vb : Value) : Prop := e.prev.length = 32 ∧ e.body.length ≤ 1000 ∧ w.ownsRow 0 5 1 vb e.body.length (e.body.map B)
theorem OwE.ok {w : World} {e : Ent} {vb : Value} (h : OwE w e vb) : OkE w e vb := ⟨h.1, h.2.1, Rd.of_own h.2.2⟩
theorem OwE.kept {S : Nat → Prop} {w w' : World} {e : Ent} {vb : Value} (h : OwE w e vb) (k : Kept S w w') (hn : ∀ j, vb.ownBlock = some j → ¬ S j) : OwE w' e vb := ⟨h.1, h.2.1, k.ownsRow h.2.2 hn⟩
theorem OwE.keptNo {w w' : World} {e : Ent} {vb : Value} (h : OwE w e vb) (k : Kept no w w') : OwE w' e vb := h.kept k fun _ _ => id
/-- A block of another type is not the body's. -/
theorem OwE.ne {w : World} {e : Ent} {vb : Value} (h : OwE w e vb) {g : Nat} {c : Array Value} {t : TypeId} {fr : Nat × Nat} (hg : w.heap[g]? = some (.cells c t fr)) (ht : t ≠ 5) : ∀ j, vb.ownBlock = some j → j ≠ g := fun j hj e => by
  obtain ⟨_, _, _, ⟨rfl, _⟩ | ⟨k, _, _, rfl, _, hk, _⟩⟩ := h
  · cases hj
  · have : k = j := by simpa [Value.ownBlock] using hj
    subst this e
    rw [hk] at hg
    simp only [Option.some.injEq, Obj.cells.injEq] at hg
    exact ht hg.2.1.symm
theorem OwE.lt {w : World} {e : Ent} {vb : Value} (h : OwE w e vb) : ∀ j, vb.ownBlock = some j → j < w.heap.size := fun j hj => by
  obtain ⟨_, _, _, ⟨rfl, _⟩ | ⟨k, _, _, rfl, _, hk, _⟩⟩ := h
  · cases hj
  · have : k = j := by simpa [Value.ownBlock] using hj
    subst this
    exact (Array.getElem?_eq_some_iff.1 hk).1
def flatE (ps : List (Ent × Value)) : List Value := ps.flatMap fun p => entC p.1 p.2
/-- The board at g: its entries lie in v. -/
structure Bd (w : World) (g : Nat) (v : Value) (ps : List (Ent × Value)) : Prop where
  at_ : w.heap[g]? = some (.cells #[v] 81 (0, 0))
  own : w.ownsRow 0 47 35 v ps.length (flatE ps)
  all : ∀ p ∈ ps, OwE w p.1 p.2
theorem Bd.kept {w w' : World} {g : Nat} {v : Value} {ps : List (Ent × Value)} (h : Bd w g v ps) (k : Kept no w w') : Bd w' g v ps := ⟨k.blk h.at_, k.ownsRow h.own fun _ _ => id, fun p hp => (h.all p hp).keptNo k⟩
theorem Bd.rd {w : World} {g : Nat} {v : Value} {ps : List (Ent × Value)} (h : Bd w g v ps) : RdE w v ps := ⟨fun p hp => (h.all p hp).ok, Rd.of_own h.own⟩
theorem TEnts : ElemT Tryd.prog 42 47 35 72 := .mk' (z := .agg ZE) (by kernel_rfl) (by kernel_rfl) (by kernel_rfl) (by decide)
theorem infEz : (Tryd.prog.info? 47).map (fun i => (i.zero, i.size)) = some (some (.agg ZE), 35) := by kernel_rfl
set_option maxRecDepth 100000 in
set_option maxHeartbeats 1000000 in
theorem new_any (w : World) : Calls Tryd.prog 26 #[] w fun ed w' => ed = .returned (.pointer (some ⟨w.heap.size, 0, none⟩)) ∧ Bd w' w.heap.size (.slice none 0 0) [] ∧ Kept no w w' := by
  have h1 : Hd (Bd (w.alloc (.cells #[.slice none 0 0] 81)) w.heap.size (.slice none 0 0) []) := ⟨⟨heap_alloc_new _ _, World.ownsRow_nil _ _ _ _, fun p hp => by cases hp⟩⟩
  have h2 := hid ((Kept.refl no w).alloc (.cells #[.slice none 0 0] 81))
  go_enter Tryd.func26, Tryd.ntmps26
  go_wp2
  go_ret
  exact ⟨rfl, h1.out, h2.out⟩
theorem cp_blocks (w : World) (L : List Value) : ∃ w1, w1 = (w.alloc (.cells L.toArray 47)).alloc (.cells ZE 47) ∧ w1.heap[w.heap.size]? = some (.cells L.toArray 47 (0, 0)) ∧ w1.heap[w.heap.size + 1]? = some (.cells ZE 47 (0, 0)) ∧ Kept no w w1 := by
  have e1 := World.size_alloc (w := w) (o := .cells L.toArray 47)
  refine ⟨_, rfl, ?_, ?_, ((Kept.refl no w).alloc _).alloc _⟩
  · rw [heap_alloc_old _ _ (by omega), heap_alloc_new]
  · rw [← e1, heap_alloc_new]
theorem ZE_size : ZE.size = 35 := rfl
theorem se {ops : Array Oper} {rest : List Oper} {o : Oper} {a : Act} {w : World} {Q : Exit → Act → World → Prop} (hgd : o.guard = none) (x y : Operand) (ho : o.op = .store 47 x y) (g : Nat) (hx : a.eval x = .pointer (some ⟨g, 0, none⟩)) (e : Ent) (vb : Value) (hy : a.eval y = Ev e vb) (old : Array Value) (hb : w.heap[g]? = some (.cells old 47 (0, 0))) (hs : old.size = 35) {w0 : World} (hE : OkE w0 e vb)
    (h : wpList Tryd.prog ops Q rest (a.put o.dst undef) (w.setRow g (entC e vb).toArray)) : wpList Tryd.prog ops Q (o :: rest) a w :=
  wpList_store_row hgd 47 x y ho g (entC e vb).toArray hx hy 47 old hb (infE hE) (by rw [hs, List.size_toArray, entC_length hE.1]) (all_oneCell_toArray hE.one) h
theorem ret_ev {fn : Func} {tmps : Array Value} {w : World} {p : Tmp} (hres : fn.results = #[.cell p 47]) (g : Nat) (hp : tmps.getD p undef = .pointer (some ⟨g, 0, none⟩)) (e : Ent) (vb : Value) (hb : w.heap[g]? = some (.cells (entC e vb).toArray 47 (0, 0))) {w0 : World} (hE : OkE w0 e vb) :
    (results fn tmps).run Tryd.prog w = .ok (Ev e vb) w :=
  results_cell_row hres tmps w g 47 (entC e vb).toArray (0, 0) _ hp hb Tryd.underlying47 rfl (infE hE)
set_option maxRecDepth 100000 in
set_option maxHeartbeats 2000000 in
theorem copied_any (e : Ent) (vb : Value) (w : World) (h : OkE w e vb) : Calls Tryd.prog 57 #[Ev e vb] w fun ed w' => ∃ v', ed = .returned (Ev e v') ∧ OwE w' e v' ∧ Kept no w w' ∧ New w v' := by
  have HC := hid (fun W (k : Kept no w W) => clone_any vb e.body W (by have := h.2.1; omega) (h.2.2.keptNo k))
  obtain ⟨L, hL⟩ : ∃ L, entC e vb = L := ⟨_, rfl⟩
  have hDg : Ev e vb = .agg L.toArray := by rw [← hL]; rfl
  rw [hDg]
  clear hDg
  replace hL := hid hL
  replace h := hid h
  go_enter Tryd.func57, Tryd.ntmps57
  go_upto_region 1 with fail
  obtain ⟨w1, hw1, g0, g1, k1⟩ := cp_blocks w L
  unfold ZE at hw1
  rw [show (entC ⟨0, 0, [], Z32l⟩ (.slice none 0 0)).toArray = _ from ZE_eq.symm] at hw1
  rw [← hw1]
  clear hw1
  rw [← hL.out] at g0
  have c2 : w1.cell? ⟨w.heap.size, 2, none⟩ = some vb := by rw [cell_of_row w1 _ 2 _ _ _ g0]; rfl
  replace g0 := hid g0
  replace g1 := hid g1
  replace k1 := hid k1
  go_wp2_with fail
  refine (HC.out w1 k1.out).mono ?_
  rintro ed w2 ⟨v2, rfl, o2, k2, n2⟩
  have g02 := hid (k2.blk g0.out)
  have g12 := hid (k2.blk g1.out)
  have hs : Hd (w.heap.size < w2.heap.size) := ⟨lt_of_heap g02.out⟩
  have c2' : w2.cell? ⟨w.heap.size, 2, none⟩ = some vb := k2.cell c2 id
  have f2 : w2.frozen? ⟨w.heap.size, 2, none⟩ = false := row_free g02.out 2
  have K2 := hid ((k1.out.trans' k2).setCell (a := ⟨w.heap.size, 2, none⟩) (.inr (Nat.le_refl _)) v2)
  have g03 : Hd ((w2.setCell ⟨w.heap.size, 2, none⟩ v2).heap[w.heap.size]? = some (.cells (entC e v2).toArray 47 (0, 0))) := ⟨by rw [setCell_row g02.out]; rfl⟩
  have g13 : Hd ((w2.setCell ⟨w.heap.size, 2, none⟩ v2).heap[w.heap.size + 1]? = some (.cells ZE 47 (0, 0))) := ⟨by rw [Below.heap_setCell _ _ _ _ (by show w.heap.size + 1 ≠ w.heap.size; omega)]; exact g12.out⟩
  have hn2 : Hd (∀ j, v2.ownBlock = some j → w1.heap.size ≤ j) := ⟨n2.fr (Nat.le_refl _)⟩
  have hlt1 : Hd (w.heap.size + 1 < w1.heap.size) := ⟨lt_of_heap g1.out⟩
  have O2 : Hd (OwE (w2.setCell ⟨w.heap.size, 2, none⟩ v2) e v2) := ⟨OwE.kept ⟨h.out.1, h.out.2.1, o2⟩ ((Kept.refl (fun k => k = w.heap.size) w2).setCell (a := ⟨w.heap.size, 2, none⟩) (.inl rfl) v2) fun j hj e => by have := hn2.out j hj; have := hlt1.out; omega⟩
  have hsl : ∃ a n c, v2 = .slice a n c := by obtain ⟨_, a, c, e, _⟩ := Rd.of_own o2; exact ⟨a, _, c, e⟩
  obtain ⟨a2, n2', c2x, rfl⟩ := hsl
  have N2 : Hd (New w (.slice a2 n2' c2x)) := ⟨frNew fun k hk => by have := hn2.out k hk; have := hlt1.out; omega⟩
  clear k1 k2 g0 g1 g02 g12 c2 o2 n2
  go_upto_region 2 with fail
  generalize w2.setCell ⟨w.heap.size, 2, none⟩ (.slice a2 n2' c2x) = w3 at K2 g03 g13 O2 ⊢
  clear c2' f2
  have hZs := hid ZE_size
  have g6 := hid (setRow_heap w3 (w.heap.size + 1) _ (entC e (.slice a2 n2' c2x)).toArray _ _ g13.out)
  have K6 := hid (K2.out.setRow (g := w.heap.size + 1) (.inr (Nat.le_succ _)) (entC e (.slice a2 n2' c2x)).toArray)
  have O6 : Hd (OwE (w3.setRow (w.heap.size + 1) (entC e (.slice a2 n2' c2x)).toArray) e (.slice a2 n2' c2x)) := ⟨O2.out.kept ((Kept.refl (fun k => k = w.heap.size + 1) w3).setRow (.inl rfl) _) fun j hj e => by have := hn2.out j hj; have := hlt1.out; omega⟩
  have hok := hid O2.out.ok
  go_wp2_with (first | (with_reducible refine le rfl _ rfl w.heap.size rfl e (.slice a2 n2' c2x) g03.out hok.out ?_) | (with_reducible refine se rfl _ _ rfl (w.heap.size + 1) rfl e (.slice a2 n2' c2x) rfl _ g13.out hZs.out hok.out ?_))
  refine bodyPost_ret (v := Ev e (.slice a2 n2' c2x)) ?_ rfl ?_
  · exact ret_ev rfl (w.heap.size + 1) rfl e (.slice a2 n2' c2x) g6.out hok.out
  · exact ⟨_, rfl, O6.out, K6.out, N2.out⟩

theorem results_ev_tmp {fn : Func} {p q : Tmp} (h : fn.results = #[.cell p 47, .tmp q]) (tmps : Array Value) (w : World) (g : Nat) (e : Ent) (vb : Value) (v : Value)
    (hp : tmps.getD p undef = .pointer (some ⟨g, 0, none⟩)) (hq : tmps.getD q undef = v) (hg : w.heap[g]? = some (.cells (entC e vb).toArray 47 (0, 0))) {w0 : World} (hE : OkE w0 e vb) :
    (results fn tmps).run Tryd.prog w = .ok (.tuple #[Ev e vb, v]) w := by
  have hp' : tmps[p]?.getD undef = .pointer (some ⟨g, 0, none⟩) := by simpa using hp
  have hq' : tmps[q]?.getD undef = v := by simpa using hq
  have hl := run_loadVar_row w g 47 47 (entC e vb).toArray (0, 0) _ hg Tryd.underlying47 rfl (infE hE)
  simp only [results, h, List.mapM_toArray, List.mapM_cons, List.mapM_nil]
  simp [hp', hq', asAddr, hl, Ev]
section
variable {Sl : Nat → Nat → Prop}
def POwn (xs : List UInt8) (B0 : Nat) : Pr Sl := soft (fun v w => w.ownsRow 0 5 1 v xs.length (xs.map B) ∧ ∀ j, v.ownBlock = some j → B0 ≤ j) (fun _ _ _ h k => ⟨k.ownsRow h.1 fun _ _ => id, h.2⟩)
def PEv (d : Nat) (e : Ent) (B0 : Nat) : Pr Sl := rel d (fun u v w => v = Ev e u ∧ w.ownsRow 0 5 1 u e.body.length (e.body.map B) ∧ ∀ j, u.ownBlock = some j → B0 ≤ j) (fun _ _ _ _ h k => ⟨h.1, k.ownsRow h.2.1 fun _ _ => id, h.2.2⟩)
def PAl (B0 : Nat) : Pr Sl := soft (fun v w => ∃ g8, v = .pointer (some ⟨g8, 0, none⟩) ∧ B0 ≤ g8 ∧ w.heap[g8]? = some (.cells ZE 47 (0, 0))) (fun _ _ _ ⟨g8, h1, h2, h3⟩ k => ⟨g8, h1, h2, k.blk h3⟩)
def PSx (d : Nat) (e : Ent) (B0 : Nat) : Pr Sl := rel d (fun a _ w => ∃ g8 u, a = .pointer (some ⟨g8, 0, none⟩) ∧ B0 ≤ g8 ∧ w.heap[g8]? = some (.cells (entC e u).toArray 47 (0, 0)) ∧ w.ownsRow 0 5 1 u e.body.length (e.body.map B) ∧ ∀ j, u.ownBlock = some j → B0 ≤ j) (fun _ _ _ _ ⟨g8, u, h1, h2, h3, h4, h5⟩ k => ⟨g8, u, h1, h2, k.blk h3, k.ownsRow h4 fun _ _ => id, h5⟩)
def PAp (w3 : World) (V0 : Value) (n : Nat) (L : List Value) : Pr Sl := soft (fun v w => w.ownsRow 0 47 35 v n L ∧ NewOr w3 V0 v) (fun _ _ _ h k => ⟨k.ownsRow h.1 fun _ _ => id, h.2⟩)
def PSt (d g : Nat) (w3 : World) (V0 : Value) (n : Nat) (L : List Value) : Pr Sl := rel d (fun v _ w => w.heap[g]? = some (.cells #[v] 81 (0, 0)) ∧ w.ownsRow 0 47 35 v n L ∧ NewOr w3 V0 v) (fun _ _ _ _ h k => ⟨k.blk h.1, k.ownsRow h.2.1 fun _ _ => id, h.2.2⟩)
end
set_option maxRecDepth 100000 in
theorem bz {ops : Array Oper} {rest : List Oper} {o : Oper} {a : Act} {w : World} {Q : Exit → Act → World → Prop} (hgd : o.guard = none) (ho : o.op = .build 47 #[])
    (h : wpList Tryd.prog ops Q rest (a.put o.dst (Ev ⟨0, 0, [], Z32l⟩ (.slice none 0 0))) w) : wpList Tryd.prog ops Q (o :: rest) a w := by
  have e : (Tryd.prog.built 47 []).getD #[] = ZE := by kernel_rfl
  refine wpList_build hgd 47 #[] ho (by kernel_rfl) ?_
  simp only [List.map_toArray, List.map_nil, e]
  exact h
def prevOf (ps : List (Ent × Value)) : List UInt8 := match ps.getLast? with | none => Z32l | some p => hashE p.1
theorem prevOf_length (ps : List (Ent × Value)) : (prevOf ps).length = 32 := by
  unfold prevOf; split
  · rfl
  · exact hashE_length _
/-- The entry that Post appends. -/
def nxt (ps : List (Ent × Value)) (k : Int) (xs : List UInt8) : Ent := ⟨(ps.length : Int), k, xs, prevOf ps⟩
theorem ze_block (w : World) : ∃ w1, w1 = w.alloc (.cells ZE 47) ∧ w1.heap[w.heap.size]? = some (.cells ZE 47 (0, 0)) ∧ Kept no w w1 := ⟨_, rfl, heap_alloc_new _ _, (Kept.refl no w).alloc _⟩
def EZ : Ent := ⟨0, 0, [], Z32l⟩
theorem EZ_ok (w : World) : OkE w EZ (.slice none 0 0) := ⟨rfl, by decide, nil_rd w 1⟩
theorem fillE {w : World} {e : Ent} {vb : Value} (h : OkE w e vb) : Instr.fill (fun i => some (i * 35, 35)) ((Array.range (1 * 35)).map ((Value.agg ZE).cells[· % (Value.agg ZE).cells.size]!)) [(0, Ev e vb)] = some (entC e vb).toArray := by
  have := fill_rows 35 (by decide) (.agg ZE) [Ev e vb] (fun v hv => by (obtain rfl : v = Ev e vb := (by simpa using hv)); show (entC e vb).length = 35; exact entC_length h.1)
  simpa [Value.cells, Ev] using this

set_option maxRecDepth 100000 in
set_option maxHeartbeats 2000000 in
theorem post_no (g : Nat) (k : Int) (vb : Value) (w : World) (hp : poss k = false) :
    Calls Tryd.prog 27 #[.pointer (some ⟨g, 0, none⟩), .int .i64 k, vb] w fun ed w' => ed = .returned (.tuple #[Ev EZ (.slice none 0 0), .int .i64 5]) ∧ Kept no w w' := by
  have HP := hid (fun W => possible_any k W)
  rw [hp] at HP
  clear hp
  have hok := hid (EZ_ok w)
  have hzs := hid ZE_size
  have hbuild : Hd (Ev EZ (.slice none 0 0) = .agg ZE) := ⟨rfl⟩
  go_enter Tryd.func27, Tryd.ntmps27
  go_upto_region 1 with fail
  obtain ⟨w1, hw1, g6, k1⟩ := ze_block w
  unfold ZE at hw1
  rw [show (entC ⟨0, 0, [], Z32l⟩ (.slice none 0 0)).toArray = _ from ZE_eq.symm] at hw1
  rw [← hw1]
  clear hw1
  replace g6 := hid g6
  replace k1 := hid k1
  have g7 := hid (setRow_heap w1 w.heap.size _ (entC EZ (.slice none 0 0)).toArray _ _ g6.out)
  have K7 := hid (k1.out.setRow (g := w.heap.size) (.inr (Nat.le_refl _)) (entC EZ (.slice none 0 0)).toArray)
  go_upto_region 4 with (refine (HP.out _).mono ?_; rintro ed w' ⟨rfl, rfl⟩)
  go_wp2_with (first | (refine bz rfl rfl ?_) | (with_reducible refine se rfl _ _ rfl w.heap.size rfl EZ (.slice none 0 0) rfl _ g6.out hzs.out hok.out ?_))
  refine bodyPost_ret (v := .tuple #[Ev EZ (.slice none 0 0), .int .i64 5]) ?_ rfl ?_
  · exact results_ev_tmp rfl _ _ w.heap.size EZ (.slice none 0 0) _ rfl rfl g7.out hok.out
  · exact ⟨rfl, K7.out⟩
theorem Kept.mono9 {w w1 : World} {g8 : Nat} (h : Kept (fun j => j = g8) w w1) (hl : w.heap.size ≤ g8) : Kept no w w1 := h.mono fun j hj e => by have e : j = g8 := e; omega
set_option maxRecDepth 100000 in
set_option maxHeartbeats 4000000 in
theorem post_first (g : Nat) (v : Value) (ps : List (Ent × Value)) (k : Int) (vb : Value) (xs : List UInt8) (w : World) (hb : Bd w g v ps) (hp : poss k = true) (hn : ps.length ≤ 100) (h0 : ps.length = 0) (hxl : xs.length ≤ 1000) (hr : Rd w 1 vb xs.length (xs.map B)) (hT : Tab w) :
    Calls Tryd.prog 27 #[.pointer (some ⟨g, 0, none⟩), .int .i64 k, vb] w fun ed w' => ∃ v' vc vr, ed = .returned (.tuple #[Ev (nxt ps k xs) vr, .int .i64 0]) ∧ Bd w' g v' (ps ++ [(nxt ps k xs, vc)]) ∧ OwE w' (nxt ps k xs) vr ∧ Kept (fun j => j = g ∨ v.ownBlock = some j) w w' ∧ NewOr w v v' ∧ New w vr ∧ (∀ j, vr.ownBlock = some j → vc.ownBlock = some j → False) ∧ (∀ j, vc.ownBlock = some j → w.heap.size ≤ j) := by
  have HP := hid (fun W => possible_any k W)
  rw [hp] at HP
  clear hp
  have hgw : Hd (g < w.heap.size) := ⟨lt_of_heap hb.at_⟩
  have hn100 := hid hn
  replace hxl := hid hxl
  replace hr := hid hr
  replace hT := hid hT
  obtain ⟨ao, cap, rfl, hcap⟩ := hb.rd.shape
  rw [h0] at hb hn ⊢
  have hent : Hd (nxt ps k xs = ⟨0, k, xs, Z32l⟩) := ⟨by
    obtain rfl : ps = [] := List.eq_nil_of_length_eq_zero h0
    rfl⟩
  replace hn := hid h0
  replace hb := hid hb
  clear h0
  go_enter Tryd.func27, Tryd.ntmps27
  go_upto_region 1 with fail
  obtain ⟨w1, hw1, g6, k1⟩ := ze_block w
  unfold ZE at hw1
  rw [show (entC ⟨0, 0, [], Z32l⟩ (.slice none 0 0)).toArray = _ from ZE_eq.symm] at hw1
  rw [← hw1]
  clear hw1
  replace g6 := hid g6
  replace k1 := hid k1
  have c0 : w1.cell? ⟨g, 0, none⟩ = some (.slice ao 0 cap) := by rw [cell_of_row w1 _ 0 _ _ _ ((hb.out.kept k1.out).at_)]; rfl
  go_upto_region 7 with (refine (HP.out _).mono ?_; rintro ed w' ⟨rfl, rfl⟩)
  clear c0
  refine region_flow (S := (fun j => w1.heap.size ≤ j)) (Sl := (fun _ => (fun j => w1.heap.size ≤ j))) [Is (.pointer (some ⟨g, 0, none⟩)), Is (.pointer (some ⟨g, 0, none⟩)), Is (.pointer (some ⟨g, 0, none⟩)), Is (.slice ao 0 cap), Is (.int .i64 0), Is (.int .i64 k), Is (vb), POwn xs w1.heap.size, PEv 7 (⟨0, k, xs, Z32l⟩ : Ent) w1.heap.size, PAl w1.heap.size, PSx 9 (⟨0, k, xs, Z32l⟩ : Ent) w1.heap.size] [10] (fun _ _ h => h) _ (by kernel_rfl) (by kernel_rfl) (by kernel_rfl) (by kernel_rfl) (fun x => by simp only [puts, Act.put, List.map_cons, List.map_nil, Nat.zero_add, Nat.reduceAdd, List.setIfInBounds_toArray, List.set_cons_zero, List.set_cons_succ]; exact rfl) ?_ ?_
  · skip
    refine Steps.cons (fun x wf Kk hq hdep hold => ?_) ?_
    · try dsimp only
      clear hq hdep hold
      rw [if_pos (by rfl)]
      refine OpY.val (v := (.pointer (some ⟨g, 0, none⟩))) ?_ ⟨Kept.refl _ _, rfl⟩
      first | rfl | go_simp
    refine Steps.cons (fun x wf Kk hq hdep hold => ?_) ?_
    · try dsimp only
      have h0 : x 0 = (.pointer (some ⟨g, 0, none⟩)) := hdep 0 (by kernel_rfl)
      clear hq hdep hold
      simp only [h0]
      clear h0
      rw [if_pos (by rfl)]
      refine OpY.val (v := (.pointer (some ⟨g, 0, none⟩))) ?_ ⟨Kept.refl _ _, rfl⟩
      first | rfl | go_simp
    refine Steps.cons (fun x wf Kk hq hdep hold => ?_) ?_
    · try dsimp only
      have h1 : x 1 = (.pointer (some ⟨g, 0, none⟩)) := hdep 1 (by kernel_rfl)
      clear hq hdep hold
      simp only [h1]
      clear h1
      rw [if_pos (by rfl)]
      refine OpY.val (v := (.pointer (some ⟨g, 0, none⟩))) ?_ ⟨Kept.refl _ _, rfl⟩
      first | rfl | go_simp
    refine Steps.cons (fun x wf Kk hq hdep hold => ?_) ?_
    · try dsimp only
      have h2 : x 2 = (.pointer (some ⟨g, 0, none⟩)) := hdep 2 (by kernel_rfl)
      clear hq hdep hold
      simp only [h2]
      clear h2
      have cv : wf.cell? ⟨g, 0, none⟩ = some (.slice ao 0 cap) := by rw [cell_of_row wf _ 0 _ _ _ ((hb.out.kept (k1.out.trans' Kk.fresh.undrew)).at_)]; rfl
      rw [if_pos (by rfl)]
      refine OpY.val (v := (.slice ao 0 cap)) ?_ ⟨Kept.refl _ _, rfl⟩
      first | rfl | go_simp
    refine Steps.cons (fun x wf Kk hq hdep hold => ?_) ?_
    · try dsimp only
      have h3 : x 3 = (.slice ao 0 cap) := hdep 3 (by kernel_rfl)
      clear hq hdep hold
      simp only [h3]
      clear h3
      rw [if_pos (by rfl)]
      refine OpY.val (v := (.int .i64 0)) ?_ ⟨Kept.refl _ _, rfl⟩
      first | rfl | go_simp
    refine Steps.cons (fun x wf Kk hq hdep hold => ?_) ?_
    · try dsimp only
      clear hq hdep hold
      rw [if_pos (by rfl)]
      refine OpY.val (v := (.int .i64 k)) ?_ ⟨Kept.refl _ _, rfl⟩
      first | rfl | go_simp
    refine Steps.cons (fun x wf Kk hq hdep hold => ?_) ?_
    · try dsimp only
      clear hq hdep hold
      rw [if_pos (by rfl)]
      refine OpY.val (v := (vb)) ?_ ⟨Kept.refl _ _, rfl⟩
      first | rfl | go_simp
    refine Steps.cons (fun x wf Kk hq hdep hold => ?_) ?_
    · try dsimp only
      have h6 : x 6 = (vb) := hdep 6 (by kernel_rfl)
      clear hq hdep hold
      simp only [h6]
      clear h6
      rw [if_pos (by rfl)]
      refine OpY.call (f := 56) (args := #[(vb)]) (by go_simp) ?_
      refine (clone_any vb xs wf (by have := hxl.out; omega) (hr.out.keptNo (k1.out.trans' Kk.fresh.undrew))).mono ?_
      rintro ed w2 ⟨v2, rfl, o2, k2, n2⟩
      exact ⟨_, rfl, k2, o2, n2.fr Kk.size⟩
    refine Steps.cons (fun x wf Kk hq hdep hold => ?_) ?_
    · try dsimp only
      have h4 : x 4 = (.int .i64 0) := hdep 4 (by kernel_rfl)
      have h5 : x 5 = (.int .i64 k) := hdep 5 (by kernel_rfl)
      have p7 : Pr.p (Sl := (fun _ => (fun j => w1.heap.size ≤ j))) (POwn xs w1.heap.size) (x 7) wf := hdep 7 (by kernel_rfl)
      clear hq hdep hold
      simp only [h4, h5]
      clear h4 h5
      rw [if_pos (by rfl)]
      have q7 := p7
      obtain ⟨_, a7, c7, e7, _⟩ := Rd.of_own p7.1
      rw [e7]
      refine OpY.val (v := Ev (⟨0, k, xs, Z32l⟩ : Ent) (.slice a7 xs.length c7)) (by kernel_rfl) ⟨Kept.refl _ _, (show Pr.r (PEv (Sl := (fun _ => (fun j => w1.heap.size ≤ j))) 7 (⟨0, k, xs, Z32l⟩ : Ent) w1.heap.size) (x 7) _ wf from ⟨by rw [e7], q7.1, q7.2⟩)⟩
    refine Steps.cons (fun x wf Kk hq hdep hold => ?_) ?_
    · try dsimp only
      clear hq hdep hold
      rw [if_pos (by rfl)]
      exact OpY.val (v := .pointer (some ⟨wf.heap.size, 0, none⟩)) (w' := wf.alloc (.cells ZE 47)) (by kernel_rfl) ⟨(Kept.refl _ _).alloc _, _, rfl, Kk.size, heap_alloc_new _ _⟩
    refine Steps.cons (fun x wf Kk hq hdep hold => ?_) ?_
    · try dsimp only
      have p9 : Pr.p (Sl := (fun _ => (fun j => w1.heap.size ≤ j))) (PAl w1.heap.size) (x 9) wf := hdep 9 (by kernel_rfl)
      have p8 : Pr.r (Sl := (fun _ => (fun j => w1.heap.size ≤ j))) (PEv 7 (⟨0, k, xs, Z32l⟩ : Ent) w1.heap.size) (x 7) (x 8) wf := hdep 8 (by kernel_rfl)
      clear hq hdep hold
      rw [if_pos (by rfl)]
      obtain ⟨g8, e9, hg8, hz8⟩ := p9
      obtain ⟨e8, o7, f7⟩ := p8
      have hE : OwE wf (⟨0, k, xs, Z32l⟩ : Ent) (x 7) := ⟨rfl, hxl.out, o7⟩
      rw [e9, e8]
      have hne := hE.ne hz8 (by decide)
      refine OpY.storeRow 47 (.tmp 8) (.tmp 34) rfl g8 (entC (⟨0, k, xs, Z32l⟩ : Ent) (x 7)).toArray rfl rfl 47 _ hz8 (infE hE.ok) (by rw [ZE_size, List.size_toArray, entC_length hE.1]) (all_oneCell_toArray hE.ok.one) ?_
      have ks := (Kept.refl (fun j => j = g8) wf).setRow (g := g8) (.inl rfl) (entC (⟨0, k, xs, Z32l⟩ : Ent) (x 7)).toArray
      refine ⟨ks.mono fun j _ h => by (have h : j = g8 := h); subst h; exact hg8, g8, x 7, e9, hg8, setRow_heap _ _ _ _ _ _ hz8, ks.ownsRow o7 hne, f7⟩
    exact Steps.nil _
  · intro x wf Kk hv
    try dsimp only
    have h0 : x 0 = (.pointer (some ⟨g, 0, none⟩)) := hv 0 (by kernel_rfl)
    have h1 : x 1 = (.pointer (some ⟨g, 0, none⟩)) := hv 1 (by kernel_rfl)
    have h2 : x 2 = (.pointer (some ⟨g, 0, none⟩)) := hv 2 (by kernel_rfl)
    have h3 : x 3 = (.slice ao 0 cap) := hv 3 (by kernel_rfl)
    have h4 : x 4 = (.int .i64 0) := hv 4 (by kernel_rfl)
    have h5 : x 5 = (.int .i64 k) := hv 5 (by kernel_rfl)
    have h6 : x 6 = (vb) := hv 6 (by kernel_rfl)
    have p10 : Pr.r (Sl := (fun _ => (fun j => w1.heap.size ≤ j))) (PSx 9 (⟨0, k, xs, Z32l⟩ : Ent) w1.heap.size) (x 9) (x 10) wf := hv 10 (by kernel_rfl)
    clear hv
    simp only [h0, h1, h2, h3, h4, h5, h6]
    clear h0 h1 h2 h3 h4 h5 h6
    obtain ⟨g8, u, e9, hg8, hz8, hu, hfu⟩ := p10
    rw [e9]
    have K7 := hid (k1.out.trans' Kk.fresh.undrew)
    have g67 := hid (Kk.fresh.undrew.blk g6.out)
    have hg8' : Hd (w.heap.size < g8) := ⟨by have := lt_of_heap g6.out; omega⟩
    replace hz8 := hid hz8
    replace hu := hid hu
    have hfu' : Hd (∀ j, u.ownBlock = some j → w.heap.size < j) := ⟨fun j hj => by have := hfu j hj; have := lt_of_heap g6.out; omega⟩
    obtain ⟨w3, rfl⟩ : ∃ w3 : World, w3 = wf := ⟨_, rfl⟩
    clear Kk hfu hg8 e9
    generalize x 7 = x7
    generalize x 8 = x8
    have c80 : w3.cell? ⟨g8, 0, none⟩ = some (.int .i64 0) := by rw [cell_of_row w3 _ 0 _ _ _ hz8.out]; rfl
    go_upto_region 10 with fail
    have hE10 := hid (show OwE w3 (⟨0, k, xs, Z32l⟩ : Ent) u from ⟨rfl, hxl.out, hu.out⟩)
    have hb3 := hid (hb.out.kept K7.out)
    have hgv : Hd (∀ j, (Value.ownBlock (.slice ao 0 cap)) = some j → j < w.heap.size ∧ j ≠ g) := ⟨fun j hj => by
      obtain ⟨_, ⟨h, _⟩ | ⟨q, _, _, h, _, hq, _⟩⟩ := hb.out.own
      · rw [h] at hj; cases hj
      · rw [h] at hj
        have : q = j := by simpa [Value.ownBlock] using hj
        subst this
        refine ⟨lt_of_heap hq, fun e => ?_⟩
        rw [e, hb.out.at_] at hq
        simp at hq⟩
    clear c80
    refine region_flow (S := (fun j => j = g ∨ (Value.ownBlock (.slice ao 0 cap)) = some j)) (Sl := (fun i j => if i = 7 then (Value.ownBlock (.slice ao 0 cap)) = some j else j = g)) [Is (.pointer (some ⟨g, 0, none⟩)), Is (.pointer (some ⟨g, 0, none⟩)), Is (.pointer (some ⟨g, 0, none⟩)), Is (.pointer (some ⟨g, 0, none⟩)), Is (.slice ao 0 cap), Is (Ev (⟨0, k, xs, Z32l⟩ : Ent) u), RdIs 35 1 (entC (⟨0, k, xs, Z32l⟩ : Ent) u), PAp w3 (.slice ao 0 cap) (ps ++ [((⟨0, k, xs, Z32l⟩ : Ent), u)]).length (flatE (ps ++ [((⟨0, k, xs, Z32l⟩ : Ent), u)])), Is (.pointer (some ⟨g, 0, none⟩)), Is (.pointer (some ⟨g, 0, none⟩)), PSt 7 g w3 (.slice ao 0 cap) (ps ++ [((⟨0, k, xs, Z32l⟩ : Ent), u)]).length (flatE (ps ++ [((⟨0, k, xs, Z32l⟩ : Ent), u)]))] [7, 10] (fun i j h => by split at h; exact Or.inr h; exact Or.inl h) _ (by kernel_rfl) (by kernel_rfl) (by kernel_rfl) (by kernel_rfl) (fun x => by simp only [puts, Act.put, List.map_cons, List.map_nil, Nat.zero_add, Nat.reduceAdd, List.setIfInBounds_toArray, List.set_cons_zero, List.set_cons_succ]; exact rfl) ?_ ?_
    · skip
      refine Steps.cons (fun x wf Kk hq hdep hold => ?_) ?_
      · try dsimp only
        clear hq hdep hold
        rw [if_pos (by rfl)]
        refine OpY.val (v := (.pointer (some ⟨g, 0, none⟩))) ?_ ⟨Kept.refl _ _, rfl⟩
        first | rfl | go_simp
      refine Steps.cons (fun x wf Kk hq hdep hold => ?_) ?_
      · try dsimp only
        clear hq hdep hold
        rw [if_pos (by rfl)]
        refine OpY.val (v := (.pointer (some ⟨g, 0, none⟩))) ?_ ⟨Kept.refl _ _, rfl⟩
        first | rfl | go_simp
      refine Steps.cons (fun x wf Kk hq hdep hold => ?_) ?_
      · try dsimp only
        have h1 : x 1 = (.pointer (some ⟨g, 0, none⟩)) := hdep 1 (by kernel_rfl)
        clear hq hdep hold
        simp only [h1]
        clear h1
        rw [if_pos (by rfl)]
        refine OpY.val (v := (.pointer (some ⟨g, 0, none⟩))) ?_ ⟨Kept.refl _ _, rfl⟩
        first | rfl | go_simp
      refine Steps.cons (fun x wf Kk hq hdep hold => ?_) ?_
      · try dsimp only
        have h2 : x 2 = (.pointer (some ⟨g, 0, none⟩)) := hdep 2 (by kernel_rfl)
        clear hq hdep hold
        simp only [h2]
        clear h2
        rw [if_pos (by rfl)]
        refine OpY.val (v := (.pointer (some ⟨g, 0, none⟩))) ?_ ⟨Kept.refl _ _, rfl⟩
        first | rfl | go_simp
      refine Steps.cons (fun x wf Kk hq hdep hold => ?_) ?_
      · try dsimp only
        have h3 : x 3 = (.pointer (some ⟨g, 0, none⟩)) := hdep 3 (by kernel_rfl)
        have Kq := hq (fun j => (Value.ownBlock (.slice ao 0 cap)) = some j) (fun j hj k hk => by obtain ⟨h1, h2⟩ := List.mem_filter.1 hj; rcases (show j = 7 ∨ j = 10 by simpa using h1) with rfl | rfl; ((have hk' : (if 7 = 7 then (Value.ownBlock (.slice ao 0 cap)) = some k else k = g) := hk); rw [if_pos rfl] at hk'; exact hk'); (exact Bool.noConfusion (h2.symm.trans (by kernel_rfl : _ = false))))
        clear hq hdep hold
        simp only [h3]
        clear h3
        have cv : wf.cell? ⟨g, 0, none⟩ = some (.slice ao 0 cap) := by rw [cell_of_row wf _ 0 _ _ _ ((Kq.undrew.block _ (lt_of_heap hb3.out.at_) (fun h => (hgv.out g h).2 rfl)).trans hb3.out.at_)]; rfl
        rw [if_pos (by rfl)]
        refine OpY.val (v := (.slice ao 0 cap)) ?_ ⟨Kept.refl _ _, rfl⟩
        first | rfl | go_simp
      refine Steps.cons (fun x wf Kk hq hdep hold => ?_) ?_
      · try dsimp only
        clear hq hdep hold
        rw [if_pos (by rfl)]
        have gl := (Kk.undrew.block g8 (lt_of_heap hz8.out) (by rintro (h | h); (have := hgw.out; have := hg8'.out; omega); (have := (hgv.out _ h).1; have := hg8'.out; omega))).trans hz8.out
        exact OpY.row 47 (.tmp 8) rfl g8 0 rfl (entC (⟨0, k, xs, Z32l⟩ : Ent) u) _ (range_row gl) Tryd.underlying47 rfl (infEl hE10.out.ok) ⟨Kept.refl _ _, rfl⟩
      refine Steps.cons (fun x wf Kk hq hdep hold => ?_) ?_
      · try dsimp only
        have h5 : x 5 = (Ev (⟨0, k, xs, Z32l⟩ : Ent) u) := hdep 5 (by kernel_rfl)
        clear hq hdep hold
        simp only [h5]
        clear h5
        rw [if_pos (by rfl)]
        refine OpY.build 42 47 1 _ rfl 35 (.agg ZE) Tryd.underlying42 infEz (by decide) (by decide) (entC (⟨0, k, xs, Z32l⟩ : Ent) u) _ rfl (fillE hE10.out.ok) (by rw [entC_length hE10.out.1]) (by decide) (fun w' hg k ho => ⟨k, Rd.of_own ho⟩)
      refine Steps.cons (fun x wf Kk hq hdep hold => ?_) ?_
      · try dsimp only
        have h4 : x 4 = (.slice ao 0 cap) := hdep 4 (by kernel_rfl)
        have p6 : Pr.p (Sl := (fun i j => if i = 7 then (Value.ownBlock (.slice ao 0 cap)) = some j else j = g)) (RdIs 35 1 (entC (⟨0, k, xs, Z32l⟩ : Ent) u)) (x 6) wf := hdep 6 (by kernel_rfl)
        have Kq := hq (fun j => j = g) (fun j hj k hk => by obtain ⟨h1, h2⟩ := List.mem_filter.1 hj; rcases (show j = 7 ∨ j = 10 by simpa using h1) with rfl | rfl; (exact Bool.noConfusion (h2.symm.trans (by kernel_rfl : _ = false))); ((have hk' : (if 10 = 7 then (Value.ownBlock (.slice ao 0 cap)) = some k else k = g) := hk); rw [if_neg (by decide)] at hk'; exact hk'))
        clear hq hdep hold
        simp only [h4]
        clear h4
        rw [if_pos (by rfl)]
        have hown := Kq.undrew.ownsRow hb3.out.own (fun j hj e => (hgv.out j hj).2 e)
        rw [hn.out] at hown
        refine OpY.append (.tmp 53) (.tmp 55) 42 _ rfl rfl 47 35 72 TEnts (.slice ao 0 cap) 0 (flatE ps) rfl hown (x 6) 1 (entC (⟨0, k, xs, Z32l⟩ : Ent) u) rfl p6 hE10.out.ok.one ?c2 ?c3 ?_
        case c2 => have := hn100.out; unfold maxLen; omega
        case c3 => have := hn100.out; omega
        rintro v' w' h2 h3 h4 _
        refine ⟨h3, ?_, ?_⟩
        · have e : flatE (ps ++ [((⟨0, k, xs, Z32l⟩ : Ent), u)]) = flatE ps ++ entC (⟨0, k, xs, Z32l⟩ : Ent) u := by simp [flatE]
          rw [e, List.length_append, List.length_singleton, hn.out]; exact h2
        · rcases h4 with h4 | ⟨q, h4, h5⟩
          · exact .inl h4
          · exact .inr ⟨q, h4, by have := Kk.size; (have : w3.heap.size ≤ wf.heap.size := this); omega⟩
      refine Steps.cons (fun x wf Kk hq hdep hold => ?_) ?_
      · try dsimp only
        have h0 : x 0 = (.pointer (some ⟨g, 0, none⟩)) := hdep 0 (by kernel_rfl)
        clear hq hdep hold
        simp only [h0]
        clear h0
        rw [if_pos (by rfl)]
        refine OpY.val (v := (.pointer (some ⟨g, 0, none⟩))) ?_ ⟨Kept.refl _ _, rfl⟩
        first | rfl | go_simp
      refine Steps.cons (fun x wf Kk hq hdep hold => ?_) ?_
      · try dsimp only
        have h8 : x 8 = (.pointer (some ⟨g, 0, none⟩)) := hdep 8 (by kernel_rfl)
        clear hq hdep hold
        simp only [h8]
        clear h8
        rw [if_pos (by rfl)]
        refine OpY.val (v := (.pointer (some ⟨g, 0, none⟩))) ?_ ⟨Kept.refl _ _, rfl⟩
        first | rfl | go_simp
      refine Steps.cons (fun x wf Kk hq hdep hold => ?_) ?_
      · try dsimp only
        have h9 : x 9 = (.pointer (some ⟨g, 0, none⟩)) := hdep 9 (by kernel_rfl)
        have p7 : Pr.p (Sl := (fun i j => if i = 7 then (Value.ownBlock (.slice ao 0 cap)) = some j else j = g)) (PAp w3 (.slice ao 0 cap) (ps ++ [((⟨0, k, xs, Z32l⟩ : Ent), u)]).length (flatE (ps ++ [((⟨0, k, xs, Z32l⟩ : Ent), u)]))) (x 7) wf := hdep 7 (by kernel_rfl)
        have Kq := hq (fun j => (Value.ownBlock (.slice ao 0 cap)) = some j) (fun j hj k hk => by obtain ⟨h1, h2⟩ := List.mem_filter.1 hj; rcases (show j = 7 ∨ j = 10 by simpa using h1) with rfl | rfl; ((have hk' : (if 7 = 7 then (Value.ownBlock (.slice ao 0 cap)) = some k else k = g) := hk); rw [if_pos rfl] at hk'; exact hk'); (exact Bool.noConfusion (h2.symm.trans (by kernel_rfl : _ = false))))
        clear hq hdep hold
        simp only [h9]
        clear h9
        rw [if_pos (by rfl)]
        have gz := (Kq.undrew.block _ (lt_of_heap hb3.out.at_) (fun h => (hgv.out g h).2 rfl)).trans hb3.out.at_
        have cz : wf.cell? ⟨g, 0, none⟩ = some (.slice ao 0 cap) := by rw [cell_of_row wf _ 0 _ _ _ gz]; rfl
        have fz : wf.frozen? ⟨g, 0, none⟩ = false := row_free gz 0
        obtain ⟨_, a7, c7, e7, _⟩ := Rd.of_own p7.1
        have ks := (Kept.refl (fun j => j = g) wf).setCell (a := ⟨g, 0, none⟩) (.inl rfl) (x 7)
        have hng : ∀ j, (x 7).ownBlock = some j → ¬ j = g := fun j hj e => by
                obtain ⟨_, ⟨h, _⟩ | ⟨q, _, _, h, _, hq, _⟩⟩ := p7.1
                · rw [h] at hj; cases hj
                · rw [h] at hj
                  have : q = j := by simpa [Value.ownBlock] using hj
                  rw [this, e, gz] at hq
                  simp at hq
        have gz2 := setCell_row gz 0 (x 7)
        have ho7 := ks.ownsRow p7.1 hng
        refine OpY.skip (w' := wf.setCell ⟨g, 0, none⟩ (x 7)) ?_ ⟨ks, (show Pr.r (PSt (Sl := (fun i j => if i = 7 then (Value.ownBlock (.slice ao 0 cap)) = some j else j = g)) 7 g w3 (.slice ao 0 cap) (ps ++ [((⟨0, k, xs, Z32l⟩ : Ent), u)]).length (flatE (ps ++ [((⟨0, k, xs, Z32l⟩ : Ent), u)]))) (x 7) undef _ from ⟨by rw [gz2]; rfl, ho7, p7.2⟩)⟩
        rw [e7]
        go_simp
      exact Steps.nil _
    · intro x wf Kk hv
      try dsimp only
      have h0 : x 0 = (.pointer (some ⟨g, 0, none⟩)) := hv 0 (by kernel_rfl)
      have h1 : x 1 = (.pointer (some ⟨g, 0, none⟩)) := hv 1 (by kernel_rfl)
      have h2 : x 2 = (.pointer (some ⟨g, 0, none⟩)) := hv 2 (by kernel_rfl)
      have h3 : x 3 = (.pointer (some ⟨g, 0, none⟩)) := hv 3 (by kernel_rfl)
      have h4 : x 4 = (.slice ao 0 cap) := hv 4 (by kernel_rfl)
      have h5 : x 5 = (Ev (⟨0, k, xs, Z32l⟩ : Ent) u) := hv 5 (by kernel_rfl)
      have h8 : x 8 = (.pointer (some ⟨g, 0, none⟩)) := hv 8 (by kernel_rfl)
      have h9 : x 9 = (.pointer (some ⟨g, 0, none⟩)) := hv 9 (by kernel_rfl)
      have p10 : Pr.r (Sl := (fun i j => if i = 7 then (Value.ownBlock (.slice ao 0 cap)) = some j else j = g)) (PSt 7 g w3 (.slice ao 0 cap) (ps ++ [((⟨0, k, xs, Z32l⟩ : Ent), u)]).length (flatE (ps ++ [((⟨0, k, xs, Z32l⟩ : Ent), u)]))) (x 7) (x 10) wf := hv 10 (by kernel_rfl)
      clear hv
      simp only [h0, h1, h2, h3, h4, h5, h8, h9]
      clear h0 h1 h2 h3 h4 h5 h8 h9
      have k10 := Kk.undrew
      obtain ⟨hbg, hbo, hbn⟩ := p10
      have notS : Hd (∀ j, w.heap.size ≤ j → ¬ (j = g ∨ (Value.ownBlock (.slice ao 0 cap)) = some j)) := ⟨fun j hj h => by rcases h with h | h; (have := hgw.out; omega); (have := (hgv.out _ h).1; omega)⟩
      have g68 := hid ((k10.block _ (lt_of_heap g67.out) (notS.out _ (Nat.le_refl _))).trans g67.out)
      have hz10 := hid ((k10.block _ (lt_of_heap hz8.out) (notS.out _ (Nat.le_of_lt hg8'.out))).trans hz8.out)
      have hE11 := hid (hE10.out.kept k10 fun j hj => notS.out j (Nat.le_of_lt (hfu'.out j hj)))
      have hball : Hd (∀ p ∈ ps, OwE wf p.1 p.2) := ⟨fun p hp => (hb3.out.all p hp).kept k10 fun j hj e => by
        rcases e with e | e
        · exact (hb3.out.all p hp).ne hb3.out.at_ (by decide) j hj e
        · obtain ⟨_, ⟨h, _⟩ | ⟨q, _, _, h, _, hq, _⟩⟩ := hb3.out.own
          · rw [h] at e; cases e
          · rw [h] at e
            have : q = j := by simpa [Value.ownBlock] using e
            subst this
            exact (hb3.out.all p hp).ne hq (by decide) q hj rfl⟩
      have hbd : Hd (Bd wf g (x 7) (ps ++ [((⟨0, k, xs, Z32l⟩ : Ent), u)])) := ⟨⟨hbg, hbo, fun p hp => by
        rcases List.mem_append.1 hp with h | h
        · exact hball.out p h
        · obtain rfl : p = ((⟨0, k, xs, Z32l⟩ : Ent), u) := by simpa using h
          exact hE11.out⟩⟩
      have hnew : Hd (NewOr w (.slice ao 0 cap) (x 7)) := ⟨by rcases hbn with h | ⟨q, h, hl⟩; exact .inl h; exact .inr ⟨q, h, by have := K7.out.size; omega⟩⟩
      have K10 := hid (K7.out.of_no (S := (fun j => j = g ∨ (Value.ownBlock (.slice ao 0 cap)) = some j)) |>.trans k10 fun _ _ h => h)
      have hn6 := hid (notS.out w.heap.size (Nat.le_refl _))
      have hbn' := hid hbn
      have h3lt : Hd (w.heap.size < w3.heap.size) := ⟨lt_of_heap g67.out⟩
      generalize x 7 = vN at hbd hnew hbn'
      clear Kk k10 hbg hbo hbn hball hE10 hb3 g67 hz8 hu K7
      have hok11 := hid hE11.out.ok
      go_wp2_with (refine le rfl _ rfl g8 rfl (⟨0, k, xs, Z32l⟩ : Ent) u hz10.out hok11.out ?_)
      refine (copied_any (⟨0, k, xs, Z32l⟩ : Ent) u wf hE11.out.ok).mono ?_
      rintro ed w5 ⟨vr, rfl, or5, k5, nr5⟩
      have g69 := hid (k5.blk g68.out)
      have hzs := hid ZE_size
      have hokr := hid or5.ok
      have g7 := hid (setRow_heap w5 w.heap.size _ (entC (⟨0, k, xs, Z32l⟩ : Ent) vr).toArray _ _ g69.out)
      have ks := (Kept.refl (fun j => j = w.heap.size) w5).setRow (g := w.heap.size) (.inl rfl) (entC (⟨0, k, xs, Z32l⟩ : Ent) vr).toArray
      have K11 : Hd (Kept (fun j => j = g ∨ (Value.ownBlock (.slice ao 0 cap)) = some j) w (w5.setRow w.heap.size (entC (⟨0, k, xs, Z32l⟩ : Ent) vr).toArray)) := ⟨(K10.out.trans (k5.of_no (S := (fun j => j = g ∨ (Value.ownBlock (.slice ao 0 cap)) = some j))) fun _ _ h => h).trans ks fun j hj e => by have e : j = w.heap.size := e; omega⟩
      have hbd5 := hbd.out.kept k5
      have hbdF : Hd (Bd (w5.setRow w.heap.size (entC (⟨0, k, xs, Z32l⟩ : Ent) vr).toArray) g vN (ps ++ [((⟨0, k, xs, Z32l⟩ : Ent), u)])) := ⟨by
        refine ⟨?_, ks.ownsRow hbd5.own fun j hj e => ?_, fun p hp => (hbd5.all p hp).kept ks fun j hj e => (hbd5.all p hp).ne g69.out (by decide) j hj e⟩
        · rw [setRow_other _ _ _ _ (by have := hgw.out; omega)]; exact hbd5.at_
        · have e : j = w.heap.size := e
          rcases hbn'.out with h | ⟨q, h, hl⟩
          · rw [hj] at h; have := (hgv.out j h.symm).1; omega
          · rw [hj] at h
            have : j = q := by simpa using h
            have := h3lt.out; omega⟩
      have hrF : Hd (OwE (w5.setRow w.heap.size (entC (⟨0, k, xs, Z32l⟩ : Ent) vr).toArray) (⟨0, k, xs, Z32l⟩ : Ent) vr) := ⟨or5.kept ks fun j hj e => or5.ne g69.out (by decide) j hj e⟩
      have hnr : Hd (New w vr) := ⟨frNew fun j hj => Nat.le_trans (by have := lt_of_heap g68.out; omega) (nr5.fr (Nat.le_refl _) j hj)⟩
      have hdis : Hd (∀ j, vr.ownBlock = some j → u.ownBlock = some j → False) := ⟨fun j h1 h2 => by have := nr5.fr (Nat.le_refl _) j h1; have := hE11.out.lt j h2; omega⟩
      have hvc : Hd (∀ j, u.ownBlock = some j → w.heap.size ≤ j) := ⟨fun j h => Nat.le_of_lt (hfu'.out j h)⟩
      clear or5 k5 nr5 ks hbd5 hbd hE11 g68 hz10 K10
      go_wp2_with (with_reducible refine se rfl _ _ rfl w.heap.size rfl (⟨0, k, xs, Z32l⟩ : Ent) vr rfl _ g69.out hzs.out hokr.out ?_)
      refine bodyPost_ret (v := .tuple #[Ev (⟨0, k, xs, Z32l⟩ : Ent) vr, .int .i64 0]) ?_ rfl ?_
      · exact results_ev_tmp rfl _ _ w.heap.size (⟨0, k, xs, Z32l⟩ : Ent) vr _ rfl rfl g7.out hokr.out
      · exact ⟨vN, u, vr, by rw [hent.out], by rw [hent.out]; exact hbdF.out, by rw [hent.out]; exact hrF.out, K11.out, hnew.out, hnr.out, hdis.out, hvc.out⟩
set_option maxRecDepth 100000 in
set_option maxHeartbeats 4000000 in
theorem post_more (g : Nat) (v : Value) (ps : List (Ent × Value)) (k : Int) (vb : Value) (xs : List UInt8) (w : World) (hb : Bd w g v ps) (hp : poss k = true) (hn : ps.length ≤ 100) (h0 : 0 < ps.length) (hxl : xs.length ≤ 1000) (hr : Rd w 1 vb xs.length (xs.map B)) (hT : Tab w) :
    Calls Tryd.prog 27 #[.pointer (some ⟨g, 0, none⟩), .int .i64 k, vb] w fun ed w' => ∃ v' vc vr, ed = .returned (.tuple #[Ev (nxt ps k xs) vr, .int .i64 0]) ∧ Bd w' g v' (ps ++ [(nxt ps k xs, vc)]) ∧ OwE w' (nxt ps k xs) vr ∧ Kept (fun j => j = g ∨ v.ownBlock = some j) w w' ∧ NewOr w v v' ∧ New w vr ∧ (∀ j, vr.ownBlock = some j → vc.ownBlock = some j → False) ∧ (∀ j, vc.ownBlock = some j → w.heap.size ≤ j) := by
  have HP := hid (fun W => possible_any k W)
  rw [hp] at HP
  clear hp
  have hgw : Hd (g < w.heap.size) := ⟨lt_of_heap hb.at_⟩
  have hn100 := hid hn
  replace hxl := hid hxl
  replace hr := hid hr
  replace hT := hid hT
  obtain ⟨ao, cap, rfl, hcap⟩ := hb.rd.shape
  obtain ⟨b, o, rfl, hlr⟩ := hb.rd.at (ps.length - 1) (by omega)
  obtain ⟨lE, lv, hlast⟩ : ∃ lE lv, ps[ps.length - 1]'(by omega) = (lE, lv) := ⟨_, _, rfl⟩
  rw [hlast] at hlr
  have hlo := hid (hb.all (lE, lv) (by rw [← hlast]; exact List.getElem_mem _)).ok
  have hent : Hd (nxt ps k xs = ⟨(ps.length : Int), k, xs, hashE lE⟩) := ⟨by
    have : ps.getLast? = some (lE, lv) := by rw [List.getLast?_eq_getElem?, List.getElem?_eq_getElem (by omega), hlast]
    unfold nxt prevOf; rw [this]⟩
  obtain ⟨n, hn'⟩ : ∃ n, ps.length = n := ⟨_, rfl⟩
  rw [hn'] at hb hn hcap hent hlr h0 ⊢
  replace hlr := hid hlr
  obtain ⟨n1, hn1⟩ : ∃ n1, n - 1 = n1 := ⟨_, rfl⟩
  rw [hn1] at hlr
  have e1 : (n : Int) - 1 = (n1 : Int) := by omega
  have e1w : IntKind.i64.wrap (n1 : Int) = (n1 : Int) := IntWalk.i64_in _ (by omega)
  have z1 : (0 : Int) ≤ (n1 : Int) := by omega
  have z2 : (n1 : Int) < (n : Int) := by omega
  have z3 : (0 : Int) < (n : Int) := by omega
  have z4 : ¬ (n : Int) = 5000 := by omega
  have z5 : ((n : Int) == 5000) = false := by simpa using z4
  replace hn := hid hn'
  replace hb := hid hb
  clear h0 hlast
  go_enter Tryd.func27, Tryd.ntmps27
  go_upto_region 1 with fail
  obtain ⟨w1, hw1, g6, k1⟩ := ze_block w
  unfold ZE at hw1
  rw [show (entC ⟨0, 0, [], Z32l⟩ (.slice none 0 0)).toArray = _ from ZE_eq.symm] at hw1
  rw [← hw1]
  clear hw1
  replace g6 := hid g6
  replace k1 := hid k1
  have c0 : w1.cell? ⟨g, 0, none⟩ = some (.slice (some ⟨b, o, none⟩) n cap) := by rw [cell_of_row w1 _ 0 _ _ _ ((hb.out.kept k1.out).at_)]; rfl
  go_upto_region 7 with (refine (HP.out _).mono ?_; rintro ed w' ⟨rfl, rfl⟩)
  clear c0
  refine region_flow (S := (fun j => w1.heap.size ≤ j)) (Sl := (fun _ => (fun j => w1.heap.size ≤ j))) [Is (.pointer (some ⟨g, 0, none⟩)), Is (.pointer (some ⟨g, 0, none⟩)), Is (.pointer (some ⟨g, 0, none⟩)), Is (.slice (some ⟨b, o, none⟩) n cap), Is (.int .i64 (n : Int)), Is (.int .i64 k), Is (vb), POwn xs w1.heap.size, PEv 7 (⟨(n : Int), k, xs, Z32l⟩ : Ent) w1.heap.size, PAl w1.heap.size, PSx 9 (⟨(n : Int), k, xs, Z32l⟩ : Ent) w1.heap.size] [10] (fun _ _ h => h) _ (by kernel_rfl) (by kernel_rfl) (by kernel_rfl) (by kernel_rfl) (fun x => by simp only [puts, Act.put, List.map_cons, List.map_nil, Nat.zero_add, Nat.reduceAdd, List.setIfInBounds_toArray, List.set_cons_zero, List.set_cons_succ]; exact rfl) ?_ ?_
  · skip
    refine Steps.cons (fun x wf Kk hq hdep hold => ?_) ?_
    · try dsimp only
      clear hq hdep hold
      rw [if_pos (by rfl)]
      refine OpY.val (v := (.pointer (some ⟨g, 0, none⟩))) ?_ ⟨Kept.refl _ _, rfl⟩
      first | rfl | go_simp
    refine Steps.cons (fun x wf Kk hq hdep hold => ?_) ?_
    · try dsimp only
      have h0 : x 0 = (.pointer (some ⟨g, 0, none⟩)) := hdep 0 (by kernel_rfl)
      clear hq hdep hold
      simp only [h0]
      clear h0
      rw [if_pos (by rfl)]
      refine OpY.val (v := (.pointer (some ⟨g, 0, none⟩))) ?_ ⟨Kept.refl _ _, rfl⟩
      first | rfl | go_simp
    refine Steps.cons (fun x wf Kk hq hdep hold => ?_) ?_
    · try dsimp only
      have h1 : x 1 = (.pointer (some ⟨g, 0, none⟩)) := hdep 1 (by kernel_rfl)
      clear hq hdep hold
      simp only [h1]
      clear h1
      rw [if_pos (by rfl)]
      refine OpY.val (v := (.pointer (some ⟨g, 0, none⟩))) ?_ ⟨Kept.refl _ _, rfl⟩
      first | rfl | go_simp
    refine Steps.cons (fun x wf Kk hq hdep hold => ?_) ?_
    · try dsimp only
      have h2 : x 2 = (.pointer (some ⟨g, 0, none⟩)) := hdep 2 (by kernel_rfl)
      clear hq hdep hold
      simp only [h2]
      clear h2
      have cv : wf.cell? ⟨g, 0, none⟩ = some (.slice (some ⟨b, o, none⟩) n cap) := by rw [cell_of_row wf _ 0 _ _ _ ((hb.out.kept (k1.out.trans' Kk.fresh.undrew)).at_)]; rfl
      rw [if_pos (by rfl)]
      refine OpY.val (v := (.slice (some ⟨b, o, none⟩) n cap)) ?_ ⟨Kept.refl _ _, rfl⟩
      first | rfl | go_simp
    refine Steps.cons (fun x wf Kk hq hdep hold => ?_) ?_
    · try dsimp only
      have h3 : x 3 = (.slice (some ⟨b, o, none⟩) n cap) := hdep 3 (by kernel_rfl)
      clear hq hdep hold
      simp only [h3]
      clear h3
      rw [if_pos (by rfl)]
      refine OpY.val (v := (.int .i64 (n : Int))) ?_ ⟨Kept.refl _ _, rfl⟩
      first | rfl | go_simp
    refine Steps.cons (fun x wf Kk hq hdep hold => ?_) ?_
    · try dsimp only
      clear hq hdep hold
      rw [if_pos (by rfl)]
      refine OpY.val (v := (.int .i64 k)) ?_ ⟨Kept.refl _ _, rfl⟩
      first | rfl | go_simp
    refine Steps.cons (fun x wf Kk hq hdep hold => ?_) ?_
    · try dsimp only
      clear hq hdep hold
      rw [if_pos (by rfl)]
      refine OpY.val (v := (vb)) ?_ ⟨Kept.refl _ _, rfl⟩
      first | rfl | go_simp
    refine Steps.cons (fun x wf Kk hq hdep hold => ?_) ?_
    · try dsimp only
      have h6 : x 6 = (vb) := hdep 6 (by kernel_rfl)
      clear hq hdep hold
      simp only [h6]
      clear h6
      rw [if_pos (by rfl)]
      refine OpY.call (f := 56) (args := #[(vb)]) (by go_simp) ?_
      refine (clone_any vb xs wf (by have := hxl.out; omega) (hr.out.keptNo (k1.out.trans' Kk.fresh.undrew))).mono ?_
      rintro ed w2 ⟨v2, rfl, o2, k2, n2⟩
      exact ⟨_, rfl, k2, o2, n2.fr Kk.size⟩
    refine Steps.cons (fun x wf Kk hq hdep hold => ?_) ?_
    · try dsimp only
      have h4 : x 4 = (.int .i64 (n : Int)) := hdep 4 (by kernel_rfl)
      have h5 : x 5 = (.int .i64 k) := hdep 5 (by kernel_rfl)
      have p7 : Pr.p (Sl := (fun _ => (fun j => w1.heap.size ≤ j))) (POwn xs w1.heap.size) (x 7) wf := hdep 7 (by kernel_rfl)
      clear hq hdep hold
      simp only [h4, h5]
      clear h4 h5
      rw [if_pos (by rfl)]
      have q7 := p7
      obtain ⟨_, a7, c7, e7, _⟩ := Rd.of_own p7.1
      rw [e7]
      refine OpY.val (v := Ev (⟨(n : Int), k, xs, Z32l⟩ : Ent) (.slice a7 xs.length c7)) (by kernel_rfl) ⟨Kept.refl _ _, (show Pr.r (PEv (Sl := (fun _ => (fun j => w1.heap.size ≤ j))) 7 (⟨(n : Int), k, xs, Z32l⟩ : Ent) w1.heap.size) (x 7) _ wf from ⟨by rw [e7], q7.1, q7.2⟩)⟩
    refine Steps.cons (fun x wf Kk hq hdep hold => ?_) ?_
    · try dsimp only
      clear hq hdep hold
      rw [if_pos (by rfl)]
      exact OpY.val (v := .pointer (some ⟨wf.heap.size, 0, none⟩)) (w' := wf.alloc (.cells ZE 47)) (by kernel_rfl) ⟨(Kept.refl _ _).alloc _, _, rfl, Kk.size, heap_alloc_new _ _⟩
    refine Steps.cons (fun x wf Kk hq hdep hold => ?_) ?_
    · try dsimp only
      have p9 : Pr.p (Sl := (fun _ => (fun j => w1.heap.size ≤ j))) (PAl w1.heap.size) (x 9) wf := hdep 9 (by kernel_rfl)
      have p8 : Pr.r (Sl := (fun _ => (fun j => w1.heap.size ≤ j))) (PEv 7 (⟨(n : Int), k, xs, Z32l⟩ : Ent) w1.heap.size) (x 7) (x 8) wf := hdep 8 (by kernel_rfl)
      clear hq hdep hold
      rw [if_pos (by rfl)]
      obtain ⟨g8, e9, hg8, hz8⟩ := p9
      obtain ⟨e8, o7, f7⟩ := p8
      have hE : OwE wf (⟨(n : Int), k, xs, Z32l⟩ : Ent) (x 7) := ⟨rfl, hxl.out, o7⟩
      rw [e9, e8]
      have hne := hE.ne hz8 (by decide)
      refine OpY.storeRow 47 (.tmp 8) (.tmp 34) rfl g8 (entC (⟨(n : Int), k, xs, Z32l⟩ : Ent) (x 7)).toArray rfl rfl 47 _ hz8 (infE hE.ok) (by rw [ZE_size, List.size_toArray, entC_length hE.1]) (all_oneCell_toArray hE.ok.one) ?_
      have ks := (Kept.refl (fun j => j = g8) wf).setRow (g := g8) (.inl rfl) (entC (⟨(n : Int), k, xs, Z32l⟩ : Ent) (x 7)).toArray
      refine ⟨ks.mono fun j _ h => by (have h : j = g8 := h); subst h; exact hg8, g8, x 7, e9, hg8, setRow_heap _ _ _ _ _ _ hz8, ks.ownsRow o7 hne, f7⟩
    exact Steps.nil _
  · intro x wf Kk hv
    try dsimp only
    have h0 : x 0 = (.pointer (some ⟨g, 0, none⟩)) := hv 0 (by kernel_rfl)
    have h1 : x 1 = (.pointer (some ⟨g, 0, none⟩)) := hv 1 (by kernel_rfl)
    have h2 : x 2 = (.pointer (some ⟨g, 0, none⟩)) := hv 2 (by kernel_rfl)
    have h3 : x 3 = (.slice (some ⟨b, o, none⟩) n cap) := hv 3 (by kernel_rfl)
    have h4 : x 4 = (.int .i64 (n : Int)) := hv 4 (by kernel_rfl)
    have h5 : x 5 = (.int .i64 k) := hv 5 (by kernel_rfl)
    have h6 : x 6 = (vb) := hv 6 (by kernel_rfl)
    have p10 : Pr.r (Sl := (fun _ => (fun j => w1.heap.size ≤ j))) (PSx 9 (⟨(n : Int), k, xs, Z32l⟩ : Ent) w1.heap.size) (x 9) (x 10) wf := hv 10 (by kernel_rfl)
    clear hv
    simp only [h0, h1, h2, h3, h4, h5, h6]
    clear h0 h1 h2 h3 h4 h5 h6
    obtain ⟨g8, u, e9, hg8, hz8, hu, hfu⟩ := p10
    rw [e9]
    have K7 := hid (k1.out.trans' Kk.fresh.undrew)
    have g67 := hid (Kk.fresh.undrew.blk g6.out)
    have hg8' : Hd (w.heap.size < g8) := ⟨by have := lt_of_heap g6.out; omega⟩
    replace hz8 := hid hz8
    replace hu := hid hu
    have hfu' : Hd (∀ j, u.ownBlock = some j → w.heap.size < j) := ⟨fun j hj => by have := hfu j hj; have := lt_of_heap g6.out; omega⟩
    obtain ⟨w3, rfl⟩ : ∃ w3 : World, w3 = wf := ⟨_, rfl⟩
    clear Kk hfu hg8 e9
    generalize x 7 = x7
    generalize x 8 = x8
    have c80 : w3.cell? ⟨g8, 0, none⟩ = some (.int .i64 (n : Int)) := by rw [cell_of_row w3 _ 0 _ _ _ hz8.out]; rfl
    go_upto_region 9 with fail
    clear c80
    refine region_flow (S := (fun j => j = g8)) (Sl := (fun _ => (fun j => j = g8))) [Is (.pointer (some ⟨g, 0, none⟩)), Is (.pointer (some ⟨g, 0, none⟩)), Is (.pointer (some ⟨g, 0, none⟩)), Is (.slice (some ⟨b, o, none⟩) n cap), Is (.pointer (some ⟨g8, 0, none⟩)), Is (.int .i64 (n : Int)), Is (.int .i64 (n1 : Int)), Is (.pointer (some ⟨b, o + n1 * 35, none⟩)), Is (Ev lE lv), Is (Dg (hashE lE)), Is (.pointer (some ⟨g8, 3, none⟩)), Blk g8 (entC (⟨(n : Int), k, xs, hashE lE⟩ : Ent) u).toArray 47] [11] (fun _ _ h => h) _ (by kernel_rfl) (by kernel_rfl) (by kernel_rfl) (by kernel_rfl) (fun x => by simp only [puts, Act.put, List.map_cons, List.map_nil, Nat.zero_add, Nat.reduceAdd, List.setIfInBounds_toArray, List.set_cons_zero, List.set_cons_succ]; exact rfl) ?_ ?_
    · skip
      refine Steps.cons (fun x wf Kk hq hdep hold => ?_) ?_
      · try dsimp only
        clear hq hdep hold
        rw [if_pos (by rfl)]
        refine OpY.val (v := (.pointer (some ⟨g, 0, none⟩))) ?_ ⟨Kept.refl _ _, rfl⟩
        first | rfl | go_simp
      refine Steps.cons (fun x wf Kk hq hdep hold => ?_) ?_
      · try dsimp only
        have h0 : x 0 = (.pointer (some ⟨g, 0, none⟩)) := hdep 0 (by kernel_rfl)
        clear hq hdep hold
        simp only [h0]
        clear h0
        rw [if_pos (by rfl)]
        refine OpY.val (v := (.pointer (some ⟨g, 0, none⟩))) ?_ ⟨Kept.refl _ _, rfl⟩
        first | rfl | go_simp
      refine Steps.cons (fun x wf Kk hq hdep hold => ?_) ?_
      · try dsimp only
        have h1 : x 1 = (.pointer (some ⟨g, 0, none⟩)) := hdep 1 (by kernel_rfl)
        clear hq hdep hold
        simp only [h1]
        clear h1
        rw [if_pos (by rfl)]
        refine OpY.val (v := (.pointer (some ⟨g, 0, none⟩))) ?_ ⟨Kept.refl _ _, rfl⟩
        first | rfl | go_simp
      refine Steps.cons (fun x wf Kk hq hdep hold => ?_) ?_
      · try dsimp only
        have h2 : x 2 = (.pointer (some ⟨g, 0, none⟩)) := hdep 2 (by kernel_rfl)
        clear hq hdep hold
        simp only [h2]
        clear h2
        have hbw := hb.out.kept K7.out
        have cv : wf.cell? ⟨g, 0, none⟩ = some (.slice (some ⟨b, o, none⟩) n cap) := by rw [cell_of_row wf _ 0 _ _ _ ((Kk.undrew.block _ (lt_of_heap hbw.at_) (by show ¬ g = g8; have := hgw.out; have := hg8'.out; omega)).trans hbw.at_)]; rfl
        rw [if_pos (by rfl)]
        refine OpY.val (v := (.slice (some ⟨b, o, none⟩) n cap)) ?_ ⟨Kept.refl _ _, rfl⟩
        first | rfl | go_simp
      refine Steps.cons (fun x wf Kk hq hdep hold => ?_) ?_
      · try dsimp only
        clear hq hdep hold
        rw [if_pos (by rfl)]
        refine OpY.val (v := (.pointer (some ⟨g8, 0, none⟩))) ?_ ⟨Kept.refl _ _, rfl⟩
        first | rfl | go_simp
      refine Steps.cons (fun x wf Kk hq hdep hold => ?_) ?_
      · try dsimp only
        have h4 : x 4 = (.pointer (some ⟨g8, 0, none⟩)) := hdep 4 (by kernel_rfl)
        have Kq := hq no (fun j hj => by cases (show j ∈ ([] : List Nat) from by (have e : ∀ l : List Nat, l = [] → j ∈ l → j ∈ ([] : List Nat) := fun l h h2 => h ▸ h2); exact e _ (by kernel_rfl) hj))
        clear hq hdep hold
        simp only [h4]
        clear h4
        have cv : wf.cell? ⟨g8, 0, none⟩ = some (.int .i64 (n : Int)) := by rw [cell_of_row wf _ 0 _ _ _ (Kq.undrew.blk hz8.out)]; rfl
        rw [if_pos (by rfl)]
        refine OpY.val (v := (.int .i64 (n : Int))) ?_ ⟨Kept.refl _ _, rfl⟩
        first | rfl | go_simp
      refine Steps.cons (fun x wf Kk hq hdep hold => ?_) ?_
      · try dsimp only
        have h5 : x 5 = (.int .i64 (n : Int)) := hdep 5 (by kernel_rfl)
        clear hq hdep hold
        simp only [h5]
        clear h5
        rw [if_pos (by rfl)]
        refine OpY.val (v := (.int .i64 (n1 : Int))) ?_ ⟨Kept.refl _ _, rfl⟩
        first | rfl | go_simp
      refine Steps.cons (fun x wf Kk hq hdep hold => ?_) ?_
      · try dsimp only
        have h3 : x 3 = (.slice (some ⟨b, o, none⟩) n cap) := hdep 3 (by kernel_rfl)
        have h6 : x 6 = (.int .i64 (n1 : Int)) := hdep 6 (by kernel_rfl)
        clear hq hdep hold
        simp only [h3, h6]
        clear h3 h6
        rw [if_pos (by rfl)]
        refine OpY.val (v := (.pointer (some ⟨b, o + n1 * 35, none⟩))) ?_ ⟨Kept.refl _ _, rfl⟩
        first | rfl | go_simp
      refine Steps.cons (fun x wf Kk hq hdep hold => ?_) ?_
      · try dsimp only
        have h7 : x 7 = (.pointer (some ⟨b, o + n1 * 35, none⟩)) := hdep 7 (by kernel_rfl)
        have Kq := hq no (fun j hj => by cases (show j ∈ ([] : List Nat) from by (have e : ∀ l : List Nat, l = [] → j ∈ l → j ∈ ([] : List Nat) := fun l h h2 => h ▸ h2); exact e _ (by kernel_rfl) hj))
        clear hq hdep hold
        simp only [h7]
        clear h7
        rw [if_pos (by rfl)]
        exact ylem (.tmp 45) rfl b (o + n1 * 35) rfl lE lv ((K7.out.trans' Kq.undrew).rng hlr.out) hlo.out ⟨Kept.refl _ _, rfl⟩
      refine Steps.cons (fun x wf Kk hq hdep hold => ?_) ?_
      · try dsimp only
        have h8 : x 8 = (Ev lE lv) := hdep 8 (by kernel_rfl)
        have Kq := hq no (fun j hj => by cases (show j ∈ ([] : List Nat) from by (have e : ∀ l : List Nat, l = [] → j ∈ l → j ∈ ([] : List Nat) := fun l h h2 => h ▸ h2); exact e _ (by kernel_rfl) hj))
        clear hq hdep hold
        simp only [h8]
        clear h8
        rw [if_pos (by rfl)]
        refine OpY.call (f := 33) (args := #[(Ev lE lv)]) (by go_simp) ?_
        refine (hash_any lE lv wf (hlo.out.kept (K7.out.trans' Kq.undrew)) (hT.out.kept (K7.out.trans' Kq.undrew))).mono ?_
        rintro ed w2 ⟨rfl, k2⟩
        exact ⟨_, rfl, k2, rfl⟩
      refine Steps.cons (fun x wf Kk hq hdep hold => ?_) ?_
      · try dsimp only
        clear hq hdep hold
        rw [if_pos (by rfl)]
        refine OpY.val (v := (.pointer (some ⟨g8, 3, none⟩))) ?_ ⟨Kept.refl _ _, rfl⟩
        first | rfl | go_simp
      refine Steps.cons (fun x wf Kk hq hdep hold => ?_) ?_
      · try dsimp only
        have h10 : x 10 = (.pointer (some ⟨g8, 3, none⟩)) := hdep 10 (by kernel_rfl)
        have h9 : x 9 = (Dg (hashE lE)) := hdep 9 (by kernel_rfl)
        have Kq := hq no (fun j hj => by cases (show j ∈ ([] : List Nat) from by (have e : ∀ l : List Nat, l = [] → j ∈ l → j ∈ ([] : List Nat) := fun l h h2 => h ▸ h2); exact e _ (by kernel_rfl) hj))
        clear hq hdep hold
        simp only [h10, h9]
        clear h10 h9
        rw [if_pos (by rfl)]
        have gz := Kq.undrew.blk hz8.out
        refine OpY.storeMid 26 (.tmp 48) (.tmp 47) rfl g8 3 ((hashE lE).map B).toArray rfl rfl (by rw [Dg_cells (hashE_length _)]; exact there_of gz 3 32 (by simp [entC, Z32l])) (infD (hashE_length _)) (oneD _) ⟨(Kept.refl _ _).setCells (S := fun j => j = g8) (.inl rfl) _ _, ?_⟩
        have := setCells_tail (pre := [.int .i64 (n : Int), .int .i64 k, u]) (mid := Z32l.map B) (vs := (hashE lE).map B) gz (by simp [Z32l, hashE_length])
        exact (by simpa [entC] using this : (wf.setCells g8 3 ((hashE lE).map B)).heap[g8]? = some (.cells (entC (⟨(n : Int), k, xs, hashE lE⟩ : Ent) u).toArray 47 (0, 0)))
      exact Steps.nil _
    · intro x wf Kk hv
      try dsimp only
      have h0 : x 0 = (.pointer (some ⟨g, 0, none⟩)) := hv 0 (by kernel_rfl)
      have h1 : x 1 = (.pointer (some ⟨g, 0, none⟩)) := hv 1 (by kernel_rfl)
      have h2 : x 2 = (.pointer (some ⟨g, 0, none⟩)) := hv 2 (by kernel_rfl)
      have h3 : x 3 = (.slice (some ⟨b, o, none⟩) n cap) := hv 3 (by kernel_rfl)
      have h4 : x 4 = (.pointer (some ⟨g8, 0, none⟩)) := hv 4 (by kernel_rfl)
      have h5 : x 5 = (.int .i64 (n : Int)) := hv 5 (by kernel_rfl)
      have h6 : x 6 = (.int .i64 (n1 : Int)) := hv 6 (by kernel_rfl)
      have h7 : x 7 = (.pointer (some ⟨b, o + n1 * 35, none⟩)) := hv 7 (by kernel_rfl)
      have h8 : x 8 = (Ev lE lv) := hv 8 (by kernel_rfl)
      have h9 : x 9 = (Dg (hashE lE)) := hv 9 (by kernel_rfl)
      have h10 : x 10 = (.pointer (some ⟨g8, 3, none⟩)) := hv 10 (by kernel_rfl)
      have p11 : Pr.p (Sl := (fun _ => (fun j => j = g8))) (Blk g8 (entC (⟨(n : Int), k, xs, hashE lE⟩ : Ent) u).toArray 47) (x 11) wf := hv 11 (by kernel_rfl)
      clear hv
      simp only [h0, h1, h2, h3, h4, h5, h6, h7, h8, h9, h10]
      clear h0 h1 h2 h3 h4 h5 h6 h7 h8 h9 h10
      have k9 := Kk.undrew
      have K8 := hid (K7.out.trans k9 fun j hj e => by have := hg8'.out; have h : j = g8 := e; omega)
      have g68 := hid ((k9.block _ (lt_of_heap g67.out) (by show ¬ w.heap.size = g8; have := hg8'.out; omega)).trans g67.out)
      have hu8 := hid (OwE.kept (e := ⟨(n : Int), k, xs, Z32l⟩) ⟨rfl, hxl.out, hu.out⟩ k9 (fun j hj e => (OwE.ne (e := ⟨(n : Int), k, xs, Z32l⟩) ⟨rfl, hxl.out, hu.out⟩ hz8.out (by decide)) j hj e)).2.2
      have hz9 : Hd (wf.heap[g8]? = some (.cells (entC ⟨(n : Int), k, xs, hashE lE⟩ u).toArray 47 (0, 0))) := ⟨p11⟩
      clear Kk p11 k9 hz8 hu K7 g67
      obtain ⟨hz8, hu, K7, g67⟩ := And.intro hz9 (And.intro hu8 (And.intro K8 g68))
      clear hz9 hu8 K8 g68
      obtain ⟨w3, rfl⟩ : ∃ w3 : World, w3 = wf := ⟨_, rfl⟩
      go_upto_region 10 with fail
      have hE10 := hid (show OwE w3 (⟨(n : Int), k, xs, hashE lE⟩ : Ent) u from ⟨hashE_length _, hxl.out, hu.out⟩)
      have hb3 := hid (hb.out.kept K7.out)
      have hgv : Hd (∀ j, (Value.ownBlock (.slice (some ⟨b, o, none⟩) n cap)) = some j → j < w.heap.size ∧ j ≠ g) := ⟨fun j hj => by
        obtain ⟨_, ⟨h, _⟩ | ⟨q, _, _, h, _, hq, _⟩⟩ := hb.out.own
        · rw [h] at hj; cases hj
        · rw [h] at hj
          have : q = j := by simpa [Value.ownBlock] using hj
          subst this
          refine ⟨lt_of_heap hq, fun e => ?_⟩
          rw [e, hb.out.at_] at hq
          simp at hq⟩
      refine region_flow (S := (fun j => j = g ∨ (Value.ownBlock (.slice (some ⟨b, o, none⟩) n cap)) = some j)) (Sl := (fun i j => if i = 7 then (Value.ownBlock (.slice (some ⟨b, o, none⟩) n cap)) = some j else j = g)) [Is (.pointer (some ⟨g, 0, none⟩)), Is (.pointer (some ⟨g, 0, none⟩)), Is (.pointer (some ⟨g, 0, none⟩)), Is (.pointer (some ⟨g, 0, none⟩)), Is (.slice (some ⟨b, o, none⟩) n cap), Is (Ev (⟨(n : Int), k, xs, hashE lE⟩ : Ent) u), RdIs 35 1 (entC (⟨(n : Int), k, xs, hashE lE⟩ : Ent) u), PAp w3 (.slice (some ⟨b, o, none⟩) n cap) (ps ++ [((⟨(n : Int), k, xs, hashE lE⟩ : Ent), u)]).length (flatE (ps ++ [((⟨(n : Int), k, xs, hashE lE⟩ : Ent), u)])), Is (.pointer (some ⟨g, 0, none⟩)), Is (.pointer (some ⟨g, 0, none⟩)), PSt 7 g w3 (.slice (some ⟨b, o, none⟩) n cap) (ps ++ [((⟨(n : Int), k, xs, hashE lE⟩ : Ent), u)]).length (flatE (ps ++ [((⟨(n : Int), k, xs, hashE lE⟩ : Ent), u)]))] [7, 10] (fun i j h => by split at h; exact Or.inr h; exact Or.inl h) _ (by kernel_rfl) (by kernel_rfl) (by kernel_rfl) (by kernel_rfl) (fun x => by simp only [puts, Act.put, List.map_cons, List.map_nil, Nat.zero_add, Nat.reduceAdd, List.setIfInBounds_toArray, List.set_cons_zero, List.set_cons_succ]; exact rfl) ?_ ?_
      · skip
        refine Steps.cons (fun x wf Kk hq hdep hold => ?_) ?_
        · try dsimp only
          clear hq hdep hold
          rw [if_pos (by rfl)]
          refine OpY.val (v := (.pointer (some ⟨g, 0, none⟩))) ?_ ⟨Kept.refl _ _, rfl⟩
          first | rfl | go_simp
        refine Steps.cons (fun x wf Kk hq hdep hold => ?_) ?_
        · try dsimp only
          clear hq hdep hold
          rw [if_pos (by rfl)]
          refine OpY.val (v := (.pointer (some ⟨g, 0, none⟩))) ?_ ⟨Kept.refl _ _, rfl⟩
          first | rfl | go_simp
        refine Steps.cons (fun x wf Kk hq hdep hold => ?_) ?_
        · try dsimp only
          have h1 : x 1 = (.pointer (some ⟨g, 0, none⟩)) := hdep 1 (by kernel_rfl)
          clear hq hdep hold
          simp only [h1]
          clear h1
          rw [if_pos (by rfl)]
          refine OpY.val (v := (.pointer (some ⟨g, 0, none⟩))) ?_ ⟨Kept.refl _ _, rfl⟩
          first | rfl | go_simp
        refine Steps.cons (fun x wf Kk hq hdep hold => ?_) ?_
        · try dsimp only
          have h2 : x 2 = (.pointer (some ⟨g, 0, none⟩)) := hdep 2 (by kernel_rfl)
          clear hq hdep hold
          simp only [h2]
          clear h2
          rw [if_pos (by rfl)]
          refine OpY.val (v := (.pointer (some ⟨g, 0, none⟩))) ?_ ⟨Kept.refl _ _, rfl⟩
          first | rfl | go_simp
        refine Steps.cons (fun x wf Kk hq hdep hold => ?_) ?_
        · try dsimp only
          have h3 : x 3 = (.pointer (some ⟨g, 0, none⟩)) := hdep 3 (by kernel_rfl)
          have Kq := hq (fun j => (Value.ownBlock (.slice (some ⟨b, o, none⟩) n cap)) = some j) (fun j hj k hk => by obtain ⟨h1, h2⟩ := List.mem_filter.1 hj; rcases (show j = 7 ∨ j = 10 by simpa using h1) with rfl | rfl; ((have hk' : (if 7 = 7 then (Value.ownBlock (.slice (some ⟨b, o, none⟩) n cap)) = some k else k = g) := hk); rw [if_pos rfl] at hk'; exact hk'); (exact Bool.noConfusion (h2.symm.trans (by kernel_rfl : _ = false))))
          clear hq hdep hold
          simp only [h3]
          clear h3
          have cv : wf.cell? ⟨g, 0, none⟩ = some (.slice (some ⟨b, o, none⟩) n cap) := by rw [cell_of_row wf _ 0 _ _ _ ((Kq.undrew.block _ (lt_of_heap hb3.out.at_) (fun h => (hgv.out g h).2 rfl)).trans hb3.out.at_)]; rfl
          rw [if_pos (by rfl)]
          refine OpY.val (v := (.slice (some ⟨b, o, none⟩) n cap)) ?_ ⟨Kept.refl _ _, rfl⟩
          first | rfl | go_simp
        refine Steps.cons (fun x wf Kk hq hdep hold => ?_) ?_
        · try dsimp only
          clear hq hdep hold
          rw [if_pos (by rfl)]
          have gl := (Kk.undrew.block g8 (lt_of_heap hz8.out) (by rintro (h | h); (have := hgw.out; have := hg8'.out; omega); (have := (hgv.out _ h).1; have := hg8'.out; omega))).trans hz8.out
          exact OpY.row 47 (.tmp 8) rfl g8 0 rfl (entC (⟨(n : Int), k, xs, hashE lE⟩ : Ent) u) _ (range_row gl) Tryd.underlying47 rfl (infEl hE10.out.ok) ⟨Kept.refl _ _, rfl⟩
        refine Steps.cons (fun x wf Kk hq hdep hold => ?_) ?_
        · try dsimp only
          have h5 : x 5 = (Ev (⟨(n : Int), k, xs, hashE lE⟩ : Ent) u) := hdep 5 (by kernel_rfl)
          clear hq hdep hold
          simp only [h5]
          clear h5
          rw [if_pos (by rfl)]
          refine OpY.build 42 47 1 _ rfl 35 (.agg ZE) Tryd.underlying42 infEz (by decide) (by decide) (entC (⟨(n : Int), k, xs, hashE lE⟩ : Ent) u) _ rfl (fillE hE10.out.ok) (by rw [entC_length hE10.out.1]) (by decide) (fun w' hg k ho => ⟨k, Rd.of_own ho⟩)
        refine Steps.cons (fun x wf Kk hq hdep hold => ?_) ?_
        · try dsimp only
          have h4 : x 4 = (.slice (some ⟨b, o, none⟩) n cap) := hdep 4 (by kernel_rfl)
          have p6 : Pr.p (Sl := (fun i j => if i = 7 then (Value.ownBlock (.slice (some ⟨b, o, none⟩) n cap)) = some j else j = g)) (RdIs 35 1 (entC (⟨(n : Int), k, xs, hashE lE⟩ : Ent) u)) (x 6) wf := hdep 6 (by kernel_rfl)
          have Kq := hq (fun j => j = g) (fun j hj k hk => by obtain ⟨h1, h2⟩ := List.mem_filter.1 hj; rcases (show j = 7 ∨ j = 10 by simpa using h1) with rfl | rfl; (exact Bool.noConfusion (h2.symm.trans (by kernel_rfl : _ = false))); ((have hk' : (if 10 = 7 then (Value.ownBlock (.slice (some ⟨b, o, none⟩) n cap)) = some k else k = g) := hk); rw [if_neg (by decide)] at hk'; exact hk'))
          clear hq hdep hold
          simp only [h4]
          clear h4
          rw [if_pos (by rfl)]
          have hown := Kq.undrew.ownsRow hb3.out.own (fun j hj e => (hgv.out j hj).2 e)
          rw [hn.out] at hown
          refine OpY.append (.tmp 53) (.tmp 55) 42 _ rfl rfl 47 35 72 TEnts (.slice (some ⟨b, o, none⟩) n cap) n (flatE ps) rfl hown (x 6) 1 (entC (⟨(n : Int), k, xs, hashE lE⟩ : Ent) u) rfl p6 hE10.out.ok.one ?c2 ?c3 ?_
          case c2 => have := hn100.out; unfold maxLen; omega
          case c3 => have := hn100.out; omega
          rintro v' w' h2 h3 h4 _
          refine ⟨h3, ?_, ?_⟩
          · have e : flatE (ps ++ [((⟨(n : Int), k, xs, hashE lE⟩ : Ent), u)]) = flatE ps ++ entC (⟨(n : Int), k, xs, hashE lE⟩ : Ent) u := by simp [flatE]
            rw [e, List.length_append, List.length_singleton, hn.out]; exact h2
          · rcases h4 with h4 | ⟨q, h4, h5⟩
            · exact .inl h4
            · exact .inr ⟨q, h4, by have := Kk.size; (have : w3.heap.size ≤ wf.heap.size := this); omega⟩
        refine Steps.cons (fun x wf Kk hq hdep hold => ?_) ?_
        · try dsimp only
          have h0 : x 0 = (.pointer (some ⟨g, 0, none⟩)) := hdep 0 (by kernel_rfl)
          clear hq hdep hold
          simp only [h0]
          clear h0
          rw [if_pos (by rfl)]
          refine OpY.val (v := (.pointer (some ⟨g, 0, none⟩))) ?_ ⟨Kept.refl _ _, rfl⟩
          first | rfl | go_simp
        refine Steps.cons (fun x wf Kk hq hdep hold => ?_) ?_
        · try dsimp only
          have h8 : x 8 = (.pointer (some ⟨g, 0, none⟩)) := hdep 8 (by kernel_rfl)
          clear hq hdep hold
          simp only [h8]
          clear h8
          rw [if_pos (by rfl)]
          refine OpY.val (v := (.pointer (some ⟨g, 0, none⟩))) ?_ ⟨Kept.refl _ _, rfl⟩
          first | rfl | go_simp
        refine Steps.cons (fun x wf Kk hq hdep hold => ?_) ?_
        · try dsimp only
          have h9 : x 9 = (.pointer (some ⟨g, 0, none⟩)) := hdep 9 (by kernel_rfl)
          have p7 : Pr.p (Sl := (fun i j => if i = 7 then (Value.ownBlock (.slice (some ⟨b, o, none⟩) n cap)) = some j else j = g)) (PAp w3 (.slice (some ⟨b, o, none⟩) n cap) (ps ++ [((⟨(n : Int), k, xs, hashE lE⟩ : Ent), u)]).length (flatE (ps ++ [((⟨(n : Int), k, xs, hashE lE⟩ : Ent), u)]))) (x 7) wf := hdep 7 (by kernel_rfl)
          have Kq := hq (fun j => (Value.ownBlock (.slice (some ⟨b, o, none⟩) n cap)) = some j) (fun j hj k hk => by obtain ⟨h1, h2⟩ := List.mem_filter.1 hj; rcases (show j = 7 ∨ j = 10 by simpa using h1) with rfl | rfl; ((have hk' : (if 7 = 7 then (Value.ownBlock (.slice (some ⟨b, o, none⟩) n cap)) = some k else k = g) := hk); rw [if_pos rfl] at hk'; exact hk'); (exact Bool.noConfusion (h2.symm.trans (by kernel_rfl : _ = false))))
          clear hq hdep hold
          simp only [h9]
          clear h9
          rw [if_pos (by rfl)]
          have gz := (Kq.undrew.block _ (lt_of_heap hb3.out.at_) (fun h => (hgv.out g h).2 rfl)).trans hb3.out.at_
          have cz : wf.cell? ⟨g, 0, none⟩ = some (.slice (some ⟨b, o, none⟩) n cap) := by rw [cell_of_row wf _ 0 _ _ _ gz]; rfl
          have fz : wf.frozen? ⟨g, 0, none⟩ = false := row_free gz 0
          obtain ⟨_, a7, c7, e7, _⟩ := Rd.of_own p7.1
          have ks := (Kept.refl (fun j => j = g) wf).setCell (a := ⟨g, 0, none⟩) (.inl rfl) (x 7)
          have hng : ∀ j, (x 7).ownBlock = some j → ¬ j = g := fun j hj e => by
                obtain ⟨_, ⟨h, _⟩ | ⟨q, _, _, h, _, hq, _⟩⟩ := p7.1
                · rw [h] at hj; cases hj
                · rw [h] at hj
                  have : q = j := by simpa [Value.ownBlock] using hj
                  rw [this, e, gz] at hq
                  simp at hq
          have gz2 := setCell_row gz 0 (x 7)
          have ho7 := ks.ownsRow p7.1 hng
          refine OpY.skip (w' := wf.setCell ⟨g, 0, none⟩ (x 7)) ?_ ⟨ks, (show Pr.r (PSt (Sl := (fun i j => if i = 7 then (Value.ownBlock (.slice (some ⟨b, o, none⟩) n cap)) = some j else j = g)) 7 g w3 (.slice (some ⟨b, o, none⟩) n cap) (ps ++ [((⟨(n : Int), k, xs, hashE lE⟩ : Ent), u)]).length (flatE (ps ++ [((⟨(n : Int), k, xs, hashE lE⟩ : Ent), u)]))) (x 7) undef _ from ⟨by rw [gz2]; rfl, ho7, p7.2⟩)⟩
          rw [e7]
          go_simp
        exact Steps.nil _
      · intro x wf Kk hv
        try dsimp only
        have h0 : x 0 = (.pointer (some ⟨g, 0, none⟩)) := hv 0 (by kernel_rfl)
        have h1 : x 1 = (.pointer (some ⟨g, 0, none⟩)) := hv 1 (by kernel_rfl)
        have h2 : x 2 = (.pointer (some ⟨g, 0, none⟩)) := hv 2 (by kernel_rfl)
        have h3 : x 3 = (.pointer (some ⟨g, 0, none⟩)) := hv 3 (by kernel_rfl)
        have h4 : x 4 = (.slice (some ⟨b, o, none⟩) n cap) := hv 4 (by kernel_rfl)
        have h5 : x 5 = (Ev (⟨(n : Int), k, xs, hashE lE⟩ : Ent) u) := hv 5 (by kernel_rfl)
        have h8 : x 8 = (.pointer (some ⟨g, 0, none⟩)) := hv 8 (by kernel_rfl)
        have h9 : x 9 = (.pointer (some ⟨g, 0, none⟩)) := hv 9 (by kernel_rfl)
        have p10 : Pr.r (Sl := (fun i j => if i = 7 then (Value.ownBlock (.slice (some ⟨b, o, none⟩) n cap)) = some j else j = g)) (PSt 7 g w3 (.slice (some ⟨b, o, none⟩) n cap) (ps ++ [((⟨(n : Int), k, xs, hashE lE⟩ : Ent), u)]).length (flatE (ps ++ [((⟨(n : Int), k, xs, hashE lE⟩ : Ent), u)]))) (x 7) (x 10) wf := hv 10 (by kernel_rfl)
        clear hv
        simp only [h0, h1, h2, h3, h4, h5, h8, h9]
        clear h0 h1 h2 h3 h4 h5 h8 h9
        have k10 := Kk.undrew
        obtain ⟨hbg, hbo, hbn⟩ := p10
        have notS : Hd (∀ j, w.heap.size ≤ j → ¬ (j = g ∨ (Value.ownBlock (.slice (some ⟨b, o, none⟩) n cap)) = some j)) := ⟨fun j hj h => by rcases h with h | h; (have := hgw.out; omega); (have := (hgv.out _ h).1; omega)⟩
        have g68 := hid ((k10.block _ (lt_of_heap g67.out) (notS.out _ (Nat.le_refl _))).trans g67.out)
        have hz10 := hid ((k10.block _ (lt_of_heap hz8.out) (notS.out _ (Nat.le_of_lt hg8'.out))).trans hz8.out)
        have hE11 := hid (hE10.out.kept k10 fun j hj => notS.out j (Nat.le_of_lt (hfu'.out j hj)))
        have hball : Hd (∀ p ∈ ps, OwE wf p.1 p.2) := ⟨fun p hp => (hb3.out.all p hp).kept k10 fun j hj e => by
          rcases e with e | e
          · exact (hb3.out.all p hp).ne hb3.out.at_ (by decide) j hj e
          · obtain ⟨_, ⟨h, _⟩ | ⟨q, _, _, h, _, hq, _⟩⟩ := hb3.out.own
            · rw [h] at e; cases e
            · rw [h] at e
              have : q = j := by simpa [Value.ownBlock] using e
              subst this
              exact (hb3.out.all p hp).ne hq (by decide) q hj rfl⟩
        have hbd : Hd (Bd wf g (x 7) (ps ++ [((⟨(n : Int), k, xs, hashE lE⟩ : Ent), u)])) := ⟨⟨hbg, hbo, fun p hp => by
          rcases List.mem_append.1 hp with h | h
          · exact hball.out p h
          · obtain rfl : p = ((⟨(n : Int), k, xs, hashE lE⟩ : Ent), u) := by simpa using h
            exact hE11.out⟩⟩
        have hnew : Hd (NewOr w (.slice (some ⟨b, o, none⟩) n cap) (x 7)) := ⟨by rcases hbn with h | ⟨q, h, hl⟩; exact .inl h; exact .inr ⟨q, h, by have := K7.out.size; omega⟩⟩
        have K10 := hid (K7.out.of_no (S := (fun j => j = g ∨ (Value.ownBlock (.slice (some ⟨b, o, none⟩) n cap)) = some j)) |>.trans k10 fun _ _ h => h)
        have hn6 := hid (notS.out w.heap.size (Nat.le_refl _))
        have hbn' := hid hbn
        have h3lt : Hd (w.heap.size < w3.heap.size) := ⟨lt_of_heap g67.out⟩
        generalize x 7 = vN at hbd hnew hbn'
        clear Kk k10 hbg hbo hbn hball hE10 hb3 g67 hz8 hu K7
        have hok11 := hid hE11.out.ok
        go_wp2_with (refine le rfl _ rfl g8 rfl (⟨(n : Int), k, xs, hashE lE⟩ : Ent) u hz10.out hok11.out ?_)
        refine (copied_any (⟨(n : Int), k, xs, hashE lE⟩ : Ent) u wf hE11.out.ok).mono ?_
        rintro ed w5 ⟨vr, rfl, or5, k5, nr5⟩
        have g69 := hid (k5.blk g68.out)
        have hzs := hid ZE_size
        have hokr := hid or5.ok
        have g7 := hid (setRow_heap w5 w.heap.size _ (entC (⟨(n : Int), k, xs, hashE lE⟩ : Ent) vr).toArray _ _ g69.out)
        have ks := (Kept.refl (fun j => j = w.heap.size) w5).setRow (g := w.heap.size) (.inl rfl) (entC (⟨(n : Int), k, xs, hashE lE⟩ : Ent) vr).toArray
        have K11 : Hd (Kept (fun j => j = g ∨ (Value.ownBlock (.slice (some ⟨b, o, none⟩) n cap)) = some j) w (w5.setRow w.heap.size (entC (⟨(n : Int), k, xs, hashE lE⟩ : Ent) vr).toArray)) := ⟨(K10.out.trans (k5.of_no (S := (fun j => j = g ∨ (Value.ownBlock (.slice (some ⟨b, o, none⟩) n cap)) = some j))) fun _ _ h => h).trans ks fun j hj e => by have e : j = w.heap.size := e; omega⟩
        have hbd5 := hbd.out.kept k5
        have hbdF : Hd (Bd (w5.setRow w.heap.size (entC (⟨(n : Int), k, xs, hashE lE⟩ : Ent) vr).toArray) g vN (ps ++ [((⟨(n : Int), k, xs, hashE lE⟩ : Ent), u)])) := ⟨by
          refine ⟨?_, ks.ownsRow hbd5.own fun j hj e => ?_, fun p hp => (hbd5.all p hp).kept ks fun j hj e => (hbd5.all p hp).ne g69.out (by decide) j hj e⟩
          · rw [setRow_other _ _ _ _ (by have := hgw.out; omega)]; exact hbd5.at_
          · have e : j = w.heap.size := e
            rcases hbn'.out with h | ⟨q, h, hl⟩
            · rw [hj] at h; have := (hgv.out j h.symm).1; omega
            · rw [hj] at h
              have : j = q := by simpa using h
              have := h3lt.out; omega⟩
        have hrF : Hd (OwE (w5.setRow w.heap.size (entC (⟨(n : Int), k, xs, hashE lE⟩ : Ent) vr).toArray) (⟨(n : Int), k, xs, hashE lE⟩ : Ent) vr) := ⟨or5.kept ks fun j hj e => or5.ne g69.out (by decide) j hj e⟩
        have hnr : Hd (New w vr) := ⟨frNew fun j hj => Nat.le_trans (by have := lt_of_heap g68.out; omega) (nr5.fr (Nat.le_refl _) j hj)⟩
        have hdis : Hd (∀ j, vr.ownBlock = some j → u.ownBlock = some j → False) := ⟨fun j h1 h2 => by have := nr5.fr (Nat.le_refl _) j h1; have := hE11.out.lt j h2; omega⟩
        have hvc : Hd (∀ j, u.ownBlock = some j → w.heap.size ≤ j) := ⟨fun j h => Nat.le_of_lt (hfu'.out j h)⟩
        clear or5 k5 nr5 ks hbd5 hbd hE11 g68 hz10 K10
        go_wp2_with (with_reducible refine se rfl _ _ rfl w.heap.size rfl (⟨(n : Int), k, xs, hashE lE⟩ : Ent) vr rfl _ g69.out hzs.out hokr.out ?_)
        refine bodyPost_ret (v := .tuple #[Ev (⟨(n : Int), k, xs, hashE lE⟩ : Ent) vr, .int .i64 0]) ?_ rfl ?_
        · exact results_ev_tmp rfl _ _ w.heap.size (⟨(n : Int), k, xs, hashE lE⟩ : Ent) vr _ rfl rfl g7.out hokr.out
        · exact ⟨vN, u, vr, by rw [hent.out], by rw [hent.out]; exact hbdF.out, by rw [hent.out]; exact hrF.out, K11.out, hnew.out, hnr.out, hdis.out, hvc.out⟩
theorem post_any (g : Nat) (v : Value) (ps : List (Ent × Value)) (k : Int) (vb : Value) (xs : List UInt8) (w : World) (hb : Bd w g v ps) (hp : poss k = true) (hn : ps.length ≤ 100) (hxl : xs.length ≤ 1000) (hr : Rd w 1 vb xs.length (xs.map B)) (hT : Tab w) :
    Calls Tryd.prog 27 #[.pointer (some ⟨g, 0, none⟩), .int .i64 k, vb] w fun ed w' => ∃ v' vc vr, ed = .returned (.tuple #[Ev (nxt ps k xs) vr, .int .i64 0]) ∧ Bd w' g v' (ps ++ [(nxt ps k xs, vc)]) ∧ OwE w' (nxt ps k xs) vr ∧ Kept (fun j => j = g ∨ v.ownBlock = some j) w w' ∧ NewOr w v v' ∧ New w vr ∧ (∀ j, vr.ownBlock = some j → vc.ownBlock = some j → False) ∧ (∀ j, vc.ownBlock = some j → w.heap.size ≤ j) := by
  by_cases h : ps.length = 0
  · exact post_first g v ps k vb xs w hb hp hn h hxl hr hT
  · exact post_more g v ps k vb xs w hb hp hn (by omega) hxl hr hT
end Go.Proofs.YtknbkhmpnanegaaDoor
