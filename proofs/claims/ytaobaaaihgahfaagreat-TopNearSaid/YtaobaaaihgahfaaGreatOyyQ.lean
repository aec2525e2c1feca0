/- A range over a function that yields once. -/
import Derived.Test.YtaobaaaihgahfaaGreatSfAQ
import Derived.RangeFuncOwn
import Derived.RangeFuncCalls
import Derived.TacticsInMore
namespace Go.Mk
open Go.RowKit
/-- Rows of cells are kept. -/
structure KC (w w' : World) : Prop where
  os : w'.os = w.os
  tape : w'.tape = w.tape
  output : w'.output = w.output
  size : w.heap.size ≤ w'.heap.size
  cells : ∀ (j : Nat) (c : Array Value) (t : TypeId) (fr : Nat × Nat), w.heap[j]? = some (.cells c t fr) → w'.heap[j]? = some (.cells c t fr)
theorem KC.refl (w : World) : KC w w := ⟨rfl, rfl, rfl, Nat.le_refl _, fun _ _ _ _ h => h⟩
theorem KC.trans {a b d : World} (h : KC a b) (k : KC b d) : KC a d := ⟨k.os.trans h.os, k.tape.trans h.tape, k.output.trans h.output, Nat.le_trans h.size k.size, fun j x t f hj => k.cells j x t f (h.cells j x t f hj)⟩
theorem KC.of {w w' : World} (k : Kept no w w') : KC w w' := ⟨k.os, k.tape, k.output, k.size, fun j _ _ _ h => (k.block j (Array.getElem?_eq_some_iff.1 h).1 id).trans h⟩
theorem KC.put {w : World} {l : Nat} {o o' : Obj} (h : w.heap[l]? = some o) (ho : o.isCells = false) : KC w (w.putObj l o') := ⟨rfl, rfl, rfl, by simp, fun j _ _ _ hj => by
  have : j ≠ l := fun e => by subst e; rw [hj] at h; cases h; cases ho
  exact (World.putObj_heap_other this).trans hj⟩
theorem KC.cell {w w' : World} (k : KC w w') {a : Addr} {v : Value} (h : w.cell? a = some v) : w'.cell? a = some v := by
  obtain ⟨o, ho, hc⟩ := cells_of_cell h
  cases o with
  | cells c t f => exact (World.cell?_of_block ((k.cells _ c t f ho).trans ho.symm)).trans h
  | _ => cases hc
theorem KC.rd {w w' : World} (k : KC w w') {sz n : Nat} {v : Value} {xs : List Value} (h : Rd w sz v n xs) : Rd w' sz v n xs := by
  (obtain ⟨h1, ao, cap, h2, h3, h4, h5⟩ := h); (refine ⟨h1, ao, cap, h2, h3, h4, h5.imp_right ?_⟩); (rintro ⟨b, o, h6, h7⟩); (exact ⟨b, o, h6, fun j u hu => k.cell (h7 j u hu)⟩)
/-- Rows of cells are kept, and all that lies below B. -/
def Sx (B : Nat) (w w' : World) : Prop := KC w w' ∧ ∀ j, j < B → w'.heap[j]? = w.heap[j]?
theorem Sx.refl (B : Nat) (w : World) : Sx B w w := ⟨KC.refl w, fun _ _ => rfl⟩
theorem Sx.trans {B : Nat} {a b c : World} (h : Sx B a b) (k : Sx B b c) : Sx B a c := ⟨h.1.trans k.1, fun j hj => (k.2 j hj).trans (h.2 j hj)⟩
theorem Sx.of {B : Nat} {w w' : World} (k : Kept no w w') (hB : B ≤ w.heap.size) : Sx B w w' := ⟨KC.of k, fun j hj => k.block j (by omega) id⟩
theorem Sx.le {B B' : Nat} {w w' : World} (k : Sx B w w') (h : B' ≤ B) : Sx B' w w' := ⟨k.1, fun j hj => k.2 j (by omega)⟩
theorem Sx.put {B : Nat} {w : World} {l : Nat} {o o' : Obj} (h : w.heap[l]? = some o) (ho : o.isCells = false) (hB : B ≤ l) : Sx B w (w.putObj l o') := ⟨KC.put h ho, fun j hj => World.putObj_heap_other (by omega)⟩
theorem Kept.sx {S : Nat → Prop} {w w1 w2 : World} (h : Kept S w w1) (k : Sx w.heap.size w1 w2) : Kept S w w2 := ⟨k.1.os.trans h.os, k.1.tape.trans h.tape, k.1.output.trans h.output, Nat.le_trans h.size k.1.size, fun j hj hn => (k.2 j hj).trans (h.block j hj hn)⟩
theorem kept_put {w : World} {l : Nat} {o' : Obj} : Kept (fun j => j = l) w (w.putObj l o') := ⟨rfl, rfl, rfl, by simp, fun j _ hj => World.putObj_heap_other hj⟩
/-- A function that calls yield once: with a value of which Z holds; T: what yield may turn. -/
def OneY (P : Program) (gf : Nat) (lb : Array Value) (Z : Value → World → Prop) (T : Nat → Prop) (W : World) : Prop :=
  ∀ (l : Nat) (R : Value → World → World → Prop), (∀ v W1, Kept no W W1 → Z v W1 → YieldAt Fence.wide 7 P l #[v] W1 fun e W' => e = .returned (.bool true) ∧ R v W1 W' ∧ Kept T W1 W') →
    Calls P gf (#[.func (.yield l) #[] #[]] ++ lb) W fun e W' => (∃ u, e = .returned u) ∧ ∃ v W1 W2, Kept no W W1 ∧ Z v W1 ∧ R v W1 W2 ∧ Kept T W1 W2 ∧ Sx W.heap.size W2 W'
theorem range_one {P : Program} {g : Operand} {ps : Array Tmp} {assign body : Code} {Q : Exit → Act → World → Prop} {a : Act} {w : World} {gf : Nat} {lb : Array Value} {Z : Value → World → Prop} {T : Nat → Prop} (R : Value → World → World → Prop)
    (hg : a.eval g = .func (.func gf) #[] lb) (eg : ∀ args w, (callFunc gf args).run P w = .ok (.enter gf args) w) (hps : ps.size = 1)
    (hZ : ∀ v W W', KC W W' → Z v W → Z v W') (hT : ∀ j, T j → j < w.heap.size)
    (hc : ∀ (l : Nat) (W : World), w.heap.size ≤ l → l < W.heap.size → Kept no w W → OneY P gf lb Z (fun j => T j ∨ j = l) W)
    (hround : ∀ (l : Nat) (v : Value) (W : World), w.heap.size ≤ l → Kept no w W → Z v W → ∀ K : Act → World → Prop, (∀ a', (∀ W', Kept no w W' → Z v W' → body.wpIn (Fence.wide.inRound l) 7 P (fun e _ W2 => e = .normal ∧ R v W' W2 ∧ Kept T W' W2) a' W') → K a' W) →
      assign.wpIn (Fence.wide.inRound l) 7 P (Exit.then K (fun _ _ _ => False)) { tmps := (ps.zip #[v]).foldl (fun t (p, v) => t.setIfInBounds p v) a.tmps, defers := [] } W)
    (hdone : ∀ (D : Nat) (v : Value) (W1 W2 W3 : World), w.heap.size ≤ D → Kept no w W1 → Z v W1 → R v W1 W2 → Kept T W1 W2 → Sx w.heap.size W2 W3 → W3.heap[D]? = some (.deferred (some [])) → Q .normal { a with defers := { target := .collected D, args := #[] } :: a.defers } W3) :
    (Code.rangeFunc g ps assign body).wp P Q a w := by
  (refine (wpIn_wide (n := 9)).1 (wpIn_rangeFunc ?_)); (intro fn hfn); (obtain ⟨rec, hrec⟩ : ∃ rec : LoopState → Option Code → Loop, rec = fun st pe => { state := st, pending := pe, fn, tmps := a.tmps, params := ps, assign, body, defers := w.heap.size } := ⟨_, rfl⟩); (obtain ⟨W1, hW1⟩ : ∃ W1, (w.alloc (.deferred (some []))).alloc (.loop (rec .ready none)) = W1 := ⟨_, rfl⟩)
  have hL1 : W1.heap[w.heap.size + 1]? = some (.loop (rec .ready none)) := by
    rw [← hW1]; have := World.alloc_heap_new (w.alloc (.deferred (some []))) (.loop (rec .ready none)); rwa [World.size_alloc] at this
  have hK1 : W1.heap[w.heap.size]? = some (.deferred (some [])) := by
    rw [← hW1]; exact (Below.heap_alloc _ _ _ (by simp)).trans (World.alloc_heap_new w _)
  (have k01 : Kept no w W1 := by rw [← hW1]; exact ((Kept.refl no w).alloc _).alloc _); (have hsz : W1.heap.size = w.heap.size + 2 := by rw [← hW1]; simp); (obtain ⟨l, hl⟩ : ∃ l, w.heap.size + 1 = l := ⟨_, rfl⟩); (rw [hl] at hL1); (have hTl : ∀ j, T j → j ≠ l := fun j hj e => by have := hT j hj; omega)
  refine ⟨l, [{ target := .collected w.heap.size, args := #[] }], W1, { target := .fn (.func gf) lb, args := #[.func (.yield l) #[] #[]] }, W1, gf,
    #[.func (.yield l) #[] #[]] ++ lb, W1, ?_, ?_, ?_, ?_, fun _ => by omega, ?_⟩
  · rw [← hW1, hrec, ← hl]; exact run_enterLoop_outer _ _ _ _ _
  · simp only [resolve, hg]
    simp [go_sem]
  · intro f' hf'; simp [Target.leads] at hf'; subst hf'; trivial
  · simp [invoke, go_sem, eg]
  · refine callsIn_wide.2 ((hc l W1 (by omega) (by omega) k01 l (fun v X Y => ∃ X' Y', Kept no w X' ∧ Z v X' ∧ R v X' Y' ∧ Kept T X' Y' ∧ Y'.heap[l]? = some (.loop { rec .ready none with state := .busy }) ∧ Y'.heap[w.heap.size]? = some (.deferred (some [])) ∧ Y = Y'.putObj l (.loop (rec .ready none))) ?_).mono ?_)
    · -- the round
      (intro v X kX hzX); (have hlX : X.heap[l]? = some (.loop (rec .ready none)) := (kX.block l (by omega) id).trans hL1); (have hkX : X.heap[w.heap.size]? = some (.deferred (some [])) := (kX.block _ (by omega) id).trans hK1); (have hlt : l < X.heap.size := (Array.getElem?_eq_some_iff.1 hlX).1); (have hy := run_yield (P := P) (args := #[v]) hlX (by rw [hrec]; simp [hps])); (rw [hrec] at hy); (refine ⟨fn, _, assign, body, hy, roundIn_of_wpIn hfn (hround l v X (by omega) (k01.trans' kX) hzX _ fun a' hb => ?_)⟩); (refine ⟨_, run_beginRound hlX (by rw [hrec]), ?_⟩); (obtain ⟨X', hX'⟩ : ∃ X', X.putObj l (.loop { rec .ready none with state := .busy }) = X' := ⟨_, rfl⟩); (rw [hX']); (have hl2 : X'.heap[l]? = some (.loop { rec .ready none with state := .busy }) := by rw [← hX']; exact World.putObj_heap_same hlt); (have hk2 : X'.heap[w.heap.size]? = some (.deferred (some [])) := by rw [← hX']; exact (World.putObj_heap_other (by omega)).trans hkX); (have kX' : Kept (fun j => j = l) X X' := by rw [← hX']; exact kept_put); (have hz' : Z v X' := hZ v X X' (by rw [← hX']; exact KC.put hlX rfl) hzX); (have kw' : Kept no w X' := (k01.trans' kX).trans kX' fun j hj (e : j = l) => by omega); (refine wpIn_mono (hb X' kw' hz') ?_); (rintro e a3 Y' ⟨rfl, hR, hKT⟩); (have hl3 : Y'.heap[l]? = some (.loop { rec .ready none with state := .busy }) := (hKT.block l (Array.getElem?_eq_some_iff.1 hl2).1 fun h => hTl l h rfl).trans hl2); (have hk3 : Y'.heap[w.heap.size]? = some (.deferred (some [])) := (hKT.block _ (Array.getElem?_eq_some_iff.1 hk2).1 fun h => by have := hT _ h; omega).trans hk2); (have hend := run_endRound (P := P) none hl3); (have hend2 : (Instr.endRound l none).run P Y' = .ok (.bool true) (Y'.putObj l (.loop (rec .ready none))) := by rw [hend, hrec]; rfl); (refine ⟨_, _, hend2, rfl, ⟨X', Y', kw', hz', hR, hKT, hl3, hk3, rfl⟩, ?_⟩); (exact ((kX'.mono fun j _ e => .inr e).trans (hKT.mono fun j _ h => Or.inl h) fun _ _ h => h).trans (kept_put.mono fun j _ e => Or.inr e) fun _ _ h => h)
    · (rintro e W2 ⟨⟨u, rfl⟩, v, X, Y, kX, hzX, ⟨X', Y', kw', hz', hR, hKT, hl3, hk3, rfl⟩, _, hsx⟩); (have hl4 : (Y'.putObj l (.loop (rec .ready none))).heap[l]? = some (.loop (rec .ready none)) := World.putObj_heap_same (Array.getElem?_eq_some_iff.1 hl3).1); (have hl5 : W2.heap[l]? = some (.loop (rec .ready none)) := (hsx.2 l (by omega)).trans hl4); (have hk5 : W2.heap[w.heap.size]? = some (.deferred (some [])) := (hsx.2 _ (by omega)).trans ((World.putObj_heap_other (by omega)).trans hk3)); (have hel := run_endLoop (P := P) hl5 (by rw [hrec]; simp)); (rw [hrec] at hel); (refine ⟨none, _, hel, ?_⟩); (refine hdone w.heap.size v X' Y' _ (Nat.le_refl _) kw' hz' hR hKT ?_ ((World.putObj_heap_other (by omega)).trans hk5)); (exact ((Sx.put hl3 rfl (by omega)).trans (hsx.le (by omega))).trans (Sx.put hl5 rfl (by omega)))
/-- Leaving a function that has ranged over functions: rows of cells are kept. -/
theorem leaves_marksK {F : Fence} {n : Nat} {P : Program} {fn : Func} {tmps : Array Value} {R : Ending → World → Prop} {v : Value} (hres : ∀ w, (results fn tmps).run P w = .ok v w) (B : Nat) :
    ∀ (ds : List Nat) (w : World), ds.Nodup → (∀ D ∈ ds, B ≤ D ∧ w.heap[D]? = some (.deferred (some []))) → (∀ w', Sx B w w' → R (.returned v) w') → LeavesInM F n P fn tmps R (ds.map markOf) .returning w := by
  intro ds
  induction ds with
  | nil => intro w _ _ h; exact ⟨v, hres w, h w (Sx.refl _ _)⟩
  | cons D ds ih =>
    (intro w hnd hD h); (rw [List.nodup_cons] at hnd); (have hDD := hD D List.mem_cons_self); (refine ⟨by simp, .inl ⟨D, _, rfl, run_takeDeferred hDD.2, ?_⟩⟩); (have hb : Sx B w (w.putObj D (.deferred none)) := Sx.put hDD.2 rfl hDD.1); (exact ih _ hnd.2 (fun E hE => ⟨(hD E (List.mem_cons_of_mem _ hE)).1, (World.putObj_heap_other (fun e => hnd.1 (by rw [← e]; exact hE))).trans (hD E (List.mem_cons_of_mem _ hE)).2⟩) fun w' hw => h w' (hb.trans hw))
end Go.Mk

/- suffice.orders: where all orders but one are blocked, that one comes (printed by gen_oy.py). -/
namespace Go.Nr
open Go.Pil Go.Mg
/-- All orders that end so are blocked, but for one. -/
inductive OneO (n : Nat) (l : List As) : List Int → List Int → Prop
  | leaf {T : List Int} : T.length = n → (l.any fun x => ctr x T) = false → OneO n l T T
  | node {T zs : List Int} {c0 : Nat} : T.length < n → (l.any fun x => ctr x T) = false → c0 < n → (c0 : Int) ∉ T → (∀ c : Nat, c < n → (c : Int) ∉ T → c ≠ c0 → Blk n l ((c : Int) :: T)) → OneO n l ((c0 : Int) :: T) zs → OneO n l T zs
end Go.Nr
namespace Go.Proofs.YtaobaaaihgahfaaGreat
open Go.RowKit Go.Mk Go.Pil Go.Mg Go.Nr Go.Sort
attribute [local go_sem] Oper.semAt_some
theorem yield_any {P : Program} {m : Nat} (m' : Nat) {l : Nat} {args : Array Value} {W : World} {R : Ending → World → Prop} (h : YieldAt Fence.wide m P l args W R) : YieldAt Fence.wide m' P l args W R := by
  (obtain ⟨fn, tmps, assign, body, hy, hR⟩ := h); (exact ⟨fn, tmps, assign, body, hy, hR.1, fun c cs _ => hR.2 c cs (room_wide _)⟩)
theorem ends_sx {fn : Func} (h : fn.results = #[]) {tmps : Array Value} {P : Program} {R : Ending → World → Prop} (B : Nat) (ds : List Nat) (w : World) (hnd : ds.Nodup) (hd : ∀ D ∈ ds, B ≤ D ∧ w.heap[D]? = some (.deferred (some []))) (hR : ∀ w', Sx B w w' → R (.returned (.tuple #[])) w') :
    LeavesInM Fence.wide 9 P fn tmps R (ds.map markOf) .returning w := leaves_marksK (fun w => results_none h _ _ w) B ds w hnd hd hR
/-- What orders$1 reads. -/
structure OMem (n : Nat) (vl : Value) (xs : List (As × Value)) (vT : Value) (T : List Int) (b1 b2 b3 : Nat) (w : World) : Prop where
  l : RdA w vl xs
  t : RdZ w vT T
  o : OrdAt w b1 b2 b3 n vl vT
theorem OMem.kept {n : Nat} {vl : Value} {xs : List (As × Value)} {vT : Value} {T : List Int} {b1 b2 b3 : Nat} {w w' : World} (h : OMem n vl xs vT T b1 b2 b3 w) (k : Kept no w w') : OMem n vl xs vT T b1 b2 b3 w' := ⟨h.l.kept k, RdZ.kept h.t k, h.o.kept k⟩
def PRgN {Sl : Nat → Nat → Prop} (B : Nat) (zs : List Int) : Pr Sl := soft (fun v w => RdZ w v zs ∧ ∀ j, v.ownBlock = some j → B ≤ j) fun _ _ _ ⟨h1, h2⟩ k => ⟨RdZ.kept h1 k, h2⟩
def POrN {Sl : Nat → Nat → Prop} (B n : Nat) (vl : Value) (T : List Int) : Pr Sl := soft (fun v w => ∃ d1 d2 d3 vU, v = ordV d1 d2 d3 ∧ OrdAt w d1 d2 d3 n vl vU ∧ RdZ w vU T ∧ (∀ j, vU.ownBlock = some j → B ≤ j) ∧ B ≤ d1 ∧ B ≤ d2 ∧ B ≤ d3) fun _ _ _ ⟨a, b, c, u, h1, h2, h3, h4⟩ k => ⟨a, b, c, u, h1, h2.kept k, RdZ.kept h3 k, h4⟩
set_option maxRecDepth 100000 in
set_option maxHeartbeats 4000000 in
theorem ordYL_any (n : Nat) (xs : List (As × Value)) (al : Option Addr) (cl : Nat) (hn1 : 1 ≤ n) (hn : n ≤ 7) (hok : ∀ x ∈ xs, Ok n x.1) (T : List Int) (vT : Value) (b1 b2 b3 : Nat) (Tt : Nat → Prop) (w : World) (hT : Tl n T) (hlt : T.length = n) (hct : (xs.any fun x => ctr x.1 T) = false) (hM : OMem n (.slice al xs.length cl) xs vT T b1 b2 b3 w) :
    OneY Tryz.prog 191 #[.pointer (some ⟨b1, 0, none⟩), .pointer (some ⟨b2, 0, none⟩), .pointer (some ⟨b3, 0, none⟩)] (fun v w => RdZ w v T) Tt w := by
  (intro l R hY); (obtain ⟨w1, hw1, g1, k1⟩ := alloc_named w (.cells #[.func (.yield l) #[] #[]] 237)); (have k01 := hid k1); (have hM1 := hid (hM.kept k1)); (have o1 := hM1.out.o.n); (have o2 := hM1.out.o.l); (have o3 := hM1.out.o.t); (have HC := contra_any n xs (.slice al xs.length cl) vT T w1 hn1 hn hok hM1.out.l hT hM1.out.t); (rw [hct] at HC); (replace HC := hid HC); (obtain ⟨aT, cT, rfl, _, _⟩ := Rd.shape2 hM.t); (obtain ⟨BY, hBY⟩ : ∃ g, w.heap.size = g := ⟨_, rfl⟩); (rw [hBY] at g1); (have g1' := hid g1); (have hlt' := hid hlt); (rw [hlt] at HC o3 hM hM1); (obtain ⟨ll, hll⟩ : ∃ m, xs.length = m := ⟨_, rfl⟩); (rw [hll] at HC o2 hM hM1); (have hee : ((n : Int) == (n : Int)) = true := beq_self_eq_true _); (replace hY := hid hY); (replace hw1 := hid hw1); (replace hBY := hid hBY); (clear g1 k1 hct hM hlt hT hok hll); (refine calls_marks Tryz.func191 rfl ?_); (simp only [Tryz.ntmps191, List.size_toArray, List.length_cons, List.length_nil, Nat.reduceAdd, Nat.reduceSub, Array.replicate_succ, Array.replicate_zero, List.push_toArray, List.append_toArray, List.nil_append, List.cons_append]); (go_upto_region 1 with fail); (try rw [hBY.out]); (rw [← hw1.out]); (go_wp2_with fail); (with_reducible refine HC.out.mono ?_); (rintro e w2 ⟨rfl, k2⟩); (have k02 := hid (k01.out.trans' k2)); (have hM2 := hid (hM1.out.kept k2)); (have bx := k2.blk g1'.out); (clear HC o1 o2 o3 k2 hw1 hM1 g1'); (have o1 := hM2.out.o.n); (have o3 := hM2.out.o.t); (have cb : w2.cell? ⟨BY, 0, none⟩ = some (.func (.yield l) #[] #[]) := cell_at bx rfl); (obtain ⟨fn', tmps', assign', body', hy, hR⟩ := yield_any 8 (hY.out _ w2 k02.out hM2.out.t)); (have hz := hid hM2.out.t); (go_upto_region 3 with fail); (refine (wpIn_wide (n := 9)).1 ?_)
  gi_wp2
  (refine hR.mono ?_); (rintro e w3 ⟨rfl, hR3, hK3⟩)
  gi_wp2
  (go_wp2); (exact ends_sx rfl w.heap.size [] w3 List.nodup_nil (fun D hD => by cases hD) fun w' hs => ⟨⟨_, rfl⟩, _, w2, w3, k02.out, hz.out, hR3, hK3, hs⟩)
set_option maxRecDepth 100000 in
set_option maxHeartbeats 4000000 in
theorem ordYN_any (n : Nat) (xs : List (As × Value)) (al : Option Addr) (cl : Nat) (hn1 : 1 ≤ n) (hn : n ≤ 7) (hok : ∀ x ∈ xs, Ok n x.1) (T zs : List Int) (vT : Value) (b1 b2 b3 : Nat) (Tt : Nat → Prop) (w : World) (c0 : Nat) (hT : Tl n T) (hlt : T.length < n) (hct : (xs.any fun x => ctr x.1 T) = false) (hc0 : c0 < n) (hc0T : (c0 : Int) ∉ T)
    (hB : ∀ c : Nat, c < n → (c : Int) ∉ T → c ≠ c0 → Blk n (xs.map (·.1)) ((c : Int) :: T)) (hTt : ∀ j, Tt j → j < w.heap.size) (hst : ∀ W', Kept Tt w W' → OMem n (.slice al xs.length cl) xs vT T b1 b2 b3 W')
    (ih : ∀ (vU : Value) (c1 c2 c3 : Nat) (T' : Nat → Prop) (W : World), (∀ j, T' j → j < W.heap.size) → (∀ W', Kept T' W W' → OMem n (.slice al xs.length cl) xs vU ((c0 : Int) :: T) c1 c2 c3 W') → OneY Tryz.prog 191 #[.pointer (some ⟨c1, 0, none⟩), .pointer (some ⟨c2, 0, none⟩), .pointer (some ⟨c3, 0, none⟩)] (fun v w => RdZ w v zs) T' W) :
    OneY Tryz.prog 191 #[.pointer (some ⟨b1, 0, none⟩), .pointer (some ⟨b2, 0, none⟩), .pointer (some ⟨b3, 0, none⟩)] (fun v w => RdZ w v zs) Tt w := by
  (intro l R hY); (have hM := hst w (Kept.refl _ _)); (obtain ⟨w1, hw1, g1, k1⟩ := alloc_named w (.cells #[.func (.yield l) #[] #[]] 237)); (have k01 := hid k1); (have hM1 := hid (hM.kept k1)); (have o1 := hM1.out.o.n); (have o2 := hM1.out.o.l); (have o3 := hM1.out.o.t); (have HC := contra_any n xs (.slice al xs.length cl) vT T w1 hn1 hn hok hM1.out.l hT hM1.out.t); (rw [hct] at HC); (replace HC := hid HC); (have hOB := hid (fun (c : Nat) (hc : c < n) (hm : (c : Int) ∉ T) (hne : c ≠ c0) (vU : Value) (l' e1 e2 e3 : Nat) (W : World) (h1 : RdA W (.slice al xs.length cl) xs) (h2 : RdZ W vU ((c : Int) :: T)) (h3 : OrdAt W e1 e2 e3 n (.slice al xs.length cl) vU) => ordB_any n xs al cl hn1 hn hok n ((c : Int) :: T) vU l' e1 e2 e3 W (by omega) (hT.kid ⟨⟨by omega, by omega⟩, hm⟩) (hB c hc hm hne) h1 h2 h3)); (obtain ⟨aT, cT, rfl, _, _⟩ := Rd.shape2 hM.t); (obtain ⟨lT, hlT⟩ : ∃ m, T.length = m := ⟨_, rfl⟩); (obtain ⟨ll, hll⟩ : ∃ m, xs.length = m := ⟨_, rfl⟩); (obtain ⟨BY, hBY⟩ : ∃ g, w.heap.size = g := ⟨_, rfl⟩); (rw [hBY] at g1); (have g1' := hid g1); (rw [hlT] at HC o3 hM hM1 hst hlt); (rw [hll] at HC o2 hM hM1 hst ih hOB); (have hln : ((lT : Int) == (n : Int)) = false := beq_eq_false_iff_ne.2 (by omega)); (have hw1s : w1.heap.size = w.heap.size + 1 := by rw [hw1]; simp); (replace hY := hid hY); (replace hw1 := hid hw1); (replace hBY := hid hBY); (replace hst := hid hst); (replace ih := hid ih); (replace hTt := hid hTt); (replace hlT := hid hlT); (replace hc0T := hid hc0T); (replace hw1s := hid hw1s); (have hl7 := len_le hT); (rw [hlT.out] at hl7); (clear g1 k1 hct hM hT hok hll hB); (refine calls_marks Tryz.func191 rfl ?_); (simp only [Tryz.ntmps191, List.size_toArray, List.length_cons, List.length_nil, Nat.reduceAdd, Nat.reduceSub, Array.replicate_succ, Array.replicate_zero, List.push_toArray, List.append_toArray, List.nil_append, List.cons_append]); (go_upto_region 1 with fail); (try rw [hBY.out]); (rw [← hw1.out]); (go_wp2_with fail); (with_reducible refine HC.out.mono ?_); (rintro e w2 ⟨rfl, k2⟩); (have k12 := hid k2); (have hM2 := hid (hM1.out.kept k2)); (clear HC o1 o2 o3 k2 hw1 hM1); (have o1 := hM2.out.o.n); (have o2 := hM2.out.o.l); (have o3 := hM2.out.o.t); (go_upto_region 5 with fail); (clear o1 o2 o3 hln hM2); (refine wp_loop (fun a wr => ∃ (c : Nat) (ds : List Nat) (u5 u6 u20 u21 u22 u23 u24 u25 u26 u27 u28 u29 u30 u31 u32 u33 u34 u35 u36 u37 : Value), a = { tmps := #[.func (.yield l) #[] #[], .pointer (some ⟨b1, 0, none⟩), .pointer (some ⟨b2, 0, none⟩), .pointer (some ⟨b3, 0, none⟩), .pointer (some ⟨BY, 0, none⟩), u5, u6, .int .i64 (n : Int), .slice al ll cl, .slice aT lT cT, .bool false, .slice aT lT cT, .int .i64 (lT : Int), .int .i64 (n : Int), .bool false, undef, undef, undef, .int .i64 (n : Int), .int .i64 (c : Int), u20, u21, u22, u23, u24, u25, u26, u27, u28, u29, u30, u31, u32, u33, u34, u35, u36, u37], defers := ds.map markOf } ∧ c ≤ n ∧ Hd (Kept Tt w1 wr) ∧ Hd ((c ≤ c0 ∧ Kept no w1 wr) ∨ (c0 < c ∧ ∃ v W1 W2, Kept no w W1 ∧ RdZ W1 v zs ∧ R v W1 W2 ∧ Kept Tt W1 W2 ∧ Sx w.heap.size W2 wr)) ∧ Hd (ds.Nodup) ∧ Hd (∀ D ∈ ds, w.heap.size ≤ D ∧ wr.heap[D]? = some (.deferred (some [])))) (fun a _ => n - (intOf (a.tmps.getD 19 undef)).toNat) ?_ ?_)
  · exact ⟨0, [], _, _, _, _, _, _, _, _, _, _, _, _, _, _, _, _, _, _, _, _, rfl, by omega, ⟨k12.out.of_no⟩, ⟨.inl ⟨by omega, k12.out⟩⟩, ⟨List.nodup_nil⟩, ⟨fun D hD => by cases hD⟩⟩
  · (rintro a wr ⟨c, ds, u5, u6, u20, u21, u22, u23, u24, u25, u26, u27, u28, u29, u30, u31, u32, u33, u34, u35, u36, u37, rfl, hc, hK, hPh, hnd, hds⟩); (have hMr := hid (hst.out wr ((k01.out.of_no (S := Tt)).trans hK.out fun _ _ h => h))); (have o1 := hMr.out.o.n); (have o2 := hMr.out.o.l); (have o3 := hMr.out.o.t)
    by_cases hcn : c < n
    · (have hc1 : (c : Int) < (n : Int) := by omega); (have hCt := hid (containsN_any (.slice aT lT cT) T (c : Int) wr hMr.out.t)); (go_wp2_with fail); (with_reducible refine hCt.out.mono ?_); (rintro e wq ⟨rfl, qq⟩); (have hKq := hid (hK.out.trans qq.kept fun _ _ h => h.elim))
      have hPq : Hd ((c ≤ c0 ∧ Kept no w1 wq) ∨ (c0 < c ∧ ∃ v W1 W2, Kept no w W1 ∧ RdZ W1 v zs ∧ R v W1 W2 ∧ Kept Tt W1 W2 ∧ Sx w.heap.size W2 wq)) := ⟨by
        rcases hPh.out with ⟨h1, h2⟩ | ⟨h1, v, W1, W2, h2, h3, h4, h5, h6⟩
        · exact .inl ⟨h1, h2.trans' qq.kept⟩
        · exact .inr ⟨h1, v, W1, W2, h2, h3, h4, h5, h6.trans (Sx.of qq.kept (by have := hK.out.size; have := hw1s.out; omega))⟩⟩
      (have hdq : Hd (∀ D ∈ ds, w.heap.size ≤ D ∧ wq.heap[D]? = some (.deferred (some []))) := ⟨fun D hD => ⟨(hds.out D hD).1, (qq.kept.block D (by have := (Array.getElem?_eq_some_iff.1 (hds.out D hD).2).1; exact this) id).trans (hds.out D hD).2⟩⟩); (have hMq := hid (hMr.out.kept qq.kept)); (clear hCt qq o1 o2 o3 hds hK hPh hMr)
      by_cases hm : (c : Int) ∈ T
      · have hd : decide ((c : Int) ∈ T) = true := decide_eq_true hm
        have hP2 : Hd ((c + 1 ≤ c0 ∧ Kept no w1 wq) ∨ (c0 < c + 1 ∧ ∃ v W1 W2, Kept no w W1 ∧ RdZ W1 v zs ∧ R v W1 W2 ∧ Kept Tt W1 W2 ∧ Sx w.heap.size W2 wq)) := ⟨by
          rcases hPq.out with ⟨h1, h2⟩ | ⟨h1, h2⟩
          · exact .inl ⟨by have : c ≠ c0 := fun e => hc0T.out (by rw [← e]; exact hm); omega, h2⟩
          · exact .inr ⟨by omega, h2⟩⟩
        (replace hm := hid hm); (go_wp2); (exact ⟨⟨c + 1, ds, _, _, _, _, _, _, _, _, _, _, _, _, _, _, _, _, _, _, _, _, rfl, by omega, hKq, hP2, hnd, hdq⟩, by simp [intOf]; omega⟩)
      · (have hd : decide ((c : Int) ∈ T) = false := decide_eq_false hm); (replace hm := hid hm); (have d1 : Hd (wq.cell? ⟨b1, 0, none⟩ = some (.int .i64 (n : Int))) := ⟨hMq.out.o.n⟩); (have d2 : Hd (wq.cell? ⟨b2, 0, none⟩ = some (.slice al ll cl)) := ⟨hMq.out.o.l⟩); (have d3 : Hd (wq.cell? ⟨b3, 0, none⟩ = some (.slice aT lT cT)) := ⟨hMq.out.o.t⟩); (have rt := hid hMq.out.t); (have hlb : Hd (1 + lT ≤ maxLen ∧ (1 + lT) * 8 ≤ 140737488355328) := ⟨by have : maxLen = 9223372036854775807 := rfl; omega⟩); (go_upto_region 8 with fail); (refine region_flow (S := (fun j => wq.drew.heap.size ≤ j)) (Sl := (fun _ => (fun j => wq.drew.heap.size ≤ j))) [Is (.int .i64 (n : Int)), Is (.slice al ll cl), Is (.int .i64 (c : Int)), POn1 wq.drew.heap.size (c : Int), Is (.slice aT lT cT), PRgN wq.drew.heap.size ((c : Int) :: T), POrN wq.drew.heap.size n (.slice al ll cl) ((c : Int) :: T)] [5] (fun _ _ h => h) _ (by kernel_rfl) (by kernel_rfl) (by kernel_rfl) (by kernel_rfl) (fun x => by simp only [puts, Act.put, List.map_cons, List.map_nil, Nat.zero_add, Nat.reduceAdd, List.setIfInBounds_toArray, List.set_cons_zero, List.set_cons_succ]; exact rfl) ?_ ?_)
        · (skip); (refine .cons (fun x wf Kk hq hdep hold => ?_) ?_)
          · (try dsimp only); (have Kq := (Kk.fresh : Kept no wq.drew wf)); (clear hq hdep hold); (have m1 := Kq.undrew.cell d1.out id); (rw [if_pos (by rfl)]); (refine OpY.val ?_ ⟨Kept.refl _ _, rfl⟩); (first | rfl | go_simp)
          refine .cons (fun x wf Kk hq hdep hold => ?_) ?_
          · (try dsimp only); (have Kq := (Kk.fresh : Kept no wq.drew wf)); (clear hq hdep hold); (have m1 := Kq.undrew.cell d2.out id); (rw [if_pos (by rfl)]); (refine OpY.val ?_ ⟨Kept.refl _ _, rfl⟩); (first | rfl | go_simp)
          refine .cons (fun x wf Kk hq hdep hold => ?_) ?_
          · (try dsimp only); (clear hq hdep hold); (rw [if_pos (by rfl)]); (refine OpY.val ?_ ⟨Kept.refl _ _, rfl⟩); (first | rfl | go_simp)
          refine .cons (fun x wf Kk hq hdep hold => ?_) ?_
          · (try dsimp only); (have h2 : x 2 = _ := hdep 2 (by kernel_rfl)); (clear hq hdep hold); (simp only [h2]); (clear h2); (rw [if_pos (by rfl)]); (refine OpY.build 26 3 1 _ rfl 1 _ Tryz.underlying26 infIntg (by decide) (by decide) [.int .i64 (c : Int)] [(0, .int .i64 (c : Int))] rfl (fill_rows 1 (by decide) _ [.int .i64 (c : Int)] (fun v hv => by rw [List.mem_singleton.1 hv]; rfl)) rfl (by decide) ?_); (intro w' hg k ho); (exact ⟨k, _, rfl, Kk.size, ho⟩)
          refine .cons (fun x wf Kk hq hdep hold => ?_) ?_
          · (try dsimp only); (have Kq := (Kk.fresh : Kept no wq.drew wf)); (clear hq hdep hold); (have m1 := Kq.undrew.cell d3.out id); (rw [if_pos (by rfl)]); (refine OpY.val ?_ ⟨Kept.refl _ _, rfl⟩); (first | rfl | go_simp)
          refine .cons (fun x wf Kk hq hdep hold => ?_) ?_
          · (try dsimp only); (have p3 : Pr.p (Sl := (fun _ => (fun j => wq.drew.heap.size ≤ j))) (POn1 wq.drew.heap.size (c : Int)) (x 3) wf := hdep 3 (by kernel_rfl)); (have h4 : x 4 = _ := hdep 4 (by kernel_rfl)); (have Kq := (Kk.fresh : Kept no wq.drew wf)); (clear hq hdep hold); (simp only [h4]); (clear h4); (rw [if_pos (by rfl)]); (obtain ⟨g, hg, hgb, hgo⟩ := p3); (refine OpY.append (.tmp 28) (.tmp 29) 26 _ rfl rfl 3 1 8 TInts (x 3) 1 [.int .i64 (c : Int)] rfl hgo (.slice aT lT cT) lT (T.map Z) rfl (by rw [← hlT.out]; exact RdZ.kept (by have := rt.out; rwa [hlT.out]) Kq.undrew) (fun u hu => by obtain ⟨z, _, rfl⟩ := List.mem_map.1 hu; rfl) hlb.out.1 hlb.out.2 ?_); (intro v2 w2 h2 h3 h4 _); (exact ⟨h3.mono fun j _ hj => by rw [hg] at hj; cases hj; exact hgb, own_RdZ (zs := (c : Int) :: T) (by rw [List.length_cons, hlT.out, Nat.add_comm]; exact h2), fun j hj => by (rcases h4 with h4 | ⟨k, hk, hl⟩; (rw [hg] at h4; have e := hj.symm.trans h4; have e : j = g := (by simpa [Value.ownBlock] using e); omega); (have e := hj.symm.trans hk; have e : j = k := (by simpa using e); have := Kk.size; omega))⟩)
          refine .cons (fun x wf Kk hq hdep hold => ?_) ?_
          · (try dsimp only); (have h0 : x 0 = _ := hdep 0 (by kernel_rfl)); (have h1 : x 1 = _ := hdep 1 (by kernel_rfl)); (have p5 : Pr.p (Sl := (fun _ => (fun j => wq.drew.heap.size ≤ j))) (PRgN wq.drew.heap.size ((c : Int) :: T)) (x 5) wf := hdep 5 (by kernel_rfl)); (clear hq hdep hold); (simp only [h0, h1]); (clear h0 h1); (rw [if_pos (by rfl)]); (obtain ⟨hrU, hbU⟩ : RdZ wf (x 5) ((c : Int) :: T) ∧ _ := p5); (obtain ⟨aU, lU, cU, hU⟩ : ∃ a l c, x 5 = .slice a l c := by obtain ⟨a, c, h, _⟩ := Rd.shape2 hrU; exact ⟨_, _, _, h⟩); (rw [hU] at hrU hbU ⊢); (have hszf := Kk.size); (refine OpY.call (f := 134) (args := #[.int .i64 (n : Int), .slice al ll cl, .slice aU lU cU]) (by go_simp) ?_); (refine (orders_any n al aU ll cl lU cU wf).mono ?_); (rintro e w7 ⟨e1, e2, e3, rfl, h7, k7, q1, q2, q3⟩); (exact ⟨_, rfl, k7, e1, e2, e3, _, rfl, h7, hrU.kept k7, hbU, Nat.le_trans hszf q1, Nat.le_trans hszf q2, Nat.le_trans hszf q3⟩)
          exact .nil _
        · (intro x wf Kk hv); (try dsimp only); (have p6 : Pr.p (Sl := (fun _ => (fun j => wq.drew.heap.size ≤ j))) (POrN wq.drew.heap.size n (.slice al ll cl) ((c : Int) :: T)) (x 6) wf := hv 6 (by kernel_rfl)); (clear hv); (have kf := hid (Kk.fresh.undrew : Kept no wq wf)); (obtain ⟨e1, e2, e3, vU, hv, hOU, hrU, hBU, hB1, hB2, hB3⟩ := p6); (rw [hv]); (have hqs : wq.drew.heap.size = wq.heap.size := rfl); (rw [hqs] at hBU hB1 hB2 hB3); (have hKf := hid (hKq.out.trans kf.out fun _ _ h => h.elim))
          have hPf : Hd ((c ≤ c0 ∧ Kept no w1 wf) ∨ (c0 < c ∧ ∃ v W1 W2, Kept no w W1 ∧ RdZ W1 v zs ∧ R v W1 W2 ∧ Kept Tt W1 W2 ∧ Sx w.heap.size W2 wf)) := ⟨by
            rcases hPq.out with ⟨h1, h2⟩ | ⟨h1, v, W1, W2, h2, h3, h4, h5, h6⟩
            · exact .inl ⟨h1, h2.trans' kf.out⟩
            · exact .inr ⟨h1, v, W1, W2, h2, h3, h4, h5, h6.trans (Sx.of kf.out (by have := hKq.out.size; have := hw1s.out; omega))⟩⟩
          (have hdf : Hd (∀ D ∈ ds, w.heap.size ≤ D ∧ wf.heap[D]? = some (.deferred (some []))) := ⟨fun D hD => ⟨(hdq.out D hD).1, (kf.out.block D (by have := (Array.getElem?_eq_some_iff.1 (hdq.out D hD).2).1; exact this) id).trans (hdq.out D hD).2⟩⟩); (have hMf := hid (hMq.out.kept kf.out)); (have hsf : Hd (w.heap.size < wf.heap.size ∧ w.heap.size < wq.heap.size) := ⟨by have := hKq.out.size; have := kf.out.size; have := hw1s.out; omega⟩); (have hUm : Hd (OMem n (.slice al ll cl) xs vU ((c : Int) :: T) e1 e2 e3 wf) := ⟨hMf.out.l, hrU, hOU⟩); (have hUb : Hd ((∀ j, vU.ownBlock = some j → wq.heap.size ≤ j) ∧ wq.heap.size ≤ e1 ∧ wq.heap.size ≤ e2 ∧ wq.heap.size ≤ e3) := ⟨hBU, hB1, hB2, hB3⟩); (clear hOU hrU hv Kk d1 d2 d3 rt hlb hdq hBU hB1 hB2 hB3 hqs hPq hMq); (unfold ordV)
          by_cases hcc : c = c0
          · subst hcc
            have hI := hid (fun (l' : Nat) (W : World) (h1 : wf.heap.size ≤ l') (h2 : l' < W.heap.size) (kW : Kept no wf W) => ih.out vU e1 e2 e3 (fun j => Tt j ∨ j = l') W (fun j hj => by
                rcases hj with h | h
                · have := hTt.out j h; have := hsf.out; omega
                · omega) (fun W' kW' => by
                have kTw : Kept Tt w W' := ((k01.out.of_no (S := Tt)).trans ((hKf.out.trans kW fun _ _ h => h.elim)) fun _ _ h => h).trans kW' fun j hj h => by
                  rcases h with h | h
                  · exact h
                  · have := hsf.out; omega
                have ap : ∀ j, w.heap.size ≤ j → j < wf.heap.size → ¬ (Tt j ∨ j = l') := fun j h3 h4 h => by
                  rcases h with h | h
                  · have := hTt.out j h; omega
                  · omega
                (have hs := hsf.out); (refine ⟨(hst.out W' kTw).l, ?_, ?_⟩)
                · (refine Rd.kept (RdZ.kept hUm.out.t kW) kW' fun j hj h => ?_); (obtain ⟨_, ao, cap, e9, _, _, h4⟩ := hUm.out.t); (have hjb := hUb.out.1 j hj)
                  rcases h4 with h4 | ⟨b, o, e2, h7⟩
                  · (have := (Rd.shape2 hUm.out.t)); (obtain ⟨_, _, e8, hle, _⟩ := this); (rw [e9] at e8)
                    cases e8
                    (rw [h4] at hle); (rw [List.length_cons] at hle)
                    omega
                  · (subst e2); (rw [e9] at hj); (have : b = j := by simpa [Value.ownBlock] using hj); (subst this); (have h8 := h7 0 _ (List.getElem?_eq_getElem (by rw [List.length_map, List.length_cons]; omega))); (have h9 := lt_of_cell h8); (have h9 : b < wf.heap.size := h9); (exact ap b (by omega) h9 h)
                · (have c1 := lt_of_cell hUm.out.o.n); (have c2 := lt_of_cell hUm.out.o.l); (have c3 := lt_of_cell hUm.out.o.t); (have c1 : e1 < wf.heap.size := c1); (have c2 : e2 < wf.heap.size := c2); (have c3 : e3 < wf.heap.size := c3); (obtain ⟨_, u1, u2, u3⟩ := hUb.out)
                  exact ⟨kW'.cell (kW.cell hUm.out.o.n id) (ap e1 (by omega) c1), kW'.cell (kW.cell hUm.out.o.l id) (ap e2 (by omega) c2), kW'.cell (kW.cell hUm.out.o.t id) (ap e3 (by omega) c3)⟩))
            have hA0 : Hd (Kept no w1 wf) := ⟨by
              rcases hPf.out with ⟨_, h2⟩ | ⟨h1, _⟩
              · exact h2
              · omega⟩
            (go_wp2_with fail); (refine range_one (T := Tt) (Z := fun v w => RdZ w v zs) R (gf := 191) (lb := #[.pointer (some ⟨e1, 0, none⟩), .pointer (some ⟨e2, 0, none⟩), .pointer (some ⟨e3, 0, none⟩)]) rfl (enters_of Tryz.func191 (by kernel_rfl) rfl) rfl (fun v W W' k h => KC.rd k h) (fun j hj => by have := hTt.out j hj; have := hsf.out; omega) (fun l' W h1 h2 kW => hI.out l' W h1 h2 kW) ?round ?done)
            case round =>
              (intro l' v W hl' kW hzW K hKK); (replace hKK := hid hKK)
              gi_wp2
              (refine hKK.out _ ?_); (intro W' kW' hz'); (have bx : W'.cell? ⟨BY, 0, none⟩ = some (.func (.yield l) #[] #[]) := cell_at ((hA0.out.trans' kW').blk g1'.out) rfl); (obtain ⟨fn', tmps', assign', body', hy, hR⟩ := yield_any 6 (hY.out v W' ((k01.out.trans' hA0.out).trans' kW') hz'))
              gi_wp2
              (refine hR.mono ?_); (rintro e W2 ⟨rfl, hR2, hK2⟩)
              gi_wp2
              first | exact hR2 | exact ⟨rfl, hR2, hK2⟩ | exact ⟨hR2, hK2⟩
            case done =>
              (intro D v W1 W2 W3 hD kW1 hz hR2 hK2 hsx hdD); (have hP2 : Hd ((c + 1 ≤ c ∧ Kept no w1 W3) ∨ (c < c + 1 ∧ ∃ v W1 W2, Kept no w W1 ∧ RdZ W1 v zs ∧ R v W1 W2 ∧ Kept Tt W1 W2 ∧ Sx w.heap.size W2 W3)) := ⟨.inr ⟨by omega, v, W1, W2, (k01.out.trans' hA0.out).trans' kW1, hz, hR2, hK2, hsx.le (by have := hsf.out; omega)⟩⟩); (have hKW : Hd (Kept Tt w1 W3) := ⟨((((hA0.out.trans' kW1).of_no (S := Tt)).trans hK2 fun _ _ h => h)).sx (hsx.le (by have := hA0.out.size; omega))⟩)
              have hdW : Hd (∀ E ∈ D :: ds, w.heap.size ≤ E ∧ W3.heap[E]? = some (.deferred (some []))) := ⟨fun E hE => by
                rcases List.mem_cons.1 hE with rfl | hE
                · exact ⟨by have := hsf.out; omega, hdD⟩
                · (have h1 := hdf.out E hE); (have h2 := (Array.getElem?_eq_some_iff.1 h1.2).1); (have h3 := kW1.size); (refine ⟨h1.1, (hsx.2 E h2).trans ((hK2.block E (by omega) fun h => ?_).trans ((kW1.block E h2 id).trans h1.2))⟩)
                  have := hTt.out E h; omega⟩
              (have hnW : Hd ((D :: ds).Nodup) := ⟨List.nodup_cons.2 ⟨fun hm => by have := (Array.getElem?_eq_some_iff.1 (hdf.out D hm).2).1; omega, hnd.out⟩⟩); (clear hI hUm hUb hdf hKf kf hdD kW1 hz hR2 hK2 hsx hPf hMf hA0); (go_wp2); (exact ⟨⟨c + 1, D :: ds, _, _, _, _, _, _, _, _, _, _, _, _, _, _, _, _, _, _, _, _, rfl, by omega, hKW, hP2, hnW, hdW⟩, by simp [intOf]; omega⟩)
          · (have hI := hid (fun (l' : Nat) (W : World) (kW : Kept no wf W) => hOB.out c hcn hm.out hcc vU l' e1 e2 e3 W (hMf.out.l.kept kW) (RdZ.kept hUm.out.t kW) (hUm.out.o.kept kW))); (go_wp2_with fail); (refine range_none (gf := 191) (lb := #[.pointer (some ⟨e1, 0, none⟩), .pointer (some ⟨e2, 0, none⟩), .pointer (some ⟨e3, 0, none⟩)]) rfl (enters_of Tryz.func191 (by kernel_rfl) rfl) (fun l' W kW => hI.out l' W kW) ?_); (intro D W hD kW hdD); (have hKW := hid (hKf.out.trans kW fun _ _ h => h.elim))
            have hP2 : Hd ((c + 1 ≤ c0 ∧ Kept no w1 W) ∨ (c0 < c + 1 ∧ ∃ v W1 W2, Kept no w W1 ∧ RdZ W1 v zs ∧ R v W1 W2 ∧ Kept Tt W1 W2 ∧ Sx w.heap.size W2 W)) := ⟨by
              rcases hPf.out with ⟨h1, h2⟩ | ⟨h1, v, W1, W2, h2, h3, h4, h5, h6⟩
              · exact .inl ⟨by omega, h2.trans' kW⟩
              · exact .inr ⟨by omega, v, W1, W2, h2, h3, h4, h5, h6.trans (Sx.of kW (by have := hsf.out; omega))⟩⟩
            have hdW : Hd (∀ E ∈ D :: ds, w.heap.size ≤ E ∧ W.heap[E]? = some (.deferred (some []))) := ⟨fun E hE => by
              rcases List.mem_cons.1 hE with rfl | hE
              · exact ⟨by have := hsf.out; omega, hdD⟩
              · exact ⟨(hdf.out E hE).1, (kW.block E (by have := (Array.getElem?_eq_some_iff.1 (hdf.out E hE).2).1; exact this) id).trans (hdf.out E hE).2⟩⟩
            (have hnW : Hd ((D :: ds).Nodup) := ⟨List.nodup_cons.2 ⟨fun hm => by have := (Array.getElem?_eq_some_iff.1 (hdf.out D hm).2).1; omega, hnd.out⟩⟩); (clear hI hUm hUb hdf hKf kf hdD kW hPf hMf); (go_wp2); (exact ⟨⟨c + 1, D :: ds, _, _, _, _, _, _, _, _, _, _, _, _, _, _, _, _, _, _, _, _, rfl, by omega, hKW, hP2, hnW, hdW⟩, by simp [intOf]; omega⟩)
    · (have hc1 : ¬ (c : Int) < (n : Int) := by omega); (go_wp2); (refine ends_sx rfl w.heap.size ds wr hnd.out hds.out fun w' hs => ⟨⟨_, rfl⟩, ?_⟩)
      rcases hPh.out with ⟨h1, _⟩ | ⟨_, v, W1, W2, h2, h3, h4, h5, h6⟩
      · omega
      · first | exact ⟨v, W1, W2, h2, h3, h4, h5, h6.trans hs⟩ | exact ⟨v, W1, h2, h3, W2, h4, h5, h6.trans hs⟩
/-- Where all orders but one are blocked, that one comes. -/
theorem ordY_any (n : Nat) (xs : List (As × Value)) (al : Option Addr) (cl : Nat) (hn1 : 1 ≤ n) (hn : n ≤ 7) (hok : ∀ x ∈ xs, Ok n x.1) {T zs : List Int} (h : OneO n (xs.map (·.1)) T zs) : Tl n T → ∀ (vT : Value) (b1 b2 b3 : Nat) (Tt : Nat → Prop) (w : World), (∀ j, Tt j → j < w.heap.size) → (∀ W', Kept Tt w W' → OMem n (.slice al xs.length cl) xs vT T b1 b2 b3 W') →
    OneY Tryz.prog 191 #[.pointer (some ⟨b1, 0, none⟩), .pointer (some ⟨b2, 0, none⟩), .pointer (some ⟨b3, 0, none⟩)] (fun v w => RdZ w v zs) Tt w := by
  induction h with
  | leaf h1 h2 => intro hT vT b1 b2 b3 Tt w _ hst; exact ordYL_any n xs al cl hn1 hn hok _ vT b1 b2 b3 Tt w hT h1 (by rw [List.any_map] at h2; exact h2) (hst w (Kept.refl _ _))
  | node h1 h2 h3 h4 h5 _ ih => intro hT vT b1 b2 b3 Tt w hTt hst; exact ordYN_any n xs al cl hn1 hn hok _ _ vT b1 b2 b3 Tt w _ hT h1 (by rw [List.any_map] at h2; exact h2) h3 h4 h5 hTt hst (fun vU c1 c2 c3 T' W hT' hst' => ih (hT.kid ⟨⟨by omega, by omega⟩, h4⟩) vU c1 c2 c3 T' W hT' hst')
end Go.Proofs.YtaobaaaihgahfaaGreat

/- suffice.Witness where one order comes (printed by gen_wt.py). -/
namespace Go.Proofs.YtaobaaaihgahfaaGreat
open Go.RowKit Go.Mk Go.Pil Go.Mg Go.Nr Go.Sort
attribute [local go_sem] Oper.semAt_some
theorem ends_vsx {fn : Func} {tmps : Array Value} {P : Program} {R : Ending → World → Prop} {v : Value} (hres : ∀ w, (results fn tmps).run P w = .ok v w) (B : Nat) (ds : List Nat) (w : World) (hnd : ds.Nodup) (hd : ∀ D ∈ ds, B ≤ D ∧ w.heap[D]? = some (.deferred (some []))) (hR : ∀ w', Sx B w w' → R (.returned v) w') :
    LeavesInM Fence.wide 9 P fn tmps R (ds.map markOf) .returning w := leaves_marksK hres B ds w hnd hd hR
/-- What Witness answers where one order comes. -/
def WtR (zs : List Int) (w : World) (e : Ending) (w' : World) : Prop := ∃ v, e = .returned (.tuple #[v, .bool true]) ∧ RdZ w' v zs ∧ Kept no w w'
/-- The first order's cell, ahead of the order and behind it. -/
def WtP (BF : Nat) (zs : List Int) (cY c : Nat) (W : World) : Prop := (c ≤ cY ∧ W.heap[BF]? = some (.cells #[.slice none 0 0] 26 (0, 0))) ∨ (cY < c ∧ ∃ b o cap, W.heap[BF]? = some (.cells #[.slice (some ⟨b, o, none⟩) zs.length cap] 26 (0, 0)) ∧ RdZ W (.slice (some ⟨b, o, none⟩) zs.length cap) zs)
theorem WtP.kept {BF : Nat} {zs : List Int} {cY c : Nat} {W W' : World} (h : WtP BF zs cY c W) (k : Kept no W W') : WtP BF zs cY c W' := by
  rcases h with ⟨h1, h2⟩ | ⟨h1, b, o, cap, h2, h3⟩
  · exact .inl ⟨h1, k.blk h2⟩
  · exact .inr ⟨h1, b, o, cap, k.blk h2, RdZ.kept h3 k⟩
theorem WtP.next {BF : Nat} {zs : List Int} {cY c : Nat} {W : World} (h : WtP BF zs cY c W) (hne : c ≠ cY) : WtP BF zs cY (c + 1) W := by
  rcases h with ⟨h1, h2⟩ | ⟨h1, h2⟩
  · exact .inl ⟨by omega, h2⟩
  · exact .inr ⟨by omega, h2⟩
theorem lt_of_phase {BF : Nat} {zs : List Int} {cY c : Nat} {W : World} (h : WtP BF zs cY c W) : BF < W.heap.size := by
  rcases h with ⟨_, h2⟩ | ⟨_, b, o, cap, h2, _⟩
  · exact lt_of_heap h2
  · exact lt_of_heap h2
set_option maxRecDepth 100000 in
set_option maxHeartbeats 4000000 in
theorem witY_any (n wn cY : Nat) (xs : List (As × Value)) (zs : List Int) (vl : Value) (w : World) (hn2 : 2 ≤ n) (hn : n ≤ 7) (hw : wn < n) (hok : ∀ x ∈ xs, Ok n x.1) (hx : xs.length ≤ 1400) (hl : RdA w vl xs) (hcY : cY < n) (hcYw : cY ≠ wn) (hzs : zs ≠ []) (hO1 : OneO n (xs.map (·.1)) [(cY : Int)] zs) (hB : ∀ c : Nat, c < n → c ≠ wn → c ≠ cY → Blk n (xs.map (·.1)) [(c : Int)]) :
    Calls Tryz.prog 70 #[.int .i64 (n : Int), .int .i64 (wn : Int), vl] w (WtR zs w) := by
  (obtain ⟨al, cl, rfl, _, _⟩ := hl.shape); (obtain ⟨ll, hll⟩ : ∃ m, xs.length = m := ⟨_, rfl⟩); (obtain ⟨w1, hw1, g1, k1⟩ := alloc_named w (.cells #[.slice none 0 0] 26)); (obtain ⟨BF, hBF⟩ : ∃ g, w.heap.size = g := ⟨_, rfl⟩); (rw [hBF] at g1); (have k01 := hid k1); (have b1 := hid g1); (have hBo := hid (fun (c : Nat) (hc : c < n) (hne : c ≠ wn) (hny : c ≠ cY) (l c1 c2 c3 : Nat) (vT : Value) (W : World) (kW : Kept no w W) (hr : RdZ W vT [(c : Int)]) (hO : OrdAt W c1 c2 c3 n (.slice al xs.length cl) vT) => ordB_any n xs al cl (by omega) hn hok n [(c : Int)] vT l c1 c2 c3 W (by omega) ⟨by simp, fun x hx => by rw [List.mem_singleton] at hx; subst hx; omega, by simp⟩ (hB c hc hne hny) (hl.kept kW) hr hO)); (have hYo := hid (fun (vT : Value) (e1 e2 e3 : Nat) (Tt : Nat → Prop) (W : World) (h1 : ∀ j, Tt j → j < W.heap.size) (h2 : ∀ W', Kept Tt W W' → OMem n (.slice al xs.length cl) xs vT [(cY : Int)] e1 e2 e3 W') => ordY_any n xs al cl (by omega) hn hok hO1 ⟨by simp, fun x hx => by rw [List.mem_singleton] at hx; subst hx; omega, by simp⟩ vT e1 e2 e3 Tt W h1 h2)); (have hBFs : Hd (w.heap.size = BF) := ⟨hBF⟩); (rw [hll] at hBo hYo hx hl ⊢); (have hl' := hid hl); (have c1 : ¬ (n : Int) < 1 := by omega); (have c2 : ¬ (7 : Int) < (n : Int) := by omega); (have c3 : ¬ (wn : Int) < 0 := by omega); (have c4 : ¬ (n : Int) ≤ (wn : Int) := by omega); (have c5 : ¬ (1400 : Int) < (ll : Int) := by omega); (have c6 : ¬ n < 1 := by omega); (have c7 : ¬ 7 < n := by omega); (have c8 : ¬ 1400 < ll := by omega); (have c9 : ¬ n ≤ wn := by omega); (replace hw1 := hid hw1); (replace hBF := hid hBF); (clear g1 k1 hl hB hok hll hO1); (refine calls_marks Tryz.func70 rfl ?_); (simp only [Tryz.ntmps70, List.size_toArray, List.length_cons, List.length_nil, Nat.reduceAdd, Nat.reduceSub, Array.replicate_succ, Array.replicate_zero, List.push_toArray, List.append_toArray, List.nil_append, List.cons_append]); (go_upto_region 4 with fail); (rw [← hw1.out, hBF.out]); (go_upto_region 5 with fail); (refine wp_loop (fun a wr => ∃ (c : Nat) (ds : List Nat) (u9 u10 u33 u34 u35 u36 u37 u38 u39 u40 u41 u42 u43 u44 u45 u46 u47 u48 u49 u50 u51 u52 u53 : Value), a = { tmps := #[.int .i64 (n : Int), .int .i64 (wn : Int), .slice al ll cl, undef, undef, undef, .slice none 0 0, .bool false, .pointer (some ⟨BF, 0, none⟩), u9, u10, .int .i64 (n : Int), .bool false, .bool false, .int .i64 (n : Int), .bool false, .bool false, .bool false, .int .i64 (wn : Int), .bool false, .bool false, .bool false, .int .i64 (wn : Int), .int .i64 (n : Int), .bool false, .bool false, .bool false, .slice al ll cl, .int .i64 (ll : Int), .bool false, .bool false, .int .i64 (n : Int), .int .i64 (c : Int), u33, u34, u35, u36, u37, u38, u39, u40, u41, u42, u43, u44, u45, u46, u47, u48, u49, u50, u51, u52, u53, undef, undef, undef], defers := ds.map markOf } ∧ c ≤ n ∧ Hd (Kept no w wr) ∧ Hd (WtP BF zs cY c wr) ∧ Hd (ds.Nodup) ∧ Hd (∀ D ∈ ds, w.heap.size ≤ D ∧ wr.heap[D]? = some (.deferred (some [])))) (fun a _ => n - (intOf (a.tmps.getD 32 undef)).toNat) ?_ ?_)
  · exact ⟨0, [], _, _, _, _, _, _, _, _, _, _, _, _, _, _, _, _, _, _, _, _, _, _, _, rfl, by omega, k01, ⟨.inl ⟨by omega, b1.out⟩⟩, ⟨List.nodup_nil⟩, ⟨fun D hD => by cases hD⟩⟩
  · rintro a wr ⟨c, ds, u9, u10, u33, u34, u35, u36, u37, u38, u39, u40, u41, u42, u43, u44, u45, u46, u47, u48, u49, u50, u51, u52, u53, rfl, hc, hK, hbx, hnd, hds⟩
    by_cases hcn : c < n
    · have hc1 : (c : Int) < (n : Int) := by omega
      by_cases hcw : c = wn
      · (have he : ((c : Int) == (wn : Int)) = true := by rw [hcw]; exact beq_self_eq_true _); (have hbx2 : Hd (WtP BF zs cY (c + 1) wr) := ⟨hbx.out.next (by omega)⟩); (replace hcw := hid hcw); (go_wp2); (exact ⟨⟨c + 1, ds, _, _, _, _, _, _, _, _, _, _, _, _, _, _, _, _, _, _, _, _, _, _, _, rfl, by omega, hK, hbx2, hnd, hds⟩, by simp [intOf]; omega⟩)
      · (have he : ((c : Int) == (wn : Int)) = false := beq_eq_false_iff_ne.2 (by omega)); (obtain ⟨w2, hw2, g2, k2⟩ := alloc_named wr (.cells #[.int .i64 (c : Int)] 3)); (obtain ⟨BT, hBT⟩ : ∃ g, wr.heap.size = g := ⟨_, rfl⟩); (rw [hBT] at g2); (have hr2 := hid (Rd.block (us := [.int .i64 (c : Int)]) g2 rfl (by decide) : RdZ w2 (.slice (some ⟨BT, 0, none⟩) 1 1) [(c : Int)])); (have hOr := hid (orders_any n al (some ⟨BT, 0, none⟩) ll cl 1 1 w2)); (have k02 := hid (hK.out.trans' k2)); (have kr2 := hid k2); (replace hw2 := hid hw2); (replace hBT := hid hBT); (replace hcw := hid hcw); (have hBTl : Hd (w.heap.size < BT) := ⟨by have := hK.out.size; have := lt_of_phase hbx.out; have := hBFs.out; have := hBT.out; omega⟩); (have hBFl : Hd (BF < BT) := ⟨by have := lt_of_phase hbx.out; have := hBT.out; omega⟩); (have g2' := hid g2); (clear g2 k2); (go_wp2_with fail); (try rw [hBT.out]); (rw [← hw2.out]); (with_reducible refine hOr.out.mono ?_); (rintro e w3 ⟨e1, e2, e3, rfl, hO, k3, hB1, hB2, hB3⟩); (have k03 := hid (k02.out.trans' k3)); (have kr3 := hid (kr2.out.trans' k3)); (have hb3 := hid (hbx.out.kept kr3.out)); (have hd3 : Hd (∀ D ∈ ds, w.heap.size ≤ D ∧ w3.heap[D]? = some (.deferred (some []))) := ⟨fun D hD => ⟨(hds.out D hD).1, (kr3.out.block D (by have := (Array.getElem?_eq_some_iff.1 (hds.out D hD).2).1; exact this) id).trans (hds.out D hD).2⟩⟩)
        by_cases hcy : c = cY
        · subst hcy
          have hnil : w3.heap[BF]? = some (.cells #[.slice none 0 0] 26 (0, 0)) := by
            rcases hb3.out with ⟨_, h⟩ | ⟨h, _⟩
            · exact h
            · omega
          have hszs : Hd (BF < BT ∧ BT < w3.heap.size ∧ BF < e1 ∧ BF < e2 ∧ BF < e3 ∧ e1 < w3.heap.size ∧ e2 < w3.heap.size ∧ e3 < w3.heap.size) := ⟨by
            (have c1 := lt_of_cell hO.n); (have c2 := lt_of_cell hO.l); (have c3 := lt_of_cell hO.t); (have c1 : e1 < w3.heap.size := c1); (have c2 : e2 < w3.heap.size := c2); (have c3 : e3 < w3.heap.size := c3); (have h1 := hBTl.out); (have h2 := k3.size); (have h4 := hBFs.out); (have h5 := lt_of_heap g2'.out); (have h6 := hBFl.out)
            omega⟩
          have hI := hid (fun (l' : Nat) (W : World) (h1 : w3.heap.size ≤ l') (h2 : l' < W.heap.size) (kW : Kept no w3 W) => hYo.out (.slice (some ⟨BT, 0, none⟩) 1 1) e1 e2 e3 (fun j => j = BF ∨ j = l') W (fun j hj => by
              (have := hszs.out); (have := kW.size)
              rcases hj with h | h <;> omega) (fun W' kW' => by
            have hs := hszs.out
            have k0W : Kept no w W' := (k03.out.trans' kW).trans kW' fun j hj h => by
              (have := k03.out.size); (have := hBFs.out)
              rcases h with h | h <;> omega
            (have ap : ∀ j, BF < j → j < w3.heap.size → ¬ (j = BF ∨ j = l') := fun j h3 h4 h => by rcases h with h | h <;> omega); (refine ⟨hl'.out.kept k0W, ?_, kW'.cell (kW.cell hO.n id) (ap e1 hs.2.2.1 hs.2.2.2.2.2.1), kW'.cell (kW.cell hO.l id) (ap e2 hs.2.2.2.1 hs.2.2.2.2.2.2.1), kW'.cell (kW.cell hO.t id) (ap e3 hs.2.2.2.2.1 hs.2.2.2.2.2.2.2)⟩); (refine Rd.kept (RdZ.kept (RdZ.kept hr2.out k3) kW) kW' fun j hj h => ?_); (have : BT = j := by simpa [Value.ownBlock] using hj); (subst this)
            exact ap BT hs.1 hs.2.1 h))
          (have hnil' := hid hnil); (clear hOr hw2 hBT hr2 k02 kr2 k3 hO hK hbx hds hnil g2' hB1 hB2 hB3 hBTl); (unfold ordV); (go_wp2_with fail); (refine range_one (T := fun j => j = BF) (Z := fun v w => RdZ w v zs) (fun v _ W2 => W2.heap[BF]? = some (.cells #[v] 26 (0, 0))) (gf := 191) (lb := #[.pointer (some ⟨e1, 0, none⟩), .pointer (some ⟨e2, 0, none⟩), .pointer (some ⟨e3, 0, none⟩)]) rfl (enters_of Tryz.func191 (by kernel_rfl) rfl) rfl (fun v W W' k h => KC.rd k h) (fun j (hj : j = BF) => by have := hszs.out; omega) (fun l' W h1 h2 kW => hI.out l' W h1 h2 kW) ?round ?done)
          case round =>
            (intro l' v W hl0 kW hzW K hKK); (obtain ⟨av, cv, rfl⟩ := Rd.shapeZ hzW); (replace hKK := hid hKK); (replace hzW := hid hzW)
            gi_wp2
            (refine hKK.out _ ?_); (intro W' kW' hz'); (have hb' := kW'.blk hnil'.out); (have cb : W'.cell? ⟨BF, 0, none⟩ = some (.slice none 0 0) := cell_at hb' rfl); (have fb := row_free hb' 0); (have hR : (W'.setCell ⟨BF, 0, none⟩ (.slice av zs.length cv)).heap[BF]? = some (.cells #[.slice av zs.length cv] 26 (0, 0)) := by rw [setCell_row hb']; rfl); (have hKs : Kept (fun j => j = BF) W' (W'.setCell ⟨BF, 0, none⟩ (.slice av zs.length cv)) := (Kept.refl (fun j => j = BF) W').setCell (a := ⟨BF, 0, none⟩) (.inl rfl) _); (replace hz' := hid hz'); (replace hb' := hid hb'); (have hR' := hid hR); (have hKs' := hid hKs); (have hbn : (binOp .eql 26 (.slice none 0 0) (.slice none 0 0)).run Tryz.prog W' = .ok (.bool true) W' := by kernel_rfl); (clear hR hKs)
            gi_wp2
            refine ⟨trivial, ?_⟩
            gi_wp2
            first | exact ⟨rfl, hR'.out, hKs'.out⟩ | exact ⟨hR'.out, hKs'.out⟩ | exact hR'.out
          case done =>
            intro D v W1 W2 W3 hD kW1 hz hR hK2 hsx hdD
            obtain ⟨bv, ov, cv, rfl⟩ : ∃ b o cc, v = .slice (some ⟨b, o, none⟩) zs.length cc := by
              (obtain ⟨a, cc, h⟩ := Rd.shapeZ hz); (subst h); (obtain ⟨b, o, h, _⟩ := RdZ.at hz 0 (by have := List.length_pos_iff.2 hzs; omega)); (exact ⟨b, o, cc, by rw [h]⟩)
            have hneB : bv ≠ BF := fun e => by
              obtain ⟨b, o, h, hc0⟩ := RdZ.at hz 0 (by have := List.length_pos_iff.2 hzs; omega)
              cases h
              (subst e); (have hb1 := kW1.blk hnil'.out); (rw [cell_of_row W1 _ _ _ _ _ hb1] at hc0)
              cases ov with
              | zero => simp at hc0
              | succ q => simp at hc0
            (have hbW : Hd (WtP BF zs c (c + 1) W3) := ⟨.inr ⟨by omega, bv, ov, cv, hsx.1.cells _ _ _ _ hR, hsx.1.rd (Rd.kept hz hK2 fun j hj (e : j = BF) => hneB ((by simpa [Value.ownBlock] using hj : bv = j).trans e))⟩⟩); (have hKW : Hd (Kept no w W3) := ⟨((k03.out.trans' kW1).trans hK2 fun j hj (e : j = BF) => by have := hBFs.out; omega).sx (hsx.le (by have := k03.out.size; omega))⟩)
            have hdW : Hd (∀ E ∈ D :: ds, w.heap.size ≤ E ∧ W3.heap[E]? = some (.deferred (some []))) := ⟨fun E hE => by
              rcases List.mem_cons.1 hE with rfl | hE
              · exact ⟨Nat.le_trans k03.out.size hD, hdD⟩
              · (have h1 := hd3.out E hE); (have h2 := (Array.getElem?_eq_some_iff.1 h1.2).1); (have h3 := kW1.size); (refine ⟨h1.1, (hsx.2 E h2).trans ((hK2.block E (by omega) fun (h : E = BF) => ?_).trans ((kW1.block E h2 id).trans h1.2))⟩); (rw [h, hnil'.out] at h1)
                cases h1.2⟩
            (have hnW : Hd ((D :: ds).Nodup) := ⟨List.nodup_cons.2 ⟨fun hm => by have := (Array.getElem?_eq_some_iff.1 (hd3.out D hm).2).1; omega, hnd.out⟩⟩); (clear hI hd3 hb3 k03 kr3 hdD kW1 hz hR hK2 hsx hnil'); (go_wp2); (exact ⟨⟨c + 1, D :: ds, _, _, _, _, _, _, _, _, _, _, _, _, _, _, _, _, _, _, _, _, _, _, _, rfl, by omega, hKW, hbW, hnW, hdW⟩, by simp [intOf]; omega⟩)
        · (have hI := hid (fun (l' : Nat) (W : World) (kW : Kept no w3 W) => hBo.out c hcn hcw.out hcy l' e1 e2 e3 (.slice (some ⟨BT, 0, none⟩) 1 1) W (k03.out.trans' kW) (RdZ.kept (RdZ.kept hr2.out k3) kW) (hO.kept kW))); (clear hOr hw2 hBT hr2 k02 kr2 k3 hO hK hbx hds g2' hB1 hB2 hB3 hBTl); (unfold ordV); (go_wp2_with fail); (refine range_none (gf := 191) (lb := #[.pointer (some ⟨e1, 0, none⟩), .pointer (some ⟨e2, 0, none⟩), .pointer (some ⟨e3, 0, none⟩)]) rfl (enters_of Tryz.func191 (by kernel_rfl) rfl) (fun l' W kW => hI.out l' W kW) ?_); (intro D W hD kW hdD); (have hKW := hid (k03.out.trans' kW)); (have hbW : Hd (WtP BF zs cY (c + 1) W) := ⟨(hb3.out.kept kW).next hcy⟩)
          have hdW : Hd (∀ E ∈ D :: ds, w.heap.size ≤ E ∧ W.heap[E]? = some (.deferred (some []))) := ⟨fun E hE => by
            rcases List.mem_cons.1 hE with rfl | hE
            · exact ⟨Nat.le_trans k03.out.size hD, hdD⟩
            · exact ⟨(hd3.out E hE).1, (kW.block E (by have := (Array.getElem?_eq_some_iff.1 (hd3.out E hE).2).1; exact this) id).trans (hd3.out E hE).2⟩⟩
          (have hnW : Hd ((D :: ds).Nodup) := ⟨List.nodup_cons.2 ⟨fun hm => by have := (Array.getElem?_eq_some_iff.1 (hd3.out D hm).2).1; omega, hnd.out⟩⟩); (clear hI hd3 hb3 k03 kr3 hdD kW); (go_wp2); (exact ⟨⟨c + 1, D :: ds, _, _, _, _, _, _, _, _, _, _, _, _, _, _, _, _, _, _, _, _, _, _, _, rfl, by omega, hKW, hbW, hnW, hdW⟩, by simp [intOf]; omega⟩)
    · have hc1 : ¬ (c : Int) < (n : Int) := by omega
      obtain ⟨bv, ov, cv, hbq, hrq⟩ : ∃ b o cap, wr.heap[BF]? = some (.cells #[.slice (some ⟨b, o, none⟩) zs.length cap] 26 (0, 0)) ∧ RdZ wr (.slice (some ⟨b, o, none⟩) zs.length cap) zs := by
        rcases hbx.out with ⟨h, _⟩ | ⟨_, h⟩
        · omega
        · exact h
      (have cb : wr.cell? ⟨BF, 0, none⟩ = some (.slice (some ⟨bv, ov, none⟩) zs.length cv) := cell_at hbq rfl); (have hrq' := hid hrq); (clear hbq hrq hbx); (go_upto_region 13 with fail); (go_quiet (fail)); (have kq := (Kept.refl no wr).drewN nq); (have hKq := hid (hK.out.trans' kq)); (have hrq2 := hid (RdZ.kept hrq'.out kq)); (have hdq : Hd (∀ D ∈ ds, w.heap.size ≤ D ∧ (wr.drewN nq).heap[D]? = some (.deferred (some []))) := ⟨fun D hD => hds.out D hD⟩); (clear kq hds hK); (go_wp2); (exact ends_vsx (v := .tuple #[.slice (some ⟨bv, ov, none⟩) zs.length cv, .bool true]) (fun w => results_2 (t := 6) (u := 7) (by rfl) _ _ _) w.heap.size ds _ hnd.out hdq.out fun w' hs => ⟨_, rfl, hs.1.rd hrq2.out, hKq.out.sx hs⟩)
end Go.Proofs.YtaobaaaihgahfaaGreat

