/- electiontop.two (printed by gen_two.py). -/
import Derived.Test.YtaobaaaihgahfaaGreatIrvCQ
import Derived.Test.YtaobaaaihgahfaaGreatMkOQ
import Derived.Test.YtaobaaaihgahfaaGreatDistQ
namespace Go.Tp
open Go.Pil
/-- What a list of piles is about. -/
structure Pls where
  nm : ByteArray
  ac : Option Addr
  nc : Nat
  cc : Nat
  cm : Int
  s : Int
  ra : Int
  d : Int
  t : Int
  ov : Int
  sk : Int
  vA : Value
  vB : Value
  vL : Value
  At : Int
  V : Int
/-- The rule for ties that a list of piles names. -/
def tyOf (t : Int) : Int := 1 + (t.tmod 3 + 3).tmod 3
theorem ty_ok (t : Int) : IntKind.i64.wrap (t.tmod 3) = t.tmod 3 ∧ IntKind.i64.wrap (t.tmod 3 + 3) = t.tmod 3 + 3 ∧ IntKind.i64.wrap ((t.tmod 3 + 3).tmod 3) = (t.tmod 3 + 3).tmod 3 ∧ IntKind.i64.wrap (1 + (t.tmod 3 + 3).tmod 3) = tyOf t ∧ 1 ≤ tyOf t ∧ tyOf t ≤ 3 := by
  (have h1 := Int.tmod_lt_of_pos t (show (0 : Int) < 3 by omega)); (have h2 : -(3 : Int) < t.tmod 3 := Int.lt_tmod_of_pos t (by omega)); (have h3 : 0 ≤ (t.tmod 3 + 3).tmod 3 := Int.tmod_nonneg _ (by omega)); (have h4 := Int.tmod_lt_of_pos (t.tmod 3 + 3) (show (0 : Int) < 3 by omega)); (unfold tyOf); (exact ⟨IntWalk.i64_in _ (by omega), IntWalk.i64_in _ (by omega), IntWalk.i64_in _ (by omega), IntWalk.i64_in _ (by omega), by omega, by omega⟩)
/-- How many ballots are taken. -/
def cutN (la lb : List (List Int)) : Nat := min (min la.length lb.length) 7
end Go.Tp
namespace Go.Proofs.YtaobaaaihgahfaaGreat
open Go.RowKit Go.Mk Go.Pil Go.Nt Go.Mg Go.Tp
theorem pre_sliceS (av : Option Addr) (lv cv m : Nat) (hav : cv = 0 ∨ ∃ b o, av = some ⟨b, o, none⟩) (hm : m ≤ cv) (w : World) : (Instr.slice 22 (.slice av lv cv) none (some (.int .i64 (m : Int))) none).run Tryz.prog w = .ok (.slice av m cv) w := by
  (have h0 : (0 : Int) ≤ (m : Int) := by omega); (have hc : Tryz.prog.underlying 22 = some (.slice 9) := by kernel_rfl)
  rcases hav with rfl | ⟨b, o, rfl⟩
  · obtain rfl : m = 0 := by omega
    simp [Instr.slice, Instr.sliceBounds, Instr.sliceBound, run_underlying hc, asIntOf]
  · simp [Instr.slice, Instr.sliceBounds, Instr.sliceBound, run_underlying hc, asIntOf, h0]
    (have e : (⟨b, o, none⟩ : Addr).add 0 = ⟨b, o, none⟩ := by simp [Addr.add]); (rw [if_pos hm, e]; simp)
theorem OpY.storeRowT {P : Program} {o : Oper} {a : Act} {w : World} {R : Value → World → Prop} (ty : TypeId) (x y : Operand) (ho : o.op = .store ty x y)
    (g : Nat) (cells : Array Value) (hx : a.eval x = .pointer (some ⟨g, 0, none⟩)) (hy : a.eval y = .agg cells)
    (t : TypeId) (old : Array Value) (hg : w.heap[g]? = some (.cells old t (0, 0))) (hi : (P.info? ty).map (·.size) = some cells.size)
    (hold : old.size = cells.size) (h1 : cells.all (·.oneCell') = true) (h : R undef (w.setRow g cells)) : OpY P o a w R := by
  (unfold OpY execOp); (simp only [ho, hx, hy, Instr.storeAt, Instr.sureAddr, Sem.run_bind, Sem.run_pure, Result.andThen_ok, run_storeVar_row w g t ty old cells hg hi hold h1]); (exact h)
def Z9 : Array Value := #[.string ⟨#[]⟩, .slice none 0 0, .int .i64 0, .int .i64 0, .int .i64 0, .int .i64 0, .int .i64 0, .int .i64 0, .int .i64 0]
theorem OpY.allocC {o : Oper} {a : Act} {w : World} {R : Value → World → Prop} (ho : o.op = .alloc 24) (h : R (.pointer (some ⟨w.heap.size, 0, none⟩)) (w.alloc (.cells Z9 24))) : OpY Tryz.prog o a w R := by
  (refine OpY.val (v := .pointer (some ⟨w.heap.size, 0, none⟩)) (w' := w.alloc (.cells Z9 24)) ?_ h); (unfold execOp); (rw [ho]); (kernel_rfl)
def PAlC {Sl : Nat → Nat → Prop} (n0 : Nat) : Pr Sl := soft (fun v w => ∃ g, v = .pointer (some ⟨g, 0, none⟩) ∧ n0 ≤ g ∧ w.heap[g]? = some (.cells Z9 24 (0, 0))) fun _ _ _ ⟨g, h1, h2, h3⟩ k => ⟨g, h1, h2, (k.block _ (lt_of_heap h3) id).trans h3⟩
def PStC {Sl : Nat → Nat → Prop} (d n0 : Nat) (L : Array Value) : Pr Sl := rel d (fun u _ w => ∃ g, u = .pointer (some ⟨g, 0, none⟩) ∧ n0 ≤ g ∧ w.heap[g]? = some (.cells L 24 (0, 0))) fun _ _ _ _ ⟨g, h1, h2, h3⟩ k => ⟨g, h1, h2, (k.block _ (lt_of_heap h3) id).trans h3⟩
/-- A pile that Make made. -/
def PMk {Sl : Nat → Nat → Prop} (w0 : World) (gs : List Grp) (er : Int) : Pr Sl := soft (fun v w => ∃ (u : Value) (qs : List (Grp × Value)), v = .tuple #[u, .int .i64 er] ∧ grps qs = gs ∧ OwN w0 w u qs) fun _ _ _ ⟨u, q, h1, h2, h3⟩ k => ⟨u, q, h1, h2, h3.keptNo k⟩
def PMg {Sl : Nat → Nat → Prop} (w0 : World) (gs : List Grp) : Pr Sl := soft (fun v w => ∃ (qs : List (Grp × Value)), grps qs = gs ∧ OwN w0 w v qs) fun _ _ _ ⟨q, h2, h3⟩ k => ⟨q, h2, h3.keptNo k⟩
def PEr {Sl : Nat → Nat → Prop} (er : Int) : Pr Sl := soft (fun v _ => v = .int .i64 er) fun _ _ _ h _ => h
def PS2 {Sl : Nat → Nat → Prop} (g : Nat) (C : Array Value) : Pr Sl := soft (fun _ w => w.heap[g]? = some (.cells C 24 (0, 0))) fun _ _ _ h k => (k.block _ (lt_of_heap h) id).trans h
theorem rng_row {w : World} {g : Nat} {L : List Value} {t : TypeId} {fr : Nat × Nat} (h : w.heap[g]? = some (.cells L.toArray t fr)) : w.rangeAt g 0 L := fun j u hu => by
  rw [Nat.zero_add, cell_of_row w g j _ _ _ h]; simpa using hu
theorem results_two {fn : Func} {p q r s : Tmp} (h : fn.results = #[.cell p 24, .tmp q, .tmp r, .tmp s]) (tmps : Array Value) (w : World) (g : Nat) (C : Array Value) (hC : C.size = 9) (v1 v2 v3 : Value)
    (hp : tmps.getD p undef = .pointer (some ⟨g, 0, none⟩)) (hq : tmps.getD q undef = v1) (hr : tmps.getD r undef = v2) (hs : tmps.getD s undef = v3) (hg : w.heap[g]? = some (.cells C 24 (0, 0))) :
    (results fn tmps).run Tryz.prog w = .ok (.tuple #[.agg C, v1, v2, v3]) w := by
  (have hp' : tmps[p]?.getD undef = .pointer (some ⟨g, 0, none⟩) := by simpa using hp); (have hq' : tmps[q]?.getD undef = v1 := by simpa using hq); (have hr' : tmps[r]?.getD undef = v2 := by simpa using hr); (have hs' : tmps[s]?.getD undef = v3 := by simpa using hs); (have hi : (Tryz.prog.info? 24).map (·.size) = some C.size := by rw [hC]; kernel_rfl); (have hl := run_loadVar_row w g 24 24 C (0, 0) _ hg Tryz.underlying24 rfl hi); (simp only [results, h, List.mapM_toArray, List.mapM_cons, List.mapM_nil])
  simp [hp', hq', hr', hs', asAddr, hl]
/-- What two answers. -/
def TwoR (X : Pls) (la lb : List (List Int)) (lz : List Int) (w : World) (e : Ending) (w' : World) : Prop := ∃ (va vb : Value) (m : Nat) (t : Int), m = min X.nc 4 ∧ t = tyOf X.t ∧ e = .returned (.tuple #[.agg #[.string ⟨#[]⟩, .slice X.ac m X.cc, .int .i64 1, .int .i64 1, .int .i64 0, .int .i64 0, .int .i64 t, .int .i64 0, .int .i64 0], va, vb, .bool (decide ((mk (m : Int) (la.take (cutN la lb))).2 = 0) && decide ((mk (m : Int) (lb.take (cutN la lb))).2 = 0) && decide (fitP 1 m 1 1 0 t (mk (m : Int) (la.take (cutN la lb))).1 lz = 0))]) ∧ (∃ qs, grps qs = (mk (m : Int) (la.take (cutN la lb))).1 ∧ RdG w' va qs) ∧ (∃ qs, grps qs = (mk (m : Int) (lb.take (cutN la lb))).1 ∧ RdG w' vb qs) ∧ Kept no w w'
set_option maxRecDepth 100000 in
set_option maxHeartbeats 4000000 in
theorem two_any (X : Pls) (bsA bsB : List (List Int × Value)) (lz : List Int) (w : World) (hcc : X.nc ≤ X.cc) (hca : X.cc = 0 ∨ ∃ b o, X.ac = some ⟨b, o, none⟩) (rA : RdB w X.vA bsA) (rB : RdB w X.vB bsB) (rL : RdZ w X.vL lz) :
    Calls Tryz.prog 6 #[.agg #[.string X.nm, .slice X.ac X.nc X.cc, .int .i64 X.cm, .int .i64 X.s, .int .i64 X.ra, .int .i64 X.d, .int .i64 X.t, .int .i64 X.ov, .int .i64 X.sk, X.vA, X.vB, X.vL, .int .i64 X.At, .int .i64 X.V]] w (TwoR X (lists bsA) (lists bsB) lz w) := by
  (have hm63 := maxLen_63); (obtain ⟨aA, cA, evA, hcA, hcmA⟩ := Rd.shape2 rA.2); (obtain ⟨aB, cB, evB, hcB, hcmB⟩ := Rd.shape2 rB.2); (obtain ⟨y1, y2, y3, y4, y5, y6⟩ := ty_ok X.t); (obtain ⟨t, ht⟩ : ∃ t, tyOf X.t = t := ⟨_, rfl⟩); (rw [ht] at y4 y5 y6); (obtain ⟨m, hm⟩ : ∃ m, min X.nc 4 = m := ⟨_, rfl⟩); (have m1 : min (X.nc : Int) 4 = (m : Int) := by omega); (have hmc : m ≤ X.cc := by omega); (have m4 : m ≤ 4 := by omega); (obtain ⟨kn, hkn⟩ : ∃ k, cutN (lists bsA) (lists bsB) = k := ⟨_, rfl⟩); (have hk2 : min (min bsA.length bsB.length) 7 = kn := by rw [← hkn]; unfold cutN; rw [lists_length, lists_length]); (have hkA : kn ≤ bsA.length := by omega); (have hkB : kn ≤ bsB.length := by omega); (rw [evA] at rA); (rw [evB] at rB); (have rA2 := rA.take kn hkA); (have rB2 := rB.take kn hkB); (have sS := hid (fun (W : World) => pre_sliceS X.ac X.nc X.cc m hca hmc W)); (have sA := hid (fun (W : World) => pre_sliceB aA bsA.length cA kn (by exact rA.addr) (by omega) W)); (have sB := hid (fun (W : World) => pre_sliceB aB bsB.length cB kn (by exact rB.addr) (by omega) W)); (have HMA := hid (fun (W : World) (k : Kept no w W) => makeO_any (m : Int) _ _ W (rA2.kept k))); (have HMB := hid (fun (W : World) (k : Kept no w W) => makeO_any (m : Int) _ _ W (rB2.kept k))); (rw [lists_take] at HMA HMB); (obtain ⟨gA, hgA⟩ : ∃ g, (mk (m : Int) ((lists bsA).take kn)).1 = g := ⟨_, rfl⟩); (obtain ⟨eA, heA⟩ : ∃ g, (mk (m : Int) ((lists bsA).take kn)).2 = g := ⟨_, rfl⟩); (obtain ⟨gB, hgB⟩ : ∃ g, (mk (m : Int) ((lists bsB).take kn)).1 = g := ⟨_, rfl⟩); (obtain ⟨eB, heB⟩ : ∃ g, (mk (m : Int) ((lists bsB).take kn)).2 = g := ⟨_, rfl⟩); (rw [hgA, heA] at HMA); (rw [hgB, heB] at HMB); (obtain ⟨la, hla⟩ : ∃ l, bsA.length = l := ⟨_, rfl⟩); (obtain ⟨lb, hlb⟩ : ∃ l, bsB.length = l := ⟨_, rfl⟩); (rw [hla] at evA hk2 sA); (rw [hlb] at evB hk2 sB); (obtain ⟨ml, hml⟩ : ∃ ml, min la lb = ml := ⟨_, rfl⟩); (have n1 : min (la : Int) (lb : Int) = (ml : Int) := by omega); (have n2 : min (ml : Int) 7 = (kn : Int) := by omega); (have n3 : (if (lb : Int) < (la : Int) then (lb : Int) else (la : Int)) = (ml : Int) := by split <;> omega); (have n4 : (if lb < la then (lb : Int) else (la : Int)) = (ml : Int) := by split <;> omega); (have n5 : (if (7 : Int) < (ml : Int) then (7 : Int) else (ml : Int)) = (kn : Int) := by split <;> omega); (have n6 : (if 7 < ml then (7 : Int) else (ml : Int)) = (kn : Int) := by split <;> omega); (clear hml); (have HF := hid (fun (W : World) (k : Kept no w W) (v : Value) (qs : List (Grp × Value)) (hq : grps qs = gA) (r : RdG W v qs) => (hq ▸ fit_any 1 ⟨#[]⟩ X.ac m X.cc 1 1 0 0 t 0 0 v X.vL qs lz W r (RdZ.kept rL k) : Calls Tryz.prog 25 #[.int .i64 1, .agg #[.string ⟨#[]⟩, .slice X.ac m X.cc, .int .i64 1, .int .i64 1, .int .i64 0, .int .i64 0, .int .i64 t, .int .i64 0, .int .i64 0], v, X.vL] W fun e w' => e = .returned (.int .i64 (fitP 1 m 1 1 0 t gA lz)) ∧ Kept no W w'))); (obtain ⟨w1, hw1, g1, k1⟩ := alloc_named w (.cells #[.string X.nm, .slice X.ac X.nc X.cc, .int .i64 X.cm, .int .i64 X.s, .int .i64 X.ra, .int .i64 X.d, .int .i64 X.t, .int .i64 X.ov, .int .i64 X.sk, X.vA, X.vB, X.vL, .int .i64 X.At, .int .i64 X.V] 28)); (have e1 : w1.heap.size = w.heap.size + 1 := by rw [hw1]; simp); (obtain ⟨w2, hw2, g2, k2⟩ := alloc_named w1 (.cells #[.string ⟨#[]⟩, .slice none 0 0, .int .i64 0, .int .i64 0, .int .i64 0, .int .i64 0, .int .i64 0, .int .i64 0, .int .i64 0] 24)); (obtain ⟨GB, hGB⟩ : ∃ g, w.heap.size = g := ⟨_, rfl⟩); (obtain ⟨G2, hG2⟩ : ∃ g, w1.heap.size = g := ⟨_, rfl⟩); (have k02 := hid (k1.trans' k2)); (have b0 := hid (k2.blk g1)); (have b2 := hid g2); (rw [hGB] at b0); (rw [hG2] at b2); (have q12 : Hd (GB + 1 = G2) := ⟨by omega⟩); (have hwG : Hd (w.heap.size ≤ G2) := ⟨by omega⟩); (have hG2l : Hd (G2 < w2.heap.size) := ⟨lt_of_heap b2.out⟩); (rw [evA, evB] at b0 hw1 ⊢); (replace evA := hid evA); (replace evB := hid evB)
  have hB : ∀ (W : World), Kept no w2 W → W.cell? ⟨GB, 1, none⟩ = some (.slice X.ac X.nc X.cc) ∧ W.cell? ⟨GB, 6, none⟩ = some (.int .i64 X.t) ∧ W.cell? ⟨GB, 9, none⟩ = some (.slice aA la cA) ∧ W.cell? ⟨GB, 10, none⟩ = some (.slice aB lb cB) ∧ W.cell? ⟨GB, 11, none⟩ = some (X.vL) := fun W k => by
    (have h := k.blk b0.out); (exact ⟨cell_at h rfl, cell_at h rfl, cell_at h rfl, cell_at h rfl, cell_at h rfl⟩)
  (replace hm := hid hm); (replace ht := hid ht); (replace hkn := hid hkn); (replace hgA := hid hgA); (replace hgB := hid hgB); (replace heA := hid heA); (replace heB := hid heB); (replace hw1 := hid hw1); (replace hw2 := hid hw2); (replace hGB := hid hGB); (replace hG2 := hid hG2); (clear g1 g2 k1 k2 e1 rA2 rB2 hcA hcmA hcB hcmB hk2 hcc hca)
  go_enter Tryz.func6, Tryz.ntmps6
  (go_upto_region 1 with fail); (rw [← hw1.out, hGB.out]); (try rw [q12.out]); (rw [← hw2.out]); (have c1 := (hB w2 (Kept.refl _ _)).1); (have c6 := (hB w2 (Kept.refl _ _)).2.1); (replace c1 := hid c1); (replace c6 := hid c6); (refine region_flow (S := (fun j => w2.drew.heap.size ≤ j)) (Sl := (fun _ => (fun j => w2.drew.heap.size ≤ j))) [Is (.pointer (some ⟨GB, 0, none⟩)), Is (.pointer (some ⟨GB, 6, none⟩)), Is (.int .i64 X.t), Is (.int .i64 (X.t.tmod 3)), Is (.int .i64 (X.t.tmod 3 + 3)), Is (.int .i64 ((X.t.tmod 3 + 3).tmod 3)), Is (.int .i64 t), Is (.pointer (some ⟨GB, 0, none⟩)), Is (.pointer (some ⟨GB, 1, none⟩)), Is (.slice X.ac X.nc X.cc), Is (.pointer (some ⟨GB, 0, none⟩)), Is (.pointer (some ⟨GB, 1, none⟩)), Is (.slice X.ac X.nc X.cc), Is (.int .i64 (X.nc : Int)), Is (.int .i64 (m : Int)), Is (.slice X.ac m X.cc), Is (.agg #[.string ⟨#[]⟩, .slice X.ac m X.cc, .int .i64 1, .int .i64 1, .int .i64 0, .int .i64 0, .int .i64 t, .int .i64 0, .int .i64 0]), PAlC w2.drew.heap.size, PStC 17 w2.drew.heap.size #[.string ⟨#[]⟩, .slice X.ac m X.cc, .int .i64 1, .int .i64 1, .int .i64 0, .int .i64 0, .int .i64 t, .int .i64 0, .int .i64 0]] [18] (fun _ _ h => h) _ (by kernel_rfl) (by kernel_rfl) (by kernel_rfl) (by kernel_rfl) (fun x => by simp only [puts, Act.put, List.map_cons, List.map_nil, Nat.zero_add, Nat.reduceAdd, List.setIfInBounds_toArray, List.set_cons_zero, List.set_cons_succ]; exact rfl) ?_ ?_)
  · (skip); (refine .cons (fun x wf Kk hq hdep hold => ?_) ?_)
    · (try dsimp only); (clear hq hdep hold); (rw [if_pos (by rfl)]); (refine OpY.val ?_ ⟨Kept.refl _ _, rfl⟩); (first | rfl | go_simp)
    refine .cons (fun x wf Kk hq hdep hold => ?_) ?_
    · (try dsimp only); (have h0 : x 0 = _ := hdep 0 (by kernel_rfl)); (clear hq hdep hold); (simp only [h0]); (clear h0); (rw [if_pos (by rfl)]); (refine OpY.val ?_ ⟨Kept.refl _ _, rfl⟩); (first | rfl | go_simp)
    refine .cons (fun x wf Kk hq hdep hold => ?_) ?_
    · (try dsimp only); (have h1 : x 1 = _ := hdep 1 (by kernel_rfl)); (have Kq := hq no (fun j hj => by cases (show j ∈ ([] : List Nat) from by (have e : ∀ l : List Nat, l = [] → j ∈ l → j ∈ ([] : List Nat) := fun l h h2 => h ▸ h2); exact e _ (by kernel_rfl) hj))); (clear hq hdep hold); (simp only [h1]); (clear h1); (have m1 := Kq.undrew.cell c6.out id); (rw [if_pos (by rfl)]); (refine OpY.val ?_ ⟨Kept.refl _ _, rfl⟩); (first | rfl | go_simp)
    refine .cons (fun x wf Kk hq hdep hold => ?_) ?_
    · (try dsimp only); (have h2 : x 2 = _ := hdep 2 (by kernel_rfl)); (clear hq hdep hold); (simp only [h2]); (clear h2); (rw [if_pos (by rfl)]); (refine OpY.val ?_ ⟨Kept.refl _ _, rfl⟩); (first | rfl | go_simp)
    refine .cons (fun x wf Kk hq hdep hold => ?_) ?_
    · (try dsimp only); (have h3 : x 3 = _ := hdep 3 (by kernel_rfl)); (clear hq hdep hold); (simp only [h3]); (clear h3); (rw [if_pos (by rfl)]); (refine OpY.val ?_ ⟨Kept.refl _ _, rfl⟩); (first | rfl | go_simp)
    refine .cons (fun x wf Kk hq hdep hold => ?_) ?_
    · (try dsimp only); (have h4 : x 4 = _ := hdep 4 (by kernel_rfl)); (clear hq hdep hold); (simp only [h4]); (clear h4); (rw [if_pos (by rfl)]); (refine OpY.val ?_ ⟨Kept.refl _ _, rfl⟩); (first | rfl | go_simp)
    refine .cons (fun x wf Kk hq hdep hold => ?_) ?_
    · (try dsimp only); (have h5 : x 5 = _ := hdep 5 (by kernel_rfl)); (clear hq hdep hold); (simp only [h5]); (clear h5); (rw [if_pos (by rfl)]); (refine OpY.val ?_ ⟨Kept.refl _ _, rfl⟩); (first | rfl | go_simp)
    refine .cons (fun x wf Kk hq hdep hold => ?_) ?_
    · (try dsimp only); (clear hq hdep hold); (rw [if_pos (by rfl)]); (refine OpY.val ?_ ⟨Kept.refl _ _, rfl⟩); (first | rfl | go_simp)
    refine .cons (fun x wf Kk hq hdep hold => ?_) ?_
    · (try dsimp only); (have h7 : x 7 = _ := hdep 7 (by kernel_rfl)); (clear hq hdep hold); (simp only [h7]); (clear h7); (rw [if_pos (by rfl)]); (refine OpY.val ?_ ⟨Kept.refl _ _, rfl⟩); (first | rfl | go_simp)
    refine .cons (fun x wf Kk hq hdep hold => ?_) ?_
    · (try dsimp only); (have h8 : x 8 = _ := hdep 8 (by kernel_rfl)); (have Kq := hq no (fun j hj => by cases (show j ∈ ([] : List Nat) from by (have e : ∀ l : List Nat, l = [] → j ∈ l → j ∈ ([] : List Nat) := fun l h h2 => h ▸ h2); exact e _ (by kernel_rfl) hj))); (clear hq hdep hold); (simp only [h8]); (clear h8); (have m1 := Kq.undrew.cell c1.out id); (rw [if_pos (by rfl)]); (refine OpY.val ?_ ⟨Kept.refl _ _, rfl⟩); (first | rfl | go_simp)
    refine .cons (fun x wf Kk hq hdep hold => ?_) ?_
    · (try dsimp only); (clear hq hdep hold); (rw [if_pos (by rfl)]); (refine OpY.val ?_ ⟨Kept.refl _ _, rfl⟩); (first | rfl | go_simp)
    refine .cons (fun x wf Kk hq hdep hold => ?_) ?_
    · (try dsimp only); (have h10 : x 10 = _ := hdep 10 (by kernel_rfl)); (clear hq hdep hold); (simp only [h10]); (clear h10); (rw [if_pos (by rfl)]); (refine OpY.val ?_ ⟨Kept.refl _ _, rfl⟩); (first | rfl | go_simp)
    refine .cons (fun x wf Kk hq hdep hold => ?_) ?_
    · (try dsimp only); (have h11 : x 11 = _ := hdep 11 (by kernel_rfl)); (have Kq := hq no (fun j hj => by cases (show j ∈ ([] : List Nat) from by (have e : ∀ l : List Nat, l = [] → j ∈ l → j ∈ ([] : List Nat) := fun l h h2 => h ▸ h2); exact e _ (by kernel_rfl) hj))); (clear hq hdep hold); (simp only [h11]); (clear h11); (have m1 := Kq.undrew.cell c1.out id); (rw [if_pos (by rfl)]); (refine OpY.val ?_ ⟨Kept.refl _ _, rfl⟩); (first | rfl | go_simp)
    refine .cons (fun x wf Kk hq hdep hold => ?_) ?_
    · (try dsimp only); (have h12 : x 12 = _ := hdep 12 (by kernel_rfl)); (clear hq hdep hold); (simp only [h12]); (clear h12); (rw [if_pos (by rfl)]); (refine OpY.val ?_ ⟨Kept.refl _ _, rfl⟩); (first | rfl | go_simp)
    refine .cons (fun x wf Kk hq hdep hold => ?_) ?_
    · (try dsimp only); (have h13 : x 13 = _ := hdep 13 (by kernel_rfl)); (clear hq hdep hold); (simp only [h13]); (clear h13); (rw [if_pos (by rfl)]); (refine OpY.val ?_ ⟨Kept.refl _ _, rfl⟩); (first | rfl | go_simp)
    refine .cons (fun x wf Kk hq hdep hold => ?_) ?_
    · (try dsimp only); (have h9 : x 9 = _ := hdep 9 (by kernel_rfl)); (have h14 : x 14 = _ := hdep 14 (by kernel_rfl)); (clear hq hdep hold); (simp only [h9, h14]); (clear h9 h14); (rw [if_pos (by rfl)]); (have s9 := sS.out wf); (refine OpY.val ?_ ⟨Kept.refl _ _, rfl⟩); (go_simp)
    refine .cons (fun x wf Kk hq hdep hold => ?_) ?_
    · (try dsimp only); (have h6 : x 6 = _ := hdep 6 (by kernel_rfl)); (have h15 : x 15 = _ := hdep 15 (by kernel_rfl)); (clear hq hdep hold); (simp only [h6, h15]); (clear h6 h15); (rw [if_pos (by rfl)]); (refine OpY.val ?_ ⟨Kept.refl _ _, rfl⟩); (first | rfl | go_simp)
    refine .cons (fun x wf Kk hq hdep hold => ?_) ?_
    · (try dsimp only); (clear hq hdep hold); (rw [if_pos (by rfl)]); (exact OpY.allocC rfl ⟨(Kept.refl _ _).alloc _, _, rfl, Kk.size, heap_alloc_new _ _⟩)
    refine .cons (fun x wf Kk hq hdep hold => ?_) ?_
    · (try dsimp only); (have p17 : Pr.p (Sl := (fun _ => (fun j => w2.drew.heap.size ≤ j))) (PAlC w2.drew.heap.size) (x 17) wf := hdep 17 (by kernel_rfl)); (have h16 : x 16 = _ := hdep 16 (by kernel_rfl)); (clear hq hdep hold); (simp only [h16]); (clear h16); (rw [if_pos (by rfl)]); (obtain ⟨g, eg, hg, hgb⟩ := p17); (rw [eg]); (refine OpY.storeRowT 24 (.tmp 6) (.tmp 28) rfl g #[.string ⟨#[]⟩, .slice X.ac m X.cc, .int .i64 1, .int .i64 1, .int .i64 0, .int .i64 0, .int .i64 t, .int .i64 0, .int .i64 0] rfl rfl 24 _ hgb (by kernel_rfl) rfl (by simp [Value.oneCell']) ?_); (exact ⟨((Kept.refl (fun j => j = g) wf).setRow (g := g) (.inl rfl) _).mono fun j _ h => by (have h : j = g := h); subst h; exact hg, g, eg, hg, setRow_heap _ _ _ _ _ _ hgb⟩)
    exact .nil _
  · (intro x wf Kk hv); (try dsimp only); (have p18 : Pr.r (Sl := (fun _ => (fun j => w2.drew.heap.size ≤ j))) (PStC 17 w2.drew.heap.size #[.string ⟨#[]⟩, .slice X.ac m X.cc, .int .i64 1, .int .i64 1, .int .i64 0, .int .i64 0, .int .i64 t, .int .i64 0, .int .i64 0]) (x 17) (x 18) wf := hv 18 (by kernel_rfl)); (clear hv); (obtain ⟨g6, e6, hg6, b6⟩ := p18); (simp only [e6]); (have kw1 : Hd (Kept no w2 wf) := ⟨(Kept.fresh Kk).undrew⟩); (have b6' := hid b6); (have hg6' : Hd (G2 < g6) := ⟨by have := lt_of_heap b2.out; have : w2.drew.heap.size = w2.heap.size := rfl; omega⟩); (clear Kk e6 hg6 b6 c1 c6); (obtain ⟨w3, hw3⟩ : ∃ W, wf = W := ⟨_, rfl⟩); (rw [hw3] at kw1 b6' ⊢); (clear hw3); (obtain ⟨a1, a6, a9, a10, a11⟩ := hB w3 kw1.out); (clear a1 a6 a11); (go_upto_region 3 with fail); (have a9' := hid a9); (have d1 : Hd (w3.cell? ⟨g6, 1, none⟩ = some (.slice X.ac m X.cc)) := ⟨cell_at b6'.out rfl⟩); (clear a9 a10 n1 n2 n3 n4 n5 n6 m1); (refine region_flow (S := no) (Sl := (fun _ => no)) [Is (.pointer (some ⟨g6, 1, none⟩)), Is (.slice X.ac m X.cc), Is (.int .i64 (m : Int)), Is (.pointer (some ⟨GB, 9, none⟩)), Is (.slice aA la cA), Is (.int .i64 (kn : Int)), Is (.slice aA kn cA), PMk w2 gA eA, PMk w2 gA eA, PMg w2 gA, PEr eA, PMg w2 gA, PEr eA] [] (fun _ _ h => h) _ (by kernel_rfl) (by kernel_rfl) (by kernel_rfl) (by kernel_rfl) (fun x => by simp only [puts, Act.put, List.map_cons, List.map_nil, Nat.zero_add, Nat.reduceAdd, List.setIfInBounds_toArray, List.set_cons_zero, List.set_cons_succ]; exact rfl) ?_ ?_)
    · (skip); (refine .cons (fun x wf Kk hq hdep hold => ?_) ?_)
      · (try dsimp only); (clear hq hdep hold); (rw [if_pos (by rfl)]); (refine OpY.val ?_ ⟨Kept.refl _ _, rfl⟩); (first | rfl | go_simp)
      refine .cons (fun x wf Kk hq hdep hold => ?_) ?_
      · (try dsimp only); (have h0 : x 0 = _ := hdep 0 (by kernel_rfl)); (have Kq := hq no (fun j hj => by cases (show j ∈ ([] : List Nat) from by (have e : ∀ l : List Nat, l = [] → j ∈ l → j ∈ ([] : List Nat) := fun l h h2 => h ▸ h2); exact e _ (by kernel_rfl) hj))); (clear hq hdep hold); (simp only [h0]); (clear h0); (have m1 := Kq.undrew.cell d1.out id); (rw [if_pos (by rfl)]); (refine OpY.val ?_ ⟨Kept.refl _ _, rfl⟩); (first | rfl | go_simp)
      refine .cons (fun x wf Kk hq hdep hold => ?_) ?_
      · (try dsimp only); (have h1 : x 1 = _ := hdep 1 (by kernel_rfl)); (clear hq hdep hold); (simp only [h1]); (clear h1); (rw [if_pos (by rfl)]); (refine OpY.val ?_ ⟨Kept.refl _ _, rfl⟩); (first | rfl | go_simp)
      refine .cons (fun x wf Kk hq hdep hold => ?_) ?_
      · (try dsimp only); (clear hq hdep hold); (rw [if_pos (by rfl)]); (refine OpY.val ?_ ⟨Kept.refl _ _, rfl⟩); (first | rfl | go_simp)
      refine .cons (fun x wf Kk hq hdep hold => ?_) ?_
      · (try dsimp only); (have h3 : x 3 = _ := hdep 3 (by kernel_rfl)); (have Kq := hq no (fun j hj => by cases (show j ∈ ([] : List Nat) from by (have e : ∀ l : List Nat, l = [] → j ∈ l → j ∈ ([] : List Nat) := fun l h h2 => h ▸ h2); exact e _ (by kernel_rfl) hj))); (clear hq hdep hold); (simp only [h3]); (clear h3); (have m1 := Kq.undrew.cell a9'.out id); (rw [if_pos (by rfl)]); (refine OpY.val ?_ ⟨Kept.refl _ _, rfl⟩); (first | rfl | go_simp)
      refine .cons (fun x wf Kk hq hdep hold => ?_) ?_
      · (try dsimp only); (clear hq hdep hold); (rw [if_pos (by rfl)]); (refine OpY.val ?_ ⟨Kept.refl _ _, rfl⟩); (first | rfl | go_simp)
      refine .cons (fun x wf Kk hq hdep hold => ?_) ?_
      · (try dsimp only); (have h4 : x 4 = _ := hdep 4 (by kernel_rfl)); (have h5 : x 5 = _ := hdep 5 (by kernel_rfl)); (clear hq hdep hold); (simp only [h4, h5]); (clear h4 h5); (rw [if_pos (by rfl)]); (have s9 := sA.out wf); (refine OpY.val ?_ ⟨Kept.refl _ _, rfl⟩); (go_simp)
      refine .cons (fun x wf Kk hq hdep hold => ?_) ?_
      · (try dsimp only); (have h2 : x 2 = _ := hdep 2 (by kernel_rfl)); (have h6 : x 6 = _ := hdep 6 (by kernel_rfl)); (have Kq := hq no (fun j hj => by cases (show j ∈ ([] : List Nat) from by (have e : ∀ l : List Nat, l = [] → j ∈ l → j ∈ ([] : List Nat) := fun l h h2 => h ▸ h2); exact e _ (by kernel_rfl) hj))); (clear hq hdep hold); (simp only [h2, h6]); (clear h2 h6); (rw [if_pos (by rfl)]); (refine OpY.call (f := 14) (args := #[(.int .i64 (m : Int)), (.slice aA kn cA)]) (by go_simp) ?_); (refine (HMA.out wf (k02.out.trans' (kw1.out.trans' Kq.undrew))).mono ?_); (rintro e w7 ⟨v', rfl, q, h1, h2⟩); (exact ⟨_, rfl, h2.kept, v', q, rfl, h1, h2.from_ (kw1.out.trans' Kq.undrew)⟩)
      refine .cons (fun x wf Kk hq hdep hold => ?_) ?_
      · (try dsimp only); (have p7 : Pr.p (Sl := (fun _ => no)) (PMk w2 gA eA) (x 7) wf := hdep 7 (by kernel_rfl)); (clear hq hdep hold); (rw [if_pos (by rfl)]); (refine OpY.val (v := x 7) (by go_simp) ⟨Kept.refl _ _, p7⟩)
      refine .cons (fun x wf Kk hq hdep hold => ?_) ?_
      · (try dsimp only); (have p8 : Pr.p (Sl := (fun _ => no)) (PMk w2 gA eA) (x 8) wf := hdep 8 (by kernel_rfl)); (clear hq hdep hold); (rw [if_pos (by rfl)]); (obtain ⟨u9, q9, e9, h9, r9⟩ := p8); (rw [e9]); (refine OpY.val (v := u9) (by go_simp) ⟨Kept.refl _ _, q9, h9, r9⟩)
      refine .cons (fun x wf Kk hq hdep hold => ?_) ?_
      · (try dsimp only); (have p8 : Pr.p (Sl := (fun _ => no)) (PMk w2 gA eA) (x 8) wf := hdep 8 (by kernel_rfl)); (clear hq hdep hold); (rw [if_pos (by rfl)]); (obtain ⟨u9, q9, e9, h9, r9⟩ := p8); (rw [e9]); (refine OpY.val (v := .int .i64 eA) (by go_simp) ⟨Kept.refl _ _, rfl⟩)
      refine .cons (fun x wf Kk hq hdep hold => ?_) ?_
      · (try dsimp only); (have p9 : Pr.p (Sl := (fun _ => no)) (PMg w2 gA) (x 9) wf := hdep 9 (by kernel_rfl)); (clear hq hdep hold); (rw [if_pos (by rfl)]); (refine OpY.val (v := x 9) (by go_simp) ⟨Kept.refl _ _, p9⟩)
      refine .cons (fun x wf Kk hq hdep hold => ?_) ?_
      · (try dsimp only); (have p10 : Pr.p (Sl := (fun _ => no)) (PEr eA) (x 10) wf := hdep 10 (by kernel_rfl)); (clear hq hdep hold); (rw [if_pos (by rfl)]); (refine OpY.val (v := x 10) (by go_simp) ⟨Kept.refl _ _, p10⟩)
      exact .nil _
    · (intro x wf Kk hv); (try dsimp only); (have p11 : Pr.p (Sl := (fun _ => no)) (PMg w2 gA) (x 11) wf := hv 11 (by kernel_rfl)); (have p12 : Pr.p (Sl := (fun _ => no)) (PEr eA) (x 12) wf := hv 12 (by kernel_rfl)); (clear hv); (have k4 := hid (kw1.out.trans' Kk.undrew)); (have b6w := hid (Kk.undrew.blk b6'.out)); (have pa : ∃ qs, grps qs = gA ∧ OwN w2 wf (x 11) qs := p11); (have pe : x 12 = .int .i64 eA := p12); (clear p11 p12 Kk); (obtain ⟨w4, hw4⟩ : ∃ W, wf = W := ⟨_, rfl⟩); (rw [hw4] at k4 b6w pa ⊢); (simp only [pe]); (obtain ⟨va, hva⟩ : ∃ v, x 11 = v := ⟨_, rfl⟩); (rw [hva] at pa); (simp only [hva]); (obtain ⟨qsA, hqA, rgA⟩ := pa); (replace hqA := hid hqA); (replace rgA := hid rgA); (clear hw4 pe hva b6' d1 a9' kw1); (obtain ⟨a1, a6, a9, a10, a11⟩ := hB w4 k4.out); (have a10' := hid a10); (have d1 : Hd (w4.cell? ⟨g6, 1, none⟩ = some (.slice X.ac m X.cc)) := ⟨cell_at b6w.out rfl⟩); (clear a1 a6 a9 a10 a11); (go_upto_region 4 with fail); (refine region_flow (S := no) (Sl := (fun _ => no)) [Is (.pointer (some ⟨g6, 1, none⟩)), Is (.slice X.ac m X.cc), Is (.int .i64 (m : Int)), Is (.pointer (some ⟨GB, 10, none⟩)), Is (.slice aB lb cB), Is (.int .i64 (kn : Int)), Is (.slice aB kn cB), PMk w2 gB eB, PMk w2 gB eB, PMg w2 gB, PEr eB, PMg w2 gB, PEr eB] [] (fun _ _ h => h) _ (by kernel_rfl) (by kernel_rfl) (by kernel_rfl) (by kernel_rfl) (fun x => by simp only [puts, Act.put, List.map_cons, List.map_nil, Nat.zero_add, Nat.reduceAdd, List.setIfInBounds_toArray, List.set_cons_zero, List.set_cons_succ]; exact rfl) ?_ ?_)
      · (skip); (refine .cons (fun x wf Kk hq hdep hold => ?_) ?_)
        · (try dsimp only); (clear hq hdep hold); (rw [if_pos (by rfl)]); (refine OpY.val ?_ ⟨Kept.refl _ _, rfl⟩); (first | rfl | go_simp)
        refine .cons (fun x wf Kk hq hdep hold => ?_) ?_
        · (try dsimp only); (have h0 : x 0 = _ := hdep 0 (by kernel_rfl)); (have Kq := hq no (fun j hj => by cases (show j ∈ ([] : List Nat) from by (have e : ∀ l : List Nat, l = [] → j ∈ l → j ∈ ([] : List Nat) := fun l h h2 => h ▸ h2); exact e _ (by kernel_rfl) hj))); (clear hq hdep hold); (simp only [h0]); (clear h0); (have m1 := Kq.undrew.cell d1.out id); (rw [if_pos (by rfl)]); (refine OpY.val ?_ ⟨Kept.refl _ _, rfl⟩); (first | rfl | go_simp)
        refine .cons (fun x wf Kk hq hdep hold => ?_) ?_
        · (try dsimp only); (have h1 : x 1 = _ := hdep 1 (by kernel_rfl)); (clear hq hdep hold); (simp only [h1]); (clear h1); (rw [if_pos (by rfl)]); (refine OpY.val ?_ ⟨Kept.refl _ _, rfl⟩); (first | rfl | go_simp)
        refine .cons (fun x wf Kk hq hdep hold => ?_) ?_
        · (try dsimp only); (clear hq hdep hold); (rw [if_pos (by rfl)]); (refine OpY.val ?_ ⟨Kept.refl _ _, rfl⟩); (first | rfl | go_simp)
        refine .cons (fun x wf Kk hq hdep hold => ?_) ?_
        · (try dsimp only); (have h3 : x 3 = _ := hdep 3 (by kernel_rfl)); (have Kq := hq no (fun j hj => by cases (show j ∈ ([] : List Nat) from by (have e : ∀ l : List Nat, l = [] → j ∈ l → j ∈ ([] : List Nat) := fun l h h2 => h ▸ h2); exact e _ (by kernel_rfl) hj))); (clear hq hdep hold); (simp only [h3]); (clear h3); (have m1 := Kq.undrew.cell a10'.out id); (rw [if_pos (by rfl)]); (refine OpY.val ?_ ⟨Kept.refl _ _, rfl⟩); (first | rfl | go_simp)
        refine .cons (fun x wf Kk hq hdep hold => ?_) ?_
        · (try dsimp only); (clear hq hdep hold); (rw [if_pos (by rfl)]); (refine OpY.val ?_ ⟨Kept.refl _ _, rfl⟩); (first | rfl | go_simp)
        refine .cons (fun x wf Kk hq hdep hold => ?_) ?_
        · (try dsimp only); (have h4 : x 4 = _ := hdep 4 (by kernel_rfl)); (have h5 : x 5 = _ := hdep 5 (by kernel_rfl)); (clear hq hdep hold); (simp only [h4, h5]); (clear h4 h5); (rw [if_pos (by rfl)]); (have s9 := sB.out wf); (refine OpY.val ?_ ⟨Kept.refl _ _, rfl⟩); (go_simp)
        refine .cons (fun x wf Kk hq hdep hold => ?_) ?_
        · (try dsimp only); (have h2 : x 2 = _ := hdep 2 (by kernel_rfl)); (have h6 : x 6 = _ := hdep 6 (by kernel_rfl)); (have Kq := hq no (fun j hj => by cases (show j ∈ ([] : List Nat) from by (have e : ∀ l : List Nat, l = [] → j ∈ l → j ∈ ([] : List Nat) := fun l h h2 => h ▸ h2); exact e _ (by kernel_rfl) hj))); (clear hq hdep hold); (simp only [h2, h6]); (clear h2 h6); (rw [if_pos (by rfl)]); (refine OpY.call (f := 14) (args := #[(.int .i64 (m : Int)), (.slice aB kn cB)]) (by go_simp) ?_); (refine (HMB.out wf (k02.out.trans' (k4.out.trans' Kq.undrew))).mono ?_); (rintro e w7 ⟨v', rfl, q, h1, h2⟩); (exact ⟨_, rfl, h2.kept, v', q, rfl, h1, h2.from_ (k4.out.trans' Kq.undrew)⟩)
        refine .cons (fun x wf Kk hq hdep hold => ?_) ?_
        · (try dsimp only); (have p7 : Pr.p (Sl := (fun _ => no)) (PMk w2 gB eB) (x 7) wf := hdep 7 (by kernel_rfl)); (clear hq hdep hold); (rw [if_pos (by rfl)]); (refine OpY.val (v := x 7) (by go_simp) ⟨Kept.refl _ _, p7⟩)
        refine .cons (fun x wf Kk hq hdep hold => ?_) ?_
        · (try dsimp only); (have p8 : Pr.p (Sl := (fun _ => no)) (PMk w2 gB eB) (x 8) wf := hdep 8 (by kernel_rfl)); (clear hq hdep hold); (rw [if_pos (by rfl)]); (obtain ⟨u9, q9, e9, h9, r9⟩ := p8); (rw [e9]); (refine OpY.val (v := u9) (by go_simp) ⟨Kept.refl _ _, q9, h9, r9⟩)
        refine .cons (fun x wf Kk hq hdep hold => ?_) ?_
        · (try dsimp only); (have p8 : Pr.p (Sl := (fun _ => no)) (PMk w2 gB eB) (x 8) wf := hdep 8 (by kernel_rfl)); (clear hq hdep hold); (rw [if_pos (by rfl)]); (obtain ⟨u9, q9, e9, h9, r9⟩ := p8); (rw [e9]); (refine OpY.val (v := .int .i64 eB) (by go_simp) ⟨Kept.refl _ _, rfl⟩)
        refine .cons (fun x wf Kk hq hdep hold => ?_) ?_
        · (try dsimp only); (have p9 : Pr.p (Sl := (fun _ => no)) (PMg w2 gB) (x 9) wf := hdep 9 (by kernel_rfl)); (clear hq hdep hold); (rw [if_pos (by rfl)]); (refine OpY.val (v := x 9) (by go_simp) ⟨Kept.refl _ _, p9⟩)
        refine .cons (fun x wf Kk hq hdep hold => ?_) ?_
        · (try dsimp only); (have p10 : Pr.p (Sl := (fun _ => no)) (PEr eB) (x 10) wf := hdep 10 (by kernel_rfl)); (clear hq hdep hold); (rw [if_pos (by rfl)]); (refine OpY.val (v := x 10) (by go_simp) ⟨Kept.refl _ _, p10⟩)
        exact .nil _
      · (intro x wf Kk hv); (try dsimp only); (have p11 : Pr.p (Sl := (fun _ => no)) (PMg w2 gB) (x 11) wf := hv 11 (by kernel_rfl)); (have p12 : Pr.p (Sl := (fun _ => no)) (PEr eB) (x 12) wf := hv 12 (by kernel_rfl)); (clear hv); (have k5 := hid (k4.out.trans' Kk.undrew)); (have b6x := hid (Kk.undrew.blk b6w.out)); (have rgA5 := hid (rgA.out.keptNo Kk.undrew)); (have pb : ∃ qs, grps qs = gB ∧ OwN w2 wf (x 11) qs := p11); (have pf : x 12 = .int .i64 eB := p12); (clear p11 p12 Kk); (obtain ⟨w5, hw5⟩ : ∃ W, wf = W := ⟨_, rfl⟩); (rw [hw5] at k5 b6x pb rgA5 ⊢); (simp only [pf]); (obtain ⟨vb, hvb⟩ : ∃ v, x 11 = v := ⟨_, rfl⟩); (rw [hvb] at pb); (simp only [hvb]); (obtain ⟨qsB, hqB, rgB⟩ := pb); (replace hqB := hid hqB); (replace rgB := hid rgB); (clear hw5 pf hvb b6w d1 a10' k4 rgA); (obtain ⟨a1, a6, a9, a10, a11⟩ := hB w5 k5.out); (have a11' := hid a11); (have b2w := hid (k5.out.blk b2.out)); (have HF5 := hid (fun (W : World) (k : Kept no w5 W) => HF.out W (k02.out.trans' (k5.out.trans' k)) va qsA hqA.out ((rgA5.out.keptNo k).rd))); (obtain ⟨fv, hfv⟩ : ∃ f, fitP 1 m 1 1 0 t gA lz = f := ⟨_, rfl⟩); (rw [hfv] at HF5); (replace hfv := hid hfv); (clear a1 a6 a9 a10 a11 HF HMA HMB)
        have FIN : Hd (∀ (W : World) (b : Bool), b = (decide (eA = 0) && decide (eB = 0) && decide (fv = 0)) → Kept (fun j => j = G2) w5 W → RdG W va qsA → RdG W vb qsB → TwoR X (lists bsA) (lists bsB) lz w (.returned (.tuple #[.agg #[.string ⟨#[]⟩, .slice X.ac m X.cc, .int .i64 1, .int .i64 1, .int .i64 0, .int .i64 0, .int .i64 t, .int .i64 0, .int .i64 0], va, vb, .bool b])) W) := ⟨fun W b hb kk r1 r2 => by
          (unfold TwoR); (refine ⟨va, vb, m, t, hm.out.symm, ht.out.symm, ?_, ⟨qsA, ?_, r1⟩, ⟨qsB, ?_, r2⟩, ?_⟩)
          · rw [hkn.out, hgA.out, heA.out, heB.out, hfv.out, ← hb]
          · rw [hkn.out, hgA.out]; exact hqA.out
          · rw [hkn.out, hgB.out]; exact hqB.out
          · exact (k02.out.trans' k5.out).trans kk fun j hj (e : j = G2) => by have := hwG.out; omega⟩
        (clear hm ht hkn hgA heA hgB heB k02 hB hfv hw1 hw2 hGB hG2 k5); (go_upto_region 5 with fail)
        by_cases hE1 : eA = 0
        · subst hE1
          by_cases hE2 : eB = 0
          · subst hE2
            by_cases hE3 : fv = 0
            · (subst hE3); (refine region_flow (S := (fun j => j = G2)) (Sl := (fun _ => (fun j => j = G2))) [Is (.agg #[.string ⟨#[]⟩, .slice X.ac m X.cc, .int .i64 1, .int .i64 1, .int .i64 0, .int .i64 0, .int .i64 t, .int .i64 0, .int .i64 0]), Is (va), Is (vb), Is (.int .i64 0), Is (.bool true), Is (.bool true), Is (.int .i64 0), Is (.bool true), Is (.bool true), Is (.bool true), Is (.agg #[.string ⟨#[]⟩, .slice X.ac m X.cc, .int .i64 1, .int .i64 1, .int .i64 0, .int .i64 0, .int .i64 t, .int .i64 0, .int .i64 0]), Is (va), Is (.pointer (some ⟨GB, 11, none⟩)), Is (X.vL), Is (.int .i64 0), Is (.bool true), Is (.bool true), PS2 G2 #[.string ⟨#[]⟩, .slice X.ac m X.cc, .int .i64 1, .int .i64 1, .int .i64 0, .int .i64 0, .int .i64 t, .int .i64 0, .int .i64 0], Is (va), Is (vb), Is (.bool true)] [17] (fun _ _ h => h) _ (by kernel_rfl) (by kernel_rfl) (by kernel_rfl) (by kernel_rfl) (fun x => by simp only [puts, Act.put, List.map_cons, List.map_nil, Nat.zero_add, Nat.reduceAdd, List.setIfInBounds_toArray, List.set_cons_zero, List.set_cons_succ]; exact rfl) ?_ ?_)
              · (skip); (refine .cons (fun x wf Kk hq hdep hold => ?_) ?_)
                · (try dsimp only); (have Kq := hq no (fun j hj => by cases (show j ∈ ([] : List Nat) from by (have e : ∀ l : List Nat, l = [] → j ∈ l → j ∈ ([] : List Nat) := fun l h h2 => h ▸ h2); exact e _ (by kernel_rfl) hj))); (clear hq hdep hold); (rw [if_pos (by rfl)]); (exact OpY.row 24 (.tmp 6) rfl g6 (0) rfl [.string ⟨#[]⟩, .slice X.ac m X.cc, .int .i64 1, .int .i64 1, .int .i64 0, .int .i64 0, .int .i64 t, .int .i64 0, .int .i64 0] _ (rng_row (Kq.undrew.blk b6x.out)) Tryz.underlying24 rfl (by kernel_rfl) ⟨Kept.refl _ _, rfl⟩)
                refine .cons (fun x wf Kk hq hdep hold => ?_) ?_
                · (try dsimp only); (clear hq hdep hold); (rw [if_pos (by rfl)]); (refine OpY.val ?_ ⟨Kept.refl _ _, rfl⟩); (first | rfl | go_simp)
                refine .cons (fun x wf Kk hq hdep hold => ?_) ?_
                · (try dsimp only); (clear hq hdep hold); (rw [if_pos (by rfl)]); (refine OpY.val ?_ ⟨Kept.refl _ _, rfl⟩); (first | rfl | go_simp)
                refine .cons (fun x wf Kk hq hdep hold => ?_) ?_
                · (try dsimp only); (clear hq hdep hold); (rw [if_pos (by rfl)]); (refine OpY.val ?_ ⟨Kept.refl _ _, rfl⟩); (first | rfl | go_simp)
                refine .cons (fun x wf Kk hq hdep hold => ?_) ?_
                · (try dsimp only); (have h3 : x 3 = _ := hdep 3 (by kernel_rfl)); (clear hq hdep hold); (simp only [h3]); (clear h3); (rw [if_pos (by rfl)]); (refine OpY.val ?_ ⟨Kept.refl _ _, rfl⟩); (first | rfl | go_simp)
                refine .cons (fun x wf Kk hq hdep hold => ?_) ?_
                · (try dsimp only); (have h4 : x 4 = _ := hdep 4 (by kernel_rfl)); (clear hq hdep hold); (simp only [h4]); (clear h4); (rw [if_pos (by rfl)]); (refine OpY.val ?_ ⟨Kept.refl _ _, rfl⟩); (first | rfl | go_simp)
                refine .cons (fun x wf Kk hq hdep hold => ?_) ?_
                · (try dsimp only); (have h5 : x 5 = _ := hdep 5 (by kernel_rfl)); (clear hq hdep hold); (simp only [h5]); (clear h5); (rw [if_pos (by rfl)]); (refine OpY.val ?_ ⟨Kept.refl _ _, rfl⟩); (first | rfl | go_simp)
                refine .cons (fun x wf Kk hq hdep hold => ?_) ?_
                · (try dsimp only); (have h6 : x 6 = _ := hdep 6 (by kernel_rfl)); (have h5 : x 5 = _ := hdep 5 (by kernel_rfl)); (clear hq hdep hold); (simp only [h6, h5]); (clear h6 h5); (rw [if_pos (by rfl)]); (refine OpY.val ?_ ⟨Kept.refl _ _, rfl⟩); (first | rfl | go_simp)
                refine .cons (fun x wf Kk hq hdep hold => ?_) ?_
                · (try dsimp only); (have h5 : x 5 = _ := hdep 5 (by kernel_rfl)); (have h7 : x 7 = _ := hdep 7 (by kernel_rfl)); (clear hq hdep hold); (simp only [h5, h7]); (clear h5 h7); (rw [if_pos (by rfl)]); (refine OpY.val ?_ ⟨Kept.refl _ _, rfl⟩); (first | rfl | go_simp)
                refine .cons (fun x wf Kk hq hdep hold => ?_) ?_
                · (try dsimp only); (have h8 : x 8 = _ := hdep 8 (by kernel_rfl)); (clear hq hdep hold); (simp only [h8]); (clear h8); (rw [if_pos (by rfl)]); (refine OpY.val ?_ ⟨Kept.refl _ _, rfl⟩); (first | rfl | go_simp)
                refine .cons (fun x wf Kk hq hdep hold => ?_) ?_
                · (try dsimp only); (have h9 : x 9 = _ := hdep 9 (by kernel_rfl)); (have Kq := hq no (fun j hj => by cases (show j ∈ ([] : List Nat) from by (have e : ∀ l : List Nat, l = [] → j ∈ l → j ∈ ([] : List Nat) := fun l h h2 => h ▸ h2); exact e _ (by kernel_rfl) hj))); (clear hq hdep hold); (simp only [h9]); (clear h9); (rw [if_pos (by rfl)]); (exact OpY.row 24 (.tmp 6) rfl g6 (0) rfl [.string ⟨#[]⟩, .slice X.ac m X.cc, .int .i64 1, .int .i64 1, .int .i64 0, .int .i64 0, .int .i64 t, .int .i64 0, .int .i64 0] _ (rng_row (Kq.undrew.blk b6x.out)) Tryz.underlying24 rfl (by kernel_rfl) ⟨Kept.refl _ _, rfl⟩)
                refine .cons (fun x wf Kk hq hdep hold => ?_) ?_
                · (try dsimp only); (have h9 : x 9 = _ := hdep 9 (by kernel_rfl)); (clear hq hdep hold); (simp only [h9]); (clear h9); (rw [if_pos (by rfl)]); (refine OpY.val ?_ ⟨Kept.refl _ _, rfl⟩); (first | rfl | go_simp)
                refine .cons (fun x wf Kk hq hdep hold => ?_) ?_
                · (try dsimp only); (have h9 : x 9 = _ := hdep 9 (by kernel_rfl)); (clear hq hdep hold); (simp only [h9]); (clear h9); (rw [if_pos (by rfl)]); (refine OpY.val ?_ ⟨Kept.refl _ _, rfl⟩); (first | rfl | go_simp)
                refine .cons (fun x wf Kk hq hdep hold => ?_) ?_
                · (try dsimp only); (have h12 : x 12 = _ := hdep 12 (by kernel_rfl)); (have h9 : x 9 = _ := hdep 9 (by kernel_rfl)); (have Kq := hq no (fun j hj => by cases (show j ∈ ([] : List Nat) from by (have e : ∀ l : List Nat, l = [] → j ∈ l → j ∈ ([] : List Nat) := fun l h h2 => h ▸ h2); exact e _ (by kernel_rfl) hj))); (clear hq hdep hold); (simp only [h12, h9]); (clear h12 h9); (have m1 := Kq.undrew.cell a11'.out id); (rw [if_pos (by rfl)]); (refine OpY.val ?_ ⟨Kept.refl _ _, rfl⟩); (first | rfl | go_simp)
                refine .cons (fun x wf Kk hq hdep hold => ?_) ?_
                · (try dsimp only); (have h10 : x 10 = _ := hdep 10 (by kernel_rfl)); (have h11 : x 11 = _ := hdep 11 (by kernel_rfl)); (have h13 : x 13 = _ := hdep 13 (by kernel_rfl)); (have h9 : x 9 = _ := hdep 9 (by kernel_rfl)); (have Kq := hq no (fun j hj => by cases (show j ∈ ([] : List Nat) from by (have e : ∀ l : List Nat, l = [] → j ∈ l → j ∈ ([] : List Nat) := fun l h h2 => h ▸ h2); exact e _ (by kernel_rfl) hj))); (clear hq hdep hold); (simp only [h10, h11, h13, h9]); (clear h10 h11 h13 h9); (rw [if_pos (by rfl)]); (refine OpY.call (f := 25) (args := #[(.int .i64 1), (.agg #[.string ⟨#[]⟩, .slice X.ac m X.cc, .int .i64 1, .int .i64 1, .int .i64 0, .int .i64 0, .int .i64 t, .int .i64 0, .int .i64 0]), (va), (X.vL)]) (by go_simp) ?_); (refine (HF5.out wf Kq.undrew).mono ?_); (rintro e w2 ⟨rfl, k2⟩); (exact ⟨_, rfl, k2, rfl⟩)
                refine .cons (fun x wf Kk hq hdep hold => ?_) ?_
                · (try dsimp only); (have h14 : x 14 = _ := hdep 14 (by kernel_rfl)); (have h9 : x 9 = _ := hdep 9 (by kernel_rfl)); (clear hq hdep hold); (simp only [h14, h9]); (clear h14 h9); (rw [if_pos (by rfl)]); (refine OpY.val ?_ ⟨Kept.refl _ _, rfl⟩); (first | rfl | go_simp)
                refine .cons (fun x wf Kk hq hdep hold => ?_) ?_
                · (try dsimp only); (have h9 : x 9 = _ := hdep 9 (by kernel_rfl)); (have h15 : x 15 = _ := hdep 15 (by kernel_rfl)); (clear hq hdep hold); (simp only [h9, h15]); (clear h9 h15); (rw [if_pos (by rfl)]); (refine OpY.val ?_ ⟨Kept.refl _ _, rfl⟩); (first | rfl | go_simp)
                refine .cons (fun x wf Kk hq hdep hold => ?_) ?_
                · (try dsimp only); (have h0 : x 0 = _ := hdep 0 (by kernel_rfl)); (have Kq := hq no (fun j hj => by cases (show j ∈ ([] : List Nat) from by (have e : ∀ l : List Nat, l = [] → j ∈ l → j ∈ ([] : List Nat) := fun l h h2 => h ▸ h2); exact e _ (by kernel_rfl) hj))); (clear hq hdep hold); (simp only [h0]); (clear h0); (rw [if_pos (by rfl)]); (have hg2 := Kq.undrew.blk b2w.out); (refine OpY.storeRowT 24 (.tmp 2) (.tmp 58) rfl G2 #[.string ⟨#[]⟩, .slice X.ac m X.cc, .int .i64 1, .int .i64 1, .int .i64 0, .int .i64 0, .int .i64 t, .int .i64 0, .int .i64 0] rfl rfl 24 _ hg2 (by kernel_rfl) rfl (by simp [Value.oneCell']) ?_); (exact ⟨(Kept.refl (fun j => j = G2) wf).setRow (g := G2) (.inl rfl) _, setRow_heap _ _ _ _ _ _ hg2⟩)
                refine .cons (fun x wf Kk hq hdep hold => ?_) ?_
                · (try dsimp only); (have h1 : x 1 = _ := hdep 1 (by kernel_rfl)); (clear hq hdep hold); (simp only [h1]); (clear h1); (rw [if_pos (by rfl)]); (refine OpY.val ?_ ⟨Kept.refl _ _, rfl⟩); (first | rfl | go_simp)
                refine .cons (fun x wf Kk hq hdep hold => ?_) ?_
                · (try dsimp only); (have h2 : x 2 = _ := hdep 2 (by kernel_rfl)); (clear hq hdep hold); (simp only [h2]); (clear h2); (rw [if_pos (by rfl)]); (refine OpY.val ?_ ⟨Kept.refl _ _, rfl⟩); (first | rfl | go_simp)
                refine .cons (fun x wf Kk hq hdep hold => ?_) ?_
                · (try dsimp only); (have h16 : x 16 = _ := hdep 16 (by kernel_rfl)); (clear hq hdep hold); (simp only [h16]); (clear h16); (rw [if_pos (by rfl)]); (refine OpY.val ?_ ⟨Kept.refl _ _, rfl⟩); (first | rfl | go_simp)
                exact .nil _
              · (intro x wf Kk hv); (try dsimp only); (have p17 : Pr.p (Sl := (fun _ => (fun j => j = G2))) (PS2 G2 #[.string ⟨#[]⟩, .slice X.ac m X.cc, .int .i64 1, .int .i64 1, .int .i64 0, .int .i64 0, .int .i64 t, .int .i64 0, .int .i64 0]) (x 17) wf := hv 17 (by kernel_rfl)); (have h18 : x 18 = _ := hv 18 (by kernel_rfl)); (have h19 : x 19 = _ := hv 19 (by kernel_rfl)); (have h20 : x 20 = _ := hv 20 (by kernel_rfl)); (clear hv); (simp only [h18, h19, h20]); (clear h18 h19 h20); (have kk := Kk.undrew); (have p2 : wf.heap[G2]? = some (.cells #[.string ⟨#[]⟩, .slice X.ac m X.cc, .int .i64 1, .int .i64 1, .int .i64 0, .int .i64 0, .int .i64 t, .int .i64 0, .int .i64 0] 24 (0, 0)) := p17); (obtain ⟨w6, hw6⟩ : ∃ W, W = wf := ⟨_, rfl⟩); (subst hw6); (have p2' := hid p2); (have kk' := hid kk); (clear p2 kk p17 Kk); (go_wp2); (refine bodyPost_ret (v := .tuple #[.agg #[.string ⟨#[]⟩, .slice X.ac m X.cc, .int .i64 1, .int .i64 1, .int .i64 0, .int .i64 0, .int .i64 t, .int .i64 0, .int .i64 0], va, vb, .bool true]) ?_ rfl ?_)
                · exact results_two rfl _ _ G2 _ rfl _ _ _ rfl rfl rfl rfl p2'.out
                · exact FIN.out _ _ (by simp []) kk'.out (rgA5.out.rdS kk'.out fun j (e : j = G2) => by rw [e]; exact hG2l.out) (rgB.out.rdS kk'.out fun j (e : j = G2) => by rw [e]; exact hG2l.out)
            · (have hfb : (fv == 0) = false := beq_eq_false_iff_ne.2 hE3); (refine region_flow (S := (fun j => j = G2)) (Sl := (fun _ => (fun j => j = G2))) [Is (.agg #[.string ⟨#[]⟩, .slice X.ac m X.cc, .int .i64 1, .int .i64 1, .int .i64 0, .int .i64 0, .int .i64 t, .int .i64 0, .int .i64 0]), Is (va), Is (vb), Is (.int .i64 0), Is (.bool true), Is (.bool true), Is (.int .i64 0), Is (.bool true), Is (.bool true), Is (.bool true), Is (.agg #[.string ⟨#[]⟩, .slice X.ac m X.cc, .int .i64 1, .int .i64 1, .int .i64 0, .int .i64 0, .int .i64 t, .int .i64 0, .int .i64 0]), Is (va), Is (.pointer (some ⟨GB, 11, none⟩)), Is (X.vL), Is (.int .i64 fv), Is (.bool false), Is (.bool false), PS2 G2 #[.string ⟨#[]⟩, .slice X.ac m X.cc, .int .i64 1, .int .i64 1, .int .i64 0, .int .i64 0, .int .i64 t, .int .i64 0, .int .i64 0], Is (va), Is (vb), Is (.bool false)] [17] (fun _ _ h => h) _ (by kernel_rfl) (by kernel_rfl) (by kernel_rfl) (by kernel_rfl) (fun x => by simp only [puts, Act.put, List.map_cons, List.map_nil, Nat.zero_add, Nat.reduceAdd, List.setIfInBounds_toArray, List.set_cons_zero, List.set_cons_succ]; exact rfl) ?_ ?_)
              · (skip); (refine .cons (fun x wf Kk hq hdep hold => ?_) ?_)
                · (try dsimp only); (have Kq := hq no (fun j hj => by cases (show j ∈ ([] : List Nat) from by (have e : ∀ l : List Nat, l = [] → j ∈ l → j ∈ ([] : List Nat) := fun l h h2 => h ▸ h2); exact e _ (by kernel_rfl) hj))); (clear hq hdep hold); (rw [if_pos (by rfl)]); (exact OpY.row 24 (.tmp 6) rfl g6 (0) rfl [.string ⟨#[]⟩, .slice X.ac m X.cc, .int .i64 1, .int .i64 1, .int .i64 0, .int .i64 0, .int .i64 t, .int .i64 0, .int .i64 0] _ (rng_row (Kq.undrew.blk b6x.out)) Tryz.underlying24 rfl (by kernel_rfl) ⟨Kept.refl _ _, rfl⟩)
                refine .cons (fun x wf Kk hq hdep hold => ?_) ?_
                · (try dsimp only); (clear hq hdep hold); (rw [if_pos (by rfl)]); (refine OpY.val ?_ ⟨Kept.refl _ _, rfl⟩); (first | rfl | go_simp)
                refine .cons (fun x wf Kk hq hdep hold => ?_) ?_
                · (try dsimp only); (clear hq hdep hold); (rw [if_pos (by rfl)]); (refine OpY.val ?_ ⟨Kept.refl _ _, rfl⟩); (first | rfl | go_simp)
                refine .cons (fun x wf Kk hq hdep hold => ?_) ?_
                · (try dsimp only); (clear hq hdep hold); (rw [if_pos (by rfl)]); (refine OpY.val ?_ ⟨Kept.refl _ _, rfl⟩); (first | rfl | go_simp)
                refine .cons (fun x wf Kk hq hdep hold => ?_) ?_
                · (try dsimp only); (have h3 : x 3 = _ := hdep 3 (by kernel_rfl)); (clear hq hdep hold); (simp only [h3]); (clear h3); (rw [if_pos (by rfl)]); (refine OpY.val ?_ ⟨Kept.refl _ _, rfl⟩); (first | rfl | go_simp)
                refine .cons (fun x wf Kk hq hdep hold => ?_) ?_
                · (try dsimp only); (have h4 : x 4 = _ := hdep 4 (by kernel_rfl)); (clear hq hdep hold); (simp only [h4]); (clear h4); (rw [if_pos (by rfl)]); (refine OpY.val ?_ ⟨Kept.refl _ _, rfl⟩); (first | rfl | go_simp)
                refine .cons (fun x wf Kk hq hdep hold => ?_) ?_
                · (try dsimp only); (have h5 : x 5 = _ := hdep 5 (by kernel_rfl)); (clear hq hdep hold); (simp only [h5]); (clear h5); (rw [if_pos (by rfl)]); (refine OpY.val ?_ ⟨Kept.refl _ _, rfl⟩); (first | rfl | go_simp)
                refine .cons (fun x wf Kk hq hdep hold => ?_) ?_
                · (try dsimp only); (have h6 : x 6 = _ := hdep 6 (by kernel_rfl)); (have h5 : x 5 = _ := hdep 5 (by kernel_rfl)); (clear hq hdep hold); (simp only [h6, h5]); (clear h6 h5); (rw [if_pos (by rfl)]); (refine OpY.val ?_ ⟨Kept.refl _ _, rfl⟩); (first | rfl | go_simp)
                refine .cons (fun x wf Kk hq hdep hold => ?_) ?_
                · (try dsimp only); (have h5 : x 5 = _ := hdep 5 (by kernel_rfl)); (have h7 : x 7 = _ := hdep 7 (by kernel_rfl)); (clear hq hdep hold); (simp only [h5, h7]); (clear h5 h7); (rw [if_pos (by rfl)]); (refine OpY.val ?_ ⟨Kept.refl _ _, rfl⟩); (first | rfl | go_simp)
                refine .cons (fun x wf Kk hq hdep hold => ?_) ?_
                · (try dsimp only); (have h8 : x 8 = _ := hdep 8 (by kernel_rfl)); (clear hq hdep hold); (simp only [h8]); (clear h8); (rw [if_pos (by rfl)]); (refine OpY.val ?_ ⟨Kept.refl _ _, rfl⟩); (first | rfl | go_simp)
                refine .cons (fun x wf Kk hq hdep hold => ?_) ?_
                · (try dsimp only); (have h9 : x 9 = _ := hdep 9 (by kernel_rfl)); (have Kq := hq no (fun j hj => by cases (show j ∈ ([] : List Nat) from by (have e : ∀ l : List Nat, l = [] → j ∈ l → j ∈ ([] : List Nat) := fun l h h2 => h ▸ h2); exact e _ (by kernel_rfl) hj))); (clear hq hdep hold); (simp only [h9]); (clear h9); (rw [if_pos (by rfl)]); (exact OpY.row 24 (.tmp 6) rfl g6 (0) rfl [.string ⟨#[]⟩, .slice X.ac m X.cc, .int .i64 1, .int .i64 1, .int .i64 0, .int .i64 0, .int .i64 t, .int .i64 0, .int .i64 0] _ (rng_row (Kq.undrew.blk b6x.out)) Tryz.underlying24 rfl (by kernel_rfl) ⟨Kept.refl _ _, rfl⟩)
                refine .cons (fun x wf Kk hq hdep hold => ?_) ?_
                · (try dsimp only); (have h9 : x 9 = _ := hdep 9 (by kernel_rfl)); (clear hq hdep hold); (simp only [h9]); (clear h9); (rw [if_pos (by rfl)]); (refine OpY.val ?_ ⟨Kept.refl _ _, rfl⟩); (first | rfl | go_simp)
                refine .cons (fun x wf Kk hq hdep hold => ?_) ?_
                · (try dsimp only); (have h9 : x 9 = _ := hdep 9 (by kernel_rfl)); (clear hq hdep hold); (simp only [h9]); (clear h9); (rw [if_pos (by rfl)]); (refine OpY.val ?_ ⟨Kept.refl _ _, rfl⟩); (first | rfl | go_simp)
                refine .cons (fun x wf Kk hq hdep hold => ?_) ?_
                · (try dsimp only); (have h12 : x 12 = _ := hdep 12 (by kernel_rfl)); (have h9 : x 9 = _ := hdep 9 (by kernel_rfl)); (have Kq := hq no (fun j hj => by cases (show j ∈ ([] : List Nat) from by (have e : ∀ l : List Nat, l = [] → j ∈ l → j ∈ ([] : List Nat) := fun l h h2 => h ▸ h2); exact e _ (by kernel_rfl) hj))); (clear hq hdep hold); (simp only [h12, h9]); (clear h12 h9); (have m1 := Kq.undrew.cell a11'.out id); (rw [if_pos (by rfl)]); (refine OpY.val ?_ ⟨Kept.refl _ _, rfl⟩); (first | rfl | go_simp)
                refine .cons (fun x wf Kk hq hdep hold => ?_) ?_
                · (try dsimp only); (have h10 : x 10 = _ := hdep 10 (by kernel_rfl)); (have h11 : x 11 = _ := hdep 11 (by kernel_rfl)); (have h13 : x 13 = _ := hdep 13 (by kernel_rfl)); (have h9 : x 9 = _ := hdep 9 (by kernel_rfl)); (have Kq := hq no (fun j hj => by cases (show j ∈ ([] : List Nat) from by (have e : ∀ l : List Nat, l = [] → j ∈ l → j ∈ ([] : List Nat) := fun l h h2 => h ▸ h2); exact e _ (by kernel_rfl) hj))); (clear hq hdep hold); (simp only [h10, h11, h13, h9]); (clear h10 h11 h13 h9); (rw [if_pos (by rfl)]); (refine OpY.call (f := 25) (args := #[(.int .i64 1), (.agg #[.string ⟨#[]⟩, .slice X.ac m X.cc, .int .i64 1, .int .i64 1, .int .i64 0, .int .i64 0, .int .i64 t, .int .i64 0, .int .i64 0]), (va), (X.vL)]) (by go_simp) ?_); (refine (HF5.out wf Kq.undrew).mono ?_); (rintro e w2 ⟨rfl, k2⟩); (exact ⟨_, rfl, k2, rfl⟩)
                refine .cons (fun x wf Kk hq hdep hold => ?_) ?_
                · (try dsimp only); (have h14 : x 14 = _ := hdep 14 (by kernel_rfl)); (have h9 : x 9 = _ := hdep 9 (by kernel_rfl)); (clear hq hdep hold); (simp only [h14, h9]); (clear h14 h9); (rw [if_pos (by rfl)]); (refine OpY.val ?_ ⟨Kept.refl _ _, rfl⟩); (first | rfl | go_simp)
                refine .cons (fun x wf Kk hq hdep hold => ?_) ?_
                · (try dsimp only); (have h9 : x 9 = _ := hdep 9 (by kernel_rfl)); (have h15 : x 15 = _ := hdep 15 (by kernel_rfl)); (clear hq hdep hold); (simp only [h9, h15]); (clear h9 h15); (rw [if_pos (by rfl)]); (refine OpY.val ?_ ⟨Kept.refl _ _, rfl⟩); (first | rfl | go_simp)
                refine .cons (fun x wf Kk hq hdep hold => ?_) ?_
                · (try dsimp only); (have h0 : x 0 = _ := hdep 0 (by kernel_rfl)); (have Kq := hq no (fun j hj => by cases (show j ∈ ([] : List Nat) from by (have e : ∀ l : List Nat, l = [] → j ∈ l → j ∈ ([] : List Nat) := fun l h h2 => h ▸ h2); exact e _ (by kernel_rfl) hj))); (clear hq hdep hold); (simp only [h0]); (clear h0); (rw [if_pos (by rfl)]); (have hg2 := Kq.undrew.blk b2w.out); (refine OpY.storeRowT 24 (.tmp 2) (.tmp 58) rfl G2 #[.string ⟨#[]⟩, .slice X.ac m X.cc, .int .i64 1, .int .i64 1, .int .i64 0, .int .i64 0, .int .i64 t, .int .i64 0, .int .i64 0] rfl rfl 24 _ hg2 (by kernel_rfl) rfl (by simp [Value.oneCell']) ?_); (exact ⟨(Kept.refl (fun j => j = G2) wf).setRow (g := G2) (.inl rfl) _, setRow_heap _ _ _ _ _ _ hg2⟩)
                refine .cons (fun x wf Kk hq hdep hold => ?_) ?_
                · (try dsimp only); (have h1 : x 1 = _ := hdep 1 (by kernel_rfl)); (clear hq hdep hold); (simp only [h1]); (clear h1); (rw [if_pos (by rfl)]); (refine OpY.val ?_ ⟨Kept.refl _ _, rfl⟩); (first | rfl | go_simp)
                refine .cons (fun x wf Kk hq hdep hold => ?_) ?_
                · (try dsimp only); (have h2 : x 2 = _ := hdep 2 (by kernel_rfl)); (clear hq hdep hold); (simp only [h2]); (clear h2); (rw [if_pos (by rfl)]); (refine OpY.val ?_ ⟨Kept.refl _ _, rfl⟩); (first | rfl | go_simp)
                refine .cons (fun x wf Kk hq hdep hold => ?_) ?_
                · (try dsimp only); (have h16 : x 16 = _ := hdep 16 (by kernel_rfl)); (clear hq hdep hold); (simp only [h16]); (clear h16); (rw [if_pos (by rfl)]); (refine OpY.val ?_ ⟨Kept.refl _ _, rfl⟩); (first | rfl | go_simp)
                exact .nil _
              · (intro x wf Kk hv); (try dsimp only); (have p17 : Pr.p (Sl := (fun _ => (fun j => j = G2))) (PS2 G2 #[.string ⟨#[]⟩, .slice X.ac m X.cc, .int .i64 1, .int .i64 1, .int .i64 0, .int .i64 0, .int .i64 t, .int .i64 0, .int .i64 0]) (x 17) wf := hv 17 (by kernel_rfl)); (have h18 : x 18 = _ := hv 18 (by kernel_rfl)); (have h19 : x 19 = _ := hv 19 (by kernel_rfl)); (have h20 : x 20 = _ := hv 20 (by kernel_rfl)); (clear hv); (simp only [h18, h19, h20]); (clear h18 h19 h20); (have kk := Kk.undrew); (have p2 : wf.heap[G2]? = some (.cells #[.string ⟨#[]⟩, .slice X.ac m X.cc, .int .i64 1, .int .i64 1, .int .i64 0, .int .i64 0, .int .i64 t, .int .i64 0, .int .i64 0] 24 (0, 0)) := p17); (obtain ⟨w6, hw6⟩ : ∃ W, W = wf := ⟨_, rfl⟩); (subst hw6); (have p2' := hid p2); (have kk' := hid kk); (clear p2 kk p17 Kk); (go_wp2); (refine bodyPost_ret (v := .tuple #[.agg #[.string ⟨#[]⟩, .slice X.ac m X.cc, .int .i64 1, .int .i64 1, .int .i64 0, .int .i64 0, .int .i64 t, .int .i64 0, .int .i64 0], va, vb, .bool false]) ?_ rfl ?_)
                · exact results_two rfl _ _ G2 _ rfl _ _ _ rfl rfl rfl rfl p2'.out
                · exact FIN.out _ _ (by simp [hE3]) kk'.out (rgA5.out.rdS kk'.out fun j (e : j = G2) => by rw [e]; exact hG2l.out) (rgB.out.rdS kk'.out fun j (e : j = G2) => by rw [e]; exact hG2l.out)
          · (have hfb : (eB == 0) = false := beq_eq_false_iff_ne.2 hE2); (refine region_flow (S := (fun j => j = G2)) (Sl := (fun _ => (fun j => j = G2))) [Is (.agg #[.string ⟨#[]⟩, .slice X.ac m X.cc, .int .i64 1, .int .i64 1, .int .i64 0, .int .i64 0, .int .i64 t, .int .i64 0, .int .i64 0]), Is (va), Is (vb), Is (.int .i64 0), Is (.bool true), Is (.bool true), Is (.int .i64 eB), Is (.bool false), Is (.bool false), Is (.bool false), Is undef, Is undef, Is undef, Is undef, Is undef, Is undef, Is (.bool false), PS2 G2 #[.string ⟨#[]⟩, .slice X.ac m X.cc, .int .i64 1, .int .i64 1, .int .i64 0, .int .i64 0, .int .i64 t, .int .i64 0, .int .i64 0], Is (va), Is (vb), Is (.bool false)] [17] (fun _ _ h => h) _ (by kernel_rfl) (by kernel_rfl) (by kernel_rfl) (by kernel_rfl) (fun x => by simp only [puts, Act.put, List.map_cons, List.map_nil, Nat.zero_add, Nat.reduceAdd, List.setIfInBounds_toArray, List.set_cons_zero, List.set_cons_succ]; exact rfl) ?_ ?_)
            · (skip); (refine .cons (fun x wf Kk hq hdep hold => ?_) ?_)
              · (try dsimp only); (have Kq := hq no (fun j hj => by cases (show j ∈ ([] : List Nat) from by (have e : ∀ l : List Nat, l = [] → j ∈ l → j ∈ ([] : List Nat) := fun l h h2 => h ▸ h2); exact e _ (by kernel_rfl) hj))); (clear hq hdep hold); (rw [if_pos (by rfl)]); (exact OpY.row 24 (.tmp 6) rfl g6 (0) rfl [.string ⟨#[]⟩, .slice X.ac m X.cc, .int .i64 1, .int .i64 1, .int .i64 0, .int .i64 0, .int .i64 t, .int .i64 0, .int .i64 0] _ (rng_row (Kq.undrew.blk b6x.out)) Tryz.underlying24 rfl (by kernel_rfl) ⟨Kept.refl _ _, rfl⟩)
              refine .cons (fun x wf Kk hq hdep hold => ?_) ?_
              · (try dsimp only); (clear hq hdep hold); (rw [if_pos (by rfl)]); (refine OpY.val ?_ ⟨Kept.refl _ _, rfl⟩); (first | rfl | go_simp)
              refine .cons (fun x wf Kk hq hdep hold => ?_) ?_
              · (try dsimp only); (clear hq hdep hold); (rw [if_pos (by rfl)]); (refine OpY.val ?_ ⟨Kept.refl _ _, rfl⟩); (first | rfl | go_simp)
              refine .cons (fun x wf Kk hq hdep hold => ?_) ?_
              · (try dsimp only); (clear hq hdep hold); (rw [if_pos (by rfl)]); (refine OpY.val ?_ ⟨Kept.refl _ _, rfl⟩); (first | rfl | go_simp)
              refine .cons (fun x wf Kk hq hdep hold => ?_) ?_
              · (try dsimp only); (have h3 : x 3 = _ := hdep 3 (by kernel_rfl)); (clear hq hdep hold); (simp only [h3]); (clear h3); (rw [if_pos (by rfl)]); (refine OpY.val ?_ ⟨Kept.refl _ _, rfl⟩); (first | rfl | go_simp)
              refine .cons (fun x wf Kk hq hdep hold => ?_) ?_
              · (try dsimp only); (have h4 : x 4 = _ := hdep 4 (by kernel_rfl)); (clear hq hdep hold); (simp only [h4]); (clear h4); (rw [if_pos (by rfl)]); (refine OpY.val ?_ ⟨Kept.refl _ _, rfl⟩); (first | rfl | go_simp)
              refine .cons (fun x wf Kk hq hdep hold => ?_) ?_
              · (try dsimp only); (have h5 : x 5 = _ := hdep 5 (by kernel_rfl)); (clear hq hdep hold); (simp only [h5]); (clear h5); (rw [if_pos (by rfl)]); (refine OpY.val ?_ ⟨Kept.refl _ _, rfl⟩); (first | rfl | go_simp)
              refine .cons (fun x wf Kk hq hdep hold => ?_) ?_
              · (try dsimp only); (have h6 : x 6 = _ := hdep 6 (by kernel_rfl)); (have h5 : x 5 = _ := hdep 5 (by kernel_rfl)); (clear hq hdep hold); (simp only [h6, h5]); (clear h6 h5); (rw [if_pos (by rfl)]); (refine OpY.val ?_ ⟨Kept.refl _ _, rfl⟩); (first | rfl | go_simp)
              refine .cons (fun x wf Kk hq hdep hold => ?_) ?_
              · (try dsimp only); (have h5 : x 5 = _ := hdep 5 (by kernel_rfl)); (have h7 : x 7 = _ := hdep 7 (by kernel_rfl)); (clear hq hdep hold); (simp only [h5, h7]); (clear h5 h7); (rw [if_pos (by rfl)]); (refine OpY.val ?_ ⟨Kept.refl _ _, rfl⟩); (first | rfl | go_simp)
              refine .cons (fun x wf Kk hq hdep hold => ?_) ?_
              · (try dsimp only); (have h8 : x 8 = _ := hdep 8 (by kernel_rfl)); (clear hq hdep hold); (simp only [h8]); (clear h8); (rw [if_pos (by rfl)]); (refine OpY.val ?_ ⟨Kept.refl _ _, rfl⟩); (first | rfl | go_simp)
              refine .cons (fun x wf Kk hq hdep hold => ?_) ?_
              · (try dsimp only); (have h9 : x 9 = _ := hdep 9 (by kernel_rfl)); (have Kq := hq no (fun j hj => by cases (show j ∈ ([] : List Nat) from by (have e : ∀ l : List Nat, l = [] → j ∈ l → j ∈ ([] : List Nat) := fun l h h2 => h ▸ h2); exact e _ (by kernel_rfl) hj))); (clear hq hdep hold); (simp only [h9]); (clear h9); (exact stepOff rfl rfl)
              refine .cons (fun x wf Kk hq hdep hold => ?_) ?_
              · (try dsimp only); (have h9 : x 9 = _ := hdep 9 (by kernel_rfl)); (clear hq hdep hold); (simp only [h9]); (clear h9); (exact stepOff rfl rfl)
              refine .cons (fun x wf Kk hq hdep hold => ?_) ?_
              · (try dsimp only); (have h9 : x 9 = _ := hdep 9 (by kernel_rfl)); (clear hq hdep hold); (simp only [h9]); (clear h9); (exact stepOff rfl rfl)
              refine .cons (fun x wf Kk hq hdep hold => ?_) ?_
              · (try dsimp only); (have h9 : x 9 = _ := hdep 9 (by kernel_rfl)); (have Kq := hq no (fun j hj => by cases (show j ∈ ([] : List Nat) from by (have e : ∀ l : List Nat, l = [] → j ∈ l → j ∈ ([] : List Nat) := fun l h h2 => h ▸ h2); exact e _ (by kernel_rfl) hj))); (clear hq hdep hold); (simp only [h9]); (clear h9); (exact stepOff rfl rfl)
              refine .cons (fun x wf Kk hq hdep hold => ?_) ?_
              · (try dsimp only); (have h9 : x 9 = _ := hdep 9 (by kernel_rfl)); (have Kq := hq no (fun j hj => by cases (show j ∈ ([] : List Nat) from by (have e : ∀ l : List Nat, l = [] → j ∈ l → j ∈ ([] : List Nat) := fun l h h2 => h ▸ h2); exact e _ (by kernel_rfl) hj))); (clear hq hdep hold); (simp only [h9]); (clear h9); (exact stepOff rfl rfl)
              refine .cons (fun x wf Kk hq hdep hold => ?_) ?_
              · (try dsimp only); (have h9 : x 9 = _ := hdep 9 (by kernel_rfl)); (clear hq hdep hold); (simp only [h9]); (clear h9); (exact stepOff rfl rfl)
              refine .cons (fun x wf Kk hq hdep hold => ?_) ?_
              · (try dsimp only); (have h9 : x 9 = _ := hdep 9 (by kernel_rfl)); (have h15 : x 15 = _ := hdep 15 (by kernel_rfl)); (clear hq hdep hold); (simp only [h9, h15]); (clear h9 h15); (rw [if_pos (by rfl)]); (refine OpY.val ?_ ⟨Kept.refl _ _, rfl⟩); (first | rfl | go_simp)
              refine .cons (fun x wf Kk hq hdep hold => ?_) ?_
              · (try dsimp only); (have h0 : x 0 = _ := hdep 0 (by kernel_rfl)); (have Kq := hq no (fun j hj => by cases (show j ∈ ([] : List Nat) from by (have e : ∀ l : List Nat, l = [] → j ∈ l → j ∈ ([] : List Nat) := fun l h h2 => h ▸ h2); exact e _ (by kernel_rfl) hj))); (clear hq hdep hold); (simp only [h0]); (clear h0); (rw [if_pos (by rfl)]); (have hg2 := Kq.undrew.blk b2w.out); (refine OpY.storeRowT 24 (.tmp 2) (.tmp 58) rfl G2 #[.string ⟨#[]⟩, .slice X.ac m X.cc, .int .i64 1, .int .i64 1, .int .i64 0, .int .i64 0, .int .i64 t, .int .i64 0, .int .i64 0] rfl rfl 24 _ hg2 (by kernel_rfl) rfl (by simp [Value.oneCell']) ?_); (exact ⟨(Kept.refl (fun j => j = G2) wf).setRow (g := G2) (.inl rfl) _, setRow_heap _ _ _ _ _ _ hg2⟩)
              refine .cons (fun x wf Kk hq hdep hold => ?_) ?_
              · (try dsimp only); (have h1 : x 1 = _ := hdep 1 (by kernel_rfl)); (clear hq hdep hold); (simp only [h1]); (clear h1); (rw [if_pos (by rfl)]); (refine OpY.val ?_ ⟨Kept.refl _ _, rfl⟩); (first | rfl | go_simp)
              refine .cons (fun x wf Kk hq hdep hold => ?_) ?_
              · (try dsimp only); (have h2 : x 2 = _ := hdep 2 (by kernel_rfl)); (clear hq hdep hold); (simp only [h2]); (clear h2); (rw [if_pos (by rfl)]); (refine OpY.val ?_ ⟨Kept.refl _ _, rfl⟩); (first | rfl | go_simp)
              refine .cons (fun x wf Kk hq hdep hold => ?_) ?_
              · (try dsimp only); (have h16 : x 16 = _ := hdep 16 (by kernel_rfl)); (clear hq hdep hold); (simp only [h16]); (clear h16); (rw [if_pos (by rfl)]); (refine OpY.val ?_ ⟨Kept.refl _ _, rfl⟩); (first | rfl | go_simp)
              exact .nil _
            · (intro x wf Kk hv); (try dsimp only); (have p17 : Pr.p (Sl := (fun _ => (fun j => j = G2))) (PS2 G2 #[.string ⟨#[]⟩, .slice X.ac m X.cc, .int .i64 1, .int .i64 1, .int .i64 0, .int .i64 0, .int .i64 t, .int .i64 0, .int .i64 0]) (x 17) wf := hv 17 (by kernel_rfl)); (have h18 : x 18 = _ := hv 18 (by kernel_rfl)); (have h19 : x 19 = _ := hv 19 (by kernel_rfl)); (have h20 : x 20 = _ := hv 20 (by kernel_rfl)); (clear hv); (simp only [h18, h19, h20]); (clear h18 h19 h20); (have kk := Kk.undrew); (have p2 : wf.heap[G2]? = some (.cells #[.string ⟨#[]⟩, .slice X.ac m X.cc, .int .i64 1, .int .i64 1, .int .i64 0, .int .i64 0, .int .i64 t, .int .i64 0, .int .i64 0] 24 (0, 0)) := p17); (obtain ⟨w6, hw6⟩ : ∃ W, W = wf := ⟨_, rfl⟩); (subst hw6); (have p2' := hid p2); (have kk' := hid kk); (clear p2 kk p17 Kk); (go_wp2); (refine bodyPost_ret (v := .tuple #[.agg #[.string ⟨#[]⟩, .slice X.ac m X.cc, .int .i64 1, .int .i64 1, .int .i64 0, .int .i64 0, .int .i64 t, .int .i64 0, .int .i64 0], va, vb, .bool false]) ?_ rfl ?_)
              · exact results_two rfl _ _ G2 _ rfl _ _ _ rfl rfl rfl rfl p2'.out
              · exact FIN.out _ _ (by simp [hE2]) kk'.out (rgA5.out.rdS kk'.out fun j (e : j = G2) => by rw [e]; exact hG2l.out) (rgB.out.rdS kk'.out fun j (e : j = G2) => by rw [e]; exact hG2l.out)
        · (have hfb : (eA == 0) = false := beq_eq_false_iff_ne.2 hE1); (refine region_flow (S := (fun j => j = G2)) (Sl := (fun _ => (fun j => j = G2))) [Is (.agg #[.string ⟨#[]⟩, .slice X.ac m X.cc, .int .i64 1, .int .i64 1, .int .i64 0, .int .i64 0, .int .i64 t, .int .i64 0, .int .i64 0]), Is (va), Is (vb), Is (.int .i64 eA), Is (.bool false), Is (.bool false), Is undef, Is undef, Is (.bool false), Is (.bool false), Is undef, Is undef, Is undef, Is undef, Is undef, Is undef, Is (.bool false), PS2 G2 #[.string ⟨#[]⟩, .slice X.ac m X.cc, .int .i64 1, .int .i64 1, .int .i64 0, .int .i64 0, .int .i64 t, .int .i64 0, .int .i64 0], Is (va), Is (vb), Is (.bool false)] [17] (fun _ _ h => h) _ (by kernel_rfl) (by kernel_rfl) (by kernel_rfl) (by kernel_rfl) (fun x => by simp only [puts, Act.put, List.map_cons, List.map_nil, Nat.zero_add, Nat.reduceAdd, List.setIfInBounds_toArray, List.set_cons_zero, List.set_cons_succ]; exact rfl) ?_ ?_)
          · (skip); (refine .cons (fun x wf Kk hq hdep hold => ?_) ?_)
            · (try dsimp only); (have Kq := hq no (fun j hj => by cases (show j ∈ ([] : List Nat) from by (have e : ∀ l : List Nat, l = [] → j ∈ l → j ∈ ([] : List Nat) := fun l h h2 => h ▸ h2); exact e _ (by kernel_rfl) hj))); (clear hq hdep hold); (rw [if_pos (by rfl)]); (exact OpY.row 24 (.tmp 6) rfl g6 (0) rfl [.string ⟨#[]⟩, .slice X.ac m X.cc, .int .i64 1, .int .i64 1, .int .i64 0, .int .i64 0, .int .i64 t, .int .i64 0, .int .i64 0] _ (rng_row (Kq.undrew.blk b6x.out)) Tryz.underlying24 rfl (by kernel_rfl) ⟨Kept.refl _ _, rfl⟩)
            refine .cons (fun x wf Kk hq hdep hold => ?_) ?_
            · (try dsimp only); (clear hq hdep hold); (rw [if_pos (by rfl)]); (refine OpY.val ?_ ⟨Kept.refl _ _, rfl⟩); (first | rfl | go_simp)
            refine .cons (fun x wf Kk hq hdep hold => ?_) ?_
            · (try dsimp only); (clear hq hdep hold); (rw [if_pos (by rfl)]); (refine OpY.val ?_ ⟨Kept.refl _ _, rfl⟩); (first | rfl | go_simp)
            refine .cons (fun x wf Kk hq hdep hold => ?_) ?_
            · (try dsimp only); (clear hq hdep hold); (rw [if_pos (by rfl)]); (refine OpY.val ?_ ⟨Kept.refl _ _, rfl⟩); (first | rfl | go_simp)
            refine .cons (fun x wf Kk hq hdep hold => ?_) ?_
            · (try dsimp only); (have h3 : x 3 = _ := hdep 3 (by kernel_rfl)); (clear hq hdep hold); (simp only [h3]); (clear h3); (rw [if_pos (by rfl)]); (refine OpY.val ?_ ⟨Kept.refl _ _, rfl⟩); (first | rfl | go_simp)
            refine .cons (fun x wf Kk hq hdep hold => ?_) ?_
            · (try dsimp only); (have h4 : x 4 = _ := hdep 4 (by kernel_rfl)); (clear hq hdep hold); (simp only [h4]); (clear h4); (rw [if_pos (by rfl)]); (refine OpY.val ?_ ⟨Kept.refl _ _, rfl⟩); (first | rfl | go_simp)
            refine .cons (fun x wf Kk hq hdep hold => ?_) ?_
            · (try dsimp only); (have h5 : x 5 = _ := hdep 5 (by kernel_rfl)); (clear hq hdep hold); (simp only [h5]); (clear h5); (exact stepOff rfl rfl)
            refine .cons (fun x wf Kk hq hdep hold => ?_) ?_
            · (try dsimp only); (have h5 : x 5 = _ := hdep 5 (by kernel_rfl)); (clear hq hdep hold); (simp only [h5]); (clear h5); (exact stepOff rfl rfl)
            refine .cons (fun x wf Kk hq hdep hold => ?_) ?_
            · (try dsimp only); (have h5 : x 5 = _ := hdep 5 (by kernel_rfl)); (have h7 : x 7 = _ := hdep 7 (by kernel_rfl)); (clear hq hdep hold); (simp only [h5, h7]); (clear h5 h7); (rw [if_pos (by rfl)]); (refine OpY.val ?_ ⟨Kept.refl _ _, rfl⟩); (first | rfl | go_simp)
            refine .cons (fun x wf Kk hq hdep hold => ?_) ?_
            · (try dsimp only); (have h8 : x 8 = _ := hdep 8 (by kernel_rfl)); (clear hq hdep hold); (simp only [h8]); (clear h8); (rw [if_pos (by rfl)]); (refine OpY.val ?_ ⟨Kept.refl _ _, rfl⟩); (first | rfl | go_simp)
            refine .cons (fun x wf Kk hq hdep hold => ?_) ?_
            · (try dsimp only); (have h9 : x 9 = _ := hdep 9 (by kernel_rfl)); (have Kq := hq no (fun j hj => by cases (show j ∈ ([] : List Nat) from by (have e : ∀ l : List Nat, l = [] → j ∈ l → j ∈ ([] : List Nat) := fun l h h2 => h ▸ h2); exact e _ (by kernel_rfl) hj))); (clear hq hdep hold); (simp only [h9]); (clear h9); (exact stepOff rfl rfl)
            refine .cons (fun x wf Kk hq hdep hold => ?_) ?_
            · (try dsimp only); (have h9 : x 9 = _ := hdep 9 (by kernel_rfl)); (clear hq hdep hold); (simp only [h9]); (clear h9); (exact stepOff rfl rfl)
            refine .cons (fun x wf Kk hq hdep hold => ?_) ?_
            · (try dsimp only); (have h9 : x 9 = _ := hdep 9 (by kernel_rfl)); (clear hq hdep hold); (simp only [h9]); (clear h9); (exact stepOff rfl rfl)
            refine .cons (fun x wf Kk hq hdep hold => ?_) ?_
            · (try dsimp only); (have h9 : x 9 = _ := hdep 9 (by kernel_rfl)); (have Kq := hq no (fun j hj => by cases (show j ∈ ([] : List Nat) from by (have e : ∀ l : List Nat, l = [] → j ∈ l → j ∈ ([] : List Nat) := fun l h h2 => h ▸ h2); exact e _ (by kernel_rfl) hj))); (clear hq hdep hold); (simp only [h9]); (clear h9); (exact stepOff rfl rfl)
            refine .cons (fun x wf Kk hq hdep hold => ?_) ?_
            · (try dsimp only); (have h9 : x 9 = _ := hdep 9 (by kernel_rfl)); (have Kq := hq no (fun j hj => by cases (show j ∈ ([] : List Nat) from by (have e : ∀ l : List Nat, l = [] → j ∈ l → j ∈ ([] : List Nat) := fun l h h2 => h ▸ h2); exact e _ (by kernel_rfl) hj))); (clear hq hdep hold); (simp only [h9]); (clear h9); (exact stepOff rfl rfl)
            refine .cons (fun x wf Kk hq hdep hold => ?_) ?_
            · (try dsimp only); (have h9 : x 9 = _ := hdep 9 (by kernel_rfl)); (clear hq hdep hold); (simp only [h9]); (clear h9); (exact stepOff rfl rfl)
            refine .cons (fun x wf Kk hq hdep hold => ?_) ?_
            · (try dsimp only); (have h9 : x 9 = _ := hdep 9 (by kernel_rfl)); (have h15 : x 15 = _ := hdep 15 (by kernel_rfl)); (clear hq hdep hold); (simp only [h9, h15]); (clear h9 h15); (rw [if_pos (by rfl)]); (refine OpY.val ?_ ⟨Kept.refl _ _, rfl⟩); (first | rfl | go_simp)
            refine .cons (fun x wf Kk hq hdep hold => ?_) ?_
            · (try dsimp only); (have h0 : x 0 = _ := hdep 0 (by kernel_rfl)); (have Kq := hq no (fun j hj => by cases (show j ∈ ([] : List Nat) from by (have e : ∀ l : List Nat, l = [] → j ∈ l → j ∈ ([] : List Nat) := fun l h h2 => h ▸ h2); exact e _ (by kernel_rfl) hj))); (clear hq hdep hold); (simp only [h0]); (clear h0); (rw [if_pos (by rfl)]); (have hg2 := Kq.undrew.blk b2w.out); (refine OpY.storeRowT 24 (.tmp 2) (.tmp 58) rfl G2 #[.string ⟨#[]⟩, .slice X.ac m X.cc, .int .i64 1, .int .i64 1, .int .i64 0, .int .i64 0, .int .i64 t, .int .i64 0, .int .i64 0] rfl rfl 24 _ hg2 (by kernel_rfl) rfl (by simp [Value.oneCell']) ?_); (exact ⟨(Kept.refl (fun j => j = G2) wf).setRow (g := G2) (.inl rfl) _, setRow_heap _ _ _ _ _ _ hg2⟩)
            refine .cons (fun x wf Kk hq hdep hold => ?_) ?_
            · (try dsimp only); (have h1 : x 1 = _ := hdep 1 (by kernel_rfl)); (clear hq hdep hold); (simp only [h1]); (clear h1); (rw [if_pos (by rfl)]); (refine OpY.val ?_ ⟨Kept.refl _ _, rfl⟩); (first | rfl | go_simp)
            refine .cons (fun x wf Kk hq hdep hold => ?_) ?_
            · (try dsimp only); (have h2 : x 2 = _ := hdep 2 (by kernel_rfl)); (clear hq hdep hold); (simp only [h2]); (clear h2); (rw [if_pos (by rfl)]); (refine OpY.val ?_ ⟨Kept.refl _ _, rfl⟩); (first | rfl | go_simp)
            refine .cons (fun x wf Kk hq hdep hold => ?_) ?_
            · (try dsimp only); (have h16 : x 16 = _ := hdep 16 (by kernel_rfl)); (clear hq hdep hold); (simp only [h16]); (clear h16); (rw [if_pos (by rfl)]); (refine OpY.val ?_ ⟨Kept.refl _ _, rfl⟩); (first | rfl | go_simp)
            exact .nil _
          · (intro x wf Kk hv); (try dsimp only); (have p17 : Pr.p (Sl := (fun _ => (fun j => j = G2))) (PS2 G2 #[.string ⟨#[]⟩, .slice X.ac m X.cc, .int .i64 1, .int .i64 1, .int .i64 0, .int .i64 0, .int .i64 t, .int .i64 0, .int .i64 0]) (x 17) wf := hv 17 (by kernel_rfl)); (have h18 : x 18 = _ := hv 18 (by kernel_rfl)); (have h19 : x 19 = _ := hv 19 (by kernel_rfl)); (have h20 : x 20 = _ := hv 20 (by kernel_rfl)); (clear hv); (simp only [h18, h19, h20]); (clear h18 h19 h20); (have kk := Kk.undrew); (have p2 : wf.heap[G2]? = some (.cells #[.string ⟨#[]⟩, .slice X.ac m X.cc, .int .i64 1, .int .i64 1, .int .i64 0, .int .i64 0, .int .i64 t, .int .i64 0, .int .i64 0] 24 (0, 0)) := p17); (obtain ⟨w6, hw6⟩ : ∃ W, W = wf := ⟨_, rfl⟩); (subst hw6); (have p2' := hid p2); (have kk' := hid kk); (clear p2 kk p17 Kk); (go_wp2); (refine bodyPost_ret (v := .tuple #[.agg #[.string ⟨#[]⟩, .slice X.ac m X.cc, .int .i64 1, .int .i64 1, .int .i64 0, .int .i64 0, .int .i64 t, .int .i64 0, .int .i64 0], va, vb, .bool false]) ?_ rfl ?_)
            · exact results_two rfl _ _ G2 _ rfl _ _ _ rfl rfl rfl rfl p2'.out
            · exact FIN.out _ _ (by simp [hE1]) kk'.out (rgA5.out.rdS kk'.out fun j (e : j = G2) => by rw [e]; exact hG2l.out) (rgB.out.rdS kk'.out fun j (e : j = G2) => by rw [e]; exact hG2l.out)
end Go.Proofs.YtaobaaaihgahfaaGreat
