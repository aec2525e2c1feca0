/- Included, Extended (printed by gen_b7.py). -/
import Derived.Test.YtknbkhmpnanegaaDoorB6
import Derived.Test.YtknbkhmpnanegaaDoorDig
namespace Go.Proofs.YtknbkhmpnanegaaDoor
open Go.RowKit Go.Mk Go.Sha Go.Brd
theorem ldw {ops : Array Oper} {rest : List Oper} {o : Oper} {a : Act} {w : World} {Q : Exit → Act → World → Prop} (hw : Region.wanted o (yielded ops a.tmps) = true) (x : Operand) (ho : o.op = .load 26 x) (g : Nat) (hx : a.eval x = .pointer (some ⟨g, 0, none⟩)) (D : List UInt8) (hb : w.heap[g]? = some (.cells (D.map B).toArray 26 (0, 0))) (hD : D.length = 32)
    (h : wpList Tryd.prog ops Q rest (a.put o.dst (Dg D)) w) : wpList Tryd.prog ops Q (o :: rest) a w :=
  wpList_load_row_want hw 26 x ho g hx 26 _ _ _ hb Tryd.underlying26 rfl (infD hD) h
theorem eqlDg (D E : List UInt8) (hD : D.length = 32) (hE : E.length = 32) (b : Bool) (hb : (D == E) = b) (w : World) : (binOp .eql 26 (Dg D) (Dg E)).run Tryd.prog w = .ok (.bool b) w := by
  rw [← hb]; exact eql_digest D E hD hE w
def incI (root : List UInt8) (n i : Int) (e : Ent) (ds : List (List UInt8)) : Bool := if 0 ≤ i ∧ i < n then includedD root n.toNat i.toNat e ds else false
def extI (old root : List UInt8) (m n : Int) (ds : List (List UInt8)) : Bool := if 1 ≤ m ∧ m ≤ n then extendedD old root m.toNat n.toNat ds else false
theorem inc_blocks (w : World) (L E : List Value) : ∃ w1, w1 = (w.alloc (.cells L.toArray 26)).alloc (.cells E.toArray 47) ∧ w1.heap[w.heap.size]? = some (.cells L.toArray 26 (0, 0)) ∧ w1.heap[w.heap.size + 1]? = some (.cells E.toArray 47 (0, 0)) ∧ Kept no w w1 := by
  have e1 := World.size_alloc (w := w) (o := .cells L.toArray 26)
  refine ⟨_, rfl, ?_, ?_, ((Kept.refl no w).alloc _).alloc _⟩
  · rw [heap_alloc_old _ _ (by omega), heap_alloc_new]
  · rw [← e1, heap_alloc_new]
theorem ext_blocks (w : World) (L E : List Value) : ∃ w1, w1 = (w.alloc (.cells L.toArray 26)).alloc (.cells E.toArray 26) ∧ w1.heap[w.heap.size]? = some (.cells L.toArray 26 (0, 0)) ∧ w1.heap[w.heap.size + 1]? = some (.cells E.toArray 26 (0, 0)) ∧ Kept no w w1 := by
  have e1 := World.size_alloc (w := w) (o := .cells L.toArray 26)
  refine ⟨_, rfl, ?_, ?_, ((Kept.refl no w).alloc _).alloc _⟩
  · rw [heap_alloc_old _ _ (by omega), heap_alloc_new]
  · rw [← e1, heap_alloc_new]

set_option maxRecDepth 100000 in
set_option maxHeartbeats 2000000 in
theorem included_any (R : List UInt8) (n i : Int) (e : Ent) (vb v : Value) (ds : List (List UInt8)) (w : World) (hR : R.length = 32) (hn : n ≤ 63) (hE : OkE w e vb) (hd : ds.length ≤ 1000) (hr : RdD w v ds) (hT : Tab w) :
    Calls Tryd.prog 37 #[Dg R, .int .i64 n, .int .i64 i, Ev e vb, v] w fun ed w' => ed = .returned (.bool (incI R n i e ds)) ∧ Kept no w w' := by
  replace hR := hid hR
  replace hE := hid hE
  replace hr := hid hr
  replace hT := hid hT
  by_cases hi0 : i < 0
  · have hv : Hd (incI R n i e ds = false) := ⟨by unfold incI; rw [if_neg (by omega)]⟩
    clear hr hT
    obtain ⟨L, hL⟩ : ∃ L, R.map B = L := ⟨_, rfl⟩
    obtain ⟨EL, hEL⟩ : ∃ L, entC e vb = L := ⟨_, rfl⟩
    have hDg : Dg R = .agg L.toArray := by rw [← hL]; rfl
    have hEv : Ev e vb = .agg EL.toArray := by rw [← hEL]; rfl
    rw [hDg, hEv]
    clear hDg hEv
    replace hL := hid hL
    replace hEL := hid hEL
    go_enter Tryd.func37, Tryd.ntmps37
    go_upto_region 1 with fail
    obtain ⟨w1, hw1, g0, g1, k1⟩ := inc_blocks w L EL
    rw [← hw1]
    clear hw1
    rw [← hL.out] at g0
    rw [← hEL.out] at g1
    replace g0 := hid g0
    replace g1 := hid g1
    replace k1 := hid k1
    go_wp2_with fail
    go_ret
    exact ⟨by rw [hv.out]; rfl, k1.out⟩
  have hi0' : 0 ≤ i := by omega
  by_cases hin : n ≤ i
  · have hv : Hd (incI R n i e ds = false) := ⟨by unfold incI; rw [if_neg (by omega)]⟩
    clear hr hT
    obtain ⟨L, hL⟩ : ∃ L, R.map B = L := ⟨_, rfl⟩
    obtain ⟨EL, hEL⟩ : ∃ L, entC e vb = L := ⟨_, rfl⟩
    have hDg : Dg R = .agg L.toArray := by rw [← hL]; rfl
    have hEv : Ev e vb = .agg EL.toArray := by rw [← hEL]; rfl
    rw [hDg, hEv]
    clear hDg hEv
    replace hL := hid hL
    replace hEL := hid hEL
    go_enter Tryd.func37, Tryd.ntmps37
    go_upto_region 1 with fail
    obtain ⟨w1, hw1, g0, g1, k1⟩ := inc_blocks w L EL
    rw [← hw1]
    clear hw1
    rw [← hL.out] at g0
    rw [← hEL.out] at g1
    replace g0 := hid g0
    replace g1 := hid g1
    replace k1 := hid k1
    go_wp2_with fail
    go_ret
    exact ⟨by rw [hv.out]; rfl, k1.out⟩
  obtain ⟨n', rfl⟩ : ∃ n' : Nat, n = (n' : Int) := ⟨n.toNat, by omega⟩
  obtain ⟨i', rfl⟩ : ∃ i' : Nat, i = (i' : Int) := ⟨i.toNat, by omega⟩
  have hin' : ((i' : Nat) : Int) < ((n' : Nat) : Int) := by omega
  have hv : Hd (incI R (n' : Int) (i' : Int) e ds = ((climbR (leafD e) n' i' ds.reverse).2 && (climbR (leafD e) n' i' ds.reverse).1 == R)) := ⟨by unfold incI; rw [if_pos ⟨hi0', hin'⟩]; rfl⟩
  have HLF := hid (fun W k => leaf_any e vb W (hE.out.kept k) (hT.out.kept k))
  have hlD := leafD_length e
  have HCL := hid (fun W k => climb_any (leafD e) ds n' i' v W hlD (by omega) (by omega) hd (hr.out.kept k) (hT.out.kept k))
  generalize leafD e = LD at HLF HCL hv hlD
  generalize climbR LD n' i' ds.reverse = q at HCL hv
  clear hlD hi0 hin
  obtain ⟨L, hL⟩ : ∃ L, R.map B = L := ⟨_, rfl⟩
  obtain ⟨EL, hEL⟩ : ∃ L, entC e vb = L := ⟨_, rfl⟩
  have hDg : Dg R = .agg L.toArray := by rw [← hL]; rfl
  have hEv : Ev e vb = .agg EL.toArray := by rw [← hEL]; rfl
  rw [hDg, hEv]
  clear hDg hEv
  replace hL := hid hL
  replace hEL := hid hEL
  go_enter Tryd.func37, Tryd.ntmps37
  go_upto_region 1 with fail
  obtain ⟨w1, hw1, g0, g1, k1⟩ := inc_blocks w L EL
  rw [← hw1]
  clear hw1
  rw [← hL.out] at g0
  rw [← hEL.out] at g1
  replace g0 := hid g0
  replace g1 := hid g1
  replace k1 := hid k1
  go_upto_region 3 with fail
  go_wp2_with (with_reducible refine le rfl _ rfl (w.heap.size + 1) rfl e vb g1.out hE.out ?_)
  refine (HLF.out w1 k1.out).mono ?_
  rintro ed w2 ⟨rfl, k2⟩
  have K2 := hid (k1.out.trans' k2)
  have g02 := hid (k2.blk g0.out)
  clear k2 k1 g0 g1
  go_wp2_with fail
  refine (HCL.out w2 K2.out).mono ?_
  rintro ed w3 ⟨⟨X, rfl, hX, hXq⟩, k3⟩
  have hN := hid (heap_alloc_new w3 (.cells Z32 26))
  obtain ⟨w4, hw4, g4, k4⟩ := dg_block w3 X
  have K4 := hid ((K2.out.trans' k3).trans' k4)
  have g04 := hid ((k3.trans' k4).blk g02.out)
  have hZ := hid Z32_size
  unfold Z32 at hN hw4 hZ
  replace hw4 := hid hw4
  replace g4 := hid g4
  generalize hgs : w3.heap.size = gs at hN hw4 g4
  replace hgs := hid hgs
  replace hX := hid hX
  replace hXq := hid hXq
  clear k3 k4 K2 g02
  obtain ⟨⟨q1, bq⟩, rfl⟩ : ∃ p : List UInt8 × Bool, p = q := ⟨_, rfl⟩
  cases bq with
  | false =>
    have hv' : Hd (incI R (n' : Int) (i' : Int) e ds = false) := ⟨by rw [hv.out]; rfl⟩
    go_wp2_with (with_reducible refine sd rfl _ _ rfl w3.heap.size rfl X rfl _ (by rw [hgs.out]; exact hN.out) hZ.out hX.out ?_; rw [hgs.out, ← hw4.out])
    go_ret
    exact ⟨by rw [hv'.out]; rfl, K4.out⟩
  | true =>
    obtain rfl : X = q1 := hXq.out rfl
    obtain ⟨be, hbe⟩ : ∃ b, (X == R) = b := ⟨_, rfl⟩
    have hv' : Hd (incI R (n' : Int) (i' : Int) e ds = be) := ⟨by rw [hv.out, ← hbe]; rfl⟩
    have heq := eqlDg X R hX.out hR.out be hbe
    have hgd := guard_digest
    clear hbe hv
    unfold Dg at heq
    go_wp2_with (first | (with_reducible refine sd rfl _ _ rfl w3.heap.size rfl X rfl _ (by rw [hgs.out]; exact hN.out) hZ.out hX.out ?_; rw [hgs.out, ← hw4.out]) | (with_reducible refine ldw rfl _ rfl gs rfl X g4.out hX.out ?_; unfold Dg) | (with_reducible refine ldw rfl _ rfl w.heap.size rfl R g04.out hR.out ?_; unfold Dg))
    go_ret
    exact ⟨by rw [hv'.out]; rfl, K4.out⟩
set_option maxRecDepth 100000 in
set_option maxHeartbeats 2000000 in
theorem refincluded_any (R : List UInt8) (n i : Int) (e : Ent) (vb v : Value) (ds : List (List UInt8)) (w : World) (hR : R.length = 32) (hn : n ≤ 63) (hE : OkE w e vb) (hd : ds.length ≤ 1000) (hr : RdD w v ds) (hT : TabR w) :
    Calls Tryd.prog 45 #[Dg R, .int .i64 n, .int .i64 i, Ev e vb, v] w fun ed w' => ed = .returned (.bool (incI R n i e ds)) ∧ Kept no w w' := by
  replace hR := hid hR
  replace hE := hid hE
  replace hr := hid hr
  replace hT := hid hT
  by_cases hi0 : i < 0
  · have hv : Hd (incI R n i e ds = false) := ⟨by unfold incI; rw [if_neg (by omega)]⟩
    clear hr hT
    obtain ⟨L, hL⟩ : ∃ L, R.map B = L := ⟨_, rfl⟩
    obtain ⟨EL, hEL⟩ : ∃ L, entC e vb = L := ⟨_, rfl⟩
    have hDg : Dg R = .agg L.toArray := by rw [← hL]; rfl
    have hEv : Ev e vb = .agg EL.toArray := by rw [← hEL]; rfl
    rw [hDg, hEv]
    clear hDg hEv
    replace hL := hid hL
    replace hEL := hid hEL
    go_enter Tryd.func45, Tryd.ntmps45
    go_upto_region 1 with fail
    obtain ⟨w1, hw1, g0, g1, k1⟩ := inc_blocks w L EL
    rw [← hw1]
    clear hw1
    rw [← hL.out] at g0
    rw [← hEL.out] at g1
    replace g0 := hid g0
    replace g1 := hid g1
    replace k1 := hid k1
    go_wp2_with fail
    go_ret
    exact ⟨by rw [hv.out]; rfl, k1.out⟩
  have hi0' : 0 ≤ i := by omega
  by_cases hin : n ≤ i
  · have hv : Hd (incI R n i e ds = false) := ⟨by unfold incI; rw [if_neg (by omega)]⟩
    clear hr hT
    obtain ⟨L, hL⟩ : ∃ L, R.map B = L := ⟨_, rfl⟩
    obtain ⟨EL, hEL⟩ : ∃ L, entC e vb = L := ⟨_, rfl⟩
    have hDg : Dg R = .agg L.toArray := by rw [← hL]; rfl
    have hEv : Ev e vb = .agg EL.toArray := by rw [← hEL]; rfl
    rw [hDg, hEv]
    clear hDg hEv
    replace hL := hid hL
    replace hEL := hid hEL
    go_enter Tryd.func45, Tryd.ntmps45
    go_upto_region 1 with fail
    obtain ⟨w1, hw1, g0, g1, k1⟩ := inc_blocks w L EL
    rw [← hw1]
    clear hw1
    rw [← hL.out] at g0
    rw [← hEL.out] at g1
    replace g0 := hid g0
    replace g1 := hid g1
    replace k1 := hid k1
    go_wp2_with fail
    go_ret
    exact ⟨by rw [hv.out]; rfl, k1.out⟩
  obtain ⟨n', rfl⟩ : ∃ n' : Nat, n = (n' : Int) := ⟨n.toNat, by omega⟩
  obtain ⟨i', rfl⟩ : ∃ i' : Nat, i = (i' : Int) := ⟨i.toNat, by omega⟩
  have hin' : ((i' : Nat) : Int) < ((n' : Nat) : Int) := by omega
  have hv : Hd (incI R (n' : Int) (i' : Int) e ds = ((climbR (leafD e) n' i' ds.reverse).2 && (climbR (leafD e) n' i' ds.reverse).1 == R)) := ⟨by unfold incI; rw [if_pos ⟨hi0', hin'⟩]; rfl⟩
  have HLF := hid (fun W k => refleaf_any e vb W (hE.out.kept k) (hT.out.kept k))
  have hlD := leafD_length e
  have HCL := hid (fun W k => run_any (leafD e) ds n' i' v W hlD (by omega) (by omega) hd (hr.out.kept k) (hT.out.kept k))
  generalize leafD e = LD at HLF HCL hv hlD
  generalize climbR LD n' i' ds.reverse = q at HCL hv
  clear hlD hi0 hin
  obtain ⟨L, hL⟩ : ∃ L, R.map B = L := ⟨_, rfl⟩
  obtain ⟨EL, hEL⟩ : ∃ L, entC e vb = L := ⟨_, rfl⟩
  have hDg : Dg R = .agg L.toArray := by rw [← hL]; rfl
  have hEv : Ev e vb = .agg EL.toArray := by rw [← hEL]; rfl
  rw [hDg, hEv]
  clear hDg hEv
  replace hL := hid hL
  replace hEL := hid hEL
  go_enter Tryd.func45, Tryd.ntmps45
  go_upto_region 1 with fail
  obtain ⟨w1, hw1, g0, g1, k1⟩ := inc_blocks w L EL
  rw [← hw1]
  clear hw1
  rw [← hL.out] at g0
  rw [← hEL.out] at g1
  replace g0 := hid g0
  replace g1 := hid g1
  replace k1 := hid k1
  go_upto_region 3 with fail
  go_wp2_with (with_reducible refine le rfl _ rfl (w.heap.size + 1) rfl e vb g1.out hE.out ?_)
  refine (HLF.out w1 k1.out).mono ?_
  rintro ed w2 ⟨rfl, k2⟩
  have K2 := hid (k1.out.trans' k2)
  have g02 := hid (k2.blk g0.out)
  clear k2 k1 g0 g1
  go_wp2_with fail
  refine (HCL.out w2 K2.out).mono ?_
  rintro ed w3 ⟨⟨X, rfl, hX, hXq⟩, k3⟩
  have hN := hid (heap_alloc_new w3 (.cells Z32 26))
  obtain ⟨w4, hw4, g4, k4⟩ := dg_block w3 X
  have K4 := hid ((K2.out.trans' k3).trans' k4)
  have g04 := hid ((k3.trans' k4).blk g02.out)
  have hZ := hid Z32_size
  unfold Z32 at hN hw4 hZ
  replace hw4 := hid hw4
  replace g4 := hid g4
  generalize hgs : w3.heap.size = gs at hN hw4 g4
  replace hgs := hid hgs
  replace hX := hid hX
  replace hXq := hid hXq
  clear k3 k4 K2 g02
  obtain ⟨⟨q1, bq⟩, rfl⟩ : ∃ p : List UInt8 × Bool, p = q := ⟨_, rfl⟩
  cases bq with
  | false =>
    have hv' : Hd (incI R (n' : Int) (i' : Int) e ds = false) := ⟨by rw [hv.out]; rfl⟩
    go_wp2_with (with_reducible refine sd rfl _ _ rfl w3.heap.size rfl X rfl _ (by rw [hgs.out]; exact hN.out) hZ.out hX.out ?_; rw [hgs.out, ← hw4.out])
    go_ret
    exact ⟨by rw [hv'.out]; rfl, K4.out⟩
  | true =>
    obtain rfl : X = q1 := hXq.out rfl
    obtain ⟨be, hbe⟩ : ∃ b, (X == R) = b := ⟨_, rfl⟩
    have hv' : Hd (incI R (n' : Int) (i' : Int) e ds = be) := ⟨by rw [hv.out, ← hbe]; rfl⟩
    have heq := eqlDg X R hX.out hR.out be hbe
    have hgd := guard_digest
    clear hbe hv
    unfold Dg at heq
    go_wp2_with (first | (with_reducible refine sd rfl _ _ rfl w3.heap.size rfl X rfl _ (by rw [hgs.out]; exact hN.out) hZ.out hX.out ?_; rw [hgs.out, ← hw4.out]) | (with_reducible refine ldw rfl _ rfl gs rfl X g4.out hX.out ?_; unfold Dg) | (with_reducible refine ldw rfl _ rfl w.heap.size rfl R g04.out hR.out ?_; unfold Dg))
    go_ret
    exact ⟨by rw [hv'.out]; rfl, K4.out⟩
set_option maxRecDepth 100000 in
set_option maxHeartbeats 2000000 in
theorem extended_any (O R : List UInt8) (m n : Int) (v : Value) (ds : List (List UInt8)) (w : World) (hO : O.length = 32) (hR : R.length = 32) (hn : n ≤ 63) (hd : ds.length ≤ 1000) (hr : RdD w v ds) (hT : Tab w) :
    Calls Tryd.prog 46 #[Dg O, Dg R, .int .i64 m, .int .i64 n, v] w fun ed w' => ed = .returned (.bool (extI O R m n ds)) ∧ Kept no w w' := by
  replace hO := hid hO
  replace hR := hid hR
  replace hr := hid hr
  replace hT := hid hT
  by_cases hi0 : m < 1
  · have hv : Hd (extI O R m n ds = false) := ⟨by unfold extI; rw [if_neg (by omega)]⟩
    clear hr hT
    obtain ⟨L, hL⟩ : ∃ L, O.map B = L := ⟨_, rfl⟩
    obtain ⟨EL, hEL⟩ : ∃ L, R.map B = L := ⟨_, rfl⟩
    have hDg : Dg O = .agg L.toArray := by rw [← hL]; rfl
    have hEv : Dg R = .agg EL.toArray := by rw [← hEL]; rfl
    rw [hDg, hEv]
    clear hDg hEv
    replace hL := hid hL
    replace hEL := hid hEL
    go_enter Tryd.func46, Tryd.ntmps46
    go_upto_region 1 with fail
    obtain ⟨w1, hw1, g0, g1, k1⟩ := ext_blocks w L EL
    rw [← hw1]
    clear hw1
    rw [← hL.out] at g0
    rw [← hEL.out] at g1
    replace g0 := hid g0
    replace g1 := hid g1
    replace k1 := hid k1
    go_wp2_with fail
    go_ret
    exact ⟨by rw [hv.out]; rfl, k1.out⟩
  have hi0' : 1 ≤ m := by omega
  by_cases hin : n < m
  · have hv : Hd (extI O R m n ds = false) := ⟨by unfold extI; rw [if_neg (by omega)]⟩
    clear hr hT
    obtain ⟨L, hL⟩ : ∃ L, O.map B = L := ⟨_, rfl⟩
    obtain ⟨EL, hEL⟩ : ∃ L, R.map B = L := ⟨_, rfl⟩
    have hDg : Dg O = .agg L.toArray := by rw [← hL]; rfl
    have hEv : Dg R = .agg EL.toArray := by rw [← hEL]; rfl
    rw [hDg, hEv]
    clear hDg hEv
    replace hL := hid hL
    replace hEL := hid hEL
    go_enter Tryd.func46, Tryd.ntmps46
    go_upto_region 1 with fail
    obtain ⟨w1, hw1, g0, g1, k1⟩ := ext_blocks w L EL
    rw [← hw1]
    clear hw1
    rw [← hL.out] at g0
    rw [← hEL.out] at g1
    replace g0 := hid g0
    replace g1 := hid g1
    replace k1 := hid k1
    go_wp2_with fail
    go_ret
    exact ⟨by rw [hv.out]; rfl, k1.out⟩
  obtain ⟨n', rfl⟩ : ∃ n' : Nat, n = (n' : Int) := ⟨n.toNat, by omega⟩
  obtain ⟨m', rfl⟩ : ∃ m' : Nat, m = (m' : Int) := ⟨m.toNat, by omega⟩
  have hin' : ((m' : Nat) : Int) ≤ ((n' : Nat) : Int) := by omega
  have hv : Hd (extI O R (m' : Int) (n' : Int) ds = ((rebuildR O m' n' true ds.reverse).2.2 && (rebuildR O m' n' true ds.reverse).1 == O && (rebuildR O m' n' true ds.reverse).2.1 == R)) := ⟨by unfold extI; rw [if_pos ⟨hi0', hin'⟩]; rfl⟩
  have HCL := hid (fun W k => rebuild_any O ds m' n' true v W hO.out (by omega) (by omega) (by omega) hd (hr.out.kept k) (hT.out.kept k))
  generalize rebuildR O m' n' true ds.reverse = q at HCL hv
  clear hi0 hin
  obtain ⟨L, hL⟩ : ∃ L, O.map B = L := ⟨_, rfl⟩
  obtain ⟨EL, hEL⟩ : ∃ L, R.map B = L := ⟨_, rfl⟩
  have hDg : Dg O = .agg L.toArray := by rw [← hL]; rfl
  have hEv : Dg R = .agg EL.toArray := by rw [← hEL]; rfl
  rw [hDg, hEv]
  clear hDg hEv
  replace hL := hid hL
  replace hEL := hid hEL
  go_enter Tryd.func46, Tryd.ntmps46
  go_upto_region 1 with fail
  obtain ⟨w1, hw1, g0, g1, k1⟩ := ext_blocks w L EL
  rw [← hw1]
  clear hw1
  rw [← hL.out] at g0
  rw [← hEL.out] at g1
  replace g0 := hid g0
  replace g1 := hid g1
  replace k1 := hid k1
  go_upto_region 3 with fail
  go_wp2_with (with_reducible refine ld rfl _ rfl w.heap.size rfl O g0.out hO.out ?_)
  refine (HCL.out w1 k1.out).mono ?_
  rintro ed w3 ⟨⟨X, Y, rfl, hX, hY, hXq⟩, k3⟩
  obtain ⟨w4, hw4, g4, g5, k4⟩ := dg2_block w3 X Y
  have K4 := hid ((k1.out.trans' k3).trans' k4)
  have g04 := hid ((k3.trans' k4).blk g0.out)
  have g14 := hid ((k3.trans' k4).blk g1.out)
  have n0 : Hd (((w3.alloc (.cells Z32 26)).alloc (.cells Z32 26)).heap[w3.heap.size]? = some (.cells Z32 26 (0, 0))) := ⟨by rw [heap_alloc_old _ _ (by have := World.size_alloc (w := w3) (o := .cells Z32 26); omega), heap_alloc_new]⟩
  have n1 : Hd ((((w3.alloc (.cells Z32 26)).alloc (.cells Z32 26)).setRow w3.heap.size (X.map B).toArray).heap[w3.heap.size + 1]? = some (.cells Z32 26 (0, 0))) := ⟨by rw [setRow_other _ _ _ _ (by omega), ← World.size_alloc (w := w3) (o := .cells Z32 26), heap_alloc_new]⟩
  have hZ := hid Z32_size
  unfold Z32 at hw4 n0 n1 hZ
  replace hw4 := hid hw4
  replace g4 := hid g4
  replace g5 := hid g5
  generalize hgs : w3.heap.size = gs at hw4 g4 g5 n0 n1
  replace hgs := hid hgs
  replace hX := hid hX
  replace hY := hid hY
  replace hXq := hid hXq
  clear k3 k4 k1 g0 g1
  obtain ⟨⟨q1, q2, bq⟩, rfl⟩ : ∃ p : List UInt8 × List UInt8 × Bool, p = q := ⟨_, rfl⟩
  cases bq with
  | false =>
    have hv' : Hd (extI O R (m' : Int) (n' : Int) ds = false) := ⟨by rw [hv.out]; rfl⟩
    go_wp2_with (first | (with_reducible refine sd rfl _ _ rfl w3.heap.size rfl X rfl _ (by rw [hgs.out]; exact n0.out) hZ.out hX.out ?_; rw [hgs.out]) | (with_reducible refine sd rfl _ _ rfl (gs + 1) rfl Y rfl _ n1.out hZ.out hY.out ?_; rw [← hw4.out]))
    go_ret
    exact ⟨by rw [hv'.out]; rfl, K4.out⟩
  | true =>
    obtain ⟨rfl, rfl⟩ : X = q1 ∧ Y = q2 := hXq.out rfl
    obtain ⟨be, hbe⟩ : ∃ b, (X == O) = b := ⟨_, rfl⟩
    obtain ⟨bf, hbf⟩ : ∃ b, (Y == R) = b := ⟨_, rfl⟩
    have hv' : Hd (extI O R (m' : Int) (n' : Int) ds = (be && bf)) := ⟨by rw [hv.out, ← hbe, ← hbf]; rfl⟩
    have heq := eqlDg X O hX.out hO.out be hbe
    have hfq := eqlDg Y R hY.out hR.out bf hbf
    have hgd := guard_digest
    clear hbe hbf hv
    unfold Dg at heq hfq
    cases be with
    | false =>
      have hv2 : Hd (extI O R (m' : Int) (n' : Int) ds = false) := ⟨by rw [hv'.out]; rfl⟩
      go_wp2_with (first | (with_reducible refine sd rfl _ _ rfl w3.heap.size rfl X rfl _ (by rw [hgs.out]; exact n0.out) hZ.out hX.out ?_; rw [hgs.out]) | (with_reducible refine sd rfl _ _ rfl (gs + 1) rfl Y rfl _ n1.out hZ.out hY.out ?_; rw [← hw4.out]) | (with_reducible refine ldw rfl _ rfl gs rfl X g4.out hX.out ?_; unfold Dg) | (with_reducible refine ldw rfl _ rfl (gs + 1) rfl Y g5.out hY.out ?_; unfold Dg) | (with_reducible refine ldw rfl _ rfl w.heap.size rfl O g04.out hO.out ?_; unfold Dg) | (with_reducible refine ldw rfl _ rfl (w.heap.size + 1) rfl R g14.out hR.out ?_; unfold Dg))
      go_ret
      exact ⟨by rw [hv2.out]; rfl, K4.out⟩
    | true =>
      have hv2 : Hd (extI O R (m' : Int) (n' : Int) ds = bf) := ⟨by rw [hv'.out]; rfl⟩
      go_wp2_with (first | (with_reducible refine sd rfl _ _ rfl w3.heap.size rfl X rfl _ (by rw [hgs.out]; exact n0.out) hZ.out hX.out ?_; rw [hgs.out]) | (with_reducible refine sd rfl _ _ rfl (gs + 1) rfl Y rfl _ n1.out hZ.out hY.out ?_; rw [← hw4.out]) | (with_reducible refine ldw rfl _ rfl gs rfl X g4.out hX.out ?_; unfold Dg) | (with_reducible refine ldw rfl _ rfl (gs + 1) rfl Y g5.out hY.out ?_; unfold Dg) | (with_reducible refine ldw rfl _ rfl w.heap.size rfl O g04.out hO.out ?_; unfold Dg) | (with_reducible refine ldw rfl _ rfl (w.heap.size + 1) rfl R g14.out hR.out ?_; unfold Dg))
      go_ret
      exact ⟨by rw [hv2.out]; rfl, K4.out⟩
set_option maxRecDepth 100000 in
set_option maxHeartbeats 2000000 in
theorem refextended_any (O R : List UInt8) (m n : Int) (v : Value) (ds : List (List UInt8)) (w : World) (hO : O.length = 32) (hR : R.length = 32) (hn : n ≤ 63) (hd : ds.length ≤ 1000) (hr : RdD w v ds) (hT : TabR w) :
    Calls Tryd.prog 47 #[Dg O, Dg R, .int .i64 m, .int .i64 n, v] w fun ed w' => ed = .returned (.bool (extI O R m n ds)) ∧ Kept no w w' := by
  replace hO := hid hO
  replace hR := hid hR
  replace hr := hid hr
  replace hT := hid hT
  by_cases hi0 : m < 1
  · have hv : Hd (extI O R m n ds = false) := ⟨by unfold extI; rw [if_neg (by omega)]⟩
    clear hr hT
    obtain ⟨L, hL⟩ : ∃ L, O.map B = L := ⟨_, rfl⟩
    obtain ⟨EL, hEL⟩ : ∃ L, R.map B = L := ⟨_, rfl⟩
    have hDg : Dg O = .agg L.toArray := by rw [← hL]; rfl
    have hEv : Dg R = .agg EL.toArray := by rw [← hEL]; rfl
    rw [hDg, hEv]
    clear hDg hEv
    replace hL := hid hL
    replace hEL := hid hEL
    go_enter Tryd.func47, Tryd.ntmps47
    go_upto_region 1 with fail
    obtain ⟨w1, hw1, g0, g1, k1⟩ := ext_blocks w L EL
    rw [← hw1]
    clear hw1
    rw [← hL.out] at g0
    rw [← hEL.out] at g1
    replace g0 := hid g0
    replace g1 := hid g1
    replace k1 := hid k1
    go_wp2_with fail
    go_ret
    exact ⟨by rw [hv.out]; rfl, k1.out⟩
  have hi0' : 1 ≤ m := by omega
  by_cases hin : n < m
  · have hv : Hd (extI O R m n ds = false) := ⟨by unfold extI; rw [if_neg (by omega)]⟩
    clear hr hT
    obtain ⟨L, hL⟩ : ∃ L, O.map B = L := ⟨_, rfl⟩
    obtain ⟨EL, hEL⟩ : ∃ L, R.map B = L := ⟨_, rfl⟩
    have hDg : Dg O = .agg L.toArray := by rw [← hL]; rfl
    have hEv : Dg R = .agg EL.toArray := by rw [← hEL]; rfl
    rw [hDg, hEv]
    clear hDg hEv
    replace hL := hid hL
    replace hEL := hid hEL
    go_enter Tryd.func47, Tryd.ntmps47
    go_upto_region 1 with fail
    obtain ⟨w1, hw1, g0, g1, k1⟩ := ext_blocks w L EL
    rw [← hw1]
    clear hw1
    rw [← hL.out] at g0
    rw [← hEL.out] at g1
    replace g0 := hid g0
    replace g1 := hid g1
    replace k1 := hid k1
    go_wp2_with fail
    go_ret
    exact ⟨by rw [hv.out]; rfl, k1.out⟩
  obtain ⟨n', rfl⟩ : ∃ n' : Nat, n = (n' : Int) := ⟨n.toNat, by omega⟩
  obtain ⟨m', rfl⟩ : ∃ m' : Nat, m = (m' : Int) := ⟨m.toNat, by omega⟩
  have hin' : ((m' : Nat) : Int) ≤ ((n' : Nat) : Int) := by omega
  have hv : Hd (extI O R (m' : Int) (n' : Int) ds = ((rebuildR O m' n' true ds.reverse).2.2 && (rebuildR O m' n' true ds.reverse).1 == O && (rebuildR O m' n' true ds.reverse).2.1 == R)) := ⟨by unfold extI; rw [if_pos ⟨hi0', hin'⟩]; rfl⟩
  have HCL := hid (fun W k => two_any O ds m' n' true v W hO.out (by omega) (by omega) (by omega) hd (hr.out.kept k) (hT.out.kept k))
  generalize rebuildR O m' n' true ds.reverse = q at HCL hv
  clear hi0 hin
  obtain ⟨L, hL⟩ : ∃ L, O.map B = L := ⟨_, rfl⟩
  obtain ⟨EL, hEL⟩ : ∃ L, R.map B = L := ⟨_, rfl⟩
  have hDg : Dg O = .agg L.toArray := by rw [← hL]; rfl
  have hEv : Dg R = .agg EL.toArray := by rw [← hEL]; rfl
  rw [hDg, hEv]
  clear hDg hEv
  replace hL := hid hL
  replace hEL := hid hEL
  go_enter Tryd.func47, Tryd.ntmps47
  go_upto_region 1 with fail
  obtain ⟨w1, hw1, g0, g1, k1⟩ := ext_blocks w L EL
  rw [← hw1]
  clear hw1
  rw [← hL.out] at g0
  rw [← hEL.out] at g1
  replace g0 := hid g0
  replace g1 := hid g1
  replace k1 := hid k1
  go_upto_region 3 with fail
  go_wp2_with (with_reducible refine ld rfl _ rfl w.heap.size rfl O g0.out hO.out ?_)
  refine (HCL.out w1 k1.out).mono ?_
  rintro ed w3 ⟨⟨X, Y, rfl, hX, hY, hXq⟩, k3⟩
  obtain ⟨w4, hw4, g4, g5, k4⟩ := dg2_block w3 X Y
  have K4 := hid ((k1.out.trans' k3).trans' k4)
  have g04 := hid ((k3.trans' k4).blk g0.out)
  have g14 := hid ((k3.trans' k4).blk g1.out)
  have n0 : Hd (((w3.alloc (.cells Z32 26)).alloc (.cells Z32 26)).heap[w3.heap.size]? = some (.cells Z32 26 (0, 0))) := ⟨by rw [heap_alloc_old _ _ (by have := World.size_alloc (w := w3) (o := .cells Z32 26); omega), heap_alloc_new]⟩
  have n1 : Hd ((((w3.alloc (.cells Z32 26)).alloc (.cells Z32 26)).setRow w3.heap.size (X.map B).toArray).heap[w3.heap.size + 1]? = some (.cells Z32 26 (0, 0))) := ⟨by rw [setRow_other _ _ _ _ (by omega), ← World.size_alloc (w := w3) (o := .cells Z32 26), heap_alloc_new]⟩
  have hZ := hid Z32_size
  unfold Z32 at hw4 n0 n1 hZ
  replace hw4 := hid hw4
  replace g4 := hid g4
  replace g5 := hid g5
  generalize hgs : w3.heap.size = gs at hw4 g4 g5 n0 n1
  replace hgs := hid hgs
  replace hX := hid hX
  replace hY := hid hY
  replace hXq := hid hXq
  clear k3 k4 k1 g0 g1
  obtain ⟨⟨q1, q2, bq⟩, rfl⟩ : ∃ p : List UInt8 × List UInt8 × Bool, p = q := ⟨_, rfl⟩
  cases bq with
  | false =>
    have hv' : Hd (extI O R (m' : Int) (n' : Int) ds = false) := ⟨by rw [hv.out]; rfl⟩
    go_wp2_with (first | (with_reducible refine sd rfl _ _ rfl w3.heap.size rfl X rfl _ (by rw [hgs.out]; exact n0.out) hZ.out hX.out ?_; rw [hgs.out]) | (with_reducible refine sd rfl _ _ rfl (gs + 1) rfl Y rfl _ n1.out hZ.out hY.out ?_; rw [← hw4.out]))
    go_ret
    exact ⟨by rw [hv'.out]; rfl, K4.out⟩
  | true =>
    obtain ⟨rfl, rfl⟩ : X = q1 ∧ Y = q2 := hXq.out rfl
    obtain ⟨be, hbe⟩ : ∃ b, (X == O) = b := ⟨_, rfl⟩
    obtain ⟨bf, hbf⟩ : ∃ b, (Y == R) = b := ⟨_, rfl⟩
    have hv' : Hd (extI O R (m' : Int) (n' : Int) ds = (be && bf)) := ⟨by rw [hv.out, ← hbe, ← hbf]; rfl⟩
    have heq := eqlDg X O hX.out hO.out be hbe
    have hfq := eqlDg Y R hY.out hR.out bf hbf
    have hgd := guard_digest
    clear hbe hbf hv
    unfold Dg at heq hfq
    cases be with
    | false =>
      have hv2 : Hd (extI O R (m' : Int) (n' : Int) ds = false) := ⟨by rw [hv'.out]; rfl⟩
      go_wp2_with (first | (with_reducible refine sd rfl _ _ rfl w3.heap.size rfl X rfl _ (by rw [hgs.out]; exact n0.out) hZ.out hX.out ?_; rw [hgs.out]) | (with_reducible refine sd rfl _ _ rfl (gs + 1) rfl Y rfl _ n1.out hZ.out hY.out ?_; rw [← hw4.out]) | (with_reducible refine ldw rfl _ rfl gs rfl X g4.out hX.out ?_; unfold Dg) | (with_reducible refine ldw rfl _ rfl (gs + 1) rfl Y g5.out hY.out ?_; unfold Dg) | (with_reducible refine ldw rfl _ rfl w.heap.size rfl O g04.out hO.out ?_; unfold Dg) | (with_reducible refine ldw rfl _ rfl (w.heap.size + 1) rfl R g14.out hR.out ?_; unfold Dg))
      go_ret
      exact ⟨by rw [hv2.out]; rfl, K4.out⟩
    | true =>
      have hv2 : Hd (extI O R (m' : Int) (n' : Int) ds = bf) := ⟨by rw [hv'.out]; rfl⟩
      go_wp2_with (first | (with_reducible refine sd rfl _ _ rfl w3.heap.size rfl X rfl _ (by rw [hgs.out]; exact n0.out) hZ.out hX.out ?_; rw [hgs.out]) | (with_reducible refine sd rfl _ _ rfl (gs + 1) rfl Y rfl _ n1.out hZ.out hY.out ?_; rw [← hw4.out]) | (with_reducible refine ldw rfl _ rfl gs rfl X g4.out hX.out ?_; unfold Dg) | (with_reducible refine ldw rfl _ rfl (gs + 1) rfl Y g5.out hY.out ?_; unfold Dg) | (with_reducible refine ldw rfl _ rfl w.heap.size rfl O g04.out hO.out ?_; unfold Dg) | (with_reducible refine ldw rfl _ rfl (w.heap.size + 1) rfl R g14.out hR.out ?_; unfold Dg))
      go_ret
      exact ⟨by rw [hv2.out]; rfl, K4.out⟩
end Go.Proofs.YtknbkhmpnanegaaDoor
