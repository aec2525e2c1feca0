/- leaf, node, inner; slices.Grow of nil, slices.Concat over bytes (printed by gen_b3.py). -/
import Derived.Test.YtknbkhmpnanegaaDoorB2
import Derived.Lib.AppendZerosOnto
namespace Go.Proofs.YtknbkhmpnanegaaDoor
open Go.RowKit Go.Mk Go.Sha Go.Brd
theorem dg_block (w : World) (D : List UInt8) : ∃ w3, w3 = (w.alloc (.cells Z32 26)).setRow w.heap.size (D.map B).toArray ∧ w3.heap[w.heap.size]? = some (.cells (D.map B).toArray 26 (0, 0)) ∧ Kept no w w3 :=
  ⟨_, rfl, setRow_heap _ _ _ _ _ _ (heap_alloc_new _ _), ((Kept.refl no w).alloc _).setRow (.inr (Nat.le_refl _)) _⟩
theorem dg_rd {w : World} {g : Nat} {D : List UInt8} {fr : Nat × Nat} (h : w.heap[g]? = some (.cells (D.map B).toArray 26 fr)) (hD : D.length = 32) : Rd w 1 (.slice (some ⟨g, 0, none⟩) 32 32) 32 (D.map B) :=
  Rd.block h (by simp [hD]) (by decide)
theorem one_own (w : World) (x : UInt8) : (w.alloc (.cells #[B x] 5)).ownsRow 0 5 1 (.slice (some ⟨w.heap.size, 0, none⟩) 1 1) 1 [B x] :=
  ⟨rfl, .inr ⟨_, 1, #[B x], rfl, Nat.zero_le _, heap_alloc_new _ _, Nat.le_refl _, by decide, rfl, rfl⟩⟩

set_option maxRecDepth 100000 in
set_option maxHeartbeats 2000000 in
theorem leaf_any (e : Ent) (vb : Value) (w : World) (h : OkE w e vb) (hT : Tab w) : Calls Tryd.prog 60 #[Ev e vb] w fun ed w' => ed = .returned (Dg (leafD e)) ∧ Kept no w w' := by
  have HH := hid (fun W (k : Kept no w W) => hash_any e vb W (h.kept k) (hT.kept k))
  have hpos := hid (hashE_length e)
  have hlf : Hd (sum (0 :: hashE e) = leafD e) := ⟨rfl⟩
  generalize hashE e = D at HH hpos hlf
  obtain ⟨L, hL⟩ : ∃ L, entC e vb = L := ⟨_, rfl⟩
  unfold Ev at HH ⊢
  rw [hL]
  replace hL := hid hL
  replace hT := hid hT
  replace h := hid h
  go_enter Tryd.func60, Tryd.ntmps60
  go_upto_region 1 with fail
  obtain ⟨w1, hw1, g0, g1, k1⟩ := ent_blocks w L
  unfold Z32 at hw1
  rw [← hw1]
  clear hw1
  rw [← hL.out] at g0
  have hl1 := hid (lt_of_heap g1)
  replace k1 := hid k1
  replace g0 := hid g0
  replace g1 := hid g1
  go_wp2_with (with_reducible refine le rfl _ rfl w.heap.size rfl e vb g0.out h.out ?_)
  refine (HH.out w1 k1.out).mono ?_
  rintro ed w2 ⟨rfl, k2⟩
  have hN := hid (heap_alloc_new w2 (.cells Z32 26))
  have hZ := hid Z32_size
  obtain ⟨w3, hw3, g3, k3⟩ := dg_block w2 D
  have K3 := hid ((k1.out.trans' k2).trans' k3)
  have h23 := hid (k3.size)
  have g1' := hid ((k2.trans' k3).blk g1.out)
  have hr := hid (dg_rd g3 hpos.out)
  unfold Z32 at hN hw3 hZ
  replace hw3 := hid hw3
  replace g3 := hid g3
  generalize hgs : w2.heap.size = gs at hN hw3 g3 h23 hr
  replace hgs := hid hgs
  go_upto_region 2 with (with_reducible refine sd rfl _ _ rfl w2.heap.size rfl D rfl _ (by rw [hgs.out]; exact hN.out) hZ.out hpos.out ?_; rw [hgs.out, ← hw3.out])
  clear hN hw3 hZ k1 k2 k3 g0 g1 hgs
  have hown := hid (one_own w3 0)
  have hy := hid (hr.out.alloc (.cells #[B 0] 5))
  have ha := hid ((Kept.refl no w3).alloc (.cells #[B 0] 5))
  unfold B at hown hy ha
  have hz : ((0 : UInt8).toNat : Int) = 0 := rfl
  rw [hz] at hown hy ha
  clear hz
  go_wp2_with (at_builtin; refine wpList_append _ rfl _ _ 43 rfl 5 1 1 TBytes _ _ _ rfl hown.out _ _ _ rfl hy.out (B_one _) ?c1 ?c2 ?_)
  case c1 => decide
  case c2 => decide
  intro v4 w4 o4 k4 n4 _
  have K34 : Hd (Kept no w3 w4) := ⟨ha.out.trans k4 fun k hk e => by simp only [ob, Value.ownBlock, Option.some.injEq] at e; omega⟩
  have r4 : Hd (Rd w4 1 v4 (0 :: D).length ((0 :: D).map B)) := ⟨by have := Rd.of_own o4; rw [List.length_cons, hpos.out]; exact this⟩
  have K4 := hid (K3.out.trans' K34.out)
  have g4 := hid (K34.out.blk g1'.out)
  clear hown hy ha o4 k4 n4 K34 hr g3 g1'
  go_wp2_with fail
  refine (digest_any v4 (0 :: D) w4 (by rw [List.length_cons, hpos.out]; decide) r4.out (hT.out.kept K4.out)).mono ?_
  rintro ed w5 ⟨rfl, k5⟩
  rw [hlf.out]
  have g5 := hid (k5.blk g4.out)
  have K5 := hid (K4.out.trans' k5)
  have hll := hid (leafD_length e)
  have g6 := hid (setRow_heap w5 (w.heap.size + 1) _ ((leafD e).map B).toArray _ _ g5.out)
  have K6 := hid (K5.out.setRow (g := w.heap.size + 1) (.inr (Nat.le_succ _)) ((leafD e).map B).toArray)
  have hZ := hid Z32_size
  clear k5 r4 K4 g4 K5
  go_wp2_with (with_reducible refine sd rfl _ _ rfl (w.heap.size + 1) rfl (leafD e) rfl _ g5.out hZ.out hll.out ?_)
  refine bodyPost_ret (v := Dg (leafD e)) ?_ rfl ?_
  · exact ret_dg rfl (w.heap.size + 1) rfl (leafD e) g6.out hll.out
  · exact ⟨rfl, K6.out⟩
set_option maxRecDepth 100000 in
set_option maxHeartbeats 2000000 in
theorem refleaf_any (e : Ent) (vb : Value) (w : World) (h : OkE w e vb) (hT : TabR w) : Calls Tryd.prog 62 #[Ev e vb] w fun ed w' => ed = .returned (Dg (leafD e)) ∧ Kept no w w' := by
  have HH := hid (fun W (k : Kept no w W) => refhash_any e vb W (h.kept k) (hT.kept k))
  have hpos := hid (hashE_length e)
  have hlf : Hd (sum (0 :: hashE e) = leafD e) := ⟨rfl⟩
  generalize hashE e = D at HH hpos hlf
  obtain ⟨L, hL⟩ : ∃ L, entC e vb = L := ⟨_, rfl⟩
  unfold Ev at HH ⊢
  rw [hL]
  replace hL := hid hL
  replace hT := hid hT
  replace h := hid h
  go_enter Tryd.func62, Tryd.ntmps62
  go_upto_region 1 with fail
  obtain ⟨w1, hw1, g0, g1, k1⟩ := ent_blocks w L
  unfold Z32 at hw1
  rw [← hw1]
  clear hw1
  rw [← hL.out] at g0
  have hl1 := hid (lt_of_heap g1)
  replace k1 := hid k1
  replace g0 := hid g0
  replace g1 := hid g1
  go_wp2_with (with_reducible refine le rfl _ rfl w.heap.size rfl e vb g0.out h.out ?_)
  refine (HH.out w1 k1.out).mono ?_
  rintro ed w2 ⟨rfl, k2⟩
  have hN := hid (heap_alloc_new w2 (.cells Z32 26))
  have hZ := hid Z32_size
  obtain ⟨w3, hw3, g3, k3⟩ := dg_block w2 D
  have K3 := hid ((k1.out.trans' k2).trans' k3)
  have h23 := hid (k3.size)
  have g1' := hid ((k2.trans' k3).blk g1.out)
  have hr := hid (dg_rd g3 hpos.out)
  unfold Z32 at hN hw3 hZ
  replace hw3 := hid hw3
  replace g3 := hid g3
  generalize hgs : w2.heap.size = gs at hN hw3 g3 h23 hr
  replace hgs := hid hgs
  go_upto_region 2 with (with_reducible refine sd rfl _ _ rfl w2.heap.size rfl D rfl _ (by rw [hgs.out]; exact hN.out) hZ.out hpos.out ?_; rw [hgs.out, ← hw3.out])
  clear hN hw3 hZ k1 k2 k3 g0 g1 hgs
  have hown := hid (one_own w3 0)
  have hy := hid (hr.out.alloc (.cells #[B 0] 5))
  have ha := hid ((Kept.refl no w3).alloc (.cells #[B 0] 5))
  unfold B at hown hy ha
  have hz : ((0 : UInt8).toNat : Int) = 0 := rfl
  rw [hz] at hown hy ha
  clear hz
  go_wp2_with (at_builtin; refine wpList_append _ rfl _ _ 43 rfl 5 1 1 TBytes _ _ _ rfl hown.out _ _ _ rfl hy.out (B_one _) ?c1 ?c2 ?_)
  case c1 => decide
  case c2 => decide
  intro v4 w4 o4 k4 n4 _
  have K34 : Hd (Kept no w3 w4) := ⟨ha.out.trans k4 fun k hk e => by simp only [ob, Value.ownBlock, Option.some.injEq] at e; omega⟩
  have r4 : Hd (Rd w4 1 v4 (0 :: D).length ((0 :: D).map B)) := ⟨by have := Rd.of_own o4; rw [List.length_cons, hpos.out]; exact this⟩
  have K4 := hid (K3.out.trans' K34.out)
  have g4 := hid (K34.out.blk g1'.out)
  clear hown hy ha o4 k4 n4 K34 hr g3 g1'
  go_wp2_with fail
  refine (refsum_any v4 (0 :: D) w4 (by rw [List.length_cons, hpos.out]; decide) r4.out (hT.out.kept K4.out)).mono ?_
  rintro ed w5 ⟨rfl, k5⟩
  rw [hlf.out]
  have g5 := hid (k5.blk g4.out)
  have K5 := hid (K4.out.trans' k5)
  have hll := hid (leafD_length e)
  have g6 := hid (setRow_heap w5 (w.heap.size + 1) _ ((leafD e).map B).toArray _ _ g5.out)
  have K6 := hid (K5.out.setRow (g := w.heap.size + 1) (.inr (Nat.le_succ _)) ((leafD e).map B).toArray)
  have hZ := hid Z32_size
  clear k5 r4 K4 g4 K5
  go_wp2_with (with_reducible refine sd rfl _ _ rfl (w.heap.size + 1) rfl (leafD e) rfl _ g5.out hZ.out hll.out ?_)
  refine bodyPost_ret (v := Dg (leafD e)) ?_ rfl ?_
  · exact ret_dg rfl (w.heap.size + 1) rfl (leafD e) g6.out hll.out
  · exact ⟨rfl, K6.out⟩
theorem dg3_blocks (w : World) (L M : List Value) : ∃ w1, w1 = ((w.alloc (.cells L.toArray 26)).alloc (.cells M.toArray 26)).alloc (.cells Z32 26) ∧ w1.heap[w.heap.size]? = some (.cells L.toArray 26 (0, 0)) ∧ w1.heap[w.heap.size + 1]? = some (.cells M.toArray 26 (0, 0)) ∧ w1.heap[w.heap.size + 1 + 1]? = some (.cells Z32 26 (0, 0)) ∧ Kept no w w1 := by
  have e1 := World.size_alloc (w := w) (o := .cells L.toArray 26)
  have e2 := World.size_alloc (w := w.alloc (.cells L.toArray 26)) (o := .cells M.toArray 26)
  refine ⟨_, rfl, ?_, ?_, ?_, (((Kept.refl no w).alloc _).alloc _).alloc _⟩
  · rw [heap_alloc_old _ _ (by omega), heap_alloc_old _ _ (by omega), heap_alloc_new]
  · rw [heap_alloc_old _ _ (by omega), ← e1, heap_alloc_new]
  · rw [← e1, ← e2, heap_alloc_new]
theorem fill1 (x : UInt8) : Instr.fill (fun i => some (i * 1, 1)) ((Array.range (1 * 1)).map ((Value.int .u8 0).cells[· % (Value.int .u8 0).cells.size]!)) [(0, .int .u8 x.toNat)] = some [B x].toArray :=
  fill_rows 1 (by decide) (.int .u8 0) [.int .u8 x.toNat] (fun v hv => by (obtain rfl : v = .int .u8 x.toNat := (by simpa using hv)); rfl)

set_option maxRecDepth 100000 in
set_option maxHeartbeats 2000000 in
theorem node_any (X Y : List UInt8) (w : World) (hA : X.length = 32) (hB : Y.length = 32) (hT : TabR w) : Calls Tryd.prog 63 #[Dg X, Dg Y] w fun ed w' => ed = .returned (Dg (innerD X Y)) ∧ Kept no w w' := by
  have hA := hid hA
  have hB := hid hB
  have hin : Hd (sum (1 :: (X ++ Y)) = innerD X Y) := ⟨rfl⟩
  have hll := hid (innerD_length X Y)
  obtain ⟨L, hL⟩ : ∃ L, X.map B = L := ⟨_, rfl⟩
  obtain ⟨M, hM⟩ : ∃ L, Y.map B = L := ⟨_, rfl⟩
  unfold Dg
  rw [hL, hM]
  replace hL := hid hL
  replace hM := hid hM
  replace hT := hid hT
  go_enter Tryd.func63, Tryd.ntmps63
  go_upto_region 1 with fail
  obtain ⟨w1, hw1, g0, g1, g2, k1⟩ := dg3_blocks w L M
  unfold Z32 at hw1
  rw [← hw1]
  clear hw1
  rw [← hL.out] at g0
  rw [← hM.out] at g1
  have hl1 : Hd (w.heap.size + 1 + 1 < w1.heap.size) := ⟨lt_of_heap g2⟩
  replace k1 := hid k1
  replace g0 := hid g0
  replace g1 := hid g1
  replace g2 := hid g2
  have rdX : ∀ {W : World}, Kept (frm (w.heap.size + 1 + 1)) w1.drew W → Rd W 1 (.slice (some ⟨w.heap.size, 0, none⟩) 32 32) 32 (X.map B) := fun k => dg_rd ((k.block _ (by have := hl1.out; show w.heap.size < w1.heap.size; omega) (by unfold frm; omega)).trans g0.out) hA.out
  have rdY : ∀ {W : World}, Kept (frm (w.heap.size + 1 + 1)) w1.drew W → Rd W 1 (.slice (some ⟨w.heap.size + 1, 0, none⟩) 32 32) 32 (Y.map B) := fun k => dg_rd ((k.block _ (by have := hl1.out; show w.heap.size + 1 < w1.heap.size; omega) (by unfold frm; omega)).trans g1.out) hB.out
  replace rdX := hid @rdX
  replace rdY := hid @rdY

  refine region_flow (S := (frm (w.heap.size + 1 + 1))) (Sl := (fun j k => if j = 6 then k = w.heap.size + 1 + 1 else w1.heap.size ≤ k)) [OwN w1.heap.size 5 1 1 [B 1], Is (.slice (some ⟨w.heap.size, 0, none⟩) 32 32), OwN w1.heap.size 5 1 33 ((1 :: X).map B), Is (.slice (some ⟨w.heap.size + 1, 0, none⟩) 32 32), OwN w1.heap.size 5 1 65 ((1 :: (X ++ Y)).map B), Is (Dg (sum (1 :: (X ++ Y)))), Blk (w.heap.size + 1 + 1) ((sum (1 :: (X ++ Y))).map B).toArray 26] [2, 4, 6] (fun j k h => by have := hl1.out; unfold frm; split at h <;> omega) _ (by kernel_rfl) (by kernel_rfl) (by kernel_rfl) (by kernel_rfl) (fun x => by simp only [puts, Act.put, List.map_cons, List.map_nil, Nat.zero_add, Nat.reduceAdd, List.setIfInBounds_toArray, List.set_cons_zero, List.set_cons_succ]; exact rfl) ?_ ?_
  · skip
    refine Steps.cons (fun x wf Kk hq hdep hold => ?_) ?_
    · try dsimp only
      clear hq hdep hold
      rw [if_pos (by rfl)]
      refine OpY.build 43 5 1 _ rfl 1 (.int .u8 0) Tryd.underlying43 infU8 (by decide) (by decide) [B 1] _ rfl (fill1 1) (by simp) (by decide) (fun w' hg k ho => ⟨k, ho, fun j e => ?_⟩)
      have : wf.heap.size = j := by simpa [Value.ownBlock] using e
      have := Kk.size; subst j; exact this
    refine Steps.cons (fun x wf Kk hq hdep hold => ?_) ?_
    · try dsimp only
      clear hq hdep hold
      rw [if_pos (by rfl)]
      refine OpY.val (v := (.slice (some ⟨w.heap.size, 0, none⟩) 32 32)) ?_ ⟨Kept.refl _ _, rfl⟩
      first | rfl | go_simp
    refine Steps.cons (fun x wf Kk hq hdep hold => ?_) ?_
    · try dsimp only
      have p0 : Pr.p (Sl := (fun j k => if j = 6 then k = w.heap.size + 1 + 1 else w1.heap.size ≤ k)) (OwN w1.heap.size 5 1 1 [B 1]) (x 0) wf := hdep 0 (by kernel_rfl)
      have h1 : x 1 = (.slice (some ⟨w.heap.size, 0, none⟩) 32 32) := hdep 1 (by kernel_rfl)
      clear hq hdep hold
      simp only [h1]
      clear h1
      rw [if_pos (by rfl)]
      refine OpY.append (.tmp 5) (.tmp 6) 43 _ rfl rfl 5 1 1 TBytes (x 0) 1 [B 1] rfl p0.1 (.slice (some ⟨w.heap.size, 0, none⟩) 32 32) 32 (X.map B) rfl (rdX.out Kk) (B_one _) (by decide) (by decide) ?_
      rintro v' w' h2 h3 h4 _
      exact ⟨h3.mono (S' := fun k => w1.heap.size ≤ k) fun k _ hk => (p0.2 k hk), h2, h4.fr p0.2 Kk.size⟩
    refine Steps.cons (fun x wf Kk hq hdep hold => ?_) ?_
    · try dsimp only
      clear hq hdep hold
      rw [if_pos (by rfl)]
      refine OpY.val (v := (.slice (some ⟨w.heap.size + 1, 0, none⟩) 32 32)) ?_ ⟨Kept.refl _ _, rfl⟩
      first | rfl | go_simp
    refine Steps.cons (fun x wf Kk hq hdep hold => ?_) ?_
    · try dsimp only
      have p2 : Pr.p (Sl := (fun j k => if j = 6 then k = w.heap.size + 1 + 1 else w1.heap.size ≤ k)) (OwN w1.heap.size 5 1 33 ((1 :: X).map B)) (x 2) wf := hdep 2 (by kernel_rfl)
      have h3 : x 3 = (.slice (some ⟨w.heap.size + 1, 0, none⟩) 32 32) := hdep 3 (by kernel_rfl)
      clear hq hdep hold
      simp only [h3]
      clear h3
      rw [if_pos (by rfl)]
      refine OpY.append (.tmp 7) (.tmp 8) 43 _ rfl rfl 5 1 1 TBytes (x 2) 33 ((1 :: X).map B) rfl p2.1 (.slice (some ⟨w.heap.size + 1, 0, none⟩) 32 32) 32 (Y.map B) rfl (rdY.out Kk) (B_one _) (by decide) (by decide) ?_
      rintro v' w' h2 h3 h4 _
      exact ⟨h3.mono (S' := fun k => w1.heap.size ≤ k) fun k _ hk => (p2.2 k hk), by simpa using h2, h4.fr p2.2 Kk.size⟩
    refine Steps.cons (fun x wf Kk hq hdep hold => ?_) ?_
    · try dsimp only
      have p4 : Pr.p (Sl := (fun j k => if j = 6 then k = w.heap.size + 1 + 1 else w1.heap.size ≤ k)) (OwN w1.heap.size 5 1 65 ((1 :: (X ++ Y)).map B)) (x 4) wf := hdep 4 (by kernel_rfl)
      clear hq hdep hold
      rw [if_pos (by rfl)]
      refine OpY.call (f := 61) (args := #[x 4]) (by go_simp) ?_
      refine (refsum_any _ (1 :: (X ++ Y)) wf (by simp [hA.out, hB.out]) (by have := Rd.of_own p4.1; simp only [List.length_cons, List.length_append, hA.out, hB.out]; exact this) (hT.out.kept (k1.out.frmB Kk.undrew (by omega)))).mono ?_
      rintro e w2 ⟨rfl, k2⟩
      exact ⟨_, rfl, k2, rfl⟩
    refine Steps.cons (fun x wf Kk hq hdep hold => ?_) ?_
    · try dsimp only
      have h5 : x 5 = (Dg (sum (1 :: (X ++ Y)))) := hdep 5 (by kernel_rfl)
      have Kq := hq (frm w1.heap.size) (fun j hj k hk => by (have e : ∀ l : List Nat, l = [2, 4] → j ∈ l → j ∈ ([2, 4] : List Nat) := fun l h h2 => h ▸ h2); have hj := e _ (by kernel_rfl) hj; (have hk' : (if j = 6 then k = w.heap.size + 1 + 1 else w1.heap.size ≤ k) := hk); rcases (show j = 2 ∨ j = 4 by simpa using hj) with rfl | rfl <;> exact hk')
      clear hq hdep hold
      simp only [h5]
      clear h5
      rw [if_pos (by rfl)]
      have gz := (Kq.undrew.block (w.heap.size + 1 + 1) hl1.out (by show ¬ w1.heap.size ≤ _; have := hl1.out; omega)).trans g2.out
      refine ysd (.tmp 4) (.tmp 10) rfl (w.heap.size + 1 + 1) rfl _ rfl _ gz Z32_size (sum_length _) ⟨?_, setRow_heap _ _ _ _ _ _ gz⟩
      exact (Kept.refl _ _).setRow (S := fun k => k = w.heap.size + 1 + 1) (.inl rfl) _
    exact Steps.nil _
  · intro x wf Kk hv
    try dsimp only
    have h1 : x 1 = (.slice (some ⟨w.heap.size, 0, none⟩) 32 32) := hv 1 (by kernel_rfl)
    have h3 : x 3 = (.slice (some ⟨w.heap.size + 1, 0, none⟩) 32 32) := hv 3 (by kernel_rfl)
    have h5 : x 5 = (Dg (sum (1 :: (X ++ Y)))) := hv 5 (by kernel_rfl)
    have p6 : Pr.p (Sl := (fun j k => if j = 6 then k = w.heap.size + 1 + 1 else w1.heap.size ≤ k)) (Blk (w.heap.size + 1 + 1) ((sum (1 :: (X ++ Y))).map B).toArray 26) (x 6) wf := hv 6 (by kernel_rfl)
    clear hv
    simp only [h1, h3, h5]
    clear h1 h3 h5
    rw [hin.out] at p6
    have kz := hid (k1.out.frmB Kk.undrew (by omega))
    have hb := hid p6
    clear p6 Kk
    go_wp2_with fail
    refine bodyPost_ret (v := Dg (innerD X Y)) ?_ rfl ?_
    · exact ret_dg rfl (w.heap.size + 1 + 1) rfl (innerD X Y) hb.out hll.out
    · exact ⟨rfl, kz.out⟩
set_option maxRecDepth 100000 in
set_option maxHeartbeats 1000000 in
theorem grow_any (n : Nat) (w : World) (h0 : 0 < n) (hn : n ≤ 1000000) : Calls Tryd.prog 88 #[.slice none 0 0, .int .i64 (n : Int)] w fun e w' => ∃ v', e = .returned v' ∧ w'.ownsRow 0 5 1 v' 0 [] ∧ Kept no w w' ∧ New w v' := by
  obtain ⟨i0, hi0, hz0, hs0, hb0⟩ : ∃ i0, Tryd.prog.info? 5 = some i0 ∧ i0.zero = some (.int .u8 0) ∧ i0.size = 1 ∧ i0.bytes = 1 := info_parts (by kernel_rfl)
  have hrz : ∀ ty, (Builtin.append_ #[43, 3] ty #[.slice none 0 0, .int .i64 (n : Int)]).run Tryd.prog w =
      .ok (.slice (some ⟨w.heap.size, 0, none⟩) n (grownCap w n 0 5)) (w.drew.alloc (.cells (#[] ++ Builtin.zeroCells (Value.int .u8 0).cells n ++ Builtin.zeroCells (Value.int .u8 0).cells (grownCap w n 0 5 - n)) 5)) := fun ty => by
    have h := Lib.run_append_grow_zeros w 43 3 ty 5 i0 (.int .u8 0) .i64 .i64 Tryd.underlying43 Tryd.underlying3 hi0 hz0 none 0 0 [] (run_firstCells_none w.drew i0.size 0 0 0) n h0 (by omega) (by omega) (by omega) (by rw [hb0]; omega)
      (growslice_fits (by omega) (by rw [hb0]; omega))
    simpa using h
  have hge : n ≤ grownCap w n 0 5 := grownCap_ge w n 0 5
  have hle := grownCap_le_maxLen w n 0 5 (by unfold maxLen; omega)
  unfold maxLen at hle
  generalize hG : grownCap w n 0 5 = G at hrz hge hle
  clear hG hi0 hz0 hs0 hb0
  have h1 : (0 : Int) < (n : Int) := by omega
  have h2 : ¬ (n : Int) < 0 := by omega
  have hown : Hd ((w.drew.alloc (.cells (#[] ++ Builtin.zeroCells (Value.int .u8 0).cells n ++ Builtin.zeroCells (Value.int .u8 0).cells (G - n)) 5)).ownsRow 0 5 1 (.slice (some ⟨w.heap.size, 0, none⟩) 0 G) 0 []) :=
    ⟨rfl, .inr ⟨_, G, _, rfl, Nat.zero_le _, heap_alloc_new w.drew _, Nat.zero_le _, by unfold maxLen; omega, by simp [size_zeroCells, Value.cells]; omega, by simp⟩⟩
  have hk : Hd (Kept no w (w.drew.alloc (.cells (#[] ++ Builtin.zeroCells (Value.int .u8 0).cells n ++ Builtin.zeroCells (Value.int .u8 0).cells (G - n)) 5))) := ⟨(Kept.refl no w).drew.alloc _⟩
  generalize (Obj.cells (#[] ++ Builtin.zeroCells (Value.int .u8 0).cells n ++ Builtin.zeroCells (Value.int .u8 0).cells (G - n)) 5) = O at hrz hown hk
  replace hrz := hid hrz
  go_enter Tryd.func88, Tryd.ntmps88
  go_wp2_with (at_builtin; refine Lib.wpList_append_run _ rfl _ _ _ _ rfl _ _ rfl rfl _ _ (hrz.out _) ?_)
  go_ret
  exact ⟨_, rfl, hown.out, hk.out, .inr ⟨_, rfl, Nat.le_refl _⟩⟩
theorem flat_snoc (ps : List (List UInt8)) (k : Nat) (hk : k < ps.length) : (ps.take (k + 1)).flatten = (ps.take k).flatten ++ ps.getD k [] := by
  rw [List.take_succ_eq_append_getElem hk, List.flatten_append]; simp [hk]
theorem flat_le (ps : List (List UInt8)) (k : Nat) : (ps.take k).flatten.length ≤ ps.flatten.length := by
  have : ps.flatten = (ps.take k).flatten ++ (ps.drop k).flatten := by rw [← List.flatten_append, List.take_append_drop]
  rw [this, List.length_append]; omega
def flk (ps : List (List UInt8)) (k : Nat) : Nat := (ps.take k).flatten.length
theorem flk_succ (ps : List (List UInt8)) (k : Nat) (hk : k < ps.length) : flk ps (k + 1) = flk ps k + (ps.getD k []).length := by unfold flk; rw [flat_snoc ps k hk, List.length_append]
theorem flk_le (ps : List (List UInt8)) (k : Nat) : flk ps k ≤ ps.flatten.length := flat_le ps k
theorem flk_all (ps : List (List UInt8)) : flk ps ps.length = ps.flatten.length := by unfold flk; rw [List.take_length]
set_option maxRecDepth 100000 in
set_option maxHeartbeats 1000000 in
theorem concat_any (v : Value) (ps : List (List UInt8)) (w : World) (hn : ps.length ≤ 1000) (h0 : 0 < ps.flatten.length) (hl : ps.flatten.length ≤ 1000000) (hr : RdP w v ps) :
    Calls Tryd.prog 80 #[v] w fun e w' => ∃ v', e = .returned v' ∧ w'.ownsRow 0 5 1 v' ps.flatten.length (ps.flatten.map B) ∧ Kept no w w' ∧ New w v' := by
  obtain ⟨vs, h1, h2⟩ := hr
  obtain ⟨hvl, ao, cap, rfl, hcap, hcm, hao⟩ := id h1
  have h1 := hid h1
  have h2 := hid h2
  clear hao hvl hcm
  have HG := hid (fun w => grow_any (flk ps ps.length) w (by rw [flk_all]; exact h0) (by rw [flk_all]; exact hl))
  have at1 : Hd (∀ {wr : World}, Kept no w wr → ∀ k, k < ps.length → ∃ b o ak ck, ao = some ⟨b, o, none⟩ ∧ wr.cell? ⟨b, o + k, none⟩ = some (.slice ak (ps.getD k []).length ck) ∧ Rd wr 1 (.slice ak (ps.getD k []).length ck) (ps.getD k []).length ((ps.getD k []).map B)) := ⟨fun {wr} hK k hlt => by
    have hp := h2.out k hlt
    obtain ⟨hvl, _, _, e, _, _, h | ⟨b, o, rfl, hc⟩⟩ := h1.out
    · cases e; omega
    · cases e
      have hcell := hK.cell (hc k _ (by rw [List.getElem?_eq_getElem (by omega)])) id
      have hg : vs.getD k undef = vs[k]'(by omega) := by rw [List.getD_eq_getElem?_getD, List.getElem?_eq_getElem (by omega)]; rfl
      rw [hg] at hp
      obtain ⟨_, ak, ck, hv, _⟩ := id hp
      rw [hv] at hcell hp
      exact ⟨b, o, ak, ck, rfl, hcell, hp.keptNo hK⟩⟩
  go_enter Tryd.func80, Tryd.ntmps80
  go_wp2_with fail
  go_loopw [3, 11] (fun s i wr => ∃ k : Nat, k ≤ ps.length ∧ i = .int .i64 (k : Int) ∧ s = .int .i64 ((flk ps k : Nat) : Int) ∧ w = wr) (fun _ i _ => ps.length - (intOf i).toNat)
  case atStart => exact ⟨0, by omega, rfl, rfl, rfl⟩
  case round =>
    obtain ⟨k, hk, rfl, rfl, rfl⟩ := hrel
    by_cases hlt : k < ps.length
    · obtain ⟨b, o, ak, ck, rfl, hc, hrd⟩ := at1.out (Kept.refl no _) k hlt
      have hle := flk_le ps (k + 1)
      rw [flk_succ ps k hlt] at hle
      have hk1 : (k : Int) < (ps.length : Int) := by omega
      have hnew : Hd (((flk ps (k + 1) : Nat) : Int) = ((flk ps k : Nat) : Int) + (((ps.getD k []).length : Nat) : Int)) := ⟨by rw [flk_succ ps k hlt]; omega⟩
      clear hrd
      generalize flk ps k = m1 at hle hnew
      generalize (ps.getD k []).length = m3 at hle hnew hc
      have hneg : ¬ (m1 : Int) + (m3 : Int) < 0 := by omega
      go_wp2_with fail
      go_roundw
      case rel => first | exact ⟨k + 1, by omega, by go_num, by rw [hnew.out], by trivial⟩ | ((repeat apply Exists.intro); exact ⟨⟨k + 1, by omega, by go_num, by rw [hnew.out], by trivial⟩, rfl⟩)
      case measure => simp [intOf]; omega
    · obtain rfl : k = ps.length := by omega
      clear hlt hk
      go_wp2_with fail
      refine (HG.out _).mono ?_
      rintro e w2 ⟨v2, rfl, o2, k2, n2⟩
      replace o2 := hid o2
      replace k2 := hid k2
      replace n2 := hid n2
      go_wp2_with fail
      go_loopw [6, 27] (fun out i wr => ∃ k : Nat, k ≤ ps.length ∧ i = .int .i64 (k : Int) ∧ Hd (wr.ownsRow 0 5 1 out (ps.take k).flatten.length ((ps.take k).flatten.map B)) ∧ Hd (Kept no w wr) ∧ Hd (New w out)) (fun _ i _ => ps.length - (intOf i).toNat)
      case atStart => exact ⟨0, by omega, rfl, ⟨by simpa using o2.out⟩, k2, n2⟩
      case round =>
        clear o2 k2 n2
        obtain ⟨k, hk, rfl, ho, hK, hN⟩ := hrel
        by_cases hlt : k < ps.length
        · obtain ⟨b, o, ak, ck, rfl, hc, hrd⟩ := at1.out hK.out k hlt
          have hs := hid (flat_snoc ps k hlt)
          have hle := flat_le ps (k + 1)
          rw [hs.out, List.length_append] at hle
          have hk1 : (k : Int) < (ps.length : Int) := by omega
          generalize ps.getD k [] = p at hc hrd hs hle
          replace hrd := hid hrd
          go_wp2_with (at_builtin; refine wpList_append _ rfl _ _ 43 rfl 5 1 1 TBytes _ _ _ rfl ho.out _ _ _ rfl hrd.out (B_one _) ?c1 ?c2 ?_)
          case c1 => unfold maxLen; omega
          case c2 => omega
          intro v6 w6 ho6 hk6 hn6 _
          have hN6 := hid (hN.out.step hn6 hK.out.size)
          have hK6 := hid (hN.out.kept hK.out hk6)
          have ho6' : Hd (w6.ownsRow 0 5 1 v6 (ps.take (k + 1)).flatten.length ((ps.take (k + 1)).flatten.map B)) := ⟨by
            rw [hs.out]; simpa using ho6⟩
          clear hk6 hn6 ho6 hK hN ho hrd hc hs hle
          go_wp2_with fail
          go_roundw
          case rel => first | exact ⟨k + 1, by omega, by go_num, ho6', hK6, hN6⟩ | ((repeat apply Exists.intro); exact ⟨⟨k + 1, by omega, by go_num, ho6', hK6, hN6⟩, rfl⟩)
          case measure => simp [intOf]; omega
        · obtain rfl : k = ps.length := by omega
          rw [List.take_length] at ho
          clear hlt hk
          go_wp2_with fail
          go_ret
          exact ⟨_, rfl, ho.out, hK.out, hN.out⟩
theorem fill3 {w : World} {v0 : Value} {g h : Nat} {n : Nat} {xs : List Value} (h0 : Rd w 1 v0 n xs) : Instr.fill (fun i => some (i * 1, 1)) ((Array.range (3 * 1)).map ((Value.slice none 0 0).cells[· % (Value.slice none 0 0).cells.size]!)) [(0, v0), (1, .slice (some ⟨g, 0, none⟩) 32 32), (2, .slice (some ⟨h, 0, none⟩) 32 32)] = some [v0, .slice (some ⟨g, 0, none⟩) 32 32, .slice (some ⟨h, 0, none⟩) 32 32].toArray := by
  obtain ⟨_, a0, c0, rfl, _⟩ := h0
  exact fill_rows 1 (by decide) (.slice none 0 0) [.slice a0 n c0, .slice (some ⟨g, 0, none⟩) 32 32, .slice (some ⟨h, 0, none⟩) 32 32] (by intro v hv; simp at hv; rcases hv with rfl | rfl | rfl <;> rfl)
set_option maxRecDepth 100000 in
set_option maxHeartbeats 2000000 in
theorem inner_any (X Y : List UInt8) (w : World) (hA : X.length = 32) (hB : Y.length = 32) (hT : Tab w) : Calls Tryd.prog 66 #[Dg X, Dg Y] w fun ed w' => ed = .returned (Dg (innerD X Y)) ∧ Kept no w w' := by
  have hA := hid hA
  have hB := hid hB
  have hin : Hd (sum (1 :: (X ++ Y)) = innerD X Y) := ⟨rfl⟩
  have hll := hid (innerD_length X Y)
  obtain ⟨L, hL⟩ : ∃ L, X.map B = L := ⟨_, rfl⟩
  obtain ⟨M, hM⟩ : ∃ L, Y.map B = L := ⟨_, rfl⟩
  unfold Dg
  rw [hL, hM]
  replace hL := hid hL
  replace hM := hid hM
  replace hT := hid hT
  go_enter Tryd.func66, Tryd.ntmps66
  go_upto_region 1 with fail
  obtain ⟨w1, hw1, g0, g1, g2, k1⟩ := dg3_blocks w L M
  unfold Z32 at hw1
  rw [← hw1]
  clear hw1
  rw [← hL.out] at g0
  rw [← hM.out] at g1
  have hl1 : Hd (w.heap.size + 1 + 1 < w1.heap.size) := ⟨lt_of_heap g2⟩
  replace k1 := hid k1
  replace g0 := hid g0
  replace g1 := hid g1
  replace g2 := hid g2
  have rdX : ∀ {W : World}, Kept (frm (w.heap.size + 1 + 1)) w1.drew W → Rd W 1 (.slice (some ⟨w.heap.size, 0, none⟩) 32 32) 32 (X.map B) := fun k => dg_rd ((k.block _ (by have := hl1.out; show w.heap.size < w1.heap.size; omega) (by unfold frm; omega)).trans g0.out) hA.out
  have rdY : ∀ {W : World}, Kept (frm (w.heap.size + 1 + 1)) w1.drew W → Rd W 1 (.slice (some ⟨w.heap.size + 1, 0, none⟩) 32 32) 32 (Y.map B) := fun k => dg_rd ((k.block _ (by have := hl1.out; show w.heap.size + 1 < w1.heap.size; omega) (by unfold frm; omega)).trans g1.out) hB.out
  replace rdX := hid @rdX
  replace rdY := hid @rdY

  refine region_flow (S := (frm (w.heap.size + 1 + 1))) (Sl := (fun _ => (frm (w.heap.size + 1 + 1)))) [RdIs 1 1 [B 1], Is (.slice (some ⟨w.heap.size, 0, none⟩) 32 32), Is (.slice (some ⟨w.heap.size + 1, 0, none⟩) 32 32), RdPIs [[1], X, Y], RdIs 1 65 ((1 :: (X ++ Y)).map B), Is (Dg (sum (1 :: (X ++ Y)))), Blk (w.heap.size + 1 + 1) ((sum (1 :: (X ++ Y))).map B).toArray 26] [6] (fun _ _ h => h) _ (by kernel_rfl) (by kernel_rfl) (by kernel_rfl) (by kernel_rfl) (fun x => by simp only [puts, Act.put, List.map_cons, List.map_nil, Nat.zero_add, Nat.reduceAdd, List.setIfInBounds_toArray, List.set_cons_zero, List.set_cons_succ]; exact rfl) ?_ ?_
  · skip
    refine Steps.cons (fun x wf Kk hq hdep hold => ?_) ?_
    · try dsimp only
      clear hq hdep hold
      rw [if_pos (by rfl)]
      refine OpY.build 43 5 1 _ rfl 1 (.int .u8 0) Tryd.underlying43 infU8 (by decide) (by decide) [B 1] _ rfl (fill1 1) (by simp) (by decide) (fun w' hg k ho => ⟨k, Rd.of_own ho⟩)
    refine Steps.cons (fun x wf Kk hq hdep hold => ?_) ?_
    · try dsimp only
      clear hq hdep hold
      rw [if_pos (by rfl)]
      refine OpY.val (v := (.slice (some ⟨w.heap.size, 0, none⟩) 32 32)) ?_ ⟨Kept.refl _ _, rfl⟩
      first | rfl | go_simp
    refine Steps.cons (fun x wf Kk hq hdep hold => ?_) ?_
    · try dsimp only
      clear hq hdep hold
      rw [if_pos (by rfl)]
      refine OpY.val (v := (.slice (some ⟨w.heap.size + 1, 0, none⟩) 32 32)) ?_ ⟨Kept.refl _ _, rfl⟩
      first | rfl | go_simp
    refine Steps.cons (fun x wf Kk hq hdep hold => ?_) ?_
    · try dsimp only
      have p0 : Pr.p (Sl := (fun _ => (frm (w.heap.size + 1 + 1)))) (RdIs 1 1 [B 1]) (x 0) wf := hdep 0 (by kernel_rfl)
      have h1 : x 1 = (.slice (some ⟨w.heap.size, 0, none⟩) 32 32) := hdep 1 (by kernel_rfl)
      have h2 : x 2 = (.slice (some ⟨w.heap.size + 1, 0, none⟩) 32 32) := hdep 2 (by kernel_rfl)
      clear hq hdep hold
      simp only [h1, h2]
      clear h1 h2
      rw [if_pos (by rfl)]
      refine OpY.build 77 43 3 _ rfl 1 (.slice none 0 0) Tryd.underlying77 infBs (by decide) (by decide) [x 0, .slice (some ⟨w.heap.size, 0, none⟩) 32 32, .slice (some ⟨w.heap.size + 1, 0, none⟩) 32 32] _ rfl (fill3 p0) rfl (by decide) (fun w' hg k ho => ⟨k, _, Rd.of_own ho, fun j hj => ?_⟩)
      match j, hj with
      | 0, _ => exact p0.keptNo k
      | 1, _ => have := (rdX.out Kk).keptNo k; simpa [hA.out] using this
      | 2, _ => have := (rdY.out Kk).keptNo k; simpa [hB.out] using this
    refine Steps.cons (fun x wf Kk hq hdep hold => ?_) ?_
    · try dsimp only
      have p3 : Pr.p (Sl := (fun _ => (frm (w.heap.size + 1 + 1)))) (RdPIs [[1], X, Y]) (x 3) wf := hdep 3 (by kernel_rfl)
      clear hq hdep hold
      rw [if_pos (by rfl)]
      refine OpY.call (f := 80) (args := #[x 3]) (by go_simp) ?_
      refine (concat_any _ [[1], X, Y] wf (by simp) (by simp) (by simp [hA.out, hB.out]) p3).mono ?_
      rintro e w2 ⟨v2, rfl, o2, k2, _⟩
      exact ⟨_, rfl, k2, by have := Rd.of_own o2; show Rd _ _ _ _ _; simpa [hA.out, hB.out] using this⟩
    refine Steps.cons (fun x wf Kk hq hdep hold => ?_) ?_
    · try dsimp only
      have p4 : Pr.p (Sl := (fun _ => (frm (w.heap.size + 1 + 1)))) (RdIs 1 65 ((1 :: (X ++ Y)).map B)) (x 4) wf := hdep 4 (by kernel_rfl)
      clear hq hdep hold
      rw [if_pos (by rfl)]
      refine OpY.call (f := 64) (args := #[x 4]) (by go_simp) ?_
      refine (digest_any _ (1 :: (X ++ Y)) wf (by simp [hA.out, hB.out]) (by simp only [List.length_cons, List.length_append, hA.out, hB.out]; exact p4) (hT.out.kept (k1.out.frmB Kk.undrew (by omega)))).mono ?_
      rintro e w2 ⟨rfl, k2⟩
      exact ⟨_, rfl, k2, rfl⟩
    refine Steps.cons (fun x wf Kk hq hdep hold => ?_) ?_
    · try dsimp only
      have h5 : x 5 = (Dg (sum (1 :: (X ++ Y)))) := hdep 5 (by kernel_rfl)
      have Kq := hq no (fun j hj => by cases (show j ∈ ([] : List Nat) from by (have e : ∀ l : List Nat, l = [] → j ∈ l → j ∈ ([] : List Nat) := fun l h h2 => h ▸ h2); exact e _ (by kernel_rfl) hj))
      clear hq hdep hold
      simp only [h5]
      clear h5
      rw [if_pos (by rfl)]
      have gz := Kq.undrew.blk g2.out
      refine ysd (.tmp 4) (.tmp 10) rfl (w.heap.size + 1 + 1) rfl _ rfl _ gz Z32_size (sum_length _) ⟨?_, setRow_heap _ _ _ _ _ _ gz⟩
      exact (Kept.refl _ _).setRow (.inl (Nat.le_refl _)) _
    exact Steps.nil _
  · intro x wf Kk hv
    try dsimp only
    have h1 : x 1 = (.slice (some ⟨w.heap.size, 0, none⟩) 32 32) := hv 1 (by kernel_rfl)
    have h2 : x 2 = (.slice (some ⟨w.heap.size + 1, 0, none⟩) 32 32) := hv 2 (by kernel_rfl)
    have h5 : x 5 = (Dg (sum (1 :: (X ++ Y)))) := hv 5 (by kernel_rfl)
    have p6 : Pr.p (Sl := (fun _ => (frm (w.heap.size + 1 + 1)))) (Blk (w.heap.size + 1 + 1) ((sum (1 :: (X ++ Y))).map B).toArray 26) (x 6) wf := hv 6 (by kernel_rfl)
    clear hv
    simp only [h1, h2, h5]
    clear h1 h2 h5
    rw [hin.out] at p6
    have kz := hid (k1.out.frmB Kk.undrew (by omega))
    have hb := hid p6
    clear p6 Kk
    go_wp2_with fail
    refine bodyPost_ret (v := Dg (innerD X Y)) ?_ rfl ?_
    · exact ret_dg rfl (w.heap.size + 1 + 1) rfl (innerD X Y) hb.out hll.out
    · exact ⟨rfl, kz.out⟩
end Go.Proofs.YtknbkhmpnanegaaDoor
