/- certificate.Decode (printed by gen_dec3.py). -/
import Derived.Test.YtkdmlakookgolaaDec2Z
namespace Go.Proofs.Ytkdmlakookgolaa
open Go.RowKit Go.Mk Go.Pil Go.Mg
def PBz {Sl : Nat → Nat → Prop} (w0 : World) : Pr Sl := soft (fun v w => ∃ g, v = .pointer (some ⟨g, 0, none⟩) ∧ w0.heap.size ≤ g ∧ w.heap[g]? = some (.cells #[.int .i64 0, .int .i64 0, .slice none 0 0] 25 (0, 0))) fun _ _ _ ⟨g, e, h1, h2⟩ k => ⟨g, e, h1, k.blk h2⟩
def PCz {Sl : Nat → Nat → Prop} (w0 : World) (A M : Int) (d : Nat) : Pr Sl := rel d (fun u _ w => ∃ g, u = .pointer (some ⟨g, 0, none⟩) ∧ w0.heap.size ≤ g ∧ w.heap[g]? = some (.cells #[.int .i64 A, .int .i64 M, .slice none 0 0] 25 (0, 0))) fun _ _ _ _ ⟨g, e, h1, h2⟩ k => ⟨g, e, h1, k.blk h2⟩
set_option maxRecDepth 100000 in
set_option maxHeartbeats 4000000 in
theorem cdecode_any (vx : Value) (xs : List UInt8) (w : World) (hx : Rd8 w vx xs) (hxl : xs.length ≤ 100000000) :
    Calls Try.prog 31 #[vx] w fun e w' => DecR xs e w' ∧ Kept no w w' := by
  (obtain ⟨ax, cx, rfl, _, _⟩ := Rd.shape2 (show Rd w 1 vx xs.length (xs.map B8) from hx)); (obtain ⟨w1, hw1, g1, k1⟩ := alloc_named w (.cells #[.slice ax xs.length cx] 45)); (have e1 : w1.heap.size = w.heap.size + 1 := by rw [hw1]; simp); (obtain ⟨w2, hw2, g2, k2⟩ := alloc_named w1 (.cells #[.int .i64 0, .int .i64 0, .slice none 0 0] 25)); (have e2 : w2.heap.size = w1.heap.size + 1 := by rw [hw2]; simp); (obtain ⟨w3, hw3, g3, k3⟩ := alloc_named w2 (.cells #[.int .i64 1, .int .i64 4, .int .i64 2] 3)); (have hI := hid (show InB w3 w.heap.size xs from ⟨ax, cx, (k2.trans' k3).blk g1, Rd.keptNo hx ((k1.trans' k2).trans' k3), hx.below⟩)); (have gR := hid (k3.blk g2)); (have k03 := hid ((k1.trans' k2).trans' k3)); (have ho3 : w3.ownsRow 0 3 1 (.slice (some ⟨w2.heap.size, 0, none⟩) 3 3) 3 [.int .i64 1, .int .i64 4, .int .i64 2] := ⟨rfl, .inr ⟨w2.heap.size, 3, #[.int .i64 1, .int .i64 4, .int .i64 2], rfl, Nat.zero_le _, g3, Nat.le_refl _, by decide, rfl, rfl⟩⟩)
  have HN := numbers_any w.heap.size xs (.slice (some ⟨w2.heap.size, 0, none⟩) 3 3) [1, 4, 2] w3 hI.out (by simp) (by simp) hxl (own_RdZ (zs := [1, 4, 2]) ho3) (fun j hj e => by
    have : w2.heap.size = j := by simpa [ob, Value.ownBlock] using hj
    omega)
  (replace HN := hid HN); (have hSZ : Hd (w.heap.size < w1.heap.size ∧ w1.heap.size < w3.heap.size) := ⟨by have := k3.size; omega⟩); (replace hw1 := hid hw1); (replace hw2 := hid hw2); (replace hw3 := hid hw3); (obtain ⟨GB, hGB⟩ : ∃ g, w.heap.size = g := ⟨_, rfl⟩); (obtain ⟨GR, hGR⟩ : ∃ g, w1.heap.size = g := ⟨_, rfl⟩); (obtain ⟨GK, hGK⟩ : ∃ g, w2.heap.size = g := ⟨_, rfl⟩); (rw [hGB, hGK] at HN); (rw [hGB] at hI hSZ); (rw [hGR] at gR hSZ); (replace hGB := hid hGB); (replace hGR := hid hGR); (replace hGK := hid hGK); (clear g1 g2 g3 k1 k2 k3 e1 e2 ho3); (replace hx := hid hx)
  go_enter Try.func31, Try.ntmps31
  (go_upto_region 1 with fail); (rw [← hw1.out, hGB.out, ← hw2.out]); (try rw [show GB + 1 = GR from by have := hGR.out; rw [hw1.out] at this; simp at this; have := hGB.out; omega]); (go_wp2_with fail); (rw [← hw3.out, hGK.out]); (with_reducible refine HN.out.mono ?_); (rintro e w4 ⟨ys, hL, hres⟩); (have gR4 : Hd (w4.heap[GR]? = some (.cells #[.int .i64 0, .int .i64 0, .slice none 0 0] 25 (0, 0))) := ⟨(hL.2.block GR hSZ.out.2 (by have := hSZ.out.1; intro (e : GR = GB); omega)).trans gR.out⟩); (have k04 : Hd (Kept no w w4) := ⟨k03.out.trans hL.2 fun j hj (e : j = GB) => by have := hGB.out; omega⟩)
  rcases hres with ⟨hno, rfl⟩ | ⟨vs, v4, hyes, rfl, hK⟩
  · (have hv := hid (dec_head hno)); (clear HN hL hno); (obtain ⟨c0, c1, c2⟩ := slotC gR4.out); (have f0 := row_free gR4.out 0); (have f1 := row_free gR4.out 1); (have f2 := row_free gR4.out 2); (have hGw : Hd (w.heap.size ≤ GR) := ⟨by have := hGB.out; have := hSZ.out.1; omega⟩); (have kS := hid (((k04.out.setCell (a := ⟨GR, 0, none⟩) (.inr hGw.out) (.int .i64 0)).setCell (a := ⟨GR, 1, none⟩) (.inr hGw.out) (.int .i64 0)).setCell (a := ⟨GR, 2, none⟩) (.inr hGw.out) (.slice none 0 0)))
    have gS : Hd ((((w4.setCell ⟨GR, 0, none⟩ (.int .i64 0)).setCell ⟨GR, 1, none⟩ (.int .i64 0)).setCell ⟨GR, 2, none⟩ (.slice none 0 0)).heap[GR]? = some (.cells #[.int .i64 0, .int .i64 0, .slice none 0 0] 25 (0, 0))) := ⟨by
      rw [setCell_row (setCell_row (setCell_row gR4.out 0 _) 1 _) 2 _]; rfl⟩
    (go_wp2); (refine bodyPost_ret (v := .tuple #[.agg #[.int .i64 0, .int .i64 0, .slice none 0 0], .bool false]) ?_ rfl ?_)
    · exact results_cert rfl _ _ GR [.int .i64 0, .int .i64 0, .slice none 0 0] rfl _ rfl rfl gS.out
    · exact ⟨.inr ⟨hv.out, rfl⟩, kS.out⟩
  · have hvl := (rdNs_short hyes).2
    obtain ⟨A, M, c, rfl⟩ : ∃ A M c, vs = [A, M, c] := by
      match vs, hvl with
      | [A, M, c], _ => exact ⟨A, M, c, rfl⟩
    (have hz4 := own_RdZ hK.own); (obtain ⟨a4, c4, rfl, _, _⟩ := Rd.shape2 (show Rd w4 1 v4 (Zn [A, M, c]).length ((Zn [A, M, c]).map Z) from hz4)); (have hz4' : RdZ w4 (.slice a4 3 c4) [(A : Int), (M : Int), (c : Int)] := hz4); (obtain ⟨b4, o4, rfl, q2⟩ := hz4'.at 2 (by simp)); (obtain ⟨_, _, e', q1⟩ := hz4'.at 1 (by simp))
    cases e'
    obtain ⟨_, _, e', q0⟩ := hz4'.at 0 (by simp)
    cases e'
    (have q0 : w4.cell? ⟨b4, o4 + 0, none⟩ = some (.int .i64 (A : Int)) := q0); (have q1 : w4.cell? ⟨b4, o4 + 1, none⟩ = some (.int .i64 (M : Int)) := q1); (have q2 : w4.cell? ⟨b4, o4 + 2, none⟩ = some (.int .i64 (c : Int)) := q2); (have hyes' := hid hyes); (replace hL := hid hL); (rw [show (Zn [A, M, c]).length = 3 from rfl]); (clear HN hz4 hz4' hK hvl hyes)
    by_cases hc : 4000 < c
    · (have hci : (4000 : Int) < (c : Int) := by omega); (have hcd : decide ((4000 : Int) < (c : Int)) = true := decide_eq_true hci); (have hv := hid (dec_count hyes'.out hc)); (obtain ⟨c0, c1, c2⟩ := slotC gR4.out); (have f0 := row_free gR4.out 0); (have f1 := row_free gR4.out 1); (have f2 := row_free gR4.out 2); (have hGw : Hd (w.heap.size ≤ GR) := ⟨by have := hGB.out; have := hSZ.out.1; omega⟩); (have kS := hid (((k04.out.setCell (a := ⟨GR, 0, none⟩) (.inr hGw.out) (.int .i64 0)).setCell (a := ⟨GR, 1, none⟩) (.inr hGw.out) (.int .i64 0)).setCell (a := ⟨GR, 2, none⟩) (.inr hGw.out) (.slice none 0 0)))
      have gS : Hd ((((w4.setCell ⟨GR, 0, none⟩ (.int .i64 0)).setCell ⟨GR, 1, none⟩ (.int .i64 0)).setCell ⟨GR, 2, none⟩ (.slice none 0 0)).heap[GR]? = some (.cells #[.int .i64 0, .int .i64 0, .slice none 0 0] 25 (0, 0))) := ⟨by
        rw [setCell_row (setCell_row (setCell_row gR4.out 0 _) 1 _) 2 _]; rfl⟩
      (go_wp2); (refine bodyPost_ret (v := .tuple #[.agg #[.int .i64 0, .int .i64 0, .slice none 0 0], .bool false]) ?_ rfl ?_)
      · exact results_cert rfl _ _ GR [.int .i64 0, .int .i64 0, .slice none 0 0] rfl _ rfl rfl gS.out
      · exact ⟨.inr ⟨hv.out, rfl⟩, kS.out⟩
    (have hci : ¬ (4000 : Int) < (c : Int) := by omega); (have hcd : decide ((4000 : Int) < (c : Int)) = false := decide_eq_false hci); (go_upto_region 4 with fail); (have q0h := hid (show w4.cell? ⟨b4, o4, none⟩ = some (.int .i64 (A : Int)) from q0)); (have q1h := hid q1); (refine region_flow (S := (fun k => w4.drew.heap.size ≤ k)) (Sl := (fun _ => (fun k => w4.drew.heap.size ≤ k))) [Is (.slice (some ⟨b4, o4, none⟩) 3 c4), Is (.pointer (some ⟨b4, o4, none⟩)), Is (.int .i64 (A : Int)), Is (.slice (some ⟨b4, o4, none⟩) 3 c4), Is (.pointer (some ⟨b4, o4 + 1, none⟩)), Is (.int .i64 (M : Int)), Is (.agg #[.int .i64 (A : Int), .int .i64 (M : Int), .slice none 0 0]), PBz w4.drew, PCz w4.drew (A : Int) (M : Int) 7] [8] (fun _ _ h => h) _ (by kernel_rfl) (by kernel_rfl) (by kernel_rfl) (by kernel_rfl) (fun x => by simp only [puts, Act.put, List.map_cons, List.map_nil, Nat.zero_add, Nat.reduceAdd, List.setIfInBounds_toArray, List.set_cons_zero, List.set_cons_succ]; exact rfl) ?_ ?_)
    · (skip); (refine .cons (fun x wf Kk hq hdep hold => ?_) ?_)
      · (try dsimp only); (clear hq hdep hold); (rw [if_pos (by rfl)]); (refine OpY.val ?_ ⟨Kept.refl _ _, rfl⟩); (first | rfl | go_simp)
      refine .cons (fun x wf Kk hq hdep hold => ?_) ?_
      · (try dsimp only); (have h0 : x 0 = _ := hdep 0 (by kernel_rfl)); (clear hq hdep hold); (simp only [h0]); (clear h0); (rw [if_pos (by rfl)]); (refine OpY.val ?_ ⟨Kept.refl _ _, rfl⟩); (first | rfl | go_simp)
      refine .cons (fun x wf Kk hq hdep hold => ?_) ?_
      · (try dsimp only); (have h1 : x 1 = _ := hdep 1 (by kernel_rfl)); (clear hq hdep hold); (simp only [h1]); (clear h1); (have m0 := ((Kept.fresh Kk).undrew).cell q0h.out id); (rw [if_pos (by rfl)]); (refine OpY.val ?_ ⟨Kept.refl _ _, rfl⟩); (first | rfl | go_simp)
      refine .cons (fun x wf Kk hq hdep hold => ?_) ?_
      · (try dsimp only); (clear hq hdep hold); (rw [if_pos (by rfl)]); (refine OpY.val ?_ ⟨Kept.refl _ _, rfl⟩); (first | rfl | go_simp)
      refine .cons (fun x wf Kk hq hdep hold => ?_) ?_
      · (try dsimp only); (have h3 : x 3 = _ := hdep 3 (by kernel_rfl)); (clear hq hdep hold); (simp only [h3]); (clear h3); (rw [if_pos (by rfl)]); (refine OpY.val ?_ ⟨Kept.refl _ _, rfl⟩); (first | rfl | go_simp)
      refine .cons (fun x wf Kk hq hdep hold => ?_) ?_
      · (try dsimp only); (have h4 : x 4 = _ := hdep 4 (by kernel_rfl)); (clear hq hdep hold); (simp only [h4]); (clear h4); (have m1 := ((Kept.fresh Kk).undrew).cell q1h.out id); (rw [if_pos (by rfl)]); (refine OpY.val ?_ ⟨Kept.refl _ _, rfl⟩); (first | rfl | go_simp)
      refine .cons (fun x wf Kk hq hdep hold => ?_) ?_
      · (try dsimp only); (have h2 : x 2 = _ := hdep 2 (by kernel_rfl)); (have h5 : x 5 = _ := hdep 5 (by kernel_rfl)); (clear hq hdep hold); (simp only [h2, h5]); (clear h2 h5); (rw [if_pos (by rfl)]); (refine OpY.val ?_ ⟨Kept.refl _ _, rfl⟩); (first | rfl | go_simp)
      refine .cons (fun x wf Kk hq hdep hold => ?_) ?_
      · (try dsimp only); (clear hq hdep hold); (rw [if_pos (by rfl)]); (refine OpY.val (v := .pointer (some ⟨wf.heap.size, 0, none⟩)) (w' := wf.alloc (.cells #[.int .i64 0, .int .i64 0, .slice none 0 0] 25)) ?_ ⟨(Kept.refl no wf).alloc _, _, rfl, Kk.size, heap_alloc_new _ _⟩); (go_simp)
      refine .cons (fun x wf Kk hq hdep hold => ?_) ?_
      · (try dsimp only); (have p7 : Pr.p (Sl := (fun _ => (fun k => w4.drew.heap.size ≤ k))) (PBz w4.drew) (x 7) wf := hdep 7 (by kernel_rfl)); (have h6 : x 6 = _ := hdep 6 (by kernel_rfl)); (clear hq hdep hold); (simp only [h6]); (clear h6); (rw [if_pos (by rfl)]); (obtain ⟨g, eg, hs, hb⟩ := p7); (rw [eg]); (obtain ⟨m0, m1, m2⟩ := slotC hb); (have q0 := row_free hb 0); (have q1 := row_free hb 1); (have q2 := row_free hb 2); (refine OpY.skipZ (w' := _) (by go_simp) ⟨(((Kept.refl (fun k => w4.drew.heap.size ≤ k) wf).setCell (a := ⟨g, 0, none⟩) (.inl hs) (.int .i64 (A : Int))).setCell (a := ⟨g, 1, none⟩) (.inl hs) (.int .i64 (M : Int))).setCell (a := ⟨g, 2, none⟩) (.inl hs) (.slice none 0 0), g, eg, hs, by rw [setCell_row (setCell_row (setCell_row hb 0 _) 1 _) 2 _]; rfl⟩)
      exact .nil _
    · (intro x wf Kk hv); (try dsimp only); (have p8 : Pr.r (Sl := (fun _ => (fun k => w4.drew.heap.size ≤ k))) (PCz w4.drew (A : Int) (M : Int) 7) (x 7) (x 8) wf := hv 8 (by kernel_rfl)); (clear hv); (obtain ⟨g6, eg6, hs6, hb6⟩ := p8); (have k46 := hid ((Kept.fresh Kk).undrew)); (have hI6 := hid (hL.out.1.kept k46.out id (fun _ _ => id))); (have gR6 := hid (k46.out.blk gR4.out)); (have k06 := hid (k04.out.trans' k46.out))
      have hGBw : Hd (w.heap.size ≤ GB ∧ GB < g6 ∧ GR < g6) := ⟨by
        (have h1 := hGB.out; have h2 := hSZ.out; have h3 := hL.out.2.size); (have h4 : w3.heap.size ≤ w4.heap.size := h3); (have h5 : w4.heap.size ≤ g6 := hs6)
        exact ⟨by omega, by omega, by omega⟩⟩
      (have hC6 : Hd (CrtS w wf g6 (A : Int) (M : Int) (.slice none 0 0) []) := ⟨⟨hb6, (OwNd.nil w).keptNo k06.out, by have := hGBw.out; omega⟩⟩); (have q2f := k46.out.cell q2 id); (have hys : Hd (ys.length ≤ 100000000) := ⟨by have := (rdNs_short hyes'.out).1; omega⟩); (simp only [eg6]); (clear Kk hb6 hs6 q0h q1h q0 q1 q2 hL gR4 k04 eg6 hx hI); (obtain ⟨w6, hw6⟩ : ∃ w6 : World, w6 = wf := ⟨_, rfl⟩); (subst hw6); (go_wp2)
      go_loopw [34] (fun i wr => ∃ (j : Nat) (q : List (Nd × Value)) (zs : List UInt8) (un : Value), j ≤ c ∧ i = .int .i64 (j : Int) ∧ Hd (q.length = j) ∧ Hd (rdNds j ys = some (nds q, zs)) ∧ Hd (zs.length ≤ 100000000) ∧ Hd (InB wr GB zs) ∧ Hd (CrtS w wr g6 (A : Int) (M : Int) un q) ∧ Hd (wr.heap[GR]? = some (.cells #[.int .i64 0, .int .i64 0, .slice none 0 0] 25 (0, 0))) ∧ Hd (Kept no w wr)) (fun i _ => c - (intOf i).toNat)
      case atStart => exact ⟨0, [], ys, .slice none 0 0, by omega, rfl, ⟨rfl⟩, ⟨rfl⟩, hys, hI6, hC6, gR6, k06⟩
      case round =>
        (obtain ⟨j, q, zs, un, hj, rfl, hql, hrd, hzl, hI, hC, gR, k0⟩ := hrel); (clear hI6 hC6 gR6 k06 hys q2f)
        by_cases hjl : j < c
        · (have hj1 : (j : Int) < (c : Int) := by omega); (have hj0 : (0 : Int) ≤ (j : Int) := by omega); (obtain ⟨wa, hwa, ga, ka⟩ := alloc_named wr (.cells #[.int .i64 2, .int .i64 4, .int .i64 1, .int .i64 1] 3)); (have hoa : wa.ownsRow 0 3 1 (.slice (some ⟨wr.heap.size, 0, none⟩) 4 4) 4 [.int .i64 2, .int .i64 4, .int .i64 1, .int .i64 1] := ⟨rfl, .inr ⟨wr.heap.size, 4, #[.int .i64 2, .int .i64 4, .int .i64 1, .int .i64 1], rfl, Nat.zero_le _, ga, Nat.le_refl _, by decide, rfl, rfl⟩⟩)
          have HN := numbers_any GB zs (.slice (some ⟨wr.heap.size, 0, none⟩) 4 4) [2, 4, 1, 1] wa (hI.out.kept ka id (fun _ _ => id)) (by simp) (by simp) hzl.out (own_RdZ (zs := [2, 4, 1, 1]) hoa) (fun k hk e => by
            (have : wr.heap.size = k := by simpa [ob, Value.ownBlock] using hk); (have := hI.out.lt)
            omega)
          (replace HN := hid HN); (have hCa := hid (hC.out.keptNo ka)); (have gRa := hid (ka.blk gR.out)); (have k0a := hid (k0.out.trans' ka)); (have hIa := hid (hI.out.kept ka id (fun _ _ => id))); (obtain ⟨GK2, hGK2⟩ : ∃ g, wr.heap.size = g := ⟨_, rfl⟩); (rw [hGK2] at HN); (replace hwa := hid hwa); (replace hGK2 := hid hGK2); (clear ga ka hoa hI hC gR k0); (go_wp2_with fail); (rw [← hwa.out, hGK2.out]); (with_reducible refine HN.out.mono ?_); (rintro e wb ⟨zs2, hL2, hres⟩); (have hGBa : Hd (∃ cs fr, wa.heap[GB]? = some (.cells cs 45 fr)) := ⟨by obtain ⟨_, _, h1, _⟩ := hIa.out; exact ⟨_, _, h1⟩⟩); (have hCb : Hd (CrtS w wb g6 (A : Int) (M : Int) un q) := ⟨by obtain ⟨_, _, h1⟩ := hGBa.out; exact hCa.out.keptB hL2.2 h1 hGBw.out.1⟩); (have gRb : Hd (wb.heap[GR]? = some (.cells #[.int .i64 0, .int .i64 0, .slice none 0 0] 25 (0, 0))) := ⟨(hL2.2.block GR (lt_of_heap gRa.out) (fun e => by have e : GR = GB := e; have := hGB.out; have := hGR.out; have := hSZ.out.1; omega)).trans gRa.out⟩); (have k0b : Hd (Kept no w wb) := ⟨k0a.out.trans hL2.2 fun k hk (e : k = GB) => by have := hGBw.out.1; omega⟩); (have hIb := hid hL2.1); (clear HN hCa gRa k0a)
          rcases hres with ⟨hno, rfl⟩ | ⟨vs, v7, hyes, rfl, hK⟩
          · (have hv := hid (dec_nodes hyes'.out hc (rdNds_stop hjl hrd.out (rdNd_none hno)))); (clear hL2 hno); (obtain ⟨c0, c1, c2⟩ := slotC gRb.out); (have f0 := row_free gRb.out 0); (have f1 := row_free gRb.out 1); (have f2 := row_free gRb.out 2); (have hGw : Hd (w.heap.size ≤ GR) := ⟨by have := hGB.out; have := hSZ.out.1; omega⟩); (have kS := hid (((k0b.out.setCell (a := ⟨GR, 0, none⟩) (.inr hGw.out) (.int .i64 0)).setCell (a := ⟨GR, 1, none⟩) (.inr hGw.out) (.int .i64 0)).setCell (a := ⟨GR, 2, none⟩) (.inr hGw.out) (.slice none 0 0)))
            have gS : Hd ((((wb.setCell ⟨GR, 0, none⟩ (.int .i64 0)).setCell ⟨GR, 1, none⟩ (.int .i64 0)).setCell ⟨GR, 2, none⟩ (.slice none 0 0)).heap[GR]? = some (.cells #[.int .i64 0, .int .i64 0, .slice none 0 0] 25 (0, 0))) := ⟨by
              rw [setCell_row (setCell_row (setCell_row gRb.out 0 _) 1 _) 2 _]; rfl⟩
            (go_wp2); (refine bodyPost_ret (v := .tuple #[.agg #[.int .i64 0, .int .i64 0, .slice none 0 0], .bool false]) ?_ rfl ?_)
            · exact results_cert rfl _ _ GR [.int .i64 0, .int .i64 0, .slice none 0 0] rfl _ rfl rfl gS.out
            · exact ⟨.inr ⟨hv.out, rfl⟩, kS.out⟩
          · (have hvl := (rdNs_short hyes).2); (have hzl2 : Hd (zs2.length ≤ 100000000) := ⟨by have := (rdNs_short hyes).1; have := hzl.out; omega⟩)
            obtain ⟨p, b, f, t, rfl⟩ : ∃ p b f t, vs = [p, b, f, t] := by
              match vs, hvl with
              | [p, b, f, t], _ => exact ⟨p, b, f, t, rfl⟩
            (obtain ⟨hp, hb, hf2, ht⟩ := rdN_fit hyes); (have hz7 : RdZ wb v7 [(p : Int), (b : Int), (f : Int), (t : Int)] := own_RdZ hK.own); (obtain ⟨a7, c7, rfl, _, _⟩ := Rd.shape2 (show Rd wb 1 v7 4 ([(p : Int), (b : Int), (f : Int), (t : Int)].map Z) from hz7)); (obtain ⟨b7, o7, rfl, q3⟩ := hz7.at 3 (by simp)); (obtain ⟨_, _, e', q2⟩ := hz7.at 2 (by simp))
            cases e'
            obtain ⟨_, _, e', q1⟩ := hz7.at 1 (by simp)
            cases e'
            obtain ⟨_, _, e', q0⟩ := hz7.at 0 (by simp)
            cases e'
            (have q0 : wb.cell? ⟨b7, o7, none⟩ = some (.int .i64 (p : Int)) := q0); (have q1 : wb.cell? ⟨b7, o7 + 1, none⟩ = some (.int .i64 (b : Int)) := q1); (have q2 : wb.cell? ⟨b7, o7 + 2, none⟩ = some (.int .i64 (f : Int)) := q2); (have q3 : wb.cell? ⟨b7, o7 + 3, none⟩ = some (.int .i64 (t : Int)) := q3)
            have hb7 : Hd (b7 ≠ GB) := ⟨fun e => by
              obtain ⟨_, ⟨h1, _⟩ | ⟨g, cap, cur, e1, _, hg, _⟩⟩ := hK.own
              · cases h1
              · cases e1
                (obtain ⟨_, _, h1, _⟩ := hIb.out); (rw [← e, hg] at h1)
                injection h1 with h1
                injection h1 with h1 h2
                exact absurd h2 int_ne_bytes⟩
            (have hyes7 := hid hyes); (clear hz7 hK hvl hyes hL2)
            by_cases hf : 1 < f
            · (have hfi : (1 : Int) < (f : Int) := by omega); (have hfd : decide ((1 : Int) < (f : Int)) = true := decide_eq_true hfi); (have hv := hid (dec_nodes hyes'.out hc (rdNds_stop hjl hrd.out (rdNd_flag hyes7.out hf)))); (clear q0 q1 q3); (obtain ⟨c0, c1, c2⟩ := slotC gRb.out); (have f0 := row_free gRb.out 0); (have f1 := row_free gRb.out 1); (have f2 := row_free gRb.out 2); (have hGw : Hd (w.heap.size ≤ GR) := ⟨by have := hGB.out; have := hSZ.out.1; omega⟩); (have kS := hid (((k0b.out.setCell (a := ⟨GR, 0, none⟩) (.inr hGw.out) (.int .i64 0)).setCell (a := ⟨GR, 1, none⟩) (.inr hGw.out) (.int .i64 0)).setCell (a := ⟨GR, 2, none⟩) (.inr hGw.out) (.slice none 0 0)))
              have gS : Hd ((((wb.setCell ⟨GR, 0, none⟩ (.int .i64 0)).setCell ⟨GR, 1, none⟩ (.int .i64 0)).setCell ⟨GR, 2, none⟩ (.slice none 0 0)).heap[GR]? = some (.cells #[.int .i64 0, .int .i64 0, .slice none 0 0] 25 (0, 0))) := ⟨by
                rw [setCell_row (setCell_row (setCell_row gRb.out 0 _) 1 _) 2 _]; rfl⟩
              (go_wp2); (refine bodyPost_ret (v := .tuple #[.agg #[.int .i64 0, .int .i64 0, .slice none 0 0], .bool false]) ?_ rfl ?_)
              · exact results_cert rfl _ _ GR [.int .i64 0, .int .i64 0, .slice none 0 0] rfl _ rfl rfl gS.out
              · exact ⟨.inr ⟨hv.out, rfl⟩, kS.out⟩
            (have hfi : ¬ (1 : Int) < (f : Int) := by omega); (have hfd : decide ((1 : Int) < (f : Int)) = false := decide_eq_false hfi); (obtain ⟨wc, hwc, gc, kc⟩ := alloc_named wb (.cells #[.int .i64 1] 3)); (have HR := repz_any t (.slice (some ⟨wb.heap.size, 0, none⟩) 1 1) wc (by omega) (Rd.block (us := [.int .i64 1]) gc rfl (by decide))); (replace HR := hid HR); (have hIc := hid (hIb.out.kept kc id (fun _ _ => id))); (have hCc := hid (hCb.out.keptNo kc)); (have gRc := hid (kc.blk gRb.out)); (have k0c := hid (k0b.out.trans' kc)); (have q0c := hid (kc.cell q0 id)); (have q1c := hid (kc.cell q1 id)); (have q2c := hid (kc.cell q2 id)); (have q3c : (wb.alloc (.cells #[.int .i64 1] 3)).cell? ⟨b7, o7 + 3, none⟩ = some (.int .i64 (t : Int)) := by rw [← hwc]; exact kc.cell q3 id); (obtain ⟨GK3, hGK3⟩ : ∃ g, wb.heap.size = g := ⟨_, rfl⟩); (rw [hGK3] at HR); (replace hwc := hid hwc); (replace hGK3 := hid hGK3); (clear gc kc hIb hCb gRb k0b hIa); (go_wp2_with fail); (rw [← hwc.out, hGK3.out]); (with_reducible refine HR.out.mono ?_); (rintro e wd ⟨gk, rfl, hgk, hgl, kd⟩); (have hzk : Rd wd 1 (.slice (some ⟨gk, 0, none⟩) t t) t (List.replicate t (.int .i64 1)) := Rd.block (by rw [repC, Nat.sub_self, List.replicate_zero, List.append_nil] at hgk; exact hgk) (by simp) (by have : maxLen = 9223372036854775807 := rfl; omega)); (have hId := hid (hIc.out.kept kd id (fun _ _ => id)))
            have HN := numbers_any GB zs2 (.slice (some ⟨gk, 0, none⟩) t t) (List.replicate t 1) wd hId.out (by simp) (by simp; omega) hzl2.out (by
              show Rd wd 1 _ (Zn (List.replicate t 1)).length ((Zn (List.replicate t 1)).map Z)
              rw [show (Zn (List.replicate t 1)).map Z = List.replicate t (.int .i64 1) from by unfold Zn; simp [Z], Zn_len, List.length_replicate]
              exact hzk) (fun k hk e => by
              (have : gk = k := by simpa [ob, Value.ownBlock] using hk); (have := hIc.out.lt)
              omega)
            (replace HN := hid HN); (have hCd := hid (hCc.out.keptNo kd)); (have gRd := hid (kd.blk gRc.out)); (have k0d := hid (k0c.out.trans' kd)); (have q0d := hid (kd.cell q0c.out id)); (have q1d := hid (kd.cell q1c.out id)); (have q2d := hid (kd.cell q2c.out id)); (clear hgk hgl kd hzk HR hIc hCc gRc k0c q0c q1c q2c q3c q0 q1 q2 q3); (go_wp2_with fail); (with_reducible refine HN.out.mono ?_); (rintro e we ⟨zs3, hL3, hres⟩); (have hCe : Hd (CrtS w we g6 (A : Int) (M : Int) un q) := ⟨by obtain ⟨_, _, h1, _⟩ := hId.out; exact hCd.out.keptB hL3.2 h1 hGBw.out.1⟩); (have gRe : Hd (we.heap[GR]? = some (.cells #[.int .i64 0, .int .i64 0, .slice none 0 0] 25 (0, 0))) := ⟨(hL3.2.block GR (lt_of_heap gRd.out) (fun e => by have e : GR = GB := e; have := hGB.out; have := hGR.out; have := hSZ.out.1; omega)).trans gRd.out⟩); (have k0e : Hd (Kept no w we) := ⟨k0d.out.trans hL3.2 fun k hk (e : k = GB) => by have := hGBw.out.1; omega⟩); (have hIe := hid hL3.1); (have q0e := hid (hL3.2.cell q0d.out hb7.out)); (have q1e := hid (hL3.2.cell q1d.out hb7.out)); (have q2e := hid (hL3.2.cell q2d.out hb7.out)); (have hwd0 : Hd (w.heap.size ≤ wd.heap.size) := ⟨k0d.out.size⟩); (clear HN hCd gRd k0d q0d q1d q2d)
            rcases hres with ⟨hno, rfl⟩ | ⟨ts, v9, hyes, rfl, hK9⟩
            · (have hv := hid (dec_nodes hyes'.out hc (rdNds_stop hjl hrd.out (rdNd_tail hyes7.out hf hno)))); (clear hL3 hno q0e q1e q2e); (obtain ⟨c0, c1, c2⟩ := slotC gRe.out); (have f0 := row_free gRe.out 0); (have f1 := row_free gRe.out 1); (have f2 := row_free gRe.out 2); (have hGw : Hd (w.heap.size ≤ GR) := ⟨by have := hGB.out; have := hSZ.out.1; omega⟩); (have kS := hid (((k0e.out.setCell (a := ⟨GR, 0, none⟩) (.inr hGw.out) (.int .i64 0)).setCell (a := ⟨GR, 1, none⟩) (.inr hGw.out) (.int .i64 0)).setCell (a := ⟨GR, 2, none⟩) (.inr hGw.out) (.slice none 0 0)))
              have gS : Hd ((((we.setCell ⟨GR, 0, none⟩ (.int .i64 0)).setCell ⟨GR, 1, none⟩ (.int .i64 0)).setCell ⟨GR, 2, none⟩ (.slice none 0 0)).heap[GR]? = some (.cells #[.int .i64 0, .int .i64 0, .slice none 0 0] 25 (0, 0))) := ⟨by
                rw [setCell_row (setCell_row (setCell_row gRe.out 0 _) 1 _) 2 _]; rfl⟩
              (go_wp2); (refine bodyPost_ret (v := .tuple #[.agg #[.int .i64 0, .int .i64 0, .slice none 0 0], .bool false]) ?_ rfl ?_)
              · exact results_cert rfl _ _ GR [.int .i64 0, .int .i64 0, .slice none 0 0] rfl _ rfl rfl gS.out
              · exact ⟨.inr ⟨hv.out, rfl⟩, kS.out⟩
            · (have hmore := rdNds_more hrd.out (rdNd_some hyes7.out hf hyes)); (have hzl3 : Hd (zs3.length ≤ 100000000) := ⟨by have := (rdNs_short hyes).1; have := hzl2.out; omega⟩); (have o9 : Hd (OwZ w we v9 (Zn ts)) := ⟨⟨hK9.own, k0e.out, hK9.new.of hwd0.out⟩⟩); (obtain ⟨a9, l9, c9, rfl⟩ : ∃ a l c, v9 = .slice a l c := by obtain ⟨a, c, e⟩ := Rd.shapeZ (own_RdZ hK9.own); exact ⟨a, _, c, e⟩); (have hwp : IntKind.i64.wrap ((p : Int) - 1) = (p : Int) - 1 := IntWalk.i64_in _ (by omega)); (obtain ⟨LF, hLF⟩ : ∃ l : Bool, (f == 1) = l := ⟨_, rfl⟩)
              have hlf : Hd (Value.bool (decide ((f : Int) = 1)) = .bool LF ∧ (((f : Int) == 1) = LF)) := ⟨by
                have hf01 : f = 0 ∨ f = 1 := by omega
                rcases hf01 with rfl | rfl <;> (cases hLF; exact ⟨rfl, rfl⟩)⟩
              (rw [hLF] at hmore); (replace hmore := hid hmore); (have hqm : Hd (q.length + 1 ≤ maxLen ∧ (q.length + 1) * 48 ≤ 140737488355328) := ⟨by have hm : maxLen = 9223372036854775807 := rfl; have := hql.out; omega⟩); (have hug : Hd (∀ j, un.ownBlock = some j → j ≠ g6) := ⟨fun j hj e => own_ne hCe.out.own.own hCe.out.blk node_ne_cert j hj e⟩); (have huR : Hd (∀ j, un.ownBlock = some j → j ≠ GR) := ⟨fun j hj e => own_ne hCe.out.own.own gRe.out node_ne_cert j hj e⟩); (have huB : Hd (∀ j, un.ownBlock = some j → j ≠ GB) := ⟨by obtain ⟨_, _, h1, _⟩ := hIe.out; exact fun j hj e => own_ne hCe.out.own.own h1 node_ne_bytes j hj e⟩); (have hgl : Hd (g6 < we.heap.size) := ⟨lt_of_heap hCe.out.blk⟩); (have c2 : Hd (we.cell? ⟨g6, 2, none⟩ = some un) := ⟨by rw [cell_of_row _ _ 2 _ _ _ hCe.out.blk]; rfl⟩); (clear hK9 hyes hL3 hId hLF); (go_upto_region 13 with fail); (refine region_flow (S := (fun k => ob un k ∨ k = g6)) (Sl := (fun j k => (j = 16 ∧ ob un k) ∨ (j = 18 ∧ k = g6))) [Is (.pointer (some ⟨g6, 2, none⟩)), Is (un), Is (.slice (some ⟨b7, o7, none⟩) 4 c7), Is (.pointer (some ⟨b7, o7, none⟩)), Is (.int .i64 (p : Int)), Is (.int .i64 ((p : Int) - 1)), Is (.slice (some ⟨b7, o7, none⟩) 4 c7), Is (.pointer (some ⟨b7, o7 + 1, none⟩)), Is (.int .i64 (b : Int)), Is (.slice (some ⟨b7, o7, none⟩) 4 c7), Is (.pointer (some ⟨b7, o7 + 2, none⟩)), Is (.int .i64 (f : Int)), Is (.bool LF), Is (.slice a9 l9 c9), PNd w ⟨(p : Int) - 1, Zn ts, (b : Int), LF⟩, PNs w ⟨(p : Int) - 1, Zn ts, (b : Int), LF⟩, PMore w we un q ⟨(p : Int) - 1, Zn ts, (b : Int), LF⟩, Is (.pointer (some ⟨g6, 2, none⟩)), PCert w we g6 (A : Int) (M : Int) un q ⟨(p : Int) - 1, Zn ts, (b : Int), LF⟩] [16, 18] (fun j k h => h.elim (fun h => .inl h.2) (fun h => .inr h.2)) _ (by kernel_rfl) (by kernel_rfl) (by kernel_rfl) (by kernel_rfl) (fun x => by simp only [puts, Act.put, List.map_cons, List.map_nil, Nat.zero_add, Nat.reduceAdd, List.setIfInBounds_toArray, List.set_cons_zero, List.set_cons_succ]; exact rfl) ?_ ?_)
              · (skip); (refine .cons (fun x wf Kk hq hdep hold => ?_) ?_)
                · (try dsimp only); (clear hq hdep hold); (rw [if_pos (by rfl)]); (refine OpY.val ?_ ⟨Kept.refl _ _, rfl⟩); (first | rfl | go_simp)
                refine .cons (fun x wf Kk hq hdep hold => ?_) ?_
                · (try dsimp only); (have h0 : x 0 = _ := hdep 0 (by kernel_rfl)); (have Kq := hq no (fun j hj => by cases (show j ∈ ([] : List Nat) from by (have e : ∀ l : List Nat, l = [] → j ∈ l → j ∈ ([] : List Nat) := fun l h h2 => h ▸ h2); exact e _ (by kernel_rfl) hj))); (clear hq hdep hold); (simp only [h0]); (clear h0); (have c1 := Kq.undrew.cell c2.out id); (rw [if_pos (by rfl)]); (refine OpY.val ?_ ⟨Kept.refl _ _, rfl⟩); (first | rfl | go_simp)
                refine .cons (fun x wf Kk hq hdep hold => ?_) ?_
                · (try dsimp only); (clear hq hdep hold); (rw [if_pos (by rfl)]); (refine OpY.val ?_ ⟨Kept.refl _ _, rfl⟩); (first | rfl | go_simp)
                refine .cons (fun x wf Kk hq hdep hold => ?_) ?_
                · (try dsimp only); (have h2 : x 2 = _ := hdep 2 (by kernel_rfl)); (clear hq hdep hold); (simp only [h2]); (clear h2); (rw [if_pos (by rfl)]); (refine OpY.val ?_ ⟨Kept.refl _ _, rfl⟩); (first | rfl | go_simp)
                refine .cons (fun x wf Kk hq hdep hold => ?_) ?_
                · (try dsimp only); (have h3 : x 3 = _ := hdep 3 (by kernel_rfl)); (have Kq := hq no (fun j hj => by cases (show j ∈ ([] : List Nat) from by (have e : ∀ l : List Nat, l = [] → j ∈ l → j ∈ ([] : List Nat) := fun l h h2 => h ▸ h2); exact e _ (by kernel_rfl) hj))); (clear hq hdep hold); (simp only [h3]); (clear h3); (have m0 := Kq.undrew.cell q0e.out id); (rw [if_pos (by rfl)]); (refine OpY.val ?_ ⟨Kept.refl _ _, rfl⟩); (first | rfl | go_simp)
                refine .cons (fun x wf Kk hq hdep hold => ?_) ?_
                · (try dsimp only); (have h4 : x 4 = _ := hdep 4 (by kernel_rfl)); (clear hq hdep hold); (simp only [h4]); (clear h4); (rw [if_pos (by rfl)]); (refine OpY.val ?_ ⟨Kept.refl _ _, rfl⟩); (first | rfl | go_simp)
                refine .cons (fun x wf Kk hq hdep hold => ?_) ?_
                · (try dsimp only); (clear hq hdep hold); (rw [if_pos (by rfl)]); (refine OpY.val ?_ ⟨Kept.refl _ _, rfl⟩); (first | rfl | go_simp)
                refine .cons (fun x wf Kk hq hdep hold => ?_) ?_
                · (try dsimp only); (have h6 : x 6 = _ := hdep 6 (by kernel_rfl)); (clear hq hdep hold); (simp only [h6]); (clear h6); (rw [if_pos (by rfl)]); (refine OpY.val ?_ ⟨Kept.refl _ _, rfl⟩); (first | rfl | go_simp)
                refine .cons (fun x wf Kk hq hdep hold => ?_) ?_
                · (try dsimp only); (have h7 : x 7 = _ := hdep 7 (by kernel_rfl)); (have Kq := hq no (fun j hj => by cases (show j ∈ ([] : List Nat) from by (have e : ∀ l : List Nat, l = [] → j ∈ l → j ∈ ([] : List Nat) := fun l h h2 => h ▸ h2); exact e _ (by kernel_rfl) hj))); (clear hq hdep hold); (simp only [h7]); (clear h7); (have m1 := Kq.undrew.cell q1e.out id); (rw [if_pos (by rfl)]); (refine OpY.val ?_ ⟨Kept.refl _ _, rfl⟩); (first | rfl | go_simp)
                refine .cons (fun x wf Kk hq hdep hold => ?_) ?_
                · (try dsimp only); (clear hq hdep hold); (rw [if_pos (by rfl)]); (refine OpY.val ?_ ⟨Kept.refl _ _, rfl⟩); (first | rfl | go_simp)
                refine .cons (fun x wf Kk hq hdep hold => ?_) ?_
                · (try dsimp only); (have h9 : x 9 = _ := hdep 9 (by kernel_rfl)); (clear hq hdep hold); (simp only [h9]); (clear h9); (rw [if_pos (by rfl)]); (refine OpY.val ?_ ⟨Kept.refl _ _, rfl⟩); (first | rfl | go_simp)
                refine .cons (fun x wf Kk hq hdep hold => ?_) ?_
                · (try dsimp only); (have h10 : x 10 = _ := hdep 10 (by kernel_rfl)); (have Kq := hq no (fun j hj => by cases (show j ∈ ([] : List Nat) from by (have e : ∀ l : List Nat, l = [] → j ∈ l → j ∈ ([] : List Nat) := fun l h h2 => h ▸ h2); exact e _ (by kernel_rfl) hj))); (clear hq hdep hold); (simp only [h10]); (clear h10); (have m2 := Kq.undrew.cell q2e.out id); (rw [if_pos (by rfl)]); (refine OpY.val ?_ ⟨Kept.refl _ _, rfl⟩); (first | rfl | go_simp)
                refine .cons (fun x wf Kk hq hdep hold => ?_) ?_
                · (try dsimp only); (have h11 : x 11 = _ := hdep 11 (by kernel_rfl)); (clear hq hdep hold); (simp only [h11]); (clear h11); (rw [if_pos (by rfl)]); (have hlf1 := hlf.out.1); (have hlf2 := hlf.out.2); (refine OpY.val ?_ ⟨Kept.refl _ _, rfl⟩); (first | (go_simp; done) | (go_simp; exact hlf2) | (simp only [hlf1]; go_simp; done) | (go_simp; simpa using hlf1))
                refine .cons (fun x wf Kk hq hdep hold => ?_) ?_
                · (try dsimp only); (clear hq hdep hold); (rw [if_pos (by rfl)]); (refine OpY.val ?_ ⟨Kept.refl _ _, rfl⟩); (first | rfl | go_simp)
                refine .cons (fun x wf Kk hq hdep hold => ?_) ?_
                · (try dsimp only); (have h5 : x 5 = _ := hdep 5 (by kernel_rfl)); (have h8 : x 8 = _ := hdep 8 (by kernel_rfl)); (have h12 : x 12 = _ := hdep 12 (by kernel_rfl)); (have h13 : x 13 = _ := hdep 13 (by kernel_rfl)); (have Kq := hq no (fun j hj => by cases (show j ∈ ([] : List Nat) from by (have e : ∀ l : List Nat, l = [] → j ∈ l → j ∈ ([] : List Nat) := fun l h h2 => h ▸ h2); exact e _ (by kernel_rfl) hj))); (clear hq hdep hold); (simp only [h5, h8, h12, h13]); (clear h5 h8 h12 h13); (rw [if_pos (by rfl)]); (refine OpY.val (v := .agg #[.int .i64 ((p : Int) - 1), .slice a9 l9 c9, .int .i64 (b : Int), .bool LF]) ?_ ⟨Kept.refl _ _, _, rfl, o9.out.keptNo Kq.undrew⟩); (go_simp)
                refine .cons (fun x wf Kk hq hdep hold => ?_) ?_
                · (try dsimp only); (have p14 : Pr.p (Sl := (fun j k => (j = 16 ∧ ob un k) ∨ (j = 18 ∧ k = g6))) (PNd w ⟨(p : Int) - 1, Zn ts, (b : Int), LF⟩) (x 14) wf := hdep 14 (by kernel_rfl)); (clear hq hdep hold); (rw [if_pos (by rfl)]); (obtain ⟨a, e9, oa⟩ := p14); (refine OpY.build 23 76 1 _ rfl 4 _ Try.underlying23 infN (by decide) (by decide) (ndC (⟨(p : Int) - 1, Zn ts, (b : Int), LF⟩, a)) [(0, x 14)] rfl (by rw [e9]; exact nd_fill oa) rfl (by decide) ?_); (intro w' hg k ho); (exact ⟨k, a, Rd.of_own ho, oa.keptNo k⟩)
                refine .cons (fun x wf Kk hq hdep hold => ?_) ?_
                · (try dsimp only); (have h1 : x 1 = _ := hdep 1 (by kernel_rfl)); (have p15 : Pr.p (Sl := (fun j k => (j = 16 ∧ ob un k) ∨ (j = 18 ∧ k = g6))) (PNs w ⟨(p : Int) - 1, Zn ts, (b : Int), LF⟩) (x 15) wf := hdep 15 (by kernel_rfl)); (have Kq := hq no (fun j hj => by cases (show j ∈ ([] : List Nat) from by (have e : ∀ l : List Nat, l = [] → j ∈ l → j ∈ ([] : List Nat) := fun l h h2 => h ▸ h2); exact e _ (by kernel_rfl) hj))); (clear hq hdep hold); (simp only [h1]); (clear h1); (rw [if_pos (by rfl)]); (obtain ⟨a, ra, oa⟩ := p15); (have hO2 := hCe.out.own.keptNo Kq.undrew); (refine OpY.append (.tmp 63) (.tmp 77) 23 _ rfl rfl 76 4 48 TNodes un _ _ rfl hO2.own (x 15) 1 (ndC (⟨(p : Int) - 1, Zn ts, (b : Int), LF⟩, a)) rfl ra (ndC_one oa) hqm.out.1 hqm.out.2 ?_); (intro v2 w2 h2 h3 h4 _); (exact ⟨h3.mono fun k _ h => Or.inl ⟨by trivial, h⟩, a, hCe.out.own.add (⟨(p : Int) - 1, Zn ts, (b : Int), LF⟩, a) Kq.undrew oa.own h2 h3 h4, newOr_or h4 Kq.undrew.size⟩)
                refine .cons (fun x wf Kk hq hdep hold => ?_) ?_
                · (try dsimp only); (clear hq hdep hold); (rw [if_pos (by rfl)]); (refine OpY.val ?_ ⟨Kept.refl _ _, rfl⟩); (first | rfl | go_simp)
                refine .cons (fun x wf Kk hq hdep hold => ?_) ?_
                · (try dsimp only); (have h17 : x 17 = _ := hdep 17 (by kernel_rfl)); (have p16 : Pr.p (Sl := (fun j k => (j = 16 ∧ ob un k) ∨ (j = 18 ∧ k = g6))) (PMore w we un q ⟨(p : Int) - 1, Zn ts, (b : Int), LF⟩) (x 16) wf := hdep 16 (by kernel_rfl)); (have Kq := hq (ob un) (fun j hj k hk => by (have e : ∀ l : List Nat, l = [16] → j ∈ l → j ∈ ([16] : List Nat) := fun l h h2 => h ▸ h2); have hj := e _ (by kernel_rfl) hj; obtain rfl := List.mem_singleton.1 hj; rcases hk with h | h; exact h.2; exact absurd h.1 (by decide))); (clear hq hdep hold); (simp only [h17]); (clear h17); (rw [if_pos (by rfl)]); (obtain ⟨a, oN, fr⟩ := p16); (have hb := (Kq.undrew.block g6 hgl.out (fun h => hug.out g6 h rfl)).trans hCe.out.blk); (have fz := row_free hb 2); (have c1 : wf.cell? ⟨g6, 2, none⟩ = some un := by rw [cell_of_row _ _ 2 _ _ _ hb]; rfl); (obtain ⟨_, ax, cx, e11, _⟩ := Rd.of_own oN.own); (rw [e11] at oN fr ⊢); (have kS := (Kept.refl (fun k => k = g6) wf).setCell (a := ⟨g6, 2, none⟩) (.inl rfl) (.slice ax (q ++ [((⟨(p : Int) - 1, Zn ts, (b : Int), LF⟩ : Nd), a)]).length cx)); (refine OpY.skipY (w' := wf.setCell ⟨g6, 2, none⟩ (.slice ax (q ++ [((⟨(p : Int) - 1, Zn ts, (b : Int), LF⟩ : Nd), a)]).length cx)) (by go_simp) ⟨kS.mono fun k _ h => Or.inr ⟨by trivial, h⟩, a, _, CrtS.store hb oN hCe.out.new, fr⟩)
                exact .nil _
              · (intro x wf Kk hv); (try dsimp only); (have p18 : Pr.p (Sl := (fun j k => (j = 16 ∧ ob un k) ∨ (j = 18 ∧ k = g6))) (PCert w we g6 (A : Int) (M : Int) un q ⟨(p : Int) - 1, Zn ts, (b : Int), LF⟩) (x 18) wf := hv 18 (by kernel_rfl)); (clear hv); (obtain ⟨av, vn', hC2, _⟩ := p18); (have hC2 := hid hC2); (have kq := Kk.undrew)
                have hI2 : Hd (InB wf GB zs3) := ⟨hIe.out.kept kq (fun h => h.elim (fun h => huB.out _ h rfl) (fun h => by have := hGBw.out.2.1; omega)) (fun j hj h => h.elim (fun h => by
                  (have := hCe.out.own.new.fr (Nat.le_refl _) j h); (have := hGB.out)
                  omega) (fun h => by have := hGBw.out.2.1; omega))⟩
                have gR2 : Hd (wf.heap[GR]? = some (.cells #[.int .i64 0, .int .i64 0, .slice none 0 0] 25 (0, 0))) := ⟨(kq.block GR (lt_of_heap gRe.out) (fun h => h.elim (fun h => huR.out _ h rfl) (fun h => by have := hGBw.out.2.2; omega))).trans gRe.out⟩
                have k02 : Hd (Kept no w wf) := ⟨k0e.out.trans kq fun j hj h => h.elim (fun h => by
                  have := hCe.out.own.new.fr (Nat.le_refl _) j h
                  omega) (fun h => by have := hGBw.out; omega)⟩
                (have hql2 : Hd ((q ++ [((⟨(p : Int) - 1, Zn ts, (b : Int), LF⟩ : Nd), av)]).length = j + 1) := ⟨by rw [List.length_append, hql.out]; rfl⟩); (have hrd2 : Hd (rdNds (j + 1) ys = some (nds (q ++ [((⟨(p : Int) - 1, Zn ts, (b : Int), LF⟩ : Nd), av)]), zs3)) := ⟨by rw [hmore.out]; simp [nds]⟩); (clear hCe gRe k0e hIe q0e q1e q2e hmore hug huR huB c2 Kk kq o9 hrd hql); (go_wp2); (go_roundw)
                case rel => first | exact ⟨j + 1, _, zs3, vn', by omega, by go_num, hql2, hrd2, hzl3, hI2, hC2, gR2, k02⟩ | ((repeat apply Exists.intro); exact ⟨⟨j + 1, _, zs3, vn', by omega, by go_num, hql2, hrd2, hzl3, hI2, hC2, gR2, k02⟩, rfl⟩)
                case measure => simp [intOf]; omega
        · (obtain rfl : j = c := by omega); (have hj1 : ¬ (j : Int) < (j : Int) := by omega); (obtain ⟨a1, cp1, hg1, _, _⟩ := hI.out); (have d1 : wr.cell? ⟨GB, 0, none⟩ = some (.slice a1 zs.length cp1) := by rw [cell_of_row wr _ 0 _ _ _ hg1]; rfl); (obtain ⟨lz, hlz⟩ : ∃ l, zs.length = l := ⟨_, rfl⟩); (rw [hlz] at d1); (clear hg1)
          by_cases hz : 0 < lz
          · (have hzi : (0 : Int) < (lz : Int) := by omega); (have hzd : decide ((0 : Int) < (lz : Int)) = true := decide_eq_true hzi); (have hv := hid (dec_end hyes'.out hc hrd.out (fun h => by rw [h.1] at hlz; simp at hlz; omega))); (clear hlz); (obtain ⟨c0, c1, c2⟩ := slotC gR.out); (have f0 := row_free gR.out 0); (have f1 := row_free gR.out 1); (have f2 := row_free gR.out 2); (have hGw : Hd (w.heap.size ≤ GR) := ⟨by have := hGB.out; have := hSZ.out.1; omega⟩); (have kS := hid (((k0.out.setCell (a := ⟨GR, 0, none⟩) (.inr hGw.out) (.int .i64 0)).setCell (a := ⟨GR, 1, none⟩) (.inr hGw.out) (.int .i64 0)).setCell (a := ⟨GR, 2, none⟩) (.inr hGw.out) (.slice none 0 0)))
            have gS : Hd ((((wr.setCell ⟨GR, 0, none⟩ (.int .i64 0)).setCell ⟨GR, 1, none⟩ (.int .i64 0)).setCell ⟨GR, 2, none⟩ (.slice none 0 0)).heap[GR]? = some (.cells #[.int .i64 0, .int .i64 0, .slice none 0 0] 25 (0, 0))) := ⟨by
              rw [setCell_row (setCell_row (setCell_row gR.out 0 _) 1 _) 2 _]; rfl⟩
            (go_wp2); (refine bodyPost_ret (v := .tuple #[.agg #[.int .i64 0, .int .i64 0, .slice none 0 0], .bool false]) ?_ rfl ?_)
            · exact results_cert rfl _ _ GR [.int .i64 0, .int .i64 0, .slice none 0 0] rfl _ rfl rfl gS.out
            · exact ⟨.inr ⟨hv.out, rfl⟩, kS.out⟩
          (have hzi : ¬ (0 : Int) < (lz : Int) := by omega); (have hzd : decide ((0 : Int) < (lz : Int)) = false := decide_eq_false hzi)
          obtain rfl : zs = [] := by
            cases zs with
            | nil => rfl
            | cons z zs => simp at hlz; omega
          (obtain ⟨au, lu, cu, rfl⟩ : ∃ a l c, un = .slice a l c := by obtain ⟨a, c, e⟩ := Rd.shapeZ hC.out.own.rd.2; exact ⟨a, _, c, e⟩); (have HE := hid (encodable_any (A : Int) (M : Int) (.slice au lu cu) q wr hC.out.own.rd)); (obtain ⟨c0, c1, c2⟩ := slotC hC.out.blk); (clear hlz); (go_wp2_with fail); (with_reducible refine HE.out.mono ?_); (rintro e w2 ⟨⟨_, rfl, bb, rfl, hbb⟩, k2⟩); (have gR2 := hid (k2.blk gR.out)); (have hC2 := hid (hC.out.keptNo k2)); (have k02 := hid (k0.out.trans' k2)); (replace hbb := hid hbb); (clear HE c0 c1 c2 d1 gR hC k0 k2)
          cases bb with
          | false =>
            (have hv := hid (dec_end hyes'.out hc hrd.out (fun h => by have := hbb.out.2 h.2; cases this))); (obtain ⟨c0, c1, c2⟩ := slotC gR2.out); (have f0 := row_free gR2.out 0); (have f1 := row_free gR2.out 1); (have f2 := row_free gR2.out 2); (have hGw : Hd (w.heap.size ≤ GR) := ⟨by have := hGB.out; have := hSZ.out.1; omega⟩); (have kS := hid (((k02.out.setCell (a := ⟨GR, 0, none⟩) (.inr hGw.out) (.int .i64 0)).setCell (a := ⟨GR, 1, none⟩) (.inr hGw.out) (.int .i64 0)).setCell (a := ⟨GR, 2, none⟩) (.inr hGw.out) (.slice none 0 0)))
            have gS : Hd ((((w2.setCell ⟨GR, 0, none⟩ (.int .i64 0)).setCell ⟨GR, 1, none⟩ (.int .i64 0)).setCell ⟨GR, 2, none⟩ (.slice none 0 0)).heap[GR]? = some (.cells #[.int .i64 0, .int .i64 0, .slice none 0 0] 25 (0, 0))) := ⟨by
              rw [setCell_row (setCell_row (setCell_row gR2.out 0 _) 1 _) 2 _]; rfl⟩
            (go_wp2); (refine bodyPost_ret (v := .tuple #[.agg #[.int .i64 0, .int .i64 0, .slice none 0 0], .bool false]) ?_ rfl ?_)
            · exact results_cert rfl _ _ GR [.int .i64 0, .int .i64 0, .slice none 0 0] rfl _ rfl rfl gS.out
            · exact ⟨.inr ⟨hv.out, rfl⟩, kS.out⟩
          | true =>
            (have hv := hid (dec_all hyes'.out hc hrd.out (hbb.out.1 rfl))); (obtain ⟨c0, c1, c2⟩ := slotC hC2.out.blk); (obtain ⟨d0, d1, d2⟩ := slotC gR2.out); (have f0 := row_free gR2.out 0); (have f1 := row_free gR2.out 1); (have f2 := row_free gR2.out 2); (have hGw : Hd (w.heap.size ≤ GR) := ⟨by have := hGB.out; have := hSZ.out.1; omega⟩); (have kS := hid (((k02.out.setCell (a := ⟨GR, 0, none⟩) (.inr hGw.out) (.int .i64 (A : Int))).setCell (a := ⟨GR, 1, none⟩) (.inr hGw.out) (.int .i64 (M : Int))).setCell (a := ⟨GR, 2, none⟩) (.inr hGw.out) (.slice au lu cu))); (have kC := (((Kept.refl (fun j => j = GR) w2).setCell (a := ⟨GR, 0, none⟩) (.inl rfl) (.int .i64 (A : Int))).setCell (a := ⟨GR, 1, none⟩) (.inl rfl) (.int .i64 (M : Int))).setCell (a := ⟨GR, 2, none⟩) (.inl rfl) (.slice au lu cu)); (have hR := hid (hC2.out.own.rdC (kC.mono fun j _ h => by rw [h]; exact ⟨_, _, gR2.out⟩)))
            have gS : Hd ((((w2.setCell ⟨GR, 0, none⟩ (.int .i64 (A : Int))).setCell ⟨GR, 1, none⟩ (.int .i64 (M : Int))).setCell ⟨GR, 2, none⟩ (.slice au lu cu)).heap[GR]? = some (.cells #[.int .i64 (A : Int), .int .i64 (M : Int), .slice au lu cu] 25 (0, 0))) := ⟨by
              rw [setCell_row (setCell_row (setCell_row gR2.out 0 _) 1 _) 2 _]; rfl⟩
            (clear kC); (go_wp2); (refine bodyPost_ret (v := .tuple #[.agg #[.int .i64 (A : Int), .int .i64 (M : Int), .slice au lu cu], .bool true]) ?_ rfl ?_)
            · exact results_cert rfl _ _ GR [.int .i64 (A : Int), .int .i64 (M : Int), .slice au lu cu] rfl _ rfl rfl gS.out
            · exact ⟨.inl ⟨_, _, _, q, hv.out, rfl, hR.out⟩, kS.out⟩
end Go.Proofs.Ytkdmlakookgolaa

