/- electionlaw23.Awake (printed by gen_ba.py). -/
import Derived.Test.YtknbkhmpnanegaaDoorB9
namespace Go.Proofs.YtknbkhmpnanegaaDoor
open Go.RowKit Go.Mk Go.Sha Go.Brd
def RdDIs {Sl : Nat → Nat → Prop} (ds : List (List UInt8)) : Pr Sl := soft (fun v w => RdD w v ds) fun _ _ _ h k => h.kept k
def aw1 : Ent := ⟨0, 1, [97], Z32l⟩
def aw2 : Ent := ⟨1, 6, [98], hashE aw1⟩
theorem aw_chk : chk Z32l 0 [aw1, aw2] = 2 := by simp [chk, aw1, aw2, poss]
theorem aw_prove : proveD [aw1, aw2] 0 = [leafD aw2] := by
  have h := proveD_more [aw1, aw2] 0 (by simp)
  have e : half [aw1, aw2].length = 1 := by decide
  rw [e] at h
  rw [h, if_pos (by decide)]
  simp only [List.take_succ_cons, List.take_zero, List.drop_succ_cons, List.drop_zero]
  rw [proveD, rootD]; rfl
theorem aw_inc : incI (rootD [aw1, aw2]) 2 0 aw1 (proveD [aw1, aw2] 0) = true := by
  have h := climb_prove aw1 [aw1, aw2] 0 rfl
  unfold incI
  rw [if_pos (by decide)]
  unfold includedD
  have e : [aw1, aw2].length = (2 : Int).toNat := rfl
  rw [e] at h
  have e0 : (0 : Int).toNat = 0 := rfl
  rw [e0, h]
  simp
theorem Tab.kept2 {w w' : World} (h : Tab w) (k : Kept no w w') : Tab w' := h.kept k
set_option maxRecDepth 100000 in
set_option maxHeartbeats 4000000 in
theorem awake23_any (w : World) (hT : Tab w) : Calls Tryd.prog 30 #[] w fun ed w' => ed = .returned (.bool true) ∧ Kept no w w' := by
  have kc := fun (w : World) (C : Array Value) (n c : Nat) => Lib.run_convert_bytes_const (P := Tryd.prog) w 43 5 C n c Tryd.underlying43 Tryd.underlying5
  replace hT := hid hT
  obtain ⟨g, hgw, HNW⟩ : ∃ g, w.heap.size ≤ g ∧ Calls Tryd.prog 26 #[] w fun ed w' => ed = .returned (.pointer (some ⟨g, 0, none⟩)) ∧ Bd w' g (.slice none 0 0) [] ∧ Kept no w w' := ⟨_, Nat.le_refl _, new_any w⟩
  replace hgw := hid hgw
  replace HNW := hid HNW
  go_enter Tryd.func30, Tryd.ntmps30
  go_wp2_with fail
  refine HNW.out.mono ?_
  rintro ed w1 ⟨rfl, hb1, k1⟩
  have hg1 := hid (lt_of_heap hb1.at_)
  replace hb1 := hid hb1
  replace k1 := hid k1
  clear HNW
  go_wp2_with fail
  refine Calls.new1f _ _ _ _ ?_
  intro w2 e2 k2 z2
  have r2 := hid (show Rd w2 1 (.slice (some ⟨w1.heap.size, 0, none⟩) 1 1) 1 (([97] : List UInt8).map B) from Rd.block e2 rfl (by decide))
  have K2 := hid (k1.out.trans' k2)
  have hb2 := hid (hb1.out.kept k2)
  have hk12 : Hd (w1.heap.size ≤ w2.heap.size) := ⟨k2.size⟩
  clear e2 k2 z2 k1 hb1
  refine (post_any g (.slice none 0 0) [] 1 (.slice (some ⟨w1.heap.size, 0, none⟩) 1 1) [97] w2 hb2.out (by decide) (by simp) (by simp) r2.out (hT.out.kept K2.out)).mono ?_
  rintro ed w3 ⟨v1, vc, vr, rfl, hb3, hr3, k3, hn3, hnr3, _, _⟩
  have en1 : nxt [] 1 [97] = aw1 := rfl
  rw [en1] at hb3 hr3 ⊢
  clear en1
  have K3 : Hd (Kept no w w3) := ⟨K2.out.trans k3 fun j hj h => by
    rcases h with h | h
    · have := hgw.out; omega
    · simp [Value.ownBlock] at h⟩
  have hv1 : Hd (∀ j, v1.ownBlock = some j → w2.heap.size ≤ j ∧ j < w3.heap.size) := ⟨fun j hj => by
    refine ⟨?_, ?_⟩
    · rcases hn3 with h | ⟨q, h, hl⟩
      · rw [hj] at h; simp [Value.ownBlock] at h
      · rw [hj] at h; have : j = q := by simpa using h
        omega
    · obtain ⟨_, ⟨h, _⟩ | ⟨q, _, _, h, _, hq, _⟩⟩ := hb3.own
      · rw [h] at hj; cases hj
      · rw [h] at hj
        have : q = j := by simpa [Value.ownBlock] using hj
        subst this; exact lt_of_heap hq⟩
  replace hb3 := hid hb3
  replace hr3 := hid hr3
  have hs2 : Hd (w.heap.size ≤ w2.heap.size) := ⟨K2.out.size⟩
  have hs12 : Hd (w1.heap.size ≤ w2.heap.size) := ⟨hk12.out⟩
  have hs23 : Hd (w2.heap.size ≤ w3.heap.size) := ⟨k3.size⟩
  clear k3 hn3 hnr3 hb2 r2
  have hN3 := hid (heap_alloc_new w3 (.cells ZE 47))
  obtain ⟨w4, hw4, g4, k4⟩ := ev_block w3 (entC aw1 vr)
  have hZs := hid ZE_size
  have hok1 := hid hr3.out.ok
  unfold ZE at hN3 hw4 hZs
  rw [show (entC ⟨0, 0, [], Z32l⟩ (.slice none 0 0)).toArray = _ from ZE_eq.symm] at hN3 hw4 hZs
  have K4 := hid (K3.out.trans' k4)
  have hb4 := hid (hb3.out.kept k4)
  have hr4 := hid (hr3.out.keptNo k4)
  replace hw4 := hid hw4
  replace g4 := hid g4
  generalize hga : w3.heap.size = ga at hN3 hw4 g4 hv1 hs23
  replace hga := hid hga
  clear k4 hb3 hr3 K3
  go_upto_region 3 with (with_reducible refine se rfl _ _ rfl w3.heap.size rfl aw1 vr rfl _ (by rw [hga.out]; exact hN3.out) hZs.out hok1.out ?_; rw [hga.out, ← hw4.out])
  clear hN3 hw4 hZs hga
  go_wp2_with fail
  refine Calls.new1f _ _ _ _ ?_
  intro w5 e5 k5 z5
  have r5 := hid (show Rd w5 1 (.slice (some ⟨w4.heap.size, 0, none⟩) 1 1) 1 (([98] : List UInt8).map B) from Rd.block e5 rfl (by decide))
  have K5 := hid (K4.out.trans' k5)
  have hb5 := hid (hb4.out.kept k5)
  have hr5 := hid (hr4.out.keptNo k5)
  have g5 := hid (k5.blk g4.out)
  clear e5 k5 z5 K4 hb4 hr4 g4
  refine (post_any g v1 [(aw1, vc)] 6 (.slice (some ⟨w4.heap.size, 0, none⟩) 1 1) [98] w5 hb5.out (by decide) (by simp) (by simp) r5.out (hT.out.kept K5.out)).mono ?_
  rintro ed w6 ⟨v2, vc2, vr2, rfl, hb6, hr6, k6, hn6, hnr6, _, _⟩
  have en2 : nxt [(aw1, vc)] 6 [98] = aw2 := rfl
  rw [en2] at hb6 hr6 ⊢
  clear en2
  have K6 : Hd (Kept no w w6) := ⟨K5.out.trans k6 fun j hj h => by
    rcases h with h | h
    · have := hgw.out; omega
    · have := (hv1.out j h).1; have := hs2.out; omega⟩
  have hgga : Hd (g < ga) := ⟨by
    have := hb5.out.at_
    have h1 := hg1.out
    rcases Nat.lt_or_ge g ga with h | h
    · exact h
    · exact absurd (Nat.lt_of_lt_of_le hg1.out (Nat.le_trans (Nat.le_trans hs12.out hs23.out) h)) (Nat.lt_irrefl _)⟩
  have g6 : Hd (w6.heap[ga]? = some (.cells (entC aw1 vr).toArray 47 (0, 0))) := ⟨(k6.block _ (lt_of_heap g5.out) (by
    rintro (h | h)
    · have := hgga.out; omega
    · have := (hv1.out _ h).2; omega)).trans g5.out⟩
  have hr6' : Hd (OwE w6 aw1 vr) := ⟨hr5.out.kept k6 fun j hj e => by
    rcases e with e | e
    · exact hr5.out.ne hb5.out.at_ (by decide) j hj e
    · obtain ⟨_, ⟨h, _⟩ | ⟨q, _, _, h, _, hq, _⟩⟩ := hb5.out.own
      · rw [h] at e; cases e
      · rw [h] at e
        have : q = j := by simpa [Value.ownBlock] using e
        subst this
        exact hr5.out.ne hq (by decide) q hj rfl⟩
  replace hb6 := hid hb6
  replace hr6 := hid hr6
  clear k6 hn6 hnr6 hb5 hr5 g5 r5 K5
  have hN6 := hid (heap_alloc_new w6 (.cells ZE 47))
  obtain ⟨w7, hw7, g7, k7⟩ := ev_block w6 (entC aw2 vr2)
  have hZs := hid ZE_size
  have hok2 := hid hr6.out.ok
  unfold ZE at hN6 hw7 hZs
  rw [show (entC ⟨0, 0, [], Z32l⟩ (.slice none 0 0)).toArray = _ from ZE_eq.symm] at hN6 hw7 hZs
  have K7 := hid (K6.out.trans' k7)
  have hb7 := hid (hb6.out.kept k7)
  have ga7 := hid (k7.blk g6.out)
  have hra7 := hid (hr6'.out.keptNo k7)
  replace hw7 := hid hw7
  replace g7 := hid g7
  generalize hgb : w6.heap.size = gb at hN6 hw7 g7
  replace hgb := hid hgb
  clear k7 hb6 hr6 hr6' g6 K6
  go_upto_region 4 with (with_reducible refine se rfl _ _ rfl w6.heap.size rfl aw2 vr2 rfl _ (by rw [hgb.out]; exact hN6.out) hZs.out hok2.out ?_; rw [hgb.out, ← hw7.out])
  clear hN6 hw7 hZs hgb hok1 hok2
  go_wp2_with fail
  refine (entries_any g v2 _ w7 hb7.out (by simp)).mono ?_
  rintro ed w8 ⟨v8, qs, rfl, hqe, hqo, hqa, k8, _⟩
  have hqe : ents qs = [aw1, aw2] := by rw [hqe]; rfl
  have hql : qs.length = 2 := by rw [← ents_length, hqe]; rfl
  have hrd : Hd (RdE w8 v8 qs) := ⟨⟨fun q h => (hqa q h).ok, Rd.of_own hqo⟩⟩
  have K8 := hid (K7.out.trans' k8)
  have ga8 := hid (k8.blk ga7.out)
  have gb8 := hid (k8.blk g7.out)
  have hra8 := hid (hra7.out.keptNo k8)
  have hok1 := hid hra8.out.ok
  have HCK := hid (fun W k => check_any v8 qs W (by omega) (hrd.out.kept k) (hT.out.kept (K8.out.trans' k)))
  have HPR := hid (fun W k => prove_any qs 0 v8 W (by omega) (by omega) (hrd.out.kept k) (hT.out.kept (K8.out.trans' k)))
  have HRT := hid (fun W k => root_any qs v8 W (by omega) (hrd.out.kept k) (hT.out.kept (K8.out.trans' k)))
  rw [hqe, aw_chk] at HCK
  rw [hqe] at HPR HRT
  have hP32 : Hd (∀ d ∈ proveD [aw1, aw2] 0, d.length = 32) := ⟨proveD_len _ 0⟩
  have hP1 : Hd ((proveD [aw1, aw2] 0).length = 1) := ⟨by rw [aw_prove]; rfl⟩
  have hinc := hid aw_inc
  have hR32 := hid (rootD_length [aw1, aw2])
  have HIN := hid (fun W v (k : Kept no w8 W) hr => included_any (rootD [aw1, aw2]) 2 0 aw1 vr v (proveD [aw1, aw2] 0) W hR32.out (by decide) (hok1.out.kept k) (by rw [hP1.out]; decide) hr (hT.out.kept (K8.out.trans' k)))
  rw [hinc.out] at HIN
  have HHA := hid (fun W k => hash_any aw1 vr W (hok1.out.kept k) (hT.out.kept (K8.out.trans' k)))
  have h2p : Hd (aw2.prev = hashE aw1) := ⟨rfl⟩
  have hh32 := hid (hashE_length aw1)
  have heq := eqlDg (hashE aw1) (hashE aw1) hh32.out hh32.out true (by simp)
  generalize proveD [aw1, aw2] 0 = P at HPR hP32 hP1 HIN
  generalize rootD [aw1, aw2] = R at HRT hR32 HIN
  have cN : Hd (w8.cell? ⟨gb, 0, none⟩ = some (.int .i64 1)) := ⟨by rw [cell_of_row w8 _ 0 _ _ _ gb8.out]; rfl⟩
  have cP : Hd (w8.rangeAt gb 3 ((hashE aw1).map B)) := ⟨fun j u hu => by
    rw [cell_of_row w8 _ (3 + j) _ _ _ gb8.out]
    have : (entC aw2 vr2).toArray[3 + j]? = ((hashE aw1).map B)[j]? := by rw [← h2p.out]; simp [entC, Nat.add_comm 3 j]
    rw [this]; exact hu⟩
  have hgd := guard_digest
  clear hqe hql hqo hqa k8 kc hb7 K7 ga7 g7 hra7 hv1 hs2 hgga hinc h2p
  generalize hashE aw1 = HA at HHA hh32 heq cP
  go_upto_region 5 with fail
  refine region_flow (S := no) (Sl := (fun _ => no)) [Is (.int .i64 0), Is (.bool true), Is (.bool true), Is (.int .i64 0), Is (.bool true), Is (.bool true), Is (.bool true), Is (.pointer (some ⟨gb, 0, none⟩)), Is (.int .i64 1), Is (.bool true), Is (.bool true), Is (.bool true), Is (.pointer (some ⟨gb, 3, none⟩)), Is (Dg HA), Is (Ev aw1 vr), Is (Dg HA), Is (.bool true), Is (.bool true), Is (.bool true), Is (v8), Is (.int .i64 ((2 : Nat) : Int)), Is (.bool true), Is (.bool true), Is (.bool true), Is (v8), RdDIs P, Is (.int .i64 1), Is (.bool true), Is (.bool true), Is (.bool true), Is (v8), Is (Dg R), Is (Ev aw1 vr), Is (v8), RdDIs P, Is (.bool true), Is (.bool true), Is (.bool true)] [] (fun _ _ h => h) _ (by kernel_rfl) (by kernel_rfl) (by kernel_rfl) (by kernel_rfl) (fun x => by simp only [puts, Act.put, List.map_cons, List.map_nil, Nat.zero_add, Nat.reduceAdd, List.setIfInBounds_toArray, List.set_cons_zero, List.set_cons_succ]; exact rfl) ?_ ?_
  · skip
    refine Steps.cons (fun x wf Kk hq hdep hold => ?_) ?_
    · try dsimp only
      clear hq hdep hold
      rw [if_pos (by rfl)]
      refine OpY.val (v := (.int .i64 0)) ?_ ⟨Kept.refl _ _, rfl⟩
      first | rfl | go_simp
    refine Steps.cons (fun x wf Kk hq hdep hold => ?_) ?_
    · try dsimp only
      have h0 : x 0 = (.int .i64 0) := hdep 0 (by kernel_rfl)
      clear hq hdep hold
      simp only [h0]
      clear h0
      rw [if_pos (by rfl)]
      refine OpY.val (v := (.bool true)) ?_ ⟨Kept.refl _ _, rfl⟩
      first | rfl | go_simp
    refine Steps.cons (fun x wf Kk hq hdep hold => ?_) ?_
    · try dsimp only
      have h1 : x 1 = (.bool true) := hdep 1 (by kernel_rfl)
      clear hq hdep hold
      simp only [h1]
      clear h1
      rw [if_pos (by rfl)]
      refine OpY.val (v := (.bool true)) ?_ ⟨Kept.refl _ _, rfl⟩
      first | rfl | go_simp
    refine Steps.cons (fun x wf Kk hq hdep hold => ?_) ?_
    · try dsimp only
      have h2 : x 2 = (.bool true) := hdep 2 (by kernel_rfl)
      clear hq hdep hold
      simp only [h2]
      clear h2
      rw [if_pos (by rfl)]
      refine OpY.val (v := (.int .i64 0)) ?_ ⟨Kept.refl _ _, rfl⟩
      first | rfl | go_simp
    refine Steps.cons (fun x wf Kk hq hdep hold => ?_) ?_
    · try dsimp only
      have h3 : x 3 = (.int .i64 0) := hdep 3 (by kernel_rfl)
      have h2 : x 2 = (.bool true) := hdep 2 (by kernel_rfl)
      clear hq hdep hold
      simp only [h3, h2]
      clear h3 h2
      rw [if_pos (by rfl)]
      refine OpY.val (v := (.bool true)) ?_ ⟨Kept.refl _ _, rfl⟩
      first | rfl | go_simp
    refine Steps.cons (fun x wf Kk hq hdep hold => ?_) ?_
    · try dsimp only
      have h2 : x 2 = (.bool true) := hdep 2 (by kernel_rfl)
      have h4 : x 4 = (.bool true) := hdep 4 (by kernel_rfl)
      clear hq hdep hold
      simp only [h2, h4]
      clear h2 h4
      rw [if_pos (by rfl)]
      refine OpY.val (v := (.bool true)) ?_ ⟨Kept.refl _ _, rfl⟩
      first | rfl | go_simp
    refine Steps.cons (fun x wf Kk hq hdep hold => ?_) ?_
    · try dsimp only
      have h5 : x 5 = (.bool true) := hdep 5 (by kernel_rfl)
      clear hq hdep hold
      simp only [h5]
      clear h5
      rw [if_pos (by rfl)]
      refine OpY.val (v := (.bool true)) ?_ ⟨Kept.refl _ _, rfl⟩
      first | rfl | go_simp
    refine Steps.cons (fun x wf Kk hq hdep hold => ?_) ?_
    · try dsimp only
      have h6 : x 6 = (.bool true) := hdep 6 (by kernel_rfl)
      clear hq hdep hold
      simp only [h6]
      clear h6
      rw [if_pos (by rfl)]
      refine OpY.val (v := (.pointer (some ⟨gb, 0, none⟩))) ?_ ⟨Kept.refl _ _, rfl⟩
      first | rfl | go_simp
    refine Steps.cons (fun x wf Kk hq hdep hold => ?_) ?_
    · try dsimp only
      have h7 : x 7 = (.pointer (some ⟨gb, 0, none⟩)) := hdep 7 (by kernel_rfl)
      have h6 : x 6 = (.bool true) := hdep 6 (by kernel_rfl)
      clear hq hdep hold
      simp only [h7, h6]
      clear h7 h6
      have c0 := Kk.undrew.cell cN.out id
      rw [if_pos (by rfl)]
      refine OpY.val (v := (.int .i64 1)) ?_ ⟨Kept.refl _ _, rfl⟩
      first | rfl | go_simp
    refine Steps.cons (fun x wf Kk hq hdep hold => ?_) ?_
    · try dsimp only
      have h8 : x 8 = (.int .i64 1) := hdep 8 (by kernel_rfl)
      have h6 : x 6 = (.bool true) := hdep 6 (by kernel_rfl)
      clear hq hdep hold
      simp only [h8, h6]
      clear h8 h6
      rw [if_pos (by rfl)]
      refine OpY.val (v := (.bool true)) ?_ ⟨Kept.refl _ _, rfl⟩
      first | rfl | go_simp
    refine Steps.cons (fun x wf Kk hq hdep hold => ?_) ?_
    · try dsimp only
      have h6 : x 6 = (.bool true) := hdep 6 (by kernel_rfl)
      have h9 : x 9 = (.bool true) := hdep 9 (by kernel_rfl)
      clear hq hdep hold
      simp only [h6, h9]
      clear h6 h9
      rw [if_pos (by rfl)]
      refine OpY.val (v := (.bool true)) ?_ ⟨Kept.refl _ _, rfl⟩
      first | rfl | go_simp
    refine Steps.cons (fun x wf Kk hq hdep hold => ?_) ?_
    · try dsimp only
      have h10 : x 10 = (.bool true) := hdep 10 (by kernel_rfl)
      clear hq hdep hold
      simp only [h10]
      clear h10
      rw [if_pos (by rfl)]
      refine OpY.val (v := (.bool true)) ?_ ⟨Kept.refl _ _, rfl⟩
      first | rfl | go_simp
    refine Steps.cons (fun x wf Kk hq hdep hold => ?_) ?_
    · try dsimp only
      have h11 : x 11 = (.bool true) := hdep 11 (by kernel_rfl)
      clear hq hdep hold
      simp only [h11]
      clear h11
      rw [if_pos (by rfl)]
      refine OpY.val (v := (.pointer (some ⟨gb, 3, none⟩))) ?_ ⟨Kept.refl _ _, rfl⟩
      first | rfl | go_simp
    refine Steps.cons (fun x wf Kk hq hdep hold => ?_) ?_
    · try dsimp only
      have h12 : x 12 = (.pointer (some ⟨gb, 3, none⟩)) := hdep 12 (by kernel_rfl)
      have h11 : x 11 = (.bool true) := hdep 11 (by kernel_rfl)
      clear hq hdep hold
      simp only [h12, h11]
      clear h12 h11
      rw [if_pos (by rfl)]
      exact OpY.row 26 (.tmp 36) rfl gb 3 rfl (HA.map B) _ (Kk.undrew.rng cP.out) Tryd.underlying26 rfl (infDl hh32.out) ⟨Kept.refl _ _, rfl⟩
    refine Steps.cons (fun x wf Kk hq hdep hold => ?_) ?_
    · try dsimp only
      have h11 : x 11 = (.bool true) := hdep 11 (by kernel_rfl)
      clear hq hdep hold
      simp only [h11]
      clear h11
      rw [if_pos (by rfl)]
      exact OpY.row 47 (.tmp 2) rfl ga 0 rfl (entC aw1 vr) _ (range_row (Kk.undrew.blk ga8.out)) Tryd.underlying47 rfl (infEl hok1.out) ⟨Kept.refl _ _, rfl⟩
    refine Steps.cons (fun x wf Kk hq hdep hold => ?_) ?_
    · try dsimp only
      have h14 : x 14 = (Ev aw1 vr) := hdep 14 (by kernel_rfl)
      have h11 : x 11 = (.bool true) := hdep 11 (by kernel_rfl)
      clear hq hdep hold
      simp only [h14, h11]
      clear h14 h11
      rw [if_pos (by rfl)]
      refine OpY.call (f := 33) (args := #[(Ev aw1 vr)]) (by go_simp) ?_
      refine (HHA.out wf Kk.undrew).mono ?_
      rintro e w2 ⟨rfl, k2⟩
      exact ⟨_, rfl, k2, rfl⟩
    refine Steps.cons (fun x wf Kk hq hdep hold => ?_) ?_
    · try dsimp only
      have h13 : x 13 = (Dg HA) := hdep 13 (by kernel_rfl)
      have h15 : x 15 = (Dg HA) := hdep 15 (by kernel_rfl)
      have h11 : x 11 = (.bool true) := hdep 11 (by kernel_rfl)
      clear hq hdep hold
      simp only [h13, h15, h11]
      clear h13 h15 h11
      rw [if_pos (by rfl)]
      refine OpY.val (v := (.bool true)) ?_ ⟨Kept.refl _ _, rfl⟩
      have heq' := heq
      unfold Dg at heq' ⊢
      generalize HA.map B = LL at heq' ⊢
      clear heq
      go_simp
    refine Steps.cons (fun x wf Kk hq hdep hold => ?_) ?_
    · try dsimp only
      have h11 : x 11 = (.bool true) := hdep 11 (by kernel_rfl)
      have h16 : x 16 = (.bool true) := hdep 16 (by kernel_rfl)
      clear hq hdep hold
      simp only [h11, h16]
      clear h11 h16
      rw [if_pos (by rfl)]
      refine OpY.val (v := (.bool true)) ?_ ⟨Kept.refl _ _, rfl⟩
      first | rfl | go_simp
    refine Steps.cons (fun x wf Kk hq hdep hold => ?_) ?_
    · try dsimp only
      have h17 : x 17 = (.bool true) := hdep 17 (by kernel_rfl)
      clear hq hdep hold
      simp only [h17]
      clear h17
      rw [if_pos (by rfl)]
      refine OpY.val (v := (.bool true)) ?_ ⟨Kept.refl _ _, rfl⟩
      first | rfl | go_simp
    refine Steps.cons (fun x wf Kk hq hdep hold => ?_) ?_
    · try dsimp only
      have h18 : x 18 = (.bool true) := hdep 18 (by kernel_rfl)
      clear hq hdep hold
      simp only [h18]
      clear h18
      rw [if_pos (by rfl)]
      refine OpY.val (v := (v8)) ?_ ⟨Kept.refl _ _, rfl⟩
      first | rfl | go_simp
    refine Steps.cons (fun x wf Kk hq hdep hold => ?_) ?_
    · try dsimp only
      have h19 : x 19 = (v8) := hdep 19 (by kernel_rfl)
      have h18 : x 18 = (.bool true) := hdep 18 (by kernel_rfl)
      clear hq hdep hold
      simp only [h19, h18]
      clear h19 h18
      rw [if_pos (by rfl)]
      refine OpY.call (f := 32) (args := #[(v8)]) (by go_simp) ?_
      refine (HCK.out wf Kk.undrew).mono ?_
      rintro e w2 ⟨rfl, k2⟩
      exact ⟨_, rfl, k2, rfl⟩
    refine Steps.cons (fun x wf Kk hq hdep hold => ?_) ?_
    · try dsimp only
      have h20 : x 20 = (.int .i64 ((2 : Nat) : Int)) := hdep 20 (by kernel_rfl)
      have h18 : x 18 = (.bool true) := hdep 18 (by kernel_rfl)
      clear hq hdep hold
      simp only [h20, h18]
      clear h20 h18
      rw [if_pos (by rfl)]
      refine OpY.val (v := (.bool true)) ?_ ⟨Kept.refl _ _, rfl⟩
      first | rfl | go_simp
    refine Steps.cons (fun x wf Kk hq hdep hold => ?_) ?_
    · try dsimp only
      have h18 : x 18 = (.bool true) := hdep 18 (by kernel_rfl)
      have h21 : x 21 = (.bool true) := hdep 21 (by kernel_rfl)
      clear hq hdep hold
      simp only [h18, h21]
      clear h18 h21
      rw [if_pos (by rfl)]
      refine OpY.val (v := (.bool true)) ?_ ⟨Kept.refl _ _, rfl⟩
      first | rfl | go_simp
    refine Steps.cons (fun x wf Kk hq hdep hold => ?_) ?_
    · try dsimp only
      have h22 : x 22 = (.bool true) := hdep 22 (by kernel_rfl)
      clear hq hdep hold
      simp only [h22]
      clear h22
      rw [if_pos (by rfl)]
      refine OpY.val (v := (.bool true)) ?_ ⟨Kept.refl _ _, rfl⟩
      first | rfl | go_simp
    refine Steps.cons (fun x wf Kk hq hdep hold => ?_) ?_
    · try dsimp only
      have h23 : x 23 = (.bool true) := hdep 23 (by kernel_rfl)
      clear hq hdep hold
      simp only [h23]
      clear h23
      rw [if_pos (by rfl)]
      refine OpY.val (v := (v8)) ?_ ⟨Kept.refl _ _, rfl⟩
      first | rfl | go_simp
    refine Steps.cons (fun x wf Kk hq hdep hold => ?_) ?_
    · try dsimp only
      have h24 : x 24 = (v8) := hdep 24 (by kernel_rfl)
      have h23 : x 23 = (.bool true) := hdep 23 (by kernel_rfl)
      clear hq hdep hold
      simp only [h24, h23]
      clear h24 h23
      rw [if_pos (by rfl)]
      refine OpY.call (f := 41) (args := #[(v8), (.int .i64 0)]) (by go_simp) ?_
      refine (HPR.out wf Kk.undrew).mono ?_
      rintro ed w2 ⟨v2, rfl, o2, k2, _⟩
      exact ⟨_, rfl, k2, own_RdD o2 hP32.out⟩
    refine Steps.cons (fun x wf Kk hq hdep hold => ?_) ?_
    · try dsimp only
      have p25 : Pr.p (Sl := (fun _ => no)) (RdDIs P) (x 25) wf := hdep 25 (by kernel_rfl)
      have h23 : x 23 = (.bool true) := hdep 23 (by kernel_rfl)
      clear hq hdep hold
      simp only [h23]
      clear h23
      rw [if_pos (by rfl)]
      obtain ⟨_, a7, c7, e7, _⟩ := p25.2
      rw [e7, hP1.out]
      refine OpY.val (v := (.int .i64 1)) ?_ ⟨Kept.refl _ _, rfl⟩
      go_simp
    refine Steps.cons (fun x wf Kk hq hdep hold => ?_) ?_
    · try dsimp only
      have h26 : x 26 = (.int .i64 1) := hdep 26 (by kernel_rfl)
      have h23 : x 23 = (.bool true) := hdep 23 (by kernel_rfl)
      clear hq hdep hold
      simp only [h26, h23]
      clear h26 h23
      rw [if_pos (by rfl)]
      refine OpY.val (v := (.bool true)) ?_ ⟨Kept.refl _ _, rfl⟩
      first | rfl | go_simp
    refine Steps.cons (fun x wf Kk hq hdep hold => ?_) ?_
    · try dsimp only
      have h23 : x 23 = (.bool true) := hdep 23 (by kernel_rfl)
      have h27 : x 27 = (.bool true) := hdep 27 (by kernel_rfl)
      clear hq hdep hold
      simp only [h23, h27]
      clear h23 h27
      rw [if_pos (by rfl)]
      refine OpY.val (v := (.bool true)) ?_ ⟨Kept.refl _ _, rfl⟩
      first | rfl | go_simp
    refine Steps.cons (fun x wf Kk hq hdep hold => ?_) ?_
    · try dsimp only
      have h28 : x 28 = (.bool true) := hdep 28 (by kernel_rfl)
      clear hq hdep hold
      simp only [h28]
      clear h28
      rw [if_pos (by rfl)]
      refine OpY.val (v := (.bool true)) ?_ ⟨Kept.refl _ _, rfl⟩
      first | rfl | go_simp
    refine Steps.cons (fun x wf Kk hq hdep hold => ?_) ?_
    · try dsimp only
      have h29 : x 29 = (.bool true) := hdep 29 (by kernel_rfl)
      clear hq hdep hold
      simp only [h29]
      clear h29
      rw [if_pos (by rfl)]
      refine OpY.val (v := (v8)) ?_ ⟨Kept.refl _ _, rfl⟩
      first | rfl | go_simp
    refine Steps.cons (fun x wf Kk hq hdep hold => ?_) ?_
    · try dsimp only
      have h30 : x 30 = (v8) := hdep 30 (by kernel_rfl)
      have h29 : x 29 = (.bool true) := hdep 29 (by kernel_rfl)
      clear hq hdep hold
      simp only [h30, h29]
      clear h30 h29
      rw [if_pos (by rfl)]
      refine OpY.call (f := 40) (args := #[(v8)]) (by go_simp) ?_
      refine (HRT.out wf Kk.undrew).mono ?_
      rintro e w2 ⟨rfl, k2⟩
      exact ⟨_, rfl, k2, rfl⟩
    refine Steps.cons (fun x wf Kk hq hdep hold => ?_) ?_
    · try dsimp only
      have h29 : x 29 = (.bool true) := hdep 29 (by kernel_rfl)
      clear hq hdep hold
      simp only [h29]
      clear h29
      rw [if_pos (by rfl)]
      exact OpY.row 47 (.tmp 2) rfl ga 0 rfl (entC aw1 vr) _ (range_row (Kk.undrew.blk ga8.out)) Tryd.underlying47 rfl (infEl hok1.out) ⟨Kept.refl _ _, rfl⟩
    refine Steps.cons (fun x wf Kk hq hdep hold => ?_) ?_
    · try dsimp only
      have h29 : x 29 = (.bool true) := hdep 29 (by kernel_rfl)
      clear hq hdep hold
      simp only [h29]
      clear h29
      rw [if_pos (by rfl)]
      refine OpY.val (v := (v8)) ?_ ⟨Kept.refl _ _, rfl⟩
      first | rfl | go_simp
    refine Steps.cons (fun x wf Kk hq hdep hold => ?_) ?_
    · try dsimp only
      have h33 : x 33 = (v8) := hdep 33 (by kernel_rfl)
      have h29 : x 29 = (.bool true) := hdep 29 (by kernel_rfl)
      clear hq hdep hold
      simp only [h33, h29]
      clear h33 h29
      rw [if_pos (by rfl)]
      refine OpY.call (f := 41) (args := #[(v8), (.int .i64 0)]) (by go_simp) ?_
      refine (HPR.out wf Kk.undrew).mono ?_
      rintro ed w2 ⟨v2, rfl, o2, k2, _⟩
      exact ⟨_, rfl, k2, own_RdD o2 hP32.out⟩
    refine Steps.cons (fun x wf Kk hq hdep hold => ?_) ?_
    · try dsimp only
      have h31 : x 31 = (Dg R) := hdep 31 (by kernel_rfl)
      have h32 : x 32 = (Ev aw1 vr) := hdep 32 (by kernel_rfl)
      have p34 : Pr.p (Sl := (fun _ => no)) (RdDIs P) (x 34) wf := hdep 34 (by kernel_rfl)
      have h29 : x 29 = (.bool true) := hdep 29 (by kernel_rfl)
      clear hq hdep hold
      simp only [h31, h32, h29]
      clear h31 h32 h29
      rw [if_pos (by rfl)]
      refine OpY.call (f := 37) (args := #[(Dg R), (.int .i64 2), (.int .i64 0), (Ev aw1 vr), x 34]) (by go_simp) ?_
      refine (HIN.out wf _ Kk.undrew p34).mono ?_
      rintro e w2 ⟨rfl, k2⟩
      exact ⟨_, rfl, k2, rfl⟩
    refine Steps.cons (fun x wf Kk hq hdep hold => ?_) ?_
    · try dsimp only
      have h29 : x 29 = (.bool true) := hdep 29 (by kernel_rfl)
      have h35 : x 35 = (.bool true) := hdep 35 (by kernel_rfl)
      clear hq hdep hold
      simp only [h29, h35]
      clear h29 h35
      rw [if_pos (by rfl)]
      refine OpY.val (v := (.bool true)) ?_ ⟨Kept.refl _ _, rfl⟩
      first | rfl | go_simp
    refine Steps.cons (fun x wf Kk hq hdep hold => ?_) ?_
    · try dsimp only
      have h36 : x 36 = (.bool true) := hdep 36 (by kernel_rfl)
      clear hq hdep hold
      simp only [h36]
      clear h36
      rw [if_pos (by rfl)]
      refine OpY.val (v := (.bool true)) ?_ ⟨Kept.refl _ _, rfl⟩
      first | rfl | go_simp
    exact Steps.nil _
  · intro x wf Kk hv
    try dsimp only
    have h0 : x 0 = (.int .i64 0) := hv 0 (by kernel_rfl)
    have h1 : x 1 = (.bool true) := hv 1 (by kernel_rfl)
    have h2 : x 2 = (.bool true) := hv 2 (by kernel_rfl)
    have h3 : x 3 = (.int .i64 0) := hv 3 (by kernel_rfl)
    have h4 : x 4 = (.bool true) := hv 4 (by kernel_rfl)
    have h5 : x 5 = (.bool true) := hv 5 (by kernel_rfl)
    have h6 : x 6 = (.bool true) := hv 6 (by kernel_rfl)
    have h7 : x 7 = (.pointer (some ⟨gb, 0, none⟩)) := hv 7 (by kernel_rfl)
    have h8 : x 8 = (.int .i64 1) := hv 8 (by kernel_rfl)
    have h9 : x 9 = (.bool true) := hv 9 (by kernel_rfl)
    have h10 : x 10 = (.bool true) := hv 10 (by kernel_rfl)
    have h11 : x 11 = (.bool true) := hv 11 (by kernel_rfl)
    have h12 : x 12 = (.pointer (some ⟨gb, 3, none⟩)) := hv 12 (by kernel_rfl)
    have h13 : x 13 = (Dg HA) := hv 13 (by kernel_rfl)
    have h14 : x 14 = (Ev aw1 vr) := hv 14 (by kernel_rfl)
    have h15 : x 15 = (Dg HA) := hv 15 (by kernel_rfl)
    have h16 : x 16 = (.bool true) := hv 16 (by kernel_rfl)
    have h17 : x 17 = (.bool true) := hv 17 (by kernel_rfl)
    have h18 : x 18 = (.bool true) := hv 18 (by kernel_rfl)
    have h19 : x 19 = (v8) := hv 19 (by kernel_rfl)
    have h20 : x 20 = (.int .i64 ((2 : Nat) : Int)) := hv 20 (by kernel_rfl)
    have h21 : x 21 = (.bool true) := hv 21 (by kernel_rfl)
    have h22 : x 22 = (.bool true) := hv 22 (by kernel_rfl)
    have h23 : x 23 = (.bool true) := hv 23 (by kernel_rfl)
    have h24 : x 24 = (v8) := hv 24 (by kernel_rfl)
    have p25 : Pr.p (Sl := (fun _ => no)) (RdDIs P) (x 25) wf := hv 25 (by kernel_rfl)
    have h26 : x 26 = (.int .i64 1) := hv 26 (by kernel_rfl)
    have h27 : x 27 = (.bool true) := hv 27 (by kernel_rfl)
    have h28 : x 28 = (.bool true) := hv 28 (by kernel_rfl)
    have h29 : x 29 = (.bool true) := hv 29 (by kernel_rfl)
    have h30 : x 30 = (v8) := hv 30 (by kernel_rfl)
    have h31 : x 31 = (Dg R) := hv 31 (by kernel_rfl)
    have h32 : x 32 = (Ev aw1 vr) := hv 32 (by kernel_rfl)
    have h33 : x 33 = (v8) := hv 33 (by kernel_rfl)
    have p34 : Pr.p (Sl := (fun _ => no)) (RdDIs P) (x 34) wf := hv 34 (by kernel_rfl)
    have h35 : x 35 = (.bool true) := hv 35 (by kernel_rfl)
    have h36 : x 36 = (.bool true) := hv 36 (by kernel_rfl)
    have h37 : x 37 = (.bool true) := hv 37 (by kernel_rfl)
    clear hv
    simp only [h0, h1, h2, h3, h4, h5, h6, h7, h8, h9, h10, h11, h12, h13, h14, h15, h16, h17, h18, h19, h20, h21, h22, h23, h24, h26, h27, h28, h29, h30, h31, h32, h33, h35, h36, h37]
    clear h0 h1 h2 h3 h4 h5 h6 h7 h8 h9 h10 h11 h12 h13 h14 h15 h16 h17 h18 h19 h20 h21 h22 h23 h24 h26 h27 h28 h29 h30 h31 h32 h33 h35 h36 h37
    have kz := hid (K8.out.trans' Kk.undrew)
    clear Kk
    go_wp2_with fail
    go_ret
    exact ⟨rfl, kz.out⟩
end Go.Proofs.YtknbkhmpnanegaaDoor
