/- margin's tree.add (printed by gen_tadd.py). -/
import Derived.Test.YtkdmlakookgolaaTreeZ
import Derived.Test.YtkdmlakookgolaaMTailZ
namespace Go.Proofs.Ytkdmlakookgolaa
open Go.RowKit Go.Mk Go.Pil Go.Mg
def PPush {Sl : Nat → Nat → Prop} (w1 : World) (gt gv : Nat) (vn : Value) (q : List (Nd × Value)) (h : List Nat) (x : Nat) : Pr Sl :=
  soft (fun _ w => ∃ ve' h', TreeS w1 w gt gv vn q ve' h' ∧ h'.Perm (h ++ [x]) ∧ IsHeap (nds q) h') fun _ _ _ ⟨ve', h', T, h1, h2⟩ k => ⟨ve', h', T.keptNo k, h1, h2⟩
/-- What add may turn. -/
def SA (gt : Nat) (vn ve : Value) : Nat → Prop := fun k => k = gt ∨ vn.ownBlock = some k ∨ ve.ownBlock = some k
/-- What add ends with. -/
def AddR (w1 w w' : World) (gt gv : Nat) (vn : Value) (q : List (Nd × Value)) (ve : Value) (h : List Nat) (x : Nd) : Prop :=
  ∃ a vn' ve' h', TreeS w1 w' gt gv vn' (q ++ [(x, a)]) ve' h' ∧ h'.Perm (h ++ [q.length]) ∧ IsHeap (nds q ++ [x]) h' ∧ Kept (SA gt vn ve) w w' ∧ ∀ j, vn'.ownBlock = some j → vn.ownBlock = some j ∨ w.heap.size ≤ j
theorem nds_snoc (q : List (Nd × Value)) (x : Nd) (a : Value) : nds (q ++ [(x, a)]) = nds q ++ [x] := by simp [nds]
set_option maxRecDepth 100000 in
set_option maxHeartbeats 4000000 in
theorem tadd_root (N c : Nat) (vg : Value) (ps : List (Grp × Value)) (w1 w : World) (gt gv : Nat) (vn : Value) (q : List (Nd × Value)) (ve : Value) (h : List Nat) (T : TreeS w1 w gt gv vn q ve h) (hh : ∀ k ∈ h, k < q.length) (hH : IsHeap (nds q) h) (hl : h.length ≤ 10000) (hql : q.length ≤ 10000)
    (hr : RdG w vg ps) (hB : 0 ≤ tailB (N : Int) (grps ps) [(c : Int)]) :
    Calls Try.prog 84 #[.pointer (some ⟨gt, 0, none⟩), .int .i64 (N : Int), vg, .int .i64 (-1), .int .i64 (c : Int)] w fun e w' => e = .returned (.tuple #[]) ∧ AddR w1 w w' gt gv vn q ve h ⟨-1, [(c : Int)], tailB (N : Int) (grps ps) [(c : Int)], true⟩ := by
  (obtain ⟨w2, hw2, g2, k2⟩ := alloc_named w (.cells #[.int .i64 (c : Int)] 3)); (have ho2 : Hd (w2.ownsRow 0 3 1 (.slice (some ⟨w.heap.size, 0, none⟩) 1 1) 1 [.int .i64 (c : Int)]) := ⟨⟨rfl, .inr ⟨w.heap.size, 1, #[.int .i64 (c : Int)], rfl, Nat.zero_le _, g2, Nat.le_refl _, by decide, rfl, rfl⟩⟩⟩); (have HT := hid (mtail_any (N : Int) vg (.slice (some ⟨w.heap.size, 0, none⟩) 1 1) ps [(c : Int)] w2 (hr.kept k2) (Rd.of_own ho2.out))); (obtain ⟨B, hBe⟩ : ∃ B, tailB (N : Int) (grps ps) [(c : Int)] = B := ⟨_, rfl⟩); (rw [hBe] at HT hB ⊢); (replace hw2 := hid hw2); (replace k2 := hid k2)
  have hown : Hd (∀ j, (Value.slice (some ⟨w.heap.size, 0, none⟩) 1 1).ownBlock = some j → w.heap.size ≤ j) := ⟨fun j hj => by
    have : w.heap.size = j := by simpa [Value.ownBlock] using hj
    omega⟩
  (have hws := hid (show w.heap.size ≤ w.heap.size from Nat.le_refl _)); (obtain ⟨ag, cg, rfl, _, _⟩ := hr.shape); (replace T := hid T); (clear hBe hr g2)
  go_enter Try.func84, Try.ntmps84
  (go_wp2_with fail); (rw [← hw2.out]); (refine HT.out.mono ?_); (rintro e w3 ⟨rfl, k3⟩); (obtain ⟨WS, hWS⟩ : ∃ k, w.heap.size = k := ⟨_, rfl⟩); (rw [hWS] at ho2 hown ⊢); (replace hWS := hid hWS); (have hk23 := hid (k2.out.trans' k3)); (have ho3 := hid (k3.ownsRow ho2.out fun _ _ => id)); (obtain ⟨c0, _, _⟩ := slot2 (hk23.out.blk T.out.blk)); (have f0 : w3.frozen? ⟨gt, 0, none⟩ = false := row_free (hk23.out.blk T.out.blk) 0); (have hO := hid (T.out.own.keptNo hk23.out)); (have hm1 : (if (0 : Int) < B then B else 0) = B := by split <;> omega); (have hm2 : (if B < (0 : Int) then 0 else B) = B := by split <;> omega); (have hm3 : max (0 : Int) B = B := by omega); (have hk := hid hk23.out); (obtain ⟨_, an, cn, rfl, _⟩ := Rd.of_own hO.out.own); (have hqm : Hd (q.length + 1 ≤ maxLen ∧ (q.length + 1) * 48 ≤ 140737488355328) := ⟨by have hm : maxLen = 9223372036854775807 := rfl; omega⟩); (go_wp2_with (at_builtin; refine wpList_append_lit _ rfl _ _ 23 rfl 76 4 48 TNodes _ _ _ rfl hO.out.own 1 (ndC ((⟨-1, [(c : Int)], B, true⟩ : Nd), (Value.slice (some ⟨WS, 0, none⟩) 1 1))) rfl rfl ?c1 ?c2 ?c3 ?_))
  case c1 => intro u hu; simp [ndC] at hu; rcases hu with rfl | rfl | rfl | rfl <;> rfl
  case c2 => exact hqm.out.1
  case c3 => exact hqm.out.2
  (intro v' w5 h5 h6 h7 _); (obtain ⟨_, a5, c5, rfl, _⟩ := Rd.of_own h5); (have hT6 := hid (T.out.node ((⟨-1, [(c : Int)], B, true⟩ : Nd), (Value.slice (some ⟨WS, 0, none⟩) 1 1)) hk.out ho3.out (fun j hj => by rw [hWS.out]; exact hown.out j hj) h5 h6 h7)); (have hb5 : w5.heap[gt]? = some (.cells #[(.slice an q.length cn), ve, lessV gv] 108 (0, 0)) := (h6.block _ (lt_of_heap (hk.out.blk T.out.blk)) fun e => own_ne hO.out.own (hk.out.blk T.out.blk) node_ne_tree _ e rfl).trans (hk.out.blk T.out.blk)); (obtain ⟨s0, _, _⟩ := slot2 hb5); (have f5 : w5.frozen? ⟨gt, 0, none⟩ = false := row_free hb5 0); (have hvn := hid (newOr_or h7 hk.out.size)); (have hK6 : Hd (Kept (SA gt (.slice an q.length cn) ve) w (w5.setCell ⟨gt, 0, none⟩ (.slice a5 (q.length + 1) c5))) := ⟨((hk.out.of_no (S := SA gt (.slice an q.length cn) ve)).trans h6 (fun k _ e => .inr (.inl e))).setCell (a := ⟨gt, 0, none⟩) (.inl (.inl rfl)) _⟩); (clear h5 h6 h7 hb5 hO hqm c0 f0 hm1 hm2 hm3 ho3 hown); (go_upto_region 7 with fail); (obtain ⟨w6, hw6⟩ : ∃ w6, w6 = w5.setCell ⟨gt, 0, none⟩ (.slice a5 (q.length + 1) c5) := ⟨_, rfl⟩); (rw [← hw6]); (rw [← hw6] at hT6 hK6); (have HP := hid (fun (W : World) (k : Kept no w6 W) => tpush_any w1 W gt gv _ _ ve h q.length (hT6.out.keptNo k) (by rw [List.length_append]; simp) (fun j hj => by rw [List.length_append]; have := hh j hj; omega) (by rw [nds_snoc]; exact heap_more hH (fun j hj => by rw [nds_length]; exact hh j hj) _) (by omega))); (obtain ⟨s6, _, _⟩ := slot2 hT6.out.blk); (obtain ⟨n1, hn1⟩ : ∃ n1, q.length + 1 = n1 := ⟨_, rfl⟩); (rw [hn1] at s6); (have hwn : IntKind.i64.wrap ((n1 : Int) - 1) = (q.length : Int) := by rw [IntWalk.i64_in _ (by omega)]; omega); (replace s6 := hid s6); (clear hw6 s0 f5 hT6 hn1 hh hH); (go_upto_region 7 with fail); (refine region_flow (S := (SQ gt ve)) (Sl := (fun _ => (SQ gt ve))) [Is (.pointer (some ⟨gt, 0, none⟩)), Is (.pointer (some ⟨gt, 0, none⟩)), Is (.pointer (some ⟨gt, 1, none⟩)), Is (.pointer (some ⟨gt, 0, none⟩)), Is (.pointer (some ⟨gt, 0, none⟩)), Is (.pointer (some ⟨gt, 0, none⟩)), Is (.slice a5 n1 c5), Is (.int .i64 (n1 : Int)), Is (.int .i64 (q.length : Int)), PPush w1 gt gv (.slice a5 (q.length + 1) c5) (q ++ [((⟨-1, [(c : Int)], B, true⟩ : Nd), (Value.slice (some ⟨WS, 0, none⟩) 1 1))]) h q.length] [9] (fun _ _ h => h) _ (by kernel_rfl) (by kernel_rfl) (by kernel_rfl) (by kernel_rfl) (fun x => by simp only [puts, Act.put, List.map_cons, List.map_nil, Nat.zero_add, Nat.reduceAdd, List.setIfInBounds_toArray, List.set_cons_zero, List.set_cons_succ]; exact rfl) ?_ ?_)
  · (skip); (refine .cons (fun x wf Kk hq hdep hold => ?_) ?_)
    · (try dsimp only); (clear hq hdep hold); (rw [if_pos (by rfl)]); (refine OpY.val ?_ ⟨Kept.refl _ _, rfl⟩); (first | rfl | go_simp)
    refine .cons (fun x wf Kk hq hdep hold => ?_) ?_
    · (try dsimp only); (have h0 : x 0 = _ := hdep 0 (by kernel_rfl)); (clear hq hdep hold); (simp only [h0]); (clear h0); (rw [if_pos (by rfl)]); (refine OpY.val ?_ ⟨Kept.refl _ _, rfl⟩); (first | rfl | go_simp)
    refine .cons (fun x wf Kk hq hdep hold => ?_) ?_
    · (try dsimp only); (have h1 : x 1 = _ := hdep 1 (by kernel_rfl)); (clear hq hdep hold); (simp only [h1]); (clear h1); (rw [if_pos (by rfl)]); (refine OpY.val ?_ ⟨Kept.refl _ _, rfl⟩); (first | rfl | go_simp)
    refine .cons (fun x wf Kk hq hdep hold => ?_) ?_
    · (try dsimp only); (clear hq hdep hold); (rw [if_pos (by rfl)]); (refine OpY.val ?_ ⟨Kept.refl _ _, rfl⟩); (first | rfl | go_simp)
    refine .cons (fun x wf Kk hq hdep hold => ?_) ?_
    · (try dsimp only); (have h3 : x 3 = _ := hdep 3 (by kernel_rfl)); (clear hq hdep hold); (simp only [h3]); (clear h3); (rw [if_pos (by rfl)]); (refine OpY.val ?_ ⟨Kept.refl _ _, rfl⟩); (first | rfl | go_simp)
    refine .cons (fun x wf Kk hq hdep hold => ?_) ?_
    · (try dsimp only); (have h4 : x 4 = _ := hdep 4 (by kernel_rfl)); (clear hq hdep hold); (simp only [h4]); (clear h4); (rw [if_pos (by rfl)]); (refine OpY.val ?_ ⟨Kept.refl _ _, rfl⟩); (first | rfl | go_simp)
    refine .cons (fun x wf Kk hq hdep hold => ?_) ?_
    · (try dsimp only); (have h5 : x 5 = _ := hdep 5 (by kernel_rfl)); (have Kq := hq no (fun j hj => by cases (show j ∈ ([] : List Nat) from by (have e : ∀ l : List Nat, l = [] → j ∈ l → j ∈ ([] : List Nat) := fun l h h2 => h ▸ h2); exact e _ (by kernel_rfl) hj))); (clear hq hdep hold); (simp only [h5]); (clear h5); (have m1 := Kq.undrew.cell s6.out id); (rw [if_pos (by rfl)]); (refine OpY.val ?_ ⟨Kept.refl _ _, rfl⟩); (first | rfl | go_simp)
    refine .cons (fun x wf Kk hq hdep hold => ?_) ?_
    · (try dsimp only); (have h6 : x 6 = _ := hdep 6 (by kernel_rfl)); (clear hq hdep hold); (simp only [h6]); (clear h6); (rw [if_pos (by rfl)]); (refine OpY.val ?_ ⟨Kept.refl _ _, rfl⟩); (first | rfl | go_simp)
    refine .cons (fun x wf Kk hq hdep hold => ?_) ?_
    · (try dsimp only); (have h7 : x 7 = _ := hdep 7 (by kernel_rfl)); (clear hq hdep hold); (simp only [h7]); (clear h7); (rw [if_pos (by rfl)]); (refine OpY.val ?_ ⟨Kept.refl _ _, rfl⟩); (first | rfl | go_simp)
    refine .cons (fun x wf Kk hq hdep hold => ?_) ?_
    · (try dsimp only); (have h2 : x 2 = _ := hdep 2 (by kernel_rfl)); (have h8 : x 8 = _ := hdep 8 (by kernel_rfl)); (have Kq := hq no (fun j hj => by cases (show j ∈ ([] : List Nat) from by (have e : ∀ l : List Nat, l = [] → j ∈ l → j ∈ ([] : List Nat) := fun l h h2 => h ▸ h2); exact e _ (by kernel_rfl) hj))); (clear hq hdep hold); (simp only [h2, h8]); (clear h2 h8); (rw [if_pos (by rfl)]); (refine OpY.call (f := 116) (args := #[(.pointer (some ⟨gt, 1, none⟩)), (.int .i64 (q.length : Int))]) (by go_simp) ?_); (refine (HP.out wf Kq.undrew).mono ?_); (rintro e w2 ⟨rfl, ve', h', t1, t2, t3, t4⟩); (exact ⟨_, rfl, t4, ve', h', t1, t2, t3⟩)
    exact .nil _
  · (intro x wf Kk hv); (try dsimp only); (have p9 : Pr.p (Sl := (fun _ => (SQ gt ve))) (PPush w1 gt gv (.slice a5 (q.length + 1) c5) (q ++ [((⟨-1, [(c : Int)], B, true⟩ : Nd), (Value.slice (some ⟨WS, 0, none⟩) 1 1))]) h q.length) (x 9) wf := hv 9 (by kernel_rfl)); (clear hv); (obtain ⟨ve', h', hT9, hp9, hh9⟩ := p9); (rw [nds_snoc] at hh9)
    have hK9 : Hd (Kept (SA gt (.slice an q.length cn) ve) w wf) := ⟨hK6.out.trans Kk.undrew fun k _ e => by
      rcases e with e | e
      · exact .inl e
      · exact .inr (.inr e)⟩
    (replace hT9 := hid hT9); (replace hp9 := hid hp9); (replace hh9 := hid hh9); (clear Kk hK6 HP s6); (go_wp2)
    go_end0
    exact ⟨rfl, (Value.slice (some ⟨WS, 0, none⟩) 1 1), _, ve', h', hT9.out, hp9.out, hh9.out, hK9.out, hvn.out⟩
set_option maxRecDepth 100000 in
set_option maxHeartbeats 4000000 in
theorem tadd_child (N c K : Nat) (vg : Value) (ps : List (Grp × Value)) (w1 w : World) (gt gv : Nat) (vn : Value) (q : List (Nd × Value)) (ve : Value) (h : List Nat) (T : TreeS w1 w gt gv vn q ve h) (hh : ∀ k ∈ h, k < q.length) (hH : IsHeap (nds q) h) (hl : h.length ≤ 10000) (hql : q.length ≤ 10000)
    (hr : RdG w vg ps) (hK : K < q.length) (x : Nd) (hx : (nds q).getD K default = x) (hxl : x.tail.length ≤ 100) :
    Calls Try.prog 84 #[.pointer (some ⟨gt, 0, none⟩), .int .i64 (N : Int), vg, .int .i64 (K : Int), .int .i64 (c : Int)] w fun e w' => e = .returned (.tuple #[]) ∧ AddR w1 w w' gt gv vn q ve h ⟨(K : Int), (c : Int) :: x.tail, max x.bd (tailB (N : Int) (grps ps) ((c : Int) :: x.tail)), true⟩ := by
  (obtain ⟨w2, hw2, g2, k2⟩ := alloc_named w (.cells #[.int .i64 (c : Int)] 3)); (have ho2 : Hd (w2.ownsRow 0 3 1 (.slice (some ⟨w.heap.size, 0, none⟩) 1 1) 1 [.int .i64 (c : Int)]) := ⟨⟨rfl, .inr ⟨w.heap.size, 1, #[.int .i64 (c : Int)], rfl, Nat.zero_le _, g2, Nat.le_refl _, by decide, rfl, rfl⟩⟩⟩); (obtain ⟨g, cap, rfl, hcap, _⟩ := T.own.shape (by omega)); (obtain ⟨b1, o1, y, tv, e1, hel, d0, d1, d2, d3, hz0⟩ := T.own.rd.at K hK)
  cases e1
  (have hxy := nds_at hK hel); (rw [hx] at hxy); (subst hxy); (simp only [Nat.zero_add] at d0 d1 d2 d3); (obtain ⟨ta, ct, rfl, _, _⟩ := Rd.shape2 hz0); (obtain ⟨c0, _, _⟩ := slot2 T.blk); (obtain ⟨n, hn⟩ : ∃ n, q.length = n := ⟨_, rfl⟩); (have hKi : (K : Int) < (n : Int) := by omega); (have hK0 : (0 : Int) ≤ (K : Int) := by omega); (have hHT := hid (fun (W : World) (k : Kept no w W) (vz : Value) (hz : RdZ W vz ((c : Int) :: x.tail)) => mtail_any (N : Int) vg vz ps ((c : Int) :: x.tail) W (hr.kept k) hz)); (obtain ⟨B, hBe⟩ : ∃ B, tailB (N : Int) (grps ps) ((c : Int) :: x.tail) = B := ⟨_, rfl⟩); (rw [hBe] at hHT ⊢); (have hsz : Hd (1 + x.tail.length ≤ maxLen ∧ (1 + x.tail.length) * 8 ≤ 140737488355328) := ⟨by have hm : maxLen = 9223372036854775807 := rfl; omega⟩); (obtain ⟨xb, hxb⟩ : ∃ b, x.bd = b := ⟨_, rfl⟩); (rw [hxb] at d2 ⊢); (obtain ⟨MB, hMB⟩ : ∃ b, max xb B = b := ⟨_, rfl⟩); (rw [hMB]); (obtain ⟨xt, hxt⟩ : ∃ t, x.tail = t := ⟨_, rfl⟩); (rw [hxt] at d1 hHT hsz hz0 ⊢); (have hz2 := hid (show Rd w2 1 (.slice ta xt.length ct) xt.length (xt.map Z) from (hz0.kept k2))); (obtain ⟨tl, htl⟩ : ∃ l, xt.length = l := ⟨_, rfl⟩); (rw [htl] at d1 hz2 hsz); (rw [hn] at c0 T hcap); (have c0a := k2.cell c0 id); (have d1a := k2.cell d1 id); (have d2z := hid d2); (have c0b := hid c0a); (replace hw2 := hid hw2); (replace k2 := hid k2); (replace hn := hid hn); (obtain ⟨ag, cg, rfl, _, _⟩ := hr.shape); (replace T := hid T); (replace htl := hid htl); (have hlt2 := hid (lt_of_heap g2)); (clear hBe hr g2 hz0 hel hxt hxb hx c0 d0 d1 d2 d3)
  go_enter Try.func84, Try.ntmps84
  (go_upto_region 3 with fail); (rw [← hw2.out]); (go_wp2_with (at_builtin; refine wpList_append _ rfl _ _ 40 rfl 3 1 8 TInts _ 1 [.int .i64 (c : Int)] rfl ho2.out _ tl (xt.map Z) rfl hz2.out (Z_oneF xt) hsz.out.1 hsz.out.2 ?_)); (intro va w3 h2 h3 h4 _)
  have hown : Hd (∀ j, va.ownBlock = some j → w.heap.size ≤ j) := ⟨fun j hj => by
    rcases h4 with h | ⟨i, hi, hl⟩
    · have : w.heap.size = j := by have := h.symm.trans hj; simpa [Value.ownBlock] using this
      omega
    · have : i = j := by have := hi.symm.trans hj; simpa using this
      have := k2.out.size; omega⟩
  have k23 : Kept no w w3 := k2.out.trans h3 (fun k hk e => by
    have : w.heap.size = k := by simpa [ob, Value.ownBlock] using e
    omega)
  (have hoz : Hd (w3.ownsRow 0 3 1 va ((c : Int) :: xt).length (((c : Int) :: xt).map Z)) := ⟨by rw [List.length_cons, htl.out, Nat.add_comm]; exact h2⟩); (obtain ⟨_, aa, ca, rfl, _⟩ := Rd.of_own hoz.out); (obtain ⟨al, hal⟩ : ∃ l, ((c : Int) :: xt).length = l := ⟨_, rfl⟩); (have HT := hid (hHT.out w3 k23 _ (Rd.of_own hoz.out))); (rw [hal] at hoz hown h2 HT h4 ⊢); (have hk23 := hid k23); (obtain ⟨c0, _, _⟩ := slot2 (k23.blk T.out.blk)); (have d2 := hk23.out.cell d2z.out id); (clear h2 h3 h4 c0a d1a c0b k23 ho2 hz2 hsz hHT); (go_wp2_with fail); (refine HT.out.mono ?_); (rintro e w4 ⟨rfl, k4⟩); (have hk := hid (hk23.out.trans' k4)); (have ho3 : Hd (w4.ownsRow 0 3 1 (.slice aa al ca) ((c : Int) :: xt).length (((c : Int) :: xt).map Z)) := ⟨by rw [hal]; exact k4.ownsRow hoz.out fun _ _ => id⟩); (have hO := hid (T.out.own.keptNo hk.out)); (obtain ⟨c4, _, _⟩ := slot2 (hk.out.blk T.out.blk)); (have f4 : w4.frozen? ⟨gt, 0, none⟩ = false := row_free (hk.out.blk T.out.blk) 0); (replace hal := hid hal); (clear hk23 hoz HT c0 d2 k4)
  by_cases hbx : xb < B
  · (have hmx : MB = B := by omega); (have hmd : decide (xb < B) = true := decide_eq_true hbx); (subst hmx); (clear hMB); (have hqm : Hd (q.length + 1 ≤ maxLen ∧ (q.length + 1) * 48 ≤ 140737488355328) := ⟨by have hm : maxLen = 9223372036854775807 := rfl; omega⟩); (go_wp2_with (at_builtin; refine wpList_append_lit _ rfl _ _ 23 rfl 76 4 48 TNodes _ _ _ rfl hO.out.own 1 (ndC ((⟨(K : Int), (c : Int) :: xt, MB, true⟩ : Nd), (Value.slice aa al ca))) rfl rfl ?c1 ?c2 ?c3 ?_))
    case c1 => intro u hu; simp [ndC] at hu; rcases hu with rfl | rfl | rfl | rfl <;> rfl
    case c2 => exact hqm.out.1
    case c3 => exact hqm.out.2
    (intro v' w5 h5 h6 h7 _); (obtain ⟨_, a5, c5, rfl, _⟩ := Rd.of_own h5); (have hT6 := hid (T.out.node ((⟨(K : Int), (c : Int) :: xt, MB, true⟩ : Nd), (Value.slice aa al ca)) hk.out ho3.out hown.out h5 h6 h7)); (have hb5 : w5.heap[gt]? = some (.cells #[(.slice (some ⟨g, 0, none⟩) n cap), ve, lessV gv] 108 (0, 0)) := (h6.block _ (lt_of_heap (hk.out.blk T.out.blk)) fun e => own_ne hO.out.own (hk.out.blk T.out.blk) node_ne_tree _ e rfl).trans (hk.out.blk T.out.blk)); (obtain ⟨s0, _, _⟩ := slot2 hb5); (have f5 : w5.frozen? ⟨gt, 0, none⟩ = false := row_free hb5 0); (have hvn := hid (newOr_or h7 hk.out.size)); (have hK6 : Hd (Kept (SA gt (.slice (some ⟨g, 0, none⟩) n cap) ve) w (w5.setCell ⟨gt, 0, none⟩ (.slice a5 (q.length + 1) c5))) := ⟨((hk.out.of_no (S := SA gt (.slice (some ⟨g, 0, none⟩) n cap) ve)).trans h6 (fun k _ e => .inr (.inl e))).setCell (a := ⟨gt, 0, none⟩) (.inl (.inl rfl)) _⟩); (clear h5 h6 h7 hb5 hO hqm c4 f4 ho3 hown); (go_upto_region 7 with fail); (obtain ⟨w6, hw6⟩ : ∃ w6, w6 = w5.setCell ⟨gt, 0, none⟩ (.slice a5 (q.length + 1) c5) := ⟨_, rfl⟩); (rw [← hw6]); (rw [← hw6] at hT6 hK6); (have HP := hid (fun (W : World) (k : Kept no w6 W) => tpush_any w1 W gt gv _ _ ve h q.length (hT6.out.keptNo k) (by rw [List.length_append]; simp) (fun j hj => by rw [List.length_append]; have := hh j hj; omega) (by rw [nds_snoc]; exact heap_more hH (fun j hj => by rw [nds_length]; exact hh j hj) _) (by omega))); (obtain ⟨s6, _, _⟩ := slot2 hT6.out.blk); (obtain ⟨n1, hn1⟩ : ∃ n1, q.length + 1 = n1 := ⟨_, rfl⟩); (rw [hn1] at s6); (have hwn : IntKind.i64.wrap ((n1 : Int) - 1) = (q.length : Int) := by rw [IntWalk.i64_in _ (by omega)]; omega); (replace s6 := hid s6); (clear hw6 s0 f5 hT6 hn1 hh hH); (go_upto_region 7 with fail); (refine region_flow (S := (SQ gt ve)) (Sl := (fun _ => (SQ gt ve))) [Is (.pointer (some ⟨gt, 0, none⟩)), Is (.pointer (some ⟨gt, 0, none⟩)), Is (.pointer (some ⟨gt, 1, none⟩)), Is (.pointer (some ⟨gt, 0, none⟩)), Is (.pointer (some ⟨gt, 0, none⟩)), Is (.pointer (some ⟨gt, 0, none⟩)), Is (.slice a5 n1 c5), Is (.int .i64 (n1 : Int)), Is (.int .i64 (q.length : Int)), PPush w1 gt gv (.slice a5 (q.length + 1) c5) (q ++ [((⟨(K : Int), (c : Int) :: xt, MB, true⟩ : Nd), (Value.slice aa al ca))]) h q.length] [9] (fun _ _ h => h) _ (by kernel_rfl) (by kernel_rfl) (by kernel_rfl) (by kernel_rfl) (fun x => by simp only [puts, Act.put, List.map_cons, List.map_nil, Nat.zero_add, Nat.reduceAdd, List.setIfInBounds_toArray, List.set_cons_zero, List.set_cons_succ]; exact rfl) ?_ ?_)
    · (skip); (refine .cons (fun x wf Kk hq hdep hold => ?_) ?_)
      · (try dsimp only); (clear hq hdep hold); (rw [if_pos (by rfl)]); (refine OpY.val ?_ ⟨Kept.refl _ _, rfl⟩); (first | rfl | go_simp)
      refine .cons (fun x wf Kk hq hdep hold => ?_) ?_
      · (try dsimp only); (have h0 : x 0 = _ := hdep 0 (by kernel_rfl)); (clear hq hdep hold); (simp only [h0]); (clear h0); (rw [if_pos (by rfl)]); (refine OpY.val ?_ ⟨Kept.refl _ _, rfl⟩); (first | rfl | go_simp)
      refine .cons (fun x wf Kk hq hdep hold => ?_) ?_
      · (try dsimp only); (have h1 : x 1 = _ := hdep 1 (by kernel_rfl)); (clear hq hdep hold); (simp only [h1]); (clear h1); (rw [if_pos (by rfl)]); (refine OpY.val ?_ ⟨Kept.refl _ _, rfl⟩); (first | rfl | go_simp)
      refine .cons (fun x wf Kk hq hdep hold => ?_) ?_
      · (try dsimp only); (clear hq hdep hold); (rw [if_pos (by rfl)]); (refine OpY.val ?_ ⟨Kept.refl _ _, rfl⟩); (first | rfl | go_simp)
      refine .cons (fun x wf Kk hq hdep hold => ?_) ?_
      · (try dsimp only); (have h3 : x 3 = _ := hdep 3 (by kernel_rfl)); (clear hq hdep hold); (simp only [h3]); (clear h3); (rw [if_pos (by rfl)]); (refine OpY.val ?_ ⟨Kept.refl _ _, rfl⟩); (first | rfl | go_simp)
      refine .cons (fun x wf Kk hq hdep hold => ?_) ?_
      · (try dsimp only); (have h4 : x 4 = _ := hdep 4 (by kernel_rfl)); (clear hq hdep hold); (simp only [h4]); (clear h4); (rw [if_pos (by rfl)]); (refine OpY.val ?_ ⟨Kept.refl _ _, rfl⟩); (first | rfl | go_simp)
      refine .cons (fun x wf Kk hq hdep hold => ?_) ?_
      · (try dsimp only); (have h5 : x 5 = _ := hdep 5 (by kernel_rfl)); (have Kq := hq no (fun j hj => by cases (show j ∈ ([] : List Nat) from by (have e : ∀ l : List Nat, l = [] → j ∈ l → j ∈ ([] : List Nat) := fun l h h2 => h ▸ h2); exact e _ (by kernel_rfl) hj))); (clear hq hdep hold); (simp only [h5]); (clear h5); (have m1 := Kq.undrew.cell s6.out id); (rw [if_pos (by rfl)]); (refine OpY.val ?_ ⟨Kept.refl _ _, rfl⟩); (first | rfl | go_simp)
      refine .cons (fun x wf Kk hq hdep hold => ?_) ?_
      · (try dsimp only); (have h6 : x 6 = _ := hdep 6 (by kernel_rfl)); (clear hq hdep hold); (simp only [h6]); (clear h6); (rw [if_pos (by rfl)]); (refine OpY.val ?_ ⟨Kept.refl _ _, rfl⟩); (first | rfl | go_simp)
      refine .cons (fun x wf Kk hq hdep hold => ?_) ?_
      · (try dsimp only); (have h7 : x 7 = _ := hdep 7 (by kernel_rfl)); (clear hq hdep hold); (simp only [h7]); (clear h7); (rw [if_pos (by rfl)]); (refine OpY.val ?_ ⟨Kept.refl _ _, rfl⟩); (first | rfl | go_simp)
      refine .cons (fun x wf Kk hq hdep hold => ?_) ?_
      · (try dsimp only); (have h2 : x 2 = _ := hdep 2 (by kernel_rfl)); (have h8 : x 8 = _ := hdep 8 (by kernel_rfl)); (have Kq := hq no (fun j hj => by cases (show j ∈ ([] : List Nat) from by (have e : ∀ l : List Nat, l = [] → j ∈ l → j ∈ ([] : List Nat) := fun l h h2 => h ▸ h2); exact e _ (by kernel_rfl) hj))); (clear hq hdep hold); (simp only [h2, h8]); (clear h2 h8); (rw [if_pos (by rfl)]); (refine OpY.call (f := 116) (args := #[(.pointer (some ⟨gt, 1, none⟩)), (.int .i64 (q.length : Int))]) (by go_simp) ?_); (refine (HP.out wf Kq.undrew).mono ?_); (rintro e w2 ⟨rfl, ve', h', t1, t2, t3, t4⟩); (exact ⟨_, rfl, t4, ve', h', t1, t2, t3⟩)
      exact .nil _
    · (intro x wf Kk hv); (try dsimp only); (have p9 : Pr.p (Sl := (fun _ => (SQ gt ve))) (PPush w1 gt gv (.slice a5 (q.length + 1) c5) (q ++ [((⟨(K : Int), (c : Int) :: xt, MB, true⟩ : Nd), (Value.slice aa al ca))]) h q.length) (x 9) wf := hv 9 (by kernel_rfl)); (clear hv); (obtain ⟨ve', h', hT9, hp9, hh9⟩ := p9); (rw [nds_snoc] at hh9)
      have hK9 : Hd (Kept (SA gt (.slice (some ⟨g, 0, none⟩) n cap) ve) w wf) := ⟨hK6.out.trans Kk.undrew fun k _ e => by
        rcases e with e | e
        · exact .inl e
        · exact .inr (.inr e)⟩
      (replace hT9 := hid hT9); (replace hp9 := hid hp9); (replace hh9 := hid hh9); (clear Kk hK6 HP s6); (go_wp2)
      go_end0
      exact ⟨rfl, (Value.slice aa al ca), _, ve', h', hT9.out, hp9.out, hh9.out, hK9.out, hvn.out⟩
  · (have hmx : MB = xb := by omega); (have hmd : decide (xb < B) = false := decide_eq_false hbx); (subst hmx); (clear hMB); (have hqm : Hd (q.length + 1 ≤ maxLen ∧ (q.length + 1) * 48 ≤ 140737488355328) := ⟨by have hm : maxLen = 9223372036854775807 := rfl; omega⟩); (go_wp2_with (at_builtin; refine wpList_append_lit _ rfl _ _ 23 rfl 76 4 48 TNodes _ _ _ rfl hO.out.own 1 (ndC ((⟨(K : Int), (c : Int) :: xt, MB, true⟩ : Nd), (Value.slice aa al ca))) rfl rfl ?c1 ?c2 ?c3 ?_))
    case c1 => intro u hu; simp [ndC] at hu; rcases hu with rfl | rfl | rfl | rfl <;> rfl
    case c2 => exact hqm.out.1
    case c3 => exact hqm.out.2
    (intro v' w5 h5 h6 h7 _); (obtain ⟨_, a5, c5, rfl, _⟩ := Rd.of_own h5); (have hT6 := hid (T.out.node ((⟨(K : Int), (c : Int) :: xt, MB, true⟩ : Nd), (Value.slice aa al ca)) hk.out ho3.out hown.out h5 h6 h7)); (have hb5 : w5.heap[gt]? = some (.cells #[(.slice (some ⟨g, 0, none⟩) n cap), ve, lessV gv] 108 (0, 0)) := (h6.block _ (lt_of_heap (hk.out.blk T.out.blk)) fun e => own_ne hO.out.own (hk.out.blk T.out.blk) node_ne_tree _ e rfl).trans (hk.out.blk T.out.blk)); (obtain ⟨s0, _, _⟩ := slot2 hb5); (have f5 : w5.frozen? ⟨gt, 0, none⟩ = false := row_free hb5 0); (have hvn := hid (newOr_or h7 hk.out.size)); (have hK6 : Hd (Kept (SA gt (.slice (some ⟨g, 0, none⟩) n cap) ve) w (w5.setCell ⟨gt, 0, none⟩ (.slice a5 (q.length + 1) c5))) := ⟨((hk.out.of_no (S := SA gt (.slice (some ⟨g, 0, none⟩) n cap) ve)).trans h6 (fun k _ e => .inr (.inl e))).setCell (a := ⟨gt, 0, none⟩) (.inl (.inl rfl)) _⟩); (clear h5 h6 h7 hb5 hO hqm c4 f4 ho3 hown); (go_upto_region 7 with fail); (obtain ⟨w6, hw6⟩ : ∃ w6, w6 = w5.setCell ⟨gt, 0, none⟩ (.slice a5 (q.length + 1) c5) := ⟨_, rfl⟩); (rw [← hw6]); (rw [← hw6] at hT6 hK6); (have HP := hid (fun (W : World) (k : Kept no w6 W) => tpush_any w1 W gt gv _ _ ve h q.length (hT6.out.keptNo k) (by rw [List.length_append]; simp) (fun j hj => by rw [List.length_append]; have := hh j hj; omega) (by rw [nds_snoc]; exact heap_more hH (fun j hj => by rw [nds_length]; exact hh j hj) _) (by omega))); (obtain ⟨s6, _, _⟩ := slot2 hT6.out.blk); (obtain ⟨n1, hn1⟩ : ∃ n1, q.length + 1 = n1 := ⟨_, rfl⟩); (rw [hn1] at s6); (have hwn : IntKind.i64.wrap ((n1 : Int) - 1) = (q.length : Int) := by rw [IntWalk.i64_in _ (by omega)]; omega); (replace s6 := hid s6); (clear hw6 s0 f5 hT6 hn1 hh hH); (go_upto_region 7 with fail); (refine region_flow (S := (SQ gt ve)) (Sl := (fun _ => (SQ gt ve))) [Is (.pointer (some ⟨gt, 0, none⟩)), Is (.pointer (some ⟨gt, 0, none⟩)), Is (.pointer (some ⟨gt, 1, none⟩)), Is (.pointer (some ⟨gt, 0, none⟩)), Is (.pointer (some ⟨gt, 0, none⟩)), Is (.pointer (some ⟨gt, 0, none⟩)), Is (.slice a5 n1 c5), Is (.int .i64 (n1 : Int)), Is (.int .i64 (q.length : Int)), PPush w1 gt gv (.slice a5 (q.length + 1) c5) (q ++ [((⟨(K : Int), (c : Int) :: xt, MB, true⟩ : Nd), (Value.slice aa al ca))]) h q.length] [9] (fun _ _ h => h) _ (by kernel_rfl) (by kernel_rfl) (by kernel_rfl) (by kernel_rfl) (fun x => by simp only [puts, Act.put, List.map_cons, List.map_nil, Nat.zero_add, Nat.reduceAdd, List.setIfInBounds_toArray, List.set_cons_zero, List.set_cons_succ]; exact rfl) ?_ ?_)
    · (skip); (refine .cons (fun x wf Kk hq hdep hold => ?_) ?_)
      · (try dsimp only); (clear hq hdep hold); (rw [if_pos (by rfl)]); (refine OpY.val ?_ ⟨Kept.refl _ _, rfl⟩); (first | rfl | go_simp)
      refine .cons (fun x wf Kk hq hdep hold => ?_) ?_
      · (try dsimp only); (have h0 : x 0 = _ := hdep 0 (by kernel_rfl)); (clear hq hdep hold); (simp only [h0]); (clear h0); (rw [if_pos (by rfl)]); (refine OpY.val ?_ ⟨Kept.refl _ _, rfl⟩); (first | rfl | go_simp)
      refine .cons (fun x wf Kk hq hdep hold => ?_) ?_
      · (try dsimp only); (have h1 : x 1 = _ := hdep 1 (by kernel_rfl)); (clear hq hdep hold); (simp only [h1]); (clear h1); (rw [if_pos (by rfl)]); (refine OpY.val ?_ ⟨Kept.refl _ _, rfl⟩); (first | rfl | go_simp)
      refine .cons (fun x wf Kk hq hdep hold => ?_) ?_
      · (try dsimp only); (clear hq hdep hold); (rw [if_pos (by rfl)]); (refine OpY.val ?_ ⟨Kept.refl _ _, rfl⟩); (first | rfl | go_simp)
      refine .cons (fun x wf Kk hq hdep hold => ?_) ?_
      · (try dsimp only); (have h3 : x 3 = _ := hdep 3 (by kernel_rfl)); (clear hq hdep hold); (simp only [h3]); (clear h3); (rw [if_pos (by rfl)]); (refine OpY.val ?_ ⟨Kept.refl _ _, rfl⟩); (first | rfl | go_simp)
      refine .cons (fun x wf Kk hq hdep hold => ?_) ?_
      · (try dsimp only); (have h4 : x 4 = _ := hdep 4 (by kernel_rfl)); (clear hq hdep hold); (simp only [h4]); (clear h4); (rw [if_pos (by rfl)]); (refine OpY.val ?_ ⟨Kept.refl _ _, rfl⟩); (first | rfl | go_simp)
      refine .cons (fun x wf Kk hq hdep hold => ?_) ?_
      · (try dsimp only); (have h5 : x 5 = _ := hdep 5 (by kernel_rfl)); (have Kq := hq no (fun j hj => by cases (show j ∈ ([] : List Nat) from by (have e : ∀ l : List Nat, l = [] → j ∈ l → j ∈ ([] : List Nat) := fun l h h2 => h ▸ h2); exact e _ (by kernel_rfl) hj))); (clear hq hdep hold); (simp only [h5]); (clear h5); (have m1 := Kq.undrew.cell s6.out id); (rw [if_pos (by rfl)]); (refine OpY.val ?_ ⟨Kept.refl _ _, rfl⟩); (first | rfl | go_simp)
      refine .cons (fun x wf Kk hq hdep hold => ?_) ?_
      · (try dsimp only); (have h6 : x 6 = _ := hdep 6 (by kernel_rfl)); (clear hq hdep hold); (simp only [h6]); (clear h6); (rw [if_pos (by rfl)]); (refine OpY.val ?_ ⟨Kept.refl _ _, rfl⟩); (first | rfl | go_simp)
      refine .cons (fun x wf Kk hq hdep hold => ?_) ?_
      · (try dsimp only); (have h7 : x 7 = _ := hdep 7 (by kernel_rfl)); (clear hq hdep hold); (simp only [h7]); (clear h7); (rw [if_pos (by rfl)]); (refine OpY.val ?_ ⟨Kept.refl _ _, rfl⟩); (first | rfl | go_simp)
      refine .cons (fun x wf Kk hq hdep hold => ?_) ?_
      · (try dsimp only); (have h2 : x 2 = _ := hdep 2 (by kernel_rfl)); (have h8 : x 8 = _ := hdep 8 (by kernel_rfl)); (have Kq := hq no (fun j hj => by cases (show j ∈ ([] : List Nat) from by (have e : ∀ l : List Nat, l = [] → j ∈ l → j ∈ ([] : List Nat) := fun l h h2 => h ▸ h2); exact e _ (by kernel_rfl) hj))); (clear hq hdep hold); (simp only [h2, h8]); (clear h2 h8); (rw [if_pos (by rfl)]); (refine OpY.call (f := 116) (args := #[(.pointer (some ⟨gt, 1, none⟩)), (.int .i64 (q.length : Int))]) (by go_simp) ?_); (refine (HP.out wf Kq.undrew).mono ?_); (rintro e w2 ⟨rfl, ve', h', t1, t2, t3, t4⟩); (exact ⟨_, rfl, t4, ve', h', t1, t2, t3⟩)
      exact .nil _
    · (intro x wf Kk hv); (try dsimp only); (have p9 : Pr.p (Sl := (fun _ => (SQ gt ve))) (PPush w1 gt gv (.slice a5 (q.length + 1) c5) (q ++ [((⟨(K : Int), (c : Int) :: xt, MB, true⟩ : Nd), (Value.slice aa al ca))]) h q.length) (x 9) wf := hv 9 (by kernel_rfl)); (clear hv); (obtain ⟨ve', h', hT9, hp9, hh9⟩ := p9); (rw [nds_snoc] at hh9)
      have hK9 : Hd (Kept (SA gt (.slice (some ⟨g, 0, none⟩) n cap) ve) w wf) := ⟨hK6.out.trans Kk.undrew fun k _ e => by
        rcases e with e | e
        · exact .inl e
        · exact .inr (.inr e)⟩
      (replace hT9 := hid hT9); (replace hp9 := hid hp9); (replace hh9 := hid hh9); (clear Kk hK6 HP s6); (go_wp2)
      go_end0
      exact ⟨rfl, (Value.slice aa al ca), _, ve', h', hT9.out, hp9.out, hh9.out, hK9.out, hvn.out⟩
end Go.Proofs.Ytkdmlakookgolaa
