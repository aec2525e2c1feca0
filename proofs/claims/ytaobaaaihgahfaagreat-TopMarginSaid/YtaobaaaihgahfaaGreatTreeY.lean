/- margin's queue and tree (printed by gen_tree.py). -/
import Derived.Test.YtaobaaaihgahfaaGreatNodMY
namespace Go.Proofs.YtaobaaaihgahfaaGreat
open Go.RowKit Go.Mk Go.Pil Go.Mg
set_option maxRecDepth 20000 in
set_option maxHeartbeats 1000000 in
/-- The queue's order. -/
theorem tless_any (a b gt gv : Nat) (vn : Value) (q : List (Nd × Value)) (w : World) (ha : a < q.length) (hb : b < q.length) (hv : w.cell? ⟨gv, 0, none⟩ = some (.pointer (some ⟨gt, 0, none⟩))) (ht : w.cell? ⟨gt, 0, none⟩ = some vn) (hr : RdN w vn q) :
    Calls Tryz.prog 84 #[.int .i64 (a : Int), .int .i64 (b : Int), .pointer (some ⟨gv, 0, none⟩)] w fun e w' => e = .returned (.bool (lsN (nds q) a b)) ∧ Kept no w w' := by
  (obtain ⟨an, cap, rfl⟩ := Rd.shapeZ hr.2); (obtain ⟨g, o, xa, va, rfl, ea, _, _, c1, _, _⟩ := hr.at a ha); (obtain ⟨g', o', xb, vb, e', eb, _, _, c2, _, _⟩ := hr.at b hb)
  cases e'
  (have hxa := nds_at ha ea); (have hxb := nds_at hb eb); (obtain ⟨n, hn⟩ : ∃ n, q.length = n := ⟨_, rfl⟩); (rw [hn] at ha hb ht); (have hai : (a : Int) < (n : Int) := by omega); (have ha0 : (0 : Int) ≤ (a : Int) := by omega); (have hbi : (b : Int) < (n : Int) := by omega); (have hb0 : (0 : Int) ≤ (b : Int) := by omega); (have hls : Hd (lsN (nds q) a b = if xa.bd = xb.bd then decide (a < b) else decide (xa.bd < xb.bd)) := ⟨by unfold lsN; rw [hxa, hxb]⟩); (obtain ⟨xv, hx⟩ : ∃ x, xa.bd = x := ⟨_, rfl⟩); (obtain ⟨yv, hy⟩ : ∃ y, xb.bd = y := ⟨_, rfl⟩); (rw [hx] at c1 hls); (rw [hy] at c2 hls); (replace hv := hid hv); (replace ht := hid ht); (replace c1 := hid c1); (replace c2 := hid c2); (clear ea eb hxa hxb hx hy hr hn)
  by_cases hxy : xv = yv
  · have hab : Hd (lsN (nds q) a b = decide ((a : Int) < (b : Int))) := ⟨by
      rw [hls.out, if_pos hxy]
      by_cases h : a < b
      · rw [decide_eq_true h, decide_eq_true (by omega)]
      · rw [decide_eq_false h, decide_eq_false (by omega)]⟩
    (have hne : decide (xv ≠ yv) = false := decide_eq_false (fun h => h hxy)); (clear hls)
    go_enter Tryz.func84, Tryz.ntmps84
    (go_upto_region 1 with fail); (refine region_flow (S := no) (Sl := (fun _ => no)) [Is (.pointer (some ⟨gt, 0, none⟩)), Is (.pointer (some ⟨gt, 0, none⟩)), Is (.pointer (some ⟨gt, 0, none⟩)), Is (.slice (some ⟨g, o, none⟩) n cap), Is (.int .i64 (a : Int)), Is (.pointer (some ⟨g, o + a * 4, none⟩)), Is (.pointer (some ⟨g, o + a * 4 + 2, none⟩)), Is (.int .i64 xv), Is (.pointer (some ⟨gt, 0, none⟩)), Is (.pointer (some ⟨gt, 0, none⟩)), Is (.pointer (some ⟨gt, 0, none⟩)), Is (.slice (some ⟨g, o, none⟩) n cap), Is (.int .i64 (b : Int)), Is (.pointer (some ⟨g, o + b * 4, none⟩)), Is (.pointer (some ⟨g, o + b * 4 + 2, none⟩)), Is (.int .i64 yv), Is (.bool false)] [] (fun _ _ h => h) _ (by kernel_rfl) (by kernel_rfl) (by kernel_rfl) (by kernel_rfl) (fun x => by simp only [puts, Act.put, List.map_cons, List.map_nil, Nat.zero_add, Nat.reduceAdd, List.setIfInBounds_toArray, List.set_cons_zero, List.set_cons_succ]; exact rfl) ?_ ?_)
    · (skip); (refine .cons (fun x wf Kk hq hdep hold => ?_) ?_)
      · (try dsimp only); (clear hq hdep hold); (have m1 := Kk.undrew.cell hv.out id); (rw [if_pos (by rfl)]); (refine OpY.val ?_ ⟨Kept.refl _ _, rfl⟩); (first | rfl | go_simp)
      refine .cons (fun x wf Kk hq hdep hold => ?_) ?_
      · (try dsimp only); (have h0 : x 0 = _ := hdep 0 (by kernel_rfl)); (clear hq hdep hold); (simp only [h0]); (clear h0); (rw [if_pos (by rfl)]); (refine OpY.val ?_ ⟨Kept.refl _ _, rfl⟩); (first | rfl | go_simp)
      refine .cons (fun x wf Kk hq hdep hold => ?_) ?_
      · (try dsimp only); (have h1 : x 1 = _ := hdep 1 (by kernel_rfl)); (clear hq hdep hold); (simp only [h1]); (clear h1); (rw [if_pos (by rfl)]); (refine OpY.val ?_ ⟨Kept.refl _ _, rfl⟩); (first | rfl | go_simp)
      refine .cons (fun x wf Kk hq hdep hold => ?_) ?_
      · (try dsimp only); (have h2 : x 2 = _ := hdep 2 (by kernel_rfl)); (clear hq hdep hold); (simp only [h2]); (clear h2); (have m1 := Kk.undrew.cell ht.out id); (rw [if_pos (by rfl)]); (refine OpY.val ?_ ⟨Kept.refl _ _, rfl⟩); (first | rfl | go_simp)
      refine .cons (fun x wf Kk hq hdep hold => ?_) ?_
      · (try dsimp only); (clear hq hdep hold); (rw [if_pos (by rfl)]); (refine OpY.val ?_ ⟨Kept.refl _ _, rfl⟩); (first | rfl | go_simp)
      refine .cons (fun x wf Kk hq hdep hold => ?_) ?_
      · (try dsimp only); (have h3 : x 3 = _ := hdep 3 (by kernel_rfl)); (have h4 : x 4 = _ := hdep 4 (by kernel_rfl)); (clear hq hdep hold); (simp only [h3, h4]); (clear h3 h4); (rw [if_pos (by rfl)]); (refine OpY.val ?_ ⟨Kept.refl _ _, rfl⟩); (first | rfl | go_simp)
      refine .cons (fun x wf Kk hq hdep hold => ?_) ?_
      · (try dsimp only); (have h5 : x 5 = _ := hdep 5 (by kernel_rfl)); (clear hq hdep hold); (simp only [h5]); (clear h5); (rw [if_pos (by rfl)]); (refine OpY.val ?_ ⟨Kept.refl _ _, rfl⟩); (first | rfl | go_simp)
      refine .cons (fun x wf Kk hq hdep hold => ?_) ?_
      · (try dsimp only); (have h6 : x 6 = _ := hdep 6 (by kernel_rfl)); (clear hq hdep hold); (simp only [h6]); (clear h6); (have m1 := Kk.undrew.cell c1.out id); (rw [if_pos (by rfl)]); (refine OpY.val ?_ ⟨Kept.refl _ _, rfl⟩); (first | rfl | go_simp)
      refine .cons (fun x wf Kk hq hdep hold => ?_) ?_
      · (try dsimp only); (clear hq hdep hold); (have m1 := Kk.undrew.cell hv.out id); (rw [if_pos (by rfl)]); (refine OpY.val ?_ ⟨Kept.refl _ _, rfl⟩); (first | rfl | go_simp)
      refine .cons (fun x wf Kk hq hdep hold => ?_) ?_
      · (try dsimp only); (have h8 : x 8 = _ := hdep 8 (by kernel_rfl)); (clear hq hdep hold); (simp only [h8]); (clear h8); (rw [if_pos (by rfl)]); (refine OpY.val ?_ ⟨Kept.refl _ _, rfl⟩); (first | rfl | go_simp)
      refine .cons (fun x wf Kk hq hdep hold => ?_) ?_
      · (try dsimp only); (have h9 : x 9 = _ := hdep 9 (by kernel_rfl)); (clear hq hdep hold); (simp only [h9]); (clear h9); (rw [if_pos (by rfl)]); (refine OpY.val ?_ ⟨Kept.refl _ _, rfl⟩); (first | rfl | go_simp)
      refine .cons (fun x wf Kk hq hdep hold => ?_) ?_
      · (try dsimp only); (have h10 : x 10 = _ := hdep 10 (by kernel_rfl)); (clear hq hdep hold); (simp only [h10]); (clear h10); (have m1 := Kk.undrew.cell ht.out id); (rw [if_pos (by rfl)]); (refine OpY.val ?_ ⟨Kept.refl _ _, rfl⟩); (first | rfl | go_simp)
      refine .cons (fun x wf Kk hq hdep hold => ?_) ?_
      · (try dsimp only); (clear hq hdep hold); (rw [if_pos (by rfl)]); (refine OpY.val ?_ ⟨Kept.refl _ _, rfl⟩); (first | rfl | go_simp)
      refine .cons (fun x wf Kk hq hdep hold => ?_) ?_
      · (try dsimp only); (have h11 : x 11 = _ := hdep 11 (by kernel_rfl)); (have h12 : x 12 = _ := hdep 12 (by kernel_rfl)); (clear hq hdep hold); (simp only [h11, h12]); (clear h11 h12); (rw [if_pos (by rfl)]); (refine OpY.val ?_ ⟨Kept.refl _ _, rfl⟩); (first | rfl | go_simp)
      refine .cons (fun x wf Kk hq hdep hold => ?_) ?_
      · (try dsimp only); (have h13 : x 13 = _ := hdep 13 (by kernel_rfl)); (clear hq hdep hold); (simp only [h13]); (clear h13); (rw [if_pos (by rfl)]); (refine OpY.val ?_ ⟨Kept.refl _ _, rfl⟩); (first | rfl | go_simp)
      refine .cons (fun x wf Kk hq hdep hold => ?_) ?_
      · (try dsimp only); (have h14 : x 14 = _ := hdep 14 (by kernel_rfl)); (clear hq hdep hold); (simp only [h14]); (clear h14); (have m1 := Kk.undrew.cell c2.out id); (rw [if_pos (by rfl)]); (refine OpY.val ?_ ⟨Kept.refl _ _, rfl⟩); (first | rfl | go_simp)
      refine .cons (fun x wf Kk hq hdep hold => ?_) ?_
      · (try dsimp only); (have h7 : x 7 = _ := hdep 7 (by kernel_rfl)); (have h15 : x 15 = _ := hdep 15 (by kernel_rfl)); (clear hq hdep hold); (simp only [h7, h15]); (clear h7 h15); (rw [if_pos (by rfl)]); (refine OpY.val ?_ ⟨Kept.refl _ _, rfl⟩); (first | rfl | go_simp)
      exact .nil _
    · (intro x wf Kk hv); (try dsimp only); (have h16 : x 16 = _ := hv 16 (by kernel_rfl)); (clear hv); (simp only [h16]); (clear h16); (have k9 := hid Kk.undrew); (clear Kk hv ht c1 c2); (go_wp2); (go_ret); (exact ⟨by rw [hab.out]; simp, k9.out⟩)
  · (have hab : Hd (lsN (nds q) a b = decide (xv < yv)) := ⟨by rw [hls.out, if_neg hxy]⟩); (clear hls)
    go_enter Tryz.func84, Tryz.ntmps84
    (go_upto_region 1 with fail); (refine region_flow (S := no) (Sl := (fun _ => no)) [Is (.pointer (some ⟨gt, 0, none⟩)), Is (.pointer (some ⟨gt, 0, none⟩)), Is (.pointer (some ⟨gt, 0, none⟩)), Is (.slice (some ⟨g, o, none⟩) n cap), Is (.int .i64 (a : Int)), Is (.pointer (some ⟨g, o + a * 4, none⟩)), Is (.pointer (some ⟨g, o + a * 4 + 2, none⟩)), Is (.int .i64 xv), Is (.pointer (some ⟨gt, 0, none⟩)), Is (.pointer (some ⟨gt, 0, none⟩)), Is (.pointer (some ⟨gt, 0, none⟩)), Is (.slice (some ⟨g, o, none⟩) n cap), Is (.int .i64 (b : Int)), Is (.pointer (some ⟨g, o + b * 4, none⟩)), Is (.pointer (some ⟨g, o + b * 4 + 2, none⟩)), Is (.int .i64 yv), Is (.bool true)] [] (fun _ _ h => h) _ (by kernel_rfl) (by kernel_rfl) (by kernel_rfl) (by kernel_rfl) (fun x => by simp only [puts, Act.put, List.map_cons, List.map_nil, Nat.zero_add, Nat.reduceAdd, List.setIfInBounds_toArray, List.set_cons_zero, List.set_cons_succ]; exact rfl) ?_ ?_)
    · (skip); (refine .cons (fun x wf Kk hq hdep hold => ?_) ?_)
      · (try dsimp only); (clear hq hdep hold); (have m1 := Kk.undrew.cell hv.out id); (rw [if_pos (by rfl)]); (refine OpY.val ?_ ⟨Kept.refl _ _, rfl⟩); (first | rfl | go_simp)
      refine .cons (fun x wf Kk hq hdep hold => ?_) ?_
      · (try dsimp only); (have h0 : x 0 = _ := hdep 0 (by kernel_rfl)); (clear hq hdep hold); (simp only [h0]); (clear h0); (rw [if_pos (by rfl)]); (refine OpY.val ?_ ⟨Kept.refl _ _, rfl⟩); (first | rfl | go_simp)
      refine .cons (fun x wf Kk hq hdep hold => ?_) ?_
      · (try dsimp only); (have h1 : x 1 = _ := hdep 1 (by kernel_rfl)); (clear hq hdep hold); (simp only [h1]); (clear h1); (rw [if_pos (by rfl)]); (refine OpY.val ?_ ⟨Kept.refl _ _, rfl⟩); (first | rfl | go_simp)
      refine .cons (fun x wf Kk hq hdep hold => ?_) ?_
      · (try dsimp only); (have h2 : x 2 = _ := hdep 2 (by kernel_rfl)); (clear hq hdep hold); (simp only [h2]); (clear h2); (have m1 := Kk.undrew.cell ht.out id); (rw [if_pos (by rfl)]); (refine OpY.val ?_ ⟨Kept.refl _ _, rfl⟩); (first | rfl | go_simp)
      refine .cons (fun x wf Kk hq hdep hold => ?_) ?_
      · (try dsimp only); (clear hq hdep hold); (rw [if_pos (by rfl)]); (refine OpY.val ?_ ⟨Kept.refl _ _, rfl⟩); (first | rfl | go_simp)
      refine .cons (fun x wf Kk hq hdep hold => ?_) ?_
      · (try dsimp only); (have h3 : x 3 = _ := hdep 3 (by kernel_rfl)); (have h4 : x 4 = _ := hdep 4 (by kernel_rfl)); (clear hq hdep hold); (simp only [h3, h4]); (clear h3 h4); (rw [if_pos (by rfl)]); (refine OpY.val ?_ ⟨Kept.refl _ _, rfl⟩); (first | rfl | go_simp)
      refine .cons (fun x wf Kk hq hdep hold => ?_) ?_
      · (try dsimp only); (have h5 : x 5 = _ := hdep 5 (by kernel_rfl)); (clear hq hdep hold); (simp only [h5]); (clear h5); (rw [if_pos (by rfl)]); (refine OpY.val ?_ ⟨Kept.refl _ _, rfl⟩); (first | rfl | go_simp)
      refine .cons (fun x wf Kk hq hdep hold => ?_) ?_
      · (try dsimp only); (have h6 : x 6 = _ := hdep 6 (by kernel_rfl)); (clear hq hdep hold); (simp only [h6]); (clear h6); (have m1 := Kk.undrew.cell c1.out id); (rw [if_pos (by rfl)]); (refine OpY.val ?_ ⟨Kept.refl _ _, rfl⟩); (first | rfl | go_simp)
      refine .cons (fun x wf Kk hq hdep hold => ?_) ?_
      · (try dsimp only); (clear hq hdep hold); (have m1 := Kk.undrew.cell hv.out id); (rw [if_pos (by rfl)]); (refine OpY.val ?_ ⟨Kept.refl _ _, rfl⟩); (first | rfl | go_simp)
      refine .cons (fun x wf Kk hq hdep hold => ?_) ?_
      · (try dsimp only); (have h8 : x 8 = _ := hdep 8 (by kernel_rfl)); (clear hq hdep hold); (simp only [h8]); (clear h8); (rw [if_pos (by rfl)]); (refine OpY.val ?_ ⟨Kept.refl _ _, rfl⟩); (first | rfl | go_simp)
      refine .cons (fun x wf Kk hq hdep hold => ?_) ?_
      · (try dsimp only); (have h9 : x 9 = _ := hdep 9 (by kernel_rfl)); (clear hq hdep hold); (simp only [h9]); (clear h9); (rw [if_pos (by rfl)]); (refine OpY.val ?_ ⟨Kept.refl _ _, rfl⟩); (first | rfl | go_simp)
      refine .cons (fun x wf Kk hq hdep hold => ?_) ?_
      · (try dsimp only); (have h10 : x 10 = _ := hdep 10 (by kernel_rfl)); (clear hq hdep hold); (simp only [h10]); (clear h10); (have m1 := Kk.undrew.cell ht.out id); (rw [if_pos (by rfl)]); (refine OpY.val ?_ ⟨Kept.refl _ _, rfl⟩); (first | rfl | go_simp)
      refine .cons (fun x wf Kk hq hdep hold => ?_) ?_
      · (try dsimp only); (clear hq hdep hold); (rw [if_pos (by rfl)]); (refine OpY.val ?_ ⟨Kept.refl _ _, rfl⟩); (first | rfl | go_simp)
      refine .cons (fun x wf Kk hq hdep hold => ?_) ?_
      · (try dsimp only); (have h11 : x 11 = _ := hdep 11 (by kernel_rfl)); (have h12 : x 12 = _ := hdep 12 (by kernel_rfl)); (clear hq hdep hold); (simp only [h11, h12]); (clear h11 h12); (rw [if_pos (by rfl)]); (refine OpY.val ?_ ⟨Kept.refl _ _, rfl⟩); (first | rfl | go_simp)
      refine .cons (fun x wf Kk hq hdep hold => ?_) ?_
      · (try dsimp only); (have h13 : x 13 = _ := hdep 13 (by kernel_rfl)); (clear hq hdep hold); (simp only [h13]); (clear h13); (rw [if_pos (by rfl)]); (refine OpY.val ?_ ⟨Kept.refl _ _, rfl⟩); (first | rfl | go_simp)
      refine .cons (fun x wf Kk hq hdep hold => ?_) ?_
      · (try dsimp only); (have h14 : x 14 = _ := hdep 14 (by kernel_rfl)); (clear hq hdep hold); (simp only [h14]); (clear h14); (have m1 := Kk.undrew.cell c2.out id); (rw [if_pos (by rfl)]); (refine OpY.val ?_ ⟨Kept.refl _ _, rfl⟩); (first | rfl | go_simp)
      refine .cons (fun x wf Kk hq hdep hold => ?_) ?_
      · (try dsimp only); (have h7 : x 7 = _ := hdep 7 (by kernel_rfl)); (have h15 : x 15 = _ := hdep 15 (by kernel_rfl)); (clear hq hdep hold); (simp only [h7, h15]); (clear h7 h15); (rw [if_pos (by rfl)]); (refine OpY.val ?_ ⟨Kept.refl _ _, rfl⟩); (first | rfl | go_simp)
      exact .nil _
    · (intro x wf Kk hv); (try dsimp only); (have h16 : x 16 = _ := hv 16 (by kernel_rfl)); (clear hv); (simp only [h16]); (clear h16); (have k8 := hid Kk.undrew); (clear Kk); (obtain ⟨lt, hlt⟩ : ∃ lt, decide (xv < yv) = lt := ⟨_, rfl⟩); (rw [hlt] at hab); (replace hlt := hid hlt); (go_upto_region 2 with fail); (refine region_flow (S := no) (Sl := (fun _ => no)) [Is (.pointer (some ⟨gt, 0, none⟩)), Is (.pointer (some ⟨gt, 0, none⟩)), Is (.pointer (some ⟨gt, 0, none⟩)), Is (.slice (some ⟨g, o, none⟩) n cap), Is (.int .i64 (a : Int)), Is (.pointer (some ⟨g, o + a * 4, none⟩)), Is (.pointer (some ⟨g, o + a * 4 + 2, none⟩)), Is (.int .i64 xv), Is (.pointer (some ⟨gt, 0, none⟩)), Is (.pointer (some ⟨gt, 0, none⟩)), Is (.pointer (some ⟨gt, 0, none⟩)), Is (.slice (some ⟨g, o, none⟩) n cap), Is (.int .i64 (b : Int)), Is (.pointer (some ⟨g, o + b * 4, none⟩)), Is (.pointer (some ⟨g, o + b * 4 + 2, none⟩)), Is (.int .i64 yv), Is (.bool lt), Is (.bool lt)] [] (fun _ _ h => h) _ (by kernel_rfl) (by kernel_rfl) (by kernel_rfl) (by kernel_rfl) (fun x => by simp only [puts, Act.put, List.map_cons, List.map_nil, Nat.zero_add, Nat.reduceAdd, List.setIfInBounds_toArray, List.set_cons_zero, List.set_cons_succ]; exact rfl) ?_ ?_)
      · (skip); (refine .cons (fun x wf Kk hq hdep hold => ?_) ?_)
        · (try dsimp only); (clear hq hdep hold); (have m1 := (k8.out.trans' Kk.undrew).cell hv.out id); (rw [if_pos (by rfl)]); (refine OpY.val ?_ ⟨Kept.refl _ _, rfl⟩); (first | rfl | go_simp)
        refine .cons (fun x wf Kk hq hdep hold => ?_) ?_
        · (try dsimp only); (have h0 : x 0 = _ := hdep 0 (by kernel_rfl)); (clear hq hdep hold); (simp only [h0]); (clear h0); (rw [if_pos (by rfl)]); (refine OpY.val ?_ ⟨Kept.refl _ _, rfl⟩); (first | rfl | go_simp)
        refine .cons (fun x wf Kk hq hdep hold => ?_) ?_
        · (try dsimp only); (have h1 : x 1 = _ := hdep 1 (by kernel_rfl)); (clear hq hdep hold); (simp only [h1]); (clear h1); (rw [if_pos (by rfl)]); (refine OpY.val ?_ ⟨Kept.refl _ _, rfl⟩); (first | rfl | go_simp)
        refine .cons (fun x wf Kk hq hdep hold => ?_) ?_
        · (try dsimp only); (have h2 : x 2 = _ := hdep 2 (by kernel_rfl)); (clear hq hdep hold); (simp only [h2]); (clear h2); (have m1 := (k8.out.trans' Kk.undrew).cell ht.out id); (rw [if_pos (by rfl)]); (refine OpY.val ?_ ⟨Kept.refl _ _, rfl⟩); (first | rfl | go_simp)
        refine .cons (fun x wf Kk hq hdep hold => ?_) ?_
        · (try dsimp only); (clear hq hdep hold); (rw [if_pos (by rfl)]); (refine OpY.val ?_ ⟨Kept.refl _ _, rfl⟩); (first | rfl | go_simp)
        refine .cons (fun x wf Kk hq hdep hold => ?_) ?_
        · (try dsimp only); (have h3 : x 3 = _ := hdep 3 (by kernel_rfl)); (have h4 : x 4 = _ := hdep 4 (by kernel_rfl)); (clear hq hdep hold); (simp only [h3, h4]); (clear h3 h4); (rw [if_pos (by rfl)]); (refine OpY.val ?_ ⟨Kept.refl _ _, rfl⟩); (first | rfl | go_simp)
        refine .cons (fun x wf Kk hq hdep hold => ?_) ?_
        · (try dsimp only); (have h5 : x 5 = _ := hdep 5 (by kernel_rfl)); (clear hq hdep hold); (simp only [h5]); (clear h5); (rw [if_pos (by rfl)]); (refine OpY.val ?_ ⟨Kept.refl _ _, rfl⟩); (first | rfl | go_simp)
        refine .cons (fun x wf Kk hq hdep hold => ?_) ?_
        · (try dsimp only); (have h6 : x 6 = _ := hdep 6 (by kernel_rfl)); (clear hq hdep hold); (simp only [h6]); (clear h6); (have m1 := (k8.out.trans' Kk.undrew).cell c1.out id); (rw [if_pos (by rfl)]); (refine OpY.val ?_ ⟨Kept.refl _ _, rfl⟩); (first | rfl | go_simp)
        refine .cons (fun x wf Kk hq hdep hold => ?_) ?_
        · (try dsimp only); (clear hq hdep hold); (have m1 := (k8.out.trans' Kk.undrew).cell hv.out id); (rw [if_pos (by rfl)]); (refine OpY.val ?_ ⟨Kept.refl _ _, rfl⟩); (first | rfl | go_simp)
        refine .cons (fun x wf Kk hq hdep hold => ?_) ?_
        · (try dsimp only); (have h8 : x 8 = _ := hdep 8 (by kernel_rfl)); (clear hq hdep hold); (simp only [h8]); (clear h8); (rw [if_pos (by rfl)]); (refine OpY.val ?_ ⟨Kept.refl _ _, rfl⟩); (first | rfl | go_simp)
        refine .cons (fun x wf Kk hq hdep hold => ?_) ?_
        · (try dsimp only); (have h9 : x 9 = _ := hdep 9 (by kernel_rfl)); (clear hq hdep hold); (simp only [h9]); (clear h9); (rw [if_pos (by rfl)]); (refine OpY.val ?_ ⟨Kept.refl _ _, rfl⟩); (first | rfl | go_simp)
        refine .cons (fun x wf Kk hq hdep hold => ?_) ?_
        · (try dsimp only); (have h10 : x 10 = _ := hdep 10 (by kernel_rfl)); (clear hq hdep hold); (simp only [h10]); (clear h10); (have m1 := (k8.out.trans' Kk.undrew).cell ht.out id); (rw [if_pos (by rfl)]); (refine OpY.val ?_ ⟨Kept.refl _ _, rfl⟩); (first | rfl | go_simp)
        refine .cons (fun x wf Kk hq hdep hold => ?_) ?_
        · (try dsimp only); (clear hq hdep hold); (rw [if_pos (by rfl)]); (refine OpY.val ?_ ⟨Kept.refl _ _, rfl⟩); (first | rfl | go_simp)
        refine .cons (fun x wf Kk hq hdep hold => ?_) ?_
        · (try dsimp only); (have h11 : x 11 = _ := hdep 11 (by kernel_rfl)); (have h12 : x 12 = _ := hdep 12 (by kernel_rfl)); (clear hq hdep hold); (simp only [h11, h12]); (clear h11 h12); (rw [if_pos (by rfl)]); (refine OpY.val ?_ ⟨Kept.refl _ _, rfl⟩); (first | rfl | go_simp)
        refine .cons (fun x wf Kk hq hdep hold => ?_) ?_
        · (try dsimp only); (have h13 : x 13 = _ := hdep 13 (by kernel_rfl)); (clear hq hdep hold); (simp only [h13]); (clear h13); (rw [if_pos (by rfl)]); (refine OpY.val ?_ ⟨Kept.refl _ _, rfl⟩); (first | rfl | go_simp)
        refine .cons (fun x wf Kk hq hdep hold => ?_) ?_
        · (try dsimp only); (have h14 : x 14 = _ := hdep 14 (by kernel_rfl)); (clear hq hdep hold); (simp only [h14]); (clear h14); (have m1 := (k8.out.trans' Kk.undrew).cell c2.out id); (rw [if_pos (by rfl)]); (refine OpY.val ?_ ⟨Kept.refl _ _, rfl⟩); (first | rfl | go_simp)
        refine .cons (fun x wf Kk hq hdep hold => ?_) ?_
        · (try dsimp only); (have h7 : x 7 = _ := hdep 7 (by kernel_rfl)); (have h15 : x 15 = _ := hdep 15 (by kernel_rfl)); (clear hq hdep hold); (simp only [h7, h15]); (clear h7 h15); (have hlt := hlt.out); (rw [if_pos (by rfl)]); (refine OpY.val ?_ ⟨Kept.refl _ _, rfl⟩); (first | rfl | go_simp)
        refine .cons (fun x wf Kk hq hdep hold => ?_) ?_
        · (try dsimp only); (have h16 : x 16 = _ := hdep 16 (by kernel_rfl)); (clear hq hdep hold); (simp only [h16]); (clear h16); (rw [if_pos (by rfl)]); (refine OpY.val ?_ ⟨Kept.refl _ _, rfl⟩); (first | rfl | go_simp)
        exact .nil _
      · (intro x wf Kk hv); (try dsimp only); (have h17 : x 17 = _ := hv 17 (by kernel_rfl)); (clear hv); (simp only [h17]); (clear h17); (have k9 := hid (k8.out.trans' Kk.undrew)); (clear Kk hv ht c1 c2); (go_wp2); (go_ret); (exact ⟨by rw [hab.out]; rfl, k9.out⟩)
theorem ttop_any (gt c : Nat) (cap n g : Nat) (w : World) (hn : 0 < n) (h1 : w.cell? ⟨gt, 1, none⟩ = some (.slice (some ⟨g, 0, none⟩) n cap)) (h2 : w.cell? ⟨g, 0, none⟩ = some (.int .i64 (c : Int))) :
    Calls Tryz.prog 38 #[.pointer (some ⟨gt, 1, none⟩)] w fun e w' => e = .returned (.int .i64 (c : Int)) ∧ Kept no w w' := by
  have hni : (0 : Int) < (n : Int) := by omega
  go_enter Tryz.func38, Tryz.ntmps38
  (go_wp2); (go_ret); (exact ⟨rfl, by first | exact Kept.refl _ _ | exact (Kept.refl _ _).drewN _⟩)
theorem tnew_any (w : World) : Calls Tryz.prog 36 #[] w fun e w' => ∃ gt gv, e = .returned (.pointer (some ⟨gt, 0, none⟩)) ∧ TreeS w w' gt gv (.slice none 0 0) [] (.slice none 0 0) [] := by
  go_enter Tryz.func36, Tryz.ntmps36
  (go_upto_region 2 with fail); (obtain ⟨w1, hw1, g1, k1⟩ := alloc_named w (.cells #[.slice none 0 0, .slice none 0 0, .nilFunc] 95)); (rw [← hw1]); (have e1 : w1.heap.size = w.heap.size + 1 := by rw [hw1]; simp); (rw [← e1]); (obtain ⟨w2, hw2, g2, k2⟩ := alloc_named w1 (.cells #[.pointer (some ⟨w.heap.size, 0, none⟩)] 88)); (rw [← hw2]); (have g12 := k2.blk g1); (have f2 : w2.frozen? ⟨w.heap.size, 2, none⟩ = false := row_free g12 2); (have c2 : w2.cell? ⟨w.heap.size, 2, none⟩ = some .nilFunc := by rw [cell_of_row _ _ 2 _ _ _ g12]; rfl); (have cv : w2.cell? ⟨w1.heap.size, 0, none⟩ = some (.pointer (some ⟨w.heap.size, 0, none⟩)) := by rw [cell_of_row _ _ 0 _ _ _ g2]; rfl); (have hne : w1.heap.size ≠ w.heap.size := by omega)
  have hT : Hd (TreeS w (w2.setCell ⟨w.heap.size, 2, none⟩ (lessV w1.heap.size)) w.heap.size w1.heap.size (.slice none 0 0) [] (.slice none 0 0) []) := ⟨by
    (have kg : Kept (fun j => j = w.heap.size) w2 (w2.setCell ⟨w.heap.size, 2, none⟩ (lessV w1.heap.size)) := (Kept.refl (fun j => j = w.heap.size) w2).setCell (a := ⟨w.heap.size, 2, none⟩) (.inl rfl) _); (have kw : Kept no w (w2.setCell ⟨w.heap.size, 2, none⟩ (lessV w1.heap.size)) := (k1.trans' k2).setCell (.inr (Nat.le_refl _)) _)
    exact ⟨by rw [setCell_row g12]; rfl, (kg.block _ (lt_of_heap g2) hne).trans g2, (OwNd.nil w).keptNo kw, World.ownsRow_nil _ _ _ _, .inl rfl, Nat.le_refl _, k1.size, fun x hx => by cases hx⟩⟩
  (unfold lessV at hT); (generalize w1.heap.size = gv at cv hT hne g2); (generalize w.heap.size = gt at f2 c2 cv hT hne g12 g2); (replace g12 := hid g12); (replace g2 := hid g2); (clear hw1 hw2 g1 e1 k1 k2)
  have hst : ∀ m, (store ⟨gt, 2, none⟩ (.func (.func 84) #[] #[.pointer (some ⟨gv, 0, none⟩)]) m).run Tryz.prog w2 = .ok () (w2.setCell ⟨gt, 2, none⟩ (.func (.func 84) #[] #[.pointer (some ⟨gv, 0, none⟩)])) := fun m => by
    rw [run_store _ _ _ _ _ rfl, c2]; simp [f2]
  (go_wp2); (go_ret); (exact ⟨gt, gv, rfl, hT.out⟩)

theorem slot2 {w : World} {gt : Nat} {a b c : Value} {t : TypeId} (h : w.heap[gt]? = some (.cells #[a, b, c] t (0, 0))) : w.cell? ⟨gt, 0, none⟩ = some a ∧ w.cell? ⟨gt, 1, none⟩ = some b ∧ w.cell? ⟨gt, 2, none⟩ = some c := by
  refine ⟨?_, ?_, ?_⟩
  · rw [cell_of_row _ _ 0 _ _ _ h]; rfl
  · rw [cell_of_row _ _ 1 _ _ _ h]; rfl
  · rw [cell_of_row _ _ 2 _ _ _ h]; rfl
theorem pre_sliceI (av : Option Addr) (lv cv m : Nat) (hav : cv = 0 ∨ ∃ b o, av = some ⟨b, o, none⟩) (hm : m ≤ cv) (w : World) : (Instr.slice 26 (.slice av lv cv) none (some (.int .i64 (m : Int))) none).run Tryz.prog w = .ok (.slice av m cv) w := pre_slice av lv cv m hav hm w
theorem half_quo (p : Nat) : Int.tdiv (p : Int) 2 = ((p / 2 : Nat) : Int) := by
  rw [Int.tdiv_eq_ediv_of_nonneg (by omega)]; omega
def PU2 {Sl : Nat → Nat → Prop} (w0 : World) (g i p : Nat) (a b : Value) : Pr Sl := soft (fun _ w => ∃ w1 w2, Kept no w0 w1 ∧ Kept no (w1.setCell ⟨g, i, none⟩ a) w2 ∧ Kept no (w2.setCell ⟨g, p, none⟩ b) w) fun _ _ _ ⟨w1, w2, h1, h2, h3⟩ k => ⟨w1, w2, h1, h2, h3.trans' k⟩
theorem TreeS.put {w0 w1 w : World} {gt gv g m cap : Nat} {vn : Value} {q : List (Nd × Value)} {h : List Nat} (T : TreeS w1 w0 gt gv vn q (.slice (some ⟨g, 0, none⟩) m cap) h) (hm : h.length = m) {i p : Nat}
    (hh : ∃ wa wb, Kept no w0 wa ∧ Kept no (wa.setCell ⟨g, i, none⟩ (.int .i64 ((h.getD p 0 : Nat) : Int))) wb ∧ Kept no (wb.setCell ⟨g, p, none⟩ (.int .i64 ((h.getD i 0 : Nat) : Int))) w) : TreeS w1 w gt gv vn q (.slice (some ⟨g, 0, none⟩) m cap) (swp h i p) := by
  (obtain ⟨wa, wb, h1, h2, h3⟩ := hh); (exact ((((T.keptNo h1).setE hm i (h.getD p 0)).keptNo h2).setE (by rw [List.length_set]; exact hm) p (h.getD i 0)).keptNo h3)
set_option maxRecDepth 100000 in
set_option maxHeartbeats 4000000 in
theorem tpush_any (w1 w : World) (gt gv : Nat) (vn : Value) (q : List (Nd × Value)) (ve : Value) (h : List Nat) (xe : Nat) (T : TreeS w1 w gt gv vn q ve h) (hx : xe < q.length) (hh : ∀ k ∈ h, k < q.length) (hH : IsHeap (nds q) h) (hl : h.length ≤ 100000) :
    Calls Tryz.prog 86 #[.pointer (some ⟨gt, 1, none⟩), .int .i64 (xe : Int)] w fun e w' => e = .returned (.tuple #[]) ∧ ∃ ve' h', TreeS w1 w' gt gv vn q ve' h' ∧ h'.Perm (h ++ [xe]) ∧ IsHeap (nds q) h' ∧ Kept (SQ gt ve) w w' := by
  (obtain ⟨_, c1, _⟩ := slot2 T.blk); (have hlm : Hd (h.length + 1 ≤ maxLen ∧ (h.length + 1) * 8 ≤ 140737488355328) := ⟨by have hm : maxLen = 9223372036854775807 := rfl; omega⟩); (have hup := hid (upI_start hH xe))
  have hxa : Hd (∀ k ∈ h ++ [xe], k < q.length) := ⟨fun k hk => by
    rcases List.mem_append.1 hk with hk | hk
    · exact hh k hk
    · rw [List.mem_singleton.1 hk]; exact hx⟩
  (replace T := hid T); (obtain ⟨ae, ce, rfl, _, _⟩ := Rd.shape2 (Rd.of_own T.out.els)); (clear hh hH)
  go_enter Tryz.func86, Tryz.ntmps86
  go_wp2_with (at_builtin; refine wpList_append_lit _ rfl _ _ 26 rfl 3 1 8 TInts _ _ _ rfl T.out.els 1 [.int .i64 (xe : Int)] rfl rfl ?c1 ?c2 ?c3 ?_)
  case c1 => simp [Value.oneCell']
  case c2 => exact hlm.out.1
  case c3 => exact hlm.out.2
  (intro v' w2 h2 h3 h4 _); (have hlen : (h ++ [xe]).length = h.length + 1 := by simp)
  obtain ⟨g, cap, rfl⟩ : ∃ g cap, v' = .slice (some ⟨g, 0, none⟩) (h.length + 1) cap := by
    obtain ⟨_, ⟨_, h0⟩ | ⟨g, cap, _, e, _⟩⟩ := h2
    · omega
    · exact ⟨g, cap, e⟩
  have hT2 : Hd (TreeS w1 (w2.setCell ⟨gt, 1, none⟩ (.slice (some ⟨g, 0, none⟩) (h.length + 1) cap)) gt gv vn q (.slice (some ⟨g, 0, none⟩) (h.length + 1) cap) (h ++ [xe])) := ⟨T.out.elems (by rw [hlen, hz_snoc, List.map_append]; exact h2) h3 h4⟩
  have hS : Hd (SQ gt (.slice ae h.length ce) g ∨ w.heap.size ≤ g) := ⟨by
    rcases h4 with h | ⟨j, h, hl⟩
    · exact .inl (.inr (h.symm.trans rfl))
    · have : g = j := by simpa [Value.ownBlock] using h
      exact .inr (by omega)⟩
  (have kS : Hd (Kept (SQ gt (.slice ae h.length ce)) w (w2.setCell ⟨gt, 1, none⟩ (.slice (some ⟨g, 0, none⟩) (h.length + 1) cap))) := ⟨(h3.mono fun k _ e => .inr e).setCell (a := ⟨gt, 1, none⟩) (.inl (.inl rfl)) _⟩); (have hb2 : w2.heap[gt]? = some (.cells #[vn, .slice ae h.length ce, lessV gv] 95 (0, 0)) := (h3.block _ (lt_of_heap T.out.blk) fun e => own_ne T.out.els T.out.blk int_ne_tree _ e rfl).trans T.out.blk); (have f2 : w2.frozen? ⟨gt, 1, none⟩ = false := row_free hb2 1); (obtain ⟨_, d1, _⟩ := slot2 hb2); (clear h2 h3 h4 hb2 T hlm c1); (go_upto_region 1 with fail); (obtain ⟨w3, hw3⟩ : ∃ w3, w3 = w2.setCell ⟨gt, 1, none⟩ (.slice (some ⟨g, 0, none⟩) (h.length + 1) cap) := ⟨_, rfl⟩); (rw [← hw3]); (rw [← hw3] at hT2 kS); (obtain ⟨_, c1, _⟩ := slot2 hT2.out.blk); (obtain ⟨m, hm⟩ : ∃ m, h.length + 1 = m := ⟨_, rfl⟩); (rw [hm] at hT2 hlen c1 ⊢); (have hwr : IntKind.i64.wrap ((m : Int) - 1) = ((m - 1 : Nat) : Int) := by rw [IntWalk.i64_in _ (by omega)]; omega); (have hup0 : Hd (UpI (nds q) (h ++ [xe]) (m - 1)) := ⟨by rw [show m - 1 = h.length by omega]; exact hup.out⟩); (have hperm0 : Hd ((h ++ [xe]).Perm (h ++ [xe])) := ⟨List.Perm.refl _⟩); (clear hw3 d1 f2 hup); (go_wp2)
  go_loopw [5] (fun j wr => ∃ (i : Nat) (hc : List Nat), i < m ∧ j = .int .i64 (i : Int) ∧ Hd (hc.length = m) ∧ Hd (UpI (nds q) hc i) ∧ Hd (hc.Perm (h ++ [xe])) ∧ Hd (TreeS w1 wr gt gv vn q (.slice (some ⟨g, 0, none⟩) m cap) hc) ∧ Hd (Kept (SQ gt (.slice ae h.length ce)) w wr)) (fun j _ => (intOf j).toNat)
  case atStart => exact ⟨m - 1, h ++ [xe], by omega, by go_num, ⟨hlen⟩, hup0, hperm0, hT2, kS⟩
  case round =>
    (obtain ⟨i, hc, him, rfl, hcl, hu, hp, hT, hK⟩ := hrel); (clear hT2 kS hup0 hperm0)
    by_cases hi0 : i = 0
    · (subst hi0); (have hend := hid (upI_end hu.out (.inl rfl))); (have hdec : decide ((0 : Int) < ((0 : Nat) : Int)) = false := by decide); (go_upto_region 3 with fail); (refine region_flow (S := no) (Sl := (fun _ => no)) [Is (.int .i64 ((0 : Nat) : Int)), Is (.bool false), Is (.bool false), Is undef, Is undef, Is undef, Is undef, Is undef, Is undef, Is undef, Is undef, Is undef, Is undef, Is undef, Is undef, Is undef, Is undef, Is undef, Is (.bool false)] [] (fun _ _ h => h) _ (by kernel_rfl) (by kernel_rfl) (by kernel_rfl) (by kernel_rfl) (fun x => by simp only [puts, Act.put, List.map_cons, List.map_nil, Nat.zero_add, Nat.reduceAdd, List.setIfInBounds_toArray, List.set_cons_zero, List.set_cons_succ]; exact rfl) ?_ ?_)
      · (skip); (refine .cons (fun x wf Kk hq hdep hold => ?_) ?_)
        · (try dsimp only); (clear hq hdep hold); (rw [if_pos (by rfl)]); (refine OpY.val ?_ ⟨Kept.refl _ _, rfl⟩); (first | rfl | go_simp)
        refine .cons (fun x wf Kk hq hdep hold => ?_) ?_
        · (try dsimp only); (have h0 : x 0 = _ := hdep 0 (by kernel_rfl)); (clear hq hdep hold); (simp only [h0]); (clear h0); (rw [if_pos (by rfl)]); (refine OpY.val ?_ ⟨Kept.refl _ _, rfl⟩); (first | rfl | go_simp)
        refine .cons (fun x wf Kk hq hdep hold => ?_) ?_
        · (try dsimp only); (have h1 : x 1 = _ := hdep 1 (by kernel_rfl)); (clear hq hdep hold); (simp only [h1]); (clear h1); (rw [if_pos (by rfl)]); (refine OpY.val ?_ ⟨Kept.refl _ _, rfl⟩); (first | rfl | go_simp)
        refine .cons (fun x wf Kk hq hdep hold => ?_) ?_
        · (try dsimp only); (have h2 : x 2 = _ := hdep 2 (by kernel_rfl)); (clear hq hdep hold); (simp only [h2]); (clear h2); (exact stepOff rfl rfl)
        refine .cons (fun x wf Kk hq hdep hold => ?_) ?_
        · (try dsimp only); (have h2 : x 2 = _ := hdep 2 (by kernel_rfl)); (clear hq hdep hold); (simp only [h2]); (clear h2); (exact stepOff rfl rfl)
        refine .cons (fun x wf Kk hq hdep hold => ?_) ?_
        · (try dsimp only); (have h2 : x 2 = _ := hdep 2 (by kernel_rfl)); (clear hq hdep hold); (simp only [h2]); (clear h2); (exact stepOff rfl rfl)
        refine .cons (fun x wf Kk hq hdep hold => ?_) ?_
        · (try dsimp only); (have h2 : x 2 = _ := hdep 2 (by kernel_rfl)); (clear hq hdep hold); (simp only [h2]); (clear h2); (exact stepOff rfl rfl)
        refine .cons (fun x wf Kk hq hdep hold => ?_) ?_
        · (try dsimp only); (have h2 : x 2 = _ := hdep 2 (by kernel_rfl)); (clear hq hdep hold); (simp only [h2]); (clear h2); (exact stepOff rfl rfl)
        refine .cons (fun x wf Kk hq hdep hold => ?_) ?_
        · (try dsimp only); (have h2 : x 2 = _ := hdep 2 (by kernel_rfl)); (clear hq hdep hold); (simp only [h2]); (clear h2); (exact stepOff rfl rfl)
        refine .cons (fun x wf Kk hq hdep hold => ?_) ?_
        · (try dsimp only); (have h2 : x 2 = _ := hdep 2 (by kernel_rfl)); (clear hq hdep hold); (simp only [h2]); (clear h2); (exact stepOff rfl rfl)
        refine .cons (fun x wf Kk hq hdep hold => ?_) ?_
        · (try dsimp only); (have h2 : x 2 = _ := hdep 2 (by kernel_rfl)); (clear hq hdep hold); (simp only [h2]); (clear h2); (exact stepOff rfl rfl)
        refine .cons (fun x wf Kk hq hdep hold => ?_) ?_
        · (try dsimp only); (have h2 : x 2 = _ := hdep 2 (by kernel_rfl)); (clear hq hdep hold); (simp only [h2]); (clear h2); (exact stepOff rfl rfl)
        refine .cons (fun x wf Kk hq hdep hold => ?_) ?_
        · (try dsimp only); (have h2 : x 2 = _ := hdep 2 (by kernel_rfl)); (clear hq hdep hold); (simp only [h2]); (clear h2); (exact stepOff rfl rfl)
        refine .cons (fun x wf Kk hq hdep hold => ?_) ?_
        · (try dsimp only); (have h2 : x 2 = _ := hdep 2 (by kernel_rfl)); (clear hq hdep hold); (simp only [h2]); (clear h2); (exact stepOff rfl rfl)
        refine .cons (fun x wf Kk hq hdep hold => ?_) ?_
        · (try dsimp only); (have h2 : x 2 = _ := hdep 2 (by kernel_rfl)); (clear hq hdep hold); (simp only [h2]); (clear h2); (exact stepOff rfl rfl)
        refine .cons (fun x wf Kk hq hdep hold => ?_) ?_
        · (try dsimp only); (have h2 : x 2 = _ := hdep 2 (by kernel_rfl)); (clear hq hdep hold); (simp only [h2]); (clear h2); (exact stepOff rfl rfl)
        refine .cons (fun x wf Kk hq hdep hold => ?_) ?_
        · (try dsimp only); (have h2 : x 2 = _ := hdep 2 (by kernel_rfl)); (clear hq hdep hold); (simp only [h2]); (clear h2); (exact stepOff rfl rfl)
        refine .cons (fun x wf Kk hq hdep hold => ?_) ?_
        · (try dsimp only); (have h2 : x 2 = _ := hdep 2 (by kernel_rfl)); (clear hq hdep hold); (simp only [h2]); (clear h2); (exact stepOff rfl rfl)
        refine .cons (fun x wf Kk hq hdep hold => ?_) ?_
        · (try dsimp only); (have h2 : x 2 = _ := hdep 2 (by kernel_rfl)); (have h17 : x 17 = _ := hdep 17 (by kernel_rfl)); (clear hq hdep hold); (simp only [h2, h17]); (clear h2 h17); (rw [if_pos (by rfl)]); (refine OpY.val ?_ ⟨Kept.refl _ _, rfl⟩); (first | rfl | go_simp)
        exact .nil _
      · (intro x wf Kk hv); (try dsimp only); (have h18 : x 18 = _ := hv 18 (by kernel_rfl)); (clear hv); (simp only [h18]); (clear h18); (have hT2 := hid (hT.out.keptNo Kk.undrew)); (have hK2 := hid (hK.out.trans' Kk.undrew)); (clear Kk hT hK hu); (go_wp2)
        go_end0
        exact ⟨rfl, _, hc, hT2.out, hp.out, hend.out, hK2.out⟩
    · (have hi1 : (0 : Int) < (i : Int) := by omega); (have hi1n : 0 < i := by omega); (have hi2 : (i : Int) < (m : Int) := by omega); (have hi3 : (0 : Int) ≤ (i : Int) := by omega); (obtain ⟨p, hpe⟩ : ∃ p, (i - 1) / 2 = p := ⟨_, rfl⟩); (have hpi : p < i := by omega); (have hwi : IntKind.i64.wrap ((i : Int) - 1) = ((i - 1 : Nat) : Int) := by rw [IntWalk.i64_in _ (by omega)]; omega); (have hqu : Int.tdiv ((i - 1 : Nat) : Int) 2 = (p : Int) := by rw [half_quo, hpe]); (have hqw : IntKind.i64.wrap (p : Int) = (p : Int) := IntWalk.i64_in _ (by omega)); (have hp2 : (p : Int) < (m : Int) := by omega); (have hp3 : (0 : Int) ≤ (p : Int) := by omega); (obtain ⟨b1, o1, e1, l1⟩ := hT.out.rdE.at i (by rw [hz_len, hcl.out]; exact him))
      cases e1
      obtain ⟨b1, o1, e1, l2⟩ := hT.out.rdE.at p (by rw [hz_len, hcl.out]; omega)
      cases e1
      (rw [hz_at] at l1 l2); (simp only [Nat.zero_add] at l1 l2); (have hin : Hd (∀ k, k < m → hc.getD k 0 < q.length) := ⟨fun k hk => hxa.out _ (hp.out.mem_iff.1 (by rw [List.getD_eq_getElem?_getD, List.getElem?_eq_getElem (by rw [hcl.out]; exact hk)]; simp))⟩); (have hL := hid (fun W (kW : Kept no wr W) => tless_any (hc.getD i 0) (hc.getD p 0) gt gv vn q W (hin.out i him) (hin.out p (by omega)) (by rw [cell_of_row _ _ 0 _ _ _ (kW.blk hT.out.var)]; rfl) (slot2 (kW.blk hT.out.blk)).1 (hT.out.own.rd.kept kW))); (have s3 := (slot2 hT.out.blk).2.2); (unfold lessV at s3); (have hup := hid (fun h => upI_step hu.out (by omega : 0 < i) h)); (have hend := hid (fun h => upI_end hu.out (.inr h))); (rw [hpe] at hup hend); (obtain ⟨vi, hvi⟩ : ∃ v, hc.getD i 0 = v := ⟨_, rfl⟩); (obtain ⟨vp, hvp⟩ : ∃ v, hc.getD p 0 = v := ⟨_, rfl⟩); (have hpt := hid (fun W (hh : ∃ wa wb, Kept no wr wa ∧ Kept no (wa.setCell ⟨g, i, none⟩ (.int .i64 ((hc.getD p 0 : Nat) : Int))) wb ∧ Kept no (wb.setCell ⟨g, p, none⟩ (.int .i64 ((hc.getD i 0 : Nat) : Int))) W) => TreeS.put hT.out hcl.out hh)); (rw [hvi] at l1 hL hup hend hpt); (rw [hvp] at l2 hL hup hend hpt); (obtain ⟨b, hb⟩ : ∃ b, lsN (nds q) vi vp = b := ⟨_, rfl⟩); (rw [hb] at hL hup hend); (replace l1 := hid l1); (replace l2 := hid l2); (replace s3 := hid s3)
      have hfg : Hd (∀ W, Kept no wr W → ∀ j, W.frozen? ⟨g, j, none⟩ = false) := ⟨fun W kW j => by
        obtain ⟨_, ⟨h, _⟩ | ⟨g', c', cur, e', _, hg, _⟩⟩ := hT.out.els
        · cases h
        · cases e'; exact row_free (kW.blk hg) j⟩
      clear hb hvi hvp hin hu
      cases b with
      | false =>
        (have hend2 := hid (hend.out rfl)); (clear hup hend hpt hfg); (go_upto_region 3 with fail); (refine region_flow (S := no) (Sl := (fun _ => no)) [Is (.int .i64 (i : Int)), Is (.bool true), Is (.bool true), Is (.pointer (some ⟨gt, 1, none⟩)), Is (.pointer (some ⟨gt, 1, none⟩)), Is (.pointer (some ⟨gt, 2, none⟩)), Is (.func (.func 84) #[] #[.pointer (some ⟨gv, 0, none⟩)]), Is (.slice (some ⟨g, 0, none⟩) m cap), Is (.int .i64 (i : Int)), Is (.pointer (some ⟨g, i, none⟩)), Is (.int .i64 (vi : Int)), Is (.slice (some ⟨g, 0, none⟩) m cap), Is (.int .i64 (i : Int)), Is (.int .i64 ((i - 1 : Nat) : Int)), Is (.int .i64 (p : Int)), Is (.pointer (some ⟨g, p, none⟩)), Is (.int .i64 (vp : Int)), Is (.bool false), Is (.bool false)] [] (fun _ _ h => h) _ (by kernel_rfl) (by kernel_rfl) (by kernel_rfl) (by kernel_rfl) (fun x => by simp only [puts, Act.put, List.map_cons, List.map_nil, Nat.zero_add, Nat.reduceAdd, List.setIfInBounds_toArray, List.set_cons_zero, List.set_cons_succ]; exact rfl) ?_ ?_)
        · (skip); (refine .cons (fun x wf Kk hq hdep hold => ?_) ?_)
          · (try dsimp only); (clear hq hdep hold); (rw [if_pos (by rfl)]); (refine OpY.val ?_ ⟨Kept.refl _ _, rfl⟩); (first | rfl | go_simp)
          refine .cons (fun x wf Kk hq hdep hold => ?_) ?_
          · (try dsimp only); (have h0 : x 0 = _ := hdep 0 (by kernel_rfl)); (clear hq hdep hold); (simp only [h0]); (clear h0); (rw [if_pos (by rfl)]); (refine OpY.val ?_ ⟨Kept.refl _ _, rfl⟩); (first | rfl | go_simp)
          refine .cons (fun x wf Kk hq hdep hold => ?_) ?_
          · (try dsimp only); (have h1 : x 1 = _ := hdep 1 (by kernel_rfl)); (clear hq hdep hold); (simp only [h1]); (clear h1); (rw [if_pos (by rfl)]); (refine OpY.val ?_ ⟨Kept.refl _ _, rfl⟩); (first | rfl | go_simp)
          refine .cons (fun x wf Kk hq hdep hold => ?_) ?_
          · (try dsimp only); (have h2 : x 2 = _ := hdep 2 (by kernel_rfl)); (clear hq hdep hold); (simp only [h2]); (clear h2); (rw [if_pos (by rfl)]); (refine OpY.val ?_ ⟨Kept.refl _ _, rfl⟩); (first | rfl | go_simp)
          refine .cons (fun x wf Kk hq hdep hold => ?_) ?_
          · (try dsimp only); (have h3 : x 3 = _ := hdep 3 (by kernel_rfl)); (have h2 : x 2 = _ := hdep 2 (by kernel_rfl)); (clear hq hdep hold); (simp only [h3, h2]); (clear h3 h2); (rw [if_pos (by rfl)]); (refine OpY.val ?_ ⟨Kept.refl _ _, rfl⟩); (first | rfl | go_simp)
          refine .cons (fun x wf Kk hq hdep hold => ?_) ?_
          · (try dsimp only); (have h4 : x 4 = _ := hdep 4 (by kernel_rfl)); (have h2 : x 2 = _ := hdep 2 (by kernel_rfl)); (clear hq hdep hold); (simp only [h4, h2]); (clear h4 h2); (rw [if_pos (by rfl)]); (refine OpY.val ?_ ⟨Kept.refl _ _, rfl⟩); (first | rfl | go_simp)
          refine .cons (fun x wf Kk hq hdep hold => ?_) ?_
          · (try dsimp only); (have h5 : x 5 = _ := hdep 5 (by kernel_rfl)); (have h2 : x 2 = _ := hdep 2 (by kernel_rfl)); (clear hq hdep hold); (simp only [h5, h2]); (clear h5 h2); (have m1 := Kk.undrew.cell s3.out id); (rw [if_pos (by rfl)]); (refine OpY.val ?_ ⟨Kept.refl _ _, rfl⟩); (first | rfl | go_simp)
          refine .cons (fun x wf Kk hq hdep hold => ?_) ?_
          · (try dsimp only); (have h2 : x 2 = _ := hdep 2 (by kernel_rfl)); (clear hq hdep hold); (simp only [h2]); (clear h2); (rw [if_pos (by rfl)]); (refine OpY.val ?_ ⟨Kept.refl _ _, rfl⟩); (first | rfl | go_simp)
          refine .cons (fun x wf Kk hq hdep hold => ?_) ?_
          · (try dsimp only); (have h2 : x 2 = _ := hdep 2 (by kernel_rfl)); (clear hq hdep hold); (simp only [h2]); (clear h2); (rw [if_pos (by rfl)]); (refine OpY.val ?_ ⟨Kept.refl _ _, rfl⟩); (first | rfl | go_simp)
          refine .cons (fun x wf Kk hq hdep hold => ?_) ?_
          · (try dsimp only); (have h7 : x 7 = _ := hdep 7 (by kernel_rfl)); (have h8 : x 8 = _ := hdep 8 (by kernel_rfl)); (have h2 : x 2 = _ := hdep 2 (by kernel_rfl)); (clear hq hdep hold); (simp only [h7, h8, h2]); (clear h7 h8 h2); (rw [if_pos (by rfl)]); (refine OpY.val ?_ ⟨Kept.refl _ _, rfl⟩); (first | rfl | go_simp)
          refine .cons (fun x wf Kk hq hdep hold => ?_) ?_
          · (try dsimp only); (have h9 : x 9 = _ := hdep 9 (by kernel_rfl)); (have h2 : x 2 = _ := hdep 2 (by kernel_rfl)); (clear hq hdep hold); (simp only [h9, h2]); (clear h9 h2); (have m1 := Kk.undrew.cell l1.out id); (rw [if_pos (by rfl)]); (refine OpY.val ?_ ⟨Kept.refl _ _, rfl⟩); (first | rfl | go_simp)
          refine .cons (fun x wf Kk hq hdep hold => ?_) ?_
          · (try dsimp only); (have h2 : x 2 = _ := hdep 2 (by kernel_rfl)); (clear hq hdep hold); (simp only [h2]); (clear h2); (rw [if_pos (by rfl)]); (refine OpY.val ?_ ⟨Kept.refl _ _, rfl⟩); (first | rfl | go_simp)
          refine .cons (fun x wf Kk hq hdep hold => ?_) ?_
          · (try dsimp only); (have h2 : x 2 = _ := hdep 2 (by kernel_rfl)); (clear hq hdep hold); (simp only [h2]); (clear h2); (rw [if_pos (by rfl)]); (refine OpY.val ?_ ⟨Kept.refl _ _, rfl⟩); (first | rfl | go_simp)
          refine .cons (fun x wf Kk hq hdep hold => ?_) ?_
          · (try dsimp only); (have h12 : x 12 = _ := hdep 12 (by kernel_rfl)); (have h2 : x 2 = _ := hdep 2 (by kernel_rfl)); (clear hq hdep hold); (simp only [h12, h2]); (clear h12 h2); (rw [if_pos (by rfl)]); (refine OpY.val ?_ ⟨Kept.refl _ _, rfl⟩); (first | rfl | go_simp)
          refine .cons (fun x wf Kk hq hdep hold => ?_) ?_
          · (try dsimp only); (have h13 : x 13 = _ := hdep 13 (by kernel_rfl)); (have h2 : x 2 = _ := hdep 2 (by kernel_rfl)); (clear hq hdep hold); (simp only [h13, h2]); (clear h13 h2); (rw [if_pos (by rfl)]); (refine OpY.val ?_ ⟨Kept.refl _ _, rfl⟩); (first | rfl | go_simp)
          refine .cons (fun x wf Kk hq hdep hold => ?_) ?_
          · (try dsimp only); (have h11 : x 11 = _ := hdep 11 (by kernel_rfl)); (have h14 : x 14 = _ := hdep 14 (by kernel_rfl)); (have h2 : x 2 = _ := hdep 2 (by kernel_rfl)); (clear hq hdep hold); (simp only [h11, h14, h2]); (clear h11 h14 h2); (rw [if_pos (by rfl)]); (refine OpY.val ?_ ⟨Kept.refl _ _, rfl⟩); (first | rfl | go_simp)
          refine .cons (fun x wf Kk hq hdep hold => ?_) ?_
          · (try dsimp only); (have h15 : x 15 = _ := hdep 15 (by kernel_rfl)); (have h2 : x 2 = _ := hdep 2 (by kernel_rfl)); (clear hq hdep hold); (simp only [h15, h2]); (clear h15 h2); (have m1 := Kk.undrew.cell l2.out id); (rw [if_pos (by rfl)]); (refine OpY.val ?_ ⟨Kept.refl _ _, rfl⟩); (first | rfl | go_simp)
          refine .cons (fun x wf Kk hq hdep hold => ?_) ?_
          · (try dsimp only); (have h6 : x 6 = _ := hdep 6 (by kernel_rfl)); (have h10 : x 10 = _ := hdep 10 (by kernel_rfl)); (have h16 : x 16 = _ := hdep 16 (by kernel_rfl)); (have h2 : x 2 = _ := hdep 2 (by kernel_rfl)); (clear hq hdep hold); (simp only [h6, h10, h16, h2]); (clear h6 h10 h16 h2); (rw [if_pos (by rfl)]); (refine OpY.call (f := 84) (args := #[.int .i64 (vi : Int), .int .i64 (vp : Int), .pointer (some ⟨gv, 0, none⟩)]) (by go_simp) ?_); (refine (hL.out wf Kk.undrew).mono ?_); (rintro e w2 ⟨rfl, k2⟩); (exact ⟨_, rfl, k2, rfl⟩)
          refine .cons (fun x wf Kk hq hdep hold => ?_) ?_
          · (try dsimp only); (have h2 : x 2 = _ := hdep 2 (by kernel_rfl)); (have h17 : x 17 = _ := hdep 17 (by kernel_rfl)); (clear hq hdep hold); (simp only [h2, h17]); (clear h2 h17); (rw [if_pos (by rfl)]); (refine OpY.val ?_ ⟨Kept.refl _ _, rfl⟩); (first | rfl | go_simp)
          exact .nil _
        · (intro x wf Kk hv); (try dsimp only); (have h18 : x 18 = _ := hv 18 (by kernel_rfl)); (clear hv); (simp only [h18]); (clear h18); (have hT2 := hid (hT.out.keptNo Kk.undrew)); (have hK2 := hid (hK.out.trans' Kk.undrew)); (clear Kk hT hK hL); (go_wp2)
          go_end0
          exact ⟨rfl, _, hc, hT2.out, hp.out, hend2.out, hK2.out⟩
      | true =>
        (have hup2 := hid (hup.out rfl)); (clear hup hend); (go_upto_region 3 with fail); (refine region_flow (S := no) (Sl := (fun _ => no)) [Is (.int .i64 (i : Int)), Is (.bool true), Is (.bool true), Is (.pointer (some ⟨gt, 1, none⟩)), Is (.pointer (some ⟨gt, 1, none⟩)), Is (.pointer (some ⟨gt, 2, none⟩)), Is (.func (.func 84) #[] #[.pointer (some ⟨gv, 0, none⟩)]), Is (.slice (some ⟨g, 0, none⟩) m cap), Is (.int .i64 (i : Int)), Is (.pointer (some ⟨g, i, none⟩)), Is (.int .i64 (vi : Int)), Is (.slice (some ⟨g, 0, none⟩) m cap), Is (.int .i64 (i : Int)), Is (.int .i64 ((i - 1 : Nat) : Int)), Is (.int .i64 (p : Int)), Is (.pointer (some ⟨g, p, none⟩)), Is (.int .i64 (vp : Int)), Is (.bool true), Is (.bool true)] [] (fun _ _ h => h) _ (by kernel_rfl) (by kernel_rfl) (by kernel_rfl) (by kernel_rfl) (fun x => by simp only [puts, Act.put, List.map_cons, List.map_nil, Nat.zero_add, Nat.reduceAdd, List.setIfInBounds_toArray, List.set_cons_zero, List.set_cons_succ]; exact rfl) ?_ ?_)
        · (skip); (refine .cons (fun x wf Kk hq hdep hold => ?_) ?_)
          · (try dsimp only); (clear hq hdep hold); (rw [if_pos (by rfl)]); (refine OpY.val ?_ ⟨Kept.refl _ _, rfl⟩); (first | rfl | go_simp)
          refine .cons (fun x wf Kk hq hdep hold => ?_) ?_
          · (try dsimp only); (have h0 : x 0 = _ := hdep 0 (by kernel_rfl)); (clear hq hdep hold); (simp only [h0]); (clear h0); (rw [if_pos (by rfl)]); (refine OpY.val ?_ ⟨Kept.refl _ _, rfl⟩); (first | rfl | go_simp)
          refine .cons (fun x wf Kk hq hdep hold => ?_) ?_
          · (try dsimp only); (have h1 : x 1 = _ := hdep 1 (by kernel_rfl)); (clear hq hdep hold); (simp only [h1]); (clear h1); (rw [if_pos (by rfl)]); (refine OpY.val ?_ ⟨Kept.refl _ _, rfl⟩); (first | rfl | go_simp)
          refine .cons (fun x wf Kk hq hdep hold => ?_) ?_
          · (try dsimp only); (have h2 : x 2 = _ := hdep 2 (by kernel_rfl)); (clear hq hdep hold); (simp only [h2]); (clear h2); (rw [if_pos (by rfl)]); (refine OpY.val ?_ ⟨Kept.refl _ _, rfl⟩); (first | rfl | go_simp)
          refine .cons (fun x wf Kk hq hdep hold => ?_) ?_
          · (try dsimp only); (have h3 : x 3 = _ := hdep 3 (by kernel_rfl)); (have h2 : x 2 = _ := hdep 2 (by kernel_rfl)); (clear hq hdep hold); (simp only [h3, h2]); (clear h3 h2); (rw [if_pos (by rfl)]); (refine OpY.val ?_ ⟨Kept.refl _ _, rfl⟩); (first | rfl | go_simp)
          refine .cons (fun x wf Kk hq hdep hold => ?_) ?_
          · (try dsimp only); (have h4 : x 4 = _ := hdep 4 (by kernel_rfl)); (have h2 : x 2 = _ := hdep 2 (by kernel_rfl)); (clear hq hdep hold); (simp only [h4, h2]); (clear h4 h2); (rw [if_pos (by rfl)]); (refine OpY.val ?_ ⟨Kept.refl _ _, rfl⟩); (first | rfl | go_simp)
          refine .cons (fun x wf Kk hq hdep hold => ?_) ?_
          · (try dsimp only); (have h5 : x 5 = _ := hdep 5 (by kernel_rfl)); (have h2 : x 2 = _ := hdep 2 (by kernel_rfl)); (clear hq hdep hold); (simp only [h5, h2]); (clear h5 h2); (have m1 := Kk.undrew.cell s3.out id); (rw [if_pos (by rfl)]); (refine OpY.val ?_ ⟨Kept.refl _ _, rfl⟩); (first | rfl | go_simp)
          refine .cons (fun x wf Kk hq hdep hold => ?_) ?_
          · (try dsimp only); (have h2 : x 2 = _ := hdep 2 (by kernel_rfl)); (clear hq hdep hold); (simp only [h2]); (clear h2); (rw [if_pos (by rfl)]); (refine OpY.val ?_ ⟨Kept.refl _ _, rfl⟩); (first | rfl | go_simp)
          refine .cons (fun x wf Kk hq hdep hold => ?_) ?_
          · (try dsimp only); (have h2 : x 2 = _ := hdep 2 (by kernel_rfl)); (clear hq hdep hold); (simp only [h2]); (clear h2); (rw [if_pos (by rfl)]); (refine OpY.val ?_ ⟨Kept.refl _ _, rfl⟩); (first | rfl | go_simp)
          refine .cons (fun x wf Kk hq hdep hold => ?_) ?_
          · (try dsimp only); (have h7 : x 7 = _ := hdep 7 (by kernel_rfl)); (have h8 : x 8 = _ := hdep 8 (by kernel_rfl)); (have h2 : x 2 = _ := hdep 2 (by kernel_rfl)); (clear hq hdep hold); (simp only [h7, h8, h2]); (clear h7 h8 h2); (rw [if_pos (by rfl)]); (refine OpY.val ?_ ⟨Kept.refl _ _, rfl⟩); (first | rfl | go_simp)
          refine .cons (fun x wf Kk hq hdep hold => ?_) ?_
          · (try dsimp only); (have h9 : x 9 = _ := hdep 9 (by kernel_rfl)); (have h2 : x 2 = _ := hdep 2 (by kernel_rfl)); (clear hq hdep hold); (simp only [h9, h2]); (clear h9 h2); (have m1 := Kk.undrew.cell l1.out id); (rw [if_pos (by rfl)]); (refine OpY.val ?_ ⟨Kept.refl _ _, rfl⟩); (first | rfl | go_simp)
          refine .cons (fun x wf Kk hq hdep hold => ?_) ?_
          · (try dsimp only); (have h2 : x 2 = _ := hdep 2 (by kernel_rfl)); (clear hq hdep hold); (simp only [h2]); (clear h2); (rw [if_pos (by rfl)]); (refine OpY.val ?_ ⟨Kept.refl _ _, rfl⟩); (first | rfl | go_simp)
          refine .cons (fun x wf Kk hq hdep hold => ?_) ?_
          · (try dsimp only); (have h2 : x 2 = _ := hdep 2 (by kernel_rfl)); (clear hq hdep hold); (simp only [h2]); (clear h2); (rw [if_pos (by rfl)]); (refine OpY.val ?_ ⟨Kept.refl _ _, rfl⟩); (first | rfl | go_simp)
          refine .cons (fun x wf Kk hq hdep hold => ?_) ?_
          · (try dsimp only); (have h12 : x 12 = _ := hdep 12 (by kernel_rfl)); (have h2 : x 2 = _ := hdep 2 (by kernel_rfl)); (clear hq hdep hold); (simp only [h12, h2]); (clear h12 h2); (rw [if_pos (by rfl)]); (refine OpY.val ?_ ⟨Kept.refl _ _, rfl⟩); (first | rfl | go_simp)
          refine .cons (fun x wf Kk hq hdep hold => ?_) ?_
          · (try dsimp only); (have h13 : x 13 = _ := hdep 13 (by kernel_rfl)); (have h2 : x 2 = _ := hdep 2 (by kernel_rfl)); (clear hq hdep hold); (simp only [h13, h2]); (clear h13 h2); (rw [if_pos (by rfl)]); (refine OpY.val ?_ ⟨Kept.refl _ _, rfl⟩); (first | rfl | go_simp)
          refine .cons (fun x wf Kk hq hdep hold => ?_) ?_
          · (try dsimp only); (have h11 : x 11 = _ := hdep 11 (by kernel_rfl)); (have h14 : x 14 = _ := hdep 14 (by kernel_rfl)); (have h2 : x 2 = _ := hdep 2 (by kernel_rfl)); (clear hq hdep hold); (simp only [h11, h14, h2]); (clear h11 h14 h2); (rw [if_pos (by rfl)]); (refine OpY.val ?_ ⟨Kept.refl _ _, rfl⟩); (first | rfl | go_simp)
          refine .cons (fun x wf Kk hq hdep hold => ?_) ?_
          · (try dsimp only); (have h15 : x 15 = _ := hdep 15 (by kernel_rfl)); (have h2 : x 2 = _ := hdep 2 (by kernel_rfl)); (clear hq hdep hold); (simp only [h15, h2]); (clear h15 h2); (have m1 := Kk.undrew.cell l2.out id); (rw [if_pos (by rfl)]); (refine OpY.val ?_ ⟨Kept.refl _ _, rfl⟩); (first | rfl | go_simp)
          refine .cons (fun x wf Kk hq hdep hold => ?_) ?_
          · (try dsimp only); (have h6 : x 6 = _ := hdep 6 (by kernel_rfl)); (have h10 : x 10 = _ := hdep 10 (by kernel_rfl)); (have h16 : x 16 = _ := hdep 16 (by kernel_rfl)); (have h2 : x 2 = _ := hdep 2 (by kernel_rfl)); (clear hq hdep hold); (simp only [h6, h10, h16, h2]); (clear h6 h10 h16 h2); (rw [if_pos (by rfl)]); (refine OpY.call (f := 84) (args := #[.int .i64 (vi : Int), .int .i64 (vp : Int), .pointer (some ⟨gv, 0, none⟩)]) (by go_simp) ?_); (refine (hL.out wf Kk.undrew).mono ?_); (rintro e w2 ⟨rfl, k2⟩); (exact ⟨_, rfl, k2, rfl⟩)
          refine .cons (fun x wf Kk hq hdep hold => ?_) ?_
          · (try dsimp only); (have h2 : x 2 = _ := hdep 2 (by kernel_rfl)); (have h17 : x 17 = _ := hdep 17 (by kernel_rfl)); (clear hq hdep hold); (simp only [h2, h17]); (clear h2 h17); (rw [if_pos (by rfl)]); (refine OpY.val ?_ ⟨Kept.refl _ _, rfl⟩); (first | rfl | go_simp)
          exact .nil _
        · (intro x wf Kk hv); (try dsimp only); (have h18 : x 18 = _ := hv 18 (by kernel_rfl)); (clear hv); (simp only [h18]); (clear h18); (obtain ⟨w4, hw4⟩ : ∃ w4, w4 = wf := ⟨_, rfl⟩); (subst hw4); (have k3 := hid Kk.undrew); (have hpi2 : p ≠ i := by omega); (have hpm : Hd ((swp hc i p).Perm (h ++ [xe])) := ⟨(swp_perm (by rw [hcl.out]; exact him) (by rw [hcl.out]; omega) (Ne.symm hpi2)).trans hp.out⟩); (have hcl2 : Hd ((swp hc i p).length = m) := ⟨by rw [swp_len]; exact hcl.out⟩); (clear Kk hL s3); (go_upto_region 5 with fail); (refine region_flow (S := (fun j => j = g)) (Sl := (fun _ => (fun j => j = g))) [Is (.slice (some ⟨g, 0, none⟩) m cap), Is (.int .i64 (i : Int)), Is (.slice (some ⟨g, 0, none⟩) m cap), Is (.int .i64 (i : Int)), Is (.int .i64 ((i - 1 : Nat) : Int)), Is (.int .i64 (p : Int)), Is (.slice (some ⟨g, 0, none⟩) m cap), Is (.int .i64 (i : Int)), Is (.int .i64 ((i - 1 : Nat) : Int)), Is (.int .i64 (p : Int)), Is (.pointer (some ⟨g, p, none⟩)), Is (.int .i64 (vp : Int)), Is (.slice (some ⟨g, 0, none⟩) m cap), Is (.int .i64 (i : Int)), Is (.pointer (some ⟨g, i, none⟩)), Is (.int .i64 (vi : Int)), Is (.pointer (some ⟨g, i, none⟩)), PUn w4.drew g i (.int .i64 (vp : Int)), Is (.pointer (some ⟨g, p, none⟩)), PU2 w4.drew g i p (.int .i64 (vp : Int)) (.int .i64 (vi : Int))] [17, 19] (fun _ _ h => h) _ (by kernel_rfl) (by kernel_rfl) (by kernel_rfl) (by kernel_rfl) (fun x => by simp only [puts, Act.put, List.map_cons, List.map_nil, Nat.zero_add, Nat.reduceAdd, List.setIfInBounds_toArray, List.set_cons_zero, List.set_cons_succ]; exact rfl) ?_ ?_)
          · (skip); (refine .cons (fun x wf Kk hq hdep hold => ?_) ?_)
            · (try dsimp only); (clear hq hdep hold); (rw [if_pos (by rfl)]); (refine OpY.val ?_ ⟨Kept.refl _ _, rfl⟩); (first | rfl | go_simp)
            refine .cons (fun x wf Kk hq hdep hold => ?_) ?_
            · (try dsimp only); (clear hq hdep hold); (rw [if_pos (by rfl)]); (refine OpY.val ?_ ⟨Kept.refl _ _, rfl⟩); (first | rfl | go_simp)
            refine .cons (fun x wf Kk hq hdep hold => ?_) ?_
            · (try dsimp only); (clear hq hdep hold); (rw [if_pos (by rfl)]); (refine OpY.val ?_ ⟨Kept.refl _ _, rfl⟩); (first | rfl | go_simp)
            refine .cons (fun x wf Kk hq hdep hold => ?_) ?_
            · (try dsimp only); (clear hq hdep hold); (rw [if_pos (by rfl)]); (refine OpY.val ?_ ⟨Kept.refl _ _, rfl⟩); (first | rfl | go_simp)
            refine .cons (fun x wf Kk hq hdep hold => ?_) ?_
            · (try dsimp only); (have h3 : x 3 = _ := hdep 3 (by kernel_rfl)); (clear hq hdep hold); (simp only [h3]); (clear h3); (rw [if_pos (by rfl)]); (refine OpY.val ?_ ⟨Kept.refl _ _, rfl⟩); (first | rfl | go_simp)
            refine .cons (fun x wf Kk hq hdep hold => ?_) ?_
            · (try dsimp only); (have h4 : x 4 = _ := hdep 4 (by kernel_rfl)); (clear hq hdep hold); (simp only [h4]); (clear h4); (rw [if_pos (by rfl)]); (refine OpY.val ?_ ⟨Kept.refl _ _, rfl⟩); (first | rfl | go_simp)
            refine .cons (fun x wf Kk hq hdep hold => ?_) ?_
            · (try dsimp only); (clear hq hdep hold); (rw [if_pos (by rfl)]); (refine OpY.val ?_ ⟨Kept.refl _ _, rfl⟩); (first | rfl | go_simp)
            refine .cons (fun x wf Kk hq hdep hold => ?_) ?_
            · (try dsimp only); (clear hq hdep hold); (rw [if_pos (by rfl)]); (refine OpY.val ?_ ⟨Kept.refl _ _, rfl⟩); (first | rfl | go_simp)
            refine .cons (fun x wf Kk hq hdep hold => ?_) ?_
            · (try dsimp only); (have h7 : x 7 = _ := hdep 7 (by kernel_rfl)); (clear hq hdep hold); (simp only [h7]); (clear h7); (rw [if_pos (by rfl)]); (refine OpY.val ?_ ⟨Kept.refl _ _, rfl⟩); (first | rfl | go_simp)
            refine .cons (fun x wf Kk hq hdep hold => ?_) ?_
            · (try dsimp only); (have h8 : x 8 = _ := hdep 8 (by kernel_rfl)); (clear hq hdep hold); (simp only [h8]); (clear h8); (rw [if_pos (by rfl)]); (refine OpY.val ?_ ⟨Kept.refl _ _, rfl⟩); (first | rfl | go_simp)
            refine .cons (fun x wf Kk hq hdep hold => ?_) ?_
            · (try dsimp only); (have h6 : x 6 = _ := hdep 6 (by kernel_rfl)); (have h9 : x 9 = _ := hdep 9 (by kernel_rfl)); (clear hq hdep hold); (simp only [h6, h9]); (clear h6 h9); (rw [if_pos (by rfl)]); (refine OpY.val ?_ ⟨Kept.refl _ _, rfl⟩); (first | rfl | go_simp)
            refine .cons (fun x wf Kk hq hdep hold => ?_) ?_
            · (try dsimp only); (have h10 : x 10 = _ := hdep 10 (by kernel_rfl)); (have Kq := hq no (fun j hj => by cases (show j ∈ ([] : List Nat) from by (have e : ∀ l : List Nat, l = [] → j ∈ l → j ∈ ([] : List Nat) := fun l h h2 => h ▸ h2); exact e _ (by kernel_rfl) hj))); (clear hq hdep hold); (simp only [h10]); (clear h10); (have m1 := Kq.undrew.cell (k3.out.cell l2.out id) id); (rw [if_pos (by rfl)]); (refine OpY.val ?_ ⟨Kept.refl _ _, rfl⟩); (first | rfl | go_simp)
            refine .cons (fun x wf Kk hq hdep hold => ?_) ?_
            · (try dsimp only); (clear hq hdep hold); (rw [if_pos (by rfl)]); (refine OpY.val ?_ ⟨Kept.refl _ _, rfl⟩); (first | rfl | go_simp)
            refine .cons (fun x wf Kk hq hdep hold => ?_) ?_
            · (try dsimp only); (clear hq hdep hold); (rw [if_pos (by rfl)]); (refine OpY.val ?_ ⟨Kept.refl _ _, rfl⟩); (first | rfl | go_simp)
            refine .cons (fun x wf Kk hq hdep hold => ?_) ?_
            · (try dsimp only); (have h12 : x 12 = _ := hdep 12 (by kernel_rfl)); (have h13 : x 13 = _ := hdep 13 (by kernel_rfl)); (clear hq hdep hold); (simp only [h12, h13]); (clear h12 h13); (rw [if_pos (by rfl)]); (refine OpY.val ?_ ⟨Kept.refl _ _, rfl⟩); (first | rfl | go_simp)
            refine .cons (fun x wf Kk hq hdep hold => ?_) ?_
            · (try dsimp only); (have h14 : x 14 = _ := hdep 14 (by kernel_rfl)); (have Kq := hq no (fun j hj => by cases (show j ∈ ([] : List Nat) from by (have e : ∀ l : List Nat, l = [] → j ∈ l → j ∈ ([] : List Nat) := fun l h h2 => h ▸ h2); exact e _ (by kernel_rfl) hj))); (clear hq hdep hold); (simp only [h14]); (clear h14); (have m1 := Kq.undrew.cell (k3.out.cell l1.out id) id); (rw [if_pos (by rfl)]); (refine OpY.val ?_ ⟨Kept.refl _ _, rfl⟩); (first | rfl | go_simp)
            refine .cons (fun x wf Kk hq hdep hold => ?_) ?_
            · (try dsimp only); (have h0 : x 0 = _ := hdep 0 (by kernel_rfl)); (have h1 : x 1 = _ := hdep 1 (by kernel_rfl)); (clear hq hdep hold); (simp only [h0, h1]); (clear h0 h1); (rw [if_pos (by rfl)]); (refine OpY.val ?_ ⟨Kept.refl _ _, rfl⟩); (first | rfl | go_simp)
            refine .cons (fun x wf Kk hq hdep hold => ?_) ?_
            · (try dsimp only); (have h16 : x 16 = _ := hdep 16 (by kernel_rfl)); (have h11 : x 11 = _ := hdep 11 (by kernel_rfl)); (have Kq := hq no (fun j hj => by cases (show j ∈ ([] : List Nat) from by (have e : ∀ l : List Nat, l = [] → j ∈ l → j ∈ ([] : List Nat) := fun l h h2 => h ▸ h2); exact e _ (by kernel_rfl) hj))); (clear hq hdep hold); (simp only [h16, h11]); (clear h16 h11); (rw [if_pos (by rfl)]); (have m1 := Kq.undrew.cell (k3.out.cell l1.out id) id); (have fz := hfg.out wf (k3.out.trans' Kq.undrew) i); (refine OpY.skipZ (w' := wf.setCell ⟨g, i, none⟩ (.int .i64 (vp : Int))) (by go_simp) ⟨(Kept.refl (fun j => j = g) wf).setCell (a := ⟨g, i, none⟩) (.inl rfl) _, wf, Kq, Kept.refl _ _⟩)
            refine .cons (fun x wf Kk hq hdep hold => ?_) ?_
            · (try dsimp only); (have h2 : x 2 = _ := hdep 2 (by kernel_rfl)); (have h5 : x 5 = _ := hdep 5 (by kernel_rfl)); (clear hq hdep hold); (simp only [h2, h5]); (clear h2 h5); (rw [if_pos (by rfl)]); (refine OpY.val ?_ ⟨Kept.refl _ _, rfl⟩); (first | rfl | go_simp)
            refine .cons (fun x wf Kk hq hdep hold => ?_) ?_
            · (try dsimp only); (have h18 : x 18 = _ := hdep 18 (by kernel_rfl)); (have h15 : x 15 = _ := hdep 15 (by kernel_rfl)); (have p17 : Pr.p (Sl := (fun _ => (fun j => j = g))) (PUn w4.drew g i (.int .i64 (vp : Int))) (x 17) wf := hdep 17 (by kernel_rfl)); (clear hq hdep hold); (simp only [h18, h15]); (clear h18 h15); (rw [if_pos (by rfl)]); (obtain ⟨wa, h1, h2⟩ := p17); (have mm : (wa.setCell ⟨g, i, none⟩ (.int .i64 (vp : Int))).cell? ⟨g, p, none⟩ = some (.int .i64 (vp : Int)) := (World.cell?_setCell_other _ _ _ _ (fun e => absurd (congrArg Addr.off e) (by show i ≠ p; omega))).trans (h1.undrew.cell (k3.out.cell l2.out id) id)); (have m1 := h2.cell mm id); (have fz : wf.frozen? ⟨g, p, none⟩ = false := by rw [h2.frozen (a := ⟨g, p, none⟩) (lt_of_cell mm) id, World.frozen?_setCell]; exact hfg.out wa (k3.out.trans' h1.undrew) p); (refine OpY.skipZ (w' := wf.setCell ⟨g, p, none⟩ (.int .i64 (vi : Int))) (by go_simp) ⟨(Kept.refl (fun j => j = g) wf).setCell (a := ⟨g, p, none⟩) (.inl rfl) _, wa, wf, h1, h2, Kept.refl _ _⟩)
            exact .nil _
          · (intro x wf Kk hv); (try dsimp only); (have p19 : Pr.p (Sl := (fun _ => (fun j => j = g))) (PU2 w4.drew g i p (.int .i64 (vp : Int)) (.int .i64 (vi : Int))) (x 19) wf := hv 19 (by kernel_rfl)); (clear hv)
            have hT2 := hid (hpt.out wf (by
              obtain ⟨wa, wb, h1, h2, h3⟩ := p19
              exact ⟨wa, wb, k3.out.trans' h1.undrew, h2, h3⟩))
            have hK2 : Hd (Kept (SQ gt (.slice ae h.length ce)) w wf) := ⟨by
              (obtain ⟨wa, wb, h1, h2, h3⟩ := p19); (have e1 := (hK.out.trans' k3.out).trans' h1.undrew); (have e2 := (e1.setCell (a := ⟨g, i, none⟩) hS.out (.int .i64 (vp : Int))).trans' h2)
              exact (e2.setCell (a := ⟨g, p, none⟩) hS.out (.int .i64 (vi : Int))).trans' h3⟩
            (clear Kk p19 hT hK hpt k3 hfg l1 l2); (go_wp2); (go_roundw)
            case rel => first | exact ⟨p, swp hc i p, by omega, by go_num, hcl2, hup2, hpm, hT2, hK2⟩ | ((repeat apply Exists.intro); exact ⟨⟨p, swp hc i p, by omega, by go_num, hcl2, hup2, hpm, hT2, hK2⟩, rfl⟩)
            case measure => first | (simp [intOf]; done) | (simp [intOf]; omega)
theorem lstC_stop {l : List Nd} {h : List Nat} {i k : Nat} (hk : k ≤ 2) (hl : h.length ≤ 2 * i + 1 + k) : lstC l h i 2 = lstC l h i k := by
  (have e1 : lstC l h i 2 = if 2 * i + 1 + 1 < h.length ∧ lsN l (h.getD (2 * i + 1 + 1) 0) (h.getD (lstC l h i 1) 0) = true then 2 * i + 1 + 1 else lstC l h i 1 := rfl); (have e2 : lstC l h i 1 = if 2 * i + 1 + 0 < h.length ∧ lsN l (h.getD (2 * i + 1 + 0) 0) (h.getD i 0) = true then 2 * i + 1 + 0 else i := rfl)
  rcases (by omega : k = 0 ∨ k = 1 ∨ k = 2) with rfl | rfl | rfl
  · rw [e1, if_neg (by omega), e2, if_neg (by omega)]; rfl
  · rw [e1, if_neg (by omega)]
  · rfl
set_option maxRecDepth 100000 in
set_option maxHeartbeats 4000000 in
theorem tpop_any (w1 w : World) (gt gv : Nat) (vn : Value) (q : List (Nd × Value)) (ve : Value) (h : List Nat) (T : TreeS w1 w gt gv vn q ve h) (hh : ∀ k ∈ h, k < q.length) (hH : IsHeap (nds q) h) (h0 : 0 < h.length) (hl : h.length ≤ 100000) :
    Calls Tryz.prog 39 #[.pointer (some ⟨gt, 1, none⟩)] w fun e w' => e = .returned (.tuple #[]) ∧ ∃ ve' h', TreeS w1 w' gt gv vn q ve' h' ∧ h'.Perm (popL h) ∧ IsHeap (nds q) h' ∧ Kept (SQ gt ve) w w' := by
  (obtain ⟨_, c1, _⟩ := slot2 T.blk); (obtain ⟨m, hm⟩ : ∃ m, h.length - 1 = m := ⟨_, rfl⟩); (obtain ⟨n, hn⟩ : ∃ n, h.length = n := ⟨_, rfl⟩); (have hmn : m + 1 = n := by omega); (have hm5 : m ≤ 100000 := by omega)
  obtain ⟨g, cap, rfl⟩ : ∃ g cap, ve = .slice (some ⟨g, 0, none⟩) n cap := by
    obtain ⟨_, ⟨_, h0⟩ | ⟨g, cap, _, e, _⟩⟩ := T.els
    · omega
    · rw [hn] at e; exact ⟨g, cap, e⟩
  (have hxa : Hd (∀ k ∈ popL h, k < q.length) := ⟨fun k hk => hh k ((popL_perm h0).mem_iff.1 (List.mem_cons_of_mem _ hk))⟩); (have hdn := hid (dnI_pop hH)); (obtain ⟨b1, o1, e1, l0⟩ := T.rdE.at 0 (by rw [hz_len]; omega))
  cases e1
  obtain ⟨b1, o1, e1, l1⟩ := T.rdE.at m (by rw [hz_len]; omega)
  cases e1
  (rw [hz_at] at l0 l1); (simp only [Nat.zero_add] at l0 l1); (have hE := T.els); (rw [hn] at hE)
  have hcap : n ≤ cap := by
    obtain ⟨_, a, c, e, h1, _⟩ := Rd.of_own hE
    cases e; exact h1
  (have hTq : Hd (∀ W, (∃ wa, Kept no w wa ∧ Kept no (wa.setCell ⟨g, 0, none⟩ (.int .i64 ((h.getD m 0 : Nat) : Int))) W) → TreeS w1 W gt gv vn q (.slice (some ⟨g, 0, none⟩) n cap) (h.set 0 (h.getD m 0))) := ⟨fun W ⟨wa, k1, k2⟩ => ((T.keptNo k1).setE hn 0 (h.getD m 0)).keptNo k2⟩); (have hpl : Hd ((h.set 0 (h.getD m 0)).take m = popL h) := ⟨by unfold popL; rw [hm]⟩); (have hplen : Hd ((popL h).length = m) := ⟨by rw [popL_len]; exact hm⟩)
  have hfg : Hd (∀ W, Kept no w W → ∀ j, W.frozen? ⟨g, j, none⟩ = false) := ⟨fun W kW j => by
    obtain ⟨_, ⟨h, _⟩ | ⟨g', c', cur, e', _, hg, _⟩⟩ := hE
    · cases h
    · cases e'; exact row_free (kW.blk hg) j⟩
  (obtain ⟨v0, hv0⟩ : ∃ v, h.getD 0 0 = v := ⟨_, rfl⟩); (obtain ⟨vm, hvm⟩ : ∃ v, h.getD m 0 = v := ⟨_, rfl⟩); (rw [hv0] at l0); (rw [hvm] at l1 hTq hpl); (have hwr : IntKind.i64.wrap ((n : Int) - 1) = (m : Int) := by rw [IntWalk.i64_in _ (by omega)]; omega); (have hmi : (m : Int) < (n : Int) := by omega); (have hm0 : (0 : Int) ≤ (m : Int) := by omega); (have hz0 : (0 : Int) < (n : Int) := by omega); (have hnz : ¬ n = 0 := by omega); (have hmc : m ≤ cap := by omega); (replace l0 := hid l0); (replace l1 := hid l1); (have c1a := hid c1); (clear hv0 hvm hh hH hn hm hE)
  go_enter Tryz.func39, Tryz.ntmps39
  (go_upto_region 1 with fail); (refine region_flow (S := (fun j => j = g)) (Sl := (fun _ => (fun j => j = g))) [Is (.pointer (some ⟨gt, 1, none⟩)), Is (.pointer (some ⟨gt, 1, none⟩)), Is (.pointer (some ⟨gt, 1, none⟩)), Is (.slice (some ⟨g, 0, none⟩) n cap), Is (.pointer (some ⟨gt, 1, none⟩)), Is (.pointer (some ⟨gt, 1, none⟩)), Is (.pointer (some ⟨gt, 1, none⟩)), Is (.slice (some ⟨g, 0, none⟩) n cap), Is (.int .i64 (m : Int)), Is (.pointer (some ⟨g, m, none⟩)), Is (.int .i64 (vm : Int)), Is (.pointer (some ⟨g, 0, none⟩)), PUn w.drew g 0 (.int .i64 (vm : Int))] [12] (fun _ _ h => h) _ (by kernel_rfl) (by kernel_rfl) (by kernel_rfl) (by kernel_rfl) (fun x => by simp only [puts, Act.put, List.map_cons, List.map_nil, Nat.zero_add, Nat.reduceAdd, List.setIfInBounds_toArray, List.set_cons_zero, List.set_cons_succ]; exact rfl) ?_ ?_)
  · (skip); (refine .cons (fun x wf Kk hq hdep hold => ?_) ?_)
    · (try dsimp only); (clear hq hdep hold); (rw [if_pos (by rfl)]); (refine OpY.val ?_ ⟨Kept.refl _ _, rfl⟩); (first | rfl | go_simp)
    refine .cons (fun x wf Kk hq hdep hold => ?_) ?_
    · (try dsimp only); (have h0 : x 0 = _ := hdep 0 (by kernel_rfl)); (clear hq hdep hold); (simp only [h0]); (clear h0); (rw [if_pos (by rfl)]); (refine OpY.val ?_ ⟨Kept.refl _ _, rfl⟩); (first | rfl | go_simp)
    refine .cons (fun x wf Kk hq hdep hold => ?_) ?_
    · (try dsimp only); (have h1 : x 1 = _ := hdep 1 (by kernel_rfl)); (clear hq hdep hold); (simp only [h1]); (clear h1); (rw [if_pos (by rfl)]); (refine OpY.val ?_ ⟨Kept.refl _ _, rfl⟩); (first | rfl | go_simp)
    refine .cons (fun x wf Kk hq hdep hold => ?_) ?_
    · (try dsimp only); (have h2 : x 2 = _ := hdep 2 (by kernel_rfl)); (have Kq := hq no (fun j hj => by cases (show j ∈ ([] : List Nat) from by (have e : ∀ l : List Nat, l = [] → j ∈ l → j ∈ ([] : List Nat) := fun l h h2 => h ▸ h2); exact e _ (by kernel_rfl) hj))); (clear hq hdep hold); (simp only [h2]); (clear h2); (have m1 := Kq.undrew.cell c1a.out id); (rw [if_pos (by rfl)]); (refine OpY.val ?_ ⟨Kept.refl _ _, rfl⟩); (first | rfl | go_simp)
    refine .cons (fun x wf Kk hq hdep hold => ?_) ?_
    · (try dsimp only); (clear hq hdep hold); (rw [if_pos (by rfl)]); (refine OpY.val ?_ ⟨Kept.refl _ _, rfl⟩); (first | rfl | go_simp)
    refine .cons (fun x wf Kk hq hdep hold => ?_) ?_
    · (try dsimp only); (have h4 : x 4 = _ := hdep 4 (by kernel_rfl)); (clear hq hdep hold); (simp only [h4]); (clear h4); (rw [if_pos (by rfl)]); (refine OpY.val ?_ ⟨Kept.refl _ _, rfl⟩); (first | rfl | go_simp)
    refine .cons (fun x wf Kk hq hdep hold => ?_) ?_
    · (try dsimp only); (have h5 : x 5 = _ := hdep 5 (by kernel_rfl)); (clear hq hdep hold); (simp only [h5]); (clear h5); (rw [if_pos (by rfl)]); (refine OpY.val ?_ ⟨Kept.refl _ _, rfl⟩); (first | rfl | go_simp)
    refine .cons (fun x wf Kk hq hdep hold => ?_) ?_
    · (try dsimp only); (have h6 : x 6 = _ := hdep 6 (by kernel_rfl)); (have Kq := hq no (fun j hj => by cases (show j ∈ ([] : List Nat) from by (have e : ∀ l : List Nat, l = [] → j ∈ l → j ∈ ([] : List Nat) := fun l h h2 => h ▸ h2); exact e _ (by kernel_rfl) hj))); (clear hq hdep hold); (simp only [h6]); (clear h6); (have m1 := Kq.undrew.cell c1a.out id); (rw [if_pos (by rfl)]); (refine OpY.val ?_ ⟨Kept.refl _ _, rfl⟩); (first | rfl | go_simp)
    refine .cons (fun x wf Kk hq hdep hold => ?_) ?_
    · (try dsimp only); (clear hq hdep hold); (rw [if_pos (by rfl)]); (refine OpY.val ?_ ⟨Kept.refl _ _, rfl⟩); (first | rfl | go_simp)
    refine .cons (fun x wf Kk hq hdep hold => ?_) ?_
    · (try dsimp only); (have h7 : x 7 = _ := hdep 7 (by kernel_rfl)); (have h8 : x 8 = _ := hdep 8 (by kernel_rfl)); (clear hq hdep hold); (simp only [h7, h8]); (clear h7 h8); (rw [if_pos (by rfl)]); (refine OpY.val ?_ ⟨Kept.refl _ _, rfl⟩); (first | rfl | go_simp)
    refine .cons (fun x wf Kk hq hdep hold => ?_) ?_
    · (try dsimp only); (have h9 : x 9 = _ := hdep 9 (by kernel_rfl)); (have Kq := hq no (fun j hj => by cases (show j ∈ ([] : List Nat) from by (have e : ∀ l : List Nat, l = [] → j ∈ l → j ∈ ([] : List Nat) := fun l h h2 => h ▸ h2); exact e _ (by kernel_rfl) hj))); (clear hq hdep hold); (simp only [h9]); (clear h9); (have m1 := Kq.undrew.cell l1.out id); (rw [if_pos (by rfl)]); (refine OpY.val ?_ ⟨Kept.refl _ _, rfl⟩); (first | rfl | go_simp)
    refine .cons (fun x wf Kk hq hdep hold => ?_) ?_
    · (try dsimp only); (have h3 : x 3 = _ := hdep 3 (by kernel_rfl)); (clear hq hdep hold); (simp only [h3]); (clear h3); (rw [if_pos (by rfl)]); (refine OpY.val ?_ ⟨Kept.refl _ _, rfl⟩); (first | rfl | go_simp)
    refine .cons (fun x wf Kk hq hdep hold => ?_) ?_
    · (try dsimp only); (have h11 : x 11 = _ := hdep 11 (by kernel_rfl)); (have h10 : x 10 = _ := hdep 10 (by kernel_rfl)); (have Kq := hq no (fun j hj => by cases (show j ∈ ([] : List Nat) from by (have e : ∀ l : List Nat, l = [] → j ∈ l → j ∈ ([] : List Nat) := fun l h h2 => h ▸ h2); exact e _ (by kernel_rfl) hj))); (clear hq hdep hold); (simp only [h11, h10]); (clear h11 h10); (rw [if_pos (by rfl)]); (have m1 := Kq.undrew.cell l0.out id); (have fz := hfg.out wf Kq.undrew 0); (refine OpY.skipZ (w' := wf.setCell ⟨g, 0, none⟩ (.int .i64 (vm : Int))) (by go_simp) ⟨(Kept.refl (fun j => j = g) wf).setCell (a := ⟨g, 0, none⟩) (.inl rfl) _, wf, Kq, Kept.refl _ _⟩)
    exact .nil _
  · (intro x wf Kk hv); (try dsimp only); (have p12 : Pr.p (Sl := (fun _ => (fun j => j = g))) (PUn w.drew g 0 (.int .i64 (vm : Int))) (x 12) wf := hv 12 (by kernel_rfl)); (clear hv); (obtain ⟨w4, hw4⟩ : ∃ w4, w4 = wf := ⟨_, rfl⟩); (subst hw4); (have hT4 := hid (hTq.out w4 (by obtain ⟨wa, h1, h2⟩ := p12; exact ⟨wa, h1.undrew, h2⟩)))
    have hK4 : Hd (Kept (SQ gt (.slice (some ⟨g, 0, none⟩) n cap)) w w4) := ⟨by
      obtain ⟨wa, h1, h2⟩ := p12
      exact ((h1.undrew.of_no (S := SQ gt (.slice (some ⟨g, 0, none⟩) n cap))).setCell (a := ⟨g, 0, none⟩) (.inl (.inr rfl)) (.int .i64 (vm : Int))).trans' h2⟩
    (obtain ⟨_, d1, _⟩ := slot2 hT4.out.blk); (have f4 : w4.frozen? ⟨gt, 1, none⟩ = false := row_free hT4.out.blk 1); (have hot := own_take (k := m) (by have := hT4.out.els; rw [show (h.set 0 vm).length = n by rw [List.length_set]; have := hplen.out; rw [popL_len] at this; omega] at this; exact this) (by omega))
    have hT5 : Hd (TreeS w1 (w4.setCell ⟨gt, 1, none⟩ (.slice (some ⟨g, 0, none⟩) m cap)) gt gv vn q (.slice (some ⟨g, 0, none⟩) m cap) (popL h)) := ⟨by
      (refine hT4.out.elems ?_ (Kept.refl _ _) (.inl rfl)); (rw [hplen.out, ← hpl.out]); (unfold hz at hot ⊢)
      rw [List.map_take, List.map_take]; exact hot⟩
    (have hK5 : Hd (Kept (SQ gt (.slice (some ⟨g, 0, none⟩) n cap)) w (w4.setCell ⟨gt, 1, none⟩ (.slice (some ⟨g, 0, none⟩) m cap))) := ⟨hK4.out.setCell (a := ⟨gt, 1, none⟩) (.inl (.inl rfl)) _⟩); (have hsl : ∀ W, (Instr.slice 26 (.slice (some ⟨g, 0, none⟩) n cap) none (some (.int .i64 (m : Int))) none).run Tryz.prog W = .ok (.slice (some ⟨g, 0, none⟩) m cap) W := fun W => pre_sliceI (some ⟨g, 0, none⟩) n cap m (.inr ⟨_, _, rfl⟩) hmc W); (clear Kk p12 hTq hK4 hot hT4 c1 c1a); (go_upto_region 3 with fail); (obtain ⟨w5, hw5⟩ : ∃ w5, w5 = w4.setCell ⟨gt, 1, none⟩ (.slice (some ⟨g, 0, none⟩) m cap) := ⟨_, rfl⟩); (rw [← hw5]); (rw [← hw5] at hT5 hK5); (obtain ⟨_, c1, _⟩ := slot2 hT5.out.blk); (obtain ⟨hp, hhp⟩ : ∃ hp, popL h = hp := ⟨_, rfl⟩); (rw [hhp] at hT5 hdn hxa hplen); (replace hhp := hid hhp); (have hpm : Hd (hp.Perm hp) := ⟨List.Perm.refl _⟩); (clear hw5 d1 f4 hpl hsl hfg); (go_wp2)
    go_loopw [4] (fun j wr => ∃ (i : Nat) (hc : List Nat), (i < m ∨ i = 0) ∧ j = .int .i64 (i : Int) ∧ Hd (hc.length = m) ∧ Hd (DnI (nds q) hc i) ∧ Hd (hc.Perm hp) ∧ Hd (TreeS w1 wr gt gv vn q (.slice (some ⟨g, 0, none⟩) m cap) hc) ∧ Hd (Kept (SQ gt (.slice (some ⟨g, 0, none⟩) n cap)) w wr)) (fun j _ => m + 1 - (intOf j).toNat)
    case atStart => exact ⟨0, hp, .inr rfl, rfl, hplen, hdn, hpm, hT5, hK5⟩
    case round =>
      (obtain ⟨wo, hwo⟩ : ∃ wo, wo = wr := ⟨_, rfl⟩); (subst hwo); (obtain ⟨i, hc, him, rfl, hcl, hu, hpe, hT, hK⟩ := hrel); (clear hT5 hK5 hdn hpm c1); (have hi0 : (0 : Int) ≤ (i : Int) := by omega); (have him1 : i ≤ 100000 := by omega); (have hw1 : IntKind.i64.wrap (2 * (i : Int)) = ((2 * i : Nat) : Int) := by rw [IntWalk.i64_in _ (by omega)]; omega); (have hw2 : IntKind.i64.wrap (((2 * i : Nat) : Int) + 1) = ((2 * i + 1 : Nat) : Int) := by rw [IntWalk.i64_in _ (by omega)]; omega); (have hw3 : IntKind.i64.wrap (((2 * i : Nat) : Int) + 2) = ((2 * i + 2 : Nat) : Int) := by rw [IntWalk.i64_in _ (by omega)]; omega); (obtain ⟨I2, hI2⟩ : ∃ I2, 2 * i = I2 := ⟨_, rfl⟩); (rw [hI2] at hw1 hw2 hw3); (go_wp2)
      go_loopw [5, 6] (fun ls ch wr => ∃ k : Nat, k ≤ 2 ∧ ls = .int .i64 ((lstC (nds q) hc i k : Nat) : Int) ∧ ch = .int .i64 ((I2 + 1 + k : Nat) : Int) ∧ Hd (Kept no wo wr)) (fun _ ch _ => I2 + 4 - (intOf ch).toNat)
      case atStart => exact ⟨0, by omega, by go_num, by go_num, ⟨Kept.refl _ _⟩⟩
      case round =>
        (obtain ⟨k, hk, rfl, rfl, hKi⟩ := hrel); (have hT2 := hid (hT.out.keptNo hKi.out))
        by_cases hin : k < 2 ∧ I2 + 1 + k < m
        · (obtain ⟨hk2, hkm⟩ := hin); (have him2 : i < m := by omega); (obtain ⟨_, hLl, _, _⟩ := lstC_spec (nds q) hc i (by rw [hcl.out]; exact him2) k hk); (rw [hcl.out] at hLl); (have hle : ((I2 + 1 + k : Nat) : Int) ≤ ((I2 + 2 : Nat) : Int) := by omega); (have hled : decide (((I2 + 1 + k : Nat) : Int) ≤ ((I2 + 2 : Nat) : Int)) = true := decide_eq_true hle); (have hltm : ((I2 + 1 + k : Nat) : Int) < (m : Int) := by omega); (have hltd : decide (((I2 + 1 + k : Nat) : Int) < (m : Int)) = true := decide_eq_true hltm); (have hst : Hd (lstC (nds q) hc i (k + 1) = if I2 + 1 + k < m ∧ lsN (nds q) (hc.getD (I2 + 1 + k) 0) (hc.getD (lstC (nds q) hc i k) 0) = true then I2 + 1 + k else lstC (nds q) hc i k) := ⟨by rw [← hcl.out, ← hI2]; rfl⟩); (obtain ⟨L, hL⟩ : ∃ L, lstC (nds q) hc i k = L := ⟨_, rfl⟩); (rw [hL] at hLl hst ⊢); (have hchw : IntKind.i64.wrap (((I2 + 1 + k : Nat) : Int) + 1) = ((I2 + 1 + (k + 1) : Nat) : Int) := by rw [IntWalk.i64_in _ (by omega)]; omega); (have hmeas : I2 + 1 + k < I2 + 4 := by omega); (obtain ⟨c, hce⟩ : ∃ c, I2 + 1 + k = c := ⟨_, rfl⟩); (rw [hce] at hle hled hltm hltd hst hkm hchw hmeas ⊢); (obtain ⟨b1, o1, e1, l1⟩ := hT2.out.rdE.at c (by rw [hz_len, hcl.out]; exact hkm))
          cases e1
          obtain ⟨b1, o1, e1, l2⟩ := hT2.out.rdE.at L (by rw [hz_len, hcl.out]; exact hLl)
          cases e1
          (rw [hz_at] at l1 l2); (simp only [Nat.zero_add] at l1 l2); (have hin2 : Hd (∀ k, k < m → hc.getD k 0 < q.length) := ⟨fun k hk => hxa.out _ (hpe.out.mem_iff.1 (by rw [List.getD_eq_getElem?_getD, List.getElem?_eq_getElem (by rw [hcl.out]; exact hk)]; simp))⟩); (have hLs := hid (fun W (kW : Kept no wr W) => tless_any (hc.getD c 0) (hc.getD L 0) gt gv vn q W (hin2.out c hkm) (hin2.out L hLl) (by rw [cell_of_row _ _ 0 _ _ _ (kW.blk hT2.out.var)]; rfl) (slot2 (kW.blk hT2.out.blk)).1 (hT2.out.own.rd.kept kW))); (have s3 := (slot2 hT2.out.blk).2.2); (unfold lessV at s3); (obtain ⟨vc, hvc⟩ : ∃ v, hc.getD c 0 = v := ⟨_, rfl⟩); (obtain ⟨vl, hvl⟩ : ∃ v, hc.getD L 0 = v := ⟨_, rfl⟩); (rw [hvc] at l1 hLs hst); (rw [hvl] at l2 hLs hst); (obtain ⟨b, hb⟩ : ∃ b, lsN (nds q) vc vl = b := ⟨_, rfl⟩); (rw [hb] at hLs hst); (have hc0 : (0 : Int) ≤ (c : Int) := by omega); (have hL0 : (0 : Int) ≤ (L : Int) := by omega); (have hLm : (L : Int) < (m : Int) := by omega); (replace l1 := hid l1); (replace l2 := hid l2); (replace s3 := hid s3); (replace hce := hid hce); (clear hb hvc hvl hin2 hT2)
          cases b with
          | false =>
            (have hnx : Hd (lstC (nds q) hc i (k + 1) = L) := ⟨by rw [hst.out, if_neg (fun h => by cases h.2)]⟩); (clear hst hL); (go_upto_region 9 with fail); (refine region_flow (S := no) (Sl := (fun _ => no)) [Is (.pointer (some ⟨gt, 1, none⟩)), Is (.pointer (some ⟨gt, 1, none⟩)), Is (.pointer (some ⟨gt, 2, none⟩)), Is (.func (.func 84) #[] #[.pointer (some ⟨gv, 0, none⟩)]), Is (.slice (some ⟨g, 0, none⟩) m cap), Is (.int .i64 (c : Int)), Is (.pointer (some ⟨g, c, none⟩)), Is (.int .i64 (vc : Int)), Is (.slice (some ⟨g, 0, none⟩) m cap), Is (.int .i64 (L : Int)), Is (.pointer (some ⟨g, L, none⟩)), Is (.int .i64 (vl : Int)), Is (.bool false)] [] (fun _ _ h => h) _ (by kernel_rfl) (by kernel_rfl) (by kernel_rfl) (by kernel_rfl) (fun x => by simp only [puts, Act.put, List.map_cons, List.map_nil, Nat.zero_add, Nat.reduceAdd, List.setIfInBounds_toArray, List.set_cons_zero, List.set_cons_succ]; exact rfl) ?_ ?_)
            · (skip); (refine .cons (fun x wf Kk hq hdep hold => ?_) ?_)
              · (try dsimp only); (clear hq hdep hold); (rw [if_pos (by rfl)]); (refine OpY.val ?_ ⟨Kept.refl _ _, rfl⟩); (first | rfl | go_simp)
              refine .cons (fun x wf Kk hq hdep hold => ?_) ?_
              · (try dsimp only); (have h0 : x 0 = _ := hdep 0 (by kernel_rfl)); (clear hq hdep hold); (simp only [h0]); (clear h0); (rw [if_pos (by rfl)]); (refine OpY.val ?_ ⟨Kept.refl _ _, rfl⟩); (first | rfl | go_simp)
              refine .cons (fun x wf Kk hq hdep hold => ?_) ?_
              · (try dsimp only); (have h1 : x 1 = _ := hdep 1 (by kernel_rfl)); (clear hq hdep hold); (simp only [h1]); (clear h1); (rw [if_pos (by rfl)]); (refine OpY.val ?_ ⟨Kept.refl _ _, rfl⟩); (first | rfl | go_simp)
              refine .cons (fun x wf Kk hq hdep hold => ?_) ?_
              · (try dsimp only); (have h2 : x 2 = _ := hdep 2 (by kernel_rfl)); (clear hq hdep hold); (simp only [h2]); (clear h2); (have m1 := Kk.undrew.cell s3.out id); (rw [if_pos (by rfl)]); (refine OpY.val ?_ ⟨Kept.refl _ _, rfl⟩); (first | rfl | go_simp)
              refine .cons (fun x wf Kk hq hdep hold => ?_) ?_
              · (try dsimp only); (clear hq hdep hold); (rw [if_pos (by rfl)]); (refine OpY.val ?_ ⟨Kept.refl _ _, rfl⟩); (first | rfl | go_simp)
              refine .cons (fun x wf Kk hq hdep hold => ?_) ?_
              · (try dsimp only); (clear hq hdep hold); (rw [if_pos (by rfl)]); (refine OpY.val ?_ ⟨Kept.refl _ _, rfl⟩); (first | rfl | go_simp)
              refine .cons (fun x wf Kk hq hdep hold => ?_) ?_
              · (try dsimp only); (have h4 : x 4 = _ := hdep 4 (by kernel_rfl)); (have h5 : x 5 = _ := hdep 5 (by kernel_rfl)); (clear hq hdep hold); (simp only [h4, h5]); (clear h4 h5); (rw [if_pos (by rfl)]); (refine OpY.val ?_ ⟨Kept.refl _ _, rfl⟩); (first | rfl | go_simp)
              refine .cons (fun x wf Kk hq hdep hold => ?_) ?_
              · (try dsimp only); (have h6 : x 6 = _ := hdep 6 (by kernel_rfl)); (clear hq hdep hold); (simp only [h6]); (clear h6); (have m1 := Kk.undrew.cell l1.out id); (rw [if_pos (by rfl)]); (refine OpY.val ?_ ⟨Kept.refl _ _, rfl⟩); (first | rfl | go_simp)
              refine .cons (fun x wf Kk hq hdep hold => ?_) ?_
              · (try dsimp only); (clear hq hdep hold); (rw [if_pos (by rfl)]); (refine OpY.val ?_ ⟨Kept.refl _ _, rfl⟩); (first | rfl | go_simp)
              refine .cons (fun x wf Kk hq hdep hold => ?_) ?_
              · (try dsimp only); (clear hq hdep hold); (rw [if_pos (by rfl)]); (refine OpY.val ?_ ⟨Kept.refl _ _, rfl⟩); (first | rfl | go_simp)
              refine .cons (fun x wf Kk hq hdep hold => ?_) ?_
              · (try dsimp only); (have h8 : x 8 = _ := hdep 8 (by kernel_rfl)); (have h9 : x 9 = _ := hdep 9 (by kernel_rfl)); (clear hq hdep hold); (simp only [h8, h9]); (clear h8 h9); (rw [if_pos (by rfl)]); (refine OpY.val ?_ ⟨Kept.refl _ _, rfl⟩); (first | rfl | go_simp)
              refine .cons (fun x wf Kk hq hdep hold => ?_) ?_
              · (try dsimp only); (have h10 : x 10 = _ := hdep 10 (by kernel_rfl)); (clear hq hdep hold); (simp only [h10]); (clear h10); (have m1 := Kk.undrew.cell l2.out id); (rw [if_pos (by rfl)]); (refine OpY.val ?_ ⟨Kept.refl _ _, rfl⟩); (first | rfl | go_simp)
              refine .cons (fun x wf Kk hq hdep hold => ?_) ?_
              · (try dsimp only); (have h3 : x 3 = _ := hdep 3 (by kernel_rfl)); (have h7 : x 7 = _ := hdep 7 (by kernel_rfl)); (have h11 : x 11 = _ := hdep 11 (by kernel_rfl)); (clear hq hdep hold); (simp only [h3, h7, h11]); (clear h3 h7 h11); (rw [if_pos (by rfl)]); (refine OpY.call (f := 84) (args := #[.int .i64 (vc : Int), .int .i64 (vl : Int), .pointer (some ⟨gv, 0, none⟩)]) (by go_simp) ?_); (refine (hLs.out wf Kk.undrew).mono ?_); (rintro e w2 ⟨rfl, k2⟩); (exact ⟨_, rfl, k2, rfl⟩)
              exact .nil _
            · (intro x wf Kk hv); (try dsimp only); (have h12 : x 12 = _ := hv 12 (by kernel_rfl)); (clear hv); (simp only [h12]); (clear h12); (have hK2 := hid (hKi.out.trans' Kk.undrew)); (clear Kk hKi hLs l1 l2 s3); (go_wp2); (go_roundw)
              case rel => first | exact ⟨k + 1, by omega, by rw [hnx.out], by go_num, hK2⟩ | ((repeat apply Exists.intro); exact ⟨⟨k + 1, by omega, by rw [hnx.out], by go_num, hK2⟩, rfl⟩)
              case measure => simp only [intOf, Int.toNat_natCast]; have := hce.out; omega
          | true =>
            (have hnx : Hd (lstC (nds q) hc i (k + 1) = c) := ⟨by rw [hst.out, if_pos ⟨hkm, rfl⟩]⟩); (clear hst hL); (go_upto_region 9 with fail); (refine region_flow (S := no) (Sl := (fun _ => no)) [Is (.pointer (some ⟨gt, 1, none⟩)), Is (.pointer (some ⟨gt, 1, none⟩)), Is (.pointer (some ⟨gt, 2, none⟩)), Is (.func (.func 84) #[] #[.pointer (some ⟨gv, 0, none⟩)]), Is (.slice (some ⟨g, 0, none⟩) m cap), Is (.int .i64 (c : Int)), Is (.pointer (some ⟨g, c, none⟩)), Is (.int .i64 (vc : Int)), Is (.slice (some ⟨g, 0, none⟩) m cap), Is (.int .i64 (L : Int)), Is (.pointer (some ⟨g, L, none⟩)), Is (.int .i64 (vl : Int)), Is (.bool true)] [] (fun _ _ h => h) _ (by kernel_rfl) (by kernel_rfl) (by kernel_rfl) (by kernel_rfl) (fun x => by simp only [puts, Act.put, List.map_cons, List.map_nil, Nat.zero_add, Nat.reduceAdd, List.setIfInBounds_toArray, List.set_cons_zero, List.set_cons_succ]; exact rfl) ?_ ?_)
            · (skip); (refine .cons (fun x wf Kk hq hdep hold => ?_) ?_)
              · (try dsimp only); (clear hq hdep hold); (rw [if_pos (by rfl)]); (refine OpY.val ?_ ⟨Kept.refl _ _, rfl⟩); (first | rfl | go_simp)
              refine .cons (fun x wf Kk hq hdep hold => ?_) ?_
              · (try dsimp only); (have h0 : x 0 = _ := hdep 0 (by kernel_rfl)); (clear hq hdep hold); (simp only [h0]); (clear h0); (rw [if_pos (by rfl)]); (refine OpY.val ?_ ⟨Kept.refl _ _, rfl⟩); (first | rfl | go_simp)
              refine .cons (fun x wf Kk hq hdep hold => ?_) ?_
              · (try dsimp only); (have h1 : x 1 = _ := hdep 1 (by kernel_rfl)); (clear hq hdep hold); (simp only [h1]); (clear h1); (rw [if_pos (by rfl)]); (refine OpY.val ?_ ⟨Kept.refl _ _, rfl⟩); (first | rfl | go_simp)
              refine .cons (fun x wf Kk hq hdep hold => ?_) ?_
              · (try dsimp only); (have h2 : x 2 = _ := hdep 2 (by kernel_rfl)); (clear hq hdep hold); (simp only [h2]); (clear h2); (have m1 := Kk.undrew.cell s3.out id); (rw [if_pos (by rfl)]); (refine OpY.val ?_ ⟨Kept.refl _ _, rfl⟩); (first | rfl | go_simp)
              refine .cons (fun x wf Kk hq hdep hold => ?_) ?_
              · (try dsimp only); (clear hq hdep hold); (rw [if_pos (by rfl)]); (refine OpY.val ?_ ⟨Kept.refl _ _, rfl⟩); (first | rfl | go_simp)
              refine .cons (fun x wf Kk hq hdep hold => ?_) ?_
              · (try dsimp only); (clear hq hdep hold); (rw [if_pos (by rfl)]); (refine OpY.val ?_ ⟨Kept.refl _ _, rfl⟩); (first | rfl | go_simp)
              refine .cons (fun x wf Kk hq hdep hold => ?_) ?_
              · (try dsimp only); (have h4 : x 4 = _ := hdep 4 (by kernel_rfl)); (have h5 : x 5 = _ := hdep 5 (by kernel_rfl)); (clear hq hdep hold); (simp only [h4, h5]); (clear h4 h5); (rw [if_pos (by rfl)]); (refine OpY.val ?_ ⟨Kept.refl _ _, rfl⟩); (first | rfl | go_simp)
              refine .cons (fun x wf Kk hq hdep hold => ?_) ?_
              · (try dsimp only); (have h6 : x 6 = _ := hdep 6 (by kernel_rfl)); (clear hq hdep hold); (simp only [h6]); (clear h6); (have m1 := Kk.undrew.cell l1.out id); (rw [if_pos (by rfl)]); (refine OpY.val ?_ ⟨Kept.refl _ _, rfl⟩); (first | rfl | go_simp)
              refine .cons (fun x wf Kk hq hdep hold => ?_) ?_
              · (try dsimp only); (clear hq hdep hold); (rw [if_pos (by rfl)]); (refine OpY.val ?_ ⟨Kept.refl _ _, rfl⟩); (first | rfl | go_simp)
              refine .cons (fun x wf Kk hq hdep hold => ?_) ?_
              · (try dsimp only); (clear hq hdep hold); (rw [if_pos (by rfl)]); (refine OpY.val ?_ ⟨Kept.refl _ _, rfl⟩); (first | rfl | go_simp)
              refine .cons (fun x wf Kk hq hdep hold => ?_) ?_
              · (try dsimp only); (have h8 : x 8 = _ := hdep 8 (by kernel_rfl)); (have h9 : x 9 = _ := hdep 9 (by kernel_rfl)); (clear hq hdep hold); (simp only [h8, h9]); (clear h8 h9); (rw [if_pos (by rfl)]); (refine OpY.val ?_ ⟨Kept.refl _ _, rfl⟩); (first | rfl | go_simp)
              refine .cons (fun x wf Kk hq hdep hold => ?_) ?_
              · (try dsimp only); (have h10 : x 10 = _ := hdep 10 (by kernel_rfl)); (clear hq hdep hold); (simp only [h10]); (clear h10); (have m1 := Kk.undrew.cell l2.out id); (rw [if_pos (by rfl)]); (refine OpY.val ?_ ⟨Kept.refl _ _, rfl⟩); (first | rfl | go_simp)
              refine .cons (fun x wf Kk hq hdep hold => ?_) ?_
              · (try dsimp only); (have h3 : x 3 = _ := hdep 3 (by kernel_rfl)); (have h7 : x 7 = _ := hdep 7 (by kernel_rfl)); (have h11 : x 11 = _ := hdep 11 (by kernel_rfl)); (clear hq hdep hold); (simp only [h3, h7, h11]); (clear h3 h7 h11); (rw [if_pos (by rfl)]); (refine OpY.call (f := 84) (args := #[.int .i64 (vc : Int), .int .i64 (vl : Int), .pointer (some ⟨gv, 0, none⟩)]) (by go_simp) ?_); (refine (hLs.out wf Kk.undrew).mono ?_); (rintro e w2 ⟨rfl, k2⟩); (exact ⟨_, rfl, k2, rfl⟩)
              exact .nil _
            · (intro x wf Kk hv); (try dsimp only); (have h12 : x 12 = _ := hv 12 (by kernel_rfl)); (clear hv); (simp only [h12]); (clear h12); (have hK2 := hid (hKi.out.trans' Kk.undrew)); (clear Kk hKi hLs l1 l2 s3); (go_wp2); (go_roundw)
              case rel => first | exact ⟨k + 1, by omega, by rw [hnx.out], by go_num, hK2⟩ | ((repeat apply Exists.intro); exact ⟨⟨k + 1, by omega, by rw [hnx.out], by go_num, hK2⟩, rfl⟩)
              case measure => simp only [intOf, Int.toNat_natCast]; have := hce.out; omega
        · have hLk : Hd (lstC (nds q) hc i 2 = lstC (nds q) hc i k) := ⟨by
            rcases Nat.lt_or_ge k 2 with h | h
            · exact lstC_stop hk (by rw [hcl.out]; omega)
            · rw [show k = 2 by omega]⟩
          (have hK3 := hid (hK.out.trans' hKi.out)); (obtain ⟨L, hL⟩ : ∃ L, lstC (nds q) hc i k = L := ⟨_, rfl⟩); (rw [hL] at hLk ⊢)
          by_cases hLi : L = i
          · (have hLii : (L : Int) = (i : Int) := by omega); (have hend := hid (dnI_end hu.out (by rw [hLk.out]; exact hLi))); (clear hu hLk hT hK hL)
            by_cases hk2 : k = 2
            · (subst hk2); (have hle : decide (((I2 + 1 + 2 : Nat) : Int) ≤ ((I2 + 2 : Nat) : Int)) = false := decide_eq_false (by omega)); (have hle2 : ¬ ((I2 + 1 + 2 : Nat) : Int) ≤ ((I2 + 2 : Nat) : Int) := by omega); (go_wp2)
              (try simp only [Exit.inBlock, Exit.then])
              (refine bodyPost_ret (results_none rfl _ _ _) rfl ?_); (exact ⟨rfl, _, hc, hT2.out, by rw [hhp.out]; exact hpe.out, hend.out, hK3.out⟩)
            · (have hle : decide (((I2 + 1 + k : Nat) : Int) ≤ ((I2 + 2 : Nat) : Int)) = true := decide_eq_true (by omega)); (have hlm : decide (((I2 + 1 + k : Nat) : Int) < (m : Int)) = false := decide_eq_false (by omega)); (have hlm2 : ¬ ((I2 + 1 + k : Nat) : Int) < (m : Int) := by omega); (have hle2 : ((I2 + 1 + k : Nat) : Int) ≤ ((I2 + 2 : Nat) : Int) := by omega); (go_wp2)
              (try simp only [Exit.inBlock, Exit.then])
              (refine bodyPost_ret (results_none rfl _ _ _) rfl ?_); (exact ⟨rfl, _, hc, hT2.out, by rw [hhp.out]; exact hpe.out, hend.out, hK3.out⟩)
          · have hLii : ¬ (L : Int) = (i : Int) := by omega
            have him2 : i < m := by
              rcases him with h | h
              · exact h
              · rcases Nat.lt_or_ge i m with h2 | h2
                · exact h2
                · exfalso
                  apply hLi
                  rw [← hL, ← lstC_stop hk (by rw [hcl.out]; omega), lstC_stop (k := 0) (by omega) (by rw [hcl.out]; omega)]; rfl
            (obtain ⟨hLs, hLl, _, _⟩ := lstC_spec (nds q) hc i (by rw [hcl.out]; exact him2) 2 (Nat.le_refl 2)); (have hup := hid (dnI_step hu.out (by rw [hcl.out]; exact him2) (by rw [hLk.out]; exact hLi))); (rw [hLk.out] at hLs hLl hup); (rw [hcl.out] at hLl)
            have hiL : i < L := by
              rcases hLs with h | ⟨c, _, h⟩
              · exact absurd h hLi
              · omega
            (have hpm : Hd ((swp hc i L).Perm hp) := ⟨(swp_perm (by rw [hcl.out]; exact him2) (by rw [hcl.out]; omega) (by omega)).trans hpe.out⟩); (have hcl2 : Hd ((swp hc i L).length = m) := ⟨by rw [swp_len]; exact hcl.out⟩); (obtain ⟨b1, o1, e1, l1⟩ := hT2.out.rdE.at i (by rw [hz_len, hcl.out]; exact him2))
            cases e1
            obtain ⟨b1, o1, e1, l2⟩ := hT2.out.rdE.at L (by rw [hz_len, hcl.out]; exact hLl)
            cases e1
            (rw [hz_at] at l1 l2); (simp only [Nat.zero_add] at l1 l2); (have hpt := hid (fun W (hh : ∃ wa wb, Kept no wr wa ∧ Kept no (wa.setCell ⟨g, i, none⟩ (.int .i64 ((hc.getD L 0 : Nat) : Int))) wb ∧ Kept no (wb.setCell ⟨g, L, none⟩ (.int .i64 ((hc.getD i 0 : Nat) : Int))) W) => TreeS.put hT2.out hcl.out hh))
            have hfg : Hd (∀ W, Kept no wr W → ∀ j, W.frozen? ⟨g, j, none⟩ = false) := ⟨fun W kW j => by
              obtain ⟨_, ⟨h, _⟩ | ⟨g', c', cur, e', _, hg, _⟩⟩ := hT2.out.els
              · cases h
              · cases e'; exact row_free (kW.blk hg) j⟩
            (obtain ⟨vi, hvi⟩ : ∃ v, hc.getD i 0 = v := ⟨_, rfl⟩); (obtain ⟨vp, hvp⟩ : ∃ v, hc.getD L 0 = v := ⟨_, rfl⟩); (rw [hvi] at l1 hpt); (rw [hvp] at l2 hpt); (replace l1 := hid l1); (replace l2 := hid l2); (have hil : (i : Int) < (m : Int) := by omega); (have hLl2 : (L : Int) < (m : Int) := by omega); (have hL0 : (0 : Int) ≤ (L : Int) := by omega); (clear hvi hvp hu hLk hT hK hL hLs hT2)
            by_cases hk2 : k = 2
            · (subst hk2); (have hle : decide (((I2 + 1 + 2 : Nat) : Int) ≤ ((I2 + 2 : Nat) : Int)) = false := decide_eq_false (by omega)); (have hle2 : ¬ ((I2 + 1 + 2 : Nat) : Int) ≤ ((I2 + 2 : Nat) : Int) := by omega); (go_upto_region 12 with fail); (refine region_flow (S := (fun j => j = g)) (Sl := (fun _ => (fun j => j = g))) [Is (.slice (some ⟨g, 0, none⟩) m cap), Is (.int .i64 (i : Int)), Is (.slice (some ⟨g, 0, none⟩) m cap), Is (.int .i64 (L : Int)), Is (.slice (some ⟨g, 0, none⟩) m cap), Is (.int .i64 (L : Int)), Is (.pointer (some ⟨g, L, none⟩)), Is (.int .i64 (vp : Int)), Is (.slice (some ⟨g, 0, none⟩) m cap), Is (.int .i64 (i : Int)), Is (.pointer (some ⟨g, i, none⟩)), Is (.int .i64 (vi : Int)), Is (.pointer (some ⟨g, i, none⟩)), PUn wr.drew g i (.int .i64 (vp : Int)), Is (.pointer (some ⟨g, L, none⟩)), PU2 wr.drew g i L (.int .i64 (vp : Int)) (.int .i64 (vi : Int))] [13, 15] (fun _ _ h => h) _ (by kernel_rfl) (by kernel_rfl) (by kernel_rfl) (by kernel_rfl) (fun x => by simp only [puts, Act.put, List.map_cons, List.map_nil, Nat.zero_add, Nat.reduceAdd, List.setIfInBounds_toArray, List.set_cons_zero, List.set_cons_succ]; exact rfl) ?_ ?_)
              · (skip); (refine .cons (fun x wf Kk hq hdep hold => ?_) ?_)
                · (try dsimp only); (clear hq hdep hold); (rw [if_pos (by rfl)]); (refine OpY.val ?_ ⟨Kept.refl _ _, rfl⟩); (first | rfl | go_simp)
                refine .cons (fun x wf Kk hq hdep hold => ?_) ?_
                · (try dsimp only); (clear hq hdep hold); (rw [if_pos (by rfl)]); (refine OpY.val ?_ ⟨Kept.refl _ _, rfl⟩); (first | rfl | go_simp)
                refine .cons (fun x wf Kk hq hdep hold => ?_) ?_
                · (try dsimp only); (clear hq hdep hold); (rw [if_pos (by rfl)]); (refine OpY.val ?_ ⟨Kept.refl _ _, rfl⟩); (first | rfl | go_simp)
                refine .cons (fun x wf Kk hq hdep hold => ?_) ?_
                · (try dsimp only); (clear hq hdep hold); (rw [if_pos (by rfl)]); (refine OpY.val ?_ ⟨Kept.refl _ _, rfl⟩); (first | rfl | go_simp)
                refine .cons (fun x wf Kk hq hdep hold => ?_) ?_
                · (try dsimp only); (clear hq hdep hold); (rw [if_pos (by rfl)]); (refine OpY.val ?_ ⟨Kept.refl _ _, rfl⟩); (first | rfl | go_simp)
                refine .cons (fun x wf Kk hq hdep hold => ?_) ?_
                · (try dsimp only); (clear hq hdep hold); (rw [if_pos (by rfl)]); (refine OpY.val ?_ ⟨Kept.refl _ _, rfl⟩); (first | rfl | go_simp)
                refine .cons (fun x wf Kk hq hdep hold => ?_) ?_
                · (try dsimp only); (have h4 : x 4 = _ := hdep 4 (by kernel_rfl)); (have h5 : x 5 = _ := hdep 5 (by kernel_rfl)); (clear hq hdep hold); (simp only [h4, h5]); (clear h4 h5); (rw [if_pos (by rfl)]); (refine OpY.val ?_ ⟨Kept.refl _ _, rfl⟩); (first | rfl | go_simp)
                refine .cons (fun x wf Kk hq hdep hold => ?_) ?_
                · (try dsimp only); (have h6 : x 6 = _ := hdep 6 (by kernel_rfl)); (have Kq := hq no (fun j hj => by cases (show j ∈ ([] : List Nat) from by (have e : ∀ l : List Nat, l = [] → j ∈ l → j ∈ ([] : List Nat) := fun l h h2 => h ▸ h2); exact e _ (by kernel_rfl) hj))); (clear hq hdep hold); (simp only [h6]); (clear h6); (have m1 := Kq.undrew.cell (l2.out) id); (rw [if_pos (by rfl)]); (refine OpY.val ?_ ⟨Kept.refl _ _, rfl⟩); (first | rfl | go_simp)
                refine .cons (fun x wf Kk hq hdep hold => ?_) ?_
                · (try dsimp only); (clear hq hdep hold); (rw [if_pos (by rfl)]); (refine OpY.val ?_ ⟨Kept.refl _ _, rfl⟩); (first | rfl | go_simp)
                refine .cons (fun x wf Kk hq hdep hold => ?_) ?_
                · (try dsimp only); (clear hq hdep hold); (rw [if_pos (by rfl)]); (refine OpY.val ?_ ⟨Kept.refl _ _, rfl⟩); (first | rfl | go_simp)
                refine .cons (fun x wf Kk hq hdep hold => ?_) ?_
                · (try dsimp only); (have h8 : x 8 = _ := hdep 8 (by kernel_rfl)); (have h9 : x 9 = _ := hdep 9 (by kernel_rfl)); (clear hq hdep hold); (simp only [h8, h9]); (clear h8 h9); (rw [if_pos (by rfl)]); (refine OpY.val ?_ ⟨Kept.refl _ _, rfl⟩); (first | rfl | go_simp)
                refine .cons (fun x wf Kk hq hdep hold => ?_) ?_
                · (try dsimp only); (have h10 : x 10 = _ := hdep 10 (by kernel_rfl)); (have Kq := hq no (fun j hj => by cases (show j ∈ ([] : List Nat) from by (have e : ∀ l : List Nat, l = [] → j ∈ l → j ∈ ([] : List Nat) := fun l h h2 => h ▸ h2); exact e _ (by kernel_rfl) hj))); (clear hq hdep hold); (simp only [h10]); (clear h10); (have m1 := Kq.undrew.cell (l1.out) id); (rw [if_pos (by rfl)]); (refine OpY.val ?_ ⟨Kept.refl _ _, rfl⟩); (first | rfl | go_simp)
                refine .cons (fun x wf Kk hq hdep hold => ?_) ?_
                · (try dsimp only); (have h0 : x 0 = _ := hdep 0 (by kernel_rfl)); (have h1 : x 1 = _ := hdep 1 (by kernel_rfl)); (clear hq hdep hold); (simp only [h0, h1]); (clear h0 h1); (rw [if_pos (by rfl)]); (refine OpY.val ?_ ⟨Kept.refl _ _, rfl⟩); (first | rfl | go_simp)
                refine .cons (fun x wf Kk hq hdep hold => ?_) ?_
                · (try dsimp only); (have h12 : x 12 = _ := hdep 12 (by kernel_rfl)); (have h7 : x 7 = _ := hdep 7 (by kernel_rfl)); (have Kq := hq no (fun j hj => by cases (show j ∈ ([] : List Nat) from by (have e : ∀ l : List Nat, l = [] → j ∈ l → j ∈ ([] : List Nat) := fun l h h2 => h ▸ h2); exact e _ (by kernel_rfl) hj))); (clear hq hdep hold); (simp only [h12, h7]); (clear h12 h7); (rw [if_pos (by rfl)]); (have m1 := Kq.undrew.cell (l1.out) id); (have fz := hfg.out wf (Kq.undrew) i); (refine OpY.skipZ (w' := wf.setCell ⟨g, i, none⟩ (.int .i64 (vp : Int))) (by go_simp) ⟨(Kept.refl (fun j => j = g) wf).setCell (a := ⟨g, i, none⟩) (.inl rfl) _, wf, Kq, Kept.refl _ _⟩)
                refine .cons (fun x wf Kk hq hdep hold => ?_) ?_
                · (try dsimp only); (have h2 : x 2 = _ := hdep 2 (by kernel_rfl)); (have h3 : x 3 = _ := hdep 3 (by kernel_rfl)); (clear hq hdep hold); (simp only [h2, h3]); (clear h2 h3); (rw [if_pos (by rfl)]); (refine OpY.val ?_ ⟨Kept.refl _ _, rfl⟩); (first | rfl | go_simp)
                refine .cons (fun x wf Kk hq hdep hold => ?_) ?_
                · (try dsimp only); (have h14 : x 14 = _ := hdep 14 (by kernel_rfl)); (have h11 : x 11 = _ := hdep 11 (by kernel_rfl)); (have p13 : Pr.p (Sl := (fun _ => (fun j => j = g))) (PUn wr.drew g i (.int .i64 (vp : Int))) (x 13) wf := hdep 13 (by kernel_rfl)); (clear hq hdep hold); (simp only [h14, h11]); (clear h14 h11); (rw [if_pos (by rfl)]); (obtain ⟨wa, h1, h2⟩ := p13); (have mm : (wa.setCell ⟨g, i, none⟩ (.int .i64 (vp : Int))).cell? ⟨g, L, none⟩ = some (.int .i64 (vp : Int)) := (World.cell?_setCell_other _ _ _ _ (fun e => absurd (congrArg Addr.off e) (by show i ≠ L; omega))).trans (h1.undrew.cell (l2.out) id)); (have m1 := h2.cell mm id); (have fz : wf.frozen? ⟨g, L, none⟩ = false := by rw [h2.frozen (a := ⟨g, L, none⟩) (lt_of_cell mm) id, World.frozen?_setCell]; exact hfg.out wa (h1.undrew) L); (refine OpY.skipZ (w' := wf.setCell ⟨g, L, none⟩ (.int .i64 (vi : Int))) (by go_simp) ⟨(Kept.refl (fun j => j = g) wf).setCell (a := ⟨g, L, none⟩) (.inl rfl) _, wa, wf, h1, h2, Kept.refl _ _⟩)
                exact .nil _
              · (intro x wf Kk hv); (try dsimp only); (have p15 : Pr.p (Sl := (fun _ => (fun j => j = g))) (PU2 wr.drew g i L (.int .i64 (vp : Int)) (.int .i64 (vi : Int))) (x 15) wf := hv 15 (by kernel_rfl)); (clear hv)
                have hT9 := hid (hpt.out wf (by
                  obtain ⟨wa, wb, h1, h2, h3⟩ := p15
                  exact ⟨wa, wb, h1.undrew, h2, h3⟩))
                have hK9 : Hd (Kept (SQ gt (.slice (some ⟨g, 0, none⟩) n cap)) w wf) := ⟨by
                  (obtain ⟨wa, wb, h1, h2, h3⟩ := p15); (have e1 := hK3.out.trans' h1.undrew); (have e2 := (e1.setCell (a := ⟨g, i, none⟩) (.inl (.inr rfl)) (.int .i64 (vp : Int))).trans' h2)
                  exact (e2.setCell (a := ⟨g, L, none⟩) (.inl (.inr rfl)) (.int .i64 (vi : Int))).trans' h3⟩
                (clear Kk p15 hpt hfg l1 l2 hK3); (go_wp2); (go_roundw)
                case rel => first | exact ⟨L, swp hc i L, .inl hLl, by go_num, hcl2, hup, hpm, hT9, hK9⟩ | ((repeat apply Exists.intro); exact ⟨⟨L, swp hc i L, .inl hLl, by go_num, hcl2, hup, hpm, hT9, hK9⟩, rfl⟩)
                case measure => simp [intOf]; omega
            · (have hle : decide (((I2 + 1 + k : Nat) : Int) ≤ ((I2 + 2 : Nat) : Int)) = true := decide_eq_true (by omega)); (have hlm : decide (((I2 + 1 + k : Nat) : Int) < (m : Int)) = false := decide_eq_false (by omega)); (have hlm2 : ¬ ((I2 + 1 + k : Nat) : Int) < (m : Int) := by omega); (have hle2 : ((I2 + 1 + k : Nat) : Int) ≤ ((I2 + 2 : Nat) : Int) := by omega); (go_upto_region 12 with fail); (refine region_flow (S := (fun j => j = g)) (Sl := (fun _ => (fun j => j = g))) [Is (.slice (some ⟨g, 0, none⟩) m cap), Is (.int .i64 (i : Int)), Is (.slice (some ⟨g, 0, none⟩) m cap), Is (.int .i64 (L : Int)), Is (.slice (some ⟨g, 0, none⟩) m cap), Is (.int .i64 (L : Int)), Is (.pointer (some ⟨g, L, none⟩)), Is (.int .i64 (vp : Int)), Is (.slice (some ⟨g, 0, none⟩) m cap), Is (.int .i64 (i : Int)), Is (.pointer (some ⟨g, i, none⟩)), Is (.int .i64 (vi : Int)), Is (.pointer (some ⟨g, i, none⟩)), PUn wr.drew g i (.int .i64 (vp : Int)), Is (.pointer (some ⟨g, L, none⟩)), PU2 wr.drew g i L (.int .i64 (vp : Int)) (.int .i64 (vi : Int))] [13, 15] (fun _ _ h => h) _ (by kernel_rfl) (by kernel_rfl) (by kernel_rfl) (by kernel_rfl) (fun x => by simp only [puts, Act.put, List.map_cons, List.map_nil, Nat.zero_add, Nat.reduceAdd, List.setIfInBounds_toArray, List.set_cons_zero, List.set_cons_succ]; exact rfl) ?_ ?_)
              · (skip); (refine .cons (fun x wf Kk hq hdep hold => ?_) ?_)
                · (try dsimp only); (clear hq hdep hold); (rw [if_pos (by rfl)]); (refine OpY.val ?_ ⟨Kept.refl _ _, rfl⟩); (first | rfl | go_simp)
                refine .cons (fun x wf Kk hq hdep hold => ?_) ?_
                · (try dsimp only); (clear hq hdep hold); (rw [if_pos (by rfl)]); (refine OpY.val ?_ ⟨Kept.refl _ _, rfl⟩); (first | rfl | go_simp)
                refine .cons (fun x wf Kk hq hdep hold => ?_) ?_
                · (try dsimp only); (clear hq hdep hold); (rw [if_pos (by rfl)]); (refine OpY.val ?_ ⟨Kept.refl _ _, rfl⟩); (first | rfl | go_simp)
                refine .cons (fun x wf Kk hq hdep hold => ?_) ?_
                · (try dsimp only); (clear hq hdep hold); (rw [if_pos (by rfl)]); (refine OpY.val ?_ ⟨Kept.refl _ _, rfl⟩); (first | rfl | go_simp)
                refine .cons (fun x wf Kk hq hdep hold => ?_) ?_
                · (try dsimp only); (clear hq hdep hold); (rw [if_pos (by rfl)]); (refine OpY.val ?_ ⟨Kept.refl _ _, rfl⟩); (first | rfl | go_simp)
                refine .cons (fun x wf Kk hq hdep hold => ?_) ?_
                · (try dsimp only); (clear hq hdep hold); (rw [if_pos (by rfl)]); (refine OpY.val ?_ ⟨Kept.refl _ _, rfl⟩); (first | rfl | go_simp)
                refine .cons (fun x wf Kk hq hdep hold => ?_) ?_
                · (try dsimp only); (have h4 : x 4 = _ := hdep 4 (by kernel_rfl)); (have h5 : x 5 = _ := hdep 5 (by kernel_rfl)); (clear hq hdep hold); (simp only [h4, h5]); (clear h4 h5); (rw [if_pos (by rfl)]); (refine OpY.val ?_ ⟨Kept.refl _ _, rfl⟩); (first | rfl | go_simp)
                refine .cons (fun x wf Kk hq hdep hold => ?_) ?_
                · (try dsimp only); (have h6 : x 6 = _ := hdep 6 (by kernel_rfl)); (have Kq := hq no (fun j hj => by cases (show j ∈ ([] : List Nat) from by (have e : ∀ l : List Nat, l = [] → j ∈ l → j ∈ ([] : List Nat) := fun l h h2 => h ▸ h2); exact e _ (by kernel_rfl) hj))); (clear hq hdep hold); (simp only [h6]); (clear h6); (have m1 := Kq.undrew.cell (l2.out) id); (rw [if_pos (by rfl)]); (refine OpY.val ?_ ⟨Kept.refl _ _, rfl⟩); (first | rfl | go_simp)
                refine .cons (fun x wf Kk hq hdep hold => ?_) ?_
                · (try dsimp only); (clear hq hdep hold); (rw [if_pos (by rfl)]); (refine OpY.val ?_ ⟨Kept.refl _ _, rfl⟩); (first | rfl | go_simp)
                refine .cons (fun x wf Kk hq hdep hold => ?_) ?_
                · (try dsimp only); (clear hq hdep hold); (rw [if_pos (by rfl)]); (refine OpY.val ?_ ⟨Kept.refl _ _, rfl⟩); (first | rfl | go_simp)
                refine .cons (fun x wf Kk hq hdep hold => ?_) ?_
                · (try dsimp only); (have h8 : x 8 = _ := hdep 8 (by kernel_rfl)); (have h9 : x 9 = _ := hdep 9 (by kernel_rfl)); (clear hq hdep hold); (simp only [h8, h9]); (clear h8 h9); (rw [if_pos (by rfl)]); (refine OpY.val ?_ ⟨Kept.refl _ _, rfl⟩); (first | rfl | go_simp)
                refine .cons (fun x wf Kk hq hdep hold => ?_) ?_
                · (try dsimp only); (have h10 : x 10 = _ := hdep 10 (by kernel_rfl)); (have Kq := hq no (fun j hj => by cases (show j ∈ ([] : List Nat) from by (have e : ∀ l : List Nat, l = [] → j ∈ l → j ∈ ([] : List Nat) := fun l h h2 => h ▸ h2); exact e _ (by kernel_rfl) hj))); (clear hq hdep hold); (simp only [h10]); (clear h10); (have m1 := Kq.undrew.cell (l1.out) id); (rw [if_pos (by rfl)]); (refine OpY.val ?_ ⟨Kept.refl _ _, rfl⟩); (first | rfl | go_simp)
                refine .cons (fun x wf Kk hq hdep hold => ?_) ?_
                · (try dsimp only); (have h0 : x 0 = _ := hdep 0 (by kernel_rfl)); (have h1 : x 1 = _ := hdep 1 (by kernel_rfl)); (clear hq hdep hold); (simp only [h0, h1]); (clear h0 h1); (rw [if_pos (by rfl)]); (refine OpY.val ?_ ⟨Kept.refl _ _, rfl⟩); (first | rfl | go_simp)
                refine .cons (fun x wf Kk hq hdep hold => ?_) ?_
                · (try dsimp only); (have h12 : x 12 = _ := hdep 12 (by kernel_rfl)); (have h7 : x 7 = _ := hdep 7 (by kernel_rfl)); (have Kq := hq no (fun j hj => by cases (show j ∈ ([] : List Nat) from by (have e : ∀ l : List Nat, l = [] → j ∈ l → j ∈ ([] : List Nat) := fun l h h2 => h ▸ h2); exact e _ (by kernel_rfl) hj))); (clear hq hdep hold); (simp only [h12, h7]); (clear h12 h7); (rw [if_pos (by rfl)]); (have m1 := Kq.undrew.cell (l1.out) id); (have fz := hfg.out wf (Kq.undrew) i); (refine OpY.skipZ (w' := wf.setCell ⟨g, i, none⟩ (.int .i64 (vp : Int))) (by go_simp) ⟨(Kept.refl (fun j => j = g) wf).setCell (a := ⟨g, i, none⟩) (.inl rfl) _, wf, Kq, Kept.refl _ _⟩)
                refine .cons (fun x wf Kk hq hdep hold => ?_) ?_
                · (try dsimp only); (have h2 : x 2 = _ := hdep 2 (by kernel_rfl)); (have h3 : x 3 = _ := hdep 3 (by kernel_rfl)); (clear hq hdep hold); (simp only [h2, h3]); (clear h2 h3); (rw [if_pos (by rfl)]); (refine OpY.val ?_ ⟨Kept.refl _ _, rfl⟩); (first | rfl | go_simp)
                refine .cons (fun x wf Kk hq hdep hold => ?_) ?_
                · (try dsimp only); (have h14 : x 14 = _ := hdep 14 (by kernel_rfl)); (have h11 : x 11 = _ := hdep 11 (by kernel_rfl)); (have p13 : Pr.p (Sl := (fun _ => (fun j => j = g))) (PUn wr.drew g i (.int .i64 (vp : Int))) (x 13) wf := hdep 13 (by kernel_rfl)); (clear hq hdep hold); (simp only [h14, h11]); (clear h14 h11); (rw [if_pos (by rfl)]); (obtain ⟨wa, h1, h2⟩ := p13); (have mm : (wa.setCell ⟨g, i, none⟩ (.int .i64 (vp : Int))).cell? ⟨g, L, none⟩ = some (.int .i64 (vp : Int)) := (World.cell?_setCell_other _ _ _ _ (fun e => absurd (congrArg Addr.off e) (by show i ≠ L; omega))).trans (h1.undrew.cell (l2.out) id)); (have m1 := h2.cell mm id); (have fz : wf.frozen? ⟨g, L, none⟩ = false := by rw [h2.frozen (a := ⟨g, L, none⟩) (lt_of_cell mm) id, World.frozen?_setCell]; exact hfg.out wa (h1.undrew) L); (refine OpY.skipZ (w' := wf.setCell ⟨g, L, none⟩ (.int .i64 (vi : Int))) (by go_simp) ⟨(Kept.refl (fun j => j = g) wf).setCell (a := ⟨g, L, none⟩) (.inl rfl) _, wa, wf, h1, h2, Kept.refl _ _⟩)
                exact .nil _
              · (intro x wf Kk hv); (try dsimp only); (have p15 : Pr.p (Sl := (fun _ => (fun j => j = g))) (PU2 wr.drew g i L (.int .i64 (vp : Int)) (.int .i64 (vi : Int))) (x 15) wf := hv 15 (by kernel_rfl)); (clear hv)
                have hT9 := hid (hpt.out wf (by
                  obtain ⟨wa, wb, h1, h2, h3⟩ := p15
                  exact ⟨wa, wb, h1.undrew, h2, h3⟩))
                have hK9 : Hd (Kept (SQ gt (.slice (some ⟨g, 0, none⟩) n cap)) w wf) := ⟨by
                  (obtain ⟨wa, wb, h1, h2, h3⟩ := p15); (have e1 := hK3.out.trans' h1.undrew); (have e2 := (e1.setCell (a := ⟨g, i, none⟩) (.inl (.inr rfl)) (.int .i64 (vp : Int))).trans' h2)
                  exact (e2.setCell (a := ⟨g, L, none⟩) (.inl (.inr rfl)) (.int .i64 (vi : Int))).trans' h3⟩
                (clear Kk p15 hpt hfg l1 l2 hK3); (go_wp2); (go_roundw)
                case rel => first | exact ⟨L, swp hc i L, .inl hLl, by go_num, hcl2, hup, hpm, hT9, hK9⟩ | ((repeat apply Exists.intro); exact ⟨⟨L, swp hc i L, .inl hLl, by go_num, hcl2, hup, hpm, hT9, hK9⟩, rfl⟩)
                case measure => simp [intOf]; omega
end Go.Proofs.YtaobaaaihgahfaaGreat
