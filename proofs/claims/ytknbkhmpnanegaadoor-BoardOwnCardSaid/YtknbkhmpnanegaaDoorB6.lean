/- rebuild, two (printed by gen_b6.py). -/
import Derived.Test.YtknbkhmpnanegaaDoorB5
namespace Go.Proofs.YtknbkhmpnanegaaDoor
open Go.RowKit Go.Mk Go.Sha Go.Brd
theorem results_dg2_tmp {fn : Func} {p p2 q : Tmp} (h : fn.results = #[.cell p 26, .cell p2 26, .tmp q]) (tmps : Array Value) (w : World) (g g2 : Nat) (D D2 : List UInt8) (v : Value)
    (hp : tmps.getD p undef = .pointer (some ⟨g, 0, none⟩)) (hp2 : tmps.getD p2 undef = .pointer (some ⟨g2, 0, none⟩)) (hq : tmps.getD q undef = v) (hg : w.heap[g]? = some (.cells (D.map B).toArray 26 (0, 0))) (hD : D.length = 32)
    (hg2 : w.heap[g2]? = some (.cells (D2.map B).toArray 26 (0, 0))) (hD2 : D2.length = 32) :
    (results fn tmps).run Tryd.prog w = .ok (.tuple #[Dg D, Dg D2, v]) w := by
  have hp' : tmps[p]?.getD undef = .pointer (some ⟨g, 0, none⟩) := by simpa using hp
  have hp2' : tmps[p2]?.getD undef = .pointer (some ⟨g2, 0, none⟩) := by simpa using hp2
  have hq' : tmps[q]?.getD undef = v := by simpa using hq
  have hl := run_loadVar_row w g 26 26 (D.map B).toArray (0, 0) _ hg Tryd.underlying26 rfl (infD hD)
  have hl2 := run_loadVar_row w g2 26 26 (D2.map B).toArray (0, 0) _ hg2 Tryd.underlying26 rfl (infD hD2)
  simp only [results, h, List.mapM_toArray, List.mapM_cons, List.mapM_nil]
  simp [hp', hp2', hq', asAddr, hl, hl2, Dg]
/-- What rebuild and two hand back: the hashes count if the length fits. -/
def RbP (q : List UInt8 × List UInt8 × Bool) (e : Ending) : Prop := ∃ X Y, e = .returned (.tuple #[Dg X, Dg Y, .bool q.2.2]) ∧ X.length = 32 ∧ Y.length = 32 ∧ (q.2.2 = true → X = q.1 ∧ Y = q.2.1)
theorem rb_known (old : List UInt8) (n : Nat) (q : List (List UInt8)) : rebuildR old n n true q = (old, old, q.isEmpty) := by cases q <;> simp [rebuildR]
theorem rb_open (old : List UInt8) (n : Nat) (p : List UInt8) (q : List (List UInt8)) : rebuildR old n n false (p :: q) = (p, p, q.isEmpty) := by simp [rebuildR]
theorem rb_nil (old : List UInt8) (m n : Nat) (k : Bool) (h : m ≠ n ∨ k = false) : rebuildR old m n k [] = (zeroD, zeroD, false) := by
  simp only [rebuildR]; rw [if_neg]; rintro ⟨h1, h2⟩; rcases h with h | h
  · exact h h1
  · rw [h] at h2; cases h2
theorem rb_cons (old : List UInt8) (m n : Nat) (k : Bool) (p : List UInt8) (q : List (List UInt8)) (h : m ≠ n) : rebuildR old m n k (p :: q) = if m ≤ half n then ((rebuildR old m (half n) k q).1, innerD (rebuildR old m (half n) k q).2.1 p, (rebuildR old m (half n) k q).2.2) else (innerD p (rebuildR old (m - half n) (n - half n) false q).1, innerD p (rebuildR old (m - half n) (n - half n) false q).2.1, (rebuildR old (m - half n) (n - half n) false q).2.2) := by
  simp only [rebuildR]; rw [if_neg (fun h' => h h'.1), if_neg h]
theorem three_dg (w : World) (D : List UInt8) : ∃ w1, w1 = ((w.alloc (.cells (D.map B).toArray 26)).alloc (.cells Z32 26)).alloc (.cells Z32 26) ∧ w1.heap[w.heap.size]? = some (.cells (D.map B).toArray 26 (0, 0)) ∧ w1.heap[w.heap.size + 1]? = some (.cells (Z32l.map B).toArray 26 (0, 0)) ∧ w1.heap[w.heap.size + 1 + 1]? = some (.cells (Z32l.map B).toArray 26 (0, 0)) ∧ Kept no w w1 := by
  have e1 := World.size_alloc (w := w) (o := .cells (D.map B).toArray 26)
  have e2 := World.size_alloc (w := w.alloc (.cells (D.map B).toArray 26)) (o := .cells Z32 26)
  refine ⟨_, rfl, ?_, ?_, ?_, (((Kept.refl no w).alloc _).alloc _).alloc _⟩
  · rw [heap_alloc_old _ _ (by omega), heap_alloc_old _ _ (by omega), heap_alloc_new]
  · rw [heap_alloc_old _ _ (by omega), ← e1, heap_alloc_new, Z32_eq]
  · rw [← e1, ← e2, heap_alloc_new, Z32_eq]
theorem dg2_block (w : World) (D E : List UInt8) : ∃ w3, w3 = (((w.alloc (.cells Z32 26)).alloc (.cells Z32 26)).setRow w.heap.size (D.map B).toArray).setRow (w.heap.size + 1) (E.map B).toArray ∧ w3.heap[w.heap.size]? = some (.cells (D.map B).toArray 26 (0, 0)) ∧ w3.heap[w.heap.size + 1]? = some (.cells (E.map B).toArray 26 (0, 0)) ∧ Kept no w w3 := by
  have e1 := World.size_alloc (w := w) (o := .cells Z32 26)
  have a0 : ((w.alloc (.cells Z32 26)).alloc (.cells Z32 26)).heap[w.heap.size]? = some (.cells Z32 26 (0, 0)) := by rw [heap_alloc_old _ _ (by omega), heap_alloc_new]
  have a1 : ((w.alloc (.cells Z32 26)).alloc (.cells Z32 26)).heap[w.heap.size + 1]? = some (.cells Z32 26 (0, 0)) := by rw [← e1, heap_alloc_new]
  refine ⟨_, rfl, ?_, ?_, ((((Kept.refl no w).alloc _).alloc _).setRow (.inr (Nat.le_refl _)) _).setRow (.inr (Nat.le_succ _)) _⟩
  · rw [setRow_other _ _ _ _ (by omega)]; exact setRow_heap _ _ _ _ _ _ a0
  · exact setRow_heap _ _ _ _ _ _ (by rw [setRow_other _ _ _ _ (by omega)]; exact a1)

set_option maxRecDepth 100000 in
set_option maxHeartbeats 4000000 in
theorem rebuild_any (H : List UInt8) (ds : List (List UInt8)) : ∀ (m n : Nat) (known : Bool) (v : Value) (w : World), H.length = 32 → 1 ≤ m → m ≤ n → n ≤ 63 → ds.length ≤ 1000 → RdD w v ds → Tab w → Calls Tryd.prog 70 #[Dg H, .int .i64 (m : Int), .int .i64 (n : Int), v, .bool known] w fun ed w' => RbP (rebuildR H m n known ds.reverse) ed ∧ Kept no w w' := by
  induction hm : ds.length using Nat.strongRecOn generalizing ds with
  | ind m0 ih =>
  intro m n known v w hHl h1m hmn h63 hd hr hT
  obtain ⟨ao, cap, rfl⟩ := Rd.shapeZ hr.2
  replace hHl := hid hHl
  replace hT := hid hT
  have hz : Hd (Z32l.length = 32) := ⟨rfl⟩
  obtain ⟨L, hH⟩ : ∃ L, H.map B = L := ⟨_, rfl⟩
  replace hH := hid hH
  have hDg : Dg H = .agg L.toArray := by rw [← hH.out]; rfl
  rw [hm] at hr ⊢
  have emp : ∀ x, Hd (ds.reverse.isEmpty = x ↔ (m0 = 0 ↔ x = true)) := fun x => ⟨by cases ds with
    | nil => cases x <;> simp at hm <;> simp [← hm]
    | cons y ys => cases x <;> simp at hm <;> simp [← hm]⟩
  by_cases h1 : m = n
  · subst h1
    cases known with
    | true =>
      have hv := hid (rb_known H m ds.reverse)
      by_cases h0 : m0 = 0
      · subst h0
        have hq : Hd (RbP (rebuildR H m m true ds.reverse) (.returned (.tuple #[Dg H, Dg H, .bool true]))) := ⟨by
          rw [hv.out, (emp true).out.2 (by simp)]; exact ⟨H, H, rfl, hHl.out, hHl.out, fun _ => ⟨rfl, rfl⟩⟩⟩
        clear ih hr hm hd hv emp
        rw [hDg]
        clear hDg
        go_enter Tryd.func70, Tryd.ntmps70
        go_upto_region 1 with fail
        obtain ⟨w1, hw1, g0, gX0, gY0, kc⟩ := three_dg w H
        rw [hH.out] at hw1
        unfold Z32 at hw1
        rw [← hw1]
        clear hw1
        replace g0 := hid g0
        replace gX0 := hid gX0
        replace gY0 := hid gY0
        replace kc := hid kc
        have lt_w1 : Hd (w.heap.size + 1 + 1 < w1.heap.size) := ⟨lt_of_heap gY0.out⟩
        go_upto_region 2 with fail
        refine region_flow (S := (frm (w.heap.size + 1))) (Sl := (fun j k => if j = 5 then k = w.heap.size + 1 else k = w.heap.size + 1 + 1)) [Is (Dg H), Is (Dg H), Is (.slice ao 0 cap), Is (.int .i64 0), Is (.bool true), BlkS (Sl := (fun j k => if j = 5 then k = w.heap.size + 1 else k = w.heap.size + 1 + 1)) (w.heap.size + 1) ((H).map B).toArray 26 (fun j => j == 6) (fun j hj => by obtain rfl : j = 6 := (by simpa using hj); show ¬ (if 6 = 5 then w.heap.size + 1 = w.heap.size + 1 else w.heap.size + 1 = w.heap.size + 1 + 1); rw [if_neg (by decide)]; omega), BlkS (Sl := (fun j k => if j = 5 then k = w.heap.size + 1 else k = w.heap.size + 1 + 1)) (w.heap.size + 1 + 1) ((H).map B).toArray 26 (fun j => j == 5) (fun j hj => by obtain rfl : j = 5 := (by simpa using hj); show ¬ (if 5 = 5 then w.heap.size + 1 + 1 = w.heap.size + 1 else w.heap.size + 1 + 1 = w.heap.size + 1 + 1); rw [if_pos rfl]; omega), Is (.bool true)] [5, 6] (fun j k h => by unfold frm; split at h <;> omega) _ (by kernel_rfl) (by kernel_rfl) (by kernel_rfl) (by kernel_rfl) (fun x => by simp only [puts, Act.put, List.map_cons, List.map_nil, Nat.zero_add, Nat.reduceAdd, List.setIfInBounds_toArray, List.set_cons_zero, List.set_cons_succ]; exact rfl) ?_ ?_
        · skip
          refine Steps.cons (fun x wf Kk hq hdep hold => ?_) ?_
          · try dsimp only
            have Kq := hq (fun k => k = w.heap.size + 1 ∨ k = w.heap.size + 1 + 1) (fun j hj k hk => by obtain ⟨h1, h2⟩ := List.mem_filter.1 hj; rcases (show j = 5 ∨ j = 6 by simpa using h1) with rfl | rfl; ((have hk' : (if 5 = 5 then k = w.heap.size + 1 else k = w.heap.size + 1 + 1) := hk); rw [if_pos rfl] at hk'; exact Or.inl hk'); ((have hk' : (if 6 = 5 then k = w.heap.size + 1 else k = w.heap.size + 1 + 1) := hk); rw [if_neg (by decide)] at hk'; exact Or.inr hk'))
            clear hq hdep hold
            rw [if_pos (by rfl)]
            have gl := (Kq.undrew.block (w.heap.size) (lt_of_heap g0.out) (by show ¬ (w.heap.size = w.heap.size + 1 ∨ w.heap.size = w.heap.size + 1 + 1); first | omega | (have := nx.out; omega) | (have := nxa.out; omega))).trans g0.out
            exact yld (.tmp 5) rfl (w.heap.size) rfl (H) gl hHl.out ⟨Kept.refl _ _, rfl⟩
          refine Steps.cons (fun x wf Kk hq hdep hold => ?_) ?_
          · try dsimp only
            have Kq := hq (fun k => k = w.heap.size + 1 ∨ k = w.heap.size + 1 + 1) (fun j hj k hk => by obtain ⟨h1, h2⟩ := List.mem_filter.1 hj; rcases (show j = 5 ∨ j = 6 by simpa using h1) with rfl | rfl; ((have hk' : (if 5 = 5 then k = w.heap.size + 1 else k = w.heap.size + 1 + 1) := hk); rw [if_pos rfl] at hk'; exact Or.inl hk'); ((have hk' : (if 6 = 5 then k = w.heap.size + 1 else k = w.heap.size + 1 + 1) := hk); rw [if_neg (by decide)] at hk'; exact Or.inr hk'))
            clear hq hdep hold
            rw [if_pos (by rfl)]
            have gl := (Kq.undrew.block (w.heap.size) (lt_of_heap g0.out) (by show ¬ (w.heap.size = w.heap.size + 1 ∨ w.heap.size = w.heap.size + 1 + 1); first | omega | (have := nx.out; omega) | (have := nxa.out; omega))).trans g0.out
            exact yld (.tmp 5) rfl (w.heap.size) rfl (H) gl hHl.out ⟨Kept.refl _ _, rfl⟩
          refine Steps.cons (fun x wf Kk hq hdep hold => ?_) ?_
          · try dsimp only
            clear hq hdep hold
            rw [if_pos (by rfl)]
            refine OpY.val (v := (.slice ao 0 cap)) ?_ ⟨Kept.refl _ _, rfl⟩
            first | rfl | go_simp
          refine Steps.cons (fun x wf Kk hq hdep hold => ?_) ?_
          · try dsimp only
            have h2 : x 2 = (.slice ao 0 cap) := hdep 2 (by kernel_rfl)
            clear hq hdep hold
            simp only [h2]
            clear h2
            rw [if_pos (by rfl)]
            refine OpY.val (v := (.int .i64 0)) ?_ ⟨Kept.refl _ _, rfl⟩
            first | rfl | go_simp
          refine Steps.cons (fun x wf Kk hq hdep hold => ?_) ?_
          · try dsimp only
            have h3 : x 3 = (.int .i64 0) := hdep 3 (by kernel_rfl)
            clear hq hdep hold
            simp only [h3]
            clear h3
            rw [if_pos (by rfl)]
            refine OpY.val (v := (.bool true)) ?_ ⟨Kept.refl _ _, rfl⟩
            first | rfl | go_simp
          refine Steps.cons (fun x wf Kk hq hdep hold => ?_) ?_
          · try dsimp only
            have h0 : x 0 = (Dg H) := hdep 0 (by kernel_rfl)
            have Kq := hq (fun k => k = w.heap.size + 1 + 1) (fun j hj k hk => by obtain ⟨h1, h2⟩ := List.mem_filter.1 hj; rcases (show j = 5 ∨ j = 6 by simpa using h1) with rfl | rfl; (exact Bool.noConfusion (h2.symm.trans (by kernel_rfl : _ = false))); ((have hk' : (if 6 = 5 then k = w.heap.size + 1 else k = w.heap.size + 1 + 1) := hk); rw [if_neg (by decide)] at hk'; exact hk'))
            clear hq hdep hold
            simp only [h0]
            clear h0
            rw [if_pos (by rfl)]
            have gz := (Kq.undrew.block (w.heap.size + 1) (lt_of_heap gX0.out) (by show ¬ w.heap.size + 1 = w.heap.size + 1 + 1; omega)).trans gX0.out
            refine ysd (.tmp 10) (.tmp 22) rfl (w.heap.size + 1) rfl (H) rfl _ gz (Dg_cells hz.out) hHl.out ⟨?_, setRow_heap _ _ _ _ _ _ gz⟩
            exact (Kept.refl _ _).setRow (S := fun k => k = w.heap.size + 1) (.inl rfl) _
          refine Steps.cons (fun x wf Kk hq hdep hold => ?_) ?_
          · try dsimp only
            have h1 : x 1 = (Dg H) := hdep 1 (by kernel_rfl)
            have Kq := hq (fun k => k = w.heap.size + 1) (fun j hj k hk => by obtain ⟨h1, h2⟩ := List.mem_filter.1 hj; rcases (show j = 5 ∨ j = 6 by simpa using h1) with rfl | rfl; ((have hk' : (if 5 = 5 then k = w.heap.size + 1 else k = w.heap.size + 1 + 1) := hk); rw [if_pos rfl] at hk'; exact hk'); (exact Bool.noConfusion (h2.symm.trans (by kernel_rfl : _ = false))))
            clear hq hdep hold
            simp only [h1]
            clear h1
            rw [if_pos (by rfl)]
            have gz := (Kq.undrew.block (w.heap.size + 1 + 1) (lt_of_heap gY0.out) (by show ¬ w.heap.size + 1 + 1 = w.heap.size + 1; omega)).trans gY0.out
            refine ysd (.tmp 11) (.tmp 23) rfl (w.heap.size + 1 + 1) rfl (H) rfl _ gz (Dg_cells hz.out) hHl.out ⟨?_, setRow_heap _ _ _ _ _ _ gz⟩
            exact (Kept.refl _ _).setRow (S := fun k => k = w.heap.size + 1 + 1) (.inl rfl) _
          refine Steps.cons (fun x wf Kk hq hdep hold => ?_) ?_
          · try dsimp only
            have h4 : x 4 = (.bool true) := hdep 4 (by kernel_rfl)
            clear hq hdep hold
            simp only [h4]
            clear h4
            rw [if_pos (by rfl)]
            refine OpY.val (v := (.bool true)) ?_ ⟨Kept.refl _ _, rfl⟩
            first | rfl | go_simp
          exact Steps.nil _
        · intro x wf Kk hv
          try dsimp only
          have h0 : x 0 = (Dg H) := hv 0 (by kernel_rfl)
          have h1 : x 1 = (Dg H) := hv 1 (by kernel_rfl)
          have h2 : x 2 = (.slice ao 0 cap) := hv 2 (by kernel_rfl)
          have h3 : x 3 = (.int .i64 0) := hv 3 (by kernel_rfl)
          have h4 : x 4 = (.bool true) := hv 4 (by kernel_rfl)
          have p5 : Pr.p (Sl := (fun j k => if j = 5 then k = w.heap.size + 1 else k = w.heap.size + 1 + 1)) (BlkS (Sl := (fun j k => if j = 5 then k = w.heap.size + 1 else k = w.heap.size + 1 + 1)) (w.heap.size + 1) ((H).map B).toArray 26 (fun j => j == 6) (fun j hj => by obtain rfl : j = 6 := (by simpa using hj); show ¬ (if 6 = 5 then w.heap.size + 1 = w.heap.size + 1 else w.heap.size + 1 = w.heap.size + 1 + 1); rw [if_neg (by decide)]; omega)) (x 5) wf := hv 5 (by kernel_rfl)
          have p6 : Pr.p (Sl := (fun j k => if j = 5 then k = w.heap.size + 1 else k = w.heap.size + 1 + 1)) (BlkS (Sl := (fun j k => if j = 5 then k = w.heap.size + 1 else k = w.heap.size + 1 + 1)) (w.heap.size + 1 + 1) ((H).map B).toArray 26 (fun j => j == 5) (fun j hj => by obtain rfl : j = 5 := (by simpa using hj); show ¬ (if 5 = 5 then w.heap.size + 1 + 1 = w.heap.size + 1 else w.heap.size + 1 + 1 = w.heap.size + 1 + 1); rw [if_pos rfl]; omega)) (x 6) wf := hv 6 (by kernel_rfl)
          have h7 : x 7 = (.bool true) := hv 7 (by kernel_rfl)
          clear hv
          simp only [h0, h1, h2, h3, h4, h7]
          clear h0 h1 h2 h3 h4 h7
          have kz := hid (kc.out.frmB Kk.undrew (Nat.le_succ _))
          have hbx := hid p5
          have hby := hid p6
          clear p5 p6 Kk
          go_wp2_with fail
          refine bodyPost_ret (v := .tuple #[Dg (H), Dg (H), .bool true]) ?_ rfl ?_
          · exact results_dg2_tmp rfl _ _ (w.heap.size + 1) (w.heap.size + 1 + 1) (H) (H) _ rfl rfl rfl hbx.out hHl.out hby.out hHl.out
          · exact ⟨hq.out, kz.out⟩
      · have z0 : ¬ ((m0 : Nat) : Int) = 0 := by omega
        have y0 : (((m0 : Nat) : Int) == 0) = false := by simpa using z0
        have hq : Hd (RbP (rebuildR H m m true ds.reverse) (.returned (.tuple #[Dg H, Dg H, .bool false]))) := ⟨by
          rw [hv.out, (emp false).out.2 (by simp [h0])]; exact ⟨H, H, rfl, hHl.out, hHl.out, fun h => by cases h⟩⟩
        clear ih hr hm hd hv emp
        rw [hDg]
        clear hDg
        go_enter Tryd.func70, Tryd.ntmps70
        go_upto_region 1 with fail
        obtain ⟨w1, hw1, g0, gX0, gY0, kc⟩ := three_dg w H
        rw [hH.out] at hw1
        unfold Z32 at hw1
        rw [← hw1]
        clear hw1
        replace g0 := hid g0
        replace gX0 := hid gX0
        replace gY0 := hid gY0
        replace kc := hid kc
        have lt_w1 : Hd (w.heap.size + 1 + 1 < w1.heap.size) := ⟨lt_of_heap gY0.out⟩
        go_upto_region 2 with fail
        refine region_flow (S := (frm (w.heap.size + 1))) (Sl := (fun j k => if j = 5 then k = w.heap.size + 1 else k = w.heap.size + 1 + 1)) [Is (Dg H), Is (Dg H), Is (.slice ao m0 cap), Is (.int .i64 (m0 : Int)), Is (.bool false), BlkS (Sl := (fun j k => if j = 5 then k = w.heap.size + 1 else k = w.heap.size + 1 + 1)) (w.heap.size + 1) ((H).map B).toArray 26 (fun j => j == 6) (fun j hj => by obtain rfl : j = 6 := (by simpa using hj); show ¬ (if 6 = 5 then w.heap.size + 1 = w.heap.size + 1 else w.heap.size + 1 = w.heap.size + 1 + 1); rw [if_neg (by decide)]; omega), BlkS (Sl := (fun j k => if j = 5 then k = w.heap.size + 1 else k = w.heap.size + 1 + 1)) (w.heap.size + 1 + 1) ((H).map B).toArray 26 (fun j => j == 5) (fun j hj => by obtain rfl : j = 5 := (by simpa using hj); show ¬ (if 5 = 5 then w.heap.size + 1 + 1 = w.heap.size + 1 else w.heap.size + 1 + 1 = w.heap.size + 1 + 1); rw [if_pos rfl]; omega), Is (.bool false)] [5, 6] (fun j k h => by unfold frm; split at h <;> omega) _ (by kernel_rfl) (by kernel_rfl) (by kernel_rfl) (by kernel_rfl) (fun x => by simp only [puts, Act.put, List.map_cons, List.map_nil, Nat.zero_add, Nat.reduceAdd, List.setIfInBounds_toArray, List.set_cons_zero, List.set_cons_succ]; exact rfl) ?_ ?_
        · skip
          refine Steps.cons (fun x wf Kk hq hdep hold => ?_) ?_
          · try dsimp only
            have Kq := hq (fun k => k = w.heap.size + 1 ∨ k = w.heap.size + 1 + 1) (fun j hj k hk => by obtain ⟨h1, h2⟩ := List.mem_filter.1 hj; rcases (show j = 5 ∨ j = 6 by simpa using h1) with rfl | rfl; ((have hk' : (if 5 = 5 then k = w.heap.size + 1 else k = w.heap.size + 1 + 1) := hk); rw [if_pos rfl] at hk'; exact Or.inl hk'); ((have hk' : (if 6 = 5 then k = w.heap.size + 1 else k = w.heap.size + 1 + 1) := hk); rw [if_neg (by decide)] at hk'; exact Or.inr hk'))
            clear hq hdep hold
            rw [if_pos (by rfl)]
            have gl := (Kq.undrew.block (w.heap.size) (lt_of_heap g0.out) (by show ¬ (w.heap.size = w.heap.size + 1 ∨ w.heap.size = w.heap.size + 1 + 1); first | omega | (have := nx.out; omega) | (have := nxa.out; omega))).trans g0.out
            exact yld (.tmp 5) rfl (w.heap.size) rfl (H) gl hHl.out ⟨Kept.refl _ _, rfl⟩
          refine Steps.cons (fun x wf Kk hq hdep hold => ?_) ?_
          · try dsimp only
            have Kq := hq (fun k => k = w.heap.size + 1 ∨ k = w.heap.size + 1 + 1) (fun j hj k hk => by obtain ⟨h1, h2⟩ := List.mem_filter.1 hj; rcases (show j = 5 ∨ j = 6 by simpa using h1) with rfl | rfl; ((have hk' : (if 5 = 5 then k = w.heap.size + 1 else k = w.heap.size + 1 + 1) := hk); rw [if_pos rfl] at hk'; exact Or.inl hk'); ((have hk' : (if 6 = 5 then k = w.heap.size + 1 else k = w.heap.size + 1 + 1) := hk); rw [if_neg (by decide)] at hk'; exact Or.inr hk'))
            clear hq hdep hold
            rw [if_pos (by rfl)]
            have gl := (Kq.undrew.block (w.heap.size) (lt_of_heap g0.out) (by show ¬ (w.heap.size = w.heap.size + 1 ∨ w.heap.size = w.heap.size + 1 + 1); first | omega | (have := nx.out; omega) | (have := nxa.out; omega))).trans g0.out
            exact yld (.tmp 5) rfl (w.heap.size) rfl (H) gl hHl.out ⟨Kept.refl _ _, rfl⟩
          refine Steps.cons (fun x wf Kk hq hdep hold => ?_) ?_
          · try dsimp only
            clear hq hdep hold
            rw [if_pos (by rfl)]
            refine OpY.val (v := (.slice ao m0 cap)) ?_ ⟨Kept.refl _ _, rfl⟩
            first | rfl | go_simp
          refine Steps.cons (fun x wf Kk hq hdep hold => ?_) ?_
          · try dsimp only
            have h2 : x 2 = (.slice ao m0 cap) := hdep 2 (by kernel_rfl)
            clear hq hdep hold
            simp only [h2]
            clear h2
            rw [if_pos (by rfl)]
            refine OpY.val (v := (.int .i64 (m0 : Int))) ?_ ⟨Kept.refl _ _, rfl⟩
            first | rfl | go_simp
          refine Steps.cons (fun x wf Kk hq hdep hold => ?_) ?_
          · try dsimp only
            have h3 : x 3 = (.int .i64 (m0 : Int)) := hdep 3 (by kernel_rfl)
            clear hq hdep hold
            simp only [h3]
            clear h3
            rw [if_pos (by rfl)]
            refine OpY.val (v := (.bool false)) ?_ ⟨Kept.refl _ _, rfl⟩
            first | rfl | go_simp
          refine Steps.cons (fun x wf Kk hq hdep hold => ?_) ?_
          · try dsimp only
            have h0 : x 0 = (Dg H) := hdep 0 (by kernel_rfl)
            have Kq := hq (fun k => k = w.heap.size + 1 + 1) (fun j hj k hk => by obtain ⟨h1, h2⟩ := List.mem_filter.1 hj; rcases (show j = 5 ∨ j = 6 by simpa using h1) with rfl | rfl; (exact Bool.noConfusion (h2.symm.trans (by kernel_rfl : _ = false))); ((have hk' : (if 6 = 5 then k = w.heap.size + 1 else k = w.heap.size + 1 + 1) := hk); rw [if_neg (by decide)] at hk'; exact hk'))
            clear hq hdep hold
            simp only [h0]
            clear h0
            rw [if_pos (by rfl)]
            have gz := (Kq.undrew.block (w.heap.size + 1) (lt_of_heap gX0.out) (by show ¬ w.heap.size + 1 = w.heap.size + 1 + 1; omega)).trans gX0.out
            refine ysd (.tmp 10) (.tmp 22) rfl (w.heap.size + 1) rfl (H) rfl _ gz (Dg_cells hz.out) hHl.out ⟨?_, setRow_heap _ _ _ _ _ _ gz⟩
            exact (Kept.refl _ _).setRow (S := fun k => k = w.heap.size + 1) (.inl rfl) _
          refine Steps.cons (fun x wf Kk hq hdep hold => ?_) ?_
          · try dsimp only
            have h1 : x 1 = (Dg H) := hdep 1 (by kernel_rfl)
            have Kq := hq (fun k => k = w.heap.size + 1) (fun j hj k hk => by obtain ⟨h1, h2⟩ := List.mem_filter.1 hj; rcases (show j = 5 ∨ j = 6 by simpa using h1) with rfl | rfl; ((have hk' : (if 5 = 5 then k = w.heap.size + 1 else k = w.heap.size + 1 + 1) := hk); rw [if_pos rfl] at hk'; exact hk'); (exact Bool.noConfusion (h2.symm.trans (by kernel_rfl : _ = false))))
            clear hq hdep hold
            simp only [h1]
            clear h1
            rw [if_pos (by rfl)]
            have gz := (Kq.undrew.block (w.heap.size + 1 + 1) (lt_of_heap gY0.out) (by show ¬ w.heap.size + 1 + 1 = w.heap.size + 1; omega)).trans gY0.out
            refine ysd (.tmp 11) (.tmp 23) rfl (w.heap.size + 1 + 1) rfl (H) rfl _ gz (Dg_cells hz.out) hHl.out ⟨?_, setRow_heap _ _ _ _ _ _ gz⟩
            exact (Kept.refl _ _).setRow (S := fun k => k = w.heap.size + 1 + 1) (.inl rfl) _
          refine Steps.cons (fun x wf Kk hq hdep hold => ?_) ?_
          · try dsimp only
            have h4 : x 4 = (.bool false) := hdep 4 (by kernel_rfl)
            clear hq hdep hold
            simp only [h4]
            clear h4
            rw [if_pos (by rfl)]
            refine OpY.val (v := (.bool false)) ?_ ⟨Kept.refl _ _, rfl⟩
            first | rfl | go_simp
          exact Steps.nil _
        · intro x wf Kk hv
          try dsimp only
          have h0 : x 0 = (Dg H) := hv 0 (by kernel_rfl)
          have h1 : x 1 = (Dg H) := hv 1 (by kernel_rfl)
          have h2 : x 2 = (.slice ao m0 cap) := hv 2 (by kernel_rfl)
          have h3 : x 3 = (.int .i64 (m0 : Int)) := hv 3 (by kernel_rfl)
          have h4 : x 4 = (.bool false) := hv 4 (by kernel_rfl)
          have p5 : Pr.p (Sl := (fun j k => if j = 5 then k = w.heap.size + 1 else k = w.heap.size + 1 + 1)) (BlkS (Sl := (fun j k => if j = 5 then k = w.heap.size + 1 else k = w.heap.size + 1 + 1)) (w.heap.size + 1) ((H).map B).toArray 26 (fun j => j == 6) (fun j hj => by obtain rfl : j = 6 := (by simpa using hj); show ¬ (if 6 = 5 then w.heap.size + 1 = w.heap.size + 1 else w.heap.size + 1 = w.heap.size + 1 + 1); rw [if_neg (by decide)]; omega)) (x 5) wf := hv 5 (by kernel_rfl)
          have p6 : Pr.p (Sl := (fun j k => if j = 5 then k = w.heap.size + 1 else k = w.heap.size + 1 + 1)) (BlkS (Sl := (fun j k => if j = 5 then k = w.heap.size + 1 else k = w.heap.size + 1 + 1)) (w.heap.size + 1 + 1) ((H).map B).toArray 26 (fun j => j == 5) (fun j hj => by obtain rfl : j = 5 := (by simpa using hj); show ¬ (if 5 = 5 then w.heap.size + 1 + 1 = w.heap.size + 1 else w.heap.size + 1 + 1 = w.heap.size + 1 + 1); rw [if_pos rfl]; omega)) (x 6) wf := hv 6 (by kernel_rfl)
          have h7 : x 7 = (.bool false) := hv 7 (by kernel_rfl)
          clear hv
          simp only [h0, h1, h2, h3, h4, h7]
          clear h0 h1 h2 h3 h4 h7
          have kz := hid (kc.out.frmB Kk.undrew (Nat.le_succ _))
          have hbx := hid p5
          have hby := hid p6
          clear p5 p6 Kk
          go_wp2_with fail
          refine bodyPost_ret (v := .tuple #[Dg (H), Dg (H), .bool false]) ?_ rfl ?_
          · exact results_dg2_tmp rfl _ _ (w.heap.size + 1) (w.heap.size + 1 + 1) (H) (H) _ rfl rfl rfl hbx.out hHl.out hby.out hHl.out
          · exact ⟨hq.out, kz.out⟩
    | false =>
      by_cases h0 : m0 = 0
      · subst h0
        have hq : Hd (RbP (rebuildR H m m false ds.reverse) (.returned (.tuple #[Dg Z32l, Dg Z32l, .bool false]))) := ⟨by
          obtain rfl : ds = [] := List.eq_nil_of_length_eq_zero hm
          rw [List.reverse_nil, rb_nil H m m false (.inr rfl)]; exact ⟨Z32l, Z32l, rfl, rfl, rfl, fun h => by cases h⟩⟩
        clear ih hr hm hd emp
        rw [hDg]
        clear hDg
        go_enter Tryd.func70, Tryd.ntmps70
        go_upto_region 1 with fail
        obtain ⟨w1, hw1, g0, gX0, gY0, kc⟩ := three_dg w H
        rw [hH.out] at hw1
        unfold Z32 at hw1
        rw [← hw1]
        clear hw1
        replace g0 := hid g0
        replace gX0 := hid gX0
        replace gY0 := hid gY0
        replace kc := hid kc
        have lt_w1 : Hd (w.heap.size + 1 + 1 < w1.heap.size) := ⟨lt_of_heap gY0.out⟩
        go_upto_region 4 with fail
        refine region_flow (S := (frm (w.heap.size + 1))) (Sl := (fun j k => if j = 2 then k = w.heap.size + 1 else k = w.heap.size + 1 + 1)) [Is (Dg Z32l), Is (Dg Z32l), BlkS (Sl := (fun j k => if j = 2 then k = w.heap.size + 1 else k = w.heap.size + 1 + 1)) (w.heap.size + 1) ((Z32l).map B).toArray 26 (fun j => j == 3) (fun j hj => by obtain rfl : j = 3 := (by simpa using hj); show ¬ (if 3 = 2 then w.heap.size + 1 = w.heap.size + 1 else w.heap.size + 1 = w.heap.size + 1 + 1); rw [if_neg (by decide)]; omega), BlkS (Sl := (fun j k => if j = 2 then k = w.heap.size + 1 else k = w.heap.size + 1 + 1)) (w.heap.size + 1 + 1) ((Z32l).map B).toArray 26 (fun j => j == 2) (fun j hj => by obtain rfl : j = 2 := (by simpa using hj); show ¬ (if 2 = 2 then w.heap.size + 1 + 1 = w.heap.size + 1 else w.heap.size + 1 + 1 = w.heap.size + 1 + 1); rw [if_pos rfl]; omega), Is (.bool false)] [2, 3] (fun j k h => by unfold frm; split at h <;> omega) _ (by kernel_rfl) (by kernel_rfl) (by kernel_rfl) (by kernel_rfl) (fun x => by simp only [puts, Act.put, List.map_cons, List.map_nil, Nat.zero_add, Nat.reduceAdd, List.setIfInBounds_toArray, List.set_cons_zero, List.set_cons_succ]; exact rfl) ?_ ?_
        · skip
          refine Steps.cons (fun x wf Kk hq hdep hold => ?_) ?_
          · try dsimp only
            have Kq := hq (fun k => k = w.heap.size + 1 + 1) (fun j hj k hk => by obtain ⟨h1, h2⟩ := List.mem_filter.1 hj; rcases (show j = 2 ∨ j = 3 by simpa using h1) with rfl | rfl; (exact Bool.noConfusion (h2.symm.trans (by kernel_rfl : _ = false))); ((have hk' : (if 3 = 2 then k = w.heap.size + 1 else k = w.heap.size + 1 + 1) := hk); rw [if_neg (by decide)] at hk'; exact hk'))
            clear hq hdep hold
            rw [if_pos (by rfl)]
            have gl := (Kq.undrew.block (w.heap.size + 1) (lt_of_heap gX0.out) (by show ¬ w.heap.size + 1 = w.heap.size + 1 + 1; omega)).trans gX0.out
            exact yld (.tmp 10) rfl (w.heap.size + 1) rfl (Z32l) gl hz.out ⟨Kept.refl _ _, rfl⟩
          refine Steps.cons (fun x wf Kk hq hdep hold => ?_) ?_
          · try dsimp only
            have Kq := hq (fun k => k = w.heap.size + 1) (fun j hj k hk => by obtain ⟨h1, h2⟩ := List.mem_filter.1 hj; rcases (show j = 2 ∨ j = 3 by simpa using h1) with rfl | rfl; ((have hk' : (if 2 = 2 then k = w.heap.size + 1 else k = w.heap.size + 1 + 1) := hk); rw [if_pos rfl] at hk'; exact hk'); (exact Bool.noConfusion (h2.symm.trans (by kernel_rfl : _ = false))))
            clear hq hdep hold
            rw [if_pos (by rfl)]
            have gl := (Kq.undrew.block (w.heap.size + 1 + 1) (lt_of_heap gY0.out) (by show ¬ w.heap.size + 1 + 1 = w.heap.size + 1; omega)).trans gY0.out
            exact yld (.tmp 11) rfl (w.heap.size + 1 + 1) rfl (Z32l) gl hz.out ⟨Kept.refl _ _, rfl⟩
          refine Steps.cons (fun x wf Kk hq hdep hold => ?_) ?_
          · try dsimp only
            have h0 : x 0 = (Dg Z32l) := hdep 0 (by kernel_rfl)
            have Kq := hq (fun k => k = w.heap.size + 1 + 1) (fun j hj k hk => by obtain ⟨h1, h2⟩ := List.mem_filter.1 hj; rcases (show j = 2 ∨ j = 3 by simpa using h1) with rfl | rfl; (exact Bool.noConfusion (h2.symm.trans (by kernel_rfl : _ = false))); ((have hk' : (if 3 = 2 then k = w.heap.size + 1 else k = w.heap.size + 1 + 1) := hk); rw [if_neg (by decide)] at hk'; exact hk'))
            clear hq hdep hold
            simp only [h0]
            clear h0
            rw [if_pos (by rfl)]
            have gz := (Kq.undrew.block (w.heap.size + 1) (lt_of_heap gX0.out) (by show ¬ w.heap.size + 1 = w.heap.size + 1 + 1; omega)).trans gX0.out
            refine ysd (.tmp 10) (.tmp 30) rfl (w.heap.size + 1) rfl (Z32l) rfl _ gz (Dg_cells hz.out) hz.out ⟨?_, setRow_heap _ _ _ _ _ _ gz⟩
            exact (Kept.refl _ _).setRow (S := fun k => k = w.heap.size + 1) (.inl rfl) _
          refine Steps.cons (fun x wf Kk hq hdep hold => ?_) ?_
          · try dsimp only
            have h1 : x 1 = (Dg Z32l) := hdep 1 (by kernel_rfl)
            have Kq := hq (fun k => k = w.heap.size + 1) (fun j hj k hk => by obtain ⟨h1, h2⟩ := List.mem_filter.1 hj; rcases (show j = 2 ∨ j = 3 by simpa using h1) with rfl | rfl; ((have hk' : (if 2 = 2 then k = w.heap.size + 1 else k = w.heap.size + 1 + 1) := hk); rw [if_pos rfl] at hk'; exact hk'); (exact Bool.noConfusion (h2.symm.trans (by kernel_rfl : _ = false))))
            clear hq hdep hold
            simp only [h1]
            clear h1
            rw [if_pos (by rfl)]
            have gz := (Kq.undrew.block (w.heap.size + 1 + 1) (lt_of_heap gY0.out) (by show ¬ w.heap.size + 1 + 1 = w.heap.size + 1; omega)).trans gY0.out
            refine ysd (.tmp 11) (.tmp 31) rfl (w.heap.size + 1 + 1) rfl (Z32l) rfl _ gz (Dg_cells hz.out) hz.out ⟨?_, setRow_heap _ _ _ _ _ _ gz⟩
            exact (Kept.refl _ _).setRow (S := fun k => k = w.heap.size + 1 + 1) (.inl rfl) _
          refine Steps.cons (fun x wf Kk hq hdep hold => ?_) ?_
          · try dsimp only
            clear hq hdep hold
            rw [if_pos (by rfl)]
            refine OpY.val (v := (.bool false)) ?_ ⟨Kept.refl _ _, rfl⟩
            first | rfl | go_simp
          exact Steps.nil _
        · intro x wf Kk hv
          try dsimp only
          have h0 : x 0 = (Dg Z32l) := hv 0 (by kernel_rfl)
          have h1 : x 1 = (Dg Z32l) := hv 1 (by kernel_rfl)
          have p2 : Pr.p (Sl := (fun j k => if j = 2 then k = w.heap.size + 1 else k = w.heap.size + 1 + 1)) (BlkS (Sl := (fun j k => if j = 2 then k = w.heap.size + 1 else k = w.heap.size + 1 + 1)) (w.heap.size + 1) ((Z32l).map B).toArray 26 (fun j => j == 3) (fun j hj => by obtain rfl : j = 3 := (by simpa using hj); show ¬ (if 3 = 2 then w.heap.size + 1 = w.heap.size + 1 else w.heap.size + 1 = w.heap.size + 1 + 1); rw [if_neg (by decide)]; omega)) (x 2) wf := hv 2 (by kernel_rfl)
          have p3 : Pr.p (Sl := (fun j k => if j = 2 then k = w.heap.size + 1 else k = w.heap.size + 1 + 1)) (BlkS (Sl := (fun j k => if j = 2 then k = w.heap.size + 1 else k = w.heap.size + 1 + 1)) (w.heap.size + 1 + 1) ((Z32l).map B).toArray 26 (fun j => j == 2) (fun j hj => by obtain rfl : j = 2 := (by simpa using hj); show ¬ (if 2 = 2 then w.heap.size + 1 + 1 = w.heap.size + 1 else w.heap.size + 1 + 1 = w.heap.size + 1 + 1); rw [if_pos rfl]; omega)) (x 3) wf := hv 3 (by kernel_rfl)
          have h4 : x 4 = (.bool false) := hv 4 (by kernel_rfl)
          clear hv
          simp only [h0, h1, h4]
          clear h0 h1 h4
          have kz := hid (kc.out.frmB Kk.undrew (Nat.le_succ _))
          have hbx := hid p2
          have hby := hid p3
          clear p2 p3 Kk
          go_wp2_with fail
          refine bodyPost_ret (v := .tuple #[Dg (Z32l), Dg (Z32l), .bool false]) ?_ rfl ?_
          · exact results_dg2_tmp rfl _ _ (w.heap.size + 1) (w.heap.size + 1 + 1) (Z32l) (Z32l) _ rfl rfl rfl hbx.out hz.out hby.out hz.out
          · exact ⟨hq.out, kz.out⟩
      · obtain ⟨ds', PP, rfl⟩ : ∃ l x, ds = l ++ [x] := by
          rcases List.eq_nil_or_concat ds with rfl | ⟨l, x, rfl⟩
          · simp at hm; omega
          · exact ⟨l, x, by simp⟩
        obtain ⟨b, o, rfl, hL, hrP, hrd⟩ := RdD.last hr
        have hP := hid (hr.1 PP (by simp))
        obtain ⟨l, hm'⟩ : ∃ l, ds'.length = l := ⟨_, rfl⟩
        rw [hm'] at hL hrP hrd
        subst hL
        obtain ⟨L1, hL1⟩ : ∃ L1, l + 1 = L1 := ⟨_, rfl⟩
        rw [hL1] at hr h0 ⊢
        have e1 : (L1 : Int) - 1 = (l : Int) := by omega
        have hl1000 : l ≤ 1000 := by omega
        have e1w : IntKind.i64.wrap (l : Int) = (l : Int) := IntWalk.i64_in _ (by omega)
        have ew0 : IntKind.i64.wrap (0 : Int) = 0 := by decide
        have c1 : (l : Int) < (L1 : Int) := by omega
        have c2 : (l : Int) ≤ (L1 : Int) := by omega
        have c3 : (0 : Int) ≤ (l : Int) := by omega
        have hcap : L1 ≤ cap := by obtain ⟨_, _, _, _, e, h1, _⟩ := hr; cases e; rw [List.length_append, List.length_singleton, hm', hL1] at h1; exact h1
        have c4 : (l : Int) ≤ (cap : Int) := by omega
        have z0 : ¬ ((L1 : Nat) : Int) = 0 := by omega
        have y0 : (((L1 : Nat) : Int) == 0) = false := by simpa using z0
        have hrP0 := hid hrP
        have hl0 : Hd (ds'.reverse.isEmpty = decide (l = 0)) := ⟨by cases ds' with
          | nil => simp at hm'; simp [← hm']
          | cons y ys => simp at hm'; simp [← hm']⟩
        by_cases hl1 : l = 0
        · subst hl1
          
          have hq : Hd (RbP (rebuildR H m m false (ds' ++ [PP]).reverse) (.returned (.tuple #[Dg PP, Dg PP, .bool true]))) := ⟨by
            rw [List.reverse_append, List.reverse_singleton, List.singleton_append, rb_open, hl0.out, decide_eq_true (by rfl)]; exact ⟨PP, PP, rfl, hP.out, hP.out, fun h => by first | exact ⟨rfl, rfl⟩ | cases h⟩⟩
          clear ih hr hm hrP hrd hL1 emp hl0
          rw [hDg]
          clear hDg
          go_enter Tryd.func70, Tryd.ntmps70
          go_upto_region 1 with fail
          obtain ⟨w1, hw1, g0, gX0, gY0, kc⟩ := three_dg w H
          rw [hH.out] at hw1
          unfold Z32 at hw1
          rw [← hw1]
          clear hw1
          replace g0 := hid g0
          replace gX0 := hid gX0
          replace gY0 := hid gY0
          replace kc := hid kc
          have lt_w1 : Hd (w.heap.size + 1 + 1 < w1.heap.size) := ⟨lt_of_heap gY0.out⟩
          go_upto_region 5 with fail
          have hrP := hid (kc.out.drew.rng hrP0.out)
          refine wp_region_held_drew (S := fun w' => w'.rangeAt b (o + 0 * 32) (PP.map B)) (by kernel_rfl) hrP.out (fun _ => ?_)
          generalize hwd : w1.drew = W0 at hrP ⊢
          have kd : Hd (Kept no w1 W0) := ⟨by rw [← hwd]; exact (Kept.refl no w1).drew⟩
          clear hwd
          refine take2 0 (some 32) (.slice (some ⟨b, o, none⟩) L1 cap) rfl rfl (by kernel_rfl) (by kernel_rfl) (by kernel_rfl) (fun _ _ _ h => h) (Or.inl ⟨by rfl, fun w hSw => ?_⟩) hrP.out ?_
          · first | rfl | go_simp
          try simp only [Act.put, List.setIfInBounds_toArray, List.set_cons_zero, List.set_cons_succ]
          refine take2 1 (some 33) (.slice (some ⟨b, o, none⟩) L1 cap) rfl rfl (by kernel_rfl) (by kernel_rfl) (by kernel_rfl) (fun _ _ _ h => h) (Or.inl ⟨by rfl, fun w hSw => ?_⟩) hrP.out ?_
          · first | rfl | go_simp
          try simp only [Act.put, List.setIfInBounds_toArray, List.set_cons_zero, List.set_cons_succ]
          refine take2 2 (some 34) (.int .i64 (L1 : Int)) rfl rfl (by kernel_rfl) (by kernel_rfl) (by kernel_rfl) (fun _ _ _ h => h) (Or.inl ⟨by rfl, fun w hSw => ?_⟩) hrP.out ?_
          · first | rfl | go_simp
          try simp only [Act.put, List.setIfInBounds_toArray, List.set_cons_zero, List.set_cons_succ]
          refine take2 3 (some 35) (.int .i64 ((0 : Nat) : Int)) rfl rfl (by kernel_rfl) (by kernel_rfl) (by kernel_rfl) (fun _ _ _ h => h) (Or.inl ⟨by rfl, fun w hSw => ?_⟩) hrP.out ?_
          · first | rfl | go_simp
          try simp only [Act.put, List.setIfInBounds_toArray, List.set_cons_zero, List.set_cons_succ]
          refine take2 4 (some 36) (.pointer (some ⟨b, o + 0 * 32, none⟩)) rfl rfl (by kernel_rfl) (by kernel_rfl) (by kernel_rfl) (fun _ _ _ h => h) (Or.inl ⟨by rfl, fun w hSw => ?_⟩) hrP.out ?_
          · first | rfl | go_simp
          try simp only [Act.put, List.setIfInBounds_toArray, List.set_cons_zero, List.set_cons_succ]
          refine take2 5 (some 37) (Dg PP) rfl rfl (by kernel_rfl) (by kernel_rfl) (by kernel_rfl) (fun _ _ _ h => h) (yieldsIf_load_mid (by rfl) 26 (.tmp 36) rfl b (o + 0 * 32) rfl (PP.map B) _ (fun w h => h) Tryd.underlying26 rfl (infDl hP.out)) hrP.out ?_
          try simp only [Act.put, List.setIfInBounds_toArray, List.set_cons_zero, List.set_cons_succ]
          refine take2 6 (some 38) (.slice (some ⟨b, o, none⟩) L1 cap) rfl rfl (by kernel_rfl) (by kernel_rfl) (by kernel_rfl) (fun _ _ _ h => h) (Or.inl ⟨by rfl, fun w hSw => ?_⟩) hrP.out ?_
          · first | rfl | go_simp
          try simp only [Act.put, List.setIfInBounds_toArray, List.set_cons_zero, List.set_cons_succ]
          refine take2 7 (some 39) (.slice (some ⟨b, o, none⟩) L1 cap) rfl rfl (by kernel_rfl) (by kernel_rfl) (by kernel_rfl) (fun _ _ _ h => h) (Or.inl ⟨by rfl, fun w hSw => ?_⟩) hrP.out ?_
          · first | rfl | go_simp
          try simp only [Act.put, List.setIfInBounds_toArray, List.set_cons_zero, List.set_cons_succ]
          refine take2 8 (some 40) (.int .i64 (L1 : Int)) rfl rfl (by kernel_rfl) (by kernel_rfl) (by kernel_rfl) (fun _ _ _ h => h) (Or.inl ⟨by rfl, fun w hSw => ?_⟩) hrP.out ?_
          · first | rfl | go_simp
          try simp only [Act.put, List.setIfInBounds_toArray, List.set_cons_zero, List.set_cons_succ]
          refine take2 9 (some 41) (.int .i64 ((0 : Nat) : Int)) rfl rfl (by kernel_rfl) (by kernel_rfl) (by kernel_rfl) (fun _ _ _ h => h) (Or.inl ⟨by rfl, fun w hSw => ?_⟩) hrP.out ?_
          · first | rfl | go_simp
          try simp only [Act.put, List.setIfInBounds_toArray, List.set_cons_zero, List.set_cons_succ]
          refine take2 10 (some 42) (.slice (some ⟨b, o, none⟩) 0 cap) rfl rfl (by kernel_rfl) (by kernel_rfl) (by kernel_rfl) (fun _ _ _ h => h) (Or.inl ⟨by rfl, fun w hSw => ?_⟩) hrP.out ?_
          · first | rfl | go_simp
          try simp only [Act.put, List.setIfInBounds_toArray, List.set_cons_zero, List.set_cons_succ]
          refine wpAnyH_ready (rs := [11]) (by kernel_rfl) (by simp) ?_
          refine AllReadyH.cons rfl (fun K hK => ?_) AllReadyH.nil
          go_simp
          refine hK.out _ _ (((Kept.refl no W0).alloc _).rng hrP.out) (fun _ => ?_)
          clear hK K
          try simp only [Act.put, List.setIfInBounds_toArray, List.set_cons_zero, List.set_cons_succ]
          have e1 := hid (heap_alloc_new W0 (.cells Z32 26))
          have q1 := hid ((Kept.refl no W0).alloc (.cells Z32 26))
          unfold Z32 at e1 q1
          generalize hgp : W0.heap.size = gp at e1 ⊢
          have hgp' : Hd (w1.heap.size ≤ gp) := ⟨by rw [← hgp]; exact kd.out.size⟩
          have q0 : Hd (W0.heap.size ≤ gp) := ⟨by rw [hgp]; exact Nat.le_refl _⟩
          clear hgp
          generalize W0.alloc _ = W1 at e1 q1 ⊢
          refine wpAnyH_ready (rs := [12]) (by kernel_rfl) (by simp) ?_
          refine AllReadyH.cons rfl (fun K hK => ?_) AllReadyH.nil
          rw [if_pos (by rfl)]
          refine wp_store_row 26 _ _ rfl gp (PP.map B).toArray rfl rfl 26 _ e1.out (infD hP.out) (Dg_cells hP.out).symm (oneD PP) ?_
          have e2 := hid (setRow_heap W1 gp _ (PP.map B).toArray _ _ e1.out)
          have k2 := hid ((kd.out.trans' q1.out).setRow (g := gp) (.inr hgp'.out) (PP.map B).toArray)
          have s2 := hid ((q1.out.setRow (g := gp) (.inr q0.out) (PP.map B).toArray).rng hrP.out)
          refine hK.out _ _ s2.out (fun _ => ?_)
          clear hK K
          try simp only [Act.put]
          generalize W1.setRow gp _ = W2 at e2 k2 s2 ⊢
          clear hrP kd e1 q1 q0
          refine take2 13 (some 14) (.slice (some ⟨b, o, none⟩) 0 cap) rfl rfl (by kernel_rfl) (by kernel_rfl) (by kernel_rfl) (fun _ _ _ h => h) (Or.inl ⟨by rfl, fun w hSw => ?_⟩) s2.out ?_
          · first | rfl | go_simp
          try simp only [Act.put, List.setIfInBounds_toArray]
          refine wpAnyH_done (by kernel_rfl) ?_ _
          clear s2
          have kc2 := hid (kc.out.trans' k2.out)
          have gH := hid (k2.out.blk g0.out)
          have gX := hid (k2.out.blk gX0.out)
          have gY := hid (k2.out.blk gY0.out)
          have nx : Hd (w.heap.size + 1 + 1 < gp) := ⟨by have := hgp'.out; have := lt_w1.out; omega⟩
          clear g0 gX0 gY0 kc k2
          obtain ⟨kc, gX0, gY0⟩ := And.intro kc2 (And.intro gX gY)
          clear kc2 gX gY
          go_upto_region 7 with fail
          refine region_flow (S := (frm (w.heap.size + 1))) (Sl := (fun j k => if j = 5 then k = w.heap.size + 1 else k = w.heap.size + 1 + 1)) [Is (Dg PP), Is (Dg PP), Is (.slice (some ⟨b, o, none⟩) 0 cap), Is (.int .i64 ((0 : Nat) : Int)), Is (.bool true), BlkS (Sl := (fun j k => if j = 5 then k = w.heap.size + 1 else k = w.heap.size + 1 + 1)) (w.heap.size + 1) ((PP).map B).toArray 26 (fun j => j == 6) (fun j hj => by obtain rfl : j = 6 := (by simpa using hj); show ¬ (if 6 = 5 then w.heap.size + 1 = w.heap.size + 1 else w.heap.size + 1 = w.heap.size + 1 + 1); rw [if_neg (by decide)]; omega), BlkS (Sl := (fun j k => if j = 5 then k = w.heap.size + 1 else k = w.heap.size + 1 + 1)) (w.heap.size + 1 + 1) ((PP).map B).toArray 26 (fun j => j == 5) (fun j hj => by obtain rfl : j = 5 := (by simpa using hj); show ¬ (if 5 = 5 then w.heap.size + 1 + 1 = w.heap.size + 1 else w.heap.size + 1 + 1 = w.heap.size + 1 + 1); rw [if_pos rfl]; omega), Is (.bool true)] [5, 6] (fun j k h => by unfold frm; split at h <;> omega) _ (by kernel_rfl) (by kernel_rfl) (by kernel_rfl) (by kernel_rfl) (fun x => by simp only [puts, Act.put, List.map_cons, List.map_nil, Nat.zero_add, Nat.reduceAdd, List.setIfInBounds_toArray, List.set_cons_zero, List.set_cons_succ]; exact rfl) ?_ ?_
          · skip
            refine Steps.cons (fun x wf Kk hq hdep hold => ?_) ?_
            · try dsimp only
              have Kq := hq (fun k => k = w.heap.size + 1 ∨ k = w.heap.size + 1 + 1) (fun j hj k hk => by obtain ⟨h1, h2⟩ := List.mem_filter.1 hj; rcases (show j = 5 ∨ j = 6 by simpa using h1) with rfl | rfl; ((have hk' : (if 5 = 5 then k = w.heap.size + 1 else k = w.heap.size + 1 + 1) := hk); rw [if_pos rfl] at hk'; exact Or.inl hk'); ((have hk' : (if 6 = 5 then k = w.heap.size + 1 else k = w.heap.size + 1 + 1) := hk); rw [if_neg (by decide)] at hk'; exact Or.inr hk'))
              clear hq hdep hold
              rw [if_pos (by rfl)]
              have gl := (Kq.undrew.block (gp) (lt_of_heap e2.out) (by show ¬ (gp = w.heap.size + 1 ∨ gp = w.heap.size + 1 + 1); first | omega | (have := nx.out; omega) | (have := nxa.out; omega))).trans e2.out
              exact yld (.tmp 13) rfl (gp) rfl (PP) gl hP.out ⟨Kept.refl _ _, rfl⟩
            refine Steps.cons (fun x wf Kk hq hdep hold => ?_) ?_
            · try dsimp only
              have Kq := hq (fun k => k = w.heap.size + 1 ∨ k = w.heap.size + 1 + 1) (fun j hj k hk => by obtain ⟨h1, h2⟩ := List.mem_filter.1 hj; rcases (show j = 5 ∨ j = 6 by simpa using h1) with rfl | rfl; ((have hk' : (if 5 = 5 then k = w.heap.size + 1 else k = w.heap.size + 1 + 1) := hk); rw [if_pos rfl] at hk'; exact Or.inl hk'); ((have hk' : (if 6 = 5 then k = w.heap.size + 1 else k = w.heap.size + 1 + 1) := hk); rw [if_neg (by decide)] at hk'; exact Or.inr hk'))
              clear hq hdep hold
              rw [if_pos (by rfl)]
              have gl := (Kq.undrew.block (gp) (lt_of_heap e2.out) (by show ¬ (gp = w.heap.size + 1 ∨ gp = w.heap.size + 1 + 1); first | omega | (have := nx.out; omega) | (have := nxa.out; omega))).trans e2.out
              exact yld (.tmp 13) rfl (gp) rfl (PP) gl hP.out ⟨Kept.refl _ _, rfl⟩
            refine Steps.cons (fun x wf Kk hq hdep hold => ?_) ?_
            · try dsimp only
              clear hq hdep hold
              rw [if_pos (by rfl)]
              refine OpY.val (v := (.slice (some ⟨b, o, none⟩) 0 cap)) ?_ ⟨Kept.refl _ _, rfl⟩
              first | rfl | go_simp
            refine Steps.cons (fun x wf Kk hq hdep hold => ?_) ?_
            · try dsimp only
              have h2 : x 2 = (.slice (some ⟨b, o, none⟩) 0 cap) := hdep 2 (by kernel_rfl)
              clear hq hdep hold
              simp only [h2]
              clear h2
              rw [if_pos (by rfl)]
              refine OpY.val (v := (.int .i64 ((0 : Nat) : Int))) ?_ ⟨Kept.refl _ _, rfl⟩
              first | rfl | go_simp
            refine Steps.cons (fun x wf Kk hq hdep hold => ?_) ?_
            · try dsimp only
              have h3 : x 3 = (.int .i64 ((0 : Nat) : Int)) := hdep 3 (by kernel_rfl)
              clear hq hdep hold
              simp only [h3]
              clear h3
              rw [if_pos (by rfl)]
              refine OpY.val (v := (.bool true)) ?_ ⟨Kept.refl _ _, rfl⟩
              first | rfl | go_simp
            refine Steps.cons (fun x wf Kk hq hdep hold => ?_) ?_
            · try dsimp only
              have h0 : x 0 = (Dg PP) := hdep 0 (by kernel_rfl)
              have Kq := hq (fun k => k = w.heap.size + 1 + 1) (fun j hj k hk => by obtain ⟨h1, h2⟩ := List.mem_filter.1 hj; rcases (show j = 5 ∨ j = 6 by simpa using h1) with rfl | rfl; (exact Bool.noConfusion (h2.symm.trans (by kernel_rfl : _ = false))); ((have hk' : (if 6 = 5 then k = w.heap.size + 1 else k = w.heap.size + 1 + 1) := hk); rw [if_neg (by decide)] at hk'; exact hk'))
              clear hq hdep hold
              simp only [h0]
              clear h0
              rw [if_pos (by rfl)]
              have gz := (Kq.undrew.block (w.heap.size + 1) (lt_of_heap gX0.out) (by show ¬ w.heap.size + 1 = w.heap.size + 1 + 1; omega)).trans gX0.out
              refine ysd (.tmp 10) (.tmp 46) rfl (w.heap.size + 1) rfl (PP) rfl _ gz (Dg_cells hz.out) hP.out ⟨?_, setRow_heap _ _ _ _ _ _ gz⟩
              exact (Kept.refl _ _).setRow (S := fun k => k = w.heap.size + 1) (.inl rfl) _
            refine Steps.cons (fun x wf Kk hq hdep hold => ?_) ?_
            · try dsimp only
              have h1 : x 1 = (Dg PP) := hdep 1 (by kernel_rfl)
              have Kq := hq (fun k => k = w.heap.size + 1) (fun j hj k hk => by obtain ⟨h1, h2⟩ := List.mem_filter.1 hj; rcases (show j = 5 ∨ j = 6 by simpa using h1) with rfl | rfl; ((have hk' : (if 5 = 5 then k = w.heap.size + 1 else k = w.heap.size + 1 + 1) := hk); rw [if_pos rfl] at hk'; exact hk'); (exact Bool.noConfusion (h2.symm.trans (by kernel_rfl : _ = false))))
              clear hq hdep hold
              simp only [h1]
              clear h1
              rw [if_pos (by rfl)]
              have gz := (Kq.undrew.block (w.heap.size + 1 + 1) (lt_of_heap gY0.out) (by show ¬ w.heap.size + 1 + 1 = w.heap.size + 1; omega)).trans gY0.out
              refine ysd (.tmp 11) (.tmp 47) rfl (w.heap.size + 1 + 1) rfl (PP) rfl _ gz (Dg_cells hz.out) hP.out ⟨?_, setRow_heap _ _ _ _ _ _ gz⟩
              exact (Kept.refl _ _).setRow (S := fun k => k = w.heap.size + 1 + 1) (.inl rfl) _
            refine Steps.cons (fun x wf Kk hq hdep hold => ?_) ?_
            · try dsimp only
              have h4 : x 4 = (.bool true) := hdep 4 (by kernel_rfl)
              clear hq hdep hold
              simp only [h4]
              clear h4
              rw [if_pos (by rfl)]
              refine OpY.val (v := (.bool true)) ?_ ⟨Kept.refl _ _, rfl⟩
              first | rfl | go_simp
            exact Steps.nil _
          · intro x wf Kk hv
            try dsimp only
            have h0 : x 0 = (Dg PP) := hv 0 (by kernel_rfl)
            have h1 : x 1 = (Dg PP) := hv 1 (by kernel_rfl)
            have h2 : x 2 = (.slice (some ⟨b, o, none⟩) 0 cap) := hv 2 (by kernel_rfl)
            have h3 : x 3 = (.int .i64 ((0 : Nat) : Int)) := hv 3 (by kernel_rfl)
            have h4 : x 4 = (.bool true) := hv 4 (by kernel_rfl)
            have p5 : Pr.p (Sl := (fun j k => if j = 5 then k = w.heap.size + 1 else k = w.heap.size + 1 + 1)) (BlkS (Sl := (fun j k => if j = 5 then k = w.heap.size + 1 else k = w.heap.size + 1 + 1)) (w.heap.size + 1) ((PP).map B).toArray 26 (fun j => j == 6) (fun j hj => by obtain rfl : j = 6 := (by simpa using hj); show ¬ (if 6 = 5 then w.heap.size + 1 = w.heap.size + 1 else w.heap.size + 1 = w.heap.size + 1 + 1); rw [if_neg (by decide)]; omega)) (x 5) wf := hv 5 (by kernel_rfl)
            have p6 : Pr.p (Sl := (fun j k => if j = 5 then k = w.heap.size + 1 else k = w.heap.size + 1 + 1)) (BlkS (Sl := (fun j k => if j = 5 then k = w.heap.size + 1 else k = w.heap.size + 1 + 1)) (w.heap.size + 1 + 1) ((PP).map B).toArray 26 (fun j => j == 5) (fun j hj => by obtain rfl : j = 5 := (by simpa using hj); show ¬ (if 5 = 5 then w.heap.size + 1 + 1 = w.heap.size + 1 else w.heap.size + 1 + 1 = w.heap.size + 1 + 1); rw [if_pos rfl]; omega)) (x 6) wf := hv 6 (by kernel_rfl)
            have h7 : x 7 = (.bool true) := hv 7 (by kernel_rfl)
            clear hv
            simp only [h0, h1, h2, h3, h4, h7]
            clear h0 h1 h2 h3 h4 h7
            have kz := hid (kc.out.frmB Kk.undrew (Nat.le_succ _))
            have hbx := hid p5
            have hby := hid p6
            clear p5 p6 Kk
            go_wp2_with fail
            refine bodyPost_ret (v := .tuple #[Dg (PP), Dg (PP), .bool true]) ?_ rfl ?_
            · exact results_dg2_tmp rfl _ _ (w.heap.size + 1) (w.heap.size + 1 + 1) (PP) (PP) _ rfl rfl rfl hbx.out hP.out hby.out hP.out
            · exact ⟨hq.out, kz.out⟩

        · have zl : ¬ ((l : Nat) : Int) = 0 := by omega
          have yl : (((l : Nat) : Int) == 0) = false := by simpa using zl
          have hq : Hd (RbP (rebuildR H m m false (ds' ++ [PP]).reverse) (.returned (.tuple #[Dg PP, Dg PP, .bool false]))) := ⟨by
            rw [List.reverse_append, List.reverse_singleton, List.singleton_append, rb_open, hl0.out, decide_eq_false (by exact hl1)]; exact ⟨PP, PP, rfl, hP.out, hP.out, fun h => by first | exact ⟨rfl, rfl⟩ | cases h⟩⟩
          clear ih hr hm hrP hrd hL1 emp hl0
          rw [hDg]
          clear hDg
          go_enter Tryd.func70, Tryd.ntmps70
          go_upto_region 1 with fail
          obtain ⟨w1, hw1, g0, gX0, gY0, kc⟩ := three_dg w H
          rw [hH.out] at hw1
          unfold Z32 at hw1
          rw [← hw1]
          clear hw1
          replace g0 := hid g0
          replace gX0 := hid gX0
          replace gY0 := hid gY0
          replace kc := hid kc
          have lt_w1 : Hd (w.heap.size + 1 + 1 < w1.heap.size) := ⟨lt_of_heap gY0.out⟩
          go_upto_region 5 with fail
          have hrP := hid (kc.out.drew.rng hrP0.out)
          refine wp_region_held_drew (S := fun w' => w'.rangeAt b (o + l * 32) (PP.map B)) (by kernel_rfl) hrP.out (fun _ => ?_)
          generalize hwd : w1.drew = W0 at hrP ⊢
          have kd : Hd (Kept no w1 W0) := ⟨by rw [← hwd]; exact (Kept.refl no w1).drew⟩
          clear hwd
          refine take2 0 (some 32) (.slice (some ⟨b, o, none⟩) L1 cap) rfl rfl (by kernel_rfl) (by kernel_rfl) (by kernel_rfl) (fun _ _ _ h => h) (Or.inl ⟨by rfl, fun w hSw => ?_⟩) hrP.out ?_
          · first | rfl | go_simp
          try simp only [Act.put, List.setIfInBounds_toArray, List.set_cons_zero, List.set_cons_succ]
          refine take2 1 (some 33) (.slice (some ⟨b, o, none⟩) L1 cap) rfl rfl (by kernel_rfl) (by kernel_rfl) (by kernel_rfl) (fun _ _ _ h => h) (Or.inl ⟨by rfl, fun w hSw => ?_⟩) hrP.out ?_
          · first | rfl | go_simp
          try simp only [Act.put, List.setIfInBounds_toArray, List.set_cons_zero, List.set_cons_succ]
          refine take2 2 (some 34) (.int .i64 (L1 : Int)) rfl rfl (by kernel_rfl) (by kernel_rfl) (by kernel_rfl) (fun _ _ _ h => h) (Or.inl ⟨by rfl, fun w hSw => ?_⟩) hrP.out ?_
          · first | rfl | go_simp
          try simp only [Act.put, List.setIfInBounds_toArray, List.set_cons_zero, List.set_cons_succ]
          refine take2 3 (some 35) (.int .i64 (l : Int)) rfl rfl (by kernel_rfl) (by kernel_rfl) (by kernel_rfl) (fun _ _ _ h => h) (Or.inl ⟨by rfl, fun w hSw => ?_⟩) hrP.out ?_
          · first | rfl | go_simp
          try simp only [Act.put, List.setIfInBounds_toArray, List.set_cons_zero, List.set_cons_succ]
          refine take2 4 (some 36) (.pointer (some ⟨b, o + l * 32, none⟩)) rfl rfl (by kernel_rfl) (by kernel_rfl) (by kernel_rfl) (fun _ _ _ h => h) (Or.inl ⟨by rfl, fun w hSw => ?_⟩) hrP.out ?_
          · first | rfl | go_simp
          try simp only [Act.put, List.setIfInBounds_toArray, List.set_cons_zero, List.set_cons_succ]
          refine take2 5 (some 37) (Dg PP) rfl rfl (by kernel_rfl) (by kernel_rfl) (by kernel_rfl) (fun _ _ _ h => h) (yieldsIf_load_mid (by rfl) 26 (.tmp 36) rfl b (o + l * 32) rfl (PP.map B) _ (fun w h => h) Tryd.underlying26 rfl (infDl hP.out)) hrP.out ?_
          try simp only [Act.put, List.setIfInBounds_toArray, List.set_cons_zero, List.set_cons_succ]
          refine take2 6 (some 38) (.slice (some ⟨b, o, none⟩) L1 cap) rfl rfl (by kernel_rfl) (by kernel_rfl) (by kernel_rfl) (fun _ _ _ h => h) (Or.inl ⟨by rfl, fun w hSw => ?_⟩) hrP.out ?_
          · first | rfl | go_simp
          try simp only [Act.put, List.setIfInBounds_toArray, List.set_cons_zero, List.set_cons_succ]
          refine take2 7 (some 39) (.slice (some ⟨b, o, none⟩) L1 cap) rfl rfl (by kernel_rfl) (by kernel_rfl) (by kernel_rfl) (fun _ _ _ h => h) (Or.inl ⟨by rfl, fun w hSw => ?_⟩) hrP.out ?_
          · first | rfl | go_simp
          try simp only [Act.put, List.setIfInBounds_toArray, List.set_cons_zero, List.set_cons_succ]
          refine take2 8 (some 40) (.int .i64 (L1 : Int)) rfl rfl (by kernel_rfl) (by kernel_rfl) (by kernel_rfl) (fun _ _ _ h => h) (Or.inl ⟨by rfl, fun w hSw => ?_⟩) hrP.out ?_
          · first | rfl | go_simp
          try simp only [Act.put, List.setIfInBounds_toArray, List.set_cons_zero, List.set_cons_succ]
          refine take2 9 (some 41) (.int .i64 (l : Int)) rfl rfl (by kernel_rfl) (by kernel_rfl) (by kernel_rfl) (fun _ _ _ h => h) (Or.inl ⟨by rfl, fun w hSw => ?_⟩) hrP.out ?_
          · first | rfl | go_simp
          try simp only [Act.put, List.setIfInBounds_toArray, List.set_cons_zero, List.set_cons_succ]
          refine take2 10 (some 42) (.slice (some ⟨b, o, none⟩) l cap) rfl rfl (by kernel_rfl) (by kernel_rfl) (by kernel_rfl) (fun _ _ _ h => h) (Or.inl ⟨by rfl, fun w hSw => ?_⟩) hrP.out ?_
          · first | rfl | go_simp
          try simp only [Act.put, List.setIfInBounds_toArray, List.set_cons_zero, List.set_cons_succ]
          refine wpAnyH_ready (rs := [11]) (by kernel_rfl) (by simp) ?_
          refine AllReadyH.cons rfl (fun K hK => ?_) AllReadyH.nil
          go_simp
          refine hK.out _ _ (((Kept.refl no W0).alloc _).rng hrP.out) (fun _ => ?_)
          clear hK K
          try simp only [Act.put, List.setIfInBounds_toArray, List.set_cons_zero, List.set_cons_succ]
          have e1 := hid (heap_alloc_new W0 (.cells Z32 26))
          have q1 := hid ((Kept.refl no W0).alloc (.cells Z32 26))
          unfold Z32 at e1 q1
          generalize hgp : W0.heap.size = gp at e1 ⊢
          have hgp' : Hd (w1.heap.size ≤ gp) := ⟨by rw [← hgp]; exact kd.out.size⟩
          have q0 : Hd (W0.heap.size ≤ gp) := ⟨by rw [hgp]; exact Nat.le_refl _⟩
          clear hgp
          generalize W0.alloc _ = W1 at e1 q1 ⊢
          refine wpAnyH_ready (rs := [12]) (by kernel_rfl) (by simp) ?_
          refine AllReadyH.cons rfl (fun K hK => ?_) AllReadyH.nil
          rw [if_pos (by rfl)]
          refine wp_store_row 26 _ _ rfl gp (PP.map B).toArray rfl rfl 26 _ e1.out (infD hP.out) (Dg_cells hP.out).symm (oneD PP) ?_
          have e2 := hid (setRow_heap W1 gp _ (PP.map B).toArray _ _ e1.out)
          have k2 := hid ((kd.out.trans' q1.out).setRow (g := gp) (.inr hgp'.out) (PP.map B).toArray)
          have s2 := hid ((q1.out.setRow (g := gp) (.inr q0.out) (PP.map B).toArray).rng hrP.out)
          refine hK.out _ _ s2.out (fun _ => ?_)
          clear hK K
          try simp only [Act.put]
          generalize W1.setRow gp _ = W2 at e2 k2 s2 ⊢
          clear hrP kd e1 q1 q0
          refine take2 13 (some 14) (.slice (some ⟨b, o, none⟩) l cap) rfl rfl (by kernel_rfl) (by kernel_rfl) (by kernel_rfl) (fun _ _ _ h => h) (Or.inl ⟨by rfl, fun w hSw => ?_⟩) s2.out ?_
          · first | rfl | go_simp
          try simp only [Act.put, List.setIfInBounds_toArray]
          refine wpAnyH_done (by kernel_rfl) ?_ _
          clear s2
          have kc2 := hid (kc.out.trans' k2.out)
          have gH := hid (k2.out.blk g0.out)
          have gX := hid (k2.out.blk gX0.out)
          have gY := hid (k2.out.blk gY0.out)
          have nx : Hd (w.heap.size + 1 + 1 < gp) := ⟨by have := hgp'.out; have := lt_w1.out; omega⟩
          clear g0 gX0 gY0 kc k2
          obtain ⟨kc, gX0, gY0⟩ := And.intro kc2 (And.intro gX gY)
          clear kc2 gX gY
          go_upto_region 7 with fail
          refine region_flow (S := (frm (w.heap.size + 1))) (Sl := (fun j k => if j = 5 then k = w.heap.size + 1 else k = w.heap.size + 1 + 1)) [Is (Dg PP), Is (Dg PP), Is (.slice (some ⟨b, o, none⟩) l cap), Is (.int .i64 (l : Int)), Is (.bool false), BlkS (Sl := (fun j k => if j = 5 then k = w.heap.size + 1 else k = w.heap.size + 1 + 1)) (w.heap.size + 1) ((PP).map B).toArray 26 (fun j => j == 6) (fun j hj => by obtain rfl : j = 6 := (by simpa using hj); show ¬ (if 6 = 5 then w.heap.size + 1 = w.heap.size + 1 else w.heap.size + 1 = w.heap.size + 1 + 1); rw [if_neg (by decide)]; omega), BlkS (Sl := (fun j k => if j = 5 then k = w.heap.size + 1 else k = w.heap.size + 1 + 1)) (w.heap.size + 1 + 1) ((PP).map B).toArray 26 (fun j => j == 5) (fun j hj => by obtain rfl : j = 5 := (by simpa using hj); show ¬ (if 5 = 5 then w.heap.size + 1 + 1 = w.heap.size + 1 else w.heap.size + 1 + 1 = w.heap.size + 1 + 1); rw [if_pos rfl]; omega), Is (.bool false)] [5, 6] (fun j k h => by unfold frm; split at h <;> omega) _ (by kernel_rfl) (by kernel_rfl) (by kernel_rfl) (by kernel_rfl) (fun x => by simp only [puts, Act.put, List.map_cons, List.map_nil, Nat.zero_add, Nat.reduceAdd, List.setIfInBounds_toArray, List.set_cons_zero, List.set_cons_succ]; exact rfl) ?_ ?_
          · skip
            refine Steps.cons (fun x wf Kk hq hdep hold => ?_) ?_
            · try dsimp only
              have Kq := hq (fun k => k = w.heap.size + 1 ∨ k = w.heap.size + 1 + 1) (fun j hj k hk => by obtain ⟨h1, h2⟩ := List.mem_filter.1 hj; rcases (show j = 5 ∨ j = 6 by simpa using h1) with rfl | rfl; ((have hk' : (if 5 = 5 then k = w.heap.size + 1 else k = w.heap.size + 1 + 1) := hk); rw [if_pos rfl] at hk'; exact Or.inl hk'); ((have hk' : (if 6 = 5 then k = w.heap.size + 1 else k = w.heap.size + 1 + 1) := hk); rw [if_neg (by decide)] at hk'; exact Or.inr hk'))
              clear hq hdep hold
              rw [if_pos (by rfl)]
              have gl := (Kq.undrew.block (gp) (lt_of_heap e2.out) (by show ¬ (gp = w.heap.size + 1 ∨ gp = w.heap.size + 1 + 1); first | omega | (have := nx.out; omega) | (have := nxa.out; omega))).trans e2.out
              exact yld (.tmp 13) rfl (gp) rfl (PP) gl hP.out ⟨Kept.refl _ _, rfl⟩
            refine Steps.cons (fun x wf Kk hq hdep hold => ?_) ?_
            · try dsimp only
              have Kq := hq (fun k => k = w.heap.size + 1 ∨ k = w.heap.size + 1 + 1) (fun j hj k hk => by obtain ⟨h1, h2⟩ := List.mem_filter.1 hj; rcases (show j = 5 ∨ j = 6 by simpa using h1) with rfl | rfl; ((have hk' : (if 5 = 5 then k = w.heap.size + 1 else k = w.heap.size + 1 + 1) := hk); rw [if_pos rfl] at hk'; exact Or.inl hk'); ((have hk' : (if 6 = 5 then k = w.heap.size + 1 else k = w.heap.size + 1 + 1) := hk); rw [if_neg (by decide)] at hk'; exact Or.inr hk'))
              clear hq hdep hold
              rw [if_pos (by rfl)]
              have gl := (Kq.undrew.block (gp) (lt_of_heap e2.out) (by show ¬ (gp = w.heap.size + 1 ∨ gp = w.heap.size + 1 + 1); first | omega | (have := nx.out; omega) | (have := nxa.out; omega))).trans e2.out
              exact yld (.tmp 13) rfl (gp) rfl (PP) gl hP.out ⟨Kept.refl _ _, rfl⟩
            refine Steps.cons (fun x wf Kk hq hdep hold => ?_) ?_
            · try dsimp only
              clear hq hdep hold
              rw [if_pos (by rfl)]
              refine OpY.val (v := (.slice (some ⟨b, o, none⟩) l cap)) ?_ ⟨Kept.refl _ _, rfl⟩
              first | rfl | go_simp
            refine Steps.cons (fun x wf Kk hq hdep hold => ?_) ?_
            · try dsimp only
              have h2 : x 2 = (.slice (some ⟨b, o, none⟩) l cap) := hdep 2 (by kernel_rfl)
              clear hq hdep hold
              simp only [h2]
              clear h2
              rw [if_pos (by rfl)]
              refine OpY.val (v := (.int .i64 (l : Int))) ?_ ⟨Kept.refl _ _, rfl⟩
              first | rfl | go_simp
            refine Steps.cons (fun x wf Kk hq hdep hold => ?_) ?_
            · try dsimp only
              have h3 : x 3 = (.int .i64 (l : Int)) := hdep 3 (by kernel_rfl)
              clear hq hdep hold
              simp only [h3]
              clear h3
              rw [if_pos (by rfl)]
              refine OpY.val (v := (.bool false)) ?_ ⟨Kept.refl _ _, rfl⟩
              first | rfl | go_simp
            refine Steps.cons (fun x wf Kk hq hdep hold => ?_) ?_
            · try dsimp only
              have h0 : x 0 = (Dg PP) := hdep 0 (by kernel_rfl)
              have Kq := hq (fun k => k = w.heap.size + 1 + 1) (fun j hj k hk => by obtain ⟨h1, h2⟩ := List.mem_filter.1 hj; rcases (show j = 5 ∨ j = 6 by simpa using h1) with rfl | rfl; (exact Bool.noConfusion (h2.symm.trans (by kernel_rfl : _ = false))); ((have hk' : (if 6 = 5 then k = w.heap.size + 1 else k = w.heap.size + 1 + 1) := hk); rw [if_neg (by decide)] at hk'; exact hk'))
              clear hq hdep hold
              simp only [h0]
              clear h0
              rw [if_pos (by rfl)]
              have gz := (Kq.undrew.block (w.heap.size + 1) (lt_of_heap gX0.out) (by show ¬ w.heap.size + 1 = w.heap.size + 1 + 1; omega)).trans gX0.out
              refine ysd (.tmp 10) (.tmp 46) rfl (w.heap.size + 1) rfl (PP) rfl _ gz (Dg_cells hz.out) hP.out ⟨?_, setRow_heap _ _ _ _ _ _ gz⟩
              exact (Kept.refl _ _).setRow (S := fun k => k = w.heap.size + 1) (.inl rfl) _
            refine Steps.cons (fun x wf Kk hq hdep hold => ?_) ?_
            · try dsimp only
              have h1 : x 1 = (Dg PP) := hdep 1 (by kernel_rfl)
              have Kq := hq (fun k => k = w.heap.size + 1) (fun j hj k hk => by obtain ⟨h1, h2⟩ := List.mem_filter.1 hj; rcases (show j = 5 ∨ j = 6 by simpa using h1) with rfl | rfl; ((have hk' : (if 5 = 5 then k = w.heap.size + 1 else k = w.heap.size + 1 + 1) := hk); rw [if_pos rfl] at hk'; exact hk'); (exact Bool.noConfusion (h2.symm.trans (by kernel_rfl : _ = false))))
              clear hq hdep hold
              simp only [h1]
              clear h1
              rw [if_pos (by rfl)]
              have gz := (Kq.undrew.block (w.heap.size + 1 + 1) (lt_of_heap gY0.out) (by show ¬ w.heap.size + 1 + 1 = w.heap.size + 1; omega)).trans gY0.out
              refine ysd (.tmp 11) (.tmp 47) rfl (w.heap.size + 1 + 1) rfl (PP) rfl _ gz (Dg_cells hz.out) hP.out ⟨?_, setRow_heap _ _ _ _ _ _ gz⟩
              exact (Kept.refl _ _).setRow (S := fun k => k = w.heap.size + 1 + 1) (.inl rfl) _
            refine Steps.cons (fun x wf Kk hq hdep hold => ?_) ?_
            · try dsimp only
              have h4 : x 4 = (.bool false) := hdep 4 (by kernel_rfl)
              clear hq hdep hold
              simp only [h4]
              clear h4
              rw [if_pos (by rfl)]
              refine OpY.val (v := (.bool false)) ?_ ⟨Kept.refl _ _, rfl⟩
              first | rfl | go_simp
            exact Steps.nil _
          · intro x wf Kk hv
            try dsimp only
            have h0 : x 0 = (Dg PP) := hv 0 (by kernel_rfl)
            have h1 : x 1 = (Dg PP) := hv 1 (by kernel_rfl)
            have h2 : x 2 = (.slice (some ⟨b, o, none⟩) l cap) := hv 2 (by kernel_rfl)
            have h3 : x 3 = (.int .i64 (l : Int)) := hv 3 (by kernel_rfl)
            have h4 : x 4 = (.bool false) := hv 4 (by kernel_rfl)
            have p5 : Pr.p (Sl := (fun j k => if j = 5 then k = w.heap.size + 1 else k = w.heap.size + 1 + 1)) (BlkS (Sl := (fun j k => if j = 5 then k = w.heap.size + 1 else k = w.heap.size + 1 + 1)) (w.heap.size + 1) ((PP).map B).toArray 26 (fun j => j == 6) (fun j hj => by obtain rfl : j = 6 := (by simpa using hj); show ¬ (if 6 = 5 then w.heap.size + 1 = w.heap.size + 1 else w.heap.size + 1 = w.heap.size + 1 + 1); rw [if_neg (by decide)]; omega)) (x 5) wf := hv 5 (by kernel_rfl)
            have p6 : Pr.p (Sl := (fun j k => if j = 5 then k = w.heap.size + 1 else k = w.heap.size + 1 + 1)) (BlkS (Sl := (fun j k => if j = 5 then k = w.heap.size + 1 else k = w.heap.size + 1 + 1)) (w.heap.size + 1 + 1) ((PP).map B).toArray 26 (fun j => j == 5) (fun j hj => by obtain rfl : j = 5 := (by simpa using hj); show ¬ (if 5 = 5 then w.heap.size + 1 + 1 = w.heap.size + 1 else w.heap.size + 1 + 1 = w.heap.size + 1 + 1); rw [if_pos rfl]; omega)) (x 6) wf := hv 6 (by kernel_rfl)
            have h7 : x 7 = (.bool false) := hv 7 (by kernel_rfl)
            clear hv
            simp only [h0, h1, h2, h3, h4, h7]
            clear h0 h1 h2 h3 h4 h7
            have kz := hid (kc.out.frmB Kk.undrew (Nat.le_succ _))
            have hbx := hid p5
            have hby := hid p6
            clear p5 p6 Kk
            go_wp2_with fail
            refine bodyPost_ret (v := .tuple #[Dg (PP), Dg (PP), .bool false]) ?_ rfl ?_
            · exact results_dg2_tmp rfl _ _ (w.heap.size + 1) (w.heap.size + 1 + 1) (PP) (PP) _ rfl rfl rfl hbx.out hP.out hby.out hP.out
            · exact ⟨hq.out, kz.out⟩
  · have zn : ¬ ((m : Nat) : Int) = ((n : Nat) : Int) := by omega
    have yn : (((m : Nat) : Int) == ((n : Nat) : Int)) = false := by simpa using zn
    by_cases h0 : m0 = 0
    · subst h0
      have hq : Hd (RbP (rebuildR H m n known ds.reverse) (.returned (.tuple #[Dg Z32l, Dg Z32l, .bool false]))) := ⟨by
        obtain rfl : ds = [] := List.eq_nil_of_length_eq_zero hm
        rw [List.reverse_nil, rb_nil H m n known (.inl h1)]; exact ⟨Z32l, Z32l, rfl, hz.out, hz.out, fun h => by cases h⟩⟩
      clear ih hr hm hd emp
      rw [hDg]
      clear hDg
      go_enter Tryd.func70, Tryd.ntmps70
      go_upto_region 1 with fail
      obtain ⟨w1, hw1, g0, gX0, gY0, kc⟩ := three_dg w H
      rw [hH.out] at hw1
      unfold Z32 at hw1
      rw [← hw1]
      clear hw1
      replace g0 := hid g0
      replace gX0 := hid gX0
      replace gY0 := hid gY0
      replace kc := hid kc
      have lt_w1 : Hd (w.heap.size + 1 + 1 < w1.heap.size) := ⟨lt_of_heap gY0.out⟩
      go_upto_region 4 with fail
      refine region_flow (S := (frm (w.heap.size + 1))) (Sl := (fun j k => if j = 2 then k = w.heap.size + 1 else k = w.heap.size + 1 + 1)) [Is (Dg Z32l), Is (Dg Z32l), BlkS (Sl := (fun j k => if j = 2 then k = w.heap.size + 1 else k = w.heap.size + 1 + 1)) (w.heap.size + 1) ((Z32l).map B).toArray 26 (fun j => j == 3) (fun j hj => by obtain rfl : j = 3 := (by simpa using hj); show ¬ (if 3 = 2 then w.heap.size + 1 = w.heap.size + 1 else w.heap.size + 1 = w.heap.size + 1 + 1); rw [if_neg (by decide)]; omega), BlkS (Sl := (fun j k => if j = 2 then k = w.heap.size + 1 else k = w.heap.size + 1 + 1)) (w.heap.size + 1 + 1) ((Z32l).map B).toArray 26 (fun j => j == 2) (fun j hj => by obtain rfl : j = 2 := (by simpa using hj); show ¬ (if 2 = 2 then w.heap.size + 1 + 1 = w.heap.size + 1 else w.heap.size + 1 + 1 = w.heap.size + 1 + 1); rw [if_pos rfl]; omega), Is (.bool false)] [2, 3] (fun j k h => by unfold frm; split at h <;> omega) _ (by kernel_rfl) (by kernel_rfl) (by kernel_rfl) (by kernel_rfl) (fun x => by simp only [puts, Act.put, List.map_cons, List.map_nil, Nat.zero_add, Nat.reduceAdd, List.setIfInBounds_toArray, List.set_cons_zero, List.set_cons_succ]; exact rfl) ?_ ?_
      · skip
        refine Steps.cons (fun x wf Kk hq hdep hold => ?_) ?_
        · try dsimp only
          have Kq := hq (fun k => k = w.heap.size + 1 + 1) (fun j hj k hk => by obtain ⟨h1, h2⟩ := List.mem_filter.1 hj; rcases (show j = 2 ∨ j = 3 by simpa using h1) with rfl | rfl; (exact Bool.noConfusion (h2.symm.trans (by kernel_rfl : _ = false))); ((have hk' : (if 3 = 2 then k = w.heap.size + 1 else k = w.heap.size + 1 + 1) := hk); rw [if_neg (by decide)] at hk'; exact hk'))
          clear hq hdep hold
          rw [if_pos (by rfl)]
          have gl := (Kq.undrew.block (w.heap.size + 1) (lt_of_heap gX0.out) (by show ¬ w.heap.size + 1 = w.heap.size + 1 + 1; omega)).trans gX0.out
          exact yld (.tmp 10) rfl (w.heap.size + 1) rfl (Z32l) gl hz.out ⟨Kept.refl _ _, rfl⟩
        refine Steps.cons (fun x wf Kk hq hdep hold => ?_) ?_
        · try dsimp only
          have Kq := hq (fun k => k = w.heap.size + 1) (fun j hj k hk => by obtain ⟨h1, h2⟩ := List.mem_filter.1 hj; rcases (show j = 2 ∨ j = 3 by simpa using h1) with rfl | rfl; ((have hk' : (if 2 = 2 then k = w.heap.size + 1 else k = w.heap.size + 1 + 1) := hk); rw [if_pos rfl] at hk'; exact hk'); (exact Bool.noConfusion (h2.symm.trans (by kernel_rfl : _ = false))))
          clear hq hdep hold
          rw [if_pos (by rfl)]
          have gl := (Kq.undrew.block (w.heap.size + 1 + 1) (lt_of_heap gY0.out) (by show ¬ w.heap.size + 1 + 1 = w.heap.size + 1; omega)).trans gY0.out
          exact yld (.tmp 11) rfl (w.heap.size + 1 + 1) rfl (Z32l) gl hz.out ⟨Kept.refl _ _, rfl⟩
        refine Steps.cons (fun x wf Kk hq hdep hold => ?_) ?_
        · try dsimp only
          have h0 : x 0 = (Dg Z32l) := hdep 0 (by kernel_rfl)
          have Kq := hq (fun k => k = w.heap.size + 1 + 1) (fun j hj k hk => by obtain ⟨h1, h2⟩ := List.mem_filter.1 hj; rcases (show j = 2 ∨ j = 3 by simpa using h1) with rfl | rfl; (exact Bool.noConfusion (h2.symm.trans (by kernel_rfl : _ = false))); ((have hk' : (if 3 = 2 then k = w.heap.size + 1 else k = w.heap.size + 1 + 1) := hk); rw [if_neg (by decide)] at hk'; exact hk'))
          clear hq hdep hold
          simp only [h0]
          clear h0
          rw [if_pos (by rfl)]
          have gz := (Kq.undrew.block (w.heap.size + 1) (lt_of_heap gX0.out) (by show ¬ w.heap.size + 1 = w.heap.size + 1 + 1; omega)).trans gX0.out
          refine ysd (.tmp 10) (.tmp 30) rfl (w.heap.size + 1) rfl (Z32l) rfl _ gz (Dg_cells hz.out) hz.out ⟨?_, setRow_heap _ _ _ _ _ _ gz⟩
          exact (Kept.refl _ _).setRow (S := fun k => k = w.heap.size + 1) (.inl rfl) _
        refine Steps.cons (fun x wf Kk hq hdep hold => ?_) ?_
        · try dsimp only
          have h1 : x 1 = (Dg Z32l) := hdep 1 (by kernel_rfl)
          have Kq := hq (fun k => k = w.heap.size + 1) (fun j hj k hk => by obtain ⟨h1, h2⟩ := List.mem_filter.1 hj; rcases (show j = 2 ∨ j = 3 by simpa using h1) with rfl | rfl; ((have hk' : (if 2 = 2 then k = w.heap.size + 1 else k = w.heap.size + 1 + 1) := hk); rw [if_pos rfl] at hk'; exact hk'); (exact Bool.noConfusion (h2.symm.trans (by kernel_rfl : _ = false))))
          clear hq hdep hold
          simp only [h1]
          clear h1
          rw [if_pos (by rfl)]
          have gz := (Kq.undrew.block (w.heap.size + 1 + 1) (lt_of_heap gY0.out) (by show ¬ w.heap.size + 1 + 1 = w.heap.size + 1; omega)).trans gY0.out
          refine ysd (.tmp 11) (.tmp 31) rfl (w.heap.size + 1 + 1) rfl (Z32l) rfl _ gz (Dg_cells hz.out) hz.out ⟨?_, setRow_heap _ _ _ _ _ _ gz⟩
          exact (Kept.refl _ _).setRow (S := fun k => k = w.heap.size + 1 + 1) (.inl rfl) _
        refine Steps.cons (fun x wf Kk hq hdep hold => ?_) ?_
        · try dsimp only
          clear hq hdep hold
          rw [if_pos (by rfl)]
          refine OpY.val (v := (.bool false)) ?_ ⟨Kept.refl _ _, rfl⟩
          first | rfl | go_simp
        exact Steps.nil _
      · intro x wf Kk hv
        try dsimp only
        have h0 : x 0 = (Dg Z32l) := hv 0 (by kernel_rfl)
        have h1 : x 1 = (Dg Z32l) := hv 1 (by kernel_rfl)
        have p2 : Pr.p (Sl := (fun j k => if j = 2 then k = w.heap.size + 1 else k = w.heap.size + 1 + 1)) (BlkS (Sl := (fun j k => if j = 2 then k = w.heap.size + 1 else k = w.heap.size + 1 + 1)) (w.heap.size + 1) ((Z32l).map B).toArray 26 (fun j => j == 3) (fun j hj => by obtain rfl : j = 3 := (by simpa using hj); show ¬ (if 3 = 2 then w.heap.size + 1 = w.heap.size + 1 else w.heap.size + 1 = w.heap.size + 1 + 1); rw [if_neg (by decide)]; omega)) (x 2) wf := hv 2 (by kernel_rfl)
        have p3 : Pr.p (Sl := (fun j k => if j = 2 then k = w.heap.size + 1 else k = w.heap.size + 1 + 1)) (BlkS (Sl := (fun j k => if j = 2 then k = w.heap.size + 1 else k = w.heap.size + 1 + 1)) (w.heap.size + 1 + 1) ((Z32l).map B).toArray 26 (fun j => j == 2) (fun j hj => by obtain rfl : j = 2 := (by simpa using hj); show ¬ (if 2 = 2 then w.heap.size + 1 + 1 = w.heap.size + 1 else w.heap.size + 1 + 1 = w.heap.size + 1 + 1); rw [if_pos rfl]; omega)) (x 3) wf := hv 3 (by kernel_rfl)
        have h4 : x 4 = (.bool false) := hv 4 (by kernel_rfl)
        clear hv
        simp only [h0, h1, h4]
        clear h0 h1 h4
        have kz := hid (kc.out.frmB Kk.undrew (Nat.le_succ _))
        have hbx := hid p2
        have hby := hid p3
        clear p2 p3 Kk
        go_wp2_with fail
        refine bodyPost_ret (v := .tuple #[Dg (Z32l), Dg (Z32l), .bool false]) ?_ rfl ?_
        · exact results_dg2_tmp rfl _ _ (w.heap.size + 1) (w.heap.size + 1 + 1) (Z32l) (Z32l) _ rfl rfl rfl hbx.out hz.out hby.out hz.out
        · exact ⟨hq.out, kz.out⟩
    · obtain ⟨ds', PP, rfl⟩ : ∃ l x, ds = l ++ [x] := by
        rcases List.eq_nil_or_concat ds with rfl | ⟨l, x, rfl⟩
        · simp at hm; omega
        · exact ⟨l, x, by simp⟩
      obtain ⟨b, o, rfl, hL, hrP, hrd⟩ := RdD.last hr
      have hP := hid (hr.1 PP (by simp))
      obtain ⟨l, hm'⟩ : ∃ l, ds'.length = l := ⟨_, rfl⟩
      rw [hm'] at hL hrP hrd
      subst hL
      obtain ⟨L1, hL1⟩ : ∃ L1, l + 1 = L1 := ⟨_, rfl⟩
      rw [hL1] at hr h0 ⊢
      have e1 : (L1 : Int) - 1 = (l : Int) := by omega
      have hl1000 : l ≤ 1000 := by omega
      have e1w : IntKind.i64.wrap (l : Int) = (l : Int) := IntWalk.i64_in _ (by omega)
      have ew0 : IntKind.i64.wrap (0 : Int) = 0 := by decide
      have c1 : (l : Int) < (L1 : Int) := by omega
      have c2 : (l : Int) ≤ (L1 : Int) := by omega
      have c3 : (0 : Int) ≤ (l : Int) := by omega
      have hcap : L1 ≤ cap := by obtain ⟨_, _, _, _, e, h1, _⟩ := hr; cases e; rw [List.length_append, List.length_singleton, hm', hL1] at h1; exact h1
      have c4 : (l : Int) ≤ (cap : Int) := by omega
      have z0 : ¬ ((L1 : Nat) : Int) = 0 := by omega
      have y0 : (((L1 : Nat) : Int) == 0) = false := by simpa using z0
      have hrP0 := hid hrP
      have hl0 : Hd (ds'.reverse.isEmpty = decide (l = 0)) := ⟨by cases ds' with
        | nil => simp at hm'; simp [← hm']
        | cons y ys => simp at hm'; simp [← hm']⟩
      have h2 : 2 ≤ n := by omega
      have hK1 := half_lt n h2
      have hK0 := half_pos n
      have hv : Hd (rebuildR H m n known (ds' ++ [PP]).reverse = if m ≤ half n then ((rebuildR H m (half n) known ds'.reverse).1, innerD (rebuildR H m (half n) known ds'.reverse).2.1 PP, (rebuildR H m (half n) known ds'.reverse).2.2) else (innerD PP (rebuildR H (m - half n) (n - half n) false ds'.reverse).1, innerD PP (rebuildR H (m - half n) (n - half n) false ds'.reverse).2.1, (rebuildR H (m - half n) (n - half n) false ds'.reverse).2.2)) := ⟨by
        rw [List.reverse_append, List.reverse_singleton, List.singleton_append]; exact rb_cons H m n known PP ds'.reverse h1⟩
      have HH := hid (fun w => half_any n w h2 h63)
      generalize half n = K at hK1 hK0 hv HH
      have hIH := hid (fun m' n' k' W (a : 1 ≤ m') (b0 : m' ≤ n') (b1 : n' ≤ 63) (hr : RdD W (.slice (some ⟨b, o, none⟩) l cap) ds') (t : Tab W) => by have := ih l (by simp at hm; omega) ds' hm' m' n' k' (.slice (some ⟨b, o, none⟩) l cap) W hHl.out a b0 b1 (by simp at hd; omega) hr t; exact this)
      have hrd' := hid hrd
      obtain ⟨I, hI⟩ : ∃ I : Int, (m : Int) = I := ⟨_, rfl⟩
      rw [hI] at zn yn ⊢
      clear ih hr hm hrP hrd hL1 emp hl0
      by_cases hik : m ≤ K
      · have hlt : I ≤ (K : Int) := by omega
        rw [if_pos hik] at hv
        have IHP := hid (fun W h t => hIH.out m K known W h1m hik (by omega) h t)
        rw [hI] at IHP
        generalize rebuildR H m K known ds'.reverse = q at IHP hv
        clear hIH hI hik
        rw [hDg]
        clear hDg
        go_enter Tryd.func70, Tryd.ntmps70
        go_upto_region 1 with fail
        obtain ⟨w1, hw1, g0, gX0, gY0, kc⟩ := three_dg w H
        rw [hH.out] at hw1
        unfold Z32 at hw1
        rw [← hw1]
        clear hw1
        replace g0 := hid g0
        replace gX0 := hid gX0
        replace gY0 := hid gY0
        replace kc := hid kc
        have lt_w1 : Hd (w.heap.size + 1 + 1 < w1.heap.size) := ⟨lt_of_heap gY0.out⟩
        go_upto_region 5 with fail
        have hrP := hid (kc.out.drew.rng hrP0.out)
        refine wp_region_held_drew (S := fun w' => w'.rangeAt b (o + l * 32) (PP.map B)) (by kernel_rfl) hrP.out (fun _ => ?_)
        generalize hwd : w1.drew = W0 at hrP ⊢
        have kd : Hd (Kept no w1 W0) := ⟨by rw [← hwd]; exact (Kept.refl no w1).drew⟩
        clear hwd
        refine take2 0 (some 32) (.slice (some ⟨b, o, none⟩) L1 cap) rfl rfl (by kernel_rfl) (by kernel_rfl) (by kernel_rfl) (fun _ _ _ h => h) (Or.inl ⟨by rfl, fun w hSw => ?_⟩) hrP.out ?_
        · first | rfl | go_simp
        try simp only [Act.put, List.setIfInBounds_toArray, List.set_cons_zero, List.set_cons_succ]
        refine take2 1 (some 33) (.slice (some ⟨b, o, none⟩) L1 cap) rfl rfl (by kernel_rfl) (by kernel_rfl) (by kernel_rfl) (fun _ _ _ h => h) (Or.inl ⟨by rfl, fun w hSw => ?_⟩) hrP.out ?_
        · first | rfl | go_simp
        try simp only [Act.put, List.setIfInBounds_toArray, List.set_cons_zero, List.set_cons_succ]
        refine take2 2 (some 34) (.int .i64 (L1 : Int)) rfl rfl (by kernel_rfl) (by kernel_rfl) (by kernel_rfl) (fun _ _ _ h => h) (Or.inl ⟨by rfl, fun w hSw => ?_⟩) hrP.out ?_
        · first | rfl | go_simp
        try simp only [Act.put, List.setIfInBounds_toArray, List.set_cons_zero, List.set_cons_succ]
        refine take2 3 (some 35) (.int .i64 (l : Int)) rfl rfl (by kernel_rfl) (by kernel_rfl) (by kernel_rfl) (fun _ _ _ h => h) (Or.inl ⟨by rfl, fun w hSw => ?_⟩) hrP.out ?_
        · first | rfl | go_simp
        try simp only [Act.put, List.setIfInBounds_toArray, List.set_cons_zero, List.set_cons_succ]
        refine take2 4 (some 36) (.pointer (some ⟨b, o + l * 32, none⟩)) rfl rfl (by kernel_rfl) (by kernel_rfl) (by kernel_rfl) (fun _ _ _ h => h) (Or.inl ⟨by rfl, fun w hSw => ?_⟩) hrP.out ?_
        · first | rfl | go_simp
        try simp only [Act.put, List.setIfInBounds_toArray, List.set_cons_zero, List.set_cons_succ]
        refine take2 5 (some 37) (Dg PP) rfl rfl (by kernel_rfl) (by kernel_rfl) (by kernel_rfl) (fun _ _ _ h => h) (yieldsIf_load_mid (by rfl) 26 (.tmp 36) rfl b (o + l * 32) rfl (PP.map B) _ (fun w h => h) Tryd.underlying26 rfl (infDl hP.out)) hrP.out ?_
        try simp only [Act.put, List.setIfInBounds_toArray, List.set_cons_zero, List.set_cons_succ]
        refine take2 6 (some 38) (.slice (some ⟨b, o, none⟩) L1 cap) rfl rfl (by kernel_rfl) (by kernel_rfl) (by kernel_rfl) (fun _ _ _ h => h) (Or.inl ⟨by rfl, fun w hSw => ?_⟩) hrP.out ?_
        · first | rfl | go_simp
        try simp only [Act.put, List.setIfInBounds_toArray, List.set_cons_zero, List.set_cons_succ]
        refine take2 7 (some 39) (.slice (some ⟨b, o, none⟩) L1 cap) rfl rfl (by kernel_rfl) (by kernel_rfl) (by kernel_rfl) (fun _ _ _ h => h) (Or.inl ⟨by rfl, fun w hSw => ?_⟩) hrP.out ?_
        · first | rfl | go_simp
        try simp only [Act.put, List.setIfInBounds_toArray, List.set_cons_zero, List.set_cons_succ]
        refine take2 8 (some 40) (.int .i64 (L1 : Int)) rfl rfl (by kernel_rfl) (by kernel_rfl) (by kernel_rfl) (fun _ _ _ h => h) (Or.inl ⟨by rfl, fun w hSw => ?_⟩) hrP.out ?_
        · first | rfl | go_simp
        try simp only [Act.put, List.setIfInBounds_toArray, List.set_cons_zero, List.set_cons_succ]
        refine take2 9 (some 41) (.int .i64 (l : Int)) rfl rfl (by kernel_rfl) (by kernel_rfl) (by kernel_rfl) (fun _ _ _ h => h) (Or.inl ⟨by rfl, fun w hSw => ?_⟩) hrP.out ?_
        · first | rfl | go_simp
        try simp only [Act.put, List.setIfInBounds_toArray, List.set_cons_zero, List.set_cons_succ]
        refine take2 10 (some 42) (.slice (some ⟨b, o, none⟩) l cap) rfl rfl (by kernel_rfl) (by kernel_rfl) (by kernel_rfl) (fun _ _ _ h => h) (Or.inl ⟨by rfl, fun w hSw => ?_⟩) hrP.out ?_
        · first | rfl | go_simp
        try simp only [Act.put, List.setIfInBounds_toArray, List.set_cons_zero, List.set_cons_succ]
        refine wpAnyH_ready (rs := [11]) (by kernel_rfl) (by simp) ?_
        refine AllReadyH.cons rfl (fun K hK => ?_) AllReadyH.nil
        go_simp
        refine hK.out _ _ (((Kept.refl no W0).alloc _).rng hrP.out) (fun _ => ?_)
        clear hK K
        try simp only [Act.put, List.setIfInBounds_toArray, List.set_cons_zero, List.set_cons_succ]
        have e1 := hid (heap_alloc_new W0 (.cells Z32 26))
        have q1 := hid ((Kept.refl no W0).alloc (.cells Z32 26))
        unfold Z32 at e1 q1
        generalize hgp : W0.heap.size = gp at e1 ⊢
        have hgp' : Hd (w1.heap.size ≤ gp) := ⟨by rw [← hgp]; exact kd.out.size⟩
        have q0 : Hd (W0.heap.size ≤ gp) := ⟨by rw [hgp]; exact Nat.le_refl _⟩
        clear hgp
        generalize W0.alloc _ = W1 at e1 q1 ⊢
        refine wpAnyH_ready (rs := [12]) (by kernel_rfl) (by simp) ?_
        refine AllReadyH.cons rfl (fun K hK => ?_) AllReadyH.nil
        rw [if_pos (by rfl)]
        refine wp_store_row 26 _ _ rfl gp (PP.map B).toArray rfl rfl 26 _ e1.out (infD hP.out) (Dg_cells hP.out).symm (oneD PP) ?_
        have e2 := hid (setRow_heap W1 gp _ (PP.map B).toArray _ _ e1.out)
        have k2 := hid ((kd.out.trans' q1.out).setRow (g := gp) (.inr hgp'.out) (PP.map B).toArray)
        have s2 := hid ((q1.out.setRow (g := gp) (.inr q0.out) (PP.map B).toArray).rng hrP.out)
        refine hK.out _ _ s2.out (fun _ => ?_)
        clear hK K
        try simp only [Act.put]
        generalize W1.setRow gp _ = W2 at e2 k2 s2 ⊢
        clear hrP kd e1 q1 q0
        refine take2 13 (some 14) (.slice (some ⟨b, o, none⟩) l cap) rfl rfl (by kernel_rfl) (by kernel_rfl) (by kernel_rfl) (fun _ _ _ h => h) (Or.inl ⟨by rfl, fun w hSw => ?_⟩) s2.out ?_
        · first | rfl | go_simp
        try simp only [Act.put, List.setIfInBounds_toArray]
        refine wpAnyH_done (by kernel_rfl) ?_ _
        clear s2
        have kc2 := hid (kc.out.trans' k2.out)
        have gH := hid (k2.out.blk g0.out)
        have gX := hid (k2.out.blk gX0.out)
        have gY := hid (k2.out.blk gY0.out)
        have nx : Hd (w.heap.size + 1 + 1 < gp) := ⟨by have := hgp'.out; have := lt_w1.out; omega⟩
        clear g0 gX0 gY0 kc k2
        obtain ⟨kc, gX0, gY0⟩ := And.intro kc2 (And.intro gX gY)
        clear kc2 gX gY
        go_upto_region 10 with (refine (HH.out _).mono ?_; rintro ed w' ⟨rfl, rfl⟩)
        go_wp2_with (with_reducible refine ld rfl _ rfl w.heap.size rfl H gH.out hHl.out ?_)
        refine (IHP.out W2 (hrd'.out.kept kc.out) (hT.out.kept kc.out)).mono ?_
        rintro ed W3 ⟨⟨X, Y, rfl, hX, hY, hXq⟩, k3⟩
        have kc3 := hid (kc.out.trans' k3)
        have k3s : Hd (gp < W3.heap.size) := ⟨lt_of_heap (k3.blk e2.out)⟩
        have gP3 := hid (k3.blk e2.out)
        have gX3 := hid (k3.blk gX0.out)
        have gY3 := hid (k3.blk gY0.out)
        replace hX := hid hX
        replace hY := hid hY
        replace hXq := hid hXq
        have hZs : Hd ((Z32l.map B).toArray.size = 32) := ⟨rfl⟩
        clear k3 gX0 gY0 kc gH e2
        obtain ⟨W4, hw4, gX0, gY0, gP4, kc⟩ : ∃ W4, W4 = (W3.setRow (w.heap.size + 1) (X.map B).toArray).setRow (w.heap.size + 1 + 1) (Y.map B).toArray ∧ W4.heap[w.heap.size + 1]? = some (.cells (X.map B).toArray 26 (0, 0)) ∧ W4.heap[w.heap.size + 1 + 1]? = some (.cells (Y.map B).toArray 26 (0, 0)) ∧ W4.heap[gp]? = some (.cells (PP.map B).toArray 26 (0, 0)) ∧ Kept no w W4 := by
          have hgne : w.heap.size + 1 + 1 < gp := by have := hgp'.out; have := lt_w1.out; omega
          refine ⟨_, rfl, ?_, setRow_heap _ _ _ _ _ _ (by rw [setRow_other _ _ _ _ (by omega)]; exact gY3.out), ?_, (kc3.out.setRow (.inr (Nat.le_succ _)) _).setRow (.inr (by omega)) _⟩
          · rw [setRow_other _ _ _ _ (by omega)]; exact setRow_heap _ _ _ _ _ _ gX3.out
          · rw [setRow_other _ _ _ _ (by omega), setRow_other _ _ _ _ (by omega)]; exact gP3.out
        have gy1 : Hd ((W3.setRow (w.heap.size + 1) (X.map B).toArray).heap[w.heap.size + 1 + 1]? = some (.cells (Z32l.map B).toArray 26 (0, 0))) := ⟨by rw [setRow_other _ _ _ _ (by omega)]; exact gY3.out⟩
        replace hw4 := hid hw4
        replace gX0 := hid gX0
        replace gY0 := hid gY0
        replace gP4 := hid gP4
        replace kc := hid kc
        go_upto_region 11 with (first | (with_reducible refine sd rfl _ _ rfl (w.heap.size + 1) rfl X rfl _ gX3.out hZs.out hX.out ?_) | (with_reducible refine sd rfl _ _ rfl (w.heap.size + 1 + 1) rfl Y rfl _ gy1.out hZs.out hY.out ?_; rw [← hw4.out]))
        clear hw4 gy1 gX3 gY3 gP3 kc3
        have hq : Hd (RbP (rebuildR H m n known (ds' ++ [PP]).reverse) (.returned (.tuple #[Dg X, Dg (innerD Y PP), .bool q.2.2]))) := ⟨by
          rw [hv.out]; exact ⟨_, _, rfl, hX.out, innerD_length _ _, fun h => ⟨(hXq.out h).1, by rw [(hXq.out h).2]⟩⟩⟩
        have hI1 := hid (fun W t => inner_any Y PP W hY.out hP.out t)
        have hR1 := hid (innerD_length Y PP)
        generalize innerD Y PP = RY at hq hI1 hR1
        clear hv hXq
        refine region_flow (S := (frm (w.heap.size + 1))) (Sl := (fun j k => if j = 5 then k = w.heap.size + 1 else k = w.heap.size + 1 + 1)) [Is (Dg X), Is (Dg Y), Is (Dg PP), Is (Dg RY), Is (.bool q.2.2), BlkS (Sl := (fun j k => if j = 5 then k = w.heap.size + 1 else k = w.heap.size + 1 + 1)) (w.heap.size + 1) ((X).map B).toArray 26 (fun j => j == 6) (fun j hj => by obtain rfl : j = 6 := (by simpa using hj); show ¬ (if 6 = 5 then w.heap.size + 1 = w.heap.size + 1 else w.heap.size + 1 = w.heap.size + 1 + 1); rw [if_neg (by decide)]; omega), BlkS (Sl := (fun j k => if j = 5 then k = w.heap.size + 1 else k = w.heap.size + 1 + 1)) (w.heap.size + 1 + 1) ((RY).map B).toArray 26 (fun j => j == 5) (fun j hj => by obtain rfl : j = 5 := (by simpa using hj); show ¬ (if 5 = 5 then w.heap.size + 1 + 1 = w.heap.size + 1 else w.heap.size + 1 + 1 = w.heap.size + 1 + 1); rw [if_pos rfl]; omega), Is (.bool q.2.2)] [5, 6] (fun j k h => by unfold frm; split at h <;> omega) _ (by kernel_rfl) (by kernel_rfl) (by kernel_rfl) (by kernel_rfl) (fun x => by simp only [puts, Act.put, List.map_cons, List.map_nil, Nat.zero_add, Nat.reduceAdd, List.setIfInBounds_toArray, List.set_cons_zero, List.set_cons_succ]; exact rfl) ?_ ?_
        · skip
          refine Steps.cons (fun x wf Kk hq hdep hold => ?_) ?_
          · try dsimp only
            have Kq := hq (fun k => k = w.heap.size + 1 + 1) (fun j hj k hk => by obtain ⟨h1, h2⟩ := List.mem_filter.1 hj; rcases (show j = 5 ∨ j = 6 by simpa using h1) with rfl | rfl; (exact Bool.noConfusion (h2.symm.trans (by kernel_rfl : _ = false))); ((have hk' : (if 6 = 5 then k = w.heap.size + 1 else k = w.heap.size + 1 + 1) := hk); rw [if_neg (by decide)] at hk'; exact hk'))
            clear hq hdep hold
            rw [if_pos (by rfl)]
            have gl := (Kq.undrew.block (w.heap.size + 1) (lt_of_heap gX0.out) (by show ¬ w.heap.size + 1 = w.heap.size + 1 + 1; omega)).trans gX0.out
            exact yld (.tmp 10) rfl (w.heap.size + 1) rfl (X) gl hX.out ⟨Kept.refl _ _, rfl⟩
          refine Steps.cons (fun x wf Kk hq hdep hold => ?_) ?_
          · try dsimp only
            have Kq := hq (fun k => k = w.heap.size + 1) (fun j hj k hk => by obtain ⟨h1, h2⟩ := List.mem_filter.1 hj; rcases (show j = 5 ∨ j = 6 by simpa using h1) with rfl | rfl; ((have hk' : (if 5 = 5 then k = w.heap.size + 1 else k = w.heap.size + 1 + 1) := hk); rw [if_pos rfl] at hk'; exact hk'); (exact Bool.noConfusion (h2.symm.trans (by kernel_rfl : _ = false))))
            clear hq hdep hold
            rw [if_pos (by rfl)]
            have gl := (Kq.undrew.block (w.heap.size + 1 + 1) (lt_of_heap gY0.out) (by show ¬ w.heap.size + 1 + 1 = w.heap.size + 1; omega)).trans gY0.out
            exact yld (.tmp 11) rfl (w.heap.size + 1 + 1) rfl (Y) gl hY.out ⟨Kept.refl _ _, rfl⟩
          refine Steps.cons (fun x wf Kk hq hdep hold => ?_) ?_
          · try dsimp only
            have Kq := hq (fun k => k = w.heap.size + 1 ∨ k = w.heap.size + 1 + 1) (fun j hj k hk => by obtain ⟨h1, h2⟩ := List.mem_filter.1 hj; rcases (show j = 5 ∨ j = 6 by simpa using h1) with rfl | rfl; ((have hk' : (if 5 = 5 then k = w.heap.size + 1 else k = w.heap.size + 1 + 1) := hk); rw [if_pos rfl] at hk'; exact Or.inl hk'); ((have hk' : (if 6 = 5 then k = w.heap.size + 1 else k = w.heap.size + 1 + 1) := hk); rw [if_neg (by decide)] at hk'; exact Or.inr hk'))
            clear hq hdep hold
            rw [if_pos (by rfl)]
            have gl := (Kq.undrew.block (gp) (lt_of_heap gP4.out) (by show ¬ (gp = w.heap.size + 1 ∨ gp = w.heap.size + 1 + 1); first | omega | (have := nx.out; omega) | (have := nxa.out; omega))).trans gP4.out
            exact yld (.tmp 13) rfl (gp) rfl (PP) gl hP.out ⟨Kept.refl _ _, rfl⟩
          refine Steps.cons (fun x wf Kk hq hdep hold => ?_) ?_
          · try dsimp only
            have h1 : x 1 = (Dg Y) := hdep 1 (by kernel_rfl)
            have h2 : x 2 = (Dg PP) := hdep 2 (by kernel_rfl)
            clear hq hdep hold
            simp only [h1, h2]
            clear h1 h2
            rw [if_pos (by rfl)]
            refine OpY.call (f := 66) (args := #[(Dg Y), (Dg PP)]) (by go_simp) ?_
            refine (hI1.out wf (hT.out.kept (kc.out.frmB Kk.undrew (Nat.le_succ _)))).mono ?_
            rintro e w2 ⟨rfl, k2⟩
            exact ⟨_, rfl, k2, rfl⟩
          refine Steps.cons (fun x wf Kk hq hdep hold => ?_) ?_
          · try dsimp only
            have h7 : x 7 = (.bool q.2.2) := hold 7 (by kernel_rfl)
            clear hq hdep hold
            simp only [h7]
            clear h7
            rw [if_pos (by rfl)]
            refine OpY.val (v := (.bool q.2.2)) ?_ ⟨Kept.refl _ _, rfl⟩
            first | rfl | go_simp
          refine Steps.cons (fun x wf Kk hq hdep hold => ?_) ?_
          · try dsimp only
            have h0 : x 0 = (Dg X) := hdep 0 (by kernel_rfl)
            have Kq := hq (fun k => k = w.heap.size + 1 + 1) (fun j hj k hk => by obtain ⟨h1, h2⟩ := List.mem_filter.1 hj; rcases (show j = 5 ∨ j = 6 by simpa using h1) with rfl | rfl; (exact Bool.noConfusion (h2.symm.trans (by kernel_rfl : _ = false))); ((have hk' : (if 6 = 5 then k = w.heap.size + 1 else k = w.heap.size + 1 + 1) := hk); rw [if_neg (by decide)] at hk'; exact hk'))
            clear hq hdep hold
            simp only [h0]
            clear h0
            rw [if_pos (by rfl)]
            have gz := (Kq.undrew.block (w.heap.size + 1) (lt_of_heap gX0.out) (by show ¬ w.heap.size + 1 = w.heap.size + 1 + 1; omega)).trans gX0.out
            refine ysd (.tmp 10) (.tmp 66) rfl (w.heap.size + 1) rfl (X) rfl _ gz (Dg_cells hX.out) hX.out ⟨?_, setRow_heap _ _ _ _ _ _ gz⟩
            exact (Kept.refl _ _).setRow (S := fun k => k = w.heap.size + 1) (.inl rfl) _
          refine Steps.cons (fun x wf Kk hq hdep hold => ?_) ?_
          · try dsimp only
            have h3 : x 3 = (Dg RY) := hdep 3 (by kernel_rfl)
            have Kq := hq (fun k => k = w.heap.size + 1) (fun j hj k hk => by obtain ⟨h1, h2⟩ := List.mem_filter.1 hj; rcases (show j = 5 ∨ j = 6 by simpa using h1) with rfl | rfl; ((have hk' : (if 5 = 5 then k = w.heap.size + 1 else k = w.heap.size + 1 + 1) := hk); rw [if_pos rfl] at hk'; exact hk'); (exact Bool.noConfusion (h2.symm.trans (by kernel_rfl : _ = false))))
            clear hq hdep hold
            simp only [h3]
            clear h3
            rw [if_pos (by rfl)]
            have gz := (Kq.undrew.block (w.heap.size + 1 + 1) (lt_of_heap gY0.out) (by show ¬ w.heap.size + 1 + 1 = w.heap.size + 1; omega)).trans gY0.out
            refine ysd (.tmp 11) (.tmp 69) rfl (w.heap.size + 1 + 1) rfl (RY) rfl _ gz (Dg_cells hY.out) hR1.out ⟨?_, setRow_heap _ _ _ _ _ _ gz⟩
            exact (Kept.refl _ _).setRow (S := fun k => k = w.heap.size + 1 + 1) (.inl rfl) _
          refine Steps.cons (fun x wf Kk hq hdep hold => ?_) ?_
          · try dsimp only
            have h4 : x 4 = (.bool q.2.2) := hdep 4 (by kernel_rfl)
            clear hq hdep hold
            simp only [h4]
            clear h4
            rw [if_pos (by rfl)]
            refine OpY.val (v := (.bool q.2.2)) ?_ ⟨Kept.refl _ _, rfl⟩
            first | rfl | go_simp
          exact Steps.nil _
        · intro x wf Kk hv
          try dsimp only
          have h0 : x 0 = (Dg X) := hv 0 (by kernel_rfl)
          have h1 : x 1 = (Dg Y) := hv 1 (by kernel_rfl)
          have h2 : x 2 = (Dg PP) := hv 2 (by kernel_rfl)
          have h3 : x 3 = (Dg RY) := hv 3 (by kernel_rfl)
          have h4 : x 4 = (.bool q.2.2) := hv 4 (by kernel_rfl)
          have p5 : Pr.p (Sl := (fun j k => if j = 5 then k = w.heap.size + 1 else k = w.heap.size + 1 + 1)) (BlkS (Sl := (fun j k => if j = 5 then k = w.heap.size + 1 else k = w.heap.size + 1 + 1)) (w.heap.size + 1) ((X).map B).toArray 26 (fun j => j == 6) (fun j hj => by obtain rfl : j = 6 := (by simpa using hj); show ¬ (if 6 = 5 then w.heap.size + 1 = w.heap.size + 1 else w.heap.size + 1 = w.heap.size + 1 + 1); rw [if_neg (by decide)]; omega)) (x 5) wf := hv 5 (by kernel_rfl)
          have p6 : Pr.p (Sl := (fun j k => if j = 5 then k = w.heap.size + 1 else k = w.heap.size + 1 + 1)) (BlkS (Sl := (fun j k => if j = 5 then k = w.heap.size + 1 else k = w.heap.size + 1 + 1)) (w.heap.size + 1 + 1) ((RY).map B).toArray 26 (fun j => j == 5) (fun j hj => by obtain rfl : j = 5 := (by simpa using hj); show ¬ (if 5 = 5 then w.heap.size + 1 + 1 = w.heap.size + 1 else w.heap.size + 1 + 1 = w.heap.size + 1 + 1); rw [if_pos rfl]; omega)) (x 6) wf := hv 6 (by kernel_rfl)
          have h7 : x 7 = (.bool q.2.2) := hv 7 (by kernel_rfl)
          clear hv
          simp only [h0, h1, h2, h3, h4, h7]
          clear h0 h1 h2 h3 h4 h7
          have kz := hid (kc.out.frmB Kk.undrew (Nat.le_succ _))
          have hbx := hid p5
          have hby := hid p6
          clear p5 p6 Kk
          go_wp2_with fail
          refine bodyPost_ret (v := .tuple #[Dg (X), Dg (RY), .bool q.2.2]) ?_ rfl ?_
          · exact results_dg2_tmp rfl _ _ (w.heap.size + 1) (w.heap.size + 1 + 1) (X) (RY) _ rfl rfl rfl hbx.out hX.out hby.out hR1.out
          · exact ⟨hq.out, kz.out⟩
      · have hlt : ¬ I ≤ (K : Int) := by omega
        have hge : (K : Int) < I := by omega
        rw [if_neg hik] at hv
        obtain ⟨I2, hI2⟩ : ∃ I2 : Nat, m - K = I2 := ⟨_, rfl⟩
        obtain ⟨N2, hN2⟩ : ∃ N2 : Nat, n - K = N2 := ⟨_, rfl⟩
        have s1 : I - (K : Int) = (I2 : Int) := by omega
        have s2 : IntKind.i64.wrap (I2 : Int) = (I2 : Int) := IntWalk.i64_in _ (by omega)
        have s3 : (n : Int) - (K : Int) = (N2 : Int) := by omega
        have s4 : IntKind.i64.wrap (N2 : Int) = (N2 : Int) := IntWalk.i64_in _ (by omega)
        have IHP := hid (fun W h t => hIH.out (m - K) (n - K) false W (by omega) (by omega) (by omega) h t)
        rw [hI2, hN2] at IHP
        rw [hI2, hN2] at hv
        generalize rebuildR H I2 N2 false ds'.reverse = q at IHP hv
        clear hIH hI hik hI2 hN2
        rw [hDg]
        clear hDg
        go_enter Tryd.func70, Tryd.ntmps70
        go_upto_region 1 with fail
        obtain ⟨w1, hw1, g0, gX0, gY0, kc⟩ := three_dg w H
        rw [hH.out] at hw1
        unfold Z32 at hw1
        rw [← hw1]
        clear hw1
        replace g0 := hid g0
        replace gX0 := hid gX0
        replace gY0 := hid gY0
        replace kc := hid kc
        have lt_w1 : Hd (w.heap.size + 1 + 1 < w1.heap.size) := ⟨lt_of_heap gY0.out⟩
        go_upto_region 5 with fail
        have hrP := hid (kc.out.drew.rng hrP0.out)
        refine wp_region_held_drew (S := fun w' => w'.rangeAt b (o + l * 32) (PP.map B)) (by kernel_rfl) hrP.out (fun _ => ?_)
        generalize hwd : w1.drew = W0 at hrP ⊢
        have kd : Hd (Kept no w1 W0) := ⟨by rw [← hwd]; exact (Kept.refl no w1).drew⟩
        clear hwd
        refine take2 0 (some 32) (.slice (some ⟨b, o, none⟩) L1 cap) rfl rfl (by kernel_rfl) (by kernel_rfl) (by kernel_rfl) (fun _ _ _ h => h) (Or.inl ⟨by rfl, fun w hSw => ?_⟩) hrP.out ?_
        · first | rfl | go_simp
        try simp only [Act.put, List.setIfInBounds_toArray, List.set_cons_zero, List.set_cons_succ]
        refine take2 1 (some 33) (.slice (some ⟨b, o, none⟩) L1 cap) rfl rfl (by kernel_rfl) (by kernel_rfl) (by kernel_rfl) (fun _ _ _ h => h) (Or.inl ⟨by rfl, fun w hSw => ?_⟩) hrP.out ?_
        · first | rfl | go_simp
        try simp only [Act.put, List.setIfInBounds_toArray, List.set_cons_zero, List.set_cons_succ]
        refine take2 2 (some 34) (.int .i64 (L1 : Int)) rfl rfl (by kernel_rfl) (by kernel_rfl) (by kernel_rfl) (fun _ _ _ h => h) (Or.inl ⟨by rfl, fun w hSw => ?_⟩) hrP.out ?_
        · first | rfl | go_simp
        try simp only [Act.put, List.setIfInBounds_toArray, List.set_cons_zero, List.set_cons_succ]
        refine take2 3 (some 35) (.int .i64 (l : Int)) rfl rfl (by kernel_rfl) (by kernel_rfl) (by kernel_rfl) (fun _ _ _ h => h) (Or.inl ⟨by rfl, fun w hSw => ?_⟩) hrP.out ?_
        · first | rfl | go_simp
        try simp only [Act.put, List.setIfInBounds_toArray, List.set_cons_zero, List.set_cons_succ]
        refine take2 4 (some 36) (.pointer (some ⟨b, o + l * 32, none⟩)) rfl rfl (by kernel_rfl) (by kernel_rfl) (by kernel_rfl) (fun _ _ _ h => h) (Or.inl ⟨by rfl, fun w hSw => ?_⟩) hrP.out ?_
        · first | rfl | go_simp
        try simp only [Act.put, List.setIfInBounds_toArray, List.set_cons_zero, List.set_cons_succ]
        refine take2 5 (some 37) (Dg PP) rfl rfl (by kernel_rfl) (by kernel_rfl) (by kernel_rfl) (fun _ _ _ h => h) (yieldsIf_load_mid (by rfl) 26 (.tmp 36) rfl b (o + l * 32) rfl (PP.map B) _ (fun w h => h) Tryd.underlying26 rfl (infDl hP.out)) hrP.out ?_
        try simp only [Act.put, List.setIfInBounds_toArray, List.set_cons_zero, List.set_cons_succ]
        refine take2 6 (some 38) (.slice (some ⟨b, o, none⟩) L1 cap) rfl rfl (by kernel_rfl) (by kernel_rfl) (by kernel_rfl) (fun _ _ _ h => h) (Or.inl ⟨by rfl, fun w hSw => ?_⟩) hrP.out ?_
        · first | rfl | go_simp
        try simp only [Act.put, List.setIfInBounds_toArray, List.set_cons_zero, List.set_cons_succ]
        refine take2 7 (some 39) (.slice (some ⟨b, o, none⟩) L1 cap) rfl rfl (by kernel_rfl) (by kernel_rfl) (by kernel_rfl) (fun _ _ _ h => h) (Or.inl ⟨by rfl, fun w hSw => ?_⟩) hrP.out ?_
        · first | rfl | go_simp
        try simp only [Act.put, List.setIfInBounds_toArray, List.set_cons_zero, List.set_cons_succ]
        refine take2 8 (some 40) (.int .i64 (L1 : Int)) rfl rfl (by kernel_rfl) (by kernel_rfl) (by kernel_rfl) (fun _ _ _ h => h) (Or.inl ⟨by rfl, fun w hSw => ?_⟩) hrP.out ?_
        · first | rfl | go_simp
        try simp only [Act.put, List.setIfInBounds_toArray, List.set_cons_zero, List.set_cons_succ]
        refine take2 9 (some 41) (.int .i64 (l : Int)) rfl rfl (by kernel_rfl) (by kernel_rfl) (by kernel_rfl) (fun _ _ _ h => h) (Or.inl ⟨by rfl, fun w hSw => ?_⟩) hrP.out ?_
        · first | rfl | go_simp
        try simp only [Act.put, List.setIfInBounds_toArray, List.set_cons_zero, List.set_cons_succ]
        refine take2 10 (some 42) (.slice (some ⟨b, o, none⟩) l cap) rfl rfl (by kernel_rfl) (by kernel_rfl) (by kernel_rfl) (fun _ _ _ h => h) (Or.inl ⟨by rfl, fun w hSw => ?_⟩) hrP.out ?_
        · first | rfl | go_simp
        try simp only [Act.put, List.setIfInBounds_toArray, List.set_cons_zero, List.set_cons_succ]
        refine wpAnyH_ready (rs := [11]) (by kernel_rfl) (by simp) ?_
        refine AllReadyH.cons rfl (fun K hK => ?_) AllReadyH.nil
        go_simp
        refine hK.out _ _ (((Kept.refl no W0).alloc _).rng hrP.out) (fun _ => ?_)
        clear hK K
        try simp only [Act.put, List.setIfInBounds_toArray, List.set_cons_zero, List.set_cons_succ]
        have e1 := hid (heap_alloc_new W0 (.cells Z32 26))
        have q1 := hid ((Kept.refl no W0).alloc (.cells Z32 26))
        unfold Z32 at e1 q1
        generalize hgp : W0.heap.size = gp at e1 ⊢
        have hgp' : Hd (w1.heap.size ≤ gp) := ⟨by rw [← hgp]; exact kd.out.size⟩
        have q0 : Hd (W0.heap.size ≤ gp) := ⟨by rw [hgp]; exact Nat.le_refl _⟩
        clear hgp
        generalize W0.alloc _ = W1 at e1 q1 ⊢
        refine wpAnyH_ready (rs := [12]) (by kernel_rfl) (by simp) ?_
        refine AllReadyH.cons rfl (fun K hK => ?_) AllReadyH.nil
        rw [if_pos (by rfl)]
        refine wp_store_row 26 _ _ rfl gp (PP.map B).toArray rfl rfl 26 _ e1.out (infD hP.out) (Dg_cells hP.out).symm (oneD PP) ?_
        have e2 := hid (setRow_heap W1 gp _ (PP.map B).toArray _ _ e1.out)
        have k2 := hid ((kd.out.trans' q1.out).setRow (g := gp) (.inr hgp'.out) (PP.map B).toArray)
        have s2 := hid ((q1.out.setRow (g := gp) (.inr q0.out) (PP.map B).toArray).rng hrP.out)
        refine hK.out _ _ s2.out (fun _ => ?_)
        clear hK K
        try simp only [Act.put]
        generalize W1.setRow gp _ = W2 at e2 k2 s2 ⊢
        clear hrP kd e1 q1 q0
        refine take2 13 (some 14) (.slice (some ⟨b, o, none⟩) l cap) rfl rfl (by kernel_rfl) (by kernel_rfl) (by kernel_rfl) (fun _ _ _ h => h) (Or.inl ⟨by rfl, fun w hSw => ?_⟩) s2.out ?_
        · first | rfl | go_simp
        try simp only [Act.put, List.setIfInBounds_toArray]
        refine wpAnyH_done (by kernel_rfl) ?_ _
        clear s2
        have kc2 := hid (kc.out.trans' k2.out)
        have gH := hid (k2.out.blk g0.out)
        have gX := hid (k2.out.blk gX0.out)
        have gY := hid (k2.out.blk gY0.out)
        have nx : Hd (w.heap.size + 1 + 1 < gp) := ⟨by have := hgp'.out; have := lt_w1.out; omega⟩
        clear g0 gX0 gY0 kc k2
        obtain ⟨kc, gX0, gY0⟩ := And.intro kc2 (And.intro gX gY)
        clear kc2 gX gY
        go_upto_region 12 with (refine (HH.out _).mono ?_; rintro ed w' ⟨rfl, rfl⟩)
        go_wp2_with (with_reducible refine ld rfl _ rfl w.heap.size rfl H gH.out hHl.out ?_)
        refine (IHP.out W2 (hrd'.out.kept kc.out) (hT.out.kept kc.out)).mono ?_
        rintro ed W3 ⟨⟨X, Y, rfl, hX, hY, hXq⟩, k3⟩
        have kc3 := hid (kc.out.trans' k3)
        have k3s : Hd (gp < W3.heap.size) := ⟨lt_of_heap (k3.blk e2.out)⟩
        have gP3 := hid (k3.blk e2.out)
        have gX3 := hid (k3.blk gX0.out)
        have gY3 := hid (k3.blk gY0.out)
        replace hX := hid hX
        replace hY := hid hY
        replace hXq := hid hXq
        have hZs : Hd ((Z32l.map B).toArray.size = 32) := ⟨rfl⟩
        clear k3 gX0 gY0 kc gH e2
        obtain ⟨W4, hw4, gX0, gY0, gP4, kc⟩ : ∃ W4, W4 = (W3.setRow (w.heap.size + 1) (X.map B).toArray).setRow (w.heap.size + 1 + 1) (Y.map B).toArray ∧ W4.heap[w.heap.size + 1]? = some (.cells (X.map B).toArray 26 (0, 0)) ∧ W4.heap[w.heap.size + 1 + 1]? = some (.cells (Y.map B).toArray 26 (0, 0)) ∧ W4.heap[gp]? = some (.cells (PP.map B).toArray 26 (0, 0)) ∧ Kept no w W4 := by
          have hgne : w.heap.size + 1 + 1 < gp := by have := hgp'.out; have := lt_w1.out; omega
          refine ⟨_, rfl, ?_, setRow_heap _ _ _ _ _ _ (by rw [setRow_other _ _ _ _ (by omega)]; exact gY3.out), ?_, (kc3.out.setRow (.inr (Nat.le_succ _)) _).setRow (.inr (by omega)) _⟩
          · rw [setRow_other _ _ _ _ (by omega)]; exact setRow_heap _ _ _ _ _ _ gX3.out
          · rw [setRow_other _ _ _ _ (by omega), setRow_other _ _ _ _ (by omega)]; exact gP3.out
        have gy1 : Hd ((W3.setRow (w.heap.size + 1) (X.map B).toArray).heap[w.heap.size + 1 + 1]? = some (.cells (Z32l.map B).toArray 26 (0, 0))) := ⟨by rw [setRow_other _ _ _ _ (by omega)]; exact gY3.out⟩
        replace hw4 := hid hw4
        replace gX0 := hid gX0
        replace gY0 := hid gY0
        replace gP4 := hid gP4
        replace kc := hid kc
        go_upto_region 13 with (first | (with_reducible refine sd rfl _ _ rfl (w.heap.size + 1) rfl X rfl _ gX3.out hZs.out hX.out ?_) | (with_reducible refine sd rfl _ _ rfl (w.heap.size + 1 + 1) rfl Y rfl _ gy1.out hZs.out hY.out ?_; rw [← hw4.out]))
        clear hw4 gy1 gX3 gY3 gP3 kc3
        have hq : Hd (RbP (rebuildR H m n known (ds' ++ [PP]).reverse) (.returned (.tuple #[Dg (innerD PP X), Dg (innerD PP Y), .bool q.2.2]))) := ⟨by
          rw [hv.out]; exact ⟨_, _, rfl, innerD_length _ _, innerD_length _ _, fun h => ⟨by rw [(hXq.out h).1], by rw [(hXq.out h).2]⟩⟩⟩
        have hI1 := hid (fun W t => inner_any PP X W hP.out hX.out t)
        have hI2 := hid (fun W t => inner_any PP Y W hP.out hY.out t)
        have hR1 := hid (innerD_length PP X)
        have hR2 := hid (innerD_length PP Y)
        generalize innerD PP X = RX at hq hI1 hR1
        generalize innerD PP Y = RY at hq hI2 hR2
        clear hv hXq
        refine region_flow (S := (frm (w.heap.size + 1))) (Sl := (fun j k => if j = 7 then k = w.heap.size + 1 else k = w.heap.size + 1 + 1)) [Is (Dg PP), Is (Dg X), Is (Dg RX), Is (Dg PP), Is (Dg Y), Is (Dg RY), Is (.bool q.2.2), BlkS (Sl := (fun j k => if j = 7 then k = w.heap.size + 1 else k = w.heap.size + 1 + 1)) (w.heap.size + 1) ((RX).map B).toArray 26 (fun j => j == 8) (fun j hj => by obtain rfl : j = 8 := (by simpa using hj); show ¬ (if 8 = 7 then w.heap.size + 1 = w.heap.size + 1 else w.heap.size + 1 = w.heap.size + 1 + 1); rw [if_neg (by decide)]; omega), BlkS (Sl := (fun j k => if j = 7 then k = w.heap.size + 1 else k = w.heap.size + 1 + 1)) (w.heap.size + 1 + 1) ((RY).map B).toArray 26 (fun j => j == 7) (fun j hj => by obtain rfl : j = 7 := (by simpa using hj); show ¬ (if 7 = 7 then w.heap.size + 1 + 1 = w.heap.size + 1 else w.heap.size + 1 + 1 = w.heap.size + 1 + 1); rw [if_pos rfl]; omega), Is (.bool q.2.2)] [7, 8] (fun j k h => by unfold frm; split at h <;> omega) _ (by kernel_rfl) (by kernel_rfl) (by kernel_rfl) (by kernel_rfl) (fun x => by simp only [puts, Act.put, List.map_cons, List.map_nil, Nat.zero_add, Nat.reduceAdd, List.setIfInBounds_toArray, List.set_cons_zero, List.set_cons_succ]; exact rfl) ?_ ?_
        · skip
          refine Steps.cons (fun x wf Kk hq hdep hold => ?_) ?_
          · try dsimp only
            have Kq := hq (fun k => k = w.heap.size + 1 ∨ k = w.heap.size + 1 + 1) (fun j hj k hk => by obtain ⟨h1, h2⟩ := List.mem_filter.1 hj; rcases (show j = 7 ∨ j = 8 by simpa using h1) with rfl | rfl; ((have hk' : (if 7 = 7 then k = w.heap.size + 1 else k = w.heap.size + 1 + 1) := hk); rw [if_pos rfl] at hk'; exact Or.inl hk'); ((have hk' : (if 8 = 7 then k = w.heap.size + 1 else k = w.heap.size + 1 + 1) := hk); rw [if_neg (by decide)] at hk'; exact Or.inr hk'))
            clear hq hdep hold
            rw [if_pos (by rfl)]
            have gl := (Kq.undrew.block (gp) (lt_of_heap gP4.out) (by show ¬ (gp = w.heap.size + 1 ∨ gp = w.heap.size + 1 + 1); first | omega | (have := nx.out; omega) | (have := nxa.out; omega))).trans gP4.out
            exact yld (.tmp 13) rfl (gp) rfl (PP) gl hP.out ⟨Kept.refl _ _, rfl⟩
          refine Steps.cons (fun x wf Kk hq hdep hold => ?_) ?_
          · try dsimp only
            have Kq := hq (fun k => k = w.heap.size + 1 + 1) (fun j hj k hk => by obtain ⟨h1, h2⟩ := List.mem_filter.1 hj; rcases (show j = 7 ∨ j = 8 by simpa using h1) with rfl | rfl; (exact Bool.noConfusion (h2.symm.trans (by kernel_rfl : _ = false))); ((have hk' : (if 8 = 7 then k = w.heap.size + 1 else k = w.heap.size + 1 + 1) := hk); rw [if_neg (by decide)] at hk'; exact hk'))
            clear hq hdep hold
            rw [if_pos (by rfl)]
            have gl := (Kq.undrew.block (w.heap.size + 1) (lt_of_heap gX0.out) (by show ¬ w.heap.size + 1 = w.heap.size + 1 + 1; omega)).trans gX0.out
            exact yld (.tmp 10) rfl (w.heap.size + 1) rfl (X) gl hX.out ⟨Kept.refl _ _, rfl⟩
          refine Steps.cons (fun x wf Kk hq hdep hold => ?_) ?_
          · try dsimp only
            have h0 : x 0 = (Dg PP) := hdep 0 (by kernel_rfl)
            have h1 : x 1 = (Dg X) := hdep 1 (by kernel_rfl)
            clear hq hdep hold
            simp only [h0, h1]
            clear h0 h1
            rw [if_pos (by rfl)]
            refine OpY.call (f := 66) (args := #[(Dg PP), (Dg X)]) (by go_simp) ?_
            refine (hI1.out wf (hT.out.kept (kc.out.frmB Kk.undrew (Nat.le_succ _)))).mono ?_
            rintro e w2 ⟨rfl, k2⟩
            exact ⟨_, rfl, k2, rfl⟩
          refine Steps.cons (fun x wf Kk hq hdep hold => ?_) ?_
          · try dsimp only
            have Kq := hq (fun k => k = w.heap.size + 1 ∨ k = w.heap.size + 1 + 1) (fun j hj k hk => by obtain ⟨h1, h2⟩ := List.mem_filter.1 hj; rcases (show j = 7 ∨ j = 8 by simpa using h1) with rfl | rfl; ((have hk' : (if 7 = 7 then k = w.heap.size + 1 else k = w.heap.size + 1 + 1) := hk); rw [if_pos rfl] at hk'; exact Or.inl hk'); ((have hk' : (if 8 = 7 then k = w.heap.size + 1 else k = w.heap.size + 1 + 1) := hk); rw [if_neg (by decide)] at hk'; exact Or.inr hk'))
            clear hq hdep hold
            rw [if_pos (by rfl)]
            have gl := (Kq.undrew.block (gp) (lt_of_heap gP4.out) (by show ¬ (gp = w.heap.size + 1 ∨ gp = w.heap.size + 1 + 1); first | omega | (have := nx.out; omega) | (have := nxa.out; omega))).trans gP4.out
            exact yld (.tmp 13) rfl (gp) rfl (PP) gl hP.out ⟨Kept.refl _ _, rfl⟩
          refine Steps.cons (fun x wf Kk hq hdep hold => ?_) ?_
          · try dsimp only
            have Kq := hq (fun k => k = w.heap.size + 1) (fun j hj k hk => by obtain ⟨h1, h2⟩ := List.mem_filter.1 hj; rcases (show j = 7 ∨ j = 8 by simpa using h1) with rfl | rfl; ((have hk' : (if 7 = 7 then k = w.heap.size + 1 else k = w.heap.size + 1 + 1) := hk); rw [if_pos rfl] at hk'; exact hk'); (exact Bool.noConfusion (h2.symm.trans (by kernel_rfl : _ = false))))
            clear hq hdep hold
            rw [if_pos (by rfl)]
            have gl := (Kq.undrew.block (w.heap.size + 1 + 1) (lt_of_heap gY0.out) (by show ¬ w.heap.size + 1 + 1 = w.heap.size + 1; omega)).trans gY0.out
            exact yld (.tmp 11) rfl (w.heap.size + 1 + 1) rfl (Y) gl hY.out ⟨Kept.refl _ _, rfl⟩
          refine Steps.cons (fun x wf Kk hq hdep hold => ?_) ?_
          · try dsimp only
            have h3 : x 3 = (Dg PP) := hdep 3 (by kernel_rfl)
            have h4 : x 4 = (Dg Y) := hdep 4 (by kernel_rfl)
            clear hq hdep hold
            simp only [h3, h4]
            clear h3 h4
            rw [if_pos (by rfl)]
            refine OpY.call (f := 66) (args := #[(Dg PP), (Dg Y)]) (by go_simp) ?_
            refine (hI2.out wf (hT.out.kept (kc.out.frmB Kk.undrew (Nat.le_succ _)))).mono ?_
            rintro e w2 ⟨rfl, k2⟩
            exact ⟨_, rfl, k2, rfl⟩
          refine Steps.cons (fun x wf Kk hq hdep hold => ?_) ?_
          · try dsimp only
            have h9 : x 9 = (.bool q.2.2) := hold 9 (by kernel_rfl)
            clear hq hdep hold
            simp only [h9]
            clear h9
            rw [if_pos (by rfl)]
            refine OpY.val (v := (.bool q.2.2)) ?_ ⟨Kept.refl _ _, rfl⟩
            first | rfl | go_simp
          refine Steps.cons (fun x wf Kk hq hdep hold => ?_) ?_
          · try dsimp only
            have h2 : x 2 = (Dg RX) := hdep 2 (by kernel_rfl)
            have Kq := hq (fun k => k = w.heap.size + 1 + 1) (fun j hj k hk => by obtain ⟨h1, h2⟩ := List.mem_filter.1 hj; rcases (show j = 7 ∨ j = 8 by simpa using h1) with rfl | rfl; (exact Bool.noConfusion (h2.symm.trans (by kernel_rfl : _ = false))); ((have hk' : (if 8 = 7 then k = w.heap.size + 1 else k = w.heap.size + 1 + 1) := hk); rw [if_neg (by decide)] at hk'; exact hk'))
            clear hq hdep hold
            simp only [h2]
            clear h2
            rw [if_pos (by rfl)]
            have gz := (Kq.undrew.block (w.heap.size + 1) (lt_of_heap gX0.out) (by show ¬ w.heap.size + 1 = w.heap.size + 1 + 1; omega)).trans gX0.out
            refine ysd (.tmp 10) (.tmp 86) rfl (w.heap.size + 1) rfl (RX) rfl _ gz (Dg_cells hX.out) hR1.out ⟨?_, setRow_heap _ _ _ _ _ _ gz⟩
            exact (Kept.refl _ _).setRow (S := fun k => k = w.heap.size + 1) (.inl rfl) _
          refine Steps.cons (fun x wf Kk hq hdep hold => ?_) ?_
          · try dsimp only
            have h5 : x 5 = (Dg RY) := hdep 5 (by kernel_rfl)
            have Kq := hq (fun k => k = w.heap.size + 1) (fun j hj k hk => by obtain ⟨h1, h2⟩ := List.mem_filter.1 hj; rcases (show j = 7 ∨ j = 8 by simpa using h1) with rfl | rfl; ((have hk' : (if 7 = 7 then k = w.heap.size + 1 else k = w.heap.size + 1 + 1) := hk); rw [if_pos rfl] at hk'; exact hk'); (exact Bool.noConfusion (h2.symm.trans (by kernel_rfl : _ = false))))
            clear hq hdep hold
            simp only [h5]
            clear h5
            rw [if_pos (by rfl)]
            have gz := (Kq.undrew.block (w.heap.size + 1 + 1) (lt_of_heap gY0.out) (by show ¬ w.heap.size + 1 + 1 = w.heap.size + 1; omega)).trans gY0.out
            refine ysd (.tmp 11) (.tmp 89) rfl (w.heap.size + 1 + 1) rfl (RY) rfl _ gz (Dg_cells hY.out) hR2.out ⟨?_, setRow_heap _ _ _ _ _ _ gz⟩
            exact (Kept.refl _ _).setRow (S := fun k => k = w.heap.size + 1 + 1) (.inl rfl) _
          refine Steps.cons (fun x wf Kk hq hdep hold => ?_) ?_
          · try dsimp only
            have h6 : x 6 = (.bool q.2.2) := hdep 6 (by kernel_rfl)
            clear hq hdep hold
            simp only [h6]
            clear h6
            rw [if_pos (by rfl)]
            refine OpY.val (v := (.bool q.2.2)) ?_ ⟨Kept.refl _ _, rfl⟩
            first | rfl | go_simp
          exact Steps.nil _
        · intro x wf Kk hv
          try dsimp only
          have h0 : x 0 = (Dg PP) := hv 0 (by kernel_rfl)
          have h1 : x 1 = (Dg X) := hv 1 (by kernel_rfl)
          have h2 : x 2 = (Dg RX) := hv 2 (by kernel_rfl)
          have h3 : x 3 = (Dg PP) := hv 3 (by kernel_rfl)
          have h4 : x 4 = (Dg Y) := hv 4 (by kernel_rfl)
          have h5 : x 5 = (Dg RY) := hv 5 (by kernel_rfl)
          have h6 : x 6 = (.bool q.2.2) := hv 6 (by kernel_rfl)
          have p7 : Pr.p (Sl := (fun j k => if j = 7 then k = w.heap.size + 1 else k = w.heap.size + 1 + 1)) (BlkS (Sl := (fun j k => if j = 7 then k = w.heap.size + 1 else k = w.heap.size + 1 + 1)) (w.heap.size + 1) ((RX).map B).toArray 26 (fun j => j == 8) (fun j hj => by obtain rfl : j = 8 := (by simpa using hj); show ¬ (if 8 = 7 then w.heap.size + 1 = w.heap.size + 1 else w.heap.size + 1 = w.heap.size + 1 + 1); rw [if_neg (by decide)]; omega)) (x 7) wf := hv 7 (by kernel_rfl)
          have p8 : Pr.p (Sl := (fun j k => if j = 7 then k = w.heap.size + 1 else k = w.heap.size + 1 + 1)) (BlkS (Sl := (fun j k => if j = 7 then k = w.heap.size + 1 else k = w.heap.size + 1 + 1)) (w.heap.size + 1 + 1) ((RY).map B).toArray 26 (fun j => j == 7) (fun j hj => by obtain rfl : j = 7 := (by simpa using hj); show ¬ (if 7 = 7 then w.heap.size + 1 + 1 = w.heap.size + 1 else w.heap.size + 1 + 1 = w.heap.size + 1 + 1); rw [if_pos rfl]; omega)) (x 8) wf := hv 8 (by kernel_rfl)
          have h9 : x 9 = (.bool q.2.2) := hv 9 (by kernel_rfl)
          clear hv
          simp only [h0, h1, h2, h3, h4, h5, h6, h9]
          clear h0 h1 h2 h3 h4 h5 h6 h9
          have kz := hid (kc.out.frmB Kk.undrew (Nat.le_succ _))
          have hbx := hid p7
          have hby := hid p8
          clear p7 p8 Kk
          go_wp2_with fail
          refine bodyPost_ret (v := .tuple #[Dg (RX), Dg (RY), .bool q.2.2]) ?_ rfl ?_
          · exact results_dg2_tmp rfl _ _ (w.heap.size + 1) (w.heap.size + 1 + 1) (RX) (RY) _ rfl rfl rfl hbx.out hR1.out hby.out hR2.out
          · exact ⟨hq.out, kz.out⟩
set_option maxRecDepth 100000 in
set_option maxHeartbeats 4000000 in
theorem two_any (H : List UInt8) (ds : List (List UInt8)) : ∀ (m n : Nat) (known : Bool) (v : Value) (w : World), H.length = 32 → 1 ≤ m → m ≤ n → n ≤ 63 → ds.length ≤ 1000 → RdD w v ds → TabR w → Calls Tryd.prog 71 #[Dg H, .int .i64 (m : Int), .int .i64 (n : Int), v, .bool known] w fun ed w' => RbP (rebuildR H m n known ds.reverse) ed ∧ Kept no w w' := by
  induction hm : ds.length using Nat.strongRecOn generalizing ds with
  | ind m0 ih =>
  intro m n known v w hHl h1m hmn h63 hd hr hT
  obtain ⟨ao, cap, rfl⟩ := Rd.shapeZ hr.2
  replace hHl := hid hHl
  replace hT := hid hT
  have hz : Hd (Z32l.length = 32) := ⟨rfl⟩
  obtain ⟨L, hH⟩ : ∃ L, H.map B = L := ⟨_, rfl⟩
  replace hH := hid hH
  have hDg : Dg H = .agg L.toArray := by rw [← hH.out]; rfl
  rw [hm] at hr ⊢
  have emp : ∀ x, Hd (ds.reverse.isEmpty = x ↔ (m0 = 0 ↔ x = true)) := fun x => ⟨by cases ds with
    | nil => cases x <;> simp at hm <;> simp [← hm]
    | cons y ys => cases x <;> simp at hm <;> simp [← hm]⟩
  by_cases h1 : m = n
  · subst h1
    cases known with
    | true =>
      have hv := hid (rb_known H m ds.reverse)
      by_cases h0 : m0 = 0
      · subst h0
        have hq : Hd (RbP (rebuildR H m m true ds.reverse) (.returned (.tuple #[Dg H, Dg H, .bool true]))) := ⟨by
          rw [hv.out, (emp true).out.2 (by simp)]; exact ⟨H, H, rfl, hHl.out, hHl.out, fun _ => ⟨rfl, rfl⟩⟩⟩
        clear ih hr hm hd hv emp
        rw [hDg]
        clear hDg
        go_enter Tryd.func71, Tryd.ntmps71
        go_upto_region 1 with fail
        obtain ⟨w1, hw1, g0, gX0, gY0, kc⟩ := three_dg w H
        rw [hH.out] at hw1
        unfold Z32 at hw1
        rw [← hw1]
        clear hw1
        replace g0 := hid g0
        replace gX0 := hid gX0
        replace gY0 := hid gY0
        replace kc := hid kc
        have lt_w1 : Hd (w.heap.size + 1 + 1 < w1.heap.size) := ⟨lt_of_heap gY0.out⟩
        go_upto_region 3 with fail
        refine region_flow (S := (frm (w.heap.size + 1))) (Sl := (fun j k => if j = 5 then k = w.heap.size + 1 else k = w.heap.size + 1 + 1)) [Is (Dg H), Is (Dg H), Is (.slice ao 0 cap), Is (.int .i64 0), Is (.bool true), BlkS (Sl := (fun j k => if j = 5 then k = w.heap.size + 1 else k = w.heap.size + 1 + 1)) (w.heap.size + 1) ((H).map B).toArray 26 (fun j => j == 6) (fun j hj => by obtain rfl : j = 6 := (by simpa using hj); show ¬ (if 6 = 5 then w.heap.size + 1 = w.heap.size + 1 else w.heap.size + 1 = w.heap.size + 1 + 1); rw [if_neg (by decide)]; omega), BlkS (Sl := (fun j k => if j = 5 then k = w.heap.size + 1 else k = w.heap.size + 1 + 1)) (w.heap.size + 1 + 1) ((H).map B).toArray 26 (fun j => j == 5) (fun j hj => by obtain rfl : j = 5 := (by simpa using hj); show ¬ (if 5 = 5 then w.heap.size + 1 + 1 = w.heap.size + 1 else w.heap.size + 1 + 1 = w.heap.size + 1 + 1); rw [if_pos rfl]; omega), Is (.bool true)] [5, 6] (fun j k h => by unfold frm; split at h <;> omega) _ (by kernel_rfl) (by kernel_rfl) (by kernel_rfl) (by kernel_rfl) (fun x => by simp only [puts, Act.put, List.map_cons, List.map_nil, Nat.zero_add, Nat.reduceAdd, List.setIfInBounds_toArray, List.set_cons_zero, List.set_cons_succ]; exact rfl) ?_ ?_
        · skip
          refine Steps.cons (fun x wf Kk hq hdep hold => ?_) ?_
          · try dsimp only
            have Kq := hq (fun k => k = w.heap.size + 1 ∨ k = w.heap.size + 1 + 1) (fun j hj k hk => by obtain ⟨h1, h2⟩ := List.mem_filter.1 hj; rcases (show j = 5 ∨ j = 6 by simpa using h1) with rfl | rfl; ((have hk' : (if 5 = 5 then k = w.heap.size + 1 else k = w.heap.size + 1 + 1) := hk); rw [if_pos rfl] at hk'; exact Or.inl hk'); ((have hk' : (if 6 = 5 then k = w.heap.size + 1 else k = w.heap.size + 1 + 1) := hk); rw [if_neg (by decide)] at hk'; exact Or.inr hk'))
            clear hq hdep hold
            rw [if_pos (by rfl)]
            have gl := (Kq.undrew.block (w.heap.size) (lt_of_heap g0.out) (by show ¬ (w.heap.size = w.heap.size + 1 ∨ w.heap.size = w.heap.size + 1 + 1); first | omega | (have := nx.out; omega) | (have := nxa.out; omega))).trans g0.out
            exact yld (.tmp 5) rfl (w.heap.size) rfl (H) gl hHl.out ⟨Kept.refl _ _, rfl⟩
          refine Steps.cons (fun x wf Kk hq hdep hold => ?_) ?_
          · try dsimp only
            have Kq := hq (fun k => k = w.heap.size + 1 ∨ k = w.heap.size + 1 + 1) (fun j hj k hk => by obtain ⟨h1, h2⟩ := List.mem_filter.1 hj; rcases (show j = 5 ∨ j = 6 by simpa using h1) with rfl | rfl; ((have hk' : (if 5 = 5 then k = w.heap.size + 1 else k = w.heap.size + 1 + 1) := hk); rw [if_pos rfl] at hk'; exact Or.inl hk'); ((have hk' : (if 6 = 5 then k = w.heap.size + 1 else k = w.heap.size + 1 + 1) := hk); rw [if_neg (by decide)] at hk'; exact Or.inr hk'))
            clear hq hdep hold
            rw [if_pos (by rfl)]
            have gl := (Kq.undrew.block (w.heap.size) (lt_of_heap g0.out) (by show ¬ (w.heap.size = w.heap.size + 1 ∨ w.heap.size = w.heap.size + 1 + 1); first | omega | (have := nx.out; omega) | (have := nxa.out; omega))).trans g0.out
            exact yld (.tmp 5) rfl (w.heap.size) rfl (H) gl hHl.out ⟨Kept.refl _ _, rfl⟩
          refine Steps.cons (fun x wf Kk hq hdep hold => ?_) ?_
          · try dsimp only
            clear hq hdep hold
            rw [if_pos (by rfl)]
            refine OpY.val (v := (.slice ao 0 cap)) ?_ ⟨Kept.refl _ _, rfl⟩
            first | rfl | go_simp
          refine Steps.cons (fun x wf Kk hq hdep hold => ?_) ?_
          · try dsimp only
            have h2 : x 2 = (.slice ao 0 cap) := hdep 2 (by kernel_rfl)
            clear hq hdep hold
            simp only [h2]
            clear h2
            rw [if_pos (by rfl)]
            refine OpY.val (v := (.int .i64 0)) ?_ ⟨Kept.refl _ _, rfl⟩
            first | rfl | go_simp
          refine Steps.cons (fun x wf Kk hq hdep hold => ?_) ?_
          · try dsimp only
            have h3 : x 3 = (.int .i64 0) := hdep 3 (by kernel_rfl)
            clear hq hdep hold
            simp only [h3]
            clear h3
            rw [if_pos (by rfl)]
            refine OpY.val (v := (.bool true)) ?_ ⟨Kept.refl _ _, rfl⟩
            first | rfl | go_simp
          refine Steps.cons (fun x wf Kk hq hdep hold => ?_) ?_
          · try dsimp only
            have h0 : x 0 = (Dg H) := hdep 0 (by kernel_rfl)
            have Kq := hq (fun k => k = w.heap.size + 1 + 1) (fun j hj k hk => by obtain ⟨h1, h2⟩ := List.mem_filter.1 hj; rcases (show j = 5 ∨ j = 6 by simpa using h1) with rfl | rfl; (exact Bool.noConfusion (h2.symm.trans (by kernel_rfl : _ = false))); ((have hk' : (if 6 = 5 then k = w.heap.size + 1 else k = w.heap.size + 1 + 1) := hk); rw [if_neg (by decide)] at hk'; exact hk'))
            clear hq hdep hold
            simp only [h0]
            clear h0
            rw [if_pos (by rfl)]
            have gz := (Kq.undrew.block (w.heap.size + 1) (lt_of_heap gX0.out) (by show ¬ w.heap.size + 1 = w.heap.size + 1 + 1; omega)).trans gX0.out
            refine ysd (.tmp 10) (.tmp 26) rfl (w.heap.size + 1) rfl (H) rfl _ gz (Dg_cells hz.out) hHl.out ⟨?_, setRow_heap _ _ _ _ _ _ gz⟩
            exact (Kept.refl _ _).setRow (S := fun k => k = w.heap.size + 1) (.inl rfl) _
          refine Steps.cons (fun x wf Kk hq hdep hold => ?_) ?_
          · try dsimp only
            have h1 : x 1 = (Dg H) := hdep 1 (by kernel_rfl)
            have Kq := hq (fun k => k = w.heap.size + 1) (fun j hj k hk => by obtain ⟨h1, h2⟩ := List.mem_filter.1 hj; rcases (show j = 5 ∨ j = 6 by simpa using h1) with rfl | rfl; ((have hk' : (if 5 = 5 then k = w.heap.size + 1 else k = w.heap.size + 1 + 1) := hk); rw [if_pos rfl] at hk'; exact hk'); (exact Bool.noConfusion (h2.symm.trans (by kernel_rfl : _ = false))))
            clear hq hdep hold
            simp only [h1]
            clear h1
            rw [if_pos (by rfl)]
            have gz := (Kq.undrew.block (w.heap.size + 1 + 1) (lt_of_heap gY0.out) (by show ¬ w.heap.size + 1 + 1 = w.heap.size + 1; omega)).trans gY0.out
            refine ysd (.tmp 11) (.tmp 27) rfl (w.heap.size + 1 + 1) rfl (H) rfl _ gz (Dg_cells hz.out) hHl.out ⟨?_, setRow_heap _ _ _ _ _ _ gz⟩
            exact (Kept.refl _ _).setRow (S := fun k => k = w.heap.size + 1 + 1) (.inl rfl) _
          refine Steps.cons (fun x wf Kk hq hdep hold => ?_) ?_
          · try dsimp only
            have h4 : x 4 = (.bool true) := hdep 4 (by kernel_rfl)
            clear hq hdep hold
            simp only [h4]
            clear h4
            rw [if_pos (by rfl)]
            refine OpY.val (v := (.bool true)) ?_ ⟨Kept.refl _ _, rfl⟩
            first | rfl | go_simp
          exact Steps.nil _
        · intro x wf Kk hv
          try dsimp only
          have h0 : x 0 = (Dg H) := hv 0 (by kernel_rfl)
          have h1 : x 1 = (Dg H) := hv 1 (by kernel_rfl)
          have h2 : x 2 = (.slice ao 0 cap) := hv 2 (by kernel_rfl)
          have h3 : x 3 = (.int .i64 0) := hv 3 (by kernel_rfl)
          have h4 : x 4 = (.bool true) := hv 4 (by kernel_rfl)
          have p5 : Pr.p (Sl := (fun j k => if j = 5 then k = w.heap.size + 1 else k = w.heap.size + 1 + 1)) (BlkS (Sl := (fun j k => if j = 5 then k = w.heap.size + 1 else k = w.heap.size + 1 + 1)) (w.heap.size + 1) ((H).map B).toArray 26 (fun j => j == 6) (fun j hj => by obtain rfl : j = 6 := (by simpa using hj); show ¬ (if 6 = 5 then w.heap.size + 1 = w.heap.size + 1 else w.heap.size + 1 = w.heap.size + 1 + 1); rw [if_neg (by decide)]; omega)) (x 5) wf := hv 5 (by kernel_rfl)
          have p6 : Pr.p (Sl := (fun j k => if j = 5 then k = w.heap.size + 1 else k = w.heap.size + 1 + 1)) (BlkS (Sl := (fun j k => if j = 5 then k = w.heap.size + 1 else k = w.heap.size + 1 + 1)) (w.heap.size + 1 + 1) ((H).map B).toArray 26 (fun j => j == 5) (fun j hj => by obtain rfl : j = 5 := (by simpa using hj); show ¬ (if 5 = 5 then w.heap.size + 1 + 1 = w.heap.size + 1 else w.heap.size + 1 + 1 = w.heap.size + 1 + 1); rw [if_pos rfl]; omega)) (x 6) wf := hv 6 (by kernel_rfl)
          have h7 : x 7 = (.bool true) := hv 7 (by kernel_rfl)
          clear hv
          simp only [h0, h1, h2, h3, h4, h7]
          clear h0 h1 h2 h3 h4 h7
          have kz := hid (kc.out.frmB Kk.undrew (Nat.le_succ _))
          have hbx := hid p5
          have hby := hid p6
          clear p5 p6 Kk
          go_wp2_with fail
          refine bodyPost_ret (v := .tuple #[Dg (H), Dg (H), .bool true]) ?_ rfl ?_
          · exact results_dg2_tmp rfl _ _ (w.heap.size + 1) (w.heap.size + 1 + 1) (H) (H) _ rfl rfl rfl hbx.out hHl.out hby.out hHl.out
          · exact ⟨hq.out, kz.out⟩
      · have z0 : ¬ ((m0 : Nat) : Int) = 0 := by omega
        have y0 : (((m0 : Nat) : Int) == 0) = false := by simpa using z0
        have hq : Hd (RbP (rebuildR H m m true ds.reverse) (.returned (.tuple #[Dg H, Dg H, .bool false]))) := ⟨by
          rw [hv.out, (emp false).out.2 (by simp [h0])]; exact ⟨H, H, rfl, hHl.out, hHl.out, fun h => by cases h⟩⟩
        clear ih hr hm hd hv emp
        rw [hDg]
        clear hDg
        go_enter Tryd.func71, Tryd.ntmps71
        go_upto_region 1 with fail
        obtain ⟨w1, hw1, g0, gX0, gY0, kc⟩ := three_dg w H
        rw [hH.out] at hw1
        unfold Z32 at hw1
        rw [← hw1]
        clear hw1
        replace g0 := hid g0
        replace gX0 := hid gX0
        replace gY0 := hid gY0
        replace kc := hid kc
        have lt_w1 : Hd (w.heap.size + 1 + 1 < w1.heap.size) := ⟨lt_of_heap gY0.out⟩
        go_upto_region 3 with fail
        refine region_flow (S := (frm (w.heap.size + 1))) (Sl := (fun j k => if j = 5 then k = w.heap.size + 1 else k = w.heap.size + 1 + 1)) [Is (Dg H), Is (Dg H), Is (.slice ao m0 cap), Is (.int .i64 (m0 : Int)), Is (.bool false), BlkS (Sl := (fun j k => if j = 5 then k = w.heap.size + 1 else k = w.heap.size + 1 + 1)) (w.heap.size + 1) ((H).map B).toArray 26 (fun j => j == 6) (fun j hj => by obtain rfl : j = 6 := (by simpa using hj); show ¬ (if 6 = 5 then w.heap.size + 1 = w.heap.size + 1 else w.heap.size + 1 = w.heap.size + 1 + 1); rw [if_neg (by decide)]; omega), BlkS (Sl := (fun j k => if j = 5 then k = w.heap.size + 1 else k = w.heap.size + 1 + 1)) (w.heap.size + 1 + 1) ((H).map B).toArray 26 (fun j => j == 5) (fun j hj => by obtain rfl : j = 5 := (by simpa using hj); show ¬ (if 5 = 5 then w.heap.size + 1 + 1 = w.heap.size + 1 else w.heap.size + 1 + 1 = w.heap.size + 1 + 1); rw [if_pos rfl]; omega), Is (.bool false)] [5, 6] (fun j k h => by unfold frm; split at h <;> omega) _ (by kernel_rfl) (by kernel_rfl) (by kernel_rfl) (by kernel_rfl) (fun x => by simp only [puts, Act.put, List.map_cons, List.map_nil, Nat.zero_add, Nat.reduceAdd, List.setIfInBounds_toArray, List.set_cons_zero, List.set_cons_succ]; exact rfl) ?_ ?_
        · skip
          refine Steps.cons (fun x wf Kk hq hdep hold => ?_) ?_
          · try dsimp only
            have Kq := hq (fun k => k = w.heap.size + 1 ∨ k = w.heap.size + 1 + 1) (fun j hj k hk => by obtain ⟨h1, h2⟩ := List.mem_filter.1 hj; rcases (show j = 5 ∨ j = 6 by simpa using h1) with rfl | rfl; ((have hk' : (if 5 = 5 then k = w.heap.size + 1 else k = w.heap.size + 1 + 1) := hk); rw [if_pos rfl] at hk'; exact Or.inl hk'); ((have hk' : (if 6 = 5 then k = w.heap.size + 1 else k = w.heap.size + 1 + 1) := hk); rw [if_neg (by decide)] at hk'; exact Or.inr hk'))
            clear hq hdep hold
            rw [if_pos (by rfl)]
            have gl := (Kq.undrew.block (w.heap.size) (lt_of_heap g0.out) (by show ¬ (w.heap.size = w.heap.size + 1 ∨ w.heap.size = w.heap.size + 1 + 1); first | omega | (have := nx.out; omega) | (have := nxa.out; omega))).trans g0.out
            exact yld (.tmp 5) rfl (w.heap.size) rfl (H) gl hHl.out ⟨Kept.refl _ _, rfl⟩
          refine Steps.cons (fun x wf Kk hq hdep hold => ?_) ?_
          · try dsimp only
            have Kq := hq (fun k => k = w.heap.size + 1 ∨ k = w.heap.size + 1 + 1) (fun j hj k hk => by obtain ⟨h1, h2⟩ := List.mem_filter.1 hj; rcases (show j = 5 ∨ j = 6 by simpa using h1) with rfl | rfl; ((have hk' : (if 5 = 5 then k = w.heap.size + 1 else k = w.heap.size + 1 + 1) := hk); rw [if_pos rfl] at hk'; exact Or.inl hk'); ((have hk' : (if 6 = 5 then k = w.heap.size + 1 else k = w.heap.size + 1 + 1) := hk); rw [if_neg (by decide)] at hk'; exact Or.inr hk'))
            clear hq hdep hold
            rw [if_pos (by rfl)]
            have gl := (Kq.undrew.block (w.heap.size) (lt_of_heap g0.out) (by show ¬ (w.heap.size = w.heap.size + 1 ∨ w.heap.size = w.heap.size + 1 + 1); first | omega | (have := nx.out; omega) | (have := nxa.out; omega))).trans g0.out
            exact yld (.tmp 5) rfl (w.heap.size) rfl (H) gl hHl.out ⟨Kept.refl _ _, rfl⟩
          refine Steps.cons (fun x wf Kk hq hdep hold => ?_) ?_
          · try dsimp only
            clear hq hdep hold
            rw [if_pos (by rfl)]
            refine OpY.val (v := (.slice ao m0 cap)) ?_ ⟨Kept.refl _ _, rfl⟩
            first | rfl | go_simp
          refine Steps.cons (fun x wf Kk hq hdep hold => ?_) ?_
          · try dsimp only
            have h2 : x 2 = (.slice ao m0 cap) := hdep 2 (by kernel_rfl)
            clear hq hdep hold
            simp only [h2]
            clear h2
            rw [if_pos (by rfl)]
            refine OpY.val (v := (.int .i64 (m0 : Int))) ?_ ⟨Kept.refl _ _, rfl⟩
            first | rfl | go_simp
          refine Steps.cons (fun x wf Kk hq hdep hold => ?_) ?_
          · try dsimp only
            have h3 : x 3 = (.int .i64 (m0 : Int)) := hdep 3 (by kernel_rfl)
            clear hq hdep hold
            simp only [h3]
            clear h3
            rw [if_pos (by rfl)]
            refine OpY.val (v := (.bool false)) ?_ ⟨Kept.refl _ _, rfl⟩
            first | rfl | go_simp
          refine Steps.cons (fun x wf Kk hq hdep hold => ?_) ?_
          · try dsimp only
            have h0 : x 0 = (Dg H) := hdep 0 (by kernel_rfl)
            have Kq := hq (fun k => k = w.heap.size + 1 + 1) (fun j hj k hk => by obtain ⟨h1, h2⟩ := List.mem_filter.1 hj; rcases (show j = 5 ∨ j = 6 by simpa using h1) with rfl | rfl; (exact Bool.noConfusion (h2.symm.trans (by kernel_rfl : _ = false))); ((have hk' : (if 6 = 5 then k = w.heap.size + 1 else k = w.heap.size + 1 + 1) := hk); rw [if_neg (by decide)] at hk'; exact hk'))
            clear hq hdep hold
            simp only [h0]
            clear h0
            rw [if_pos (by rfl)]
            have gz := (Kq.undrew.block (w.heap.size + 1) (lt_of_heap gX0.out) (by show ¬ w.heap.size + 1 = w.heap.size + 1 + 1; omega)).trans gX0.out
            refine ysd (.tmp 10) (.tmp 26) rfl (w.heap.size + 1) rfl (H) rfl _ gz (Dg_cells hz.out) hHl.out ⟨?_, setRow_heap _ _ _ _ _ _ gz⟩
            exact (Kept.refl _ _).setRow (S := fun k => k = w.heap.size + 1) (.inl rfl) _
          refine Steps.cons (fun x wf Kk hq hdep hold => ?_) ?_
          · try dsimp only
            have h1 : x 1 = (Dg H) := hdep 1 (by kernel_rfl)
            have Kq := hq (fun k => k = w.heap.size + 1) (fun j hj k hk => by obtain ⟨h1, h2⟩ := List.mem_filter.1 hj; rcases (show j = 5 ∨ j = 6 by simpa using h1) with rfl | rfl; ((have hk' : (if 5 = 5 then k = w.heap.size + 1 else k = w.heap.size + 1 + 1) := hk); rw [if_pos rfl] at hk'; exact hk'); (exact Bool.noConfusion (h2.symm.trans (by kernel_rfl : _ = false))))
            clear hq hdep hold
            simp only [h1]
            clear h1
            rw [if_pos (by rfl)]
            have gz := (Kq.undrew.block (w.heap.size + 1 + 1) (lt_of_heap gY0.out) (by show ¬ w.heap.size + 1 + 1 = w.heap.size + 1; omega)).trans gY0.out
            refine ysd (.tmp 11) (.tmp 27) rfl (w.heap.size + 1 + 1) rfl (H) rfl _ gz (Dg_cells hz.out) hHl.out ⟨?_, setRow_heap _ _ _ _ _ _ gz⟩
            exact (Kept.refl _ _).setRow (S := fun k => k = w.heap.size + 1 + 1) (.inl rfl) _
          refine Steps.cons (fun x wf Kk hq hdep hold => ?_) ?_
          · try dsimp only
            have h4 : x 4 = (.bool false) := hdep 4 (by kernel_rfl)
            clear hq hdep hold
            simp only [h4]
            clear h4
            rw [if_pos (by rfl)]
            refine OpY.val (v := (.bool false)) ?_ ⟨Kept.refl _ _, rfl⟩
            first | rfl | go_simp
          exact Steps.nil _
        · intro x wf Kk hv
          try dsimp only
          have h0 : x 0 = (Dg H) := hv 0 (by kernel_rfl)
          have h1 : x 1 = (Dg H) := hv 1 (by kernel_rfl)
          have h2 : x 2 = (.slice ao m0 cap) := hv 2 (by kernel_rfl)
          have h3 : x 3 = (.int .i64 (m0 : Int)) := hv 3 (by kernel_rfl)
          have h4 : x 4 = (.bool false) := hv 4 (by kernel_rfl)
          have p5 : Pr.p (Sl := (fun j k => if j = 5 then k = w.heap.size + 1 else k = w.heap.size + 1 + 1)) (BlkS (Sl := (fun j k => if j = 5 then k = w.heap.size + 1 else k = w.heap.size + 1 + 1)) (w.heap.size + 1) ((H).map B).toArray 26 (fun j => j == 6) (fun j hj => by obtain rfl : j = 6 := (by simpa using hj); show ¬ (if 6 = 5 then w.heap.size + 1 = w.heap.size + 1 else w.heap.size + 1 = w.heap.size + 1 + 1); rw [if_neg (by decide)]; omega)) (x 5) wf := hv 5 (by kernel_rfl)
          have p6 : Pr.p (Sl := (fun j k => if j = 5 then k = w.heap.size + 1 else k = w.heap.size + 1 + 1)) (BlkS (Sl := (fun j k => if j = 5 then k = w.heap.size + 1 else k = w.heap.size + 1 + 1)) (w.heap.size + 1 + 1) ((H).map B).toArray 26 (fun j => j == 5) (fun j hj => by obtain rfl : j = 5 := (by simpa using hj); show ¬ (if 5 = 5 then w.heap.size + 1 + 1 = w.heap.size + 1 else w.heap.size + 1 + 1 = w.heap.size + 1 + 1); rw [if_pos rfl]; omega)) (x 6) wf := hv 6 (by kernel_rfl)
          have h7 : x 7 = (.bool false) := hv 7 (by kernel_rfl)
          clear hv
          simp only [h0, h1, h2, h3, h4, h7]
          clear h0 h1 h2 h3 h4 h7
          have kz := hid (kc.out.frmB Kk.undrew (Nat.le_succ _))
          have hbx := hid p5
          have hby := hid p6
          clear p5 p6 Kk
          go_wp2_with fail
          refine bodyPost_ret (v := .tuple #[Dg (H), Dg (H), .bool false]) ?_ rfl ?_
          · exact results_dg2_tmp rfl _ _ (w.heap.size + 1) (w.heap.size + 1 + 1) (H) (H) _ rfl rfl rfl hbx.out hHl.out hby.out hHl.out
          · exact ⟨hq.out, kz.out⟩
    | false =>
      by_cases h0 : m0 = 1
      · subst h0
        obtain ⟨PP, rfl⟩ := List.length_eq_one_iff.1 hm
        obtain ⟨b, o, rfl, hrP⟩ := hr.at 0 (by simp)
        have hP := hid (hr.1 PP (by simp))
        have hq : Hd (RbP (rebuildR H m m false [PP].reverse) (.returned (.tuple #[Dg PP, Dg PP, .bool true]))) := ⟨by
          rw [List.reverse_singleton, rb_open]; exact ⟨PP, PP, rfl, hP.out, hP.out, fun _ => ⟨rfl, rfl⟩⟩⟩
        have hrP' : Hd (w.rangeAt b o (PP.map B)) := ⟨by simpa using hrP⟩
        clear ih hr hm hd emp hrP
        rw [hDg]
        clear hDg
        go_enter Tryd.func71, Tryd.ntmps71
        go_upto_region 1 with fail
        obtain ⟨w1, hw1, g0, gX0, gY0, kc⟩ := three_dg w H
        rw [hH.out] at hw1
        unfold Z32 at hw1
        rw [← hw1]
        clear hw1
        replace g0 := hid g0
        replace gX0 := hid gX0
        replace gY0 := hid gY0
        replace kc := hid kc
        have lt_w1 : Hd (w.heap.size + 1 + 1 < w1.heap.size) := ⟨lt_of_heap gY0.out⟩
        have hrw := hrP'
        go_upto_region 6 with fail
        refine region_flow (S := (frm (w.heap.size + 1))) (Sl := (fun j k => if j = 6 then k = w.heap.size + 1 else k = w.heap.size + 1 + 1)) [Is (.slice (some ⟨b, o, none⟩) 1 cap), Is (.pointer (some ⟨b, o, none⟩)), Is (Dg PP), Is (.slice (some ⟨b, o, none⟩) 1 cap), Is (.pointer (some ⟨b, o, none⟩)), Is (Dg PP), BlkS (Sl := (fun j k => if j = 6 then k = w.heap.size + 1 else k = w.heap.size + 1 + 1)) (w.heap.size + 1) ((PP).map B).toArray 26 (fun j => j == 7) (fun j hj => by obtain rfl : j = 7 := (by simpa using hj); show ¬ (if 7 = 6 then w.heap.size + 1 = w.heap.size + 1 else w.heap.size + 1 = w.heap.size + 1 + 1); rw [if_neg (by decide)]; omega), BlkS (Sl := (fun j k => if j = 6 then k = w.heap.size + 1 else k = w.heap.size + 1 + 1)) (w.heap.size + 1 + 1) ((PP).map B).toArray 26 (fun j => j == 6) (fun j hj => by obtain rfl : j = 6 := (by simpa using hj); show ¬ (if 6 = 6 then w.heap.size + 1 + 1 = w.heap.size + 1 else w.heap.size + 1 + 1 = w.heap.size + 1 + 1); rw [if_pos rfl]; omega), Is (.bool true)] [6, 7] (fun j k h => by unfold frm; split at h <;> omega) _ (by kernel_rfl) (by kernel_rfl) (by kernel_rfl) (by kernel_rfl) (fun x => by simp only [puts, Act.put, List.map_cons, List.map_nil, Nat.zero_add, Nat.reduceAdd, List.setIfInBounds_toArray, List.set_cons_zero, List.set_cons_succ]; exact rfl) ?_ ?_
        · skip
          refine Steps.cons (fun x wf Kk hq hdep hold => ?_) ?_
          · try dsimp only
            clear hq hdep hold
            rw [if_pos (by rfl)]
            refine OpY.val (v := (.slice (some ⟨b, o, none⟩) 1 cap)) ?_ ⟨Kept.refl _ _, rfl⟩
            first | rfl | go_simp
          refine Steps.cons (fun x wf Kk hq hdep hold => ?_) ?_
          · try dsimp only
            have h0 : x 0 = (.slice (some ⟨b, o, none⟩) 1 cap) := hdep 0 (by kernel_rfl)
            clear hq hdep hold
            simp only [h0]
            clear h0
            rw [if_pos (by rfl)]
            refine OpY.val (v := (.pointer (some ⟨b, o, none⟩))) ?_ ⟨Kept.refl _ _, rfl⟩
            first | rfl | go_simp
          refine Steps.cons (fun x wf Kk hq hdep hold => ?_) ?_
          · try dsimp only
            have h1 : x 1 = (.pointer (some ⟨b, o, none⟩)) := hdep 1 (by kernel_rfl)
            clear hq hdep hold
            simp only [h1]
            clear h1
            rw [if_pos (by rfl)]
            exact OpY.row 26 (.tmp 37) rfl b (o) rfl (PP.map B) _ ((kc.out.frmB Kk.undrew (Nat.le_succ _)).rng hrw.out) Tryd.underlying26 rfl (infDl hP.out) ⟨Kept.refl _ _, rfl⟩
          refine Steps.cons (fun x wf Kk hq hdep hold => ?_) ?_
          · try dsimp only
            clear hq hdep hold
            rw [if_pos (by rfl)]
            refine OpY.val (v := (.slice (some ⟨b, o, none⟩) 1 cap)) ?_ ⟨Kept.refl _ _, rfl⟩
            first | rfl | go_simp
          refine Steps.cons (fun x wf Kk hq hdep hold => ?_) ?_
          · try dsimp only
            have h3 : x 3 = (.slice (some ⟨b, o, none⟩) 1 cap) := hdep 3 (by kernel_rfl)
            clear hq hdep hold
            simp only [h3]
            clear h3
            rw [if_pos (by rfl)]
            refine OpY.val (v := (.pointer (some ⟨b, o, none⟩))) ?_ ⟨Kept.refl _ _, rfl⟩
            first | rfl | go_simp
          refine Steps.cons (fun x wf Kk hq hdep hold => ?_) ?_
          · try dsimp only
            have h4 : x 4 = (.pointer (some ⟨b, o, none⟩)) := hdep 4 (by kernel_rfl)
            clear hq hdep hold
            simp only [h4]
            clear h4
            rw [if_pos (by rfl)]
            exact OpY.row 26 (.tmp 40) rfl b (o) rfl (PP.map B) _ ((kc.out.frmB Kk.undrew (Nat.le_succ _)).rng hrw.out) Tryd.underlying26 rfl (infDl hP.out) ⟨Kept.refl _ _, rfl⟩
          refine Steps.cons (fun x wf Kk hq hdep hold => ?_) ?_
          · try dsimp only
            have h2 : x 2 = (Dg PP) := hdep 2 (by kernel_rfl)
            have Kq := hq (fun k => k = w.heap.size + 1 + 1) (fun j hj k hk => by obtain ⟨h1, h2⟩ := List.mem_filter.1 hj; rcases (show j = 6 ∨ j = 7 by simpa using h1) with rfl | rfl; (exact Bool.noConfusion (h2.symm.trans (by kernel_rfl : _ = false))); ((have hk' : (if 7 = 6 then k = w.heap.size + 1 else k = w.heap.size + 1 + 1) := hk); rw [if_neg (by decide)] at hk'; exact hk'))
            clear hq hdep hold
            simp only [h2]
            clear h2
            rw [if_pos (by rfl)]
            have gz := (Kq.undrew.block (w.heap.size + 1) (lt_of_heap gX0.out) (by show ¬ w.heap.size + 1 = w.heap.size + 1 + 1; omega)).trans gX0.out
            refine ysd (.tmp 10) (.tmp 38) rfl (w.heap.size + 1) rfl (PP) rfl _ gz (Dg_cells hz.out) hP.out ⟨?_, setRow_heap _ _ _ _ _ _ gz⟩
            exact (Kept.refl _ _).setRow (S := fun k => k = w.heap.size + 1) (.inl rfl) _
          refine Steps.cons (fun x wf Kk hq hdep hold => ?_) ?_
          · try dsimp only
            have h5 : x 5 = (Dg PP) := hdep 5 (by kernel_rfl)
            have Kq := hq (fun k => k = w.heap.size + 1) (fun j hj k hk => by obtain ⟨h1, h2⟩ := List.mem_filter.1 hj; rcases (show j = 6 ∨ j = 7 by simpa using h1) with rfl | rfl; ((have hk' : (if 6 = 6 then k = w.heap.size + 1 else k = w.heap.size + 1 + 1) := hk); rw [if_pos rfl] at hk'; exact hk'); (exact Bool.noConfusion (h2.symm.trans (by kernel_rfl : _ = false))))
            clear hq hdep hold
            simp only [h5]
            clear h5
            rw [if_pos (by rfl)]
            have gz := (Kq.undrew.block (w.heap.size + 1 + 1) (lt_of_heap gY0.out) (by show ¬ w.heap.size + 1 + 1 = w.heap.size + 1; omega)).trans gY0.out
            refine ysd (.tmp 11) (.tmp 41) rfl (w.heap.size + 1 + 1) rfl (PP) rfl _ gz (Dg_cells hz.out) hP.out ⟨?_, setRow_heap _ _ _ _ _ _ gz⟩
            exact (Kept.refl _ _).setRow (S := fun k => k = w.heap.size + 1 + 1) (.inl rfl) _
          refine Steps.cons (fun x wf Kk hq hdep hold => ?_) ?_
          · try dsimp only
            clear hq hdep hold
            rw [if_pos (by rfl)]
            refine OpY.val (v := (.bool true)) ?_ ⟨Kept.refl _ _, rfl⟩
            first | rfl | go_simp
          exact Steps.nil _
        · intro x wf Kk hv
          try dsimp only
          have h0 : x 0 = (.slice (some ⟨b, o, none⟩) 1 cap) := hv 0 (by kernel_rfl)
          have h1 : x 1 = (.pointer (some ⟨b, o, none⟩)) := hv 1 (by kernel_rfl)
          have h2 : x 2 = (Dg PP) := hv 2 (by kernel_rfl)
          have h3 : x 3 = (.slice (some ⟨b, o, none⟩) 1 cap) := hv 3 (by kernel_rfl)
          have h4 : x 4 = (.pointer (some ⟨b, o, none⟩)) := hv 4 (by kernel_rfl)
          have h5 : x 5 = (Dg PP) := hv 5 (by kernel_rfl)
          have p6 : Pr.p (Sl := (fun j k => if j = 6 then k = w.heap.size + 1 else k = w.heap.size + 1 + 1)) (BlkS (Sl := (fun j k => if j = 6 then k = w.heap.size + 1 else k = w.heap.size + 1 + 1)) (w.heap.size + 1) ((PP).map B).toArray 26 (fun j => j == 7) (fun j hj => by obtain rfl : j = 7 := (by simpa using hj); show ¬ (if 7 = 6 then w.heap.size + 1 = w.heap.size + 1 else w.heap.size + 1 = w.heap.size + 1 + 1); rw [if_neg (by decide)]; omega)) (x 6) wf := hv 6 (by kernel_rfl)
          have p7 : Pr.p (Sl := (fun j k => if j = 6 then k = w.heap.size + 1 else k = w.heap.size + 1 + 1)) (BlkS (Sl := (fun j k => if j = 6 then k = w.heap.size + 1 else k = w.heap.size + 1 + 1)) (w.heap.size + 1 + 1) ((PP).map B).toArray 26 (fun j => j == 6) (fun j hj => by obtain rfl : j = 6 := (by simpa using hj); show ¬ (if 6 = 6 then w.heap.size + 1 + 1 = w.heap.size + 1 else w.heap.size + 1 + 1 = w.heap.size + 1 + 1); rw [if_pos rfl]; omega)) (x 7) wf := hv 7 (by kernel_rfl)
          have h8 : x 8 = (.bool true) := hv 8 (by kernel_rfl)
          clear hv
          simp only [h0, h1, h2, h3, h4, h5, h8]
          clear h0 h1 h2 h3 h4 h5 h8
          have kz := hid (kc.out.frmB Kk.undrew (Nat.le_succ _))
          have hbx := hid p6
          have hby := hid p7
          clear p6 p7 Kk
          go_wp2_with fail
          refine bodyPost_ret (v := .tuple #[Dg (PP), Dg (PP), .bool true]) ?_ rfl ?_
          · exact results_dg2_tmp rfl _ _ (w.heap.size + 1) (w.heap.size + 1 + 1) (PP) (PP) _ rfl rfl rfl hbx.out hP.out hby.out hP.out
          · exact ⟨hq.out, kz.out⟩
      · have z1 : ¬ ((m0 : Nat) : Int) = 1 := by omega
        have y1 : (((m0 : Nat) : Int) != 1) = true := by simpa using z1
        have hq : Hd (RbP (rebuildR H m m false ds.reverse) (.returned (.tuple #[Dg H, Dg H, .bool false]))) := ⟨by
          have hl : ds.reverse.length = m0 := by simp [hm]
          cases hrv : ds.reverse with
          | nil => rw [rb_nil H m m false (.inr rfl)]; exact ⟨H, H, rfl, hHl.out, hHl.out, fun h => by cases h⟩
          | cons p q =>
            rw [rb_open]
            have : q.isEmpty = false := by
              rw [hrv] at hl; cases q with
              | nil => simp at hl; omega
              | cons _ _ => rfl
            rw [this]; exact ⟨H, H, rfl, hHl.out, hHl.out, fun h => by cases h⟩⟩
        clear ih hr hm hd emp
        rw [hDg]
        clear hDg
        go_enter Tryd.func71, Tryd.ntmps71
        go_upto_region 1 with fail
        obtain ⟨w1, hw1, g0, gX0, gY0, kc⟩ := three_dg w H
        rw [hH.out] at hw1
        unfold Z32 at hw1
        rw [← hw1]
        clear hw1
        replace g0 := hid g0
        replace gX0 := hid gX0
        replace gY0 := hid gY0
        replace kc := hid kc
        have lt_w1 : Hd (w.heap.size + 1 + 1 < w1.heap.size) := ⟨lt_of_heap gY0.out⟩
        go_upto_region 5 with fail
        refine region_flow (S := (frm (w.heap.size + 1))) (Sl := (fun j k => if j = 2 then k = w.heap.size + 1 else k = w.heap.size + 1 + 1)) [Is (Dg H), Is (Dg H), BlkS (Sl := (fun j k => if j = 2 then k = w.heap.size + 1 else k = w.heap.size + 1 + 1)) (w.heap.size + 1) ((H).map B).toArray 26 (fun j => j == 3) (fun j hj => by obtain rfl : j = 3 := (by simpa using hj); show ¬ (if 3 = 2 then w.heap.size + 1 = w.heap.size + 1 else w.heap.size + 1 = w.heap.size + 1 + 1); rw [if_neg (by decide)]; omega), BlkS (Sl := (fun j k => if j = 2 then k = w.heap.size + 1 else k = w.heap.size + 1 + 1)) (w.heap.size + 1 + 1) ((H).map B).toArray 26 (fun j => j == 2) (fun j hj => by obtain rfl : j = 2 := (by simpa using hj); show ¬ (if 2 = 2 then w.heap.size + 1 + 1 = w.heap.size + 1 else w.heap.size + 1 + 1 = w.heap.size + 1 + 1); rw [if_pos rfl]; omega), Is (.bool false)] [2, 3] (fun j k h => by unfold frm; split at h <;> omega) _ (by kernel_rfl) (by kernel_rfl) (by kernel_rfl) (by kernel_rfl) (fun x => by simp only [puts, Act.put, List.map_cons, List.map_nil, Nat.zero_add, Nat.reduceAdd, List.setIfInBounds_toArray, List.set_cons_zero, List.set_cons_succ]; exact rfl) ?_ ?_
        · skip
          refine Steps.cons (fun x wf Kk hq hdep hold => ?_) ?_
          · try dsimp only
            have Kq := hq (fun k => k = w.heap.size + 1 ∨ k = w.heap.size + 1 + 1) (fun j hj k hk => by obtain ⟨h1, h2⟩ := List.mem_filter.1 hj; rcases (show j = 2 ∨ j = 3 by simpa using h1) with rfl | rfl; ((have hk' : (if 2 = 2 then k = w.heap.size + 1 else k = w.heap.size + 1 + 1) := hk); rw [if_pos rfl] at hk'; exact Or.inl hk'); ((have hk' : (if 3 = 2 then k = w.heap.size + 1 else k = w.heap.size + 1 + 1) := hk); rw [if_neg (by decide)] at hk'; exact Or.inr hk'))
            clear hq hdep hold
            rw [if_pos (by rfl)]
            have gl := (Kq.undrew.block (w.heap.size) (lt_of_heap g0.out) (by show ¬ (w.heap.size = w.heap.size + 1 ∨ w.heap.size = w.heap.size + 1 + 1); first | omega | (have := nx.out; omega) | (have := nxa.out; omega))).trans g0.out
            exact yld (.tmp 5) rfl (w.heap.size) rfl (H) gl hHl.out ⟨Kept.refl _ _, rfl⟩
          refine Steps.cons (fun x wf Kk hq hdep hold => ?_) ?_
          · try dsimp only
            have Kq := hq (fun k => k = w.heap.size + 1 ∨ k = w.heap.size + 1 + 1) (fun j hj k hk => by obtain ⟨h1, h2⟩ := List.mem_filter.1 hj; rcases (show j = 2 ∨ j = 3 by simpa using h1) with rfl | rfl; ((have hk' : (if 2 = 2 then k = w.heap.size + 1 else k = w.heap.size + 1 + 1) := hk); rw [if_pos rfl] at hk'; exact Or.inl hk'); ((have hk' : (if 3 = 2 then k = w.heap.size + 1 else k = w.heap.size + 1 + 1) := hk); rw [if_neg (by decide)] at hk'; exact Or.inr hk'))
            clear hq hdep hold
            rw [if_pos (by rfl)]
            have gl := (Kq.undrew.block (w.heap.size) (lt_of_heap g0.out) (by show ¬ (w.heap.size = w.heap.size + 1 ∨ w.heap.size = w.heap.size + 1 + 1); first | omega | (have := nx.out; omega) | (have := nxa.out; omega))).trans g0.out
            exact yld (.tmp 5) rfl (w.heap.size) rfl (H) gl hHl.out ⟨Kept.refl _ _, rfl⟩
          refine Steps.cons (fun x wf Kk hq hdep hold => ?_) ?_
          · try dsimp only
            have h0 : x 0 = (Dg H) := hdep 0 (by kernel_rfl)
            have Kq := hq (fun k => k = w.heap.size + 1 + 1) (fun j hj k hk => by obtain ⟨h1, h2⟩ := List.mem_filter.1 hj; rcases (show j = 2 ∨ j = 3 by simpa using h1) with rfl | rfl; (exact Bool.noConfusion (h2.symm.trans (by kernel_rfl : _ = false))); ((have hk' : (if 3 = 2 then k = w.heap.size + 1 else k = w.heap.size + 1 + 1) := hk); rw [if_neg (by decide)] at hk'; exact hk'))
            clear hq hdep hold
            simp only [h0]
            clear h0
            rw [if_pos (by rfl)]
            have gz := (Kq.undrew.block (w.heap.size + 1) (lt_of_heap gX0.out) (by show ¬ w.heap.size + 1 = w.heap.size + 1 + 1; omega)).trans gX0.out
            refine ysd (.tmp 10) (.tmp 34) rfl (w.heap.size + 1) rfl (H) rfl _ gz (Dg_cells hz.out) hHl.out ⟨?_, setRow_heap _ _ _ _ _ _ gz⟩
            exact (Kept.refl _ _).setRow (S := fun k => k = w.heap.size + 1) (.inl rfl) _
          refine Steps.cons (fun x wf Kk hq hdep hold => ?_) ?_
          · try dsimp only
            have h1 : x 1 = (Dg H) := hdep 1 (by kernel_rfl)
            have Kq := hq (fun k => k = w.heap.size + 1) (fun j hj k hk => by obtain ⟨h1, h2⟩ := List.mem_filter.1 hj; rcases (show j = 2 ∨ j = 3 by simpa using h1) with rfl | rfl; ((have hk' : (if 2 = 2 then k = w.heap.size + 1 else k = w.heap.size + 1 + 1) := hk); rw [if_pos rfl] at hk'; exact hk'); (exact Bool.noConfusion (h2.symm.trans (by kernel_rfl : _ = false))))
            clear hq hdep hold
            simp only [h1]
            clear h1
            rw [if_pos (by rfl)]
            have gz := (Kq.undrew.block (w.heap.size + 1 + 1) (lt_of_heap gY0.out) (by show ¬ w.heap.size + 1 + 1 = w.heap.size + 1; omega)).trans gY0.out
            refine ysd (.tmp 11) (.tmp 35) rfl (w.heap.size + 1 + 1) rfl (H) rfl _ gz (Dg_cells hz.out) hHl.out ⟨?_, setRow_heap _ _ _ _ _ _ gz⟩
            exact (Kept.refl _ _).setRow (S := fun k => k = w.heap.size + 1 + 1) (.inl rfl) _
          refine Steps.cons (fun x wf Kk hq hdep hold => ?_) ?_
          · try dsimp only
            clear hq hdep hold
            rw [if_pos (by rfl)]
            refine OpY.val (v := (.bool false)) ?_ ⟨Kept.refl _ _, rfl⟩
            first | rfl | go_simp
          exact Steps.nil _
        · intro x wf Kk hv
          try dsimp only
          have h0 : x 0 = (Dg H) := hv 0 (by kernel_rfl)
          have h1 : x 1 = (Dg H) := hv 1 (by kernel_rfl)
          have p2 : Pr.p (Sl := (fun j k => if j = 2 then k = w.heap.size + 1 else k = w.heap.size + 1 + 1)) (BlkS (Sl := (fun j k => if j = 2 then k = w.heap.size + 1 else k = w.heap.size + 1 + 1)) (w.heap.size + 1) ((H).map B).toArray 26 (fun j => j == 3) (fun j hj => by obtain rfl : j = 3 := (by simpa using hj); show ¬ (if 3 = 2 then w.heap.size + 1 = w.heap.size + 1 else w.heap.size + 1 = w.heap.size + 1 + 1); rw [if_neg (by decide)]; omega)) (x 2) wf := hv 2 (by kernel_rfl)
          have p3 : Pr.p (Sl := (fun j k => if j = 2 then k = w.heap.size + 1 else k = w.heap.size + 1 + 1)) (BlkS (Sl := (fun j k => if j = 2 then k = w.heap.size + 1 else k = w.heap.size + 1 + 1)) (w.heap.size + 1 + 1) ((H).map B).toArray 26 (fun j => j == 2) (fun j hj => by obtain rfl : j = 2 := (by simpa using hj); show ¬ (if 2 = 2 then w.heap.size + 1 + 1 = w.heap.size + 1 else w.heap.size + 1 + 1 = w.heap.size + 1 + 1); rw [if_pos rfl]; omega)) (x 3) wf := hv 3 (by kernel_rfl)
          have h4 : x 4 = (.bool false) := hv 4 (by kernel_rfl)
          clear hv
          simp only [h0, h1, h4]
          clear h0 h1 h4
          have kz := hid (kc.out.frmB Kk.undrew (Nat.le_succ _))
          have hbx := hid p2
          have hby := hid p3
          clear p2 p3 Kk
          go_wp2_with fail
          refine bodyPost_ret (v := .tuple #[Dg (H), Dg (H), .bool false]) ?_ rfl ?_
          · exact results_dg2_tmp rfl _ _ (w.heap.size + 1) (w.heap.size + 1 + 1) (H) (H) _ rfl rfl rfl hbx.out hHl.out hby.out hHl.out
          · exact ⟨hq.out, kz.out⟩
  · have zn : ¬ ((m : Nat) : Int) = ((n : Nat) : Int) := by omega
    have yn : (((m : Nat) : Int) == ((n : Nat) : Int)) = false := by simpa using zn
    by_cases h0 : m0 = 0
    · subst h0
      have hq : Hd (RbP (rebuildR H m n known ds.reverse) (.returned (.tuple #[Dg H, Dg H, .bool false]))) := ⟨by
        obtain rfl : ds = [] := List.eq_nil_of_length_eq_zero hm
        rw [List.reverse_nil, rb_nil H m n known (.inl h1)]; exact ⟨H, H, rfl, hHl.out, hHl.out, fun h => by cases h⟩⟩
      clear ih hr hm hd emp
      rw [hDg]
      clear hDg
      go_enter Tryd.func71, Tryd.ntmps71
      go_upto_region 1 with fail
      obtain ⟨w1, hw1, g0, gX0, gY0, kc⟩ := three_dg w H
      rw [hH.out] at hw1
      unfold Z32 at hw1
      rw [← hw1]
      clear hw1
      replace g0 := hid g0
      replace gX0 := hid gX0
      replace gY0 := hid gY0
      replace kc := hid kc
      have lt_w1 : Hd (w.heap.size + 1 + 1 < w1.heap.size) := ⟨lt_of_heap gY0.out⟩
      go_upto_region 8 with fail
      refine region_flow (S := (frm (w.heap.size + 1))) (Sl := (fun j k => if j = 2 then k = w.heap.size + 1 else k = w.heap.size + 1 + 1)) [Is (Dg H), Is (Dg H), BlkS (Sl := (fun j k => if j = 2 then k = w.heap.size + 1 else k = w.heap.size + 1 + 1)) (w.heap.size + 1) ((H).map B).toArray 26 (fun j => j == 3) (fun j hj => by obtain rfl : j = 3 := (by simpa using hj); show ¬ (if 3 = 2 then w.heap.size + 1 = w.heap.size + 1 else w.heap.size + 1 = w.heap.size + 1 + 1); rw [if_neg (by decide)]; omega), BlkS (Sl := (fun j k => if j = 2 then k = w.heap.size + 1 else k = w.heap.size + 1 + 1)) (w.heap.size + 1 + 1) ((H).map B).toArray 26 (fun j => j == 2) (fun j hj => by obtain rfl : j = 2 := (by simpa using hj); show ¬ (if 2 = 2 then w.heap.size + 1 + 1 = w.heap.size + 1 else w.heap.size + 1 + 1 = w.heap.size + 1 + 1); rw [if_pos rfl]; omega), Is (.bool false)] [2, 3] (fun j k h => by unfold frm; split at h <;> omega) _ (by kernel_rfl) (by kernel_rfl) (by kernel_rfl) (by kernel_rfl) (fun x => by simp only [puts, Act.put, List.map_cons, List.map_nil, Nat.zero_add, Nat.reduceAdd, List.setIfInBounds_toArray, List.set_cons_zero, List.set_cons_succ]; exact rfl) ?_ ?_
      · skip
        refine Steps.cons (fun x wf Kk hq hdep hold => ?_) ?_
        · try dsimp only
          have Kq := hq (fun k => k = w.heap.size + 1 ∨ k = w.heap.size + 1 + 1) (fun j hj k hk => by obtain ⟨h1, h2⟩ := List.mem_filter.1 hj; rcases (show j = 2 ∨ j = 3 by simpa using h1) with rfl | rfl; ((have hk' : (if 2 = 2 then k = w.heap.size + 1 else k = w.heap.size + 1 + 1) := hk); rw [if_pos rfl] at hk'; exact Or.inl hk'); ((have hk' : (if 3 = 2 then k = w.heap.size + 1 else k = w.heap.size + 1 + 1) := hk); rw [if_neg (by decide)] at hk'; exact Or.inr hk'))
          clear hq hdep hold
          rw [if_pos (by rfl)]
          have gl := (Kq.undrew.block (w.heap.size) (lt_of_heap g0.out) (by show ¬ (w.heap.size = w.heap.size + 1 ∨ w.heap.size = w.heap.size + 1 + 1); first | omega | (have := nx.out; omega) | (have := nxa.out; omega))).trans g0.out
          exact yld (.tmp 5) rfl (w.heap.size) rfl (H) gl hHl.out ⟨Kept.refl _ _, rfl⟩
        refine Steps.cons (fun x wf Kk hq hdep hold => ?_) ?_
        · try dsimp only
          have Kq := hq (fun k => k = w.heap.size + 1 ∨ k = w.heap.size + 1 + 1) (fun j hj k hk => by obtain ⟨h1, h2⟩ := List.mem_filter.1 hj; rcases (show j = 2 ∨ j = 3 by simpa using h1) with rfl | rfl; ((have hk' : (if 2 = 2 then k = w.heap.size + 1 else k = w.heap.size + 1 + 1) := hk); rw [if_pos rfl] at hk'; exact Or.inl hk'); ((have hk' : (if 3 = 2 then k = w.heap.size + 1 else k = w.heap.size + 1 + 1) := hk); rw [if_neg (by decide)] at hk'; exact Or.inr hk'))
          clear hq hdep hold
          rw [if_pos (by rfl)]
          have gl := (Kq.undrew.block (w.heap.size) (lt_of_heap g0.out) (by show ¬ (w.heap.size = w.heap.size + 1 ∨ w.heap.size = w.heap.size + 1 + 1); first | omega | (have := nx.out; omega) | (have := nxa.out; omega))).trans g0.out
          exact yld (.tmp 5) rfl (w.heap.size) rfl (H) gl hHl.out ⟨Kept.refl _ _, rfl⟩
        refine Steps.cons (fun x wf Kk hq hdep hold => ?_) ?_
        · try dsimp only
          have h0 : x 0 = (Dg H) := hdep 0 (by kernel_rfl)
          have Kq := hq (fun k => k = w.heap.size + 1 + 1) (fun j hj k hk => by obtain ⟨h1, h2⟩ := List.mem_filter.1 hj; rcases (show j = 2 ∨ j = 3 by simpa using h1) with rfl | rfl; (exact Bool.noConfusion (h2.symm.trans (by kernel_rfl : _ = false))); ((have hk' : (if 3 = 2 then k = w.heap.size + 1 else k = w.heap.size + 1 + 1) := hk); rw [if_neg (by decide)] at hk'; exact hk'))
          clear hq hdep hold
          simp only [h0]
          clear h0
          rw [if_pos (by rfl)]
          have gz := (Kq.undrew.block (w.heap.size + 1) (lt_of_heap gX0.out) (by show ¬ w.heap.size + 1 = w.heap.size + 1 + 1; omega)).trans gX0.out
          refine ysd (.tmp 10) (.tmp 45) rfl (w.heap.size + 1) rfl (H) rfl _ gz (Dg_cells hz.out) hHl.out ⟨?_, setRow_heap _ _ _ _ _ _ gz⟩
          exact (Kept.refl _ _).setRow (S := fun k => k = w.heap.size + 1) (.inl rfl) _
        refine Steps.cons (fun x wf Kk hq hdep hold => ?_) ?_
        · try dsimp only
          have h1 : x 1 = (Dg H) := hdep 1 (by kernel_rfl)
          have Kq := hq (fun k => k = w.heap.size + 1) (fun j hj k hk => by obtain ⟨h1, h2⟩ := List.mem_filter.1 hj; rcases (show j = 2 ∨ j = 3 by simpa using h1) with rfl | rfl; ((have hk' : (if 2 = 2 then k = w.heap.size + 1 else k = w.heap.size + 1 + 1) := hk); rw [if_pos rfl] at hk'; exact hk'); (exact Bool.noConfusion (h2.symm.trans (by kernel_rfl : _ = false))))
          clear hq hdep hold
          simp only [h1]
          clear h1
          rw [if_pos (by rfl)]
          have gz := (Kq.undrew.block (w.heap.size + 1 + 1) (lt_of_heap gY0.out) (by show ¬ w.heap.size + 1 + 1 = w.heap.size + 1; omega)).trans gY0.out
          refine ysd (.tmp 11) (.tmp 46) rfl (w.heap.size + 1 + 1) rfl (H) rfl _ gz (Dg_cells hz.out) hHl.out ⟨?_, setRow_heap _ _ _ _ _ _ gz⟩
          exact (Kept.refl _ _).setRow (S := fun k => k = w.heap.size + 1 + 1) (.inl rfl) _
        refine Steps.cons (fun x wf Kk hq hdep hold => ?_) ?_
        · try dsimp only
          clear hq hdep hold
          rw [if_pos (by rfl)]
          refine OpY.val (v := (.bool false)) ?_ ⟨Kept.refl _ _, rfl⟩
          first | rfl | go_simp
        exact Steps.nil _
      · intro x wf Kk hv
        try dsimp only
        have h0 : x 0 = (Dg H) := hv 0 (by kernel_rfl)
        have h1 : x 1 = (Dg H) := hv 1 (by kernel_rfl)
        have p2 : Pr.p (Sl := (fun j k => if j = 2 then k = w.heap.size + 1 else k = w.heap.size + 1 + 1)) (BlkS (Sl := (fun j k => if j = 2 then k = w.heap.size + 1 else k = w.heap.size + 1 + 1)) (w.heap.size + 1) ((H).map B).toArray 26 (fun j => j == 3) (fun j hj => by obtain rfl : j = 3 := (by simpa using hj); show ¬ (if 3 = 2 then w.heap.size + 1 = w.heap.size + 1 else w.heap.size + 1 = w.heap.size + 1 + 1); rw [if_neg (by decide)]; omega)) (x 2) wf := hv 2 (by kernel_rfl)
        have p3 : Pr.p (Sl := (fun j k => if j = 2 then k = w.heap.size + 1 else k = w.heap.size + 1 + 1)) (BlkS (Sl := (fun j k => if j = 2 then k = w.heap.size + 1 else k = w.heap.size + 1 + 1)) (w.heap.size + 1 + 1) ((H).map B).toArray 26 (fun j => j == 2) (fun j hj => by obtain rfl : j = 2 := (by simpa using hj); show ¬ (if 2 = 2 then w.heap.size + 1 + 1 = w.heap.size + 1 else w.heap.size + 1 + 1 = w.heap.size + 1 + 1); rw [if_pos rfl]; omega)) (x 3) wf := hv 3 (by kernel_rfl)
        have h4 : x 4 = (.bool false) := hv 4 (by kernel_rfl)
        clear hv
        simp only [h0, h1, h4]
        clear h0 h1 h4
        have kz := hid (kc.out.frmB Kk.undrew (Nat.le_succ _))
        have hbx := hid p2
        have hby := hid p3
        clear p2 p3 Kk
        go_wp2_with fail
        refine bodyPost_ret (v := .tuple #[Dg (H), Dg (H), .bool false]) ?_ rfl ?_
        · exact results_dg2_tmp rfl _ _ (w.heap.size + 1) (w.heap.size + 1 + 1) (H) (H) _ rfl rfl rfl hbx.out hHl.out hby.out hHl.out
        · exact ⟨hq.out, kz.out⟩
    · obtain ⟨ds', PP, rfl⟩ : ∃ l x, ds = l ++ [x] := by
        rcases List.eq_nil_or_concat ds with rfl | ⟨l, x, rfl⟩
        · simp at hm; omega
        · exact ⟨l, x, by simp⟩
      obtain ⟨b, o, rfl, hL, hrP, hrd⟩ := RdD.last hr
      have hP := hid (hr.1 PP (by simp))
      obtain ⟨l, hm'⟩ : ∃ l, ds'.length = l := ⟨_, rfl⟩
      rw [hm'] at hL hrP hrd
      subst hL
      obtain ⟨L1, hL1⟩ : ∃ L1, l + 1 = L1 := ⟨_, rfl⟩
      rw [hL1] at hr h0 ⊢
      have e1 : (L1 : Int) - 1 = (l : Int) := by omega
      have hl1000 : l ≤ 1000 := by omega
      have e1w : IntKind.i64.wrap (l : Int) = (l : Int) := IntWalk.i64_in _ (by omega)
      have ew0 : IntKind.i64.wrap (0 : Int) = 0 := by decide
      have c1 : (l : Int) < (L1 : Int) := by omega
      have c2 : (l : Int) ≤ (L1 : Int) := by omega
      have c3 : (0 : Int) ≤ (l : Int) := by omega
      have hcap : L1 ≤ cap := by obtain ⟨_, _, _, _, e, h1, _⟩ := hr; cases e; rw [List.length_append, List.length_singleton, hm', hL1] at h1; exact h1
      have c4 : (l : Int) ≤ (cap : Int) := by omega
      have z0 : ¬ ((L1 : Nat) : Int) = 0 := by omega
      have y0 : (((L1 : Nat) : Int) == 0) = false := by simpa using z0
      have hrP0 := hid hrP
      have hl0 : Hd (ds'.reverse.isEmpty = decide (l = 0)) := ⟨by cases ds' with
        | nil => simp at hm'; simp [← hm']
        | cons y ys => simp at hm'; simp [← hm']⟩
      have h2 : 2 ≤ n := by omega
      have hK1 := half_lt n h2
      have hK0 := half_pos n
      have hv : Hd (rebuildR H m n known (ds' ++ [PP]).reverse = if m ≤ half n then ((rebuildR H m (half n) known ds'.reverse).1, innerD (rebuildR H m (half n) known ds'.reverse).2.1 PP, (rebuildR H m (half n) known ds'.reverse).2.2) else (innerD PP (rebuildR H (m - half n) (n - half n) false ds'.reverse).1, innerD PP (rebuildR H (m - half n) (n - half n) false ds'.reverse).2.1, (rebuildR H (m - half n) (n - half n) false ds'.reverse).2.2)) := ⟨by
        rw [List.reverse_append, List.reverse_singleton, List.singleton_append]; exact rb_cons H m n known PP ds'.reverse h1⟩
      have HH := hid (fun w => split_any n w h2 h63)
      generalize half n = K at hK1 hK0 hv HH
      have hIH := hid (fun m' n' k' W (a : 1 ≤ m') (b0 : m' ≤ n') (b1 : n' ≤ 63) (hr : RdD W (.slice (some ⟨b, o, none⟩) l cap) ds') (t : TabR W) => by have := ih l (by simp at hm; omega) ds' hm' m' n' k' (.slice (some ⟨b, o, none⟩) l cap) W hHl.out a b0 b1 (by simp at hd; omega) hr t; exact this)
      have hrd' := hid hrd
      obtain ⟨I, hI⟩ : ∃ I : Int, (m : Int) = I := ⟨_, rfl⟩
      rw [hI] at zn yn ⊢
      clear ih hr hm hrP hrd hL1 emp hl0
      by_cases hik : m ≤ K
      · have hlt : I ≤ (K : Int) := by omega
        rw [if_pos hik] at hv
        have IHP := hid (fun W h t => hIH.out m K known W h1m hik (by omega) h t)
        rw [hI] at IHP
        generalize rebuildR H m K known ds'.reverse = q at IHP hv
        clear hIH hI hik
        rw [hDg]
        clear hDg
        go_enter Tryd.func71, Tryd.ntmps71
        go_upto_region 1 with fail
        obtain ⟨w1, hw1, g0, gX0, gY0, kc⟩ := three_dg w H
        rw [hH.out] at hw1
        unfold Z32 at hw1
        rw [← hw1]
        clear hw1
        replace g0 := hid g0
        replace gX0 := hid gX0
        replace gY0 := hid gY0
        replace kc := hid kc
        have lt_w1 : Hd (w.heap.size + 1 + 1 < w1.heap.size) := ⟨lt_of_heap gY0.out⟩
        go_upto_region 9 with fail
        have hrP := hid (kc.out.drew.rng hrP0.out)
        refine wp_region_held_drew (S := fun w' => w'.rangeAt b (o + l * 32) (PP.map B)) (by kernel_rfl) hrP.out (fun _ => ?_)
        generalize hwd : w1.drew = W0 at hrP ⊢
        have kd : Hd (Kept no w1 W0) := ⟨by rw [← hwd]; exact (Kept.refl no w1).drew⟩
        clear hwd
        refine take2 0 (some 47) (.slice (some ⟨b, o, none⟩) L1 cap) rfl rfl (by kernel_rfl) (by kernel_rfl) (by kernel_rfl) (fun _ _ _ h => h) (Or.inl ⟨by rfl, fun w hSw => ?_⟩) hrP.out ?_
        · first | rfl | go_simp
        try simp only [Act.put, List.setIfInBounds_toArray, List.set_cons_zero, List.set_cons_succ]
        refine take2 1 (some 48) (.slice (some ⟨b, o, none⟩) L1 cap) rfl rfl (by kernel_rfl) (by kernel_rfl) (by kernel_rfl) (fun _ _ _ h => h) (Or.inl ⟨by rfl, fun w hSw => ?_⟩) hrP.out ?_
        · first | rfl | go_simp
        try simp only [Act.put, List.setIfInBounds_toArray, List.set_cons_zero, List.set_cons_succ]
        refine take2 2 (some 49) (.int .i64 (L1 : Int)) rfl rfl (by kernel_rfl) (by kernel_rfl) (by kernel_rfl) (fun _ _ _ h => h) (Or.inl ⟨by rfl, fun w hSw => ?_⟩) hrP.out ?_
        · first | rfl | go_simp
        try simp only [Act.put, List.setIfInBounds_toArray, List.set_cons_zero, List.set_cons_succ]
        refine take2 3 (some 50) (.int .i64 (l : Int)) rfl rfl (by kernel_rfl) (by kernel_rfl) (by kernel_rfl) (fun _ _ _ h => h) (Or.inl ⟨by rfl, fun w hSw => ?_⟩) hrP.out ?_
        · first | rfl | go_simp
        try simp only [Act.put, List.setIfInBounds_toArray, List.set_cons_zero, List.set_cons_succ]
        refine take2 4 (some 51) (.pointer (some ⟨b, o + l * 32, none⟩)) rfl rfl (by kernel_rfl) (by kernel_rfl) (by kernel_rfl) (fun _ _ _ h => h) (Or.inl ⟨by rfl, fun w hSw => ?_⟩) hrP.out ?_
        · first | rfl | go_simp
        try simp only [Act.put, List.setIfInBounds_toArray, List.set_cons_zero, List.set_cons_succ]
        refine take2 5 (some 52) (Dg PP) rfl rfl (by kernel_rfl) (by kernel_rfl) (by kernel_rfl) (fun _ _ _ h => h) (yieldsIf_load_mid (by rfl) 26 (.tmp 51) rfl b (o + l * 32) rfl (PP.map B) _ (fun w h => h) Tryd.underlying26 rfl (infDl hP.out)) hrP.out ?_
        try simp only [Act.put, List.setIfInBounds_toArray, List.set_cons_zero, List.set_cons_succ]
        refine take2 6 (some 53) (.slice (some ⟨b, o, none⟩) L1 cap) rfl rfl (by kernel_rfl) (by kernel_rfl) (by kernel_rfl) (fun _ _ _ h => h) (Or.inl ⟨by rfl, fun w hSw => ?_⟩) hrP.out ?_
        · first | rfl | go_simp
        try simp only [Act.put, List.setIfInBounds_toArray, List.set_cons_zero, List.set_cons_succ]
        refine take2 7 (some 54) (.slice (some ⟨b, o, none⟩) L1 cap) rfl rfl (by kernel_rfl) (by kernel_rfl) (by kernel_rfl) (fun _ _ _ h => h) (Or.inl ⟨by rfl, fun w hSw => ?_⟩) hrP.out ?_
        · first | rfl | go_simp
        try simp only [Act.put, List.setIfInBounds_toArray, List.set_cons_zero, List.set_cons_succ]
        refine take2 8 (some 55) (.int .i64 (L1 : Int)) rfl rfl (by kernel_rfl) (by kernel_rfl) (by kernel_rfl) (fun _ _ _ h => h) (Or.inl ⟨by rfl, fun w hSw => ?_⟩) hrP.out ?_
        · first | rfl | go_simp
        try simp only [Act.put, List.setIfInBounds_toArray, List.set_cons_zero, List.set_cons_succ]
        refine take2 9 (some 56) (.int .i64 (l : Int)) rfl rfl (by kernel_rfl) (by kernel_rfl) (by kernel_rfl) (fun _ _ _ h => h) (Or.inl ⟨by rfl, fun w hSw => ?_⟩) hrP.out ?_
        · first | rfl | go_simp
        try simp only [Act.put, List.setIfInBounds_toArray, List.set_cons_zero, List.set_cons_succ]
        refine take2 10 (some 57) (.slice (some ⟨b, o, none⟩) l cap) rfl rfl (by kernel_rfl) (by kernel_rfl) (by kernel_rfl) (fun _ _ _ h => h) (Or.inl ⟨by rfl, fun w hSw => ?_⟩) hrP.out ?_
        · first | rfl | go_simp
        try simp only [Act.put, List.setIfInBounds_toArray, List.set_cons_zero, List.set_cons_succ]
        refine wpAnyH_ready (rs := [11]) (by kernel_rfl) (by simp) ?_
        refine AllReadyH.cons rfl (fun K hK => ?_) AllReadyH.nil
        go_simp
        refine hK.out _ _ (((Kept.refl no W0).alloc _).rng hrP.out) (fun _ => ?_)
        clear hK K
        try simp only [Act.put, List.setIfInBounds_toArray, List.set_cons_zero, List.set_cons_succ]
        have e1 := hid (heap_alloc_new W0 (.cells Z32 26))
        have q1 := hid ((Kept.refl no W0).alloc (.cells Z32 26))
        unfold Z32 at e1 q1
        generalize hgp : W0.heap.size = gp at e1 ⊢
        have hgp' : Hd (w1.heap.size ≤ gp) := ⟨by rw [← hgp]; exact kd.out.size⟩
        have q0 : Hd (W0.heap.size ≤ gp) := ⟨by rw [hgp]; exact Nat.le_refl _⟩
        clear hgp
        generalize W0.alloc _ = W1 at e1 q1 ⊢
        refine wpAnyH_ready (rs := [12]) (by kernel_rfl) (by simp) ?_
        refine AllReadyH.cons rfl (fun K hK => ?_) AllReadyH.nil
        rw [if_pos (by rfl)]
        refine wp_store_row 26 _ _ rfl gp (PP.map B).toArray rfl rfl 26 _ e1.out (infD hP.out) (Dg_cells hP.out).symm (oneD PP) ?_
        have e2 := hid (setRow_heap W1 gp _ (PP.map B).toArray _ _ e1.out)
        have k2 := hid ((kd.out.trans' q1.out).setRow (g := gp) (.inr hgp'.out) (PP.map B).toArray)
        have s2 := hid ((q1.out.setRow (g := gp) (.inr q0.out) (PP.map B).toArray).rng hrP.out)
        refine hK.out _ _ s2.out (fun _ => ?_)
        clear hK K
        try simp only [Act.put]
        generalize W1.setRow gp _ = W2 at e2 k2 s2 ⊢
        clear hrP kd e1 q1 q0
        refine take2 13 (some 14) (.slice (some ⟨b, o, none⟩) l cap) rfl rfl (by kernel_rfl) (by kernel_rfl) (by kernel_rfl) (fun _ _ _ h => h) (Or.inl ⟨by rfl, fun w hSw => ?_⟩) s2.out ?_
        · first | rfl | go_simp
        try simp only [Act.put, List.setIfInBounds_toArray]
        refine wpAnyH_done (by kernel_rfl) ?_ _
        clear s2
        have kc2 := hid (kc.out.trans' k2.out)
        have gH := hid (k2.out.blk g0.out)
        have gX := hid (k2.out.blk gX0.out)
        have gY := hid (k2.out.blk gY0.out)
        have nx : Hd (w.heap.size + 1 + 1 < gp) := ⟨by have := hgp'.out; have := lt_w1.out; omega⟩
        clear g0 gX0 gY0 kc k2
        obtain ⟨kc, gX0, gY0⟩ := And.intro kc2 (And.intro gX gY)
        clear kc2 gX gY
        go_upto_region 12 with (refine (HH.out _).mono ?_; rintro ed w' ⟨rfl, rfl⟩)
        go_wp2_with (with_reducible refine ld rfl _ rfl w.heap.size rfl H gH.out hHl.out ?_)
        refine (IHP.out W2 (hrd'.out.kept kc.out) (hT.out.kept kc.out)).mono ?_
        rintro ed W3 ⟨⟨X, Y, rfl, hX, hY, hXq⟩, k3⟩
        have kc3 := hid (kc.out.trans' k3)
        have k3s : Hd (gp < W3.heap.size) := ⟨lt_of_heap (k3.blk e2.out)⟩
        have gP3 := hid (k3.blk e2.out)
        have gX3 := hid (k3.blk gX0.out)
        have gY3 := hid (k3.blk gY0.out)
        replace hX := hid hX
        replace hY := hid hY
        replace hXq := hid hXq
        have hZs : Hd ((Z32l.map B).toArray.size = 32) := ⟨rfl⟩
        clear k3 gX0 gY0 kc gH e2
        obtain ⟨W4, hw4, g16, g17, k4⟩ := dg2_block W3 X Y
        have gX0 := hid (k4.blk gX3.out)
        have gY0 := hid (k4.blk gY3.out)
        have gP4 := hid (k4.blk gP3.out)
        have kc := hid (kc3.out.trans' k4)
        have n0 : Hd (((W3.alloc (.cells Z32 26)).alloc (.cells Z32 26)).heap[W3.heap.size]? = some (.cells Z32 26 (0, 0))) := ⟨by rw [heap_alloc_old _ _ (by have := World.size_alloc (w := W3) (o := .cells Z32 26); omega), heap_alloc_new]⟩
        have n1 : Hd ((((W3.alloc (.cells Z32 26)).alloc (.cells Z32 26)).setRow W3.heap.size (X.map B).toArray).heap[W3.heap.size + 1]? = some (.cells Z32 26 (0, 0))) := ⟨by rw [setRow_other _ _ _ _ (by omega), ← World.size_alloc (w := W3) (o := .cells Z32 26), heap_alloc_new]⟩
        have hZ := hid Z32_size
        unfold Z32 at hw4 n0 n1 hZ
        replace hw4 := hid hw4
        replace g16 := hid g16
        replace g17 := hid g17
        clear k4 gX3 gY3 gP3 kc3
        have nxa : Hd (w.heap.size + 1 + 1 < W3.heap.size) := ⟨by have := lt_of_heap gP4.out; have := k3s.out; have := nx.out; omega⟩
        generalize hg16 : W3.heap.size = ga at hw4 g16 g17 n0 n1 nxa
        replace hg16 := hid hg16
        go_upto_region 13 with (first | (with_reducible refine sd rfl _ _ rfl W3.heap.size rfl X rfl _ (by rw [hg16.out]; exact n0.out) hZ.out hX.out ?_; rw [hg16.out]) | (with_reducible refine sd rfl _ _ rfl (ga + 1) rfl Y rfl _ n1.out hZ.out hY.out ?_; rw [← hw4.out]))
        clear hw4 n0 n1 hg16
        have hq : Hd (RbP (rebuildR H m n known (ds' ++ [PP]).reverse) (.returned (.tuple #[Dg X, Dg (innerD Y PP), .bool q.2.2]))) := ⟨by
          rw [hv.out]; exact ⟨_, _, rfl, hX.out, innerD_length _ _, fun h => ⟨(hXq.out h).1, by rw [(hXq.out h).2]⟩⟩⟩
        have hI1 := hid (fun W t => node_any Y PP W hY.out hP.out t)
        have hR1 := hid (innerD_length Y PP)
        generalize innerD Y PP = RY at hq hI1 hR1
        clear hv hXq
        refine region_flow (S := (frm (w.heap.size + 1))) (Sl := (fun j k => if j = 5 then k = w.heap.size + 1 else k = w.heap.size + 1 + 1)) [Is (Dg X), Is (Dg Y), Is (Dg PP), Is (Dg RY), Is (.bool q.2.2), BlkS (Sl := (fun j k => if j = 5 then k = w.heap.size + 1 else k = w.heap.size + 1 + 1)) (w.heap.size + 1) ((X).map B).toArray 26 (fun j => j == 6) (fun j hj => by obtain rfl : j = 6 := (by simpa using hj); show ¬ (if 6 = 5 then w.heap.size + 1 = w.heap.size + 1 else w.heap.size + 1 = w.heap.size + 1 + 1); rw [if_neg (by decide)]; omega), BlkS (Sl := (fun j k => if j = 5 then k = w.heap.size + 1 else k = w.heap.size + 1 + 1)) (w.heap.size + 1 + 1) ((RY).map B).toArray 26 (fun j => j == 5) (fun j hj => by obtain rfl : j = 5 := (by simpa using hj); show ¬ (if 5 = 5 then w.heap.size + 1 + 1 = w.heap.size + 1 else w.heap.size + 1 + 1 = w.heap.size + 1 + 1); rw [if_pos rfl]; omega), Is (.bool q.2.2)] [5, 6] (fun j k h => by unfold frm; split at h <;> omega) _ (by kernel_rfl) (by kernel_rfl) (by kernel_rfl) (by kernel_rfl) (fun x => by simp only [puts, Act.put, List.map_cons, List.map_nil, Nat.zero_add, Nat.reduceAdd, List.setIfInBounds_toArray, List.set_cons_zero, List.set_cons_succ]; exact rfl) ?_ ?_
        · skip
          refine Steps.cons (fun x wf Kk hq hdep hold => ?_) ?_
          · try dsimp only
            have Kq := hq (fun k => k = w.heap.size + 1 ∨ k = w.heap.size + 1 + 1) (fun j hj k hk => by obtain ⟨h1, h2⟩ := List.mem_filter.1 hj; rcases (show j = 5 ∨ j = 6 by simpa using h1) with rfl | rfl; ((have hk' : (if 5 = 5 then k = w.heap.size + 1 else k = w.heap.size + 1 + 1) := hk); rw [if_pos rfl] at hk'; exact Or.inl hk'); ((have hk' : (if 6 = 5 then k = w.heap.size + 1 else k = w.heap.size + 1 + 1) := hk); rw [if_neg (by decide)] at hk'; exact Or.inr hk'))
            clear hq hdep hold
            rw [if_pos (by rfl)]
            have gl := (Kq.undrew.block (ga) (lt_of_heap g16.out) (by show ¬ (ga = w.heap.size + 1 ∨ ga = w.heap.size + 1 + 1); first | omega | (have := nx.out; omega) | (have := nxa.out; omega))).trans g16.out
            exact yld (.tmp 16) rfl (ga) rfl (X) gl hX.out ⟨Kept.refl _ _, rfl⟩
          refine Steps.cons (fun x wf Kk hq hdep hold => ?_) ?_
          · try dsimp only
            have Kq := hq (fun k => k = w.heap.size + 1 ∨ k = w.heap.size + 1 + 1) (fun j hj k hk => by obtain ⟨h1, h2⟩ := List.mem_filter.1 hj; rcases (show j = 5 ∨ j = 6 by simpa using h1) with rfl | rfl; ((have hk' : (if 5 = 5 then k = w.heap.size + 1 else k = w.heap.size + 1 + 1) := hk); rw [if_pos rfl] at hk'; exact Or.inl hk'); ((have hk' : (if 6 = 5 then k = w.heap.size + 1 else k = w.heap.size + 1 + 1) := hk); rw [if_neg (by decide)] at hk'; exact Or.inr hk'))
            clear hq hdep hold
            rw [if_pos (by rfl)]
            have gl := (Kq.undrew.block (ga + 1) (lt_of_heap g17.out) (by show ¬ (ga + 1 = w.heap.size + 1 ∨ ga + 1 = w.heap.size + 1 + 1); first | omega | (have := nx.out; omega) | (have := nxa.out; omega))).trans g17.out
            exact yld (.tmp 17) rfl (ga + 1) rfl (Y) gl hY.out ⟨Kept.refl _ _, rfl⟩
          refine Steps.cons (fun x wf Kk hq hdep hold => ?_) ?_
          · try dsimp only
            have Kq := hq (fun k => k = w.heap.size + 1 ∨ k = w.heap.size + 1 + 1) (fun j hj k hk => by obtain ⟨h1, h2⟩ := List.mem_filter.1 hj; rcases (show j = 5 ∨ j = 6 by simpa using h1) with rfl | rfl; ((have hk' : (if 5 = 5 then k = w.heap.size + 1 else k = w.heap.size + 1 + 1) := hk); rw [if_pos rfl] at hk'; exact Or.inl hk'); ((have hk' : (if 6 = 5 then k = w.heap.size + 1 else k = w.heap.size + 1 + 1) := hk); rw [if_neg (by decide)] at hk'; exact Or.inr hk'))
            clear hq hdep hold
            rw [if_pos (by rfl)]
            have gl := (Kq.undrew.block (gp) (lt_of_heap gP4.out) (by show ¬ (gp = w.heap.size + 1 ∨ gp = w.heap.size + 1 + 1); first | omega | (have := nx.out; omega) | (have := nxa.out; omega))).trans gP4.out
            exact yld (.tmp 13) rfl (gp) rfl (PP) gl hP.out ⟨Kept.refl _ _, rfl⟩
          refine Steps.cons (fun x wf Kk hq hdep hold => ?_) ?_
          · try dsimp only
            have h1 : x 1 = (Dg Y) := hdep 1 (by kernel_rfl)
            have h2 : x 2 = (Dg PP) := hdep 2 (by kernel_rfl)
            clear hq hdep hold
            simp only [h1, h2]
            clear h1 h2
            rw [if_pos (by rfl)]
            refine OpY.call (f := 63) (args := #[(Dg Y), (Dg PP)]) (by go_simp) ?_
            refine (hI1.out wf (hT.out.kept (kc.out.frmB Kk.undrew (Nat.le_succ _)))).mono ?_
            rintro e w2 ⟨rfl, k2⟩
            exact ⟨_, rfl, k2, rfl⟩
          refine Steps.cons (fun x wf Kk hq hdep hold => ?_) ?_
          · try dsimp only
            clear hq hdep hold
            rw [if_pos (by rfl)]
            refine OpY.val (v := (.bool q.2.2)) ?_ ⟨Kept.refl _ _, rfl⟩
            first | rfl | go_simp
          refine Steps.cons (fun x wf Kk hq hdep hold => ?_) ?_
          · try dsimp only
            have h0 : x 0 = (Dg X) := hdep 0 (by kernel_rfl)
            have Kq := hq (fun k => k = w.heap.size + 1 + 1) (fun j hj k hk => by obtain ⟨h1, h2⟩ := List.mem_filter.1 hj; rcases (show j = 5 ∨ j = 6 by simpa using h1) with rfl | rfl; (exact Bool.noConfusion (h2.symm.trans (by kernel_rfl : _ = false))); ((have hk' : (if 6 = 5 then k = w.heap.size + 1 else k = w.heap.size + 1 + 1) := hk); rw [if_neg (by decide)] at hk'; exact hk'))
            clear hq hdep hold
            simp only [h0]
            clear h0
            rw [if_pos (by rfl)]
            have gz := (Kq.undrew.block (w.heap.size + 1) (lt_of_heap gX0.out) (by show ¬ w.heap.size + 1 = w.heap.size + 1 + 1; omega)).trans gX0.out
            refine ysd (.tmp 10) (.tmp 73) rfl (w.heap.size + 1) rfl (X) rfl _ gz (Dg_cells hz.out) hX.out ⟨?_, setRow_heap _ _ _ _ _ _ gz⟩
            exact (Kept.refl _ _).setRow (S := fun k => k = w.heap.size + 1) (.inl rfl) _
          refine Steps.cons (fun x wf Kk hq hdep hold => ?_) ?_
          · try dsimp only
            have h3 : x 3 = (Dg RY) := hdep 3 (by kernel_rfl)
            have Kq := hq (fun k => k = w.heap.size + 1) (fun j hj k hk => by obtain ⟨h1, h2⟩ := List.mem_filter.1 hj; rcases (show j = 5 ∨ j = 6 by simpa using h1) with rfl | rfl; ((have hk' : (if 5 = 5 then k = w.heap.size + 1 else k = w.heap.size + 1 + 1) := hk); rw [if_pos rfl] at hk'; exact hk'); (exact Bool.noConfusion (h2.symm.trans (by kernel_rfl : _ = false))))
            clear hq hdep hold
            simp only [h3]
            clear h3
            rw [if_pos (by rfl)]
            have gz := (Kq.undrew.block (w.heap.size + 1 + 1) (lt_of_heap gY0.out) (by show ¬ w.heap.size + 1 + 1 = w.heap.size + 1; omega)).trans gY0.out
            refine ysd (.tmp 11) (.tmp 76) rfl (w.heap.size + 1 + 1) rfl (RY) rfl _ gz (Dg_cells hz.out) hR1.out ⟨?_, setRow_heap _ _ _ _ _ _ gz⟩
            exact (Kept.refl _ _).setRow (S := fun k => k = w.heap.size + 1 + 1) (.inl rfl) _
          refine Steps.cons (fun x wf Kk hq hdep hold => ?_) ?_
          · try dsimp only
            have h4 : x 4 = (.bool q.2.2) := hdep 4 (by kernel_rfl)
            clear hq hdep hold
            simp only [h4]
            clear h4
            rw [if_pos (by rfl)]
            refine OpY.val (v := (.bool q.2.2)) ?_ ⟨Kept.refl _ _, rfl⟩
            first | rfl | go_simp
          exact Steps.nil _
        · intro x wf Kk hv
          try dsimp only
          have h0 : x 0 = (Dg X) := hv 0 (by kernel_rfl)
          have h1 : x 1 = (Dg Y) := hv 1 (by kernel_rfl)
          have h2 : x 2 = (Dg PP) := hv 2 (by kernel_rfl)
          have h3 : x 3 = (Dg RY) := hv 3 (by kernel_rfl)
          have h4 : x 4 = (.bool q.2.2) := hv 4 (by kernel_rfl)
          have p5 : Pr.p (Sl := (fun j k => if j = 5 then k = w.heap.size + 1 else k = w.heap.size + 1 + 1)) (BlkS (Sl := (fun j k => if j = 5 then k = w.heap.size + 1 else k = w.heap.size + 1 + 1)) (w.heap.size + 1) ((X).map B).toArray 26 (fun j => j == 6) (fun j hj => by obtain rfl : j = 6 := (by simpa using hj); show ¬ (if 6 = 5 then w.heap.size + 1 = w.heap.size + 1 else w.heap.size + 1 = w.heap.size + 1 + 1); rw [if_neg (by decide)]; omega)) (x 5) wf := hv 5 (by kernel_rfl)
          have p6 : Pr.p (Sl := (fun j k => if j = 5 then k = w.heap.size + 1 else k = w.heap.size + 1 + 1)) (BlkS (Sl := (fun j k => if j = 5 then k = w.heap.size + 1 else k = w.heap.size + 1 + 1)) (w.heap.size + 1 + 1) ((RY).map B).toArray 26 (fun j => j == 5) (fun j hj => by obtain rfl : j = 5 := (by simpa using hj); show ¬ (if 5 = 5 then w.heap.size + 1 + 1 = w.heap.size + 1 else w.heap.size + 1 + 1 = w.heap.size + 1 + 1); rw [if_pos rfl]; omega)) (x 6) wf := hv 6 (by kernel_rfl)
          have h7 : x 7 = (.bool q.2.2) := hv 7 (by kernel_rfl)
          clear hv
          simp only [h0, h1, h2, h3, h4, h7]
          clear h0 h1 h2 h3 h4 h7
          have kz := hid (kc.out.frmB Kk.undrew (Nat.le_succ _))
          have hbx := hid p5
          have hby := hid p6
          clear p5 p6 Kk
          go_wp2_with fail
          refine bodyPost_ret (v := .tuple #[Dg (X), Dg (RY), .bool q.2.2]) ?_ rfl ?_
          · exact results_dg2_tmp rfl _ _ (w.heap.size + 1) (w.heap.size + 1 + 1) (X) (RY) _ rfl rfl rfl hbx.out hX.out hby.out hR1.out
          · exact ⟨hq.out, kz.out⟩
      · have hlt : ¬ I ≤ (K : Int) := by omega
        have hge : (K : Int) < I := by omega
        rw [if_neg hik] at hv
        obtain ⟨I2, hI2⟩ : ∃ I2 : Nat, m - K = I2 := ⟨_, rfl⟩
        obtain ⟨N2, hN2⟩ : ∃ N2 : Nat, n - K = N2 := ⟨_, rfl⟩
        have s1 : I - (K : Int) = (I2 : Int) := by omega
        have s2 : IntKind.i64.wrap (I2 : Int) = (I2 : Int) := IntWalk.i64_in _ (by omega)
        have s3 : (n : Int) - (K : Int) = (N2 : Int) := by omega
        have s4 : IntKind.i64.wrap (N2 : Int) = (N2 : Int) := IntWalk.i64_in _ (by omega)
        have IHP := hid (fun W h t => hIH.out (m - K) (n - K) false W (by omega) (by omega) (by omega) h t)
        rw [hI2, hN2] at IHP
        rw [hI2, hN2] at hv
        generalize rebuildR H I2 N2 false ds'.reverse = q at IHP hv
        clear hIH hI hik hI2 hN2
        rw [hDg]
        clear hDg
        go_enter Tryd.func71, Tryd.ntmps71
        go_upto_region 1 with fail
        obtain ⟨w1, hw1, g0, gX0, gY0, kc⟩ := three_dg w H
        rw [hH.out] at hw1
        unfold Z32 at hw1
        rw [← hw1]
        clear hw1
        replace g0 := hid g0
        replace gX0 := hid gX0
        replace gY0 := hid gY0
        replace kc := hid kc
        have lt_w1 : Hd (w.heap.size + 1 + 1 < w1.heap.size) := ⟨lt_of_heap gY0.out⟩
        go_upto_region 9 with fail
        have hrP := hid (kc.out.drew.rng hrP0.out)
        refine wp_region_held_drew (S := fun w' => w'.rangeAt b (o + l * 32) (PP.map B)) (by kernel_rfl) hrP.out (fun _ => ?_)
        generalize hwd : w1.drew = W0 at hrP ⊢
        have kd : Hd (Kept no w1 W0) := ⟨by rw [← hwd]; exact (Kept.refl no w1).drew⟩
        clear hwd
        refine take2 0 (some 47) (.slice (some ⟨b, o, none⟩) L1 cap) rfl rfl (by kernel_rfl) (by kernel_rfl) (by kernel_rfl) (fun _ _ _ h => h) (Or.inl ⟨by rfl, fun w hSw => ?_⟩) hrP.out ?_
        · first | rfl | go_simp
        try simp only [Act.put, List.setIfInBounds_toArray, List.set_cons_zero, List.set_cons_succ]
        refine take2 1 (some 48) (.slice (some ⟨b, o, none⟩) L1 cap) rfl rfl (by kernel_rfl) (by kernel_rfl) (by kernel_rfl) (fun _ _ _ h => h) (Or.inl ⟨by rfl, fun w hSw => ?_⟩) hrP.out ?_
        · first | rfl | go_simp
        try simp only [Act.put, List.setIfInBounds_toArray, List.set_cons_zero, List.set_cons_succ]
        refine take2 2 (some 49) (.int .i64 (L1 : Int)) rfl rfl (by kernel_rfl) (by kernel_rfl) (by kernel_rfl) (fun _ _ _ h => h) (Or.inl ⟨by rfl, fun w hSw => ?_⟩) hrP.out ?_
        · first | rfl | go_simp
        try simp only [Act.put, List.setIfInBounds_toArray, List.set_cons_zero, List.set_cons_succ]
        refine take2 3 (some 50) (.int .i64 (l : Int)) rfl rfl (by kernel_rfl) (by kernel_rfl) (by kernel_rfl) (fun _ _ _ h => h) (Or.inl ⟨by rfl, fun w hSw => ?_⟩) hrP.out ?_
        · first | rfl | go_simp
        try simp only [Act.put, List.setIfInBounds_toArray, List.set_cons_zero, List.set_cons_succ]
        refine take2 4 (some 51) (.pointer (some ⟨b, o + l * 32, none⟩)) rfl rfl (by kernel_rfl) (by kernel_rfl) (by kernel_rfl) (fun _ _ _ h => h) (Or.inl ⟨by rfl, fun w hSw => ?_⟩) hrP.out ?_
        · first | rfl | go_simp
        try simp only [Act.put, List.setIfInBounds_toArray, List.set_cons_zero, List.set_cons_succ]
        refine take2 5 (some 52) (Dg PP) rfl rfl (by kernel_rfl) (by kernel_rfl) (by kernel_rfl) (fun _ _ _ h => h) (yieldsIf_load_mid (by rfl) 26 (.tmp 51) rfl b (o + l * 32) rfl (PP.map B) _ (fun w h => h) Tryd.underlying26 rfl (infDl hP.out)) hrP.out ?_
        try simp only [Act.put, List.setIfInBounds_toArray, List.set_cons_zero, List.set_cons_succ]
        refine take2 6 (some 53) (.slice (some ⟨b, o, none⟩) L1 cap) rfl rfl (by kernel_rfl) (by kernel_rfl) (by kernel_rfl) (fun _ _ _ h => h) (Or.inl ⟨by rfl, fun w hSw => ?_⟩) hrP.out ?_
        · first | rfl | go_simp
        try simp only [Act.put, List.setIfInBounds_toArray, List.set_cons_zero, List.set_cons_succ]
        refine take2 7 (some 54) (.slice (some ⟨b, o, none⟩) L1 cap) rfl rfl (by kernel_rfl) (by kernel_rfl) (by kernel_rfl) (fun _ _ _ h => h) (Or.inl ⟨by rfl, fun w hSw => ?_⟩) hrP.out ?_
        · first | rfl | go_simp
        try simp only [Act.put, List.setIfInBounds_toArray, List.set_cons_zero, List.set_cons_succ]
        refine take2 8 (some 55) (.int .i64 (L1 : Int)) rfl rfl (by kernel_rfl) (by kernel_rfl) (by kernel_rfl) (fun _ _ _ h => h) (Or.inl ⟨by rfl, fun w hSw => ?_⟩) hrP.out ?_
        · first | rfl | go_simp
        try simp only [Act.put, List.setIfInBounds_toArray, List.set_cons_zero, List.set_cons_succ]
        refine take2 9 (some 56) (.int .i64 (l : Int)) rfl rfl (by kernel_rfl) (by kernel_rfl) (by kernel_rfl) (fun _ _ _ h => h) (Or.inl ⟨by rfl, fun w hSw => ?_⟩) hrP.out ?_
        · first | rfl | go_simp
        try simp only [Act.put, List.setIfInBounds_toArray, List.set_cons_zero, List.set_cons_succ]
        refine take2 10 (some 57) (.slice (some ⟨b, o, none⟩) l cap) rfl rfl (by kernel_rfl) (by kernel_rfl) (by kernel_rfl) (fun _ _ _ h => h) (Or.inl ⟨by rfl, fun w hSw => ?_⟩) hrP.out ?_
        · first | rfl | go_simp
        try simp only [Act.put, List.setIfInBounds_toArray, List.set_cons_zero, List.set_cons_succ]
        refine wpAnyH_ready (rs := [11]) (by kernel_rfl) (by simp) ?_
        refine AllReadyH.cons rfl (fun K hK => ?_) AllReadyH.nil
        go_simp
        refine hK.out _ _ (((Kept.refl no W0).alloc _).rng hrP.out) (fun _ => ?_)
        clear hK K
        try simp only [Act.put, List.setIfInBounds_toArray, List.set_cons_zero, List.set_cons_succ]
        have e1 := hid (heap_alloc_new W0 (.cells Z32 26))
        have q1 := hid ((Kept.refl no W0).alloc (.cells Z32 26))
        unfold Z32 at e1 q1
        generalize hgp : W0.heap.size = gp at e1 ⊢
        have hgp' : Hd (w1.heap.size ≤ gp) := ⟨by rw [← hgp]; exact kd.out.size⟩
        have q0 : Hd (W0.heap.size ≤ gp) := ⟨by rw [hgp]; exact Nat.le_refl _⟩
        clear hgp
        generalize W0.alloc _ = W1 at e1 q1 ⊢
        refine wpAnyH_ready (rs := [12]) (by kernel_rfl) (by simp) ?_
        refine AllReadyH.cons rfl (fun K hK => ?_) AllReadyH.nil
        rw [if_pos (by rfl)]
        refine wp_store_row 26 _ _ rfl gp (PP.map B).toArray rfl rfl 26 _ e1.out (infD hP.out) (Dg_cells hP.out).symm (oneD PP) ?_
        have e2 := hid (setRow_heap W1 gp _ (PP.map B).toArray _ _ e1.out)
        have k2 := hid ((kd.out.trans' q1.out).setRow (g := gp) (.inr hgp'.out) (PP.map B).toArray)
        have s2 := hid ((q1.out.setRow (g := gp) (.inr q0.out) (PP.map B).toArray).rng hrP.out)
        refine hK.out _ _ s2.out (fun _ => ?_)
        clear hK K
        try simp only [Act.put]
        generalize W1.setRow gp _ = W2 at e2 k2 s2 ⊢
        clear hrP kd e1 q1 q0
        refine take2 13 (some 14) (.slice (some ⟨b, o, none⟩) l cap) rfl rfl (by kernel_rfl) (by kernel_rfl) (by kernel_rfl) (fun _ _ _ h => h) (Or.inl ⟨by rfl, fun w hSw => ?_⟩) s2.out ?_
        · first | rfl | go_simp
        try simp only [Act.put, List.setIfInBounds_toArray]
        refine wpAnyH_done (by kernel_rfl) ?_ _
        clear s2
        have kc2 := hid (kc.out.trans' k2.out)
        have gH := hid (k2.out.blk g0.out)
        have gX := hid (k2.out.blk gX0.out)
        have gY := hid (k2.out.blk gY0.out)
        have nx : Hd (w.heap.size + 1 + 1 < gp) := ⟨by have := hgp'.out; have := lt_w1.out; omega⟩
        clear g0 gX0 gY0 kc k2
        obtain ⟨kc, gX0, gY0⟩ := And.intro kc2 (And.intro gX gY)
        clear kc2 gX gY
        go_upto_region 14 with (refine (HH.out _).mono ?_; rintro ed w' ⟨rfl, rfl⟩)
        go_wp2_with (with_reducible refine ld rfl _ rfl w.heap.size rfl H gH.out hHl.out ?_)
        refine (IHP.out W2 (hrd'.out.kept kc.out) (hT.out.kept kc.out)).mono ?_
        rintro ed W3 ⟨⟨X, Y, rfl, hX, hY, hXq⟩, k3⟩
        have kc3 := hid (kc.out.trans' k3)
        have k3s : Hd (gp < W3.heap.size) := ⟨lt_of_heap (k3.blk e2.out)⟩
        have gP3 := hid (k3.blk e2.out)
        have gX3 := hid (k3.blk gX0.out)
        have gY3 := hid (k3.blk gY0.out)
        replace hX := hid hX
        replace hY := hid hY
        replace hXq := hid hXq
        have hZs : Hd ((Z32l.map B).toArray.size = 32) := ⟨rfl⟩
        clear k3 gX0 gY0 kc gH e2
        obtain ⟨W4, hw4, g16, g17, k4⟩ := dg2_block W3 X Y
        have gX0 := hid (k4.blk gX3.out)
        have gY0 := hid (k4.blk gY3.out)
        have gP4 := hid (k4.blk gP3.out)
        have kc := hid (kc3.out.trans' k4)
        have n0 : Hd (((W3.alloc (.cells Z32 26)).alloc (.cells Z32 26)).heap[W3.heap.size]? = some (.cells Z32 26 (0, 0))) := ⟨by rw [heap_alloc_old _ _ (by have := World.size_alloc (w := W3) (o := .cells Z32 26); omega), heap_alloc_new]⟩
        have n1 : Hd ((((W3.alloc (.cells Z32 26)).alloc (.cells Z32 26)).setRow W3.heap.size (X.map B).toArray).heap[W3.heap.size + 1]? = some (.cells Z32 26 (0, 0))) := ⟨by rw [setRow_other _ _ _ _ (by omega), ← World.size_alloc (w := W3) (o := .cells Z32 26), heap_alloc_new]⟩
        have hZ := hid Z32_size
        unfold Z32 at hw4 n0 n1 hZ
        replace hw4 := hid hw4
        replace g16 := hid g16
        replace g17 := hid g17
        clear k4 gX3 gY3 gP3 kc3
        have nxa : Hd (w.heap.size + 1 + 1 < W3.heap.size) := ⟨by have := lt_of_heap gP4.out; have := k3s.out; have := nx.out; omega⟩
        generalize hg16 : W3.heap.size = ga at hw4 g16 g17 n0 n1 nxa
        replace hg16 := hid hg16
        go_upto_region 15 with (first | (with_reducible refine sd rfl _ _ rfl W3.heap.size rfl X rfl _ (by rw [hg16.out]; exact n0.out) hZ.out hX.out ?_; rw [hg16.out]) | (with_reducible refine sd rfl _ _ rfl (ga + 1) rfl Y rfl _ n1.out hZ.out hY.out ?_; rw [← hw4.out]))
        clear hw4 n0 n1 hg16
        have hq : Hd (RbP (rebuildR H m n known (ds' ++ [PP]).reverse) (.returned (.tuple #[Dg (innerD PP X), Dg (innerD PP Y), .bool q.2.2]))) := ⟨by
          rw [hv.out]; exact ⟨_, _, rfl, innerD_length _ _, innerD_length _ _, fun h => ⟨by rw [(hXq.out h).1], by rw [(hXq.out h).2]⟩⟩⟩
        have hI1 := hid (fun W t => node_any PP X W hP.out hX.out t)
        have hI2 := hid (fun W t => node_any PP Y W hP.out hY.out t)
        have hR1 := hid (innerD_length PP X)
        have hR2 := hid (innerD_length PP Y)
        generalize innerD PP X = RX at hq hI1 hR1
        generalize innerD PP Y = RY at hq hI2 hR2
        clear hv hXq
        refine region_flow (S := (frm (w.heap.size + 1))) (Sl := (fun j k => if j = 7 then k = w.heap.size + 1 else k = w.heap.size + 1 + 1)) [Is (Dg PP), Is (Dg X), Is (Dg RX), Is (Dg PP), Is (Dg Y), Is (Dg RY), Is (.bool q.2.2), BlkS (Sl := (fun j k => if j = 7 then k = w.heap.size + 1 else k = w.heap.size + 1 + 1)) (w.heap.size + 1) ((RX).map B).toArray 26 (fun j => j == 8) (fun j hj => by obtain rfl : j = 8 := (by simpa using hj); show ¬ (if 8 = 7 then w.heap.size + 1 = w.heap.size + 1 else w.heap.size + 1 = w.heap.size + 1 + 1); rw [if_neg (by decide)]; omega), BlkS (Sl := (fun j k => if j = 7 then k = w.heap.size + 1 else k = w.heap.size + 1 + 1)) (w.heap.size + 1 + 1) ((RY).map B).toArray 26 (fun j => j == 7) (fun j hj => by obtain rfl : j = 7 := (by simpa using hj); show ¬ (if 7 = 7 then w.heap.size + 1 + 1 = w.heap.size + 1 else w.heap.size + 1 + 1 = w.heap.size + 1 + 1); rw [if_pos rfl]; omega), Is (.bool q.2.2)] [7, 8] (fun j k h => by unfold frm; split at h <;> omega) _ (by kernel_rfl) (by kernel_rfl) (by kernel_rfl) (by kernel_rfl) (fun x => by simp only [puts, Act.put, List.map_cons, List.map_nil, Nat.zero_add, Nat.reduceAdd, List.setIfInBounds_toArray, List.set_cons_zero, List.set_cons_succ]; exact rfl) ?_ ?_
        · skip
          refine Steps.cons (fun x wf Kk hq hdep hold => ?_) ?_
          · try dsimp only
            have Kq := hq (fun k => k = w.heap.size + 1 ∨ k = w.heap.size + 1 + 1) (fun j hj k hk => by obtain ⟨h1, h2⟩ := List.mem_filter.1 hj; rcases (show j = 7 ∨ j = 8 by simpa using h1) with rfl | rfl; ((have hk' : (if 7 = 7 then k = w.heap.size + 1 else k = w.heap.size + 1 + 1) := hk); rw [if_pos rfl] at hk'; exact Or.inl hk'); ((have hk' : (if 8 = 7 then k = w.heap.size + 1 else k = w.heap.size + 1 + 1) := hk); rw [if_neg (by decide)] at hk'; exact Or.inr hk'))
            clear hq hdep hold
            rw [if_pos (by rfl)]
            have gl := (Kq.undrew.block (gp) (lt_of_heap gP4.out) (by show ¬ (gp = w.heap.size + 1 ∨ gp = w.heap.size + 1 + 1); first | omega | (have := nx.out; omega) | (have := nxa.out; omega))).trans gP4.out
            exact yld (.tmp 13) rfl (gp) rfl (PP) gl hP.out ⟨Kept.refl _ _, rfl⟩
          refine Steps.cons (fun x wf Kk hq hdep hold => ?_) ?_
          · try dsimp only
            have Kq := hq (fun k => k = w.heap.size + 1 ∨ k = w.heap.size + 1 + 1) (fun j hj k hk => by obtain ⟨h1, h2⟩ := List.mem_filter.1 hj; rcases (show j = 7 ∨ j = 8 by simpa using h1) with rfl | rfl; ((have hk' : (if 7 = 7 then k = w.heap.size + 1 else k = w.heap.size + 1 + 1) := hk); rw [if_pos rfl] at hk'; exact Or.inl hk'); ((have hk' : (if 8 = 7 then k = w.heap.size + 1 else k = w.heap.size + 1 + 1) := hk); rw [if_neg (by decide)] at hk'; exact Or.inr hk'))
            clear hq hdep hold
            rw [if_pos (by rfl)]
            have gl := (Kq.undrew.block (ga) (lt_of_heap g16.out) (by show ¬ (ga = w.heap.size + 1 ∨ ga = w.heap.size + 1 + 1); first | omega | (have := nx.out; omega) | (have := nxa.out; omega))).trans g16.out
            exact yld (.tmp 19) rfl (ga) rfl (X) gl hX.out ⟨Kept.refl _ _, rfl⟩
          refine Steps.cons (fun x wf Kk hq hdep hold => ?_) ?_
          · try dsimp only
            have h0 : x 0 = (Dg PP) := hdep 0 (by kernel_rfl)
            have h1 : x 1 = (Dg X) := hdep 1 (by kernel_rfl)
            clear hq hdep hold
            simp only [h0, h1]
            clear h0 h1
            rw [if_pos (by rfl)]
            refine OpY.call (f := 63) (args := #[(Dg PP), (Dg X)]) (by go_simp) ?_
            refine (hI1.out wf (hT.out.kept (kc.out.frmB Kk.undrew (Nat.le_succ _)))).mono ?_
            rintro e w2 ⟨rfl, k2⟩
            exact ⟨_, rfl, k2, rfl⟩
          refine Steps.cons (fun x wf Kk hq hdep hold => ?_) ?_
          · try dsimp only
            have Kq := hq (fun k => k = w.heap.size + 1 ∨ k = w.heap.size + 1 + 1) (fun j hj k hk => by obtain ⟨h1, h2⟩ := List.mem_filter.1 hj; rcases (show j = 7 ∨ j = 8 by simpa using h1) with rfl | rfl; ((have hk' : (if 7 = 7 then k = w.heap.size + 1 else k = w.heap.size + 1 + 1) := hk); rw [if_pos rfl] at hk'; exact Or.inl hk'); ((have hk' : (if 8 = 7 then k = w.heap.size + 1 else k = w.heap.size + 1 + 1) := hk); rw [if_neg (by decide)] at hk'; exact Or.inr hk'))
            clear hq hdep hold
            rw [if_pos (by rfl)]
            have gl := (Kq.undrew.block (gp) (lt_of_heap gP4.out) (by show ¬ (gp = w.heap.size + 1 ∨ gp = w.heap.size + 1 + 1); first | omega | (have := nx.out; omega) | (have := nxa.out; omega))).trans gP4.out
            exact yld (.tmp 13) rfl (gp) rfl (PP) gl hP.out ⟨Kept.refl _ _, rfl⟩
          refine Steps.cons (fun x wf Kk hq hdep hold => ?_) ?_
          · try dsimp only
            have Kq := hq (fun k => k = w.heap.size + 1 ∨ k = w.heap.size + 1 + 1) (fun j hj k hk => by obtain ⟨h1, h2⟩ := List.mem_filter.1 hj; rcases (show j = 7 ∨ j = 8 by simpa using h1) with rfl | rfl; ((have hk' : (if 7 = 7 then k = w.heap.size + 1 else k = w.heap.size + 1 + 1) := hk); rw [if_pos rfl] at hk'; exact Or.inl hk'); ((have hk' : (if 8 = 7 then k = w.heap.size + 1 else k = w.heap.size + 1 + 1) := hk); rw [if_neg (by decide)] at hk'; exact Or.inr hk'))
            clear hq hdep hold
            rw [if_pos (by rfl)]
            have gl := (Kq.undrew.block (ga + 1) (lt_of_heap g17.out) (by show ¬ (ga + 1 = w.heap.size + 1 ∨ ga + 1 = w.heap.size + 1 + 1); first | omega | (have := nx.out; omega) | (have := nxa.out; omega))).trans g17.out
            exact yld (.tmp 20) rfl (ga + 1) rfl (Y) gl hY.out ⟨Kept.refl _ _, rfl⟩
          refine Steps.cons (fun x wf Kk hq hdep hold => ?_) ?_
          · try dsimp only
            have h3 : x 3 = (Dg PP) := hdep 3 (by kernel_rfl)
            have h4 : x 4 = (Dg Y) := hdep 4 (by kernel_rfl)
            clear hq hdep hold
            simp only [h3, h4]
            clear h3 h4
            rw [if_pos (by rfl)]
            refine OpY.call (f := 63) (args := #[(Dg PP), (Dg Y)]) (by go_simp) ?_
            refine (hI2.out wf (hT.out.kept (kc.out.frmB Kk.undrew (Nat.le_succ _)))).mono ?_
            rintro e w2 ⟨rfl, k2⟩
            exact ⟨_, rfl, k2, rfl⟩
          refine Steps.cons (fun x wf Kk hq hdep hold => ?_) ?_
          · try dsimp only
            clear hq hdep hold
            rw [if_pos (by rfl)]
            refine OpY.val (v := (.bool q.2.2)) ?_ ⟨Kept.refl _ _, rfl⟩
            first | rfl | go_simp
          refine Steps.cons (fun x wf Kk hq hdep hold => ?_) ?_
          · try dsimp only
            have h2 : x 2 = (Dg RX) := hdep 2 (by kernel_rfl)
            have Kq := hq (fun k => k = w.heap.size + 1 + 1) (fun j hj k hk => by obtain ⟨h1, h2⟩ := List.mem_filter.1 hj; rcases (show j = 7 ∨ j = 8 by simpa using h1) with rfl | rfl; (exact Bool.noConfusion (h2.symm.trans (by kernel_rfl : _ = false))); ((have hk' : (if 8 = 7 then k = w.heap.size + 1 else k = w.heap.size + 1 + 1) := hk); rw [if_neg (by decide)] at hk'; exact hk'))
            clear hq hdep hold
            simp only [h2]
            clear h2
            rw [if_pos (by rfl)]
            have gz := (Kq.undrew.block (w.heap.size + 1) (lt_of_heap gX0.out) (by show ¬ w.heap.size + 1 = w.heap.size + 1 + 1; omega)).trans gX0.out
            refine ysd (.tmp 10) (.tmp 93) rfl (w.heap.size + 1) rfl (RX) rfl _ gz (Dg_cells hz.out) hR1.out ⟨?_, setRow_heap _ _ _ _ _ _ gz⟩
            exact (Kept.refl _ _).setRow (S := fun k => k = w.heap.size + 1) (.inl rfl) _
          refine Steps.cons (fun x wf Kk hq hdep hold => ?_) ?_
          · try dsimp only
            have h5 : x 5 = (Dg RY) := hdep 5 (by kernel_rfl)
            have Kq := hq (fun k => k = w.heap.size + 1) (fun j hj k hk => by obtain ⟨h1, h2⟩ := List.mem_filter.1 hj; rcases (show j = 7 ∨ j = 8 by simpa using h1) with rfl | rfl; ((have hk' : (if 7 = 7 then k = w.heap.size + 1 else k = w.heap.size + 1 + 1) := hk); rw [if_pos rfl] at hk'; exact hk'); (exact Bool.noConfusion (h2.symm.trans (by kernel_rfl : _ = false))))
            clear hq hdep hold
            simp only [h5]
            clear h5
            rw [if_pos (by rfl)]
            have gz := (Kq.undrew.block (w.heap.size + 1 + 1) (lt_of_heap gY0.out) (by show ¬ w.heap.size + 1 + 1 = w.heap.size + 1; omega)).trans gY0.out
            refine ysd (.tmp 11) (.tmp 96) rfl (w.heap.size + 1 + 1) rfl (RY) rfl _ gz (Dg_cells hz.out) hR2.out ⟨?_, setRow_heap _ _ _ _ _ _ gz⟩
            exact (Kept.refl _ _).setRow (S := fun k => k = w.heap.size + 1 + 1) (.inl rfl) _
          refine Steps.cons (fun x wf Kk hq hdep hold => ?_) ?_
          · try dsimp only
            have h6 : x 6 = (.bool q.2.2) := hdep 6 (by kernel_rfl)
            clear hq hdep hold
            simp only [h6]
            clear h6
            rw [if_pos (by rfl)]
            refine OpY.val (v := (.bool q.2.2)) ?_ ⟨Kept.refl _ _, rfl⟩
            first | rfl | go_simp
          exact Steps.nil _
        · intro x wf Kk hv
          try dsimp only
          have h0 : x 0 = (Dg PP) := hv 0 (by kernel_rfl)
          have h1 : x 1 = (Dg X) := hv 1 (by kernel_rfl)
          have h2 : x 2 = (Dg RX) := hv 2 (by kernel_rfl)
          have h3 : x 3 = (Dg PP) := hv 3 (by kernel_rfl)
          have h4 : x 4 = (Dg Y) := hv 4 (by kernel_rfl)
          have h5 : x 5 = (Dg RY) := hv 5 (by kernel_rfl)
          have h6 : x 6 = (.bool q.2.2) := hv 6 (by kernel_rfl)
          have p7 : Pr.p (Sl := (fun j k => if j = 7 then k = w.heap.size + 1 else k = w.heap.size + 1 + 1)) (BlkS (Sl := (fun j k => if j = 7 then k = w.heap.size + 1 else k = w.heap.size + 1 + 1)) (w.heap.size + 1) ((RX).map B).toArray 26 (fun j => j == 8) (fun j hj => by obtain rfl : j = 8 := (by simpa using hj); show ¬ (if 8 = 7 then w.heap.size + 1 = w.heap.size + 1 else w.heap.size + 1 = w.heap.size + 1 + 1); rw [if_neg (by decide)]; omega)) (x 7) wf := hv 7 (by kernel_rfl)
          have p8 : Pr.p (Sl := (fun j k => if j = 7 then k = w.heap.size + 1 else k = w.heap.size + 1 + 1)) (BlkS (Sl := (fun j k => if j = 7 then k = w.heap.size + 1 else k = w.heap.size + 1 + 1)) (w.heap.size + 1 + 1) ((RY).map B).toArray 26 (fun j => j == 7) (fun j hj => by obtain rfl : j = 7 := (by simpa using hj); show ¬ (if 7 = 7 then w.heap.size + 1 + 1 = w.heap.size + 1 else w.heap.size + 1 + 1 = w.heap.size + 1 + 1); rw [if_pos rfl]; omega)) (x 8) wf := hv 8 (by kernel_rfl)
          have h9 : x 9 = (.bool q.2.2) := hv 9 (by kernel_rfl)
          clear hv
          simp only [h0, h1, h2, h3, h4, h5, h6, h9]
          clear h0 h1 h2 h3 h4 h5 h6 h9
          have kz := hid (kc.out.frmB Kk.undrew (Nat.le_succ _))
          have hbx := hid p7
          have hby := hid p8
          clear p7 p8 Kk
          go_wp2_with fail
          refine bodyPost_ret (v := .tuple #[Dg (RX), Dg (RY), .bool q.2.2]) ?_ rfl ?_
          · exact results_dg2_tmp rfl _ _ (w.heap.size + 1) (w.heap.size + 1 + 1) (RX) (RY) _ rfl rfl rfl hbx.out hR1.out hby.out hR2.out
          · exact ⟨hq.out, kz.out⟩
end Go.Proofs.YtknbkhmpnanegaaDoor
