/- electionlaw38.CommitFinds (printed by gen_finds.py). -/
import Derived.Test.YtknbkhmpnanegaaDoorTells
import Derived.Test.YtknbkhmpnanegaaDoorFind2
import Derived.Test.YtknbkhmpnanegaaDoorLess2
import Derived.Test.YtknbkhmpnanegaaDoorFlow2
namespace Go.Proofs.YtknbkhmpnanegaaDoor
open Go.RowKit Go.Mk Go.Sha Go.Cmt
theorem TDigs : ElemT Tryd.prog 33 26 32 32 := .mk' (z := .agg Z32) (by kernel_rfl) (by kernel_rfl) (by kernel_rfl) (by decide)
/-- What the walk of CommitFinds keeps. -/
def SF (gd ga gb gi : Nat) (Ld La Lb : List Value) (a b d : Int) (w : World) : Prop := w.rangeAt gd 0 Ld ∧ w.rangeAt ga 0 La ∧ w.rangeAt gb 0 Lb ∧ S3 gi a b d w
theorem SF.kept {gd ga gb gi : Nat} {Ld La Lb : List Value} {a b d : Int} {w w' : World} (h : SF gd ga gb gi Ld La Lb a b d w) (k : Kept no w w') : SF gd ga gb gi Ld La Lb a b d w' :=
  ⟨fun j u hu => k.cell (h.1 j u hu) id, fun j u hu => k.cell (h.2.1 j u hu) id, fun j u hu => k.cell (h.2.2.1 j u hu) id, h.2.2.2.reads k.reads⟩
/-- Three digests and an imprint in blocks of their own. -/
def RF (gd ga gb gi : Nat) (Ld La Lb : List Value) (a b d : Int) (w : World) : Prop := w.heap[gd]? = some (.cells Ld.toArray 26 (0, 0)) ∧ w.heap[ga]? = some (.cells La.toArray 26 (0, 0)) ∧ w.heap[gb]? = some (.cells Lb.toArray 26 (0, 0)) ∧ S3 gi a b d w
theorem RF.setD {gd ga gb gi : Nat} {Ld La Lb : List Value} {a b d : Int} {w : World} (h : RF gd ga gb gi Ld La Lb a b d w) (M : List Value) (hl : gd < ga ∧ ga < gb ∧ gb < gi) : RF gd ga gb gi M La Lb a b d (w.setRow gd M.toArray) :=
  ⟨setRow_heap _ _ _ _ _ _ h.1, by rw [setRow_other _ _ _ _ (by omega)]; exact h.2.1, by rw [setRow_other _ _ _ _ (by omega)]; exact h.2.2.1, S3.setRow h.2.2.2 _ _ (by omega)⟩
theorem RF.kept {gd ga gb gi : Nat} {Ld La Lb : List Value} {a b d : Int} {w w' : World} (h : RF gd ga gb gi Ld La Lb a b d w) (k : Kept no w w') : RF gd ga gb gi Ld La Lb a b d w' :=
  ⟨(k.block _ (lt_of_heap h.1) id).trans h.1, (k.block _ (lt_of_heap h.2.1) id).trans h.2.1, (k.block _ (lt_of_heap h.2.2.1) id).trans h.2.2.1, h.2.2.2.reads k.reads⟩
theorem setCell_at (w : World) (g j k : Nat) (v : Value) : (w.setCell ⟨g, j, none⟩ v).heap[k]? = if g = k then (w.heap[k]?).map (fun | .cells c e f => .cells (c.setIfInBounds j v) e f | o => o) else w.heap[k]? := by
  unfold World.setCell
  simp only [Array.getElem?_modify]
  rfl
theorem RF.setB {gd ga gb gi : Nat} {Ld La Lb : List Value} {a b d : Int} {w : World} (h : RF gd ga gb gi Ld La Lb a b d w) (j : Nat) (v : Value) (hl : gd < ga ∧ ga < gb ∧ gb < gi) : RF gd ga gb gi Ld La (Lb.set j v) a b d (w.setCell ⟨gb, j, none⟩ v) := by
  have hc : ∀ k, (w.setCell ⟨gb, j, none⟩ v).cell? ⟨gi, k, none⟩ = w.cell? ⟨gi, k, none⟩ := fun k => by
    unfold World.cell?; rw [setCell_at, if_neg (show ¬ gb = gi by omega)]
  refine ⟨?_, ?_, ?_, (hc 0).trans h.2.2.2.1, (hc 1).trans h.2.2.2.2.1, (hc 2).trans h.2.2.2.2.2⟩
  · rw [setCell_at, if_neg (by omega)]; exact h.1
  · rw [setCell_at, if_neg (by omega)]; exact h.2.1
  · rw [setCell_at, if_pos rfl, h.2.2.1]; simp
theorem RF.rowB {gd ga gb gi : Nat} {Ld La Lb : List Value} {a b d : Int} {w : World} (h : RF gd ga gb gi Ld La Lb a b d w) (M : List Value) (hl : gd < ga ∧ ga < gb ∧ gb < gi) : RF gd ga gb gi Ld La M a b d (w.setRow gb M.toArray) :=
  ⟨by rw [setRow_other _ _ _ _ (by omega)]; exact h.1, by rw [setRow_other _ _ _ _ (by omega)]; exact h.2.1, setRow_heap _ _ _ _ _ _ h.2.2.1, S3.setRow h.2.2.2 _ _ (by omega)⟩
theorem RF.SF {gd ga gb gi : Nat} {Ld La Lb : List Value} {a b d : Int} {w : World} (h : RF gd ga gb gi Ld La Lb a b d w) : SF gd ga gb gi Ld La Lb a b d w :=
  ⟨range_row h.1, range_row h.2.1, range_row h.2.2.1, h.2.2.2⟩
theorem four_rows (w : World) (L1 L2 L3 : List Value) (a b d : Int) : ∃ w1 gd ga gb gi, w1 = (((w.alloc (.cells L1.toArray 26)).alloc (.cells L2.toArray 26)).alloc (.cells L3.toArray 26)).alloc (.cells #[.int .i64 a, .int .i64 b, .int .i64 d] 23) ∧ gd = w.heap.size ∧ ga = w.heap.size + 1 ∧ gb = w.heap.size + 1 + 1 ∧ gi = w.heap.size + 1 + 1 + 1 ∧
    w1.heap[gd]? = some (.cells L1.toArray 26 (0, 0)) ∧ w1.heap[ga]? = some (.cells L2.toArray 26 (0, 0)) ∧ w1.heap[gb]? = some (.cells L3.toArray 26 (0, 0)) ∧ S3 gi a b d w1 ∧ Kept no w w1 ∧ Hd (w.heap.size ≤ gd ∧ gd < ga ∧ ga < gb ∧ gb < gi) := by
  have e1 := World.size_alloc (w := w) (o := .cells L1.toArray 26)
  have e2 := World.size_alloc (w := w.alloc (.cells L1.toArray 26)) (o := .cells L2.toArray 26)
  have e3 := World.size_alloc (w := (w.alloc (.cells L1.toArray 26)).alloc (.cells L2.toArray 26)) (o := .cells L3.toArray 26)
  have h4 : ((((w.alloc (.cells L1.toArray 26)).alloc (.cells L2.toArray 26)).alloc (.cells L3.toArray 26)).alloc (.cells #[.int .i64 a, .int .i64 b, .int .i64 d] 23)).heap[w.heap.size + 1 + 1 + 1]? = some (.cells #[.int .i64 a, .int .i64 b, .int .i64 d] 23 (0, 0)) := by
    rw [← e1, ← e2, ← e3, heap_alloc_new]
  refine ⟨_, _, _, _, _, rfl, rfl, rfl, rfl, rfl, ?_, ?_, ?_, ⟨cell_of_row _ _ 0 _ _ _ h4, cell_of_row _ _ 1 _ _ _ h4, cell_of_row _ _ 2 _ _ _ h4⟩, ((((Kept.refl no w).alloc _).alloc _).alloc _).alloc _, ⟨by omega, by omega, by omega, by omega⟩⟩
  · rw [heap_alloc_old _ _ (by omega), heap_alloc_old _ _ (by omega), heap_alloc_old _ _ (by omega), heap_alloc_new]
  · rw [heap_alloc_old _ _ (by omega), heap_alloc_old _ _ (by omega), ← e1, heap_alloc_new]
  · rw [heap_alloc_old _ _ (by omega), ← e1, ← e2, heap_alloc_new]
theorem RdD.take {w : World} {ao : Option Addr} {n cap : Nat} {ds : List (List UInt8)} (h : RdD w (.slice ao n cap) ds) (k : Nat) : RdD w (.slice ao (min n k) cap) (ds.take k) := by
  obtain ⟨hd, hl, _, _, e, h1, h2, h3⟩ := h
  cases e
  have hlen : ((ds.take k).flatMap (·.map B)).length = (ds.take k).length * 32 := by
    have : ∀ l : List (List UInt8), (∀ x ∈ l, x.length = 32) → (l.flatMap (·.map B)).length = l.length * 32 := by
      intro l hl
      induction l with
      | nil => rfl
      | cons x l ih => rw [List.flatMap_cons, List.length_append, List.length_map, hl x (by simp), ih fun y hy => hl y (by simp [hy]), List.length_cons]; omega
    exact this _ fun x hx => hd x (List.mem_of_mem_take hx)
  refine ⟨fun x hx => hd x (List.mem_of_mem_take hx), hlen, ao, cap, by simp [Nat.min_comm], by simp; omega, h2, h3.imp id fun ⟨b, o, e, hc⟩ => ⟨b, o, e, fun j u hj => hc j u ?_⟩⟩
  have hlt := (List.getElem?_eq_some_iff.1 hj).1
  have hs : ds.flatMap (·.map B) = (ds.take k).flatMap (·.map B) ++ (ds.drop k).flatMap (·.map B) := by
    rw [← List.flatMap_append, List.take_append_drop]
  rw [hs, List.getElem?_append_left hlt]
  exact hj

set_option maxRecDepth 100000 in
set_option maxHeartbeats 8000000 in
theorem finds_any (v0 v7 : Value) (ds : List (List UInt8)) (zs : List Int) (X1 X2 X3 : List UInt8) (at_ c a b d : Int) (w : World) (hn : ds.length ≤ 9223372036854775807) (hm : zs.length ≤ 9223372036854775807) (hr : RdD w v0 ds) (hz : RdZ w v7 zs)
    (hX1 : X1.length = 32) (hX2 : X2.length = 32) (hX3 : X3.length = 32) (ha0 : -9223372036854775808 ≤ at_) (ha1 : at_ ≤ 9223372036854775807) (hT : Tab w) (hR : TabR w) :
    Calls Tryd.prog 4 #[v0, .agg (X1.map B).toArray, .agg (X2.map B).toArray, .agg (X3.map B).toArray, .int .i64 at_, .int .i64 c, .agg #[.int .i64 a, .int .i64 b, .int .i64 d], v7] w fun e w' => e = .returned (.bool true) ∧ Kept no w w' := by
  obtain ⟨ao, cap, rfl⟩ := Rd.shapeZ hr.2
  obtain ⟨az, cz, rfl⟩ := Rd.shapeZ hz
  have hcap : ds.length ≤ cap := by obtain ⟨_, _, _, _, e, h1, _⟩ := hr; cases e; exact h1
  have HI := hid (fun w => ints_any az zs.length cz hm (by obtain ⟨_, _, _, e, h1, _⟩ := hz; cases e; exact h1) w)
  have hz9 := RdZ.take hz 9
  have hr12 := RdD.take hr 12
  obtain ⟨ys, hys⟩ : ∃ ys, zs.take 9 = ys := ⟨_, rfl⟩
  obtain ⟨es, hes⟩ : ∃ es, ds.take 12 = es := ⟨_, rfl⟩
  have hyl : ys.length ≤ 9 := by rw [← hys, List.length_take]; omega
  have hel : es.length = min ds.length 12 := by rw [← hes, List.length_take, Nat.min_comm]
  have hq : (if 12 < (ds.length : Int) then (12 : Int) else (ds.length : Int)) = ((min ds.length 12 : Nat) : Int) := by split <;> omega
  have hqc : ((min ds.length 12 : Nat) : Int) ≤ (cap : Int) := by omega
  have hq0 : (0 : Int) ≤ ((min ds.length 12 : Nat) : Int) := by omega
  have hq12 : min ds.length 12 ≤ 12 := Nat.min_le_right _ _
  rw [hys] at hz9
  rw [hes] at hr12
  generalize min zs.length 9 = qz at hz9 HI
  generalize min ds.length 12 = q at hr12 hel hq hqc hq0 hq12
  clear hr hz hys hes
  have hun := Tryd.underlying26
  have hgd := guard_digest
  replace hT := hid hT
  replace hR := hid hR
  replace hz9 := hid hz9
  replace hr12 := hid hr12
  obtain ⟨L1, hL1⟩ : ∃ L, X1.map B = L := ⟨_, rfl⟩
  obtain ⟨L2, hL2⟩ : ∃ L, X2.map B = L := ⟨_, rfl⟩
  obtain ⟨L3, hL3⟩ : ∃ L, X3.map B = L := ⟨_, rfl⟩
  rw [hL1, hL2, hL3]
  replace hL1 := hid hL1
  replace hL2 := hid hL2
  replace hL3 := hid hL3
  go_enter Tryd.func4, Tryd.ntmps4
  go_upto_region 1 with fail
  obtain ⟨w1, gd, ga, gb, gi, hw1, e1, e2, e3, e4, r1, r2, r3, r4, kk, hlt⟩ := four_rows w L1 L2 L3 a b d
  rw [← hw1, ← e4, ← e3, ← e2, ← e1]
  clear hw1 e1 e2 e3 e4
  replace kk := hid kk
  refine wp_region_held_drew (S := fun _ => True) (by kernel_rfl) trivial (fun _ => ?_)
  have kd : Hd (Kept no w w1.drew) := ⟨kk.out.drew⟩
  have RR := hid (show RF gd ga gb gi L1 L2 L3 a b d w1.drew from ⟨r1, r2, r3, r4⟩)
  clear r1 r2 r3 r4 kk
  generalize w1.drew = wd at kd RR ⊢
  refine take2 0 (some 18) (.slice ao ds.length cap) rfl rfl (by kernel_rfl) (by kernel_rfl) (by kernel_rfl) (fun _ _ _ h => h) (Or.inl ⟨by rfl, fun w hSw => ?_⟩) trivial ?_
  · go_simp
  try simp only [Act.put, List.setIfInBounds_toArray, List.set_cons_zero, List.set_cons_succ]
  refine take2 1 (some 19) (.slice ao ds.length cap) rfl rfl (by kernel_rfl) (by kernel_rfl) (by kernel_rfl) (fun _ _ _ h => h) (Or.inl ⟨by rfl, fun w hSw => ?_⟩) trivial ?_
  · go_simp
  try simp only [Act.put, List.setIfInBounds_toArray, List.set_cons_zero, List.set_cons_succ]
  refine take2 2 (some 20) (.int .i64 ds.length) rfl rfl (by kernel_rfl) (by kernel_rfl) (by kernel_rfl) (fun _ _ _ h => h) (Or.inl ⟨by rfl, fun w hSw => ?_⟩) trivial ?_
  · go_simp
  try simp only [Act.put, List.setIfInBounds_toArray, List.set_cons_zero, List.set_cons_succ]
  refine take2 3 (some 21) (.int .i64 q) rfl rfl (by kernel_rfl) (by kernel_rfl) (by kernel_rfl) (fun _ _ _ h => h) (Or.inl ⟨by rfl, fun w hSw => ?_⟩) trivial ?_
  · go_simp
  try simp only [Act.put, List.setIfInBounds_toArray, List.set_cons_zero, List.set_cons_succ]
  refine take2 4 (some 22) (.slice ao q cap) rfl rfl (by kernel_rfl) (by kernel_rfl) (by kernel_rfl) (fun _ _ _ h => h) (Or.inl ⟨by rfl, fun w hSw => ?_⟩) trivial ?_
  · go_simp
  try simp only [Act.put, List.setIfInBounds_toArray, List.set_cons_zero, List.set_cons_succ]
  refine take2 5 (some 23) (.slice az zs.length cz) rfl rfl (by kernel_rfl) (by kernel_rfl) (by kernel_rfl) (fun _ _ _ h => h) (Or.inl ⟨by rfl, fun w hSw => ?_⟩) trivial ?_
  · go_simp
  try simp only [Act.put, List.setIfInBounds_toArray, List.set_cons_zero, List.set_cons_succ]
  refine wpAnyH_ready (rs := [6]) (by kernel_rfl) (by simp) ?_
  refine AllReadyH.cons rfl (fun K hK => ?_) AllReadyH.nil
  go_simp
  refine (HI.out _).mono ?_
  rintro e w' ⟨rfl, rfl⟩
  refine hK.out _ _ trivial (fun _ => ?_)
  clear hK K
  try simp only [Act.put, List.setIfInBounds_toArray, List.set_cons_zero, List.set_cons_succ]
  refine take2 7 (some 0) (.slice ao q cap) rfl rfl (by kernel_rfl) (by kernel_rfl) (by kernel_rfl) (fun _ _ _ h => h) (Or.inl ⟨by rfl, fun w hSw => ?_⟩) trivial ?_
  · go_simp
  try simp only [Act.put, List.setIfInBounds_toArray, List.set_cons_zero]
  refine take2 8 (some 7) (.slice az qz cz) rfl rfl (by kernel_rfl) (by kernel_rfl) (by kernel_rfl) (fun _ _ _ h => h) (Or.inl ⟨by rfl, fun w hSw => ?_⟩) trivial ?_
  · go_simp
  try simp only [Act.put, List.setIfInBounds_toArray, List.set_cons_zero, List.set_cons_succ]
  refine wpAnyH_done (by kernel_rfl) ?_ _
  go_upto_region 2 with fail
  rename_i K1 a1 K0 a0
  have rest4 : Hd (∀ (t18 t19 t20 t21 t22 t23 t24 t25 t26 t27 t28 t29 t30 t31 t32 t33 t34 t35 t36 t37 t38 : Value) (X : List UInt8) (Ld : List Value) (w' : World), X.length = 32 → Hd (X.map B = Ld) → Hd (RF gd ga gb gi Ld L2 L3 a b d w') → Hd (Kept no w w') → K1 { tmps := List.toArray ((Value.slice ao q cap) :: (.agg L1.toArray) :: (.agg L2.toArray) :: (.agg L3.toArray) :: (.int .i64 at_) :: (.int .i64 c) :: (.agg #[.int .i64 a, .int .i64 b, .int .i64 d]) :: (.slice az qz cz) :: (undef) :: (.pointer (some ⟨gd, 0, none⟩)) :: (.pointer (some ⟨ga, 0, none⟩)) :: (.pointer (some ⟨gb, 0, none⟩)) :: (undef) :: (undef) :: (.pointer (some ⟨gi, 0, none⟩)) :: (undef) :: (.bool false) :: (undef) :: (t18) :: (t19) :: (t20) :: (t21) :: (t22) :: (t23) :: (t24) :: (t25) :: (t26) :: (t27) :: (t28) :: (t29) :: (t30) :: (t31) :: (t32) :: (t33) :: (t34) :: (t35) :: (t36) :: (t37) :: (t38) :: (undef) :: (undef) :: (undef) :: (undef) :: (undef) :: (undef) :: (undef) :: (undef) :: (undef) :: (undef) :: (undef) :: (undef) :: (undef) :: (undef) :: (undef) :: (undef) :: (undef) :: (undef) :: (undef) :: (undef) :: (undef) :: (undef) :: (undef) :: (undef) :: (undef) :: (undef) :: (undef) :: (undef) :: (undef) :: (undef) :: (undef) :: (undef) :: (undef) :: (undef) :: (undef) :: (undef) :: (undef) :: (undef) :: (undef) :: (undef) :: (undef) :: (undef) :: (undef) :: (undef) :: (undef) :: (undef) :: (undef) :: (undef) :: (undef) :: (undef) :: (undef) :: (undef) :: (undef) :: (undef) :: (undef) :: (undef) :: (undef) :: (undef) :: (undef) :: (undef) :: (undef) :: (undef) :: (undef) :: (undef) :: (undef) :: (undef) :: (undef) :: (undef) :: (undef) :: (undef) :: (undef) :: (undef) :: (undef) :: (undef) :: (undef) :: (undef) :: (undef) :: []), defers := [] } w') := ⟨by
    clear K0 a0 RR kd
    intro t18 t19 t20 t21 t22 t23 t24 t25 t26 t27 t28 t29 t30 t31 t32 t33 t34 t35 t36 t37 t38 X Ld w' hX hLd RR kd
    apply a1
    go_upto_region 4 with fail
    rename_i K2 a2 K3 a3
    have rest7 : Hd (∀ (t18 t19 t20 t21 t22 t23 t24 t25 t26 t27 t28 t29 t30 t31 t32 t33 t34 t35 t36 t37 t38 t39 t40 t41 t42 t43 t44 t45 t46 t47 t48 : Value) (Y : List UInt8) (Lb : List Value) (w' : World), Y.length = 32 → Hd (Y.map B = Lb) → Hd (RF gd ga gb gi Ld L2 Lb a b d w') → Hd (Kept no w w') → K2 { tmps := List.toArray ((Value.slice ao q cap) :: (.agg L1.toArray) :: (.agg L2.toArray) :: (.agg L3.toArray) :: (.int .i64 at_) :: (.int .i64 c) :: (.agg #[.int .i64 a, .int .i64 b, .int .i64 d]) :: (.slice az qz cz) :: (undef) :: (.pointer (some ⟨gd, 0, none⟩)) :: (.pointer (some ⟨ga, 0, none⟩)) :: (.pointer (some ⟨gb, 0, none⟩)) :: (undef) :: (undef) :: (.pointer (some ⟨gi, 0, none⟩)) :: (undef) :: (.bool false) :: (undef) :: (t18) :: (t19) :: (t20) :: (t21) :: (t22) :: (t23) :: (t24) :: (t25) :: (t26) :: (t27) :: (t28) :: (t29) :: (t30) :: (t31) :: (t32) :: (t33) :: (t34) :: (t35) :: (t36) :: (t37) :: (t38) :: (t39) :: (t40) :: (t41) :: (t42) :: (t43) :: (t44) :: (t45) :: (t46) :: (t47) :: (t48) :: (undef) :: (undef) :: (undef) :: (undef) :: (undef) :: (undef) :: (undef) :: (undef) :: (undef) :: (undef) :: (undef) :: (undef) :: (undef) :: (undef) :: (undef) :: (undef) :: (undef) :: (undef) :: (undef) :: (undef) :: (undef) :: (undef) :: (undef) :: (undef) :: (undef) :: (undef) :: (undef) :: (undef) :: (undef) :: (undef) :: (undef) :: (undef) :: (undef) :: (undef) :: (undef) :: (undef) :: (undef) :: (undef) :: (undef) :: (undef) :: (undef) :: (undef) :: (undef) :: (undef) :: (undef) :: (undef) :: (undef) :: (undef) :: (undef) :: (undef) :: (undef) :: (undef) :: (undef) :: (undef) :: (undef) :: (undef) :: (undef) :: (undef) :: (undef) :: (undef) :: (undef) :: (undef) :: (undef) :: (undef) :: (undef) :: (undef) :: (undef) :: []), defers := [] } w') := ⟨by
      clear K3 a3 RR kd
      intro t18 t19 t20 t21 t22 t23 t24 t25 t26 t27 t28 t29 t30 t31 t32 t33 t34 t35 t36 t37 t38 t39 t40 t41 t42 t43 t44 t45 t46 t47 t48 Y Lb w' hY hLb RR kd
      apply a2
      go_upto_region 7 with fail
      have infL2 : Hd ((Tryd.prog.info? 26).map (·.size) = some L2.length) := ⟨by rw [← hL2.out, List.length_map, hX2]; kernel_rfl⟩
      have infLb : Hd ((Tryd.prog.info? 26).map (·.size) = some Lb.length) := ⟨by rw [← hLb.out, List.length_map, hY]; kernel_rfl⟩
      have infLd : Hd ((Tryd.prog.info? 26).map (·.size) = some Ld.length) := ⟨by rw [← hLd.out, List.length_map, hX]; kernel_rfl⟩
      have hes : Hd (es.length ≤ 1000000 ∧ q ≤ 12 ∧ es.length = q) := ⟨by omega, by omega, hel⟩
      have hyz : Hd (ys.length ≤ 1000) := ⟨by omega⟩
      obtain ⟨l1, hl1⟩ : ∃ l, lessD X2 Y = l := ⟨_, rfl⟩
      obtain ⟨l2, hl2⟩ : ∃ l, lessD Y X2 = l := ⟨_, rfl⟩
      obtain ⟨q1, hq1⟩ : ∃ l, findD es X = l := ⟨_, rfl⟩
      obtain ⟨C, hC⟩ : ∃ l, commitD X [c, a, b, d] ys = l := ⟨_, rfl⟩
      have lC : Hd (C.length = 32) := ⟨by rw [← hC]; exact sum_length _⟩
      obtain ⟨Lc, hLc⟩ : ∃ l, C.map B = l := ⟨_, rfl⟩
      obtain ⟨q2, hq2⟩ : ∃ l, findD (es ++ [C]) C = l := ⟨_, rfl⟩
      obtain ⟨q3, hq3⟩ : ∃ l, findD es C = l := ⟨_, rfl⟩
      have HL1 : Hd (∀ w, Calls Tryd.prog 21 #[.agg L2.toArray, .agg Lb.toArray] w fun e w' => e = .returned (.bool l1) ∧ Kept no w w') := ⟨fun w => by rw [← hL2.out, ← hLb.out, ← hl1]; exact less_any X2 Y w hX2 hY⟩
      have HL2 : Hd (∀ w, Calls Tryd.prog 22 #[.agg L2.toArray, .agg Lb.toArray] w fun e w' => e = .returned (.bool l1) ∧ Kept no w w') := ⟨fun w => by rw [← hL2.out, ← hLb.out, ← hl1]; exact refless_any X2 Y w hX2 hY⟩
      have HL3 : Hd (∀ w, Calls Tryd.prog 21 #[.agg Lb.toArray, .agg L2.toArray] w fun e w' => e = .returned (.bool l2) ∧ Kept no w w') := ⟨fun w => by rw [← hL2.out, ← hLb.out, ← hl2]; exact less_any Y X2 w hY hX2⟩
      have HL4 : Hd (∀ w, Calls Tryd.prog 22 #[.agg Lb.toArray, .agg L2.toArray] w fun e w' => e = .returned (.bool l2) ∧ Kept no w w') := ⟨fun w => by rw [← hL2.out, ← hLb.out, ← hl2]; exact refless_any Y X2 w hY hX2⟩
      have HF1 : Hd (∀ w, RdD w (.slice ao q cap) es → Calls Tryd.prog 23 #[.slice ao q cap, .agg Ld.toArray] w fun e w' => e = .returned (.int .i64 q1) ∧ Kept no w w') := ⟨fun w h => by rw [← hLd.out, ← hq1]; exact find_any _ es X w hX hes.out.1 h⟩
      have HF2 : Hd (∀ w, RdD w (.slice ao q cap) es → Calls Tryd.prog 24 #[.slice ao q cap, .agg Ld.toArray] w fun e w' => e = .returned (.int .i64 q1) ∧ Kept no w w') := ⟨fun w h => by rw [← hLd.out, ← hq1]; exact reffind_any _ es X w hX hes.out.1 h⟩
      have HC : Hd (∀ w, RdZ w (.slice az qz cz) ys → TabR w → Calls Tryd.prog 19 #[.agg Ld.toArray, .int .i64 c, .agg #[.int .i64 a, .int .i64 b, .int .i64 d], .slice az qz cz] w fun e w' => e = .returned (.agg Lc.toArray) ∧ Kept no w w') := ⟨fun w h1 h2 => by rw [← hLd.out, ← hLc, ← hC]; exact refcommit_any _ X ys c a b d w hX (by have := hyz.out; omega) h1 h2⟩
      have HV2 : Hd (∀ v w, RdD w v (es ++ [C]) → RdZ w (.slice az qz cz) ys → Tab w → Calls Tryd.prog 25 #[v, .agg Ld.toArray, .int .i64 c, .agg #[.int .i64 a, .int .i64 b, .int .i64 d], .slice az qz cz] w fun e w' => e = .returned (.int .i64 q2) ∧ Kept no w w') := ⟨fun v w h1 h2 h3 => by rw [← hLd.out, ← hq2]; have := verify_any v _ (es ++ [C]) X c a b d ys w hX hyz.out (by have := hes.out.2; simp; omega) h1 h2 h3; rwa [hC] at this⟩
      have HV3 : Hd (∀ w, RdD w (.slice ao q cap) es → RdZ w (.slice az qz cz) ys → Tab w → Calls Tryd.prog 25 #[.slice ao q cap, .agg Ld.toArray, .int .i64 c, .agg #[.int .i64 a, .int .i64 b, .int .i64 d], .slice az qz cz] w fun e w' => e = .returned (.int .i64 q3) ∧ Kept no w w') := ⟨fun w h1 h2 h3 => by rw [← hLd.out, ← hq3]; have := verify_any _ _ es X c a b d ys w hX hyz.out hes.out.1 h1 h2 h3; rwa [hC] at this⟩
      have HG2 : Hd (∀ v w, RdD w v (es ++ [C]) → Calls Tryd.prog 24 #[v, .agg Lc.toArray] w fun e w' => e = .returned (.int .i64 q2) ∧ Kept no w w') := ⟨fun v w h => by rw [← hLc, ← hq2]; exact reffind_any v (es ++ [C]) C w lC.out (by have := hes.out.2; simp; omega) h⟩
      have HG3 : Hd (∀ w, RdD w (.slice ao q cap) es → Calls Tryd.prog 24 #[.slice ao q cap, .agg Lc.toArray] w fun e w' => e = .returned (.int .i64 q3) ∧ Kept no w w') := ⟨fun w h => by rw [← hLc, ← hq3]; exact reffind_any _ es C w lC.out hes.out.1 h⟩
      have HA := hid (fun w hT hR => awake38_any w hT hR)
      have hXs : Hd (∀ x ∈ es, x.length = 32) := ⟨hr12.out.1⟩
      have lLc : Hd (Lc.length = 32) := ⟨by rw [← hLc, List.length_map, lC.out]⟩
      have oneLc : Hd (∀ u ∈ Lc, u.oneCell' = true) := ⟨by rw [← hLc]; exact B_one _⟩
      have hfill : Hd (Instr.fill (fun i => some (i * 32, 32)) ((Array.range (1 * 32)).map ((Value.agg Z32).cells[· % (Value.agg Z32).cells.size]!)) [(0, .agg Lc.toArray)] = some Lc.toArray) := ⟨by
        have := fill_rows 32 (by decide) (.agg Z32) [.agg Lc.toArray] (by intro v hv; obtain rfl : v = .agg Lc.toArray := by simpa using hv
                                                                          exact lLc.out)
        simpa [Value.cells] using this⟩
      have hflat : Hd (es.flatMap (·.map B) ++ Lc = (es ++ [C]).flatMap (·.map B)) := ⟨by simp [hLc]⟩
      clear hl1 hl2 hq1 hC hLc hq2 hq3 hel hq12 hqc hq0 hyl hlt
      replace hX := hid hX
      replace hY := hid hY

      refine region_flow (S := no) [Is (.agg L2.toArray), Is (.agg Lb.toArray), Is (.bool l1), Is (.agg L2.toArray), Is (.agg Lb.toArray), Is (.bool l1), Is (.bool false), Is (.bool false), Is (.agg Lb.toArray), Is (.agg L2.toArray), Is (.bool l2), Is (.agg Lb.toArray), Is (.agg L2.toArray), Is (.bool l2), Is (.bool false), Is (.bool false), Is (.bool false), Is (.slice ao q cap), Is (.agg Ld.toArray), Is (.int .i64 q1), Is (.slice ao q cap), Is (.agg Ld.toArray), Is (.int .i64 q1), Is (.bool false), Is (.bool false)] [] _ (by kernel_rfl) (by kernel_rfl) (by kernel_rfl) (fun x => by simp only [puts, Act.put, List.map_cons, List.map_nil, Nat.zero_add, Nat.reduceAdd, List.setIfInBounds_toArray, List.set_cons_zero, List.set_cons_succ]; exact rfl) ?_ ?_
      · skip
        refine Steps.cons (fun x wf Kk hdep hold => ?_) ?_
        · try dsimp only
          clear hdep hold
          rw [if_pos (by rfl)]
          exact OpY.row 26 _ rfl ga 0 rfl L2 _ ((RF.kept RR.out Kk.undrew).SF.2.1) hun rfl infL2.out ⟨Kept.refl _ _, rfl⟩
        refine Steps.cons (fun x wf Kk hdep hold => ?_) ?_
        · try dsimp only
          clear hdep hold
          rw [if_pos (by rfl)]
          exact OpY.row 26 _ rfl gb 0 rfl Lb _ ((RF.kept RR.out Kk.undrew).SF.2.2.1) hun rfl infLb.out ⟨Kept.refl _ _, rfl⟩
        refine Steps.cons (fun x wf Kk hdep hold => ?_) ?_
        · try dsimp only
          have h0 : x 0 = (.agg L2.toArray) := hdep 0 (by kernel_rfl)
          have h1 : x 1 = (.agg Lb.toArray) := hdep 1 (by kernel_rfl)
          clear hdep hold
          simp only [h0, h1]
          clear h0 h1
          rw [if_pos (by rfl)]
          refine OpY.call (f := 21) (args := #[(.agg L2.toArray), (.agg Lb.toArray)]) (by go_simp) ?_
          refine (HL1.out _).mono ?_
          rintro e w2 ⟨rfl, k2⟩
          exact ⟨_, rfl, k2, rfl⟩
        refine Steps.cons (fun x wf Kk hdep hold => ?_) ?_
        · try dsimp only
          clear hdep hold
          rw [if_pos (by rfl)]
          exact OpY.row 26 _ rfl ga 0 rfl L2 _ ((RF.kept RR.out Kk.undrew).SF.2.1) hun rfl infL2.out ⟨Kept.refl _ _, rfl⟩
        refine Steps.cons (fun x wf Kk hdep hold => ?_) ?_
        · try dsimp only
          clear hdep hold
          rw [if_pos (by rfl)]
          exact OpY.row 26 _ rfl gb 0 rfl Lb _ ((RF.kept RR.out Kk.undrew).SF.2.2.1) hun rfl infLb.out ⟨Kept.refl _ _, rfl⟩
        refine Steps.cons (fun x wf Kk hdep hold => ?_) ?_
        · try dsimp only
          have h3 : x 3 = (.agg L2.toArray) := hdep 3 (by kernel_rfl)
          have h4 : x 4 = (.agg Lb.toArray) := hdep 4 (by kernel_rfl)
          clear hdep hold
          simp only [h3, h4]
          clear h3 h4
          rw [if_pos (by rfl)]
          refine OpY.call (f := 22) (args := #[(.agg L2.toArray), (.agg Lb.toArray)]) (by go_simp) ?_
          refine (HL2.out _).mono ?_
          rintro e w2 ⟨rfl, k2⟩
          exact ⟨_, rfl, k2, rfl⟩
        refine Steps.cons (fun x wf Kk hdep hold => ?_) ?_
        · try dsimp only
          have h2 : x 2 = (.bool l1) := hdep 2 (by kernel_rfl)
          have h5 : x 5 = (.bool l1) := hdep 5 (by kernel_rfl)
          clear hdep hold
          simp only [h2, h5]
          clear h2 h5
          rw [if_pos (by rfl)]
          refine OpY.val (v := (.bool false)) ?_ ⟨Kept.refl _ _, rfl⟩
          first | rfl | go_simp
        refine Steps.cons (fun x wf Kk hdep hold => ?_) ?_
        · try dsimp only
          have h6 : x 6 = (.bool false) := hdep 6 (by kernel_rfl)
          clear hdep hold
          simp only [h6]
          clear h6
          rw [if_pos (by rfl)]
          refine OpY.val (v := (.bool false)) ?_ ⟨Kept.refl _ _, rfl⟩
          first | rfl | go_simp
        refine Steps.cons (fun x wf Kk hdep hold => ?_) ?_
        · try dsimp only
          have h7 : x 7 = (.bool false) := hdep 7 (by kernel_rfl)
          clear hdep hold
          simp only [h7]
          clear h7
          rw [if_pos (by rfl)]
          exact OpY.row 26 _ rfl gb 0 rfl Lb _ ((RF.kept RR.out Kk.undrew).SF.2.2.1) hun rfl infLb.out ⟨Kept.refl _ _, rfl⟩
        refine Steps.cons (fun x wf Kk hdep hold => ?_) ?_
        · try dsimp only
          have h7 : x 7 = (.bool false) := hdep 7 (by kernel_rfl)
          clear hdep hold
          simp only [h7]
          clear h7
          rw [if_pos (by rfl)]
          exact OpY.row 26 _ rfl ga 0 rfl L2 _ ((RF.kept RR.out Kk.undrew).SF.2.1) hun rfl infL2.out ⟨Kept.refl _ _, rfl⟩
        refine Steps.cons (fun x wf Kk hdep hold => ?_) ?_
        · try dsimp only
          have h8 : x 8 = (.agg Lb.toArray) := hdep 8 (by kernel_rfl)
          have h9 : x 9 = (.agg L2.toArray) := hdep 9 (by kernel_rfl)
          have h7 : x 7 = (.bool false) := hdep 7 (by kernel_rfl)
          clear hdep hold
          simp only [h8, h9, h7]
          clear h8 h9 h7
          rw [if_pos (by rfl)]
          refine OpY.call (f := 21) (args := #[(.agg Lb.toArray), (.agg L2.toArray)]) (by go_simp) ?_
          refine (HL3.out _).mono ?_
          rintro e w2 ⟨rfl, k2⟩
          exact ⟨_, rfl, k2, rfl⟩
        refine Steps.cons (fun x wf Kk hdep hold => ?_) ?_
        · try dsimp only
          have h7 : x 7 = (.bool false) := hdep 7 (by kernel_rfl)
          clear hdep hold
          simp only [h7]
          clear h7
          rw [if_pos (by rfl)]
          exact OpY.row 26 _ rfl gb 0 rfl Lb _ ((RF.kept RR.out Kk.undrew).SF.2.2.1) hun rfl infLb.out ⟨Kept.refl _ _, rfl⟩
        refine Steps.cons (fun x wf Kk hdep hold => ?_) ?_
        · try dsimp only
          have h7 : x 7 = (.bool false) := hdep 7 (by kernel_rfl)
          clear hdep hold
          simp only [h7]
          clear h7
          rw [if_pos (by rfl)]
          exact OpY.row 26 _ rfl ga 0 rfl L2 _ ((RF.kept RR.out Kk.undrew).SF.2.1) hun rfl infL2.out ⟨Kept.refl _ _, rfl⟩
        refine Steps.cons (fun x wf Kk hdep hold => ?_) ?_
        · try dsimp only
          have h11 : x 11 = (.agg Lb.toArray) := hdep 11 (by kernel_rfl)
          have h12 : x 12 = (.agg L2.toArray) := hdep 12 (by kernel_rfl)
          have h7 : x 7 = (.bool false) := hdep 7 (by kernel_rfl)
          clear hdep hold
          simp only [h11, h12, h7]
          clear h11 h12 h7
          rw [if_pos (by rfl)]
          refine OpY.call (f := 22) (args := #[(.agg Lb.toArray), (.agg L2.toArray)]) (by go_simp) ?_
          refine (HL4.out _).mono ?_
          rintro e w2 ⟨rfl, k2⟩
          exact ⟨_, rfl, k2, rfl⟩
        refine Steps.cons (fun x wf Kk hdep hold => ?_) ?_
        · try dsimp only
          have h10 : x 10 = (.bool l2) := hdep 10 (by kernel_rfl)
          have h13 : x 13 = (.bool l2) := hdep 13 (by kernel_rfl)
          have h7 : x 7 = (.bool false) := hdep 7 (by kernel_rfl)
          clear hdep hold
          simp only [h10, h13, h7]
          clear h10 h13 h7
          rw [if_pos (by rfl)]
          refine OpY.val (v := (.bool false)) ?_ ⟨Kept.refl _ _, rfl⟩
          first | rfl | go_simp
        refine Steps.cons (fun x wf Kk hdep hold => ?_) ?_
        · try dsimp only
          have h7 : x 7 = (.bool false) := hdep 7 (by kernel_rfl)
          have h14 : x 14 = (.bool false) := hdep 14 (by kernel_rfl)
          clear hdep hold
          simp only [h7, h14]
          clear h7 h14
          rw [if_pos (by rfl)]
          refine OpY.val (v := (.bool false)) ?_ ⟨Kept.refl _ _, rfl⟩
          first | rfl | go_simp
        refine Steps.cons (fun x wf Kk hdep hold => ?_) ?_
        · try dsimp only
          have h15 : x 15 = (.bool false) := hdep 15 (by kernel_rfl)
          clear hdep hold
          simp only [h15]
          clear h15
          rw [if_pos (by rfl)]
          refine OpY.val (v := (.bool false)) ?_ ⟨Kept.refl _ _, rfl⟩
          first | rfl | go_simp
        refine Steps.cons (fun x wf Kk hdep hold => ?_) ?_
        · try dsimp only
          have h16 : x 16 = (.bool false) := hdep 16 (by kernel_rfl)
          clear hdep hold
          simp only [h16]
          clear h16
          rw [if_pos (by rfl)]
          refine OpY.val (v := (.slice ao q cap)) ?_ ⟨Kept.refl _ _, rfl⟩
          first | rfl | go_simp
        refine Steps.cons (fun x wf Kk hdep hold => ?_) ?_
        · try dsimp only
          have h16 : x 16 = (.bool false) := hdep 16 (by kernel_rfl)
          clear hdep hold
          simp only [h16]
          clear h16
          rw [if_pos (by rfl)]
          exact OpY.row 26 _ rfl gd 0 rfl Ld _ ((RF.kept RR.out Kk.undrew).SF.1) hun rfl infLd.out ⟨Kept.refl _ _, rfl⟩
        refine Steps.cons (fun x wf Kk hdep hold => ?_) ?_
        · try dsimp only
          have h17 : x 17 = (.slice ao q cap) := hdep 17 (by kernel_rfl)
          have h18 : x 18 = (.agg Ld.toArray) := hdep 18 (by kernel_rfl)
          have h16 : x 16 = (.bool false) := hdep 16 (by kernel_rfl)
          clear hdep hold
          simp only [h17, h18, h16]
          clear h17 h18 h16
          rw [if_pos (by rfl)]
          refine OpY.call (f := 23) (args := #[(.slice ao q cap), (.agg Ld.toArray)]) (by go_simp) ?_
          refine (HF1.out _ (hr12.out.kept (kd.out.trans' Kk.undrew))).mono ?_
          rintro e w2 ⟨rfl, k2⟩
          exact ⟨_, rfl, k2, rfl⟩
        refine Steps.cons (fun x wf Kk hdep hold => ?_) ?_
        · try dsimp only
          have h16 : x 16 = (.bool false) := hdep 16 (by kernel_rfl)
          clear hdep hold
          simp only [h16]
          clear h16
          rw [if_pos (by rfl)]
          refine OpY.val (v := (.slice ao q cap)) ?_ ⟨Kept.refl _ _, rfl⟩
          first | rfl | go_simp
        refine Steps.cons (fun x wf Kk hdep hold => ?_) ?_
        · try dsimp only
          have h16 : x 16 = (.bool false) := hdep 16 (by kernel_rfl)
          clear hdep hold
          simp only [h16]
          clear h16
          rw [if_pos (by rfl)]
          exact OpY.row 26 _ rfl gd 0 rfl Ld _ ((RF.kept RR.out Kk.undrew).SF.1) hun rfl infLd.out ⟨Kept.refl _ _, rfl⟩
        refine Steps.cons (fun x wf Kk hdep hold => ?_) ?_
        · try dsimp only
          have h20 : x 20 = (.slice ao q cap) := hdep 20 (by kernel_rfl)
          have h21 : x 21 = (.agg Ld.toArray) := hdep 21 (by kernel_rfl)
          have h16 : x 16 = (.bool false) := hdep 16 (by kernel_rfl)
          clear hdep hold
          simp only [h20, h21, h16]
          clear h20 h21 h16
          rw [if_pos (by rfl)]
          refine OpY.call (f := 24) (args := #[(.slice ao q cap), (.agg Ld.toArray)]) (by go_simp) ?_
          refine (HF2.out _ (hr12.out.kept (kd.out.trans' Kk.undrew))).mono ?_
          rintro e w2 ⟨rfl, k2⟩
          exact ⟨_, rfl, k2, rfl⟩
        refine Steps.cons (fun x wf Kk hdep hold => ?_) ?_
        · try dsimp only
          have h19 : x 19 = (.int .i64 q1) := hdep 19 (by kernel_rfl)
          have h22 : x 22 = (.int .i64 q1) := hdep 22 (by kernel_rfl)
          have h16 : x 16 = (.bool false) := hdep 16 (by kernel_rfl)
          clear hdep hold
          simp only [h19, h22, h16]
          clear h19 h22 h16
          rw [if_pos (by rfl)]
          refine OpY.val (v := (.bool false)) ?_ ⟨Kept.refl _ _, rfl⟩
          first | rfl | go_simp
        refine Steps.cons (fun x wf Kk hdep hold => ?_) ?_
        · try dsimp only
          have h16 : x 16 = (.bool false) := hdep 16 (by kernel_rfl)
          have h23 : x 23 = (.bool false) := hdep 23 (by kernel_rfl)
          clear hdep hold
          simp only [h16, h23]
          clear h16 h23
          rw [if_pos (by rfl)]
          refine OpY.val (v := (.bool false)) ?_ ⟨Kept.refl _ _, rfl⟩
          first | rfl | go_simp
        exact Steps.nil _
      · intro x wf Kk hv
        try dsimp only
        have h0 : x 0 = (.agg L2.toArray) := hv 0 (by kernel_rfl)
        have h1 : x 1 = (.agg Lb.toArray) := hv 1 (by kernel_rfl)
        have h2 : x 2 = (.bool l1) := hv 2 (by kernel_rfl)
        have h3 : x 3 = (.agg L2.toArray) := hv 3 (by kernel_rfl)
        have h4 : x 4 = (.agg Lb.toArray) := hv 4 (by kernel_rfl)
        have h5 : x 5 = (.bool l1) := hv 5 (by kernel_rfl)
        have h6 : x 6 = (.bool false) := hv 6 (by kernel_rfl)
        have h7 : x 7 = (.bool false) := hv 7 (by kernel_rfl)
        have h8 : x 8 = (.agg Lb.toArray) := hv 8 (by kernel_rfl)
        have h9 : x 9 = (.agg L2.toArray) := hv 9 (by kernel_rfl)
        have h10 : x 10 = (.bool l2) := hv 10 (by kernel_rfl)
        have h11 : x 11 = (.agg Lb.toArray) := hv 11 (by kernel_rfl)
        have h12 : x 12 = (.agg L2.toArray) := hv 12 (by kernel_rfl)
        have h13 : x 13 = (.bool l2) := hv 13 (by kernel_rfl)
        have h14 : x 14 = (.bool false) := hv 14 (by kernel_rfl)
        have h15 : x 15 = (.bool false) := hv 15 (by kernel_rfl)
        have h16 : x 16 = (.bool false) := hv 16 (by kernel_rfl)
        have h17 : x 17 = (.slice ao q cap) := hv 17 (by kernel_rfl)
        have h18 : x 18 = (.agg Ld.toArray) := hv 18 (by kernel_rfl)
        have h19 : x 19 = (.int .i64 q1) := hv 19 (by kernel_rfl)
        have h20 : x 20 = (.slice ao q cap) := hv 20 (by kernel_rfl)
        have h21 : x 21 = (.agg Ld.toArray) := hv 21 (by kernel_rfl)
        have h22 : x 22 = (.int .i64 q1) := hv 22 (by kernel_rfl)
        have h23 : x 23 = (.bool false) := hv 23 (by kernel_rfl)
        have h24 : x 24 = (.bool false) := hv 24 (by kernel_rfl)
        clear hv
        simp only [h0, h1, h2, h3, h4, h5, h6, h7, h8, h9, h10, h11, h12, h13, h14, h15, h16, h17, h18, h19, h20, h21, h22, h23, h24]
        clear h0 h1 h2 h3 h4 h5 h6 h7 h8 h9 h10 h11 h12 h13 h14 h15 h16 h17 h18 h19 h20 h21 h22 h23 h24
        have RR7 := hid (RF.kept RR.out Kk.undrew)
        have kd7 := hid (kd.out.trans' Kk.undrew)
        clear RR kd Kk HL1 HL2 HL3 HL4 HF1 HF2
        go_upto_region 9 with fail
        obtain ⟨w9, rfl⟩ : ∃ w9 : World, w9 = wf := ⟨_, rfl⟩
        refine region_flow (S := (fun k => w9.heap.size ≤ k)) [Is (.slice ao q cap), OwN w9.heap.size 26 32 q (es.flatMap (·.map B)), Is (.agg Ld.toArray), Is (.int .i64 c), Is (.agg #[.int .i64 a, .int .i64 b, .int .i64 d]), Is (.slice az qz cz), Is (.agg Lc.toArray), RdIs 32 1 Lc, OwN w9.heap.size 26 32 (q + 1) ((es ++ [C]).flatMap (·.map B)), OwN w9.heap.size 26 32 (q + 1) ((es ++ [C]).flatMap (·.map B))] [8] _ (by kernel_rfl) (by kernel_rfl) (by kernel_rfl) (fun x => by simp only [puts, Act.put, List.map_cons, List.map_nil, Nat.zero_add, Nat.reduceAdd, List.setIfInBounds_toArray, List.set_cons_zero, List.set_cons_succ]; exact rfl) ?_ ?_
        · skip
          refine Steps.cons (fun x wf Kk hdep hold => ?_) ?_
          · try dsimp only
            clear hdep hold
            rw [if_pos (by rfl)]
            refine OpY.val (v := (.slice ao q cap)) ?_ ⟨Kept.refl _ _, rfl⟩
            first | rfl | go_simp
          refine Steps.cons (fun x wf Kk hdep hold => ?_) ?_
          · try dsimp only
            have h0 : x 0 = (.slice ao q cap) := hdep 0 (by kernel_rfl)
            clear hdep hold
            simp only [h0]
            clear h0
            rw [if_pos (by rfl)]
            have hrq := (hr12.out.kept (kd7.out.trans' Kk.fresh.undrew)).2
            rw [hes.out.2.2] at hrq
            refine OpY.append (.const (.slice none 0 0)) (.tmp 74) 33 _ rfl rfl 26 32 32 TDigs (.slice none 0 0) 0 [] rfl (World.ownsRow_nil _ _ _ _) (.slice ao q cap) q (es.flatMap (·.map B)) rfl hrq ?c1 ?c2 ?c3 ?_
            case c1 => exact fun u hu => by obtain ⟨_, _, h⟩ := List.mem_flatMap.1 hu; exact B_one _ u h
            case c2 => have := hes.out.2.1; unfold maxLen; omega
            case c3 => have := hes.out.2.1; omega
            rintro v' w' h2 h3 h4 _
            exact ⟨h3.ob_nil, by simpa using h2, h4.fr (fun k h => by simp [Value.ownBlock] at h) Kk.size⟩
          refine Steps.cons (fun x wf Kk hdep hold => ?_) ?_
          · try dsimp only
            clear hdep hold
            rw [if_pos (by rfl)]
            exact OpY.row 26 _ rfl gd 0 rfl Ld _ ((RF.kept RR7.out Kk.fresh.undrew).SF.1) hun rfl infLd.out ⟨Kept.refl _ _, rfl⟩
          refine Steps.cons (fun x wf Kk hdep hold => ?_) ?_
          · try dsimp only
            clear hdep hold
            rw [if_pos (by rfl)]
            refine OpY.val (v := (.int .i64 c)) ?_ ⟨Kept.refl _ _, rfl⟩
            first | rfl | go_simp
          refine Steps.cons (fun x wf Kk hdep hold => ?_) ?_
          · try dsimp only
            clear hdep hold
            obtain ⟨c0, c1, c2⟩ := (RF.kept RR7.out Kk.fresh.undrew).SF.2.2.2
            rw [if_pos (by rfl)]
            refine OpY.val (v := (.agg #[.int .i64 a, .int .i64 b, .int .i64 d])) ?_ ⟨Kept.refl _ _, rfl⟩
            first | rfl | go_simp
          refine Steps.cons (fun x wf Kk hdep hold => ?_) ?_
          · try dsimp only
            clear hdep hold
            rw [if_pos (by rfl)]
            refine OpY.val (v := (.slice az qz cz)) ?_ ⟨Kept.refl _ _, rfl⟩
            first | rfl | go_simp
          refine Steps.cons (fun x wf Kk hdep hold => ?_) ?_
          · try dsimp only
            have h2 : x 2 = (.agg Ld.toArray) := hdep 2 (by kernel_rfl)
            have h3 : x 3 = (.int .i64 c) := hdep 3 (by kernel_rfl)
            have h4 : x 4 = (.agg #[.int .i64 a, .int .i64 b, .int .i64 d]) := hdep 4 (by kernel_rfl)
            have h5 : x 5 = (.slice az qz cz) := hdep 5 (by kernel_rfl)
            clear hdep hold
            simp only [h2, h3, h4, h5]
            clear h2 h3 h4 h5
            rw [if_pos (by rfl)]
            refine OpY.call (f := 19) (args := #[(.agg Ld.toArray), (.int .i64 c), (.agg #[.int .i64 a, .int .i64 b, .int .i64 d]), (.slice az qz cz)]) (by go_simp) ?_
            refine (HC.out _ (hz9.out.kept (kd7.out.trans' Kk.fresh.undrew)) (hR.out.kept (kd7.out.trans' Kk.fresh.undrew))).mono ?_
            rintro e w2 ⟨rfl, k2⟩
            exact ⟨_, rfl, k2, rfl⟩
          refine Steps.cons (fun x wf Kk hdep hold => ?_) ?_
          · try dsimp only
            have h6 : x 6 = (.agg Lc.toArray) := hdep 6 (by kernel_rfl)
            clear hdep hold
            simp only [h6]
            clear h6
            rw [if_pos (by rfl)]
            refine OpY.build 33 26 1 _ rfl 32 (.agg Z32) Tryd.underlying33 (by kernel_rfl) (by decide) (by decide) Lc _ rfl hfill.out lLc.out (by decide) (fun w' hg k ho => ⟨k, Rd.of_own ho⟩)
          refine Steps.cons (fun x wf Kk hdep hold => ?_) ?_
          · try dsimp only
            have p1 : (OwN w9.heap.size 26 32 q (es.flatMap (·.map B))).p (x 1) wf := hdep 1 (by kernel_rfl)
            have p7 : (RdIs 32 1 Lc).p (x 7) wf := hdep 7 (by kernel_rfl)
            clear hdep hold
            rw [if_pos (by rfl)]
            refine OpY.append (.tmp 75) (.tmp 81) 33 _ rfl rfl 26 32 32 TDigs (x 1) q (es.flatMap (·.map B)) rfl p1.1 (x 7) 1 Lc rfl p7 oneLc.out ?c2 ?c3 ?_
            case c2 => have := hes.out.2.1; unfold maxLen; omega
            case c3 => have := hes.out.2.1; omega
            rintro v' w' h2 h3 h4 _
            exact ⟨h3.mono fun k _ hk => p1.2 k hk, by rw [← hflat.out]; exact h2, h4.fr p1.2 Kk.size⟩
          refine Steps.cons (fun x wf Kk hdep hold => ?_) ?_
          · try dsimp only
            have p8 : (OwN w9.heap.size 26 32 (q + 1) ((es ++ [C]).flatMap (·.map B))).p (x 8) wf := hdep 8 (by kernel_rfl)
            clear hdep hold
            rw [if_pos (by rfl)]
            exact OpY.val (v := x 8) rfl ⟨Kept.refl _ _, p8⟩
          exact Steps.nil _
        · intro x wf Kk hv
          try dsimp only
          have h0 : x 0 = (.slice ao q cap) := hv 0 (by kernel_rfl)
          have h2 : x 2 = (.agg Ld.toArray) := hv 2 (by kernel_rfl)
          have h3 : x 3 = (.int .i64 c) := hv 3 (by kernel_rfl)
          have h4 : x 4 = (.agg #[.int .i64 a, .int .i64 b, .int .i64 d]) := hv 4 (by kernel_rfl)
          have h5 : x 5 = (.slice az qz cz) := hv 5 (by kernel_rfl)
          have h6 : x 6 = (.agg Lc.toArray) := hv 6 (by kernel_rfl)
          have p9 : (OwN w9.heap.size 26 32 (q + 1) ((es ++ [C]).flatMap (·.map B))).p (x 9) wf := hv 9 (by kernel_rfl)
          clear hv
          simp only [h0, h2, h3, h4, h5, h6]
          clear h0 h2 h3 h4 h5 h6
          have RR9 := hid (RF.kept RR7.out Kk.fresh.undrew)
          have kd9 := hid (kd7.out.trans' Kk.fresh.undrew)
          have HW : Hd (RdD wf (x 9) (es ++ [C])) := ⟨fun y hy => by rcases List.mem_append.1 hy with h | h; exact hXs.out y h; (obtain rfl : y = C := by simpa using h); exact lC.out, by have := Rd.of_own p9.1; rw [List.length_append, hes.out.2.2]; exact this⟩
          generalize x 9 = vw at HW ⊢
          clear RR7 kd7 Kk p9 hfill hflat oneLc
          go_upto_region 10 with fail
          refine region_flow (S := no) [Is (.bool true), Is (.bool true), Is (vw), Is (.agg Ld.toArray), Is (.int .i64 c), Is (.agg #[.int .i64 a, .int .i64 b, .int .i64 d]), Is (.slice az qz cz), Is (.int .i64 q2), Is (vw), Is (.agg Ld.toArray), Is (.int .i64 c), Is (.agg #[.int .i64 a, .int .i64 b, .int .i64 d]), Is (.slice az qz cz), Is (.agg Lc.toArray), Is (.int .i64 q2), Is (.bool true), Is (.bool true), Is (.bool true), Is (.slice ao q cap), Is (.agg Ld.toArray), Is (.int .i64 c), Is (.agg #[.int .i64 a, .int .i64 b, .int .i64 d]), Is (.slice az qz cz), Is (.int .i64 q3), Is (.slice ao q cap), Is (.agg Ld.toArray), Is (.int .i64 c), Is (.agg #[.int .i64 a, .int .i64 b, .int .i64 d]), Is (.slice az qz cz), Is (.agg Lc.toArray), Is (.int .i64 q3), Is (.bool true), Is (.bool true), Is (.bool true)] [] _ (by kernel_rfl) (by kernel_rfl) (by kernel_rfl) (fun x => by simp only [puts, Act.put, List.map_cons, List.map_nil, Nat.zero_add, Nat.reduceAdd, List.setIfInBounds_toArray, List.set_cons_zero, List.set_cons_succ]; exact rfl) ?_ ?_
          · skip
            refine Steps.cons (fun x wf Kk hdep hold => ?_) ?_
            · try dsimp only
              clear hdep hold
              rw [if_pos (by rfl)]
              refine OpY.call (f := 15) (args := #[]) (by go_simp) ?_
              refine (HA.out _ (hT.out.kept (kd9.out.trans' Kk.undrew)) (hR.out.kept (kd9.out.trans' Kk.undrew))).mono ?_
              rintro e w2 ⟨rfl, k2⟩
              exact ⟨_, rfl, k2, rfl⟩
            refine Steps.cons (fun x wf Kk hdep hold => ?_) ?_
            · try dsimp only
              have h0 : x 0 = (.bool true) := hdep 0 (by kernel_rfl)
              clear hdep hold
              simp only [h0]
              clear h0
              rw [if_pos (by rfl)]
              refine OpY.val (v := (.bool true)) ?_ ⟨Kept.refl _ _, rfl⟩
              first | rfl | go_simp
            refine Steps.cons (fun x wf Kk hdep hold => ?_) ?_
            · try dsimp only
              have h1 : x 1 = (.bool true) := hdep 1 (by kernel_rfl)
              clear hdep hold
              simp only [h1]
              clear h1
              rw [if_pos (by rfl)]
              refine OpY.val (v := (vw)) ?_ ⟨Kept.refl _ _, rfl⟩
              first | rfl | go_simp
            refine Steps.cons (fun x wf Kk hdep hold => ?_) ?_
            · try dsimp only
              have h1 : x 1 = (.bool true) := hdep 1 (by kernel_rfl)
              clear hdep hold
              simp only [h1]
              clear h1
              rw [if_pos (by rfl)]
              exact OpY.row 26 _ rfl gd 0 rfl Ld _ ((RF.kept RR9.out Kk.undrew).SF.1) hun rfl infLd.out ⟨Kept.refl _ _, rfl⟩
            refine Steps.cons (fun x wf Kk hdep hold => ?_) ?_
            · try dsimp only
              have h1 : x 1 = (.bool true) := hdep 1 (by kernel_rfl)
              clear hdep hold
              simp only [h1]
              clear h1
              rw [if_pos (by rfl)]
              refine OpY.val (v := (.int .i64 c)) ?_ ⟨Kept.refl _ _, rfl⟩
              first | rfl | go_simp
            refine Steps.cons (fun x wf Kk hdep hold => ?_) ?_
            · try dsimp only
              have h1 : x 1 = (.bool true) := hdep 1 (by kernel_rfl)
              clear hdep hold
              simp only [h1]
              clear h1
              obtain ⟨c0, c1, c2⟩ := (RF.kept RR9.out Kk.undrew).SF.2.2.2
              rw [if_pos (by rfl)]
              refine OpY.val (v := (.agg #[.int .i64 a, .int .i64 b, .int .i64 d])) ?_ ⟨Kept.refl _ _, rfl⟩
              first | rfl | go_simp
            refine Steps.cons (fun x wf Kk hdep hold => ?_) ?_
            · try dsimp only
              have h1 : x 1 = (.bool true) := hdep 1 (by kernel_rfl)
              clear hdep hold
              simp only [h1]
              clear h1
              rw [if_pos (by rfl)]
              refine OpY.val (v := (.slice az qz cz)) ?_ ⟨Kept.refl _ _, rfl⟩
              first | rfl | go_simp
            refine Steps.cons (fun x wf Kk hdep hold => ?_) ?_
            · try dsimp only
              have h2 : x 2 = (vw) := hdep 2 (by kernel_rfl)
              have h3 : x 3 = (.agg Ld.toArray) := hdep 3 (by kernel_rfl)
              have h4 : x 4 = (.int .i64 c) := hdep 4 (by kernel_rfl)
              have h5 : x 5 = (.agg #[.int .i64 a, .int .i64 b, .int .i64 d]) := hdep 5 (by kernel_rfl)
              have h6 : x 6 = (.slice az qz cz) := hdep 6 (by kernel_rfl)
              have h1 : x 1 = (.bool true) := hdep 1 (by kernel_rfl)
              clear hdep hold
              simp only [h2, h3, h4, h5, h6, h1]
              clear h2 h3 h4 h5 h6 h1
              rw [if_pos (by rfl)]
              refine OpY.call (f := 25) (args := #[(vw), (.agg Ld.toArray), (.int .i64 c), (.agg #[.int .i64 a, .int .i64 b, .int .i64 d]), (.slice az qz cz)]) (by go_simp) ?_
              refine (HV2.out _ _ (HW.out.kept Kk.undrew) (hz9.out.kept (kd9.out.trans' Kk.undrew)) (hT.out.kept (kd9.out.trans' Kk.undrew))).mono ?_
              rintro e w2 ⟨rfl, k2⟩
              exact ⟨_, rfl, k2, rfl⟩
            refine Steps.cons (fun x wf Kk hdep hold => ?_) ?_
            · try dsimp only
              have h1 : x 1 = (.bool true) := hdep 1 (by kernel_rfl)
              clear hdep hold
              simp only [h1]
              clear h1
              rw [if_pos (by rfl)]
              refine OpY.val (v := (vw)) ?_ ⟨Kept.refl _ _, rfl⟩
              first | rfl | go_simp
            refine Steps.cons (fun x wf Kk hdep hold => ?_) ?_
            · try dsimp only
              have h1 : x 1 = (.bool true) := hdep 1 (by kernel_rfl)
              clear hdep hold
              simp only [h1]
              clear h1
              rw [if_pos (by rfl)]
              exact OpY.row 26 _ rfl gd 0 rfl Ld _ ((RF.kept RR9.out Kk.undrew).SF.1) hun rfl infLd.out ⟨Kept.refl _ _, rfl⟩
            refine Steps.cons (fun x wf Kk hdep hold => ?_) ?_
            · try dsimp only
              have h1 : x 1 = (.bool true) := hdep 1 (by kernel_rfl)
              clear hdep hold
              simp only [h1]
              clear h1
              rw [if_pos (by rfl)]
              refine OpY.val (v := (.int .i64 c)) ?_ ⟨Kept.refl _ _, rfl⟩
              first | rfl | go_simp
            refine Steps.cons (fun x wf Kk hdep hold => ?_) ?_
            · try dsimp only
              have h1 : x 1 = (.bool true) := hdep 1 (by kernel_rfl)
              clear hdep hold
              simp only [h1]
              clear h1
              obtain ⟨c0, c1, c2⟩ := (RF.kept RR9.out Kk.undrew).SF.2.2.2
              rw [if_pos (by rfl)]
              refine OpY.val (v := (.agg #[.int .i64 a, .int .i64 b, .int .i64 d])) ?_ ⟨Kept.refl _ _, rfl⟩
              first | rfl | go_simp
            refine Steps.cons (fun x wf Kk hdep hold => ?_) ?_
            · try dsimp only
              have h1 : x 1 = (.bool true) := hdep 1 (by kernel_rfl)
              clear hdep hold
              simp only [h1]
              clear h1
              rw [if_pos (by rfl)]
              refine OpY.val (v := (.slice az qz cz)) ?_ ⟨Kept.refl _ _, rfl⟩
              first | rfl | go_simp
            refine Steps.cons (fun x wf Kk hdep hold => ?_) ?_
            · try dsimp only
              have h9 : x 9 = (.agg Ld.toArray) := hdep 9 (by kernel_rfl)
              have h10 : x 10 = (.int .i64 c) := hdep 10 (by kernel_rfl)
              have h11 : x 11 = (.agg #[.int .i64 a, .int .i64 b, .int .i64 d]) := hdep 11 (by kernel_rfl)
              have h12 : x 12 = (.slice az qz cz) := hdep 12 (by kernel_rfl)
              have h1 : x 1 = (.bool true) := hdep 1 (by kernel_rfl)
              clear hdep hold
              simp only [h9, h10, h11, h12, h1]
              clear h9 h10 h11 h12 h1
              rw [if_pos (by rfl)]
              refine OpY.call (f := 19) (args := #[(.agg Ld.toArray), (.int .i64 c), (.agg #[.int .i64 a, .int .i64 b, .int .i64 d]), (.slice az qz cz)]) (by go_simp) ?_
              refine (HC.out _ (hz9.out.kept (kd9.out.trans' Kk.undrew)) (hR.out.kept (kd9.out.trans' Kk.undrew))).mono ?_
              rintro e w2 ⟨rfl, k2⟩
              exact ⟨_, rfl, k2, rfl⟩
            refine Steps.cons (fun x wf Kk hdep hold => ?_) ?_
            · try dsimp only
              have h8 : x 8 = (vw) := hdep 8 (by kernel_rfl)
              have h13 : x 13 = (.agg Lc.toArray) := hdep 13 (by kernel_rfl)
              have h1 : x 1 = (.bool true) := hdep 1 (by kernel_rfl)
              clear hdep hold
              simp only [h8, h13, h1]
              clear h8 h13 h1
              rw [if_pos (by rfl)]
              refine OpY.call (f := 24) (args := #[(vw), (.agg Lc.toArray)]) (by go_simp) ?_
              refine (HG2.out _ _ (HW.out.kept Kk.undrew)).mono ?_
              rintro e w2 ⟨rfl, k2⟩
              exact ⟨_, rfl, k2, rfl⟩
            refine Steps.cons (fun x wf Kk hdep hold => ?_) ?_
            · try dsimp only
              have h7 : x 7 = (.int .i64 q2) := hdep 7 (by kernel_rfl)
              have h14 : x 14 = (.int .i64 q2) := hdep 14 (by kernel_rfl)
              have h1 : x 1 = (.bool true) := hdep 1 (by kernel_rfl)
              clear hdep hold
              simp only [h7, h14, h1]
              clear h7 h14 h1
              rw [if_pos (by rfl)]
              refine OpY.val (v := (.bool true)) ?_ ⟨Kept.refl _ _, rfl⟩
              first | rfl | go_simp
            refine Steps.cons (fun x wf Kk hdep hold => ?_) ?_
            · try dsimp only
              have h1 : x 1 = (.bool true) := hdep 1 (by kernel_rfl)
              have h15 : x 15 = (.bool true) := hdep 15 (by kernel_rfl)
              clear hdep hold
              simp only [h1, h15]
              clear h1 h15
              rw [if_pos (by rfl)]
              refine OpY.val (v := (.bool true)) ?_ ⟨Kept.refl _ _, rfl⟩
              first | rfl | go_simp
            refine Steps.cons (fun x wf Kk hdep hold => ?_) ?_
            · try dsimp only
              have h16 : x 16 = (.bool true) := hdep 16 (by kernel_rfl)
              clear hdep hold
              simp only [h16]
              clear h16
              rw [if_pos (by rfl)]
              refine OpY.val (v := (.bool true)) ?_ ⟨Kept.refl _ _, rfl⟩
              first | rfl | go_simp
            refine Steps.cons (fun x wf Kk hdep hold => ?_) ?_
            · try dsimp only
              have h17 : x 17 = (.bool true) := hdep 17 (by kernel_rfl)
              clear hdep hold
              simp only [h17]
              clear h17
              rw [if_pos (by rfl)]
              refine OpY.val (v := (.slice ao q cap)) ?_ ⟨Kept.refl _ _, rfl⟩
              first | rfl | go_simp
            refine Steps.cons (fun x wf Kk hdep hold => ?_) ?_
            · try dsimp only
              have h17 : x 17 = (.bool true) := hdep 17 (by kernel_rfl)
              clear hdep hold
              simp only [h17]
              clear h17
              rw [if_pos (by rfl)]
              exact OpY.row 26 _ rfl gd 0 rfl Ld _ ((RF.kept RR9.out Kk.undrew).SF.1) hun rfl infLd.out ⟨Kept.refl _ _, rfl⟩
            refine Steps.cons (fun x wf Kk hdep hold => ?_) ?_
            · try dsimp only
              have h17 : x 17 = (.bool true) := hdep 17 (by kernel_rfl)
              clear hdep hold
              simp only [h17]
              clear h17
              rw [if_pos (by rfl)]
              refine OpY.val (v := (.int .i64 c)) ?_ ⟨Kept.refl _ _, rfl⟩
              first | rfl | go_simp
            refine Steps.cons (fun x wf Kk hdep hold => ?_) ?_
            · try dsimp only
              have h17 : x 17 = (.bool true) := hdep 17 (by kernel_rfl)
              clear hdep hold
              simp only [h17]
              clear h17
              obtain ⟨c0, c1, c2⟩ := (RF.kept RR9.out Kk.undrew).SF.2.2.2
              rw [if_pos (by rfl)]
              refine OpY.val (v := (.agg #[.int .i64 a, .int .i64 b, .int .i64 d])) ?_ ⟨Kept.refl _ _, rfl⟩
              first | rfl | go_simp
            refine Steps.cons (fun x wf Kk hdep hold => ?_) ?_
            · try dsimp only
              have h17 : x 17 = (.bool true) := hdep 17 (by kernel_rfl)
              clear hdep hold
              simp only [h17]
              clear h17
              rw [if_pos (by rfl)]
              refine OpY.val (v := (.slice az qz cz)) ?_ ⟨Kept.refl _ _, rfl⟩
              first | rfl | go_simp
            refine Steps.cons (fun x wf Kk hdep hold => ?_) ?_
            · try dsimp only
              have h18 : x 18 = (.slice ao q cap) := hdep 18 (by kernel_rfl)
              have h19 : x 19 = (.agg Ld.toArray) := hdep 19 (by kernel_rfl)
              have h20 : x 20 = (.int .i64 c) := hdep 20 (by kernel_rfl)
              have h21 : x 21 = (.agg #[.int .i64 a, .int .i64 b, .int .i64 d]) := hdep 21 (by kernel_rfl)
              have h22 : x 22 = (.slice az qz cz) := hdep 22 (by kernel_rfl)
              have h17 : x 17 = (.bool true) := hdep 17 (by kernel_rfl)
              clear hdep hold
              simp only [h18, h19, h20, h21, h22, h17]
              clear h18 h19 h20 h21 h22 h17
              rw [if_pos (by rfl)]
              refine OpY.call (f := 25) (args := #[(.slice ao q cap), (.agg Ld.toArray), (.int .i64 c), (.agg #[.int .i64 a, .int .i64 b, .int .i64 d]), (.slice az qz cz)]) (by go_simp) ?_
              refine (HV3.out _ (hr12.out.kept (kd9.out.trans' Kk.undrew)) (hz9.out.kept (kd9.out.trans' Kk.undrew)) (hT.out.kept (kd9.out.trans' Kk.undrew))).mono ?_
              rintro e w2 ⟨rfl, k2⟩
              exact ⟨_, rfl, k2, rfl⟩
            refine Steps.cons (fun x wf Kk hdep hold => ?_) ?_
            · try dsimp only
              have h17 : x 17 = (.bool true) := hdep 17 (by kernel_rfl)
              clear hdep hold
              simp only [h17]
              clear h17
              rw [if_pos (by rfl)]
              refine OpY.val (v := (.slice ao q cap)) ?_ ⟨Kept.refl _ _, rfl⟩
              first | rfl | go_simp
            refine Steps.cons (fun x wf Kk hdep hold => ?_) ?_
            · try dsimp only
              have h17 : x 17 = (.bool true) := hdep 17 (by kernel_rfl)
              clear hdep hold
              simp only [h17]
              clear h17
              rw [if_pos (by rfl)]
              exact OpY.row 26 _ rfl gd 0 rfl Ld _ ((RF.kept RR9.out Kk.undrew).SF.1) hun rfl infLd.out ⟨Kept.refl _ _, rfl⟩
            refine Steps.cons (fun x wf Kk hdep hold => ?_) ?_
            · try dsimp only
              have h17 : x 17 = (.bool true) := hdep 17 (by kernel_rfl)
              clear hdep hold
              simp only [h17]
              clear h17
              rw [if_pos (by rfl)]
              refine OpY.val (v := (.int .i64 c)) ?_ ⟨Kept.refl _ _, rfl⟩
              first | rfl | go_simp
            refine Steps.cons (fun x wf Kk hdep hold => ?_) ?_
            · try dsimp only
              have h17 : x 17 = (.bool true) := hdep 17 (by kernel_rfl)
              clear hdep hold
              simp only [h17]
              clear h17
              obtain ⟨c0, c1, c2⟩ := (RF.kept RR9.out Kk.undrew).SF.2.2.2
              rw [if_pos (by rfl)]
              refine OpY.val (v := (.agg #[.int .i64 a, .int .i64 b, .int .i64 d])) ?_ ⟨Kept.refl _ _, rfl⟩
              first | rfl | go_simp
            refine Steps.cons (fun x wf Kk hdep hold => ?_) ?_
            · try dsimp only
              have h17 : x 17 = (.bool true) := hdep 17 (by kernel_rfl)
              clear hdep hold
              simp only [h17]
              clear h17
              rw [if_pos (by rfl)]
              refine OpY.val (v := (.slice az qz cz)) ?_ ⟨Kept.refl _ _, rfl⟩
              first | rfl | go_simp
            refine Steps.cons (fun x wf Kk hdep hold => ?_) ?_
            · try dsimp only
              have h25 : x 25 = (.agg Ld.toArray) := hdep 25 (by kernel_rfl)
              have h26 : x 26 = (.int .i64 c) := hdep 26 (by kernel_rfl)
              have h27 : x 27 = (.agg #[.int .i64 a, .int .i64 b, .int .i64 d]) := hdep 27 (by kernel_rfl)
              have h28 : x 28 = (.slice az qz cz) := hdep 28 (by kernel_rfl)
              have h17 : x 17 = (.bool true) := hdep 17 (by kernel_rfl)
              clear hdep hold
              simp only [h25, h26, h27, h28, h17]
              clear h25 h26 h27 h28 h17
              rw [if_pos (by rfl)]
              refine OpY.call (f := 19) (args := #[(.agg Ld.toArray), (.int .i64 c), (.agg #[.int .i64 a, .int .i64 b, .int .i64 d]), (.slice az qz cz)]) (by go_simp) ?_
              refine (HC.out _ (hz9.out.kept (kd9.out.trans' Kk.undrew)) (hR.out.kept (kd9.out.trans' Kk.undrew))).mono ?_
              rintro e w2 ⟨rfl, k2⟩
              exact ⟨_, rfl, k2, rfl⟩
            refine Steps.cons (fun x wf Kk hdep hold => ?_) ?_
            · try dsimp only
              have h24 : x 24 = (.slice ao q cap) := hdep 24 (by kernel_rfl)
              have h29 : x 29 = (.agg Lc.toArray) := hdep 29 (by kernel_rfl)
              have h17 : x 17 = (.bool true) := hdep 17 (by kernel_rfl)
              clear hdep hold
              simp only [h24, h29, h17]
              clear h24 h29 h17
              rw [if_pos (by rfl)]
              refine OpY.call (f := 24) (args := #[(.slice ao q cap), (.agg Lc.toArray)]) (by go_simp) ?_
              refine (HG3.out _ (hr12.out.kept (kd9.out.trans' Kk.undrew))).mono ?_
              rintro e w2 ⟨rfl, k2⟩
              exact ⟨_, rfl, k2, rfl⟩
            refine Steps.cons (fun x wf Kk hdep hold => ?_) ?_
            · try dsimp only
              have h23 : x 23 = (.int .i64 q3) := hdep 23 (by kernel_rfl)
              have h30 : x 30 = (.int .i64 q3) := hdep 30 (by kernel_rfl)
              have h17 : x 17 = (.bool true) := hdep 17 (by kernel_rfl)
              clear hdep hold
              simp only [h23, h30, h17]
              clear h23 h30 h17
              rw [if_pos (by rfl)]
              refine OpY.val (v := (.bool true)) ?_ ⟨Kept.refl _ _, rfl⟩
              first | rfl | go_simp
            refine Steps.cons (fun x wf Kk hdep hold => ?_) ?_
            · try dsimp only
              have h17 : x 17 = (.bool true) := hdep 17 (by kernel_rfl)
              have h31 : x 31 = (.bool true) := hdep 31 (by kernel_rfl)
              clear hdep hold
              simp only [h17, h31]
              clear h17 h31
              rw [if_pos (by rfl)]
              refine OpY.val (v := (.bool true)) ?_ ⟨Kept.refl _ _, rfl⟩
              first | rfl | go_simp
            refine Steps.cons (fun x wf Kk hdep hold => ?_) ?_
            · try dsimp only
              have h32 : x 32 = (.bool true) := hdep 32 (by kernel_rfl)
              clear hdep hold
              simp only [h32]
              clear h32
              rw [if_pos (by rfl)]
              refine OpY.val (v := (.bool true)) ?_ ⟨Kept.refl _ _, rfl⟩
              first | rfl | go_simp
            exact Steps.nil _
          · intro x wf Kk hv
            try dsimp only
            have h0 : x 0 = (.bool true) := hv 0 (by kernel_rfl)
            have h1 : x 1 = (.bool true) := hv 1 (by kernel_rfl)
            have h2 : x 2 = (vw) := hv 2 (by kernel_rfl)
            have h3 : x 3 = (.agg Ld.toArray) := hv 3 (by kernel_rfl)
            have h4 : x 4 = (.int .i64 c) := hv 4 (by kernel_rfl)
            have h5 : x 5 = (.agg #[.int .i64 a, .int .i64 b, .int .i64 d]) := hv 5 (by kernel_rfl)
            have h6 : x 6 = (.slice az qz cz) := hv 6 (by kernel_rfl)
            have h7 : x 7 = (.int .i64 q2) := hv 7 (by kernel_rfl)
            have h8 : x 8 = (vw) := hv 8 (by kernel_rfl)
            have h9 : x 9 = (.agg Ld.toArray) := hv 9 (by kernel_rfl)
            have h10 : x 10 = (.int .i64 c) := hv 10 (by kernel_rfl)
            have h11 : x 11 = (.agg #[.int .i64 a, .int .i64 b, .int .i64 d]) := hv 11 (by kernel_rfl)
            have h12 : x 12 = (.slice az qz cz) := hv 12 (by kernel_rfl)
            have h13 : x 13 = (.agg Lc.toArray) := hv 13 (by kernel_rfl)
            have h14 : x 14 = (.int .i64 q2) := hv 14 (by kernel_rfl)
            have h15 : x 15 = (.bool true) := hv 15 (by kernel_rfl)
            have h16 : x 16 = (.bool true) := hv 16 (by kernel_rfl)
            have h17 : x 17 = (.bool true) := hv 17 (by kernel_rfl)
            have h18 : x 18 = (.slice ao q cap) := hv 18 (by kernel_rfl)
            have h19 : x 19 = (.agg Ld.toArray) := hv 19 (by kernel_rfl)
            have h20 : x 20 = (.int .i64 c) := hv 20 (by kernel_rfl)
            have h21 : x 21 = (.agg #[.int .i64 a, .int .i64 b, .int .i64 d]) := hv 21 (by kernel_rfl)
            have h22 : x 22 = (.slice az qz cz) := hv 22 (by kernel_rfl)
            have h23 : x 23 = (.int .i64 q3) := hv 23 (by kernel_rfl)
            have h24 : x 24 = (.slice ao q cap) := hv 24 (by kernel_rfl)
            have h25 : x 25 = (.agg Ld.toArray) := hv 25 (by kernel_rfl)
            have h26 : x 26 = (.int .i64 c) := hv 26 (by kernel_rfl)
            have h27 : x 27 = (.agg #[.int .i64 a, .int .i64 b, .int .i64 d]) := hv 27 (by kernel_rfl)
            have h28 : x 28 = (.slice az qz cz) := hv 28 (by kernel_rfl)
            have h29 : x 29 = (.agg Lc.toArray) := hv 29 (by kernel_rfl)
            have h30 : x 30 = (.int .i64 q3) := hv 30 (by kernel_rfl)
            have h31 : x 31 = (.bool true) := hv 31 (by kernel_rfl)
            have h32 : x 32 = (.bool true) := hv 32 (by kernel_rfl)
            have h33 : x 33 = (.bool true) := hv 33 (by kernel_rfl)
            clear hv
            simp only [h0, h1, h2, h3, h4, h5, h6, h7, h8, h9, h10, h11, h12, h13, h14, h15, h16, h17, h18, h19, h20, h21, h22, h23, h24, h25, h26, h27, h28, h29, h30, h31, h32, h33]
            clear h0 h1 h2 h3 h4 h5 h6 h7 h8 h9 h10 h11 h12 h13 h14 h15 h16 h17 h18 h19 h20 h21 h22 h23 h24 h25 h26 h27 h28 h29 h30 h31 h32 h33
            have kz := hid (kd9.out.trans' Kk.undrew)
            clear RR9 kd9 Kk
            go_wp2_with fail
            go_ret
            exact ⟨rfl, kz.out⟩⟩
    clear a2
    by_cases h3 : at_.tmod 3 = 0
    · have iA : Hd ((Tryd.prog.info? 26).map (·.size) = some L2.toArray.size) := ⟨by rw [← hL2.out, List.size_toArray, List.length_map, hX2]; kernel_rfl⟩
      have oA : Hd (L2.toArray.all (·.oneCell') = true) := ⟨by rw [← hL2.out]; exact all_oneCell_toArray (B_one _)⟩
      have zA : Hd (L3.toArray.size = L2.toArray.size) := ⟨by rw [← hL2.out, ← hL3.out]; simp [hX2, hX3]⟩
      have RA := hid RR.out.2.1
      have RB := hid RR.out.2.2.1
      have RR5 := hid (RF.rowB RR.out L2 hlt.out.2)
      have kd5 := hid (kd.out.setRow (g := gb) (.inr (by have := hlt.out; omega)) L2.toArray)
      obtain ⟨j, hj⟩ : ∃ j : Nat, at_ % 32 = (j : Int) := ⟨(at_ % 32).toNat, by omega⟩
      have hj32 : j < 32 := by omega
      have hj1 : (j : Int) < 32 := by omega
      have hj0 : (0 : Int) ≤ (j : Int) := by omega
      have HM := hid (fun w => mod32_any at_ w)
      rw [hj] at HM
      go_upto_region 6 with (first | (with_reducible refine wpList_load_row rfl 26 _ rfl ga rfl 26 _ _ _ RA.out Tryd.underlying26 rfl iA.out ?_) | (with_reducible refine wpList_store_row rfl 26 _ _ rfl gb L2.toArray rfl rfl 26 _ RB.out iA.out zA.out oA.out ?_))
      generalize w'.setRow gb L2.toArray = w5 at RR5 kd5 ⊢
      have hjx : j < X2.length := by omega
      have cj : w5.cell? ⟨gb, j, none⟩ = some (.int .u8 ((X2.getD j 0).toNat : Int)) := by
        rw [cell_of_row w5 _ j _ _ _ RR5.out.2.2.1, ← hL2.out]
        simp [List.getElem?_eq_getElem hjx, List.getD_eq_getElem?_getD, B]
      have fj : w5.frozen? ⟨gb, j, none⟩ = false := row_free RR5.out.2.2.1 j
      generalize hy : X2.getD j 0 = y at cj
      replace hy := hid hy
      have RR6 := hid (RF.setB RR5.out j (.int .u8 (((y.toNat : Int) + 1) % 256)) hlt.out.2)
      have kd6 := hid (kd5.out.setCell (a := ⟨gb, j, none⟩) (.inr (by have := hlt.out; show w.heap.size ≤ gb; omega)) (.int .u8 (((y.toNat : Int) + 1) % 256)))
      have hL6 : Hd ((X2.set j (UInt8.ofNat (y.toNat + 1))).map B = L2.set j (.int .u8 (((y.toNat : Int) + 1) % 256))) := ⟨by
        rw [List.map_set, hL2.out]
        rw [← B_of]; norm_cast⟩
      clear RA RB RR5 kd5 RR kd
      go_wp2_with fail
      refine (HM.out _).mono ?_
      rintro e w'' ⟨rfl, rfl⟩
      go_wp2_with fail
      exact rest7.out _ _ _ _ _ _ _ _ _ _ _ _ _ _ _ _ _ _ _ _ _ _ _ _ _ _ _ _ _ _ _ (X2.set j (UInt8.ofNat (y.toNat + 1))) _ _ (by simp [hX2]) hL6 RR6 kd6
    · go_wp2_with fail
      exact rest7.out _ _ _ _ _ _ _ _ _ _ _ _ _ _ _ _ _ _ _ _ _ _ _ _ _ _ _ _ _ _ _ X3 L3 _ hX3 hL3 RR kd⟩
  clear a1
  by_cases hq1 : q = 0
  · have hq2 : ¬ (0 : Int) < (q : Int) := by omega
    clear hq1
    go_wp2_with fail
    exact rest4.out _ _ _ _ _ _ _ _ _ _ _ _ _ _ _ _ _ _ _ _ _ X1 L1 _ hX1 hL1 RR kd
  · have hq2 : (0 : Int) < (q : Int) := by omega
    by_cases hat : at_ < 0
    · have hat2 : ¬ (0 : Int) ≤ at_ := by omega
      go_wp2_with fail
      exact rest4.out _ _ _ _ _ _ _ _ _ _ _ _ _ _ _ _ _ _ _ _ _ X1 L1 _ hX1 hL1 RR kd
    · have hat2 : (0 : Int) ≤ at_ := by omega
      obtain ⟨k, hk⟩ : ∃ k : Nat, at_.tmod (q : Int) = (k : Int) := ⟨(at_.tmod (q : Int)).toNat, by have := Int.tmod_nonneg (q : Int) hat2; omega⟩
      have hkq : k < q := by
        have := Int.tmod_lt_of_pos at_ hq2
        omega
      obtain ⟨bl, o, rfl, hrg⟩ := RdD.at (hr12.out.kept kd.out) k (by omega)
      have hX : (es.getD k []).length = 32 := hr12.out.1 _ (by rw [List.getD_eq_getElem?_getD, List.getElem?_eq_getElem (by omega)]; simp)
      generalize es.getD k [] = X at hrg hX
      obtain ⟨M, hM⟩ : ∃ M, X.map B = M := ⟨_, rfl⟩
      rw [hM] at hrg
      have infM : Hd ((Tryd.prog.info? 26).map (·.size) = some M.length) := ⟨by rw [← hM, List.length_map, hX]; kernel_rfl⟩
      have infM' : Hd ((Tryd.prog.info? 26).map (·.size) = some M.toArray.size) := ⟨infM.out⟩
      have oneM : Hd (M.toArray.all (·.oneCell') = true) := ⟨by rw [← hM]; exact all_oneCell_toArray (B_one _)⟩
      have oldM : Hd (L1.toArray.size = M.toArray.size) := ⟨by rw [← hM, ← hL1.out]; simp [hX, hX1]⟩
      have RR' := hid (RF.setD RR.out M hlt.out.2)
      have kd' := hid (kd.out.setRow (g := gd) (.inr hlt.out.1) M.toArray)
      have R1 := hid RR.out.1
      replace hM := hid hM
      replace hrg := hid hrg
      have hk1 : (k : Int) < (q : Int) := by omega
      have hk0 : (0 : Int) ≤ (k : Int) := by omega
      have hqn : ¬ (q : Int) = 0 := by omega
      have hqb : ((q : Int) == 0) = false := by simpa using hqn
      go_wp2_with (first | (refine wpList_load_mid rfl 26 _ rfl bl (o + k * 32) rfl M _ hrg.out hun rfl infM.out ?_) | (with_reducible refine wpList_store_row rfl 26 _ _ rfl gd M.toArray rfl rfl 26 _ R1.out infM'.out oldM.out oneM.out ?_))
      exact rest4.out _ _ _ _ _ _ _ _ _ _ _ _ _ _ _ _ _ _ _ _ _ X M _ hX hM RR' kd'
end Go.Proofs.YtknbkhmpnanegaaDoor
