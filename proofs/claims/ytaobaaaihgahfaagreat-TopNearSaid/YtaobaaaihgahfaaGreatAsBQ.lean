/- electionmake.Perm: some list of n numbers (printed by gen_perm.py). -/
import Derived.Test.YtaobaaaihgahfaaGreatGenQ
import Derived.Test.YtaobaaaihgahfaaGreatAsAQ
import Derived.Test.YtaobaaaihgahfaaGreatKitQ
import Derived.Sort.Grow
namespace Go.Proofs.YtaobaaaihgahfaaGreat
open Go.RowKit Go.Mk Go.Pil
theorem post_sliceZ (av : Option Addr) (lv cv m : Nat) (_hav : cv = 0 ∨ ∃ b o, av = some ⟨b, o, none⟩) (hm : m ≤ lv) (_hlc : lv ≤ cv) (w : World) : (Instr.slice 26 (.slice av lv cv) (some (.int .i64 (m : Int))) none none).run Tryz.prog w = .ok (.slice (if cv = m then av else av.map (·.add m)) (lv - m) (cv - m)) w := by
  (have h0 : (0 : Int) ≤ (m : Int) := by omega); (have hc : Tryz.prog.underlying 26 = some (.slice 3) := by kernel_rfl); (obtain ⟨i, hi, hz, hs, hb⟩ := info_parts (P := Tryz.prog) (e := 3) (z := .int .i64 0) (size := 1) (bytes := 8) (by kernel_rfl)); (have h1 : (m : Int) ≤ (lv : Int) := by omega)
  simp [Instr.slice, Instr.sliceBounds, Instr.sliceBound, run_underlying hc, asIntOf, h0, sizeOf, typeInfo, hi, hs, hm]
theorem RdZ.drop {w : World} {ao : Option Addr} {n cap : Nat} {zs : List Int} (h : RdZ w (.slice ao n cap) zs) (m : Nat) (hm : m ≤ zs.length) : RdZ w (.slice (if cap = m then ao else ao.map (·.add m)) (zs.length - m) (cap - m)) (zs.drop m) := by
  obtain ⟨hl, _, _, e, h1, h2, h3⟩ := h
  cases e
  (have hd : (zs.drop m).length = zs.length - m := by simp); (refine ⟨by simp, _, _, by rw [hd], by rw [hd]; omega, by omega, ?_⟩)
  by_cases hc : cap = m
  · exact .inl (by omega)
  · rcases h3 with h3 | ⟨b, o, rfl, hcc⟩
    · exact .inl (by omega)
    · refine .inr ⟨b, o + m, ?_, fun j u hj => ?_⟩
      · (rw [if_neg hc]); (simp only [Option.map_some, Addr.add])
        split
        · rename_i e0; subst e0; simp
        · rfl
      · (rw [List.map_drop, List.getElem?_drop] at hj); (have := hcc (m + j) u hj); (rw [Nat.add_assoc]; exact this)
end Go.Proofs.YtaobaaaihgahfaaGreat

/- Package assertion: Compare, isTail, Contradicts; cmp.Or (printed by gen_as3.py). -/
namespace Go.Nr
open Go.Pil Go.Mg
/-- The first that is not 0. -/
def orZ : List Int → Int
  | [] => 0
  | x :: l => if x = 0 then orZ l else x
/-- Does the assertion contradict the tail? -/
def ctr (x : As) (T : List Int) : Bool := if x.k = 1 then decide (x.b ∈ T) && !decide (x.a ∈ T.drop (T.idxOf x.b)) else decide (x.am.length ≤ T.length) && decide (T.getD (T.length - x.am.length) 0 = x.a) && decide (((T.drop (T.length - x.am.length)).mergeSort fun a b => decide (a ≤ b)) = x.am)
end Go.Nr
namespace Go.Proofs.YtaobaaaihgahfaaGreat
open Go.RowKit Go.Mk Go.Pil Go.Mg Go.Nr Go.Sort
/-- Behind w, with some blocks more, after some draws. -/
def Gr (w w' : World) : Prop := ∃ q os, w' = grow (w.drewN q) os
theorem Gr.refl (w : World) : Gr w w := ⟨0, #[], by rw [grow_empty]; rfl⟩
theorem Gr.trans (a b c : World) (h : Gr a b) (h' : Gr b c) : Gr a c := by
  (obtain ⟨q, os, rfl⟩ := h); (obtain ⟨q', os', rfl⟩ := h'); (exact ⟨q + q', os ++ os', by show grow (grow ((a.drewN q).drewN q') os) os' = _; rw [grow_grow, World.drewN_drewN]⟩)
theorem Gr.alloc (w : World) (o : Obj) : Gr w (w.alloc o) := ⟨0, #[o], by rw [alloc_eq_grow]; rfl⟩
theorem Gr.drew (w : World) : Gr w w.drew := ⟨1, #[], by rw [grow_empty]; rfl⟩
theorem Gr.kept {w w' : World} (h : Gr w w') : Kept no w w' := by
  (obtain ⟨q, os, rfl⟩ := h); (refine ⟨rfl, rfl, rfl, by show w.heap.size ≤ (w.heap ++ os).size; simp, fun j hj _ => ?_⟩)
  show (w.heap ++ os)[j]? = _
  rw [Array.getElem?_append_left hj]
def PRg {Sl : Nat → Nat → Prop} (zs : List Int) : Pr Sl := soft (fun v w => RdZ w v zs) fun _ _ _ h k => RdZ.kept h k
theorem infIntg : (Tryz.prog.info? 3).map (fun i => (i.zero, i.size)) = some (some (.int .i64 0), 1) := by kernel_rfl
theorem OpY.buildG {P : Program} {o : Oper} {a : Act} {w : World} {R : Value → World → Prop} (t e : TypeId) (len : Nat) (parts : Array (Nat × Operand)) (ho : o.op = .buildSlice t len parts)
    (size : Nat) (z : Value) (hu : P.underlying t = some (.slice e)) (hie : (P.info? e).map (fun i => (i.zero, i.size)) = some (some z, size)) (hsmall : ¬ len * size > 2 ^ 24) (hpos : ¬ len * size = 0)
    (cells : List Value) (ps : List (Nat × Value)) (hps : parts.toList.map (fun p => (p.1, a.eval p.2)) = ps) (hf : Instr.fill (fun i => some (i * size, size)) ((Array.range (len * size)).map (z.cells[· % z.cells.size]!)) ps = some cells.toArray)
    (h : R (.slice (some ⟨w.heap.size, 0, none⟩) len len) (w.alloc (.cells cells.toArray e))) : OpY P o a w R := by
  obtain ⟨ie, hi, hz, hs⟩ : ∃ ie, P.info? e = some ie ∧ ie.zero = some z ∧ ie.size = size := by
    cases hi : P.info? e with
    | none => rw [hi] at hie; cases hie
    | some ie => rw [hi] at hie; simp at hie; exact ⟨ie, rfl, hie.1, hie.2⟩
  subst hs
  have hf : Instr.fill (fun i => some (i * ie.size, ie.size)) ((Array.range (len * ie.size)).map (z.cells[· % z.cells.size]!)) (parts.map fun (i, x) => (i, a.eval x)).toList = some cells.toArray := by
    rw [Array.toList_map, ← hf, ← hps]
  (refine OpY.val (v := .slice (some ⟨w.heap.size, 0, none⟩) len len) (w' := w.alloc (.cells cells.toArray e)) ?_ h); (unfold execOp); (simp only [ho, Sem.run_bind, run_buildSlice w t e len _ cells.toArray ie z hu hi hz hsmall hpos hf, Result.andThen_ok])
  rfl
set_option maxRecDepth 20000 in
set_option maxHeartbeats 1000000 in
theorem orN_any (v : Value) (zs : List Int) (w : World) (hr : RdZ w v zs) : Calls Tryz.prog 132 #[v] w fun e w' => e = .returned (.int .i64 (orZ zs)) ∧ w' = w := by
  (obtain ⟨ao, cap, rfl, hcap, hcm⟩ := Rd.shape2 hr); (have hm63 := maxLen_63); (obtain ⟨m, hm⟩ : ∃ m, zs.length = m := ⟨_, rfl⟩); (have hml : m ≤ 9223372036854775807 := by omega); (rw [hm] at hr hcap ⊢); (replace hm := hid hm); (replace hr := hid hr); (clear hcap hcm)
  go_enter Tryz.func132, Tryz.ntmps132
  go_upto_region 3 with fail
  go_loopw [8] (fun i wr => ∃ k : Nat, k ≤ m ∧ i = .int .i64 (k : Int) ∧ Hd (orZ zs = orZ (zs.drop k)) ∧ wr = w) (fun i _ => m - (intOf i).toNat)
  case atStart => exact ⟨0, by omega, rfl, ⟨by rw [List.drop_zero]⟩, rfl⟩
  case round =>
    obtain ⟨k, hk, rfl, hD, rfl⟩ := hrel
    by_cases hlt : k < m
    · (have hk1 : (k : Int) < (m : Int) := by omega); (have hk0 : (0 : Int) ≤ (k : Int) := by omega); (have hkl : k < zs.length := by rw [hm.out]; exact hlt); (obtain ⟨b, o, hao, hc⟩ := RdZ.at hr.out k hkl); (subst hao)
      have hdr : zs.drop k = zs.getD k 0 :: zs.drop (k + 1) := by
        rw [List.drop_eq_getElem_cons hkl, List.getD_eq_getElem?_getD, List.getElem?_eq_getElem hkl]; rfl
      (obtain ⟨z, hz⟩ : ∃ z, zs.getD k 0 = z := ⟨_, rfl⟩); (rw [hz] at hc hdr)
      by_cases h0 : z = 0
      · (have hD2 : Hd (orZ zs = orZ (zs.drop (k + 1))) := ⟨by rw [hD.out, hdr]; simp only [orZ]; rw [if_pos h0]⟩); (have hb : (z != 0) = false := by rw [h0]; rfl); (replace h0 := hid h0); (clear hdr hz hkl hD); (go_wp2); (go_roundw)
        case rel => first | exact ⟨k + 1, by omega, by go_num, hD2, rfl⟩ | exact ⟨k + 1, by omega, by go_num, hD2⟩ | exact ⟨k + 1, by omega, by go_num, hD2, trivial⟩ | ((repeat apply Exists.intro); exact ⟨⟨k + 1, by omega, by go_num, hD2, rfl⟩, rfl⟩)
        case measure => simp [intOf]; omega
      · (have hv : Hd (orZ zs = z) := ⟨by rw [hD.out, hdr]; simp only [orZ]; rw [if_neg h0]⟩); (have hb : (z != 0) = true := bne_iff_ne.2 h0); (replace h0 := hid h0); (clear hdr hz hkl hD); (go_wp2); (go_ret); (exact ⟨by rw [hv.out]; rfl, rfl⟩)
    · (have hk1 : ¬ (k : Int) < (m : Int) := by omega); (have hv : Hd (orZ zs = 0) := ⟨by rw [hD.out, List.drop_eq_nil_of_le (by rw [hm.out]; omega)]; rfl⟩); (go_wp2); (go_ret); (exact ⟨by rw [hv.out]; rfl, rfl⟩)
/-- How Compare orders assertions. -/
def cmpA (x y : As) : Int := orZ [cmpI x.k y.k, cmpI x.a y.a, cmpI x.b y.b, cmpI x.am.length y.am.length, Go.Pil.cmp x.am y.am, cmpI x.q y.q]
set_option maxRecDepth 100000 in
set_option maxHeartbeats 4000000 in
theorem compareN_any (x y : As) (vx vy : Value) (w : World) (hx : RdZ w vx x.am) (hy : RdZ w vy y.am) : Calls Tryz.prog 65 #[asV x vx, asV y vy] w fun e w' => e = .returned (.int .i64 (cmpA x y)) ∧ Gr w w' := by
  (obtain ⟨ax, cx, rfl, _, _⟩ := Rd.shape2 hx); (obtain ⟨ay, cy, rfl, _, _⟩ := Rd.shape2 hy); (unfold asV); (obtain ⟨xk, xa, xb, xm, xq⟩ := x); (obtain ⟨yk, ya, yb, ym, yq⟩ := y); (have hcA : Hd (cmpA ⟨xk, xa, xb, xm, xq⟩ ⟨yk, ya, yb, ym, yq⟩ = orZ [cmpI xk yk, cmpI xa ya, cmpI xb yb, cmpI xm.length ym.length, Go.Pil.cmp xm ym, cmpI xq yq]) := ⟨rfl⟩)
  dsimp only at hx hy ⊢
  (rw [hcA.out]); (obtain ⟨lx, hlx⟩ : ∃ l, xm.length = l := ⟨_, rfl⟩); (obtain ⟨ly, hly⟩ : ∃ l, ym.length = l := ⟨_, rfl⟩); (rw [hlx, hly]); (rw [hlx] at hx); (rw [hly] at hy); (obtain ⟨w1, hw1, g1, k1⟩ := alloc_named w (.cells #[.int .i64 xk, .int .i64 xa, .int .i64 xb, .slice ax lx cx, .int .i64 xq] 59)); (have e1 : w1.heap.size = w.heap.size + 1 := by rw [hw1]; simp); (obtain ⟨w2, hw2, g2, k2⟩ := alloc_named w1 (.cells #[.int .i64 yk, .int .i64 ya, .int .i64 yb, .slice ay ly cy, .int .i64 yq] 59)); (have hG2 : Hd (Gr w w2) := ⟨Gr.trans w w1 w2 (by rw [hw1]; exact Gr.alloc _ _) (by rw [hw2]; exact Gr.alloc _ _)⟩); (obtain ⟨B0, hB0⟩ : ∃ g, w.heap.size = g := ⟨_, rfl⟩); (obtain ⟨B1, hB1⟩ : ∃ g, w1.heap.size = g := ⟨_, rfl⟩); (rw [hB0] at g1); (rw [hB1] at g2); (have q1 : Hd (B0 + 1 = B1) := ⟨by omega⟩); (have b0 := hid (k2.blk g1)); (have b1 := hid g2); (have rx := hid (RdZ.kept (RdZ.kept hx k1) k2)); (have ry := hid (RdZ.kept (RdZ.kept hy k1) k2)); (have HO := hid (fun (v : Value) (W : World) (r : RdZ W v [cmpI xk yk, cmpI xa ya, cmpI xb yb, cmpI (lx : Int) (ly : Int), Go.Pil.cmp xm ym, cmpI xq yq]) => orN_any v _ W r)); (obtain ⟨o1, ho1⟩ : ∃ c, cmpI xk yk = c := ⟨_, rfl⟩); (obtain ⟨o2, ho2⟩ : ∃ c, cmpI xa ya = c := ⟨_, rfl⟩); (obtain ⟨o3, ho3⟩ : ∃ c, cmpI xb yb = c := ⟨_, rfl⟩); (obtain ⟨o4, ho4⟩ : ∃ c, cmpI (lx : Int) (ly : Int) = c := ⟨_, rfl⟩); (obtain ⟨o5, ho5⟩ : ∃ c, Go.Pil.cmp xm ym = c := ⟨_, rfl⟩); (obtain ⟨o6, ho6⟩ : ∃ c, cmpI xq yq = c := ⟨_, rfl⟩); (have H1 := hid (fun (W : World) => cmpi_any xk yk W)); (have H2 := hid (fun (W : World) => cmpi_any xa ya W)); (have H3 := hid (fun (W : World) => cmpi_any xb yb W)); (have H4 := hid (fun (W : World) => cmpi_any (lx : Int) (ly : Int) W)); (have H5 := hid (fun (W : World) (k : Kept no w2 W) => compare_any (.slice ax lx cx) (.slice ay ly cy) xm ym W (RdZ.kept rx.out k) (RdZ.kept ry.out k))); (have H6 := hid (fun (W : World) => cmpi_any xq yq W)); (rw [ho1, ho2, ho3, ho4, ho5, ho6] at HO ⊢); (rw [ho1] at H1); (rw [ho2] at H2); (rw [ho3] at H3); (rw [ho4] at H4); (rw [ho5] at H5); (rw [ho6] at H6); (obtain ⟨oz, hoz⟩ : ∃ c, orZ [o1, o2, o3, o4, o5, o6] = c := ⟨_, rfl⟩); (rw [hoz] at HO ⊢); (replace hw1 := hid hw1); (replace hw2 := hid hw2); (replace hB0 := hid hB0); (clear hx hy hcA ho1 ho2 ho3 ho4 ho5 ho6 hoz g1 g2 k1 k2 e1 hB1 hlx hly)
  go_enter Tryz.func65, Tryz.ntmps65
  (go_upto_region 1 with fail); (rw [← hw1.out, hB0.out]); (try rw [q1.out]); (rw [← hw2.out]); (have d00 : Hd (w2.cell? ⟨B0, 0, none⟩ = some (.int .i64 xk)) := ⟨cell_at b0.out rfl⟩); (have d01 : Hd (w2.cell? ⟨B0, 1, none⟩ = some (.int .i64 xa)) := ⟨cell_at b0.out rfl⟩); (have d02 : Hd (w2.cell? ⟨B0, 2, none⟩ = some (.int .i64 xb)) := ⟨cell_at b0.out rfl⟩); (have d03 : Hd (w2.cell? ⟨B0, 3, none⟩ = some (.slice ax lx cx)) := ⟨cell_at b0.out rfl⟩); (have d04 : Hd (w2.cell? ⟨B0, 4, none⟩ = some (.int .i64 xq)) := ⟨cell_at b0.out rfl⟩); (have d10 : Hd (w2.cell? ⟨B1, 0, none⟩ = some (.int .i64 yk)) := ⟨cell_at b1.out rfl⟩); (have d11 : Hd (w2.cell? ⟨B1, 1, none⟩ = some (.int .i64 ya)) := ⟨cell_at b1.out rfl⟩); (have d12 : Hd (w2.cell? ⟨B1, 2, none⟩ = some (.int .i64 yb)) := ⟨cell_at b1.out rfl⟩); (have d13 : Hd (w2.cell? ⟨B1, 3, none⟩ = some (.slice ay ly cy)) := ⟨cell_at b1.out rfl⟩); (have d14 : Hd (w2.cell? ⟨B1, 4, none⟩ = some (.int .i64 yq)) := ⟨cell_at b1.out rfl⟩); (refine region_flowG (G := Gr) Gr.refl Gr.trans (S := no) (Sl := (fun _ => no)) [Is (.pointer (some ⟨B0, 0, none⟩)), Is (.int .i64 xk), Is (.pointer (some ⟨B1, 0, none⟩)), Is (.int .i64 yk), Is (.int .i64 o1), Is (.pointer (some ⟨B0, 1, none⟩)), Is (.int .i64 xa), Is (.pointer (some ⟨B1, 1, none⟩)), Is (.int .i64 ya), Is (.int .i64 o2), Is (.pointer (some ⟨B0, 2, none⟩)), Is (.int .i64 xb), Is (.pointer (some ⟨B1, 2, none⟩)), Is (.int .i64 yb), Is (.int .i64 o3), Is (.pointer (some ⟨B0, 3, none⟩)), Is (.slice ax lx cx), Is (.int .i64 (lx : Int)), Is (.pointer (some ⟨B1, 3, none⟩)), Is (.slice ay ly cy), Is (.int .i64 (ly : Int)), Is (.int .i64 o4), Is (.pointer (some ⟨B0, 3, none⟩)), Is (.slice ax lx cx), Is (.pointer (some ⟨B1, 3, none⟩)), Is (.slice ay ly cy), Is (.int .i64 o5), Is (.pointer (some ⟨B0, 4, none⟩)), Is (.int .i64 xq), Is (.pointer (some ⟨B1, 4, none⟩)), Is (.int .i64 yq), Is (.int .i64 o6), PRg [o1, o2, o3, o4, o5, o6], Is (.int .i64 oz), Is (.int .i64 oz)] [] (fun _ _ h => h) _ (by kernel_rfl) (by kernel_rfl) (by kernel_rfl) (by kernel_rfl) (fun x => by simp only [puts, Act.put, List.map_cons, List.map_nil, Nat.zero_add, Nat.reduceAdd, List.setIfInBounds_toArray, List.set_cons_zero, List.set_cons_succ]; exact rfl) ?_ ?_)
  · (skip); (refine .cons (fun x wf Kk hq hdep hold => ?_) ?_)
    · (try dsimp only); (clear hq hdep hold); (rw [if_pos (by rfl)]); (refine OpY.val ?_ ⟨⟨Kept.refl _ _, Gr.refl _⟩, rfl⟩); (first | rfl | go_simp)
    refine .cons (fun x wf Kk hq hdep hold => ?_) ?_
    · (try dsimp only); (have h0 : x 0 = _ := hdep 0 (by kernel_rfl)); (have Kq := hq no (fun j hj => by cases (show j ∈ ([] : List Nat) from by (have e : ∀ l : List Nat, l = [] → j ∈ l → j ∈ ([] : List Nat) := fun l h h2 => h ▸ h2); exact e _ (by kernel_rfl) hj))); (clear hq hdep hold); (simp only [h0]); (clear h0); (have m1 := Kq.undrew.cell d00.out id); (rw [if_pos (by rfl)]); (refine OpY.val ?_ ⟨⟨Kept.refl _ _, Gr.refl _⟩, rfl⟩); (first | rfl | go_simp)
    refine .cons (fun x wf Kk hq hdep hold => ?_) ?_
    · (try dsimp only); (clear hq hdep hold); (rw [if_pos (by rfl)]); (refine OpY.val ?_ ⟨⟨Kept.refl _ _, Gr.refl _⟩, rfl⟩); (first | rfl | go_simp)
    refine .cons (fun x wf Kk hq hdep hold => ?_) ?_
    · (try dsimp only); (have h2 : x 2 = _ := hdep 2 (by kernel_rfl)); (have Kq := hq no (fun j hj => by cases (show j ∈ ([] : List Nat) from by (have e : ∀ l : List Nat, l = [] → j ∈ l → j ∈ ([] : List Nat) := fun l h h2 => h ▸ h2); exact e _ (by kernel_rfl) hj))); (clear hq hdep hold); (simp only [h2]); (clear h2); (have m1 := Kq.undrew.cell d10.out id); (rw [if_pos (by rfl)]); (refine OpY.val ?_ ⟨⟨Kept.refl _ _, Gr.refl _⟩, rfl⟩); (first | rfl | go_simp)
    refine .cons (fun x wf Kk hq hdep hold => ?_) ?_
    · (try dsimp only); (have h1 : x 1 = _ := hdep 1 (by kernel_rfl)); (have h3 : x 3 = _ := hdep 3 (by kernel_rfl)); (clear hq hdep hold); (simp only [h1, h3]); (clear h1 h3); (rw [if_pos (by rfl)]); (refine OpY.call (f := 93) (args := #[(.int .i64 xk), (.int .i64 yk)]) (by go_simp) ?_); (refine (H1.out wf).mono ?_); (rintro e w7 ⟨rfl, rfl⟩); (exact ⟨_, rfl, ⟨Kept.refl _ _, Gr.refl _⟩, rfl⟩)
    refine .cons (fun x wf Kk hq hdep hold => ?_) ?_
    · (try dsimp only); (clear hq hdep hold); (rw [if_pos (by rfl)]); (refine OpY.val ?_ ⟨⟨Kept.refl _ _, Gr.refl _⟩, rfl⟩); (first | rfl | go_simp)
    refine .cons (fun x wf Kk hq hdep hold => ?_) ?_
    · (try dsimp only); (have h5 : x 5 = _ := hdep 5 (by kernel_rfl)); (have Kq := hq no (fun j hj => by cases (show j ∈ ([] : List Nat) from by (have e : ∀ l : List Nat, l = [] → j ∈ l → j ∈ ([] : List Nat) := fun l h h2 => h ▸ h2); exact e _ (by kernel_rfl) hj))); (clear hq hdep hold); (simp only [h5]); (clear h5); (have m1 := Kq.undrew.cell d01.out id); (rw [if_pos (by rfl)]); (refine OpY.val ?_ ⟨⟨Kept.refl _ _, Gr.refl _⟩, rfl⟩); (first | rfl | go_simp)
    refine .cons (fun x wf Kk hq hdep hold => ?_) ?_
    · (try dsimp only); (clear hq hdep hold); (rw [if_pos (by rfl)]); (refine OpY.val ?_ ⟨⟨Kept.refl _ _, Gr.refl _⟩, rfl⟩); (first | rfl | go_simp)
    refine .cons (fun x wf Kk hq hdep hold => ?_) ?_
    · (try dsimp only); (have h7 : x 7 = _ := hdep 7 (by kernel_rfl)); (have Kq := hq no (fun j hj => by cases (show j ∈ ([] : List Nat) from by (have e : ∀ l : List Nat, l = [] → j ∈ l → j ∈ ([] : List Nat) := fun l h h2 => h ▸ h2); exact e _ (by kernel_rfl) hj))); (clear hq hdep hold); (simp only [h7]); (clear h7); (have m1 := Kq.undrew.cell d11.out id); (rw [if_pos (by rfl)]); (refine OpY.val ?_ ⟨⟨Kept.refl _ _, Gr.refl _⟩, rfl⟩); (first | rfl | go_simp)
    refine .cons (fun x wf Kk hq hdep hold => ?_) ?_
    · (try dsimp only); (have h6 : x 6 = _ := hdep 6 (by kernel_rfl)); (have h8 : x 8 = _ := hdep 8 (by kernel_rfl)); (clear hq hdep hold); (simp only [h6, h8]); (clear h6 h8); (rw [if_pos (by rfl)]); (refine OpY.call (f := 93) (args := #[(.int .i64 xa), (.int .i64 ya)]) (by go_simp) ?_); (refine (H2.out wf).mono ?_); (rintro e w7 ⟨rfl, rfl⟩); (exact ⟨_, rfl, ⟨Kept.refl _ _, Gr.refl _⟩, rfl⟩)
    refine .cons (fun x wf Kk hq hdep hold => ?_) ?_
    · (try dsimp only); (clear hq hdep hold); (rw [if_pos (by rfl)]); (refine OpY.val ?_ ⟨⟨Kept.refl _ _, Gr.refl _⟩, rfl⟩); (first | rfl | go_simp)
    refine .cons (fun x wf Kk hq hdep hold => ?_) ?_
    · (try dsimp only); (have h10 : x 10 = _ := hdep 10 (by kernel_rfl)); (have Kq := hq no (fun j hj => by cases (show j ∈ ([] : List Nat) from by (have e : ∀ l : List Nat, l = [] → j ∈ l → j ∈ ([] : List Nat) := fun l h h2 => h ▸ h2); exact e _ (by kernel_rfl) hj))); (clear hq hdep hold); (simp only [h10]); (clear h10); (have m1 := Kq.undrew.cell d02.out id); (rw [if_pos (by rfl)]); (refine OpY.val ?_ ⟨⟨Kept.refl _ _, Gr.refl _⟩, rfl⟩); (first | rfl | go_simp)
    refine .cons (fun x wf Kk hq hdep hold => ?_) ?_
    · (try dsimp only); (clear hq hdep hold); (rw [if_pos (by rfl)]); (refine OpY.val ?_ ⟨⟨Kept.refl _ _, Gr.refl _⟩, rfl⟩); (first | rfl | go_simp)
    refine .cons (fun x wf Kk hq hdep hold => ?_) ?_
    · (try dsimp only); (have h12 : x 12 = _ := hdep 12 (by kernel_rfl)); (have Kq := hq no (fun j hj => by cases (show j ∈ ([] : List Nat) from by (have e : ∀ l : List Nat, l = [] → j ∈ l → j ∈ ([] : List Nat) := fun l h h2 => h ▸ h2); exact e _ (by kernel_rfl) hj))); (clear hq hdep hold); (simp only [h12]); (clear h12); (have m1 := Kq.undrew.cell d12.out id); (rw [if_pos (by rfl)]); (refine OpY.val ?_ ⟨⟨Kept.refl _ _, Gr.refl _⟩, rfl⟩); (first | rfl | go_simp)
    refine .cons (fun x wf Kk hq hdep hold => ?_) ?_
    · (try dsimp only); (have h11 : x 11 = _ := hdep 11 (by kernel_rfl)); (have h13 : x 13 = _ := hdep 13 (by kernel_rfl)); (clear hq hdep hold); (simp only [h11, h13]); (clear h11 h13); (rw [if_pos (by rfl)]); (refine OpY.call (f := 93) (args := #[(.int .i64 xb), (.int .i64 yb)]) (by go_simp) ?_); (refine (H3.out wf).mono ?_); (rintro e w7 ⟨rfl, rfl⟩); (exact ⟨_, rfl, ⟨Kept.refl _ _, Gr.refl _⟩, rfl⟩)
    refine .cons (fun x wf Kk hq hdep hold => ?_) ?_
    · (try dsimp only); (clear hq hdep hold); (rw [if_pos (by rfl)]); (refine OpY.val ?_ ⟨⟨Kept.refl _ _, Gr.refl _⟩, rfl⟩); (first | rfl | go_simp)
    refine .cons (fun x wf Kk hq hdep hold => ?_) ?_
    · (try dsimp only); (have h15 : x 15 = _ := hdep 15 (by kernel_rfl)); (have Kq := hq no (fun j hj => by cases (show j ∈ ([] : List Nat) from by (have e : ∀ l : List Nat, l = [] → j ∈ l → j ∈ ([] : List Nat) := fun l h h2 => h ▸ h2); exact e _ (by kernel_rfl) hj))); (clear hq hdep hold); (simp only [h15]); (clear h15); (have m1 := Kq.undrew.cell d03.out id); (rw [if_pos (by rfl)]); (refine OpY.val ?_ ⟨⟨Kept.refl _ _, Gr.refl _⟩, rfl⟩); (first | rfl | go_simp)
    refine .cons (fun x wf Kk hq hdep hold => ?_) ?_
    · (try dsimp only); (have h16 : x 16 = _ := hdep 16 (by kernel_rfl)); (clear hq hdep hold); (simp only [h16]); (clear h16); (rw [if_pos (by rfl)]); (refine OpY.val ?_ ⟨⟨Kept.refl _ _, Gr.refl _⟩, rfl⟩); (first | rfl | go_simp)
    refine .cons (fun x wf Kk hq hdep hold => ?_) ?_
    · (try dsimp only); (clear hq hdep hold); (rw [if_pos (by rfl)]); (refine OpY.val ?_ ⟨⟨Kept.refl _ _, Gr.refl _⟩, rfl⟩); (first | rfl | go_simp)
    refine .cons (fun x wf Kk hq hdep hold => ?_) ?_
    · (try dsimp only); (have h18 : x 18 = _ := hdep 18 (by kernel_rfl)); (have Kq := hq no (fun j hj => by cases (show j ∈ ([] : List Nat) from by (have e : ∀ l : List Nat, l = [] → j ∈ l → j ∈ ([] : List Nat) := fun l h h2 => h ▸ h2); exact e _ (by kernel_rfl) hj))); (clear hq hdep hold); (simp only [h18]); (clear h18); (have m1 := Kq.undrew.cell d13.out id); (rw [if_pos (by rfl)]); (refine OpY.val ?_ ⟨⟨Kept.refl _ _, Gr.refl _⟩, rfl⟩); (first | rfl | go_simp)
    refine .cons (fun x wf Kk hq hdep hold => ?_) ?_
    · (try dsimp only); (have h19 : x 19 = _ := hdep 19 (by kernel_rfl)); (clear hq hdep hold); (simp only [h19]); (clear h19); (rw [if_pos (by rfl)]); (refine OpY.val ?_ ⟨⟨Kept.refl _ _, Gr.refl _⟩, rfl⟩); (first | rfl | go_simp)
    refine .cons (fun x wf Kk hq hdep hold => ?_) ?_
    · (try dsimp only); (have h17 : x 17 = _ := hdep 17 (by kernel_rfl)); (have h20 : x 20 = _ := hdep 20 (by kernel_rfl)); (clear hq hdep hold); (simp only [h17, h20]); (clear h17 h20); (rw [if_pos (by rfl)]); (refine OpY.call (f := 93) (args := #[(.int .i64 (lx : Int)), (.int .i64 (ly : Int))]) (by go_simp) ?_); (refine (H4.out wf).mono ?_); (rintro e w7 ⟨rfl, rfl⟩); (exact ⟨_, rfl, ⟨Kept.refl _ _, Gr.refl _⟩, rfl⟩)
    refine .cons (fun x wf Kk hq hdep hold => ?_) ?_
    · (try dsimp only); (clear hq hdep hold); (rw [if_pos (by rfl)]); (refine OpY.val ?_ ⟨⟨Kept.refl _ _, Gr.refl _⟩, rfl⟩); (first | rfl | go_simp)
    refine .cons (fun x wf Kk hq hdep hold => ?_) ?_
    · (try dsimp only); (have h22 : x 22 = _ := hdep 22 (by kernel_rfl)); (have Kq := hq no (fun j hj => by cases (show j ∈ ([] : List Nat) from by (have e : ∀ l : List Nat, l = [] → j ∈ l → j ∈ ([] : List Nat) := fun l h h2 => h ▸ h2); exact e _ (by kernel_rfl) hj))); (clear hq hdep hold); (simp only [h22]); (clear h22); (have m1 := Kq.undrew.cell d03.out id); (rw [if_pos (by rfl)]); (refine OpY.val ?_ ⟨⟨Kept.refl _ _, Gr.refl _⟩, rfl⟩); (first | rfl | go_simp)
    refine .cons (fun x wf Kk hq hdep hold => ?_) ?_
    · (try dsimp only); (clear hq hdep hold); (rw [if_pos (by rfl)]); (refine OpY.val ?_ ⟨⟨Kept.refl _ _, Gr.refl _⟩, rfl⟩); (first | rfl | go_simp)
    refine .cons (fun x wf Kk hq hdep hold => ?_) ?_
    · (try dsimp only); (have h24 : x 24 = _ := hdep 24 (by kernel_rfl)); (have Kq := hq no (fun j hj => by cases (show j ∈ ([] : List Nat) from by (have e : ∀ l : List Nat, l = [] → j ∈ l → j ∈ ([] : List Nat) := fun l h h2 => h ▸ h2); exact e _ (by kernel_rfl) hj))); (clear hq hdep hold); (simp only [h24]); (clear h24); (have m1 := Kq.undrew.cell d13.out id); (rw [if_pos (by rfl)]); (refine OpY.val ?_ ⟨⟨Kept.refl _ _, Gr.refl _⟩, rfl⟩); (first | rfl | go_simp)
    refine .cons (fun x wf Kk hq hdep hold => ?_) ?_
    · (try dsimp only); (have h23 : x 23 = _ := hdep 23 (by kernel_rfl)); (have h25 : x 25 = _ := hdep 25 (by kernel_rfl)); (have Kq := hq no (fun j hj => by cases (show j ∈ ([] : List Nat) from by (have e : ∀ l : List Nat, l = [] → j ∈ l → j ∈ ([] : List Nat) := fun l h h2 => h ▸ h2); exact e _ (by kernel_rfl) hj))); (clear hq hdep hold); (simp only [h23, h25]); (clear h23 h25); (rw [if_pos (by rfl)]); (refine OpY.call (f := 45) (args := #[(.slice ax lx cx), (.slice ay ly cy)]) (by go_simp) ?_); (refine (H5.out wf Kq.undrew).mono ?_); (rintro e w7 ⟨rfl, rfl⟩); (exact ⟨_, rfl, ⟨Kept.refl _ _, Gr.refl _⟩, rfl⟩)
    refine .cons (fun x wf Kk hq hdep hold => ?_) ?_
    · (try dsimp only); (clear hq hdep hold); (rw [if_pos (by rfl)]); (refine OpY.val ?_ ⟨⟨Kept.refl _ _, Gr.refl _⟩, rfl⟩); (first | rfl | go_simp)
    refine .cons (fun x wf Kk hq hdep hold => ?_) ?_
    · (try dsimp only); (have h27 : x 27 = _ := hdep 27 (by kernel_rfl)); (have Kq := hq no (fun j hj => by cases (show j ∈ ([] : List Nat) from by (have e : ∀ l : List Nat, l = [] → j ∈ l → j ∈ ([] : List Nat) := fun l h h2 => h ▸ h2); exact e _ (by kernel_rfl) hj))); (clear hq hdep hold); (simp only [h27]); (clear h27); (have m1 := Kq.undrew.cell d04.out id); (rw [if_pos (by rfl)]); (refine OpY.val ?_ ⟨⟨Kept.refl _ _, Gr.refl _⟩, rfl⟩); (first | rfl | go_simp)
    refine .cons (fun x wf Kk hq hdep hold => ?_) ?_
    · (try dsimp only); (clear hq hdep hold); (rw [if_pos (by rfl)]); (refine OpY.val ?_ ⟨⟨Kept.refl _ _, Gr.refl _⟩, rfl⟩); (first | rfl | go_simp)
    refine .cons (fun x wf Kk hq hdep hold => ?_) ?_
    · (try dsimp only); (have h29 : x 29 = _ := hdep 29 (by kernel_rfl)); (have Kq := hq no (fun j hj => by cases (show j ∈ ([] : List Nat) from by (have e : ∀ l : List Nat, l = [] → j ∈ l → j ∈ ([] : List Nat) := fun l h h2 => h ▸ h2); exact e _ (by kernel_rfl) hj))); (clear hq hdep hold); (simp only [h29]); (clear h29); (have m1 := Kq.undrew.cell d14.out id); (rw [if_pos (by rfl)]); (refine OpY.val ?_ ⟨⟨Kept.refl _ _, Gr.refl _⟩, rfl⟩); (first | rfl | go_simp)
    refine .cons (fun x wf Kk hq hdep hold => ?_) ?_
    · (try dsimp only); (have h28 : x 28 = _ := hdep 28 (by kernel_rfl)); (have h30 : x 30 = _ := hdep 30 (by kernel_rfl)); (clear hq hdep hold); (simp only [h28, h30]); (clear h28 h30); (rw [if_pos (by rfl)]); (refine OpY.call (f := 93) (args := #[(.int .i64 xq), (.int .i64 yq)]) (by go_simp) ?_); (refine (H6.out wf).mono ?_); (rintro e w7 ⟨rfl, rfl⟩); (exact ⟨_, rfl, ⟨Kept.refl _ _, Gr.refl _⟩, rfl⟩)
    refine .cons (fun x wf Kk hq hdep hold => ?_) ?_
    · (try dsimp only); (have h4 : x 4 = _ := hdep 4 (by kernel_rfl)); (have h9 : x 9 = _ := hdep 9 (by kernel_rfl)); (have h14 : x 14 = _ := hdep 14 (by kernel_rfl)); (have h21 : x 21 = _ := hdep 21 (by kernel_rfl)); (have h26 : x 26 = _ := hdep 26 (by kernel_rfl)); (have h31 : x 31 = _ := hdep 31 (by kernel_rfl)); (clear hq hdep hold); (simp only [h4, h9, h14, h21, h26, h31]); (clear h4 h9 h14 h21 h26 h31); (rw [if_pos (by rfl)]); (refine OpY.buildG 26 3 6 _ rfl 1 _ Tryz.underlying26 infIntg (by decide) (by decide) [.int .i64 o1, .int .i64 o2, .int .i64 o3, .int .i64 o4, .int .i64 o5, .int .i64 o6] [(0, .int .i64 o1), (1, .int .i64 o2), (2, .int .i64 o3), (3, .int .i64 o4), (4, .int .i64 o5), (5, .int .i64 o6)] rfl (fill_rows 1 (by decide) _ [.int .i64 o1, .int .i64 o2, .int .i64 o3, .int .i64 o4, .int .i64 o5, .int .i64 o6] (fun v hv => by simp only [List.mem_cons, List.not_mem_nil, or_false] at hv; rcases hv with rfl | rfl | rfl | rfl | rfl | rfl <;> rfl)) ?_); (exact ⟨⟨(Kept.refl _ _).alloc _, Gr.alloc _ _⟩, Rd.block (us := [.int .i64 o1, .int .i64 o2, .int .i64 o3, .int .i64 o4, .int .i64 o5, .int .i64 o6]) (heap_alloc_new _ _) rfl (show 6 ≤ maxLen by decide)⟩)
    refine .cons (fun x wf Kk hq hdep hold => ?_) ?_
    · (try dsimp only); (have p32 : Pr.p (Sl := (fun _ => no)) (PRg [o1, o2, o3, o4, o5, o6]) (x 32) wf := hdep 32 (by kernel_rfl)); (clear hq hdep hold); (rw [if_pos (by rfl)]); (refine OpY.call (f := 132) (args := #[x 32]) (by go_simp) ?_); (refine (HO.out (x 32) wf p32).mono ?_); (rintro e w7 ⟨rfl, rfl⟩); (exact ⟨_, rfl, ⟨Kept.refl _ _, Gr.refl _⟩, rfl⟩)
    refine .cons (fun x wf Kk hq hdep hold => ?_) ?_
    · (try dsimp only); (have h33 : x 33 = _ := hdep 33 (by kernel_rfl)); (clear hq hdep hold); (simp only [h33]); (clear h33); (rw [if_pos (by rfl)]); (refine OpY.val ?_ ⟨⟨Kept.refl _ _, Gr.refl _⟩, rfl⟩); (first | rfl | go_simp)
    exact .nil _
  · (intro x wf Kk Gk hv); (try dsimp only); (have h34 : x 34 = _ := hv 34 (by kernel_rfl)); (clear hv); (simp only [h34]); (clear h34); (have hF : Hd (Gr w wf) := ⟨Gr.trans _ _ _ hG2.out (Gr.trans _ _ _ (Gr.drew _) Gk)⟩); (clear Kk Gk); (go_wp2); (go_ret); (exact ⟨rfl, hF.out⟩)
set_option maxRecDepth 20000 in
set_option maxHeartbeats 2000000 in
theorem isTailN_any (n : Nat) (v : Value) (T : List Int) (w : World) (hr : RdZ w v T) (hT : Tl n T) : Calls Tryz.prog 247 #[.int .i64 (n : Int), v] w fun e w' => e = .returned (.bool true) ∧ Kept no w w' := by
  (obtain ⟨ao, cap, rfl, hcap, hcm⟩ := Rd.shape2 hr); (have hm63 := maxLen_63); (obtain ⟨m, hm⟩ : ∃ m, T.length = m := ⟨_, rfl⟩); (have hml : m ≤ 9223372036854775807 := by omega); (have hm0 : 0 < m := by rw [← hm]; exact List.length_pos_iff.2 hT.ne); (have had := RdZ.addr hr)
  have hnot : Hd (∀ k (h : k < T.length), T.getD k 0 ∉ T.take k) := ⟨fun k h hm => by
    (rw [List.getD_eq_getElem?_getD, List.getElem?_eq_getElem h] at hm); (have hnd := hT.nd); (rw [← List.take_append_drop k T, List.nodup_append] at hnd)
    exact hnd.2.2 _ hm _ (by rw [List.drop_eq_getElem_cons h]; exact List.mem_cons_self) rfl⟩
  have hrg : Hd (∀ k (h : k < T.length), 0 ≤ T.getD k 0 ∧ T.getD k 0 < (n : Int)) := ⟨fun k h => by
    rw [List.getD_eq_getElem?_getD, List.getElem?_eq_getElem h]
    exact hT.rng _ (List.getElem_mem h)⟩
  (rw [hm] at hr hcap ⊢); (have hmc : m ≤ cap := hcap); (replace hm := hid hm); (replace hr := hid hr); (clear hcap hcm hT)
  go_enter Tryz.func247, Tryz.ntmps247
  go_upto_region 2 with fail
  go_loopw [9] (fun i wr => ∃ k : Nat, k ≤ m ∧ i = .int .i64 (k : Int) ∧ Hd (Kept no w wr)) (fun i _ => m - (intOf i).toNat)
  case atStart => exact ⟨0, by omega, rfl, ⟨Kept.refl _ _⟩⟩
  case round =>
    obtain ⟨k, hk, rfl, hK⟩ := hrel
    by_cases hlt : k < m
    · (have hk1 : (k : Int) < (m : Int) := by omega); (have hk0 : (0 : Int) ≤ (k : Int) := by omega); (have hkl : k < T.length := by rw [hm.out]; exact hlt); (obtain ⟨b, o, hao, hc⟩ := RdZ.at (RdZ.kept hr.out hK.out) k hkl); (subst hao); (obtain ⟨h0, h1⟩ := hrg.out k hkl); (have hnt := hnot.out k hkl); (obtain ⟨z, hz⟩ : ∃ z, T.getD k 0 = z := ⟨_, rfl⟩); (rw [hz] at hc h0 h1 hnt); (have hz0 : ¬ z < 0 := by omega); (have hzn : ¬ (n : Int) ≤ z := by omega); (have hsl := pre_slice (some ⟨b, o, none⟩) m cap k (.inr ⟨b, o, rfl⟩) (by omega) wr); (have HC := containsN_any (.slice (some ⟨b, o, none⟩) k cap) (T.take k) z wr (RdZ.take (RdZ.kept hr.out hK.out) k (by omega))); (rw [decide_eq_false hnt] at HC); (replace HC := hid HC); (clear hz hkl hnt); (go_wp2_with fail); (with_reducible refine HC.out.mono ?_); (rintro e w2 ⟨rfl, q2⟩); (have hK2 := hid (hK.out.trans' q2.kept)); (clear HC q2 hsl hc); (go_wp2); (go_roundw)
      case rel => first | exact ⟨k + 1, by omega, by go_num, hK2⟩ | ((repeat apply Exists.intro); exact ⟨⟨k + 1, by omega, by go_num, hK2⟩, rfl⟩)
      case measure => simp [intOf]; omega
    · (have hk1 : ¬ (k : Int) < (m : Int) := by omega); (have hm1 : (0 : Int) < (m : Int) := by omega); (go_wp2); (go_ret); (exact ⟨rfl, hK.out⟩)
end Go.Proofs.YtaobaaaihgahfaaGreat
