/- First preferences (printed by gen_cnt.py): slices.IndexFunc, First of both packages, Kept. -/
import Derived.Test.YtaobaaaihgahfaaGreatAddQ
import Derived.Shelf.Abstract
namespace Go.Mk
open Go.RowKit
theorem OpY.skipY {P : Program} {o : Oper} {a : Act} {w w' : World} {R : Value → World → Prop} (h : (execOp a.eval o).run P w = .ok .skip w') (hr : R undef w') : OpY P o a w R := by
  unfold OpY; rw [h]; exact hr
def PUv {Sl : Nat → Nat → Prop} (w0 : World) (g i : Nat) (v : Value) : Pr Sl := soft (fun _ w => ∃ w1, Kept no w0 w1 ∧ Kept no (w1.setCell ⟨g, i, none⟩ v) w) fun _ _ _ ⟨w1, h1, h2⟩ k => ⟨w1, h1, h2.trans' k⟩
end Go.Mk
namespace Go.Pil
theorem take_split {p : List Int} {k : Nat} (hk : k < p.length) : p = p.take k ++ p.getD k 0 :: p.drop (k + 1) := by
  (have : p.getD k 0 = p[k] := by simp [List.getD_eq_getElem?_getD, hk]); (rw [this, ← List.drop_eq_getElem_cons hk, List.take_append_drop])
theorem filter_nilB {f : Int → Bool} {l : List Int} (h : ∀ x ∈ l, f x = false) : l.filter f = [] := by
  rw [List.filter_eq_nil_iff]; intro x hx; rw [h x hx]; decide
theorem hd_at {remain : List Bool} {p : List Int} {k : Nat} (hk : k < p.length) (hn : ∀ x ∈ p.take k, inB remain x = false) (h : inB remain (p.getD k 0) = true) : hd remain p = some (p.getD k 0) := by
  unfold hd kept
  conv => lhs; rw [take_split hk, List.filter_append, filter_nilB hn, List.filter_cons, if_pos h]
  rfl
theorem hd_none {remain : List Bool} {p : List Int} (h : ∀ x ∈ p, inB remain x = false) : hd remain p = none := by
  unfold hd kept; rw [filter_nilB h]; rfl
theorem all_take {f : Int → Bool} {p : List Int} {k : Nat} (hk : k < p.length) (hn : ∀ x ∈ p.take k, f x = false) (h : f (p.getD k 0) = false) : ∀ x ∈ p.take (k + 1), f x = false := fun x hx => by
  (have e : p.getD k 0 = p[k] := by simp [List.getD_eq_getElem?_getD, hk]); (rw [List.take_succ_eq_append_getElem hk, List.mem_append] at hx)
  rcases hx with hx | hx
  · exact hn x hx
  · (obtain rfl : x = p[k] := by simpa using hx); (rw [← e]; exact h)
/-- The counts behind k groups. -/
def firstK (gs : List Grp) (remain : List Bool) (k : Nat) : List Int × Int := (gs.take k).foldl (fstep remain) (List.replicate remain.length 0, 0)
theorem firstK_step {gs : List Grp} {remain : List Bool} {k : Nat} {g : Grp} (hg : gs[k]? = some g) : firstK gs remain (k + 1) = fstep remain (firstK gs remain k) g := by
  (obtain ⟨hk, hgk⟩ := List.getElem?_eq_some_iff.1 hg); (unfold firstK); (rw [List.take_succ_eq_append_getElem hk, hgk, List.foldl_append]; rfl)
theorem firstK_all {gs : List Grp} {remain : List Bool} {k : Nat} (h : gs.length ≤ k) : firstK gs remain k = firstV gs remain := by
  unfold firstK firstV; rw [List.take_of_length_le h]
theorem firstK_facts {n : Int} {gs : List Grp} (remain : List Bool) (h : isPile n gs = true) (k : Nat) : (firstK gs remain k).1.length = remain.length ∧ (∀ c, 0 ≤ (firstK gs remain k).1.getD c 0 ∧ (firstK gs remain k).1.getD c 0 ≤ 100000) ∧ 0 ≤ (firstK gs remain k).2 ∧ (firstK gs remain k).2 ≤ 100000 := by
  (obtain ⟨h1, h2, h3, _⟩ := fold_first remain (gs.take k) (List.replicate remain.length 0, 0) (by simp)); (refine ⟨h1, fun c => ?_, ?_⟩)
  · by_cases hc : c < remain.length
    · (have := h2 c hc); (have hs := sumIf_pre (Q := fun p => hd remain p == some (c : Int)) h k); (unfold firstK); (rw [this]; simp [hc]; omega)
    · (unfold firstK); (rw [List.getD_eq_getElem?_getD, List.getElem?_eq_none (by omega)]; simp)
  · (have hs := sumIf_pre (Q := fun p => hd remain p == none) h k); (unfold firstK); (rw [h3]; simp only; omega)
end Go.Pil
namespace Go.Proofs.YtaobaaaihgahfaaGreat
open Go.RowKit Go.Mk Go.Pil
def zsA (l : List Int) : Array Value := (l.map Z).toArray
theorem zsA_at {w : World} {q : Nat} {l : List Int} (h : w.heap[q]? = some (.cells (zsA l) 3 (0, 0))) (c : Nat) (hc : c < l.length) : w.cell? ⟨q, c, none⟩ = some (.int .i64 (l.getD c 0)) := by
  rw [cell_of_row w _ c _ _ _ h]; simp [zsA, Z, hc]
theorem zsA_set (l : List Int) (c : Nat) (x : Int) : (zsA l).setIfInBounds c (.int .i64 x) = zsA (l.set c x) := by
  unfold zsA; rw [List.map_set]; simp [Z]
theorem own_zsA {w : World} {q : Nat} {l : List Int} (h : w.heap[q]? = some (.cells (zsA l) 3 (0, 0))) (m : Nat) (hm : l.length = m) (hb : m ≤ maxLen) : w.ownsRow 0 3 1 (.slice (some ⟨q, 0, none⟩) m m) l.length (l.map Z) := by
  (subst hm); (exact ⟨by simp, .inr ⟨q, _, _, rfl, Nat.zero_le _, h, Nat.le_refl _, hb, by simp [zsA], by rw [Nat.mul_one]; exact List.take_of_length_le (by simp [zsA])⟩⟩)
theorem zsA_made (n : Nat) : madeCells #[Value.int .i64 0] n = zsA (List.replicate n 0) := by
  unfold zsA
  apply Array.ext
  · simp [madeCells]
  · intro i h1 h2
    simp [madeCells, Nat.mod_one, Z]
theorem makeZ (n : Nat) (h : n ≤ 1000000) (w : World) : (Instr.makeSlice 26 (.int .i64 (n : Int)) (.int .i64 (n : Int))).run Tryz.prog w = .ok (.slice (some ⟨w.heap.size, 0, none⟩) n n) (w.alloc (.cells (zsA (List.replicate n 0)) 3)) := by
  (obtain ⟨i, hi, hz, hs, hb⟩ := info_parts (P := Tryz.prog) (e := 3) (z := .int .i64 0) (size := 1) (bytes := 8) (by kernel_rfl)); (have := run_make (P := Tryz.prog) w 26 3 i _ Tryz.underlying26 hi hz .i64 .i64 n n (by omega) (by omega) (by rw [hb]; omega) (by omega)); (rw [this, hs, Nat.mul_one, Int.toNat_natCast]); (rw [show (Value.int .i64 0).cells = #[Value.int .i64 0] from rfl, zsA_made])
/-- A list of numbers of its own. -/
structure OwZ (w w' : World) (v : Value) (zs : List Int) : Prop where
  own : w'.ownsRow 0 3 1 v zs.length (zs.map Z)
  kept : Kept no w w'
  new : New w v
theorem OwZ.rd {w w' : World} {v : Value} {zs : List Int} (h : OwZ w w' v zs) : RdZ w' v zs := own_RdZ h.own
theorem OwZ.keptNo {w w' w2 : World} {v : Value} {zs : List Int} (h : OwZ w w' v zs) (k : Kept no w' w2) : OwZ w w2 v zs := ⟨k.ownsRow h.own fun _ _ => id, h.kept.trans' k, h.new⟩
theorem OwZ.nil (w : World) : OwZ w w (.slice none 0 0) [] := ⟨World.ownsRow_nil _ _ _ _, Kept.refl _ _, .inl rfl⟩
theorem OwZ.add {w w1 w2 : World} {v v' : Value} {zs : List Int} (h : OwZ w w1 v zs) (x : Int) (ho : w2.ownsRow 0 3 1 v' (zs.length + 1) (zs.map Z ++ [.int .i64 x])) (hk : Kept (ob v) w1 w2) (hn : NewOr w1 v v') : OwZ w w2 v' (zs ++ [x]) :=
  ⟨by rw [List.length_append, List.map_append]; exact ho, h.new.kept h.kept hk, h.new.step hn h.kept.size⟩
set_option maxHeartbeats 1000000 in
theorem first1_any (v : Value) (bs : List Bool) (c B : Nat) (w : World) (hr : RdT w v bs) (hB : w.cell? ⟨B, 0, none⟩ = some v) : Calls Tryz.prog 76 #[.int .i64 (c : Int), .pointer (some ⟨B, 0, none⟩)] w fun e w' => e = .returned (.bool (inB bs (c : Int))) ∧ Qt w w' := by
  (have HR := hid (Qt.quiet (w := w) fun W (kw : Qt w W) => (remains_any v bs c W (hr.kept kw.kept)).mono fun e w' ⟨he, hw⟩ => (⟨he, by rw [hw]; exact Qt.refl _⟩ : e = .returned (.bool (inB bs (c : Int))) ∧ Qt W w'))); (clear hr)
  go_enter Tryz.func76, Tryz.ntmps76
  (go_wp2_with fail); (refine (HR.out 0).mono ?_); (rintro e w1 ⟨rfl, q, rfl⟩); (go_wp2); (go_ret); (exact ⟨rfl, q, rfl⟩)
set_option maxRecDepth 20000 in
set_option maxHeartbeats 1000000 in
theorem indexfunc_any (vz : Value) (zs : List Int) (v : Value) (bs : List Bool) (B : Nat) (w : World) (hz : RdZ w vz zs) (h0 : ∀ x ∈ zs, 0 ≤ x) (hr : RdT w v bs) (hB : w.cell? ⟨B, 0, none⟩ = some v) : Calls Tryz.prog 31 #[vz, .func (.func 76) #[] #[.pointer (some ⟨B, 0, none⟩)]] w fun e w' => ∃ r : Int, e = .returned (.int .i64 r) ∧ ((r = -1 ∧ hd bs zs = none) ∨ ∃ i : Nat, r = (i : Int) ∧ i < zs.length ∧ hd bs zs = some (zs.getD i 0)) ∧ Qt w w' := by
  (obtain ⟨ao, cap, rfl, hcap, hcm⟩ := Rd.shape2 hz); (have hm63 := maxLen_63); (replace hz := hid hz); (replace hr := hid hr); (replace hB := hid hB); (replace h0 := hid h0)
  go_enter Tryz.func31, Tryz.ntmps31
  go_wp2
  go_loopw [8] (fun i wr => ∃ k : Nat, k ≤ zs.length ∧ i = .int .i64 (k : Int) ∧ Hd (∀ x ∈ zs.take k, inB bs x = false) ∧ Hd (Qt w wr)) (fun i _ => zs.length - (intOf i).toNat)
  case atStart => exact ⟨0, by omega, rfl, ⟨by simp⟩, ⟨Qt.refl _⟩⟩
  case round =>
    obtain ⟨k, hk, rfl, hx, hW⟩ := hrel
    by_cases hlt : k < zs.length
    · (obtain ⟨b, o, rfl, hc⟩ := (hz.out.kept hW.out.kept).at k hlt); (have hk1 : (k : Int) < (zs.length : Int) := by omega); (have hpos : 0 ≤ zs.getD k 0 := h0.out _ (by rw [List.getD_eq_getElem?_getD, List.getElem?_eq_getElem hlt]; exact List.getElem_mem hlt)); (have hat := hid (fun h => hd_at (remain := bs) hlt hx.out h)); (have hst := hid (fun h => all_take (f := inB bs) hlt hx.out h)); (obtain ⟨z, hgd⟩ : ∃ z, zs.getD k 0 = z := ⟨_, rfl⟩); (rw [hgd] at hc hst hat hpos); (replace hgd := hid hgd); (obtain ⟨c, rfl⟩ : ∃ c : Nat, z = (c : Int) := ⟨z.toNat, by omega⟩); (have HC := hid (first1_any v bs c B wr (hr.out.kept hW.out.kept) (hW.out.kept.cell hB.out id)))
      cases he : inB bs (c : Int) with
      | true =>
        (rw [he] at HC); (have hv := hid (hat.out he)); (clear he hat hst hx); (go_wp2_with fail); (refine HC.out.mono ?_); (rintro e w1 ⟨rfl, k1⟩); (have hW' := hid (hW.out.trans k1)); (clear k1 HC); (go_wp2); (go_ret); (exact ⟨_, rfl, .inr ⟨k, rfl, hlt, by rw [hv.out, hgd.out]⟩, hW'.out⟩)
      | false =>
        (rw [he] at HC); (have hn := hid (hst.out he)); (clear he hst hat hx); (go_wp2_with fail); (refine HC.out.mono ?_); (rintro e w1 ⟨rfl, k1⟩); (have hW' := hid (hW.out.trans k1)); (clear k1 HC); (go_wp2); (go_roundw)
        case rel => first | exact ⟨k + 1, by omega, by go_num, hn, hW'⟩ | ((repeat apply Exists.intro); exact ⟨⟨k + 1, by omega, by go_num, hn, hW'⟩, rfl⟩)
        case measure => simp [intOf]; omega
    · (obtain rfl : k = zs.length := by omega); (have hv : Hd (hd bs zs = none) := ⟨hd_none (by have := hx.out; rwa [List.take_length] at this)⟩); (clear hx); (go_wp2); (go_ret); (exact ⟨_, rfl, .inl ⟨rfl, hv.out⟩, hW.out⟩)
theorem zsA_step {w w1 w2 : World} {q : Nat} {l : List Int} {c : Nat} {x : Int} (h : w.heap[q]? = some (.cells (zsA l) 3 (0, 0))) (k1 : Kept no w w1) (k2 : Kept no (w1.setCell ⟨q, c, none⟩ (.int .i64 x)) w2) : w2.heap[q]? = some (.cells (zsA (l.set c x)) 3 (0, 0)) := by
  (have h1 := k1.blk h); (have h2 := setCell_row h1 c (.int .i64 x)); (rw [zsA_set] at h2); (exact k2.blk h2)
theorem fr_row {w : World} {g : Nat} {c : Array Value} {t : TypeId} (h : w.heap[g]? = some (.cells c t (0, 0))) (j : Nat) : ∀ W, Kept no w W → W.frozen? ⟨g, j, none⟩ = false := fun _ k => row_free (k.blk h) j
theorem fstep_none {remain : List Bool} {s : List Int × Int} {g : Grp} (h : hd remain g.p = none) : fstep remain s g = (s.1, s.2 + g.n) := by unfold fstep; rw [h]
theorem fstep_some {remain : List Bool} {s : List Int × Int} {g : Grp} {c : Nat} (h : hd remain g.p = some (c : Int)) : fstep remain s g = (s.1.set c (s.1.getD c 0 + g.n), s.2) := by unfold fstep; rw [h]; rfl
set_option maxRecDepth 100000 in
set_option maxHeartbeats 4000000 in
theorem first_any (v vr : Value) (ps : List (Grp × Value)) (bs : List Bool) (w : World) (hr : RdG w v ps) (hb : RdT w vr bs) : Calls Tryz.prog 28 #[v, vr] w fun e w' => ∃ v', e = .returned (.tuple #[v', .int .i64 (first (grps ps) bs).2]) ∧ OwZ w w' v' (first (grps ps) bs).1 := by
  (obtain ⟨ao, cap, rfl, hcap, hcm⟩ := hr.shape); (obtain ⟨ab, cb, rfl, hcb, hcbm⟩ := Rd.shape2 hb); (have hm63 := maxLen_63); (obtain ⟨w0, hw0, g0, k0⟩ := alloc_named w (.cells #[.slice ab bs.length cb] 68)); (have HI := isany_any _ ps w0 (hr.kept k0))
  cases hP : isPile 7 (grps ps) with
  | false =>
    (have hv : Hd (first (grps ps) bs = ([], 0)) := ⟨by unfold first; rw [if_neg (by rw [hP]; simp)]⟩); (rw [hP] at HI); (replace HI := hid HI); (replace k0 := hid k0); (replace hw0 := hid hw0); (clear hP hr hb g0)
    go_enter Tryz.func28, Tryz.ntmps28
    (go_wp2_with fail); (rw [← hw0.out]); (refine HI.out.mono ?_); (rintro e w1 ⟨rfl, k1⟩); (have k2 := hid (k0.out.trans' k1)); (clear k1 HI); (go_wp2); (go_ret2); (exact ⟨_, by rw [hv.out] <;> rfl, by rw [hv.out]; exact (OwZ.nil w).keptNo k2.out⟩)
  | true =>
    (rw [hP] at HI); (replace HI := hid HI); (have c0 : w0.cell? ⟨w.heap.size, 0, none⟩ = some (.slice ab bs.length cb) := by rw [cell_of_row w0 _ 0 _ _ _ g0]; rfl)
    by_cases hl : bs.length ≤ 7
    · (have hv : Hd (first (grps ps) bs = firstV (grps ps) bs) := ⟨by unfold first; rw [if_pos ⟨hP, hl⟩]⟩); (have hle : decide ((7 : Int) < (bs.length : Int)) = false := decide_eq_false (by omega)); (have HF := hid (firstK_facts bs hP)); (have hlk : Hd (∀ k, (firstK (grps ps) bs k).1.length = bs.length) := ⟨fun k => (HF.out k).1⟩)
      have hbal : Hd (∀ x ∈ ps, ∀ z ∈ x.1.p, (0 : Int) ≤ z) := ⟨fun x hx z hz => by
        have := ((isPile_iff 7 _).1 hP).1 x.1 (by unfold grps; exact List.mem_map_of_mem hx)
        exact (((ballot_iff _ _).1 this.1).2 z hz).1⟩
      (have hmk := fun w => makeZ bs.length (by omega) w); (replace k0 := hid k0); (replace hr := hid hr); (replace hb := hid hb); (obtain ⟨q, hq⟩ : ∃ q, w.heap.size = q := ⟨_, rfl⟩); (rw [hq] at c0); (have hw0' : Hd (w0 = w.alloc (.cells #[.slice ab bs.length cb] 68)) := ⟨hw0⟩); (clear hP g0 hw0); (obtain ⟨len, hlen⟩ : ∃ len, ps.length = len := ⟨_, rfl⟩); (rw [hlen] at hr hcap HI ⊢); (replace hlen := hid hlen)
      go_enter Tryz.func28, Tryz.ntmps28
      (go_wp2_with fail); (rw [← hw0'.out]); (refine HI.out.mono ?_); (rintro e w1 ⟨rfl, k1⟩); (have c1 := k1.cell c0 id); (have k2 := hid (k0.out.trans' k1)); (have hqv : Hd (q < w1.heap.size) := ⟨lt_of_cell c1⟩); (clear k1 HI c0 hw0' k0); (go_wp2); (obtain ⟨w2, hw2, g2, k3⟩ := alloc_named w1 (.cells (zsA (List.replicate bs.length 0)) 3)); (rw [← hw2]); (obtain ⟨bv, hbv⟩ : ∃ bv, w1.heap.size = bv := ⟨_, rfl⟩); (rw [hbv] at g2 ⊢); (have hbv2 : Hd (w.heap.size ≤ bv) := ⟨by rw [← hbv]; exact k2.out.size⟩); (rw [hbv] at hqv); (replace hbv := hid hbv); (have c2 := k3.cell c1 id); (have hk2 := hid (k2.out.trans' k3)); (replace g2 := hid g2); (replace c2 := hid c2); (clear k3 k2 hw2 c1 hmk)
      go_loopw [5, 22] (fun R i wr => ∃ (k : Nat) (X : Int), k ≤ len ∧ i = .int .i64 (k : Int) ∧ R = .int .i64 X ∧ 0 ≤ X ∧ X ≤ 100000 ∧ Hd (X = (firstK (grps ps) bs k).2) ∧ Hd (wr.heap[bv]? = some (.cells (zsA (firstK (grps ps) bs k).1) 3 (0, 0))) ∧ Hd (Kept no w wr) ∧ Hd (Kept (fun j => j = bv) w2 wr)) (fun _ i _ => len - (intOf i).toNat)
      case atStart => exact ⟨0, 0, by omega, rfl, rfl, by omega, by omega, ⟨rfl⟩, g2, hk2, ⟨Kept.refl _ _⟩⟩
      case round =>
        obtain ⟨k, X, hk, rfl, rfl, hX0, hX1, hX, hg, hW, hW2⟩ := hrel
        by_cases hlt : k < len
        · (have hk1 : (k : Int) < (len : Int) := by omega); (have hk0 : (0 : Int) ≤ (k : Int) := by omega); (have hkl : k < ps.length := by rw [hlen.out]; exact hlt); (obtain ⟨b, o, g, vg, rfl, hel, e0, e1, hz⟩ := (hr.out.kept hW.out).at k hkl); (have hst := hid (firstK_step (remain := bs) (grps_get _ hel))); (have hgz := hbal.out _ (List.getElem_mem hkl)); (rw [hel] at hgz); (have hF1 := hid (HF.out (k + 1))); (have hcq := hW2.out.cell c2.out (by show ¬ q = bv; have := hqv.out; omega)); (obtain ⟨N, hN⟩ : ∃ N, g.n = N := ⟨_, rfl⟩); (obtain ⟨av, cv, rfl, _, _⟩ := Rd.shape2 hz); (obtain ⟨lv, hlv⟩ : ∃ lv, g.p.length = lv := ⟨_, rfl⟩); (rw [hlv] at e0 hz); (rw [hN] at e1); (replace hN := hid hN); (replace hlv := hid hlv); (clear hel); (go_upto_region 7 with fail); (obtain ⟨wa, hwa, ga, ka⟩ := alloc_named wr (.cells #[.slice av lv cv, .int .i64 N] 105)); (rw [← hwa]); (have d0 : wa.cell? ⟨wr.heap.size, 0, none⟩ = some (.slice av lv cv) := by rw [cell_of_row wa _ 0 _ _ _ ga]; rfl); (have d1 : wa.cell? ⟨wr.heap.size, 1, none⟩ = some (.int .i64 N) := by rw [cell_of_row wa _ 1 _ _ _ ga]; rfl); (have HIF := hid (indexfunc_any (.slice av lv cv) g.p (.slice ab bs.length cb) bs q wa (hz.kept ka) hgz ((hb.out.kept hW.out).kept ka) (ka.cell hcq id))); (have hza := hid (hz.kept ka)); (replace ka := hid ka); (generalize wr.heap.size = qb at d0 d1); (clear hwa ga e0 e1 hz hgz hcq); (go_wp2_with fail); (refine HIF.out.mono ?_); (rintro e w3 ⟨r, rfl, hcase, k4⟩); (have f0 := hid (k4.kept.cell d0 id)); (have f1 := hid (k4.kept.cell d1 id)); (have ka3 := hid (ka.out.trans' k4.kept)); (have hza := hid (hza.out.kept k4.kept)); (have hW3 := hid (hW.out.trans' ka3.out)); (have hW23 := hid (hW2.out.trans' ka3.out)); (have hg3 := hid (ka3.out.blk hg.out)); (clear k4 d0 d1 HIF ka ka3 hg hW hW2)
          rcases hcase with ⟨rfl, hno⟩ | ⟨a, rfl, hal, hso⟩
          · (have hX' : Hd (X + N = (firstK (grps ps) bs (k + 1)).2) := ⟨by rw [hst.out, fstep_none hno, hX.out, hN.out]⟩); (have hb1 := hF1.out.2.2); (rw [← hX'.out] at hb1); (obtain ⟨hb1, hb2⟩ := hb1); (have hw1 : IntKind.i64.wrap (X + N) = X + N := IntWalk.i64_in _ (by omega)); (have hg' : Hd (w3.heap[bv]? = some (.cells (zsA (firstK (grps ps) bs (k + 1)).1) 3 (0, 0))) := ⟨by rw [hst.out, fstep_none hno]; exact hg3.out⟩); (have f1' := f1.out); (clear hno hst hX hF1 hg3 f0 f1 hza); (go_wp2); (go_roundw)
            case rel => first | exact ⟨k + 1, X + N, by omega, by go_num, rfl, hb1, hb2, hX', hg', hW3, hW23⟩ | ((repeat apply Exists.intro); exact ⟨⟨k + 1, X + N, by omega, by go_num, rfl, hb1, hb2, hX', hg', hW3, hW23⟩, rfl⟩)
            case measure => simp [intOf]; omega
          · (obtain ⟨bz, oz, hav, fz⟩ := hza.out.at a hal); (obtain ⟨hc0, hcl, _, _⟩ := hd_in hso); (obtain ⟨c, hc⟩ : ∃ c : Nat, g.p.getD a 0 = (c : Int) := ⟨(g.p.getD a 0).toNat, by omega⟩); (rw [hc] at hso hc0 hcl fz); (rw [Int.toNat_natCast] at hcl); (subst hav); (obtain ⟨V, hVe⟩ : ∃ V, (firstK (grps ps) bs k).1.getD c 0 = V := ⟨_, rfl⟩); (have hV := zsA_at hg3.out c (by rw [hlk.out k]; exact hcl)); (rw [hVe] at hV); (have hfr := hid (fr_row hg3.out c)); (have he : Hd (firstK (grps ps) bs (k + 1) = ((firstK (grps ps) bs k).1.set c (V + N), (firstK (grps ps) bs k).2)) := ⟨by rw [hst.out, fstep_some hso, hVe, hN.out]⟩); (have hbb := hF1.out.2.1 c); (rw [he.out] at hbb); (simp only [List.getD_eq_getElem?_getD] at hbb); (rw [List.getElem?_set_self (by rw [hlk.out k]; exact hcl)] at hbb); (simp only [Option.getD_some] at hbb); (have hX' : Hd (X = (firstK (grps ps) bs (k + 1)).2) := ⟨by rw [he.out]; exact hX.out⟩); (rw [hlv.out] at hal); (have hsum : IntKind.i64.wrap (V + N) = V + N := IntWalk.i64_in _ (by omega)); (have ha0 : (0 : Int) ≤ (a : Int) := by omega); (have ha1 : (a : Int) < (lv : Int) := by omega); (have hc1 : (c : Int) < (bs.length : Int) := by omega); (have had : decide ((a : Int) < 0) = false := decide_eq_false (by omega)); (replace hV := hid hV); (replace fz := hid fz); (replace hVe := hid hVe); (replace hc := hid hc); (clear hso hst hX hF1 hbb hza); (go_upto_region 10 with fail); (refine region_flow (S := (fun j => j = bv)) (Sl := (fun _ => (fun j => j = bv))) [Is (.slice (some ⟨bv, 0, none⟩) bs.length bs.length), Is (.pointer (some ⟨qb, 0, none⟩)), Is (.slice (some ⟨bz, oz, none⟩) lv cv), Is (.int .i64 (a : Int)), Is (.pointer (some ⟨bz, oz + a, none⟩)), Is (.int .i64 (c : Int)), Is (.pointer (some ⟨bv, c, none⟩)), Is (.int .i64 V), Is (.pointer (some ⟨qb, 1, none⟩)), Is (.int .i64 N), Is (.int .i64 (V + N)), Is (.pointer (some ⟨bv, c, none⟩)), PUv w3 bv c (.int .i64 (V + N))] [12] (fun _ _ h => h) _ (by kernel_rfl) (by kernel_rfl) (by kernel_rfl) (by kernel_rfl) (fun x => by simp only [puts, Act.put, List.map_cons, List.map_nil, Nat.zero_add, Nat.reduceAdd, List.setIfInBounds_toArray, List.set_cons_zero, List.set_cons_succ]; exact rfl) ?_ ?_)
            · (skip); (refine Steps.cons (fun x wf Kk hq hdep hold => ?_) ?_)
              · (try dsimp only); (clear hq hdep hold); (rw [if_pos (by rfl)]); (refine OpY.val (v := (.slice (some ⟨bv, 0, none⟩) bs.length bs.length)) ?_ ⟨Kept.refl _ _, rfl⟩); (first | rfl | go_simp)
              refine Steps.cons (fun x wf Kk hq hdep hold => ?_) ?_
              · (try dsimp only); (clear hq hdep hold); (rw [if_pos (by rfl)]); (refine OpY.val (v := (.pointer (some ⟨qb, 0, none⟩))) ?_ ⟨Kept.refl _ _, rfl⟩); (first | rfl | go_simp)
              refine Steps.cons (fun x wf Kk hq hdep hold => ?_) ?_
              · (try dsimp only); (have h1 : x 1 = (.pointer (some ⟨qb, 0, none⟩)) := hdep 1 (by kernel_rfl)); (have Kq := hq no (fun j hj => by cases (show j ∈ ([] : List Nat) from by (have e : ∀ l : List Nat, l = [] → j ∈ l → j ∈ ([] : List Nat) := fun l h h2 => h ▸ h2); exact e _ (by kernel_rfl) hj))); (clear hq hdep hold); (simp only [h1]); (clear h1); (have cvf := Kq.undrew.cell f0.out id); (rw [if_pos (by rfl)]); (refine OpY.val (v := (.slice (some ⟨bz, oz, none⟩) lv cv)) ?_ ⟨Kept.refl _ _, rfl⟩); (first | rfl | go_simp)
              refine Steps.cons (fun x wf Kk hq hdep hold => ?_) ?_
              · (try dsimp only); (clear hq hdep hold); (rw [if_pos (by rfl)]); (refine OpY.val (v := (.int .i64 (a : Int))) ?_ ⟨Kept.refl _ _, rfl⟩); (first | rfl | go_simp)
              refine Steps.cons (fun x wf Kk hq hdep hold => ?_) ?_
              · (try dsimp only); (have h2 : x 2 = (.slice (some ⟨bz, oz, none⟩) lv cv) := hdep 2 (by kernel_rfl)); (have h3 : x 3 = (.int .i64 (a : Int)) := hdep 3 (by kernel_rfl)); (clear hq hdep hold); (simp only [h2, h3]); (clear h2 h3); (rw [if_pos (by rfl)]); (refine OpY.val (v := (.pointer (some ⟨bz, oz + a, none⟩))) ?_ ⟨Kept.refl _ _, rfl⟩); (first | rfl | go_simp)
              refine Steps.cons (fun x wf Kk hq hdep hold => ?_) ?_
              · (try dsimp only); (have h4 : x 4 = (.pointer (some ⟨bz, oz + a, none⟩)) := hdep 4 (by kernel_rfl)); (have Kq := hq no (fun j hj => by cases (show j ∈ ([] : List Nat) from by (have e : ∀ l : List Nat, l = [] → j ∈ l → j ∈ ([] : List Nat) := fun l h h2 => h ▸ h2); exact e _ (by kernel_rfl) hj))); (clear hq hdep hold); (simp only [h4]); (clear h4); (have cvf := Kq.undrew.cell fz.out id); (rw [if_pos (by rfl)]); (refine OpY.val (v := (.int .i64 (c : Int))) ?_ ⟨Kept.refl _ _, rfl⟩); (first | rfl | go_simp)
              refine Steps.cons (fun x wf Kk hq hdep hold => ?_) ?_
              · (try dsimp only); (have h0 : x 0 = (.slice (some ⟨bv, 0, none⟩) bs.length bs.length) := hdep 0 (by kernel_rfl)); (have h5 : x 5 = (.int .i64 (c : Int)) := hdep 5 (by kernel_rfl)); (clear hq hdep hold); (simp only [h0, h5]); (clear h0 h5); (rw [if_pos (by rfl)]); (refine OpY.val (v := (.pointer (some ⟨bv, c, none⟩))) ?_ ⟨Kept.refl _ _, rfl⟩); (first | rfl | go_simp)
              refine Steps.cons (fun x wf Kk hq hdep hold => ?_) ?_
              · (try dsimp only); (have h6 : x 6 = (.pointer (some ⟨bv, c, none⟩)) := hdep 6 (by kernel_rfl)); (have Kq := hq no (fun j hj => by cases (show j ∈ ([] : List Nat) from by (have e : ∀ l : List Nat, l = [] → j ∈ l → j ∈ ([] : List Nat) := fun l h h2 => h ▸ h2); exact e _ (by kernel_rfl) hj))); (clear hq hdep hold); (simp only [h6]); (clear h6); (have cvf := Kq.undrew.cell hV.out id); (rw [if_pos (by rfl)]); (refine OpY.val (v := (.int .i64 V)) ?_ ⟨Kept.refl _ _, rfl⟩); (first | rfl | go_simp)
              refine Steps.cons (fun x wf Kk hq hdep hold => ?_) ?_
              · (try dsimp only); (clear hq hdep hold); (rw [if_pos (by rfl)]); (refine OpY.val (v := (.pointer (some ⟨qb, 1, none⟩))) ?_ ⟨Kept.refl _ _, rfl⟩); (first | rfl | go_simp)
              refine Steps.cons (fun x wf Kk hq hdep hold => ?_) ?_
              · (try dsimp only); (have h8 : x 8 = (.pointer (some ⟨qb, 1, none⟩)) := hdep 8 (by kernel_rfl)); (have Kq := hq no (fun j hj => by cases (show j ∈ ([] : List Nat) from by (have e : ∀ l : List Nat, l = [] → j ∈ l → j ∈ ([] : List Nat) := fun l h h2 => h ▸ h2); exact e _ (by kernel_rfl) hj))); (clear hq hdep hold); (simp only [h8]); (clear h8); (have cvf := Kq.undrew.cell f1.out id); (rw [if_pos (by rfl)]); (refine OpY.val (v := (.int .i64 N)) ?_ ⟨Kept.refl _ _, rfl⟩); (first | rfl | go_simp)
              refine Steps.cons (fun x wf Kk hq hdep hold => ?_) ?_
              · (try dsimp only); (have h7 : x 7 = (.int .i64 V) := hdep 7 (by kernel_rfl)); (have h9 : x 9 = (.int .i64 N) := hdep 9 (by kernel_rfl)); (clear hq hdep hold); (simp only [h7, h9]); (clear h7 h9); (rw [if_pos (by rfl)]); (refine OpY.val (v := (.int .i64 (V + N))) ?_ ⟨Kept.refl _ _, rfl⟩); (first | rfl | go_simp)
              refine Steps.cons (fun x wf Kk hq hdep hold => ?_) ?_
              · (try dsimp only); (have h0 : x 0 = (.slice (some ⟨bv, 0, none⟩) bs.length bs.length) := hdep 0 (by kernel_rfl)); (have h5 : x 5 = (.int .i64 (c : Int)) := hdep 5 (by kernel_rfl)); (clear hq hdep hold); (simp only [h0, h5]); (clear h0 h5); (rw [if_pos (by rfl)]); (refine OpY.val (v := (.pointer (some ⟨bv, c, none⟩))) ?_ ⟨Kept.refl _ _, rfl⟩); (first | rfl | go_simp)
              refine Steps.cons (fun x wf Kk hq hdep hold => ?_) ?_
              · (try dsimp only); (have h11 : x 11 = (.pointer (some ⟨bv, c, none⟩)) := hdep 11 (by kernel_rfl)); (have h10 : x 10 = (.int .i64 (V + N)) := hdep 10 (by kernel_rfl)); (have Kq := hq no (fun j hj => by cases (show j ∈ ([] : List Nat) from by (have e : ∀ l : List Nat, l = [] → j ∈ l → j ∈ ([] : List Nat) := fun l h h2 => h ▸ h2); exact e _ (by kernel_rfl) hj))); (clear hq hdep hold); (simp only [h11, h10]); (clear h11 h10); (rw [if_pos (by rfl)]); (have kq := Kq.undrew); (have hc1 := kq.cell hV.out id); (have hc2 := hfr.out _ kq); (refine OpY.skipY (w' := wf.setCell ⟨bv, c, none⟩ (.int .i64 (V + N))) (by go_simp) ⟨(Kept.refl (fun j => j = bv) wf).setCell (a := ⟨bv, c, none⟩) (.inl rfl) _, wf, kq, Kept.refl _ _⟩)
              exact Steps.nil _
            · (intro x wf Kk hv); (try dsimp only); (have h0 : x 0 = (.slice (some ⟨bv, 0, none⟩) bs.length bs.length) := hv 0 (by kernel_rfl)); (have h1 : x 1 = (.pointer (some ⟨qb, 0, none⟩)) := hv 1 (by kernel_rfl)); (have h2 : x 2 = (.slice (some ⟨bz, oz, none⟩) lv cv) := hv 2 (by kernel_rfl)); (have h3 : x 3 = (.int .i64 (a : Int)) := hv 3 (by kernel_rfl)); (have h4 : x 4 = (.pointer (some ⟨bz, oz + a, none⟩)) := hv 4 (by kernel_rfl)); (have h5 : x 5 = (.int .i64 (c : Int)) := hv 5 (by kernel_rfl)); (have h6 : x 6 = (.pointer (some ⟨bv, c, none⟩)) := hv 6 (by kernel_rfl)); (have h7 : x 7 = (.int .i64 V) := hv 7 (by kernel_rfl)); (have h8 : x 8 = (.pointer (some ⟨qb, 1, none⟩)) := hv 8 (by kernel_rfl)); (have h9 : x 9 = (.int .i64 N) := hv 9 (by kernel_rfl)); (have h10 : x 10 = (.int .i64 (V + N)) := hv 10 (by kernel_rfl)); (have h11 : x 11 = (.pointer (some ⟨bv, c, none⟩)) := hv 11 (by kernel_rfl)); (have p12 : Pr.p (Sl := (fun _ => (fun j => j = bv))) (PUv w3 bv c (.int .i64 (V + N))) (x 12) wf := hv 12 (by kernel_rfl)); (clear hv); (simp only [h0, h1, h2, h3, h4, h5, h6, h7, h8, h9, h10, h11]); (clear h0 h1 h2 h3 h4 h5 h6 h7 h8 h9 h10 h11); (obtain ⟨wm, km, kn⟩ := p12); (have hg' : Hd (wf.heap[bv]? = some (.cells (zsA (firstK (grps ps) bs (k + 1)).1) 3 (0, 0))) := ⟨by rw [he.out]; exact zsA_step hg3.out km kn⟩); (have hW' := hid (((hW3.out.trans' km).setCell (a := ⟨bv, c, none⟩) (.inr hbv2.out) (.int .i64 (V + N))).trans' kn)); (have hW2' := hid (((hW23.out.trans' km).setCell (a := ⟨bv, c, none⟩) (.inl rfl) (.int .i64 (V + N))).trans' kn)); (clear km kn hW3 hW23 hg3 Kk f0 f1 fz hV hfr he); (go_wp2); (go_roundw)
              case rel => first | exact ⟨k + 1, X, by omega, by go_num, rfl, hX0, hX1, hX', hg', hW', hW2'⟩ | ((repeat apply Exists.intro); exact ⟨⟨k + 1, X, by omega, by go_num, rfl, hX0, hX1, hX', hg', hW', hW2'⟩, rfl⟩)
              case measure => simp [intOf]; omega
        · (obtain rfl : k = len := by omega); (have hfk : Hd (firstK (grps ps) bs k = firstV (grps ps) bs) := ⟨firstK_all (by rw [grps_length, hlen.out]; exact Nat.le_refl _)⟩); (have hfl : Hd ((firstV (grps ps) bs).1.length = bs.length) := ⟨by rw [← hfk.out]; exact hlk.out k⟩); (have hX' : Hd (X = (first (grps ps) bs).2) := ⟨by rw [hX.out, hfk.out, hv.out]⟩); (have hg' : Hd (wr.heap[bv]? = some (.cells (zsA (first (grps ps) bs).1) 3 (0, 0))) := ⟨by rw [hg.out, hfk.out, hv.out]⟩); (have hln : Hd ((first (grps ps) bs).1.length = bs.length) := ⟨by rw [hv.out]; exact hfl.out⟩); (have hbm : bs.length ≤ maxLen := by omega); (clear hX hg hfk hfl HF hlk hv); (go_wp2); (go_ret2); (exact ⟨_, by rw [hX'.out] <;> rfl, own_zsA hg'.out _ hln.out hbm, hW.out, .inr ⟨_, rfl, hbv2.out⟩⟩)
    · (have hv : Hd (first (grps ps) bs = ([], 0)) := ⟨by unfold first; rw [if_neg (by omega)]⟩); (have hle : decide ((7 : Int) < (bs.length : Int)) = true := decide_eq_true (by omega)); (have hle' : (7 : Int) < (bs.length : Int) := by omega); (obtain ⟨q, hq⟩ : ∃ q, w.heap.size = q := ⟨_, rfl⟩); (rw [hq] at c0); (replace k0 := hid k0); (replace hw0 := hid hw0); (clear hP hr hb g0 hl)
      go_enter Tryz.func28, Tryz.ntmps28
      (go_wp2_with fail); (rw [← hw0.out]); (refine HI.out.mono ?_); (rintro e w1 ⟨rfl, k1⟩); (have k2 := hid (k0.out.trans' k1)); (have c1 := k1.cell c0 id); (clear k1 HI hw0 c0); (go_wp2); (go_ret2); (exact ⟨_, by rw [hv.out] <;> rfl, by rw [hv.out]; exact (OwZ.nil w).keptNo k2.out⟩)
end Go.Proofs.YtaobaaaihgahfaaGreat

/- The reference's First (printed by gen_cnt3.py), Kept, Prefers of both packages, Total and Marked. -/
namespace Go.Pil
theorem nodup_len : ∀ (m : Nat) (p : List Int), p.Nodup → (∀ x ∈ p, 0 ≤ x ∧ x < (m : Int)) → p.length ≤ m := by
  intro m
  induction m with
  | zero => intro p _ h; cases p with | nil => simp | cons x l => have := h x (by simp); omega
  | succ m ih =>
    intro p hp h
    have h1 := ih (p.erase (m : Int)) (hp.erase _) fun x hx => by
      (have := h x (List.mem_of_mem_erase hx)); (have hne : x ≠ (m : Int) := fun e => by subst e; exact (List.Nodup.not_mem_erase hp) hx)
      omega
    have h2 := List.length_erase_le (a := (m : Int)) (l := p)
    by_cases hm : (m : Int) ∈ p
    · have := List.length_erase_of_mem hm; omega
    · rw [List.erase_of_not_mem hm] at h1; omega
theorem ballot_len {n : Int} {p : List Int} (h : ballot n p = true) (hn : n ≤ 7) : p.length ≤ 7 := by
  (unfold ballot at h); (have h := of_decide_eq_true h); (exact nodup_len 7 p h.1 fun x hx => by have := h.2 x hx; omega)
end Go.Pil
namespace Go.Proofs.YtaobaaaihgahfaaGreat
open Go.RowKit Go.Mk Go.Pil
end Go.Proofs.YtaobaaaihgahfaaGreat

/- pile.Prefers. -/
namespace Go.Proofs.YtaobaaaihgahfaaGreat
open Go.RowKit Go.Mk Go.Pil
set_option maxRecDepth 100000 in
set_option maxHeartbeats 2000000 in
theorem prefers_any (v : Value) (ps : List (Grp × Value)) (x y : Int) (w : World) (hr : RdG w v ps) : Calls Tryz.prog 90 #[v, .int .i64 x, .int .i64 y] w fun e w' => e = .returned (.int .i64 (prefers (grps ps) x y)) ∧ Kept no w w' := by
  (obtain ⟨ao, cap, rfl, hcap, hcm⟩ := hr.shape); (have hm63 := maxLen_63); (have HI := isany_any _ ps w hr)
  cases hP : isPile 7 (grps ps) with
  | false =>
    (have hv : Hd (prefers (grps ps) x y = 0) := ⟨by unfold prefers; rw [if_neg (by rw [hP]; simp)]⟩); (rw [hP] at HI); (replace HI := hid HI); (clear hP hr)
    go_enter Tryz.func90, Tryz.ntmps90
    (go_wp2_with fail); (refine HI.out.mono ?_); (rintro e w1 ⟨rfl, k1⟩); (replace k1 := hid k1); (clear HI); (go_wp2); (go_ret); (exact ⟨by rw [hv.out] <;> rfl, k1.out⟩)
  | true =>
    (rw [hP] at HI); (replace HI := hid HI)
    by_cases hxy : x = y
    · (have hv : Hd (prefers (grps ps) x y = 0) := ⟨by unfold prefers; rw [if_neg (by simp [hxy])]⟩); (have hb0 : (x == y) = true := by simpa using hxy); (clear hP hr hxy)
      go_enter Tryz.func90, Tryz.ntmps90
      (go_wp2_with fail); (refine HI.out.mono ?_); (rintro e w1 ⟨rfl, k1⟩); (replace k1 := hid k1); (clear HI); (go_wp2); (go_ret); (exact ⟨by rw [hv.out] <;> rfl, k1.out⟩)
    · (have hv : Hd (prefers (grps ps) x y = sumIf (fun p => pref p x y) (grps ps)) := ⟨by unfold prefers; rw [if_pos ⟨hP, hxy⟩]⟩); (have hb0 : (x == y) = false := by simpa using hxy); (have hb : Hd (∀ k, 0 ≤ sumIf (fun p => pref p x y) ((grps ps).take k) ∧ sumIf (fun p => pref p x y) ((grps ps).take k) ≤ 100000) := ⟨fun k => sumIf_pre (n := 7) hP k⟩); (replace hr := hid hr); (clear hP hxy); (obtain ⟨len, hlen⟩ : ∃ len, ps.length = len := ⟨_, rfl⟩); (rw [hlen] at hr hcap HI ⊢); (replace hlen := hid hlen)
      go_enter Tryz.func90, Tryz.ntmps90
      (go_wp2_with fail); (refine HI.out.mono ?_); (rintro e w1 ⟨rfl, k1⟩); (replace k1 := hid k1); (clear HI); (go_wp2)
      go_loopw [7, 22] (fun s i wr => ∃ (k : Nat) (T : Int), k ≤ len ∧ i = .int .i64 (k : Int) ∧ s = .int .i64 T ∧ Hd (T = sumIf (fun p => pref p x y) ((grps ps).take k)) ∧ Hd (Kept no w wr)) (fun _ i _ => len - (intOf i).toNat)
      case atStart => exact ⟨0, 0, by omega, rfl, rfl, ⟨by simp [sumIf]⟩, k1⟩
      case round =>
        obtain ⟨k, T, hk, rfl, rfl, hT, hW⟩ := hrel
        by_cases hlt : k < len
        · (have hk1 : (k : Int) < (len : Int) := by omega); (have hk0 : (0 : Int) ≤ (k : Int) := by omega); (obtain ⟨b, o, g, vg, rfl, hel, c0, c1, hz⟩ := (hr.out.kept hW.out).at k (by rw [hlen.out]; exact hlt)); (have hts := hid (sumIf_take (Q := fun p => pref p x y) (grps_get _ hel))); (obtain ⟨N, hN⟩ : ∃ N, g.n = N := ⟨_, rfl⟩); (rw [hN] at c1 hts); (obtain ⟨av, cv, rfl, _, _⟩ := Rd.shape2 hz); (obtain ⟨lv, hlv⟩ : ∃ lv, g.p.length = lv := ⟨_, rfl⟩); (rw [hlv] at c0 hz); (have hb1 := hb.out k); (have hb2 := hb.out (k + 1)); (rw [hts.out, ← hT.out] at hb2); (rw [← hT.out] at hb1); (replace hb1 := hid hb1); (replace hb2 := hid hb2); (clear hN hel hlv); (go_upto_region 7 with fail); (obtain ⟨w2, hw2, g2, k2⟩ := alloc_named wr (.cells #[.slice av lv cv, .int .i64 N] 105)); (rw [← hw2]); (have d0 : w2.cell? ⟨wr.heap.size, 0, none⟩ = some (.slice av lv cv) := by rw [cell_of_row w2 _ 0 _ _ _ g2]; rfl); (have d1 : w2.cell? ⟨wr.heap.size, 1, none⟩ = some (.int .i64 N) := by rw [cell_of_row w2 _ 1 _ _ _ g2]; rfl); (have hz1 := hid (hz.kept k2)); (have hW2 := hid (hW.out.trans' k2)); (have H1 := hid (fun z => Qt.quiet (w := w2) fun W (kw : Qt w2 W) => index_any (.slice av lv cv) g.p z W (hz1.out.kept kw.kept))); (have hpf := hid (pref_idx g.p x y)); (generalize wr.heap.size = q at d0 d1); (clear hw2 g2 hW c0 c1 k2 hz hz1); (go_quiet ((go_at_call 87; exact H1.out _ _))); (generalize idxI g.p x = ix at hpf ⊢); (generalize idxI g.p y = iy at hpf ⊢); (have hW3 := hid (hW2.out.drewN nq)); (have d1' : (w2.drewN nq).cell? ⟨q, 1, none⟩ = some (.int .i64 N) := d1); (clear H1 hW2 d0 d1)
          have yes : 0 ≤ ix ∧ (iy < 0 ∨ ix < iy) → Hd (T + N = sumIf (fun p => pref p x y) ((grps ps).take (k + 1))) ∧ IntKind.i64.wrap (T + N) = T + N := fun h => by
            (have hp := hpf.out.2 h); (have hbb := hb2.out); (simp only [hp, if_true] at hbb); (exact ⟨⟨by rw [hts.out, ← hT.out]; simp only [hp, if_true]⟩, IntWalk.i64_in _ (by omega)⟩)
          have nope : ¬ (0 ≤ ix ∧ (iy < 0 ∨ ix < iy)) → Hd (T = sumIf (fun p => pref p x y) ((grps ps).take (k + 1))) := fun h => ⟨by
            have hp : pref g.p x y = false := by cases hh : pref g.p x y with | false => rfl | true => exact absurd (hpf.out.1 hh) h
            rw [hts.out, ← hT.out]; simp [hp]⟩
          clear hts hT hb1 hb2 hpf
          by_cases hx0 : 0 ≤ ix
          · have hd0 : decide ((0 : Int) ≤ ix) = true := decide_eq_true hx0
            by_cases hy0 : iy < 0
            · (have hd1 : decide (iy < (0 : Int)) = true := decide_eq_true hy0); (obtain ⟨hT', hw1⟩ := yes ⟨hx0, .inl hy0⟩); (clear yes nope); (go_wp2); (go_roundw)
              case rel => first | exact ⟨k + 1, T + N, by omega, by go_num, rfl, hT', hW3⟩ | ((repeat apply Exists.intro); exact ⟨⟨k + 1, T + N, by omega, by go_num, rfl, hT', hW3⟩, rfl⟩)
              case measure => simp [intOf]; omega
            · have hd1 : decide (iy < (0 : Int)) = false := decide_eq_false hy0
              by_cases hlt2 : ix < iy
              · (have hd2 : decide (ix < iy) = true := decide_eq_true hlt2); (obtain ⟨hT', hw1⟩ := yes ⟨hx0, .inr hlt2⟩); (clear yes nope); (go_wp2); (go_roundw)
                case rel => first | exact ⟨k + 1, T + N, by omega, by go_num, rfl, hT', hW3⟩ | ((repeat apply Exists.intro); exact ⟨⟨k + 1, T + N, by omega, by go_num, rfl, hT', hW3⟩, rfl⟩)
                case measure => simp [intOf]; omega
              · (have hd2 : decide (ix < iy) = false := decide_eq_false hlt2); (have hT' := nope (by omega)); (clear yes nope); (go_wp2); (go_roundw)
                case rel => first | exact ⟨k + 1, T, by omega, by go_num, rfl, hT', hW3⟩ | ((repeat apply Exists.intro); exact ⟨⟨k + 1, T, by omega, by go_num, rfl, hT', hW3⟩, rfl⟩)
                case measure => simp [intOf]; omega
          · (have hd0 : decide ((0 : Int) ≤ ix) = false := decide_eq_false hx0); (have hT' := nope (by omega)); (clear yes nope); (go_wp2); (go_roundw)
            case rel => first | exact ⟨k + 1, T, by omega, by go_num, rfl, hT', hW3⟩ | ((repeat apply Exists.intro); exact ⟨⟨k + 1, T, by omega, by go_num, rfl, hT', hW3⟩, rfl⟩)
            case measure => simp [intOf]; omega
        · obtain rfl : k = len := by omega
          have hv' : Hd (T = prefers (grps ps) x y) := ⟨by
            rw [hT.out, hv.out, List.take_of_length_le (by rw [grps_length, hlen.out]; exact Nat.le_refl _)]⟩
          (clear hT hv hb); (go_wp2); (go_ret); (exact ⟨by rw [hv'.out] <;> rfl, hW.out⟩)
end Go.Proofs.YtaobaaaihgahfaaGreat

/- Sums over the groups of a pile: pile.sum, Total, Marked; Valid. -/
namespace Go.Proofs.YtaobaaaihgahfaaGreat
open Go.RowKit Go.Mk Go.Pil
/-- What the function value gives at a group. -/
def wt (Q : List Int → Bool) (g : Grp) : Int := if Q g.p = true then g.n else 0
set_option maxHeartbeats 1000000 in
theorem total1_any (x : Grp × Value) (W : World) (hx : RdZ W x.2 x.1.p) : Calls Tryz.prog 92 #[.agg (grpC x).toArray] W fun e w' => e = .returned (.int .i64 (wt (fun _ => true) x.1)) ∧ Kept no W w' := by
  (obtain ⟨⟨xp, xn⟩, xv⟩ := x); (simp only at hx ⊢); (obtain ⟨ax, cx, rfl, _, _⟩ := Rd.shape2 hx); (have k1 := hid ((Kept.refl no W).alloc (.cells #[.slice ax xp.length cx, .int .i64 xn] 105))); (have hv : Hd (wt (fun _ => true) ⟨xp, xn⟩ = xn) := ⟨by simp [wt]⟩); (unfold grpC); (clear hx)
  go_enter Tryz.func92, Tryz.ntmps92
  (go_wp2); (go_ret); (exact ⟨by rw [hv.out] <;> rfl, k1.out⟩)
set_option maxRecDepth 20000 in
set_option maxHeartbeats 1000000 in
theorem sum_any (f : Nat) (Q : List Int → Bool) (v : Value) (ps : List (Grp × Value)) (w : World) (hr : RdG w v ps) (hP : isPile 7 (grps ps) = true)
    (hf : ∀ (x : Grp × Value) (W : World), RdZ W x.2 x.1.p → Calls Tryz.prog f #[.agg (grpC x).toArray] W fun e w' => e = .returned (.int .i64 (wt Q x.1)) ∧ Kept no W w')
    (eg : ∀ args w, (callFunc f args).run Tryz.prog w = .ok (.enter f args) w) :
    Calls Tryz.prog 51 #[v, .func (.func f) #[] #[]] w fun e w' => e = .returned (.int .i64 (sumIf Q (grps ps))) ∧ Kept no w w' := by
  (obtain ⟨ao, cap, rfl, hcap, hcm⟩ := hr.shape); (have hm63 := maxLen_63); (have hb : Hd (∀ k, 0 ≤ sumIf Q ((grps ps).take k) ∧ sumIf Q ((grps ps).take k) ≤ 100000) := ⟨fun k => sumIf_pre (n := 7) hP k⟩); (replace hr := hid hr); (replace hf := hid hf); (clear hP); (obtain ⟨len, hlen⟩ : ∃ len, ps.length = len := ⟨_, rfl⟩); (rw [hlen] at hr hcap ⊢); (replace hlen := hid hlen)
  go_enter Tryz.func51, Tryz.ntmps51
  go_wp2
  go_loopw [5, 10] (fun s i wr => ∃ (k : Nat) (T : Int), k ≤ len ∧ i = .int .i64 (k : Int) ∧ s = .int .i64 T ∧ Hd (T = sumIf Q ((grps ps).take k)) ∧ Hd (Kept no w wr)) (fun _ i _ => len - (intOf i).toNat)
  case atStart => exact ⟨0, 0, by omega, rfl, rfl, ⟨by simp [sumIf]⟩, ⟨Kept.refl _ _⟩⟩
  case round =>
    obtain ⟨k, T, hk, rfl, rfl, hT, hW⟩ := hrel
    by_cases hlt : k < len
    · (have hk1 : (k : Int) < (len : Int) := by omega); (have hk0 : (0 : Int) ≤ (k : Int) := by omega); (obtain ⟨b, o, g, vg, rfl, hel, c0, c1, hz⟩ := (hr.out.kept hW.out).at k (by rw [hlen.out]; exact hlt)); (have hts := hid (sumIf_take (Q := Q) (grps_get _ hel))); (have hb1 := hb.out k); (have hb2 := hb.out (k + 1)); (rw [hts.out, ← hT.out] at hb2); (rw [← hT.out] at hb1); (have hw1 : IntKind.i64.wrap (T + wt Q g) = T + wt Q g := IntWalk.i64_in _ (by unfold wt; omega)); (have hT' : Hd (T + wt Q g = sumIf Q ((grps ps).take (k + 1))) := ⟨by rw [hts.out, hT.out]; rfl⟩); (obtain ⟨wa, hwa, ga, ka⟩ := alloc_named wr (.cells #[vg, .int .i64 g.n] 105)); (have HF := hid (hf.out (g, vg) wa (hz.kept ka))); (simp only at HF); (unfold grpC at HF); (simp only at HF); (generalize wt Q g = F at HF hw1 hT'); (have hW' := hid (hW.out.trans' ka)); (obtain ⟨av, cv, rfl, _, _⟩ := Rd.shape2 hz); (replace hwa := hid hwa); (clear hts hb1 hb2 hT hel hz ga hW ka); (go_upto_region 5 with fail); (rw [← hwa.out]); (have d0 : wa.cell? ⟨wr.heap.size, 0, none⟩ = some (.slice av g.p.length cv) := by rw [hwa.out]; simp); (have d1 : wa.cell? ⟨wr.heap.size, 1, none⟩ = some (.int .i64 g.n) := by rw [hwa.out]; simp); (generalize wr.heap.size = q at d0 d1); (clear hwa c0 c1); (go_wp2_with fail); (refine HF.out.mono ?_); (rintro e w2 ⟨rfl, k2⟩); (have hW2 := hid (hW'.out.trans' k2)); (clear k2 HF hW' d0 d1); (go_wp2); (go_roundw)
      case rel => first | exact ⟨k + 1, T + F, by omega, by go_num, rfl, hT', hW2⟩ | ((repeat apply Exists.intro); exact ⟨⟨k + 1, T + F, by omega, by go_num, rfl, hT', hW2⟩, rfl⟩)
      case measure => simp [intOf]; omega
    · (obtain rfl : k = len := by omega); (have hv : Hd (T = sumIf Q (grps ps)) := ⟨by rw [hT.out, List.take_of_length_le (by rw [grps_length, hlen.out]; exact Nat.le_refl _)]⟩); (clear hT hb); (go_wp2); (go_ret); (exact ⟨by rw [hv.out] <;> rfl, hW.out⟩)
set_option maxHeartbeats 400000 in
theorem total_any (v : Value) (ps : List (Grp × Value)) (w : World) (hr : RdG w v ps) : Calls Tryz.prog 44 #[v] w fun e w' => e = .returned (.int .i64 (total (grps ps))) ∧ Kept no w w' := by
  have HI := isany_any v ps w hr
  cases hP : isPile 7 (grps ps) with
  | false =>
    (have hv : Hd (total (grps ps) = 0) := ⟨by unfold total; rw [if_neg (by rw [hP]; simp)]⟩); (rw [hP] at HI); (replace HI := hid HI); (clear hP hr)
    go_enter Tryz.func44, Tryz.ntmps44
    (go_wp2_with fail); (refine HI.out.mono ?_); (rintro e w1 ⟨rfl, k1⟩); (replace k1 := hid k1); (go_wp2); (go_ret); (exact ⟨by rw [hv.out] <;> rfl, k1.out⟩)
  | true =>
    (have hv : Hd (total (grps ps) = sumIf (fun _ => true) (grps ps)) := ⟨by unfold total; rw [if_pos hP, sumIf_all]⟩); (have HS := hid (fun W (k : Kept no w W) => sum_any 92 (fun _ => true) v ps W (hr.kept k) hP total1_any (enters_of Tryz.func92 (by kernel_rfl) rfl))); (rw [hP] at HI); (replace HI := hid HI); (clear hP hr); (rw [hv.out]); (clear hv)
    go_enter Tryz.func44, Tryz.ntmps44
    (go_wp2_with fail); (refine HI.out.mono ?_); (rintro e w1 ⟨rfl, k1⟩); (replace HS := hid (HS.out w1 k1)); (replace k1 := hid k1); (go_wp2_with fail); (refine HS.out.mono ?_); (rintro e w2 ⟨rfl, k2⟩); (have k3 := hid (k1.out.trans' k2)); (clear k2); (go_wp2); (go_ret); (exact ⟨rfl, k3.out⟩)
set_option maxHeartbeats 400000 in
theorem valid_any (n : Int) (v : Value) (ps : List (Grp × Value)) (w : World) (hr : RdG w v ps) : Calls Tryz.prog 34 #[.int .i64 n, v] w fun e w' => e = .returned (.bool (decide (1 ≤ n ∧ n ≤ 7) && isPile n (grps ps))) ∧ Kept no w w' := by
  (obtain ⟨res, hres⟩ : ∃ res, (decide (1 ≤ n ∧ n ≤ 7) && isPile n (grps ps)) = res := ⟨_, rfl⟩); (rw [hres])
  by_cases h1 : 1 ≤ n
  · have hd1 : decide ((1 : Int) ≤ n) = true := decide_eq_true h1
    by_cases h7 : n ≤ 7
    · (have hd7 : decide (n ≤ 7) = true := decide_eq_true h7); (have HI := ispile_any n v ps w h7 hr); (have hv : isPile n (grps ps) = res := by rw [← hres, decide_eq_true (show 1 ≤ n ∧ n ≤ 7 from ⟨h1, h7⟩)]; rfl); (rw [hv] at HI); (replace HI := hid HI); (clear hres hv hr)
      go_enter Tryz.func34, Tryz.ntmps34
      (go_wp2_with fail); (refine HI.out.mono ?_); (rintro e w1 ⟨rfl, k1⟩); (replace k1 := hid k1); (go_wp2); (go_ret); (exact ⟨rfl, k1.out⟩)
    · (have hd7 : decide (n ≤ 7) = false := decide_eq_false h7); (have hv : res = false := by rw [← hres, decide_eq_false (show ¬ (1 ≤ n ∧ n ≤ 7) from fun h => h7 h.2)]; rfl); (subst hv); (clear hres hr)
      go_enter Tryz.func34, Tryz.ntmps34
      (go_wp2); (go_ret); (exact ⟨rfl, Kept.refl _ _⟩)
  · (have hd1 : decide ((1 : Int) ≤ n) = false := decide_eq_false h1); (have hv : res = false := by rw [← hres, decide_eq_false (show ¬ (1 ≤ n ∧ n ≤ 7) from fun h => h1 h.1)]; rfl); (subst hv); (clear hres hr)
    go_enter Tryz.func34, Tryz.ntmps34
    (go_wp2); (go_ret); (exact ⟨rfl, Kept.refl _ _⟩)
end Go.Proofs.YtaobaaaihgahfaaGreat
