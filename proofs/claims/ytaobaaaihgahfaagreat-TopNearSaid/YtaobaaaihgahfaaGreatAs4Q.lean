/- Package assertion: Contradicts (printed by gen_as4.py). -/
import Derived.Test.YtaobaaaihgahfaaGreatAsBQ
namespace Go.Proofs.YtaobaaaihgahfaaGreat
open Go.RowKit Go.Mk Go.Pil Go.Mg Go.Nr Go.Sort
theorem post_sliceA (b o lv cv m : Nat) (hm : m < lv) (hlc : lv ≤ cv) (w : World) : (Instr.slice 26 (.slice (some ⟨b, o, none⟩) lv cv) (some (.int .i64 (m : Int))) none none).run Tryz.prog w = .ok (.slice (some ⟨b, o + m, none⟩) (lv - m) (cv - m)) w := by
  (have := post_sliceZ (some ⟨b, o, none⟩) lv cv m (.inr ⟨b, o, rfl⟩) (by omega) hlc w); (rw [if_neg (by omega)] at this); (rw [this]); (simp only [Option.map_some, Addr.add])
  split
  · rename_i e; subst e; simp
  · rfl
theorem RdZ.dropA {w : World} {b o n cap : Nat} {zs : List Int} (h : RdZ w (.slice (some ⟨b, o, none⟩) n cap) zs) (m : Nat) (hm : m < zs.length) : RdZ w (.slice (some ⟨b, o + m, none⟩) (n - m) (cap - m)) (zs.drop m) := by
  (have hl : zs.length ≤ cap ∧ n = zs.length := by obtain ⟨_, c, e, h1, _⟩ := Rd.shape2 h; cases e; exact ⟨h1, rfl⟩); (have h1 := RdZ.drop h m (by omega)); (rw [if_neg (by omega)] at h1); (rw [hl.2])
  have e : (some (⟨b, o, none⟩ : Addr)).map (·.add m) = some ⟨b, o + m, none⟩ := by
    simp only [Option.map_some, Addr.add]
    split
    · rename_i e; subst e; simp
    · rfl
  (rw [e] at h1); (exact h1)
/-- A list boxed behind the world. -/
theorem seqAt_alloc {w : World} {b o n cap : Nat} {zs : List Int} (h : RdZ w (.slice (some ⟨b, o, none⟩) n cap) zs) (hne : zs ≠ []) : SeqAt (w.alloc (.cells #[.slice (some ⟨b, o, none⟩) n cap] 26)) w.heap.size zs := by
  (have hl : n = zs.length := by obtain ⟨_, c, e, h1, _⟩ := Rd.shape2 h; cases e; rfl); (subst hl); (have hpos := List.length_pos_iff.2 hne); (have k := (Kept.refl no w).alloc (.cells #[.slice (some ⟨b, o, none⟩) zs.length cap] 26))
  have hc : ∀ j, j < zs.length → w.cell? ⟨b, o + j, none⟩ = some (.int .i64 (zs[j]?.getD 0)) := fun j hj => by
    obtain ⟨b', o', e, hc⟩ := RdZ.at h j hj
    cases e
    rw [hc, List.getD_eq_getElem?_getD]
  (refine ⟨by simp, b, o, cap, ?_, cell_at (heap_alloc_new _ _) rfl, fun j hj => k.cell (hc j hj) id⟩); (have h0 := hc 0 hpos)
  have : b < w.heap.size := by
    (refine Classical.byContradiction fun hn => ?_); (unfold World.cell? at h0); (rw [Array.getElem?_eq_none (by show w.heap.size ≤ b; omega)] at h0)
    cases h0
  simp; omega
theorem SeqAt.kept {w w' : World} {Bs : Nat} {zs : List Int} (h : SeqAt w Bs zs) (k : Kept no w w') : SeqAt w' Bs zs := by
  (obtain ⟨h1, b, o, c, h2, h3, h4⟩ := h); (have := k.size); (exact ⟨by omega, b, o, c, by omega, k.cell h3 id, fun j hj => k.cell (h4 j hj) id⟩)
def PSq {Sl : Nat → Nat → Prop} (zs : List Int) : Pr Sl := soft (fun v w => ∃ Bs, v = seqV Bs ∧ SeqAt w Bs zs) fun _ _ _ ⟨B, h1, h2⟩ k => ⟨B, h1, h2.kept k⟩
theorem valuesS_any {w : World} {b o n cap : Nat} {zs : List Int} (h : RdZ w (.slice (some ⟨b, o, none⟩) n cap) zs) (hne : zs ≠ []) : Calls Tryz.prog 180 #[.slice (some ⟨b, o, none⟩) n cap] w fun e w' => ∃ Bs, e = .returned (seqV Bs) ∧ SeqAt w' Bs zs ∧ Kept no w w' :=
  (valuesN_any (some ⟨b, o, none⟩) n cap w).mono fun e w' ⟨he, hw⟩ => ⟨w.heap.size, he, by rw [hw]; exact seqAt_alloc h hne, by rw [hw]; exact (Kept.refl no w).alloc _⟩
set_option maxRecDepth 100000 in
set_option maxHeartbeats 4000000 in
theorem ctrN_any (n : Nat) (x : As) (v vT : Value) (T : List Int) (w : World) (hn1 : 1 ≤ n) (hn : n ≤ 7) (hx : Ok n x) (hr : RdZ w v x.am) (hT : Tl n T) (ht : RdZ w vT T) :
    Calls Tryz.prog 222 #[.int .i64 (n : Int), asV x v, vT] w fun e w' => e = .returned (.bool (ctr x T)) ∧ Kept no w w' := by
  (have HV := hid (fun (W : World) (k : Kept no w W) => validN_any n x v W hn1 hn hx (RdZ.kept hr k))); (have HI := hid (fun (W : World) (k : Kept no w W) => isTailN_any n vT T W (RdZ.kept ht k) hT)); (unfold asV at HV ⊢); (obtain ⟨ao, cap, rfl, hcap, hcm⟩ := Rd.shape2 hr); (have hm63 := maxLen_63); (obtain ⟨aT, cT, rfl, hcT, hcTm⟩ := Rd.shape2 ht); (have hTl := len_le hT); (have hTpos := List.length_pos_iff.2 hT.ne); (obtain ⟨bt, ot, haT, _⟩ := RdZ.at ht 0 hTpos); (subst haT); (obtain ⟨k, a, b, am, q⟩ := x); (obtain ⟨a0, an, b0, bn, ne, hq, kind⟩ := hx)
  dsimp only at hcap hr a0 an b0 bn ne hq kind HV ⊢
  (subst hq); (obtain ⟨A, rfl⟩ : ∃ A : Nat, a = (A : Int) := ⟨a.toNat, by omega⟩); (obtain ⟨B, rfl⟩ : ∃ B : Nat, b = (B : Int) := ⟨b.toNat, by omega⟩); (obtain ⟨la, hla⟩ : ∃ l, am.length = l := ⟨_, rfl⟩); (obtain ⟨lt, hlt⟩ : ∃ l, T.length = l := ⟨_, rfl⟩); (obtain ⟨w1, hw1, g1, k1⟩ := alloc_named w (.cells #[.int .i64 k, .int .i64 (A : Int), .int .i64 (B : Int), .slice ao la cap, .int .i64 0] 59)); (obtain ⟨B0, hB0⟩ : ∃ g, w.heap.size = g := ⟨_, rfl⟩); (rw [hB0] at g1); (rw [hla] at HV hr hcap ⊢); (rw [hlt] at HI ht hcT ⊢); (have hTl7 : lt ≤ 7 := by omega); (have hTpos' : 0 < lt := by omega); (have k01 := hid k1); (have b0' := hid g1); (have HV1 := hid (HV.out w1 k1)); (replace hw1 := hid hw1); (replace hB0 := hid hB0); (have ne' := hid ne); (have hr' := hid hr); (have ht' := hid ht); (have hla' := hid hla); (have hlt' := hid hlt); (have hcT' := hid hcT); (clear hcm k1 g1 ne HV hr ht hcTm hTl hTpos hT)
  rcases kind with ⟨rfl, rfl⟩ | ⟨rfl, ham, hma, hmb⟩
  · (obtain rfl : 0 = la := hla); (have hctr : Hd (ctr ⟨1, (A : Int), (B : Int), [], 0⟩ T = (decide ((B : Int) ∈ T) && !decide ((A : Int) ∈ T.drop (T.idxOf (B : Int))))) := ⟨rfl⟩); (have HX := hid (fun (W : World) (k : Kept no w W) => index_any (.slice (some ⟨bt, ot, none⟩) lt cT) T (B : Int) W (RdZ.kept ht'.out k))); (rw [hctr.out]); (clear hctr hlt)
    by_cases hB : (B : Int) ∈ T
    · (obtain ⟨J, hJ⟩ : ∃ J, T.idxOf (B : Int) = J := ⟨_, rfl⟩); (have hJl : J < lt := by rw [← hJ, ← hlt'.out]; exact List.idxOf_lt_length_of_mem hB); (have hix : idxI T (B : Int) = (J : Int) := by unfold idxI; rw [if_pos hB, hJ]); (rw [hix] at HX); (rw [decide_eq_true hB, Bool.true_and, hJ]); (have hsl := hid (fun (W : World) => post_sliceA bt ot lt cT J hJl hcT'.out W)); (have HC := hid (fun (W : World) (k : Kept no w W) => containsN_any (.slice (some ⟨bt, ot + J, none⟩) (lt - J) (cT - J)) (T.drop J) (A : Int) W (RdZ.dropA (RdZ.kept ht'.out k) J (by rw [hlt'.out]; exact hJl)))); (obtain ⟨rb, hrb⟩ : ∃ r, decide ((A : Int) ∈ T.drop J) = r := ⟨_, rfl⟩); (rw [hrb] at HC ⊢); (clear hB hJ hix hrb hcap)
      go_enter Tryz.func222, Tryz.ntmps222
      (go_upto_region 1 with fail); (rw [← hw1.out, hB0.out]); (have a0 : w1.cell? ⟨B0, 0, none⟩ = some (.int .i64 1) := cell_at b0'.out rfl); (have a1 : w1.cell? ⟨B0, 1, none⟩ = some (.int .i64 (A : Int)) := cell_at b0'.out rfl); (have a2 : w1.cell? ⟨B0, 2, none⟩ = some (.int .i64 (B : Int)) := cell_at b0'.out rfl); (have a3 : w1.cell? ⟨B0, 3, none⟩ = some (.slice ao 0 cap) := cell_at b0'.out rfl); (have a4 : w1.cell? ⟨B0, 4, none⟩ = some (.int .i64 0) := cell_at b0'.out rfl); (go_wp2_with fail); (with_reducible refine HV1.out.mono ?_); (rintro e w2 ⟨rfl, k2⟩); (have k02 := hid (k01.out.trans' k2)); (have b2' := hid (k2.blk b0'.out)); (have HI2 := hid (HI.out w2 k02.out)); (clear HV1 HI a0 a1 a2 a3 a4 k2 k01 b0'); (go_wp2_with fail); (with_reducible refine HI2.out.mono ?_); (rintro e w3 ⟨rfl, k3⟩); (have k03 := hid (k02.out.trans' k3)); (have b3 := hid (k3.blk b2'.out)); (clear HI2 k3 k02 b2'); (have a0 : w3.cell? ⟨B0, 0, none⟩ = some (.int .i64 1) := cell_at b3.out rfl); (have HX3 := hid (HX.out w3 k03.out)); (have a2 : w3.cell? ⟨B0, 2, none⟩ = some (.int .i64 (B : Int)) := cell_at b3.out rfl); (clear HX); (go_wp2_with fail); (with_reducible refine HX3.out.mono ?_); (rintro e w4 ⟨rfl, q4⟩); (have k04 := hid (k03.out.trans' q4.kept)); (have b4 := hid (q4.kept.blk b3.out)); (have d1 : Hd (w4.cell? ⟨B0, 1, none⟩ = some (.int .i64 (A : Int))) := ⟨cell_at b4.out rfl⟩); (have hJ0 : (0 : Int) ≤ (J : Int) := by omega); (clear HX3 q4 a0 a2 b3 k03); (go_upto_region 6 with fail); (refine region_flow (S := no) (Sl := (fun _ => no)) [Is (.int .i64 (J : Int)), Is (.bool true), Is (.bool true), Is (.slice (some ⟨bt, ot, none⟩) lt cT), Is (.int .i64 (J : Int)), Is (.slice (some ⟨bt, ot + J, none⟩) (lt - J) (cT - J)), Is (.pointer (some ⟨B0, 1, none⟩)), Is (.int .i64 (A : Int)), Is (.bool rb), Is (.bool (!rb)), Is (.bool (!rb)), Is (.bool (!rb))] [] (fun _ _ h => h) _ (by kernel_rfl) (by kernel_rfl) (by kernel_rfl) (by kernel_rfl) (fun x => by simp only [puts, Act.put, List.map_cons, List.map_nil, Nat.zero_add, Nat.reduceAdd, List.setIfInBounds_toArray, List.set_cons_zero, List.set_cons_succ]; exact rfl) ?_ ?_)
      · (skip); (refine .cons (fun x wf Kk hq hdep hold => ?_) ?_)
        · (try dsimp only); (clear hq hdep hold); (rw [if_pos (by rfl)]); (refine OpY.val ?_ ⟨Kept.refl _ _, rfl⟩); (first | rfl | go_simp)
        refine .cons (fun x wf Kk hq hdep hold => ?_) ?_
        · (try dsimp only); (have h0 : x 0 = _ := hdep 0 (by kernel_rfl)); (clear hq hdep hold); (simp only [h0]); (clear h0); (rw [if_pos (by rfl)]); (refine OpY.val ?_ ⟨Kept.refl _ _, rfl⟩); (first | rfl | go_simp)
        refine .cons (fun x wf Kk hq hdep hold => ?_) ?_
        · (try dsimp only); (have h1 : x 1 = _ := hdep 1 (by kernel_rfl)); (clear hq hdep hold); (simp only [h1]); (clear h1); (rw [if_pos (by rfl)]); (refine OpY.val ?_ ⟨Kept.refl _ _, rfl⟩); (first | rfl | go_simp)
        refine .cons (fun x wf Kk hq hdep hold => ?_) ?_
        · (try dsimp only); (have h2 : x 2 = _ := hdep 2 (by kernel_rfl)); (clear hq hdep hold); (simp only [h2]); (clear h2); (rw [if_pos (by rfl)]); (refine OpY.val ?_ ⟨Kept.refl _ _, rfl⟩); (first | rfl | go_simp)
        refine .cons (fun x wf Kk hq hdep hold => ?_) ?_
        · (try dsimp only); (have h2 : x 2 = _ := hdep 2 (by kernel_rfl)); (clear hq hdep hold); (simp only [h2]); (clear h2); (rw [if_pos (by rfl)]); (refine OpY.val ?_ ⟨Kept.refl _ _, rfl⟩); (first | rfl | go_simp)
        refine .cons (fun x wf Kk hq hdep hold => ?_) ?_
        · (try dsimp only); (have h3 : x 3 = _ := hdep 3 (by kernel_rfl)); (have h4 : x 4 = _ := hdep 4 (by kernel_rfl)); (have h2 : x 2 = _ := hdep 2 (by kernel_rfl)); (clear hq hdep hold); (simp only [h3, h4, h2]); (clear h3 h4 h2); (have hs1 := hsl.out wf); (rw [if_pos (by rfl)]); (refine OpY.val ?_ ⟨Kept.refl _ _, rfl⟩); (first | rfl | go_simp)
        refine .cons (fun x wf Kk hq hdep hold => ?_) ?_
        · (try dsimp only); (have h2 : x 2 = _ := hdep 2 (by kernel_rfl)); (clear hq hdep hold); (simp only [h2]); (clear h2); (rw [if_pos (by rfl)]); (refine OpY.val ?_ ⟨Kept.refl _ _, rfl⟩); (first | rfl | go_simp)
        refine .cons (fun x wf Kk hq hdep hold => ?_) ?_
        · (try dsimp only); (have h6 : x 6 = _ := hdep 6 (by kernel_rfl)); (have h2 : x 2 = _ := hdep 2 (by kernel_rfl)); (have Kq := hq no (fun j hj => by cases (show j ∈ ([] : List Nat) from by (have e : ∀ l : List Nat, l = [] → j ∈ l → j ∈ ([] : List Nat) := fun l h h2 => h ▸ h2); exact e _ (by kernel_rfl) hj))); (clear hq hdep hold); (simp only [h6, h2]); (clear h6 h2); (have m1 := Kq.undrew.cell d1.out id); (rw [if_pos (by rfl)]); (refine OpY.val ?_ ⟨Kept.refl _ _, rfl⟩); (first | rfl | go_simp)
        refine .cons (fun x wf Kk hq hdep hold => ?_) ?_
        · (try dsimp only); (have h5 : x 5 = _ := hdep 5 (by kernel_rfl)); (have h7 : x 7 = _ := hdep 7 (by kernel_rfl)); (have h2 : x 2 = _ := hdep 2 (by kernel_rfl)); (have Kq := hq no (fun j hj => by cases (show j ∈ ([] : List Nat) from by (have e : ∀ l : List Nat, l = [] → j ∈ l → j ∈ ([] : List Nat) := fun l h h2 => h ▸ h2); exact e _ (by kernel_rfl) hj))); (clear hq hdep hold); (simp only [h5, h7, h2]); (clear h5 h7 h2); (rw [if_pos (by rfl)]); (refine OpY.call (f := 40) (args := #[(.slice (some ⟨bt, ot + J, none⟩) (lt - J) (cT - J)), (.int .i64 (A : Int))]) (by go_simp) ?_); (refine (HC.out wf (k04.out.trans' Kq.undrew)).mono ?_); (rintro e w2 ⟨rfl, q2⟩); (exact ⟨_, rfl, q2.kept, rfl⟩)
        refine .cons (fun x wf Kk hq hdep hold => ?_) ?_
        · (try dsimp only); (have h8 : x 8 = _ := hdep 8 (by kernel_rfl)); (have h2 : x 2 = _ := hdep 2 (by kernel_rfl)); (clear hq hdep hold); (simp only [h8, h2]); (clear h8 h2); (rw [if_pos (by rfl)]); (refine OpY.val ?_ ⟨Kept.refl _ _, rfl⟩); (first | rfl | go_simp)
        refine .cons (fun x wf Kk hq hdep hold => ?_) ?_
        · (try dsimp only); (have h2 : x 2 = _ := hdep 2 (by kernel_rfl)); (have h9 : x 9 = _ := hdep 9 (by kernel_rfl)); (clear hq hdep hold); (simp only [h2, h9]); (clear h2 h9); (rw [if_pos (by rfl)]); (refine OpY.val ?_ ⟨Kept.refl _ _, rfl⟩); (first | rfl | go_simp)
        refine .cons (fun x wf Kk hq hdep hold => ?_) ?_
        · (try dsimp only); (have h10 : x 10 = _ := hdep 10 (by kernel_rfl)); (clear hq hdep hold); (simp only [h10]); (clear h10); (rw [if_pos (by rfl)]); (refine OpY.val ?_ ⟨Kept.refl _ _, rfl⟩); (first | rfl | go_simp)
        exact .nil _
      · (intro x wf Kk hv); (try dsimp only); (have h11 : x 11 = _ := hv 11 (by kernel_rfl)); (clear hv); (simp only [h11]); (clear h11); (have kF := hid (k04.out.trans' Kk.undrew)); (clear Kk); (go_wp2); (go_ret); (exact ⟨rfl, kF.out⟩)
    · (have hix : idxI T (B : Int) = -1 := by unfold idxI; rw [if_neg hB]); (rw [hix] at HX); (rw [decide_eq_false hB, Bool.false_and]); (clear hB hix hcap)
      go_enter Tryz.func222, Tryz.ntmps222
      (go_upto_region 1 with fail); (rw [← hw1.out, hB0.out]); (have a0 : w1.cell? ⟨B0, 0, none⟩ = some (.int .i64 1) := cell_at b0'.out rfl); (have a1 : w1.cell? ⟨B0, 1, none⟩ = some (.int .i64 (A : Int)) := cell_at b0'.out rfl); (have a2 : w1.cell? ⟨B0, 2, none⟩ = some (.int .i64 (B : Int)) := cell_at b0'.out rfl); (have a3 : w1.cell? ⟨B0, 3, none⟩ = some (.slice ao 0 cap) := cell_at b0'.out rfl); (have a4 : w1.cell? ⟨B0, 4, none⟩ = some (.int .i64 0) := cell_at b0'.out rfl); (go_wp2_with fail); (with_reducible refine HV1.out.mono ?_); (rintro e w2 ⟨rfl, k2⟩); (have k02 := hid (k01.out.trans' k2)); (have b2' := hid (k2.blk b0'.out)); (have HI2 := hid (HI.out w2 k02.out)); (clear HV1 HI a0 a1 a2 a3 a4 k2 k01 b0'); (go_wp2_with fail); (with_reducible refine HI2.out.mono ?_); (rintro e w3 ⟨rfl, k3⟩); (have k03 := hid (k02.out.trans' k3)); (have b3 := hid (k3.blk b2'.out)); (clear HI2 k3 k02 b2'); (have a0 : w3.cell? ⟨B0, 0, none⟩ = some (.int .i64 1) := cell_at b3.out rfl); (have HX3 := hid (HX.out w3 k03.out)); (have a2 : w3.cell? ⟨B0, 2, none⟩ = some (.int .i64 (B : Int)) := cell_at b3.out rfl); (clear HX); (go_wp2_with fail); (with_reducible refine HX3.out.mono ?_); (rintro e w4 ⟨rfl, q4⟩); (have k04 := hid (k03.out.trans' q4.kept)); (clear HX3 q4 a0 a2 b3 k03); (go_upto_region 6 with fail); (refine region_flow (S := no) (Sl := (fun _ => no)) [Is (.int .i64 (-1)), Is (.bool false), Is (.bool false), Is undef, Is undef, Is undef, Is undef, Is undef, Is undef, Is undef, Is (.bool false), Is (.bool false)] [] (fun _ _ h => h) _ (by kernel_rfl) (by kernel_rfl) (by kernel_rfl) (by kernel_rfl) (fun x => by simp only [puts, Act.put, List.map_cons, List.map_nil, Nat.zero_add, Nat.reduceAdd, List.setIfInBounds_toArray, List.set_cons_zero, List.set_cons_succ]; exact rfl) ?_ ?_)
      · (skip); (refine .cons (fun x wf Kk hq hdep hold => ?_) ?_)
        · (try dsimp only); (clear hq hdep hold); (rw [if_pos (by rfl)]); (refine OpY.val ?_ ⟨Kept.refl _ _, rfl⟩); (first | rfl | go_simp)
        refine .cons (fun x wf Kk hq hdep hold => ?_) ?_
        · (try dsimp only); (have h0 : x 0 = _ := hdep 0 (by kernel_rfl)); (clear hq hdep hold); (simp only [h0]); (clear h0); (rw [if_pos (by rfl)]); (refine OpY.val ?_ ⟨Kept.refl _ _, rfl⟩); (first | rfl | go_simp)
        refine .cons (fun x wf Kk hq hdep hold => ?_) ?_
        · (try dsimp only); (have h1 : x 1 = _ := hdep 1 (by kernel_rfl)); (clear hq hdep hold); (simp only [h1]); (clear h1); (rw [if_pos (by rfl)]); (refine OpY.val ?_ ⟨Kept.refl _ _, rfl⟩); (first | rfl | go_simp)
        refine .cons (fun x wf Kk hq hdep hold => ?_) ?_
        · (try dsimp only); (have h2 : x 2 = _ := hdep 2 (by kernel_rfl)); (clear hq hdep hold); (simp only [h2]); (clear h2); (exact stepOff rfl rfl)
        refine .cons (fun x wf Kk hq hdep hold => ?_) ?_
        · (try dsimp only); (have h2 : x 2 = _ := hdep 2 (by kernel_rfl)); (clear hq hdep hold); (simp only [h2]); (clear h2); (exact stepOff rfl rfl)
        refine .cons (fun x wf Kk hq hdep hold => ?_) ?_
        · (try dsimp only); (have h2 : x 2 = _ := hdep 2 (by kernel_rfl)); (clear hq hdep hold); (simp only [h2]); (clear h2); (exact stepOff rfl rfl)
        refine .cons (fun x wf Kk hq hdep hold => ?_) ?_
        · (try dsimp only); (have h2 : x 2 = _ := hdep 2 (by kernel_rfl)); (clear hq hdep hold); (simp only [h2]); (clear h2); (exact stepOff rfl rfl)
        refine .cons (fun x wf Kk hq hdep hold => ?_) ?_
        · (try dsimp only); (have h2 : x 2 = _ := hdep 2 (by kernel_rfl)); (clear hq hdep hold); (simp only [h2]); (clear h2); (exact stepOff rfl rfl)
        refine .cons (fun x wf Kk hq hdep hold => ?_) ?_
        · (try dsimp only); (have h2 : x 2 = _ := hdep 2 (by kernel_rfl)); (clear hq hdep hold); (simp only [h2]); (clear h2); (exact stepOff rfl rfl)
        refine .cons (fun x wf Kk hq hdep hold => ?_) ?_
        · (try dsimp only); (have h2 : x 2 = _ := hdep 2 (by kernel_rfl)); (clear hq hdep hold); (simp only [h2]); (clear h2); (exact stepOff rfl rfl)
        refine .cons (fun x wf Kk hq hdep hold => ?_) ?_
        · (try dsimp only); (have h2 : x 2 = _ := hdep 2 (by kernel_rfl)); (have h9 : x 9 = _ := hdep 9 (by kernel_rfl)); (clear hq hdep hold); (simp only [h2, h9]); (clear h2 h9); (rw [if_pos (by rfl)]); (refine OpY.val ?_ ⟨Kept.refl _ _, rfl⟩); (first | rfl | go_simp)
        refine .cons (fun x wf Kk hq hdep hold => ?_) ?_
        · (try dsimp only); (have h10 : x 10 = _ := hdep 10 (by kernel_rfl)); (clear hq hdep hold); (simp only [h10]); (clear h10); (rw [if_pos (by rfl)]); (refine OpY.val ?_ ⟨Kept.refl _ _, rfl⟩); (first | rfl | go_simp)
        exact .nil _
      · (intro x wf Kk hv); (try dsimp only); (have h11 : x 11 = _ := hv 11 (by kernel_rfl)); (clear hv); (simp only [h11]); (clear h11); (have kF := hid (k04.out.trans' Kk.undrew)); (clear Kk); (go_wp2); (go_ret); (exact ⟨rfl, kF.out⟩)
  · have hla0 : 0 < la := by rw [← hla]; exact List.length_pos_iff.2 (List.ne_nil_of_mem hma)
    have hla7 : la ≤ 7 := by
      (rw [← hla, ham]); (have := List.length_filter_le (fun c => decide (c ∈ am)) (allC n)); (have h : (allC n).length = n := by unfold allC; simp); (unfold srt)
      omega
    (have hctr : Hd (ctr ⟨2, (A : Int), (B : Int), am, 0⟩ T = (decide (la ≤ lt) && decide (T.getD (lt - la) 0 = (A : Int)) && decide (sortZ (T.drop (lt - la)) = am))) := ⟨by unfold ctr sortZ; rw [if_neg (by show ¬ (2 : Int) = 1; decide)]; dsimp only; rw [hla, hlt]⟩); (rw [hctr.out]); (clear hctr hlt hla ham hma hmb hcap)
    by_cases hle : la ≤ lt
    · (rw [decide_eq_true hle, Bool.true_and]); (obtain ⟨J, hJ⟩ : ∃ J, lt - la = J := ⟨_, rfl⟩); (have hJl : J < lt := by omega); (have hsub : (lt : Int) - (la : Int) = (J : Int) := by omega); (have hw : IntKind.i64.wrap ((lt : Int) - (la : Int)) = (J : Int) := by rw [hsub]; exact IntWalk.i64_in _ (by omega)); (rw [hJ]); (obtain ⟨bt', ot', e, cJ⟩ := RdZ.at ht'.out J (by rw [hlt'.out]; exact hJl))
      cases e
      (have cJ' := hid cJ); (have hJ0 : (0 : Int) ≤ (J : Int) := by omega); (have hJ1 : (J : Int) < (lt : Int) := by omega); (have hsl := hid (fun (W : World) => post_sliceA bt ot lt cT J hJl hcT'.out W)); (obtain ⟨z, hz⟩ : ∃ z, T.getD J 0 = z := ⟨_, rfl⟩); (rw [hz] at cJ' ⊢); (have hne : Hd (T.drop J ≠ []) := ⟨fun e => by have := congrArg List.length e; rw [List.length_drop, hlt'.out] at this; simp at this; omega⟩); (have HVl := hid (fun (W : World) (k : Kept no w W) => valuesS_any (RdZ.dropA (RdZ.kept ht'.out k) J (by rw [hlt'.out]; exact hJl)) hne.out)); (have HSo := hid (fun (W : World) (Bs : Nat) (h : SeqAt W Bs (T.drop J)) => sortedN_any Bs (T.drop J) (by rw [List.length_drop, hlt'.out]; omega) hne.out W h)); (have HE := hid (fun (W : World) (k : Kept no w W) (u : Value) (h : RdZ W u (sortZ (T.drop J))) => equal_any u (.slice ao la cap) (sortZ (T.drop J)) am W h (RdZ.kept hr'.out k))); (obtain ⟨rb, hrb⟩ : ∃ r, decide (sortZ (T.drop J) = am) = r := ⟨_, rfl⟩); (rw [hrb] at HE ⊢); (clear hJ hz hrb cJ hle)
      by_cases hzA : z = (A : Int)
      · (have hbe : (z == (A : Int)) = true := by rw [hzA]; exact beq_self_eq_true _); (rw [decide_eq_true hzA, Bool.true_and]); (replace hzA := hid hzA)
        go_enter Tryz.func222, Tryz.ntmps222
        (go_upto_region 1 with fail); (rw [← hw1.out, hB0.out]); (have a0 : w1.cell? ⟨B0, 0, none⟩ = some (.int .i64 2) := cell_at b0'.out rfl); (have a1 : w1.cell? ⟨B0, 1, none⟩ = some (.int .i64 (A : Int)) := cell_at b0'.out rfl); (have a2 : w1.cell? ⟨B0, 2, none⟩ = some (.int .i64 (B : Int)) := cell_at b0'.out rfl); (have a3 : w1.cell? ⟨B0, 3, none⟩ = some (.slice ao la cap) := cell_at b0'.out rfl); (have a4 : w1.cell? ⟨B0, 4, none⟩ = some (.int .i64 0) := cell_at b0'.out rfl); (go_wp2_with fail); (with_reducible refine HV1.out.mono ?_); (rintro e w2 ⟨rfl, k2⟩); (have k02 := hid (k01.out.trans' k2)); (have b2' := hid (k2.blk b0'.out)); (have HI2 := hid (HI.out w2 k02.out)); (clear HV1 HI a0 a1 a2 a3 a4 k2 k01 b0'); (go_wp2_with fail); (with_reducible refine HI2.out.mono ?_); (rintro e w3 ⟨rfl, k3⟩); (have k03 := hid (k02.out.trans' k3)); (have b3 := hid (k3.blk b2'.out)); (clear HI2 k3 k02 b2'); (have a0 : w3.cell? ⟨B0, 0, none⟩ = some (.int .i64 2) := cell_at b3.out rfl); (have a3 : w3.cell? ⟨B0, 3, none⟩ = some (.slice ao la cap) := cell_at b3.out rfl); (have d1 : Hd (w3.cell? ⟨B0, 1, none⟩ = some (.int .i64 (A : Int))) := ⟨cell_at b3.out rfl⟩); (have d3 : Hd (w3.cell? ⟨B0, 3, none⟩ = some (.slice ao la cap)) := ⟨cell_at b3.out rfl⟩); (go_upto_region 9 with fail); (refine region_flow (S := no) (Sl := (fun _ => no)) [Is (.int .i64 (J : Int)), Is (.bool true), Is (.bool true), Is (.slice (some ⟨bt, ot, none⟩) lt cT), Is (.int .i64 (J : Int)), Is (.pointer (some ⟨bt, ot + J, none⟩)), Is (.int .i64 z), Is (.pointer (some ⟨B0, 1, none⟩)), Is (.int .i64 (A : Int)), Is (.bool true), Is (.bool true), Is (.bool true), Is (.slice (some ⟨bt, ot, none⟩) lt cT), Is (.int .i64 (J : Int)), Is (.slice (some ⟨bt, ot + J, none⟩) (lt - J) (cT - J)), PSq (T.drop J), PRg (sortZ (T.drop J)), Is (.pointer (some ⟨B0, 3, none⟩)), Is (.slice ao la cap), Is (.bool rb), Is (.bool rb), Is (.bool rb)] [] (fun _ _ h => h) _ (by kernel_rfl) (by kernel_rfl) (by kernel_rfl) (by kernel_rfl) (fun x => by simp only [puts, Act.put, List.map_cons, List.map_nil, Nat.zero_add, Nat.reduceAdd, List.setIfInBounds_toArray, List.set_cons_zero, List.set_cons_succ]; exact rfl) ?_ ?_)
        · (skip); (refine .cons (fun x wf Kk hq hdep hold => ?_) ?_)
          · (try dsimp only); (clear hq hdep hold); (rw [if_pos (by rfl)]); (refine OpY.val ?_ ⟨Kept.refl _ _, rfl⟩); (first | rfl | go_simp)
          refine .cons (fun x wf Kk hq hdep hold => ?_) ?_
          · (try dsimp only); (have h0 : x 0 = _ := hdep 0 (by kernel_rfl)); (clear hq hdep hold); (simp only [h0]); (clear h0); (rw [if_pos (by rfl)]); (refine OpY.val ?_ ⟨Kept.refl _ _, rfl⟩); (first | rfl | go_simp)
          refine .cons (fun x wf Kk hq hdep hold => ?_) ?_
          · (try dsimp only); (have h1 : x 1 = _ := hdep 1 (by kernel_rfl)); (clear hq hdep hold); (simp only [h1]); (clear h1); (rw [if_pos (by rfl)]); (refine OpY.val ?_ ⟨Kept.refl _ _, rfl⟩); (first | rfl | go_simp)
          refine .cons (fun x wf Kk hq hdep hold => ?_) ?_
          · (try dsimp only); (have h2 : x 2 = _ := hdep 2 (by kernel_rfl)); (clear hq hdep hold); (simp only [h2]); (clear h2); (rw [if_pos (by rfl)]); (refine OpY.val ?_ ⟨Kept.refl _ _, rfl⟩); (first | rfl | go_simp)
          refine .cons (fun x wf Kk hq hdep hold => ?_) ?_
          · (try dsimp only); (have h2 : x 2 = _ := hdep 2 (by kernel_rfl)); (clear hq hdep hold); (simp only [h2]); (clear h2); (rw [if_pos (by rfl)]); (refine OpY.val ?_ ⟨Kept.refl _ _, rfl⟩); (first | rfl | go_simp)
          refine .cons (fun x wf Kk hq hdep hold => ?_) ?_
          · (try dsimp only); (have h3 : x 3 = _ := hdep 3 (by kernel_rfl)); (have h4 : x 4 = _ := hdep 4 (by kernel_rfl)); (have h2 : x 2 = _ := hdep 2 (by kernel_rfl)); (clear hq hdep hold); (simp only [h3, h4, h2]); (clear h3 h4 h2); (rw [if_pos (by rfl)]); (refine OpY.val ?_ ⟨Kept.refl _ _, rfl⟩); (first | rfl | go_simp)
          refine .cons (fun x wf Kk hq hdep hold => ?_) ?_
          · (try dsimp only); (have h5 : x 5 = _ := hdep 5 (by kernel_rfl)); (have h2 : x 2 = _ := hdep 2 (by kernel_rfl)); (have Kq := hq no (fun j hj => by cases (show j ∈ ([] : List Nat) from by (have e : ∀ l : List Nat, l = [] → j ∈ l → j ∈ ([] : List Nat) := fun l h h2 => h ▸ h2); exact e _ (by kernel_rfl) hj))); (clear hq hdep hold); (simp only [h5, h2]); (clear h5 h2); (have m1 := (k03.out.trans' Kq.undrew).cell cJ'.out id); (rw [if_pos (by rfl)]); (refine OpY.val ?_ ⟨Kept.refl _ _, rfl⟩); (first | rfl | go_simp)
          refine .cons (fun x wf Kk hq hdep hold => ?_) ?_
          · (try dsimp only); (have h2 : x 2 = _ := hdep 2 (by kernel_rfl)); (clear hq hdep hold); (simp only [h2]); (clear h2); (rw [if_pos (by rfl)]); (refine OpY.val ?_ ⟨Kept.refl _ _, rfl⟩); (first | rfl | go_simp)
          refine .cons (fun x wf Kk hq hdep hold => ?_) ?_
          · (try dsimp only); (have h7 : x 7 = _ := hdep 7 (by kernel_rfl)); (have h2 : x 2 = _ := hdep 2 (by kernel_rfl)); (have Kq := hq no (fun j hj => by cases (show j ∈ ([] : List Nat) from by (have e : ∀ l : List Nat, l = [] → j ∈ l → j ∈ ([] : List Nat) := fun l h h2 => h ▸ h2); exact e _ (by kernel_rfl) hj))); (clear hq hdep hold); (simp only [h7, h2]); (clear h7 h2); (have m1 := Kq.undrew.cell d1.out id); (rw [if_pos (by rfl)]); (refine OpY.val ?_ ⟨Kept.refl _ _, rfl⟩); (first | rfl | go_simp)
          refine .cons (fun x wf Kk hq hdep hold => ?_) ?_
          · (try dsimp only); (have h6 : x 6 = _ := hdep 6 (by kernel_rfl)); (have h8 : x 8 = _ := hdep 8 (by kernel_rfl)); (have h2 : x 2 = _ := hdep 2 (by kernel_rfl)); (clear hq hdep hold); (simp only [h6, h8, h2]); (clear h6 h8 h2); (rw [if_pos (by rfl)]); (refine OpY.val ?_ ⟨Kept.refl _ _, rfl⟩); (first | rfl | go_simp)
          refine .cons (fun x wf Kk hq hdep hold => ?_) ?_
          · (try dsimp only); (have h2 : x 2 = _ := hdep 2 (by kernel_rfl)); (have h9 : x 9 = _ := hdep 9 (by kernel_rfl)); (clear hq hdep hold); (simp only [h2, h9]); (clear h2 h9); (rw [if_pos (by rfl)]); (refine OpY.val ?_ ⟨Kept.refl _ _, rfl⟩); (first | rfl | go_simp)
          refine .cons (fun x wf Kk hq hdep hold => ?_) ?_
          · (try dsimp only); (have h10 : x 10 = _ := hdep 10 (by kernel_rfl)); (clear hq hdep hold); (simp only [h10]); (clear h10); (rw [if_pos (by rfl)]); (refine OpY.val ?_ ⟨Kept.refl _ _, rfl⟩); (first | rfl | go_simp)
          refine .cons (fun x wf Kk hq hdep hold => ?_) ?_
          · (try dsimp only); (have h11 : x 11 = _ := hdep 11 (by kernel_rfl)); (clear hq hdep hold); (simp only [h11]); (clear h11); (rw [if_pos (by rfl)]); (refine OpY.val ?_ ⟨Kept.refl _ _, rfl⟩); (first | rfl | go_simp)
          refine .cons (fun x wf Kk hq hdep hold => ?_) ?_
          · (try dsimp only); (have h11 : x 11 = _ := hdep 11 (by kernel_rfl)); (clear hq hdep hold); (simp only [h11]); (clear h11); (rw [if_pos (by rfl)]); (refine OpY.val ?_ ⟨Kept.refl _ _, rfl⟩); (first | rfl | go_simp)
          refine .cons (fun x wf Kk hq hdep hold => ?_) ?_
          · (try dsimp only); (have h12 : x 12 = _ := hdep 12 (by kernel_rfl)); (have h13 : x 13 = _ := hdep 13 (by kernel_rfl)); (have h11 : x 11 = _ := hdep 11 (by kernel_rfl)); (clear hq hdep hold); (simp only [h12, h13, h11]); (clear h12 h13 h11); (have hs1 := hsl.out wf); (rw [if_pos (by rfl)]); (refine OpY.val ?_ ⟨Kept.refl _ _, rfl⟩); (first | rfl | go_simp)
          refine .cons (fun x wf Kk hq hdep hold => ?_) ?_
          · (try dsimp only); (have h14 : x 14 = _ := hdep 14 (by kernel_rfl)); (have h11 : x 11 = _ := hdep 11 (by kernel_rfl)); (have Kq := hq no (fun j hj => by cases (show j ∈ ([] : List Nat) from by (have e : ∀ l : List Nat, l = [] → j ∈ l → j ∈ ([] : List Nat) := fun l h h2 => h ▸ h2); exact e _ (by kernel_rfl) hj))); (clear hq hdep hold); (simp only [h14, h11]); (clear h14 h11); (rw [if_pos (by rfl)]); (refine OpY.call (f := 180) (args := #[(.slice (some ⟨bt, ot + J, none⟩) (lt - J) (cT - J))]) (by go_simp) ?_); (refine (HVl.out wf (k03.out.trans' Kq.undrew)).mono ?_); (rintro e w7 ⟨Bs, rfl, h7, k7⟩); (exact ⟨_, rfl, k7, Bs, rfl, h7⟩)
          refine .cons (fun x wf Kk hq hdep hold => ?_) ?_
          · (try dsimp only); (have p15 : Pr.p (Sl := (fun _ => no)) (PSq (T.drop J)) (x 15) wf := hdep 15 (by kernel_rfl)); (have h11 : x 11 = _ := hdep 11 (by kernel_rfl)); (clear hq hdep hold); (simp only [h11]); (clear h11); (rw [if_pos (by rfl)]); (obtain ⟨Bs, hBs, hSq⟩ := p15); (rw [hBs]); (refine OpY.call (f := 179) (args := #[seqV Bs]) (by go_simp) ?_); (refine (HSo.out wf Bs hSq).mono ?_); (rintro e w7 ⟨u, rfl, o7⟩); (exact ⟨_, rfl, o7.kept, o7.rd⟩)
          refine .cons (fun x wf Kk hq hdep hold => ?_) ?_
          · (try dsimp only); (have h11 : x 11 = _ := hdep 11 (by kernel_rfl)); (clear hq hdep hold); (simp only [h11]); (clear h11); (rw [if_pos (by rfl)]); (refine OpY.val ?_ ⟨Kept.refl _ _, rfl⟩); (first | rfl | go_simp)
          refine .cons (fun x wf Kk hq hdep hold => ?_) ?_
          · (try dsimp only); (have h17 : x 17 = _ := hdep 17 (by kernel_rfl)); (have h11 : x 11 = _ := hdep 11 (by kernel_rfl)); (have Kq := hq no (fun j hj => by cases (show j ∈ ([] : List Nat) from by (have e : ∀ l : List Nat, l = [] → j ∈ l → j ∈ ([] : List Nat) := fun l h h2 => h ▸ h2); exact e _ (by kernel_rfl) hj))); (clear hq hdep hold); (simp only [h17, h11]); (clear h17 h11); (have m1 := Kq.undrew.cell d3.out id); (rw [if_pos (by rfl)]); (refine OpY.val ?_ ⟨Kept.refl _ _, rfl⟩); (first | rfl | go_simp)
          refine .cons (fun x wf Kk hq hdep hold => ?_) ?_
          · (try dsimp only); (have p16 : Pr.p (Sl := (fun _ => no)) (PRg (sortZ (T.drop J))) (x 16) wf := hdep 16 (by kernel_rfl)); (have h18 : x 18 = _ := hdep 18 (by kernel_rfl)); (have h11 : x 11 = _ := hdep 11 (by kernel_rfl)); (have Kq := hq no (fun j hj => by cases (show j ∈ ([] : List Nat) from by (have e : ∀ l : List Nat, l = [] → j ∈ l → j ∈ ([] : List Nat) := fun l h h2 => h ▸ h2); exact e _ (by kernel_rfl) hj))); (clear hq hdep hold); (simp only [h18, h11]); (clear h18 h11); (rw [if_pos (by rfl)]); (refine OpY.call (f := 80) (args := #[x 16, (.slice ao la cap)]) (by go_simp) ?_); (refine (HE.out wf (k03.out.trans' Kq.undrew) (x 16) p16).mono ?_); (rintro e w7 ⟨rfl, q7⟩); (exact ⟨_, rfl, q7.kept, rfl⟩)
          refine .cons (fun x wf Kk hq hdep hold => ?_) ?_
          · (try dsimp only); (have h11 : x 11 = _ := hdep 11 (by kernel_rfl)); (have h19 : x 19 = _ := hdep 19 (by kernel_rfl)); (clear hq hdep hold); (simp only [h11, h19]); (clear h11 h19); (rw [if_pos (by rfl)]); (refine OpY.val ?_ ⟨Kept.refl _ _, rfl⟩); (first | rfl | go_simp)
          refine .cons (fun x wf Kk hq hdep hold => ?_) ?_
          · (try dsimp only); (have h20 : x 20 = _ := hdep 20 (by kernel_rfl)); (clear hq hdep hold); (simp only [h20]); (clear h20); (rw [if_pos (by rfl)]); (refine OpY.val ?_ ⟨Kept.refl _ _, rfl⟩); (first | rfl | go_simp)
          exact .nil _
        · (intro x wf Kk hv); (try dsimp only); (have h21 : x 21 = _ := hv 21 (by kernel_rfl)); (clear hv); (simp only [h21]); (clear h21); (have kF := hid (k03.out.trans' Kk.undrew)); (clear Kk); (go_wp2); (go_ret); (exact ⟨rfl, kF.out⟩)
      · (have hbe : (z == (A : Int)) = false := beq_eq_false_iff_ne.2 hzA); (rw [decide_eq_false hzA, Bool.false_and]); (replace hzA := hid hzA)
        go_enter Tryz.func222, Tryz.ntmps222
        (go_upto_region 1 with fail); (rw [← hw1.out, hB0.out]); (have a0 : w1.cell? ⟨B0, 0, none⟩ = some (.int .i64 2) := cell_at b0'.out rfl); (have a1 : w1.cell? ⟨B0, 1, none⟩ = some (.int .i64 (A : Int)) := cell_at b0'.out rfl); (have a2 : w1.cell? ⟨B0, 2, none⟩ = some (.int .i64 (B : Int)) := cell_at b0'.out rfl); (have a3 : w1.cell? ⟨B0, 3, none⟩ = some (.slice ao la cap) := cell_at b0'.out rfl); (have a4 : w1.cell? ⟨B0, 4, none⟩ = some (.int .i64 0) := cell_at b0'.out rfl); (go_wp2_with fail); (with_reducible refine HV1.out.mono ?_); (rintro e w2 ⟨rfl, k2⟩); (have k02 := hid (k01.out.trans' k2)); (have b2' := hid (k2.blk b0'.out)); (have HI2 := hid (HI.out w2 k02.out)); (clear HV1 HI a0 a1 a2 a3 a4 k2 k01 b0'); (go_wp2_with fail); (with_reducible refine HI2.out.mono ?_); (rintro e w3 ⟨rfl, k3⟩); (have k03 := hid (k02.out.trans' k3)); (have b3 := hid (k3.blk b2'.out)); (clear HI2 k3 k02 b2'); (have a0 : w3.cell? ⟨B0, 0, none⟩ = some (.int .i64 2) := cell_at b3.out rfl); (have a3 : w3.cell? ⟨B0, 3, none⟩ = some (.slice ao la cap) := cell_at b3.out rfl); (have d1 : Hd (w3.cell? ⟨B0, 1, none⟩ = some (.int .i64 (A : Int))) := ⟨cell_at b3.out rfl⟩); (have d3 : Hd (w3.cell? ⟨B0, 3, none⟩ = some (.slice ao la cap)) := ⟨cell_at b3.out rfl⟩); (go_upto_region 9 with fail); (refine region_flow (S := no) (Sl := (fun _ => no)) [Is (.int .i64 (J : Int)), Is (.bool true), Is (.bool true), Is (.slice (some ⟨bt, ot, none⟩) lt cT), Is (.int .i64 (J : Int)), Is (.pointer (some ⟨bt, ot + J, none⟩)), Is (.int .i64 z), Is (.pointer (some ⟨B0, 1, none⟩)), Is (.int .i64 (A : Int)), Is (.bool false), Is (.bool false), Is (.bool false), Is undef, Is undef, Is undef, Is undef, Is undef, Is undef, Is undef, Is undef, Is (.bool false), Is (.bool false)] [] (fun _ _ h => h) _ (by kernel_rfl) (by kernel_rfl) (by kernel_rfl) (by kernel_rfl) (fun x => by simp only [puts, Act.put, List.map_cons, List.map_nil, Nat.zero_add, Nat.reduceAdd, List.setIfInBounds_toArray, List.set_cons_zero, List.set_cons_succ]; exact rfl) ?_ ?_)
        · (skip); (refine .cons (fun x wf Kk hq hdep hold => ?_) ?_)
          · (try dsimp only); (clear hq hdep hold); (rw [if_pos (by rfl)]); (refine OpY.val ?_ ⟨Kept.refl _ _, rfl⟩); (first | rfl | go_simp)
          refine .cons (fun x wf Kk hq hdep hold => ?_) ?_
          · (try dsimp only); (have h0 : x 0 = _ := hdep 0 (by kernel_rfl)); (clear hq hdep hold); (simp only [h0]); (clear h0); (rw [if_pos (by rfl)]); (refine OpY.val ?_ ⟨Kept.refl _ _, rfl⟩); (first | rfl | go_simp)
          refine .cons (fun x wf Kk hq hdep hold => ?_) ?_
          · (try dsimp only); (have h1 : x 1 = _ := hdep 1 (by kernel_rfl)); (clear hq hdep hold); (simp only [h1]); (clear h1); (rw [if_pos (by rfl)]); (refine OpY.val ?_ ⟨Kept.refl _ _, rfl⟩); (first | rfl | go_simp)
          refine .cons (fun x wf Kk hq hdep hold => ?_) ?_
          · (try dsimp only); (have h2 : x 2 = _ := hdep 2 (by kernel_rfl)); (clear hq hdep hold); (simp only [h2]); (clear h2); (rw [if_pos (by rfl)]); (refine OpY.val ?_ ⟨Kept.refl _ _, rfl⟩); (first | rfl | go_simp)
          refine .cons (fun x wf Kk hq hdep hold => ?_) ?_
          · (try dsimp only); (have h2 : x 2 = _ := hdep 2 (by kernel_rfl)); (clear hq hdep hold); (simp only [h2]); (clear h2); (rw [if_pos (by rfl)]); (refine OpY.val ?_ ⟨Kept.refl _ _, rfl⟩); (first | rfl | go_simp)
          refine .cons (fun x wf Kk hq hdep hold => ?_) ?_
          · (try dsimp only); (have h3 : x 3 = _ := hdep 3 (by kernel_rfl)); (have h4 : x 4 = _ := hdep 4 (by kernel_rfl)); (have h2 : x 2 = _ := hdep 2 (by kernel_rfl)); (clear hq hdep hold); (simp only [h3, h4, h2]); (clear h3 h4 h2); (rw [if_pos (by rfl)]); (refine OpY.val ?_ ⟨Kept.refl _ _, rfl⟩); (first | rfl | go_simp)
          refine .cons (fun x wf Kk hq hdep hold => ?_) ?_
          · (try dsimp only); (have h5 : x 5 = _ := hdep 5 (by kernel_rfl)); (have h2 : x 2 = _ := hdep 2 (by kernel_rfl)); (have Kq := hq no (fun j hj => by cases (show j ∈ ([] : List Nat) from by (have e : ∀ l : List Nat, l = [] → j ∈ l → j ∈ ([] : List Nat) := fun l h h2 => h ▸ h2); exact e _ (by kernel_rfl) hj))); (clear hq hdep hold); (simp only [h5, h2]); (clear h5 h2); (have m1 := (k03.out.trans' Kq.undrew).cell cJ'.out id); (rw [if_pos (by rfl)]); (refine OpY.val ?_ ⟨Kept.refl _ _, rfl⟩); (first | rfl | go_simp)
          refine .cons (fun x wf Kk hq hdep hold => ?_) ?_
          · (try dsimp only); (have h2 : x 2 = _ := hdep 2 (by kernel_rfl)); (clear hq hdep hold); (simp only [h2]); (clear h2); (rw [if_pos (by rfl)]); (refine OpY.val ?_ ⟨Kept.refl _ _, rfl⟩); (first | rfl | go_simp)
          refine .cons (fun x wf Kk hq hdep hold => ?_) ?_
          · (try dsimp only); (have h7 : x 7 = _ := hdep 7 (by kernel_rfl)); (have h2 : x 2 = _ := hdep 2 (by kernel_rfl)); (have Kq := hq no (fun j hj => by cases (show j ∈ ([] : List Nat) from by (have e : ∀ l : List Nat, l = [] → j ∈ l → j ∈ ([] : List Nat) := fun l h h2 => h ▸ h2); exact e _ (by kernel_rfl) hj))); (clear hq hdep hold); (simp only [h7, h2]); (clear h7 h2); (have m1 := Kq.undrew.cell d1.out id); (rw [if_pos (by rfl)]); (refine OpY.val ?_ ⟨Kept.refl _ _, rfl⟩); (first | rfl | go_simp)
          refine .cons (fun x wf Kk hq hdep hold => ?_) ?_
          · (try dsimp only); (have h6 : x 6 = _ := hdep 6 (by kernel_rfl)); (have h8 : x 8 = _ := hdep 8 (by kernel_rfl)); (have h2 : x 2 = _ := hdep 2 (by kernel_rfl)); (clear hq hdep hold); (simp only [h6, h8, h2]); (clear h6 h8 h2); (rw [if_pos (by rfl)]); (refine OpY.val ?_ ⟨Kept.refl _ _, rfl⟩); (first | rfl | go_simp)
          refine .cons (fun x wf Kk hq hdep hold => ?_) ?_
          · (try dsimp only); (have h2 : x 2 = _ := hdep 2 (by kernel_rfl)); (have h9 : x 9 = _ := hdep 9 (by kernel_rfl)); (clear hq hdep hold); (simp only [h2, h9]); (clear h2 h9); (rw [if_pos (by rfl)]); (refine OpY.val ?_ ⟨Kept.refl _ _, rfl⟩); (first | rfl | go_simp)
          refine .cons (fun x wf Kk hq hdep hold => ?_) ?_
          · (try dsimp only); (have h10 : x 10 = _ := hdep 10 (by kernel_rfl)); (clear hq hdep hold); (simp only [h10]); (clear h10); (rw [if_pos (by rfl)]); (refine OpY.val ?_ ⟨Kept.refl _ _, rfl⟩); (first | rfl | go_simp)
          refine .cons (fun x wf Kk hq hdep hold => ?_) ?_
          · (try dsimp only); (have h11 : x 11 = _ := hdep 11 (by kernel_rfl)); (clear hq hdep hold); (simp only [h11]); (clear h11); (exact stepOff rfl rfl)
          refine .cons (fun x wf Kk hq hdep hold => ?_) ?_
          · (try dsimp only); (have h11 : x 11 = _ := hdep 11 (by kernel_rfl)); (clear hq hdep hold); (simp only [h11]); (clear h11); (exact stepOff rfl rfl)
          refine .cons (fun x wf Kk hq hdep hold => ?_) ?_
          · (try dsimp only); (have h11 : x 11 = _ := hdep 11 (by kernel_rfl)); (clear hq hdep hold); (simp only [h11]); (clear h11); (exact stepOff rfl rfl)
          refine .cons (fun x wf Kk hq hdep hold => ?_) ?_
          · (try dsimp only); (have h11 : x 11 = _ := hdep 11 (by kernel_rfl)); (clear hq hdep hold); (simp only [h11]); (clear h11); (exact stepOff rfl rfl)
          refine .cons (fun x wf Kk hq hdep hold => ?_) ?_
          · (try dsimp only); (have h11 : x 11 = _ := hdep 11 (by kernel_rfl)); (clear hq hdep hold); (simp only [h11]); (clear h11); (exact stepOff rfl rfl)
          refine .cons (fun x wf Kk hq hdep hold => ?_) ?_
          · (try dsimp only); (have h11 : x 11 = _ := hdep 11 (by kernel_rfl)); (clear hq hdep hold); (simp only [h11]); (clear h11); (exact stepOff rfl rfl)
          refine .cons (fun x wf Kk hq hdep hold => ?_) ?_
          · (try dsimp only); (have h11 : x 11 = _ := hdep 11 (by kernel_rfl)); (have Kq := hq no (fun j hj => by cases (show j ∈ ([] : List Nat) from by (have e : ∀ l : List Nat, l = [] → j ∈ l → j ∈ ([] : List Nat) := fun l h h2 => h ▸ h2); exact e _ (by kernel_rfl) hj))); (clear hq hdep hold); (simp only [h11]); (clear h11); (exact stepOff rfl rfl)
          refine .cons (fun x wf Kk hq hdep hold => ?_) ?_
          · (try dsimp only); (have h11 : x 11 = _ := hdep 11 (by kernel_rfl)); (clear hq hdep hold); (simp only [h11]); (clear h11); (exact stepOff rfl rfl)
          refine .cons (fun x wf Kk hq hdep hold => ?_) ?_
          · (try dsimp only); (have h11 : x 11 = _ := hdep 11 (by kernel_rfl)); (have h19 : x 19 = _ := hdep 19 (by kernel_rfl)); (clear hq hdep hold); (simp only [h11, h19]); (clear h11 h19); (rw [if_pos (by rfl)]); (refine OpY.val ?_ ⟨Kept.refl _ _, rfl⟩); (first | rfl | go_simp)
          refine .cons (fun x wf Kk hq hdep hold => ?_) ?_
          · (try dsimp only); (have h20 : x 20 = _ := hdep 20 (by kernel_rfl)); (clear hq hdep hold); (simp only [h20]); (clear h20); (rw [if_pos (by rfl)]); (refine OpY.val ?_ ⟨Kept.refl _ _, rfl⟩); (first | rfl | go_simp)
          exact .nil _
        · (intro x wf Kk hv); (try dsimp only); (have h21 : x 21 = _ := hv 21 (by kernel_rfl)); (clear hv); (simp only [h21]); (clear h21); (have kF := hid (k03.out.trans' Kk.undrew)); (clear Kk); (go_wp2); (go_ret); (exact ⟨rfl, kF.out⟩)
    · (rw [decide_eq_false hle, Bool.false_and, Bool.false_and]); (obtain ⟨D, hD⟩ : ∃ D : Nat, (lt : Int) - (la : Int) = -(D : Int) - 1 := ⟨la - lt - 1, by omega⟩); (obtain ⟨s, hs⟩ : ∃ s, (lt : Int) - (la : Int) = s := ⟨_, rfl⟩); (have hs0 : ¬ 0 ≤ s := by omega); (have hw : IntKind.i64.wrap ((lt : Int) - (la : Int)) = s := by rw [hs]; exact IntWalk.i64_in _ (by omega)); (clear hle hD)
      go_enter Tryz.func222, Tryz.ntmps222
      (go_upto_region 1 with fail); (rw [← hw1.out, hB0.out]); (have a0 : w1.cell? ⟨B0, 0, none⟩ = some (.int .i64 2) := cell_at b0'.out rfl); (have a1 : w1.cell? ⟨B0, 1, none⟩ = some (.int .i64 (A : Int)) := cell_at b0'.out rfl); (have a2 : w1.cell? ⟨B0, 2, none⟩ = some (.int .i64 (B : Int)) := cell_at b0'.out rfl); (have a3 : w1.cell? ⟨B0, 3, none⟩ = some (.slice ao la cap) := cell_at b0'.out rfl); (have a4 : w1.cell? ⟨B0, 4, none⟩ = some (.int .i64 0) := cell_at b0'.out rfl); (go_wp2_with fail); (with_reducible refine HV1.out.mono ?_); (rintro e w2 ⟨rfl, k2⟩); (have k02 := hid (k01.out.trans' k2)); (have b2' := hid (k2.blk b0'.out)); (have HI2 := hid (HI.out w2 k02.out)); (clear HV1 HI a0 a1 a2 a3 a4 k2 k01 b0'); (go_wp2_with fail); (with_reducible refine HI2.out.mono ?_); (rintro e w3 ⟨rfl, k3⟩); (have k03 := hid (k02.out.trans' k3)); (have b3 := hid (k3.blk b2'.out)); (clear HI2 k3 k02 b2'); (have a0 : w3.cell? ⟨B0, 0, none⟩ = some (.int .i64 2) := cell_at b3.out rfl); (have a3 : w3.cell? ⟨B0, 3, none⟩ = some (.slice ao la cap) := cell_at b3.out rfl); (have d1 : Hd (w3.cell? ⟨B0, 1, none⟩ = some (.int .i64 (A : Int))) := ⟨cell_at b3.out rfl⟩); (have d3 : Hd (w3.cell? ⟨B0, 3, none⟩ = some (.slice ao la cap)) := ⟨cell_at b3.out rfl⟩); (go_upto_region 9 with fail); (refine region_flow (S := no) (Sl := (fun _ => no)) [Is (.int .i64 s), Is (.bool false), Is (.bool false), Is undef, Is undef, Is undef, Is undef, Is undef, Is undef, Is undef, Is (.bool false), Is (.bool false), Is undef, Is undef, Is undef, Is undef, Is undef, Is undef, Is undef, Is undef, Is (.bool false), Is (.bool false)] [] (fun _ _ h => h) _ (by kernel_rfl) (by kernel_rfl) (by kernel_rfl) (by kernel_rfl) (fun x => by simp only [puts, Act.put, List.map_cons, List.map_nil, Nat.zero_add, Nat.reduceAdd, List.setIfInBounds_toArray, List.set_cons_zero, List.set_cons_succ]; exact rfl) ?_ ?_)
      · (skip); (refine .cons (fun x wf Kk hq hdep hold => ?_) ?_)
        · (try dsimp only); (clear hq hdep hold); (rw [if_pos (by rfl)]); (refine OpY.val ?_ ⟨Kept.refl _ _, rfl⟩); (first | rfl | go_simp)
        refine .cons (fun x wf Kk hq hdep hold => ?_) ?_
        · (try dsimp only); (have h0 : x 0 = _ := hdep 0 (by kernel_rfl)); (clear hq hdep hold); (simp only [h0]); (clear h0); (rw [if_pos (by rfl)]); (refine OpY.val ?_ ⟨Kept.refl _ _, rfl⟩); (first | rfl | go_simp)
        refine .cons (fun x wf Kk hq hdep hold => ?_) ?_
        · (try dsimp only); (have h1 : x 1 = _ := hdep 1 (by kernel_rfl)); (clear hq hdep hold); (simp only [h1]); (clear h1); (rw [if_pos (by rfl)]); (refine OpY.val ?_ ⟨Kept.refl _ _, rfl⟩); (first | rfl | go_simp)
        refine .cons (fun x wf Kk hq hdep hold => ?_) ?_
        · (try dsimp only); (have h2 : x 2 = _ := hdep 2 (by kernel_rfl)); (clear hq hdep hold); (simp only [h2]); (clear h2); (exact stepOff rfl rfl)
        refine .cons (fun x wf Kk hq hdep hold => ?_) ?_
        · (try dsimp only); (have h2 : x 2 = _ := hdep 2 (by kernel_rfl)); (clear hq hdep hold); (simp only [h2]); (clear h2); (exact stepOff rfl rfl)
        refine .cons (fun x wf Kk hq hdep hold => ?_) ?_
        · (try dsimp only); (have h2 : x 2 = _ := hdep 2 (by kernel_rfl)); (clear hq hdep hold); (simp only [h2]); (clear h2); (exact stepOff rfl rfl)
        refine .cons (fun x wf Kk hq hdep hold => ?_) ?_
        · (try dsimp only); (have h2 : x 2 = _ := hdep 2 (by kernel_rfl)); (clear hq hdep hold); (simp only [h2]); (clear h2); (exact stepOff rfl rfl)
        refine .cons (fun x wf Kk hq hdep hold => ?_) ?_
        · (try dsimp only); (have h2 : x 2 = _ := hdep 2 (by kernel_rfl)); (clear hq hdep hold); (simp only [h2]); (clear h2); (exact stepOff rfl rfl)
        refine .cons (fun x wf Kk hq hdep hold => ?_) ?_
        · (try dsimp only); (have h2 : x 2 = _ := hdep 2 (by kernel_rfl)); (clear hq hdep hold); (simp only [h2]); (clear h2); (exact stepOff rfl rfl)
        refine .cons (fun x wf Kk hq hdep hold => ?_) ?_
        · (try dsimp only); (have h2 : x 2 = _ := hdep 2 (by kernel_rfl)); (clear hq hdep hold); (simp only [h2]); (clear h2); (exact stepOff rfl rfl)
        refine .cons (fun x wf Kk hq hdep hold => ?_) ?_
        · (try dsimp only); (have h2 : x 2 = _ := hdep 2 (by kernel_rfl)); (have h9 : x 9 = _ := hdep 9 (by kernel_rfl)); (clear hq hdep hold); (simp only [h2, h9]); (clear h2 h9); (rw [if_pos (by rfl)]); (refine OpY.val ?_ ⟨Kept.refl _ _, rfl⟩); (first | rfl | go_simp)
        refine .cons (fun x wf Kk hq hdep hold => ?_) ?_
        · (try dsimp only); (have h10 : x 10 = _ := hdep 10 (by kernel_rfl)); (clear hq hdep hold); (simp only [h10]); (clear h10); (rw [if_pos (by rfl)]); (refine OpY.val ?_ ⟨Kept.refl _ _, rfl⟩); (first | rfl | go_simp)
        refine .cons (fun x wf Kk hq hdep hold => ?_) ?_
        · (try dsimp only); (have h11 : x 11 = _ := hdep 11 (by kernel_rfl)); (clear hq hdep hold); (simp only [h11]); (clear h11); (exact stepOff rfl rfl)
        refine .cons (fun x wf Kk hq hdep hold => ?_) ?_
        · (try dsimp only); (have h11 : x 11 = _ := hdep 11 (by kernel_rfl)); (clear hq hdep hold); (simp only [h11]); (clear h11); (exact stepOff rfl rfl)
        refine .cons (fun x wf Kk hq hdep hold => ?_) ?_
        · (try dsimp only); (have h11 : x 11 = _ := hdep 11 (by kernel_rfl)); (clear hq hdep hold); (simp only [h11]); (clear h11); (exact stepOff rfl rfl)
        refine .cons (fun x wf Kk hq hdep hold => ?_) ?_
        · (try dsimp only); (have h11 : x 11 = _ := hdep 11 (by kernel_rfl)); (clear hq hdep hold); (simp only [h11]); (clear h11); (exact stepOff rfl rfl)
        refine .cons (fun x wf Kk hq hdep hold => ?_) ?_
        · (try dsimp only); (have h11 : x 11 = _ := hdep 11 (by kernel_rfl)); (clear hq hdep hold); (simp only [h11]); (clear h11); (exact stepOff rfl rfl)
        refine .cons (fun x wf Kk hq hdep hold => ?_) ?_
        · (try dsimp only); (have h11 : x 11 = _ := hdep 11 (by kernel_rfl)); (clear hq hdep hold); (simp only [h11]); (clear h11); (exact stepOff rfl rfl)
        refine .cons (fun x wf Kk hq hdep hold => ?_) ?_
        · (try dsimp only); (have h11 : x 11 = _ := hdep 11 (by kernel_rfl)); (clear hq hdep hold); (simp only [h11]); (clear h11); (exact stepOff rfl rfl)
        refine .cons (fun x wf Kk hq hdep hold => ?_) ?_
        · (try dsimp only); (have h11 : x 11 = _ := hdep 11 (by kernel_rfl)); (clear hq hdep hold); (simp only [h11]); (clear h11); (exact stepOff rfl rfl)
        refine .cons (fun x wf Kk hq hdep hold => ?_) ?_
        · (try dsimp only); (have h11 : x 11 = _ := hdep 11 (by kernel_rfl)); (have h19 : x 19 = _ := hdep 19 (by kernel_rfl)); (clear hq hdep hold); (simp only [h11, h19]); (clear h11 h19); (rw [if_pos (by rfl)]); (refine OpY.val ?_ ⟨Kept.refl _ _, rfl⟩); (first | rfl | go_simp)
        refine .cons (fun x wf Kk hq hdep hold => ?_) ?_
        · (try dsimp only); (have h20 : x 20 = _ := hdep 20 (by kernel_rfl)); (clear hq hdep hold); (simp only [h20]); (clear h20); (rw [if_pos (by rfl)]); (refine OpY.val ?_ ⟨Kept.refl _ _, rfl⟩); (first | rfl | go_simp)
        exact .nil _
      · (intro x wf Kk hv); (try dsimp only); (have h21 : x 21 = _ := hv 21 (by kernel_rfl)); (clear hv); (simp only [h21]); (clear h21); (have kF := hid (k03.out.trans' Kk.undrew)); (clear Kk); (go_wp2); (go_ret); (exact ⟨rfl, kF.out⟩)
/-- An option of a tail contradicts it. -/
theorem opts_ctr {n : Nat} {T : List Int} (hT : Tl n T) {x : As} (h : x ∈ opts n T) : ctr x T = true := by
  cases T with
  | nil => cases h
  | cons t r =>
    rcases mem_opts.1 h with ⟨a, h1, h2, rfl⟩ | ⟨b, h1, rfl⟩
    · (unfold ctr); (rw [if_pos rfl])
      show (decide (t ∈ t :: r) && !decide (a ∈ (t :: r).drop ((t :: r).idxOf t))) = true
      rw [List.idxOf_cons_self, List.drop_zero, decide_eq_false h2, decide_eq_true List.mem_cons_self]; rfl
    · (have hl : (srt n (t :: r)).length = (t :: r).length := (srt_perm hT).length_eq.symm); (unfold ctr); (rw [if_neg (by show ¬ (2 : Int) = 1; decide)])
      dsimp only
      (rw [hl, Nat.sub_self, List.drop_zero, decide_eq_true (Nat.le_refl _), decide_eq_true (by rfl)]); (rw [Bool.true_and, Bool.true_and]); (refine decide_eq_true ?_); (have hp1 := List.mergeSort_perm (t :: r) (fun a b => decide (a ≤ b))); (have hp2 : ((t :: r).mergeSort fun a b => decide (a ≤ b)).Perm (srt n (t :: r)) := hp1.trans (srt_perm hT)); (refine hp2.eq_of_pairwise (le := fun a b => decide (a ≤ b) = true) ?_ ?_ ?_)
      · (intro a b _ _ h3 h4); (have h3 := of_decide_eq_true h3); (have h4 := of_decide_eq_true h4)
        omega
      · refine List.pairwise_mergeSort ?_ ?_ _
        · (intro a b c h3 h4); (have h3 := of_decide_eq_true h3); (have h4 := of_decide_eq_true h4); (exact decide_eq_true (by omega))
        · intro a b
          by_cases h3 : a ≤ b
          · rw [decide_eq_true h3]; rfl
          · rw [decide_eq_false h3, decide_eq_true (show b ≤ a by omega)]; rfl
      · have hp : (srt n (t :: r)).Pairwise (· < ·) := by
          (unfold srt allC); (refine List.Pairwise.filter _ ?_); (rw [List.pairwise_map]); (exact List.pairwise_lt_range.imp fun h => Int.ofNat_lt.2 h)
        exact hp.imp fun h => decide_eq_true (by omega)
end Go.Proofs.YtaobaaaihgahfaaGreat
