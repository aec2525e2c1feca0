/- tie.Valid where it holds; votesOf; rounds of ratios in memory. -/
import Derived.Test.YtaobaaaihgahfaaGreatRatQ
import Derived.Test.YtaobaaaihgahfaaGreatGrpQ
import Derived.Test.YtaobaaaihgahfaaGreatAddQ
import Derived.Test.YtaobaaaihgahfaaGreatGenQ
namespace Go.Nt
open Go.Pil
/-- A tie that can be broken: the candidates ascend, all below n. -/
structure TieOk (n : Nat) (ts : List Int) : Prop where
  ne : ts ≠ []
  rng : ∀ x ∈ ts, 0 ≤ x ∧ x < (n : Int)
  asc : ∀ i, i + 1 < ts.length → ts.getD i 0 < ts.getD (i + 1) 0
end Go.Nt
namespace Go.Proofs.YtaobaaaihgahfaaGreat
open Go.RowKit Go.Mk Go.Pil Go.Nt
theorem getD_memZ {l : List Int} {i : Nat} (h : i < l.length) : l.getD i 0 ∈ l := by
  rw [List.getD_eq_getElem?_getD, List.getElem?_eq_getElem h]; exact List.getElem_mem h
set_option maxRecDepth 20000 in
set_option maxHeartbeats 2000000 in
theorem tievalid_any (rule : Int) (vt vl : Value) (ts zs : List Int) (n : Nat) (w : World) (hr1 : 1 ≤ rule) (hr3 : rule ≤ 3) (hn1 : 1 ≤ n) (hn7 : n ≤ 7) (hzl : zs.length = n) (hb : ballot (n : Int) zs = true) (ht : TieOk n ts) (rt : RdZ w vt ts) (rz : RdZ w vl zs) :
    Calls Tryz.prog 138 #[.int .i64 rule, vt, vl] w fun e w' => e = .returned (.bool true) ∧ Kept no w w' := by
  (obtain ⟨at_, ct, rfl, hct, hctm⟩ := Rd.shape2 rt); (obtain ⟨al, cl, rfl, hcl, hclm⟩ := Rd.shape2 rz); (have hm63 := maxLen_63); (obtain ⟨tn, htn⟩ : ∃ t, ts.length = t := ⟨_, rfl⟩); (have ht0 : 0 < tn := by rw [← htn]; exact List.length_pos_iff.2 ht.ne); (rw [htn] at rt hct ⊢); (rw [hzl] at rz hcl ⊢); (replace rt := hid rt); (replace rz := hid rz); (replace htn := hid htn); (replace hzl := hid hzl); (replace hb := hid ((ballot_iff _ _).1 hb)); (replace ht := hid ht); (have b1 : ¬ rule < 1 := by omega); (have b2 : ¬ 3 < rule := by omega); (have b3 : ¬ (n : Int) < 1 := by omega); (have b4 : ¬ 7 < (n : Int) := by omega); (have d1 : decide (rule < 1) = false := decide_eq_false b1); (have d2 : decide (3 < rule) = false := decide_eq_false b2); (have d3 : decide ((n : Int) < 1) = false := decide_eq_false b3); (have d4 : decide (7 < (n : Int)) = false := decide_eq_false b4); (have d5 : ((tn : Int) == 0) = false := by rw [beq_eq_false_iff_ne]; omega); (have d6 : ¬ (tn : Int) = 0 := by omega); (have g0 : Hd ((w.alloc (.cells #[.bool false, .bool false, .bool false, .bool false, .bool false, .bool false, .bool false] 152)).heap[w.heap.size]? = some (.cells (seenC []) 152 (0, 0))) := ⟨heap_alloc_new _ _⟩); (have k0 := hid ((Kept.refl no w).alloc (.cells #[.bool false, .bool false, .bool false, .bool false, .bool false, .bool false, .bool false] 152)))
  go_enter Tryz.func138, Tryz.ntmps138
  go_wp2
  go_loopw [36] (fun i wr => ∃ k : Nat, k ≤ n ∧ i = .int .i64 (k : Int) ∧ Hd (wr.heap[w.heap.size]? = some (.cells (seenC (zs.take k)) 152 (0, 0))) ∧ Hd (Kept no w wr)) (fun i _ => n - (intOf i).toNat)
  case atStart => exact ⟨0, by omega, rfl, g0, k0⟩
  case round =>
    (clear g0 k0); (obtain ⟨k, hk, rfl, hg, hW⟩ := hrel)
    by_cases hlt : k < n
    · (have hk1 : (k : Int) < (n : Int) := by omega); (have hk0 : (0 : Int) ≤ (k : Int) := by omega); (have hkl : k < zs.length := by rw [hzl.out]; exact hlt); (obtain ⟨b, o, rfl, hc⟩ := RdZ.at (rz.out.kept hW.out) k hkl); (have hzk := hb.out.2 _ (getD_memZ hkl)); (have HT : Hd (zs.take (k + 1) = zs.take k ++ [zs.getD k 0]) := ⟨by rw [List.take_succ_eq_append_getElem hkl]; simp [List.getD_eq_getElem?_getD, hkl]⟩)
      have hni : zs.getD k 0 ∉ zs.take k := fun hm => by
        (have hnd : (zs.take (k + 1)).Nodup := hb.out.1.sublist (List.take_sublist _ _)); (rw [HT.out, List.nodup_append] at hnd); (exact hnd.2.2 _ hm _ (List.mem_singleton.2 rfl) rfl)
      (obtain ⟨z, hz⟩ : ∃ z, zs.getD k 0 = z := ⟨_, rfl⟩); (rw [hz] at hc hzk HT hni); (obtain ⟨c, rfl⟩ : ∃ c : Nat, z = (c : Int) := ⟨z.toNat, by omega⟩); (have e0 : ¬ (c : Int) < 0 := by omega); (have e1 : ¬ (n : Int) ≤ (c : Int) := by omega); (have e2 : decide ((c : Int) < 0) = false := decide_eq_false e0); (have e3 : decide ((n : Int) ≤ (c : Int)) = false := decide_eq_false e1); (have hc7 : (c : Int) < 7 := by omega); (have hc0 : (0 : Int) ≤ (c : Int) := by omega); (have cs : wr.cell? ⟨w.heap.size, c, none⟩ = some (.bool false) := by rw [cell_of_row wr _ c _ _ _ hg.out, seen_at _ _ (by omega), decide_eq_false hni]); (have fs : wr.frozen? ⟨w.heap.size, c, none⟩ = false := row_free hg.out c); (have hg' : Hd ((wr.setCell ⟨w.heap.size, c, none⟩ (.bool true)).heap[w.heap.size]? = some (.cells (seenC (zs.take (k + 1))) 152 (0, 0))) := ⟨by rw [setCell_row hg.out, seen_set _ _ (by omega), HT.out]⟩); (have hW' := hid (hW.out.setCell (a := ⟨w.heap.size, c, none⟩) (.inr (Nat.le_refl _)) (.bool true))); (clear HT hg hW hz hni); (go_wp2); (go_roundw)
      case rel => first | exact ⟨k + 1, by omega, by go_num, hg', hW'⟩ | ((repeat apply Exists.intro); exact ⟨⟨k + 1, by omega, by go_num, hg', hW'⟩, rfl⟩)
      case measure => simp [intOf]; omega
    · (obtain rfl : k = n := by omega); (have hk1 : ¬ (k : Int) < (k : Int) := by omega); (clear hg); (obtain ⟨wo, hwo⟩ : ∃ wo, wo = wr := ⟨_, rfl⟩); (subst hwo); (go_wp2)
      go_loopw [57] (fun i wr => ∃ j : Nat, j ≤ tn ∧ i = .int .i64 (j : Int) ∧ Hd (Kept no w wr)) (fun i _ => tn - (intOf i).toNat)
      case atStart => exact ⟨0, by omega, rfl, hW⟩
      case round =>
        (clear hW); (obtain ⟨j, hj, rfl, hW⟩ := hrel)
        by_cases hjt : j < tn
        · (have hj1 : (j : Int) < (tn : Int) := by omega); (have hj0 : (0 : Int) ≤ (j : Int) := by omega); (have hjl : j < ts.length := by rw [htn.out]; exact hjt); (obtain ⟨b, o, rfl, hc⟩ := RdZ.at (rt.out.kept hW.out) j hjl); (have hzk := ht.out.rng _ (getD_memZ hjl))
          cases j with
          | zero =>
            (generalize ts.getD 0 0 = z at hc hzk); (have hc : wr.cell? ⟨b, o, none⟩ = some (.int .i64 z) := hc); (have e0 : ¬ z < 0 := by omega); (have e1 : ¬ (k : Int) ≤ z := by omega); (have e2 : decide (z < 0) = false := decide_eq_false e0); (have e3 : decide ((k : Int) ≤ z) = false := decide_eq_false e1); (have z0 : ((0 : Nat) : Int) = 0 := rfl); (rw [z0]); (go_wp2); (go_roundw)
            case rel => first | exact ⟨1, by omega, by go_num, hW⟩ | ((repeat apply Exists.intro); exact ⟨⟨1, by omega, by go_num, hW⟩, rfl⟩)
            case measure => simp [intOf]; omega
          | succ i =>
            (have ha := ht.out.asc i hjl); (obtain ⟨_, _, e', hc2⟩ := RdZ.at (rt.out.kept hW.out) i (by omega))
            cases e'
            (generalize ts.getD (i + 1) 0 = z at hc hzk ha); (generalize ts.getD i 0 = y at hc2 ha); (have e0 : ¬ z < 0 := by omega); (have e1 : ¬ (k : Int) ≤ z := by omega); (have e2 : decide (z < 0) = false := decide_eq_false e0); (have e3 : decide ((k : Int) ≤ z) = false := decide_eq_false e1); (have e4 : ¬ z ≤ y := by omega); (have e5 : decide (z ≤ y) = false := decide_eq_false e4); (have ei : ((i + 1 : Nat) : Int) = (i : Int) + 1 := by omega); (have ew : IntKind.i64.wrap ((i : Int) + 1 - 1) = (i : Int) := by rw [show (i : Int) + 1 - 1 = (i : Int) by omega]; exact IntWalk.i64_in _ (by omega)); (have ew2 : (i : Int) + 1 - 1 = (i : Int) := by omega); (have eg : (0 : Int) < (i : Int) + 1 := by omega); (have eg2 : (0 : Int) ≤ (i : Int) := by omega); (have eg3 : decide ((0 : Int) < (i : Int) + 1) = true := decide_eq_true eg); (have eg4 : (i : Int) < (tn : Int) := by omega); (rw [ei]); (go_wp2); (go_roundw)
            case rel => first | exact ⟨i + 2, by omega, by go_num, hW⟩ | ((repeat apply Exists.intro); exact ⟨⟨i + 2, by omega, by go_num, hW⟩, rfl⟩)
            case measure => simp [intOf]; omega
        · (obtain rfl : j = tn := by omega); (have hj1 : ¬ (j : Int) < (j : Int) := by omega); (go_wp2); (go_ret); (exact ⟨rfl, hW.out⟩)
end Go.Proofs.YtaobaaaihgahfaaGreat

/- tie.votesOf, extremes, Break's closure, slices.MaxFunc, MinFunc (printed by gen_tie2.py). -/
namespace Go.Proofs.YtaobaaaihgahfaaGreat
open Go.RowKit Go.Mk Go.Pil Go.Nt
/-- A round's number: its value, its two slices. -/
def cR (x : Nat × Value × Value) : List Value := [.bool false, x.2.1, x.2.2]
structure RdRl (w : World) (v : Value) (qs : List (Nat × Value × Value)) : Prop where
  row : Rd w 3 v qs.length (qs.flatMap cR)
  one : ∀ x ∈ qs, RdX w x.2.1 x.1 ∧ RdX w x.2.2 1
  small : ∀ x ∈ qs, x.1 < 2147483648
theorem RdRl.kept {w w' : World} {v : Value} {qs : List (Nat × Value × Value)} (h : RdRl w v qs) (k : Kept no w w') : RdRl w' v qs := ⟨h.row.keptNo k, fun x hx => ⟨(h.one x hx).1.kept k, (h.one x hx).2.kept k⟩, h.small⟩
theorem RdRl.shape {w : World} {v : Value} {qs : List (Nat × Value × Value)} (h : RdRl w v qs) : ∃ a c, v = .slice a qs.length c := by
  (obtain ⟨_, a, c, e, _⟩ := h.row); (exact ⟨a, c, e⟩)
set_option maxHeartbeats 1000000 in
theorem votesof_any (v : Value) (qs : List (Nat × Value × Value)) (c : Nat) (w : World) (hr : RdRl w v qs) :
    Calls Tryz.prog 193 #[v, .int .i64 (c : Int)] w fun e w' => ∃ u m, e = .returned u ∧ m < 2147483648 ∧ RdR w' u false m 1 ∧ Kept no w w' := by
  (obtain ⟨ao, cap, rfl⟩ := hr.shape); (obtain ⟨w1, hw1, g1, k1⟩ := alloc_named w (.cells #[.bool false, .slice none 0 0, .slice none 0 0] 76)); (obtain ⟨g, hg⟩ : ∃ g, w.heap.size = g := ⟨_, rfl⟩); (rw [hg] at g1); (have hgl : Hd (w.heap.size ≤ g) := ⟨Nat.le_of_eq hg⟩); (have hg1 := hid g1); (have hk1 := hid k1)
  by_cases hlt : c < qs.length
  · (have hc1 : (c : Int) < (qs.length : Int) := by omega); (have hc0 : (0 : Int) ≤ (c : Int) := by omega); (obtain ⟨b, o, rfl, hrow⟩ := Rd.row (f := cR) (sz := 3) (fun _ _ => rfl) (hr.kept k1).row c hlt); (obtain ⟨q1, q2⟩ := (hr.kept k1).one _ (List.getElem_mem hlt)); (have q3 := hr.small _ (List.getElem_mem hlt)); (obtain ⟨⟨m, u, y⟩, hm⟩ : ∃ x, qs[c] = x := ⟨_, rfl⟩); (rw [hm] at hrow q1 q2 q3); (obtain ⟨an, cn, en⟩ := RdU.shape q1); (obtain ⟨ad, cd, ed⟩ := RdU.shape q2); (obtain ⟨ln, hln⟩ : ∃ l, (nl m).length = l := ⟨_, rfl⟩); (obtain ⟨ld, hld⟩ : ∃ l, (nl 1).length = l := ⟨_, rfl⟩); (simp only at en ed q1 q2 q3); (rw [hln] at en); (rw [hld] at ed); (subst en ed); (have d0 : w1.cell? ⟨b, o + c * 3, none⟩ = some (.bool false) := hrow 0 _ rfl); (have d1 : w1.cell? ⟨b, o + c * 3 + 1, none⟩ = some (.slice an ln cn) := hrow 1 _ rfl); (have d2 : w1.cell? ⟨b, o + c * 3 + 2, none⟩ = some (.slice ad ld cd) := hrow 2 _ rfl); (obtain ⟨c0, c1, c2'⟩ := slotR g1); (have f0 := row_free g1 0); (have f1 := row_free g1 1); (have f2 := row_free g1 2); (have gS := hid (set3_row g1 (.bool false) (.slice an ln cn) (.slice ad ld cd))); (have kS := ((k1.setCell (a := ⟨g, 0, none⟩) (.inr hgl.out) (.bool false)).setCell (a := ⟨g, 1, none⟩) (.inr hgl.out) (.slice an ln cn)).setCell (a := ⟨g, 2, none⟩) (.inr hgl.out) (.slice ad ld cd)); (obtain ⟨qq1, qq2⟩ := hr.one _ (List.getElem_mem hlt)); (rw [hm] at qq1 qq2); (have hR := hid (show RdR _ (.agg #[.bool false, .slice an ln cn, .slice ad ld cd]) false m 1 from ⟨_, _, rfl, RdX.kept qq1 kS, RdX.kept qq2 kS⟩)); (have kS' := hid kS); (have q3' := hid q3); (clear hrow q1 q2 q3 hr hm hln hld k1 g1 kS qq1 qq2)
    go_enter Tryz.func193, Tryz.ntmps193
    (go_upto_region 1 with fail); (rw [← hw1]); (try rw [hg]); (replace hw1 := hid hw1); (go_wp2); (refine bodyPost_ret (v := .agg #[.bool false, .slice an ln cn, .slice ad ld cd]) ?_ rfl ?_)
    · exact results_rat rfl _ _ g [.bool false, .slice an ln cn, .slice ad ld cd] rfl rfl gS.out
    · exact ⟨_, m, rfl, q3'.out, hR.out, kS'.out⟩
  · (have hc1 : ¬ (c : Int) < (qs.length : Int) := by omega); (have HO := ratof_any 0 w1 (by decide)); (rw [show ((0 : Nat) : Int) = 0 from rfl] at HO); (replace HO := hid HO); (clear hr k1 g1)
    go_enter Tryz.func193, Tryz.ntmps193
    (go_upto_region 1 with fail); (rw [← hw1]); (try rw [hg]); (replace hw1 := hid hw1); (clear hg); (go_wp2_with fail); (with_reducible refine HO.out.mono ?_); (rintro e w3 ⟨v3, rfl, o3⟩); (have hg3 := hid (o3.kept.blk hg1.out)); (obtain ⟨vn, vd, rfl, on, od⟩ := o3.from_ hk1.out); (obtain ⟨an, cn, en⟩ := on.rd.shape); (obtain ⟨ad, cd, ed⟩ := od.rd.shape); (obtain ⟨ln, hln⟩ : ∃ l, (nl 0).length = l := ⟨_, rfl⟩); (obtain ⟨ld, hld⟩ : ∃ l, (nl 1).length = l := ⟨_, rfl⟩); (rw [hln] at en); (rw [hld] at ed); (subst en ed); (have on' := hid on); (have od' := hid od); (clear HO o3 on od hln hld hg1); (obtain ⟨c0, c1, c2'⟩ := slotR hg3.out); (have f0 := row_free hg3.out 0); (have f1 := row_free hg3.out 1); (have f2 := row_free hg3.out 2); (have gS := hid (set3_row hg3.out (.bool false) (.slice an ln cn) (.slice ad ld cd))); (have oS := hid (on'.out.set3 hg3.out hgl.out (.bool false) (.slice an ln cn) (.slice ad ld cd))); (have oT := hid (od'.out.set3 hg3.out hgl.out (.bool false) (.slice an ln cn) (.slice ad ld cd))); (go_wp2); (refine bodyPost_ret (v := .agg #[.bool false, .slice an ln cn, .slice ad ld cd]) ?_ rfl ?_)
    · exact results_rat rfl _ _ g [.bool false, .slice an ln cn, .slice ad ld cd] rfl rfl gS.out
    · exact ⟨_, 0, rfl, by decide, ⟨_, _, rfl, oS.out.rd, oT.out.rd⟩, oS.out.kept⟩
theorem cmp3 (m n : Nat) : cmpN m n = -1 ∨ cmpN m n = 0 ∨ cmpN m n = 1 := by
  unfold cmpN
  split
  · exact .inl rfl
  · split
    · exact .inr (.inr rfl)
    · exact .inr (.inl rfl)
def PRx {Sl : Nat → Nat → Prop} : Pr Sl := soft (fun v w => ∃ m, m < 2147483648 ∧ RdR w v false m 1) fun _ _ _ ⟨m, h1, h2⟩ k => ⟨m, h1, h2.kept k⟩
def POrd {Sl : Nat → Nat → Prop} : Pr Sl := soft (fun v _ => v = .int .i64 (-1) ∨ v = .int .i64 0 ∨ v = .int .i64 1) fun _ _ _ h _ => h
theorem own_zero {w : World} {g n cap : Nat} {L : List Value} (h : w.ownsRow 0 3 1 (.slice (some ⟨g, 0, none⟩) n cap) n L) : w.ownsRow 0 3 1 (.slice (some ⟨g, 0, none⟩) 0 cap) 0 [] := by
  obtain ⟨h1, ⟨h, _⟩ | ⟨g', c, cur, e', _, hg, hn, hcm, hcs, ht⟩⟩ := h
  · cases h
  · cases e'
    exact ⟨rfl, .inr ⟨g, cap, cur, rfl, Nat.zero_le _, hg, Nat.zero_le _, hcm, hcs, by simp⟩⟩
theorem OwZ.own_shape {w w' : World} {v : Value} {zs : List Int} (h : OwZ w w' v zs) (h0 : 0 < zs.length) : ∃ g cap, v = .slice (some ⟨g, 0, none⟩) zs.length cap ∧ zs.length ≤ cap := by
  obtain ⟨_, ⟨_, h1⟩ | ⟨g, cap, cur, rfl, _, hg, h2, _⟩⟩ := h.own
  · omega
  · exact ⟨g, cap, rfl, h2⟩
/-- Some of the candidates, at least one if there was one. -/
def SubN (ts zs : List Int) : Prop := ∀ x ∈ zs, x ∈ ts
set_option maxRecDepth 100000 in
set_option maxHeartbeats 4000000 in
theorem extremes_any (vt v : Value) (ts : List Int) (qs : List (Nat × Value × Value)) (least : Bool) (w : World) (h0 : ∀ x ∈ ts, 0 ≤ x) (hl : ts.length ≤ 7) (rt : RdZ w vt ts) (hr : RdRl w v qs) :
    Calls Tryz.prog 139 #[vt, v, .bool least] w fun e w' => ∃ v' zs, e = .returned v' ∧ SubN ts zs ∧ (ts ≠ [] → zs ≠ []) ∧ zs.length ≤ ts.length ∧ OwZ w w' v' zs := by
  (obtain ⟨at_, ct, rfl, hct, hctm⟩ := Rd.shape2 rt); (obtain ⟨ao, cap, rfl⟩ := hr.shape); (obtain ⟨ql, hql⟩ : ∃ l, qs.length = l := ⟨_, rfl⟩); (obtain ⟨tn, htn⟩ : ∃ t, ts.length = t := ⟨_, rfl⟩); (rw [htn] at rt hct ⊢); (rw [hql] at hr ⊢); (rw [htn] at hl); (replace htn := hid htn); (replace rt := hid rt); (replace hr := hid hr); (replace h0 := hid h0); (clear hql)
  go_enter Tryz.func139, Tryz.ntmps139
  go_wp2
  go_loopw [7, 13] (fun out i wr => ∃ (k : Nat) (zs : List Int), k ≤ tn ∧ i = .int .i64 (k : Int) ∧ zs.length ≤ k ∧ (0 < k → 0 < zs.length) ∧ Hd (SubN ts zs) ∧ Hd (OwZ w wr out zs)) (fun _ i _ => tn - (intOf i).toNat)
  case atStart => exact ⟨0, [], by omega, rfl, by simp, by omega, ⟨fun x hx => by cases hx⟩, ⟨OwZ.nil w⟩⟩
  case round =>
    obtain ⟨k, zs, hk, rfl, hzk, hz0, hsub, hO⟩ := hrel
    by_cases hlt : k < tn
    · (have hk1 : (k : Int) < (tn : Int) := by omega); (have hk0 : (0 : Int) ≤ (k : Int) := by omega); (have hkl : k < ts.length := by rw [htn.out]; exact hlt); (obtain ⟨b, o, rfl, hc⟩ := RdZ.at (rt.out.kept hO.out.kept) k hkl); (have hzp := h0.out _ (getD_memZ hkl)); (have hmem := hid (getD_memZ hkl)); (obtain ⟨z, hz⟩ : ∃ z, ts.getD k 0 = z := ⟨_, rfl⟩); (rw [hz] at hc hzp hmem); (obtain ⟨c, rfl⟩ : ∃ c : Nat, z = (c : Int) := ⟨z.toNat, by omega⟩); (have hqm : Hd ((zs.length + 1 ≤ maxLen ∧ (zs.length + 1) * 8 ≤ 140737488355328) ∧ ((0 : Nat) + 1 ≤ maxLen ∧ ((0 : Nat) + 1) * 8 ≤ 140737488355328)) := ⟨by have hm : maxLen = 9223372036854775807 := rfl; omega⟩); (clear hz)
      by_cases hz1 : zs.length = 0
      · (obtain rfl : zs = [] := List.eq_nil_of_length_eq_zero hz1); (obtain ⟨az, cz, rfl, _, _⟩ := Rd.shape2 hO.out.rd); (have hO2 := hid hO.out); (rw [show ([] : List Int).length = 0 from rfl] at hO2 ⊢); (go_wp2_with (at_builtin; refine wpList_append_lit _ rfl _ _ 26 rfl 3 1 8 TInts _ _ _ rfl hO2.out.own 1 [.int .i64 (c : Int)] rfl rfl (fun u hu => by obtain rfl := List.mem_singleton.1 hu; rfl) hqm.out.2.1 hqm.out.2.2 ?_)); (intro v' w5 h2 h3 h4 _); (have hO5 : Hd (OwZ w w5 v' ([] ++ [(c : Int)])) := ⟨hO2.out.add (c : Int) (by simpa using h2) h3 h4⟩)
        have hs5 : Hd (SubN ts ([] ++ [(c : Int)])) := ⟨fun x hx => by
          rcases List.mem_append.1 hx with hx | hx
          · first | exact hsub.out x hx | cases hx
          · rw [List.mem_singleton.1 hx]; exact hmem.out⟩
        (have hl5 : ([] ++ [(c : Int)]).length ≤ k + 1 := by rw [List.length_append, List.length_singleton]; simp); (have hl6 : 0 < ([] ++ [(c : Int)]).length := by rw [List.length_append, List.length_singleton]; omega); (clear h2 h3 h4 hO hO2 hqm hc); (go_wp2); (go_roundw)
        case rel => first | exact ⟨k + 1, _, by omega, by go_num, hl5, fun _ => hl6, hs5, hO5⟩ | ((repeat apply Exists.intro); exact ⟨⟨k + 1, _, by omega, by go_num, hl5, fun _ => hl6, hs5, hO5⟩, rfl⟩)
        case measure => simp [intOf]; omega
      · (obtain ⟨g, cap2, rfl, hcp⟩ := hO.out.own_shape (by omega)); (obtain ⟨_, _, e', hc2⟩ := RdZ.at hO.out.rd 0 (by omega))
        cases e'
        (have hc2 : wr.cell? ⟨g, 0, none⟩ = some (.int .i64 (zs.getD 0 0)) := hc2); (have hzp2 := h0.out _ (hsub.out _ (getD_memZ (l := zs) (i := 0) (by omega)))); (obtain ⟨y, hy⟩ : ∃ z, zs.getD 0 0 = z := ⟨_, rfl⟩); (rw [hy] at hc2 hzp2); (obtain ⟨d, rfl⟩ : ∃ c : Nat, y = (c : Int) := ⟨y.toNat, by omega⟩); (obtain ⟨zl, hzl⟩ : ∃ l, zs.length = l := ⟨_, rfl⟩); (rw [hzl] at hO hcp hz1 hqm hzk ⊢); (have hzl0 : (0 : Int) < (zl : Int) := by omega); (have hzg : ¬ (zl : Int) ≤ 0 := by omega); (have hc2' := hid hc2); (have hsl := pre_slice (some ⟨g, 0, none⟩) zl cap2 0 (.inr ⟨g, 0, rfl⟩) (by omega)); (rw [show ((0 : Nat) : Int) = 0 from rfl] at hsl); (have HV := hid (fun (W : World) (kW : Kept no wr W) (c : Nat) => votesof_any _ qs c W ((hr.out.kept hO.out.kept).kept kW))); (replace hzl := hid hzl); (clear hy hc2); (go_upto_region 7 with fail); (clear hc); (refine region_flow (S := no) (Sl := (fun _ => no)) [Is (.slice ao ql cap), Is (.int .i64 (c : Int)), PRx, Is (.slice ao ql cap), Is (.slice (some ⟨g, 0, none⟩) zl cap2), Is (.pointer (some ⟨g, 0, none⟩)), Is (.int .i64 (d : Int)), PRx, POrd, POrd] [] (fun _ _ h => h) _ (by kernel_rfl) (by kernel_rfl) (by kernel_rfl) (by kernel_rfl) (fun x => by simp only [puts, Act.put, List.map_cons, List.map_nil, Nat.zero_add, Nat.reduceAdd, List.setIfInBounds_toArray, List.set_cons_zero, List.set_cons_succ]; exact rfl) ?_ ?_)
        · (skip); (refine .cons (fun x wf Kk hq hdep hold => ?_) ?_)
          · (try dsimp only); (clear hq hdep hold); (rw [if_pos (by rfl)]); (refine OpY.val ?_ ⟨Kept.refl _ _, rfl⟩); (first | rfl | go_simp)
          refine .cons (fun x wf Kk hq hdep hold => ?_) ?_
          · (try dsimp only); (clear hq hdep hold); (rw [if_pos (by rfl)]); (refine OpY.val ?_ ⟨Kept.refl _ _, rfl⟩); (first | rfl | go_simp)
          refine .cons (fun x wf Kk hq hdep hold => ?_) ?_
          · (try dsimp only); (have h0 : x 0 = _ := hdep 0 (by kernel_rfl)); (have h1 : x 1 = _ := hdep 1 (by kernel_rfl)); (clear hq hdep hold); (simp only [h0, h1]); (clear h0 h1); (rw [if_pos (by rfl)]); (refine OpY.call (f := 193) (args := #[(.slice ao ql cap), (.int .i64 (c : Int))]) (by go_simp) ?_); (refine (HV.out wf Kk.undrew _).mono ?_); (rintro e w2 ⟨u, m, rfl, h1, h2, h3⟩); (exact ⟨_, rfl, h3, m, h1, h2⟩)
          refine .cons (fun x wf Kk hq hdep hold => ?_) ?_
          · (try dsimp only); (clear hq hdep hold); (rw [if_pos (by rfl)]); (refine OpY.val ?_ ⟨Kept.refl _ _, rfl⟩); (first | rfl | go_simp)
          refine .cons (fun x wf Kk hq hdep hold => ?_) ?_
          · (try dsimp only); (clear hq hdep hold); (rw [if_pos (by rfl)]); (refine OpY.val ?_ ⟨Kept.refl _ _, rfl⟩); (first | rfl | go_simp)
          refine .cons (fun x wf Kk hq hdep hold => ?_) ?_
          · (try dsimp only); (have h4 : x 4 = _ := hdep 4 (by kernel_rfl)); (clear hq hdep hold); (simp only [h4]); (clear h4); (rw [if_pos (by rfl)]); (refine OpY.val ?_ ⟨Kept.refl _ _, rfl⟩); (first | rfl | go_simp)
          refine .cons (fun x wf Kk hq hdep hold => ?_) ?_
          · (try dsimp only); (have h5 : x 5 = _ := hdep 5 (by kernel_rfl)); (clear hq hdep hold); (simp only [h5]); (clear h5); (have m1 := Kk.undrew.cell hc2'.out id); (rw [if_pos (by rfl)]); (refine OpY.val ?_ ⟨Kept.refl _ _, rfl⟩); (first | rfl | go_simp)
          refine .cons (fun x wf Kk hq hdep hold => ?_) ?_
          · (try dsimp only); (have h3 : x 3 = _ := hdep 3 (by kernel_rfl)); (have h6 : x 6 = _ := hdep 6 (by kernel_rfl)); (clear hq hdep hold); (simp only [h3, h6]); (clear h3 h6); (rw [if_pos (by rfl)]); (refine OpY.call (f := 193) (args := #[(.slice ao ql cap), (.int .i64 (d : Int))]) (by go_simp) ?_); (refine (HV.out wf Kk.undrew _).mono ?_); (rintro e w2 ⟨u, m, rfl, h1, h2, h3⟩); (exact ⟨_, rfl, h3, m, h1, h2⟩)
          refine .cons (fun x wf Kk hq hdep hold => ?_) ?_
          · (try dsimp only); (have p2 : Pr.p (Sl := (fun _ => no)) (PRx) (x 2) wf := hdep 2 (by kernel_rfl)); (have p7 : Pr.p (Sl := (fun _ => no)) (PRx) (x 7) wf := hdep 7 (by kernel_rfl)); (clear hq hdep hold); (rw [if_pos (by rfl)]); (obtain ⟨m1, hm1, rm1⟩ := p2); (obtain ⟨m2, hm2, rm2⟩ := p7); (refine OpY.call (f := 123) (args := #[x 2, x 7]) (by go_simp) ?_); (refine (ratcmp_any _ _ m1 m2 wf hm1 hm2 rm1 rm2).mono ?_); (rintro e w2 ⟨rfl, h3⟩); (refine ⟨_, rfl, h3, ?_⟩)
            rcases cmp3 m1 m2 with h | h | h
            · exact .inl (by rw [h])
            · exact .inr (.inl (by rw [h]))
            · exact .inr (.inr (by rw [h]))
          refine .cons (fun x wf Kk hq hdep hold => ?_) ?_
          · (try dsimp only); (have p8 : Pr.p (Sl := (fun _ => no)) (POrd) (x 8) wf := hdep 8 (by kernel_rfl)); (clear hq hdep hold); (rw [if_pos (by rfl)]); (refine OpY.val (v := x 8) (by go_simp) ⟨Kept.refl _ _, p8⟩)
          exact .nil _
        · (intro x wf Kk hv); (try dsimp only); (have p9 : Pr.p (Sl := (fun _ => no)) (POrd) (x 9) wf := hv 9 (by kernel_rfl)); (clear hv); (obtain ⟨wa, hwa⟩ : ∃ W, W = wf := ⟨_, rfl⟩); (subst hwa); (have ha := p9); (have hO3 := hid (hO.out.keptNo Kk.undrew)); (have hOz := hid (show OwZ w wa (.slice (some ⟨g, 0, none⟩) 0 cap2) [] from ⟨own_zero (by have := hO3.out.own; rw [hzl.out] at this; exact this), hO3.out.kept, hO3.out.new⟩)); (clear hO HV hc2' Kk p9); (have hneg1 : IntKind.i64.wrap (-1) = -1 := by decide); (have hneg2 : IntKind.i64.wrap (- -1) = 1 := by decide)
          cases least with
          | true =>
            rcases ha with ha | ha | ha
            all_goals rw [ha]
            · (clear ha); (go_wp2_with (at_builtin; refine wpList_append_lit _ rfl _ _ 26 rfl 3 1 8 TInts _ _ _ rfl hOz.out.own 1 [.int .i64 (c : Int)] rfl rfl (fun u hu => by obtain rfl := List.mem_singleton.1 hu; rfl) hqm.out.2.1 hqm.out.2.2 ?_)); (intro v' w5 h2 h3 h4 _); (have hO5 : Hd (OwZ w w5 v' ([] ++ [(c : Int)])) := ⟨hOz.out.add (c : Int) (by simpa using h2) h3 h4⟩)
              have hs5 : Hd (SubN ts ([] ++ [(c : Int)])) := ⟨fun x hx => by
                rcases List.mem_append.1 hx with hx | hx
                · first | exact hsub.out x hx | cases hx
                · rw [List.mem_singleton.1 hx]; exact hmem.out⟩
              (have hl5 : ([] ++ [(c : Int)]).length ≤ k + 1 := by rw [List.length_append, List.length_singleton]; simp); (have hl6 : 0 < ([] ++ [(c : Int)]).length := by rw [List.length_append, List.length_singleton]; omega); (clear h2 h3 h4 hO3 hOz hqm); (go_wp2); (go_roundw)
              case rel => first | exact ⟨k + 1, _, by omega, by go_num, hl5, fun _ => hl6, hs5, hO5⟩ | ((repeat apply Exists.intro); exact ⟨⟨k + 1, _, by omega, by go_num, hl5, fun _ => hl6, hs5, hO5⟩, rfl⟩)
              case measure => simp [intOf]; omega
            · (clear ha); (have hOa : Hd (wa.ownsRow 0 3 1 (.slice (some ⟨g, 0, none⟩) zl cap2) zl (zs.map Z)) := ⟨by have := hO3.out.own; rw [hzl.out] at this; exact this⟩); (go_wp2_with (at_builtin; refine wpList_append_lit _ rfl _ _ 26 rfl 3 1 8 TInts _ _ _ rfl hOa.out 1 [.int .i64 (c : Int)] rfl rfl (fun u hu => by obtain rfl := List.mem_singleton.1 hu; rfl) hqm.out.1.1 hqm.out.1.2 ?_)); (intro v' w5 h2 h3 h4 _); (have hO5 : Hd (OwZ w w5 v' (zs ++ [(c : Int)])) := ⟨hO3.out.add (c : Int) (by rw [hzl.out]; simpa using h2) h3 h4⟩)
              have hs5 : Hd (SubN ts (zs ++ [(c : Int)])) := ⟨fun x hx => by
                rcases List.mem_append.1 hx with hx | hx
                · first | exact hsub.out x hx | cases hx
                · rw [List.mem_singleton.1 hx]; exact hmem.out⟩
              (have hl5 : (zs ++ [(c : Int)]).length ≤ k + 1 := by rw [List.length_append, List.length_singleton]; rw [hzl.out]; omega); (have hl6 : 0 < (zs ++ [(c : Int)]).length := by rw [List.length_append, List.length_singleton]; omega); (clear h2 h3 h4 hO3 hOz hqm hOa); (go_wp2); (go_roundw)
              case rel => first | exact ⟨k + 1, _, by omega, by go_num, hl5, fun _ => hl6, hs5, hO5⟩ | ((repeat apply Exists.intro); exact ⟨⟨k + 1, _, by omega, by go_num, hl5, fun _ => hl6, hs5, hO5⟩, rfl⟩)
              case measure => simp [intOf]; omega
            · (clear ha); (have hl5 : zs.length ≤ k + 1 := by rw [hzl.out]; omega); (have hl6 : 0 < zs.length := by rw [hzl.out]; omega); (clear hOz hqm); (go_wp2); (go_roundw)
              case rel => first | exact ⟨k + 1, zs, by omega, by go_num, hl5, fun _ => hl6, hsub, hO3⟩ | ((repeat apply Exists.intro); exact ⟨⟨k + 1, zs, by omega, by go_num, hl5, fun _ => hl6, hsub, hO3⟩, rfl⟩)
              case measure => simp [intOf]; omega
          | false =>
            rcases ha with ha | ha | ha
            all_goals rw [ha]
            · (clear ha); (have hl5 : zs.length ≤ k + 1 := by rw [hzl.out]; omega); (have hl6 : 0 < zs.length := by rw [hzl.out]; omega); (clear hOz hqm); (go_wp2); (go_roundw)
              case rel => first | exact ⟨k + 1, zs, by omega, by go_num, hl5, fun _ => hl6, hsub, hO3⟩ | ((repeat apply Exists.intro); exact ⟨⟨k + 1, zs, by omega, by go_num, hl5, fun _ => hl6, hsub, hO3⟩, rfl⟩)
              case measure => simp [intOf]; omega
            · (clear ha); (have hOa : Hd (wa.ownsRow 0 3 1 (.slice (some ⟨g, 0, none⟩) zl cap2) zl (zs.map Z)) := ⟨by have := hO3.out.own; rw [hzl.out] at this; exact this⟩); (go_wp2_with (at_builtin; refine wpList_append_lit _ rfl _ _ 26 rfl 3 1 8 TInts _ _ _ rfl hOa.out 1 [.int .i64 (c : Int)] rfl rfl (fun u hu => by obtain rfl := List.mem_singleton.1 hu; rfl) hqm.out.1.1 hqm.out.1.2 ?_)); (intro v' w5 h2 h3 h4 _); (have hO5 : Hd (OwZ w w5 v' (zs ++ [(c : Int)])) := ⟨hO3.out.add (c : Int) (by rw [hzl.out]; simpa using h2) h3 h4⟩)
              have hs5 : Hd (SubN ts (zs ++ [(c : Int)])) := ⟨fun x hx => by
                rcases List.mem_append.1 hx with hx | hx
                · first | exact hsub.out x hx | cases hx
                · rw [List.mem_singleton.1 hx]; exact hmem.out⟩
              (have hl5 : (zs ++ [(c : Int)]).length ≤ k + 1 := by rw [List.length_append, List.length_singleton]; rw [hzl.out]; omega); (have hl6 : 0 < (zs ++ [(c : Int)]).length := by rw [List.length_append, List.length_singleton]; omega); (clear h2 h3 h4 hO3 hOz hqm hOa); (go_wp2); (go_roundw)
              case rel => first | exact ⟨k + 1, _, by omega, by go_num, hl5, fun _ => hl6, hs5, hO5⟩ | ((repeat apply Exists.intro); exact ⟨⟨k + 1, _, by omega, by go_num, hl5, fun _ => hl6, hs5, hO5⟩, rfl⟩)
              case measure => simp [intOf]; omega
            · (clear ha); (go_wp2_with (at_builtin; refine wpList_append_lit _ rfl _ _ 26 rfl 3 1 8 TInts _ _ _ rfl hOz.out.own 1 [.int .i64 (c : Int)] rfl rfl (fun u hu => by obtain rfl := List.mem_singleton.1 hu; rfl) hqm.out.2.1 hqm.out.2.2 ?_)); (intro v' w5 h2 h3 h4 _); (have hO5 : Hd (OwZ w w5 v' ([] ++ [(c : Int)])) := ⟨hOz.out.add (c : Int) (by simpa using h2) h3 h4⟩)
              have hs5 : Hd (SubN ts ([] ++ [(c : Int)])) := ⟨fun x hx => by
                rcases List.mem_append.1 hx with hx | hx
                · first | exact hsub.out x hx | cases hx
                · rw [List.mem_singleton.1 hx]; exact hmem.out⟩
              (have hl5 : ([] ++ [(c : Int)]).length ≤ k + 1 := by rw [List.length_append, List.length_singleton]; simp); (have hl6 : 0 < ([] ++ [(c : Int)]).length := by rw [List.length_append, List.length_singleton]; omega); (clear h2 h3 h4 hO3 hOz hqm); (go_wp2); (go_roundw)
              case rel => first | exact ⟨k + 1, _, by omega, by go_num, hl5, fun _ => hl6, hs5, hO5⟩ | ((repeat apply Exists.intro); exact ⟨⟨k + 1, _, by omega, by go_num, hl5, fun _ => hl6, hs5, hO5⟩, rfl⟩)
              case measure => simp [intOf]; omega
    · (obtain rfl : k = tn := by omega); (have hk1 : ¬ (k : Int) < (k : Int) := by omega)
      have hlen : Hd (ts ≠ [] → zs ≠ []) := ⟨fun hne => by
        (have := List.length_pos_iff.2 hne); (rw [htn.out] at this)
        exact List.length_pos_iff.1 (hz0 this)⟩
      (have hle := hid hzk); (go_wp2); (go_ret); (first | exact ⟨_, zs, rfl, hsub.out, hlen.out, hle.out, hO.out⟩ | exact ⟨_, rfl, zs, hsub.out, hlen.out, hle.out, hO.out⟩)
set_option maxHeartbeats 1000000 in
theorem break1_any (vl : Value) (zs : List Int) (x y : Int) (B : Nat) (w : World) (hz : RdZ w vl zs) (hB : w.cell? ⟨B, 0, none⟩ = some vl) :
    Calls Tryz.prog 140 #[.int .i64 x, .int .i64 y, .pointer (some ⟨B, 0, none⟩)] w fun e w' => ∃ z : Int, e = .returned (.int .i64 z) ∧ Kept no w w' := by
  (obtain ⟨al, cl, rfl, hcl, hclm⟩ := Rd.shape2 hz); (have H1 := hid (fun z => Qt.quiet (w := w) fun W (kw : Qt w W) => index_any _ zs z W (hz.kept kw.kept))); (generalize zs.length = ln at hB H1); (clear hz)
  go_enter Tryz.func140, Tryz.ntmps140
  (go_wp2_with fail); (go_quiet ((go_at_call 87; exact H1.out _ _))); (go_wp2); (go_ret); (exact ⟨_, rfl, (Kept.refl no w).drewN _⟩)
set_option maxHeartbeats 1000000 in
theorem maxfunc_any (vt vl : Value) (ts zs : List Int) (B : Nat) (w : World) (hne : 0 < ts.length) (rt : RdZ w vt ts) (hz : RdZ w vl zs) (hB : w.cell? ⟨B, 0, none⟩ = some vl) :
    Calls Tryz.prog 141 #[vt, .func (.func 140) #[] #[.pointer (some ⟨B, 0, none⟩)]] w fun e w' => ∃ x : Int, e = .returned (.int .i64 x) ∧ x ∈ ts ∧ Kept no w w' := by
  (obtain ⟨at_, ct, rfl, hct, hctm⟩ := Rd.shape2 rt); (have hm63 := maxLen_63); (obtain ⟨tn, htn⟩ : ∃ t, ts.length = t := ⟨_, rfl⟩); (rw [htn] at rt hct hne ⊢); (obtain ⟨b, o, rfl, q0⟩ := RdZ.at rt 0 (by omega)); (have q0 : w.cell? ⟨b, o, none⟩ = some (.int .i64 (ts.getD 0 0)) := q0); (have hm0 := hid (getD_memZ (l := ts) (i := 0) (by omega))); (obtain ⟨z0, hz0⟩ : ∃ z, ts.getD 0 0 = z := ⟨_, rfl⟩); (rw [hz0] at q0 hm0); (have hn1 : ¬ (tn : Int) < 1 := by omega); (have hn0 : (0 : Int) < (tn : Int) := by omega); (replace htn := hid htn); (replace rt := hid rt); (have hzl := hid hz); (clear hz); (replace hB := hid hB); (clear hz0)
  go_enter Tryz.func141, Tryz.ntmps141
  go_wp2
  go_loopw [5, 6] (fun m i wr => ∃ (k : Nat) (x : Int), k ≤ tn ∧ i = .int .i64 (k : Int) ∧ m = .int .i64 x ∧ Hd (x ∈ ts) ∧ Hd (Kept no w wr)) (fun _ i _ => tn - (intOf i).toNat)
  case atStart => exact ⟨1, z0, by omega, rfl, rfl, hm0, ⟨Kept.refl _ _⟩⟩
  case round =>
    obtain ⟨k, x, hk, rfl, rfl, hx, hW⟩ := hrel
    by_cases hlt : k < tn
    · (have hk1 : (k : Int) < (tn : Int) := by omega); (have hk0 : (0 : Int) ≤ (k : Int) := by omega); (have hkl : k < ts.length := by rw [htn.out]; exact hlt); (obtain ⟨_, _, e', hc⟩ := RdZ.at (rt.out.kept hW.out) k hkl)
      cases e'
      (have hmem := hid (getD_memZ hkl)); (obtain ⟨z, hz⟩ : ∃ z, ts.getD k 0 = z := ⟨_, rfl⟩); (rw [hz] at hc hmem); (have HC := hid (break1_any vl zs z x B wr (hzl.out.kept hW.out) (hW.out.cell hB.out id))); (have hc' := hid hc); (clear hz); (go_wp2_with fail); (with_reducible refine HC.out.mono ?_); (rintro e w2 ⟨d, rfl, k2⟩); (have hW2 := hid (hW.out.trans' k2)); (have hc := k2.cell hc'.out id); (clear HC k2 hW hc')
      by_cases hd : (0 : Int) < d
      · (have hdd : decide ((0 : Int) < d) = true := decide_eq_true hd); (go_wp2); (go_roundw)
        case rel => first | exact ⟨k + 1, z, by omega, by go_num, rfl, hmem, hW2⟩ | ((repeat apply Exists.intro); exact ⟨⟨k + 1, z, by omega, by go_num, rfl, hmem, hW2⟩, rfl⟩)
        case measure => simp [intOf]; omega
      · (have hdd : decide ((0 : Int) < d) = false := decide_eq_false hd); (go_wp2); (go_roundw)
        case rel => first | exact ⟨k + 1, x, by omega, by go_num, rfl, hx, hW2⟩ | ((repeat apply Exists.intro); exact ⟨⟨k + 1, x, by omega, by go_num, rfl, hx, hW2⟩, rfl⟩)
        case measure => simp [intOf]; omega
    · (obtain rfl : k = tn := by omega); (have hk1 : ¬ (k : Int) < (k : Int) := by omega); (go_wp2); (go_ret); (exact ⟨x, rfl, hx.out, hW.out⟩)
set_option maxHeartbeats 1000000 in
theorem minfunc_any (vt vl : Value) (ts zs : List Int) (B : Nat) (w : World) (hne : 0 < ts.length) (rt : RdZ w vt ts) (hz : RdZ w vl zs) (hB : w.cell? ⟨B, 0, none⟩ = some vl) :
    Calls Tryz.prog 142 #[vt, .func (.func 140) #[] #[.pointer (some ⟨B, 0, none⟩)]] w fun e w' => ∃ x : Int, e = .returned (.int .i64 x) ∧ x ∈ ts ∧ Kept no w w' := by
  (obtain ⟨at_, ct, rfl, hct, hctm⟩ := Rd.shape2 rt); (have hm63 := maxLen_63); (obtain ⟨tn, htn⟩ : ∃ t, ts.length = t := ⟨_, rfl⟩); (rw [htn] at rt hct hne ⊢); (obtain ⟨b, o, rfl, q0⟩ := RdZ.at rt 0 (by omega)); (have q0 : w.cell? ⟨b, o, none⟩ = some (.int .i64 (ts.getD 0 0)) := q0); (have hm0 := hid (getD_memZ (l := ts) (i := 0) (by omega))); (obtain ⟨z0, hz0⟩ : ∃ z, ts.getD 0 0 = z := ⟨_, rfl⟩); (rw [hz0] at q0 hm0); (have hn1 : ¬ (tn : Int) < 1 := by omega); (have hn0 : (0 : Int) < (tn : Int) := by omega); (replace htn := hid htn); (replace rt := hid rt); (have hzl := hid hz); (clear hz); (replace hB := hid hB); (clear hz0)
  go_enter Tryz.func142, Tryz.ntmps142
  go_wp2
  go_loopw [5, 6] (fun m i wr => ∃ (k : Nat) (x : Int), k ≤ tn ∧ i = .int .i64 (k : Int) ∧ m = .int .i64 x ∧ Hd (x ∈ ts) ∧ Hd (Kept no w wr)) (fun _ i _ => tn - (intOf i).toNat)
  case atStart => exact ⟨1, z0, by omega, rfl, rfl, hm0, ⟨Kept.refl _ _⟩⟩
  case round =>
    obtain ⟨k, x, hk, rfl, rfl, hx, hW⟩ := hrel
    by_cases hlt : k < tn
    · (have hk1 : (k : Int) < (tn : Int) := by omega); (have hk0 : (0 : Int) ≤ (k : Int) := by omega); (have hkl : k < ts.length := by rw [htn.out]; exact hlt); (obtain ⟨_, _, e', hc⟩ := RdZ.at (rt.out.kept hW.out) k hkl)
      cases e'
      (have hmem := hid (getD_memZ hkl)); (obtain ⟨z, hz⟩ : ∃ z, ts.getD k 0 = z := ⟨_, rfl⟩); (rw [hz] at hc hmem); (have HC := hid (break1_any vl zs z x B wr (hzl.out.kept hW.out) (hW.out.cell hB.out id))); (have hc' := hid hc); (clear hz); (go_wp2_with fail); (with_reducible refine HC.out.mono ?_); (rintro e w2 ⟨d, rfl, k2⟩); (have hW2 := hid (hW.out.trans' k2)); (have hc := k2.cell hc'.out id); (clear HC k2 hW hc')
      by_cases hd : d < (0 : Int)
      · (have hdd : decide (d < (0 : Int)) = true := decide_eq_true hd); (go_wp2); (go_roundw)
        case rel => first | exact ⟨k + 1, z, by omega, by go_num, rfl, hmem, hW2⟩ | ((repeat apply Exists.intro); exact ⟨⟨k + 1, z, by omega, by go_num, rfl, hmem, hW2⟩, rfl⟩)
        case measure => simp [intOf]; omega
      · (have hdd : decide (d < (0 : Int)) = false := decide_eq_false hd); (go_wp2); (go_roundw)
        case rel => first | exact ⟨k + 1, x, by omega, by go_num, rfl, hx, hW2⟩ | ((repeat apply Exists.intro); exact ⟨⟨k + 1, x, by omega, by go_num, rfl, hx, hW2⟩, rfl⟩)
        case measure => simp [intOf]; omega
    · (obtain rfl : k = tn := by omega); (have hk1 : ¬ (k : Int) < (k : Int) := by omega); (go_wp2); (go_ret); (exact ⟨x, rfl, hx.out, hW.out⟩)
end Go.Proofs.YtaobaaaihgahfaaGreat

/- tie.Break: one of the tied candidates (printed by gen_tie3.py). -/
namespace Go.Proofs.YtaobaaaihgahfaaGreat
open Go.RowKit Go.Mk Go.Pil Go.Nt
/-- The rounds before. -/
structure RdEl (w : World) (v : Value) (vs : List (List (Nat × Value × Value) × Value)) : Prop where
  row : Rd w 1 v vs.length (vs.map (·.2))
  one : ∀ x ∈ vs, RdRl w x.2 x.1
theorem RdEl.kept {w w' : World} {v : Value} {vs : List (List (Nat × Value × Value) × Value)} (h : RdEl w v vs) (k : Kept no w w') : RdEl w' v vs := ⟨h.row.keptNo k, fun x hx => (h.one x hx).kept k⟩
theorem RdEl.shape {w : World} {v : Value} {vs : List (List (Nat × Value × Value) × Value)} (h : RdEl w v vs) : ∃ a c, v = .slice a vs.length c := by
  (obtain ⟨_, a, c, e, _⟩ := h.row); (exact ⟨a, c, e⟩)
theorem RdEl.at {w : World} {ao : Option Addr} {n cap : Nat} {vs : List (List (Nat × Value × Value) × Value)} (h : RdEl w (.slice ao n cap) vs) (k : Nat) (hk : k < vs.length) :
    ∃ b o qs a c, ao = some ⟨b, o, none⟩ ∧ w.cell? ⟨b, o + k, none⟩ = some (.slice a qs.length c) ∧ RdRl w (.slice a qs.length c) qs := by
  obtain ⟨_, _, _, e, h1, _, h2 | ⟨b, o, rfl, hc⟩⟩ := h.row
  · cases e; omega
  · cases e
    (have hq := h.one _ (List.getElem_mem hk)); (obtain ⟨⟨qs, u⟩, hx⟩ : ∃ x, vs[k] = x := ⟨_, rfl⟩); (rw [hx] at hq); (obtain ⟨a, c, e⟩ := hq.shape); (have e : u = .slice a qs.length c := e); (refine ⟨b, o, qs, a, c, rfl, hc k _ ?_, e ▸ hq⟩); (rw [List.getElem?_map, List.getElem?_eq_getElem hk, hx])
    show some u = _
    rw [e]
set_option maxRecDepth 100000 in
set_option maxHeartbeats 4000000 in
theorem break_any (rule : Int) (ve vt vl : Value) (vs : List (List (Nat × Value × Value) × Value)) (ts zs : List Int) (n : Nat) (least : Bool) (w : World) (hr1 : 1 ≤ rule) (hr3 : rule ≤ 3) (hn1 : 1 ≤ n) (hn7 : n ≤ 7) (hzl : zs.length = n) (hb : ballot (n : Int) zs = true) (ht : TieOk n ts) (htl : ts.length ≤ 7) (re : RdEl w ve vs) (rt : RdZ w vt ts) (rz : RdZ w vl zs) :
    Calls Tryz.prog 79 #[.int .i64 rule, ve, vt, vl, .bool least] w fun e w' => ∃ (c : Int) (b : Value), e = .returned (.tuple #[.int .i64 c, b]) ∧ c ∈ ts ∧ Kept no w w' := by
  (obtain ⟨at_, ct, rfl, hct, hctm⟩ := Rd.shape2 rt); (obtain ⟨al, cl, rfl, hcl, hclm⟩ := Rd.shape2 rz); (obtain ⟨ae, ce, rfl⟩ := re.shape); (obtain ⟨w1, hw1, g1, k1⟩ := alloc_named w (.cells #[.slice al zs.length cl] 26)); (obtain ⟨B, hB⟩ : ∃ g, w.heap.size = g := ⟨_, rfl⟩); (rw [hB] at g1); (have c0 : w1.cell? ⟨B, 0, none⟩ = some (.slice al zs.length cl) := by rw [cell_of_row _ _ 0 _ _ _ g1]; rfl); (have HV := hid (tievalid_any rule _ _ ts zs n w1 hr1 hr3 hn1 hn7 hzl hb ht (RdZ.kept rt k1) (RdZ.kept rz k1))); (have HC := hid (fun W (k : Kept no w1 W) => clonez_any _ ts W (by omega) (RdZ.kept (RdZ.kept rt k1) k))); (obtain ⟨en, hen⟩ : ∃ l, vs.length = l := ⟨_, rfl⟩); (have re1 := hid (re.kept k1)); (rw [hen] at re1 ⊢)
  have hm63 : en ≤ 9223372036854775807 := by
    obtain ⟨_, _, _, e, h1, h2, _⟩ := re.row
    cases e
    have : maxLen = 9223372036854775807 := rfl
    omega
  (have hne := hid ht.ne); (have hpos := hid (fun x hx => (ht.rng x hx).1)); (obtain ⟨zn, hzn⟩ : ∃ l, zs.length = l := ⟨_, rfl⟩); (have rz1 := hid (RdZ.kept rz k1)); (rw [hzn] at c0 HV rz1 hw1 ⊢); (have c0' := hid c0); (have k01 := hid k1); (have htl' := hid htl); (obtain ⟨tn, htn⟩ : ∃ l, ts.length = l := ⟨_, rfl⟩); (rw [htn] at HV HC ⊢); (replace hen := hid hen); (replace htn := hid htn); (clear rt rz re g1 k1 hzl hzn ht hb)
  go_enter Tryz.func79, Tryz.ntmps79
  (go_upto_region 1 with fail); (rw [← hw1]); (try rw [hB]); (clear hw1 hB); (go_wp2_with fail); (with_reducible refine HV.out.mono ?_); (rintro e w2 ⟨rfl, k2⟩); (have HC2 := hid (HC.out w2 k2)); (have hk2 := hid k2); (clear HV HC k2 c0); (go_wp2_with fail); (with_reducible refine HC2.out.mono ?_); (rintro e w3 ⟨v3, rfl, h3o, h3k, h3n⟩); (have hO0 : Hd (OwZ w1 w3 v3 ts) := ⟨⟨by rw [htn.out]; exact h3o, hk2.out.trans' h3k, h3n.of hk2.out.size⟩⟩); (clear HC2 h3o h3k h3n hk2); (go_wp2)
  go_loopw [12, 13] (fun left i wr => ∃ (k : Nat) (us : List Int), k ≤ en ∧ i = .int .i64 (k : Int) ∧ 0 < us.length ∧ us.length ≤ 7 ∧ Hd (SubN ts us) ∧ Hd (OwZ w1 wr left us)) (fun _ i _ => en - (intOf i).toNat)
  case atStart => exact ⟨0, ts, by omega, rfl, List.length_pos_iff.2 hne.out, htl'.out, ⟨fun x hx => hx⟩, hO0⟩
  case round =>
    (clear hO0); (obtain ⟨k, us, hk, rfl, hu0, hu7, hsub, hO⟩ := hrel); (obtain ⟨g, cu, rfl, hcu⟩ := hO.out.own_shape hu0); (have rU := hid hO.out.rd); (have kU := hid hO.out.kept); (have hR3 := hid (fun x hx => hpos.out x (hsub.out x hx))); (obtain ⟨b0, o0, e', hcx⟩ := RdZ.at rU.out 0 hu0)
    cases e'
    (have hc0 : wr.cell? ⟨g, 0, none⟩ = some (.int .i64 (us.getD 0 0)) := hcx); (clear hcx); (have hm0 := hid (hsub.out _ (getD_memZ (l := us) (i := 0) hu0))); (obtain ⟨x0, hx0⟩ : ∃ x, us.getD 0 0 = x := ⟨_, rfl⟩); (rw [hx0] at hc0 hm0); (have cB := hO.out.kept.cell c0'.out id); (have HMX := hid (maxfunc_any _ _ us zs B wr hu0 rU.out (RdZ.kept rz1.out kU.out) cB)); (have HMN := hid (minfunc_any _ _ us zs B wr hu0 rU.out (RdZ.kept rz1.out kU.out) cB)); (have HX := hid (fun (v : Value) (qs : List (Nat × Value × Value)) (hq : RdRl wr v qs) => extremes_any _ v us qs least wr hR3.out hu7 rU.out hq)); (obtain ⟨ul, hul⟩ : ∃ l, us.length = l := ⟨_, rfl⟩); (have hne' := hid (List.length_pos_iff.1 hu0)); (rw [hul] at hu0 hu7 hcu HMX HMN HX ⊢); (replace hul := hid hul); (replace hc0 := hid hc0); (replace cB := hid cB); (clear hx0 hO rU hR3); (have hul0 : (0 : Int) < (ul : Int) := by omega)
    by_cases hlt : k < en
    · (have hk1 : (k : Int) < (en : Int) := by omega); (have hk0 : (0 : Int) ≤ (k : Int) := by omega); (have hkd : decide ((k : Int) < (en : Int)) = true := decide_eq_true hk1)
      by_cases hu1 : 1 < ul
      · (have hu1i : (1 : Int) < (ul : Int) := by omega); (have hu1d : decide ((1 : Int) < (ul : Int)) = true := decide_eq_true hu1i)
        by_cases hr : rule = 3
        · (subst hr); (clear HX); (have hu2 : ¬ (ul : Int) = 1 := by omega); (have hu3 : ((ul : Int) == 1) = false := beq_eq_false_iff_ne.2 hu2)
          cases least with
          | true =>
            (go_wp2_with fail); (with_reducible refine HMX.out.mono ?_); (rintro e w5 ⟨x, rfl, hx, k5⟩); (have hx' := hid (hsub.out x hx)); (have kF := hid (k01.out.trans' (kU.out.trans' k5))); (clear HMX HMN k5 hx); (go_wp2); (go_ret2); (first | exact ⟨x, .bool true, rfl, hx'.out, kF.out⟩ | exact ⟨x, ⟨.bool true, rfl⟩, hx'.out, kF.out⟩)
          | false =>
            (go_wp2_with fail); (with_reducible refine HMN.out.mono ?_); (rintro e w5 ⟨x, rfl, hx, k5⟩); (have hx' := hid (hsub.out x hx)); (have kF := hid (k01.out.trans' (kU.out.trans' k5))); (clear HMX HMN k5 hx); (go_wp2); (go_ret2); (first | exact ⟨x, .bool true, rfl, hx'.out, kF.out⟩ | exact ⟨x, ⟨.bool true, rfl⟩, hx'.out, kF.out⟩)
        · (have hrb : (rule == 3) = false := beq_eq_false_iff_ne.2 hr); (have hrn : (rule != 3) = true := by rw [bne, hrb]; rfl); (clear hc0 cB HMX HMN)
          by_cases hr1' : rule = 1
          · (subst hr1'); (have hki : en - 1 - k < vs.length := by rw [hen.out]; omega); (obtain ⟨b, o, qs, a, c, rfl, hc, hq⟩ := (re1.out.kept kU.out).at (en - 1 - k) hki); (have hw2 : (en : Int) - 1 - (k : Int) = ((en - 1 - k : Nat) : Int) := by omega); (have hw1 : IntKind.i64.wrap ((en : Int) - 1) = (en : Int) - 1 := IntWalk.i64_in _ (by omega)); (have hw3 : IntKind.i64.wrap (((en - 1 - k : Nat) : Int)) = ((en - 1 - k : Nat) : Int) := IntWalk.i64_in _ (by omega)); (have hq' := hid hq); (obtain ⟨_, _, qs0, a0', c0x, e0, hcK, _⟩ := (re1.out.kept kU.out).at k (by rw [hen.out]; exact hlt))
            cases e0
            (have hj0 : (0 : Int) ≤ ((en - 1 - k : Nat) : Int) := by omega); (have hj1 : ((en - 1 - k : Nat) : Int) < (en : Int) := by omega); (generalize en - 1 - k = j at hc hw2 hw3 hj0 hj1); (clear hki hq); (have HX2 := hid (HX.out (.slice a qs.length c) qs hq'.out)); (obtain ⟨ql, hql⟩ : ∃ l, qs.length = l := ⟨_, rfl⟩); (rw [hql] at hc HX2); (clear HX hql hq'); (go_wp2_with fail); (with_reducible refine HX2.out.mono ?_); (rintro e w5 ⟨v5, us5, rfl, hs5, hn5, hl5, o5⟩); (have hO5 : Hd (OwZ w1 w5 v5 us5) := ⟨o5.of_kept kU.out⟩); (have hsub5 : Hd (SubN ts us5) := ⟨fun x hx => hsub.out x (hs5 x hx)⟩); (have hp5 : 0 < us5.length := List.length_pos_iff.2 (hn5 hne'.out)); (have h75 : us5.length ≤ 7 := by have := hul.out; omega); (clear HX2 o5 hs5 hn5 hl5); (go_wp2); (go_roundw)
            case rel => first | exact ⟨k + 1, us5, by omega, by go_num, hp5, h75, hsub5, hO5⟩ | ((repeat apply Exists.intro); exact ⟨⟨k + 1, us5, by omega, by go_num, hp5, h75, hsub5, hO5⟩, rfl⟩)
            case measure => simp [intOf]; omega
          · (have hrb1 : (rule == 1) = false := beq_eq_false_iff_ne.2 hr1'); (obtain ⟨b, o, qs, a, c, rfl, hc, hq⟩ := (re1.out.kept kU.out).at k (by rw [hen.out]; exact hlt)); (have hq' := hid hq); (clear hq); (have HX2 := hid (HX.out (.slice a qs.length c) qs hq'.out)); (obtain ⟨ql, hql⟩ : ∃ l, qs.length = l := ⟨_, rfl⟩); (rw [hql] at hc HX2); (clear HX hql hq'); (go_wp2_with fail); (with_reducible refine HX2.out.mono ?_); (rintro e w5 ⟨v5, us5, rfl, hs5, hn5, hl5, o5⟩); (have hO5 : Hd (OwZ w1 w5 v5 us5) := ⟨o5.of_kept kU.out⟩); (have hsub5 : Hd (SubN ts us5) := ⟨fun x hx => hsub.out x (hs5 x hx)⟩); (have hp5 : 0 < us5.length := List.length_pos_iff.2 (hn5 hne'.out)); (have h75 : us5.length ≤ 7 := by have := hul.out; omega); (clear HX2 o5 hs5 hn5 hl5); (go_wp2); (go_roundw)
            case rel => first | exact ⟨k + 1, us5, by omega, by go_num, hp5, h75, hsub5, hO5⟩ | ((repeat apply Exists.intro); exact ⟨⟨k + 1, us5, by omega, by go_num, hp5, h75, hsub5, hO5⟩, rfl⟩)
            case measure => simp [intOf]; omega
      · (have hu1i : ¬ (1 : Int) < (ul : Int) := by omega); (have hu1d : decide ((1 : Int) < (ul : Int)) = false := decide_eq_false hu1i); (obtain rfl : ul = 1 := by omega); (have i1 : ((1 : Nat) : Int) = 1 := rfl); (clear HMX HMN HX); (try rw [i1]); (have hc0 := hc0.out); (have kF := hid (k01.out.trans' kU.out)); (go_wp2); (go_ret2); (first | exact ⟨x0, .bool false, rfl, hm0.out, kF.out⟩ | exact ⟨x0, ⟨.bool false, rfl⟩, hm0.out, kF.out⟩)
    · (have hk1 : ¬ (k : Int) < (en : Int) := by omega); (have hkd : decide ((k : Int) < (en : Int)) = false := decide_eq_false hk1); (clear HX)
      by_cases hu1 : 1 < ul
      · (skip); (have hu2 : ¬ (ul : Int) = 1 := by omega); (have hu3 : ((ul : Int) == 1) = false := beq_eq_false_iff_ne.2 hu2)
        cases least with
        | true =>
          (go_wp2_with fail); (with_reducible refine HMX.out.mono ?_); (rintro e w5 ⟨x, rfl, hx, k5⟩); (have hx' := hid (hsub.out x hx)); (have kF := hid (k01.out.trans' (kU.out.trans' k5))); (clear HMX HMN k5 hx); (go_wp2); (go_ret2); (first | exact ⟨x, .bool true, rfl, hx'.out, kF.out⟩ | exact ⟨x, ⟨.bool true, rfl⟩, hx'.out, kF.out⟩)
        | false =>
          (go_wp2_with fail); (with_reducible refine HMN.out.mono ?_); (rintro e w5 ⟨x, rfl, hx, k5⟩); (have hx' := hid (hsub.out x hx)); (have kF := hid (k01.out.trans' (kU.out.trans' k5))); (clear HMX HMN k5 hx); (go_wp2); (go_ret2); (first | exact ⟨x, .bool true, rfl, hx'.out, kF.out⟩ | exact ⟨x, ⟨.bool true, rfl⟩, hx'.out, kF.out⟩)
      · (obtain rfl : ul = 1 := by omega); (have i1 : ((1 : Nat) : Int) = 1 := rfl); (clear HMX HMN); (try rw [i1]); (have hc0 := hc0.out); (have kF := hid (k01.out.trans' kU.out)); (go_wp2); (go_ret2); (first | exact ⟨x0, .bool false, rfl, hm0.out, kF.out⟩ | exact ⟨x0, ⟨.bool false, rfl⟩, hm0.out, kF.out⟩)
end Go.Proofs.YtaobaaaihgahfaaGreat
