/- electionlaw31.orders, Orders (printed by gen_orders.py). -/
import Derived.Test.YtkdmlakookgolaaOrdLZ
import Derived.Test.YtkdmlakookgolaaNodMZ
import Derived.Test.YtkdmlakookgolaaCntZ
import Derived.Test.YtkdmlakookgolaaGenZ
import Derived.Test.YtkdmlakookgolaaDistZ
namespace Go.Mg
open Go.Pil
def fct : Nat → Nat
  | 0 => 1
  | m + 1 => (m + 1) * fct m
theorem fct_le : ∀ m ≤ 7, fct m ≤ 5040 := by decide
theorem lowL_len {n : Nat} (gs : List Grp) (p : List Int) : (lowL (firstV gs (flags n (rem n p))).1 (flags n (rem n p))).length ≤ (rem n p).length := by
  (unfold lowL); (rw [first_len, flags_len])
  have e : rem n p = (allC n).filter fun c => inB (flags n (rem n p)) c := by
    have : ∀ c ∈ allC n, (decide (c ∉ p)) = inB (flags n (rem n p)) c := fun c hc => by
      (rw [flags_in, decide_eq_decide]); (have h := mem_allC.1 hc); (rw [mem_rem])
      constructor
      · intro hp; exact ⟨h.1, h.2, h, hp⟩
      · rintro ⟨_, _, _, hp⟩; exact hp
    conv => lhs; unfold rem
    exact List.filter_congr this
  conv => rhs; rw [e]
  rw [← List.countP_eq_length_filter, ← List.countP_eq_length_filter]
  exact List.countP_mono_left fun x _ h => by
    rw [Bool.and_eq_true] at h; exact h.1
theorem flags_rem_set {n : Nat} {p : List Int} {c : Nat} (hc : c < n) : (flags n (rem n p)).set c false = flags n (rem n (p ++ [(c : Int)])) := by
  apply List.ext_getElem?
  (intro i); (unfold flags); (rw [List.getElem?_set])
  by_cases hi : i < n
  · by_cases hic : c = i
    · (subst hic); (rw [if_pos rfl, if_pos (by simpa using hi), List.getElem?_map, List.getElem?_range hi]); (have : (c : Int) ∉ rem n (p ++ [(c : Int)]) := fun h => (mem_rem.1 h).2 (by simp))
      simp [this]
    · (rw [if_neg hic, List.getElem?_map, List.getElem?_map, List.getElem?_range hi]); (simp only [Option.map_some])
      have : ((i : Int) ∈ rem n p) ↔ ((i : Int) ∈ rem n (p ++ [(c : Int)])) := by
        (rw [mem_rem, mem_rem, List.mem_append, List.mem_singleton]); (have : (i : Int) ≠ (c : Int) := by omega)
        constructor
        · rintro ⟨h1, h2⟩; exact ⟨h1, fun h => h.elim h2 this⟩
        · rintro ⟨h1, h2⟩; exact ⟨h1, fun h => h2 (.inl h)⟩
      simp only [this]
  · (have h1 : ((List.range n).map fun i : Nat => decide ((i : Int) ∈ rem n p))[i]? = none := List.getElem?_eq_none (by simp; omega)); (have h2 : ((List.range n).map fun i : Nat => decide ((i : Int) ∈ rem n (p ++ [(c : Int)])))[i]? = none := List.getElem?_eq_none (by simp; omega)); (rw [h1, h2])
    by_cases hci : c = i
    · omega
    · rw [if_neg hci]
theorem rem_nil (n : Nat) : rem n [] = allC n := by unfold rem; simp
end Go.Mg
namespace Go.Proofs.Ytkdmlakookgolaa
open Go.RowKit Go.Mk Go.Pil Go.Mg
theorem TBools : ElemT Try.prog 83 4 1 1 := .mk' (z := .bool false) (by kernel_rfl) (by kernel_rfl) (by kernel_rfl) (by decide)
theorem T_one (bs : List Bool) : ∀ u ∈ bs.map Value.bool, u.oneCell' = true := fun u hu => by
  obtain ⟨b, _, rfl⟩ := List.mem_map.1 hu; rfl
/-- More rows at once. -/
theorem OwL.adds {w w0 w1 w2 : World} {v v' u : Value} {bs cs : List (List Int × Value)} (h : OwL w w0 v bs) (h' : OwL w0 w1 u cs)
    (ho : w2.ownsRow 0 40 1 v' (bs.length + cs.length) (bs.map (·.2) ++ cs.map (·.2))) (hk : Kept (ob v) w1 w2) (hv : NewOr w1 v v') : OwL w w2 v' (bs ++ cs) := by
  (have h1 := h.keptNo h'.kept); (refine ⟨by rw [List.length_append, List.map_append]; exact ho, fun x hx => ?_, h1.new.kept h1.kept hk, h1.new.step hv h1.kept.size⟩)
  rcases List.mem_append.1 hx with hx | hx
  · exact hk.ownsRow (h1.rows x hx) fun j hj hv => own_own (h1.rows x hx) h1.own int_ne_ints j hj hv
  · exact hk.ownsRow (h'.rows x hx) fun j hj hv => own_own (h'.rows x hx) h1.own int_ne_ints j hj hv
def POrd {Sl : Nat → Nat → Prop} (w0 : World) (n : Nat) (gs : List Grp) (bs : List (List Int × Value)) (B : Nat) : Pr Sl := soft (fun v w => ∃ cs, OwL w0 w v (bs ++ cs) ∧ (∀ x ∈ cs, Ord n gs x.1) ∧ cs.length ≤ B) fun _ _ _ ⟨cs, h1, h2, h3⟩ k => ⟨cs, h1.keptNo k, h2, h3⟩
def POrdN {Sl : Nat → Nat → Prop} (w0 : World) (n : Nat) (gs : List Grp) (B : Nat) : Pr Sl := soft (fun v w => ∃ w1, Kept no w0 w1 ∧ ∃ cs, OwL w1 w v cs ∧ (∀ x ∈ cs, Ord n gs x.1) ∧ cs.length ≤ B) fun _ _ _ ⟨w1, h0, cs, h1, h2, h3⟩ k => ⟨w1, h0, cs, h1.keptNo k, h2, h3⟩
set_option maxRecDepth 100000 in
set_option maxHeartbeats 4000000 in
theorem orders_any (n : Nat) (hn1 : 1 ≤ n) (hn : n ≤ 7) (v : Value) (ps : List (Grp × Value)) (hp7 : isPile 7 (grps ps) = true) : ∀ (m : Nat) (p : List Int) (vb vr : Value) (w : World), PreO n (grps ps) p → p.length + m = n → RdG w v ps → w.ownsRow 0 3 1 vb p.length (p.map Z) → RdT w vr (flags n (rem n p)) →
    Calls Try.prog 92 #[.int .i64 (n : Int), v, vr, vb] w fun e w' => ∃ v' qs, e = .returned v' ∧ OwL w w' v' qs ∧ (∀ x ∈ qs, Ord n (grps ps) x.1) ∧ qs.length ≤ fct m
  | 0, p, vb, vr, w, hP, hm, hr, hb, hf => by
    (have hO := preO_ord hP (by omega)); (obtain ⟨_, ab, cb, rfl, _⟩ := Rd.of_own hb); (have hpl : p.length = n := by omega); (have hpi : (p.length : Int) = (n : Int) := by omega)
    have hL : Hd (OwL w (w.alloc (.cells #[.slice ab p.length cb] 40)) (.slice (some ⟨w.heap.size, 0, none⟩) 1 1) [(p, .slice ab p.length cb)]) := ⟨by
      (have k := (Kept.refl no w).alloc (.cells #[.slice ab p.length cb] 40)); (refine ⟨⟨rfl, .inr ⟨w.heap.size, 1, #[.slice ab p.length cb], rfl, Nat.zero_le _, heap_alloc_new _ _, Nat.le_refl _, by decide, rfl, rfl⟩⟩, fun x hx => ?_, k, .inr ⟨_, rfl, Nat.le_refl _⟩⟩); (obtain rfl := List.mem_singleton.1 hx)
      exact k.ownsRow hb fun _ _ => id⟩
    (obtain ⟨ag, cg, rfl, _, _⟩ := hr.shape); (replace hO := hid hO); (rw [hpl] at hL ⊢); (clear hr hf hb hP hm)
    go_enter Try.func92, Try.ntmps92
    (go_wp2); (go_ret); (exact ⟨_, _, rfl, hL.out, fun x hx => by rw [List.mem_singleton.1 hx]; exact hO.out, Nat.le_refl _⟩)
  | m + 1, p, vb, vr, w, hP, hm, hr, hb, hf => by
    (obtain ⟨ag, cg, rfl, _, _⟩ := hr.shape); (obtain ⟨_, ab, cb, rfl, _⟩ := Rd.of_own hb); (obtain ⟨ar, cr, rfl, _, _⟩ := Rd.shape2 hf); (have hpi : ¬ (p.length : Int) = (n : Int) := by omega); (have hpd : decide ((p.length : Int) = (n : Int)) = false := decide_eq_false hpi); (have hpe : ((p.length : Int) == (n : Int)) = false := by rw [beq_eq_false_iff_ne]; omega); (have HF := reffirst_any (.slice ag ps.length cg) (.slice ar (flags n (rem n p)).length cr) ps _ w hr hf); (rw [first_firstV hp7 hn] at HF); (replace HF := hid HF); (rw [flags_len] at HF ⊢); (replace hr := hid hr); (replace hb := hid hb); (have hf' : Hd (RdT w (.slice ar n cr) (flags n (rem n p))) := ⟨by rw [flags_len] at hf; exact hf⟩); (clear hf)
    go_enter Try.func92, Try.ntmps92
    (go_wp2_with fail); (with_reducible refine HF.out.mono ?_); (rintro e w1 ⟨vv, rfl, ov⟩); (have HL := hid (lowest_any vv (.slice ar n cr) _ _ w1 (by rw [first_len, flags_len]; exact hn) ov.rd (hf'.out.kept ov.kept))); (have hLm := hid (lowL_rem (n := n) (grps ps) p)); (have hLl := lowL_len (n := n) (grps ps) p); (have hrl := preO_len hP); (obtain ⟨L, hLe⟩ : ∃ L, lowL (firstV (grps ps) (flags n (rem n p))).1 (flags n (rem n p)) = L := ⟨_, rfl⟩); (rw [hLe] at HL hLm hLl); (obtain ⟨_, av, cv, rfl, _⟩ := Rd.of_own ov.own); (have k1 := hid ov.kept); (replace hP := hid hP); (clear HF ov hLe); (go_wp2_with fail); (with_reducible refine HL.out.mono ?_); (rintro e w2 ⟨vl, rfl, ol⟩); (have k2 := hid (k1.out.trans' ol.kept)); (obtain ⟨_, al, cl, rfl, _⟩ := Rd.of_own ol.own); (have hlr := hid ol.rd); (obtain ⟨lL, hlL⟩ : ∃ l, L.length = l := ⟨_, rfl⟩); (rw [hlL] at hLl hlr ⊢); (replace hlL := hid hlL); (have hlm : lL ≤ m + 1 := by omega); (have hpn : p.length < n := by omega); (have hf7 := fct_le m (by omega))
    have IH := hid (fun (c : Nat) (hc : PreO n (grps ps) (p ++ [(c : Int)])) (vb vr : Value) (W : World) (k : Kept no w W) (hb : W.ownsRow 0 3 1 vb (p ++ [(c : Int)]).length ((p ++ [(c : Int)]).map Z)) (hf : RdT W vr (flags n (rem n (p ++ [(c : Int)])))) =>
      orders_any n hn1 hn (.slice ag ps.length cg) ps hp7 m (p ++ [(c : Int)]) vb vr W hc (by rw [List.length_append, List.length_singleton]; omega) (hr.out.kept k) hb hf)
    (clear HL ol k1 hrl); (go_wp2)
    go_loopw [12, 13] (fun out i wr => ∃ (k : Nat) (qs : List (List Int × Value)), k ≤ lL ∧ i = .int .i64 (k : Int) ∧ Hd (qs.length ≤ k * fct m) ∧ Hd (∀ x ∈ qs, Ord n (grps ps) x.1) ∧ Hd (OwL w2 wr out qs)) (fun _ i _ => lL - (intOf i).toNat)
    case atStart => exact ⟨0, [], by omega, rfl, ⟨by simp⟩, ⟨fun x hx => by cases hx⟩, ⟨OwL.nil w2⟩⟩
    case round =>
      obtain ⟨k, qs, hk, rfl, hql, hqo, hO⟩ := hrel
      by_cases hlt : k < lL
      · (have hk1 : (k : Int) < (lL : Int) := by omega); (have hk0 : (0 : Int) ≤ (k : Int) := by omega); (have hWr := hid (k2.out.trans' hO.out.kept)); (obtain ⟨bl, ol, rfl, hlc⟩ := (hlr.out.kept hO.out.kept).at k (by rw [hlL.out]; exact hlt)); (have hcm := hLm.out _ (getD_mem (show k < L.length by rw [hlL.out]; exact hlt))); (obtain ⟨z, hz⟩ : ∃ z, L.getD k 0 = z := ⟨_, rfl⟩); (rw [hz] at hlc hcm); (have hcr := (mem_rem.1 hcm.1).1); (obtain ⟨c, rfl⟩ : ∃ c : Nat, z = (c : Int) := ⟨z.toNat, by omega⟩); (have hcn : c < n := by omega); (have hPc := hid (preO_more hP.out hcm.1 hcm.2)); (have hfr := hid (show Rd wr 1 (.slice ar n cr) n ((flags n (rem n p)).map Value.bool) from by have := hf'.out.kept hWr.out; unfold RdT at this; rwa [flags_len] at this)); (have hsz : Hd (0 + n ≤ maxLen ∧ (0 + n) * 1 ≤ 140737488355328) := ⟨by have hm : maxLen = 9223372036854775807 := rfl; omega⟩); (replace hlc := hid hlc); (clear hcm hcr hz); (go_wp2_with (at_builtin; refine wpList_append _ rfl _ _ 83 rfl 4 1 1 TBools (.slice none 0 0) 0 [] rfl (World.ownsRow_nil _ _ _ _) _ n ((flags n (rem n p)).map Value.bool) rfl hfr.out (T_one _) hsz.out.1 hsz.out.2 ?_)); (intro v14 w3 h2 h3 h4 _); (try simp only [Nat.zero_add, List.nil_append] at h2)
        obtain ⟨g14, c14, rfl⟩ : ∃ g c, v14 = .slice (some ⟨g, 0, none⟩) n c := by
          obtain ⟨_, ⟨_, h0⟩ | ⟨g, cap, _, e, _⟩⟩ := h2
          · omega
          · exact ⟨g, cap, e⟩
        have k3 := hid (Kept.ob_nil h3)
        have hg14 : Hd (wr.heap.size ≤ g14) := ⟨by
          rcases h4 with h | ⟨j, hj, hl⟩
          · cases h
          · have : g14 = j := by simpa [Value.ownBlock] using hj
            omega⟩
        obtain ⟨_, ⟨hx0, _⟩ | ⟨g', c', cur, e', _, hcur, _⟩⟩ := id h2
        · cases hx0
        cases e'
        have m14 : w3.cell? ⟨g14, c, none⟩ = some (.bool ((flags n (rem n p)).getD c false)) := by
          (have := Rd.of_own h2); (have h := RdT.at (n := n) (bs := flags n (rem n p)) (show RdT w3 _ _ from by unfold RdT; rw [flags_len]; exact this) c (by rw [flags_len]; exact hcn)); (obtain ⟨b', o', e', h⟩ := h)
          cases e'; simpa using h
        (have f14 : w3.frozen? ⟨g14, c, none⟩ = false := row_free hcur c); (have hci : (c : Int) < (n : Int) := by omega); (have hc0 : (0 : Int) ≤ (c : Int) := by omega)
        have hf4 : Hd (RdT (w3.setCell ⟨g14, c, none⟩ (.bool false)) (.slice (some ⟨g14, 0, none⟩) n c14) (flags n (rem n (p ++ [(c : Int)])))) := ⟨by
          (have := own_set h2 c (.bool false)); (rw [show ((flags n (rem n p)).map Value.bool).set c (.bool false) = (flags n (rem n (p ++ [(c : Int)]))).map Value.bool from by rw [← flags_rem_set hcn, List.map_set]] at this); (unfold RdT)
          rw [flags_len]; exact Rd.of_own this⟩
        (have k4 : Hd (Kept no wr (w3.setCell ⟨g14, c, none⟩ (.bool false))) := ⟨k3.out.setCell (.inr hg14.out) _⟩); (have hlcv := k3.out.cell hlc.out id); (clear h2 h3 h4 hfr hsz hcur); (go_upto_region 11 with fail); (obtain ⟨w4, hw4⟩ : ∃ w4, w4 = w3.setCell ⟨g14, c, none⟩ (.bool false) := ⟨_, rfl⟩); (rw [← hw4]); (rw [← hw4] at hf4 k4); (have hO4 := hid (hO.out.keptNo k4.out)); (have hb4 := hid (Rd.of_own ((hWr.out.trans' k4.out).ownsRow hb.out fun _ _ => id))); (have hW4 := hid (hWr.out.trans' k4.out)); (have hlc4 := hid (k4.out.cell hlc.out id)); (have hs1 : Hd (0 + p.length ≤ maxLen ∧ (0 + p.length) * 8 ≤ 140737488355328 ∧ p.length + 1 ≤ maxLen ∧ (p.length + 1) * 8 ≤ 140737488355328) := ⟨by have hm : maxLen = 9223372036854775807 := rfl; omega⟩)
        have hql2 : Hd (∀ j, j ≤ fct m → qs.length + j ≤ maxLen ∧ (qs.length + j) * 24 ≤ 140737488355328) := ⟨fun j hj => by
          (have hm : maxLen = 9223372036854775807 := rfl); (have h1 := hql.out); (have h2 : k * fct m ≤ 8 * 5040 := Nat.mul_le_mul (by omega) hf7)
          omega⟩
        (clear hw4 m14 f14 k3 hlcv hlc hWr); (go_upto_region 11 with fail); (refine region_flow (S := (fun k => w4.drew.heap.size ≤ k ∨ ob u12 k)) (Sl := (fun j k => (j = 11 ∧ w4.drew.heap.size ≤ k) ∨ (j = 13 ∧ ob u12 k))) [Is (u12), Is (.int .i64 (n : Int)), Is (.slice ag ps.length cg), Is (.slice (some ⟨g14, 0, none⟩) n c14), Is (.slice ab p.length cb), OwNew w4 p, Is (.slice (some ⟨bl, ol, none⟩) lL cl), Is (.int .i64 (k : Int)), Is (.pointer (some ⟨bl, ol + k, none⟩)), Is (.int .i64 (c : Int)), RdIs 1 1 [.int .i64 (c : Int)], OwNew w4 (p ++ [(c : Int)]), POrdN w4 n (grps ps) (fct m), POrd w2 n (grps ps) qs (fct m), Is2 13] [11, 13] (fun j k h => h.elim (fun h => .inl h.2) (fun h => .inr h.2)) _ (by kernel_rfl) (by kernel_rfl) (by kernel_rfl) (by kernel_rfl) (fun x => by simp only [puts, Act.put, List.map_cons, List.map_nil, Nat.zero_add, Nat.reduceAdd, List.setIfInBounds_toArray, List.set_cons_zero, List.set_cons_succ]; exact rfl) ?_ ?_)
        · (skip); (refine .cons (fun x wf Kk hq hdep hold => ?_) ?_)
          · (try dsimp only); (have h14 : x 14 = u12 := hold 14 (by kernel_rfl)); (clear hq hdep hold); (simp only [h14]); (clear h14); (rw [if_pos (by rfl)]); (refine OpY.val ?_ ⟨Kept.refl _ _, rfl⟩); (first | rfl | go_simp)
          refine .cons (fun x wf Kk hq hdep hold => ?_) ?_
          · (try dsimp only); (clear hq hdep hold); (rw [if_pos (by rfl)]); (refine OpY.val ?_ ⟨Kept.refl _ _, rfl⟩); (first | rfl | go_simp)
          refine .cons (fun x wf Kk hq hdep hold => ?_) ?_
          · (try dsimp only); (clear hq hdep hold); (rw [if_pos (by rfl)]); (refine OpY.val ?_ ⟨Kept.refl _ _, rfl⟩); (first | rfl | go_simp)
          refine .cons (fun x wf Kk hq hdep hold => ?_) ?_
          · (try dsimp only); (clear hq hdep hold); (rw [if_pos (by rfl)]); (refine OpY.val ?_ ⟨Kept.refl _ _, rfl⟩); (first | rfl | go_simp)
          refine .cons (fun x wf Kk hq hdep hold => ?_) ?_
          · (try dsimp only); (clear hq hdep hold); (rw [if_pos (by rfl)]); (refine OpY.val ?_ ⟨Kept.refl _ _, rfl⟩); (first | rfl | go_simp)
          refine .cons (fun x wf Kk hq hdep hold => ?_) ?_
          · (try dsimp only); (have h4 : x 4 = _ := hdep 4 (by kernel_rfl)); (have Kq := hq no (fun j hj => by cases (show j ∈ ([] : List Nat) from by (have e : ∀ l : List Nat, l = [] → j ∈ l → j ∈ ([] : List Nat) := fun l h h2 => h ▸ h2); exact e _ (by kernel_rfl) hj))); (clear hq hdep hold); (simp only [h4]); (clear h4); (rw [if_pos (by rfl)]); (refine OpY.append (.const (.slice none 0 0)) (.tmp 48) 40 _ rfl rfl 3 1 8 TInts (.slice none 0 0) 0 [] rfl (World.ownsRow_nil _ _ _ _) (.slice ab p.length cb) p.length (p.map Z) rfl (hb4.out.keptNo Kq.undrew) (Z_oneF p) hs1.out.1 hs1.out.2.1 ?_); (intro v2 w5 h2 h3 h4 _)
            (try simp only [Nat.zero_add, List.nil_append] at h2)
            (have k5 := Kept.ob_nil h3); (refine ⟨k5, h2, Kq.undrew.trans' k5, ?_⟩)
            rcases h4 with h | ⟨j, hj, hl⟩
            · exact .inl h
            · exact .inr ⟨j, hj, Nat.le_trans Kq.undrew.size hl⟩
          refine .cons (fun x wf Kk hq hdep hold => ?_) ?_
          · (try dsimp only); (clear hq hdep hold); (rw [if_pos (by rfl)]); (refine OpY.val ?_ ⟨Kept.refl _ _, rfl⟩); (first | rfl | go_simp)
          refine .cons (fun x wf Kk hq hdep hold => ?_) ?_
          · (try dsimp only); (clear hq hdep hold); (rw [if_pos (by rfl)]); (refine OpY.val ?_ ⟨Kept.refl _ _, rfl⟩); (first | rfl | go_simp)
          refine .cons (fun x wf Kk hq hdep hold => ?_) ?_
          · (try dsimp only); (have h6 : x 6 = _ := hdep 6 (by kernel_rfl)); (have h7 : x 7 = _ := hdep 7 (by kernel_rfl)); (clear hq hdep hold); (simp only [h6, h7]); (clear h6 h7); (rw [if_pos (by rfl)]); (refine OpY.val ?_ ⟨Kept.refl _ _, rfl⟩); (first | rfl | go_simp)
          refine .cons (fun x wf Kk hq hdep hold => ?_) ?_
          · (try dsimp only); (have h8 : x 8 = _ := hdep 8 (by kernel_rfl)); (have Kq := hq no (fun j hj => by cases (show j ∈ ([] : List Nat) from by (have e : ∀ l : List Nat, l = [] → j ∈ l → j ∈ ([] : List Nat) := fun l h h2 => h ▸ h2); exact e _ (by kernel_rfl) hj))); (clear hq hdep hold); (simp only [h8]); (clear h8); (have m1 := Kq.undrew.cell hlc4.out id); (rw [if_pos (by rfl)]); (refine OpY.val ?_ ⟨Kept.refl _ _, rfl⟩); (first | rfl | go_simp)
          refine .cons (fun x wf Kk hq hdep hold => ?_) ?_
          · (try dsimp only); (have h9 : x 9 = _ := hdep 9 (by kernel_rfl)); (clear hq hdep hold); (simp only [h9]); (clear h9); (rw [if_pos (by rfl)]); (refine OpY.build 40 3 1 _ rfl 1 (.int .i64 0) Try.underlying40 infI (by decide) (by decide) [.int .i64 (c : Int)] [(0, .int .i64 (c : Int))] rfl (fill_rows 1 (by decide) (.int .i64 0) [.int .i64 (c : Int)] (fun v hv => by obtain rfl := List.mem_singleton.1 hv; rfl)) rfl (by decide) ?_); (intro w' hg k ho); (exact ⟨k, Rd.of_own ho⟩)
          refine .cons (fun x wf Kk hq hdep hold => ?_) ?_
          · (try dsimp only); (have p5 : Pr.p (Sl := (fun j k => (j = 11 ∧ w4.drew.heap.size ≤ k) ∨ (j = 13 ∧ ob u12 k))) (OwNew w4 p) (x 5) wf := hdep 5 (by kernel_rfl)); (have p10 : Pr.p (Sl := (fun j k => (j = 11 ∧ w4.drew.heap.size ≤ k) ∨ (j = 13 ∧ ob u12 k))) (RdIs 1 1 [.int .i64 (c : Int)]) (x 10) wf := hdep 10 (by kernel_rfl)); (clear hq hdep hold); (rw [if_pos (by rfl)]); (refine OpY.append (.tmp 49) (.tmp 54) 40 _ rfl rfl 3 1 8 TInts (x 5) _ _ rfl p5.own (x 10) 1 [.int .i64 (c : Int)] rfl p10 (fun u hu => by obtain rfl := List.mem_singleton.1 hu; rfl) hs1.out.2.2.1 hs1.out.2.2.2 ?_); (intro v2 w5 h2 h3 h4 _); (exact ⟨h3.mono fun k _ e => Or.inl ⟨by trivial, p5.new.fr (Nat.le_refl _) k e⟩, p5.add (c : Int) h2 h3 h4⟩)
          refine .cons (fun x wf Kk hq hdep hold => ?_) ?_
          · (try dsimp only); (have h1 : x 1 = _ := hdep 1 (by kernel_rfl)); (have h2 : x 2 = _ := hdep 2 (by kernel_rfl)); (have h3 : x 3 = _ := hdep 3 (by kernel_rfl)); (have p11 : Pr.p (Sl := (fun j k => (j = 11 ∧ w4.drew.heap.size ≤ k) ∨ (j = 13 ∧ ob u12 k))) (OwNew w4 (p ++ [(c : Int)])) (x 11) wf := hdep 11 (by kernel_rfl)); (have Kq := hq (fun k => w4.drew.heap.size ≤ k) (fun j hj k hk => by (have e : ∀ l : List Nat, l = [11] → j ∈ l → j ∈ ([11] : List Nat) := fun l h h2 => h ▸ h2); have hj := e _ (by kernel_rfl) hj; obtain rfl := List.mem_singleton.1 hj; rcases hk with h | h; exact h.2; exact absurd h.1 (by decide))); (clear hq hdep hold); (simp only [h1, h2, h3]); (clear h1 h2 h3); (rw [if_pos (by rfl)]); (have kf := (Kept.fresh Kq).undrew); (refine OpY.call (f := 92) (args := #[(.int .i64 (n : Int)), (.slice ag ps.length cg), (.slice (some ⟨g14, 0, none⟩) n c14), x 11]) (by go_simp) ?_); (refine (IH.out c hPc.out _ _ wf (hW4.out.trans' kf) p11.own (hf4.out.kept kf)).mono ?_); (rintro e w5 ⟨v2, cs, rfl, o2, h2, h3⟩); (exact ⟨_, rfl, o2.kept, wf, kf, cs, o2, h2, h3⟩)
          refine .cons (fun x wf Kk hq hdep hold => ?_) ?_
          · (try dsimp only); (have h0 : x 0 = _ := hdep 0 (by kernel_rfl)); (have p12 : Pr.p (Sl := (fun j k => (j = 11 ∧ w4.drew.heap.size ≤ k) ∨ (j = 13 ∧ ob u12 k))) (POrdN w4 n (grps ps) (fct m)) (x 12) wf := hdep 12 (by kernel_rfl)); (clear hq hdep hold); (simp only [h0]); (clear h0); (rw [if_pos (by rfl)]); (obtain ⟨w1, kw, cs, o2, h2, h3⟩ := p12); (have ho := (hO4.out.keptNo kw).keptNo o2.kept); (refine OpY.append (.tmp 44) (.tmp 56) 26 _ rfl rfl 40 1 24 TBals u12 _ _ rfl ho.own (x 12) cs.length (cs.map (·.2)) rfl (Rd.of_own o2.own) (bals_one cs wf (fun x hx => own_RdZ (o2.rows x hx))) (hql2.out _ h3).1 (hql2.out _ h3).2 ?_); (intro v2 w5 h4 h5 h6 _); (exact ⟨h5.mono fun k _ e => Or.inr ⟨by trivial, e⟩, cs, (hO4.out.keptNo kw).adds o2 h4 h5 h6, h2, h3⟩)
          refine .cons (fun x wf Kk hq hdep hold => ?_) ?_
          · (try dsimp only); (have p13 : Pr.p (Sl := (fun j k => (j = 11 ∧ w4.drew.heap.size ≤ k) ∨ (j = 13 ∧ ob u12 k))) (POrd w2 n (grps ps) qs (fct m)) (x 13) wf := hdep 13 (by kernel_rfl)); (clear hq hdep hold); (rw [if_pos (by rfl)]); (refine OpY.val (v := x 13) rfl ⟨Kept.refl _ _, rfl⟩)
          exact .nil _
        · (intro x wf Kk hv); (try dsimp only); (have p13 : Pr.p (Sl := (fun j k => (j = 11 ∧ w4.drew.heap.size ≤ k) ∨ (j = 13 ∧ ob u12 k))) (POrd w2 n (grps ps) qs (fct m)) (x 13) wf := hv 13 (by kernel_rfl)); (have p14 : Pr.r (Sl := (fun j k => (j = 11 ∧ w4.drew.heap.size ≤ k) ∨ (j = 13 ∧ ob u12 k))) (Is2 13) (x 13) (x 14) wf := hv 14 (by kernel_rfl)); (clear hv); (obtain ⟨cs, hO5, ho5, hl5⟩ := p13); (have eA : x 14 = x 13 := p14); (simp only [eA]); (have hO6 := hid hO5); (generalize x 13 = v' at hO6 ⊢)
          have hq6 : Hd (∀ x ∈ qs ++ cs, Ord n (grps ps) x.1) := ⟨fun x hx => by
            rcases List.mem_append.1 hx with hx | hx
            · exact hqo.out x hx
            · exact ho5 x hx⟩
          (have hl6 : Hd ((qs ++ cs).length ≤ (k + 1) * fct m) := ⟨by rw [List.length_append, Nat.succ_mul]; have := hql.out; omega⟩); (clear eA p14 hO5 ho5 hl5 hO hO4 hqo hql hql2 hs1 hb4 hlc4 hf4 k4 hPc Kk hW4); (go_wp2); (go_roundw)
          case rel => first | exact ⟨k + 1, _, by omega, by go_num, hl6, hq6, hO6⟩ | ((repeat apply Exists.intro); exact ⟨⟨k + 1, _, by omega, by go_num, hl6, hq6, hO6⟩, rfl⟩)
          case measure => simp [intOf]; omega
      · (obtain rfl : lL = k := by omega); (have hk1 : ¬ (lL : Int) < (lL : Int) := by omega); (have hend : Hd (qs.length ≤ fct (m + 1)) := ⟨Nat.le_trans hql.out (Nat.mul_le_mul_right _ hlm)⟩); (have hO2 : Hd (OwL w wr u12 qs) := ⟨⟨hO.out.own, hO.out.rows, k2.out.trans' hO.out.kept, hO.out.new.of k2.out.size⟩⟩); (clear hO hql); (go_wp2); (go_ret); (first | exact ⟨_, qs, rfl, hO2.out, hqo.out, hend.out⟩ | exact ⟨_, rfl, qs, hO2.out, hqo.out, hend.out⟩ | exact ⟨_, rfl, qs, hO2.out, fun a b h => hqo.out (a, b) h, hend.out⟩ | exact ⟨_, qs, rfl, hO2.out, fun a b h => hqo.out (a, b) h, hend.out⟩)
set_option maxRecDepth 20000 in
set_option maxHeartbeats 1000000 in
theorem ordersall_any (n : Nat) (hn1 : 1 ≤ n) (hn : n ≤ 7) (v : Value) (ps : List (Grp × Value)) (hp7 : isPile 7 (grps ps) = true) (w : World) (hr : RdG w v ps) :
    Calls Try.prog 48 #[.int .i64 (n : Int), v] w fun e w' => ∃ v' qs, e = .returned v' ∧ RdB w' v' qs ∧ (∀ x ∈ qs, Ord n (grps ps) x.1) ∧ qs.length ≤ 5040 ∧ Kept no w w' := by
  (obtain ⟨ag, cg, rfl, _, _⟩ := hr.shape); (have HA := hid (all24_any n w hn)); (replace hr := hid hr)
  go_enter Try.func48, Try.ntmps48
  (go_wp2_with fail); (with_reducible refine HA.out.mono ?_); (rintro e w1 ⟨vf, rfl, hf, k1⟩); (have HO := hid (orders_any n hn1 hn (.slice ag ps.length cg) ps hp7 n [] (.slice none 0 0) vf w1 (preO_nil n (grps ps)) (by simp) (hr.out.kept k1) (World.ownsRow_nil _ _ _ _) (by rw [rem_nil]; exact hf))); (replace k1 := hid k1); (clear HA hf); (go_wp2_with fail); (with_reducible refine HO.out.mono ?_); (rintro e w2 ⟨v2, qs, rfl, o2, ho, hl⟩); (have hB := hid o2.rd); (have k2 := hid (k1.out.trans' o2.kept)); (have hl2 := hid (Nat.le_trans hl (fct_le n hn))); (have ho2 := hid ho); (clear HO o2 ho hl k1); (go_wp2); (go_ret); (first | exact ⟨_, qs, rfl, hB.out, ho2.out, hl2.out, k2.out⟩ | exact ⟨_, rfl, qs, hB.out, ho2.out, hl2.out, k2.out⟩ | exact ⟨_, rfl, qs, hB.out, fun a b h => ho2.out (a, b) h, hl2.out, k2.out⟩)
end Go.Proofs.Ytkdmlakookgolaa
