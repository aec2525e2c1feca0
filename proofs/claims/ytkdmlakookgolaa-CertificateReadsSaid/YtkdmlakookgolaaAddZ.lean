/- electionref24.Add. -/
import Derived.Test.YtkdmlakookgolaaValZ
namespace Go.Proofs.Ytkdmlakookgolaa
open Go.RowKit Go.Mk Go.Pil
theorem grps_append (a b : List (Grp × Value)) : grps (a ++ b) = grps a ++ grps b := by simp [grps]
theorem flatG_append (a b : List (Grp × Value)) : flatG (a ++ b) = flatG a ++ flatG b := by simp [flatG]
theorem flatG_one (x : Grp × Value) : flatG [x] = grpC x := by simp [flatG]
theorem own_RdG {w : World} {v : Value} {qs : List (Grp × Value)} (h : w.ownsRow 0 74 2 v qs.length (flatG qs)) (hp : ∀ x ∈ qs, RdZ w x.2 x.1.p) : RdG w v qs := ⟨hp, Rd.of_own h⟩
/-- A list of groups of its own, whose preferences are those of an older world. -/
structure OwG (w w' : World) (v : Value) (qs : List (Grp × Value)) : Prop where
  own : w'.ownsRow 0 74 2 v qs.length (flatG qs)
  old : ∀ x ∈ qs, RdZ w x.2 x.1.p
  kept : Kept no w w'
  new : New w v
theorem OwG.rd {w w' : World} {v : Value} {qs : List (Grp × Value)} (h : OwG w w' v qs) : RdG w' v qs := own_RdG h.own fun x hx => (h.old x hx).kept h.kept
theorem OwG.keptNo {w w' w2 : World} {v : Value} {qs : List (Grp × Value)} (h : OwG w w' v qs) (k : Kept no w' w2) : OwG w w2 v qs := ⟨k.ownsRow h.own fun _ _ => id, h.old, h.kept.trans' k, h.new⟩
theorem OwG.nil (w : World) : OwG w w (.slice none 0 0) [] := ⟨World.ownsRow_nil _ _ _ _, (fun x hx => by cases hx), Kept.refl _ _, .inl rfl⟩
theorem OwG.add {w w1 w2 : World} {v v' : Value} {qs : List (Grp × Value)} (h : OwG w w1 v qs) (g : Grp) (u : Value) (hu : RdZ w u g.p) (ho : w2.ownsRow 0 74 2 v' (qs.length + 1) (flatG qs ++ [u, .int .i64 g.n])) (hk : Kept (ob v) w1 w2) (hn : NewOr w1 v v') : OwG w w2 v' (qs ++ [(g, u)]) :=
  ⟨by rw [List.length_append, flatG_append, flatG_one]; exact ho, (fun x hx => by
    rcases List.mem_append.1 hx with hx | hx
    · exact h.old x hx
    · obtain rfl : x = (g, u) := by simpa using hx
      exact hu), h.new.kept h.kept hk, h.new.step hn h.kept.size⟩
theorem RdZ.one {w : World} {v : Value} {zs : List Int} (h : RdZ w v zs) : v.oneCell' = true := by
  obtain ⟨_, _, _, rfl, _⟩ := h; rfl
def small (ps : List (Grp × Value)) : Prop := ps.length ≤ 1000000 ∧ ∀ x ∈ ps, -1000000 ≤ x.1.n ∧ x.1.n ≤ 1000000
set_option maxRecDepth 100000 in
set_option maxHeartbeats 2000000 in
theorem refadd_any (v vp : Value) (ps : List (Grp × Value)) (p : List Int) (K : Int) (w : World) (hr : RdG w v ps) (hp : RdZ w vp p) (hs : small ps) (hK : -1000000 ≤ K ∧ K ≤ 1000000) :
    Calls Try.prog 90 #[v, vp, .int .i64 K] w fun e w' => ∃ v' qs, e = .returned v' ∧ OwG w w' v' qs ∧ grps qs = addG (grps ps) p K := by
  (obtain ⟨ao, cap, rfl, hcap, hcm⟩ := hr.shape); (obtain ⟨ap, cp, rfl, _, _⟩ := Rd.shape2 hp); (obtain ⟨lp, hlp⟩ : ∃ lp, p.length = lp := ⟨_, rfl⟩); (rw [hlp] at hp ⊢); (replace hlp := hid hlp); (have hm63 := maxLen_63); (obtain ⟨hs1, hs2⟩ := hs); (obtain ⟨hK1, hK2⟩ := hK); (replace hr := hid hr); (replace hp := hid hp); (replace hs2 := hid hs2); (obtain ⟨len, hlen⟩ : ∃ len, ps.length = len := ⟨_, rfl⟩); (rw [hlen] at hr hcap hs1 ⊢); (replace hlen := hid hlen)
  go_enter Try.func90, Try.ntmps90
  go_wp2
  go_loopw [7, 8, 9] (fun out d i wr => ∃ (k : Nat) (done : Bool) (qs : List (Grp × Value)), k ≤ len ∧ i = .int .i64 (k : Int) ∧ d = .bool done ∧ Hd (qs.length ≤ k + if done = true then 1 else 0) ∧ Hd (OwG w wr out qs) ∧ Hd (addG (grps ps) p K = grps qs ++ if done = true then (grps ps).drop k else addG ((grps ps).drop k) p K)) (fun _ _ i _ => len - (intOf i).toNat)
  case atStart => exact ⟨0, false, [], by omega, rfl, rfl, ⟨by simp⟩, ⟨OwG.nil w⟩, ⟨by simp [grps]⟩⟩
  case round =>
    obtain ⟨k, done, qs, hk, rfl, rfl, hql, hO, hA⟩ := hrel
    by_cases hlt : k < len
    · (have hk1 : (k : Int) < (len : Int) := by omega); (have hk0 : (0 : Int) ≤ (k : Int) := by omega); (obtain ⟨b, o, g, vg, rfl, hel, c0, c1, hz⟩ := (hr.out.kept hO.out.kept).at k (by rw [hlen.out]; exact hlt)); (have hz0 : RdZ w vg g.p := by have := hr.out.1 _ (List.getElem_mem (show k < ps.length by rw [hlen.out]; exact hlt)); rwa [hel] at this); (have hgn := hs2.out _ (List.getElem_mem (show k < ps.length by rw [hlen.out]; exact hlt))); (rw [hel] at hgn); (have hgk := grps_get _ hel)
      have hdr : Hd ((grps ps).drop k = g :: (grps ps).drop (k + 1)) := ⟨by
        obtain ⟨h1, h2⟩ := List.getElem?_eq_some_iff.1 hgk
        rw [List.drop_eq_getElem_cons h1, h2]⟩
      (obtain ⟨av, cv, rfl, _, _⟩ := Rd.shape2 hz); (obtain ⟨lv, hlv⟩ : ∃ lv, g.p.length = lv := ⟨_, rfl⟩); (rw [hlv] at c0 hz hz0); (obtain ⟨N, hN⟩ : ∃ N, g.n = N := ⟨_, rfl⟩); (simp only at hgn); (rw [hN] at c1 hgn); (obtain ⟨hg1, hg2⟩ := hgn); (replace hN := hid hN); (replace hz := hid hz); (replace hz0 := hid hz0); (replace hlv := hid hlv); (clear hel hgk); (go_upto_region 7 with fail); (obtain ⟨w1, hw1, g1, k1⟩ := alloc_named wr (.cells #[.slice av lv cv, .int .i64 N] 74)); (rw [← hw1]); (have d0 : w1.cell? ⟨wr.heap.size, 0, none⟩ = some (.slice av lv cv) := by rw [cell_of_row w1 _ 0 _ _ _ g1]; rfl); (have d1 : w1.cell? ⟨wr.heap.size, 1, none⟩ = some (.int .i64 N) := by rw [cell_of_row w1 _ 1 _ _ _ g1]; rfl); (have hO1 := hid (hO.out.keptNo k1)); (have hbq : Hd (wr.heap.size < w1.heap.size ∧ ¬ ob u7 wr.heap.size) := ⟨lt_of_heap g1, fun h => by have := own_lt hO.out.own _ h; omega⟩); (replace k1 := hid k1); (generalize wr.heap.size = q at d0 d1 hbq); (clear hw1 g1 hO c0 c1); (have hb1 : ∀ (qs : List (Grp × Value)), Hd (qs.length ≤ k + 1) → qs.length + 1 ≤ maxLen ∧ (qs.length + 1) * 32 ≤ 140737488355328 := fun qs h => by have := h.out; have hm : maxLen = 9223372036854775807 := rfl; omega); (replace hb1 := hid hb1)
      cases done with
      | true =>
        (rw [if_pos rfl] at hql); (have hA2 : Hd (addG (grps ps) p K = grps (qs ++ [((g, Value.slice av lv cv) : Grp × Value)]) ++ if true = true then (grps ps).drop (k + 1) else addG ((grps ps).drop (k + 1)) p K) := ⟨by rw [hA.out, if_pos rfl, if_pos rfl, hdr.out, grps_append]; simp [grps]⟩); (clear hA hdr); (go_wp2_with (at_builtin; refine wpList_append_lit _ rfl _ _ 22 rfl 74 2 32 TGrps _ _ _ rfl hO1.out.own 1 [_, _] rfl rfl ?c1 ?c2 ?c3 ?_))
        case c1 => simp [Value.oneCell']
        case c2 => exact (hb1.out qs hql).1
        case c3 => exact (hb1.out qs hql).2
        (intro v' w2 h2 h3 h4 _); (have hO2 := hid (hO1.out.add g (.slice av lv cv) (by have := hz0.out; exact this) (by rw [hN.out]; exact h2) h3 h4)); (have hq2 : Hd ((qs ++ [((g, Value.slice av lv cv) : Grp × Value)]).length ≤ k + 1 + if true = true then 1 else 0) := ⟨by have := hql.out; rw [List.length_append, if_pos rfl]; simp only [List.length_singleton]; omega⟩); (clear h2 h3 h4 hO1 hql d0 d1); (go_wp2); (go_roundw)
        case rel => first | exact ⟨k + 1, true, _, by omega, by go_num, rfl, hq2, hO2, hA2⟩ | ((repeat apply Exists.intro); exact ⟨⟨k + 1, true, _, by omega, by go_num, rfl, hq2, hO2, hA2⟩, rfl⟩)
        case measure => simp [intOf]; omega
      | false =>
        (have hql0 := hid hql.out); (replace hql : Hd (qs.length ≤ k + 1) := ⟨by have := hql.out; rw [if_neg (by decide)] at this; omega⟩); (rw [if_neg (by decide), Nat.add_zero] at hql0); (have HL := less_any (.slice av lv cv) (.slice ap lp cp) g.p p w1 (hz.out.kept k1.out) (hp.out.kept (hO1.out.kept))); (have hd := hA.out); (rw [if_neg (by decide), hdr.out] at hd); (simp only [addG] at hd); (go_wp2_with fail); (refine HL.mono ?_); (rintro e w2 ⟨rfl, k2⟩); (have d0' := k2.kept.cell d0 id); (have d1' := k2.kept.cell d1 id); (have hO2' := hid (hO1.out.keptNo k2.kept)); (have hq0 : Hd (q < w2.heap.size) := ⟨Nat.lt_of_lt_of_le hbq.out.1 k2.kept.size⟩); (have k12 := hid (k1.out.trans' k2.kept)); (clear d0 d1 hO1 hA hdr HL k2 k1)
        cases hl : lt g.p p with
        | true =>
          (rw [if_pos hl] at hd); (have hA2 : Hd (addG (grps ps) p K = grps (qs ++ [((g, Value.slice av lv cv) : Grp × Value)]) ++ if false = true then (grps ps).drop (k + 1) else addG ((grps ps).drop (k + 1)) p K) := ⟨by rw [hd, grps_append]; simp [grps]⟩); (clear hd hl); (go_wp2_with (at_builtin; refine wpList_append_lit _ rfl _ _ 22 rfl 74 2 32 TGrps _ _ _ rfl hO2'.out.own 1 [_, _] rfl rfl ?c1 ?c2 ?c3 ?_))
          case c1 => simp [Value.oneCell']
          case c2 => exact (hb1.out qs hql).1
          case c3 => exact (hb1.out qs hql).2
          (intro v' w3 h2 h3 h4 _); (have hO2 := hid (hO2'.out.add g (.slice av lv cv) hz0.out (by rw [hN.out]; exact h2) h3 h4)); (have hq2 : Hd ((qs ++ [((g, Value.slice av lv cv) : Grp × Value)]).length ≤ k + 1 + if false = true then 1 else 0) := ⟨by have := hql0.out; rw [List.length_append, if_neg (by decide)]; simp only [List.length_singleton]; omega⟩); (clear h2 h3 h4 hO2' hql hql0 d0' d1'); (go_wp2); (go_roundw)
          case rel => first | exact ⟨k + 1, false, _, by omega, by go_num, rfl, hq2, hO2, hA2⟩ | ((repeat apply Exists.intro); exact ⟨⟨k + 1, false, _, by omega, by go_num, rfl, hq2, hO2, hA2⟩, rfl⟩)
          case measure => simp [intOf]; omega
        | false =>
          (rw [if_neg (by rw [hl]; decide)] at hd); (have HE := eqz_any (.slice av lv cv) (.slice ap lp cp) g.p p w2 (hz.out.kept k12.out) (hp.out.kept hO2'.out.kept)); (clear hl); (go_wp2_with fail); (refine HE.mono ?_); (rintro e w3 ⟨rfl, k3⟩); (have f0 := k3.kept.cell d0' id); (have f1 := k3.kept.cell d1' id); (have hO3 := hid (hO2'.out.keptNo k3.kept)); (clear HE d0' d1' hO2' k3 hq0)
          by_cases he : g.p = p
          · (have hdc : decide (g.p = p) = true := decide_eq_true he); (rw [if_pos he] at hd); (have hNK : IntKind.i64.wrap (N + K) = N + K := IntWalk.i64_in _ (by omega)); (have hzp : Hd (RdZ w (.slice av lv cv) p) := ⟨by rw [← he]; exact hz0.out⟩); (have hA2 : Hd (addG (grps ps) p K = grps (qs ++ [((⟨p, N + K⟩, Value.slice av lv cv) : Grp × Value)]) ++ if true = true then (grps ps).drop (k + 1) else addG ((grps ps).drop (k + 1)) p K) := ⟨by rw [hd, grps_append, if_pos rfl, hN.out]; simp [grps]⟩); (clear hd he); (go_wp2_with (at_builtin; refine wpList_append_lit _ rfl _ _ 22 rfl 74 2 32 TGrps _ _ _ rfl hO3.out.own 1 [_, _] rfl rfl ?c1 ?c2 ?c3 ?_))
            case c1 => simp [Value.oneCell']
            case c2 => exact (hb1.out qs hql).1
            case c3 => exact (hb1.out qs hql).2
            (intro v' w4 h2 h3 h4 _); (have hO2 := hid (hO3.out.add ⟨p, N + K⟩ (.slice av lv cv) hzp.out h2 h3 h4)); (have hq2 : Hd ((qs ++ [((⟨p, N + K⟩, Value.slice av lv cv) : Grp × Value)]).length ≤ k + 1 + if true = true then 1 else 0) := ⟨by have := hql.out; rw [List.length_append, if_pos rfl]; simp only [List.length_singleton]; omega⟩); (clear h2 h3 h4 hO3 hql f0 f1); (go_wp2); (go_roundw)
            case rel => first | exact ⟨k + 1, true, _, by omega, by go_num, rfl, hq2, hO2, hA2⟩ | ((repeat apply Exists.intro); exact ⟨⟨k + 1, true, _, by omega, by go_num, rfl, hq2, hO2, hA2⟩, rfl⟩)
            case measure => simp [intOf]; omega
          · (have hdc : decide (g.p = p) = false := decide_eq_false he); (rw [if_neg he] at hd); (have hA2 : Hd (addG (grps ps) p K = grps ((qs ++ [((⟨p, K⟩, Value.slice ap lp cp) : Grp × Value)]) ++ [((g, Value.slice av lv cv) : Grp × Value)]) ++ if true = true then (grps ps).drop (k + 1) else addG ((grps ps).drop (k + 1)) p K) := ⟨by rw [hd, grps_append, grps_append, if_pos rfl]; simp [grps]⟩); (clear hd he); (go_wp2_with (at_builtin; refine wpList_append_lit _ rfl _ _ 22 rfl 74 2 32 TGrps _ _ _ rfl hO3.out.own 1 [_, _] rfl rfl ?c1 ?c2 ?c3 ?_))
            case c1 => simp [Value.oneCell']
            case c2 => exact (hb1.out qs hql).1
            case c3 => exact (hb1.out qs hql).2
            (intro v' w4 h2 h3 h4 _); (have hO4 := hid (hO3.out.add ⟨p, K⟩ (.slice ap lp cp) hp.out h2 h3 h4)); (have hq4 : Hd ((qs ++ [((⟨p, K⟩, Value.slice ap lp cp) : Grp × Value)]).length ≤ k + 1) := ⟨by have := hql0.out; rw [List.length_append]; simp only [List.length_singleton]; omega⟩); (have f0' := h3.cell f0 hbq.out.2); (have f1' := h3.cell f1 hbq.out.2); (clear h2 h3 h4 hO3 hql f0 f1); (go_wp2_with (at_builtin; refine wpList_append_lit _ rfl _ _ 22 rfl 74 2 32 TGrps _ _ _ rfl hO4.out.own 1 [_, _] rfl rfl ?c1 ?c2 ?c3 ?_))
            case c1 => simp [Value.oneCell']
            case c2 => exact (hb1.out _ hq4).1
            case c3 => exact (hb1.out _ hq4).2
            (intro v' w5 h2 h3 h4 _); (have hO2 := hid (hO4.out.add g (.slice av lv cv) hz0.out (by rw [hN.out, List.length_append]; exact h2) h3 h4)); (have hq2 : Hd (((qs ++ [((⟨p, K⟩, Value.slice ap lp cp) : Grp × Value)]) ++ [((g, Value.slice av lv cv) : Grp × Value)]).length ≤ k + 1 + if true = true then 1 else 0) := ⟨by have := hq4.out; rw [List.length_append, if_pos rfl]; simp only [List.length_singleton]; omega⟩); (clear h2 h3 h4 hO4 hq4 hql0 f0' f1'); (go_wp2); (go_roundw)
            case rel => first | exact ⟨k + 1, true, _, by omega, by go_num, rfl, hq2, hO2, hA2⟩ | ((repeat apply Exists.intro); exact ⟨⟨k + 1, true, _, by omega, by go_num, rfl, hq2, hO2, hA2⟩, rfl⟩)
            case measure => simp [intOf]; omega
    · (obtain rfl : k = len := by omega); (have hdn : (grps ps).drop k = [] := List.drop_of_length_le (by rw [grps_length, hlen.out]; exact Nat.le_refl _)); (have hA' := hA.out); (rw [hdn] at hA'); (have hq1 : Hd (qs.length + 1 ≤ maxLen ∧ (qs.length + 1) * 32 ≤ 140737488355328) := ⟨by have := hql.out; have hm : maxLen = 9223372036854775807 := rfl; split at this <;> omega⟩); (clear hdn hA hql)
      cases done with
      | true =>
        (have hv : Hd (grps qs = addG (grps ps) p K) := ⟨by rw [hA', if_pos rfl, List.append_nil]⟩); (clear hA'); (go_wp2); (go_ret); (exact ⟨_, qs, rfl, hO.out, hv.out⟩)
      | false =>
        (have hv : Hd (grps (qs ++ [((⟨p, K⟩, Value.slice ap lp cp) : Grp × Value)]) = addG (grps ps) p K) := ⟨by rw [hA', if_neg (by decide), grps_append]; simp [grps, addG]⟩); (clear hA'); (go_wp2_with (at_builtin; refine wpList_append_lit _ rfl _ _ 22 rfl 74 2 32 TGrps _ _ _ rfl hO.out.own 1 [_, _] rfl rfl ?c1 ?c2 ?c3 ?_))
        case c1 => simp [Value.oneCell']
        case c2 => exact hq1.out.1
        case c3 => exact hq1.out.2
        (intro v' w4 h2 h3 h4 _); (have hO4 := hid (hO.out.add ⟨p, K⟩ (.slice ap lp cp) hp.out h2 h3 h4)); (clear h2 h3 h4 hO); (go_wp2); (go_ret); (exact ⟨_, _, rfl, hO4.out, hv.out⟩)
end Go.Proofs.Ytkdmlakookgolaa

/- The laying of slices.SortFunc over groups (printed by gen_srt.py). -/

/- Sorting groups by their preferences: slices.SortFunc's contract at the closure of merge. -/

/- pile.merge (printed by gen_merge.py). -/
namespace Go.Mk
open Go.RowKit
section
variable {P : Program} {S : Nat → Prop}
theorem OpY.skipZ {o : Oper} {a : Act} {w w' : World} {R : Value → World → Prop} (h : (execOp a.eval o).run P w = .ok .skip w') (hr : R undef w') : OpY P o a w R := by
  unfold OpY; rw [h]; exact hr
end
theorem own_set {w : World} {e : TypeId} {size n cap g : Nat} {L : List Value} (h : w.ownsRow 0 e size (.slice (some ⟨g, 0, none⟩) n cap) n L) (i : Nat) (v : Value) : (w.setCell ⟨g, i, none⟩ v).ownsRow 0 e size (.slice (some ⟨g, 0, none⟩) n cap) n (L.set i v) := by
  obtain ⟨h1, ⟨h, _⟩ | ⟨g', c, cur, e', _, hg, hn, hcm, hcs, ht⟩⟩ := h
  · cases h
  · cases e'
    (refine ⟨by rw [List.length_set]; exact h1, .inr ⟨g, cap, cur.setIfInBounds i v, rfl, Nat.zero_le _, setCell_row hg i v, hn, hcm, by simp [hcs], ?_⟩⟩); (rw [Array.toList_setIfInBounds, ← ht, List.take_set])
end Go.Mk
namespace Go.Proofs.Ytkdmlakookgolaa
open Go.RowKit Go.Mk Go.Pil
def PUn {Sl : Nat → Nat → Prop} (w0 : World) (g i : Nat) (v : Value) : Pr Sl := soft (fun _ w => ∃ w1, Kept no w0 w1 ∧ Kept no (w1.setCell ⟨g, i, none⟩ v) w) fun _ _ _ ⟨w1, h1, h2⟩ k => ⟨w1, h1, h2.trans' k⟩
theorem flatG_set (qs : List (Grp × Value)) (l : Grp) (u : Value) (N : Int) : (flatG (qs ++ [(l, u)])).set (qs.length * 2 + 1) (.int .i64 N) = flatG (qs ++ [(⟨l.p, N⟩, u)]) := by
  (rw [flatG_append, flatG_append, flatG_one, flatG_one]); (have hl : (flatG qs).length = qs.length * 2 := flatLen (f := grpC) fun _ _ => rfl); (rw [List.set_append_right _ _ (by omega), hl, Nat.add_sub_cancel_left]; rfl)
theorem OwG.keptRow {w w1 w2 : World} {v : Value} {qs : List (Grp × Value)} (h : OwG w w1 v qs) (k : Kept (ob v) w1 w2) : Kept no w w2 := h.new.kept h.kept k
end Go.Proofs.Ytkdmlakookgolaa

/- Places of numbers in lists, which candidates remain, sums over groups: Place, slices.Index, in, remains, Total and Marked of both packages. -/
namespace Go.Pil
theorem tot_pre {n : Int} {l : List Grp} (h : isPile n l = true) (k : Nat) : 0 ≤ tot (l.take k) ∧ tot (l.take k) ≤ 100000 := pile_tot (pile_pre h k)
theorem idxOf_at {p : List Int} {k : Nat} {x : Int} (hk : k < p.length) (hn : x ∉ p.take k) (he : p.getD k 0 = x) : p.idxOf x = k := by
  have h1 : p = p.take k ++ x :: p.drop (k + 1) := by
    (rw [← he]); (have : p.getD k 0 = p[k] := by simp [List.getD_eq_getElem?_getD, hk]); (rw [this, ← List.drop_eq_getElem_cons hk, List.take_append_drop])
  rw [h1, List.idxOf_append, if_neg hn]
  simp; omega
def idxI (p : List Int) (x : Int) : Int := if x ∈ p then (p.idxOf x : Int) else -1
theorem pref_idx (p : List Int) (a b : Int) : pref p a b = true ↔ 0 ≤ idxI p a ∧ (idxI p b < 0 ∨ idxI p a < idxI p b) := by
  (unfold pref idxI); (rw [decide_eq_true_iff])
  by_cases ha : a ∈ p
  · (have := List.idxOf_lt_length_of_mem ha); (rw [if_pos ha])
    by_cases hb : b ∈ p
    · rw [if_pos hb]; omega
    · rw [if_neg hb, List.idxOf_eq_length hb]; omega
  · (rw [if_neg ha, List.idxOf_eq_length ha]); (have : p.idxOf b ≤ p.length := List.idxOf_le_length)
    omega
theorem sumIf_take {Q : List Int → Bool} {l : List Grp} {k : Nat} {g : Grp} (hg : l[k]? = some g) : sumIf Q (l.take (k + 1)) = sumIf Q (l.take k) + if Q g.p = true then g.n else 0 := by
  (obtain ⟨hk, hgk⟩ := List.getElem?_eq_some_iff.1 hg); (rw [List.take_succ_eq_append_getElem hk, hgk])
  simp [sumIf]
theorem sumIf_le {Q : List Int → Bool} {l : List Grp} (h : ∀ g ∈ l, 1 ≤ g.n) : 0 ≤ sumIf Q l ∧ sumIf Q l ≤ tot l := by
  induction l with
  | nil => simp [sumIf, tot]
  | cons g l ih =>
    (have := ih fun x hx => h x (by simp [hx])); (have := h g (by simp)); (rw [sumIf_cons, tot_cons])
    split <;> omega
theorem sumIf_pre {n : Int} {Q : List Int → Bool} {l : List Grp} (h : isPile n l = true) (k : Nat) : 0 ≤ sumIf Q (l.take k) ∧ sumIf Q (l.take k) ≤ 100000 := by
  (have h1 := tot_pre h k); (have h2 := sumIf_le (Q := Q) (l := l.take k) fun g hg => (((isPile_iff n l).1 h).1 g (List.mem_of_mem_take hg)).2)
  omega
theorem marked_ref (gs : List Grp) : marked gs = match gs with | [] => total gs | g :: _ => if 0 < total gs ∧ g.p = [] then total gs - g.n else total gs := by
  unfold marked total
  cases h : isPile 7 gs with
  | false => cases gs <;> simp
  | true =>
    cases gs with
    | nil => simp [sumIf, tot]
    | cons g r =>
      (have hp := (isPile_iff 7 _).1 h); (simp only [if_true])
      have hr : sumIf (fun p => !p.isEmpty) r = tot r := by
        (rw [← sumIf_all]); (refine sumIf_congr fun x hx => ?_); (have hlt := (List.pairwise_cons.1 hp.2.2).1 x hx)
        cases hxp : x.p with
        | nil => rw [hxp] at hlt; simp [lt] at hlt
        | cons a b => rfl
      (have hn := hp.1 g (by simp)); (have ht := tot_nonneg (l := r) fun x hx => (hp.1 x (by simp [hx])).2); (have hc := tot_cons g r); (rw [sumIf_cons, hr])
      cases hg : g.p with
      | nil =>
        (have e : (0 < tot (g :: r) ∧ ([] : List Int) = []) := ⟨by omega, rfl⟩); (simp only [e, and_self, if_true, List.isEmpty_nil, Bool.not_true])
        simp; omega
      | cons a b => simp; omega
end Go.Pil
namespace Go.Proofs.Ytkdmlakookgolaa
open Go.RowKit Go.Mk Go.Pil
/-- A slice of flags. -/
def RdT (w : World) (v : Value) (bs : List Bool) : Prop := Rd w 1 v bs.length (bs.map Value.bool)
theorem RdT.kept {w w' : World} {v : Value} {bs : List Bool} (h : RdT w v bs) (hk : Kept no w w') : RdT w' v bs := Rd.keptNo h hk
theorem RdT.at {w : World} {ao : Option Addr} {n cap : Nat} {bs : List Bool} (h : RdT w (.slice ao n cap) bs) (k : Nat) (hk : k < bs.length) :
    ∃ b o, ao = some ⟨b, o, none⟩ ∧ w.cell? ⟨b, o + k, none⟩ = some (.bool (bs.getD k false)) := by
  obtain ⟨_, _, _, e, h1, _, h | ⟨b, o, rfl, hc⟩⟩ := h
  · cases e; omega
  · cases e
    exact ⟨b, o, rfl, hc k _ (by simp [hk])⟩
set_option maxRecDepth 20000 in
set_option maxHeartbeats 1000000 in
theorem place_any (v : Value) (zs : List Int) (x : Int) (w : World) (hr : RdZ w v zs) : Calls Try.prog 93 #[v, .int .i64 x] w fun e w' => e = .returned (.int .i64 (zs.idxOf x : Int)) ∧ Qt w w' := by
  (obtain ⟨ao, cap, rfl, hcap, hcm⟩ := Rd.shape2 hr); (have hm63 := maxLen_63); (replace hr := hid hr)
  go_enter Try.func93, Try.ntmps93
  go_wp2
  go_loopw [5] (fun i wr => ∃ k : Nat, k ≤ zs.length ∧ i = .int .i64 (k : Int) ∧ Hd (x ∉ zs.take k) ∧ Hd (Qt w wr)) (fun i _ => zs.length - (intOf i).toNat)
  case atStart => exact ⟨0, by omega, rfl, ⟨by simp⟩, ⟨Qt.refl _⟩⟩
  case round =>
    obtain ⟨k, hk, rfl, hx, hW⟩ := hrel
    by_cases hlt : k < zs.length
    · (obtain ⟨b, o, rfl, hc⟩ := (hr.out.kept hW.out.kept).at k hlt); (have hk1 : (k : Int) < (zs.length : Int) := by omega); (have hst := hid (mem_take_succ hlt x)); (have hat := hid (fun h => idxOf_at hlt hx.out h)); (generalize zs.getD k 0 = z at hc hst hat)
      by_cases he : z = x
      · (have hb : (z == x) = true := by simpa using he); (have hv := hid (hat.out he)); (clear he hat hst); (go_wp2); (go_ret); (exact ⟨by rw [hv.out] <;> rfl, hW.out⟩)
      · (have hb : (z == x) = false := by simpa using he); (have hn : Hd (x ∉ zs.take (k + 1)) := ⟨fun h => (hst.out.1 h).elim hx.out fun e => he e.symm⟩); (clear he hst hat hx); (go_wp2); (go_roundw)
        case rel => first | exact ⟨k + 1, by omega, by go_num, hn, hW⟩ | ((repeat apply Exists.intro); exact ⟨⟨k + 1, by omega, by go_num, hn, hW⟩, rfl⟩)
        case measure => simp [intOf]; omega
    · (obtain rfl : k = zs.length := by omega); (have hv : Hd (zs.idxOf x = zs.length) := ⟨List.idxOf_eq_length (by have := hx.out; rwa [List.take_length] at this)⟩); (clear hx); (go_wp2); (go_ret); (exact ⟨by rw [hv.out] <;> rfl, hW.out⟩)
set_option maxRecDepth 20000 in
set_option maxHeartbeats 1000000 in
theorem index_any (v : Value) (zs : List Int) (x : Int) (w : World) (hr : RdZ w v zs) : Calls Try.prog 109 #[v, .int .i64 x] w fun e w' => e = .returned (.int .i64 (idxI zs x)) ∧ Qt w w' := by
  (obtain ⟨ao, cap, rfl, hcap, hcm⟩ := Rd.shape2 hr); (have hm63 := maxLen_63); (replace hr := hid hr)
  go_enter Try.func109, Try.ntmps109
  go_wp2
  go_loopw [8] (fun i wr => ∃ k : Nat, k ≤ zs.length ∧ i = .int .i64 (k : Int) ∧ Hd (x ∉ zs.take k) ∧ Hd (Qt w wr)) (fun i _ => zs.length - (intOf i).toNat)
  case atStart => exact ⟨0, by omega, rfl, ⟨by simp⟩, ⟨Qt.refl _⟩⟩
  case round =>
    obtain ⟨k, hk, rfl, hx, hW⟩ := hrel
    by_cases hlt : k < zs.length
    · (obtain ⟨b, o, rfl, hc⟩ := (hr.out.kept hW.out.kept).at k hlt); (have hk1 : (k : Int) < (zs.length : Int) := by omega); (have hst := hid (mem_take_succ hlt x)); (have hat := hid (fun h => idxOf_at hlt hx.out h)); (have hml := hid (fun h => List.mem_of_mem_take (i := k + 1) (show x ∈ zs.take (k + 1) from h))); (generalize zs.getD k 0 = z at hc hst hat)
      by_cases he : x = z
      · (have hb : (x == z) = true := by simpa using he); (have hv : Hd (idxI zs x = (k : Int)) := ⟨by unfold idxI; rw [if_pos (hml.out (hst.out.2 (.inr he))), hat.out he.symm]⟩); (clear he hat hst hml); (go_wp2); (go_ret); (exact ⟨by rw [hv.out] <;> rfl, hW.out⟩)
      · (have hb : (x == z) = false := by simpa using he); (have hn : Hd (x ∉ zs.take (k + 1)) := ⟨fun h => (hst.out.1 h).elim hx.out fun e => he e⟩); (clear he hst hat hx hml); (go_wp2); (go_roundw)
        case rel => first | exact ⟨k + 1, by omega, by go_num, hn, hW⟩ | ((repeat apply Exists.intro); exact ⟨⟨k + 1, by omega, by go_num, hn, hW⟩, rfl⟩)
        case measure => simp [intOf]; omega
    · (obtain rfl : k = zs.length := by omega); (have hv : Hd (idxI zs x = -1) := ⟨by unfold idxI; rw [if_neg (by have := hx.out; rwa [List.take_length] at this)]⟩); (clear hx); (go_wp2); (go_ret); (exact ⟨by rw [hv.out] <;> rfl, hW.out⟩)
set_option maxHeartbeats 1000000 in
theorem in_any (v : Value) (bs : List Bool) (x : Int) (w : World) (hr : RdT w v bs) : Calls Try.prog 123 #[v, .int .i64 x] w fun e w' => e = .returned (.bool (inB bs x)) ∧ w' = w := by
  (obtain ⟨ao, cap, rfl, hcap, hcm⟩ := Rd.shape2 hr); (have hm63 := maxLen_63)
  by_cases h0 : 0 ≤ x
  · (obtain ⟨c, rfl⟩ : ∃ c : Nat, x = (c : Int) := ⟨x.toNat, by omega⟩); (have hd0 : decide ((0 : Int) ≤ (c : Int)) = true := decide_eq_true h0)
    by_cases h1 : c < bs.length
    · (obtain ⟨b, o, rfl, hc⟩ := RdT.at hr c h1); (have hv : Hd (inB bs (c : Int) = bs.getD c false) := ⟨by simp [inB]⟩); (have h1' : (c : Int) < (bs.length : Int) := by omega); (have hd1 : decide ((c : Int) < (bs.length : Int)) = true := decide_eq_true h1'); (generalize bs.getD c false = r at hc hv); (clear hr)
      go_enter Try.func123, Try.ntmps123
      (go_wp2); (go_ret); (exact ⟨by rw [hv.out]; rfl, rfl⟩)
    · (have hv : Hd (inB bs (c : Int) = false) := ⟨by simp [inB, List.getD_eq_getElem?_getD, List.getElem?_eq_none (Nat.not_lt.1 h1)]⟩); (have h1' : ¬ (c : Int) < (bs.length : Int) := by omega); (have hd1 : decide ((c : Int) < (bs.length : Int)) = false := decide_eq_false h1'); (clear hr)
      go_enter Try.func123, Try.ntmps123
      (go_wp2); (go_ret); (exact ⟨by rw [hv.out]; rfl, rfl⟩)
  · (have hv : Hd (inB bs x = false) := ⟨by simp [inB, h0]⟩); (have hd0 : decide ((0 : Int) ≤ x) = false := decide_eq_false h0); (clear hr)
    go_enter Try.func123, Try.ntmps123
    (go_wp2); (go_ret); (exact ⟨by rw [hv.out]; rfl, rfl⟩)
set_option maxHeartbeats 1000000 in
theorem remains_any (v : Value) (bs : List Bool) (c : Nat) (w : World) (hr : RdT w v bs) : Calls Try.prog 100 #[v, .int .i64 (c : Int)] w fun e w' => e = .returned (.bool (inB bs (c : Int))) ∧ w' = w := by
  (obtain ⟨ao, cap, rfl, hcap, hcm⟩ := Rd.shape2 hr); (have hm63 := maxLen_63); (have h0 : (0 : Int) ≤ (c : Int) := by omega)
  by_cases h1 : c < bs.length
  · (obtain ⟨b, o, rfl, hc⟩ := RdT.at hr c h1); (have hv : Hd (inB bs (c : Int) = bs.getD c false) := ⟨by simp [inB]⟩); (have h1' : (c : Int) < (bs.length : Int) := by omega); (have hd1 : decide ((c : Int) < (bs.length : Int)) = true := decide_eq_true h1'); (generalize bs.getD c false = r at hc hv); (clear hr)
    go_enter Try.func100, Try.ntmps100
    (go_wp2); (go_ret); (exact ⟨by rw [hv.out]; rfl, rfl⟩)
  · (have hv : Hd (inB bs (c : Int) = false) := ⟨by simp [inB, List.getD_eq_getElem?_getD, List.getElem?_eq_none (Nat.not_lt.1 h1)]⟩); (have h1' : ¬ (c : Int) < (bs.length : Int) := by omega); (have hd1 : decide ((c : Int) < (bs.length : Int)) = false := decide_eq_false h1'); (clear hr)
    go_enter Try.func100, Try.ntmps100
    (go_wp2); (go_ret); (exact ⟨by rw [hv.out]; rfl, rfl⟩)
set_option maxRecDepth 20000 in
set_option maxHeartbeats 1000000 in
theorem reftotal_any (v : Value) (ps : List (Grp × Value)) (w : World) (hr : RdG w v ps) : Calls Try.prog 117 #[v] w fun e w' => e = .returned (.int .i64 (total (grps ps))) ∧ Qt w w' := by
  (obtain ⟨ao, cap, rfl, hcap, hcm⟩ := hr.shape); (have hm63 := maxLen_63); (obtain ⟨P, hP⟩ : ∃ P, isPile 7 (grps ps) = P := ⟨_, rfl⟩); (have htot : Hd (total (grps ps) = if P = true then tot (grps ps) else 0) := ⟨by unfold total; rw [hP]⟩); (have hb : Hd (∀ k, P = true → 0 ≤ tot ((grps ps).take k) ∧ tot ((grps ps).take k) ≤ 100000) := ⟨fun k h => tot_pre (n := 7) (by rw [hP, h]) k⟩); (have HP : Hd (∀ W, Qt w W → Calls Try.prog 110 #[.slice ao ps.length cap] W fun e w' => e = .returned (.bool P) ∧ Qt W w') := ⟨fun W k => by have := refpile_any _ ps W (hr.kept k.kept); rwa [hP] at this⟩); (clear hP); (replace hr := hid hr); (obtain ⟨len, hlen⟩ : ∃ len, ps.length = len := ⟨_, rfl⟩); (rw [hlen] at hr hcap HP ⊢); (replace hlen := hid hlen)
  go_enter Try.func117, Try.ntmps117
  go_wp2
  go_loopw [3, 4] (fun s i wr => ∃ (k : Nat) (T : Int), k ≤ len ∧ i = .int .i64 (k : Int) ∧ s = .int .i64 T ∧ Hd (T = tot ((grps ps).take k)) ∧ Hd (P = false → k = 0) ∧ Hd (Qt w wr)) (fun _ i _ => len - (intOf i).toNat)
  case atStart => exact ⟨0, 0, by omega, rfl, rfl, ⟨by simp [tot]⟩, ⟨fun _ => rfl⟩, ⟨Qt.refl _⟩⟩
  case round =>
    obtain ⟨k, T, hk, rfl, rfl, hT, hQ, hW⟩ := hrel
    by_cases hlt : k < len
    · (have hk1 : (k : Int) < (len : Int) := by omega); (have hk0 : (0 : Int) ≤ (k : Int) := by omega); (obtain ⟨b, o, g, vg, rfl, hel, c0, c1, hz⟩ := (hr.out.kept hW.out.kept).at k (by rw [hlen.out]; exact hlt)); (have hts := hid (tot_step (grps_get _ hel))); (clear hel hz)
      cases P with
      | false =>
        (have hv : Hd (T = total (grps ps)) := ⟨by rw [hT.out, hQ.out rfl, htot.out]; simp [tot]⟩); (have HP' := hid (HP.out _ hW.out)); (clear hT hQ HP hts htot hb); (go_wp2_with fail); (refine HP'.out.mono ?_); (rintro e w1 ⟨rfl, k1⟩); (have hW' := hid (hW.out.trans k1)); (clear k1 HP'); (go_wp2); (go_ret); (exact ⟨by rw [hv.out] <;> rfl, hW'.out⟩)
      | true =>
        (obtain ⟨N, hN⟩ : ∃ N, g.n = N := ⟨_, rfl⟩); (rw [hN] at c1 hts); (have hb1 := hb.out k rfl); (have hb2 := hb.out (k + 1) rfl); (rw [hts.out, ← hT.out] at hb2); (rw [← hT.out] at hb1); (have hw1 : IntKind.i64.wrap (T + N) = T + N := IntWalk.i64_in _ (by omega)); (have hT' : Hd (T + N = tot ((grps ps).take (k + 1))) := ⟨by rw [hts.out, hT.out]⟩); (have hQ' : Hd ((true : Bool) = false → k + 1 = 0) := ⟨fun h => by cases h⟩); (have HP' := hid (HP.out _ hW.out)); (clear hT hQ hts hb1 hb2 hN); (go_wp2_with fail); (refine HP'.out.mono ?_); (rintro e w1 ⟨rfl, k1⟩); (have hW' := hid (hW.out.trans k1)); (have c1' := k1.kept.cell c1 id); (clear k1 HP' hW c0 c1); (go_wp2); (go_roundw)
        case rel => first | exact ⟨k + 1, T + N, by omega, by go_num, rfl, hT', hQ', hW'⟩ | ((repeat apply Exists.intro); exact ⟨⟨k + 1, T + N, by omega, by go_num, rfl, hT', hQ', hW'⟩, rfl⟩)
        case measure => simp [intOf]; omega
    · obtain rfl : k = len := by omega
      have hv : Hd (T = total (grps ps)) := ⟨by
        rw [hT.out, htot.out]
        cases P with
        | false => rw [hQ.out rfl]; simp [tot]
        | true => rw [List.take_of_length_le (by rw [grps_length, hlen.out]; exact Nat.le_refl _), if_pos rfl]⟩
      (clear hT hQ htot HP hb); (go_wp2); (go_ret); (exact ⟨by rw [hv.out] <;> rfl, hW.out⟩)
theorem total_range (gs : List Grp) : 0 ≤ total gs ∧ total gs ≤ 100000 := by
  unfold total
  split
  · rename_i h; exact pile_tot h
  · omega
end Go.Proofs.Ytkdmlakookgolaa
