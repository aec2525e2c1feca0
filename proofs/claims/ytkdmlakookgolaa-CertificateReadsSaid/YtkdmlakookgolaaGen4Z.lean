/- Made piles once more, as groups of their own (printed by gen_gen4.py). -/
import Derived.Test.YtkdmlakookgolaaGenZ
namespace Go.Proofs.Ytkdmlakookgolaa
open Go.RowKit Go.Mk Go.Pil
theorem newOr_nil4 {w : World} {v : Value} (h : NewOr w (.slice none 0 0) v) : New w v := by
  rcases h with h | ⟨j, h1, h2⟩
  · exact .inl h
  · exact .inr ⟨j, h1, h2⟩
/-- A list of groups of its own, whose preferences are those of an older world. -/
structure OwGA (A : Value → Prop) (w w' : World) (v : Value) (qs : List (Grp × Value)) : Prop where
  own : w'.ownsRow 0 74 2 v qs.length (flatG qs)
  old : ∀ x ∈ qs, RdZ w x.2 x.1.p ∧ A x.2
  kept : Kept no w w'
  new : New w v
theorem OwGA.rd {A : Value → Prop} {w w' : World} {v : Value} {qs : List (Grp × Value)} (h : OwGA A w w' v qs) : RdG w' v qs := own_RdG h.own fun x hx => (h.old x hx).1.kept h.kept
theorem OwGA.keptNo {A : Value → Prop} {w w' w2 : World} {v : Value} {qs : List (Grp × Value)} (h : OwGA A w w' v qs) (k : Kept no w' w2) : OwGA A w w2 v qs := ⟨k.ownsRow h.own fun _ _ => id, h.old, h.kept.trans' k, h.new⟩
theorem OwGA.nil (A : Value → Prop) (w : World) : OwGA A w w (.slice none 0 0) [] := ⟨World.ownsRow_nil _ _ _ _, (fun x hx => by cases hx), Kept.refl _ _, .inl rfl⟩
theorem OwGA.add {A : Value → Prop} {w w1 w2 : World} {v v' : Value} {qs : List (Grp × Value)} (h : OwGA A w w1 v qs) (g : Grp) (u : Value) (hu : RdZ w u g.p ∧ A u) (ho : w2.ownsRow 0 74 2 v' (qs.length + 1) (flatG qs ++ [u, .int .i64 g.n])) (hk : Kept (ob v) w1 w2) (hn : NewOr w1 v v') : OwGA A w w2 v' (qs ++ [(g, u)]) :=
  ⟨by rw [List.length_append, flatG_append, flatG_one]; exact ho, (fun x hx => by
    rcases List.mem_append.1 hx with hx | hx
    · exact h.old x hx
    · obtain rfl : x = (g, u) := by simpa using hx
      exact hu), h.new.kept h.kept hk, h.new.step hn h.kept.size⟩
set_option maxRecDepth 100000 in
set_option maxHeartbeats 2000000 in
theorem refaddA_any (A : Value → Prop) (v vp : Value) (ps : List (Grp × Value)) (p : List Int) (K : Int) (w : World) (hr : RdG w v ps) (hAg : ∀ x ∈ ps, A x.2) (hAp : A vp) (hp : RdZ w vp p) (hs : small ps) (hK : -1000000 ≤ K ∧ K ≤ 1000000) :
    Calls Try.prog 90 #[v, vp, .int .i64 K] w fun e w' => ∃ v' qs, e = .returned v' ∧ OwGA A w w' v' qs ∧ grps qs = addG (grps ps) p K := by
  (obtain ⟨ao, cap, rfl, hcap, hcm⟩ := hr.shape); (obtain ⟨ap, cp, rfl, _, _⟩ := Rd.shape2 hp); (obtain ⟨lp, hlp⟩ : ∃ lp, p.length = lp := ⟨_, rfl⟩); (rw [hlp] at hp hAp ⊢); (replace hAg := hid hAg); (replace hAp := hid hAp); (replace hlp := hid hlp); (have hm63 := maxLen_63); (obtain ⟨hs1, hs2⟩ := hs); (obtain ⟨hK1, hK2⟩ := hK); (replace hr := hid hr); (replace hp := hid hp); (replace hs2 := hid hs2); (obtain ⟨len, hlen⟩ : ∃ len, ps.length = len := ⟨_, rfl⟩); (rw [hlen] at hr hcap hs1 ⊢); (replace hlen := hid hlen)
  go_enter Try.func90, Try.ntmps90
  go_wp2
  go_loopw [7, 8, 9] (fun out d i wr => ∃ (k : Nat) (done : Bool) (qs : List (Grp × Value)), k ≤ len ∧ i = .int .i64 (k : Int) ∧ d = .bool done ∧ Hd (qs.length ≤ k + if done = true then 1 else 0) ∧ Hd (OwGA A w wr out qs) ∧ Hd (addG (grps ps) p K = grps qs ++ if done = true then (grps ps).drop k else addG ((grps ps).drop k) p K)) (fun _ _ i _ => len - (intOf i).toNat)
  case atStart => exact ⟨0, false, [], by omega, rfl, rfl, ⟨by simp⟩, ⟨OwGA.nil A w⟩, ⟨by simp [grps]⟩⟩
  case round =>
    obtain ⟨k, done, qs, hk, rfl, rfl, hql, hO, hA⟩ := hrel
    by_cases hlt : k < len
    · (have hk1 : (k : Int) < (len : Int) := by omega); (have hk0 : (0 : Int) ≤ (k : Int) := by omega); (obtain ⟨b, o, g, vg, rfl, hel, c0, c1, hz⟩ := (hr.out.kept hO.out.kept).at k (by rw [hlen.out]; exact hlt)); (have hz0 : RdZ w vg g.p := by have := hr.out.1 _ (List.getElem_mem (show k < ps.length by rw [hlen.out]; exact hlt)); rwa [hel] at this); (have ha0 : A vg := by have := hAg.out _ (List.getElem_mem (show k < ps.length by rw [hlen.out]; exact hlt)); rwa [hel] at this); (have hgn := hs2.out _ (List.getElem_mem (show k < ps.length by rw [hlen.out]; exact hlt))); (rw [hel] at hgn); (have hgk := grps_get _ hel)
      have hdr : Hd ((grps ps).drop k = g :: (grps ps).drop (k + 1)) := ⟨by
        obtain ⟨h1, h2⟩ := List.getElem?_eq_some_iff.1 hgk
        rw [List.drop_eq_getElem_cons h1, h2]⟩
      (obtain ⟨av, cv, rfl, _, _⟩ := Rd.shape2 hz); (obtain ⟨lv, hlv⟩ : ∃ lv, g.p.length = lv := ⟨_, rfl⟩); (rw [hlv] at c0 hz hz0 ha0); (replace ha0 := hid ha0); (obtain ⟨N, hN⟩ : ∃ N, g.n = N := ⟨_, rfl⟩); (simp only at hgn); (rw [hN] at c1 hgn); (obtain ⟨hg1, hg2⟩ := hgn); (replace hN := hid hN); (replace hz := hid hz); (replace hz0 := hid hz0); (replace hlv := hid hlv); (clear hel hgk); (go_upto_region 7 with fail); (obtain ⟨w1, hw1, g1, k1⟩ := alloc_named wr (.cells #[.slice av lv cv, .int .i64 N] 74)); (rw [← hw1]); (have d0 : w1.cell? ⟨wr.heap.size, 0, none⟩ = some (.slice av lv cv) := by rw [cell_of_row w1 _ 0 _ _ _ g1]; rfl); (have d1 : w1.cell? ⟨wr.heap.size, 1, none⟩ = some (.int .i64 N) := by rw [cell_of_row w1 _ 1 _ _ _ g1]; rfl); (have hO1 := hid (hO.out.keptNo k1)); (have hbq : Hd (wr.heap.size < w1.heap.size ∧ ¬ ob u7 wr.heap.size) := ⟨lt_of_heap g1, fun h => by have := own_lt hO.out.own _ h; omega⟩); (replace k1 := hid k1); (generalize wr.heap.size = q at d0 d1 hbq); (clear hw1 g1 hO c0 c1); (have hb1 : ∀ (qs : List (Grp × Value)), Hd (qs.length ≤ k + 1) → qs.length + 1 ≤ maxLen ∧ (qs.length + 1) * 32 ≤ 140737488355328 := fun qs h => by have := h.out; have hm : maxLen = 9223372036854775807 := rfl; omega); (replace hb1 := hid hb1)
      cases done with
      | true =>
        (rw [if_pos rfl] at hql); (have hA2 : Hd (addG (grps ps) p K = grps (qs ++ [((g, Value.slice av lv cv) : Grp × Value)]) ++ if true = true then (grps ps).drop (k + 1) else addG ((grps ps).drop (k + 1)) p K) := ⟨by rw [hA.out, if_pos rfl, if_pos rfl, hdr.out, grps_append]; simp [grps]⟩); (clear hA hdr); (go_wp2_with (at_builtin; refine wpList_append_lit _ rfl _ _ 22 rfl 74 2 32 TGrps _ _ _ rfl hO1.out.own 1 [_, _] rfl rfl ?c1 ?c2 ?c3 ?_))
        case c1 => simp [Value.oneCell']
        case c2 => exact (hb1.out qs hql).1
        case c3 => exact (hb1.out qs hql).2
        (intro v' w2 h2 h3 h4 _); (have hO2 := hid (hO1.out.add g (.slice av lv cv) ⟨by have := hz0.out; exact this, ha0.out⟩ (by rw [hN.out]; exact h2) h3 h4)); (have hq2 : Hd ((qs ++ [((g, Value.slice av lv cv) : Grp × Value)]).length ≤ k + 1 + if true = true then 1 else 0) := ⟨by have := hql.out; rw [List.length_append, if_pos rfl]; simp only [List.length_singleton]; omega⟩); (clear h2 h3 h4 hO1 hql d0 d1); (go_wp2); (go_roundw)
        case rel => first | exact ⟨k + 1, true, _, by omega, by go_num, rfl, hq2, hO2, hA2⟩ | ((repeat apply Exists.intro); exact ⟨⟨k + 1, true, _, by omega, by go_num, rfl, hq2, hO2, hA2⟩, rfl⟩)
        case measure => simp [intOf]; omega
      | false =>
        (have hql0 := hid hql.out); (replace hql : Hd (qs.length ≤ k + 1) := ⟨by have := hql.out; rw [if_neg (by decide)] at this; omega⟩); (rw [if_neg (by decide), Nat.add_zero] at hql0); (have HL := less_any (.slice av lv cv) (.slice ap lp cp) g.p p w1 (hz.out.kept k1.out) (hp.out.kept (hO1.out.kept))); (have hd := hA.out); (rw [if_neg (by decide), hdr.out] at hd); (simp only [addG] at hd); (go_wp2_with fail); (refine HL.mono ?_); (rintro e w2 ⟨rfl, k2⟩); (have d0' := k2.kept.cell d0 id); (have d1' := k2.kept.cell d1 id); (have hO2' := hid (hO1.out.keptNo k2.kept)); (have hq0 : Hd (q < w2.heap.size) := ⟨Nat.lt_of_lt_of_le hbq.out.1 k2.kept.size⟩); (have k12 := hid (k1.out.trans' k2.kept)); (clear d0 d1 hO1 hA hdr HL k2 k1)
        cases hl : lt g.p p with
        | true =>
          (rw [if_pos hl] at hd); (have hA2 : Hd (addG (grps ps) p K = grps (qs ++ [((g, Value.slice av lv cv) : Grp × Value)]) ++ if false = true then (grps ps).drop (k + 1) else addG ((grps ps).drop (k + 1)) p K) := ⟨by rw [hd, grps_append]; simp [grps]⟩); (clear hd hl); (go_wp2_with (at_builtin; refine wpList_append_lit _ rfl _ _ 22 rfl 74 2 32 TGrps _ _ _ rfl hO2'.out.own 1 [_, _] rfl rfl ?c1 ?c2 ?c3 ?_))
          case c1 => simp [Value.oneCell']
          case c2 => exact (hb1.out qs hql).1
          case c3 => exact (hb1.out qs hql).2
          (intro v' w3 h2 h3 h4 _); (have hO2 := hid (hO2'.out.add g (.slice av lv cv) ⟨hz0.out, ha0.out⟩ (by rw [hN.out]; exact h2) h3 h4)); (have hq2 : Hd ((qs ++ [((g, Value.slice av lv cv) : Grp × Value)]).length ≤ k + 1 + if false = true then 1 else 0) := ⟨by have := hql0.out; rw [List.length_append, if_neg (by decide)]; simp only [List.length_singleton]; omega⟩); (clear h2 h3 h4 hO2' hql hql0 d0' d1'); (go_wp2); (go_roundw)
          case rel => first | exact ⟨k + 1, false, _, by omega, by go_num, rfl, hq2, hO2, hA2⟩ | ((repeat apply Exists.intro); exact ⟨⟨k + 1, false, _, by omega, by go_num, rfl, hq2, hO2, hA2⟩, rfl⟩)
          case measure => simp [intOf]; omega
        | false =>
          (rw [if_neg (by rw [hl]; decide)] at hd); (have HE := eqz_any (.slice av lv cv) (.slice ap lp cp) g.p p w2 (hz.out.kept k12.out) (hp.out.kept hO2'.out.kept)); (clear hl); (go_wp2_with fail); (refine HE.mono ?_); (rintro e w3 ⟨rfl, k3⟩); (have f0 := k3.kept.cell d0' id); (have f1 := k3.kept.cell d1' id); (have hO3 := hid (hO2'.out.keptNo k3.kept)); (clear HE d0' d1' hO2' k3 hq0)
          by_cases he : g.p = p
          · (have hdc : decide (g.p = p) = true := decide_eq_true he); (rw [if_pos he] at hd); (have hNK : IntKind.i64.wrap (N + K) = N + K := IntWalk.i64_in _ (by omega)); (have hzp : Hd (RdZ w (.slice av lv cv) p) := ⟨by rw [← he]; exact hz0.out⟩); (have hA2 : Hd (addG (grps ps) p K = grps (qs ++ [((⟨p, N + K⟩, Value.slice av lv cv) : Grp × Value)]) ++ if true = true then (grps ps).drop (k + 1) else addG ((grps ps).drop (k + 1)) p K) := ⟨by rw [hd, grps_append, if_pos rfl, hN.out]; simp [grps]⟩); (clear hd he); (go_wp2_with (at_builtin; refine wpList_append_lit _ rfl _ _ 22 rfl 74 2 32 TGrps _ _ _ rfl hO3.out.own 1 [_, _] rfl rfl ?c1 ?c2 ?c3 ?_))
            case c1 => simp [Value.oneCell']
            case c2 => exact (hb1.out qs hql).1
            case c3 => exact (hb1.out qs hql).2
            (intro v' w4 h2 h3 h4 _); (have hO2 := hid (hO3.out.add ⟨p, N + K⟩ (.slice av lv cv) ⟨hzp.out, ha0.out⟩ h2 h3 h4)); (have hq2 : Hd ((qs ++ [((⟨p, N + K⟩, Value.slice av lv cv) : Grp × Value)]).length ≤ k + 1 + if true = true then 1 else 0) := ⟨by have := hql.out; rw [List.length_append, if_pos rfl]; simp only [List.length_singleton]; omega⟩); (clear h2 h3 h4 hO3 hql f0 f1); (go_wp2); (go_roundw)
            case rel => first | exact ⟨k + 1, true, _, by omega, by go_num, rfl, hq2, hO2, hA2⟩ | ((repeat apply Exists.intro); exact ⟨⟨k + 1, true, _, by omega, by go_num, rfl, hq2, hO2, hA2⟩, rfl⟩)
            case measure => simp [intOf]; omega
          · (have hdc : decide (g.p = p) = false := decide_eq_false he); (rw [if_neg he] at hd); (have hA2 : Hd (addG (grps ps) p K = grps ((qs ++ [((⟨p, K⟩, Value.slice ap lp cp) : Grp × Value)]) ++ [((g, Value.slice av lv cv) : Grp × Value)]) ++ if true = true then (grps ps).drop (k + 1) else addG ((grps ps).drop (k + 1)) p K) := ⟨by rw [hd, grps_append, grps_append, if_pos rfl]; simp [grps]⟩); (clear hd he); (go_wp2_with (at_builtin; refine wpList_append_lit _ rfl _ _ 22 rfl 74 2 32 TGrps _ _ _ rfl hO3.out.own 1 [_, _] rfl rfl ?c1 ?c2 ?c3 ?_))
            case c1 => simp [Value.oneCell']
            case c2 => exact (hb1.out qs hql).1
            case c3 => exact (hb1.out qs hql).2
            (intro v' w4 h2 h3 h4 _); (have hO4 := hid (hO3.out.add ⟨p, K⟩ (.slice ap lp cp) ⟨hp.out, hAp.out⟩ h2 h3 h4)); (have hq4 : Hd ((qs ++ [((⟨p, K⟩, Value.slice ap lp cp) : Grp × Value)]).length ≤ k + 1) := ⟨by have := hql0.out; rw [List.length_append]; simp only [List.length_singleton]; omega⟩); (have f0' := h3.cell f0 hbq.out.2); (have f1' := h3.cell f1 hbq.out.2); (clear h2 h3 h4 hO3 hql f0 f1); (go_wp2_with (at_builtin; refine wpList_append_lit _ rfl _ _ 22 rfl 74 2 32 TGrps _ _ _ rfl hO4.out.own 1 [_, _] rfl rfl ?c1 ?c2 ?c3 ?_))
            case c1 => simp [Value.oneCell']
            case c2 => exact (hb1.out _ hq4).1
            case c3 => exact (hb1.out _ hq4).2
            (intro v' w5 h2 h3 h4 _); (have hO2 := hid (hO4.out.add g (.slice av lv cv) ⟨hz0.out, ha0.out⟩ (by rw [hN.out, List.length_append]; exact h2) h3 h4)); (have hq2 : Hd (((qs ++ [((⟨p, K⟩, Value.slice ap lp cp) : Grp × Value)]) ++ [((g, Value.slice av lv cv) : Grp × Value)]).length ≤ k + 1 + if true = true then 1 else 0) := ⟨by have := hq4.out; rw [List.length_append, if_pos rfl]; simp only [List.length_singleton]; omega⟩); (clear h2 h3 h4 hO4 hq4 hql0 f0' f1'); (go_wp2); (go_roundw)
            case rel => first | exact ⟨k + 1, true, _, by omega, by go_num, rfl, hq2, hO2, hA2⟩ | ((repeat apply Exists.intro); exact ⟨⟨k + 1, true, _, by omega, by go_num, rfl, hq2, hO2, hA2⟩, rfl⟩)
            case measure => simp [intOf]; omega
    · (obtain rfl : k = len := by omega); (have hdn : (grps ps).drop k = [] := List.drop_of_length_le (by rw [grps_length, hlen.out]; exact Nat.le_refl _)); (have hA' := hA.out); (rw [hdn] at hA'); (have hq1 : Hd (qs.length + 1 ≤ maxLen ∧ (qs.length + 1) * 32 ≤ 140737488355328) := ⟨by have := hql.out; have hm : maxLen = 9223372036854775807 := rfl; split at this <;> omega⟩); (clear hdn hA hql)
      cases done with
      | true =>
        (have hv : Hd (grps qs = addG (grps ps) p K) := ⟨by rw [hA', if_pos rfl, List.append_nil]⟩); (clear hA'); (go_wp2); (go_ret); (exact ⟨_, qs, rfl, hO.out, hv.out⟩)
      | false =>
        (have hv : Hd (grps (qs ++ [((⟨p, K⟩, Value.slice ap lp cp) : Grp × Value)]) = addG (grps ps) p K) := ⟨by rw [hA', if_neg (by decide), grps_append]; simp [grps, addG]⟩); (clear hA'); (go_wp2_with (at_builtin; refine wpList_append_lit _ rfl _ _ 22 rfl 74 2 32 TGrps _ _ _ rfl hO.out.own 1 [_, _] rfl rfl ?c1 ?c2 ?c3 ?_))
        case c1 => simp [Value.oneCell']
        case c2 => exact hq1.out.1
        case c3 => exact hq1.out.2
        (intro v' w4 h2 h3 h4 _); (have hO4 := hid (hO.out.add ⟨p, K⟩ (.slice ap lp cp) ⟨hp.out, hAp.out⟩ h2 h3 h4)); (clear h2 h3 h4 hO); (go_wp2); (go_ret); (exact ⟨_, _, rfl, hO4.out, hv.out⟩)

/-- Groups of their own whose preferences lie in new memory too. -/
structure OwN (w w' : World) (v : Value) (qs : List (Grp × Value)) : Prop where
  own : w'.ownsRow 0 74 2 v qs.length (flatG qs)
  rows : ∀ x ∈ qs, RdZ w' x.2 x.1.p ∧ New w x.2
  kept : Kept no w w'
  new : New w v
theorem OwN.nil (w : World) : OwN w w (.slice none 0 0) [] := ⟨World.ownsRow_nil _ _ _ _, (fun x hx => by cases hx), Kept.refl _ _, .inl rfl⟩
theorem OwN.rd {w w' : World} {v : Value} {qs : List (Grp × Value)} (h : OwN w w' v qs) : RdG w' v qs := own_RdG h.own fun x hx => (h.rows x hx).1
theorem OwN.keptNo {w w' w2 : World} {v : Value} {qs : List (Grp × Value)} (h : OwN w w' v qs) (k : Kept no w' w2) : OwN w w2 v qs := ⟨k.ownsRow h.own fun _ _ => id, fun x hx => ⟨(h.rows x hx).1.kept k, (h.rows x hx).2⟩, h.kept.trans' k, h.new⟩
theorem OwN.of {w w1 w' : World} {v : Value} {qs : List (Grp × Value)} (h : OwGA (New w) w1 w' v qs) (k : Kept no w w1) : OwN w w' v qs := ⟨h.own, fun x hx => ⟨(h.old x hx).1.kept h.kept, (h.old x hx).2⟩, k.trans' h.kept, h.new.of k.size⟩
theorem OwN.from_ {w0 w w' : World} {v : Value} {qs : List (Grp × Value)} (h : OwN w w' v qs) (k : Kept no w0 w) : OwN w0 w' v qs := ⟨h.own, fun x hx => ⟨(h.rows x hx).1, (h.rows x hx).2.of k.size⟩, k.trans' h.kept, h.new.of k.size⟩
/-- What is written below the new memory does not touch them. -/
theorem OwN.rdS {w w' W : World} {v : Value} {qs : List (Grp × Value)} {S : Nat → Prop} (h : OwN w w' v qs) (k : Kept S w' W) (hS : ∀ j, S j → j < w.heap.size) : RdG W v qs :=
  ⟨fun x hx => Rd.kept (h.rows x hx).1 k fun j hj hs => by have := (h.rows x hx).2.fr (Nat.le_refl _) j hj; have := hS j hs; omega, Rd.kept (Rd.of_own h.own) k fun j hj hs => by have := h.new.fr (Nat.le_refl _) j hj; have := hS j hs; omega⟩
theorem OwZ.rdS {w w' W : World} {v : Value} {zs : List Int} {S : Nat → Prop} (h : OwZ w w' v zs) (k : Kept S w' W) (hS : ∀ j, S j → j < w.heap.size) : RdZ W v zs :=
  Rd.kept h.rd k fun j hj hs => by have := h.new.fr (Nat.le_refl _) j hj; have := hS j hs; omega
set_option maxRecDepth 100000 in
set_option maxHeartbeats 2000000 in
theorem refmakeO_any (n : Int) (v : Value) (bs : List (List Int × Value)) (w : World) (hr : RdB w v bs) : Calls Try.prog 50 #[.int .i64 n, v] w fun e w' => ∃ v', e = .returned (.tuple #[v', .int .i64 (mk n (lists bs)).2]) ∧ ∃ qs, grps qs = (mk n (lists bs)).1 ∧ OwN w w' v' qs := by
  (obtain ⟨ao, cap, rfl, hcap, hcm⟩ := Rd.shape2 hr.2); (have hm63 := maxLen_63); (have nilGR : ∀ W, Kept no w W → ∃ qs, grps qs = [] ∧ OwN w W (.slice none 0 0) qs := fun W k => ⟨[], rfl, (OwN.nil w).keptNo k⟩)
  by_cases hn : n < 1 ∨ 7 < n
  · (have hv : Hd (mk n (lists bs) = ([], 4)) := ⟨by unfold mk; rw [if_pos hn]⟩); (rw [hv.out])
    by_cases h1 : n < 1
    · (have hd1 : decide (n < 1) = true := decide_eq_true h1); (clear hr hn hv)
      go_enter Try.func50, Try.ntmps50
      (go_wp2); (go_ret2); (exact ⟨_, rfl, nilGR _ (Kept.refl _ _)⟩)
    · (have hd1 : decide (n < 1) = false := decide_eq_false h1); (have h7 : 7 < n := by omega); (have hd7 : decide (7 < n) = true := decide_eq_true h7); (clear hr hn hv)
      go_enter Try.func50, Try.ntmps50
      (go_wp2); (go_ret2); (exact ⟨_, rfl, nilGR _ (Kept.refl _ _)⟩)
  (have hd1 : decide (n < 1) = false := decide_eq_false (by omega)); (have hd7 : decide (7 < n) = false := decide_eq_false (by omega)); (have hn1 : ¬ n < 1 := by omega); (have hn7 : ¬ 7 < n := by omega)
  by_cases hl : 100000 < bs.length
  · (have hv : Hd (mk n (lists bs) = ([], 7)) := ⟨by unfold mk; rw [if_neg hn, if_pos (by rw [lists_length]; exact hl)]⟩); (rw [hv.out]); (have hl' : (100000 : Int) < (bs.length : Int) := by omega); (clear hr hn hv)
    go_enter Try.func50, Try.ntmps50
    (go_wp2); (go_ret2); (exact ⟨_, rfl, nilGR _ (Kept.refl _ _)⟩)
  (have hl' : ¬ (100000 : Int) < (bs.length : Int) := by omega); (have hmk : Hd (mk n (lists bs) = if allB n (lists bs) = true then (pileOf (ones (lists bs)), 0) else ([], 8)) := ⟨by unfold mk; rw [if_neg hn, if_neg (by rw [lists_length]; exact hl)]⟩); (replace hr := hid hr); (clear hn); (obtain ⟨len, hlen⟩ : ∃ len, bs.length = len := ⟨_, rfl⟩); (rw [hlen] at hr hcap hl hl' ⊢); (replace hlen := hid hlen)
  go_enter Try.func50, Try.ntmps50
  go_wp2
  go_loopw [6, 7] (fun out i wr => ∃ (k : Nat) (qs : List (Grp × Value)), k ≤ len ∧ i = .int .i64 (k : Int) ∧ Hd (grps qs = pileOf (ones ((lists bs).take k))) ∧ Hd (allB n ((lists bs).take k) = true) ∧ Hd (OwN w wr out qs) ∧ Hd (Kept no w wr)) (fun _ i _ => len - (intOf i).toNat)
  case atStart => exact ⟨0, [], by omega, rfl, ⟨rfl⟩, ⟨rfl⟩, ⟨OwN.nil w⟩, ⟨Kept.refl _ _⟩⟩
  case round =>
    obtain ⟨k, qs, hk, rfl, hqs, hA, hO, hW⟩ := hrel
    by_cases hlt : k < len
    · (have hk1 : (k : Int) < (len : Int) := by omega); (have hk0 : (0 : Int) ≤ (k : Int) := by omega); (obtain ⟨b, o, p, vp, rfl, hel, c0, hz⟩ := (hr.out.kept hW.out).at k (by rw [hlen.out]; exact hlt)); (have hpk := hid (lists_get _ hel)); (have HB := hid (refballot_any n vp p wr hz)); (replace hz := hid hz); (clear hel)
      cases hb : ballot n p with
      | false =>
        (have hv : Hd (mk n (lists bs) = ([], 8)) := ⟨by rw [hmk.out, allB_fail hpk.out hb, if_neg (by decide)]⟩); (rw [hb] at HB); (clear hb hmk hA hqs hO hpk hz); (go_wp2_with fail); (refine HB.out.mono ?_); (rintro e w1 ⟨rfl, k1⟩); (have hk2 := hid (hW.out.trans' k1.kept)); (clear k1 HB hW c0); (go_wp2); (go_ret2); (exact ⟨_, by rw [hv.out] <;> rfl, by rw [hv.out]; exact nilGR _ hk2.out⟩)
      | true =>
        (have hA' := hid (allB_take hpk.out hA.out hb)); (have hq' : Hd (addG (grps qs) p 1 = pileOf (ones ((lists bs).take (k + 1)))) := ⟨by rw [hqs.out, ones_take hpk.out, pileOf_snoc]⟩); (have hpl := ballot_len hb (by omega)); (have hsm : Hd (small qs) := ⟨small_of (by rw [hqs.out]; exact pileOf_pos (ones_pos _)) (by rw [hqs.out, pileOf_tot (ones_pos _), ones_tot, List.length_take]; omega)⟩); (rw [hb] at HB); (clear hb hA hqs hpk); (go_wp2_with fail); (refine HB.out.mono ?_); (rintro e w1 ⟨rfl, k1⟩); (have d0 := k1.kept.cell c0 id); (have hz1 := hid (hz.out.kept k1.kept)); (have hO1 := hid (hO.out.keptNo k1.kept)); (have hW1 := hid (hW.out.trans' k1.kept)); (have hls : p.length ≤ maxLen ∧ p.length * 8 ≤ 140737488355328 := by have hm : maxLen = 9223372036854775807 := rfl; omega); (replace hls := hid hls); (have hnil : Hd (w1.ownsRow 0 3 1 (.slice none 0 0) 0 []) := ⟨World.ownsRow_nil _ _ _ _⟩); (clear HB k1 hO hW hz c0 hpl); (go_wp2_with (at_builtin; refine wpList_append _ rfl _ _ 40 rfl 3 1 8 TInts _ _ _ rfl hnil.out _ _ _ rfl hz1.out (Z_one p) ?c1 ?c2 ?_))
        case c1 => rw [Nat.zero_add]; exact hls.out.1
        case c2 => rw [Nat.zero_add]; exact hls.out.2
        (intro v' w2 h4 h5 h6 _); (try rw [Nat.zero_add, List.nil_append] at h4); (have k2 := Kept.ob_nil h5); (have HA := hid (refaddA_any (New w) _ v' qs p 1 w2 (hO1.out.keptNo k2).rd (fun x hx => (hO1.out.rows x hx).2) ((newOr_nil4 h6).of hW1.out.size) (own_RdZ h4) hsm.out ⟨by omega, by omega⟩)); (have hW2 := hid (hW1.out.trans' k2)); (clear h4 h5 h6 k2 hO1 hz1 hnil d0 hW1); (go_wp2_with fail); (refine HA.out.mono ?_); (rintro e w3 ⟨v3, rs, rfl, hO3, hrs⟩); (have hq3 : Hd (grps rs = pileOf (ones ((lists bs).take (k + 1)))) := ⟨by rw [hrs]; exact hq'.out⟩); (have hO4 := hid (OwN.of hO3 hW2.out)); (have hW3 := hid (hW2.out.trans' hO3.kept)); (clear hO3 hrs HA hq' hW2 hsm hls); (go_wp2); (go_roundw)
        case rel => first | exact ⟨k + 1, rs, by omega, by go_num, hq3, hA', hO4, hW3⟩ | ((repeat apply Exists.intro); exact ⟨⟨k + 1, rs, by omega, by go_num, hq3, hA', hO4, hW3⟩, rfl⟩)
        case measure => simp [intOf]; omega
    · (obtain rfl : k = len := by omega); (have hall : (lists bs).take k = lists bs := List.take_of_length_le (by rw [lists_length, hlen.out]; exact Nat.le_refl _))
      have hv : Hd (mk n (lists bs) = (grps qs, 0)) := ⟨by
        (have h1 := hA.out); (have h2 := hqs.out); (rw [hall] at h1 h2)
        rw [hmk.out, h1, if_pos rfl, h2]⟩
      (clear hA hqs hmk hall); (go_wp2); (go_ret2); (exact ⟨_, by rw [hv.out] <;> rfl, by rw [hv.out]; exact ⟨qs, rfl, hO.out⟩⟩)
set_option maxHeartbeats 400000 in
theorem genpileO_any (n : Int) (v : Value) (bs : List (List Int × Value)) (m : Nat) (w : World) (h1 : 1 ≤ n) (h2 : n ≤ 7) (hm : m ≤ 100000) (hr : RdB w v bs) : Calls Try.prog 19 #[.int .i64 n, v, .int .i64 (m : Int)] w fun e w' => ∃ v', e = .returned v' ∧ ∃ qs, grps qs = genP n (lists bs) m ∧ OwN w w' v' qs := by
  (have HB := hid (ballots_any n v bs m w h1 h2 (by omega) hr)); (have hmk := hid (mk_bals h1 h2 (lists bs) m hm)); (clear hr)
  go_enter Try.func19, Try.ntmps19
  (go_wp2_with fail); (refine HB.out.mono ?_); (rintro e w1 ⟨v1, qs, rfl, hqs, hO⟩); (have HM := hid (refmakeO_any n v1 qs w1 hO.rd)); (rw [hqs, hmk.out] at HM); (have k1 := hid hO.kept); (clear hO hqs HB); (go_wp2_with fail); (refine HM.out.mono ?_); (rintro e w2 ⟨v2, rfl, ps, hps, hrd⟩); (have hG : Hd (∃ qs, grps qs = genP n (lists bs) m ∧ OwN w w2 v2 qs) := ⟨ps, hps, hrd.from_ k1.out⟩); (clear hps hrd HM); (go_wp2); (go_ret); (exact ⟨_, rfl, hG.out⟩)
end Go.Proofs.Ytkdmlakookgolaa
