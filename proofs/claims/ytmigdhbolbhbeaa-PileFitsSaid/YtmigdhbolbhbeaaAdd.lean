/- electionref24.Add. -/
import Derived.Test.YtmigdhbolbhbeaaVal2
namespace Go.Proofs.Ytmigdhbolbhbeaa
open Go.RowKit Go.Mk Go.Pil
theorem grps_append (a b : List (Grp × Value)) : grps (a ++ b) = grps a ++ grps b := by simp [grps]
theorem flatG_append (a b : List (Grp × Value)) : flatG (a ++ b) = flatG a ++ flatG b := by simp [flatG]
theorem flatG_one (x : Grp × Value) : flatG [x] = grpC x := by simp [flatG]
theorem own_RdG {w : World} {v : Value} {qs : List (Grp × Value)} (h : w.ownsRow 0 67 2 v qs.length (flatG qs)) (hp : ∀ x ∈ qs, RdZ w x.2 x.1.p) : RdG w v qs := ⟨hp, Rd.of_own h⟩
/-- A list of groups of its own, whose preferences are those of an older world. -/
structure OwG (w w' : World) (v : Value) (qs : List (Grp × Value)) : Prop where
  own : w'.ownsRow 0 67 2 v qs.length (flatG qs)
  old : ∀ x ∈ qs, RdZ w x.2 x.1.p
  kept : Kept no w w'
  new : New w v
theorem OwG.rd {w w' : World} {v : Value} {qs : List (Grp × Value)} (h : OwG w w' v qs) : RdG w' v qs := own_RdG h.own fun x hx => (h.old x hx).kept h.kept
theorem OwG.keptNo {w w' w2 : World} {v : Value} {qs : List (Grp × Value)} (h : OwG w w' v qs) (k : Kept no w' w2) : OwG w w2 v qs := ⟨k.ownsRow h.own fun _ _ => id, h.old, h.kept.trans' k, h.new⟩
theorem OwG.nil (w : World) : OwG w w (.slice none 0 0) [] := ⟨World.ownsRow_nil _ _ _ _, (fun x hx => by cases hx), Kept.refl _ _, .inl rfl⟩
theorem OwG.add {w w1 w2 : World} {v v' : Value} {qs : List (Grp × Value)} (h : OwG w w1 v qs) (g : Grp) (u : Value) (hu : RdZ w u g.p) (ho : w2.ownsRow 0 67 2 v' (qs.length + 1) (flatG qs ++ [u, .int .i64 g.n])) (hk : Kept (ob v) w1 w2) (hn : NewOr w1 v v') : OwG w w2 v' (qs ++ [(g, u)]) :=
  ⟨by rw [List.length_append, flatG_append, flatG_one]; exact ho, (fun x hx => by
    rcases List.mem_append.1 hx with hx | hx
    · exact h.old x hx
    · obtain rfl : x = (g, u) := by simpa using hx
      exact hu), h.new.kept h.kept hk, h.new.step hn h.kept.size⟩
theorem RdZ.one {w : World} {v : Value} {zs : List Int} (h : RdZ w v zs) : v.oneCell' = true := by
  obtain ⟨_, _, _, rfl, _⟩ := h; rfl
def small (ps : List (Grp × Value)) : Prop := ps.length ≤ 1000000 ∧ ∀ x ∈ ps, -1000000 ≤ x.1.n ∧ x.1.n ≤ 1000000
set_option maxRecDepth 100000 in
set_option maxHeartbeats 2000000 in
theorem refadd_any (v vp : Value) (ps : List (Grp × Value)) (p : List Int) (K : Int) (w : World) (hr : RdG w v ps) (hp : RdZ w vp p) (hs : small ps) (hK : -1000000 ≤ K ∧ K ≤ 1000000) :
    Calls Try.prog 51 #[v, vp, .int .i64 K] w fun e w' => ∃ v' qs, e = .returned v' ∧ OwG w w' v' qs ∧ grps qs = addG (grps ps) p K := by
  obtain ⟨ao, cap, rfl, hcap, hcm⟩ := hr.shape
  obtain ⟨ap, cp, rfl, _, _⟩ := Rd.shape2 hp
  obtain ⟨lp, hlp⟩ : ∃ lp, p.length = lp := ⟨_, rfl⟩
  rw [hlp] at hp ⊢
  replace hlp := hid hlp
  have hm63 := maxLen_63
  obtain ⟨hs1, hs2⟩ := hs
  obtain ⟨hK1, hK2⟩ := hK
  replace hr := hid hr
  replace hp := hid hp
  replace hs2 := hid hs2
  obtain ⟨len, hlen⟩ : ∃ len, ps.length = len := ⟨_, rfl⟩
  rw [hlen] at hr hcap hs1 ⊢
  replace hlen := hid hlen
  go_enter Try.func51, Try.ntmps51
  go_wp2
  go_loopw [7, 8, 9] (fun out d i wr => ∃ (k : Nat) (done : Bool) (qs : List (Grp × Value)), k ≤ len ∧ i = .int .i64 (k : Int) ∧ d = .bool done ∧ Hd (qs.length ≤ k + if done = true then 1 else 0) ∧ Hd (OwG w wr out qs) ∧ Hd (addG (grps ps) p K = grps qs ++ if done = true then (grps ps).drop k else addG ((grps ps).drop k) p K)) (fun _ _ i _ => len - (intOf i).toNat)
  case atStart => exact ⟨0, false, [], by omega, rfl, rfl, ⟨by simp⟩, ⟨OwG.nil w⟩, ⟨by simp [grps]⟩⟩
  case round =>
    obtain ⟨k, done, qs, hk, rfl, rfl, hql, hO, hA⟩ := hrel
    by_cases hlt : k < len
    · have hk1 : (k : Int) < (len : Int) := by omega
      have hk0 : (0 : Int) ≤ (k : Int) := by omega
      obtain ⟨b, o, g, vg, rfl, hel, c0, c1, hz⟩ := (hr.out.kept hO.out.kept).at k (by rw [hlen.out]; exact hlt)
      have hz0 : RdZ w vg g.p := by have := hr.out.1 _ (List.getElem_mem (show k < ps.length by rw [hlen.out]; exact hlt)); rwa [hel] at this
      have hgn := hs2.out _ (List.getElem_mem (show k < ps.length by rw [hlen.out]; exact hlt))
      rw [hel] at hgn
      have hgk := grps_get _ hel
      have hdr : Hd ((grps ps).drop k = g :: (grps ps).drop (k + 1)) := ⟨by
        obtain ⟨h1, h2⟩ := List.getElem?_eq_some_iff.1 hgk
        rw [List.drop_eq_getElem_cons h1, h2]⟩
      obtain ⟨av, cv, rfl, _, _⟩ := Rd.shape2 hz
      obtain ⟨lv, hlv⟩ : ∃ lv, g.p.length = lv := ⟨_, rfl⟩
      rw [hlv] at c0 hz hz0
      obtain ⟨N, hN⟩ : ∃ N, g.n = N := ⟨_, rfl⟩
      simp only at hgn
      rw [hN] at c1 hgn
      obtain ⟨hg1, hg2⟩ := hgn
      replace hN := hid hN
      replace hz := hid hz
      replace hz0 := hid hz0
      replace hlv := hid hlv
      clear hel hgk
      go_upto_region 7 with fail
      obtain ⟨w1, hw1, g1, k1⟩ := alloc_named wr (.cells #[.slice av lv cv, .int .i64 N] 67)
      rw [← hw1]
      have d0 : w1.cell? ⟨wr.heap.size, 0, none⟩ = some (.slice av lv cv) := by rw [cell_of_row w1 _ 0 _ _ _ g1]; rfl
      have d1 : w1.cell? ⟨wr.heap.size, 1, none⟩ = some (.int .i64 N) := by rw [cell_of_row w1 _ 1 _ _ _ g1]; rfl
      have hO1 := hid (hO.out.keptNo k1)
      have hbq : Hd (wr.heap.size < w1.heap.size ∧ ¬ ob u7 wr.heap.size) := ⟨lt_of_heap g1, fun h => by have := own_lt hO.out.own _ h; omega⟩
      replace k1 := hid k1
      generalize wr.heap.size = q at d0 d1 hbq
      clear hw1 g1 hO c0 c1
      have hb1 : ∀ (qs : List (Grp × Value)), Hd (qs.length ≤ k + 1) → qs.length + 1 ≤ maxLen ∧ (qs.length + 1) * 32 ≤ 140737488355328 := fun qs h => by have := h.out; have hm : maxLen = 9223372036854775807 := rfl; omega
      replace hb1 := hid hb1
      cases done with
      | true =>
        rw [if_pos rfl] at hql
        have hA2 : Hd (addG (grps ps) p K = grps (qs ++ [((g, Value.slice av lv cv) : Grp × Value)]) ++ if true = true then (grps ps).drop (k + 1) else addG ((grps ps).drop (k + 1)) p K) := ⟨by rw [hA.out, if_pos rfl, if_pos rfl, hdr.out, grps_append]; simp [grps]⟩
        clear hA hdr
        go_wp2_with (at_builtin; refine wpList_append_lit _ rfl _ _ 27 rfl 67 2 32 TGrps _ _ _ rfl hO1.out.own 1 [_, _] rfl rfl ?c1 ?c2 ?c3 ?_)
        case c1 => simp [Value.oneCell']
        case c2 => exact (hb1.out qs hql).1
        case c3 => exact (hb1.out qs hql).2
        intro v' w2 h2 h3 h4 _
        have hO2 := hid (hO1.out.add g (.slice av lv cv) (by have := hz0.out; exact this) (by rw [hN.out]; exact h2) h3 h4)
        have hq2 : Hd ((qs ++ [((g, Value.slice av lv cv) : Grp × Value)]).length ≤ k + 1 + if true = true then 1 else 0) := ⟨by have := hql.out; rw [List.length_append, if_pos rfl]; simp only [List.length_singleton]; omega⟩
        clear h2 h3 h4 hO1 hql d0 d1
        go_wp2
        go_roundw
        case rel => first | exact ⟨k + 1, true, _, by omega, by go_num, rfl, hq2, hO2, hA2⟩ | ((repeat apply Exists.intro); exact ⟨⟨k + 1, true, _, by omega, by go_num, rfl, hq2, hO2, hA2⟩, rfl⟩)
        case measure => simp [intOf]; omega
      | false =>
        have hql0 := hid hql.out
        replace hql : Hd (qs.length ≤ k + 1) := ⟨by have := hql.out; rw [if_neg (by decide)] at this; omega⟩
        rw [if_neg (by decide), Nat.add_zero] at hql0
        have HL := less_any (.slice av lv cv) (.slice ap lp cp) g.p p w1 (hz.out.kept k1.out) (hp.out.kept (hO1.out.kept))
        have hd := hA.out
        rw [if_neg (by decide), hdr.out] at hd
        simp only [addG] at hd
        go_wp2_with fail
        refine HL.mono ?_
        rintro e w2 ⟨rfl, k2⟩
        have d0' := k2.kept.cell d0 id
        have d1' := k2.kept.cell d1 id
        have hO2' := hid (hO1.out.keptNo k2.kept)
        have hq0 : Hd (q < w2.heap.size) := ⟨Nat.lt_of_lt_of_le hbq.out.1 k2.kept.size⟩
        have k12 := hid (k1.out.trans' k2.kept)
        clear d0 d1 hO1 hA hdr HL k2 k1
        cases hl : lt g.p p with
        | true =>
          rw [if_pos hl] at hd
          have hA2 : Hd (addG (grps ps) p K = grps (qs ++ [((g, Value.slice av lv cv) : Grp × Value)]) ++ if false = true then (grps ps).drop (k + 1) else addG ((grps ps).drop (k + 1)) p K) := ⟨by rw [hd, grps_append]; simp [grps]⟩
          clear hd hl
          go_wp2_with (at_builtin; refine wpList_append_lit _ rfl _ _ 27 rfl 67 2 32 TGrps _ _ _ rfl hO2'.out.own 1 [_, _] rfl rfl ?c1 ?c2 ?c3 ?_)
          case c1 => simp [Value.oneCell']
          case c2 => exact (hb1.out qs hql).1
          case c3 => exact (hb1.out qs hql).2
          intro v' w3 h2 h3 h4 _
          have hO2 := hid (hO2'.out.add g (.slice av lv cv) hz0.out (by rw [hN.out]; exact h2) h3 h4)
          have hq2 : Hd ((qs ++ [((g, Value.slice av lv cv) : Grp × Value)]).length ≤ k + 1 + if false = true then 1 else 0) := ⟨by have := hql0.out; rw [List.length_append, if_neg (by decide)]; simp only [List.length_singleton]; omega⟩
          clear h2 h3 h4 hO2' hql hql0 d0' d1'
          go_wp2
          go_roundw
          case rel => first | exact ⟨k + 1, false, _, by omega, by go_num, rfl, hq2, hO2, hA2⟩ | ((repeat apply Exists.intro); exact ⟨⟨k + 1, false, _, by omega, by go_num, rfl, hq2, hO2, hA2⟩, rfl⟩)
          case measure => simp [intOf]; omega
        | false =>
          rw [if_neg (by rw [hl]; decide)] at hd
          have HE := eqz_any (.slice av lv cv) (.slice ap lp cp) g.p p w2 (hz.out.kept k12.out) (hp.out.kept hO2'.out.kept)
          clear hl
          go_wp2_with fail
          refine HE.mono ?_
          rintro e w3 ⟨rfl, k3⟩
          have f0 := k3.kept.cell d0' id
          have f1 := k3.kept.cell d1' id
          have hO3 := hid (hO2'.out.keptNo k3.kept)
          clear HE d0' d1' hO2' k3 hq0
          by_cases he : g.p = p
          · have hdc : decide (g.p = p) = true := decide_eq_true he
            rw [if_pos he] at hd
            have hNK : IntKind.i64.wrap (N + K) = N + K := IntWalk.i64_in _ (by omega)
            have hzp : Hd (RdZ w (.slice av lv cv) p) := ⟨by rw [← he]; exact hz0.out⟩
            have hA2 : Hd (addG (grps ps) p K = grps (qs ++ [((⟨p, N + K⟩, Value.slice av lv cv) : Grp × Value)]) ++ if true = true then (grps ps).drop (k + 1) else addG ((grps ps).drop (k + 1)) p K) := ⟨by rw [hd, grps_append, if_pos rfl, hN.out]; simp [grps]⟩
            clear hd he
            go_wp2_with (at_builtin; refine wpList_append_lit _ rfl _ _ 27 rfl 67 2 32 TGrps _ _ _ rfl hO3.out.own 1 [_, _] rfl rfl ?c1 ?c2 ?c3 ?_)
            case c1 => simp [Value.oneCell']
            case c2 => exact (hb1.out qs hql).1
            case c3 => exact (hb1.out qs hql).2
            intro v' w4 h2 h3 h4 _
            have hO2 := hid (hO3.out.add ⟨p, N + K⟩ (.slice av lv cv) hzp.out h2 h3 h4)
            have hq2 : Hd ((qs ++ [((⟨p, N + K⟩, Value.slice av lv cv) : Grp × Value)]).length ≤ k + 1 + if true = true then 1 else 0) := ⟨by have := hql.out; rw [List.length_append, if_pos rfl]; simp only [List.length_singleton]; omega⟩
            clear h2 h3 h4 hO3 hql f0 f1
            go_wp2
            go_roundw
            case rel => first | exact ⟨k + 1, true, _, by omega, by go_num, rfl, hq2, hO2, hA2⟩ | ((repeat apply Exists.intro); exact ⟨⟨k + 1, true, _, by omega, by go_num, rfl, hq2, hO2, hA2⟩, rfl⟩)
            case measure => simp [intOf]; omega
          · have hdc : decide (g.p = p) = false := decide_eq_false he
            rw [if_neg he] at hd
            have hA2 : Hd (addG (grps ps) p K = grps ((qs ++ [((⟨p, K⟩, Value.slice ap lp cp) : Grp × Value)]) ++ [((g, Value.slice av lv cv) : Grp × Value)]) ++ if true = true then (grps ps).drop (k + 1) else addG ((grps ps).drop (k + 1)) p K) := ⟨by rw [hd, grps_append, grps_append, if_pos rfl]; simp [grps]⟩
            clear hd he
            go_wp2_with (at_builtin; refine wpList_append_lit _ rfl _ _ 27 rfl 67 2 32 TGrps _ _ _ rfl hO3.out.own 1 [_, _] rfl rfl ?c1 ?c2 ?c3 ?_)
            case c1 => simp [Value.oneCell']
            case c2 => exact (hb1.out qs hql).1
            case c3 => exact (hb1.out qs hql).2
            intro v' w4 h2 h3 h4 _
            have hO4 := hid (hO3.out.add ⟨p, K⟩ (.slice ap lp cp) hp.out h2 h3 h4)
            have hq4 : Hd ((qs ++ [((⟨p, K⟩, Value.slice ap lp cp) : Grp × Value)]).length ≤ k + 1) := ⟨by have := hql0.out; rw [List.length_append]; simp only [List.length_singleton]; omega⟩
            have f0' := h3.cell f0 hbq.out.2
            have f1' := h3.cell f1 hbq.out.2
            clear h2 h3 h4 hO3 hql f0 f1
            go_wp2_with (at_builtin; refine wpList_append_lit _ rfl _ _ 27 rfl 67 2 32 TGrps _ _ _ rfl hO4.out.own 1 [_, _] rfl rfl ?c1 ?c2 ?c3 ?_)
            case c1 => simp [Value.oneCell']
            case c2 => exact (hb1.out _ hq4).1
            case c3 => exact (hb1.out _ hq4).2
            intro v' w5 h2 h3 h4 _
            have hO2 := hid (hO4.out.add g (.slice av lv cv) hz0.out (by rw [hN.out, List.length_append]; exact h2) h3 h4)
            have hq2 : Hd (((qs ++ [((⟨p, K⟩, Value.slice ap lp cp) : Grp × Value)]) ++ [((g, Value.slice av lv cv) : Grp × Value)]).length ≤ k + 1 + if true = true then 1 else 0) := ⟨by have := hq4.out; rw [List.length_append, if_pos rfl]; simp only [List.length_singleton]; omega⟩
            clear h2 h3 h4 hO4 hq4 hql0 f0' f1'
            go_wp2
            go_roundw
            case rel => first | exact ⟨k + 1, true, _, by omega, by go_num, rfl, hq2, hO2, hA2⟩ | ((repeat apply Exists.intro); exact ⟨⟨k + 1, true, _, by omega, by go_num, rfl, hq2, hO2, hA2⟩, rfl⟩)
            case measure => simp [intOf]; omega
    · obtain rfl : k = len := by omega
      have hdn : (grps ps).drop k = [] := List.drop_of_length_le (by rw [grps_length, hlen.out]; exact Nat.le_refl _)
      have hA' := hA.out
      rw [hdn] at hA'
      have hq1 : Hd (qs.length + 1 ≤ maxLen ∧ (qs.length + 1) * 32 ≤ 140737488355328) := ⟨by have := hql.out; have hm : maxLen = 9223372036854775807 := rfl; split at this <;> omega⟩
      clear hdn hA hql
      cases done with
      | true =>
        have hv : Hd (grps qs = addG (grps ps) p K) := ⟨by rw [hA', if_pos rfl, List.append_nil]⟩
        clear hA'
        go_wp2
        go_ret
        exact ⟨_, qs, rfl, hO.out, hv.out⟩
      | false =>
        have hv : Hd (grps (qs ++ [((⟨p, K⟩, Value.slice ap lp cp) : Grp × Value)]) = addG (grps ps) p K) := ⟨by rw [hA', if_neg (by decide), grps_append]; simp [grps, addG]⟩
        clear hA'
        go_wp2_with (at_builtin; refine wpList_append_lit _ rfl _ _ 27 rfl 67 2 32 TGrps _ _ _ rfl hO.out.own 1 [_, _] rfl rfl ?c1 ?c2 ?c3 ?_)
        case c1 => simp [Value.oneCell']
        case c2 => exact hq1.out.1
        case c3 => exact hq1.out.2
        intro v' w4 h2 h3 h4 _
        have hO4 := hid (hO.out.add ⟨p, K⟩ (.slice ap lp cp) hp.out h2 h3 h4)
        clear h2 h3 h4 hO
        go_wp2
        go_ret
        exact ⟨_, _, rfl, hO4.out, hv.out⟩
end Go.Proofs.Ytmigdhbolbhbeaa
