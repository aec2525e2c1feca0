/- Made piles once more, as groups of their own (printed by gen_gen4.py). -/
import Derived.Test.YtaobaaaihgahfaaGreatGenQ
namespace Go.Proofs.YtaobaaaihgahfaaGreat
open Go.RowKit Go.Mk Go.Pil
/-- A list of groups of its own, whose preferences are those of an older world. -/
structure OwGA (A : Value → Prop) (w w' : World) (v : Value) (qs : List (Grp × Value)) : Prop where
  own : w'.ownsRow 0 105 2 v qs.length (flatG qs)
  old : ∀ x ∈ qs, RdZ w x.2 x.1.p ∧ A x.2
  kept : Kept no w w'
  new : New w v
theorem OwGA.rd {A : Value → Prop} {w w' : World} {v : Value} {qs : List (Grp × Value)} (h : OwGA A w w' v qs) : RdG w' v qs := own_RdG h.own fun x hx => (h.old x hx).1.kept h.kept
theorem OwGA.keptNo {A : Value → Prop} {w w' w2 : World} {v : Value} {qs : List (Grp × Value)} (h : OwGA A w w' v qs) (k : Kept no w' w2) : OwGA A w w2 v qs := ⟨k.ownsRow h.own fun _ _ => id, h.old, h.kept.trans' k, h.new⟩
theorem OwGA.nil (A : Value → Prop) (w : World) : OwGA A w w (.slice none 0 0) [] := ⟨World.ownsRow_nil _ _ _ _, (fun x hx => by cases hx), Kept.refl _ _, .inl rfl⟩
theorem OwGA.add {A : Value → Prop} {w w1 w2 : World} {v v' : Value} {qs : List (Grp × Value)} (h : OwGA A w w1 v qs) (g : Grp) (u : Value) (hu : RdZ w u g.p ∧ A u) (ho : w2.ownsRow 0 105 2 v' (qs.length + 1) (flatG qs ++ [u, .int .i64 g.n])) (hk : Kept (ob v) w1 w2) (hn : NewOr w1 v v') : OwGA A w w2 v' (qs ++ [(g, u)]) :=
  ⟨by rw [List.length_append, flatG_append, flatG_one]; exact ho, (fun x hx => by
    rcases List.mem_append.1 hx with hx | hx
    · exact h.old x hx
    · obtain rfl : x = (g, u) := by simpa using hx
      exact hu), h.new.kept h.kept hk, h.new.step hn h.kept.size⟩
/-- Groups of their own whose preferences lie in new memory too. -/
structure OwN (w w' : World) (v : Value) (qs : List (Grp × Value)) : Prop where
  own : w'.ownsRow 0 105 2 v qs.length (flatG qs)
  rows : ∀ x ∈ qs, RdZ w' x.2 x.1.p ∧ New w x.2
  kept : Kept no w w'
  new : New w v
theorem OwN.nil (w : World) : OwN w w (.slice none 0 0) [] := ⟨World.ownsRow_nil _ _ _ _, (fun x hx => by cases hx), Kept.refl _ _, .inl rfl⟩
theorem OwN.rd {w w' : World} {v : Value} {qs : List (Grp × Value)} (h : OwN w w' v qs) : RdG w' v qs := own_RdG h.own fun x hx => (h.rows x hx).1
theorem OwN.keptNo {w w' w2 : World} {v : Value} {qs : List (Grp × Value)} (h : OwN w w' v qs) (k : Kept no w' w2) : OwN w w2 v qs := ⟨k.ownsRow h.own fun _ _ => id, fun x hx => ⟨(h.rows x hx).1.kept k, (h.rows x hx).2⟩, h.kept.trans' k, h.new⟩
theorem OwN.from_ {w0 w w' : World} {v : Value} {qs : List (Grp × Value)} (h : OwN w w' v qs) (k : Kept no w0 w) : OwN w0 w' v qs := ⟨h.own, fun x hx => ⟨(h.rows x hx).1, (h.rows x hx).2.of k.size⟩, k.trans' h.kept, h.new.of k.size⟩
/-- What is written below the new memory does not touch them. -/
theorem OwN.rdS {w w' W : World} {v : Value} {qs : List (Grp × Value)} {S : Nat → Prop} (h : OwN w w' v qs) (k : Kept S w' W) (hS : ∀ j, S j → j < w.heap.size) : RdG W v qs :=
  ⟨fun x hx => Rd.kept (h.rows x hx).1 k fun j hj hs => by have := (h.rows x hx).2.fr (Nat.le_refl _) j hj; have := hS j hs; omega, Rd.kept (Rd.of_own h.own) k fun j hj hs => by have := h.new.fr (Nat.le_refl _) j hj; have := hS j hs; omega⟩
end Go.Proofs.YtaobaaaihgahfaaGreat

/- pile.merge and pile.Make, as groups of their own (printed by gen_mergeo.py). -/
namespace Go.Proofs.YtaobaaaihgahfaaGreat
open Go.RowKit Go.Mk Go.Pil
set_option maxRecDepth 100000 in
set_option maxHeartbeats 4000000 in
theorem mergeO_any (A : Value → Prop) (v : Value) (ps : List (Grp × Value)) (w : World) (ho : w.ownsRow 0 105 2 v ps.length (flatG ps)) (hp : ∀ x ∈ ps, ∀ W, Kept (ob v) w W → RdZ W x.2 x.1.p) (hAp : ∀ x ∈ ps, A x.2) (hs : ps.length ≤ 100000) (hN : ∀ x ∈ ps, 0 ≤ x.1.n ∧ x.1.n ≤ 100000) :
    Calls Tryz.prog 48 #[v] w fun e w' => ∃ v' qs, e = .returned v' ∧ grps qs = pileOf (grps ps) ∧ w'.ownsRow 0 105 2 v' qs.length (flatG qs) ∧ (∀ x ∈ qs, RdZ w' x.2 x.1.p ∧ A x.2) ∧ Kept (ob v) w w' ∧ New w v' := by
  (have HS := hid (sort_any v ps w ho hp (by omega))); (have hbw : Hd (∀ j, v.ownBlock = some j → j < w.heap.size) := ⟨own_lt ho⟩); (obtain ⟨_, ao, cap, rfl, _, _⟩ := Rd.of_own ho); (replace ho := hid ho); (replace hp := hid hp); (replace hN := hid hN)
  go_enter Tryz.func48, Tryz.ntmps48
  (go_wp2_with fail); (refine HS.out.mono ?_); (rintro e w1 ⟨rfl, ss, hperm, hsrt, ho1, k1⟩); (clear HS); (have hlen : ss.length = ps.length := hperm.length_eq.symm); (have hfin : Hd (mergeG (grps ss) = pileOf (grps ps)) := ⟨merge_eq (hperm.map Prod.fst) (by unfold grps; rw [List.pairwise_map]; exact hsrt)⟩); (have hr1 : Hd (RdG w1 (.slice ao ps.length cap) ss) := ⟨own_RdG ho1 fun x hx => hp.out x (hperm.mem_iff.2 hx) w1 k1⟩); (have hA1 : Hd (∀ x ∈ ss, A x.2) := ⟨fun x hx => hAp x (hperm.mem_iff.2 hx)⟩); (have hN1 : Hd (∀ x ∈ ss, 0 ≤ x.1.n ∧ x.1.n ≤ 100000) := ⟨fun x hx => hN.out x (hperm.mem_iff.2 hx)⟩); (obtain ⟨len, hlen'⟩ : ∃ len, ss.length = len := ⟨_, rfl⟩); (have hs1 : len ≤ 100000 := by omega); (rw [show ps.length = len from by omega] at hr1 ⊢); (have hcap : len ≤ cap := by obtain ⟨_, _, e, h1, _⟩ := hr1.out.shape; cases e; omega); (replace hlen' := hid hlen'); (replace k1 := hid k1); (clear hAp ho1 hsrt hperm hlen ho hp hN hs); (go_wp2)
  go_loopw [3, 11] (fun out i wr => ∃ (k : Nat) (qs : List (Grp × Value)) (ao' : Option Addr) (cl : Nat), k ≤ len ∧ i = .int .i64 (k : Int) ∧ out = .slice ao' qs.length cl ∧ Hd (qs.length ≤ k) ∧ Hd (grps qs = ((grps ss).take k).foldl mstep []) ∧ Hd (∀ x ∈ qs, 0 ≤ x.1.n ∧ x.1.n ≤ (k : Int) * 100000) ∧ Hd (OwGA A w1 wr (.slice ao' qs.length cl) qs)) (fun _ i _ => len - (intOf i).toNat)
  case atStart => exact ⟨0, [], none, 0, by omega, rfl, rfl, ⟨by simp⟩, ⟨by simp [grps]⟩, ⟨fun x hx => by cases hx⟩, ⟨OwGA.nil A w1⟩⟩
  case round =>
    obtain ⟨k, qs, ao', cl, hk, rfl, rfl, hqk, hqs, hqN, hO⟩ := hrel
    by_cases hlt : k < len
    · (have hk1 : (k : Int) < (len : Int) := by omega); (have hk0 : (0 : Int) ≤ (k : Int) := by omega); (obtain ⟨b, o, g, vg, rfl, hel, c0, c1, hz⟩ := (hr1.out.kept hO.out.kept).at k (by rw [hlen'.out]; exact hlt)); (have hkl : k < ss.length := by rw [hlen'.out]; exact hlt); (have hz0 : RdZ w1 vg g.p := by have := hr1.out.1 _ (List.getElem_mem hkl); rwa [hel] at this); (have ha0 : A vg := by have := hA1.out _ (List.getElem_mem hkl); rwa [hel] at this); (have hgn := hN1.out _ (List.getElem_mem hkl)); (rw [hel] at hgn); (have hgk := grps_get _ hel)
      have hst : Hd (((grps ss).take (k + 1)).foldl mstep [] = mstep (((grps ss).take k).foldl mstep []) g) := ⟨by
        obtain ⟨h1, h2⟩ := List.getElem?_eq_some_iff.1 hgk
        rw [List.take_succ_eq_append_getElem h1, h2, List.foldl_append]; rfl⟩
      (obtain ⟨av, cv, rfl, _, _⟩ := Rd.shape2 hz); (obtain ⟨lv, hlv⟩ : ∃ lv, g.p.length = lv := ⟨_, rfl⟩); (rw [hlv] at c0 hz hz0 ha0); (replace ha0 := hid ha0); (obtain ⟨N, hNe⟩ : ∃ N, g.n = N := ⟨_, rfl⟩); (simp only at hgn); (rw [hNe] at c1 hgn); (obtain ⟨hg1, hg2⟩ := hgn); (replace hNe := hid hNe); (replace hz := hid hz); (replace hz0 := hid hz0); (replace hlv := hid hlv); (clear hel hgk hkl); (go_upto_region 6 with fail); (obtain ⟨w2, hw2, g2, k2⟩ := alloc_named wr (.cells #[.slice av lv cv, .int .i64 N] 105)); (rw [← hw2]); (have d0 : w2.cell? ⟨wr.heap.size, 0, none⟩ = some (.slice av lv cv) := by rw [cell_of_row w2 _ 0 _ _ _ g2]; rfl); (have d1 : w2.cell? ⟨wr.heap.size, 1, none⟩ = some (.int .i64 N) := by rw [cell_of_row w2 _ 1 _ _ _ g2]; rfl); (have hO2 := hid (hO.out.keptNo k2)); (have hbq : Hd (wr.heap.size < w2.heap.size ∧ ¬ ob (.slice ao' qs.length cl) wr.heap.size) := ⟨lt_of_heap g2, fun h => by have := own_lt hO.out.own _ h; omega⟩); (replace k2 := hid k2); (generalize wr.heap.size = q at d0 d1 hbq); (clear hw2 g2 hO c0 c1); (have hb1 : Hd (qs.length + 1 ≤ maxLen ∧ (qs.length + 1) * 32 ≤ 140737488355328) := ⟨by have := hqk.out; have hm : maxLen = 9223372036854775807 := rfl; omega⟩)
      rcases List.eq_nil_or_concat qs with rfl | ⟨qs0, ⟨l, ul⟩, rfl⟩
      · (have hd1 : IntKind.i64.wrap (((([] : List (Grp × Value)).length : Nat) : Int) - 1) = -1 := rfl); (have hA2 : Hd (grps ([] ++ [((g, Value.slice av lv cv) : Grp × Value)]) = ((grps ss).take (k + 1)).foldl mstep []) := ⟨by rw [hst.out, ← hqs.out]; rfl⟩)
        have hN2 : Hd (∀ x ∈ ([] ++ [((g, Value.slice av lv cv) : Grp × Value)]), 0 ≤ x.1.n ∧ x.1.n ≤ ((k + 1 : Nat) : Int) * 100000) := ⟨fun x hx => by
          obtain rfl : x = (g, Value.slice av lv cv) := by simpa using hx
          simp only; rw [hNe.out]; omega⟩
        (have hq2 : Hd (([] ++ [((g, Value.slice av lv cv) : Grp × Value)]).length ≤ k + 1) := ⟨by simp⟩); (clear hst hqs hqN); (go_upto_region 7 with fail); (go_quiet (fail)); (have hO3 := hid (hO2.out.keptNo ((Kept.refl no w2).drewN nq))); (have e0 : (w2.drewN nq).cell? ⟨q, 0, none⟩ = some (.slice av lv cv) := d0); (have e1 : (w2.drewN nq).cell? ⟨q, 1, none⟩ = some (.int .i64 N) := d1); (clear d0 d1 hO2); (go_wp2_with (at_builtin; refine wpList_append_lit _ rfl _ _ 29 rfl 105 2 32 TGrps _ _ _ rfl hO3.out.own 1 [_, _] rfl rfl ?c1 ?c2 ?c3 ?_))
        case c1 => simp [Value.oneCell']
        case c2 => exact hb1.out.1
        case c3 => exact hb1.out.2
        (intro v' w3 h2 h3 h4 _); (have hO4 := hid (hO3.out.add g (.slice av lv cv) ⟨hz0.out, ha0.out⟩ (by rw [hNe.out]; exact h2) h3 h4)); (obtain ⟨a6, c6, rfl⟩ : ∃ a c, v' = .slice a (([] ++ [((g, Value.slice av lv cv) : Grp × Value)]).length) c := by obtain ⟨_, a, c, e, _⟩ := Rd.of_own hO4.out.own; exact ⟨a, c, e⟩); (clear h2 h3 h4 hO3 e0 e1); (go_wp2); (go_roundw)
        case rel => first | exact ⟨k + 1, _, a6, c6, by omega, by go_num, rfl, hq2, hA2, hN2, hO4⟩ | ((repeat apply Exists.intro); exact ⟨⟨k + 1, _, a6, c6, by omega, by go_num, rfl, hq2, hA2, hN2, hO4⟩, rfl⟩)
        case measure => simp [intOf]; omega
      · (rw [List.concat_eq_append] at *); (have hql : (qs0 ++ [(l, ul)]).length = qs0.length + 1 := by simp); (rw [hql] at hO2 hbq hb1 hqk ⊢); (obtain ⟨m, hm⟩ : ∃ m, qs0.length = m := ⟨_, rfl⟩); (rw [hm] at hO2 hbq hb1 hqk ⊢); (replace hm := hid hm); (have hmk : (m : Int) + 1 ≤ 100000 := by have := hqk.out; omega); (have hd1 : IntKind.i64.wrap (((m + 1 : Nat) : Int) - 1) = (m : Int) := by rw [IntWalk.i64_in _ (by omega)]; omega); (have hm0 : (0 : Int) ≤ (m : Int) := by omega); (have hm1 : (m : Int) < ((m + 1 : Nat) : Int) := by omega); (have hmd : decide ((0 : Int) ≤ (m : Int)) = true := decide_eq_true hm0); (obtain ⟨bo, oo, l', ul', rfl, hel', f0, f1, hzl⟩ := (show RdG w2 (.slice ao' (m + 1) cl) (qs0 ++ [(l, ul)]) from by have := hO2.out.rd; exact this).at m (by rw [hql, hm.out]; omega))
        obtain ⟨rfl, rfl⟩ : l' = l ∧ ul' = ul := by
          (have e : (qs0 ++ [(l, ul)])[m]'(by rw [hql, hm.out]; omega) = (l, ul) := by simp [← hm.out]); (rw [e] at hel'); (simp only [Prod.mk.injEq] at hel'); (exact ⟨hel'.1.symm, hel'.2.symm⟩)
        (have hlN := hqN.out (l', ul') (by simp)); (simp only at hlN); (clear hel'); (obtain ⟨al, cll, rfl, _, _⟩ := Rd.shape2 hzl); (obtain ⟨ll, hll⟩ : ∃ ll, l'.p.length = ll := ⟨_, rfl⟩); (rw [hll] at f0 hzl hO2 hqN hql); (have hzl1 : Hd (RdZ w1 (.slice al ll cll) l'.p ∧ A (.slice al ll cll)) := ⟨hO2.out.old (l', .slice al ll cll) (by simp)⟩); (have HE := hid (Qt.quiet (w := w2) fun W (kw : Qt w2 W) => equal_any (.slice al ll cll) (.slice av lv cv) l'.p g.p W (hzl.kept kw.kept) ((hz.out.kept k2.out).kept kw.kept))); (obtain ⟨LN, hLN⟩ : ∃ LN, l'.n = LN := ⟨_, rfl⟩); (rw [hLN] at f1 hlN); (replace hLN := hid hLN); (replace hll := hid hll); (clear hzl); (go_upto_region 7 with fail)
        by_cases he : l'.p = g.p
        · (rw [decide_eq_true he] at HE); (have hkM : (k : Int) * 100000 ≤ 10000000000 := by omega); (have hsum : IntKind.i64.wrap (LN + N) = LN + N := IntWalk.i64_in _ (by omega))
          have hA2 : Hd (grps (qs0 ++ [((⟨l'.p, LN + N⟩, Value.slice al ll cll) : Grp × Value)]) = ((grps ss).take (k + 1)).foldl mstep []) := ⟨by
            (rw [hst.out, ← hqs.out]); (unfold mstep); (simp only [grps, List.map_append, List.map_cons, List.map_nil, List.getLast?_concat, List.dropLast_concat])
            rw [if_pos he, hNe.out, hLN.out]⟩
          have hN2 : Hd (∀ x ∈ (qs0 ++ [((⟨l'.p, LN + N⟩, Value.slice al ll cll) : Grp × Value)]), 0 ≤ x.1.n ∧ x.1.n ≤ ((k + 1 : Nat) : Int) * 100000) := ⟨fun x hx => by
            rcases List.mem_append.1 hx with hx | hx
            · have := hqN.out x (by simp [hx]); omega
            · obtain rfl : x = (⟨l'.p, LN + N⟩, Value.slice al ll cll) := by simpa using hx
              simp only; omega⟩
          (have hq2 : Hd ((qs0 ++ [((⟨l'.p, LN + N⟩, Value.slice al ll cll) : Grp × Value)]).length ≤ k + 1) := ⟨by rw [List.length_append, hm.out]; have := hqk.out; simp only [List.length_singleton]; omega⟩); (clear hst hqs hqN he); (go_quiet ((go_at_call 80; exact HE.out _))); (have hO3 := hid (hO2.out.keptNo ((Kept.refl no w2).drewN nq))); (have e1 : Hd ((w2.drewN nq).cell? ⟨q, 1, none⟩ = some (.int .i64 N)) := ⟨d1⟩); (have h1 : Hd ((w2.drewN nq).cell? ⟨bo, oo + m * 2 + 1, none⟩ = some (.int .i64 LN)) := ⟨f1⟩)
          have hoo : oo = 0 := by
            obtain ⟨_, ⟨h, _⟩ | ⟨_, _, _, h, _⟩⟩ := hO3.out.own
            · cases (Value.slice.inj h).1
            · exact (Addr.mk.inj (Option.some.inj (Value.slice.inj h).1)).2.1
          (subst hoo); (rw [Nat.zero_add] at h1)
          have hfr : Hd (∀ W, Kept no (w2.drewN nq) W → W.frozen? ⟨bo, m * 2 + 1, none⟩ = false) := ⟨fun W kw => by
            obtain ⟨_, ⟨h, _⟩ | ⟨_, _, _, h, _, hgb, _⟩⟩ := (kw.ownsRow hO3.out.own fun _ _ => id)
            · cases (Value.slice.inj h).1
            · rw [(Addr.mk.inj (Option.some.inj (Value.slice.inj h).1)).1]; exact row_free hgb _⟩
          (generalize w2.drewN nq = w3 at hO3 e1 h1 hfr ⊢); (clear d0 d1 f0 f1 hO2 HE); (go_upto_region 8 with fail); (refine region_flow (S := (fun j => j = bo)) (Sl := (fun _ => (fun j => j = bo))) [Is (.slice (some ⟨bo, 0, none⟩) (m + 1) cl), Is (.int .i64 (m : Int)), Is (.pointer (some ⟨bo, m * 2, none⟩)), Is (.pointer (some ⟨bo, m * 2 + 1, none⟩)), Is (.int .i64 LN), Is (.pointer (some ⟨q, 1, none⟩)), Is (.int .i64 N), Is (.int .i64 (LN + N)), Is (.pointer (some ⟨bo, m * 2, none⟩)), Is (.pointer (some ⟨bo, m * 2 + 1, none⟩)), PUn w3 bo (m * 2 + 1) (.int .i64 (LN + N))] [10] (fun _ _ h => h) _ (by kernel_rfl) (by kernel_rfl) (by kernel_rfl) (by kernel_rfl) (fun x => by simp only [puts, Act.put, List.map_cons, List.map_nil, Nat.zero_add, Nat.reduceAdd, List.setIfInBounds_toArray, List.set_cons_zero, List.set_cons_succ]; exact rfl) ?_ ?_)
          · (skip); (refine Steps.cons (fun x wf Kk hq hdep hold => ?_) ?_)
            · (try dsimp only); (clear hq hdep hold); (rw [if_pos (by rfl)]); (refine OpY.val (v := (.slice (some ⟨bo, 0, none⟩) (m + 1) cl)) ?_ ⟨Kept.refl _ _, rfl⟩); (first | rfl | go_simp)
            refine Steps.cons (fun x wf Kk hq hdep hold => ?_) ?_
            · (try dsimp only); (clear hq hdep hold); (rw [if_pos (by rfl)]); (refine OpY.val (v := (.int .i64 (m : Int))) ?_ ⟨Kept.refl _ _, rfl⟩); (first | rfl | go_simp)
            refine Steps.cons (fun x wf Kk hq hdep hold => ?_) ?_
            · (try dsimp only); (have h0 : x 0 = (.slice (some ⟨bo, 0, none⟩) (m + 1) cl) := hdep 0 (by kernel_rfl)); (have h1 : x 1 = (.int .i64 (m : Int)) := hdep 1 (by kernel_rfl)); (clear hq hdep hold); (simp only [h0, h1]); (clear h0 h1); (have hm9 : ¬ ((m : Int) + 1 ≤ (m : Int)) := by omega); (have hm8 : (m : Int) < (m : Int) + 1 := by omega); (rw [if_pos (by rfl)]); (refine OpY.val (v := (.pointer (some ⟨bo, m * 2, none⟩))) ?_ ⟨Kept.refl _ _, rfl⟩); (first | rfl | go_simp)
            refine Steps.cons (fun x wf Kk hq hdep hold => ?_) ?_
            · (try dsimp only); (have h2 : x 2 = (.pointer (some ⟨bo, m * 2, none⟩)) := hdep 2 (by kernel_rfl)); (clear hq hdep hold); (simp only [h2]); (clear h2); (rw [if_pos (by rfl)]); (refine OpY.val (v := (.pointer (some ⟨bo, m * 2 + 1, none⟩))) ?_ ⟨Kept.refl _ _, rfl⟩); (first | rfl | go_simp)
            refine Steps.cons (fun x wf Kk hq hdep hold => ?_) ?_
            · (try dsimp only); (have h3 : x 3 = (.pointer (some ⟨bo, m * 2 + 1, none⟩)) := hdep 3 (by kernel_rfl)); (have Kq := hq no (fun j hj => by cases (show j ∈ ([] : List Nat) from by (have e : ∀ l : List Nat, l = [] → j ∈ l → j ∈ ([] : List Nat) := fun l h h2 => h ▸ h2); exact e _ (by kernel_rfl) hj))); (clear hq hdep hold); (simp only [h3]); (clear h3); (have cv := Kq.undrew.cell h1.out id); (rw [if_pos (by rfl)]); (refine OpY.val (v := (.int .i64 LN)) ?_ ⟨Kept.refl _ _, rfl⟩); (first | rfl | go_simp)
            refine Steps.cons (fun x wf Kk hq hdep hold => ?_) ?_
            · (try dsimp only); (clear hq hdep hold); (rw [if_pos (by rfl)]); (refine OpY.val (v := (.pointer (some ⟨q, 1, none⟩))) ?_ ⟨Kept.refl _ _, rfl⟩); (first | rfl | go_simp)
            refine Steps.cons (fun x wf Kk hq hdep hold => ?_) ?_
            · (try dsimp only); (have h5 : x 5 = (.pointer (some ⟨q, 1, none⟩)) := hdep 5 (by kernel_rfl)); (have Kq := hq no (fun j hj => by cases (show j ∈ ([] : List Nat) from by (have e : ∀ l : List Nat, l = [] → j ∈ l → j ∈ ([] : List Nat) := fun l h h2 => h ▸ h2); exact e _ (by kernel_rfl) hj))); (clear hq hdep hold); (simp only [h5]); (clear h5); (have cv := Kq.undrew.cell e1.out id); (rw [if_pos (by rfl)]); (refine OpY.val (v := (.int .i64 N)) ?_ ⟨Kept.refl _ _, rfl⟩); (first | rfl | go_simp)
            refine Steps.cons (fun x wf Kk hq hdep hold => ?_) ?_
            · (try dsimp only); (have h4 : x 4 = (.int .i64 LN) := hdep 4 (by kernel_rfl)); (have h6 : x 6 = (.int .i64 N) := hdep 6 (by kernel_rfl)); (clear hq hdep hold); (simp only [h4, h6]); (clear h4 h6); (rw [if_pos (by rfl)]); (refine OpY.val (v := (.int .i64 (LN + N))) ?_ ⟨Kept.refl _ _, rfl⟩); (first | rfl | go_simp)
            refine Steps.cons (fun x wf Kk hq hdep hold => ?_) ?_
            · (try dsimp only); (have h0 : x 0 = (.slice (some ⟨bo, 0, none⟩) (m + 1) cl) := hdep 0 (by kernel_rfl)); (have h1 : x 1 = (.int .i64 (m : Int)) := hdep 1 (by kernel_rfl)); (clear hq hdep hold); (simp only [h0, h1]); (clear h0 h1); (have hm9 : ¬ ((m : Int) + 1 ≤ (m : Int)) := by omega); (have hm8 : (m : Int) < (m : Int) + 1 := by omega); (rw [if_pos (by rfl)]); (refine OpY.val (v := (.pointer (some ⟨bo, m * 2, none⟩))) ?_ ⟨Kept.refl _ _, rfl⟩); (first | rfl | go_simp)
            refine Steps.cons (fun x wf Kk hq hdep hold => ?_) ?_
            · (try dsimp only); (have h8 : x 8 = (.pointer (some ⟨bo, m * 2, none⟩)) := hdep 8 (by kernel_rfl)); (clear hq hdep hold); (simp only [h8]); (clear h8); (rw [if_pos (by rfl)]); (refine OpY.val (v := (.pointer (some ⟨bo, m * 2 + 1, none⟩))) ?_ ⟨Kept.refl _ _, rfl⟩); (first | rfl | go_simp)
            refine Steps.cons (fun x wf Kk hq hdep hold => ?_) ?_
            · (try dsimp only); (have h9 : x 9 = (.pointer (some ⟨bo, m * 2 + 1, none⟩)) := hdep 9 (by kernel_rfl)); (have h7 : x 7 = (.int .i64 (LN + N)) := hdep 7 (by kernel_rfl)); (have Kq := hq no (fun j hj => by cases (show j ∈ ([] : List Nat) from by (have e : ∀ l : List Nat, l = [] → j ∈ l → j ∈ ([] : List Nat) := fun l h h2 => h ▸ h2); exact e _ (by kernel_rfl) hj))); (clear hq hdep hold); (simp only [h9, h7]); (clear h9 h7); (rw [if_pos (by rfl)]); (have kq := Kq.undrew); (have hc1 := kq.cell h1.out id); (have hc2 := hfr.out _ kq); (refine OpY.skipZ (w' := wf.setCell ⟨bo, m * 2 + 1, none⟩ (.int .i64 (LN + N))) (by go_simp) ⟨(Kept.refl (fun j => j = bo) wf).setCell (a := ⟨bo, m * 2 + 1, none⟩) (.inl rfl) _, wf, kq, Kept.refl _ _⟩)
            exact Steps.nil _
          · (intro x wf Kk hv); (try dsimp only); (have h0 : x 0 = (.slice (some ⟨bo, 0, none⟩) (m + 1) cl) := hv 0 (by kernel_rfl)); (have h1 : x 1 = (.int .i64 (m : Int)) := hv 1 (by kernel_rfl)); (have h2 : x 2 = (.pointer (some ⟨bo, m * 2, none⟩)) := hv 2 (by kernel_rfl)); (have h3 : x 3 = (.pointer (some ⟨bo, m * 2 + 1, none⟩)) := hv 3 (by kernel_rfl)); (have h4 : x 4 = (.int .i64 LN) := hv 4 (by kernel_rfl)); (have h5 : x 5 = (.pointer (some ⟨q, 1, none⟩)) := hv 5 (by kernel_rfl)); (have h6 : x 6 = (.int .i64 N) := hv 6 (by kernel_rfl)); (have h7 : x 7 = (.int .i64 (LN + N)) := hv 7 (by kernel_rfl)); (have h8 : x 8 = (.pointer (some ⟨bo, m * 2, none⟩)) := hv 8 (by kernel_rfl)); (have h9 : x 9 = (.pointer (some ⟨bo, m * 2 + 1, none⟩)) := hv 9 (by kernel_rfl)); (have p10 : Pr.p (Sl := (fun _ => (fun j => j = bo))) (PUn w3 bo (m * 2 + 1) (.int .i64 (LN + N))) (x 10) wf := hv 10 (by kernel_rfl)); (clear hv); (simp only [h0, h1, h2, h3, h4, h5, h6, h7, h8, h9]); (clear h0 h1 h2 h3 h4 h5 h6 h7 h8 h9); (obtain ⟨wm, km, kn⟩ := p10)
            have hO4 : OwGA A w1 (wm.setCell ⟨bo, m * 2 + 1, none⟩ (.int .i64 (LN + N))) (.slice (some ⟨bo, 0, none⟩) (m + 1) cl) (qs0 ++ [((⟨l'.p, LN + N⟩, Value.slice al ll cll) : Grp × Value)]) := by
              (have h := hO3.out.keptNo km); (refine ⟨?_, fun x hx => ?_, h.new.kept h.kept ((Kept.refl (ob (.slice (some ⟨bo, 0, none⟩) (m + 1) cl)) wm).setCell (a := ⟨bo, m * 2 + 1, none⟩) (.inl rfl) _), h.new⟩)
              · (have := own_set (v := .int .i64 (LN + N)) (i := m * 2 + 1) (show wm.ownsRow 0 105 2 (.slice (some ⟨bo, 0, none⟩) (m + 1) cl) (m + 1) (flatG (qs0 ++ [(l', Value.slice al ll cll)])) from by have := h.own; rwa [List.length_append, hm.out] at this)); (rw [← hm.out, flatG_set] at this); (rw [List.length_append, List.length_singleton, ← hm.out]); (exact this)
              · rcases List.mem_append.1 hx with hx | hx
                · exact h.old x (by simp [hx])
                · (obtain rfl : x = (⟨l'.p, LN + N⟩, Value.slice al ll cll) := by simpa using hx); (exact hzl1.out)
            (have hO5 : Hd (OwGA A w1 wf (.slice (some ⟨bo, 0, none⟩) ((qs0 ++ [((⟨l'.p, LN + N⟩, Value.slice al ll cll) : Grp × Value)]).length) cl) (qs0 ++ [((⟨l'.p, LN + N⟩, Value.slice al ll cll) : Grp × Value)])) := ⟨by rw [List.length_append, List.length_singleton, hm.out]; exact hO4.keptNo kn⟩); (have hlq : (qs0 ++ [((⟨l'.p, LN + N⟩, Value.slice al ll cll) : Grp × Value)]).length = m + 1 := by rw [List.length_append, List.length_singleton, hm.out]); (clear hO4 km kn hO3 Kk e1 h1 hfr); (obtain ⟨QS, hQS⟩ : ∃ QS, (qs0 ++ [((⟨l'.p, LN + N⟩, Value.slice al ll cll) : Grp × Value)]) = QS := ⟨_, rfl⟩); (rw [hQS] at hO5 hA2 hN2 hq2 hlq); (replace hlq := hid hlq); (clear hQS); (go_wp2); (go_roundw)
            case rel => first | exact ⟨k + 1, QS, _, cl, by omega, by go_num, by rw [hlq.out], hq2, hA2, hN2, hO5⟩ | ((repeat apply Exists.intro); exact ⟨⟨k + 1, QS, _, cl, by omega, by go_num, by rw [hlq.out], hq2, hA2, hN2, hO5⟩, rfl⟩)
            case measure => simp [intOf]; omega
        · rw [decide_eq_false he] at HE
          have hA2 : Hd (grps ((qs0 ++ [((l', Value.slice al ll cll) : Grp × Value)]) ++ [((g, Value.slice av lv cv) : Grp × Value)]) = ((grps ss).take (k + 1)).foldl mstep []) := ⟨by
            (rw [hst.out, ← hqs.out]); (unfold mstep); (simp only [grps, List.map_append, List.map_cons, List.map_nil, List.getLast?_concat])
            rw [if_neg he]⟩
          have hN2 : Hd (∀ x ∈ ((qs0 ++ [((l', Value.slice al ll cll) : Grp × Value)]) ++ [((g, Value.slice av lv cv) : Grp × Value)]), 0 ≤ x.1.n ∧ x.1.n ≤ ((k + 1 : Nat) : Int) * 100000) := ⟨fun x hx => by
            rcases List.mem_append.1 hx with hx | hx
            · have := hqN.out x hx; omega
            · obtain rfl : x = (g, Value.slice av lv cv) := by simpa using hx
              simp only; rw [hNe.out]; omega⟩
          (have hq2 : Hd (((qs0 ++ [((l', Value.slice al ll cll) : Grp × Value)]) ++ [((g, Value.slice av lv cv) : Grp × Value)]).length ≤ k + 1) := ⟨by rw [List.length_append, List.length_append, hm.out]; have := hqk.out; simp only [List.length_singleton]; omega⟩); (clear hst hqs hqN he); (go_quiet ((go_at_call 80; exact HE.out _))); (have hO3 := hid (hO2.out.keptNo ((Kept.refl no w2).drewN nq))); (have e0 : (w2.drewN nq).cell? ⟨q, 0, none⟩ = some (.slice av lv cv) := d0); (have e1 : (w2.drewN nq).cell? ⟨q, 1, none⟩ = some (.int .i64 N) := d1); (have hO3o : Hd ((w2.drewN nq).ownsRow 0 105 2 (.slice (some ⟨bo, oo, none⟩) (m + 1) cl) (m + 1) (flatG (qs0 ++ [(l', Value.slice al ll cll)]))) := ⟨by have := hO3.out.own; rwa [List.length_append, List.length_singleton, hm.out] at this⟩); (clear d0 d1 hO2 HE f0 f1); (go_wp2_with (at_builtin; refine wpList_append_lit _ rfl _ _ 29 rfl 105 2 32 TGrps _ _ _ rfl hO3o.out 1 [_, _] rfl rfl ?c1 ?c2 ?c3 ?_))
          case c1 => simp [Value.oneCell']
          case c2 => exact hb1.out.1
          case c3 => exact hb1.out.2
          (intro v' w4 h2 h3 h4 _); (have hO4 := hid (hO3.out.add g (.slice av lv cv) ⟨hz0.out, ha0.out⟩ (by rw [hNe.out, List.length_append, List.length_singleton, hm.out]; exact h2) h3 h4)); (obtain ⟨a6, c6, rfl⟩ : ∃ a c, v' = .slice a (((qs0 ++ [((l', Value.slice al ll cll) : Grp × Value)]) ++ [((g, Value.slice av lv cv) : Grp × Value)]).length) c := by obtain ⟨_, a, c, e, _⟩ := Rd.of_own hO4.out.own; exact ⟨a, c, e⟩); (clear h2 h3 h4 hO3 e0 e1 hO3o); (go_wp2); (go_roundw)
          case rel => first | exact ⟨k + 1, _, a6, c6, by omega, by go_num, rfl, hq2, hA2, hN2, hO4⟩ | ((repeat apply Exists.intro); exact ⟨⟨k + 1, _, a6, c6, by omega, by go_num, rfl, hq2, hA2, hN2, hO4⟩, rfl⟩)
          case measure => simp [intOf]; omega
    · obtain rfl : k = len := by omega
      have hv : Hd (grps qs = pileOf (grps ps)) := ⟨by
        rw [hqs.out, List.take_of_length_le (by rw [grps_length, hlen'.out]; exact Nat.le_refl _)]; exact hfin.out⟩
      (have hK : Hd (Kept (ob (.slice ao ps.length cap)) w wr) := ⟨k1.out.trans' hO.out.kept⟩); (have hNw : Hd (New w (.slice ao' qs.length cl)) := ⟨hO.out.new.of k1.out.size⟩); (have hrd : Hd (∀ x ∈ qs, RdZ wr x.2 x.1.p ∧ A x.2) := ⟨fun x hx => ⟨(hO.out.old x hx).1.kept hO.out.kept, (hO.out.old x hx).2⟩⟩); (have hown := hid hO.out.own); (clear hO hqs hqN hqk); (go_wp2); (go_ret); (exact ⟨_, qs, rfl, hv.out, hown.out, hrd.out, hK.out, hNw.out⟩)
set_option maxRecDepth 100000 in
set_option maxHeartbeats 2000000 in
theorem makeO_any (n : Int) (v : Value) (bs : List (List Int × Value)) (w : World) (hr : RdB w v bs) : Calls Tryz.prog 14 #[.int .i64 n, v] w fun e w' => ∃ v', e = .returned (.tuple #[v', .int .i64 (mk n (lists bs)).2]) ∧ ∃ qs, grps qs = (mk n (lists bs)).1 ∧ OwN w w' v' qs := by
  (obtain ⟨ao, cap, rfl, hcap, hcm⟩ := Rd.shape2 hr.2); (have hm63 := maxLen_63); (have nilGR : ∀ W, Kept no w W → ∃ qs, grps qs = [] ∧ OwN w W (.slice none 0 0) qs := fun W k => ⟨[], rfl, (OwN.nil w).keptNo k⟩)
  by_cases hn : n < 1 ∨ 7 < n
  · (have hv : Hd (mk n (lists bs) = ([], 4)) := ⟨by unfold mk; rw [if_pos hn]⟩); (rw [hv.out])
    by_cases h1 : n < 1
    · (have hd1 : decide (n < 1) = true := decide_eq_true h1); (clear hr hn hv)
      go_enter Tryz.func14, Tryz.ntmps14
      (go_wp2); (go_ret2); (exact ⟨_, rfl, nilGR _ (Kept.refl _ _)⟩)
    · (have hd1 : decide (n < 1) = false := decide_eq_false h1); (have h7 : 7 < n := by omega); (have hd7 : decide (7 < n) = true := decide_eq_true h7); (clear hr hn hv)
      go_enter Tryz.func14, Tryz.ntmps14
      (go_wp2); (go_ret2); (exact ⟨_, rfl, nilGR _ (Kept.refl _ _)⟩)
  (have hd1 : decide (n < 1) = false := decide_eq_false (by omega)); (have hd7 : decide (7 < n) = false := decide_eq_false (by omega)); (have hn1 : ¬ n < 1 := by omega); (have hn7 : ¬ 7 < n := by omega)
  by_cases hl : 100000 < bs.length
  · (have hv : Hd (mk n (lists bs) = ([], 7)) := ⟨by unfold mk; rw [if_neg hn, if_pos (by rw [lists_length]; exact hl)]⟩); (rw [hv.out]); (have hl' : (100000 : Int) < (bs.length : Int) := by omega); (clear hr hn hv)
    go_enter Tryz.func14, Tryz.ntmps14
    (go_wp2); (go_ret2); (exact ⟨_, rfl, nilGR _ (Kept.refl _ _)⟩)
  (have hl' : ¬ (100000 : Int) < (bs.length : Int) := by omega); (have hmk : Hd (mk n (lists bs) = if allB n (lists bs) = true then (pileOf (ones (lists bs)), 0) else ([], 8)) := ⟨by unfold mk; rw [if_neg hn, if_neg (by rw [lists_length]; exact hl)]⟩); (replace hr := hid hr); (clear hn); (obtain ⟨len, hlen⟩ : ∃ len, bs.length = len := ⟨_, rfl⟩); (rw [hlen] at hr hcap hl hl' ⊢); (replace hlen := hid hlen)
  go_enter Tryz.func14, Tryz.ntmps14
  go_wp2
  go_loopw [6, 20] (fun out i wr => ∃ (k : Nat) (qs : List (Grp × Value)), k ≤ len ∧ i = .int .i64 (k : Int) ∧ Hd (qs.length = k) ∧ Hd (grps qs = ones ((lists bs).take k)) ∧ Hd (allB n ((lists bs).take k) = true) ∧ Hd (OwC w wr out qs)) (fun _ i _ => len - (intOf i).toNat)
  case atStart => exact ⟨0, [], by omega, rfl, ⟨rfl⟩, ⟨rfl⟩, ⟨rfl⟩, ⟨OwC.nil w⟩⟩
  case round =>
    obtain ⟨k, qs, hk, rfl, hqk, hqs, hA, hO⟩ := hrel
    by_cases hlt : k < len
    · (have hk1 : (k : Int) < (len : Int) := by omega); (have hk0 : (0 : Int) ≤ (k : Int) := by omega); (obtain ⟨b, o, p, vp, rfl, hel, c0, hz⟩ := (hr.out.kept hO.out.kept).at k (by rw [hlen.out]; exact hlt)); (have hpk := hid (lists_get _ hel)); (have HB := hid (isballot_any n vp p wr (by omega) hz)); (replace hz := hid hz); (clear hel)
      cases hb : ballot n p with
      | false =>
        (have hv : Hd (mk n (lists bs) = ([], 8)) := ⟨by rw [hmk.out, allB_fail hpk.out hb, if_neg (by decide)]⟩); (rw [hb] at HB); (have hkp := hid hO.out.kept); (clear hb hmk hA hqs hqk hO hpk hz); (go_wp2_with fail); (refine HB.out.mono ?_); (rintro e w1 ⟨rfl, k1⟩); (have hk2 := hid (hkp.out.trans' k1)); (clear k1 HB hkp c0); (go_wp2); (go_ret2); (exact ⟨_, by rw [hv.out] <;> rfl, by rw [hv.out]; exact nilGR _ hk2.out⟩)
      | true =>
        (have hA' := hid (allB_take hpk.out hA.out hb)); (have hq' : Hd (∀ u : Value, grps (qs ++ [((⟨p, 1⟩ : Grp), u)]) = ones ((lists bs).take (k + 1))) := ⟨fun u => by rw [grps_append, hqs.out, ones_take hpk.out]; rfl⟩); (have hpl := ballot_len hb (by omega)); (rw [hb] at HB); (clear hb hA hqs hpk); (go_wp2_with fail); (refine HB.out.mono ?_); (rintro e w1 ⟨rfl, k1⟩); (have HC := hid (clonez_any vp p w1 (by omega) (hz.out.kept k1))); (have hO1 := hid (hO.out.keptNo k1)); (clear HB k1 hO c0); (go_wp2_with fail); (refine HC.out.mono ?_); (rintro e w2 ⟨u, rfl, hu, k2, nu⟩); (obtain ⟨au, cu, rfl, _, _⟩ := Rd.shape2 (own_RdZ hu)); (have hO2 := hid (hO1.out.keptNo k2)); (have hls : qs.length + 1 ≤ maxLen ∧ (qs.length + 1) * 32 ≤ 140737488355328 := by have := hqk.out; have hm : maxLen = 9223372036854775807 := rfl; omega); (replace hu := hid hu); (replace nu := hid nu); (replace k2 := hid k2); (clear HC hz); (go_wp2_with (at_builtin; refine wpList_append_lit _ rfl _ _ 29 rfl 105 2 32 TGrps _ _ _ rfl hO2.out.own 1 [_, _] rfl rfl ?c1 ?c2 ?c3 ?_))
        case c1 =>
          (intro y hy); (simp only [List.mem_cons, List.not_mem_nil, or_false] at hy)
          rcases hy with rfl | rfl
          · exact RdZ.one (own_RdZ hu.out)
          · rfl
        case c2 => exact hls.1
        case c3 => exact hls.2
        (intro v' w3 h2 h3 h4 _); (have hO3 := hid (hO1.out.add ⟨p, 1⟩ k2.out hu.out nu.out h2 h3 h4)); (have hq2 := hid (hq'.out (.slice au p.length cu))); (have hqk' : Hd ((qs ++ [((⟨p, 1⟩ : Grp), Value.slice au p.length cu)]).length = k + 1) := ⟨by rw [List.length_append, hqk.out]; rfl⟩); (clear h2 h3 h4 hO1 hO2 hq' hqk hu nu k2 hls hpl); (go_wp2); (go_roundw)
        case rel => first | exact ⟨k + 1, _, by omega, by go_num, hqk', hq2, hA', hO3⟩ | ((repeat apply Exists.intro); exact ⟨⟨k + 1, _, by omega, by go_num, hqk', hq2, hA', hO3⟩, rfl⟩)
        case measure => simp [intOf]; omega
    · (obtain rfl : k = len := by omega); (have hall : (lists bs).take k = lists bs := List.take_of_length_le (by rw [lists_length, hlen.out]; exact Nat.le_refl _))
      have hv : Hd (mk n (lists bs) = (pileOf (grps qs), 0)) := ⟨by
        (have h1 := hA.out); (have h2 := hqs.out); (rw [hall] at h1 h2)
        rw [hmk.out, h1, if_pos rfl, h2]⟩
      have hqn : Hd (∀ x ∈ qs, 0 ≤ x.1.n ∧ x.1.n ≤ 100000) := ⟨fun x hx => by
        (have : x.1 ∈ grps qs := List.mem_map_of_mem hx); (rw [hqs.out] at this); (obtain ⟨b, _, he⟩ := List.mem_map.1 this)
        rw [← he]; simp⟩
      (have HM := hid (mergeO_any (New w) u6 qs wr hO.out.own hO.out.rdAll hO.out.newr (by rw [hqk.out]; omega) hqn.out)); (clear hA hqs hmk hall hqn); (go_wp2_with fail); (refine HM.out.mono ?_); (rintro e w1 ⟨v', rs, rfl, hrs, ho1, hz1, k1, n1⟩); (have hG : Hd (∃ rs, grps rs = pileOf (grps qs) ∧ OwN w w1 v' rs) := ⟨rs, hrs, ho1, hz1, hO.out.new.kept hO.out.kept k1, n1.of hO.out.kept.size⟩); (clear hrs ho1 hz1 k1 n1 HM); (go_wp2); (go_ret2); (exact ⟨_, by rw [hv.out] <;> rfl, by rw [hv.out]; exact hG.out⟩)
end Go.Proofs.YtaobaaaihgahfaaGreat

