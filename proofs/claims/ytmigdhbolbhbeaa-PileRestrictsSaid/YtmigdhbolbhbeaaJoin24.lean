/- clone, Join of both packages (printed by gen_join.py). -/
import Derived.Test.YtmigdhbolbhbeaaGen3
import Derived.Test.YtmigdhbolbhbeaaCnt6
namespace Go.Pil
theorem addG_snoc {s : List Grp} {g : Grp} (h : ∀ x ∈ s, lt x.p g.p = true) : addG s g.p g.n = s ++ [g] := by
  induction s with
  | nil => rfl
  | cons x r ih =>
    simp only [addG]
    rw [if_pos (h x (by simp)), ih fun y hy => h y (by simp [hy])]; rfl
theorem add_srt (l : List Grp) : ∀ s : List Grp, Srt (s ++ l) → l.foldl (fun a g => addG a g.p g.n) s = s ++ l := by
  induction l with
  | nil => intro s _; simp
  | cons g l ih =>
    intro s h
    rw [List.foldl_cons]
    unfold Srt at h
    rw [List.pairwise_append] at h
    rw [addG_snoc fun x hx => h.2.2 x hx g (by simp)]
    rw [ih (s ++ [g])]
    · simp
    · unfold Srt
      rw [List.append_assoc]
      rw [List.pairwise_append]
      exact h
theorem pileOf_self {l : List Grp} (h : Srt l) : pileOf l = l := by
  have := add_srt l [] (by simpa using h)
  simpa [pileOf] using this
theorem pileOf_app (a b : List Grp) : pileOf (a ++ b) = b.foldl (fun a g => addG a g.p g.n) (pileOf a) := by unfold pileOf; rw [List.foldl_append]
/-- What Join answers. -/
def joinP (a b : List Grp) : List Grp × Int := if isPile 7 a = true ∧ isPile 7 b = true then (if 100000 < tot a + tot b then ([], 7) else (pileOf (a ++ b), 0)) else ([], 8)
theorem joinP_comm (a b : List Grp) : joinP a b = joinP b a := by
  unfold joinP
  by_cases h : isPile 7 a = true ∧ isPile 7 b = true
  · simp only [h.1, h.2, and_self, if_true]
    rw [Int.add_comm (tot b) (tot a), pileOf_perm (l := a ++ b) (l' := b ++ a) List.perm_append_comm]
  · rw [if_neg h, if_neg fun h' => h ⟨h'.2, h'.1⟩]
end Go.Pil
namespace Go.Proofs.Ytmigdhbolbhbeaa
open Go.RowKit Go.Mk Go.Pil
theorem OwZ.from_ {w0 w w' : World} {v : Value} {zs : List Int} (ho : w'.ownsRow 0 3 1 v zs.length (zs.map Z)) (k : Kept no w w') (n : New w v) (k0 : Kept no w0 w) : OwZ w0 w' v zs := ⟨ho, k0.trans' k, n.of k0.size⟩
theorem rng_mono {w w' : World} {g o : Nat} {xs : List Value} (h : w.rangeAt g o xs) (k : Kept no w w') : w'.rangeAt g o xs := k.rng h
/-- A group of one's own preferences, as a value. -/
def GrpV {Sl : Nat → Nat → Prop} (w0 : World) (p : List Int) (N : Int) : Pr Sl := soft (fun v w => ∃ u, v = .agg #[u, .int .i64 N] ∧ OwZ w0 w u p) fun _ _ _ ⟨u, e, h⟩ k => ⟨u, e, h.keptNo k⟩
/-- A slice of one such group. -/
def GrpS {Sl : Nat → Nat → Prop} (w0 : World) (p : List Int) (N : Int) : Pr Sl := soft (fun v w => ∃ g u, v = .slice (some ⟨g, 0, none⟩) 1 1 ∧ w.rangeAt g 0 [u, .int .i64 N] ∧ OwZ w0 w u p) fun _ _ _ ⟨g, u, e, h1, h2⟩ k => ⟨g, u, e, rng_mono h1 k, h2.keptNo k⟩
/-- The groups with one more. -/
def GrpM {Sl : Nat → Nat → Prop} (w : World) (qs : List (Grp × Value)) (g : Grp) : Pr Sl := soft (fun v w' => ∃ u, OwC w w' v (qs ++ [(g, u)])) fun _ _ _ ⟨u, h⟩ k => ⟨u, h.keptNo k⟩
theorem OwNew.mono' : True := trivial
/-- Groups that can be read. -/
def AddP {Sl : Nat → Nat → Prop} (gs : List Grp) : Pr Sl := soft (fun v w => ∃ rs, grps rs = gs ∧ RdG w v rs) fun _ _ _ ⟨rs, e, h⟩ k => ⟨rs, e, h.kept k⟩
def OwNw {Sl : Nat → Nat → Prop} (w0 : World) (zs : List Int) : Pr Sl := soft (fun v w => OwZ w0 w v zs) fun _ _ _ h k => h.keptNo k
theorem infGz : (Try.prog.info? 67).map (fun i => (i.zero, i.size)) = some (some (.agg #[.slice none 0 0, .int .i64 0]), 2) := by kernel_rfl
theorem two_fill (u : Value) (N : Int) : Instr.fill (fun i => some (i * 2, 2)) ((Array.range (1 * 2)).map ((Value.agg #[.slice none 0 0, .int .i64 0]).cells[· % (Value.agg #[.slice none 0 0, .int .i64 0]).cells.size]!)) [(0, .agg #[u, .int .i64 N])] = some [u, .int .i64 N].toArray :=
  fill_rows 2 (by decide) (Value.agg #[.slice none 0 0, .int .i64 0]) [.agg #[u, .int .i64 N]] (fun v hv => by obtain rfl := List.mem_singleton.1 hv; rfl)
theorem two_rd {w : World} {g : Nat} {u : Value} {N : Int} (h : w.rangeAt g 0 [u, .int .i64 N]) : Rd w 2 (.slice (some ⟨g, 0, none⟩) 1 1) 1 [u, .int .i64 N] :=
  ⟨rfl, _, 1, rfl, Nat.le_refl _, by decide, .inr ⟨g, 0, rfl, fun j x hj => h j x hj⟩⟩
theorem grpC_one {w : World} {ps : List (Grp × Value)} (h : ∀ x ∈ ps, RdZ w x.2 x.1.p) : ∀ u ∈ flatG ps, u.oneCell' = true := fun u hu => by
  obtain ⟨x, hx, hu⟩ := List.mem_flatMap.1 hu
  simp only [grpC, List.mem_cons, List.not_mem_nil, or_false] at hu
  rcases hu with rfl | rfl
  · exact (h x hx).one
  · rfl
set_option maxRecDepth 100000 in
set_option maxHeartbeats 4000000 in
theorem pclone_any (v : Value) (ps : List (Grp × Value)) (w : World) (hr : RdG w v ps) (hl : ps.length ≤ 100000 ∧ ∀ x ∈ ps, x.1.p.length ≤ 100000) : Calls Try.prog 65 #[v] w fun e w' => ∃ v' qs, e = .returned v' ∧ grps qs = grps ps ∧ OwC w w' v' qs := by
  obtain ⟨ao, cap, rfl, hcap, hcm⟩ := hr.shape
  have hm63 := maxLen_63
  obtain ⟨hl1, hl2⟩ := hl
  replace hl2 := hid hl2
  replace hr := hid hr
  obtain ⟨len, hlen⟩ : ∃ len, ps.length = len := ⟨_, rfl⟩
  rw [hlen] at hr hcap hl1 ⊢
  replace hlen := hid hlen
  go_enter Try.func65, Try.ntmps65
  go_wp2
  go_loopw [3, 8] (fun out i wr => ∃ (k : Nat) (qs : List (Grp × Value)), k ≤ len ∧ i = .int .i64 (k : Int) ∧ Hd (qs.length = k) ∧ Hd (grps qs = (grps ps).take k) ∧ Hd (OwC w wr out qs)) (fun _ i _ => len - (intOf i).toNat)
  case atStart => exact ⟨0, [], by omega, rfl, ⟨rfl⟩, ⟨rfl⟩, ⟨OwC.nil w⟩⟩
  case round =>
    obtain ⟨k, qs, hk, rfl, hqk, hqs, hO⟩ := hrel
    by_cases hlt : k < len
    · have hk1 : (k : Int) < (len : Int) := by omega
      have hk0 : (0 : Int) ≤ (k : Int) := by omega
      obtain ⟨b, o, g, vg, rfl, hel, c0, c1, hz⟩ := (hr.out.kept hO.out.kept).at k (by rw [hlen.out]; exact hlt)
      have hgl := hl2.out _ (List.getElem_mem (show k < ps.length by rw [hlen.out]; exact hlt))
      rw [hel] at hgl
      have hgk := grps_get _ hel
      have hq' : Hd (∀ u : Value, grps (qs ++ [((g : Grp), u)]) = (grps ps).take (k + 1)) := ⟨fun u => by
        obtain ⟨h1, h2⟩ := List.getElem?_eq_some_iff.1 hgk
        rw [grps_append, hqs.out, List.take_succ_eq_append_getElem h1, h2]; rfl⟩
      obtain ⟨av, cv, rfl, _, _⟩ := Rd.shape2 hz
      obtain ⟨lv, hlv⟩ : ∃ lv, g.p.length = lv := ⟨_, rfl⟩
      obtain ⟨N, hN⟩ : ∃ N, g.n = N := ⟨_, rfl⟩
      rw [hlv] at c0 hz
      rw [hN] at c1
      replace hN := hid hN
      clear hel hgk
      go_upto_region 5 with fail
      obtain ⟨w2, hw2, g2, k2⟩ := alloc_named wr (.cells #[.slice av lv cv, .int .i64 N] 67)
      rw [← hw2]
      obtain ⟨q, hq⟩ : ∃ q, wr.heap.size = q := ⟨_, rfl⟩
      have d0 : Hd (w2.cell? ⟨q, 0, none⟩ = some (.slice av lv cv)) := ⟨by rw [← hq, cell_of_row w2 _ 0 _ _ _ g2]; rfl⟩
      have d1 : Hd (w2.cell? ⟨q, 1, none⟩ = some (.int .i64 N)) := ⟨by rw [← hq, cell_of_row w2 _ 1 _ _ _ g2]; rfl⟩
      rw [hq]
      have hO2 := hid (hO.out.keptNo k2)
      have HC := hid (fun W (kw : Kept no w2 W) => clonez_any (.slice av lv cv) g.p W (by simp only at hgl; omega) ((hz.kept k2).kept kw))
      have hls : qs.length + 1 ≤ maxLen ∧ (qs.length + 1) * 32 ≤ 140737488355328 := by have := hqk.out; have hm : maxLen = 9223372036854775807 := rfl; omega
      replace hls := hid hls
      clear hw2 g2 hO c0 c1 k2 hq hz hgl
      refine region_flow (S := (ob u3)) (Sl := (fun _ => (ob u3))) [Is (u3), Is (.pointer (some ⟨q, 0, none⟩)), Is (.slice av lv cv), OwNw w2 g.p, Is (.pointer (some ⟨q, 1, none⟩)), Is (.int .i64 N), GrpV w2 g.p N, GrpS w2 g.p N, GrpM w qs g, GrpM w qs g] [8] (fun _ _ h => h) _ (by kernel_rfl) (by kernel_rfl) (by kernel_rfl) (by kernel_rfl) (fun x => by simp only [puts, Act.put, List.map_cons, List.map_nil, Nat.zero_add, Nat.reduceAdd, List.setIfInBounds_toArray, List.set_cons_zero, List.set_cons_succ]; exact rfl) ?_ ?_
      · skip
        refine Steps.cons (fun x wf Kk hq hdep hold => ?_) ?_
        · try dsimp only
          have h9 : x 9 = (u3) := hold 9 (by kernel_rfl)
          clear hq hdep hold
          simp only [h9]
          clear h9
          rw [if_pos (by rfl)]
          refine OpY.val (v := (u3)) ?_ ⟨Kept.refl _ _, rfl⟩
          first | rfl | go_simp
        refine Steps.cons (fun x wf Kk hq hdep hold => ?_) ?_
        · try dsimp only
          clear hq hdep hold
          rw [if_pos (by rfl)]
          refine OpY.val (v := (.pointer (some ⟨q, 0, none⟩))) ?_ ⟨Kept.refl _ _, rfl⟩
          first | rfl | go_simp
        refine Steps.cons (fun x wf Kk hq hdep hold => ?_) ?_
        · try dsimp only
          have h1 : x 1 = (.pointer (some ⟨q, 0, none⟩)) := hdep 1 (by kernel_rfl)
          have Kq := hq no (fun j hj => by cases (show j ∈ ([] : List Nat) from by (have e : ∀ l : List Nat, l = [] → j ∈ l → j ∈ ([] : List Nat) := fun l h h2 => h ▸ h2); exact e _ (by kernel_rfl) hj))
          clear hq hdep hold
          simp only [h1]
          clear h1
          have cvf := Kq.undrew.cell d0.out id
          rw [if_pos (by rfl)]
          refine OpY.val (v := (.slice av lv cv)) ?_ ⟨Kept.refl _ _, rfl⟩
          first | rfl | go_simp
        refine Steps.cons (fun x wf Kk hq hdep hold => ?_) ?_
        · try dsimp only
          have h2 : x 2 = (.slice av lv cv) := hdep 2 (by kernel_rfl)
          have Kq := hq no (fun j hj => by cases (show j ∈ ([] : List Nat) from by (have e : ∀ l : List Nat, l = [] → j ∈ l → j ∈ ([] : List Nat) := fun l h h2 => h ▸ h2); exact e _ (by kernel_rfl) hj))
          clear hq hdep hold
          simp only [h2]
          clear h2
          rw [if_pos (by rfl)]
          refine OpY.call (f := 48) (args := #[(.slice av lv cv)]) (by go_simp) ?_
          refine (HC.out wf Kq.undrew).mono ?_
          rintro e w3 ⟨u, rfl, hu, k3, nu⟩
          exact ⟨_, rfl, k3, OwZ.from_ hu k3 nu Kq.undrew⟩
        refine Steps.cons (fun x wf Kk hq hdep hold => ?_) ?_
        · try dsimp only
          clear hq hdep hold
          rw [if_pos (by rfl)]
          refine OpY.val (v := (.pointer (some ⟨q, 1, none⟩))) ?_ ⟨Kept.refl _ _, rfl⟩
          first | rfl | go_simp
        refine Steps.cons (fun x wf Kk hq hdep hold => ?_) ?_
        · try dsimp only
          have h4 : x 4 = (.pointer (some ⟨q, 1, none⟩)) := hdep 4 (by kernel_rfl)
          have Kq := hq no (fun j hj => by cases (show j ∈ ([] : List Nat) from by (have e : ∀ l : List Nat, l = [] → j ∈ l → j ∈ ([] : List Nat) := fun l h h2 => h ▸ h2); exact e _ (by kernel_rfl) hj))
          clear hq hdep hold
          simp only [h4]
          clear h4
          have cvf := Kq.undrew.cell d1.out id
          rw [if_pos (by rfl)]
          refine OpY.val (v := (.int .i64 N)) ?_ ⟨Kept.refl _ _, rfl⟩
          first | rfl | go_simp
        refine Steps.cons (fun x wf Kk hq hdep hold => ?_) ?_
        · try dsimp only
          have p3 : Pr.p (Sl := (fun _ => (ob u3))) (OwNw w2 g.p) (x 3) wf := hdep 3 (by kernel_rfl)
          have h5 : x 5 = (.int .i64 N) := hdep 5 (by kernel_rfl)
          clear hq hdep hold
          simp only [h5]
          clear h5
          rw [if_pos (by rfl)]
          obtain ⟨au, cu, hau, _, _⟩ := Rd.shape2 (show RdZ wf (x 3) g.p from OwZ.rd p3)
          refine OpY.val (v := .agg #[x 3, .int .i64 N]) ?_ ⟨Kept.refl _ _, x 3, rfl, p3⟩
          simp only [hau]
          first | rfl | go_simp
        refine Steps.cons (fun x wf Kk hq hdep hold => ?_) ?_
        · try dsimp only
          have p6 : Pr.p (Sl := (fun _ => (ob u3))) (GrpV w2 g.p N) (x 6) wf := hdep 6 (by kernel_rfl)
          clear hq hdep hold
          rw [if_pos (by rfl)]
          obtain ⟨u, hu, hou⟩ := p6
          refine OpY.build 27 67 1 _ rfl 2 (.agg #[.slice none 0 0, .int .i64 0]) Try.underlying27 infGz (by decide) (by decide) [u, .int .i64 N] [(0, .agg #[u, .int .i64 N])] (by rw [← hu]; rfl) (two_fill u N) rfl (by decide) (fun w' hg k ho => ⟨k, _, u, rfl, fun j x hj => by rw [cell_of_row w' _ _ _ _ _ hg]; simpa using hj, hou.keptNo k⟩)
        refine Steps.cons (fun x wf Kk hq hdep hold => ?_) ?_
        · try dsimp only
          have h0 : x 0 = (u3) := hdep 0 (by kernel_rfl)
          have p7 : Pr.p (Sl := (fun _ => (ob u3))) (GrpS w2 g.p N) (x 7) wf := hdep 7 (by kernel_rfl)
          have Kq := hq no (fun j hj => by cases (show j ∈ ([] : List Nat) from by (have e : ∀ l : List Nat, l = [] → j ∈ l → j ∈ ([] : List Nat) := fun l h h2 => h ▸ h2); exact e _ (by kernel_rfl) hj))
          clear hq hdep hold
          simp only [h0]
          clear h0
          rw [if_pos (by rfl)]
          obtain ⟨gb, u, hs, hrg, hou⟩ := p7
          have hO3 := hO2.out.keptNo Kq.undrew
          refine OpY.append (.tmp 12) (.tmp 19) 27 _ rfl rfl 67 2 32 TGrps u3 _ _ rfl hO3.own (.slice (some ⟨gb, 0, none⟩) 1 1) 1 [u, .int .i64 N] (by rw [← hs]; rfl) (two_rd hrg) (fun y hy => by simp only [List.mem_cons, List.not_mem_nil, or_false] at hy; rcases hy with rfl | rfl; exact hou.rd.one; rfl) hls.out.1 hls.out.2 ?_
          intro v2 w3 h2 h3 h4 _
          exact ⟨h3, u, hO2.out.add g Kq.undrew hou.own hou.new (by rw [hN.out]; exact h2) h3 h4⟩
        refine Steps.cons (fun x wf Kk hq hdep hold => ?_) ?_
        · try dsimp only
          have p8 : Pr.p (Sl := (fun _ => (ob u3))) (GrpM w qs g) (x 8) wf := hdep 8 (by kernel_rfl)
          clear hq hdep hold
          rw [if_pos (by rfl)]
          exact OpY.val (v := x 8) rfl ⟨Kept.refl _ _, p8⟩
        exact Steps.nil _
      · intro x wf Kk hv
        try dsimp only
        have h0 : x 0 = (u3) := hv 0 (by kernel_rfl)
        have h1 : x 1 = (.pointer (some ⟨q, 0, none⟩)) := hv 1 (by kernel_rfl)
        have h2 : x 2 = (.slice av lv cv) := hv 2 (by kernel_rfl)
        have h4 : x 4 = (.pointer (some ⟨q, 1, none⟩)) := hv 4 (by kernel_rfl)
        have h5 : x 5 = (.int .i64 N) := hv 5 (by kernel_rfl)
        have p9 : Pr.p (Sl := (fun _ => (ob u3))) (GrpM w qs g) (x 9) wf := hv 9 (by kernel_rfl)
        clear hv
        simp only [h0, h1, h2, h4, h5]
        clear h0 h1 h2 h4 h5
        obtain ⟨u, hO3⟩ := p9
        have hq3 := hid (hq'.out u)
        have hqk' : Hd ((qs ++ [(g, u)]).length = k + 1) := ⟨by rw [List.length_append, hqk.out]; rfl⟩
        replace hO3 := hid hO3
        generalize x 9 = v' at hO3 ⊢
        clear hO2 hqs hq' HC hls d0 d1 hqk Kk
        go_wp2
        go_roundw
        case rel => first | exact ⟨k + 1, _, by omega, by go_num, hqk', hq3, hO3⟩ | ((repeat apply Exists.intro); exact ⟨⟨k + 1, _, by omega, by go_num, hqk', hq3, hO3⟩, rfl⟩)
        case measure => simp [intOf]; omega
    · obtain rfl : k = len := by omega
      have hv : Hd (grps qs = grps ps) := ⟨by rw [hqs.out, List.take_of_length_le (by rw [grps_length, hlen.out]; exact Nat.le_refl _)]⟩
      clear hqs hqk
      go_wp2
      go_ret
      exact ⟨_, qs, rfl, hv.out, hO.out⟩
theorem nilGR {w W : World} (k : Kept no w W) : GR w W (.slice none 0 0) [] := ⟨[], rfl, ⟨(fun x hx => by cases hx), nil_rd _ _⟩, k⟩
theorem pile_short {ps : List (Grp × Value)} (h : isPile 7 (grps ps) = true) : ps.length ≤ 100000 ∧ ∀ x ∈ ps, x.1.p.length ≤ 100000 := by
  have hp := (isPile_iff 7 _).1 h
  refine ⟨?_, fun x hx => ?_⟩
  · have := len_tot fun g hg => (hp.1 g hg).2
    rw [grps_length] at this
    omega
  · have := ballot_len (hp.1 x.1 (by unfold grps; exact List.mem_map_of_mem hx)).1 (by omega); omega
/-- Two lists of groups of one's own, one behind the other. -/
theorem OwC.both {w w1 w2 w3 : World} {va vb v : Value} {ps qs : List (Grp × Value)} (ha : OwC w w1 va ps) (hb : OwC w1 w2 vb qs) (ho : w3.ownsRow 0 67 2 v (ps.length + qs.length) (flatG ps ++ flatG qs)) (hk : Kept (ob va) w2 w3) (hn : NewOr w2 va v) : OwC w w3 v (ps ++ qs) := by
  have ha2 := ha.keptNo hb.kept
  refine ⟨by rw [List.length_append, flatG_append]; exact ho, fun x hx => ?_, ha2.new.kept ha2.kept hk, ha2.new.step hn ha2.kept.size, fun x hx => ?_, ?_⟩
  · rcases List.mem_append.1 hx with hx | hx
    · exact ha2.rows_kept hk x hx
    · exact hk.ownsRow (hb.rows x hx) fun j hj hv => own_own (hb.rows x hx) ha2.own int_ne_group j hj hv
  · rcases List.mem_append.1 hx with hx | hx
    · exact ha.newr x hx
    · exact (hb.newr x hx).of ha.kept.size
  · rw [List.pairwise_append]
    refine ⟨ha.dist, hb.dist, fun x hx y hy j hj hj' => ?_⟩
    have h3 := own_lt (ha.rows x hx) j hj
    have h4 := (hb.newr y hy).fr (Nat.le_refl _) j hj'
    omega
set_option maxRecDepth 100000 in
set_option maxHeartbeats 4000000 in
theorem join_any (va vb : Value) (ps qs : List (Grp × Value)) (w : World) (ha : RdG w va ps) (hb : RdG w vb qs) : Calls Try.prog 35 #[va, vb] w fun e w' => ∃ v', e = .returned (.tuple #[v', .int .i64 (joinP (grps ps) (grps qs)).2]) ∧ GR w w' v' (joinP (grps ps) (grps qs)).1 := by
  have hm63 := maxLen_63
  replace ha := hid ha
  replace hb := hid hb
  have K := hid (Kept.refl no w)
  obtain ⟨Pa, hPa⟩ : ∃ P, isPile 7 (grps ps) = P := ⟨_, rfl⟩
  obtain ⟨Pb, hPb⟩ : ∃ P, isPile 7 (grps qs) = P := ⟨_, rfl⟩
  replace hPa := hid hPa
  replace hPb := hid hPb
  cases Pa with
  | false =>
    have hv : Hd (joinP (grps ps) (grps qs) = ([], 8)) := ⟨by unfold joinP; rw [if_neg (fun h => by rw [hPa.out] at h; cases h.1)]⟩
    go_enter Try.func35, Try.ntmps35
    have H1 := isany_any _ ps w (ha.out.kept K.out)
    rw [hPa.out] at H1
    replace H1 := hid H1
    go_wp2_with fail
    with_reducible refine H1.out.mono ?_
    rintro e x1 ⟨rfl, kq⟩
    replace K := hid (K.out.trans' kq)
    clear H1 kq
    go_wp2
    go_ret2
    exact ⟨_, by rw [hv.out] <;> rfl, by rw [hv.out]; exact nilGR K.out⟩
  | true =>
    cases Pb with
    | false =>
      have hv : Hd (joinP (grps ps) (grps qs) = ([], 8)) := ⟨by unfold joinP; rw [if_neg (fun h => by rw [hPb.out] at h; cases h.2)]⟩
      go_enter Try.func35, Try.ntmps35
      have H1 := isany_any _ ps w (ha.out.kept K.out)
      rw [hPa.out] at H1
      replace H1 := hid H1
      go_wp2_with fail
      with_reducible refine H1.out.mono ?_
      rintro e x1 ⟨rfl, kq⟩
      replace K := hid (K.out.trans' kq)
      clear H1 kq
      have H2 := isany_any _ qs x1 (hb.out.kept K.out)
      rw [hPb.out] at H2
      replace H2 := hid H2
      go_wp2_with fail
      with_reducible refine H2.out.mono ?_
      rintro e x2 ⟨rfl, kq⟩
      replace K := hid (K.out.trans' kq)
      clear H2 kq
      go_wp2
      go_ret2
      exact ⟨_, by rw [hv.out] <;> rfl, by rw [hv.out]; exact nilGR K.out⟩
    | true =>
      have hTa : Hd (total (grps ps) = tot (grps ps)) := ⟨by unfold total; rw [if_pos hPa.out]⟩
      have hTb : Hd (total (grps qs) = tot (grps qs)) := ⟨by unfold total; rw [if_pos hPb.out]⟩
      have hra := pile_tot hPa.out
      have hrb := pile_tot hPb.out
      obtain ⟨Ta, hta⟩ : ∃ T, tot (grps ps) = T := ⟨_, rfl⟩
      obtain ⟨Tb, htb⟩ : ∃ T, tot (grps qs) = T := ⟨_, rfl⟩
      rw [hta] at hTa hra
      rw [htb] at hTb hrb
      have hj : Hd (joinP (grps ps) (grps qs) = if 100000 < Ta + Tb then ([], 7) else (pileOf (grps ps ++ grps qs), 0)) := ⟨by unfold joinP; rw [if_pos ⟨hPa.out, hPb.out⟩, hta, htb]⟩
      replace hta := hid hta
      replace htb := hid htb
      have hws : IntKind.i64.wrap (Ta + Tb) = Ta + Tb := IntWalk.i64_in _ (by omega)
      have hwd : IntKind.i64.wrap (100000 - Tb) = 100000 - Tb := IntWalk.i64_in _ (by omega)
      by_cases hT : 100000 < Ta + Tb
      · have hTd : decide (100000 < Ta + Tb) = true := decide_eq_true hT
        have hTd' : decide (100000 - Tb < Ta) = true := decide_eq_true (by omega)
        have hT' : 100000 - Tb < Ta := by omega
        have hv : Hd (joinP (grps ps) (grps qs) = ([], 7)) := ⟨by rw [hj.out, if_pos hT]⟩
        clear hj hra hrb
        go_enter Try.func35, Try.ntmps35
        have H1 := isany_any _ ps w (ha.out.kept K.out)
        rw [hPa.out] at H1
        replace H1 := hid H1
        go_wp2_with fail
        with_reducible refine H1.out.mono ?_
        rintro e x1 ⟨rfl, kq⟩
        replace K := hid (K.out.trans' kq)
        clear H1 kq
        have H2 := isany_any _ qs x1 (hb.out.kept K.out)
        rw [hPb.out] at H2
        replace H2 := hid H2
        go_wp2_with fail
        with_reducible refine H2.out.mono ?_
        rintro e x2 ⟨rfl, kq⟩
        replace K := hid (K.out.trans' kq)
        clear H2 kq
        have H3 := total_any _ ps x2 (ha.out.kept K.out)
        rw [hTa.out] at H3
        replace H3 := hid H3
        go_wp2_with fail
        with_reducible refine H3.out.mono ?_
        rintro e x3 ⟨rfl, kq⟩
        replace K := hid (K.out.trans' kq)
        clear H3 kq
        have H4 := total_any _ qs x3 (hb.out.kept K.out)
        rw [hTb.out] at H4
        replace H4 := hid H4
        go_wp2_with fail
        with_reducible refine H4.out.mono ?_
        rintro e x4 ⟨rfl, kq⟩
        replace K := hid (K.out.trans' kq)
        clear H4 kq
        go_wp2
        go_ret2
        exact ⟨_, by rw [hv.out] <;> rfl, by rw [hv.out]; exact nilGR K.out⟩
      · have hTd : decide (100000 < Ta + Tb) = false := decide_eq_false hT
        have hTd' : decide (100000 - Tb < Ta) = false := decide_eq_false (by omega)
        have hT' : ¬ 100000 - Tb < Ta := by omega
        have hv : Hd (joinP (grps ps) (grps qs) = (pileOf (grps ps ++ grps qs), 0)) := ⟨by rw [hj.out, if_neg hT]⟩
        replace hra := hid hra
        replace hrb := hid hrb
        clear hj
        go_enter Try.func35, Try.ntmps35
        have H1 := isany_any _ ps w (ha.out.kept K.out)
        rw [hPa.out] at H1
        replace H1 := hid H1
        go_wp2_with fail
        with_reducible refine H1.out.mono ?_
        rintro e x1 ⟨rfl, kq⟩
        replace K := hid (K.out.trans' kq)
        clear H1 kq
        have H2 := isany_any _ qs x1 (hb.out.kept K.out)
        rw [hPb.out] at H2
        replace H2 := hid H2
        go_wp2_with fail
        with_reducible refine H2.out.mono ?_
        rintro e x2 ⟨rfl, kq⟩
        replace K := hid (K.out.trans' kq)
        clear H2 kq
        have H3 := total_any _ ps x2 (ha.out.kept K.out)
        rw [hTa.out] at H3
        replace H3 := hid H3
        go_wp2_with fail
        with_reducible refine H3.out.mono ?_
        rintro e x3 ⟨rfl, kq⟩
        replace K := hid (K.out.trans' kq)
        clear H3 kq
        have H4 := total_any _ qs x3 (hb.out.kept K.out)
        rw [hTb.out] at H4
        replace H4 := hid H4
        go_wp2_with fail
        with_reducible refine H4.out.mono ?_
        rintro e x4 ⟨rfl, kq⟩
        replace K := hid (K.out.trans' kq)
        clear H4 kq
        have KA0 := hid K.out
        have H5 := pclone_any _ ps x4 (ha.out.kept K.out) (pile_short hPa.out)
        replace H5 := hid H5
        go_wp2_with fail
        with_reducible refine H5.out.mono ?_
        rintro e x5 ⟨va2, ps2, rfl, eA, hA⟩
        replace K := hid (K.out.trans' hA.kept)
        replace hA := hid hA
        replace eA := hid eA
        have KA := hid (Kept.refl no x5)
        clear H5
        have H6 := pclone_any _ qs x5 (hb.out.kept K.out) (pile_short hPb.out)
        replace H6 := hid H6
        go_wp2_with fail
        with_reducible refine H6.out.mono ?_
        rintro e x6 ⟨vb2, qs2, rfl, eB, hB⟩
        replace K := hid (K.out.trans' hB.kept)
        replace hB := hid hB
        replace eB := hid eB
        clear H6
        have hA2 := hid (hA.out.keptNo hB.out.kept)
        obtain ⟨la, hla⟩ : ∃ l, ps2.length = l := ⟨_, rfl⟩
        obtain ⟨lb, hlb⟩ : ∃ l, qs2.length = l := ⟨_, rfl⟩
        have hl : la ≤ 100000 ∧ lb ≤ 100000 := by
          have h1 := (pile_short hPa.out).1
          have h2 := (pile_short hPb.out).1
          have h3 := congrArg List.length eA.out
          have h4 := congrArg List.length eB.out
          rw [grps_length, grps_length] at h3 h4
          omega
        have hls : la + lb ≤ maxLen ∧ (la + lb) * 32 ≤ 140737488355328 := by have hm : maxLen = 9223372036854775807 := rfl; omega
        have hoA : Hd (x6.ownsRow 0 67 2 va2 la (flatG ps2)) := ⟨by have := hA2.out.own; rwa [hla] at this⟩
        have hrB : Hd (Rd x6 2 vb2 lb (flatG qs2)) := ⟨by have := hB.out.rd.2; rwa [hlb] at this⟩
        have honB := hid (grpC_one (w := x6) hB.out.rd.1)
        replace hls := hid hls
        replace hla := hid hla
        replace hlb := hid hlb
        go_wp2_with (at_builtin; refine wpList_append _ rfl _ _ 27 rfl 67 2 32 TGrps _ _ _ rfl hoA.out _ _ _ rfl hrB.out honB.out ?c1 ?c2 ?_)
        case c1 => exact hls.out.1
        case c2 => exact hls.out.2
        intro v3 y1 g1 g2 g3 _
        have hC := hA.out.both hB.out (by rw [hla.out, hlb.out]; exact g1) g2 g3
        have hn : ∀ x ∈ ps2 ++ qs2, 0 ≤ x.1.n ∧ x.1.n ≤ 100000 := fun x hx => by
          have hp1 := (isPile_iff 7 _).1 hPa.out
          have hp2 := (isPile_iff 7 _).1 hPb.out
          rcases List.mem_append.1 hx with hx | hx
          · have hm : x.1 ∈ grps ps := by rw [← eA.out]; exact List.mem_map_of_mem hx
            have := (hp1.1 _ hm).2
            have := n_le_tot (fun g hg => (hp1.1 g hg).2) _ hm
            omega
          · have hm : x.1 ∈ grps qs := by rw [← eB.out]; exact List.mem_map_of_mem hx
            have := (hp2.1 _ hm).2
            have := n_le_tot (fun g hg => (hp2.1 g hg).2) _ hm
            omega
        have hl2 : (ps2 ++ qs2).length ≤ 100000 := by
          have hp1 := (isPile_iff 7 _).1 hPa.out
          have hp2 := (isPile_iff 7 _).1 hPb.out
          have h1 := len_tot fun g hg => (hp1.1 g hg).2
          have h2 := len_tot fun g hg => (hp2.1 g hg).2
          have h3 := congrArg List.length eA.out
          have h4 := congrArg List.length eB.out
          rw [grps_length, grps_length] at h3 h4
          rw [grps_length] at h1 h2
          have := hta.out
          have := htb.out
          rw [List.length_append]; omega
        have HM := hid (merge_any v3 (ps2 ++ qs2) y1 hC.own hC.rdAll hl2 hn)
        have hnv := hid hC.new
        have hkC := hid hC.kept
        have hgg : Hd (grps (ps2 ++ qs2) = grps ps ++ grps qs) := ⟨by rw [grps_append, eA.out, eB.out]⟩
        rw [hgg.out] at HM
        clear g1 g2 g3 hC hn hl2 hA hB hA2 hoA hrB honB hls hl
        go_wp2_with fail
        refine HM.out.mono ?_
        rintro e y2 ⟨v4, rs, rfl, hrs, o2, z2, k2, n2⟩
        have hG : Hd (GR w y2 v4 (pileOf (grps ps ++ grps qs))) := ⟨rs, hrs, own_RdG o2 z2, KA0.out.trans' (hnv.out.kept hkC.out k2)⟩
        clear hrs o2 z2 k2 n2 HM
        go_wp2
        go_ret2
        exact ⟨_, by rw [hv.out] <;> rfl, by rw [hv.out]; exact hG.out⟩
set_option maxRecDepth 100000 in
set_option maxHeartbeats 4000000 in
theorem refjoin_any (va vb : Value) (ps qs : List (Grp × Value)) (w : World) (ha : RdG w va ps) (hb : RdG w vb qs) : Calls Try.prog 36 #[va, vb] w fun e w' => ∃ v', e = .returned (.tuple #[v', .int .i64 (joinP (grps ps) (grps qs)).2]) ∧ GR w w' v' (joinP (grps ps) (grps qs)).1 := by
  have hm63 := maxLen_63
  obtain ⟨aa, ca, rfl, hca, hcam⟩ := ha.shape
  obtain ⟨ab, cb, rfl, hcb, hcbm⟩ := hb.shape
  obtain ⟨la, hla⟩ : ∃ l, ps.length = l := ⟨_, rfl⟩
  obtain ⟨lb, hlb⟩ : ∃ l, qs.length = l := ⟨_, rfl⟩
  rw [hla] at ha hca ⊢
  rw [hlb] at hb hcb ⊢
  replace ha := hid ha
  replace hb := hid hb
  replace hla := hid hla
  replace hlb := hid hlb
  have K := hid (Kept.refl no w)
  obtain ⟨Pa, hPa⟩ : ∃ P, isPile 7 (grps ps) = P := ⟨_, rfl⟩
  obtain ⟨Pb, hPb⟩ : ∃ P, isPile 7 (grps qs) = P := ⟨_, rfl⟩
  replace hPa := hid hPa
  replace hPb := hid hPb
  cases Pa with
  | false =>
    have hv : Hd (joinP (grps ps) (grps qs) = ([], 8)) := ⟨by unfold joinP; rw [if_neg (fun h => by rw [hPa.out] at h; cases h.1)]⟩
    go_enter Try.func36, Try.ntmps36
    have H1 := refpile_any _ ps w (ha.out.kept K.out)
    rw [hPa.out] at H1
    replace H1 := hid H1
    go_wp2_with fail
    with_reducible refine H1.out.mono ?_
    rintro e x1 ⟨rfl, kq⟩
    replace K := hid (K.out.trans' kq.kept)
    clear H1 kq
    go_wp2
    go_ret2
    exact ⟨_, by rw [hv.out] <;> rfl, by rw [hv.out]; exact nilGR K.out⟩
  | true =>
    cases Pb with
    | false =>
      have hv : Hd (joinP (grps ps) (grps qs) = ([], 8)) := ⟨by unfold joinP; rw [if_neg (fun h => by rw [hPb.out] at h; cases h.2)]⟩
      go_enter Try.func36, Try.ntmps36
      have H1 := refpile_any _ ps w (ha.out.kept K.out)
      rw [hPa.out] at H1
      replace H1 := hid H1
      go_wp2_with fail
      with_reducible refine H1.out.mono ?_
      rintro e x1 ⟨rfl, kq⟩
      replace K := hid (K.out.trans' kq.kept)
      clear H1 kq
      have H2 := refpile_any _ qs x1 (hb.out.kept K.out)
      rw [hPb.out] at H2
      replace H2 := hid H2
      go_wp2_with fail
      with_reducible refine H2.out.mono ?_
      rintro e x2 ⟨rfl, kq⟩
      replace K := hid (K.out.trans' kq.kept)
      clear H2 kq
      go_wp2
      go_ret2
      exact ⟨_, by rw [hv.out] <;> rfl, by rw [hv.out]; exact nilGR K.out⟩
    | true =>
      have hTa : Hd (total (grps ps) = tot (grps ps)) := ⟨by unfold total; rw [if_pos hPa.out]⟩
      have hTb : Hd (total (grps qs) = tot (grps qs)) := ⟨by unfold total; rw [if_pos hPb.out]⟩
      have hra := pile_tot hPa.out
      have hrb := pile_tot hPb.out
      obtain ⟨Ta, hta⟩ : ∃ T, tot (grps ps) = T := ⟨_, rfl⟩
      obtain ⟨Tb, htb⟩ : ∃ T, tot (grps qs) = T := ⟨_, rfl⟩
      rw [hta] at hTa hra
      rw [htb] at hTb hrb
      have hj : Hd (joinP (grps ps) (grps qs) = if 100000 < Ta + Tb then ([], 7) else (pileOf (grps ps ++ grps qs), 0)) := ⟨by unfold joinP; rw [if_pos ⟨hPa.out, hPb.out⟩, hta, htb]⟩
      replace hta := hid hta
      replace htb := hid htb
      have hws : IntKind.i64.wrap (Ta + Tb) = Ta + Tb := IntWalk.i64_in _ (by omega)
      have hwd : IntKind.i64.wrap (100000 - Tb) = 100000 - Tb := IntWalk.i64_in _ (by omega)
      by_cases hT : 100000 < Ta + Tb
      · have hTd : decide (100000 < Ta + Tb) = true := decide_eq_true hT
        have hTd' : decide (100000 - Tb < Ta) = true := decide_eq_true (by omega)
        have hT' : 100000 - Tb < Ta := by omega
        have hv : Hd (joinP (grps ps) (grps qs) = ([], 7)) := ⟨by rw [hj.out, if_pos hT]⟩
        clear hj hra hrb
        go_enter Try.func36, Try.ntmps36
        have H1 := refpile_any _ ps w (ha.out.kept K.out)
        rw [hPa.out] at H1
        replace H1 := hid H1
        go_wp2_with fail
        with_reducible refine H1.out.mono ?_
        rintro e x1 ⟨rfl, kq⟩
        replace K := hid (K.out.trans' kq.kept)
        clear H1 kq
        have H2 := refpile_any _ qs x1 (hb.out.kept K.out)
        rw [hPb.out] at H2
        replace H2 := hid H2
        go_wp2_with fail
        with_reducible refine H2.out.mono ?_
        rintro e x2 ⟨rfl, kq⟩
        replace K := hid (K.out.trans' kq.kept)
        clear H2 kq
        have H3 := reftotal_any _ ps x2 (ha.out.kept K.out)
        rw [hTa.out] at H3
        replace H3 := hid H3
        go_wp2_with fail
        with_reducible refine H3.out.mono ?_
        rintro e x3 ⟨rfl, kq⟩
        replace K := hid (K.out.trans' kq.kept)
        clear H3 kq
        have H4 := reftotal_any _ qs x3 (hb.out.kept K.out)
        rw [hTb.out] at H4
        replace H4 := hid H4
        go_wp2_with fail
        with_reducible refine H4.out.mono ?_
        rintro e x4 ⟨rfl, kq⟩
        replace K := hid (K.out.trans' kq.kept)
        clear H4 kq
        go_wp2
        go_ret2
        exact ⟨_, by rw [hv.out] <;> rfl, by rw [hv.out]; exact nilGR K.out⟩
      · have hTd : decide (100000 < Ta + Tb) = false := decide_eq_false hT
        have hTd' : decide (100000 - Tb < Ta) = false := decide_eq_false (by omega)
        have hT' : ¬ 100000 - Tb < Ta := by omega
        have hv : Hd (joinP (grps ps) (grps qs) = (pileOf (grps ps ++ grps qs), 0)) := ⟨by rw [hj.out, if_neg hT]⟩
        replace hra := hid hra
        replace hrb := hid hrb
        clear hj
        go_enter Try.func36, Try.ntmps36
        have H1 := refpile_any _ ps w (ha.out.kept K.out)
        rw [hPa.out] at H1
        replace H1 := hid H1
        go_wp2_with fail
        with_reducible refine H1.out.mono ?_
        rintro e x1 ⟨rfl, kq⟩
        replace K := hid (K.out.trans' kq.kept)
        clear H1 kq
        have H2 := refpile_any _ qs x1 (hb.out.kept K.out)
        rw [hPb.out] at H2
        replace H2 := hid H2
        go_wp2_with fail
        with_reducible refine H2.out.mono ?_
        rintro e x2 ⟨rfl, kq⟩
        replace K := hid (K.out.trans' kq.kept)
        clear H2 kq
        have H3 := reftotal_any _ ps x2 (ha.out.kept K.out)
        rw [hTa.out] at H3
        replace H3 := hid H3
        go_wp2_with fail
        with_reducible refine H3.out.mono ?_
        rintro e x3 ⟨rfl, kq⟩
        replace K := hid (K.out.trans' kq.kept)
        clear H3 kq
        have H4 := reftotal_any _ qs x3 (hb.out.kept K.out)
        rw [hTb.out] at H4
        replace H4 := hid H4
        go_wp2_with fail
        with_reducible refine H4.out.mono ?_
        rintro e x4 ⟨rfl, kq⟩
        replace K := hid (K.out.trans' kq.kept)
        clear H4 kq
        have hl : la ≤ 100000 ∧ lb ≤ 100000 := by
          have h1 := (pile_short hPa.out).1
          have h2 := (pile_short hPb.out).1
          have := hla.out
          have := hlb.out
          omega
        obtain ⟨hl1, hl2⟩ := hl
        have hls : la ≤ maxLen ∧ la * 32 ≤ 140737488355328 := by have hm : maxLen = 9223372036854775807 := rfl; omega
        have hnil : Hd (x4.ownsRow 0 67 2 (.slice none 0 0) 0 []) := ⟨World.ownsRow_nil _ _ _ _⟩
        have hrA : Hd (Rd x4 2 (.slice aa la ca) la (flatG ps)) := ⟨by have := (ha.out.kept K.out).2; rwa [hla.out] at this⟩
        have honA := hid (grpC_one (w := w) ha.out.1)
        replace hls := hid hls
        go_wp2_with (at_builtin; refine wpList_append _ rfl _ _ 27 rfl 67 2 32 TGrps _ _ _ rfl hnil.out _ _ _ rfl hrA.out honA.out ?c1 ?c2 ?_)
        case c1 => rw [Nat.zero_add]; exact hls.out.1
        case c2 => rw [Nat.zero_add]; exact hls.out.2
        intro v3 y1 g1 g2 g3 _
        try rw [Nat.zero_add, List.nil_append] at g1
        have kk := Kept.ob_nil g2
        have hR0 : Hd (RdG y1 v3 ps) := ⟨(fun x hx => (ha.out.1 x hx).kept (K.out.trans' kk)), by rw [hla.out]; exact Rd.of_own g1⟩
        have K0 := hid (K.out.trans' kk)
        have hself : Hd (pileOf (grps ps) = grps ps) := ⟨pileOf_self ((isPile_iff 7 _).1 hPa.out).2.2⟩
        have hfin : Hd (∀ k, ∀ rs : List (Grp × Value), grps rs = pileOf (grps ps ++ (grps qs).take k) → small rs) := ⟨fun k rs h => by
          have hp1 := (isPile_iff 7 _).1 hPa.out
          have hp2 := (isPile_iff 7 _).1 hPb.out
          have hpos : ∀ g ∈ grps ps ++ (grps qs).take k, 1 ≤ g.n := fun g hg => by
            rcases List.mem_append.1 hg with hg | hg
            · exact (hp1.1 g hg).2
            · exact (hp2.1 g (List.mem_of_mem_take hg)).2
          refine small_of (by rw [h]; exact pileOf_pos hpos) ?_
          rw [h, pileOf_tot hpos, tot_append]
          have h1 := hta.out
          have h2 := htb.out
          have h3 := tot_nonneg (l := (grps qs).drop k) fun g hg => (hp2.1 g (List.mem_of_mem_drop hg)).2
          have h4 : tot (grps qs) = tot ((grps qs).take k) + tot ((grps qs).drop k) := by rw [← tot_append, List.take_append_drop]
          omega⟩
        have hnb : Hd (∀ x ∈ qs, -1000000 ≤ x.1.n ∧ x.1.n ≤ 1000000) := ⟨fun x hx => by
          have hp2 := (isPile_iff 7 _).1 hPb.out
          have hm : x.1 ∈ grps qs := List.mem_map_of_mem hx
          have := (hp2.1 _ hm).2
          have := n_le_tot (fun g hg => (hp2.1 g hg).2) _ hm
          omega⟩
        clear g1 g2 g3 kk hnil hrA honA hls K
        go_wp2
        go_loopw [6, 7] (fun out i wr => ∃ (k : Nat) (rs : List (Grp × Value)), k ≤ lb ∧ i = .int .i64 (k : Int) ∧ Hd (grps rs = pileOf (grps ps ++ (grps qs).take k)) ∧ Hd (RdG wr out rs) ∧ Hd (Kept no w wr)) (fun _ i _ => lb - (intOf i).toNat)
        case atStart => exact ⟨0, ps, by omega, rfl, ⟨by rw [List.take_zero, List.append_nil, hself.out]⟩, hR0, K0⟩
        case round =>
          clear hR0 K0
          obtain ⟨k, rs, hk, rfl, hrs, hR, hW⟩ := hrel
          by_cases hlt : k < lb
          · have hk1 : (k : Int) < (lb : Int) := by omega
            have hk0 : (0 : Int) ≤ (k : Int) := by omega
            obtain ⟨b, o, g, vg, rfl, hel, c0, c1, hz⟩ := (hb.out.kept hW.out).at k (by rw [hlb.out]; exact hlt)
            have hgk := grps_get _ hel
            have hbn := hnb.out _ (List.getElem_mem (show k < qs.length by rw [hlb.out]; exact hlt))
            rw [hel] at hbn
            have hst : Hd (addG (grps rs) g.p g.n = pileOf (grps ps ++ (grps qs).take (k + 1))) := ⟨by
              obtain ⟨h1, h2⟩ := List.getElem?_eq_some_iff.1 hgk
              rw [List.take_succ_eq_append_getElem h1, h2, ← List.append_assoc, pileOf_snoc, hrs.out]⟩
            obtain ⟨N, hN⟩ : ∃ N, g.n = N := ⟨_, rfl⟩
            rw [hN] at c1 hst
            have HA := hid (fun W (kw : Kept no wr W) => refadd_any u6 vg rs g.p N W (hR.out.kept kw) (hz.kept kw) (hfin.out k rs hrs.out) (by rw [← hN]; exact hbn))
            replace c0 := hid c0
            replace c1 := hid c1
            obtain ⟨av, cv, rfl, _, _⟩ := Rd.shape2 hz
            clear hel hgk hbn hN hz hrs hR
            go_upto_region 9 with fail
            refine region_flow (S := no) (Sl := (fun _ => no)) [Is (u6), Is (.slice (some ⟨b, o, none⟩) lb cb), Is (.int .i64 (k : Int)), Is (.pointer (some ⟨b, o + k * 2, none⟩)), Is (.pointer (some ⟨b, o + k * 2, none⟩)), Is (.slice av g.p.length cv), Is (.slice (some ⟨b, o, none⟩) lb cb), Is (.int .i64 (k : Int)), Is (.pointer (some ⟨b, o + k * 2, none⟩)), Is (.pointer (some ⟨b, o + k * 2 + 1, none⟩)), Is (.int .i64 N), AddP (addG (grps rs) g.p N), AddP (addG (grps rs) g.p N)] [] (fun _ _ h => h) _ (by kernel_rfl) (by kernel_rfl) (by kernel_rfl) (by kernel_rfl) (fun x => by simp only [puts, Act.put, List.map_cons, List.map_nil, Nat.zero_add, Nat.reduceAdd, List.setIfInBounds_toArray, List.set_cons_zero, List.set_cons_succ]; exact rfl) ?_ ?_
            · skip
              refine Steps.cons (fun x wf Kk hq hdep hold => ?_) ?_
              · try dsimp only
                have h12 : x 12 = (u6) := hold 12 (by kernel_rfl)
                clear hq hdep hold
                simp only [h12]
                clear h12
                rw [if_pos (by rfl)]
                refine OpY.val (v := (u6)) ?_ ⟨Kept.refl _ _, rfl⟩
                first | rfl | go_simp
              refine Steps.cons (fun x wf Kk hq hdep hold => ?_) ?_
              · try dsimp only
                clear hq hdep hold
                rw [if_pos (by rfl)]
                refine OpY.val (v := (.slice (some ⟨b, o, none⟩) lb cb)) ?_ ⟨Kept.refl _ _, rfl⟩
                first | rfl | go_simp
              refine Steps.cons (fun x wf Kk hq hdep hold => ?_) ?_
              · try dsimp only
                clear hq hdep hold
                rw [if_pos (by rfl)]
                refine OpY.val (v := (.int .i64 (k : Int))) ?_ ⟨Kept.refl _ _, rfl⟩
                first | rfl | go_simp
              refine Steps.cons (fun x wf Kk hq hdep hold => ?_) ?_
              · try dsimp only
                have h1 : x 1 = (.slice (some ⟨b, o, none⟩) lb cb) := hdep 1 (by kernel_rfl)
                have h2 : x 2 = (.int .i64 (k : Int)) := hdep 2 (by kernel_rfl)
                clear hq hdep hold
                simp only [h1, h2]
                clear h1 h2
                rw [if_pos (by rfl)]
                refine OpY.val (v := (.pointer (some ⟨b, o + k * 2, none⟩))) ?_ ⟨Kept.refl _ _, rfl⟩
                first | rfl | go_simp
              refine Steps.cons (fun x wf Kk hq hdep hold => ?_) ?_
              · try dsimp only
                have h3 : x 3 = (.pointer (some ⟨b, o + k * 2, none⟩)) := hdep 3 (by kernel_rfl)
                clear hq hdep hold
                simp only [h3]
                clear h3
                rw [if_pos (by rfl)]
                refine OpY.val (v := (.pointer (some ⟨b, o + k * 2, none⟩))) ?_ ⟨Kept.refl _ _, rfl⟩
                first | rfl | go_simp
              refine Steps.cons (fun x wf Kk hq hdep hold => ?_) ?_
              · try dsimp only
                have h4 : x 4 = (.pointer (some ⟨b, o + k * 2, none⟩)) := hdep 4 (by kernel_rfl)
                have Kq := hq no (fun j hj => by cases (show j ∈ ([] : List Nat) from by (have e : ∀ l : List Nat, l = [] → j ∈ l → j ∈ ([] : List Nat) := fun l h h2 => h ▸ h2); exact e _ (by kernel_rfl) hj))
                clear hq hdep hold
                simp only [h4]
                clear h4
                have cvf := Kq.undrew.cell c0.out id
                rw [if_pos (by rfl)]
                refine OpY.val (v := (.slice av g.p.length cv)) ?_ ⟨Kept.refl _ _, rfl⟩
                first | rfl | go_simp
              refine Steps.cons (fun x wf Kk hq hdep hold => ?_) ?_
              · try dsimp only
                clear hq hdep hold
                rw [if_pos (by rfl)]
                refine OpY.val (v := (.slice (some ⟨b, o, none⟩) lb cb)) ?_ ⟨Kept.refl _ _, rfl⟩
                first | rfl | go_simp
              refine Steps.cons (fun x wf Kk hq hdep hold => ?_) ?_
              · try dsimp only
                clear hq hdep hold
                rw [if_pos (by rfl)]
                refine OpY.val (v := (.int .i64 (k : Int))) ?_ ⟨Kept.refl _ _, rfl⟩
                first | rfl | go_simp
              refine Steps.cons (fun x wf Kk hq hdep hold => ?_) ?_
              · try dsimp only
                have h6 : x 6 = (.slice (some ⟨b, o, none⟩) lb cb) := hdep 6 (by kernel_rfl)
                have h7 : x 7 = (.int .i64 (k : Int)) := hdep 7 (by kernel_rfl)
                clear hq hdep hold
                simp only [h6, h7]
                clear h6 h7
                rw [if_pos (by rfl)]
                refine OpY.val (v := (.pointer (some ⟨b, o + k * 2, none⟩))) ?_ ⟨Kept.refl _ _, rfl⟩
                first | rfl | go_simp
              refine Steps.cons (fun x wf Kk hq hdep hold => ?_) ?_
              · try dsimp only
                have h8 : x 8 = (.pointer (some ⟨b, o + k * 2, none⟩)) := hdep 8 (by kernel_rfl)
                clear hq hdep hold
                simp only [h8]
                clear h8
                rw [if_pos (by rfl)]
                refine OpY.val (v := (.pointer (some ⟨b, o + k * 2 + 1, none⟩))) ?_ ⟨Kept.refl _ _, rfl⟩
                first | rfl | go_simp
              refine Steps.cons (fun x wf Kk hq hdep hold => ?_) ?_
              · try dsimp only
                have h9 : x 9 = (.pointer (some ⟨b, o + k * 2 + 1, none⟩)) := hdep 9 (by kernel_rfl)
                have Kq := hq no (fun j hj => by cases (show j ∈ ([] : List Nat) from by (have e : ∀ l : List Nat, l = [] → j ∈ l → j ∈ ([] : List Nat) := fun l h h2 => h ▸ h2); exact e _ (by kernel_rfl) hj))
                clear hq hdep hold
                simp only [h9]
                clear h9
                have cvf := Kq.undrew.cell c1.out id
                rw [if_pos (by rfl)]
                refine OpY.val (v := (.int .i64 N)) ?_ ⟨Kept.refl _ _, rfl⟩
                first | rfl | go_simp
              refine Steps.cons (fun x wf Kk hq hdep hold => ?_) ?_
              · try dsimp only
                have h0 : x 0 = (u6) := hdep 0 (by kernel_rfl)
                have h5 : x 5 = (.slice av g.p.length cv) := hdep 5 (by kernel_rfl)
                have h10 : x 10 = (.int .i64 N) := hdep 10 (by kernel_rfl)
                have Kq := hq no (fun j hj => by cases (show j ∈ ([] : List Nat) from by (have e : ∀ l : List Nat, l = [] → j ∈ l → j ∈ ([] : List Nat) := fun l h h2 => h ▸ h2); exact e _ (by kernel_rfl) hj))
                clear hq hdep hold
                simp only [h0, h5, h10]
                clear h0 h5 h10
                rw [if_pos (by rfl)]
                refine OpY.call (f := 51) (args := #[(u6), (.slice av g.p.length cv), (.int .i64 N)]) (by go_simp) ?_
                refine (HA.out wf Kq.undrew).mono ?_
                rintro e w3 ⟨v3, rs3, rfl, o3, e3⟩
                exact ⟨_, rfl, o3.kept, rs3, e3, o3.rd⟩
              refine Steps.cons (fun x wf Kk hq hdep hold => ?_) ?_
              · try dsimp only
                have p11 : Pr.p (Sl := (fun _ => no)) (AddP (addG (grps rs) g.p N)) (x 11) wf := hdep 11 (by kernel_rfl)
                clear hq hdep hold
                rw [if_pos (by rfl)]
                exact OpY.val (v := x 11) rfl ⟨Kept.refl _ _, p11⟩
              exact Steps.nil _
            · intro x wf Kk hv
              try dsimp only
              have h0 : x 0 = (u6) := hv 0 (by kernel_rfl)
              have h1 : x 1 = (.slice (some ⟨b, o, none⟩) lb cb) := hv 1 (by kernel_rfl)
              have h2 : x 2 = (.int .i64 (k : Int)) := hv 2 (by kernel_rfl)
              have h3 : x 3 = (.pointer (some ⟨b, o + k * 2, none⟩)) := hv 3 (by kernel_rfl)
              have h4 : x 4 = (.pointer (some ⟨b, o + k * 2, none⟩)) := hv 4 (by kernel_rfl)
              have h5 : x 5 = (.slice av g.p.length cv) := hv 5 (by kernel_rfl)
              have h6 : x 6 = (.slice (some ⟨b, o, none⟩) lb cb) := hv 6 (by kernel_rfl)
              have h7 : x 7 = (.int .i64 (k : Int)) := hv 7 (by kernel_rfl)
              have h8 : x 8 = (.pointer (some ⟨b, o + k * 2, none⟩)) := hv 8 (by kernel_rfl)
              have h9 : x 9 = (.pointer (some ⟨b, o + k * 2 + 1, none⟩)) := hv 9 (by kernel_rfl)
              have h10 : x 10 = (.int .i64 N) := hv 10 (by kernel_rfl)
              have p12 : Pr.p (Sl := (fun _ => no)) (AddP (addG (grps rs) g.p N)) (x 12) wf := hv 12 (by kernel_rfl)
              clear hv
              simp only [h0, h1, h2, h3, h4, h5, h6, h7, h8, h9, h10]
              clear h0 h1 h2 h3 h4 h5 h6 h7 h8 h9 h10
              obtain ⟨rs3, e3, r3⟩ := p12
              have hrs3 : Hd (grps rs3 = pileOf (grps ps ++ (grps qs).take (k + 1))) := ⟨by rw [e3]; exact hst.out⟩
              have hW3 := hid (hW.out.trans' Kk.undrew)
              replace r3 := hid r3
              generalize x 12 = v' at r3 ⊢
              clear hW hst HA e3 Kk c0 c1
              go_wp2
              go_roundw
              case rel => first | exact ⟨k + 1, rs3, by omega, by go_num, hrs3, r3, hW3⟩ | ((repeat apply Exists.intro); exact ⟨⟨k + 1, rs3, by omega, by go_num, hrs3, r3, hW3⟩, rfl⟩)
              case measure => simp [intOf]; omega
          · obtain rfl : k = lb := by omega
            have hG : Hd (grps rs = pileOf (grps ps ++ grps qs)) := ⟨by rw [hrs.out, List.take_of_length_le (by rw [grps_length, hlb.out]; exact Nat.le_refl _)]⟩
            clear hrs hnb hfin hself
            go_wp2
            go_ret2
            exact ⟨_, by rw [hv.out] <;> rfl, by rw [hv.out]; exact ⟨rs, hG.out, hR.out, hW.out⟩⟩
end Go.Proofs.Ytmigdhbolbhbeaa
