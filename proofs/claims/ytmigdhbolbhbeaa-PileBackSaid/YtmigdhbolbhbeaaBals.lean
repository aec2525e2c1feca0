/- pile.Ballots: every ballot of the pile, in the order of the groups. -/
import Derived.Test.YtmigdhbolbhbeaaGen3
namespace Go.Pil
theorem expand_take {gs : List Grp} {k : Nat} {g : Grp} (hg : gs[k]? = some g) : expand (gs.take (k + 1)) = expand (gs.take k) ++ List.replicate g.n.toNat g.p := by
  obtain ⟨hk, hgk⟩ := List.getElem?_eq_some_iff.1 hg
  unfold expand
  rw [List.take_succ_eq_append_getElem hk, hgk]; simp
theorem expand_le {n : Int} {gs : List Grp} (h : isPile n gs = true) (k : Nat) : ((expand (gs.take k)).length : Int) ≤ 100000 := by
  have h1 := tot_pre h k
  rw [expand_len _ fun g hg => (((isPile_iff n gs).1 h).1 g (List.mem_of_mem_take hg)).2]; omega
def balsOf (gs : List Grp) : List (List Int) := if isPile 7 gs = true then expand gs else []
end Go.Pil
namespace Go.Proofs.Ytmigdhbolbhbeaa
open Go.RowKit Go.Mk Go.Pil
theorem lists_app (a b : List (List Int × Value)) : lists (a ++ b) = lists a ++ lists b := by simp [lists]
set_option maxRecDepth 100000 in
set_option maxHeartbeats 4000000 in
theorem pballots_any (v : Value) (ps : List (Grp × Value)) (w : World) (hr : RdG w v ps) : Calls Try.prog 33 #[v] w fun e w' => ∃ v' bs, e = .returned v' ∧ lists bs = balsOf (grps ps) ∧ OwL w w' v' bs := by
  obtain ⟨ao, cap, rfl, hcap, hcm⟩ := hr.shape
  have hm63 := maxLen_63
  have HI := isany_any _ ps w hr
  cases hP : isPile 7 (grps ps) with
  | false =>
    have hv : Hd (balsOf (grps ps) = []) := ⟨by unfold balsOf; rw [if_neg (by rw [hP]; simp)]⟩
    rw [hP] at HI
    replace HI := hid HI
    clear hP hr
    go_enter Try.func33, Try.ntmps33
    go_wp2_with fail
    refine HI.out.mono ?_
    rintro e w1 ⟨rfl, k1⟩
    replace k1 := hid k1
    go_wp2
    go_ret
    exact ⟨_, [], rfl, by rw [hv.out]; rfl, (OwL.nil w).keptNo k1.out⟩
  | true =>
    have hv : Hd (balsOf (grps ps) = expand (grps ps)) := ⟨by unfold balsOf; rw [if_pos hP]⟩
    rw [hP] at HI
    replace HI := hid HI
    have hle := hid (expand_le hP)
    have hpos : Hd (∀ g ∈ grps ps, 1 ≤ g.n ∧ g.n ≤ 100000 ∧ g.p.length ≤ 7) := ⟨fun g hg => by
      have h1 := (isPile_iff 7 _).1 hP
      have h2 := h1.1 g hg
      have h3 := n_le_tot (fun x hx => (h1.1 x hx).2) g hg
      exact ⟨h2.2, by omega, ballot_len h2.1 (by omega)⟩⟩
    replace hr := hid hr
    clear hP
    obtain ⟨len, hlen⟩ : ∃ len, ps.length = len := ⟨_, rfl⟩
    rw [hlen] at hr hcap HI ⊢
    replace hlen := hid hlen
    go_enter Try.func33, Try.ntmps33
    go_wp2_with fail
    refine HI.out.mono ?_
    rintro e w1 ⟨rfl, k1⟩
    have hO0 := hid ((OwL.nil w).keptNo k1)
    clear k1 HI
    go_wp2
    go_loopw [3, 11] (fun out i wr => ∃ (k : Nat) (bs : List (List Int × Value)), k ≤ len ∧ i = .int .i64 (k : Int) ∧ Hd (lists bs = expand ((grps ps).take k)) ∧ Hd (OwL w wr out bs)) (fun _ i _ => len - (intOf i).toNat)
    case atStart => exact ⟨0, [], by omega, rfl, ⟨rfl⟩, hO0⟩
    case round =>
      clear hO0
      obtain ⟨k, bs, hk, rfl, hbs, hO⟩ := hrel
      by_cases hlt : k < len
      · have hk1 : (k : Int) < (len : Int) := by omega
        have hk0 : (0 : Int) ≤ (k : Int) := by omega
        obtain ⟨b, o, g, vg, rfl, hel, c0, c1, hz⟩ := (hr.out.kept hO.out.kept).at k (by rw [hlen.out]; exact hlt)
        have hgk := grps_get _ hel
        have hz0 : RdZ w vg g.p := by have := hr.out.1 _ (List.getElem_mem (show k < ps.length by rw [hlen.out]; exact hlt)); rwa [hel] at this
        obtain ⟨hn1, hn2, hpl⟩ := hpos.out g (List.mem_of_getElem? hgk)
        have het := hid (expand_take hgk)
        have hle1 := hid (hle.out (k + 1))
        obtain ⟨N, hN⟩ : ∃ N : Nat, g.n = (N : Int) := ⟨g.n.toNat, by omega⟩
        rw [hN, Int.toNat_natCast] at het
        rw [hN] at c1 hn1 hn2
        obtain ⟨av, cv, rfl, _, _⟩ := Rd.shape2 hz
        obtain ⟨lv, hlv⟩ : ∃ lv, g.p.length = lv := ⟨_, rfl⟩
        rw [hlv] at c0 hz hz0 hpl
        generalize hgp : g.p = gp at het hz hz0 hlv
        clear hel hgk hz hN hgp
        replace hlv := hid hlv
        replace hz0 := hid hz0
        go_upto_region 7 with fail
        obtain ⟨w2, hw2, g2, k2⟩ := alloc_named wr (.cells #[.slice av lv cv, .int .i64 (N : Int)] 67)
        rw [← hw2]
        obtain ⟨q, hq⟩ : ∃ q, wr.heap.size = q := ⟨_, rfl⟩
        have d0 : Hd (w2.cell? ⟨q, 0, none⟩ = some (.slice av lv cv)) := ⟨by rw [← hq, cell_of_row w2 _ 0 _ _ _ g2]; rfl⟩
        have d1 : w2.cell? ⟨q, 1, none⟩ = some (.int .i64 (N : Int)) := by rw [← hq, cell_of_row w2 _ 1 _ _ _ g2]; rfl
        rw [hq]
        have hO2 := hid (hO.out.keptNo k2)
        have hqv : Hd (q < w2.heap.size) := ⟨by rw [← hq]; exact lt_of_heap g2⟩
        have hqo : Hd (∀ j, (ob u3) j → j < q) := ⟨fun j hj => by rw [← hq]; exact own_lt hO.out.own j hj⟩
        clear hw2 g2 hO c0 c1 k2 hq
        obtain ⟨wo, rfl⟩ : ∃ wo : World, wo = wr := ⟨_, rfl⟩
        go_wp2
        have hqc : Hd (Kept no w2 w2) := ⟨Kept.refl _ _⟩
        go_loopw [3, 17] (fun out j wr => ∃ (k2 : Nat) (cs : List (List Int × Value)), k2 ≤ N ∧ j = .int .i64 (k2 : Int) ∧ Hd (lists cs = lists bs ++ List.replicate k2 gp) ∧ Hd (OwL w wr out cs) ∧ Hd (wr.cell? ⟨q, 0, none⟩ = some (.slice av lv cv)) ∧ Hd (∀ j, (ob out) j → j ≠ q)) (fun _ j _ => N - (intOf j).toNat)
        case atStart => exact ⟨0, bs, by omega, rfl, ⟨by simp⟩, hO2, d0, ⟨fun j hj => by have := hqo.out j hj; omega⟩⟩
        case round =>
          clear hO2 d0 hqc
          obtain ⟨j, cs, hj, rfl, hcs, hO, d0, hne⟩ := hrel
          by_cases hjl : j < N
          · have hj1 : (j : Int) < (N : Int) := by omega
            have HC := hid (clonez_any (.slice av lv cv) gp wr (by rw [hlv.out]; omega) (hz0.out.kept hO.out.kept))
            rw [hlv.out] at HC
            have hcl : Hd (cs.length + 1 ≤ 100000) := ⟨by
              have h1 := hle1.out
              have h2 := congrArg List.length hcs.out
              rw [het.out, List.length_append, List.length_replicate] at h1
              rw [lists_length, List.length_append, List.length_replicate] at h2
              rw [hbs.out] at h2
              omega⟩
            have hls : cs.length + 1 ≤ maxLen ∧ (cs.length + 1) * 24 ≤ 140737488355328 := by have := hcl.out; have hm : maxLen = 9223372036854775807 := rfl; omega
            replace hls := hid hls
            have d0' := d0.out
            go_wp2_with fail
            refine HC.out.mono ?_
            rintro e w3 ⟨u, rfl, hu, k3, nu⟩
            obtain ⟨au, cu, rfl, _, _⟩ := Rd.shape2 (show RdZ w3 u gp from own_RdZ (by rw [hlv.out]; exact hu))
            have hO3 := hid (hO.out.keptNo k3)
            have d3 := hid (k3.cell d0.out id)
            rw [hlv.out]
            rw [hlv.out] at hu
            have hu' : Hd (w3.ownsRow 0 3 1 (.slice au lv cu) gp.length (gp.map Z)) := ⟨by rw [hlv.out]; exact hu⟩
            replace k3 := hid k3
            clear HC hu nu d0' d0
            go_wp2_with (at_builtin; refine wpList_append_lit _ rfl _ _ 22 rfl 36 1 24 TBals _ _ _ rfl hO3.out.own 1 [_] rfl rfl ?c1 ?c2 ?c3 ?_)
            case c1 => simp [Value.oneCell']
            case c2 => exact hls.out.1
            case c3 => exact hls.out.2
            intro v' w4 h2 h3 h4 _
            have hO4 := hid (hO.out.add gp k3.out hu'.out h2 h3 h4)
            have hcs' : Hd (lists (cs ++ [(gp, Value.slice au lv cu)]) = lists bs ++ List.replicate (j + 1) gp) := ⟨by rw [lists_app, hcs.out, List.replicate_succ', ← List.append_assoc]; rfl⟩
            have hnq : ¬ (ob u3) q := fun h => hne.out q h rfl
            have d4 := hid (h3.cell d3.out hnq)
            have hne' : Hd (∀ j, (ob v') j → j ≠ q) := ⟨fun j hj => by
              rcases h4 with h4 | ⟨k, h4, h5⟩
              · exact hne.out j (by unfold ob at hj ⊢; rw [← h4]; exact hj)
              · have e1 : j = k := by unfold ob at hj; rw [h4] at hj; exact (Option.some.inj hj).symm
                have := lt_of_cell d3.out
                simp only at this
                omega⟩
            clear h2 h3 h4 hO hO3 hcs hls hcl hu' k3 d3 hne hnq
            go_wp2
            go_roundw
            case rel => first | exact ⟨j + 1, _, by omega, by go_num, hcs', hO4, d4, hne'⟩ | ((repeat apply Exists.intro); exact ⟨⟨j + 1, _, by omega, by go_num, hcs', hO4, d4, hne'⟩, rfl⟩)
            case measure => simp [intOf]; omega
          · obtain rfl : j = N := by omega
            have hbs' : Hd (lists cs = expand ((grps ps).take (k + 1))) := ⟨by rw [hcs.out, hbs.out, het.out]⟩
            clear hcs hbs het d0 hne hqo hqv
            go_wp2
            go_roundw
            case rel => first | exact ⟨k + 1, cs, by omega, by go_num, hbs', hO⟩ | ((repeat apply Exists.intro); exact ⟨⟨k + 1, cs, by omega, by go_num, hbs', hO⟩, rfl⟩)
            case measure => simp [intOf]; omega
      · obtain rfl : k = len := by omega
        have hv' : Hd (lists bs = balsOf (grps ps)) := ⟨by rw [hbs.out, List.take_of_length_le (by rw [grps_length, hlen.out]; exact Nat.le_refl _), hv.out]⟩
        clear hbs hv hle hpos
        go_wp2
        go_ret
        exact ⟨_, bs, rfl, hv'.out, hO.out⟩
end Go.Proofs.Ytmigdhbolbhbeaa
