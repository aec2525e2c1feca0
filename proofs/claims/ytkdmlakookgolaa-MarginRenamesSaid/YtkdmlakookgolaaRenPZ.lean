/- electionmake.RenamePile (printed by gen_renp.py). -/
import Derived.Test.YtkdmlakookgolaaRenZ
import Derived.Test.YtkdmlakookgolaaAddZ
namespace Go.Pil
def renG (p : List Int) (g : Grp) : Grp := ⟨ren p g.p, g.n⟩
def renP (p : List Int) (gs : List Grp) : List Grp := pileOf (gs.map (renG p))
theorem renG_take {p : List Int} {gs : List Grp} {j : Nat} {g : Grp} (h : gs[j]? = some g) : (gs.take (j + 1)).map (renG p) = (gs.take j).map (renG p) ++ [⟨ren p g.p, g.n⟩] := by
  (obtain ⟨h1, h2⟩ := List.getElem?_eq_some_iff.1 h); (rw [List.take_succ_eq_append_getElem h1, h2, List.map_append]; rfl)
theorem renG_tot (p : List Int) : ∀ gs : List Grp, tot (gs.map (renG p)) = tot gs
  | [] => rfl
  | g :: gs => by
    show tot (renG p g :: gs.map (renG p)) = tot (g :: gs)
    (have := renG_tot p gs); (unfold tot at this ⊢); (rw [List.map_cons, List.map_cons, List.sum_cons, List.sum_cons, this]; rfl)
theorem renG_pos {p : List Int} {gs : List Grp} (h : ∀ g ∈ gs, 1 ≤ g.n) : ∀ g ∈ gs.map (renG p), 1 ≤ g.n := fun g hg => by
  (obtain ⟨x, hx, rfl⟩ := List.mem_map.1 hg); (exact h x hx)
theorem renG_small {p : List Int} {gs : List Grp} (hp : ∀ g ∈ gs, 1 ≤ g.n) (ht : tot gs ≤ 100000) (j : Nat) : (∀ g ∈ (gs.take j).map (renG p), 1 ≤ g.n) ∧ tot ((gs.take j).map (renG p)) ≤ 100000 := by
  (refine ⟨renG_pos fun g hg => hp g (List.mem_of_mem_take hg), ?_⟩); (rw [renG_tot]); (have e : tot gs = tot (gs.take j) + tot (gs.drop j) := by rw [← tot_append, List.take_append_drop]); (have := tot_nonneg (l := gs.drop j) fun g hg => hp g (List.mem_of_mem_drop hg))
  omega
end Go.Pil
namespace Go.Proofs.Ytkdmlakookgolaa
open Go.RowKit Go.Mk Go.Pil
theorem pileOf_addR (l : List Grp) (p : List Int) (n : Int) : addG (pileOf l) p n = pileOf (l ++ [⟨p, n⟩]) := by unfold pileOf; rw [List.foldl_append]; rfl
def RdZp {Sl : Nat → Nat → Prop} (L : List Int) : Pr Sl := soft (fun v w => RdZ w v L) fun _ _ _ h k => h.kept k
def RdGp {Sl : Nat → Nat → Prop} (G : List Grp) : Pr Sl := soft (fun v w => ∃ qs, grps qs = G ∧ RdG w v qs) fun _ _ _ ⟨q, e, h⟩ k => ⟨q, e, h.kept k⟩
set_option maxRecDepth 100000 in
set_option maxHeartbeats 4000000 in
theorem renamepile_any (v vp : Value) (ps : List (Grp × Value)) (p : List Int) (w : World) (hr : RdG w v ps) (hz : RdZ w vp p) (hp : isPile 7 (grps ps) = true) (hb : ∀ g ∈ grps ps, ∀ x ∈ g.p, 0 ≤ x ∧ x < (p.length : Int)) :
    Calls Try.prog 44 #[v, vp] w fun e w' => ∃ v', e = .returned v' ∧ GR w w' v' (renP p (grps ps)) := by
  (obtain ⟨ao, cap, rfl, hcap, hcm⟩ := hr.shape); (have hm63 := maxLen_63); (have hpp := hid ((isPile_iff 7 _).1 hp))
  have hsh : Hd (ps.length ≤ 100000) := ⟨by
    (have h1 := len_tot (l := grps ps) fun g hg => (hpp.out.1 g hg).2); (rw [grps_length] at h1); (have h2 := hpp.out.2.1)
    omega⟩
  (clear hp); (obtain ⟨len, hlen⟩ : ∃ len, ps.length = len := ⟨_, rfl⟩); (have hl5 : len ≤ 100000 := by have := hsh.out; omega); (rw [hlen] at hr hcap ⊢); (replace hlen := hid hlen); (replace hr := hid hr); (replace hz := hid hz); (replace hb := hid hb); (have hsp := hid (fun (j : Nat) => renG_small (p := p) (fun g hg => (hpp.out.1 g hg).2) hpp.out.2.1 j))
  go_enter Try.func44, Try.ntmps44
  go_wp2
  go_loopw [5, 6] (fun out i wr => ∃ (j : Nat) (rs : List (Grp × Value)), j ≤ len ∧ i = .int .i64 (j : Int) ∧ Hd (grps rs = pileOf (((grps ps).take j).map (renG p))) ∧ Hd (RdG wr out rs) ∧ Hd (Kept no w wr)) (fun _ i _ => len - (intOf i).toNat)
  case atStart => exact ⟨0, [], by omega, rfl, ⟨rfl⟩, ⟨(fun x hx => by cases hx), nil_rd _ _⟩, ⟨Kept.refl _ _⟩⟩
  case round =>
    obtain ⟨j, rs, hj, rfl, hrs, hR, hW⟩ := hrel
    by_cases hlt : j < len
    · (have hj1 : (j : Int) < (len : Int) := by omega); (have hj0 : (0 : Int) ≤ (j : Int) := by omega); (obtain ⟨b, o, g, vg, rfl, hel, c0, c1, hzg⟩ := (hr.out.kept hW.out).at j (by rw [hlen.out]; exact hlt)); (have hgk := grps_get _ hel); (have hgm := List.mem_of_getElem? hgk); (have hg1 := (hpp.out.1 g hgm).2)
      have hg2 : g.n ≤ 100000 := by
        (have h2 := n_le_tot (fun y hy => (hpp.out.1 y hy).2) g hgm); (have h3 := hpp.out.2.1)
        omega
      (have hgl : g.p.length ≤ 7 := ballot_len (hpp.out.1 g hgm).1 (by omega)); (have hgb := hid (hb.out g hgm)); (have hft := hid (renG_take (p := p) hgk)); (have hsl := hsp.out j); (have hsm : Hd (small rs) := ⟨small_of (by rw [hrs.out]; exact pileOf_pos hsl.1) (by rw [hrs.out, pileOf_tot hsl.1]; exact hsl.2)⟩); (have HR := hid (fun (W : World) (k : Kept no wr W) => rename_any vg vp g.p p W (hzg.kept k) (hz.out.kept (hW.out.trans' k)) hgb.out (by omega))); (have HA := hid (fun (W : World) (k : Kept no wr W) (u : Value) (hu : RdZ W u (ren p g.p)) => refadd_any u5 u rs (ren p g.p) g.n W (hR.out.kept k) hu hsm.out (by omega))); (obtain ⟨N, hN⟩ : ∃ N, g.n = N := ⟨_, rfl⟩); (rw [hN] at c1 HA hft); (obtain ⟨Q, hQ⟩ : ∃ Q, pileOf (((grps ps).take (j + 1)).map (renG p)) = Q := ⟨_, rfl⟩); (have hQ2 : Hd (addG (grps rs) (ren p g.p) N = Q) := ⟨by rw [hrs.out, pileOf_addR, ← hft.out, hQ]⟩); (replace hQ := hid hQ); (have c0h := hid c0); (have c1h := hid c1); (clear hel hgk hgm hsl hg1 hg2 hgl hgb hsm hN hft hrs hzg hR c0 c1); (go_upto_region 5 with fail); (refine region_flow (S := no) (Sl := (fun _ => no)) [Is (u5), Is (.slice (some ⟨b, o, none⟩) len cap), Is (.int .i64 (j : Int)), Is (.pointer (some ⟨b, o + j * 2, none⟩)), Is (.pointer (some ⟨b, o + j * 2, none⟩)), Is (vg), Is (vp), RdZp (ren p g.p), Is (.slice (some ⟨b, o, none⟩) len cap), Is (.int .i64 (j : Int)), Is (.pointer (some ⟨b, o + j * 2, none⟩)), Is (.pointer (some ⟨b, o + j * 2 + 1, none⟩)), Is (.int .i64 N), RdGp Q, RdGp Q] [] (fun _ _ h => h) _ (by kernel_rfl) (by kernel_rfl) (by kernel_rfl) (by kernel_rfl) (fun x => by simp only [puts, Act.put, List.map_cons, List.map_nil, Nat.zero_add, Nat.reduceAdd, List.setIfInBounds_toArray, List.set_cons_zero, List.set_cons_succ]; exact rfl) ?_ ?_)
      · (skip); (refine .cons (fun x wf Kk hq hdep hold => ?_) ?_)
        · (try dsimp only); (have h14 : x 14 = u5 := hold 14 (by kernel_rfl)); (clear hq hdep hold); (simp only [h14]); (clear h14); (rw [if_pos (by rfl)]); (refine OpY.val ?_ ⟨Kept.refl _ _, rfl⟩); (first | rfl | go_simp)
        refine .cons (fun x wf Kk hq hdep hold => ?_) ?_
        · (try dsimp only); (clear hq hdep hold); (rw [if_pos (by rfl)]); (refine OpY.val ?_ ⟨Kept.refl _ _, rfl⟩); (first | rfl | go_simp)
        refine .cons (fun x wf Kk hq hdep hold => ?_) ?_
        · (try dsimp only); (clear hq hdep hold); (rw [if_pos (by rfl)]); (refine OpY.val ?_ ⟨Kept.refl _ _, rfl⟩); (first | rfl | go_simp)
        refine .cons (fun x wf Kk hq hdep hold => ?_) ?_
        · (try dsimp only); (have h1 : x 1 = _ := hdep 1 (by kernel_rfl)); (have h2 : x 2 = _ := hdep 2 (by kernel_rfl)); (clear hq hdep hold); (simp only [h1, h2]); (clear h1 h2); (rw [if_pos (by rfl)]); (refine OpY.val ?_ ⟨Kept.refl _ _, rfl⟩); (first | rfl | go_simp)
        refine .cons (fun x wf Kk hq hdep hold => ?_) ?_
        · (try dsimp only); (have h3 : x 3 = _ := hdep 3 (by kernel_rfl)); (clear hq hdep hold); (simp only [h3]); (clear h3); (rw [if_pos (by rfl)]); (refine OpY.val ?_ ⟨Kept.refl _ _, rfl⟩); (first | rfl | go_simp)
        refine .cons (fun x wf Kk hq hdep hold => ?_) ?_
        · (try dsimp only); (have h4 : x 4 = _ := hdep 4 (by kernel_rfl)); (clear hq hdep hold); (simp only [h4]); (clear h4); (have m0 := Kk.undrew.cell c0h.out id); (rw [if_pos (by rfl)]); (refine OpY.val ?_ ⟨Kept.refl _ _, rfl⟩); (first | rfl | go_simp)
        refine .cons (fun x wf Kk hq hdep hold => ?_) ?_
        · (try dsimp only); (clear hq hdep hold); (rw [if_pos (by rfl)]); (refine OpY.val ?_ ⟨Kept.refl _ _, rfl⟩); (first | rfl | go_simp)
        refine .cons (fun x wf Kk hq hdep hold => ?_) ?_
        · (try dsimp only); (have h5 : x 5 = _ := hdep 5 (by kernel_rfl)); (have h6 : x 6 = _ := hdep 6 (by kernel_rfl)); (clear hq hdep hold); (simp only [h5, h6]); (clear h5 h6); (rw [if_pos (by rfl)]); (refine OpY.call (f := 46) (args := #[(vg), (vp)]) (by go_simp) ?_); (refine (HR.out wf Kk.undrew).mono ?_); (rintro e w2 ⟨v2, rfl, o2⟩); (exact ⟨_, rfl, o2.kept, o2.rd⟩)
        refine .cons (fun x wf Kk hq hdep hold => ?_) ?_
        · (try dsimp only); (clear hq hdep hold); (rw [if_pos (by rfl)]); (refine OpY.val ?_ ⟨Kept.refl _ _, rfl⟩); (first | rfl | go_simp)
        refine .cons (fun x wf Kk hq hdep hold => ?_) ?_
        · (try dsimp only); (clear hq hdep hold); (rw [if_pos (by rfl)]); (refine OpY.val ?_ ⟨Kept.refl _ _, rfl⟩); (first | rfl | go_simp)
        refine .cons (fun x wf Kk hq hdep hold => ?_) ?_
        · (try dsimp only); (have h8 : x 8 = _ := hdep 8 (by kernel_rfl)); (have h9 : x 9 = _ := hdep 9 (by kernel_rfl)); (clear hq hdep hold); (simp only [h8, h9]); (clear h8 h9); (rw [if_pos (by rfl)]); (refine OpY.val ?_ ⟨Kept.refl _ _, rfl⟩); (first | rfl | go_simp)
        refine .cons (fun x wf Kk hq hdep hold => ?_) ?_
        · (try dsimp only); (have h10 : x 10 = _ := hdep 10 (by kernel_rfl)); (clear hq hdep hold); (simp only [h10]); (clear h10); (rw [if_pos (by rfl)]); (refine OpY.val ?_ ⟨Kept.refl _ _, rfl⟩); (first | rfl | go_simp)
        refine .cons (fun x wf Kk hq hdep hold => ?_) ?_
        · (try dsimp only); (have h11 : x 11 = _ := hdep 11 (by kernel_rfl)); (clear hq hdep hold); (simp only [h11]); (clear h11); (have m1 := Kk.undrew.cell c1h.out id); (rw [if_pos (by rfl)]); (refine OpY.val ?_ ⟨Kept.refl _ _, rfl⟩); (first | rfl | go_simp)
        refine .cons (fun x wf Kk hq hdep hold => ?_) ?_
        · (try dsimp only); (have h0 : x 0 = _ := hdep 0 (by kernel_rfl)); (have p7 : Pr.p (Sl := (fun _ => no)) (RdZp (ren p g.p)) (x 7) wf := hdep 7 (by kernel_rfl)); (have h12 : x 12 = _ := hdep 12 (by kernel_rfl)); (clear hq hdep hold); (simp only [h0, h12]); (clear h0 h12); (rw [if_pos (by rfl)]); (refine OpY.call (f := 90) (args := #[(u5), x 7, (.int .i64 N)]) (by go_simp) ?_); (refine (HA.out wf Kk.undrew _ p7).mono ?_); (rintro e w2 ⟨v2, qs, rfl, o2, hq2⟩); (exact ⟨_, rfl, o2.kept, qs, hq2.trans hQ2.out, o2.rd⟩)
        refine .cons (fun x wf Kk hq hdep hold => ?_) ?_
        · (try dsimp only); (have p13 : Pr.p (Sl := (fun _ => no)) (RdGp Q) (x 13) wf := hdep 13 (by kernel_rfl)); (clear hq hdep hold); (rw [if_pos (by rfl)]); (exact OpY.val (v := x 13) rfl ⟨Kept.refl _ _, p13⟩)
        exact .nil _
      · (intro x wf Kk hv); (try dsimp only); (have p14 : Pr.p (Sl := (fun _ => no)) (RdGp Q) (x 14) wf := hv 14 (by kernel_rfl)); (clear hv); (obtain ⟨qs, hqs, hRq⟩ := p14); (generalize x 14 = vn at hRq ⊢); (have hrs' : Hd (grps qs = pileOf (((grps ps).take (j + 1)).map (renG p))) := ⟨by rw [hqs, hQ.out]⟩); (have hRq' := hid hRq); (have hW' := hid (hW.out.trans' Kk.undrew)); (clear hqs hRq Kk hW hQ hQ2 HR HA c0h c1h); (go_wp2); (go_roundw)
        case rel => first | exact ⟨j + 1, qs, by omega, by go_num, hrs', hRq', hW'⟩ | ((repeat apply Exists.intro); exact ⟨⟨j + 1, qs, by omega, by go_num, hrs', hRq', hW'⟩, rfl⟩)
        case measure => simp [intOf]; omega
    · obtain rfl : j = len := by omega
      have hG : Hd (grps rs = renP p (grps ps)) := ⟨by
        rw [hrs.out, List.take_of_length_le (by rw [grps_length, hlen.out]; exact Nat.le_refl _)]; rfl⟩
      (clear hrs); (go_wp2); (go_ret); (exact ⟨_, rfl, ⟨rs, hG.out, hR.out, hW.out⟩⟩)
end Go.Proofs.Ytkdmlakookgolaa
