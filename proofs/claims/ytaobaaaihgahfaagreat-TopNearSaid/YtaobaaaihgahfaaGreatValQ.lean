/- isPile, isAny, Valid of both packages. -/
import Derived.Test.YtaobaaaihgahfaaGreatGrpQ
namespace Go.Pil
theorem srt_snoc {l : List Grp} {g : Grp} : Srt (l ++ [g]) ↔ Srt l ∧ ∀ x ∈ l, lt x.p g.p = true := by
  (unfold Srt); (rw [List.pairwise_append])
  simp
theorem srt_last {l : List Grp} {x g : Grp} (h : Srt (l ++ [x])) (hx : lt x.p g.p = true) : ∀ y ∈ l ++ [x], lt y.p g.p = true := fun y hy => by
  rw [srt_snoc] at h
  rcases List.mem_append.1 hy with hy | hy
  · exact lt_trans (h.2 y hy) hx
  · (obtain rfl : y = x := by simpa using hy); (exact hx)
/-- The test of one group more. -/
def okG (n : Int) (l : List Grp) (k : Nat) (g : Grp) : Prop := ballot n g.p = true ∧ 1 ≤ g.n ∧ g.n ≤ 100000 - tot (l.take k) ∧ ∀ j x, k = j + 1 → l[j]? = some x → lt x.p g.p = true
theorem pile_step {n : Int} {l : List Grp} {k : Nat} {g : Grp} (hg : l[k]? = some g) (h : isPile n (l.take k) = true) : isPile n (l.take (k + 1)) = true ↔ okG n l k g := by
  (obtain ⟨hk, hgk⟩ := List.getElem?_eq_some_iff.1 hg); (rw [List.take_succ_eq_append_getElem hk, hgk]); (rw [isPile_iff] at h ⊢); (obtain ⟨h1, h2, h3⟩ := h); (have ht : tot [g] = g.n := by simp [tot]); (unfold okG); (rw [tot_append, ht, srt_snoc])
  constructor
  · (rintro ⟨a, b, c, d⟩); (have hgm := a g (by simp)); (refine ⟨hgm.1, hgm.2, by omega, fun j x hj hx => ?_⟩); (subst hj); (exact d x (List.mem_of_getElem? (i := j) (by rw [List.getElem?_take, if_pos (by omega)]; exact hx)))
  · (rintro ⟨a, b, c, d⟩); (refine ⟨fun x hx => ?_, by omega, h3, ?_⟩)
    · rcases List.mem_append.1 hx with hx | hx
      · exact h1 x hx
      · (obtain rfl : x = g := by simpa using hx); (exact ⟨a, b⟩)
    · cases k with
      | zero => intro x hx; simp at hx
      | succ j =>
        (obtain ⟨x, hx⟩ : ∃ x, l[j]? = some x := ⟨_, List.getElem?_eq_getElem (by omega)⟩); (have hlt := d j x rfl hx); (obtain ⟨hj, hxj⟩ := List.getElem?_eq_some_iff.1 hx); (rw [List.take_succ_eq_append_getElem hj, hxj] at h3 ⊢); (exact srt_last h3 hlt)
theorem pile_pre {n : Int} {l : List Grp} (h : isPile n l = true) (k : Nat) : isPile n (l.take k) = true := by
  (rw [isPile_iff] at h ⊢); (obtain ⟨h1, h2, h3⟩ := h); (refine ⟨fun g hg => h1 g (List.mem_of_mem_take hg), ?_, h3.sublist (List.take_sublist _ _)⟩); (have : tot l = tot (l.take k) + tot (l.drop k) := by rw [← tot_append, List.take_append_drop]); (have := tot_nonneg (l := l.drop k) fun g hg => (h1 g (List.mem_of_mem_drop hg)).2)
  omega
theorem pile_fail {n : Int} {l : List Grp} {k : Nat} {g : Grp} (hg : l[k]? = some g) (h : isPile n (l.take k) = true) (hf : ¬ okG n l k g) : isPile n l = false := by
  cases hb : isPile n l with
  | false => rfl
  | true => exact absurd ((pile_step hg h).1 (pile_pre hb (k + 1))) hf
theorem tot_step {l : List Grp} {k : Nat} {g : Grp} (hg : l[k]? = some g) : tot (l.take (k + 1)) = tot (l.take k) + g.n := by
  (obtain ⟨hk, hgk⟩ := List.getElem?_eq_some_iff.1 hg); (rw [List.take_succ_eq_append_getElem hk, hgk, tot_append]; simp [tot])
theorem pile_tot {n : Int} {l : List Grp} (h : isPile n l = true) : 0 ≤ tot l ∧ tot l ≤ 100000 := by
  (rw [isPile_iff] at h); (exact ⟨tot_nonneg fun g hg => (h.1 g hg).2, h.2.1⟩)
end Go.Pil
namespace Go.Proofs.YtaobaaaihgahfaaGreat
open Go.RowKit Go.Mk Go.Pil
theorem grps_get {ps : List (Grp × Value)} {k : Nat} (hk : k < ps.length) {g : Grp} {v : Value} (h : ps[k] = (g, v)) : (grps ps)[k]? = some g := by
  unfold grps; rw [List.getElem?_map, List.getElem?_eq_getElem hk, h]; rfl
end Go.Proofs.YtaobaaaihgahfaaGreat

/- isPile, isAny, Valid of package pile. -/
namespace Go.Mk
theorem alloc_named (w : World) (o : Obj) : ∃ w1, w1 = w.alloc o ∧ w1.heap[w.heap.size]? = some o ∧ Kept no w w1 := ⟨_, rfl, heap_alloc_new _ _, (Kept.refl no w).alloc _⟩
end Go.Mk
namespace Go.Proofs.YtaobaaaihgahfaaGreat
open Go.RowKit Go.Mk Go.Pil
set_option maxRecDepth 100000 in
set_option maxHeartbeats 2000000 in
theorem ispile_any (n : Int) (v : Value) (ps : List (Grp × Value)) (w : World) (hn : n ≤ 7) (hr : RdG w v ps) : Calls Tryz.prog 74 #[.int .i64 n, v] w fun e w' => e = .returned (.bool (isPile n (grps ps))) ∧ Kept no w w' := by
  (obtain ⟨ao, cap, rfl, hcap, hcm⟩ := hr.shape); (have hm63 := maxLen_63); (replace hr := hid hr); (obtain ⟨res, hres⟩ : ∃ res, isPile n (grps ps) = res := ⟨_, rfl⟩); (rw [hres]); (replace hres := hid hres); (obtain ⟨len, hlen⟩ : ∃ len, ps.length = len := ⟨_, rfl⟩); (rw [hlen] at hr hcap ⊢); (replace hlen := hid hlen)
  go_enter Tryz.func74, Tryz.ntmps74
  go_wp2
  go_loopw [5, 10] (fun r i wr => ∃ (k : Nat) (R : Int), k ≤ len ∧ i = .int .i64 (k : Int) ∧ r = .int .i64 R ∧ 0 ≤ R ∧ R ≤ 100000 ∧ Hd (R = tot ((grps ps).take k)) ∧ Hd (isPile n ((grps ps).take k) = true) ∧ Hd (Kept no w wr)) (fun _ i _ => len - (intOf i).toNat)
  case atStart => exact ⟨0, 0, by omega, rfl, rfl, by omega, by omega, ⟨by simp [tot]⟩, ⟨rfl⟩, ⟨Kept.refl _ _⟩⟩
  case round =>
    obtain ⟨k, R, hk, rfl, rfl, hR0, hR1, hR, hP, hW⟩ := hrel
    by_cases hlt : k < len
    · (have hk1 : (k : Int) < (len : Int) := by omega); (have hk0 : (0 : Int) ≤ (k : Int) := by omega); (obtain ⟨b, o, g, vg, rfl, hel, c0, c1, hz⟩ := (hr.out.kept hW.out).at k (by rw [hlen.out]; exact hlt)); (have hgk := grps_get _ hel); (have HS := hid (pile_step hgk hP.out)); (have HF := hid (pile_fail hgk hP.out)); (have HTS := hid (tot_step hgk)); (have hok : Hd (okG n (grps ps) k g ↔ ballot n g.p = true ∧ 1 ≤ g.n ∧ g.n ≤ 100000 - R ∧ ∀ j x, k = j + 1 → (grps ps)[j]? = some x → lt x.p g.p = true) := ⟨by unfold okG; rw [← hR.out]⟩); (obtain ⟨av, cv, rfl, _, _⟩ := Rd.shape2 hz); (obtain ⟨lv, hlv⟩ : ∃ lv, g.p.length = lv := ⟨_, rfl⟩); (rw [hlv] at c0 hz); (replace hz := hid hz); (replace hlv := hid hlv); (clear hel hgk); (generalize g.n = N at c1 hok HTS); (go_upto_region 5 with fail); (obtain ⟨w1, hw1, g1, k1⟩ := alloc_named wr (.cells #[.slice av lv cv, .int .i64 N] 105)); (rw [← hw1]); (have d0 : w1.cell? ⟨wr.heap.size, 0, none⟩ = some (.slice av lv cv) := by rw [cell_of_row w1 _ 0 _ _ _ g1]; rfl); (have d1 : w1.cell? ⟨wr.heap.size, 1, none⟩ = some (.int .i64 N) := by rw [cell_of_row w1 _ 1 _ _ _ g1]; rfl); (have K1 := hid (hW.out.trans' k1)); (replace k1 := hid k1); (generalize wr.heap.size = q at d0 d1); (clear hw1 g1)
      by_cases h1 : N < 1
      · (have hd1 : decide (N < 1) = true := decide_eq_true h1); (have hv := hid (HF.out (by rw [hok.out]; omega))); (clear HS HF hok HTS hP); (go_wp2); (go_ret); (exact ⟨by rw [← hres.out, hv.out]; rfl, K1.out⟩)
      (have hd1 : decide (N < 1) = false := decide_eq_false h1); (have hw2 : IntKind.i64.wrap (100000 - R) = 100000 - R := IntWalk.i64_in _ (by omega))
      by_cases h2 : 100000 - R < N
      · (have hd2 : decide (100000 - R < N) = true := decide_eq_true h2); (have hv := hid (HF.out (by rw [hok.out]; omega))); (clear HS HF hok HTS hP); (go_wp2); (go_ret); (exact ⟨by rw [← hres.out, hv.out]; rfl, K1.out⟩)
      (have hd2 : decide (100000 - R < N) = false := decide_eq_false h2); (have hw3 : IntKind.i64.wrap (R + N) = R + N := IntWalk.i64_in _ (by omega)); (have hR' : Hd (R + N = tot ((grps ps).take (k + 1))) := ⟨by rw [HTS.out, hR.out]⟩); (obtain ⟨hRl1, hRl2⟩ : 0 ≤ R + N ∧ R + N ≤ 100000 := by omega); (have HB := hid (isballot_any n (.slice av lv cv) g.p w1 hn (hz.out.kept k1.out))); (go_wp2_with fail); (refine HB.out.mono ?_); (rintro e w2 ⟨rfl, k2⟩); (have K2 := hid (K1.out.trans' k2)); (have e0 := k2.cell d0 id); (have e1 := k2.cell d1 id); (have k12 := hid (k1.out.trans' k2)); (clear k2 d0 d1 HB K1 k1)
      cases hb : ballot n g.p with
      | false =>
        (rw [hb] at hok); (have hv := hid (HF.out (by rw [hok.out]; simp))); (clear HS HF hok HTS hP hb); (go_wp2); (go_ret); (exact ⟨by rw [← hres.out, hv.out]; rfl, K2.out⟩)
      | true =>
        (rw [hb] at hok); (clear hb)
        cases k with
        | zero =>
          (have hd3 : decide ((0 : Int) < ((0 : Nat) : Int)) = false := by decide); (have hP' := hid (HS.out.2 (hok.out.2 ⟨rfl, by omega, by omega, fun j x hj => by omega⟩))); (clear HS HF hok HTS hP hR c0 c1); (go_wp2_with fail); (go_quiet (fail)); (have K3 := hid (K2.out.drewN nq)); (have e1' : (w2.drewN nq).cell? ⟨q, 1, none⟩ = some (.int .i64 N) := e1); (clear K2 e0 e1); (go_wp2); (go_roundw)
          case rel => first | exact ⟨0 + 1, R + N, by omega, by go_num, rfl, hRl1, hRl2, hR', hP', K3⟩ | ((repeat apply Exists.intro); exact ⟨⟨0 + 1, R + N, by omega, by go_num, rfl, hRl1, hRl2, hR', hP', K3⟩, rfl⟩)
          case measure => simp [intOf]; omega
        | succ j =>
          (have hj1 : IntKind.i64.wrap (((j + 1 : Nat) : Int) - 1) = (j : Int) := by rw [IntWalk.i64_in _ (by omega)]; omega); (have hj2 : (j : Int) < (len : Int) := by omega); (have hj3 : (0 : Int) ≤ (j : Int) := by omega); (have hd3 : decide ((0 : Int) < ((j + 1 : Nat) : Int)) = true := decide_eq_true (by omega)); (have hj4 : (0 : Int) < ((j + 1 : Nat) : Int) := by omega); (obtain ⟨b', o', gj, vj, eb, helj, f0, _, hzj⟩ := ((hr.out.kept hW.out).kept k12.out).at j (by rw [hlen.out]; omega))
          cases eb
          (have hgj := grps_get _ helj); (have HL := hid (Qt.quiet (w := w2) fun W (kw : Qt w2 W) => (compare_any vj (.slice av lv cv) gj.p g.p W (hzj.kept kw.kept) ((hz.out.kept k12.out).kept kw.kept)).mono fun _ _ ⟨h1, h2⟩ => ⟨h1, ⟨0, h2⟩⟩)); (clear helj hzj); (have hcl := cmp_lt gj.p g.p)
          cases hl : lt gj.p g.p with
          | false =>
            rw [hl] at hcl
            have hv := hid (HF.out (by
              (rw [hok.out]); (intro h); (have := h.2.2.2 j gj rfl hgj)
              rw [hl] at this; cases this))
            have hge : (0 : Int) ≤ cmp gj.p g.p := by
              rcases Int.lt_or_le (cmp gj.p g.p) 0 with h | h
              · exact absurd (hcl.1 h) (by decide)
              · exact h
            (generalize cmp gj.p g.p = cc at HL hge); (clear HS HF hok HTS hP hl hgj hcl); (go_wp2_with fail); (go_quiet ((go_at_call 45; exact HL.out _))); (have K3 := hid (K2.out.drewN nq)); (go_wp2); (go_ret); (exact ⟨by rw [← hres.out, hv.out]; rfl, K3.out⟩)
          | true =>
            rw [hl] at hcl
            have hP' := hid (HS.out.2 (hok.out.2 ⟨rfl, by omega, by omega, fun i x hi hx => by
              (obtain rfl : i = j := by omega); (rw [hgj] at hx); (obtain rfl := Option.some.inj hx)
              exact hl⟩))
            (have hge : ¬ (0 : Int) ≤ cmp gj.p g.p := by have := hcl.2 rfl; omega); (have hge' : decide ((0 : Int) ≤ cmp gj.p g.p) = false := decide_eq_false hge); (generalize cmp gj.p g.p = cc at HL hge hge'); (clear HS HF hok HTS hP hR hl hgj hcl); (go_wp2_with fail); (go_quiet ((go_at_call 45; exact HL.out _))); (have K3 := hid (K2.out.drewN nq)); (have e1' : (w2.drewN nq).cell? ⟨q, 1, none⟩ = some (.int .i64 N) := e1); (clear K2 e0 e1 HL); (go_wp2); (go_roundw)
            case rel => first | exact ⟨j + 1 + 1, R + N, by omega, by go_num, rfl, hRl1, hRl2, hR', hP', K3⟩ | ((repeat apply Exists.intro); exact ⟨⟨j + 1 + 1, R + N, by omega, by go_num, rfl, hRl1, hRl2, hR', hP', K3⟩, rfl⟩)
            case measure => simp [intOf]; omega
    · (obtain rfl : k = len := by omega); (have hv : Hd (isPile n (grps ps) = true) := ⟨by have := hP.out; rwa [List.take_of_length_le (by rw [grps_length, hlen.out]; exact Nat.le_refl _)] at this⟩); (clear hP hR); (go_wp2); (go_ret); (exact ⟨by rw [← hres.out, hv.out]; rfl, hW.out⟩)
set_option maxHeartbeats 400000 in
theorem isany_any (v : Value) (ps : List (Grp × Value)) (w : World) (hr : RdG w v ps) : Calls Tryz.prog 43 #[v] w fun e w' => e = .returned (.bool (isPile 7 (grps ps))) ∧ Kept no w w' := by
  have H := hid (ispile_any 7 v ps w (by decide) hr)
  go_enter Tryz.func43, Tryz.ntmps43
  (go_wp2_with fail); (refine H.out.mono ?_); (rintro e w1 ⟨rfl, k1⟩); (replace k1 := hid k1); (go_wp2); (go_ret); (exact ⟨rfl, k1.out⟩)
end Go.Proofs.YtaobaaaihgahfaaGreat
