/- Sums over the groups of a pile: pile.sum, Total, Marked; Valid. -/
import Derived.Test.YtmigdhbolbhbeaaCnt1
import Derived.Shelf.Abstract
namespace Go.Proofs.Ytmigdhbolbhbeaa
open Go.RowKit Go.Mk Go.Pil
/-- What the function value gives at a group. -/
def wt (Q : List Int → Bool) (g : Grp) : Int := if Q g.p = true then g.n else 0
set_option maxHeartbeats 1000000 in
theorem total1_any (x : Grp × Value) (W : World) (hx : RdZ W x.2 x.1.p) : Calls Try.prog 62 #[.agg (grpC x).toArray] W fun e w' => e = .returned (.int .i64 (wt (fun _ => true) x.1)) ∧ Kept no W w' := by
  obtain ⟨⟨xp, xn⟩, xv⟩ := x
  simp only at hx ⊢
  obtain ⟨ax, cx, rfl, _, _⟩ := Rd.shape2 hx
  have k1 := hid ((Kept.refl no W).alloc (.cells #[.slice ax xp.length cx, .int .i64 xn] 67))
  have hv : Hd (wt (fun _ => true) ⟨xp, xn⟩ = xn) := ⟨by simp [wt]⟩
  unfold grpC
  clear hx
  go_enter Try.func62, Try.ntmps62
  go_wp2
  go_ret
  exact ⟨by rw [hv.out] <;> rfl, k1.out⟩
set_option maxHeartbeats 1000000 in
theorem marked1_any (x : Grp × Value) (W : World) (hx : RdZ W x.2 x.1.p) : Calls Try.prog 63 #[.agg (grpC x).toArray] W fun e w' => e = .returned (.int .i64 (wt (fun p => !p.isEmpty) x.1)) ∧ Kept no W w' := by
  obtain ⟨⟨xp, xn⟩, xv⟩ := x
  simp only at hx ⊢
  obtain ⟨ax, cx, rfl, _, _⟩ := Rd.shape2 hx
  have k1 := hid ((Kept.refl no W).alloc (.cells #[.slice ax xp.length cx, .int .i64 xn] 67))
  unfold grpC
  clear hx
  cases xp with
  | nil =>
    have hv : Hd (wt (fun p => !p.isEmpty) ⟨[], xn⟩ = 0) := ⟨by simp [wt]⟩
    go_enter Try.func63, Try.ntmps63
    go_wp2
    go_ret
    exact ⟨by rw [hv.out] <;> rfl, k1.out⟩
  | cons a l =>
    have hv : Hd (wt (fun p => !p.isEmpty) ⟨a :: l, xn⟩ = xn) := ⟨by simp [wt]⟩
    have hb : ((((a :: l).length : Nat) : Int) == 0) = false := by simp; omega
    have hb2 : decide ((((a :: l).length : Nat) : Int) = 0) = false := by simp; omega
    generalize wt (fun p => !p.isEmpty) ⟨a :: l, xn⟩ = res at hv ⊢
    generalize (a :: l).length = n at k1 hb hb2 ⊢
    go_enter Try.func63, Try.ntmps63
    go_wp2
    go_ret
    exact ⟨by rw [hv.out] <;> rfl, k1.out⟩
set_option maxRecDepth 20000 in
set_option maxHeartbeats 1000000 in
theorem sum_any (f : Nat) (Q : List Int → Bool) (v : Value) (ps : List (Grp × Value)) (w : World) (hr : RdG w v ps) (hP : isPile 7 (grps ps) = true)
    (hf : ∀ (x : Grp × Value) (W : World), RdZ W x.2 x.1.p → Calls Try.prog f #[.agg (grpC x).toArray] W fun e w' => e = .returned (.int .i64 (wt Q x.1)) ∧ Kept no W w')
    (eg : ∀ args w, (callFunc f args).run Try.prog w = .ok (.enter f args) w) :
    Calls Try.prog 61 #[v, .func (.func f) #[] #[]] w fun e w' => e = .returned (.int .i64 (sumIf Q (grps ps))) ∧ Kept no w w' := by
  obtain ⟨ao, cap, rfl, hcap, hcm⟩ := hr.shape
  have hm63 := maxLen_63
  have hb : Hd (∀ k, 0 ≤ sumIf Q ((grps ps).take k) ∧ sumIf Q ((grps ps).take k) ≤ 100000) := ⟨fun k => sumIf_pre (n := 7) hP k⟩
  replace hr := hid hr
  replace hf := hid hf
  clear hP
  obtain ⟨len, hlen⟩ : ∃ len, ps.length = len := ⟨_, rfl⟩
  rw [hlen] at hr hcap ⊢
  replace hlen := hid hlen
  go_enter Try.func61, Try.ntmps61
  go_wp2
  go_loopw [5, 10] (fun s i wr => ∃ (k : Nat) (T : Int), k ≤ len ∧ i = .int .i64 (k : Int) ∧ s = .int .i64 T ∧ Hd (T = sumIf Q ((grps ps).take k)) ∧ Hd (Kept no w wr)) (fun _ i _ => len - (intOf i).toNat)
  case atStart => exact ⟨0, 0, by omega, rfl, rfl, ⟨by simp [sumIf]⟩, ⟨Kept.refl _ _⟩⟩
  case round =>
    obtain ⟨k, T, hk, rfl, rfl, hT, hW⟩ := hrel
    by_cases hlt : k < len
    · have hk1 : (k : Int) < (len : Int) := by omega
      have hk0 : (0 : Int) ≤ (k : Int) := by omega
      obtain ⟨b, o, g, vg, rfl, hel, c0, c1, hz⟩ := (hr.out.kept hW.out).at k (by rw [hlen.out]; exact hlt)
      have hts := hid (sumIf_take (Q := Q) (grps_get _ hel))
      have hb1 := hb.out k
      have hb2 := hb.out (k + 1)
      rw [hts.out, ← hT.out] at hb2
      rw [← hT.out] at hb1
      have hw1 : IntKind.i64.wrap (T + wt Q g) = T + wt Q g := IntWalk.i64_in _ (by unfold wt; omega)
      have hT' : Hd (T + wt Q g = sumIf Q ((grps ps).take (k + 1))) := ⟨by rw [hts.out, hT.out]; rfl⟩
      obtain ⟨wa, hwa, ga, ka⟩ := alloc_named wr (.cells #[vg, .int .i64 g.n] 67)
      have HF := hid (hf.out (g, vg) wa (hz.kept ka))
      simp only at HF
      unfold grpC at HF
      simp only at HF
      generalize wt Q g = F at HF hw1 hT'
      have hW' := hid (hW.out.trans' ka)
      obtain ⟨av, cv, rfl, _, _⟩ := Rd.shape2 hz
      replace hwa := hid hwa
      clear hts hb1 hb2 hT hel hz ga hW ka
      go_upto_region 5 with fail
      rw [← hwa.out]
      have d0 : wa.cell? ⟨wr.heap.size, 0, none⟩ = some (.slice av g.p.length cv) := by rw [hwa.out]; simp
      have d1 : wa.cell? ⟨wr.heap.size, 1, none⟩ = some (.int .i64 g.n) := by rw [hwa.out]; simp
      generalize wr.heap.size = q at d0 d1
      clear hwa c0 c1
      go_wp2_with fail
      refine HF.out.mono ?_
      rintro e w2 ⟨rfl, k2⟩
      have hW2 := hid (hW'.out.trans' k2)
      clear k2 HF hW' d0 d1
      go_wp2
      go_roundw
      case rel => first | exact ⟨k + 1, T + F, by omega, by go_num, rfl, hT', hW2⟩ | ((repeat apply Exists.intro); exact ⟨⟨k + 1, T + F, by omega, by go_num, rfl, hT', hW2⟩, rfl⟩)
      case measure => simp [intOf]; omega
    · obtain rfl : k = len := by omega
      have hv : Hd (T = sumIf Q (grps ps)) := ⟨by rw [hT.out, List.take_of_length_le (by rw [grps_length, hlen.out]; exact Nat.le_refl _)]⟩
      clear hT hb
      go_wp2
      go_ret
      exact ⟨by rw [hv.out] <;> rfl, hW.out⟩
set_option maxHeartbeats 400000 in
theorem total_any (v : Value) (ps : List (Grp × Value)) (w : World) (hr : RdG w v ps) : Calls Try.prog 27 #[v] w fun e w' => e = .returned (.int .i64 (total (grps ps))) ∧ Kept no w w' := by
  have HI := isany_any v ps w hr
  cases hP : isPile 7 (grps ps) with
  | false =>
    have hv : Hd (total (grps ps) = 0) := ⟨by unfold total; rw [if_neg (by rw [hP]; simp)]⟩
    rw [hP] at HI
    replace HI := hid HI
    clear hP hr
    go_enter Try.func27, Try.ntmps27
    go_wp2_with fail
    refine HI.out.mono ?_
    rintro e w1 ⟨rfl, k1⟩
    replace k1 := hid k1
    go_wp2
    go_ret
    exact ⟨by rw [hv.out] <;> rfl, k1.out⟩
  | true =>
    have hv : Hd (total (grps ps) = sumIf (fun _ => true) (grps ps)) := ⟨by unfold total; rw [if_pos hP, sumIf_all]⟩
    have HS := hid (fun W (k : Kept no w W) => sum_any 62 (fun _ => true) v ps W (hr.kept k) hP total1_any (enters_of Try.func62 (by kernel_rfl) rfl))
    rw [hP] at HI
    replace HI := hid HI
    clear hP hr
    rw [hv.out]
    clear hv
    go_enter Try.func27, Try.ntmps27
    go_wp2_with fail
    refine HI.out.mono ?_
    rintro e w1 ⟨rfl, k1⟩
    replace HS := hid (HS.out w1 k1)
    replace k1 := hid k1
    go_wp2_with fail
    refine HS.out.mono ?_
    rintro e w2 ⟨rfl, k2⟩
    have k3 := hid (k1.out.trans' k2)
    clear k2
    go_wp2
    go_ret
    exact ⟨rfl, k3.out⟩
set_option maxHeartbeats 400000 in
theorem marked_any (v : Value) (ps : List (Grp × Value)) (w : World) (hr : RdG w v ps) : Calls Try.prog 29 #[v] w fun e w' => e = .returned (.int .i64 (marked (grps ps))) ∧ Kept no w w' := by
  have HI := isany_any v ps w hr
  cases hP : isPile 7 (grps ps) with
  | false =>
    have hv : Hd (marked (grps ps) = 0) := ⟨by unfold marked; rw [if_neg (by rw [hP]; simp)]⟩
    rw [hP] at HI
    replace HI := hid HI
    clear hP hr
    go_enter Try.func29, Try.ntmps29
    go_wp2_with fail
    refine HI.out.mono ?_
    rintro e w1 ⟨rfl, k1⟩
    replace k1 := hid k1
    go_wp2
    go_ret
    exact ⟨by rw [hv.out] <;> rfl, k1.out⟩
  | true =>
    have hv : Hd (marked (grps ps) = sumIf (fun p => !p.isEmpty) (grps ps)) := ⟨by unfold marked; rw [if_pos hP]⟩
    have HS := hid (fun W (k : Kept no w W) => sum_any 63 (fun p => !p.isEmpty) v ps W (hr.kept k) hP marked1_any (enters_of Try.func63 (by kernel_rfl) rfl))
    rw [hP] at HI
    replace HI := hid HI
    clear hP hr
    rw [hv.out]
    clear hv
    go_enter Try.func29, Try.ntmps29
    go_wp2_with fail
    refine HI.out.mono ?_
    rintro e w1 ⟨rfl, k1⟩
    replace HS := hid (HS.out w1 k1)
    replace k1 := hid k1
    go_wp2_with fail
    refine HS.out.mono ?_
    rintro e w2 ⟨rfl, k2⟩
    have k3 := hid (k1.out.trans' k2)
    clear k2
    go_wp2
    go_ret
    exact ⟨rfl, k3.out⟩
set_option maxHeartbeats 400000 in
theorem valid_any (n : Int) (v : Value) (ps : List (Grp × Value)) (w : World) (hr : RdG w v ps) : Calls Try.prog 25 #[.int .i64 n, v] w fun e w' => e = .returned (.bool (decide (1 ≤ n ∧ n ≤ 7) && isPile n (grps ps))) ∧ Kept no w w' := by
  obtain ⟨res, hres⟩ : ∃ res, (decide (1 ≤ n ∧ n ≤ 7) && isPile n (grps ps)) = res := ⟨_, rfl⟩
  rw [hres]
  by_cases h1 : 1 ≤ n
  · have hd1 : decide ((1 : Int) ≤ n) = true := decide_eq_true h1
    by_cases h7 : n ≤ 7
    · have hd7 : decide (n ≤ 7) = true := decide_eq_true h7
      have HI := ispile_any n v ps w h7 hr
      have hv : isPile n (grps ps) = res := by rw [← hres, decide_eq_true (show 1 ≤ n ∧ n ≤ 7 from ⟨h1, h7⟩)]; rfl
      rw [hv] at HI
      replace HI := hid HI
      clear hres hv hr
      go_enter Try.func25, Try.ntmps25
      go_wp2_with fail
      refine HI.out.mono ?_
      rintro e w1 ⟨rfl, k1⟩
      replace k1 := hid k1
      go_wp2
      go_ret
      exact ⟨rfl, k1.out⟩
    · have hd7 : decide (n ≤ 7) = false := decide_eq_false h7
      have hv : res = false := by rw [← hres, decide_eq_false (show ¬ (1 ≤ n ∧ n ≤ 7) from fun h => h7 h.2)]; rfl
      subst hv
      clear hres hr
      go_enter Try.func25, Try.ntmps25
      go_wp2
      go_ret
      exact ⟨rfl, Kept.refl _ _⟩
  · have hd1 : decide ((1 : Int) ≤ n) = false := decide_eq_false h1
    have hv : res = false := by rw [← hres, decide_eq_false (show ¬ (1 ≤ n ∧ n ≤ 7) from fun h => h1 h.1)]; rfl
    subst hv
    clear hres hr
    go_enter Try.func25, Try.ntmps25
    go_wp2
    go_ret
    exact ⟨rfl, Kept.refl _ _⟩
end Go.Proofs.Ytmigdhbolbhbeaa
