/- The law MarginRenames: its walk. -/
import Derived.Test.YtkdmlakookgolaaRenUZ
import Derived.Test.YtkdmlakookgolaaPermXZ
import Derived.Test.YtkdmlakookgolaaLaw31Z
import Derived.Test.YtkdmlakookgolaaAwk31Z
namespace Go.Mg
open Go.Pil
theorem bal_ne {n : Int} (hn : 0 < n) (x : Int) (l : List Int) : bal n (x :: l) ≠ [] := by
  have hm : ∀ (l s : List Int), s ≠ [] → l.foldl (balStep n) s ≠ [] := by
    intro l
    induction l with
    | nil => intro s h; exact h
    | cons y l ih =>
      (intro s h); (rw [List.foldl_cons]); (refine ih _ ?_); (unfold balStep)
      split
      · simp
      · exact h
  show (l.foldl (balStep n) (balStep n [] x)) ≠ []
  (refine hm l _ ?_); (unfold balStep); (rw [if_pos ⟨by simpa using hn, by simp⟩])
  simp
theorem bal_isTail {n : Int} (hn : 0 < n) (x : Int) (l : List Int) : isTail n (bal n (x :: l)) = true := by
  (unfold isTail); (rw [Bool.and_eq_true]); (exact ⟨decide_eq_true (bal_ne hn x l), bal_ballot hn _⟩)
theorem tailB_nonneg {N : Nat} {gs : List Grp} {t : List Int} (h1 : 1 ≤ N) (h7 : N ≤ 7) (hp : isPile (N : Int) gs = true) (ht : isTail (N : Int) t = true) : 0 ≤ tailB (N : Int) gs t := by
  (unfold tailB); (rw [if_pos ⟨⟨by omega, by omega⟩, hp, ht⟩]); (exact half_nonneg _)
theorem upperB_nonneg {N V : Nat} {gs : List Grp} (h2 : 2 ≤ N) (h7 : N ≤ 7) (hp : isPile (N : Int) gs = true) (hV : V < N) : 0 ≤ upperB (N : Int) gs (V : Int) := by
  (unfold upperB); (rw [if_pos ⟨by omega, ⟨by omega, hp⟩, by omega, by omega⟩, Int.toNat_natCast, Int.toNat_natCast]); (exact upV_nonnegR h7 hV h2)
end Go.Mg
namespace Go.Proofs.Ytkdmlakookgolaa
open Go.RowKit Go.Mk Go.Pil Go.Mg
theorem Z_oneR (l : List Int) : ∀ u ∈ l.map Z, u.oneCell' = true := fun u hu => by
  obtain ⟨z, _, rfl⟩ := List.mem_map.1 hu
  rfl
set_option maxRecDepth 100000 in
set_option maxHeartbeats 4000000 in
theorem marginrenames_any (n wn code : Int) (vb vt : Value) (bs : List (List Int × Value)) (tail : List Int) (w : World) (hb : RdB w vb bs) (hz : RdZ w vt tail) :
    Calls Try.prog 9 #[.int .i64 n, vb, vt, .int .i64 wn, .int .i64 code] w fun e w' => e = .returned (.bool true) ∧ Kept no w w' := by
  (replace hb := hid hb); (replace hz := hid hz); (have HM := hid (fun w => mod_any n 6 w (by decide) (by decide))); (obtain ⟨hm0, hm1⟩ := modI_lt n 6 (by decide)); (obtain ⟨M, hM⟩ : ∃ M, modI n 6 = M := ⟨_, rfl⟩); (rw [hM] at HM hm0 hm1); (have hw1 : IntKind.i64.wrap (2 + M) = 2 + M := IntWalk.i64_in _ (by omega)); (obtain ⟨N, hN⟩ : ∃ N : Nat, 2 + M = (N : Int) := ⟨(2 + M).toNat, by omega⟩); (replace hw1 := hw1.trans hN); (have hN2 : 2 ≤ N := by omega); (have hN7 : N ≤ 7 := by omega); (clear hM); (have HC1 := cut_any vb bs 30 w (by decide) hb.out); (rw [show ((30 : Nat) : Int) = 30 from rfl] at HC1); (replace HC1 := hid HC1)
  go_enter Try.func9, Try.ntmps9
  (go_wp2_with fail); (with_reducible refine (HM.out _).mono ?_); (rintro e w2 ⟨rfl, rfl⟩); (clear HM hm0 hm1 hN); (go_wp2_with fail); (with_reducible refine HC1.out.mono ?_); (rintro e w3 ⟨v3, q3, rfl, -, o3⟩); (have HP1 := genpile_any (N : Int) v3 q3 30 w3 (by omega) (by omega) (by omega) o3.rd); (rw [show ((30 : Nat) : Int) = 30 from rfl] at HP1); (replace HP1 := hid HP1); (have hpA : Hd (isPile (N : Int) (genP (N : Int) (lists q3) 30) = true) := ⟨genP_pile (by omega) _ _ (by omega)⟩); (have k3 := hid o3.kept); (have hz3 := hid (hz.out.kept o3.kept)); (clear HC1 o3); (go_wp2_with fail); (with_reducible refine HP1.out.mono ?_); (rintro e w5 ⟨vA, rfl, pA, hgA, rA, k5⟩); (rw [← hgA] at hpA); (have kk5 := hid (k3.out.trans' k5)); (have hrA := hid rA); (have hz5 := hid (hz3.out.kept k5)); (have HPm := hid (gpermx_any N code w5 (by omega))); (clear HP1 hgA rA k5 k3 hz3); (go_wp2_with fail); (with_reducible refine HPm.out.mono ?_); (rintro e w6 ⟨vP, p, rfl, hpm, oP⟩); (replace hpm : Hd (p.Perm (allC N)) := ⟨hpm⟩); (have hplen : Hd (p.length = N) := ⟨pm_len hpm.out⟩); (have hrA6 := hid (hrA.out.kept oP.kept)); (have hz6 := hid (hz5.out.kept oP.kept)); (have k6 := hid (kk5.out.trans' oP.kept)); (have hrP := hid oP.rd); (have hin : Hd (InR N (grps pA)) := ⟨pile_inR hpA.out⟩); (have HR := hid (renamepile_any vA vP pA p w6 hrA6.out hrP.out (isPile_mono (by omega) hpA.out) (by rw [hplen.out]; exact hin.out))); (clear HPm oP hrA hz5 kk5); (go_wp2_with fail); (with_reducible refine HR.out.mono ?_); (rintro e w7 ⟨vR, rfl, pR, hgR, rR, k7⟩); (have hrA7 := hid (hrA6.out.kept k7)); (have hrP7 := hid (hrP.out.kept k7)); (have hrR7 := hid rR); (have hz7 := hid (hz6.out.kept k7)); (have kk7 := hid (k6.out.trans' k7)); (replace hgR := hid hgR); (clear HR rR k7 k6 hrA6 hrP hz6 hb hz hin)
  -- the tail
  (have kl : Hd (Kept no w7 (w7.alloc (.cells #[.int .i64 wn] 3))) := ⟨(Kept.refl no w7).alloc _⟩); (have ol : Hd ((w7.alloc (.cells #[.int .i64 wn] 3)).ownsRow 0 3 1 (.slice (some ⟨w7.heap.size, 0, none⟩) 1 1) 1 [.int .i64 wn]) := ⟨⟨rfl, .inr ⟨w7.heap.size, 1, #[.int .i64 wn], rfl, Nat.zero_le _, heap_alloc_new _ _, Nat.le_refl _, by decide, rfl, rfl⟩⟩⟩); (have HI := ints_any vt tail 8 (w7.alloc (.cells #[.int .i64 wn] 3)) (hz7.out.kept kl.out)); (rw [show ((8 : Nat) : Int) = 8 from rfl] at HI); (replace HI := hid HI); (clear hz7); (go_wp2_with fail); (with_reducible refine HI.out.mono ?_); (rintro e w8 ⟨⟨v8, rfl, r8⟩, rfl⟩); (obtain ⟨l8, h8⟩ : ∃ l, tail.take 8 = l := ⟨_, rfl⟩); (have h8l : l8.length ≤ 8 := by rw [← h8, List.length_take]; omega); (rw [h8] at r8); (obtain ⟨a8, c8, rfl, _, _⟩ := Rd.shape2 r8); (have hsz : Hd (1 + l8.length ≤ maxLen ∧ (1 + l8.length) * 8 ≤ 140737488355328) := ⟨by have hm : maxLen = 9223372036854775807 := rfl; omega⟩); (replace r8 := hid r8); (clear HI h8); (go_wp2_with (at_builtin; refine wpList_append _ rfl _ _ 40 rfl 3 1 8 TInts _ 1 [.int .i64 wn] rfl ol.out _ l8.length (l8.map Z) rfl r8.out (Z_oneR l8) hsz.out.1 hsz.out.2 ?_)); (intro v9 w9 h2 h3 h4 _)
  have k9 : Hd (Kept no w7 w9) := ⟨kl.out.trans h3 (fun k hk e => by
    have : w7.heap.size = k := by simpa [ob, Value.ownBlock] using e
    omega)⟩
  have hz9 : Hd (RdZ w9 v9 (wn :: l8)) := ⟨by
    unfold RdZ
    rw [List.length_cons, Nat.add_comm]; exact Rd.of_own h2⟩
  (have HB := hid (genballot_any (N : Int) v9 (wn :: l8) w9 (by omega) (by omega) hz9.out)); (clear h2 h3 h4 kl ol r8 hsz hz9); (go_wp2_with fail); (with_reducible refine HB.out.mono ?_); (rintro e wA ⟨vT, rfl, oT⟩); (have htl : Hd (isTail (N : Int) (bal (N : Int) (wn :: l8)) = true) := ⟨bal_isTail (by omega) _ _⟩); (have htb : Hd (ballot (N : Int) (bal (N : Int) (wn :: l8)) = true) := ⟨bal_ballot (by omega) _⟩); (have hrT := hid oT.rd); (have kA := k9.out.trans' oT.kept); (have hrAA := hid (hrA7.out.kept kA)); (have hrPA := hid (hrP7.out.kept kA)); (have hrRA := hid (hrR7.out.kept kA)); (have kkA := hid (kk7.out.trans' kA)); (obtain ⟨BT, hBT⟩ : ∃ l, bal (N : Int) (wn :: l8) = l := ⟨_, rfl⟩); (rw [hBT] at htl htb hrT); (clear HB oT kA k9 kk7 hrA7 hrP7 hrR7 hBT h8l); (have HM2 := hid (fun w => mod_any wn (N : Int) w (by omega) (by omega))); (obtain ⟨hv0, hv1⟩ := modI_lt wn (N : Int) (by omega)); (obtain ⟨V, hV⟩ : ∃ V : Nat, modI wn (N : Int) = (V : Int) := ⟨(modI wn (N : Int)).toNat, by omega⟩); (rw [hV] at HM2 hv0 hv1); (have hVN : V < N := by omega); (clear hV); (go_wp2_with fail); (with_reducible refine (HM2.out _).mono ?_); (rintro e w10 ⟨rfl, rfl⟩)
  -- both bounds, of both
  (have hbal := (ballot_iffR _ _).1 htb.out); (have hBl := ballot_len htb.out (by omega)); (have HT := hid (fun (W : World) (k : Kept no w10 W) => mtail_any (N : Int) vA vT pA BT W (hrAA.out.kept k) (hrT.out.kept k))); (have HU := hid (fun (W : World) (k : Kept no w10 W) => mupper_any (N : Int) vA pA (V : Int) W (hrAA.out.kept k))); (have HRn := hid (fun (W : World) (k : Kept no w10 W) => rename_any vT vP BT p W (hrT.out.kept k) (hrPA.out.kept k) (by rw [hplen.out]; exact hbal.2) (by omega)))
  have HT2 := hid (fun (W : World) (k : Kept no w10 W) (u : Value) (hu : RdZ W u (ren p BT)) => by
    (have := mtail_any (N : Int) vR u pR (ren p BT) W (hrRA.out.kept k) hu); (rw [hgR.out, tail_ren hpm.out (by omega) hN7 hpA.out htl.out] at this)
    exact this)
  have HU2 := hid (fun (W : World) (k : Kept no w10 W) => by
    (have := mupper_any (N : Int) vR pR (ren1 p (V : Int)) W (hrRA.out.kept k)); (rw [hgR.out, upper_ren hpm.out hN2 hN7 hpA.out hVN] at this)
    exact this)
  (have hT0 := tailB_nonneg (by omega) hN7 hpA.out htl.out); (have hU0 := upperB_nonneg hN2 hN7 hpA.out hVN); (generalize tailB (N : Int) (grps pA) BT = TT at HT HT2 hT0); (generalize upperB (N : Int) (grps pA) (V : Int) = UU at HU HU2 hU0); (have hT0d : decide (0 ≤ TT) = true := decide_eq_true hT0); (have hU0d : decide (0 ≤ UU) = true := decide_eq_true hU0); (obtain ⟨aP, cP, rfl, _, _⟩ := Rd.shape2 hrPA.out); (rw [hplen.out] at hrPA HRn ⊢); (obtain ⟨bp, op, rfl, hc⟩ := RdZ.at (show RdZ w10 (.slice aP N cP) p from hrPA.out) V (by rw [hplen.out]; exact hVN)); (have hcV : Hd (w10.cell? ⟨bp, op + V, none⟩ = some (.int .i64 (ren1 p (V : Int)))) := ⟨hc⟩); (clear hc); (generalize ren1 p (V : Int) = RV at hcV HU2); (have HA := hid (fun (W : World) => awake31_any W)); (clear HM2 hbal hBl htl htb hrT hrAA hrPA hrRA hgR hpm hpA hplen); (have hVi : (V : Int) < (N : Int) := by omega); (go_wp2_with fail); (with_reducible refine (HT.out w10 (Kept.refl _ _)).mono ?_); (rintro e w11 ⟨rfl, k11⟩); (replace k11 := hid k11); (go_wp2_with fail); (with_reducible refine (HU.out w11 k11.out).mono ?_); (rintro e w12 ⟨rfl, k12⟩); (have k12' := hid (k11.out.trans' k12)); (clear k12 k11 HT HU); (go_wp2_with fail); (with_reducible refine (HA.out w12).mono ?_); (rintro e w13 ⟨rfl, k13⟩); (have k13' := hid (k12'.out.trans' k13)); (clear k13 k12' HA); (go_wp2_with fail); (with_reducible refine (HRn.out w13 k13'.out).mono ?_); (rintro e w14 ⟨vn, rfl, o14⟩); (have k14' := hid (k13'.out.trans' o14.kept)); (have HT3 := hid (HT2.out w14 k14'.out vn o14.rd)); (clear o14 k13' HRn HT2); (go_wp2_with fail); (with_reducible refine HT3.out.mono ?_); (rintro e w15 ⟨rfl, k15⟩); (have k15' := hid (k14'.out.trans' k15)); (have hc15 := k15'.out.cell hcV.out id); (clear k15 k14' HT3); (go_wp2_with fail); (with_reducible refine (HU2.out w15 k15'.out).mono ?_); (rintro e w16 ⟨rfl, k16⟩); (have kF := hid (kkA.out.trans' (k15'.out.trans' k16))); (clear k16 k15' HU2 hc15); (go_wp2); (go_ret); (exact ⟨rfl, kF.out⟩)
end Go.Proofs.Ytkdmlakookgolaa
