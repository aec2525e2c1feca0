/- electionlaw31.nearest (recursion). -/
import Derived.Test.YtkdmlakookgolaaNearLZ
import Derived.Test.YtkdmlakookgolaaDistZ
import Derived.Test.YtkdmlakookgolaaAddZ
namespace Go.Proofs.Ytkdmlakookgolaa
open Go.RowKit Go.Mk Go.Pil Go.Mg
/-- What nearest does, where k ballots are still to be replaced. -/
def NearC (n V : Nat) (a : List Grp) (k : Nat) : Prop := ∀ (vA vL vb : Value) (pA pB : List (Grp × Value)) (bs : List (List Int × Value)) (s : List (List Int)) (fr : Nat) (w : World), grps pA = a → RdG w vA pA → RdB w vL bs → RdG w vb pB → grps pB = pileOf (ones s) → s.length + k ≤ 1000 → fr ≤ bs.length → bs.length ≤ 1000000 →
    Calls Try.prog 41 #[.int .i64 (n : Int), vA, vb, vL, .int .i64 (fr : Int), .int .i64 (k : Int), .int .i64 (V : Int)] w fun e w' => e = .returned (.int .i64 (nearV n V a (lists bs) k s fr)) ∧ Kept no w w'
set_option maxRecDepth 100000 in
set_option maxHeartbeats 4000000 in
theorem near_zero (n V : Nat) (a : List Grp) : NearC n V a 0 := by
  (intro vA vL vb pA pB bs s fr w hA hrA hrL hrB hB _ _ _); (have HP := hid (refpossible_any (n : Int) vb pB w hrB)); (have hres : Hd (∀ x, nearV n V a (lists bs) 0 s x = if posB (n : Int) (grps pB) = [(V : Int)] then -1 else dist (grps pA) (grps pB)) := ⟨fun x => by rw [hB, hA]; rfl⟩); (have hv := hid (hres.out fr)); (obtain ⟨aA, cA, rfl, _, _⟩ := hrA.shape); (obtain ⟨aB, cB, rfl, _, _⟩ := hrB.shape); (obtain ⟨aL, cL, rfl, _, _⟩ := Rd.shape2 hrL.2); (replace hrA := hid hrA); (replace hrB := hid hrB); (clear hrL hA hB hres)
  go_enter Try.func41, Try.ntmps41
  (go_wp2_with fail); (with_reducible refine HP.out.mono ?_); (rintro e w1 ⟨vp, rfl, op⟩); (have kl : Hd (Kept no w1 (w1.alloc (.cells #[.int .i64 (V : Int)] 3))) := ⟨(Kept.refl no w1).alloc _⟩); (have ol : (w1.alloc (.cells #[.int .i64 (V : Int)] 3)).ownsRow 0 3 1 (.slice (some ⟨w1.heap.size, 0, none⟩) 1 1) 1 [.int .i64 (V : Int)] := ⟨rfl, .inr ⟨w1.heap.size, 1, #[.int .i64 (V : Int)], rfl, Nat.zero_le _, heap_alloc_new _ _, Nat.le_refl _, by decide, rfl, rfl⟩⟩); (have HE := hid (eqz_any vp (.slice (some ⟨w1.heap.size, 0, none⟩) 1 1) (posB (n : Int) (grps pB)) [(V : Int)] (w1.alloc (.cells #[.int .i64 (V : Int)] 3)) (op.rd.kept kl.out) (own_RdZ (zs := [(V : Int)]) ol))); (have k1 := hid (op.kept.trans' kl.out)); (clear ol op kl HP); (go_wp2_with fail); (with_reducible refine HE.out.mono ?_); (rintro e w2 ⟨rfl, q2⟩); (have k2 := hid (k1.out.trans' q2.kept)); (clear q2 k1 HE)
  by_cases hq : posB (n : Int) (grps pB) = [(V : Int)]
  · (have hd : decide (posB (n : Int) (grps pB) = [(V : Int)]) = true := decide_eq_true hq); (rw [if_pos hq] at hv); (rw [hd]); (clear hq hd); (go_wp2); (go_ret); (exact ⟨by rw [hv.out]; rfl, k2.out⟩)
  · (have hd : decide (posB (n : Int) (grps pB) = [(V : Int)]) = false := decide_eq_false hq); (rw [if_neg hq] at hv); (rw [hd]); (have HD := hid (refdistance_any _ _ pA pB w2 (hrA.out.kept k2.out) (hrB.out.kept k2.out))); (clear hq hd); (go_wp2_with fail); (with_reducible refine HD.out.mono ?_); (rintro e w3 ⟨rfl, k3⟩); (have kF := hid (k2.out.trans' k3)); (clear k3 HD); (go_wp2); (go_ret); (exact ⟨by rw [hv.out]; rfl, kF.out⟩)
set_option maxRecDepth 100000 in
set_option maxHeartbeats 4000000 in
theorem near_succ (n V : Nat) (a : List Grp) (k : Nat) (IH : NearC n V a k) : NearC n V a (k + 1) := by
  (intro vA vL vb pA pB bs s fr w hA hrA hrL hrB hB hsk hfr hbs); (have hk1 : ((k + 1 : Nat) : Int) = (k : Int) + 1 := by omega); (rw [hk1]); (have hkz : ¬ (k : Int) + 1 = 0 := by omega); (have hkd : decide ((k : Int) + 1 = 0) = false := decide_eq_false hkz); (have hkb : ((k : Int) + 1 == 0) = false := by rw [beq_eq_false_iff_ne]; exact hkz); (have hkw : IntKind.i64.wrap ((k : Int) + 1 - 1) = (k : Int) := by rw [show (k : Int) + 1 - 1 = (k : Int) by omega]; exact IntWalk.i64_in _ (by omega)); (obtain ⟨K1, hK1⟩ : ∃ x, (k : Int) + 1 = x := ⟨_, rfl⟩); (rw [hK1] at hkz hkd hkb hkw ⊢); (clear hK1 hk1); (have hsm : Hd (small pB) := ⟨small_of (by rw [hB]; exact pileOf_pos (ones_pos s)) (by rw [hB, pileOf_tot (ones_pos s), ones_tot]; omega)⟩); (obtain ⟨aA, cA, rfl, _, _⟩ := hrA.shape); (obtain ⟨aB, cB, rfl, _, _⟩ := hrB.shape); (obtain ⟨aL, cL, rfl, _, _⟩ := Rd.shape2 hrL.2); (obtain ⟨LL, hLL⟩ : ∃ l, bs.length = l := ⟨_, rfl⟩); (rw [hLL] at hrL hfr hbs ⊢); (have hall : Hd ((lists bs).length = LL) := ⟨by rw [lists_length]; exact hLL⟩)
  have hend : Hd (∀ j, fr + j = LL → nearK n V a (lists bs) k s fr j = nearV n V a (lists bs) (k + 1) s fr) := ⟨fun j hj => by
    show nearK n V a (lists bs) k s fr j = (List.range ((lists bs).length - fr)).foldl _ (-1)
    rw [hall.out, show LL - fr = j by omega]; rfl⟩
  have hget : Hd (∀ (i : Nat) (x : List Int) (v : Value) (h : i < bs.length), bs[i] = (x, v) → (lists bs).getD i [] = x) := ⟨fun i x v h e => by
    unfold lists
    rw [List.getD_eq_getElem?_getD, List.getElem?_map, List.getElem?_eq_getElem h, e]; rfl⟩
  (replace hLL := hid hLL); (replace hA := hid hA); (replace hB := hid hB); (replace hrA := hid hrA); (replace hrB := hid hrB); (replace hrL := hid hrL)
  go_enter Try.func41, Try.ntmps41
  go_wp2
  go_loopw [15, 16] (fun B i wr => ∃ (j : Nat) (bb : Int), fr + j ≤ LL ∧ i = .int .i64 ((fr + j : Nat) : Int) ∧ B = .int .i64 bb ∧ Hd (bb = nearK n V a (lists bs) k s fr j) ∧ Hd (Kept no w wr)) (fun _ i _ => LL - (intOf i).toNat)
  case atStart => exact ⟨0, -1, by omega, by rw [Nat.add_zero], rfl, ⟨rfl⟩, ⟨Kept.refl _ _⟩⟩
  case round =>
    (obtain ⟨j, bb, hj, rfl, rfl, hbb, hW⟩ := hrel); (obtain ⟨i, hi⟩ : ∃ i, fr + j = i := ⟨_, rfl⟩); (rw [hi] at hj ⊢)
    by_cases hlt : i < LL
    · (have hi1 : (i : Int) < (LL : Int) := by omega); (have hi0 : (0 : Int) ≤ (i : Int) := by omega); (obtain ⟨b, o, x, vx, rfl, hel, c0, hz⟩ := (hrL.out.kept hW.out).at i (by rw [hLL.out]; exact hlt)); (have hx : Hd ((lists bs).getD i [] = x) := ⟨hget.out i x vx _ hel⟩); (have hnx : Hd (nearK n V a (lists bs) k s fr (j + 1) = updN bb (nearV n V a (lists bs) k (s ++ [x]) i)) := ⟨by rw [nearK_succ, hi, hx.out, ← hbb.out]⟩); (have HA := hid (refadd_any (.slice aB pB.length cB) vx pB x 1 wr (hrB.out.kept hW.out) hz hsm.out (by omega))); (clear hz hx hbb hel); (go_wp2_with fail); (with_reducible refine HA.out.mono ?_); (rintro e w3 ⟨v3, q3, rfl, o3, hq3⟩); (have k3 := hid (hW.out.trans' o3.kept)); (have HN := hid (IH (.slice aA pA.length cA) (.slice (some ⟨b, o, none⟩) LL cL) v3 pA q3 bs (s ++ [x]) i w3 hA.out (hrA.out.kept k3.out) (hrL.out.kept k3.out) o3.rd (by rw [hq3, hB.out, ones_snoc]) (by rw [List.length_append, List.length_singleton]; omega) (by rw [hLL.out]; omega) (by rw [hLL.out]; omega))); (have hrng := nearV_rng (n := n) (V := V) (a := a) (all := lists bs) k (s ++ [x]) i); (obtain ⟨d, hd⟩ : ∃ d, nearV n V a (lists bs) k (s ++ [x]) i = d := ⟨_, rfl⟩); (rw [hd] at HN hnx hrng); (clear HA o3 hq3 hd hW); (go_wp2_with fail); (with_reducible refine HN.out.mono ?_); (rintro e w4 ⟨rfl, k4⟩); (have kk4 := hid (k3.out.trans' k4)); (have hiw : IntKind.i64.wrap ((i : Int) + 1) = ((i + 1 : Nat) : Int) := by rw [IntWalk.i64_in _ (by omega)]; omega); (have hij : fr + (j + 1) = i + 1 := by omega); (clear HN k3 k4 c0)
      by_cases hd0 : 0 ≤ d
      · by_cases hb0 : bb < 0
        · (have hn2 : Hd (d = nearK n V a (lists bs) k s fr (j + 1)) := ⟨by rw [hnx.out]; unfold updN; rw [if_pos ⟨hd0, .inl hb0⟩]⟩); (clear hnx); (go_wp2); (go_roundw)
          case rel => first | exact ⟨j + 1, d, by omega, by rw [hij]; go_num, rfl, hn2, kk4⟩ | ((repeat apply Exists.intro); exact ⟨⟨j + 1, d, by omega, by rw [hij]; go_num, rfl, hn2, kk4⟩, rfl⟩)
          case measure => simp [intOf]; omega
        · by_cases hdb : d < bb
          · (have hn2 : Hd (d = nearK n V a (lists bs) k s fr (j + 1)) := ⟨by rw [hnx.out]; unfold updN; rw [if_pos ⟨hd0, .inr hdb⟩]⟩); (clear hnx); (go_wp2); (go_roundw)
            case rel => first | exact ⟨j + 1, d, by omega, by rw [hij]; go_num, rfl, hn2, kk4⟩ | ((repeat apply Exists.intro); exact ⟨⟨j + 1, d, by omega, by rw [hij]; go_num, rfl, hn2, kk4⟩, rfl⟩)
            case measure => simp [intOf]; omega
          · (have hn2 : Hd (bb = nearK n V a (lists bs) k s fr (j + 1)) := ⟨by rw [hnx.out]; unfold updN; rw [if_neg (by omega)]⟩); (clear hnx); (go_wp2); (go_roundw)
            case rel => first | exact ⟨j + 1, bb, by omega, by rw [hij]; go_num, rfl, hn2, kk4⟩ | ((repeat apply Exists.intro); exact ⟨⟨j + 1, bb, by omega, by rw [hij]; go_num, rfl, hn2, kk4⟩, rfl⟩)
            case measure => simp [intOf]; omega
      · (have hn2 : Hd (bb = nearK n V a (lists bs) k s fr (j + 1)) := ⟨by rw [hnx.out]; unfold updN; rw [if_neg (by omega)]⟩); (clear hnx); (go_wp2); (go_roundw)
        case rel => first | exact ⟨j + 1, bb, by omega, by rw [hij]; go_num, rfl, hn2, kk4⟩ | ((repeat apply Exists.intro); exact ⟨⟨j + 1, bb, by omega, by rw [hij]; go_num, rfl, hn2, kk4⟩, rfl⟩)
        case measure => simp [intOf]; omega
    · (have hi1 : ¬ (i : Int) < (LL : Int) := by omega); (have hv : Hd (bb = nearV n V a (lists bs) (k + 1) s fr) := ⟨by rw [hbb.out]; exact hend.out j (by omega)⟩); (clear hbb); (go_wp2); (go_ret); (exact ⟨by rw [← hv.out]; rfl, hW.out⟩)
theorem nearest_any (n V : Nat) (a : List Grp) : ∀ k, NearC n V a k
  | 0 => near_zero n V a
  | k + 1 => near_succ n V a k (nearest_any n V a k)
end Go.Proofs.Ytkdmlakookgolaa
