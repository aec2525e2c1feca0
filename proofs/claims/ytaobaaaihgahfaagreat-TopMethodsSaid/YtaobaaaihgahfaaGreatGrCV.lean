/- slices.IndexFunc, slices.DeleteFunc at the closures of gregory.round and meek.reaching (printed by gen_delf.py). -/
import Derived.Test.YtaobaaaihgahfaaGreatGrBV
import Derived.Lib.SliceRun
import Derived.BigFrame
namespace Go.Gg
/-- R is a row whose first i elements are those of zs's first j that stay, and whose elements from j on are zs's. -/
structure DelI (P : Int → Bool) (zs R : List Int) (i j : Nat) : Prop where
  len : R.length = zs.length
  lt : i < j
  le : j ≤ zs.length
  pre : R.take i = (zs.take j).filter fun x => !P x
  post : R.drop j = zs.drop j
theorem DelI.at {P : Int → Bool} {zs R : List Int} {i j : Nat} (h : DelI P zs R i j) (_hj : j < zs.length) : R.getD j 0 = zs.getD j 0 := by
  (have h1 : (R.drop j)[0]? = (zs.drop j)[0]? := by rw [h.post]); (rw [List.getElem?_drop, List.getElem?_drop, Nat.add_zero] at h1); (rw [List.getD_eq_getElem?_getD, List.getD_eq_getElem?_getD, h1])
theorem take_snoc {zs : List Int} {j : Nat} (h : j < zs.length) : zs.take (j + 1) = zs.take j ++ [zs.getD j 0] := by
  rw [List.take_succ_eq_append_getElem h]; simp [List.getD_eq_getElem?_getD, h]
theorem DelI.drop1 {P : Int → Bool} {zs R : List Int} {i j : Nat} (h : DelI P zs R i j) (hj : j < zs.length) (hp : P (zs.getD j 0) = true) : DelI P zs R i (j + 1) := by
  refine ⟨h.len, by have := h.lt; omega, hj, ?_, ?_⟩
  · (rw [h.pre, take_snoc hj, List.filter_append]); (generalize zs.getD j 0 = z at hp)
    simp [hp]
  · rw [← List.drop_drop, ← List.drop_drop, h.post]
theorem DelI.keep1 {P : Int → Bool} {zs R : List Int} {i j : Nat} (h : DelI P zs R i j) (hj : j < zs.length) (hp : P (zs.getD j 0) = false) : DelI P zs (R.set i (zs.getD j 0)) (i + 1) (j + 1) := by
  (have hi : i < R.length := by rw [h.len]; have := h.lt; omega); (refine ⟨by rw [List.length_set]; exact h.len, by have := h.lt; omega, hj, ?_, ?_⟩)
  · (rw [List.take_succ_eq_append_getElem (by rw [List.length_set]; exact hi), List.getElem_set_self, List.take_set_of_le (Nat.le_refl _), h.pre, take_snoc hj, List.filter_append]); (generalize zs.getD j 0 = z at hp)
    simp [hp]
  · rw [List.drop_set_of_lt (by have := h.lt; omega), ← List.drop_drop, ← List.drop_drop, h.post]
end Go.Gg
namespace Go.Proofs.YtaobaaaihgahfaaGreat
open Go.RowKit Go.Mk Go.Pil Go.Nt Go.Gg
theorem own_setCells {e : TypeId} {size n cap g : Nat} : ∀ (vs : List Value) (i : Nat) (w : World) (L : List Value), w.ownsRow 0 e size (.slice (some ⟨g, 0, none⟩) n cap) n L → ∃ L', L'.take i = L.take i ∧ (w.setCells g i vs).ownsRow 0 e size (.slice (some ⟨g, 0, none⟩) n cap) n L' := by
  intro vs
  induction vs with
  | nil => intro i w L h; exact ⟨L, rfl, h⟩
  | cons v vs ih =>
    (intro i w L h); (obtain ⟨L', h1, h2⟩ := ih (i + 1) _ _ (own_set h i v)); (refine ⟨L', ?_, h2⟩); (have : (L'.take (i + 1)).take i = ((L.set i v).take (i + 1)).take i := by rw [h1]); (rw [List.take_take, List.take_take, Nat.min_eq_left (Nat.le_succ i), List.take_set_of_le (Nat.le_refl _)] at this); (exact this)
theorem kept_setCells {g : Nat} : ∀ (vs : List Value) (i : Nat) (w0 w : World), Kept (fun j => j = g) w0 w → Kept (fun j => j = g) w0 (w.setCells g i vs) := by
  intro vs
  induction vs with
  | nil => intro i w0 w h; exact h
  | cons v vs ih => intro i w0 w h; exact ih (i + 1) w0 _ (h.setCell (a := ⟨g, i, none⟩) (.inl rfl) v)
theorem zero_int (w : World) : (zeroValue 3).run Tryz.prog w = .ok (.int .i64 0) w := by kernel_rfl
theorem under_ints : Tryz.prog.underlying 26 = some (.slice 3) := by kernel_rfl
set_option maxRecDepth 20000 in
set_option maxHeartbeats 1000000 in
theorem ixr_any (B : Nat) (P : Int → Bool) (vz : Value) (zs : List Int) (w : World) (hz : RdZ w vz zs) (HP : ∀ W, Kept no w W → ∀ x ∈ zs, Calls Tryz.prog 122 #[.int .i64 x, .pointer (some ⟨B, 0, none⟩)] W fun e w' => e = .returned (.bool (P x)) ∧ Kept no W w') :
    Calls Tryz.prog 31 #[vz, .func (.func 122) #[] #[.pointer (some ⟨B, 0, none⟩)]] w fun e w' => ∃ r : Int, e = .returned (.int .i64 r) ∧ Kept no w w' ∧ ((r = -1 ∧ ∀ x ∈ zs, P x = false) ∨ ∃ k : Nat, r = (k : Int) ∧ k < zs.length ∧ P (zs.getD k 0) = true ∧ ∀ x ∈ zs.take k, P x = false) := by
  (obtain ⟨ao, cap, rfl, hcap, hcm⟩ := Rd.shape2 hz); (have hm63 := maxLen_63); (obtain ⟨n, hn⟩ : ∃ n, zs.length = n := ⟨_, rfl⟩); (rw [hn] at hz hcap ⊢); (replace hz := hid hz); (replace HP := hid HP); (replace hn := hid hn)
  go_enter Tryz.func31, Tryz.ntmps31
  go_wp2
  go_loopw [8] (fun i wr => ∃ k : Nat, k ≤ n ∧ i = .int .i64 (k : Int) ∧ Hd (∀ x ∈ zs.take k, P x = false) ∧ Hd (Kept no w wr)) (fun i _ => n - (intOf i).toNat)
  case atStart => exact ⟨0, by omega, rfl, ⟨by simp⟩, ⟨Kept.refl _ _⟩⟩
  case round =>
    obtain ⟨k, hk, rfl, hx, hW⟩ := hrel
    by_cases hlt : k < n
    · (have hk1 : (k : Int) < (n : Int) := by omega); (have hk0 : (0 : Int) ≤ (k : Int) := by omega); (have hkl : k < zs.length := by rw [hn.out]; exact hlt); (obtain ⟨b, o, rfl, hc⟩ := RdZ.at (hz.out.kept hW.out) k hkl)
      have hst : Hd (P (zs.getD k 0) = false → ∀ x ∈ zs.take (k + 1), P x = false) := ⟨fun h x hx' => by
        rw [take_snoc hkl] at hx'
        rcases List.mem_append.1 hx' with h' | h'
        · exact hx.out x h'
        · rw [List.mem_singleton.1 h']; exact h⟩
      (have HC := hid (HP.out wr hW.out _ (getD_memZ hkl))); (obtain ⟨z, hgd⟩ : ∃ z, zs.getD k 0 = z := ⟨_, rfl⟩); (rw [hgd] at hc hst HC); (replace hgd := hid hgd); (clear hkl)
      cases he : P z with
      | true =>
        (rw [he] at HC); (have he' := hid he); (clear he hst); (go_wp2_with fail); (with_reducible refine HC.out.mono ?_); (rintro e w1 ⟨rfl, k1⟩); (have hW' := hid (hW.out.trans' k1)); (clear k1 HC hc hW); (go_wp2); (go_ret); (first | exact ⟨_, rfl, hW'.out, .inr ⟨k, rfl, hlt, by rw [hgd.out]; exact he'.out, hx.out⟩⟩ | exact ⟨hW'.out, .inr ⟨k, rfl, hlt, by rw [hgd.out]; exact he'.out, hx.out⟩⟩)
      | false =>
        (rw [he] at HC); (have hn2 := hid (hst.out he)); (clear he hst hx); (go_wp2_with fail); (with_reducible refine HC.out.mono ?_); (rintro e w1 ⟨rfl, k1⟩); (have hW' := hid (hW.out.trans' k1)); (clear k1 HC hc hW); (go_wp2); (go_roundw)
        case rel => first | exact ⟨k + 1, by omega, by go_num, hn2, hW'⟩ | ((repeat apply Exists.intro); exact ⟨⟨k + 1, by omega, by go_num, hn2, hW'⟩, rfl⟩)
        case measure => simp [intOf]; omega
    · (obtain rfl : k = n := by omega); (have hk1 : ¬ (k : Int) < (k : Int) := by omega); (have hall : Hd (∀ x ∈ zs, P x = false) := ⟨by have := hx.out; rwa [List.take_of_length_le (by rw [hn.out]; exact Nat.le_refl _)] at this⟩); (clear hx); (go_wp2); (go_ret); (first | exact ⟨_, rfl, hW.out, .inl ⟨rfl, hall.out⟩⟩ | exact ⟨hW.out, .inl ⟨rfl, hall.out⟩⟩)
set_option maxRecDepth 20000 in
set_option maxHeartbeats 2000000 in
theorem dlr_any (B : Nat) (P : Int → Bool) (g cap n : Nat) (zs : List Int) (w : World) (hn : zs.length = n) (ho : w.ownsRow 0 3 1 (.slice (some ⟨g, 0, none⟩) n cap) n (zs.map Z)) (HP : ∀ W, Kept (fun j => j = g) w W → ∀ x ∈ zs, Calls Tryz.prog 122 #[.int .i64 x, .pointer (some ⟨B, 0, none⟩)] W fun e w' => e = .returned (.bool (P x)) ∧ Kept no W w') :
    Calls Tryz.prog 120 #[.slice (some ⟨g, 0, none⟩) n cap, .func (.func 122) #[] #[.pointer (some ⟨B, 0, none⟩)]] w fun e w' => ∃ v', e = .returned v' ∧ RdZ w' v' (zs.filter fun x => !P x) ∧ Kept (fun j => j = g) w w' := by
  (have hm63 := maxLen_63); (have hrd : RdZ w (.slice (some ⟨g, 0, none⟩) n cap) zs := by have := own_RdZ (zs := zs) (v := .slice (some ⟨g, 0, none⟩) n cap) (by rw [hn]; exact ho); exact this); (obtain ⟨_, _, e9, hcap, hcm⟩ := Rd.shape2 (Rd.of_own ho))
  cases e9
  (have HI := hid (ixr_any B P (.slice (some ⟨g, 0, none⟩) n cap) zs w hrd (fun W k x hx => HP W (k.of_no) x hx))); (replace ho := hid ho); (replace HP := hid HP); (have hrd' := hid hrd); (have hn' := hid hn); (clear hrd)
  go_enter Tryz.func120, Tryz.ntmps120
  (go_wp2_with fail); (with_reducible refine HI.out.mono ?_); (rintro e w1 ⟨r, rfl, k1, hr⟩); (have k1' := hid k1); (have ho1 := hid (k1.ownsRow ho.out fun _ _ => id))
  rcases hr with ⟨rfl, hall⟩ | ⟨k0, rfl, hk0n, hp0, hpre⟩
  · have hfin : Hd (RdZ w1 (.slice (some ⟨g, 0, none⟩) n cap) (zs.filter fun x => !P x)) := ⟨by
      rw [List.filter_eq_self.2 (fun x hx => by rw [hall x hx]; rfl)]
      exact RdZ.kept hrd'.out k1⟩
    (clear hall hn k1 HI); (go_wp2); (go_ret); (first | exact ⟨_, rfl, hfin.out, k1'.out.of_no⟩ | exact ⟨hfin.out, k1'.out.of_no⟩)
  · have hD0 : Hd (DelI P zs zs k0 (k0 + 1)) := ⟨rfl, Nat.lt_succ_self _, hk0n, by
      (rw [take_snoc hk0n, List.filter_append, List.filter_eq_self.2 (fun x hx => by rw [hpre x hx]; rfl)]); (generalize zs.getD k0 0 = z at hp0)
      simp [hp0], rfl⟩
    (have hk0' : k0 < n := by rw [← hn]; exact hk0n); (have hne1 : ¬ (k0 : Int) = -1 := by omega); (have hne2 : ((k0 : Int) == -1) = false := beq_eq_false_iff_ne.2 hne1); (have hkS : Hd (Kept (fun j => j = g) w w1) := ⟨k1.of_no⟩); (clear hk0n hp0 hpre hn k1 HI); (go_upto_region 5 with fail)
    go_loopw [5, 6] (fun i j wr => ∃ (a b : Nat) (R : List Int), i = .int .i64 (a : Int) ∧ j = .int .i64 (b : Int) ∧ a < b ∧ b ≤ n ∧ Hd (DelI P zs R a b) ∧ Hd (wr.ownsRow 0 3 1 (.slice (some ⟨g, 0, none⟩) n cap) n (R.map Z)) ∧ Hd (Kept (fun j => j = g) w wr)) (fun _ j _ => n - (intOf j).toNat)
    case atStart => exact ⟨k0, k0 + 1, zs, rfl, by go_num, by omega, by omega, hD0, ho1, hkS⟩
    case round =>
      (clear hD0 ho1 hkS); (obtain ⟨a, b, R, rfl, rfl, hab, hbn, hD, hO, hK⟩ := hrel)
      by_cases hlt : b < n
      · (have hb1 : (b : Int) < (n : Int) := by omega); (have hb0 : (0 : Int) ≤ (b : Int) := by omega); (have ha1 : (a : Int) < (n : Int) := by omega); (have ha0 : (0 : Int) ≤ (a : Int) := by omega); (have hbl : b < zs.length := by rw [hn'.out]; exact hlt); (have hRl : R.length = n := hD.out.len.trans hn'.out); (have hbR : b < R.length := by rw [hRl]; exact hlt); (obtain ⟨_, _, e9, hc⟩ := RdZ.at (show RdZ wr (.slice (some ⟨g, 0, none⟩) n cap) R from own_RdZ (by rw [hRl]; exact hO.out)) b hbR)
        cases e9
        (rw [hD.out.at hbl, Nat.zero_add] at hc); (have HC := hid (HP.out wr hK.out _ (getD_memZ hbl))); (have hd1 := hid (hD.out.drop1 hbl)); (have hd2 := hid (hD.out.keep1 hbl)); (obtain ⟨z, hgd⟩ : ∃ z, zs.getD b 0 = z := ⟨_, rfl⟩); (rw [hgd] at hc HC hd1 hd2); (clear hgd hbl hRl hbR hD)
        cases he : P z with
        | true =>
          (rw [he] at HC); (have hD2 := hid (hd1.out he)); (clear he hd1 hd2); (go_wp2_with fail); (with_reducible refine HC.out.mono ?_); (rintro e w2 ⟨rfl, k2⟩); (have hO2 := hid (k2.ownsRow hO.out fun _ _ => id)); (have hK2 := hid (hK.out.trans' k2)); (clear k2 HC hc hO hK); (go_wp2); (go_roundw)
          case rel => first | exact ⟨a, b + 1, R, rfl, by go_num, by omega, by omega, hD2, hO2, hK2⟩ | ((repeat apply Exists.intro); exact ⟨⟨a, b + 1, R, rfl, by go_num, by omega, by omega, hD2, hO2, hK2⟩, rfl⟩)
          case measure => simp [intOf]; omega
        | false =>
          (rw [he] at HC); (have hD2 := hid (hd2.out he)); (clear he hd1 hd2); (go_wp2_with fail); (with_reducible refine HC.out.mono ?_); (rintro e w2 ⟨rfl, k2⟩); (have hO2 := k2.ownsRow hO.out fun _ _ => id); (have hK2 := hK.out.trans' k2)
          obtain ⟨cur, hb⟩ : ∃ cur, w2.heap[g]? = some (.cells cur 3 (0, 0)) := by
            obtain ⟨_, ⟨e, _⟩ | ⟨g', c, cur, e, _, hg, _⟩⟩ := hO2
            · cases e
            · cases e; exact ⟨cur, hg⟩
          have hRl : R.length = n := by have := hD2.out.len; rw [List.length_set] at this; exact this.trans hn'.out
          have hc2 : ∃ u, w2.cell? ⟨g, a, none⟩ = some u := by
            obtain ⟨_, _, e9, hc⟩ := RdZ.at (show RdZ w2 (.slice (some ⟨g, 0, none⟩) n cap) R from own_RdZ (by rw [hRl]; exact hO2)) a (by rw [hRl]; omega)
            cases e9
            (rw [Nat.zero_add] at hc); (exact ⟨_, hc⟩)
          (obtain ⟨u2, hc2⟩ := hc2); (have hf2 := row_free hb a); (have hO3 : Hd ((w2.setCell ⟨g, a, none⟩ (.int .i64 z)).ownsRow 0 3 1 (.slice (some ⟨g, 0, none⟩) n cap) n ((R.set a z).map Z)) := ⟨by rw [List.map_set]; exact own_set hO2 a _⟩); (have hK3 : Hd (Kept (fun j => j = g) w (w2.setCell ⟨g, a, none⟩ (.int .i64 z))) := ⟨hK2.setCell (.inl rfl) _⟩); (clear k2 HC hc hO hK hO2 hK2 hb hRl); (go_wp2); (obtain ⟨w3, hw3⟩ : ∃ W, w2.setCell ⟨g, a, none⟩ (.int .i64 z) = W := ⟨_, rfl⟩); (rw [hw3] at hO3 hK3); (rw [hw3]); (clear hw3 hc2 hf2); (go_roundw)
          case rel => first | exact ⟨a + 1, b + 1, _, by go_num, by go_num, by omega, by omega, hD2, hO3, hK3⟩ | ((repeat apply Exists.intro); exact ⟨⟨a + 1, b + 1, _, by go_num, by go_num, by omega, by omega, hD2, hO3, hK3⟩, rfl⟩)
          case measure => simp [intOf]; omega
      · (obtain rfl : b = n := by omega); (have hb1 : ¬ (b : Int) < (b : Int) := by omega); (have ha1 : (a : Int) ≤ (b : Int) := by omega); (have ha0 : (0 : Int) ≤ (a : Int) := by omega); (have hcc : (b : Int) ≤ (cap : Int) := by omega)
        obtain ⟨cur, hb⟩ : ∃ cur, wr.heap[g]? = some (.cells cur 3 (0, 0)) := by
          obtain ⟨_, ⟨e, _⟩ | ⟨g', c, cur, e, _, hg, _⟩⟩ := hO.out
          · cases e
          · cases e; exact ⟨cur, hg⟩
        have hRl : R.length = b := hD.out.len.trans hn'.out
        have hcl : ∀ ty, (Builtin.clear_ #[26] ty #[.slice (some ⟨g, a, none⟩) (b - a) (cap - a)]).run Tryz.prog wr = .ok (.tuple #[]) (wr.setCells g a (List.replicate (b - a) (.int .i64 0))) := fun ty =>
          Lib.run_clear_slice wr 26 3 ty (.int .i64 0) under_ints zero_int rfl rfl g a (b - a) (cap - a) (by omega) (fun j hj => by
            obtain ⟨_, _, e9, hc⟩ := RdZ.at (show RdZ wr (.slice (some ⟨g, 0, none⟩) b cap) R from own_RdZ (by rw [hRl]; exact hO.out)) (a + j) (by rw [hRl]; omega)
            cases e9
            rw [Nat.zero_add] at hc
            rw [hc]; rfl) fun j hj => row_free hb _
        obtain ⟨L', hL1, hL2⟩ := own_setCells (List.replicate (b - a) (.int .i64 0)) a wr _ hO.out
        have hfin : Hd (RdZ (wr.setCells g a (List.replicate (b - a) (.int .i64 0))) (.slice (some ⟨g, 0, none⟩) a cap) (zs.filter fun x => !P x)) := ⟨by
          (have hz : zs.take b = zs := List.take_of_length_le (by rw [hn'.out]; exact Nat.le_refl _)); (have hp := hD.out.pre); (rw [hz] at hp); (rw [← hp]); (obtain ⟨h1, ao9, cap9, e9, h2, h3, h4⟩ := Rd.of_own hL2)
          cases e9
          refine ⟨by simp, _, _, by rw [List.length_take, hRl, Nat.min_eq_left (by omega)], by rw [List.length_take]; omega, h3, .inr ?_⟩
          rcases h4 with h4 | ⟨b9, o9, e9, h4⟩
          · omega
          · refine ⟨b9, o9, e9, fun j u hu => h4 j u ?_⟩
            have hj : j < a := by
              (have := (List.getElem?_eq_some_iff.1 hu).1); (rw [List.length_map, List.length_take] at this; omega)
            (have : (L'.take a)[j]? = ((R.map Z).take a)[j]? := by rw [hL1]); (rw [List.getElem?_take_of_lt hj] at this)
            rw [this, ← List.map_take]; exact hu⟩
        (have hkf := hid (kept_setCells (g := g) (List.replicate (b - a) (.int .i64 0)) a w wr hK.out)); (clear hL1 hL2 hO hD hb hRl hK); (go_wp2_with (simp only [hcl])); (go_ret); (first | exact ⟨_, rfl, hfin.out, hkf.out⟩ | exact ⟨hfin.out, hkf.out⟩)
set_option maxRecDepth 20000 in
set_option maxHeartbeats 1000000 in
theorem ixm_any (B B2 : Nat) (P : Int → Bool) (vz : Value) (zs : List Int) (w : World) (hz : RdZ w vz zs) (HP : ∀ W, Kept no w W → ∀ x ∈ zs, Calls Tryz.prog 158 #[.int .i64 x, .pointer (some ⟨B, 0, none⟩), .pointer (some ⟨B2, 0, none⟩)] W fun e w' => e = .returned (.bool (P x)) ∧ Kept no W w') :
    Calls Tryz.prog 31 #[vz, .func (.func 158) #[] #[.pointer (some ⟨B, 0, none⟩), .pointer (some ⟨B2, 0, none⟩)]] w fun e w' => ∃ r : Int, e = .returned (.int .i64 r) ∧ Kept no w w' ∧ ((r = -1 ∧ ∀ x ∈ zs, P x = false) ∨ ∃ k : Nat, r = (k : Int) ∧ k < zs.length ∧ P (zs.getD k 0) = true ∧ ∀ x ∈ zs.take k, P x = false) := by
  (obtain ⟨ao, cap, rfl, hcap, hcm⟩ := Rd.shape2 hz); (have hm63 := maxLen_63); (obtain ⟨n, hn⟩ : ∃ n, zs.length = n := ⟨_, rfl⟩); (rw [hn] at hz hcap ⊢); (replace hz := hid hz); (replace HP := hid HP); (replace hn := hid hn)
  go_enter Tryz.func31, Tryz.ntmps31
  go_wp2
  go_loopw [8] (fun i wr => ∃ k : Nat, k ≤ n ∧ i = .int .i64 (k : Int) ∧ Hd (∀ x ∈ zs.take k, P x = false) ∧ Hd (Kept no w wr)) (fun i _ => n - (intOf i).toNat)
  case atStart => exact ⟨0, by omega, rfl, ⟨by simp⟩, ⟨Kept.refl _ _⟩⟩
  case round =>
    obtain ⟨k, hk, rfl, hx, hW⟩ := hrel
    by_cases hlt : k < n
    · (have hk1 : (k : Int) < (n : Int) := by omega); (have hk0 : (0 : Int) ≤ (k : Int) := by omega); (have hkl : k < zs.length := by rw [hn.out]; exact hlt); (obtain ⟨b, o, rfl, hc⟩ := RdZ.at (hz.out.kept hW.out) k hkl)
      have hst : Hd (P (zs.getD k 0) = false → ∀ x ∈ zs.take (k + 1), P x = false) := ⟨fun h x hx' => by
        rw [take_snoc hkl] at hx'
        rcases List.mem_append.1 hx' with h' | h'
        · exact hx.out x h'
        · rw [List.mem_singleton.1 h']; exact h⟩
      (have HC := hid (HP.out wr hW.out _ (getD_memZ hkl))); (obtain ⟨z, hgd⟩ : ∃ z, zs.getD k 0 = z := ⟨_, rfl⟩); (rw [hgd] at hc hst HC); (replace hgd := hid hgd); (clear hkl)
      cases he : P z with
      | true =>
        (rw [he] at HC); (have he' := hid he); (clear he hst); (go_wp2_with fail); (with_reducible refine HC.out.mono ?_); (rintro e w1 ⟨rfl, k1⟩); (have hW' := hid (hW.out.trans' k1)); (clear k1 HC hc hW); (go_wp2); (go_ret); (first | exact ⟨_, rfl, hW'.out, .inr ⟨k, rfl, hlt, by rw [hgd.out]; exact he'.out, hx.out⟩⟩ | exact ⟨hW'.out, .inr ⟨k, rfl, hlt, by rw [hgd.out]; exact he'.out, hx.out⟩⟩)
      | false =>
        (rw [he] at HC); (have hn2 := hid (hst.out he)); (clear he hst hx); (go_wp2_with fail); (with_reducible refine HC.out.mono ?_); (rintro e w1 ⟨rfl, k1⟩); (have hW' := hid (hW.out.trans' k1)); (clear k1 HC hc hW); (go_wp2); (go_roundw)
        case rel => first | exact ⟨k + 1, by omega, by go_num, hn2, hW'⟩ | ((repeat apply Exists.intro); exact ⟨⟨k + 1, by omega, by go_num, hn2, hW'⟩, rfl⟩)
        case measure => simp [intOf]; omega
    · (obtain rfl : k = n := by omega); (have hk1 : ¬ (k : Int) < (k : Int) := by omega); (have hall : Hd (∀ x ∈ zs, P x = false) := ⟨by have := hx.out; rwa [List.take_of_length_le (by rw [hn.out]; exact Nat.le_refl _)] at this⟩); (clear hx); (go_wp2); (go_ret); (first | exact ⟨_, rfl, hW.out, .inl ⟨rfl, hall.out⟩⟩ | exact ⟨hW.out, .inl ⟨rfl, hall.out⟩⟩)
set_option maxRecDepth 20000 in
set_option maxHeartbeats 2000000 in
theorem dlm_any (B B2 : Nat) (P : Int → Bool) (g cap n : Nat) (zs : List Int) (w : World) (hn : zs.length = n) (ho : w.ownsRow 0 3 1 (.slice (some ⟨g, 0, none⟩) n cap) n (zs.map Z)) (HP : ∀ W, Kept (fun j => j = g) w W → ∀ x ∈ zs, Calls Tryz.prog 158 #[.int .i64 x, .pointer (some ⟨B, 0, none⟩), .pointer (some ⟨B2, 0, none⟩)] W fun e w' => e = .returned (.bool (P x)) ∧ Kept no W w') :
    Calls Tryz.prog 120 #[.slice (some ⟨g, 0, none⟩) n cap, .func (.func 158) #[] #[.pointer (some ⟨B, 0, none⟩), .pointer (some ⟨B2, 0, none⟩)]] w fun e w' => ∃ v', e = .returned v' ∧ RdZ w' v' (zs.filter fun x => !P x) ∧ Kept (fun j => j = g) w w' := by
  (have hm63 := maxLen_63); (have hrd : RdZ w (.slice (some ⟨g, 0, none⟩) n cap) zs := by have := own_RdZ (zs := zs) (v := .slice (some ⟨g, 0, none⟩) n cap) (by rw [hn]; exact ho); exact this); (obtain ⟨_, _, e9, hcap, hcm⟩ := Rd.shape2 (Rd.of_own ho))
  cases e9
  (have HI := hid (ixm_any B B2 P (.slice (some ⟨g, 0, none⟩) n cap) zs w hrd (fun W k x hx => HP W (k.of_no) x hx))); (replace ho := hid ho); (replace HP := hid HP); (have hrd' := hid hrd); (have hn' := hid hn); (clear hrd)
  go_enter Tryz.func120, Tryz.ntmps120
  (go_wp2_with fail); (with_reducible refine HI.out.mono ?_); (rintro e w1 ⟨r, rfl, k1, hr⟩); (have k1' := hid k1); (have ho1 := hid (k1.ownsRow ho.out fun _ _ => id))
  rcases hr with ⟨rfl, hall⟩ | ⟨k0, rfl, hk0n, hp0, hpre⟩
  · have hfin : Hd (RdZ w1 (.slice (some ⟨g, 0, none⟩) n cap) (zs.filter fun x => !P x)) := ⟨by
      rw [List.filter_eq_self.2 (fun x hx => by rw [hall x hx]; rfl)]
      exact RdZ.kept hrd'.out k1⟩
    (clear hall hn k1 HI); (go_wp2); (go_ret); (first | exact ⟨_, rfl, hfin.out, k1'.out.of_no⟩ | exact ⟨hfin.out, k1'.out.of_no⟩)
  · have hD0 : Hd (DelI P zs zs k0 (k0 + 1)) := ⟨rfl, Nat.lt_succ_self _, hk0n, by
      (rw [take_snoc hk0n, List.filter_append, List.filter_eq_self.2 (fun x hx => by rw [hpre x hx]; rfl)]); (generalize zs.getD k0 0 = z at hp0)
      simp [hp0], rfl⟩
    (have hk0' : k0 < n := by rw [← hn]; exact hk0n); (have hne1 : ¬ (k0 : Int) = -1 := by omega); (have hne2 : ((k0 : Int) == -1) = false := beq_eq_false_iff_ne.2 hne1); (have hkS : Hd (Kept (fun j => j = g) w w1) := ⟨k1.of_no⟩); (clear hk0n hp0 hpre hn k1 HI); (go_upto_region 5 with fail)
    go_loopw [5, 6] (fun i j wr => ∃ (a b : Nat) (R : List Int), i = .int .i64 (a : Int) ∧ j = .int .i64 (b : Int) ∧ a < b ∧ b ≤ n ∧ Hd (DelI P zs R a b) ∧ Hd (wr.ownsRow 0 3 1 (.slice (some ⟨g, 0, none⟩) n cap) n (R.map Z)) ∧ Hd (Kept (fun j => j = g) w wr)) (fun _ j _ => n - (intOf j).toNat)
    case atStart => exact ⟨k0, k0 + 1, zs, rfl, by go_num, by omega, by omega, hD0, ho1, hkS⟩
    case round =>
      (clear hD0 ho1 hkS); (obtain ⟨a, b, R, rfl, rfl, hab, hbn, hD, hO, hK⟩ := hrel)
      by_cases hlt : b < n
      · (have hb1 : (b : Int) < (n : Int) := by omega); (have hb0 : (0 : Int) ≤ (b : Int) := by omega); (have ha1 : (a : Int) < (n : Int) := by omega); (have ha0 : (0 : Int) ≤ (a : Int) := by omega); (have hbl : b < zs.length := by rw [hn'.out]; exact hlt); (have hRl : R.length = n := hD.out.len.trans hn'.out); (have hbR : b < R.length := by rw [hRl]; exact hlt); (obtain ⟨_, _, e9, hc⟩ := RdZ.at (show RdZ wr (.slice (some ⟨g, 0, none⟩) n cap) R from own_RdZ (by rw [hRl]; exact hO.out)) b hbR)
        cases e9
        (rw [hD.out.at hbl, Nat.zero_add] at hc); (have HC := hid (HP.out wr hK.out _ (getD_memZ hbl))); (have hd1 := hid (hD.out.drop1 hbl)); (have hd2 := hid (hD.out.keep1 hbl)); (obtain ⟨z, hgd⟩ : ∃ z, zs.getD b 0 = z := ⟨_, rfl⟩); (rw [hgd] at hc HC hd1 hd2); (clear hgd hbl hRl hbR hD)
        cases he : P z with
        | true =>
          (rw [he] at HC); (have hD2 := hid (hd1.out he)); (clear he hd1 hd2); (go_wp2_with fail); (with_reducible refine HC.out.mono ?_); (rintro e w2 ⟨rfl, k2⟩); (have hO2 := hid (k2.ownsRow hO.out fun _ _ => id)); (have hK2 := hid (hK.out.trans' k2)); (clear k2 HC hc hO hK); (go_wp2); (go_roundw)
          case rel => first | exact ⟨a, b + 1, R, rfl, by go_num, by omega, by omega, hD2, hO2, hK2⟩ | ((repeat apply Exists.intro); exact ⟨⟨a, b + 1, R, rfl, by go_num, by omega, by omega, hD2, hO2, hK2⟩, rfl⟩)
          case measure => simp [intOf]; omega
        | false =>
          (rw [he] at HC); (have hD2 := hid (hd2.out he)); (clear he hd1 hd2); (go_wp2_with fail); (with_reducible refine HC.out.mono ?_); (rintro e w2 ⟨rfl, k2⟩); (have hO2 := k2.ownsRow hO.out fun _ _ => id); (have hK2 := hK.out.trans' k2)
          obtain ⟨cur, hb⟩ : ∃ cur, w2.heap[g]? = some (.cells cur 3 (0, 0)) := by
            obtain ⟨_, ⟨e, _⟩ | ⟨g', c, cur, e, _, hg, _⟩⟩ := hO2
            · cases e
            · cases e; exact ⟨cur, hg⟩
          have hRl : R.length = n := by have := hD2.out.len; rw [List.length_set] at this; exact this.trans hn'.out
          have hc2 : ∃ u, w2.cell? ⟨g, a, none⟩ = some u := by
            obtain ⟨_, _, e9, hc⟩ := RdZ.at (show RdZ w2 (.slice (some ⟨g, 0, none⟩) n cap) R from own_RdZ (by rw [hRl]; exact hO2)) a (by rw [hRl]; omega)
            cases e9
            (rw [Nat.zero_add] at hc); (exact ⟨_, hc⟩)
          (obtain ⟨u2, hc2⟩ := hc2); (have hf2 := row_free hb a); (have hO3 : Hd ((w2.setCell ⟨g, a, none⟩ (.int .i64 z)).ownsRow 0 3 1 (.slice (some ⟨g, 0, none⟩) n cap) n ((R.set a z).map Z)) := ⟨by rw [List.map_set]; exact own_set hO2 a _⟩); (have hK3 : Hd (Kept (fun j => j = g) w (w2.setCell ⟨g, a, none⟩ (.int .i64 z))) := ⟨hK2.setCell (.inl rfl) _⟩); (clear k2 HC hc hO hK hO2 hK2 hb hRl); (go_wp2); (obtain ⟨w3, hw3⟩ : ∃ W, w2.setCell ⟨g, a, none⟩ (.int .i64 z) = W := ⟨_, rfl⟩); (rw [hw3] at hO3 hK3); (rw [hw3]); (clear hw3 hc2 hf2); (go_roundw)
          case rel => first | exact ⟨a + 1, b + 1, _, by go_num, by go_num, by omega, by omega, hD2, hO3, hK3⟩ | ((repeat apply Exists.intro); exact ⟨⟨a + 1, b + 1, _, by go_num, by go_num, by omega, by omega, hD2, hO3, hK3⟩, rfl⟩)
          case measure => simp [intOf]; omega
      · (obtain rfl : b = n := by omega); (have hb1 : ¬ (b : Int) < (b : Int) := by omega); (have ha1 : (a : Int) ≤ (b : Int) := by omega); (have ha0 : (0 : Int) ≤ (a : Int) := by omega); (have hcc : (b : Int) ≤ (cap : Int) := by omega)
        obtain ⟨cur, hb⟩ : ∃ cur, wr.heap[g]? = some (.cells cur 3 (0, 0)) := by
          obtain ⟨_, ⟨e, _⟩ | ⟨g', c, cur, e, _, hg, _⟩⟩ := hO.out
          · cases e
          · cases e; exact ⟨cur, hg⟩
        have hRl : R.length = b := hD.out.len.trans hn'.out
        have hcl : ∀ ty, (Builtin.clear_ #[26] ty #[.slice (some ⟨g, a, none⟩) (b - a) (cap - a)]).run Tryz.prog wr = .ok (.tuple #[]) (wr.setCells g a (List.replicate (b - a) (.int .i64 0))) := fun ty =>
          Lib.run_clear_slice wr 26 3 ty (.int .i64 0) under_ints zero_int rfl rfl g a (b - a) (cap - a) (by omega) (fun j hj => by
            obtain ⟨_, _, e9, hc⟩ := RdZ.at (show RdZ wr (.slice (some ⟨g, 0, none⟩) b cap) R from own_RdZ (by rw [hRl]; exact hO.out)) (a + j) (by rw [hRl]; omega)
            cases e9
            rw [Nat.zero_add] at hc
            rw [hc]; rfl) fun j hj => row_free hb _
        obtain ⟨L', hL1, hL2⟩ := own_setCells (List.replicate (b - a) (.int .i64 0)) a wr _ hO.out
        have hfin : Hd (RdZ (wr.setCells g a (List.replicate (b - a) (.int .i64 0))) (.slice (some ⟨g, 0, none⟩) a cap) (zs.filter fun x => !P x)) := ⟨by
          (have hz : zs.take b = zs := List.take_of_length_le (by rw [hn'.out]; exact Nat.le_refl _)); (have hp := hD.out.pre); (rw [hz] at hp); (rw [← hp]); (obtain ⟨h1, ao9, cap9, e9, h2, h3, h4⟩ := Rd.of_own hL2)
          cases e9
          refine ⟨by simp, _, _, by rw [List.length_take, hRl, Nat.min_eq_left (by omega)], by rw [List.length_take]; omega, h3, .inr ?_⟩
          rcases h4 with h4 | ⟨b9, o9, e9, h4⟩
          · omega
          · refine ⟨b9, o9, e9, fun j u hu => h4 j u ?_⟩
            have hj : j < a := by
              (have := (List.getElem?_eq_some_iff.1 hu).1); (rw [List.length_map, List.length_take] at this; omega)
            (have : (L'.take a)[j]? = ((R.map Z).take a)[j]? := by rw [hL1]); (rw [List.getElem?_take_of_lt hj] at this)
            rw [this, ← List.map_take]; exact hu⟩
        (have hkf := hid (kept_setCells (g := g) (List.replicate (b - a) (.int .i64 0)) a w wr hK.out)); (clear hL1 hL2 hO hD hb hRl hK); (go_wp2_with (simp only [hcl])); (go_ret); (first | exact ⟨_, rfl, hfin.out, hkf.out⟩ | exact ⟨hfin.out, hkf.out⟩)
end Go.Proofs.YtaobaaaihgahfaaGreat

/- gregory.exclude (printed by gen_excl.py). -/
namespace Go.Proofs.YtaobaaaihgahfaaGreat
open Go.RowKit Go.Mk Go.Pil Go.Nt Go.Gg
theorem obS {g h n c : Nat} (ne : g ≠ h) : ∀ j, ob (.slice (some ⟨g, 0, none⟩) n c) j → ¬ j = h := fun j hj e => by
  (have : g = j := by simpa [ob, Value.ownBlock] using hj); (exact ne (by rw [this, e]))
set_option maxRecDepth 100000 in
set_option maxHeartbeats 8000000 in
theorem excl_any (gk gs gp ge gR n m cap kc c : Nat) (C D : Array Value) (vv u12 : Value) (st : List Int) (pc : List Pc) (V : List Nat) (qs ks : List RQ) (w : World) (hn : n ≤ 1000) (hm : m ≤ 100000) (hst : st.length = n) (hV : V.length = n) (hks : ks.length = n)
    (kb : w.heap[gk]? = some (.cells C 119 (0, 0))) (sb : w.heap[gs]? = some (.cells (zI st) 3 (0, 0))) (rb : w.heap[gR]? = some (.cells D 78 (0, 0)))
    (h12 : C[12]? = some (.slice (some ⟨gp, 0, none⟩) m cap)) (h13 : C[13]? = some (.slice (some ⟨gs, 0, none⟩) n n)) (h14 : C[14]? = some (.slice (some ⟨ge, 0, none⟩) n kc)) (hD0 : D[0]? = some vv) (hD12 : D[12]? = some u12)
    (hI : InP w gp m cap pc) (hok : ∀ x ∈ pc.map Pc.pl, MvOk w gp n x) (hqs : ints qs V) (hVb : ∀ i, V.getD i 0 < 10000) (rq : InQ w vv qs) (rk : InQ w (.slice (some ⟨ge, 0, none⟩) n kc) ks)
    (hob : ∀ x ∈ pc.map Pc.pl, ∀ W, Kept (fun j => j = gs ∨ j = gp ∨ j = ge ∨ j = gR) w W → RdZ W x.pv x.prefs) (huni : ∀ T, MinT (zsV V) (allS st 0) T → T = [(c : Int)]) (hcn : c < n) :
    Calls Tryz.prog 126 #[.pointer (some ⟨gk, 0, none⟩), .pointer (some ⟨gR, 0, none⟩)] w fun e w' => e = .returned (.tuple #[]) ∧ ∃ gx, TrR gk gs gp ge gR m cap C (D.setIfInBounds 12 (.slice (some ⟨gx, 0, none⟩) 1 1)) (st.set c 3) ((pc.map Pc.pl).map (mvPl (st.set c 3) (c : Int) 1 1)) (.slice (some ⟨ge, 0, none⟩) n kc) ((pq ks).set c (0, 1)) w w' := by
  (have nks := ne_blk kb sb (by decide)); (have nsR := ne_blk sb rb (by decide)); (have nkR := ne_blk kb rb (by decide)); (obtain ⟨curp, hbp⟩ := hI.blk); (obtain ⟨cure, hbe⟩ := rk.blk); (have nkp := ne_blk kb hbp (by decide)); (have nsp := ne_blk sb hbp (by decide)); (have nRp := ne_blk rb hbp (by decide)); (have nke := ne_blk kb hbe (by decide)); (have nse := ne_blk sb hbe (by decide)); (have nRe := ne_blk rb hbe (by decide)); (have npe := ne_blk hbp hbe (by decide)); (have HA := hid (fun (W : World) (k : Kept no w W) => allg_any gk _ st 0 W (by omega) (k.cell (cell_at kb h13) id) (RdZ.kept (zI_rd sb n hst (by have : maxLen = 9223372036854775807 := rfl; omega)) k)))
  have HCh := hid (fun (W : World) (k : Kept no w W) (cv : Value) (rc : RdZ W cv (allS st 0)) => choose_any gk gR n c cv _ (allS st 0) true V qs W hn hV hqs (fun i => by have := hVb i; omega) (fun x hx => by
    obtain ⟨i, h1, _, h2⟩ := mem_allS.1 hx
    exact ⟨i, by rw [← hst]; exact h1, h2⟩) (by rw [← hst]; exact allK_len st 0 st.length) (.inl rfl) huni (rq.keptNo k) (k.cell (cell_at rb hD0) id) rc)
  (have hcn1 : (c : Int) < (n : Int) := by omega); (have hcn0 : (0 : Int) ≤ (c : Int) := by omega); (have HO0 := hid (fun (W : World) => ratof_any 0 W (by omega))); (have HO1 := hid (fun (W : World) => ratof_any 1 W (by omega))); (rw [show ((1 : Nat) : Int) = 1 from rfl] at HO1); (have HMv := hid (fun (W : World) (kb' : W.heap[gk]? = some (.cells C 119 (0, 0))) (sb' : W.heap[gs]? = some (.cells (zI (st.set c 3)) 3 (0, 0))) (hI' : InP W gp m cap pc) (k : Kept (fun j => j = gs ∨ j = ge ∨ j = gR) w W) (va vb : Value) (hv : Limbs W va 1 ∧ Limbs W vb 1) => move_any gk gp gs n m cap c 1 1 va vb C (st.set c 3) pc W nkp hm hn (by rw [List.length_set]; exact hst) kb' sb' h12 h13 hI' (fun x hx => ⟨(hok x hx).an, (hok x hx).ln, (hok x hx).on, (hok x hx).ps, (hok x hx).qs, fun W' k' => hob x hx W' ((k.mono fun j _ e => e.elim .inl fun e => .inr (.inr e)).trans k' fun j _ e => .inr (.inl e))⟩) (by decide) (by decide) hv)); (have k_b := hid kb); (have s_b := hid sb); (have r_b := hid rb); (have hh13 := hid h13); (have hh14 := hid h14); (have hD12' := hid hD12); (have rk' := hid rk); (have hI0 := hid hI); (have hst' := hid hst); (have hks' := hid hks); (have hbp' := hid hbp); (clear kb sb rb h12 h13 h14 hD0 hD12 hI hok hob hqs hVb rq rk hst hks hV hbp hbe huni)
  go_enter Tryz.func126, Tryz.ntmps126
  (go_wp2_with fail); (with_reducible refine (HA.out w (Kept.refl _ _)).mono ?_); (rintro e w1 ⟨v1, rfl, o1⟩); (go_wp2_with fail); (with_reducible refine (HCh.out w1 o1.kept v1 o1.rd).mono ?_); (rintro e w2 ⟨rfl, k2⟩); (have k02 := hid (o1.kept.trans' k2)); (clear HA HCh o1 k2); (obtain ⟨wA, hwA, gA', kA⟩ := alloc_named w2 (.cells #[.int .i64 (c : Int)] 3)); (have r12 : (w2.alloc (.cells #[.int .i64 (c : Int)] 3)).cell? ⟨gR, 12, none⟩ = some u12 := by rw [← hwA]; exact cell_at (kA.blk (k02.out.blk r_b.out)) hD12'.out); (have f12 : (w2.alloc (.cells #[.int .i64 (c : Int)] 3)).frozen? ⟨gR, 12, none⟩ = false := by rw [← hwA]; exact row_free (kA.blk (k02.out.blk r_b.out)) 12); (obtain ⟨gA, hgA⟩ : ∃ g, w2.heap.size = g := ⟨_, rfl⟩); (have k0A := k02.out.trans' kA); (have kS1 := (Kept.refl (fun j => j = gR) wA).setCell (a := ⟨gR, 12, none⟩) (.inl rfl) (.slice (some ⟨gA, 0, none⟩) 1 1)); (have rb1 : Hd ((wA.setCell ⟨gR, 12, none⟩ (.slice (some ⟨gA, 0, none⟩) 1 1)).heap[gR]? = some (.cells (D.setIfInBounds 12 (.slice (some ⟨gA, 0, none⟩) 1 1)) 78 (0, 0))) := ⟨setCell_row (k0A.blk r_b.out) _ _⟩); (have kb1 := hid ((kS1.block gk (lt_of_heap (k0A.blk k_b.out)) nkR).trans (k0A.blk k_b.out))); (have sb1 := hid ((kS1.block gs (lt_of_heap (k0A.blk s_b.out)) nsR).trans (k0A.blk s_b.out))); (have hI1 := hid ((hI0.out.keptNo k0A).keptS kS1 (fun e => nRp e.symm) fun j (e : j = gR) => by subst e; exact ⟨_, _, _, k0A.blk r_b.out, by decide⟩)); (have rk1 := hid ((rk'.out.keptNo k0A).keptS kS1 (obS (Ne.symm nRe)) fun j (e : j = gR) => by subst e; exact ⟨_, _, _, k0A.blk r_b.out, by decide⟩)); (have kk1 := hid ((k0A.of_no (S := fun j => j = gs ∨ j = ge ∨ j = gR)).trans kS1 fun j _ e => .inr (.inr e))); (replace hwA := hid hwA); (clear k0A kS1 gA' kA); (go_upto_region 2 with fail); (rw [← hwA.out]); (try rw [hgA]); (obtain ⟨w3, hw3⟩ : ∃ W, wA.setCell ⟨gR, 12, none⟩ (.slice (some ⟨gA, 0, none⟩) 1 1) = W := ⟨_, rfl⟩); (rw [hw3] at rb1 kb1 sb1 hI1 rk1 kk1); (try rw [hw3]); (clear hw3 hwA r12 f12 hgA); (have a13 : w3.cell? ⟨gk, 13, none⟩ = some (.slice (some ⟨gs, 0, none⟩) n n) := cell_at kb1.out hh13.out); (have as_ : w3.cell? ⟨gs, c, none⟩ = some (.int .i64 (st.getD c 0)) := cell_at sb1.out (zI_at (by rw [hst'.out]; exact hcn))); (have af := row_free sb1.out c); (have kS := (Kept.refl (fun j => j = gs) w3).setCell (a := ⟨gs, c, none⟩) (.inl rfl) (.int .i64 3)); (have kk2 := hid (kk1.out.trans kS fun j _ e => .inl e)); (have kb2 := hid ((kS.block gk (lt_of_heap kb1.out) nks).trans kb1.out)); (have rb2 := hid ((kS.block gR (lt_of_heap rb1.out) (Ne.symm nsR)).trans rb1.out)); (have stb2 : Hd ((w3.setCell ⟨gs, c, none⟩ (.int .i64 3)).heap[gs]? = some (.cells (zI (st.set c 3)) 3 (0, 0))) := ⟨by rw [setCell_row sb1.out, zI_set]⟩); (have hI2 := hid (hI1.out.keptS kS (fun e => nsp e.symm) fun j (e : j = gs) => by subst e; exact ⟨_, _, _, sb1.out, by decide⟩)); (have rk2 := hid (rk1.out.keptS kS (obS (Ne.symm nse)) fun j (e : j = gs) => by subst e; exact ⟨_, _, _, sb1.out, by decide⟩)); (clear kS); (go_upto_region 3 with fail); (obtain ⟨w4, hw4⟩ : ∃ W, w3.setCell ⟨gs, c, none⟩ (.int .i64 3) = W := ⟨_, rfl⟩); (rw [hw4] at kk2 kb2 rb2 stb2 hI2 rk2); (rw [hw4]); (clear hw4 a13 as_ af kb1 rb1 sb1 hI1 rk1 kk1); (have a14 := hid (cell_at kb2.out hh14.out)); (have hcl : Hd (c < ks.length) := ⟨by rw [hks'.out]; exact hcn⟩); (refine region_flow (S := (fun j => j = ge)) (Sl := (fun _ => (fun j => j = ge))) [Is (.pointer (some ⟨gk, 0, none⟩)), Is (.pointer (some ⟨gk, 0, none⟩)), Is (.pointer (some ⟨gk, 14, none⟩)), Is (.slice (some ⟨ge, 0, none⟩) n kc), Is (.int .i64 (c : Int)), PRQ 0 1, Is (.pointer (some ⟨ge, c * 3, none⟩)), PSk (.slice (some ⟨ge, 0, none⟩) n kc) ks c 0 1] [7] (fun _ _ h => h) _ (by kernel_rfl) (by kernel_rfl) (by kernel_rfl) (by kernel_rfl) (fun x => by simp only [puts, Act.put, List.map_cons, List.map_nil, Nat.zero_add, Nat.reduceAdd, List.setIfInBounds_toArray, List.set_cons_zero, List.set_cons_succ]; exact rfl) ?_ ?_)
  · (skip); (refine .cons (fun x wf Kk hq hdep hold => ?_) ?_)
    · (try dsimp only); (clear hq hdep hold); (refine opv rfl ?_); (first | rfl | go_simp)
    refine .cons (fun x wf Kk hq hdep hold => ?_) ?_
    · (try dsimp only); (have h0 : x 0 = _ := hdep 0 (by kernel_rfl)); (clear hq hdep hold); (simp only [h0]); (clear h0); (refine opv rfl ?_); (first | rfl | go_simp)
    refine .cons (fun x wf Kk hq hdep hold => ?_) ?_
    · (try dsimp only); (have h1 : x 1 = _ := hdep 1 (by kernel_rfl)); (clear hq hdep hold); (simp only [h1]); (clear h1); (refine opv rfl ?_); (first | rfl | go_simp)
    refine .cons (fun x wf Kk hq hdep hold => ?_) ?_
    · (try dsimp only); (have h2 : x 2 = _ := hdep 2 (by kernel_rfl)); (have Kq := hq no (fun _ hj => (noMem (by kernel_rfl) hj).elim)); (clear hq hdep hold); (simp only [h2]); (clear h2); (have m1 := Kq.undrew.cell a14.out id); (refine opv rfl ?_); (first | rfl | go_simp)
    refine .cons (fun x wf Kk hq hdep hold => ?_) ?_
    · (try dsimp only); (clear hq hdep hold); (refine opv rfl ?_); (first | rfl | go_simp)
    refine .cons (fun x wf Kk hq hdep hold => ?_) ?_
    · (try dsimp only); (have Kq := hq no (fun _ hj => (noMem (by kernel_rfl) hj).elim)); (clear hq hdep hold); (rw [if_pos (by rfl)]); (refine OpY.call (f := 57) (args := #[(.int .i64 0)]) (by go_simp) ?_); (refine (HO0.out wf).mono ?_); (rintro e w7 ⟨v, rfl, o⟩); (have ok := o.kept); (exact ⟨_, rfl, ok, o.limbs⟩)
    refine .cons (fun x wf Kk hq hdep hold => ?_) ?_
    · (try dsimp only); (have h3 : x 3 = _ := hdep 3 (by kernel_rfl)); (have h4 : x 4 = _ := hdep 4 (by kernel_rfl)); (clear hq hdep hold); (simp only [h3, h4]); (clear h3 h4); (refine opv rfl ?_); (first | rfl | go_simp)
    refine .cons (fun x wf Kk hq hdep hold => ?_) ?_
    · (try dsimp only); (have h6 : x 6 = _ := hdep 6 (by kernel_rfl)); (have p5 : Pr.p (Sl := (fun _ => (fun j => j = ge))) (PRQ 0 1) (x 5) wf := hdep 5 (by kernel_rfl)); (have Kq := hq no (fun _ hj => (noMem (by kernel_rfl) hj).elim)); (clear hq hdep hold); (simp only [h6]); (clear h6); (rw [if_pos (by rfl)]); (obtain ⟨y5, e5, hp5, hq5, hl5, hm5⟩ := p5); (rw [e5]); (have hQ := rk2.out.keptNo Kq.undrew); (have hone := cQ_one (x := y5) ⟨hl5, hm5⟩); (refine OpY.storeMid 76 (.tmp 27) (.tmp 26) rfl ge (c * 3) (cQ y5).toArray rfl rfl (hQ.there c hcl.out) (by kernel_rfl) (all_oneCell_toArray hone) ?_); (exact ⟨(((Kept.refl (fun j => j = ge) wf).setCell (a := ⟨ge, c * 3, none⟩) (.inl rfl) (.bool false)).setCell (a := ⟨ge, c * 3 + 1, none⟩) (.inl rfl) y5.a).setCell (a := ⟨ge, c * 3 + 2, none⟩) (.inl rfl) y5.b, y5, hp5, hq5, hQ.set c hcl.out ⟨hl5, hm5⟩⟩)
    exact .nil _
  · (intro x wf Kk hv); (try dsimp only); (have p7 : Pr.p (Sl := (fun _ => (fun j => j = ge))) (PSk (.slice (some ⟨ge, 0, none⟩) n kc) ks c 0 1) (x 7) wf := hv 7 (by kernel_rfl)); (clear hv); (obtain ⟨y, hy1, hy2, hQ7⟩ := p7); (have k5 := Kk.undrew); (have hre : ∀ {g : Nat} {c : Array Value} {t : TypeId}, w4.heap[g]? = some (.cells c t (0, 0)) → g ≠ ge → wf.heap[g]? = some (.cells c t (0, 0)) := fun h ne => (k5.block _ (lt_of_heap h) ne).trans h)
    have hI5 := hid (hI2.out.keptS k5 npe fun j (e : j = ge) => by
      (obtain ⟨cur, hb⟩ := rk2.out.blk); (subst e)
      exact ⟨cur, _, _, hb, by decide⟩)
    (have kb5 := hid (hre kb2.out nke)); (have rb5 := hid (hre rb2.out nRe)); (have stb5 := hid (hre stb2.out nse)); (have kk5 := hid (kk2.out.trans k5 fun j _ e => .inr (.inl e))); (have hQ5 := hid hQ7); (obtain ⟨w5, hw5⟩ : ∃ W, wf = W := ⟨_, rfl⟩); (rw [hw5] at hI5 kb5 rb5 stb5 kk5 hQ5 ⊢); (clear hre k5 hQ7 Kk hw5 kk2 kb2 rb2 stb2 hI2 rk2 a14); (go_wp2_with fail); (with_reducible refine (HO1.out w5).mono ?_); (rintro e w6 ⟨v6, rfl, o6⟩); (have k6 := o6.kept); (obtain ⟨y6, rfl, p6, q6, hl6, hm6⟩ := o6.limbs); (rw [p6] at hl6); (rw [q6] at hm6); (have HM2 := hid (HMv.out w6 (k6.blk kb5.out) (k6.blk stb5.out) (hI5.out.keptNo k6) (kk5.out.trans' k6) _ _ ⟨hl6, hm6⟩)); (have hQ6 := hid (hQ5.out.keptNo k6)); (have hIb := hid (hI5.out.keptNo k6)); (have kb6 := hid (k6.blk kb5.out)); (have stb6 := hid (k6.blk stb5.out)); (have rb6 := hid (k6.blk rb5.out)); (have kk6 := hid (kk5.out.trans' k6)); (clear HMv o6 k6 p6 q6 hl6 hm6 kb5 stb5 rb5 kk5 hQ5 hI5); (go_wp2_with fail); (with_reducible refine HM2.out.mono ?_); (rintro e w7 ⟨rfl, pc', hpl7, hI7, k7⟩); (obtain ⟨cur7, hb7⟩ := hIb.out.blk); (have hfin : Hd (∃ gx, TrR gk gs gp ge gR m cap C (D.setIfInBounds 12 (.slice (some ⟨gx, 0, none⟩) 1 1)) (st.set c 3) ((pc.map Pc.pl).map (mvPl (st.set c 3) (c : Int) 1 1)) (.slice (some ⟨ge, 0, none⟩) n kc) ((pq ks).set c (0, 1)) w w7) := ⟨gA, (k7.block gk (lt_of_heap kb6.out) nkp).trans kb6.out, (k7.block gs (lt_of_heap stb6.out) nsp).trans stb6.out, (k7.block gR (lt_of_heap rb6.out) nRp).trans rb6.out, ⟨pc', hpl7, hI7⟩, ⟨_, by rw [pq_set, hy1, hy2], hQ6.out.keptS k7 (obS (Ne.symm npe)) fun j (e : j = gp) => by subst e; exact ⟨cur7, _, _, hb7, by decide⟩⟩, (kk6.out.mono fun j _ e => e.elim .inl fun e => .inr (.inr e)).trans k7 fun j _ e => .inr (.inl e)⟩); (clear hpl7 hI7 k7 hb7 hQ6 hIb kb6 stb6 rb6 kk6 hy1 hy2); (go_wp2)
    go_end0
    exact ⟨rfl, by simpa using hfin.out⟩
end Go.Proofs.YtaobaaaihgahfaaGreat

/- The state of gregory.count; the closure of its round (printed by gen_gst.py). -/
namespace Go.Gg
/-- What a count is about. -/
structure GC where
  nm : ByteArray
  ac : Option Addr
  cc : Nat
  cm : Int
  ra : Int
  d : Int
  t : Int
  ov : Int
  sk : Int
  vl : Value
  n : Nat
  m : Nat
  cap : Nat
  kc : Nat
  seats : Nat
  total : Nat
  quo : Nat
def gC (X : GC) (gp gs ge : Nat) (f : Int) (ev tr tw : Value) : Array Value :=
  #[.string X.nm, .slice X.ac X.n X.cc, .int .i64 X.cm, .int .i64 (X.seats : Int), .int .i64 X.ra, .int .i64 X.d, .int .i64 X.t, .int .i64 X.ov, .int .i64 X.sk, X.vl, .int .i64 (X.total : Int), .int .i64 (X.quo : Int), .slice (some ⟨gp, 0, none⟩) X.m X.cap, .slice (some ⟨gs, 0, none⟩) X.n X.n, .slice (some ⟨ge, 0, none⟩) X.n X.kc, .int .i64 f, ev, .int .i64 3, .int .i64 (X.seats : Int), .int .i64 0, .int .i64 (X.n : Int), tr, tw]
def rC (vv kv qa qb ea eb sa sb el ex : Value) : Array Value := #[vv, kv, .bool false, qa, qb, .bool false, ea, eb, .bool false, sa, sb, el, ex, .slice none 0 0]
/-- A round of the transcript. -/
structure RdC where
  vv : Value
  kv : Value
  kpq : List (Nat × Nat)
  qa : Value
  qb : Value
  e : RQ
  sa : Value
  sb : Value
  el : Value
  ex : Value
def RdC.cells (r : RdC) : List Value := (rC r.vv r.kv r.qa r.qb r.e.a r.e.b r.sa r.sb r.el r.ex).toList
def addVl (V : List Nat) (x : Pl) : List Nat := if x.at_ < x.prefs.length then V.set (x.prefs.getD x.at_ 0).toNat (V.getD (x.prefs.getD x.at_ 0).toNat 0 + x.p * x.n / x.q) else V
def votesL (n : Nat) (pls : List Pl) : List Nat := pls.foldl addVl (List.replicate n 0)
def votesS (n : Nat) (st : List Int) (q : Nat) (pls : List Pl) : List Nat := (allS st 2).foldl (setV q) (votesL n pls)
theorem votesP_pl (n : Nat) (pc : List Pc) : votesP n pc = votesL n (pc.map Pc.pl) := by
  (unfold votesP votesL); (rw [List.foldl_map]; rfl)
theorem votesG_pl (n : Nat) (st : List Int) (q : Nat) (pc : List Pc) : votesG n st q pc = votesS n st q (pc.map Pc.pl) := by
  (unfold votesG votesS); (rw [votesP_pl])
theorem votesG_len (n : Nat) (st : List Int) (q : Nat) (pc : List Pc) : (votesG n st q pc).length = n := by
  (unfold votesG); (rw [setV_len, votesP_len])
/-- What a parcel must be. -/
structure PlOk (n : Nat) (x : Pl) : Prop where
  pn : x.n ≤ 100000
  an : x.at_ ≤ 1000
  ln : x.prefs.length ≤ 1000
  on : ∀ z ∈ x.prefs, 0 ≤ z ∧ z < n
  dv : x.at_ < x.prefs.length → x.q ∣ x.p * x.n
  q0 : x.q ≠ 0
  qs : x.q < 10000
  ps : x.p < 10000
theorem PlOk.pc {n : Nat} {x : Pc} (h : PlOk n x.pl) : PcOk n x := ⟨h.pn, Nat.le_trans h.an (by decide), fun hl => ⟨h.on _ (by
  have hl' : x.pl.at_ < x.pl.prefs.length := hl
  show x.pl.prefs.getD x.pl.at_ 0 ∈ x.pl.prefs
  rw [List.getD_eq_getElem?_getD, List.getElem?_eq_getElem hl']; exact List.getElem_mem _), h.dv hl⟩, h.q0, h.qs, h.ps⟩
/-- Whom the quota elects. -/
def reachL (V : List Nat) (st : List Int) (quo : Nat) : List Int := (allS st 0).filter fun c => !decide (V.getD c.toNat 0 < quo)
end Go.Gg
namespace Go.Proofs.YtaobaaaihgahfaaGreat
open Go.RowKit Go.Mk Go.Pil Go.Nt Go.Gg
/-- The rounds of a transcript, of its own, apart from the block of the keep values. -/
structure OwRs (w0 w : World) (ge : Nat) (v : Value) (rs : List RdC) : Prop where
  own : w.ownsRow 0 78 14 v rs.length (rs.flatMap RdC.cells)
  one : ∀ r ∈ rs, (∃ ks, pq ks = r.kpq ∧ InQ w r.kv ks) ∧ (∀ j, ob r.kv j → j ≠ ge) ∧ Limbs w r.e.a r.e.p ∧ Limbs w r.e.b r.e.q
  new : New w0 v
/-- The state of a count. -/
structure GS (X : GC) (gk gs gp ge : Nat) (st : List Int) (pls : List Pl) (kpq : List (Nat × Nat)) (f em : Nat) (rs : List RdC) (wl : List Int) (ev tr tw : Value) (w0 w : World) : Prop where
  kb : w.heap[gk]? = some (.cells (gC X gp gs ge (f : Int) ev tr tw) 119 (0, 0))
  sb : w.heap[gs]? = some (.cells (zI st) 3 (0, 0))
  len : st.length = X.n
  ip : ∃ pc, pc.map Pc.pl = pls ∧ InP w gp X.m X.cap pc
  iq : ∃ ks, pq ks = kpq ∧ InQ w (.slice (some ⟨ge, 0, none⟩) X.n X.kc) ks
  evo : ∃ L, w.ownsRow 0 72 1 ev em L ∧ New w0 ev
  tro : OwRs w0 w ge tr rs
  two : w.ownsRow 0 3 1 tw wl.length (wl.map Z) ∧ New w0 tw ∧ ∀ j, ob tw j → j ≠ gs
  nk : w0.heap.size ≤ gk
  ns : w0.heap.size ≤ gs
  np : w0.heap.size ≤ gp
  ne : w0.heap.size ≤ ge
  kept : Kept no w0 w
theorem Limbs.keptS {w w' : World} {v : Value} {p : Nat} {S : Nat → Prop} (h : Limbs w v p) (k : Kept S w w') (h2 : ∀ j, S j → ∃ c t fr, w.heap[j]? = some (.cells c t fr) ∧ t ≠ 202) : Limbs w' v p :=
  k.ownsRow h fun j hj hs => by
    (obtain ⟨c, t, fr, hg, h2⟩ := h2 j hs); (exact own_ne h hg (Ne.symm h2) j hj rfl)
set_option maxRecDepth 20000 in
set_option maxHeartbeats 2000000 in
theorem round1_any (gR gv n cvv c vc quo : Nat) (kv qa qb ea eb sa sb el ex : Value) (qs : List RQ) (w : World) (hl : qs.length = n) (hc : c < n) (_hn : n ≤ 1000) (hvb : vc < 2147483648) (hqb : quo < 2147483648)
    (rb : w.heap[gR]? = some (.cells (rC (.slice (some ⟨gv, 0, none⟩) n cvv) kv qa qb ea eb sa sb el ex) 78 (0, 0))) (rq : InQ w (.slice (some ⟨gv, 0, none⟩) n cvv) qs) (hq : (qs.getD c ⟨0, 0, undef, undef⟩).p = vc ∧ (qs.getD c ⟨0, 0, undef, undef⟩).q = 1) (lq : Limbs w qa quo ∧ Limbs w qb 1) :
    Calls Tryz.prog 122 #[.int .i64 (c : Int), .pointer (some ⟨gR, 0, none⟩)] w fun e w' => e = .returned (.bool (decide (vc < quo))) ∧ Kept no w w' := by
  (have hcl : c < qs.length := by rw [hl]; exact hc); (have hcn1 : (c : Int) < (n : Int) := by omega); (have hcn0 : (0 : Int) ≤ (c : Int) := by omega); (obtain ⟨_, y, e9, hy, _, _, _, hRy⟩ := rq.at c hcl)
  cases e9
  (rw [List.getD_eq_getElem?_getD, List.getElem?_eq_getElem hcl, Option.getD_some, hy] at hq); (have hrowY := rq.rng c hcl); (rw [hy] at hrowY); (obtain ⟨⟨ya, yc, eya⟩, ⟨yb, yd, eyb⟩⟩ := RQ.shape (rq.one _ (List.getElem_mem hcl))); (rw [hy] at eya eyb); (have eYC : cQ y = [.bool false, .slice ya (nl y.p).length yc, .slice yb (nl y.q).length yd] := by unfold cQ; rw [eya, eyb]); (rw [eYC, hq.1, hq.2] at hrowY); (rw [eya, eyb, hq.1, hq.2] at hRy); (obtain ⟨⟨xa, xc, exa⟩, ⟨xb, xd, exb⟩⟩ := RQ.shape (x := ⟨quo, 1, qa, qb⟩) lq); (simp only at exa exb); (subst exa exb); (have hRx : RdR w (.agg #[.bool false, .slice xa (nl quo).length xc, .slice xb (nl 1).length xd]) false quo 1 := ⟨_, _, rfl, Rd.of_own lq.1, Rd.of_own lq.2⟩); (obtain ⟨yl, hyl⟩ : ∃ l, (nl vc).length = l := ⟨_, rfl⟩); (obtain ⟨ol, hol⟩ : ∃ l, (nl 1).length = l := ⟨_, rfl⟩); (obtain ⟨xl, hxl⟩ : ∃ l, (nl quo).length = l := ⟨_, rfl⟩); (rw [hyl, hol] at hRy hrowY); (rw [hxl, hol] at hRx rb); (have HC := hid (fun (W : World) (kW : Kept no w W) => ratcmp_any _ _ vc quo W hvb hqb (hRy.kept kW) (hRx.kept kW)))
  have hrowX : Hd (w.rangeAt gR 2 [.bool false, .slice xa xl xc, .slice xb ol xd]) := ⟨fun j u hu => by
    rw [cell_of_row w gR (2 + j) _ _ _ rb]
    match j, hu with
    | 0, hu => exact hu
    | 1, hu => exact hu
    | 2, hu => exact hu
    | j + 3, hu => simp at hu⟩
  (have hrowY' := hid hrowY); (have hR0 : Hd (w.cell? ⟨gR, 0, none⟩ = some (.slice (some ⟨gv, 0, none⟩) n cvv)) := ⟨cell_at rb rfl⟩)
  have hres : decide (cmpN vc quo < 0) = decide (vc < quo) := by
    rcases cmp3v vc quo with ⟨h, e⟩ | ⟨h, e⟩ | ⟨h, e⟩
    · rw [e]; simp [h]
    · rw [e]; simp [h]
    · rw [e]; simp; omega
  clear hRy hRx hrowY rb rq hq lq hy eya eyb eYC hyl hol hxl hcl
  go_enter Tryz.func122, Tryz.ntmps122
  (go_upto_region 1 with fail); (refine region_flow (S := no) (Sl := (fun _ => no)) [Is (.pointer (some ⟨gR, 0, none⟩)), Is (.slice (some ⟨gv, 0, none⟩) n cvv), Is (.int .i64 (c : Int)), Is (.pointer (some ⟨gv, c * 3, none⟩)), Is (.agg #[.bool false, .slice ya yl yc, .slice yb ol yd]), Is (.pointer (some ⟨gR, 2, none⟩)), Is (.agg #[.bool false, .slice xa xl xc, .slice xb ol xd]), Is (.int .i64 (cmpN vc quo)), Is (.bool (decide (cmpN vc quo < 0))), Is (.bool (decide (cmpN vc quo < 0)))] [] (fun _ _ h => h) _ (by kernel_rfl) (by kernel_rfl) (by kernel_rfl) (by kernel_rfl) (fun x => by simp only [puts, Act.put, List.map_cons, List.map_nil, Nat.zero_add, Nat.reduceAdd, List.setIfInBounds_toArray, List.set_cons_zero, List.set_cons_succ]; exact rfl) ?_ ?_)
  · (skip); (refine .cons (fun x wf Kk hq hdep hold => ?_) ?_)
    · (try dsimp only); (clear hq hdep hold); (refine opv rfl ?_); (first | rfl | go_simp)
    refine .cons (fun x wf Kk hq hdep hold => ?_) ?_
    · (try dsimp only); (have h0 : x 0 = _ := hdep 0 (by kernel_rfl)); (clear hq hdep hold); (simp only [h0]); (clear h0); (have m1 := Kk.undrew.cell hR0.out id); (refine opv rfl ?_); (first | rfl | go_simp)
    refine .cons (fun x wf Kk hq hdep hold => ?_) ?_
    · (try dsimp only); (clear hq hdep hold); (refine opv rfl ?_); (first | rfl | go_simp)
    refine .cons (fun x wf Kk hq hdep hold => ?_) ?_
    · (try dsimp only); (have h1 : x 1 = _ := hdep 1 (by kernel_rfl)); (have h2 : x 2 = _ := hdep 2 (by kernel_rfl)); (clear hq hdep hold); (simp only [h1, h2]); (clear h1 h2); (refine opv rfl ?_); (first | rfl | go_simp)
    refine .cons (fun x wf Kk hq hdep hold => ?_) ?_
    · (try dsimp only); (have h3 : x 3 = _ := hdep 3 (by kernel_rfl)); (clear hq hdep hold); (simp only [h3]); (clear h3); (rw [if_pos (by rfl)]); (exact OpY.row 76 (.tmp 7) rfl gv (c * 3) rfl [.bool false, .slice ya yl yc, .slice yb ol yd] _ (Kk.undrew.rng hrowY'.out) Tryz.underlying76 rfl (by kernel_rfl) ⟨Kept.refl _ _, rfl⟩)
    refine .cons (fun x wf Kk hq hdep hold => ?_) ?_
    · (try dsimp only); (clear hq hdep hold); (refine opv rfl ?_); (first | rfl | go_simp)
    refine .cons (fun x wf Kk hq hdep hold => ?_) ?_
    · (try dsimp only); (have h5 : x 5 = _ := hdep 5 (by kernel_rfl)); (clear hq hdep hold); (simp only [h5]); (clear h5); (rw [if_pos (by rfl)]); (exact OpY.row 76 (.tmp 9) rfl gR (2) rfl [.bool false, .slice xa xl xc, .slice xb ol xd] _ (Kk.undrew.rng hrowX.out) Tryz.underlying76 rfl (by kernel_rfl) ⟨Kept.refl _ _, rfl⟩)
    refine .cons (fun x wf Kk hq hdep hold => ?_) ?_
    · (try dsimp only); (have h4 : x 4 = _ := hdep 4 (by kernel_rfl)); (have h6 : x 6 = _ := hdep 6 (by kernel_rfl)); (clear hq hdep hold); (simp only [h4, h6]); (clear h4 h6); (rw [if_pos (by rfl)]); (refine OpY.call (f := 123) (args := #[(.agg #[.bool false, .slice ya yl yc, .slice yb ol yd]), (.agg #[.bool false, .slice xa xl xc, .slice xb ol xd])]) (by go_simp) ?_); (refine (HC.out wf Kk.undrew).mono ?_); (rintro e w2 ⟨rfl, h3⟩); (exact ⟨_, rfl, h3, rfl⟩)
    refine .cons (fun x wf Kk hq hdep hold => ?_) ?_
    · (try dsimp only); (have h7 : x 7 = _ := hdep 7 (by kernel_rfl)); (clear hq hdep hold); (simp only [h7]); (clear h7); (refine opv rfl ?_); (first | rfl | go_simp)
    refine .cons (fun x wf Kk hq hdep hold => ?_) ?_
    · (try dsimp only); (have h8 : x 8 = _ := hdep 8 (by kernel_rfl)); (clear hq hdep hold); (simp only [h8]); (clear h8); (refine opv rfl ?_); (first | rfl | go_simp)
    exact .nil _
  · (intro x wf Kk hv); (try dsimp only); (have h9 : x 9 = _ := hv 9 (by kernel_rfl)); (clear hv); (simp only [h9]); (clear h9); (have kk := hid Kk.undrew); (clear Kk HC); (go_wp2); (go_ret); (exact ⟨by first | rfl | (rw [hres]; rfl), kk.out⟩)
end Go.Proofs.YtaobaaaihgahfaaGreat

/- How the state of gregory.count turns. -/
namespace Go.Proofs.YtaobaaaihgahfaaGreat
open Go.RowKit Go.Mk Go.Pil Go.Nt Go.Gg
section
variable {X : GC} {gk gs gp ge : Nat} {st st' : List Int} {pls pls' : List Pl} {kpq kpq' : List (Nat × Nat)} {f f' em : Nat} {rs : List RdC} {wl : List Int} {ev tr tw : Value} {w0 w w' : World}
theorem OwRs.keptS {v : Value} {S : Nat → Prop} (h : OwRs w0 w ge v rs) (k : Kept S w w') (h1 : ∀ j, ob v j → ¬ S j) (h2 : ∀ j, S j → ∃ c t fr, w.heap[j]? = some (.cells c t fr) ∧ t ≠ 202 ∧ (t ≠ 76 ∨ j = ge)) : OwRs w0 w' ge v rs := by
  have hu : ∀ j, S j → ∃ c t fr, w.heap[j]? = some (.cells c t fr) ∧ t ≠ 202 := fun j hj => by
    (obtain ⟨c, t, fr, a, b, _⟩ := h2 j hj); (exact ⟨c, t, fr, a, b⟩)
  (refine ⟨k.ownsRow h.own h1, fun r hr => ?_, h.new⟩); (obtain ⟨⟨ks, a1, a2⟩, a3, a4, a5⟩ := h.one r hr)
  exact ⟨⟨ks, a1, a2.keptS k (fun j hj hs => by
    obtain ⟨c, t, fr, a, _, b | b⟩ := h2 j hs
    · exact own_ne a2.own a (Ne.symm b) j hj rfl
    · exact a3 j hj b) hu⟩, a3, a4.keptS k hu, a5.keptS k hu⟩
theorem GS.keptNo (h : GS X gk gs gp ge st pls kpq f em rs wl ev tr tw w0 w) (k : Kept no w w') : GS X gk gs gp ge st pls kpq f em rs wl ev tr tw w0 w' := by
  (obtain ⟨pc, i1, i2⟩ := h.ip); (obtain ⟨ks, q1, q2⟩ := h.iq); (obtain ⟨L, e1, e2⟩ := h.evo); (exact ⟨k.blk h.kb, k.blk h.sb, h.len, ⟨pc, i1, i2.keptNo k⟩, ⟨ks, q1, q2.keptNo k⟩, ⟨L, k.ownsRow e1 fun _ _ => id, e2⟩, h.tro.keptS k (fun _ _ => id) (fun _ f => f.elim), ⟨k.ownsRow h.two.1 fun _ _ => id, h.two.2.1, h.two.2.2⟩, h.nk, h.ns, h.np, h.ne, h.kept.trans' k⟩)
theorem GS.turn (h : GS X gk gs gp ge st pls kpq f em rs wl ev tr tw w0 w) {gR : Nat} {D : Array Value} (hR : w.heap[gR]? = some (.cells D 78 (0, 0))) (hn : w0.heap.size ≤ gR) (ht : ∀ j, ob tr j → j ≠ gR) {S : Nat → Prop}
    (hS : ∀ j, S j → j = gk ∨ j = gs ∨ j = gp ∨ j = ge ∨ j = gR) (k : Kept S w w') (kb' : w'.heap[gk]? = some (.cells (gC X gp gs ge (f' : Int) ev tr tw) 119 (0, 0))) (sb' : w'.heap[gs]? = some (.cells (zI st') 3 (0, 0))) (len' : st'.length = X.n)
    (ip' : ∃ pc, pc.map Pc.pl = pls' ∧ InP w' gp X.m X.cap pc) (iq' : ∃ ks, pq ks = kpq' ∧ InQ w' (.slice (some ⟨ge, 0, none⟩) X.n X.kc) ks) : GS X gk gs gp ge st' pls' kpq' f' em rs wl ev tr tw w0 w' := by
  (obtain ⟨pc, _, i2⟩ := h.ip); (obtain ⟨ks, _, q2⟩ := h.iq); (obtain ⟨L, e1, e2⟩ := h.evo); (obtain ⟨cp, bp⟩ := i2.blk); (obtain ⟨cq, bq⟩ := q2.blk); (refine ⟨kb', sb', len', ip', iq', ⟨L, k.ownsRow e1 fun j hj hs => ?_, e2⟩, h.tro.keptS k (fun j hj hs => ?_) (fun j hs => ?_), ⟨k.ownsRow h.two.1 fun j hj hs => ?_, h.two.2.1, h.two.2.2⟩, h.nk, h.ns, h.np, h.ne, h.kept.trans k fun j hj hs => ?_⟩)
  · rcases hS j hs with rfl | rfl | rfl | rfl | rfl
    · exact own_ne e1 h.kb (by decide) _ hj rfl
    · exact own_ne e1 h.sb (by decide) _ hj rfl
    · exact own_ne e1 bp (by decide) _ hj rfl
    · exact own_ne e1 bq (by decide) _ hj rfl
    · exact own_ne e1 hR (by decide) _ hj rfl
  · rcases hS j hs with rfl | rfl | rfl | rfl | rfl
    · exact own_ne h.tro.own h.kb (by decide) _ hj rfl
    · exact own_ne h.tro.own h.sb (by decide) _ hj rfl
    · exact own_ne h.tro.own bp (by decide) _ hj rfl
    · exact own_ne h.tro.own bq (by decide) _ hj rfl
    · exact ht _ hj rfl
  · rcases hS j hs with rfl | rfl | rfl | rfl | rfl
    · exact ⟨_, _, _, h.kb, by decide, .inl (by decide)⟩
    · exact ⟨_, _, _, h.sb, by decide, .inl (by decide)⟩
    · exact ⟨_, _, _, bp, by decide, .inl (by decide)⟩
    · exact ⟨_, _, _, bq, by decide, .inr rfl⟩
    · exact ⟨_, _, _, hR, by decide, .inl (by decide)⟩
  · rcases hS j hs with rfl | rfl | rfl | rfl | rfl
    · exact own_ne h.two.1 h.kb (by decide) _ hj rfl
    · exact h.two.2.2 _ hj rfl
    · exact own_ne h.two.1 bp (by decide) _ hj rfl
    · exact own_ne h.two.1 bq (by decide) _ hj rfl
    · exact own_ne h.two.1 hR (by decide) _ hj rfl
  · (have := h.nk); (have := h.ns); (have := h.np); (have := h.ne)
    rcases hS j hs with rfl | rfl | rfl | rfl | rfl <;> omega
/-- Electing one candidate. -/
theorem GS.elect (h : GS X gk gs gp ge st pls kpq f em rs wl ev tr tw w0 w) {gR c : Nat} {D : Array Value} {v : Value} (hR : w.heap[gR]? = some (.cells D 78 (0, 0))) (hn : w0.heap.size ≤ gR) (ht : ∀ j, ob tr j → j ≠ gR)
    (hE : ElR gk gs gR 15 119 (gC X gp gs ge (f : Int) ev tr tw) D st c (f : Int) w w' v) : GS X gk gs gp ge (st.set c 1) pls kpq (f + 1) em rs wl ev tr tw w0 w' := by
  (obtain ⟨pc, i1, i2⟩ := h.ip); (obtain ⟨ks, q1, q2⟩ := h.iq); (obtain ⟨cp, bp⟩ := i2.blk); (obtain ⟨cq, bq⟩ := q2.blk)
  have hu : ∀ j, Sg gk gs gR j → ∃ c t fr, w.heap[j]? = some (.cells c t fr) ∧ t ≠ 202 := fun j hj => by
    rcases hj with rfl | rfl | rfl
    · exact ⟨_, _, _, h.kb, by decide⟩
    · exact ⟨_, _, _, h.sb, by decide⟩
    · exact ⟨_, _, _, hR, by decide⟩
  refine h.turn hR hn ht (S := Sg gk gs gR) (fun j hj => hj.elim .inl fun hj => hj.elim (fun e => .inr (.inl e)) fun e => .inr (.inr (.inr (.inr e)))) hE.kept ?_ hE.sb (by rw [List.length_set]; exact h.len) ⟨pc, i1, i2.keptS hE.kept (fun hj => ?_) hu⟩ ⟨ks, q1, q2.keptS hE.kept (fun j hj hs => ?_) hu⟩
  · (have := hE.kb); (rw [show ((f + 1 : Nat) : Int) = (f : Int) + 1 by omega]); (exact this)
  · rcases hj with e | e | e
    · exact ne_blk h.kb bp (by decide) e.symm
    · exact ne_blk h.sb bp (by decide) e.symm
    · exact ne_blk hR bp (by decide) e.symm
  · rcases hs with e | e | e
    · exact own_ne q2.own h.kb (by decide) j hj e
    · exact own_ne q2.own h.sb (by decide) j hj e
    · exact own_ne q2.own hR (by decide) j hj e
/-- Transfer and exclude. -/
theorem GS.trans (h : GS X gk gs gp ge st pls kpq f em rs wl ev tr tw w0 w) {gR : Nat} {D D' : Array Value} (hR : w.heap[gR]? = some (.cells D 78 (0, 0))) (hn : w0.heap.size ≤ gR) (ht : ∀ j, ob tr j → j ≠ gR) (hl : st'.length = X.n)
    (hT : TrR gk gs gp ge gR X.m X.cap (gC X gp gs ge (f : Int) ev tr tw) D' st' pls' (.slice (some ⟨ge, 0, none⟩) X.n X.kc) kpq' w w') : GS X gk gs gp ge st' pls' kpq' f em rs wl ev tr tw w0 w' :=
  h.turn hR hn ht (fun j hj => by rcases hj with e | e | e | e
                                  · exact .inr (.inl e)
                                  · exact .inr (.inr (.inl e))
                                  · exact .inr (.inr (.inr (.inl e)))
                                  · exact .inr (.inr (.inr (.inr e)))) hT.kept hT.kb hT.sb hl hT.ip hT.iq
/-- Only the round's block turns. -/
theorem GS.keptR (h : GS X gk gs gp ge st pls kpq f em rs wl ev tr tw w0 w) {gR : Nat} {D : Array Value} (hR : w.heap[gR]? = some (.cells D 78 (0, 0))) (hn : w0.heap.size ≤ gR) (ht : ∀ j, ob tr j → j ≠ gR) (k : Kept (fun j => j = gR) w w') : GS X gk gs gp ge st pls kpq f em rs wl ev tr tw w0 w' := by
  (obtain ⟨pc, i1, i2⟩ := h.ip); (obtain ⟨ks, q1, q2⟩ := h.iq); (obtain ⟨cp, bp⟩ := i2.blk); (have hu : ∀ j, j = gR → ∃ c t fr, w.heap[j]? = some (.cells c t fr) ∧ t ≠ 202 := fun j e => by subst e; exact ⟨_, _, _, hR, by decide⟩); (exact h.turn hR hn ht (fun j e => .inr (.inr (.inr (.inr e)))) k ((k.block gk (lt_of_heap h.kb) (ne_blk h.kb hR (by decide))).trans h.kb) ((k.block gs (lt_of_heap h.sb) (ne_blk h.sb hR (by decide))).trans h.sb) h.len ⟨pc, i1, i2.keptS k (fun e => ne_blk hR bp (by decide) e.symm) hu⟩ ⟨ks, q1, q2.keptS k (fun j hj e => own_ne q2.own hR (by decide) j hj e) hu⟩)
theorem own_blkT {w : World} {e : TypeId} {s n : Nat} {v : Value} {L : List Value} (h : w.ownsRow 0 e s v n L) : ∀ j, ob v j → ∃ c, w.heap[j]? = some (.cells c e (0, 0)) := fun j hj => by
  obtain ⟨_, ⟨rfl, _⟩ | ⟨g, cap, cur, rfl, _, hg, _⟩⟩ := h
  · cases hj
  · (have : g = j := by simpa [ob, Value.ownBlock] using hj); (subst this); (exact ⟨cur, hg⟩)
/-- One row of the state and its header turn: the rows that stay. -/
theorem GS.app (h : GS X gk gs gp ge st pls kpq f em rs wl ev tr tw w0 w) {v : Value} {t : TypeId} (hv : ∀ j, ob v j → w0.heap.size ≤ j ∧ ∃ c, w.heap[j]? = some (.cells c t (0, 0))) (t1 : t ≠ 202) (t2 : t ≠ 76) (t3 : t ≠ 122) (t4 : t ≠ 3 ∨ ∀ j, ob v j → j ≠ gs)
    (k : Kept (fun j => ob v j ∨ j = gk) w w') : w'.heap[gs]? = some (.cells (zI st) 3 (0, 0)) ∧ (∃ pc, pc.map Pc.pl = pls ∧ InP w' gp X.m X.cap pc) ∧ (∃ ks, pq ks = kpq ∧ InQ w' (.slice (some ⟨ge, 0, none⟩) X.n X.kc) ks) ∧ Kept no w0 w' ∧
      ((t ≠ 72) → ∃ L, w'.ownsRow 0 72 1 ev em L ∧ New w0 ev) ∧ (t ≠ 78 → OwRs w0 w' ge tr rs) ∧ (t ≠ 3 → w'.ownsRow 0 3 1 tw wl.length (wl.map Z) ∧ New w0 tw ∧ ∀ j, ob tw j → j ≠ gs) := by
  (obtain ⟨pc, i1, i2⟩ := h.ip); (obtain ⟨ks, q1, q2⟩ := h.iq); (obtain ⟨L, e1, e2⟩ := h.evo); (obtain ⟨cp, bp⟩ := i2.blk); (obtain ⟨cq, bq⟩ := q2.blk)
  have hu : ∀ j, (ob v j ∨ j = gk) → ∃ c t fr, w.heap[j]? = some (.cells c t fr) ∧ t ≠ 202 := fun j hj => by
    rcases hj with hj | rfl
    · (obtain ⟨c, hc⟩ := (hv j hj).2); (exact ⟨_, _, _, hc, t1⟩)
    · exact ⟨_, _, _, h.kb, by decide⟩
  refine ⟨(k.block gs (lt_of_heap h.sb) fun hj => ?_).trans h.sb, ⟨pc, i1, i2.keptS k (fun hj => ?_) hu⟩, ⟨ks, q1, q2.keptS k (fun j hj hs => ?_) hu⟩, h.kept.trans k fun j _ hs => ?_, fun ht => ⟨L, k.ownsRow e1 fun j hj hs => ?_, e2⟩, fun ht => h.tro.keptS k (fun j hj hs => ?_) (fun j hs => ?_), fun ht => ⟨k.ownsRow h.two.1 fun j hj hs => ?_, h.two.2⟩⟩
  · rcases hj with hj | e
    · obtain ⟨c, hc⟩ := (hv _ hj).2
      rcases t4 with t4 | t4
      · exact ne_blk hc h.sb t4 rfl
      · exact t4 _ hj rfl
    · exact ne_blk h.sb h.kb (by decide) e
  · rcases hj with hj | e
    · (obtain ⟨c, hc⟩ := (hv _ hj).2); (exact ne_blk hc bp t3 rfl)
    · exact ne_blk bp h.kb (by decide) e
  · rcases hs with hs | e
    · (obtain ⟨c, hc⟩ := (hv _ hs).2); (exact own_ne q2.own hc (Ne.symm t2) j hj rfl)
    · exact own_ne q2.own h.kb (by decide) j hj e
  · rcases hs with hs | e
    · have := (hv _ hs).1; omega
    · have := h.nk; omega
  · rcases hs with hs | e
    · (obtain ⟨c, hc⟩ := (hv _ hs).2); (exact own_ne e1 hc (Ne.symm ht) j hj rfl)
    · exact own_ne e1 h.kb (by decide) j hj e
  · rcases hs with hs | e
    · (obtain ⟨c, hc⟩ := (hv _ hs).2); (exact own_ne h.tro.own hc (Ne.symm ht) j hj rfl)
    · exact own_ne h.tro.own h.kb (by decide) j hj e
  · rcases hs with hs | rfl
    · (obtain ⟨c, hc⟩ := (hv _ hs).2); (exact ⟨_, _, _, hc, t1, .inl t2⟩)
    · exact ⟨_, _, _, h.kb, by decide, .inl (by decide)⟩
  · rcases hs with hs | e
    · (obtain ⟨c, hc⟩ := (hv _ hs).2); (exact own_ne h.two.1 hc (Ne.symm ht) j hj rfl)
    · exact own_ne h.two.1 h.kb (by decide) j hj e
theorem GS.appE (h : GS X gk gs gp ge st pls kpq f em rs wl ev tr tw w0 w) (k : Kept (fun j => ob ev j ∨ j = gk) w w') {ev' : Value} {L : List Value} (ho : w'.ownsRow 0 72 1 ev' (em + 1) L) (hn : New w0 ev')
    (kb' : w'.heap[gk]? = some (.cells (gC X gp gs ge (f : Int) ev' tr tw) 119 (0, 0))) : GS X gk gs gp ge st pls kpq f (em + 1) rs wl ev' tr tw w0 w' := by
  (obtain ⟨L0, e1, e2⟩ := h.evo); (obtain ⟨a1, a2, a3, a4, _, a6, a7⟩ := h.app (fun j hj => ⟨e2.fr (Nat.le_refl _) j hj, own_blkT e1 j hj⟩) (by decide) (by decide) (by decide) (.inl (by decide)) k); (exact ⟨kb', a1, h.len, a2, a3, ⟨L, ho, hn⟩, a6 (by decide), a7 (by decide), h.nk, h.ns, h.np, h.ne, a4⟩)
theorem GS.appR (h : GS X gk gs gp ge st pls kpq f em rs wl ev tr tw w0 w) (k : Kept (fun j => ob tr j ∨ j = gk) w w') {tr' : Value} {r : RdC} (ho : w'.ownsRow 0 78 14 tr' (rs.length + 1) (rs.flatMap RdC.cells ++ r.cells)) (hn : New w0 tr')
    (hr : (∃ ks, pq ks = r.kpq ∧ InQ w r.kv ks) ∧ (∀ j, ob r.kv j → j ≠ ge) ∧ Limbs w r.e.a r.e.p ∧ Limbs w r.e.b r.e.q)
    (kb' : w'.heap[gk]? = some (.cells (gC X gp gs ge (f : Int) ev tr' tw) 119 (0, 0))) : GS X gk gs gp ge st pls kpq f em (rs ++ [r]) wl ev tr' tw w0 w' := by
  obtain ⟨a1, a2, a3, a4, a5, _, a7⟩ := h.app (fun j hj => ⟨h.tro.new.fr (Nat.le_refl _) j hj, own_blkT h.tro.own j hj⟩) (by decide) (by decide) (by decide) (.inl (by decide)) k
  have hu : ∀ j, (ob tr j ∨ j = gk) → ∃ c t fr, w.heap[j]? = some (.cells c t fr) ∧ t ≠ 202 := fun j hj => by
    rcases hj with hj | rfl
    · (obtain ⟨c, hc⟩ := own_blkT h.tro.own j hj); (exact ⟨_, _, _, hc, by decide⟩)
    · exact ⟨_, _, _, h.kb, by decide⟩
  have one : ∀ r : RdC, ((∃ ks, pq ks = r.kpq ∧ InQ w r.kv ks) ∧ (∀ j, ob r.kv j → j ≠ ge) ∧ Limbs w r.e.a r.e.p ∧ Limbs w r.e.b r.e.q) → ((∃ ks, pq ks = r.kpq ∧ InQ w' r.kv ks) ∧ (∀ j, ob r.kv j → j ≠ ge) ∧ Limbs w' r.e.a r.e.p ∧ Limbs w' r.e.b r.e.q) := fun r ⟨⟨ks, b1, b2⟩, b3, b4, b5⟩ =>
    ⟨⟨ks, b1, b2.keptS k (fun j hj hs => by
      rcases hs with hs | e
      · (obtain ⟨c, hc⟩ := own_blkT h.tro.own j hs); (exact own_ne b2.own hc (by decide) j hj rfl)
      · exact own_ne b2.own h.kb (by decide) j hj e) hu⟩, b3, b4.keptS k hu, b5.keptS k hu⟩
  refine ⟨kb', a1, h.len, a2, a3, a5 (by decide), ⟨?_, fun x hx => ?_, hn⟩, a7 (by decide), h.nk, h.ns, h.np, h.ne, a4⟩
  · rw [List.length_append, List.length_singleton, List.flatMap_append]
    simpa using ho
  · rcases List.mem_append.1 hx with hx | hx
    · exact one x (h.tro.one x hx)
    · rw [List.mem_singleton.1 hx]; exact one r hr
theorem GS.appW (h : GS X gk gs gp ge st pls kpq f em rs wl ev tr tw w0 w) (k : Kept (fun j => ob tw j ∨ j = gk) w w') {tw' : Value} {el : List Int} (ho : w'.ownsRow 0 3 1 tw' (wl.length + el.length) (wl.map Z ++ el.map Z)) (hn : New w0 tw') (hs : ∀ j, ob tw' j → j ≠ gs)
    (kb' : w'.heap[gk]? = some (.cells (gC X gp gs ge (f : Int) ev tr tw') 119 (0, 0))) : GS X gk gs gp ge st pls kpq f em rs (wl ++ el) ev tr tw' w0 w' := by
  (obtain ⟨a1, a2, a3, a4, a5, a6, _⟩ := h.app (fun j hj => ⟨h.two.2.1.fr (Nat.le_refl _) j hj, own_blkT h.two.1 j hj⟩) (by decide) (by decide) (by decide) (.inr h.two.2.2) k); (exact ⟨kb', a1, h.len, a2, a3, a5 (by decide), a6 (by decide), ⟨by rw [List.length_append, List.map_append]; exact ho, hn, hs⟩, h.nk, h.ns, h.np, h.ne, a4⟩)
end
end Go.Proofs.YtaobaaaihgahfaaGreat
