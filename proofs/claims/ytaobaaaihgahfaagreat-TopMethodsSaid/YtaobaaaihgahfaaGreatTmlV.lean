/- electionref05.Eq on equal lists; what Make's piles are. -/
import Derived.Test.YtaobaaaihgahfaaGreatGcntV
import Derived.Test.YtaobaaaihgahfaaGreatReachV
import Derived.Test.YtaobaaaihgahfaaGreatMkOV
import Derived.Test.YtaobaaaihgahfaaGreatMkBV
import Derived.Test.YtaobaaaihgahfaaGreatIrvCV
import Derived.Test.YtaobaaaihgahfaaGreatFitV
namespace Go.Proofs.YtaobaaaihgahfaaGreat
open Go.RowKit Go.Mk Go.Pil Go.Nt
set_option maxRecDepth 20000 in
set_option maxHeartbeats 400000 in
theorem eq5_any (va vb : Value) (xs : List Int) (w : World) (ha : RdZ w va xs) (hb : RdZ w vb xs) :
    Calls Tryz.prog 12 #[va, vb] w fun e w' => e = .returned (.bool true) ∧ Kept no w w' := by
  (obtain ⟨ao, ca, rfl, hca, hcam⟩ := Rd.shape2 ha); (have hm63 := maxLen_63); (obtain ⟨bo, cb, rfl⟩ := Rd.shapeZ hb); (obtain ⟨n, hn⟩ : ∃ n, xs.length = n := ⟨_, rfl⟩); (rw [hn] at ha hb hca ⊢); (replace ha := hid ha); (replace hb := hid hb); (replace hn := hid hn); (have hlb : ((n : Int) != (n : Int)) = false := by simp)
  go_enter Tryz.func12, Tryz.ntmps12
  go_wp2
  go_loopw [5] (fun i wr => ∃ k : Nat, k ≤ n ∧ i = .int .i64 (k : Int) ∧ Hd (Kept no w wr)) (fun i _ => n - (intOf i).toNat)
  case atStart => exact ⟨0, by omega, rfl, ⟨Kept.refl _ _⟩⟩
  case round =>
    obtain ⟨k, hk, rfl, hW⟩ := hrel
    by_cases hlt : k < n
    · (have hk1 : (k : Int) < (n : Int) := by omega); (have hk0 : (0 : Int) ≤ (k : Int) := by omega); (have hkl : k < xs.length := by rw [hn.out]; exact hlt); (obtain ⟨b1, o1, rfl, c1⟩ := RdZ.at (ha.out.kept hW.out) k hkl); (obtain ⟨b2, o2, rfl, c2⟩ := RdZ.at (hb.out.kept hW.out) k hkl); (generalize xs.getD k 0 = x at c1 c2); (have hb0 : (x != x) = false := by simp); (go_wp2_with fail); (go_quiet (fail)); (have hW' : Hd (Kept no w (wr.drewN nq)) := ⟨hW.out.drewN nq⟩); (go_wp2); (go_roundw)
      case rel => first | exact ⟨k + 1, by omega, by go_num, hW'⟩ | ((repeat apply Exists.intro); exact ⟨⟨k + 1, by omega, by go_num, hW'⟩, rfl⟩)
      case measure => simp [intOf]; omega
    · (obtain rfl : k = n := by omega); (have hk1 : ¬ (k : Int) < (k : Int) := by omega); (go_wp2); (go_ret); (exact ⟨rfl, hW.out⟩)
end Go.Proofs.YtaobaaaihgahfaaGreat
namespace Go.Tp
open Go.Pil
end Go.Tp

/- TopMethods: who has more than half of the first preferences wins by all three methods (plain). -/
namespace Go.Mg
open Go.Pil
/-- A majority of the first preferences stays, whoever is excluded. -/
theorem maj_stays {n : Nat} {gs : List Grp} (hn : n ≤ 7) (hpos : ∀ g ∈ gs, 1 ≤ g.n) {c : Nat} (hcn : c < n) (hm0 : allV n gs (2 ^ n - 1) < 2 * vt n gs (sl n (2 ^ n - 1)) (c : Int)) (s : Nat) (hr : Rc 2 n gs s) : s.testBit c = true ∧ allV n gs s < 2 * vt n gs (sl n s) (c : Int) := by
  induction hr with
  | full =>
    (refine ⟨?_, hm0⟩); (rw [Nat.testBit_two_pow_sub_one]); (exact decide_eq_true hcn)
  | @step s d hr h2 hdm ih =>
    (obtain ⟨hb, hm⟩ := ih); (have hlt := hr.lt); (have hcs : (c : Int) ∈ sl n s := mem_sl.2 ⟨⟨by omega, by omega⟩, by rw [Int.toNat_natCast]; exact hb⟩); (have hl := low_sub hn hlt hdm); (have hdl := mem_lows.1 hdm)
    have hdc : d ≠ (c : Int) := fun e => by
      subst e
      obtain ⟨x, hx, hxc⟩ : ∃ x ∈ sl n s, x ≠ (c : Int) := by
        (refine Classical.byContradiction fun hno => ?_); (have hall : ∀ x ∈ sl n s, x = (c : Int) := fun x hx => Classical.byContradiction fun h => hno ⟨x, hx, h⟩)
        have hnd : (sl n s).Nodup := by
          (unfold sl); (refine List.Nodup.sublist List.filter_sublist ?_); (unfold allC); (exact List.Pairwise.map _ (fun a b h e => h (Int.ofNat.inj e)) List.nodup_range)
        match hs : sl n s, h2 with
        | a :: b :: t, _ =>
          (rw [hs] at hall hnd); (have h3 := hall a (by simp)); (have h4 := hall b (by simp)); (rw [h3, h4] at hnd)
          simp at hnd
      (have h3 := two_le hpos hcs hx hxc.symm); (have h4 := hdl.2 x hx)
      omega
    (obtain ⟨D, rfl⟩ : ∃ D : Nat, d = (D : Int) := ⟨d.toNat, by omega⟩); (rw [Int.toNat_natCast] at hl ⊢); (have hbs := (bits_sub s (by have := pow7 hn; omega) D (by omega) hl.2.2.2).2)
    have hsub : ∀ x, x ∈ sl n (s - 2 ^ D) → x ∈ sl n s := fun x hx => by
      (have h3 := mem_sl.1 hx); (refine mem_sl.2 ⟨h3.1, ?_⟩); (have h4 := hbs x.toNat (by omega)); (rw [h3.2] at h4); (have h5 := h4.symm); (simp only [Bool.and_eq_true] at h5); (exact h5.1)
    have hb' : (s - 2 ^ D).testBit c = true := by
      rw [hbs c (by omega), hb]
      simp; omega
    (have hcs' : (c : Int) ∈ sl n (s - 2 ^ D) := mem_sl.2 ⟨⟨by omega, by omega⟩, by rw [Int.toNat_natCast]; exact hb'⟩); (refine ⟨hb', ?_⟩)
    have m1 : vt n gs (sl n s) (c : Int) ≤ vt n gs (sl n (s - 2 ^ D)) (c : Int) := by
      (rw [vt_eqM (by omega) (by omega), vt_eqM (by omega) (by omega)]); (refine sumIf_mono hpos fun g _ h => ?_); (simp only [beq_iff_eq] at h ⊢); (exact hd_sub hsub hcs' h)
    have m2 : allV n gs (s - 2 ^ D) ≤ allV n gs s := by
      rw [allV_eq, allV_eq]
      have := sumIf_mono (Q := fun p => hd (flags n (sl n s)) p == none) (R := fun p => hd (flags n (sl n (s - 2 ^ D))) p == none) hpos fun g _ h => by
        (simp only [beq_iff_eq] at h ⊢); (exact hd_none hsub h)
      omega
    omega
end Go.Mg
namespace Go.Gg
open Go.Pil Go.Mg
/-- First preferences are counted ballot by ballot. -/
def addF (V : List Int) (b : List Int) : List Int := match b with | [] => V | c :: _ => V.set c.toNat (V.getD c.toNat 0 + 1)
theorem addF_len (V : List Int) (b : List Int) : (addF V b).length = V.length := by unfold addF; split <;> simp
theorem foldF_len (l : List (List Int)) : ∀ V : List Int, (l.foldl addF V).length = V.length := by
  induction l with
  | nil => intro V; rfl
  | cons x l ih => intro V; rw [List.foldl_cons, ih, addF_len]
theorem addF_at (V : List Int) (b : List Int) (c : Nat) (hc : c < V.length) (hr : ∀ a ∈ b, 0 ≤ a) : (addF V b).getD c 0 = V.getD c 0 + if hdIs c b = true then 1 else 0 := by
  unfold addF hdIs
  cases b with
  | nil => simp
  | cons a t =>
    have ha := hr a List.mem_cons_self
    by_cases h : a = (c : Int)
    · (subst h); (simp only [Int.toNat_natCast, decide_true, if_true]); (rw [List.getD_eq_getElem?_getD, List.getElem?_set_self hc]; rfl)
    · (have : a.toNat ≠ c := by omega); (simp only [h, decide_false]); (rw [List.getD_eq_getElem?_getD, List.getElem?_set_ne this, ← List.getD_eq_getElem?_getD]; simp)
theorem foldF_at (l : List (List Int)) (c : Nat) : ∀ V : List Int, c < V.length → (∀ b ∈ l, ∀ a ∈ b, 0 ≤ a) → (l.foldl addF V).getD c 0 = V.getD c 0 + sumIf (hdIs c) (ones l) := by
  induction l with
  | nil => intro V _ _; simp [sumIf, ones]
  | cons b l ih =>
    (intro V hc hr); (rw [List.foldl_cons, ih _ (by rw [addF_len]; exact hc) (fun g hg => hr g (List.mem_cons_of_mem _ hg)), addF_at V b c hc (hr b List.mem_cons_self)]); (have : ones (b :: l) = ⟨b, 1⟩ :: ones l := rfl); (rw [this, sumIf_cons])
    dsimp only
    split <;> omega
theorem filter_one {l : List Int} {c : Int} {p : Int → Bool} (hnd : l.Nodup) (hc : c ∈ l) (hp : p c = true) (hno : ∀ x ∈ l, x ≠ c → p x = false) : l.filter p = [c] := by
  induction l with
  | nil => cases hc
  | cons a t ih =>
    rw [List.nodup_cons] at hnd
    by_cases h : a = c
    · (subst h); (rw [List.filter_cons_of_pos hp])
      congr 1
      (rw [List.filter_eq_nil_iff]); (intro x hx); (rw [hno x (List.mem_cons_of_mem _ hx) (fun e => hnd.1 (e ▸ hx))])
      decide
    · (rw [List.filter_cons_of_neg (by rw [hno a List.mem_cons_self h]; decide)]); (exact ih hnd.2 ((List.mem_cons.1 hc).resolve_left (fun e => h e.symm)) fun x hx => hno x (List.mem_cons_of_mem _ hx))
theorem allS_nodup (st : List Int) (s : Int) : (allS st s).Nodup := by
  (unfold allS allK); (exact List.Pairwise.map _ (fun a b h e => h (Int.ofNat.inj e)) (List.Nodup.sublist List.filter_sublist List.nodup_range))
theorem mem_rep0 (n : Nat) {x : Int} : x ∈ allS (List.replicate n 0) 0 ↔ 0 ≤ x ∧ x < n := by
  rw [mem_allS]
  constructor
  · (rintro ⟨i, hi, _, rfl⟩); (rw [List.length_replicate] at hi)
    omega
  · (rintro ⟨h1, h2⟩); (exact ⟨x.toNat, by rw [List.length_replicate]; omega, by rw [List.getD_eq_getElem?_getD, List.getElem?_replicate, if_pos (by omega)]; rfl, by omega⟩)
theorem allS_rep2 (n : Nat) : allS (List.replicate n (0 : Int)) 2 = [] := by
  (rw [List.eq_nil_iff_forall_not_mem]); (intro x hx); (obtain ⟨i, hi, h, _⟩ := mem_allS.1 hx); (rw [List.length_replicate] at hi); (rw [List.getD_eq_getElem?_getD, List.getElem?_replicate, if_pos hi] at h)
  cases h
/-- A pile: its groups' preferences lie in range. -/
theorem pile_in {n : Int} {gs : List Grp} (h : isPile n gs = true) {g : Grp} (hg : g ∈ gs) : 1 ≤ g.n ∧ ∀ a ∈ g.p, 0 ≤ a ∧ a < n := by
  (obtain ⟨h1, _, _⟩ := (isPile_iff _ _).1 h); (refine ⟨(h1 g hg).2, ?_⟩); (have := (h1 g hg).1); (unfold ballot at this); (exact (of_decide_eq_true this).2)
theorem hd_full {n : Nat} {p : List Int} (h : ∀ a ∈ p, 0 ≤ a ∧ a < (n : Int)) : hd (flags n (allC n)) p = p.head? := by
  (unfold hd kept); (rw [List.filter_eq_self.2]); (intro a ha); (rw [flags_in]); (have := h a ha); (exact decide_eq_true ⟨this.1, this.2, mem_allC.2 this⟩)
theorem hd_hdIs {n c : Nat} {p : List Int} (h : ∀ a ∈ p, 0 ≤ a ∧ a < (n : Int)) : (hd (flags n (allC n)) p == some (c : Int)) = hdIs c p := by
  rw [hd_full h]
  cases p with
  | nil => rfl
  | cons a t =>
    show (some a == some (c : Int)) = decide (a = (c : Int))
    by_cases e : a = (c : Int)
    · subst e; simp
    · simp [e]
theorem hd_nil {n : Nat} {p : List Int} (h : ∀ a ∈ p, 0 ≤ a ∧ a < (n : Int)) : (hd (flags n (allC n)) p == none) = p.isEmpty := by
  rw [hd_full h]
  cases p <;> rfl
def mkd (gs : List Grp) : Int := sumIf (fun p => !p.isEmpty) gs
theorem mkd_tot (gs : List Grp) : mkd gs + sumIf (fun p => p.isEmpty) gs = tot gs := by
  unfold mkd
  induction gs with
  | nil => rfl
  | cons g l ih =>
    rw [sumIf_cons, sumIf_cons, tot_cons]
    cases g.p.isEmpty <;> simp <;> omega
theorem pos_of {n : Int} {gs : List Grp} (h : isPile n gs = true) : ∀ g ∈ gs, 1 ≤ g.n := fun _ hg => (pile_in h hg).1
/-- The votes of all candidates, as a list. -/
theorem votes_list {n : Nat} {gs : List Grp} (h : isPile (n : Int) gs = true) : ∃ L : List Int, L.length = n ∧ (∀ c, c < n → L.getD c 0 = sumIf (hdIs c) gs) ∧ L.sum = mkd gs := by
  refine ⟨(firstV gs (flags n (allC n))).1, ?_, ?_, ?_⟩
  · (have := first_len gs (flags n (allC n))); (rw [this, flags_len])
  · (intro c hc); (rw [first_at gs _ c (by rw [flags_len]; exact hc)]); (exact sumIf_congr fun g hg => hd_hdIs (pile_in h hg).2)
  · (have h1 := first_sum gs (flags n (allC n))); (rw [first_rest] at h1); (have h2 : sumIf (fun p => hd (flags n (allC n)) p == none) gs = sumIf (fun p => p.isEmpty) gs := sumIf_congr fun g hg => hd_nil (pile_in h hg).2); (have h3 := mkd_tot gs)
    omega
theorem two_mkd {gs : List Grp} (hpos : ∀ g ∈ gs, 1 ≤ g.n) {c d : Nat} (hne : c ≠ d) : sumIf (hdIs c) gs + sumIf (hdIs d) gs ≤ mkd gs := by
  have h1 := sumIf_or (Q := hdIs c) (R := hdIs d) gs (fun g _ h => by
    unfold hdIs at h
    cases hp : g.p with
    | nil => rw [hp] at h; exact absurd h.1 (by simp)
    | cons a t =>
      (rw [hp] at h); (have a1 := of_decide_eq_true h.1); (have a2 := of_decide_eq_true h.2)
      omega)
  have h2 := sumIf_mono (Q := fun p => hdIs c p || hdIs d p) (R := fun p => !p.isEmpty) hpos fun g _ h => by
    cases hp : g.p with
    | nil => rw [hp] at h; exact absurd h (by simp [hdIs])
    | cons a t => rfl
  unfold mkd
  omega
theorem mkd_marked {gs : List Grp} (h7 : isPile 7 gs = true) : marked gs = mkd gs := by
  (unfold marked mkd); (rw [if_pos h7])
/-- Instant runoff. -/
theorem irv_win {n : Nat} {gs : List Grp} (hn : n ≤ 7) (h : isPile (n : Int) gs = true) {c : Nat} (hc : c < n) (hm : mkd gs < 2 * sumIf (hdIs c) gs) {win : Nat} (hr : Rc 2 n gs (2 ^ win)) : win = c := by
  have hv : vt n gs (sl n (2 ^ n - 1)) (c : Int) = sumIf (hdIs c) gs := by
    (rw [vt_eqM (by omega) (by omega), sl_full hn]); (exact sumIf_congr fun g hg => hd_hdIs (pile_in h hg).2)
  have ha : allV n gs (2 ^ n - 1) = mkd gs := by
    (rw [allV_eq, sl_full hn]); (have h2 : sumIf (fun p => hd (flags n (allC n)) p == none) gs = sumIf (fun p => p.isEmpty) gs := sumIf_congr fun g hg => hd_nil (pile_in h hg).2); (have h3 := mkd_tot gs)
    omega
  (have := (maj_stays hn (pos_of h) hc (by rw [hv, ha]; exact hm) _ hr).1); (rw [Nat.testBit_two_pow] at this); (exact of_decide_eq_true this)
theorem sum_mulL (k : Int) : ∀ L : List Int, (L.map (k * ·)).sum = k * L.sum
  | [] => by simp
  | a :: t => by
    rw [List.map_cons, List.sum_cons, List.sum_cons, sum_mulL k t, Int.mul_add]
theorem list_ext {L M : List Int} (hl : L.length = M.length) (h : ∀ c, c < L.length → L.getD c 0 = M.getD c 0) : L = M := by
  (refine List.ext_getElem hl fun i h1 h2 => ?_); (have := h i h1)
  rwa [List.getD_eq_getElem?_getD, List.getD_eq_getElem?_getD, List.getElem?_eq_getElem h1, List.getElem?_eq_getElem h2] at this
theorem rep_at0 (n c : Nat) : (List.replicate n (0 : Int)).getD c 0 = 0 := by
  rw [List.getD_eq_getElem?_getD, List.getElem?_replicate]; split <;> rfl
theorem distV_at {n : Nat} {gs : List Grp} (h : isPile (n : Int) gs = true) {c : Nat} (hc : c < n) : (distV n gs).getD c 0 = 10000 * sumIf (hdIs c) gs := by
  (unfold distV); (rw [foldM_at gs c _ (by rw [List.length_replicate]; exact hc) fun g hg a ha => ((pile_in h hg).2 a ha).1, rep_at0, Int.zero_add])
/-- Meek's method. -/
theorem meek_sum {n : Nat} {gs : List Grp} (h : isPile (n : Int) gs = true) : (distV n gs).sum = 10000 * mkd gs := by
  (obtain ⟨L, h1, h2, h3⟩ := votes_list h); (rw [← h3, ← sum_mulL])
  congr 1
  (refine list_ext (by rw [distV_len, List.length_map, h1]) fun c hc => ?_); (rw [distV_len] at hc); (rw [distV_at h hc, ← h2 c hc, List.getD_eq_getElem?_getD, List.getD_eq_getElem?_getD, List.getElem?_map, List.getElem?_eq_getElem (by rw [h1]; exact hc)])
  rfl
/-- Gregory's method. -/
theorem addVl_len (V : List Nat) (x : Pl) : (addVl V x).length = V.length := by unfold addVl; split <;> simp
theorem foldV_len (l : List Pl) : ∀ V : List Nat, (l.foldl addVl V).length = V.length := by
  induction l with
  | nil => intro V; rfl
  | cons x l ih => intro V; rw [List.foldl_cons, ih, addVl_len]
theorem addVl_at (V : List Nat) (g : Grp) (v : Value) (c : Nat) (hc : c < V.length) (hr : ∀ a ∈ g.p, 0 ≤ a) : (addVl V ⟨g.p, v, g.n.toNat, 0, 1, 1⟩).getD c 0 = V.getD c 0 + if hdIs c g.p = true then g.n.toNat else 0 := by
  unfold addVl hdIs
  cases hp : g.p with
  | nil => simp
  | cons a t =>
    (have ha := hr a (by rw [hp]; exact List.mem_cons_self)); (have hl : 0 < (a :: t).length := by simp); (have hd0 : (a :: t).getD 0 0 = a := rfl); (simp only [if_pos hl, hd0, Nat.one_mul, Nat.div_one])
    by_cases h : a = (c : Int)
    · (subst h); (simp only [Int.toNat_natCast, decide_true, if_true]); (rw [List.getD_eq_getElem?_getD, List.getElem?_set_self hc]; rfl)
    · (have : a.toNat ≠ c := by omega); (simp only [h, decide_false]); (rw [List.getD_eq_getElem?_getD, List.getElem?_set_ne this, ← List.getD_eq_getElem?_getD]; simp)
end Go.Gg
namespace Go.Proofs.YtaobaaaihgahfaaGreat
open Go.RowKit Go.Mk Go.Pil Go.Nt Go.Gg Go.Mg
theorem meek_reach {n : Nat} {gs : List Grp} (h : isPile (n : Int) gs = true) {c : Nat} (hc : c < n) (hm : mkd gs < 2 * sumIf (hdIs c) gs) {M : Nat} (hM : mkd gs = (M : Int)) : reachM (distV n gs) (List.replicate n 0) (5000 * (M : Int) + 1) = [(c : Int)] ∧ 5000 * (M : Int) + 1 ≤ (distV n gs).getD c 0 := by
  (refine ⟨?_, by rw [distV_at h hc]; omega⟩); (unfold reachM); (refine filter_one (allS_nodup _ _) ((mem_rep0 n).2 ⟨by omega, by omega⟩) ?_ ?_)
  · (have h5 : ¬ (distV n gs).getD c 0 < 5000 * (M : Int) + 1 := by rw [distV_at h hc]; omega); (rw [Int.toNat_natCast, decide_eq_false h5]; rfl)
  · (intro x hx hne); (have := (mem_rep0 n).1 hx); (have h2 := two_mkd (pos_of h) (c := c) (d := x.toNat) (by omega)); (have h5 : (distV n gs).getD x.toNat 0 < 5000 * (M : Int) + 1 := by rw [distV_at h (by omega)]; omega); (rw [decide_eq_true h5]; rfl)
theorem foldV_at (ps : List (Grp × Value)) (c : Nat) : ∀ V : List Nat, c < V.length → (∀ g ∈ grps ps, 1 ≤ g.n ∧ ∀ a ∈ g.p, 0 ≤ a) → (((pls0 ps).foldl addVl V).getD c 0 : Int) = V.getD c 0 + sumIf (hdIs c) (grps ps) := by
  induction ps with
  | nil => intro V _ _; simp [pls0, grps, sumIf]
  | cons x l ih =>
    (intro V hc hr); (have e1 : pls0 (x :: l) = ⟨x.1.p, x.2, x.1.n.toNat, 0, 1, 1⟩ :: pls0 l := rfl); (have e2 : grps (x :: l) = x.1 :: grps l := rfl); (rw [e2] at hr ⊢); (rw [e1, List.foldl_cons, ih _ (by rw [addVl_len]; exact hc) (fun g hg => hr g (List.mem_cons_of_mem _ hg)), Go.Pil.sumIf_cons]); (have h1 := hr x.1 List.mem_cons_self); (rw [addVl_at V x.1 x.2 c hc h1.2])
    split <;> omega
theorem votesL_at {n : Nat} {ps : List (Grp × Value)} (hr : ∀ g ∈ grps ps, 1 ≤ g.n ∧ ∀ a ∈ g.p, 0 ≤ a) {c : Nat} (hc : c < n) : ((votesL n (pls0 ps)).getD c 0 : Int) = sumIf (hdIs c) (grps ps) := by
  (unfold votesL); (rw [foldV_at ps c _ (by rw [List.length_replicate]; exact hc) hr]); (have : (List.replicate n (0 : Nat)).getD c 0 = 0 := by rw [List.getD_eq_getElem?_getD, List.getElem?_replicate]; split <;> rfl); (rw [this]; simp)
theorem votesL_len (n : Nat) (pls : List Pl) : (votesL n pls).length = n := by unfold votesL; rw [foldV_len, List.length_replicate]
theorem sum_cast : ∀ V : List Nat, ((V.sum : Nat) : Int) = (V.map (fun x : Nat => (x : Int))).sum
  | [] => rfl
  | a :: t => by rw [List.sum_cons, List.map_cons, List.sum_cons, ← sum_cast t]; omega
theorem votesL_sum {n : Nat} {ps : List (Grp × Value)} (h : isPile (n : Int) (grps ps) = true) : ((votesL n (pls0 ps)).sum : Int) = mkd (grps ps) := by
  (obtain ⟨L, h1, h2, h3⟩ := votes_list h); (rw [← h3, sum_cast])
  congr 1
  (refine list_ext (by rw [List.length_map, votesL_len, h1]) fun c hc => ?_); (rw [List.length_map, votesL_len] at hc); (rw [h2 c hc, ← votesL_at (fun g hg => ⟨(pile_in h hg).1, fun a ha => ((pile_in h hg).2 a ha).1⟩) hc, List.getD_eq_getElem?_getD, List.getD_eq_getElem?_getD, List.getElem?_map, List.getElem?_eq_getElem (by rw [votesL_len]; exact hc)])
  rfl
theorem tot_take (gs : List Grp) (h : ∀ g ∈ gs, 1 ≤ g.n) (k : Nat) : tot (gs.take k) ≤ tot gs := by
  (have h1 := tot_append (gs.take k) (gs.drop k)); (rw [List.take_append_drop] at h1); (have h2 := (sumIf_le (Q := fun _ => true) (l := gs.drop k) fun g hg => h g (List.drop_subset _ _ hg)).1); (rw [sumIf_all] at h2)
  omega
theorem mem_le_tot {gs : List Grp} (hpos : ∀ g ∈ gs, 1 ≤ g.n) {g : Grp} (hg : g ∈ gs) : g.n ≤ tot gs := by
  induction gs with
  | nil => cases hg
  | cons a t ih =>
    (have h1 := (sumIf_le (Q := fun _ => true) (l := t) fun g hg => hpos g (List.mem_cons_of_mem _ hg)).1); (rw [sumIf_all] at h1); (have h2 := hpos a List.mem_cons_self); (rw [tot_cons])
    rcases List.mem_cons.1 hg with rfl | hg
    · omega
    · have := ih (fun g hg => hpos g (List.mem_cons_of_mem _ hg)) hg
      omega
theorem gcount_runs {n c M T : Nat} {ps : List (Grp × Value)} (hn7 : n ≤ 7) (h : isPile (n : Int) (grps ps) = true) (hc : c < n) (hm : mkd (grps ps) < 2 * sumIf (hdIs c) (grps ps)) (hM : mkd (grps ps) = (M : Int)) (hT : tot (grps ps) = (T : Int)) (hT1 : T ≤ 1000) (X : GC) (xn : X.n = n) (xs : X.seats = 1) (xt : X.total = T) (xq : X.quo = M / 2 + 1) :
    Runs X ⟨List.replicate X.n 0, pls0 ps, List.replicate X.n (1, 1), 0⟩ [(List.replicate X.n (1, 1), X.total - M)] [(c : Int)] := by
  (have hpos := pos_of h); (have hr : ∀ g ∈ grps ps, 1 ≤ g.n ∧ ∀ a ∈ g.p, 0 ≤ a := fun g hg => ⟨(pile_in h hg).1, fun a ha => ((pile_in h hg).2 a ha).1⟩)
  have hV : PSt.V X ⟨List.replicate X.n 0, pls0 ps, List.replicate X.n (1, 1), 0⟩ = votesL n (pls0 ps) := by
    (unfold PSt.V votesS); (simp only [xn, allS_rep2, List.foldl_nil])
  have hle : ∀ i, i < n → (votesL n (pls0 ps)).getD i 0 ≤ T := fun i hi => by
    (have h1 := votesL_at hr hi); (have h2 := (sumIf_le (Q := hdIs i) hpos).2)
    omega
  have hmt : M ≤ T := by
    (have h2 := (sumIf_le (Q := fun p => !p.isEmpty) hpos).2); (unfold mkd at hM)
    omega
  have hsum : (votesL n (pls0 ps)).sum = M := by
    have := votesL_sum h
    omega
  have ok : RdOk X ⟨List.replicate X.n 0, pls0 ps, List.replicate X.n (1, 1), 0⟩ := ⟨fun x hx => by
      (unfold pls0 at hx); (obtain ⟨y, hy, rfl⟩ := List.mem_map.1 hx); (have hg := pile_in h (List.mem_map_of_mem (f := Prod.fst) hy))
      have hb : y.1.n ≤ T := by
        (have h1 := (sumIf_le (Q := fun _ => true) hpos).2); (have h3 := mem_le_tot hpos (List.mem_map_of_mem (f := Prod.fst) hy))
        omega
      have hln : y.1.p.length ≤ 1000 := by
        (obtain ⟨b1, _, _⟩ := (isPile_iff _ _).1 h); (have b2 := (b1 _ (List.mem_map_of_mem (f := Prod.fst) hy)).1); (have := ballot_len b2 (by omega))
        omega
      exact ⟨by show y.1.n.toNat ≤ 100000; omega, by show (0 : Nat) ≤ 1000; omega, hln, fun z hz => by rw [xn]; exact hg.2 z hz, fun _ => by exact Nat.one_dvd _, by show (1 : Nat) ≠ 0; decide, by show (1 : Nat) < 10000; decide, by show (1 : Nat) < 10000; decide⟩,
    fun k v hv => by
      (have e : (pls0 ps).take k = pls0 (ps.take k) := by unfold pls0; rw [List.map_take]); (have hg : grps (ps.take k) = (grps ps).take k := by unfold grps; rw [List.map_take]); (have hr2 : ∀ g ∈ grps (ps.take k), 1 ≤ g.n ∧ ∀ a ∈ g.p, 0 ≤ a := fun g h2 => by rw [hg] at h2; exact hr g (List.take_subset _ _ h2)); (have hv2 : v ∈ votesL n (pls0 (ps.take k)) := by rw [← e, ← xn]; exact hv); (obtain ⟨i, hi, rfl⟩ := List.mem_iff_getElem.1 hv2); (rw [votesL_len] at hi); (have h1 := votesL_at hr2 hi); (rw [List.getD_eq_getElem?_getD, List.getElem?_eq_getElem (by rw [votesL_len]; exact hi)] at h1); (have h1 : (((votesL n (pls0 (ps.take k)))[i]'(by rw [votesL_len]; exact hi) : Nat) : Int) = sumIf (hdIs i) (grps (ps.take k)) := h1); (have h2 := (sumIf_le (Q := hdIs i) (l := grps (ps.take k)) fun g hg => (hr2 g hg).1).2); (have h3 := tot_take (grps ps) hpos k); (rw [← hg] at h3)
      omega,
    fun i => by
      rw [hV]
      by_cases hi : i < n
      · have := hle i hi; omega
      · rw [List.getD_eq_getElem?_getD, List.getElem?_eq_none (by rw [votesL_len]; omega)]; decide,
    by rw [hV, hsum, xt]; exact hmt, by show (0 : Nat) ≤ 1000; omega⟩
  have hF := votesL_at hr hc
  have hdone : RCase X (votesL n (pls0 ps)) (List.replicate X.n 0) (pls0 ps) (List.replicate X.n (1, 1)) 0 ((List.replicate X.n 0).set c 1) (pls0 ps) (List.replicate X.n (1, 1)) (0 + 1) [(c : Int)] true := by
    (refine RCase.done c (allS_rep _ (by omega)) ?_ (allS_set1 _ _ (by omega)) (by omega) (by omega) (by rw [xq]; omega)); (unfold reachL); (rw [xn, xq]); (refine filter_one (allS_nodup _ _) ((mem_rep0 n).2 ⟨by omega, by omega⟩) ?_ ?_)
    · (have h5 : ¬ (votesL n (pls0 ps)).getD c 0 < M / 2 + 1 := by omega); (rw [Int.toNat_natCast, decide_eq_false h5]; rfl)
    · (intro x hx hne); (have h3 := (mem_rep0 n).1 hx); (have h2 := two_mkd hpos (c := c) (d := x.toNat) (by omega)); (have h4 := votesL_at (n := n) hr (c := x.toNat) (by omega)); (have h5 : (votesL n (pls0 ps)).getD x.toNat 0 < M / 2 + 1 := by omega); (rw [decide_eq_true h5]; rfl)
  (have hL := Runs.last (X := X) ⟨List.replicate X.n 0, pls0 ps, List.replicate X.n (1, 1), 0⟩ ⟨(List.replicate X.n 0).set c 1, pls0 ps, List.replicate X.n (1, 1), 0 + 1⟩ [(c : Int)] ok (by rw [hV]; exact hdone)); (rw [hV, hsum] at hL); (exact hL)
end Go.Proofs.YtaobaaaihgahfaaGreat

/- TopMethods: what its three counts need to be called (plain). -/
namespace Go.Gg
open Go.Pil Go.Mg
def fvOf (t : Int) : Int := 1 + (t.tmod 5 + 5).tmod 5
theorem fv_ok (t : Int) : IntKind.i64.wrap (t.tmod 5) = t.tmod 5 ∧ IntKind.i64.wrap (t.tmod 5 + 5) = t.tmod 5 + 5 ∧ IntKind.i64.wrap ((t.tmod 5 + 5).tmod 5) = (t.tmod 5 + 5).tmod 5 ∧ IntKind.i64.wrap (1 + (t.tmod 5 + 5).tmod 5) = fvOf t ∧ 1 ≤ fvOf t ∧ fvOf t ≤ 5 := by
  (have h1 := Int.tmod_lt_of_pos t (show (0 : Int) < 5 by omega)); (have h2 : -(5 : Int) < t.tmod 5 := Int.lt_tmod_of_pos t (by omega)); (have h3 : 0 ≤ (t.tmod 5 + 5).tmod 5 := Int.tmod_nonneg _ (by omega)); (have h4 := Int.tmod_lt_of_pos (t.tmod 5 + 5) (show (0 : Int) < 5 by omega)); (unfold fvOf); (exact ⟨IntWalk.i64_in _ (by omega), IntWalk.i64_in _ (by omega), IntWalk.i64_in _ (by omega), IntWalk.i64_in _ (by omega), by omega, by omega⟩)
/-- The three contests fit. -/
theorem fit_one {n : Nat} {gs : List Grp} {l : List Int} (h1 : 1 ≤ n) (h7 : n ≤ 7) (h : isPile (n : Int) gs = true) (hp : permB n l = true) : fitP 2 n 2 1 4 3 gs l = 0 ∧ fitP 3 n 3 1 0 3 gs l = 0 := by
  constructor <;> · unfold fitP
                    rw [if_neg (by omega), if_neg (by simp; omega), if_pos h, if_pos hp]
theorem distR_at (gs : List Grp) : ∀ r : Int, gs.foldl restM r = r + 10000 * sumIf (fun p => p.isEmpty) gs := by
  induction gs with
  | nil => intro r; simp [sumIf]
  | cons g l ih =>
    (intro r); (rw [List.foldl_cons, ih, sumIf_cons]); (unfold restM)
    cases g.p with
    | nil => simp only [List.isEmpty_nil, if_true]; omega
    | cons a t => simp
/-- What Make made out of at most twelve ballots. -/
structure Made (n : Nat) (ls : List (List Int)) (gs : List Grp) : Prop where
  pile : isPile (n : Int) gs = true
  tot : Go.Pil.tot gs = (ls.length : Int)
  ones : gs = pileOf (ones ls)
  bal : ∀ b ∈ ls, ballot (n : Int) b = true
  n1 : 1 ≤ n
  n7 : n ≤ 7
theorem made_of {n : Nat} {ls : List (List Int)} (h : (mk (n : Int) ls).2 = 0) : Made n ls (mk (n : Int) ls).1 := by
  unfold mk at h ⊢
  by_cases h1 : (n : Int) < 1 ∨ 7 < (n : Int)
  · rw [if_pos h1] at h; cases h
  · by_cases h2 : 100000 < ls.length
    · rw [if_neg h1, if_pos h2] at h; cases h
    · cases h3 : allB (n : Int) ls with
      | false => rw [if_neg h1, if_neg h2, h3] at h; cases h
      | true =>
        (rw [if_neg h1, if_neg h2, if_pos rfl]); (have hb : ∀ b ∈ ls, ballot (n : Int) b = true := by unfold allB at h3; exact List.all_eq_true.1 h3); (refine ⟨pile_of_ballots hb (by omega), ?_, rfl, hb, by omega, by omega⟩)
        show Go.Pil.tot (pileOf _) = _
        rw [pileOf_tot (ones_pos _), ones_tot]
theorem ball_in {n : Int} {b : List Int} (h : ballot n b = true) : ∀ a ∈ b, 0 ≤ a ∧ a < n := by
  (unfold ballot at h); (exact (of_decide_eq_true h).2)
theorem Made.first {n : Nat} {ls : List (List Int)} {gs : List Grp} (h : Made n ls gs) {c : Nat} (hc : c < n) : (ls.foldl addF (List.replicate n 0)).getD c 0 = sumIf (hdIs c) gs := by
  rw [foldF_at ls c _ (by rw [List.length_replicate]; exact hc) fun b hb a ha => (ball_in (h.bal b hb) a ha).1, rep_at0, h.ones, sumIf_pileOf, Int.zero_add]
theorem Made.le {n : Nat} {ls : List (List Int)} {gs : List Grp} (h : Made n ls gs) (Q : List Int → Bool) : 0 ≤ sumIf Q gs ∧ sumIf Q gs ≤ (ls.length : Int) := by
  (rw [← h.tot]); (exact sumIf_le (pos_of h.pile))
theorem Made.marked {n : Nat} {ls : List (List Int)} {gs : List Grp} (h : Made n ls gs) : Go.Pil.marked gs = mkd gs := mkd_marked (isPile_mono (by have := h.n7; omega) h.pile)
theorem Made.total {n : Nat} {ls : List (List Int)} {gs : List Grp} (h : Made n ls gs) : Go.Pil.total gs = (ls.length : Int) := by
  (unfold Go.Pil.total); (rw [if_pos (isPile_mono (by have := h.n7; omega) h.pile), h.tot])
theorem Made.distR {n : Nat} {ls : List (List Int)} {gs : List Grp} (h : Made n ls gs) (hl : ls.length ≤ 12) : 0 ≤ Go.Gg.distR gs ∧ Go.Gg.distR gs ≤ 1000000000 := by
  (unfold Go.Gg.distR); (rw [distR_at]); (have := h.le fun p => p.isEmpty)
  omega
theorem Made.distV {n : Nat} {ls : List (List Int)} {gs : List Grp} (h : Made n ls gs) (hl : ls.length ≤ 12) (i : Nat) : 0 ≤ (Go.Gg.distV n gs).getD i 0 ∧ (Go.Gg.distV n gs).getD i 0 ≤ 1000000000 := by
  by_cases hi : i < n
  · (rw [distV_at h.pile hi]); (have := h.le (hdIs i))
    omega
  · rw [List.getD_eq_getElem?_getD, List.getElem?_eq_none (by rw [distV_len]; omega)]
    decide
theorem len_le_tot {gs : List Grp} (h : ∀ g ∈ gs, 1 ≤ g.n) : (gs.length : Int) ≤ tot gs := by
  induction gs with
  | nil => simp [tot]
  | cons a t ih =>
    (rw [tot_cons, List.length_cons]); (have := ih fun g hg => h g (List.mem_cons_of_mem _ hg)); (have := h a List.mem_cons_self)
    omega
theorem Made.length {n : Nat} {ls : List (List Int)} {gs : List Grp} (h : Made n ls gs) : gs.length ≤ ls.length := by
  (have := len_le_tot (pos_of h.pile)); (have := h.tot)
  omega
theorem ne_of_sum {gs : List Grp} {Q : List Int → Bool} (h : 0 < sumIf Q gs) : 1 ≤ gs.length := by
  cases gs with
  | nil => simp [sumIf] at h
  | cons a t => simp
/-- The sum of first preferences after some of the ballots. -/
theorem foldl_takeL {β : Type} (f : β → List Int → β) (b : β) (l : List (List Int)) (k : Nat) (h : k < l.length) : (l.take (k + 1)).foldl f b = f ((l.take k).foldl f b) l[k] := by
  rw [List.take_succ_eq_append_getElem h, List.foldl_append]; rfl
theorem addF_le {V : List Int} {k : Nat} (h : ∀ i, 0 ≤ V.getD i 0 ∧ V.getD i 0 ≤ (k : Int)) (b : List Int) (i : Nat) : 0 ≤ (addF V b).getD i 0 ∧ (addF V b).getD i 0 ≤ ((k + 1 : Nat) : Int) := by
  unfold addF
  cases b with
  | nil => have := h i; dsimp only; omega
  | cons c t =>
    (have h1 := h i); (have h2 := h c.toNat)
    dsimp only
    by_cases hc : c.toNat = i
    · rw [hc] at h2 ⊢
      by_cases hl : i < V.length
      · rw [List.getD_eq_getElem?_getD, List.getElem?_set_self hl]
        show 0 ≤ V.getD i 0 + 1 ∧ V.getD i 0 + 1 ≤ _
        omega
      · rw [List.getD_eq_getElem?_getD, List.getElem?_eq_none (by rw [List.length_set]; omega)]
        show (0 : Int) ≤ 0 ∧ (0 : Int) ≤ _
        omega
    · rw [List.getD_eq_getElem?_getD, List.getElem?_set_ne hc, ← List.getD_eq_getElem?_getD]
      omega
theorem foldF_le (n : Nat) (l : List (List Int)) : ∀ k, k ≤ l.length → ∀ i, 0 ≤ ((l.take k).foldl addF (List.replicate n 0)).getD i 0 ∧ ((l.take k).foldl addF (List.replicate n 0)).getD i 0 ≤ (k : Int) := by
  intro k
  induction k with
  | zero => intro _ i; rw [List.take_zero, List.foldl_nil, rep_at0]; omega
  | succ k ih =>
    (intro hk i); (rw [foldl_takeL _ _ _ _ (by omega)]); (exact addF_le (fun i => ih (by omega) i) _ i)
end Go.Gg

/- The three counts with a majority of first preferences. -/
namespace Go.Proofs.YtaobaaaihgahfaaGreat
open Go.RowKit Go.Mk Go.Pil Go.Nt Go.Gg Go.Mg
/-- A count that elects the one candidate. -/
def OneR (cm d : Int) (n c : Nat) (w : World) (e : Ending) (w' : World) : Prop := ∃ (ta : Option Addr) (tl tc : Nat) (aw : Option Addr) (cw : Nat), e = .returned (.tuple #[.agg #[.int .i64 cm, .int .i64 1, .int .i64 d, .int .i64 (n : Int), .slice ta tl tc, .slice aw 1 cw], .int .i64 0]) ∧ RdZ w' (.slice aw 1 cw) [(c : Int)] ∧ (cm ≠ 3 → w'.ownsRow 0 3 1 (.slice aw 1 cw) 1 [.int .i64 (c : Int)]) ∧ Kept no w w'
theorem perm_iff {n : Nat} {l : List Int} (h : permB n l = true) : l.length = n ∧ ballot (n : Int) l = true := by
  (unfold permB at h); (rw [Bool.and_eq_true] at h); (exact ⟨of_decide_eq_true h.1, h.2⟩)
theorem IsSl.of_one {w : World} {v : Value} {c : Int} (h : RdZ w v [c]) : ∃ aw cw, v = .slice aw 1 cw := by
  (obtain ⟨a, cw, e, _, _⟩ := Rd.shape2 h); (exact ⟨a, cw, e⟩)
theorem irv1_any {n c : Nat} {ls : List (List Int)} {ps : List (Grp × Value)} {lz : List Int} (made : Made n ls (grps ps)) (perm : permB n lz = true) (hc : c < n) (hm : mkd (grps ps) < 2 * sumIf (hdIs c) (grps ps)) (ac : Option Addr) (vg vl : Value) (w : World) (rg : RdG w vg ps) (rl : RdZ w vl lz) :
    Calls Tryz.prog 8 #[.agg #[.string ⟨#[]⟩, .slice ac n n, .int .i64 1, .int .i64 1, .int .i64 0, .int .i64 0, .int .i64 3, .int .i64 0, .int .i64 0], vg, vl] w (OneR 1 0 n c w) := by
  (obtain ⟨p1, p2⟩ := perm_iff perm); (have H := count_any (⟨⟨#[]⟩, ac, n, n, 1, 1, 0, 0, 3, 0, 0, vg, vl⟩ : Ctx) rfl rfl rfl (by show (1 : Int) ≤ 3; decide) (by show (3 : Int) ≤ 3; decide) ps lz w rg rl p1 p2 made.n1 made.n7 made.pile); (refine H.mono ?_); (rintro e w' ⟨win, vr, vw, rfl, ⟨a, l, k, rfl⟩, _, _, hr, rd, k1⟩); (have hw : win = c := irv_win made.n7 made.pile hc hm hr); (subst hw); (obtain ⟨aw, cw, rfl⟩ := IsSl.of_one (own_RdZ (zs := [(win : Int)]) rd)); (exact ⟨a, l, k, aw, cw, rfl, own_RdZ (zs := [(win : Int)]) rd, fun _ => rd, k1⟩)
theorem meek1_any {n c : Nat} {ls : List (List Int)} {ps : List (Grp × Value)} {lz : List Int} (made : Made n ls (grps ps)) (hl : ls.length ≤ 12) (perm : permB n lz = true) (hc : c < n) (hm : mkd (grps ps) < 2 * sumIf (hdIs c) (grps ps)) (ac : Option Addr) (vg vl : Value) (w : World) (rg : RdG w vg ps) (rl : RdZ w vl lz) :
    Calls Tryz.prog 18 #[.agg #[.string ⟨#[]⟩, .slice ac n n, .int .i64 2, .int .i64 1, .int .i64 0, .int .i64 4, .int .i64 3, .int .i64 0, .int .i64 0], vg, vl] w (OneR 2 4 n c w) := by
  (have hmb := made.le (fun p => !p.isEmpty)); (obtain ⟨M, hM⟩ : ∃ M : Nat, mkd (grps ps) = (M : Int) := ⟨(mkd (grps ps)).toNat, by unfold mkd; omega⟩); (have hM12 : M ≤ 12 := by unfold mkd at hM; omega); (obtain ⟨r1, r2⟩ := meek_reach made.pile hc hm hM)
  have hlen : ps.length ≤ 12 := by
    (have := made.length); (unfold grps at this); (rw [List.length_map] at this)
    omega
  (have H := mcount_any (⟨⟨#[]⟩, ac, n, 2, 0, 3, 0, 0, vg, vl, n⟩ : MC) c M ps lz w rfl made.n1 made.n7 (fit_one made.n1 made.n7 made.pile perm).1 rg rl made.pile (by omega) (by rw [← hM]; exact meek_sum made.pile) (by omega) hc r1 r2 (made.distV hl) (made.distR hl)); (refine H.mono ?_); (rintro e w' ⟨a, l, k, tw, rfl, rd, k1⟩); (obtain ⟨aw, cw, rfl⟩ := IsSl.of_one (own_RdZ (zs := [(c : Int)]) rd)); (exact ⟨a, l, k, aw, cw, rfl, own_RdZ (zs := [(c : Int)]) rd, fun _ => rd, k1⟩)
theorem greg1_any {n c : Nat} {ls : List (List Int)} {ps : List (Grp × Value)} {lz : List Int} (made : Made n ls (grps ps)) (hl : ls.length ≤ 12) (perm : permB n lz = true) (hc : c < n) (hm : mkd (grps ps) < 2 * sumIf (hdIs c) (grps ps)) (ac : Option Addr) (vg vl : Value) (w : World) (rg : RdG w vg ps) (rl : RdZ w vl lz) :
    Calls Tryz.prog 19 #[.agg #[.string ⟨#[]⟩, .slice ac n n, .int .i64 3, .int .i64 1, .int .i64 0, .int .i64 0, .int .i64 3, .int .i64 0, .int .i64 0], vg, vl] w (OneR 3 0 n c w) := by
  (have hmb := made.le (fun p => !p.isEmpty)); (obtain ⟨M, hM⟩ : ∃ M : Nat, mkd (grps ps) = (M : Int) := ⟨(mkd (grps ps)).toNat, by unfold mkd; omega⟩); (have hM12 : M ≤ 12 := by unfold mkd at hM; omega); (have hlen : (grps ps).length = ps.length := by unfold grps; rw [List.length_map]); (have hl1 := made.length); (have hl2 : 1 ≤ (grps ps).length := ne_of_sum (Q := hdIs c) (by omega))
  have H := gcount_any (⟨⟨#[]⟩, ac, n, 3, 0, 0, 3, 0, 0, vl, n, 0, 0, 0, 1, ls.length, M / 2 + 1⟩ : GC) vg M ps lz w rfl made.n1 made.n7 (by show (1 : Nat) ≤ 1; decide) (by show (1 : Nat) ≤ 5; decide) (fit_one made.n1 made.n7 made.pile perm).2 rg rl made.total (by show ls.length ≤ 1000000; omega) (by rw [made.marked]; exact hM) (by omega) rfl (fun x hx => by
    have := (pile_in made.pile (List.mem_map_of_mem (f := Prod.fst) hx)).1
    omega) (by omega) (by omega) [(List.replicate n (1, 1), ls.length - M)] [(c : Int)] (by simp) (by simp) (fun m cap kc => gcount_runs made.n7 made.pile hc hm hM made.tot (by omega) _ rfl rfl rfl rfl)
  (refine H.mono ?_); (rintro e w' ⟨tr, tw, rs, ge, rfl, _, _, o, rd, k1⟩); (obtain ⟨aw, cw, rfl⟩ := IsSl.of_one rd); (obtain ⟨a, k, rfl, _, _⟩ := Rd.shape2 (Rd.of_own o.own)); (exact ⟨a, _, k, aw, cw, rfl, rd, fun h => absurd rfl h, k1⟩)
end Go.Proofs.YtaobaaaihgahfaaGreat
