/- What electionlaw28.Awake calls (printed by gen_awk28.py). -/
import Derived.Test.YtaobaaaihgahfaaGreatGcntV
import Derived.Test.YtaobaaaihgahfaaGreatContV
import Derived.Test.YtaobaaaihgahfaaGreatGenV
namespace Go.Proofs.YtaobaaaihgahfaaGreat
open Go.RowKit Go.Mk Go.Pil Go.Nt Go.Gg
set_option maxHeartbeats 1000000 in
theorem gcd_any (a b : Nat) (w : World) (ha : a ≤ 1000000) (hb : b ≤ 1000000) : Calls Tryz.prog 152 #[.int .i64 (a : Int), .int .i64 (b : Int)] w fun e w' => e = .returned (.int .i64 (Nat.gcd a b : Nat)) ∧ Kept no w w' := by
  go_enter Tryz.func152, Tryz.ntmps152
  go_wp2
  go_loopw [0, 1] (fun x y wr => ∃ (c d : Nat), x = .int .i64 (c : Int) ∧ y = .int .i64 (d : Int) ∧ c ≤ 1000000 ∧ d ≤ 1000000 ∧ Hd (Nat.gcd c d = Nat.gcd a b) ∧ Hd (Kept no w wr)) (fun _ y _ => (intOf y).toNat)
  case atStart => exact ⟨a, b, rfl, rfl, ha, hb, ⟨rfl⟩, ⟨Kept.refl _ _⟩⟩
  case round =>
    obtain ⟨c, d, rfl, rfl, hc, hd, hg, hK⟩ := hrel
    by_cases h0 : 0 < d
    · (have h1 : (0 : Int) < (d : Int) := by omega); (have h2 : ¬ ((d : Int) = 0) := by omega); (have hm := Nat.mod_lt c h0); (have hg2 : Hd (Nat.gcd d (c % d) = Nat.gcd a b) := ⟨by rw [← hg.out, Nat.gcd_comm c d, Nat.gcd_rec d c, Nat.gcd_comm]⟩); (have ht : (c : Int).tmod (d : Int) = ((c % d : Nat) : Int) := by rw [Int.tmod_eq_emod_of_nonneg (by omega)]; rfl); (obtain ⟨r, hr⟩ : ∃ r, c % d = r := ⟨_, rfl⟩); (rw [hr] at hm hg2 ht); (have hmd : r < d := hm); (clear hr hg); (go_wp2_with fail); (go_quiet (fail)); (have hK2 := hid (hK.out.trans' ((Kept.refl no wr).drewN nq))); (go_wp2); (go_roundw)
      case rel => first | exact ⟨d, r, rfl, rfl, hd, by omega, hg2, hK2⟩ | ((repeat apply Exists.intro); exact ⟨⟨d, r, rfl, rfl, hd, by omega, hg2, hK2⟩, rfl⟩)
      case measure => simp [intOf]; omega
    · (obtain rfl : d = 0 := by omega); (have h1 : ¬ (0 : Int) < ((0 : Nat) : Int) := by omega); (have hg2 : Hd (c = Nat.gcd a b) := ⟨by rw [← hg.out, Nat.gcd_zero_right]⟩); (clear hg); (go_wp2); (go_ret); (exact ⟨by rw [← hg2.out]; rfl, hK.out⟩)
set_option maxRecDepth 20000 in
set_option maxHeartbeats 1000000 in
theorem limbs_any (n : Nat) (w : World) (h0 : n ≠ 0) (h : n < 4294967296) : Calls Tryz.prog 153 #[.int .i64 (n : Int)] w fun e w' => ∃ v, e = .returned v ∧ OwU w w' v (nl n) := by
  (have hnl : Hd (nl n = [n]) := ⟨by unfold nl; rw [if_neg h0]⟩); (have hn0 : (0 : Int) < (n : Int) := by omega); (have hw32 : IntKind.u32.wrap (n : Int) = (n : Int) := by unfold IntKind.wrap; simp [IntKind.signed, IntKind.bits]; omega); (have hw64 : IntKind.u64.wrap (n : Int) = (n : Int) := by unfold IntKind.wrap; simp [IntKind.signed, IntKind.bits]; omega); (replace h := hid h)
  go_enter Tryz.func153, Tryz.ntmps153
  go_wp2
  go_loopw [3, 4] (fun out x wr => (out = .slice none 0 0 ∧ x = .int .u64 (n : Int) ∧ wr = w) ∨ (x = .int .u64 0 ∧ Hd (OwU w wr out [n]))) (fun _ x _ => (intOf x).toNat)
  case atStart => exact .inl ⟨rfl, rfl, rfl⟩
  case round =>
    rcases hrel with ⟨rfl, rfl, rfl⟩ | ⟨rfl, hO⟩
    · (have hnil : Hd (wr.ownsRow 0 202 1 (.slice none 0 0) 0 []) := ⟨World.ownsRow_nil _ _ _ _⟩); (go_wp2_with (at_builtin; refine wpList_append_lit _ rfl _ _ 74 rfl 202 1 4 TNat _ _ _ rfl hnil.out 1 [.int .u32 (n : Int)] rfl rfl (by simp [Value.oneCell']) (by decide) (by decide) ?_)); (intro v' w3 h2 h3 h4 _); (have hO : Hd (OwU wr w3 v' [n]) := ⟨⟨h2, h3.mono (fun k _ (e : ob (.slice none 0 0) k) => by cases e), h4.elim (fun h => .inl h) fun h => .inr h⟩⟩); (clear h2 h3 h4 hnil); (go_wp2); (have hdv : (n : Int) / 4294967296 = 0 := by have := h.out; omega); (first | (rw [hdv]; exact ⟨.inr ⟨rfl, hO⟩, by simp [intOf]; omega⟩) | exact ⟨.inr ⟨rfl, hO⟩, by simp [intOf]; omega⟩)
    · (go_wp2); (go_ret); (exact ⟨_, rfl, by rw [hnl.out]; exact hO.out⟩)
/-- Ratios of small integers, in normal form. -/
def FrR (w w' : World) (e : Ending) (p q : Nat) : Prop := ∃ y : RQ, e = .returned (.agg #[.bool false, y.a, y.b]) ∧ y.p = p ∧ y.q = q ∧ Limbs w' y.a y.p ∧ Limbs w' y.b y.q ∧ Kept no w w'
def PSr {Sl : Nat → Nat → Prop} (G p q : Nat) : Pr Sl := soft (fun _ w => ∃ y : RQ, y.p = p ∧ y.q = q ∧ w.heap[G]? = some (.cells (cQ y).toArray 76 (0, 0)) ∧ Limbs w y.a y.p ∧ Limbs w y.b y.q) fun _ _ _ ⟨y, h1, h2, h3, h4, h5⟩ k => ⟨y, h1, h2, k.blk h3, k.ownsRow h4 fun _ _ => id, k.ownsRow h5 fun _ _ => id⟩
set_option maxRecDepth 20000 in
set_option maxHeartbeats 2000000 in
theorem frac_any (a b p q g : Nat) (w : World) (hg : Nat.gcd a b = g) (hp : a / g = p) (hq : b / g = q) (ha : a ≤ 1000000) (hb : b ≤ 1000000) (hg0 : g ≠ 0) (hp0 : p ≠ 0) (hq0 : q ≠ 0) :
    Calls Tryz.prog 101 #[.int .i64 (a : Int), .int .i64 (b : Int)] w fun e w' => FrR w w' e p q := by
  (obtain ⟨w1, hw1, g1, k1⟩ := alloc_named w (.cells #[.bool false, .slice none 0 0, .slice none 0 0] 76)); (obtain ⟨G, hG⟩ : ∃ x, w.heap.size = x := ⟨_, rfl⟩); (have hpl : p < 4294967296 := by have := Nat.div_le_self a g; omega); (have hql : q < 4294967296 := by have := Nat.div_le_self b g; omega); (have HG := hid (gcd_any a b w1 ha hb)); (rw [hg] at HG); (have t1 : (a : Int).tdiv (g : Int) = (p : Int) := by rw [Int.tdiv_eq_ediv_of_nonneg (by omega), ← hp]; rfl); (have t2 : (b : Int).tdiv (g : Int) = (q : Int) := by rw [Int.tdiv_eq_ediv_of_nonneg (by omega), ← hq]; rfl); (have hg1 : ¬ ((g : Int) = 0) := by omega); (have hg2 : ¬ g = 0 := hg0); (have hpi : (p : Int) ≤ 1000000 := by have := Nat.div_le_self a g; omega); (have hqi : (q : Int) ≤ 1000000 := by have := Nat.div_le_self b g; omega); (have HLp := hid (fun (W : World) => limbs_any p W hp0 hpl)); (have HLq := hid (fun (W : World) => limbs_any q W hq0 hql)); (have hGs : Hd (w.heap.size ≤ G) := ⟨Nat.le_of_eq hG⟩); (rw [hG] at g1); (have g1' := hid g1); (have k1' := hid k1); (replace hw1 := hid hw1); (replace hG := hid hG); (have w1p : IntKind.i64.wrap (p : Int) = (p : Int) := IntWalk.i64_in _ (by omega)); (have w1q : IntKind.i64.wrap (q : Int) = (q : Int) := IntWalk.i64_in _ (by omega)); (clear hg hp hq ha hb hg0 hp0 hq0 hpl hql g1 k1)
  go_enter Tryz.func101, Tryz.ntmps101
  (go_wp2_with fail); (rw [← hw1.out]); (try rw [hG.out]); (with_reducible refine HG.out.mono ?_); (rintro e w2 ⟨rfl, k2⟩); (have gR2 := hid (k2.blk g1'.out)); (have k02 := hid (k1'.out.trans' k2)); (clear HG k2 g1' k1' hw1); (go_upto_region 2 with fail); (refine region_flow (S := (fun j => j = G)) (Sl := (fun _ => (fun j => j = G))) [Is (.int .i64 (a : Int)), Is (.int .i64 (g : Int)), Is (.int .i64 (p : Int)), PUl w2.drew p, Is (.int .i64 (b : Int)), Is (.int .i64 (g : Int)), Is (.int .i64 (q : Int)), PUl w2.drew q, PRQ p q, PSr G p q] [9] (fun _ _ h => h) _ (by kernel_rfl) (by kernel_rfl) (by kernel_rfl) (by kernel_rfl) (fun x => by simp only [puts, Act.put, List.map_cons, List.map_nil, Nat.zero_add, Nat.reduceAdd, List.setIfInBounds_toArray, List.set_cons_zero, List.set_cons_succ]; exact rfl) ?_ ?_)
  · (skip); (refine .cons (fun x wf Kk hq hdep hold => ?_) ?_)
    · (try dsimp only); (clear hq hdep hold); (refine opv rfl ?_); (first | rfl | go_simp)
    refine .cons (fun x wf Kk hq hdep hold => ?_) ?_
    · (try dsimp only); (clear hq hdep hold); (refine opv rfl ?_); (first | rfl | go_simp)
    refine .cons (fun x wf Kk hq hdep hold => ?_) ?_
    · (try dsimp only); (have h0 : x 0 = _ := hdep 0 (by kernel_rfl)); (have h1 : x 1 = _ := hdep 1 (by kernel_rfl)); (clear hq hdep hold); (simp only [h0, h1]); (clear h0 h1); (refine opv rfl ?_); (first | rfl | go_simp)
    refine .cons (fun x wf Kk hq hdep hold => ?_) ?_
    · (try dsimp only); (have h2 : x 2 = _ := hdep 2 (by kernel_rfl)); (have Kq := hq no (fun _ hj => (noMem (by kernel_rfl) hj).elim)); (clear hq hdep hold); (simp only [h2]); (clear h2); (rw [if_pos (by rfl)]); (refine OpY.call (f := 153) (args := #[(.int .i64 (p : Int))]) (by go_simp) ?_); (refine (HLp.out wf).mono ?_); (rintro e w7 ⟨v, rfl, o⟩); (exact ⟨_, rfl, o.kept, o.from_ Kq⟩)
    refine .cons (fun x wf Kk hq hdep hold => ?_) ?_
    · (try dsimp only); (clear hq hdep hold); (refine opv rfl ?_); (first | rfl | go_simp)
    refine .cons (fun x wf Kk hq hdep hold => ?_) ?_
    · (try dsimp only); (clear hq hdep hold); (refine opv rfl ?_); (first | rfl | go_simp)
    refine .cons (fun x wf Kk hq hdep hold => ?_) ?_
    · (try dsimp only); (have h4 : x 4 = _ := hdep 4 (by kernel_rfl)); (have h5 : x 5 = _ := hdep 5 (by kernel_rfl)); (clear hq hdep hold); (simp only [h4, h5]); (clear h4 h5); (refine opv rfl ?_); (first | rfl | go_simp)
    refine .cons (fun x wf Kk hq hdep hold => ?_) ?_
    · (try dsimp only); (have h6 : x 6 = _ := hdep 6 (by kernel_rfl)); (have Kq := hq no (fun _ hj => (noMem (by kernel_rfl) hj).elim)); (clear hq hdep hold); (simp only [h6]); (clear h6); (rw [if_pos (by rfl)]); (refine OpY.call (f := 153) (args := #[(.int .i64 (q : Int))]) (by go_simp) ?_); (refine (HLq.out wf).mono ?_); (rintro e w7 ⟨v, rfl, o⟩); (exact ⟨_, rfl, o.kept, o.from_ Kq⟩)
    refine .cons (fun x wf Kk hq hdep hold => ?_) ?_
    · (try dsimp only); (have p3 : Pr.p (Sl := (fun _ => (fun j => j = G))) (PUl w2.drew p) (x 3) wf := hdep 3 (by kernel_rfl)); (have p7 : Pr.p (Sl := (fun _ => (fun j => j = G))) (PUl w2.drew q) (x 7) wf := hdep 7 (by kernel_rfl)); (have Kq := hq no (fun _ hj => (noMem (by kernel_rfl) hj).elim)); (clear hq hdep hold); (rw [if_pos (by rfl)]); (obtain ⟨xa, xc, ex⟩ := p3.rd.shape); (obtain ⟨ya, yc, ey⟩ := p7.rd.shape); (have o17 := p3.own); (have o20 := p7.own); (rw [ex] at o17); (rw [ey] at o20); (rw [ex, ey]); (refine OpY.val (v := .agg #[.bool false, .slice xa (nl p).length xc, .slice ya (nl q).length yc]) (by go_simp) ⟨Kept.refl _ _, ⟨p, q, _, _⟩, rfl, rfl, rfl, o17, o20⟩)
    refine .cons (fun x wf Kk hq hdep hold => ?_) ?_
    · (try dsimp only); (have p8 : Pr.p (Sl := (fun _ => (fun j => j = G))) (PRQ p q) (x 8) wf := hdep 8 (by kernel_rfl)); (have Kq := hq no (fun _ hj => (noMem (by kernel_rfl) hj).elim)); (clear hq hdep hold); (rw [if_pos (by rfl)]); (obtain ⟨y, ey, hp1, hq1, hl1, hm1⟩ := p8); (rw [ey]); (have hgb := Kq.undrew.blk gR2.out); (have kS := ((Kept.refl (fun j => j = G) wf).setRow (g := G) (.inl rfl) (cQ y).toArray)); (refine OpY.storeRowT 76 (.tmp 4) (.tmp 17) rfl G (cQ y).toArray rfl rfl 76 _ hgb (by kernel_rfl) rfl (all_oneCell_toArray (cQ_one ⟨hl1, hm1⟩)) ?_); (exact ⟨kS, y, hp1, hq1, setRow_heap _ _ _ _ _ _ hgb, setRow_limb hgb (fun _ h => h) kS hl1, setRow_limb hgb (fun _ h => h) kS hm1⟩)
    exact .nil _
  · (intro x wf Kk hv); (try dsimp only); (have p9 : Pr.p (Sl := (fun _ => (fun j => j = G))) (PSr G p q) (x 9) wf := hv 9 (by kernel_rfl)); (clear hv); (obtain ⟨y, hp1, hq1, hb1, hl1, hm1⟩ := p9); (have kk := Kk.undrew); (have hfin : Hd (y.p = p ∧ y.q = q ∧ Limbs wf y.a y.p ∧ Limbs wf y.b y.q ∧ Kept no w wf) := ⟨hp1, hq1, hl1, hm1, k02.out.trans kk fun j hj (e : j = G) => by have := hGs.out; omega⟩); (have hbf := hid hb1); (clear kk Kk hb1 hl1 hm1 HLp HLq); (go_wp2); (refine bodyPost_ret (v := .agg (cQ y).toArray) ?_ rfl ?_)
    · exact results_cell_row rfl _ _ G 76 (cQ y).toArray (0, 0) _ rfl hbf.out Tryz.underlying76 rfl (by kernel_rfl)
    · exact ⟨_, rfl, hfin.out⟩
set_option maxRecDepth 20000 in
set_option maxHeartbeats 2000000 in
theorem whole_any (n : Nat) (w : World) (hn : n ≤ 1000000) (h0 : n ≠ 0) : Calls Tryz.prog 102 #[.int .i64 (n : Int)] w fun e w' => FrR w w' e n 1 := by
  (obtain ⟨w1, hw1, g1, k1⟩ := alloc_named w (.cells #[.bool false, .slice none 0 0, .slice none 0 0] 76)); (obtain ⟨G, hG⟩ : ∃ x, w.heap.size = x := ⟨_, rfl⟩); (rw [hG] at g1); (have HF := hid (frac_any n 1 n 1 1 w1 (Nat.gcd_one_right n) (Nat.div_one n) rfl hn (by decide) (by decide) h0 (by decide))); (rw [show ((1 : Nat) : Int) = 1 from rfl] at HF); (have hGs : Hd (w.heap.size ≤ G) := ⟨Nat.le_of_eq hG⟩); (have g1' := hid g1); (have k1' := hid k1); (replace hw1 := hid hw1); (replace hG := hid hG); (clear g1 k1)
  go_enter Tryz.func102, Tryz.ntmps102
  (go_wp2_with fail); (rw [← hw1.out]); (try rw [hG.out]); (with_reducible refine HF.out.mono ?_); (intro e w2 hF); (obtain ⟨y, rfl, hp1, hq1, hl1, hm1, k2⟩ := hF); (obtain ⟨yp, yq, ya, yb⟩ := y); (simp only at hp1 hq1 hl1 hm1); (subst hp1 hq1); (obtain ⟨⟨an, cn, ean⟩, ⟨ad, cd, ead⟩⟩ := RQ.shape (x := ⟨_, _, ya, yb⟩) ⟨hl1, hm1⟩); (simp only at ean ead); (subst ean ead); (obtain ⟨ln, hln⟩ : ∃ l, (nl yp).length = l := ⟨_, rfl⟩); (obtain ⟨ld, hld⟩ : ∃ l, (nl 1).length = l := ⟨_, rfl⟩); (rw [hln, hld]); (rw [hln] at hl1); (rw [hld] at hm1); (have gb := k2.blk g1'.out); (have m0 : w2.cell? ⟨G, 0, none⟩ = some (.bool false) := cell_at gb rfl); (have m1 : w2.cell? ⟨G, 1, none⟩ = some (.slice none 0 0) := cell_at gb rfl); (have m2 : w2.cell? ⟨G, 2, none⟩ = some (.slice none 0 0) := cell_at gb rfl); (have q0 := row_free gb 0); (have q1 := row_free gb 1); (have q2 := row_free gb 2); (have kS := kept3 (w := w2) (gR := G) 0 1 2 (.bool false) (.slice an ln cn) (.slice ad ld cd)); (have hbf : Hd ((((w2.setCell ⟨G, 0, none⟩ (.bool false)).setCell ⟨G, 1, none⟩ (.slice an ln cn)).setCell ⟨G, 2, none⟩ (.slice ad ld cd)).heap[G]? = some (.cells #[.bool false, .slice an ln cn, .slice ad ld cd] 76 (0, 0))) := ⟨by rw [setCell_row (setCell_row (setCell_row gb 0 _) 1 _) 2 _]; rfl⟩); (have hfin : Hd (Limbs (((w2.setCell ⟨G, 0, none⟩ (.bool false)).setCell ⟨G, 1, none⟩ (.slice an ln cn)).setCell ⟨G, 2, none⟩ (.slice ad ld cd)) (.slice an ln cn) yp ∧ Limbs (((w2.setCell ⟨G, 0, none⟩ (.bool false)).setCell ⟨G, 1, none⟩ (.slice an ln cn)).setCell ⟨G, 2, none⟩ (.slice ad ld cd)) (.slice ad ld cd) 1 ∧ Kept no w (((w2.setCell ⟨G, 0, none⟩ (.bool false)).setCell ⟨G, 1, none⟩ (.slice an ln cn)).setCell ⟨G, 2, none⟩ (.slice ad ld cd))) := ⟨setRow_limb gb (fun _ h => h) kS hl1, setRow_limb gb (fun _ h => h) kS hm1, (k1'.out.trans' k2).trans kS fun j hj (e : j = G) => by have := hGs.out; omega⟩); (clear gb kS hl1 hm1 hln hld k2 HF g1' k1' hw1); (go_wp2); (refine bodyPost_ret (v := .agg #[.bool false, .slice an ln cn, .slice ad ld cd]) ?_ rfl ?_)
  · exact results_cell_row rfl _ _ G 76 #[.bool false, .slice an ln cn, .slice ad ld cd] (0, 0) _ rfl hbf.out Tryz.underlying76 rfl (by kernel_rfl)
  · exact ⟨⟨_, 1, .slice an ln cn, .slice ad ld cd⟩, rfl, rfl, rfl, hfin.out⟩
set_option maxRecDepth 20000 in
set_option maxHeartbeats 2000000 in
theorem equ_any (va vb : Value) (l : List Nat) (w : World) (hl : l.length ≤ 1000) (ra : RdU w va l) (rb : RdU w vb l) : Calls Tryz.prog 151 #[va, vb] w fun e w' => e = .returned (.bool true) ∧ Kept no w w' := by
  (obtain ⟨_, aa, ac, rfl, ha1, ha2, ha3⟩ := ra); (obtain ⟨_, ba, bc, rfl, hb1, hb2, hb3⟩ := rb); (obtain ⟨n, hn⟩ : ∃ n, l.length = n := ⟨_, rfl⟩); (rw [hn] at hl ha1 hb1 ⊢); (replace hn := hid hn); (have hA := hid ha3); (have hB := hid hb3); (clear ha3 hb3)
  go_enter Tryz.func151, Tryz.ntmps151
  go_wp2
  go_loopw [5] (fun i wr => ∃ k : Nat, k ≤ n ∧ i = .int .i64 (k : Int) ∧ Hd (Kept no w wr)) (fun i _ => n - (intOf i).toNat)
  case atStart => exact ⟨0, by omega, rfl, ⟨Kept.refl _ _⟩⟩
  case round =>
    obtain ⟨k, hk, rfl, hK⟩ := hrel
    by_cases hlt : k < n
    · (have hk1 : (k : Int) < (n : Int) := by omega); (have hk0 : (0 : Int) ≤ (k : Int) := by omega); (have hkl : k < l.length := by rw [hn.out]; exact hlt); (obtain ⟨b1, o1, rfl, h1⟩ := hA.out.resolve_left (by omega)); (obtain ⟨b2, o2, rfl, h2⟩ := hB.out.resolve_left (by omega)); (have c1 := hK.out.cell (h1 k (N32 l[k]) (by rw [List.getElem?_map, List.getElem?_eq_getElem hkl]; rfl)) id); (have c2 := hK.out.cell (h2 k (N32 l[k]) (by rw [List.getElem?_map, List.getElem?_eq_getElem hkl]; rfl)) id); (obtain ⟨z, hz⟩ : ∃ z, l[k] = z := ⟨_, rfl⟩); (rw [hz] at c1 c2); (unfold N32 at c1 c2); (have hne : ((z : Int) != (z : Int)) = false := by simp); (clear h1 h2 hz hkl); (go_wp2_with fail); (go_quiet (fail)); (have hK2 := hid (hK.out.trans' ((Kept.refl no wr).drewN nq))); (go_wp2); (go_roundw)
      case rel => first | exact ⟨k + 1, by omega, by go_num, hK2⟩ | ((repeat apply Exists.intro); exact ⟨⟨k + 1, by omega, by go_num, hK2⟩, rfl⟩)
      case measure => simp [intOf]; omega
    · (obtain rfl : n = k := by omega); (have hk1 : ¬ (n : Int) < (n : Int) := by omega); (go_wp2); (go_ret); (exact ⟨rfl, hK.out⟩)
set_option maxRecDepth 20000 in
set_option maxHeartbeats 2000000 in
theorem eqr_any (v1 v2 : Value) (p q : Nat) (w : World) (r1 : RdR w v1 false p q) (r2 : RdR w v2 false p q) : Calls Tryz.prog 100 #[v1, v2] w fun e w' => e = .returned (.bool true) ∧ Kept no w w' := by
  (obtain ⟨an1, ln1, cn1, ad1, ld1, cd1, rfl⟩ := shapeR r1); (obtain ⟨an2, ln2, cn2, ad2, ld2, cd2, rfl⟩ := shapeR r2); (obtain ⟨w1, hw1, g1, k1⟩ := alloc_named w (.cells #[.bool false, .slice an1 ln1 cn1, .slice ad1 ld1 cd1] 76)); (have e1 : w1.heap.size = w.heap.size + 1 := by rw [hw1]; simp); (obtain ⟨w2, hw2, g2, k2⟩ := alloc_named w1 (.cells #[.bool false, .slice an2 ln2 cn2, .slice ad2 ld2 cd2] 76)); (obtain ⟨_, _, ea, ra1, ra2⟩ := r1); (obtain ⟨_, _, eb, rb1, rb2⟩ := r2)
  injection ea with ea
  injection eb with eb
  (simp only [Array.mk.injEq, List.cons.injEq, and_true, true_and] at ea eb); (obtain ⟨rfl, rfl⟩ := ea); (obtain ⟨rfl, rfl⟩ := eb); (have k02 := hid (k1.trans' k2)); (have hlp : (nl p).length ≤ 1000 := by unfold nl; split <;> simp); (have hlq : (nl q).length ≤ 1000 := by unfold nl; split <;> simp); (have HA := hid (fun (W : World) (k : Kept no w W) => equ_any _ _ (nl p) W hlp (ra1.kept k) (rb1.kept k))); (have HB := hid (fun (W : World) (k : Kept no w W) => equ_any _ _ (nl q) W hlq (ra2.kept k) (rb2.kept k))); (obtain ⟨G1, hG1⟩ : ∃ x, w.heap.size = x := ⟨_, rfl⟩); (obtain ⟨G2, hG2⟩ : ∃ x, w1.heap.size = x := ⟨_, rfl⟩); (rw [hG1] at g1); (rw [hG2] at g2); (have q1 : Hd (G1 + 1 = G2) := ⟨by omega⟩); (have b1 := hid (k2.blk g1)); (have b2 := hid g2); (replace hw1 := hid hw1); (replace hw2 := hid hw2); (replace hG1 := hid hG1); (clear g1 g2 k1 k2 ra1 ra2 rb1 rb2 hlp hlq e1 hG2)
  go_enter Tryz.func100, Tryz.ntmps100
  (go_upto_region 1 with fail); (rw [← hw1.out, hG1.out]); (try rw [q1.out]); (rw [← hw2.out]); (obtain ⟨s0, s1, s2⟩ := slotR b1.out); (obtain ⟨t0, t1, t2⟩ := slotR b2.out); (go_wp2_with fail); (with_reducible refine (HA.out w2 k02.out).mono ?_); (rintro e w3 ⟨rfl, k3⟩); (have k03 := hid (k02.out.trans' k3)); (have b13 := hid (k3.blk b1.out)); (have b23 := hid (k3.blk b2.out)); (clear s0 s1 s2 t0 t1 t2 k3 b1 b2); (obtain ⟨s0, s1, s2⟩ := slotR b13.out); (obtain ⟨t0, t1, t2⟩ := slotR b23.out); (go_wp2_with fail); (with_reducible refine (HB.out w3 k03.out).mono ?_); (rintro e w4 ⟨rfl, k4⟩); (have k04 := hid (k03.out.trans' k4)); (clear s0 s1 s2 t0 t1 t2 k4); (go_wp2); (go_ret); (exact ⟨rfl, k04.out⟩)
set_option maxRecDepth 20000 in
set_option maxHeartbeats 1000000 in
theorem gcon_any (w : World) : Calls Tryz.prog 98 #[.int .i64 2, .int .i64 3, .int .i64 1, .int .i64 0, .int .i64 2] w fun e w' => ∃ ac cc, e = .returned (.agg (conC ⟨#[99]⟩ ac 3 cc 3 2 0 0 3 0 0).toArray) ∧ Kept no w w' := by
  (obtain ⟨w0, hw0, g0, k0⟩ := alloc_named w (.cells #[.string ⟨#[]⟩, .slice none 0 0, .int .i64 0, .int .i64 0, .int .i64 0, .int .i64 0, .int .i64 0, .int .i64 0, .int .i64 0] 24)); (have HN := hid (names_any 3 w0 (by decide))); (rw [show ((3 : Nat) : Int) = 3 from rfl] at HN); (have HM3 := hid (fun W => mod_any 2 3 W (by decide) (by decide))); (rw [show modI 2 3 = 2 by decide] at HM3); (have HM5 := hid (fun W => mod_any 1 5 W (by decide) (by decide))); (rw [show modI 1 5 = 1 by decide] at HM5)
  go_enter Tryz.func98, Tryz.ntmps98
  (go_wp2_with fail); (rw [← hw0]); (refine HN.out.mono ?_); (rintro e w1 ⟨ac, cc, rfl, k1⟩); (go_wp2_with fail); (refine (HM3.out w1).mono ?_); (rintro e w2 ⟨rfl, rfl⟩); (go_wp2_with fail); (refine (HM5.out _).mono ?_); (rintro e w3 ⟨rfl, rfl⟩); (go_wp2_with fail); (refine (HM3.out _).mono ?_); (rintro e w4 ⟨rfl, rfl⟩); (go_upto_region 2 with fail); (obtain ⟨w5, hw5, g5, k5⟩ := alloc_named w4 (.cells (conC ⟨#[99]⟩ ac 3 cc (3) (2) 0 0 (3) 0 0).toArray 24)); (have e5 : (conC ⟨#[99]⟩ ac 3 cc (3) (2) 0 0 (3) 0 0).toArray = #[.string ⟨#[99]⟩, .slice ac 3 cc, .int .i64 (3), .int .i64 (2), .int .i64 0, .int .i64 0, .int .i64 (3), .int .i64 0, .int .i64 0] := rfl); (rw [e5] at hw5 g5); (rw [← hw5]); (have q0 := k1.blk g0); (have q5 := k5.blk q0); (have hlt : w.heap.size < w4.heap.size := (Array.getElem?_eq_some_iff.1 q0).1); (have hk := (k0.trans' k1).trans' k5); (obtain ⟨g, hg⟩ : ∃ g, w4.heap.size = g := ⟨_, rfl⟩); (rw [hg] at g5 hlt ⊢); (clear hw5 e5 q0 k5 k0 k1 g0 hw0); (have k2 : Kept (fun j => j = g) w5 w5 := Kept.refl _ _); (obtain ⟨r, hr⟩ : ∃ r, w.heap.size = r := ⟨_, rfl⟩); (rw [hr] at q5 hlt ⊢); (have c2 : w5.cell? ⟨g, 2, none⟩ = some (.int .i64 (3)) := by rw [cell_of_row w5 _ 2 _ _ _ g5]; rfl); (have c3 : w5.cell? ⟨g, 3, none⟩ = some (.int .i64 (2)) := by rw [cell_of_row w5 _ 3 _ _ _ g5]; rfl); (have c5 : w5.cell? ⟨g, 5, none⟩ = some (.int .i64 0) := by rw [cell_of_row w5 _ 5 _ _ _ g5]; rfl); (have f3 : w5.frozen? ⟨g, 3, none⟩ = false := row_free g5 3); (have f5 : w5.frozen? ⟨g, 5, none⟩ = false := row_free g5 5); (clear c3 c5 f3 f5); (replace q5 := hid q5); (replace g5 := hid g5); (replace hk := hid hk); (replace k2 := hid k2); (replace hr := hid hr); (replace hg := hid hg); (go_upto_region 6 with fail); (obtain ⟨w6, hw6⟩ : ∃ w6, w6 = w5 := ⟨_, rfl⟩); (rw [← hw6]); (have g6 : w6.heap[g]? = some (.cells #[.string ⟨#[99]⟩, .slice ac 3 cc, .int .i64 3, .int .i64 2, .int .i64 0, .int .i64 0, .int .i64 3, .int .i64 0, .int .i64 0] 24 (0, 0)) := by rw [hw6]; exact g5.out); (have q6 := (hw6 ▸ q5.out : w6.heap[r]? = some (.cells _ 24 (0, 0)))); (have k6 : Kept no w w6 := by rw [hw6]; exact hk.out); (clear hw6 q5 g5 hk k2 HN HM3 HM5); (replace g6 := hid g6); (replace q6 := hid q6); (have k7 := hid (k6.setRow (g := r) (.inr (by rw [hr.out]; exact Nat.le_refl _)) #[.string ⟨#[99]⟩, .slice ac 3 cc, .int .i64 3, .int .i64 2, .int .i64 0, .int .i64 0, .int .i64 3, .int .i64 0, .int .i64 0])); (have g7 := hid (setRow_heap w6 r _ #[.string ⟨#[99]⟩, .slice ac 3 cc, .int .i64 3, .int .i64 2, .int .i64 0, .int .i64 0, .int .i64 3, .int .i64 0, .int .i64 0] _ _ q6.out)); (have hinf : Hd ((Tryz.prog.info? 24).map (·.size) = some (#[.string ⟨#[99]⟩, .slice ac 3 cc, .int .i64 3, .int .i64 2, .int .i64 0, .int .i64 0, .int .i64 3, .int .i64 0, .int .i64 0] : Array Value).size) := ⟨by kernel_rfl⟩); (have hold : Hd ((#[.string ⟨#[]⟩, .slice none 0 0, .int .i64 0, .int .i64 0, .int .i64 0, .int .i64 0, .int .i64 0, .int .i64 0, .int .i64 0] : Array Value).size = (#[.string ⟨#[99]⟩, .slice ac 3 cc, .int .i64 3, .int .i64 2, .int .i64 0, .int .i64 0, .int .i64 3, .int .i64 0, .int .i64 0] : Array Value).size) := ⟨rfl⟩); (have hone : Hd ((#[.string ⟨#[99]⟩, .slice ac 3 cc, .int .i64 3, .int .i64 2, .int .i64 0, .int .i64 0, .int .i64 3, .int .i64 0, .int .i64 0] : Array Value).all (·.oneCell') = true) := ⟨by simp [Value.oneCell']⟩); (go_wp2_with (first | (with_reducible refine wpList_load_row rfl 24 _ rfl g rfl 24 _ _ _ g6.out Tryz.underlying24 rfl (by kernel_rfl) ?_) | (with_reducible refine wpList_store_row rfl 24 _ _ rfl r #[.string ⟨#[99]⟩, .slice ac 3 cc, .int .i64 3, .int .i64 2, .int .i64 0, .int .i64 0, .int .i64 3, .int .i64 0, .int .i64 0] rfl rfl 24 _ q6.out hinf.out hold.out hone.out ?_))); (refine bodyPost_ret (v := .agg #[.string ⟨#[99]⟩, .slice ac 3 cc, .int .i64 3, .int .i64 2, .int .i64 0, .int .i64 0, .int .i64 3, .int .i64 0, .int .i64 0]) ?_ rfl ?_)
  rotate_left
  · exact ⟨ac, cc, rfl, k7.out⟩
  · exact results_cell_row rfl _ _ r 24 #[.string ⟨#[99]⟩, .slice ac 3 cc, .int .i64 3, .int .i64 2, .int .i64 0, .int .i64 0, .int .i64 3, .int .i64 0, .int .i64 0] (0, 0) _ rfl g7.out Tryz.underlying24 rfl (by kernel_rfl)
theorem aw28_mk : mk 3 [[0, 1], [0, 1], [0, 1], [0, 1], [0, 1], [0, 1], [2], [2], [2]] = ([⟨[0, 1], 6⟩, ⟨[2], 3⟩], 0) := by decide +kernel
end Go.Proofs.YtaobaaaihgahfaaGreat

/- electionlaw28.Awake (printed by gen_awk28b.py). -/
namespace Go.Proofs.YtaobaaaihgahfaaGreat
open Go.RowKit Go.Mk Go.Pil Go.Nt Go.Gg
theorem aw28_lit (w : World) : ∃ bs, lists bs = [[0, 1], [0, 1], [0, 1], [0, 1], [0, 1], [0, 1], [2], [2], [2]] ∧ RdB ((((((((((w.alloc (.cells #[.int .i64 0, .int .i64 1] 3)).alloc (.cells #[.int .i64 0, .int .i64 1] 3)).alloc (.cells #[.int .i64 0, .int .i64 1] 3)).alloc (.cells #[.int .i64 0, .int .i64 1] 3)).alloc (.cells #[.int .i64 0, .int .i64 1] 3)).alloc (.cells #[.int .i64 0, .int .i64 1] 3)).alloc (.cells #[.int .i64 2] 3)).alloc (.cells #[.int .i64 2] 3)).alloc (.cells #[.int .i64 2] 3)).alloc (.cells #[.slice (some ⟨w.heap.size, 0, none⟩) 2 2, .slice (some ⟨w.heap.size + 1, 0, none⟩) 2 2, .slice (some ⟨w.heap.size + 1 + 1, 0, none⟩) 2 2, .slice (some ⟨w.heap.size + 1 + 1 + 1, 0, none⟩) 2 2, .slice (some ⟨w.heap.size + 1 + 1 + 1 + 1, 0, none⟩) 2 2, .slice (some ⟨w.heap.size + 1 + 1 + 1 + 1 + 1, 0, none⟩) 2 2, .slice (some ⟨w.heap.size + 1 + 1 + 1 + 1 + 1 + 1, 0, none⟩) 1 1, .slice (some ⟨w.heap.size + 1 + 1 + 1 + 1 + 1 + 1 + 1, 0, none⟩) 1 1, .slice (some ⟨w.heap.size + 1 + 1 + 1 + 1 + 1 + 1 + 1 + 1, 0, none⟩) 1 1] 26)) (.slice (some ⟨w.heap.size + 1 + 1 + 1 + 1 + 1 + 1 + 1 + 1 + 1, 0, none⟩) 9 9) bs := by
  (refine ⟨[([0, 1], .slice (some ⟨w.heap.size, 0, none⟩) 2 2), ([0, 1], .slice (some ⟨w.heap.size + 1, 0, none⟩) 2 2), ([0, 1], .slice (some ⟨w.heap.size + 1 + 1, 0, none⟩) 2 2), ([0, 1], .slice (some ⟨w.heap.size + 1 + 1 + 1, 0, none⟩) 2 2), ([0, 1], .slice (some ⟨w.heap.size + 1 + 1 + 1 + 1, 0, none⟩) 2 2), ([0, 1], .slice (some ⟨w.heap.size + 1 + 1 + 1 + 1 + 1, 0, none⟩) 2 2), ([2], .slice (some ⟨w.heap.size + 1 + 1 + 1 + 1 + 1 + 1, 0, none⟩) 1 1), ([2], .slice (some ⟨w.heap.size + 1 + 1 + 1 + 1 + 1 + 1 + 1, 0, none⟩) 1 1), ([2], .slice (some ⟨w.heap.size + 1 + 1 + 1 + 1 + 1 + 1 + 1 + 1, 0, none⟩) 1 1)], rfl, ?_⟩); (obtain ⟨w1, hw1, g1, k1⟩ := alloc_named w (.cells #[.int .i64 0, .int .i64 1] 3)); (have s1 : w1.heap.size = w.heap.size + 1 := by rw [hw1, World.size_alloc]); (rw [← hw1]); (obtain ⟨w2, hw2, g2, k2⟩ := alloc_named w1 (.cells #[.int .i64 0, .int .i64 1] 3)); (have s2 : w2.heap.size = w.heap.size + 1 + 1 := by rw [hw2, World.size_alloc, s1]); (rw [← hw2]); (obtain ⟨w3, hw3, g3, k3⟩ := alloc_named w2 (.cells #[.int .i64 0, .int .i64 1] 3)); (have s3 : w3.heap.size = w.heap.size + 1 + 1 + 1 := by rw [hw3, World.size_alloc, s2]); (rw [← hw3]); (obtain ⟨w4, hw4, g4, k4⟩ := alloc_named w3 (.cells #[.int .i64 0, .int .i64 1] 3)); (have s4 : w4.heap.size = w.heap.size + 1 + 1 + 1 + 1 := by rw [hw4, World.size_alloc, s3]); (rw [← hw4]); (obtain ⟨w5, hw5, g5, k5⟩ := alloc_named w4 (.cells #[.int .i64 0, .int .i64 1] 3)); (have s5 : w5.heap.size = w.heap.size + 1 + 1 + 1 + 1 + 1 := by rw [hw5, World.size_alloc, s4]); (rw [← hw5]); (obtain ⟨w6, hw6, g6, k6⟩ := alloc_named w5 (.cells #[.int .i64 0, .int .i64 1] 3)); (have s6 : w6.heap.size = w.heap.size + 1 + 1 + 1 + 1 + 1 + 1 := by rw [hw6, World.size_alloc, s5]); (rw [← hw6]); (obtain ⟨w7, hw7, g7, k7⟩ := alloc_named w6 (.cells #[.int .i64 2] 3)); (have s7 : w7.heap.size = w.heap.size + 1 + 1 + 1 + 1 + 1 + 1 + 1 := by rw [hw7, World.size_alloc, s6]); (rw [← hw7]); (obtain ⟨w8, hw8, g8, k8⟩ := alloc_named w7 (.cells #[.int .i64 2] 3)); (have s8 : w8.heap.size = w.heap.size + 1 + 1 + 1 + 1 + 1 + 1 + 1 + 1 := by rw [hw8, World.size_alloc, s7]); (rw [← hw8]); (obtain ⟨w9, hw9, g9, k9⟩ := alloc_named w8 (.cells #[.int .i64 2] 3)); (have s9 : w9.heap.size = w.heap.size + 1 + 1 + 1 + 1 + 1 + 1 + 1 + 1 + 1 := by rw [hw9, World.size_alloc, s8]); (rw [← hw9]); (obtain ⟨w10, hw10, g10, k10⟩ := alloc_named w9 (.cells #[.slice (some ⟨w.heap.size, 0, none⟩) 2 2, .slice (some ⟨w.heap.size + 1, 0, none⟩) 2 2, .slice (some ⟨w.heap.size + 1 + 1, 0, none⟩) 2 2, .slice (some ⟨w.heap.size + 1 + 1 + 1, 0, none⟩) 2 2, .slice (some ⟨w.heap.size + 1 + 1 + 1 + 1, 0, none⟩) 2 2, .slice (some ⟨w.heap.size + 1 + 1 + 1 + 1 + 1, 0, none⟩) 2 2, .slice (some ⟨w.heap.size + 1 + 1 + 1 + 1 + 1 + 1, 0, none⟩) 1 1, .slice (some ⟨w.heap.size + 1 + 1 + 1 + 1 + 1 + 1 + 1, 0, none⟩) 1 1, .slice (some ⟨w.heap.size + 1 + 1 + 1 + 1 + 1 + 1 + 1 + 1, 0, none⟩) 1 1] 26)); (rw [← hw10]); (rw [s1] at g2); (rw [s2] at g3); (rw [s3] at g4); (rw [s4] at g5); (rw [s5] at g6); (rw [s6] at g7); (rw [s7] at g8); (rw [s8] at g9); (rw [s9] at g10); (have h1 := (k10.blk (k9.blk (k8.blk (k7.blk (k6.blk (k5.blk (k4.blk (k3.blk (k2.blk g1)))))))))); (have h2 := (k10.blk (k9.blk (k8.blk (k7.blk (k6.blk (k5.blk (k4.blk (k3.blk g2))))))))); (have h3 := (k10.blk (k9.blk (k8.blk (k7.blk (k6.blk (k5.blk (k4.blk g3)))))))); (have h4 := (k10.blk (k9.blk (k8.blk (k7.blk (k6.blk (k5.blk g4))))))); (have h5 := (k10.blk (k9.blk (k8.blk (k7.blk (k6.blk g5)))))); (have h6 := (k10.blk (k9.blk (k8.blk (k7.blk g6))))); (have h7 := (k10.blk (k9.blk (k8.blk g7)))); (have h8 := (k10.blk (k9.blk g8))); (have h9 := (k10.blk g9)); (refine ⟨fun x hx => ?_, rfl, _, _, rfl, Nat.le_refl _, by decide, .inr ⟨_, 0, rfl, fun j u hu => by rw [cell_of_row w10 _ _ _ _ _ g10, Nat.zero_add]; simpa using hu⟩⟩); (simp only [List.mem_cons, List.not_mem_nil, or_false] at hx)
  rcases hx with rfl | rfl | rfl | rfl | rfl | rfl | rfl | rfl | rfl
  · exact blk_RdZ [0, 1] 2 rfl (by decide) rfl h1
  · exact blk_RdZ [0, 1] 2 rfl (by decide) rfl h2
  · exact blk_RdZ [0, 1] 2 rfl (by decide) rfl h3
  · exact blk_RdZ [0, 1] 2 rfl (by decide) rfl h4
  · exact blk_RdZ [0, 1] 2 rfl (by decide) rfl h5
  · exact blk_RdZ [0, 1] 2 rfl (by decide) rfl h6
  · exact blk_RdZ [2] 1 rfl (by decide) rfl h7
  · exact blk_RdZ [2] 1 rfl (by decide) rfl h8
  · exact blk_RdZ [2] 1 rfl (by decide) rfl h9
theorem getD_small {V : List Nat} (h : ∀ v ∈ V, v < 10000) : ∀ i, V.getD i 0 < 10000 := fun i => by
  rw [List.getD_eq_getElem?_getD]
  rcases hi : V[i]? with _ | v
  · decide
  · exact h v (List.mem_of_getElem? hi)
theorem vb_two {n : Nat} {x y : Pl} (h1 : ∀ v ∈ votesL n [x], v ≤ 200000) (h2 : ∀ v ∈ votesL n [x, y], v ≤ 200000) : ∀ k, ∀ v ∈ votesL n ([x, y].take k), v ≤ 200000 := fun k => by
  rcases k with _ | _ | k
  · (intro v hv); (unfold votesL at hv)
    simp at hv
    rw [hv.2]; decide
  · exact h1
  · rw [List.take_of_length_le (by simp)]; exact h2
theorem one_two {T : List Int} {V : List Nat} (hV : V = [4, 2, 3]) (h : MinT (zsV V) [1, 2] T) : T = [1] := by
  (subst hV); (have hs := h.sub); (have hn := h.ne (by simp)); (have hl := h.le)
  cases hs with
  | cons _ hs =>
    cases hs with
    | cons _ hs => cases hs; exact absurd rfl hn
    | cons_cons _ hs =>
      cases hs
      exact absurd (hl 2 (by simp) 1 (by simp)) (by decide)
  | cons_cons _ hs =>
    cases hs with
    | cons _ hs => cases hs; rfl
    | cons_cons _ hs =>
      cases hs
      exact absurd (hl 2 (by simp) 1 (by simp)) (by decide)
theorem plok {ps : List Int} {n a p q : Nat} (v : Value) (h : n ≤ 100000 ∧ a ≤ 1000 ∧ ps.length ≤ 1000 ∧ (∀ z ∈ ps, 0 ≤ z ∧ z < ((3 : Nat) : Int)) ∧ (a < ps.length → q ∣ p * n) ∧ q ≠ 0 ∧ q < 10000 ∧ p < 10000) : PlOk 3 ⟨ps, v, n, a, p, q⟩ := ⟨h.1, h.2.1, h.2.2.1, h.2.2.2.1, h.2.2.2.2.1, h.2.2.2.2.2.1, h.2.2.2.2.2.2.1, h.2.2.2.2.2.2.2⟩
def ks28 : List (List (Nat × Nat) × Nat) := [([(1, 1), (1, 1), (1, 1)], 0), ([(1, 3), (1, 1), (1, 1)], 0), ([(1, 3), (0, 1), (1, 1)], 2)]
set_option maxRecDepth 20000 in
theorem runs28 (X : GC) (hn : X.n = 3) (hs : X.seats = 2) (ht : X.total = 9) (hq : X.quo = 4) (v1 v2 : Value) : Runs X ⟨[0, 0, 0], [⟨[0, 1], v1, 6, 0, 1, 1⟩, ⟨[2], v2, 3, 0, 1, 1⟩], [(1, 1), (1, 1), (1, 1)], 0⟩ ks28 [0, 2] := by
  (have p1 : ∀ v : Value, PlOk 3 ⟨[0, 1], v, 6, 0, 1, 1⟩ := fun v => plok v (by decide)); (have p2 : ∀ v : Value, PlOk 3 ⟨[2], v, 3, 0, 1, 1⟩ := fun v => plok v (by decide)); (have p3 : ∀ v : Value, PlOk 3 ⟨[0, 1], v, 6, 1, 1, 3⟩ := fun v => plok v (by decide)); (have p4 : ∀ v : Value, PlOk 3 ⟨[0, 1], v, 6, 2, 1, 3⟩ := fun v => plok v (by decide)); (have V3 : PSt.V X ⟨[2, 3, 0], [⟨[0, 1], v1, 6, 2, 1, 3⟩, ⟨[2], v2, 3, 0, 1, 1⟩], [(1, 3), (0, 1), (1, 1)], 1⟩ = [4, 0, 3] := by unfold PSt.V; rw [hn, hq]; kernel_rfl); (have V2 : PSt.V X ⟨[2, 0, 0], [⟨[0, 1], v1, 6, 1, 1, 3⟩, ⟨[2], v2, 3, 0, 1, 1⟩], [(1, 3), (1, 1), (1, 1)], 1⟩ = [4, 2, 3] := by unfold PSt.V; rw [hn, hq]; kernel_rfl); (have V1 : PSt.V X ⟨[0, 0, 0], [⟨[0, 1], v1, 6, 0, 1, 1⟩, ⟨[2], v2, 3, 0, 1, 1⟩], [(1, 1), (1, 1), (1, 1)], 0⟩ = [6, 0, 3] := by unfold PSt.V; rw [hn, hq]; kernel_rfl); (have C3 : ∀ pls : List Pl, RCase X [4, 0, 3] [2, 3, 0] pls [(1, 3), (0, 1), (1, 1)] 1 [2, 3, 1] pls [(1, 3), (0, 1), (1, 1)] 2 [2] true := fun pls => RCase.rest 2 (by decide) (by rw [hq]; decide) (by decide) (by rw [hs]; decide) (by rw [hs]; decide) (by rw [hn]; decide)); (have C2 : ∀ pls : List Pl, RCase X [4, 2, 3] [2, 0, 0] pls [(1, 3), (1, 1), (1, 1)] 1 [2, 3, 0] (pls.map (mvPl [2, 3, 0] 1 1 1)) [(1, 3), (0, 1), (1, 1)] 1 [] false := fun pls => RCase.excl 1 (by decide) (by rw [hq]; decide) (by decide) (by rw [hs]; decide) (by rw [hs]; decide) (fun T hT => one_two rfl hT) (by rw [hn]; decide))
  have C1 : ∀ pls : List Pl, RCase X [6, 0, 3] [0, 0, 0] pls [(1, 1), (1, 1), (1, 1)] 0 [2, 0, 0] (pls.map (mvPl [1, 0, 0] 0 1 3)) [(1, 3), (1, 1), (1, 1)] 1 [0] false := fun pls => by
    (have h := RCase.trans (X := X) (V := [6, 0, 3]) (st := [0, 0, 0]) (pls := pls) (kpq := [(1, 1), (1, 1), (1, 1)]) (f := 0) 0 (by decide) (by rw [hq]; decide) (by decide) (by rw [hs]; decide) (by rw [hs]; decide) (by rw [hn]; decide) (by rw [hq]; decide) (by decide)); (rw [hq] at h); (exact h)
  (have M2 : [⟨[0, 1], v1, 6, 1, 1, 3⟩, ⟨[2], v2, 3, 0, 1, 1⟩].map (mvPl [2, 3, 0] 1 1 1) = [⟨[0, 1], v1, 6, 2, 1, 3⟩, ⟨[2], v2, 3, 0, 1, 1⟩] := by kernel_rfl); (have M1 : [⟨[0, 1], v1, 6, 0, 1, 1⟩, ⟨[2], v2, 3, 0, 1, 1⟩].map (mvPl [1, 0, 0] 0 1 3) = [⟨[0, 1], v1, 6, 1, 1, 3⟩, ⟨[2], v2, 3, 0, 1, 1⟩] := by kernel_rfl)
  have R3 : Runs X ⟨[2, 3, 0], [⟨[0, 1], v1, 6, 2, 1, 3⟩, ⟨[2], v2, 3, 0, 1, 1⟩], [(1, 3), (0, 1), (1, 1)], 1⟩ [([(1, 3), (0, 1), (1, 1)], 2)] [2] := by
    have h := Runs.last (X := X) ⟨[2, 3, 0], [⟨[0, 1], v1, 6, 2, 1, 3⟩, ⟨[2], v2, 3, 0, 1, 1⟩], [(1, 3), (0, 1), (1, 1)], 1⟩ ⟨[2, 3, 1], [⟨[0, 1], v1, 6, 2, 1, 3⟩, ⟨[2], v2, 3, 0, 1, 1⟩], [(1, 3), (0, 1), (1, 1)], 2⟩ [2]
      ⟨fun x hx => by
      rw [hn]
      rcases List.mem_cons.1 hx with rfl | hx
      · exact p4 _
      · rw [List.mem_singleton.1 hx]; exact p2 _, by
      rw [hn]
      exact vb_two (by
        have e : votesL 3 [⟨[0, 1], v1, 6, 2, 1, 3⟩] = [0, 0, 0] := by kernel_rfl
        rw [e]; decide) (by
        have e : votesL 3 [⟨[0, 1], v1, 6, 2, 1, 3⟩, ⟨[2], v2, 3, 0, 1, 1⟩] = [0, 0, 3] := by kernel_rfl
        rw [e]; decide), by rw [V3]; exact getD_small (by decide), by rw [V3, ht]; decide, Nat.le_of_ble_eq_true rfl⟩
      (by rw [V3]; exact C3 _)
    (rw [V3, ht] at h); (exact h)
  have R2 : Runs X ⟨[2, 0, 0], [⟨[0, 1], v1, 6, 1, 1, 3⟩, ⟨[2], v2, 3, 0, 1, 1⟩], [(1, 3), (1, 1), (1, 1)], 1⟩ [([(1, 3), (1, 1), (1, 1)], 0), ([(1, 3), (0, 1), (1, 1)], 2)] [2] := by
    (have c2 := C2 [⟨[0, 1], v1, 6, 1, 1, 3⟩, ⟨[2], v2, 3, 0, 1, 1⟩]); (rw [M2] at c2)
    have h := Runs.more (X := X) ⟨[2, 0, 0], [⟨[0, 1], v1, 6, 1, 1, 3⟩, ⟨[2], v2, 3, 0, 1, 1⟩], [(1, 3), (1, 1), (1, 1)], 1⟩ ⟨[2, 3, 0], [⟨[0, 1], v1, 6, 2, 1, 3⟩, ⟨[2], v2, 3, 0, 1, 1⟩], [(1, 3), (0, 1), (1, 1)], 1⟩ [] _ _
      ⟨fun x hx => by
      rw [hn]
      rcases List.mem_cons.1 hx with rfl | hx
      · exact p3 _
      · rw [List.mem_singleton.1 hx]; exact p2 _, by
      rw [hn]
      exact vb_two (by
        have e : votesL 3 [⟨[0, 1], v1, 6, 1, 1, 3⟩] = [0, 2, 0] := by kernel_rfl
        rw [e]; decide) (by
        have e : votesL 3 [⟨[0, 1], v1, 6, 1, 1, 3⟩, ⟨[2], v2, 3, 0, 1, 1⟩] = [0, 2, 3] := by kernel_rfl
        rw [e]; decide), by rw [V2]; exact getD_small (by decide), by rw [V2, ht]; decide, Nat.le_of_ble_eq_true rfl⟩
      (by rw [V2]; exact c2) R3
    (rw [V2, ht] at h); (exact h)
  (have c1 := C1 [⟨[0, 1], v1, 6, 0, 1, 1⟩, ⟨[2], v2, 3, 0, 1, 1⟩]); (rw [M1] at c1)
  have h := Runs.more (X := X) ⟨[0, 0, 0], [⟨[0, 1], v1, 6, 0, 1, 1⟩, ⟨[2], v2, 3, 0, 1, 1⟩], [(1, 1), (1, 1), (1, 1)], 0⟩ ⟨[2, 0, 0], [⟨[0, 1], v1, 6, 1, 1, 3⟩, ⟨[2], v2, 3, 0, 1, 1⟩], [(1, 3), (1, 1), (1, 1)], 1⟩ [0] _ _
    ⟨fun x hx => by
      rw [hn]
      rcases List.mem_cons.1 hx with rfl | hx
      · exact p1 _
      · rw [List.mem_singleton.1 hx]; exact p2 _, by
      rw [hn]
      exact vb_two (by
        have e : votesL 3 [⟨[0, 1], v1, 6, 0, 1, 1⟩] = [6, 0, 0] := by kernel_rfl
        rw [e]; decide) (by
        have e : votesL 3 [⟨[0, 1], v1, 6, 0, 1, 1⟩, ⟨[2], v2, 3, 0, 1, 1⟩] = [6, 0, 3] := by kernel_rfl
        rw [e]; decide), by rw [V1]; exact getD_small (by decide), by rw [V1, ht]; decide, Nat.le_of_ble_eq_true rfl⟩
    (by rw [V1]; exact c1) R2
  (rw [V1, ht] at h); (exact h)
theorem ps_two {ps : List (Grp × Value)} (h : grps ps = [⟨[0, 1], 6⟩, ⟨[2], 3⟩]) : ∃ v1 v2, ps = [(⟨[0, 1], 6⟩, v1), (⟨[2], 3⟩, v2)] := by
  match ps, h with
  | [], h => unfold grps at h; simp at h
  | [x], h => unfold grps at h; simp at h
  | [x, y], h =>
    (obtain ⟨g1, v1⟩ := x); (obtain ⟨g2, v2⟩ := y); (unfold grps at h); (simp only [List.map_cons, List.map_nil, List.cons.injEq, and_true] at h); (obtain ⟨rfl, rfl⟩ := h); (exact ⟨v1, v2, rfl⟩)
  | x :: y :: z :: t, h => unfold grps at h; simp at h
theorem rs_three {rs : List RdC} (h : rs.map (fun r => (r.kpq, r.e.p)) = ks28) : ∃ r0 r1 r2, rs = [r0, r1, r2] ∧ r1.kpq = [(1, 3), (1, 1), (1, 1)] ∧ r2.e.p = 2 := by
  match rs, h with
  | [], h => cases h
  | [x], h => unfold ks28 at h; simp at h
  | [x, y], h => unfold ks28 at h; simp at h
  | [x, y, z], h =>
    (unfold ks28 at h); (simp only [List.map_cons, List.map_nil, List.cons.injEq, Prod.mk.injEq, and_true] at h); (exact ⟨x, y, z, rfl, h.2.1.1, h.2.2.2⟩)
  | x :: y :: z :: u :: t, h => unfold ks28 at h; simp at h
theorem pq_three {qs : List RQ} (h : pq qs = [(1, 3), (1, 1), (1, 1)]) : ∃ x y z, qs = [x, y, z] ∧ x.p = 1 ∧ x.q = 3 := by
  match qs, h with
  | [], h => cases h
  | [x], h => unfold pq at h; simp at h
  | [x, y], h => unfold pq at h; simp at h
  | [x, y, z], h =>
    (unfold pq at h); (simp only [List.map_cons, List.map_nil, List.cons.injEq, Prod.mk.injEq, and_true] at h); (exact ⟨x, y, z, rfl, h.1.1, h.1.2⟩)
  | x :: y :: z :: u :: t, h => unfold pq at h; simp at h
set_option maxRecDepth 100000 in
set_option maxHeartbeats 8000000 in
theorem awake28_any (w : World) : Calls Tryz.prog 50 #[] w fun e w' => e = .returned (.bool true) ∧ Kept no w w' := by
  (obtain ⟨bs, hbs, hlit⟩ := aw28_lit w); (obtain ⟨W, hW⟩ : ∃ W, W = ((((((((((w.alloc (.cells #[.int .i64 0, .int .i64 1] 3)).alloc (.cells #[.int .i64 0, .int .i64 1] 3)).alloc (.cells #[.int .i64 0, .int .i64 1] 3)).alloc (.cells #[.int .i64 0, .int .i64 1] 3)).alloc (.cells #[.int .i64 0, .int .i64 1] 3)).alloc (.cells #[.int .i64 0, .int .i64 1] 3)).alloc (.cells #[.int .i64 2] 3)).alloc (.cells #[.int .i64 2] 3)).alloc (.cells #[.int .i64 2] 3)).alloc (.cells #[.slice (some ⟨w.heap.size, 0, none⟩) 2 2, .slice (some ⟨w.heap.size + 1, 0, none⟩) 2 2, .slice (some ⟨w.heap.size + 1 + 1, 0, none⟩) 2 2, .slice (some ⟨w.heap.size + 1 + 1 + 1, 0, none⟩) 2 2, .slice (some ⟨w.heap.size + 1 + 1 + 1 + 1, 0, none⟩) 2 2, .slice (some ⟨w.heap.size + 1 + 1 + 1 + 1 + 1, 0, none⟩) 2 2, .slice (some ⟨w.heap.size + 1 + 1 + 1 + 1 + 1 + 1, 0, none⟩) 1 1, .slice (some ⟨w.heap.size + 1 + 1 + 1 + 1 + 1 + 1 + 1, 0, none⟩) 1 1, .slice (some ⟨w.heap.size + 1 + 1 + 1 + 1 + 1 + 1 + 1 + 1, 0, none⟩) 1 1] 26)) := ⟨_, rfl⟩); (have kW : Hd (Kept no w W) := ⟨by rw [hW]; exact (((((((((((Kept.refl no w).alloc _).alloc _).alloc _).alloc _).alloc _).alloc _).alloc _).alloc _).alloc _).alloc _)⟩); (rw [← hW] at hlit); (have HM := hid (refmake_any 3 _ bs W hlit)); (rw [hbs, aw28_mk] at HM); (replace hW := hid hW); (clear hbs hlit)
  go_enter Tryz.func50, Tryz.ntmps50
  (go_wp2_with fail); (rw [← hW.out]); (refine HM.out.mono ?_); (rintro e w1 ⟨v1, rfl, ps, hps, hrd, k1⟩); (have k1' := hid (kW.out.trans' k1)); (obtain ⟨u1, u2, rfl⟩ := ps_two hps); (have hrd1 := hid hrd); (have hps' := hid hps); (obtain ⟨ag, cg, rfl, _, _⟩ := hrd.shape); (clear hps hrd k1 kW hW HM); (go_wp2_with fail); (with_reducible refine (gcon_any w1).mono ?_); (rintro e w2 ⟨ac, cc, rfl, k2⟩); (have k2' := hid (k1'.out.trans' k2)); (rw [show (conC ⟨#[99]⟩ ac 3 cc 3 2 0 0 3 0 0).toArray = #[.string ⟨#[99]⟩, .slice ac 3 cc, .int .i64 3, .int .i64 2, .int .i64 0, .int .i64 0, .int .i64 3, .int .i64 0, .int .i64 0] from rfl]); (obtain ⟨w3, hw3, g3, k3⟩ := alloc_named w2 (.cells #[.int .i64 0, .int .i64 1, .int .i64 2] 3)); (obtain ⟨L, hL⟩ : ∃ l, w2.heap.size = l := ⟨_, rfl⟩); (rw [hL] at g3); (have hlz : RdZ w3 (.slice (some ⟨L, 0, none⟩) 3 3) [0, 1, 2] := blk_RdZ [0, 1, 2] 3 rfl (by decide) rfl g3); (have hrd3 := (hrd1.out.kept k2).kept k3)
  have HC : Calls Tryz.prog 19 #[.agg #[.string ⟨#[99]⟩, .slice ac 3 cc, .int .i64 3, .int .i64 2, .int .i64 0, .int .i64 0, .int .i64 3, .int .i64 0, .int .i64 0], .slice ag 2 cg, .slice (some ⟨L, 0, none⟩) 3 3] w3 (CgR 3 2 ks28 [0, 2] w3) :=
    gcount_any { nm := ⟨#[99]⟩, ac := ac, cc := cc, cm := 3, ra := 0, d := 0, t := 3, ov := 0, sk := 0, vl := .slice (some ⟨L, 0, none⟩) 3 3, n := 3, m := 0, cap := 0, kc := 0, seats := 2, total := 9, quo := 4 } (.slice ag 2 cg) 9 [(⟨[0, 1], 6⟩, u1), (⟨[2], 3⟩, u2)] [0, 1, 2] w3 rfl (show 1 ≤ 3 by decide) (show 3 ≤ 7 by decide) (show 1 ≤ 2 by decide) (show 2 ≤ 5 by decide) (by rw [hps'.out]; exact (by decide +kernel : fitP 3 3 3 ((2 : Nat) : Int) 0 3 [⟨[0, 1], 6⟩, ⟨[2], 3⟩] [0, 1, 2] = 0)) hrd3 hlz
      (by rw [hps'.out]; exact (by decide +kernel : total [⟨[0, 1], 6⟩, ⟨[2], 3⟩] = ((9 : Nat) : Int))) (show 9 ≤ 1000000 by decide) (by rw [hps'.out]; decide +kernel) (by decide) (show 4 = 9 / (2 + 1) + 1 by decide) (fun x hx => by
        rcases List.mem_cons.1 hx with rfl | hx
        · show (0 : Int) ≤ 6; decide
        · rw [List.mem_singleton.1 hx]; show (0 : Int) ≤ 3; decide) (by simp) (by simp) ks28 [0, 2] (by decide) (by decide) (fun m cap kc => runs28 _ rfl rfl rfl rfl u1 u2)
  (replace HC := hid HC); (have k3' := hid (k2'.out.trans' k3)); (replace hw3 := hid hw3); (replace hL := hid hL); (clear k2 k3 g3 hlz hrd3 hrd1 hps'); (go_wp2_with fail); (rw [← hw3.out]); (try rw [hL.out]); (refine HC.out.mono ?_); (intro e w4 hR); (obtain ⟨tr, tw, rs, ge, rfl, hks, hqq, hRs, hTw, k4⟩ := hR); (obtain ⟨r0, r1, r2, rfl, hk1, he2⟩ := rs_three hks); (have hq2 : r2.e.q = 1 := hqq r2 (by simp)); (obtain ⟨_, ta, tc, rfl, _⟩ := Rd.of_own hRs.own)
  obtain ⟨ua, uc, rfl⟩ : ∃ a c, tw = .slice a 2 c := by
    (obtain ⟨a, c, h, _⟩ := Rd.shape2 hTw); (exact ⟨a, c, h⟩)
  (have k4' := hid (k3'.out.trans' k4)); (obtain ⟨w5, hw5, g5, k5⟩ := alloc_named w4 (.cells #[.int .i64 3, .int .i64 2, .int .i64 0, .int .i64 3, .slice ta 3 tc, .slice ua 2 uc] 35)); (obtain ⟨gt, hgt⟩ : ∃ g, w4.heap.size = g := ⟨_, rfl⟩); (rw [hgt] at g5); (have g5' := hid g5); (have k05 := hid (k4'.out.trans' k5)); (have hR5 := hid (hRs.keptS k5 (fun _ _ => id) fun _ f => f.elim)); (have hT5 := hid (RdZ.kept hTw k5)); (replace hw5 := hid hw5); (replace hgt := hid hgt); (clear hks hqq hRs hTw k4 g5 k5 HC hw3 hL)
  obtain ⟨bt, rfl⟩ : ∃ bt, ta = some ⟨bt, 0, none⟩ := by
    obtain ⟨_, ⟨h, h0⟩ | ⟨g, c, cur, h, _⟩⟩ := hR5.out.own
    · cases h0
    · injection h with h _ _; exact ⟨g, h⟩
  (have hrow1 := hid (Rd.row (f := RdC.cells) (sz := 14) (fun _ _ => rfl) (Rd.of_own hR5.out.own) 1 (show 1 < 3 by decide))); (have hrow2 := hid (Rd.row (f := RdC.cells) (sz := 14) (fun _ _ => rfl) (Rd.of_own hR5.out.own) 2 (show 2 < 3 by decide))); (obtain ⟨⟨qs, hpq, hQ⟩, _, _, _⟩ := hR5.out.one r1 (by simp)); (obtain ⟨_, _, hl2, hm2⟩ := hR5.out.one r2 (by simp)); (rw [hk1] at hpq); (obtain ⟨x, y, z, rfl, hx1, hx2⟩ := pq_three hpq)
  obtain ⟨gq, cq, ekv⟩ : ∃ gq cq, r1.kv = .slice (some ⟨gq, 0, none⟩) 3 cq := by
    obtain ⟨_, ⟨h, h0⟩ | ⟨g, c, cur, h, _⟩⟩ := hQ.own
    · cases h0
    · exact ⟨g, c, h⟩
  (rw [ekv] at hQ); (have hrowX := hQ.rng 0 (show 0 < 3 by decide)); (obtain ⟨⟨xa, xc, exa⟩, ⟨xb, xd, exb⟩⟩ := RQ.shape (hQ.one x (by simp))); (have eX : cQ x = [.bool false, .slice xa (nl x.p).length xc, .slice xb (nl x.q).length xd] := by unfold cQ; rw [exa, exb]); (have hlx := hQ.one x (by simp)); (rw [exa, exb, hx1, hx2] at hlx); (rw [show ([x, y, z] : List RQ)[0] = x from rfl, eX, hx1, hx2] at hrowX); (obtain ⟨⟨ea, ec, eea⟩, ⟨eb, ed, eeb⟩⟩ := RQ.shape ⟨hl2, hm2⟩); (rw [eea, he2] at hl2); (rw [eeb, hq2] at hm2); (rw [he2] at eea); (rw [hq2] at eeb); (have hrX : Hd (RdR w5 (.agg #[.bool false, .slice xa (nl 1).length xc, .slice xb (nl 3).length xd]) false 1 3) := ⟨⟨_, _, rfl, Rd.of_own hlx.1, Rd.of_own hlx.2⟩⟩); (have hrE : Hd (RdR w5 (.agg #[.bool false, .slice ea (nl 2).length ec, .slice eb (nl 1).length ed]) false 2 1) := ⟨⟨_, _, rfl, Rd.of_own hl2, Rd.of_own hm2⟩⟩)
  have c15 : Hd (w5.cell? ⟨bt, 15, none⟩ = some (.slice (some ⟨gq, 0, none⟩) 3 cq)) := ⟨by
    obtain ⟨_, _, e9, h⟩ := hrow1.out
    cases e9
    rw [← ekv]
    exact h 1 r1.kv rfl⟩
  have hrowE : Hd (w5.rangeAt bt 33 [.bool false, .slice ea (nl 2).length ec, .slice eb (nl 1).length ed]) := ⟨fun j u hu => by
    obtain ⟨_, _, e9, h⟩ := hrow2.out
    cases e9
    rw [← eea, ← eeb] at hu
    match j, hu with
    | 0, hu => exact h 5 u hu
    | 1, hu => exact h 6 u hu
    | 2, hu => exact h 7 u hu
    | j + 3, hu => simp at hu⟩
  (have hrowX' : Hd (w5.rangeAt gq 0 [.bool false, .slice xa (nl 1).length xc, .slice xb (nl 3).length xd]) := ⟨by simpa using hrowX⟩); (obtain ⟨n1, hn1⟩ : ∃ l, (nl 1).length = l := ⟨_, rfl⟩); (obtain ⟨n2, hn2⟩ : ∃ l, (nl 2).length = l := ⟨_, rfl⟩); (obtain ⟨n3, hn3⟩ : ∃ l, (nl 3).length = l := ⟨_, rfl⟩); (rw [hn1, hn3] at hrX hrowX'); (rw [hn2, hn1] at hrE hrowE); (have d4 : w5.cell? ⟨gt, 4, none⟩ = some (.slice (some ⟨bt, 0, none⟩) 3 tc) := cell_at g5'.out rfl); (have d5 : w5.cell? ⟨gt, 5, none⟩ = some (.slice ua 2 uc) := cell_at g5'.out rfl); (have d15 := c15.out); (obtain ⟨w6, hw6, g6, k6⟩ := alloc_named w5 (.cells #[.int .i64 0, .int .i64 2] 3)); (obtain ⟨L6, hL6⟩ : ∃ l, w5.heap.size = l := ⟨_, rfl⟩); (rw [hL6] at g6); (have HE := eqz_any (.slice ua 2 uc) (.slice (some ⟨L6, 0, none⟩) 2 2) [0, 2] [0, 2] w6 (RdZ.kept hT5.out k6) (blk_RdZ [0, 2] 2 rfl (by decide) rfl g6)); (rw [show decide (([0, 2] : List Int) = [0, 2]) = true from rfl] at HE); (replace HE := hid HE); (have k06 := hid (k05.out.trans' k6)); (have k56 := hid k6); (replace hw6 := hid hw6); (replace hL6 := hid hL6); (clear hrow1 hrow2 hpq hQ hrowX exa exb eX hlx eea eeb hl2 hm2 hx1 hx2 hk1 he2 hq2 ekv hn1 hn2 hn3 g6 k6 hR5 hT5); (go_upto_region 3 with fail); (rw [← hw5.out]); (try rw [hgt.out]); (go_wp2_with fail); (rw [← hw6.out]); (try rw [hL6.out]); (refine HE.out.mono ?_); (rintro e w7 ⟨rfl, k7⟩); (have k57 := hid (k56.out.trans' k7.kept)); (have k07 := hid (k06.out.trans' k7.kept)); (clear d4 d5 d15 HE k7); (go_upto_region 5 with fail); (have c4 : Hd (w7.cell? ⟨gt, 4, none⟩ = some (.slice (some ⟨bt, 0, none⟩) 3 tc)) := ⟨k57.out.cell (cell_at g5'.out rfl) id⟩); (have c157 := hid (k57.out.cell c15.out id)); (have hrowX7 := hid (fun j u h => k57.out.cell (hrowX'.out j u h) id)); (have hrowX8 : Hd (w7.rangeAt gq 0 [.bool false, .slice xa n1 xc, .slice xb n3 xd]) := ⟨hrowX7.out⟩); (have hrowE7 : Hd (w7.rangeAt bt 33 [.bool false, .slice ea n2 ec, .slice eb n1 ed]) := ⟨fun j u h => k57.out.cell (hrowE.out j u h) id⟩); (have HF := hid (fun (W : World) => frac_any 1 3 1 3 1 W (by decide) (by decide) (by decide) (by decide) (by decide) (by decide) (by decide) (by decide))); (have HW := hid (fun (W : World) => whole_any 2 W (by decide) (by decide))); (have HQt := hid (fun (W : World) => quota_any 9 2 W (by decide) (by decide) (by decide))); (rw [show ((1 : Nat) : Int) = 1 from rfl, show ((3 : Nat) : Int) = 3 from rfl] at HF); (rw [show ((2 : Nat) : Int) = 2 from rfl] at HW); (rw [show ((9 : Nat) : Int) = 9 from rfl, show ((2 : Nat) : Int) = 2 from rfl, show ((9 / (2 + 1) + 1 : Nat) : Int) = 4 from by decide] at HQt); (have hrX7 := hid (hrX.out.kept k57.out)); (have hrE7 := hid (hrE.out.kept k57.out)); (refine region_flow (S := no) (Sl := (fun _ => no)) [Is (.pointer (some ⟨gt, 4, none⟩)), Is (.slice (some ⟨bt, 0, none⟩) 3 tc), Is (.pointer (some ⟨bt, 14, none⟩)), Is (.pointer (some ⟨bt, 15, none⟩)), Is (.slice (some ⟨gq, 0, none⟩) 3 cq), Is (.pointer (some ⟨gq, 0, none⟩)), Is (.agg #[.bool false, .slice xa n1 xc, .slice xb n3 xd]), PRQ 1 3, Is (.bool true), Is (.bool true), Is (.pointer (some ⟨gt, 4, none⟩)), Is (.slice (some ⟨bt, 0, none⟩) 3 tc), Is (.pointer (some ⟨bt, 28, none⟩)), Is (.pointer (some ⟨bt, 33, none⟩)), Is (.agg #[.bool false, .slice ea n2 ec, .slice eb n1 ed]), PRQ 2 1, Is (.bool true), Is (.bool true), Is (.bool true), Is (.int .i64 4), Is (.bool true), Is (.bool true), Is (.bool true)] [] (fun _ _ h => h) _ (by kernel_rfl) (by kernel_rfl) (by kernel_rfl) (by kernel_rfl) (fun x => by simp only [puts, Act.put, List.map_cons, List.map_nil, Nat.zero_add, Nat.reduceAdd, List.setIfInBounds_toArray, List.set_cons_zero, List.set_cons_succ]; exact rfl) ?_ ?_)
  · (skip); (refine .cons (fun x wf Kk hq hdep hold => ?_) ?_)
    · (try dsimp only); (clear hq hdep hold); (refine opv rfl ?_); (first | rfl | go_simp)
    refine .cons (fun x wf Kk hq hdep hold => ?_) ?_
    · (try dsimp only); (have h0 : x 0 = _ := hdep 0 (by kernel_rfl)); (clear hq hdep hold); (simp only [h0]); (clear h0); (have m1 := Kk.undrew.cell c4.out id); (refine opv rfl ?_); (first | rfl | go_simp)
    refine .cons (fun x wf Kk hq hdep hold => ?_) ?_
    · (try dsimp only); (have h1 : x 1 = _ := hdep 1 (by kernel_rfl)); (clear hq hdep hold); (simp only [h1]); (clear h1); (refine opv rfl ?_); (first | rfl | go_simp)
    refine .cons (fun x wf Kk hq hdep hold => ?_) ?_
    · (try dsimp only); (have h2 : x 2 = _ := hdep 2 (by kernel_rfl)); (clear hq hdep hold); (simp only [h2]); (clear h2); (refine opv rfl ?_); (first | rfl | go_simp)
    refine .cons (fun x wf Kk hq hdep hold => ?_) ?_
    · (try dsimp only); (have h3 : x 3 = _ := hdep 3 (by kernel_rfl)); (clear hq hdep hold); (simp only [h3]); (clear h3); (have m1 := Kk.undrew.cell c157.out id); (refine opv rfl ?_); (first | rfl | go_simp)
    refine .cons (fun x wf Kk hq hdep hold => ?_) ?_
    · (try dsimp only); (have h4 : x 4 = _ := hdep 4 (by kernel_rfl)); (clear hq hdep hold); (simp only [h4]); (clear h4); (refine opv rfl ?_); (first | rfl | go_simp)
    refine .cons (fun x wf Kk hq hdep hold => ?_) ?_
    · (try dsimp only); (have h5 : x 5 = _ := hdep 5 (by kernel_rfl)); (clear hq hdep hold); (simp only [h5]); (clear h5); (rw [if_pos (by rfl)]); (exact OpY.row 76 (.tmp 55) rfl gq (0) rfl [.bool false, .slice xa n1 xc, .slice xb n3 xd] _ (Kk.undrew.rng hrowX8.out) Tryz.underlying76 rfl (by kernel_rfl) ⟨Kept.refl _ _, rfl⟩)
    refine .cons (fun x wf Kk hq hdep hold => ?_) ?_
    · (try dsimp only); (clear hq hdep hold); (rw [if_pos (by rfl)]); (refine OpY.call (f := 101) (args := #[(.int .i64 1), (.int .i64 3)]) (by go_simp) ?_); (refine (HF.out wf).mono ?_); (intro e w7_ hF); (obtain ⟨y, rfl, h1, h2, h3, h4, h5⟩ := hF); (exact ⟨_, rfl, h5, y, rfl, h1, h2, h3, h4⟩)
    refine .cons (fun x wf Kk hq hdep hold => ?_) ?_
    · (try dsimp only); (have h6 : x 6 = _ := hdep 6 (by kernel_rfl)); (have p7 : Pr.p (Sl := (fun _ => no)) (PRQ 1 3) (x 7) wf := hdep 7 (by kernel_rfl)); (clear hq hdep hold); (simp only [h6]); (clear h6); (rw [if_pos (by rfl)]); (obtain ⟨y, e9, h1, h2, h3, h4⟩ := p7); (have hr : RdR wf (x 7) false y.p y.q := by rw [e9]; exact ⟨_, _, rfl, Rd.of_own h3, Rd.of_own h4⟩); (rw [h1, h2] at hr); (refine OpY.call (f := 100) (args := #[(.agg #[.bool false, .slice xa n1 xc, .slice xb n3 xd]), x 7]) (by go_simp) ?_); (refine (eqr_any _ _ 1 3 wf (hrX7.out.kept Kk.undrew) hr).mono ?_); (rintro e w7_ ⟨rfl, h⟩); (exact ⟨_, rfl, h, rfl⟩)
    refine .cons (fun x wf Kk hq hdep hold => ?_) ?_
    · (try dsimp only); (have h8 : x 8 = _ := hdep 8 (by kernel_rfl)); (clear hq hdep hold); (simp only [h8]); (clear h8); (refine opv rfl ?_); (first | rfl | go_simp)
    refine .cons (fun x wf Kk hq hdep hold => ?_) ?_
    · (try dsimp only); (have h9 : x 9 = _ := hdep 9 (by kernel_rfl)); (clear hq hdep hold); (simp only [h9]); (clear h9); (refine opv rfl ?_); (first | rfl | go_simp)
    refine .cons (fun x wf Kk hq hdep hold => ?_) ?_
    · (try dsimp only); (have h10 : x 10 = _ := hdep 10 (by kernel_rfl)); (have h9 : x 9 = _ := hdep 9 (by kernel_rfl)); (clear hq hdep hold); (simp only [h10, h9]); (clear h10 h9); (have m1 := Kk.undrew.cell c4.out id); (refine opv rfl ?_); (first | rfl | go_simp)
    refine .cons (fun x wf Kk hq hdep hold => ?_) ?_
    · (try dsimp only); (have h11 : x 11 = _ := hdep 11 (by kernel_rfl)); (have h9 : x 9 = _ := hdep 9 (by kernel_rfl)); (clear hq hdep hold); (simp only [h11, h9]); (clear h11 h9); (refine opv rfl ?_); (first | rfl | go_simp)
    refine .cons (fun x wf Kk hq hdep hold => ?_) ?_
    · (try dsimp only); (have h12 : x 12 = _ := hdep 12 (by kernel_rfl)); (have h9 : x 9 = _ := hdep 9 (by kernel_rfl)); (clear hq hdep hold); (simp only [h12, h9]); (clear h12 h9); (refine opv rfl ?_); (first | rfl | go_simp)
    refine .cons (fun x wf Kk hq hdep hold => ?_) ?_
    · (try dsimp only); (have h13 : x 13 = _ := hdep 13 (by kernel_rfl)); (have h9 : x 9 = _ := hdep 9 (by kernel_rfl)); (clear hq hdep hold); (simp only [h13, h9]); (clear h13 h9); (rw [if_pos (by rfl)]); (exact OpY.row 76 (.tmp 63) rfl bt (33) rfl [.bool false, .slice ea n2 ec, .slice eb n1 ed] _ (Kk.undrew.rng hrowE7.out) Tryz.underlying76 rfl (by kernel_rfl) ⟨Kept.refl _ _, rfl⟩)
    refine .cons (fun x wf Kk hq hdep hold => ?_) ?_
    · (try dsimp only); (have h9 : x 9 = _ := hdep 9 (by kernel_rfl)); (clear hq hdep hold); (simp only [h9]); (clear h9); (rw [if_pos (by rfl)]); (refine OpY.call (f := 102) (args := #[(.int .i64 2)]) (by go_simp) ?_); (refine (HW.out wf).mono ?_); (intro e w7_ hF); (obtain ⟨y, rfl, h1, h2, h3, h4, h5⟩ := hF); (exact ⟨_, rfl, h5, y, rfl, h1, h2, h3, h4⟩)
    refine .cons (fun x wf Kk hq hdep hold => ?_) ?_
    · (try dsimp only); (have h14 : x 14 = _ := hdep 14 (by kernel_rfl)); (have p15 : Pr.p (Sl := (fun _ => no)) (PRQ 2 1) (x 15) wf := hdep 15 (by kernel_rfl)); (have h9 : x 9 = _ := hdep 9 (by kernel_rfl)); (clear hq hdep hold); (simp only [h14, h9]); (clear h14 h9); (rw [if_pos (by rfl)]); (obtain ⟨y, e9, h1, h2, h3, h4⟩ := p15); (have hr : RdR wf (x 15) false y.p y.q := by rw [e9]; exact ⟨_, _, rfl, Rd.of_own h3, Rd.of_own h4⟩); (rw [h1, h2] at hr); (refine OpY.call (f := 100) (args := #[(.agg #[.bool false, .slice ea n2 ec, .slice eb n1 ed]), x 15]) (by go_simp) ?_); (refine (eqr_any _ _ 2 1 wf (hrE7.out.kept Kk.undrew) hr).mono ?_); (rintro e w7_ ⟨rfl, h⟩); (exact ⟨_, rfl, h, rfl⟩)
    refine .cons (fun x wf Kk hq hdep hold => ?_) ?_
    · (try dsimp only); (have h9 : x 9 = _ := hdep 9 (by kernel_rfl)); (have h16 : x 16 = _ := hdep 16 (by kernel_rfl)); (clear hq hdep hold); (simp only [h9, h16]); (clear h9 h16); (refine opv rfl ?_); (first | rfl | go_simp)
    refine .cons (fun x wf Kk hq hdep hold => ?_) ?_
    · (try dsimp only); (have h17 : x 17 = _ := hdep 17 (by kernel_rfl)); (clear hq hdep hold); (simp only [h17]); (clear h17); (refine opv rfl ?_); (first | rfl | go_simp)
    refine .cons (fun x wf Kk hq hdep hold => ?_) ?_
    · (try dsimp only); (have h18 : x 18 = _ := hdep 18 (by kernel_rfl)); (clear hq hdep hold); (simp only [h18]); (clear h18); (rw [if_pos (by rfl)]); (refine OpY.call (f := 56) (args := #[(.int .i64 9), (.int .i64 2)]) (by go_simp) ?_); (refine (HQt.out wf).mono ?_); (rintro e w7_ ⟨rfl, rfl⟩); (exact ⟨_, rfl, Kept.refl _ _, rfl⟩)
    refine .cons (fun x wf Kk hq hdep hold => ?_) ?_
    · (try dsimp only); (have h19 : x 19 = _ := hdep 19 (by kernel_rfl)); (have h18 : x 18 = _ := hdep 18 (by kernel_rfl)); (clear hq hdep hold); (simp only [h19, h18]); (clear h19 h18); (refine opv rfl ?_); (first | rfl | go_simp)
    refine .cons (fun x wf Kk hq hdep hold => ?_) ?_
    · (try dsimp only); (have h18 : x 18 = _ := hdep 18 (by kernel_rfl)); (have h20 : x 20 = _ := hdep 20 (by kernel_rfl)); (clear hq hdep hold); (simp only [h18, h20]); (clear h18 h20); (refine opv rfl ?_); (first | rfl | go_simp)
    refine .cons (fun x wf Kk hq hdep hold => ?_) ?_
    · (try dsimp only); (have h21 : x 21 = _ := hdep 21 (by kernel_rfl)); (clear hq hdep hold); (simp only [h21]); (clear h21); (refine opv rfl ?_); (first | rfl | go_simp)
    exact .nil _
  · (intro x wf Kk hv); (try dsimp only); (have h22 : x 22 = _ := hv 22 (by kernel_rfl)); (clear hv); (simp only [h22]); (clear h22); (have kk := hid Kk.undrew); (clear Kk); (go_wp2); (go_ret); (exact ⟨rfl, k07.out.trans' kk.out⟩)
end Go.Proofs.YtaobaaaihgahfaaGreat
