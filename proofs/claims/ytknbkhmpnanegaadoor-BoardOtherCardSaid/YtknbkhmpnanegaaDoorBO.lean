/- electionlaw23.BoardOther (printed by gen_bo.py). -/
import Derived.Test.YtknbkhmpnanegaaDoorBO1
namespace Go.Proofs.YtknbkhmpnanegaaDoor
open Go.RowKit Go.Mk Go.Sha Go.Brd
theorem ents_set (qs : List (Ent × Value)) (k : Nat) (x : Ent) (vx : Value) : ents (qs.set k (x, vx)) = (ents qs).set k x := by simp [ents, List.map_set]
theorem inc_other (qs : List (Ent × Value)) (j : Nat) (hj : j < qs.length) (x : Ent) (vx : Value) : incI (rootD (ents qs)) (qs.length : Int) (j : Int) x (proveD (ents qs) j) = (rootD (ents (qs.set j (x, vx))) == rootD (ents qs)) := by
  have h := climb_other (ents qs) j (by rw [ents_length]; exact hj) x
  rw [ents_length] at h
  unfold incI
  rw [if_pos (by omega)]
  unfold includedD
  rw [Int.toNat_natCast, Int.toNat_natCast, h, ents_set]
  simp
theorem rem_place (i : Int) (q : Nat) (h : 0 < q) (h12 : q ≤ 12) : ∃ k : Nat, k < q ∧ IntKind.i64.wrap (i.tmod q) = i.tmod q ∧ IntKind.i64.wrap (i.tmod q + q) = i.tmod q + q ∧ IntKind.i64.wrap ((i.tmod q + q).tmod q) = (i.tmod q + q).tmod q ∧ (i.tmod q + q).tmod q = (k : Int) := by
  have h1 := Int.tmod_lt_of_pos i (show (0 : Int) < (q : Int) by omega)
  have h2 : -(q : Int) < i.tmod q := Int.lt_tmod_of_pos i (by omega)
  have h3 : 0 ≤ (i.tmod q + q).tmod q := Int.tmod_nonneg _ (by omega)
  have h4 := Int.tmod_lt_of_pos (i.tmod q + q) (show (0 : Int) < (q : Int) by omega)
  refine ⟨((i.tmod q + q).tmod q).toNat, by omega, IntWalk.i64_in _ (by omega), IntWalk.i64_in _ (by omega), IntWalk.i64_in _ (by omega), by omega⟩
theorem sem {ops : Array Oper} {rest : List Oper} {o : Oper} {a : Act} {w : World} {Q : Exit → Act → World → Prop} (hgd : o.guard = none) (x y : Operand) (ho : o.op = .store 47 x y) (b of : Nat) (hx : a.eval x = .pointer (some ⟨b, of, none⟩)) (e : Ent) (vb : Value) (hy : a.eval y = Ev e vb) (ht : w.there b of 35) {w0 : World} (hE : OkE w0 e vb)
    (h : wpList Tryd.prog ops Q rest (a.put o.dst undef) (w.setCells b of (entC e vb))) : wpList Tryd.prog ops Q (o :: rest) a w :=
  wpList_store_mid hgd 47 x y ho b of (entC e vb).toArray hx hy (by rw [List.size_toArray, entC_length hE.1]; exact ht) (infE hE) (all_oneCell_toArray hE.one) h
set_option maxRecDepth 100000 in
set_option maxHeartbeats 4000000 in
theorem boardother_any (v : Value) (ns : List (Int × List UInt8 × Value)) (i : Int) (e : Ent) (vb : Value) (w : World) (hns : ns.length ≤ 9223372036854775807) (hrn : RdN w v ns) (hp : e.prev.length = 32) (hl : e.body.length ≤ 9223372036854775807) (hr : Rd w 1 vb e.body.length (e.body.map B)) (hT : Tab w) (hR : TabR w) :
    Calls Tryd.prog 8 #[v, .int .i64 i, Ev e vb] w fun ed w' => ed = .returned (.bool true) ∧ Kept no w w' := by
  obtain ⟨ao, cap, rfl⟩ := Rd.shapeZ hr
  have hr60 := Rd.cut hr 20
  have hcap : e.body.length ≤ cap := by obtain ⟨_, _, _, e, h1, _⟩ := hr; cases e; exact h1
  obtain ⟨n, hn⟩ : ∃ n, e.body.length = n := ⟨_, rfl⟩
  rw [hn] at hr60 hl hcap
  have hq : (if 20 < (n : Int) then (20 : Int) else (n : Int)) = ((min n 20 : Nat) : Int) := by split <;> omega
  have hqm : min (n : Int) 20 = ((min n 20 : Nat) : Int) := by omega
  have hqc : ((min n 20 : Nat) : Int) ≤ (cap : Int) := by omega
  have hq0 : (0 : Int) ≤ ((min n 20 : Nat) : Int) := by omega
  obtain ⟨e', he'⟩ : ∃ e' : Ent, (⟨e.number, e.kind, e.body.take 20, e.prev⟩ : Ent) = e' := ⟨_, rfl⟩
  have hE : Hd (OkE w e' (.slice ao (min n 20) cap)) := ⟨by rw [← he']; exact ⟨hp, by simp; omega, hr60⟩⟩
  have hcells : Hd ((entC e (.slice ao n cap)).toArray.setIfInBounds 2 (.slice ao (min n 20) cap) = (entC e' (.slice ao (min n 20) cap)).toArray) := ⟨by rw [← he']; rfl⟩
  have hl2 : Hd ((entC e (.slice ao n cap))[2]? = some (.slice ao n cap)) := ⟨rfl⟩
  obtain ⟨L, hL⟩ : ∃ L, entC e (.slice ao n cap) = L := ⟨_, rfl⟩
  rw [hn]
  have hDg : Ev e (.slice ao n cap) = .agg L.toArray := by rw [← hL]; rfl
  rw [hDg]
  clear hDg
  rw [hL] at hcells hl2
  generalize min n 20 = nb at hr60 hq hqm hqc hq0 hE hcells
  clear hr hr60 hn he' hp hL
  have HM := hid (fun W (k : Kept no w W) => make_any v ns W hns (hrn.kept k) (hR.kept k))
  replace hT := hid hT
  replace hR := hid hR
  clear hrn
  go_enter Tryd.func8, Tryd.ntmps8
  go_upto_region 1 with fail
  obtain ⟨w1, hw1, g0, k1⟩ := ent1_block w L
  rw [← hw1]
  clear hw1
  replace g0 := hid g0
  replace k1 := hid k1
  go_wp2_with fail
  refine (HM.out w1 k1.out).mono ?_
  rintro ed w2 ⟨v2, qs, rfl, hM, k2, hN⟩
  clear HM
  have g2 := k2.blk g0.out
  have hgw : w.heap.size < w1.heap.size := lt_of_heap g0.out
  have hMg : ∀ w3, Kept (fun j => j = w.heap.size) w2 w3 → Mkd w3 v2 qs := fun w3 k => ⟨hM.1, k.ownsRow hM.2.1 (fun j hj h => by
      have h : j = w.heap.size := h
      rcases hN with h0 | ⟨b, h0, hb⟩
      · rw [h0] at hj; cases hj
      · rw [h0] at hj; cases hj; omega), fun q hq => (hM.2.2 q hq).kept k fun j hj h => by
        have h : j = w.heap.size := h
        subst h
        exact (hM.2.2 q hq).ne g2 (by decide) _ hj rfl⟩
  have h12 := hM.1
  obtain ⟨al, cl, rfl, hcl⟩ := hM.rd.shape
  obtain ⟨q, hq'⟩ : ∃ q, qs.length = q := ⟨_, rfl⟩
  have K2 := hid (k1.out.trans' k2)
  replace hMg := hid hMg
  rw [hq'] at hMg h12 hcl ⊢
  have c2 : w2.cell? ⟨w.heap.size, 2, none⟩ = some (.slice ao n cap) := by rw [cell_of_row w2 _ 2 _ _ _ g2]; simpa using hl2.out
  have f2 : w2.frozen? ⟨w.heap.size, 2, none⟩ = false := row_free g2 2
  have g1 : Hd ((w2.setCell ⟨w.heap.size, 2, none⟩ (.slice ao nb cap)).heap[w.heap.size]? = some (.cells (entC e' (.slice ao nb cap)).toArray 47 (0, 0))) := ⟨by rw [setCell_row g2, hcells.out]⟩
  have K1 := hid (K2.out.setCell (a := ⟨w.heap.size, 2, none⟩) (.inr (Nat.le_refl _)) (.slice ao nb cap))
  have hM3 := hid (hMg.out _ ((Kept.refl (fun j => j = w.heap.size) w2).setCell (a := ⟨w.heap.size, 2, none⟩) (.inl rfl) (.slice ao nb cap)))
  clear g2 k1 k2 hcells hl2 hM hN hMg g0 K2
  go_upto_region 3 with fail
  generalize w2.setCell ⟨w.heap.size, 2, none⟩ (.slice ao nb cap) = w3 at g1 K1 hM3 ⊢
  clear c2 f2
  have HAW := hid (fun W (k : Kept no w3 W) => awake23_any W (hT.out.kept (K1.out.trans' k)))
  by_cases hz : q = 0
  · subst hz
    go_wp2_with fail
    refine (HAW.out _ (Kept.refl _ _)).mono ?_
    rintro ed w4 ⟨rfl, k4⟩
    have K4 := hid (K1.out.trans' k4)
    clear k4
    go_wp2_with fail
    go_ret
    exact ⟨rfl, K4.out⟩
  obtain ⟨k, hkq, r1, r2, r3, r4⟩ := rem_place i q (by omega) h12
  have hq1 : ¬ (q : Int) = 0 := by omega
  have hqb : ((q : Int) == 0) = false := by simpa using hz
  go_upto_region 6 with fail

  clear r1 r2 r3 r4
  have hk1 : (k : Int) < (q : Int) := by omega
  have hk0 : (0 : Int) ≤ (k : Int) := by omega
  have hkl : k < qs.length := by omega
  have HRP := hid (refprove_any qs k (.slice al qs.length cl) w3 hkl (by omega) (by rw [hq']; exact hM3.out.rd) (hR.out.kept K1.out))
  have hPl := hid (proveD_len (ents qs) k)
  have hPc : Hd ((proveD (ents qs) k).length ≤ 1000) := ⟨by have := proveD_count (ents qs) k; rw [ents_length] at this; omega⟩
  have hinc := inc_other qs k hkl e' (.slice ao nb cap)
  rw [hq'] at hinc HRP
  have hone : Hd (∀ u ∈ flatE qs, u.oneCell' = true) := ⟨fun u hu => by
    obtain ⟨p, hp, hu⟩ := List.mem_flatMap.1 hu
    exact (hM3.out.2.2 p hp).ok.one u hu⟩
  replace hinc := hid hinc
  replace hq' := hid hq'
  replace hkl := hid hkl
  have hsz3 : w.heap.size < w3.heap.size := lt_of_heap g1.out
  go_wp2_with fail
  refine HRP.out.mono ?_
  rintro ed w4 ⟨vp, rfl, op, k4, _⟩
  have hpp := hid (own_RdD op hPl.out)
  have hM4 := hid (hM3.out.keptNo k4)
  have hrd4 : Hd (Rd w4 35 (.slice al q cl) q (flatE qs)) := ⟨by have := Rd.of_own hM4.out.2.1; rwa [hq'.out] at this⟩
  have hsz4 : w.heap.size < w4.heap.size := Nat.lt_of_lt_of_le hsz3 k4.size
  replace k4 := hid k4
  clear op hM3 HRP
  go_wp2_with (at_builtin; refine wpList_append _ rfl _ _ 42 rfl 47 35 72 TEnts _ 0 [] rfl (World.ownsRow_nil _ _ _ _) _ q (flatE qs) rfl hrd4.out hone.out ?a1 ?a2 ?_)
  case a1 => unfold maxLen; omega
  case a2 => omega
  intro v6 w6 ho6 hk6 hn6 _
  have k6 := hk6.ob_nil
  try rw [Nat.zero_add, List.nil_append] at ho6
  have hrd6 := Rd.of_own ho6
  obtain ⟨_, ⟨_, h0⟩ | ⟨g, c, cur, rfl, _, hb6, hq6, _, hcs, _⟩⟩ := ho6
  · exact absurd h0 hz
  have hg : w4.heap.size ≤ g := by
    rcases hn6 with h | ⟨j, h, hj⟩
    · cases h
    · cases h; exact hj
  have hb6' : w6.heap[g]? = some (.cells cur.toList.toArray 47 (0, 0)) := by simpa using hb6
  have hcl6 : qs.length * 35 ≤ cur.toList.length := by
    have h : cur.toList.length = c * 35 := by simpa using hcs
    rw [h, hq'.out]; omega
  have ht6 := hid (there_of hb6' (k * 35) 35 (by have := hkl.out; omega))
  have hE6 := hid (hE.out.kept (K1.out.trans' (k4.out.trans' k6)))
  have g6 := hid (k6.blk (k4.out.blk g1.out))
  have K47 := hid (k6.setCells (g := g) (.inr hg) (k * 35) (entC e' (.slice ao nb cap)))
  have hRM : Hd (RdE (w6.setCells g (k * 35) (entC e' (.slice ao nb cap))) (.slice (some ⟨g, 0, none⟩) q c) (qs.set k (e', .slice ao nb cap))) := ⟨by
    have := RdE.set (w := w6) (g := g) (cap := c) (ps := qs) ⟨fun p hp => (hM4.out.2.2 p hp).ok.kept k6, by rw [hq'.out]; exact hrd6⟩ hb6' hcl6 k hkl.out e' (.slice ao nb cap) hE6.out.1 (hE.out.kept (K1.out.trans' (k4.out.trans' K47.out))) (fun p hp => (hM4.out.2.2 p hp).ok.kept K47.out)
    rwa [hq'.out] at this⟩
  have hqk : (q : Int) ≤ (c : Int) := by omega
  clear hrd6 hb6 hb6' hcl6 hcs hn6 hk6 k6 hrd4
  go_wp2_with (first | (with_reducible refine Go.Proofs.YtknbkhmpnanegaaDoor.le rfl _ rfl w.heap.size rfl e' (.slice ao nb cap) g6.out hE6.out ?_) | (refine sem rfl _ _ rfl g (k * 35) ?b1 e' (.slice ao nb cap) rfl ht6.out hE6.out ?_; case b1 => go_simp))
  generalize w6.setCells g (k * 35) (entC e' (.slice ao nb cap)) = w7 at K47 hRM ⊢
  have kk3 := hid (K1.out.trans' (k4.out.trans' K47.out))
  have hok7 := hid (hE.out.kept kk3.out)
  have gx7 := hid (K47.out.blk (k4.out.blk g1.out))
  have hM7 := hid (hM4.out.keptNo K47.out)
  have hp7 := hid (hpp.out.kept K47.out)
  have HA := hid (fun W (k : Kept no w7 W) => awake23_any W (hT.out.kept (kk3.out.trans' k)))
  have HL := hid (fun W (kz : Kept no w7 W) => refroot_any qs (.slice al qs.length cl) W (by rw [hq'.out]; omega) (by rw [hq'.out]; exact (hM7.out.rd.kept kz)) (hR.out.kept (kk3.out.trans' kz)))
  have HX := hid (fun W (kz : Kept no w7 W) => refroot_any (qs.set k (e', .slice ao nb cap)) (.slice (some ⟨g, 0, none⟩) q c) W (by rw [List.length_set, hq'.out]; omega) (hRM.out.kept kz) (hR.out.kept (kk3.out.trans' kz)))
  have HI := hid (fun W (kz : Kept no w7 W) => included_any (rootD (ents qs)) (q : Int) (k : Int) e' (.slice ao nb cap) vp (proveD (ents qs) k) W (rootD_length _) (by omega) (hok7.out.kept kz) hPc.out (hp7.out.kept kz) (hT.out.kept (kk3.out.trans' kz)))
  rw [hinc.out] at HI
  rw [hq'.out] at HL
  have l1 := hid (rootD_length (ents qs))
  have l2 := hid (rootD_length (ents (qs.set k (e', .slice ao nb cap))))
  generalize rootD (ents qs) = RL at HI HL l1
  generalize rootD (ents (qs.set k (e', .slice ao nb cap))) = RM at HI HX l2
  obtain ⟨bi, hbi⟩ : ∃ bi, (RM == RL) = bi := ⟨_, rfl⟩
  rw [hbi] at HI
  have heq := eqlDg RM RL l2.out l1.out bi hbi
  have hgd := guard_digest
  clear hbi hinc hRM hM4 hpp g6 hE6 ht6 hone hPl hPc hp7 hM7
  go_upto_region 9 with fail

  refine region_flow (S := no) (Sl := (fun _ => no)) [Is (.bool true), Is (.bool true), Is (.slice al q cl), Is (Dg RL), Is (.slice al q cl), Is (.int .i64 (q : Int)), Is (.int .i64 (k : Int)), Is (Ev e' (.slice ao nb cap)), Is (vp), Is (.bool bi), Is (.slice (some ⟨g, 0, none⟩) q c), Is (Dg RM), Is (.slice al q cl), Is (Dg RL), Is (.bool bi), Is (.bool true), Is (.bool true), Is (.bool true)] [] (fun _ _ h => h) _ (by kernel_rfl) (by kernel_rfl) (by kernel_rfl) (by kernel_rfl) (fun x => by simp only [puts, Act.put, List.map_cons, List.map_nil, Nat.zero_add, Nat.reduceAdd, List.setIfInBounds_toArray, List.set_cons_zero, List.set_cons_succ]; exact rfl) ?_ ?_
  · skip
    refine Steps.cons (fun x wf Kk hq hdep hold => ?_) ?_
    · try dsimp only
      clear hq hdep hold
      rw [if_pos (by rfl)]
      refine OpY.call (f := 30) (args := #[]) (by go_simp) ?_
      refine (HA.out wf Kk.undrew).mono ?_
      rintro e w2 ⟨rfl, k2⟩
      exact ⟨_, rfl, k2, rfl⟩
    refine Steps.cons (fun x wf Kk hq hdep hold => ?_) ?_
    · try dsimp only
      have h0 : x 0 = (.bool true) := hdep 0 (by kernel_rfl)
      clear hq hdep hold
      simp only [h0]
      clear h0
      rw [if_pos (by rfl)]
      refine OpY.val (v := (.bool true)) ?_ ⟨Kept.refl _ _, rfl⟩
      first | rfl | go_simp
    refine Steps.cons (fun x wf Kk hq hdep hold => ?_) ?_
    · try dsimp only
      have h1 : x 1 = (.bool true) := hdep 1 (by kernel_rfl)
      clear hq hdep hold
      simp only [h1]
      clear h1
      rw [if_pos (by rfl)]
      refine OpY.val (v := (.slice al q cl)) ?_ ⟨Kept.refl _ _, rfl⟩
      first | rfl | go_simp
    refine Steps.cons (fun x wf Kk hq hdep hold => ?_) ?_
    · try dsimp only
      have h2 : x 2 = (.slice al q cl) := hdep 2 (by kernel_rfl)
      have h1 : x 1 = (.bool true) := hdep 1 (by kernel_rfl)
      clear hq hdep hold
      simp only [h2, h1]
      clear h2 h1
      rw [if_pos (by rfl)]
      refine OpY.call (f := 38) (args := #[(.slice al q cl)]) (by go_simp) ?_
      refine (HL.out wf Kk.undrew).mono ?_
      rintro e w2 ⟨rfl, k2⟩
      exact ⟨_, rfl, k2, rfl⟩
    refine Steps.cons (fun x wf Kk hq hdep hold => ?_) ?_
    · try dsimp only
      have h1 : x 1 = (.bool true) := hdep 1 (by kernel_rfl)
      clear hq hdep hold
      simp only [h1]
      clear h1
      rw [if_pos (by rfl)]
      refine OpY.val (v := (.slice al q cl)) ?_ ⟨Kept.refl _ _, rfl⟩
      first | rfl | go_simp
    refine Steps.cons (fun x wf Kk hq hdep hold => ?_) ?_
    · try dsimp only
      have h4 : x 4 = (.slice al q cl) := hdep 4 (by kernel_rfl)
      have h1 : x 1 = (.bool true) := hdep 1 (by kernel_rfl)
      clear hq hdep hold
      simp only [h4, h1]
      clear h4 h1
      rw [if_pos (by rfl)]
      refine OpY.val (v := (.int .i64 (q : Int))) ?_ ⟨Kept.refl _ _, rfl⟩
      first | rfl | go_simp
    refine Steps.cons (fun x wf Kk hq hdep hold => ?_) ?_
    · try dsimp only
      have h1 : x 1 = (.bool true) := hdep 1 (by kernel_rfl)
      clear hq hdep hold
      simp only [h1]
      clear h1
      rw [if_pos (by rfl)]
      refine OpY.val (v := (.int .i64 (k : Int))) ?_ ⟨Kept.refl _ _, rfl⟩
      first | rfl | go_simp
    refine Steps.cons (fun x wf Kk hq hdep hold => ?_) ?_
    · try dsimp only
      have h1 : x 1 = (.bool true) := hdep 1 (by kernel_rfl)
      clear hq hdep hold
      simp only [h1]
      clear h1
      rw [if_pos (by rfl)]
      exact OpY.row 47 (.tmp 5) rfl w.heap.size 0 rfl (entC e' (.slice ao nb cap)) _ (range_row (Kk.undrew.blk gx7.out)) Tryd.underlying47 rfl (infEl hok7.out) ⟨Kept.refl _ _, rfl⟩
    refine Steps.cons (fun x wf Kk hq hdep hold => ?_) ?_
    · try dsimp only
      have h1 : x 1 = (.bool true) := hdep 1 (by kernel_rfl)
      clear hq hdep hold
      simp only [h1]
      clear h1
      rw [if_pos (by rfl)]
      refine OpY.val (v := (vp)) ?_ ⟨Kept.refl _ _, rfl⟩
      first | rfl | go_simp
    refine Steps.cons (fun x wf Kk hq hdep hold => ?_) ?_
    · try dsimp only
      have h3 : x 3 = (Dg RL) := hdep 3 (by kernel_rfl)
      have h5 : x 5 = (.int .i64 (q : Int)) := hdep 5 (by kernel_rfl)
      have h6 : x 6 = (.int .i64 (k : Int)) := hdep 6 (by kernel_rfl)
      have h7 : x 7 = (Ev e' (.slice ao nb cap)) := hdep 7 (by kernel_rfl)
      have h8 : x 8 = (vp) := hdep 8 (by kernel_rfl)
      have h1 : x 1 = (.bool true) := hdep 1 (by kernel_rfl)
      clear hq hdep hold
      simp only [h3, h5, h6, h7, h8, h1]
      clear h3 h5 h6 h7 h8 h1
      rw [if_pos (by rfl)]
      refine OpY.call (f := 37) (args := #[(Dg RL), (.int .i64 (q : Int)), (.int .i64 (k : Int)), (Ev e' (.slice ao nb cap)), (vp)]) (by go_simp) ?_
      refine (HI.out wf Kk.undrew).mono ?_
      rintro e w2 ⟨rfl, k2⟩
      exact ⟨_, rfl, k2, rfl⟩
    refine Steps.cons (fun x wf Kk hq hdep hold => ?_) ?_
    · try dsimp only
      have h1 : x 1 = (.bool true) := hdep 1 (by kernel_rfl)
      clear hq hdep hold
      simp only [h1]
      clear h1
      rw [if_pos (by rfl)]
      refine OpY.val (v := (.slice (some ⟨g, 0, none⟩) q c)) ?_ ⟨Kept.refl _ _, rfl⟩
      first | rfl | go_simp
    refine Steps.cons (fun x wf Kk hq hdep hold => ?_) ?_
    · try dsimp only
      have h10 : x 10 = (.slice (some ⟨g, 0, none⟩) q c) := hdep 10 (by kernel_rfl)
      have h1 : x 1 = (.bool true) := hdep 1 (by kernel_rfl)
      clear hq hdep hold
      simp only [h10, h1]
      clear h10 h1
      rw [if_pos (by rfl)]
      refine OpY.call (f := 38) (args := #[(.slice (some ⟨g, 0, none⟩) q c)]) (by go_simp) ?_
      refine (HX.out wf Kk.undrew).mono ?_
      rintro e w2 ⟨rfl, k2⟩
      exact ⟨_, rfl, k2, rfl⟩
    refine Steps.cons (fun x wf Kk hq hdep hold => ?_) ?_
    · try dsimp only
      have h1 : x 1 = (.bool true) := hdep 1 (by kernel_rfl)
      clear hq hdep hold
      simp only [h1]
      clear h1
      rw [if_pos (by rfl)]
      refine OpY.val (v := (.slice al q cl)) ?_ ⟨Kept.refl _ _, rfl⟩
      first | rfl | go_simp
    refine Steps.cons (fun x wf Kk hq hdep hold => ?_) ?_
    · try dsimp only
      have h12 : x 12 = (.slice al q cl) := hdep 12 (by kernel_rfl)
      have h1 : x 1 = (.bool true) := hdep 1 (by kernel_rfl)
      clear hq hdep hold
      simp only [h12, h1]
      clear h12 h1
      rw [if_pos (by rfl)]
      refine OpY.call (f := 38) (args := #[(.slice al q cl)]) (by go_simp) ?_
      refine (HL.out wf Kk.undrew).mono ?_
      rintro e w2 ⟨rfl, k2⟩
      exact ⟨_, rfl, k2, rfl⟩
    refine Steps.cons (fun x wf Kk hq hdep hold => ?_) ?_
    · try dsimp only
      have h11 : x 11 = (Dg RM) := hdep 11 (by kernel_rfl)
      have h13 : x 13 = (Dg RL) := hdep 13 (by kernel_rfl)
      have h1 : x 1 = (.bool true) := hdep 1 (by kernel_rfl)
      clear hq hdep hold
      simp only [h11, h13, h1]
      clear h11 h13 h1
      rw [if_pos (by rfl)]
      refine OpY.val (v := (.bool bi)) ?_ ⟨Kept.refl _ _, rfl⟩
      have heq' := heq
      unfold Dg at heq' ⊢
      generalize RM.map B = LM at heq' ⊢
      generalize RL.map B = LL at heq' ⊢
      clear heq
      go_simp
    refine Steps.cons (fun x wf Kk hq hdep hold => ?_) ?_
    · try dsimp only
      have h9 : x 9 = (.bool bi) := hdep 9 (by kernel_rfl)
      have h14 : x 14 = (.bool bi) := hdep 14 (by kernel_rfl)
      have h1 : x 1 = (.bool true) := hdep 1 (by kernel_rfl)
      clear hq hdep hold
      simp only [h9, h14, h1]
      clear h9 h14 h1
      rw [if_pos (by rfl)]
      refine OpY.val (v := (.bool true)) ?_ ⟨Kept.refl _ _, rfl⟩
      first | rfl | go_simp
    refine Steps.cons (fun x wf Kk hq hdep hold => ?_) ?_
    · try dsimp only
      have h1 : x 1 = (.bool true) := hdep 1 (by kernel_rfl)
      have h15 : x 15 = (.bool true) := hdep 15 (by kernel_rfl)
      clear hq hdep hold
      simp only [h1, h15]
      clear h1 h15
      rw [if_pos (by rfl)]
      refine OpY.val (v := (.bool true)) ?_ ⟨Kept.refl _ _, rfl⟩
      first | rfl | go_simp
    refine Steps.cons (fun x wf Kk hq hdep hold => ?_) ?_
    · try dsimp only
      have h16 : x 16 = (.bool true) := hdep 16 (by kernel_rfl)
      clear hq hdep hold
      simp only [h16]
      clear h16
      rw [if_pos (by rfl)]
      refine OpY.val (v := (.bool true)) ?_ ⟨Kept.refl _ _, rfl⟩
      first | rfl | go_simp
    exact Steps.nil _
  · intro x wf Kk hv
    try dsimp only
    have h0 : x 0 = (.bool true) := hv 0 (by kernel_rfl)
    have h1 : x 1 = (.bool true) := hv 1 (by kernel_rfl)
    have h2 : x 2 = (.slice al q cl) := hv 2 (by kernel_rfl)
    have h3 : x 3 = (Dg RL) := hv 3 (by kernel_rfl)
    have h4 : x 4 = (.slice al q cl) := hv 4 (by kernel_rfl)
    have h5 : x 5 = (.int .i64 (q : Int)) := hv 5 (by kernel_rfl)
    have h6 : x 6 = (.int .i64 (k : Int)) := hv 6 (by kernel_rfl)
    have h7 : x 7 = (Ev e' (.slice ao nb cap)) := hv 7 (by kernel_rfl)
    have h8 : x 8 = (vp) := hv 8 (by kernel_rfl)
    have h9 : x 9 = (.bool bi) := hv 9 (by kernel_rfl)
    have h10 : x 10 = (.slice (some ⟨g, 0, none⟩) q c) := hv 10 (by kernel_rfl)
    have h11 : x 11 = (Dg RM) := hv 11 (by kernel_rfl)
    have h12 : x 12 = (.slice al q cl) := hv 12 (by kernel_rfl)
    have h13 : x 13 = (Dg RL) := hv 13 (by kernel_rfl)
    have h14 : x 14 = (.bool bi) := hv 14 (by kernel_rfl)
    have h15 : x 15 = (.bool true) := hv 15 (by kernel_rfl)
    have h16 : x 16 = (.bool true) := hv 16 (by kernel_rfl)
    have h17 : x 17 = (.bool true) := hv 17 (by kernel_rfl)
    clear hv
    simp only [h0, h1, h2, h3, h4, h5, h6, h7, h8, h9, h10, h11, h12, h13, h14, h15, h16, h17]
    clear h0 h1 h2 h3 h4 h5 h6 h7 h8 h9 h10 h11 h12 h13 h14 h15 h16 h17
    have kz := hid (kk3.out.trans' Kk.undrew)
    clear Kk
    go_wp2_with fail
    go_ret
    exact ⟨rfl, kz.out⟩
end Go.Proofs.YtknbkhmpnanegaaDoor
