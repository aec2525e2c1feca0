/- Root, Prove, extend (both packages; printed by gen_b4.py). -/
import Derived.Test.YtknbkhmpnanegaaDoorB3
import Derived.IntWalk
namespace Go.Proofs.YtknbkhmpnanegaaDoor
open Go.RowKit Go.Mk Go.Sha Go.Brd
def ents (ps : List (Ent × Value)) : List Ent := ps.map (·.1)
theorem ents_length (ps : List (Ent × Value)) : (ents ps).length = ps.length := by simp [ents]
theorem ents_take (ps : List (Ent × Value)) (k : Nat) : (ents ps).take k = ents (ps.take k) := by simp [ents, List.map_take]
theorem ents_drop (ps : List (Ent × Value)) (k : Nat) : (ents ps).drop k = ents (ps.drop k) := by simp [ents, List.map_drop]
theorem root_split (ps : List (Ent × Value)) (h : 2 ≤ ps.length) : rootD (ents ps) = innerD (rootD (ents (ps.take (half ps.length)))) (rootD (ents (ps.drop (half ps.length)))) := by
  rw [rootD_more _ (by rw [ents_length]; exact h), ents_length, ents_take, ents_drop]
theorem z_block (w : World) : ∃ w1, w1 = w.alloc (.cells Z32 26) ∧ w1.heap[w.heap.size]? = some (.cells Z32 26 (0, 0)) ∧ Kept no w w1 := ⟨_, rfl, heap_alloc_new _ _, (Kept.refl no w).alloc _⟩
theorem nil_rd (w : World) (size : Nat) : Rd w size (.slice none 0 0) 0 [] := ⟨by simp, none, 0, rfl, Nat.le_refl _, Nat.zero_le _, .inl rfl⟩
def flatD (ds : List (List UInt8)) : List Value := ds.flatMap (·.map B)
theorem TDigs' : ElemT Tryd.prog 33 26 32 32 := .mk' (z := .agg Z32) (by kernel_rfl) (by kernel_rfl) (by kernel_rfl) (by decide)
theorem infDz : (Tryd.prog.info? 26).map (fun i => (i.zero, i.size)) = some (some (.agg Z32), 32) := by kernel_rfl
theorem fillD {D : List UInt8} (h : D.length = 32) : Instr.fill (fun i => some (i * 32, 32)) ((Array.range (1 * 32)).map ((Value.agg Z32).cells[· % (Value.agg Z32).cells.size]!)) [(0, Dg D)] = some (D.map B).toArray := by
  have := fill_rows 32 (by decide) (.agg Z32) [Dg D] (fun v hv => by (obtain rfl : v = Dg D := (by simpa using hv)); exact Dg_cells h)
  simpa [Value.cells, Dg] using this
theorem oneFlat (ds : List (List UInt8)) : ∀ u ∈ flatD ds, u.oneCell' = true := fun u hu => by obtain ⟨_, _, h⟩ := List.mem_flatMap.1 hu; exact B_one _ u h
theorem flatD_snoc (ds : List (List UInt8)) (D : List UInt8) : flatD (ds ++ [D]) = flatD ds ++ D.map B := by simp [flatD]
theorem proveD_len (l : List Ent) : ∀ (i : Nat) (d : List UInt8), d ∈ proveD l i → d.length = 32 := by
  induction hn : l.length using Nat.strongRecOn generalizing l with
  | ind n ih =>
    intro i d hd
    subst hn
    by_cases h2 : 2 ≤ l.length
    · have hh := half_lt l.length h2
      have hp := half_pos l.length
      rw [proveD_more l i h2] at hd
      split at hd
      · rcases List.mem_append.1 hd with h | h
        · exact ih _ (by rw [List.length_take]; omega) _ rfl _ _ h
        · obtain rfl : d = _ := by simpa using h
          exact rootD_length _
      · rcases List.mem_append.1 hd with h | h
        · exact ih _ (by rw [List.length_drop]; omega) _ rfl _ _ h
        · obtain rfl : d = _ := by simpa using h
          exact rootD_length _
    · rcases l with _ | ⟨x, _ | ⟨y, r⟩⟩
      · rw [proveD] at hd; cases hd
      · rw [proveD] at hd; cases hd
      · exact absurd (by simp) h2
theorem extendD_len (l : List Ent) : ∀ (m : Nat) (k : Bool) (d : List UInt8), d ∈ extendD l m k → d.length = 32 := by
  induction hn : l.length using Nat.strongRecOn generalizing l with
  | ind n ih =>
    intro i k d hd
    subst hn
    rw [extendD] at hd
    split at hd
    · split at hd
      · cases hd
      · obtain rfl : d = _ := by simpa using hd
        exact rootD_length _
    · have hh := half_lt l.length (by omega)
      have hp := half_pos l.length
      split at hd
      · rcases List.mem_append.1 hd with h | h
        · exact ih _ (by rw [List.length_take]; omega) _ rfl _ _ _ h
        · obtain rfl : d = _ := by simpa using h
          exact rootD_length _
      · rcases List.mem_append.1 hd with h | h
        · exact ih _ (by rw [List.length_drop]; omega) _ rfl _ _ _ h
        · obtain rfl : d = _ := by simpa using h
          exact rootD_length _
theorem two_parts1 {α β : Type} (f : α → β) (a : α) : (Array.map f #[a]).toList = [f a] := by simp
/-- []api.Digest{d}. -/
theorem bd {ops : Array Oper} {rest : List Oper} {oo : Oper} {a : Act} {w : World} {Q : Exit → Act → World → Prop} (hgd : oo.guard = none) (x : Operand) (ho : oo.op = .buildSlice 33 1 #[(0, x)]) (D : List UInt8) (hx : a.eval x = Dg D) (hD : D.length = 32)
    (h : ∀ w', Kept no w w' → w'.ownsRow 0 26 32 (.slice (some ⟨w.heap.size, 0, none⟩) 1 1) [D].length (flatD [D]) → wpList Tryd.prog ops Q rest (a.put oo.dst (.slice (some ⟨w.heap.size, 0, none⟩) 1 1)) w') : wpList Tryd.prog ops Q (oo :: rest) a w := by
  obtain ⟨ie, hi, hz, hs⟩ : ∃ ie, Tryd.prog.info? 26 = some ie ∧ ie.zero = some (.agg Z32) ∧ ie.size = 32 := by
    have h := infDz
    cases hi : Tryd.prog.info? 26 with
    | none => rw [hi] at h; cases h
    | some ie => rw [hi] at h; simp at h; exact ⟨ie, rfl, h.1, h.2⟩
  refine wpList_buildSlice hgd 33 26 1 _ ho (D.map B).toArray ie (.agg Z32) Tryd.underlying33 hi hz (by rw [hs]; decide) (by rw [hs]; decide) (by rw [hs, two_parts1]; show Instr.fill _ _ [(0, a.eval x)] = _; rw [hx]; exact fillD hD) (h _ ((Kept.refl no w).alloc _) ?_)
  refine ⟨by simp [flatD, hD], .inr ⟨_, 1, _, rfl, Nat.zero_le _, heap_alloc_new _ _, Nat.le_refl _, by decide, by simp [hD], ?_⟩⟩
  rw [List.take_of_length_le (by simp [hD])]; simp [flatD]
theorem own_RdD {w : World} {v : Value} {ds : List (List UInt8)} (h : w.ownsRow 0 26 32 v ds.length (flatD ds)) (hl : ∀ d ∈ ds, d.length = 32) : RdD w v ds := ⟨hl, Rd.of_own h⟩

set_option maxRecDepth 100000 in
set_option maxHeartbeats 4000000 in
theorem root_any (ps : List (Ent × Value)) : ∀ (v : Value) (w : World), ps.length ≤ 63 → RdE w v ps → Tab w → Calls Tryd.prog 40 #[v] w fun ed w' => ed = .returned (Dg (rootD (ents ps))) ∧ Kept no w w' := by
  induction hn : ps.length using Nat.strongRecOn generalizing ps with
  | ind n ih =>
  intro v w h63 hr hT
  obtain ⟨ao, cap, rfl, hcap⟩ := hr.shape
  rw [hn] at hr hcap ⊢
  replace hT := hid hT
  by_cases h0 : n = 0
  · subst h0
    obtain rfl : ps = [] := List.eq_nil_of_length_eq_zero hn
    have hv : Hd (sum [] = rootD (ents [])) := ⟨by unfold ents; rw [List.map_nil, rootD]⟩
    rw [← hv.out]
    clear hv
    have hll := hid (sum_length [])
    clear ih hr hn hcap
    go_enter Tryd.func40, Tryd.ntmps40
    go_upto_region 1 with fail
    obtain ⟨w1, hw1, g0, k1⟩ := z_block w
    unfold Z32 at hw1
    rw [← hw1]
    clear hw1
    replace g0 := hid g0
    replace k1 := hid k1
    go_wp2_with fail
    refine (digest_any _ [] w1 (by simp) (nil_rd w1 1) (hT.out.kept k1.out)).mono ?_
    rintro ed w2 ⟨rfl, k2⟩
    have g6 := hid (setRow_heap w2 w.heap.size _ ((sum []).map B).toArray _ _ (k2.blk g0.out))
    have gz := hid (k2.blk g0.out)
    have K6 := hid (((k1.out.trans' k2)).setRow (g := w.heap.size) (.inr (Nat.le_refl _)) ((sum []).map B).toArray)
    have hZ := hid Z32_size
    clear k2 g0 k1
    go_wp2_with (with_reducible refine sd rfl _ _ rfl w.heap.size rfl (sum []) rfl _ gz.out hZ.out hll.out ?_)
    refine bodyPost_ret (v := Dg (sum [])) ?_ rfl ?_
    · exact ret_dg rfl w.heap.size rfl (sum []) g6.out hll.out
    · exact ⟨rfl, K6.out⟩
  by_cases h1 : n = 1
  · subst h1
    obtain ⟨b, o, rfl, hrg⟩ := hr.at 0 (by omega)
    obtain ⟨⟨e, vb⟩, rfl⟩ := List.length_eq_one_iff.1 hn
    have hv : Hd (leafD e = rootD (ents [(e, vb)])) := ⟨by unfold ents; rw [List.map_cons, List.map_nil, rootD]⟩
    have hok := hid (hr.1 (e, vb) (by simp))
    rw [← hv.out]
    clear hv
    rw [Nat.zero_mul, Nat.add_zero] at hrg
    have hrg' : Hd (w.rangeAt b o (entC e vb)) := ⟨hrg⟩
    have hll := hid (leafD_length e)
    clear ih hr hn hrg
    go_enter Tryd.func40, Tryd.ntmps40
    go_upto_region 1 with fail
    obtain ⟨w1, hw1, g0, k1⟩ := z_block w
    unfold Z32 at hw1
    rw [← hw1]
    clear hw1
    replace g0 := hid g0
    replace k1 := hid k1
    have hrg1 := hid (k1.out.rng hrg'.out)
    clear hrg'
    go_wp2_with (with_reducible refine lem rfl _ rfl b o rfl e vb hrg1.out hok.out ?_)
    refine (leaf_any e vb w1 (hok.out.kept k1.out) (hT.out.kept k1.out)).mono ?_
    rintro ed w2 ⟨rfl, k2⟩
    have g6 := hid (setRow_heap w2 w.heap.size _ ((leafD e).map B).toArray _ _ (k2.blk g0.out))
    have gz := hid (k2.blk g0.out)
    have K6 := hid (((k1.out.trans' k2)).setRow (g := w.heap.size) (.inr (Nat.le_refl _)) ((leafD e).map B).toArray)
    have hZ := hid Z32_size
    clear k2 g0 k1
    go_wp2_with (with_reducible refine sd rfl _ _ rfl w.heap.size rfl (leafD e) rfl _ gz.out hZ.out hll.out ?_)
    refine bodyPost_ret (v := Dg (leafD e)) ?_ rfl ?_
    · exact ret_dg rfl w.heap.size rfl (leafD e) g6.out hll.out
    · exact ⟨rfl, K6.out⟩
  · have h2 : 2 ≤ n := by omega
    have hK1 := half_lt n h2
    have hK0 := half_pos n
    have hv := hid (root_split ps (by omega))
    rw [hn] at hv
    have HH := hid (fun w => half_any n w h2 h63)
    generalize half n = K at hK1 hK0 hv HH
    obtain ⟨b, o, rfl, hr2⟩ := RdE.drop (n := n) hr K (by omega)
    have hr1 := hid (RdE.take (n := n) hr K (by omega))
    rw [hn] at hr2
    replace hr2 := hid hr2
    have l1 : (ps.take K).length = K := by rw [List.length_take]; omega
    have l2 : (ps.drop K).length = n - K := by rw [List.length_drop, hn]
    have IH1 := hid (fun w h t => ih K hK1 (ps.take K) l1 (.slice (some ⟨b, o, none⟩) K cap) w (by omega) h t)
    have IH2 := hid (fun w h t => ih (n - K) (by omega) (ps.drop K) l2 (.slice (some ⟨b, o + K * 35, none⟩) (n - K) (cap - K)) w (by omega) h t)
    have hA := rootD_length (ents (ps.take K))
    have hB := rootD_length (ents (ps.drop K))
    generalize rootD (ents (ps.take K)) = R1 at hv IH1 hA
    generalize rootD (ents (ps.drop K)) = R2 at hv IH2 hB
    have HI := hid (fun w t => inner_any R1 R2 w hA hB t)
    have hll := hid (innerD_length R1 R2)
    generalize innerD R1 R2 = RR at hv HI hll
    rw [hv.out]
    have c1 : ((K : Nat) : Int) ≤ ((n : Nat) : Int) := by omega
    have c2 : ((n : Nat) : Int) ≤ ((cap : Nat) : Int) := by omega
    have c3 : (0 : Int) ≤ ((K : Nat) : Int) := by omega
    have c4 : ((K : Nat) : Int) ≤ ((cap : Nat) : Int) := by omega
    have c5 : ¬ cap = K := by omega
    have z0 : ¬ ((n : Nat) : Int) = 0 := by omega
    have z1 : ¬ ((n : Nat) : Int) = 1 := by omega
    have y0 : (((n : Nat) : Int) == 0) = false := by simpa using h0
    have y1 : (((n : Nat) : Int) == 1) = false := by simpa using z1
    clear ih hr hv l1 l2 hA hB hn
    go_enter Tryd.func40, Tryd.ntmps40
    go_upto_region 1 with fail
    obtain ⟨w1, hw1, g0, k1⟩ := z_block w
    unfold Z32 at hw1
    rw [← hw1]
    clear hw1
    replace g0 := hid g0
    replace k1 := hid k1
    go_upto_region 7 with (refine (HH.out _).mono ?_; rintro ed w' ⟨rfl, rfl⟩)
    refine region_flow (S := (frm w.heap.size)) (Sl := (fun _ => (frm w.heap.size))) [Is (.slice (some ⟨b, o, none⟩) n cap), Is (.int .i64 (K : Int)), Is (.slice (some ⟨b, o, none⟩) K cap), Is (Dg R1), Is (.slice (some ⟨b, o, none⟩) n cap), Is (.int .i64 (K : Int)), Is (.slice (some ⟨b, o + K * 35, none⟩) (n - K) (cap - K)), Is (Dg R2), Is (Dg RR), Blk w.heap.size (RR.map B).toArray 26] [9] (fun _ _ h => h) _ (by kernel_rfl) (by kernel_rfl) (by kernel_rfl) (by kernel_rfl) (fun x => by simp only [puts, Act.put, List.map_cons, List.map_nil, Nat.zero_add, Nat.reduceAdd, List.setIfInBounds_toArray, List.set_cons_zero, List.set_cons_succ]; exact rfl) ?_ ?_
    · skip
      refine Steps.cons (fun x wf Kk hq hdep hold => ?_) ?_
      · try dsimp only
        clear hq hdep hold
        rw [if_pos (by rfl)]
        refine OpY.val (v := (.slice (some ⟨b, o, none⟩) n cap)) ?_ ⟨Kept.refl _ _, rfl⟩
        first | rfl | go_simp
      refine Steps.cons (fun x wf Kk hq hdep hold => ?_) ?_
      · try dsimp only
        clear hq hdep hold
        rw [if_pos (by rfl)]
        refine OpY.val (v := (.int .i64 (K : Int))) ?_ ⟨Kept.refl _ _, rfl⟩
        first | rfl | go_simp
      refine Steps.cons (fun x wf Kk hq hdep hold => ?_) ?_
      · try dsimp only
        have h0 : x 0 = (.slice (some ⟨b, o, none⟩) n cap) := hdep 0 (by kernel_rfl)
        have h1 : x 1 = (.int .i64 (K : Int)) := hdep 1 (by kernel_rfl)
        clear hq hdep hold
        simp only [h0, h1]
        clear h0 h1
        rw [if_pos (by rfl)]
        refine OpY.val (v := (.slice (some ⟨b, o, none⟩) K cap)) ?_ ⟨Kept.refl _ _, rfl⟩
        first | rfl | go_simp
      refine Steps.cons (fun x wf Kk hq hdep hold => ?_) ?_
      · try dsimp only
        have h2 : x 2 = (.slice (some ⟨b, o, none⟩) K cap) := hdep 2 (by kernel_rfl)
        clear hq hdep hold
        simp only [h2]
        clear h2
        rw [if_pos (by rfl)]
        refine OpY.call (f := 40) (args := #[(.slice (some ⟨b, o, none⟩) K cap)]) (by go_simp) ?_
        refine (IH1.out wf (hr1.out.kept (k1.out.frmB Kk.undrew (Nat.le_refl _))) (hT.out.kept (k1.out.frmB Kk.undrew (Nat.le_refl _)))).mono ?_
        rintro e w2 ⟨rfl, k2⟩
        exact ⟨_, rfl, k2, rfl⟩
      refine Steps.cons (fun x wf Kk hq hdep hold => ?_) ?_
      · try dsimp only
        clear hq hdep hold
        rw [if_pos (by rfl)]
        refine OpY.val (v := (.slice (some ⟨b, o, none⟩) n cap)) ?_ ⟨Kept.refl _ _, rfl⟩
        first | rfl | go_simp
      refine Steps.cons (fun x wf Kk hq hdep hold => ?_) ?_
      · try dsimp only
        clear hq hdep hold
        rw [if_pos (by rfl)]
        refine OpY.val (v := (.int .i64 (K : Int))) ?_ ⟨Kept.refl _ _, rfl⟩
        first | rfl | go_simp
      refine Steps.cons (fun x wf Kk hq hdep hold => ?_) ?_
      · try dsimp only
        have h4 : x 4 = (.slice (some ⟨b, o, none⟩) n cap) := hdep 4 (by kernel_rfl)
        have h5 : x 5 = (.int .i64 (K : Int)) := hdep 5 (by kernel_rfl)
        clear hq hdep hold
        simp only [h4, h5]
        clear h4 h5
        rw [if_pos (by rfl)]
        refine OpY.val (v := (.slice (some ⟨b, o + K * 35, none⟩) (n - K) (cap - K))) ?_ ⟨Kept.refl _ _, rfl⟩
        first | rfl | go_simp
      refine Steps.cons (fun x wf Kk hq hdep hold => ?_) ?_
      · try dsimp only
        have h6 : x 6 = (.slice (some ⟨b, o + K * 35, none⟩) (n - K) (cap - K)) := hdep 6 (by kernel_rfl)
        clear hq hdep hold
        simp only [h6]
        clear h6
        rw [if_pos (by rfl)]
        refine OpY.call (f := 40) (args := #[(.slice (some ⟨b, o + K * 35, none⟩) (n - K) (cap - K))]) (by go_simp) ?_
        refine (IH2.out wf (hr2.out.kept (k1.out.frmB Kk.undrew (Nat.le_refl _))) (hT.out.kept (k1.out.frmB Kk.undrew (Nat.le_refl _)))).mono ?_
        rintro e w2 ⟨rfl, k2⟩
        exact ⟨_, rfl, k2, rfl⟩
      refine Steps.cons (fun x wf Kk hq hdep hold => ?_) ?_
      · try dsimp only
        have h3 : x 3 = (Dg R1) := hdep 3 (by kernel_rfl)
        have h7 : x 7 = (Dg R2) := hdep 7 (by kernel_rfl)
        clear hq hdep hold
        simp only [h3, h7]
        clear h3 h7
        rw [if_pos (by rfl)]
        refine OpY.call (f := 66) (args := #[(Dg R1), (Dg R2)]) (by go_simp) ?_
        refine (HI.out wf (hT.out.kept (k1.out.frmB Kk.undrew (Nat.le_refl _)))).mono ?_
        rintro e w2 ⟨rfl, k2⟩
        exact ⟨_, rfl, k2, rfl⟩
      refine Steps.cons (fun x wf Kk hq hdep hold => ?_) ?_
      · try dsimp only
        have h8 : x 8 = (Dg RR) := hdep 8 (by kernel_rfl)
        have Kq := hq no (fun j hj => by cases (show j ∈ ([] : List Nat) from by (have e : ∀ l : List Nat, l = [] → j ∈ l → j ∈ ([] : List Nat) := fun l h h2 => h ▸ h2); exact e _ (by kernel_rfl) hj))
        clear hq hdep hold
        simp only [h8]
        clear h8
        rw [if_pos (by rfl)]
        have gz := Kq.undrew.blk g0.out
        refine ysd (.tmp 2) (.tmp 26) rfl w.heap.size rfl RR rfl _ gz Z32_size hll.out ⟨?_, setRow_heap _ _ _ _ _ _ gz⟩
        exact (Kept.refl _ _).setRow (.inl (Nat.le_refl _)) _
      exact Steps.nil _
    · intro x wf Kk hv
      try dsimp only
      have h0 : x 0 = (.slice (some ⟨b, o, none⟩) n cap) := hv 0 (by kernel_rfl)
      have h1 : x 1 = (.int .i64 (K : Int)) := hv 1 (by kernel_rfl)
      have h2 : x 2 = (.slice (some ⟨b, o, none⟩) K cap) := hv 2 (by kernel_rfl)
      have h3 : x 3 = (Dg R1) := hv 3 (by kernel_rfl)
      have h4 : x 4 = (.slice (some ⟨b, o, none⟩) n cap) := hv 4 (by kernel_rfl)
      have h5 : x 5 = (.int .i64 (K : Int)) := hv 5 (by kernel_rfl)
      have h6 : x 6 = (.slice (some ⟨b, o + K * 35, none⟩) (n - K) (cap - K)) := hv 6 (by kernel_rfl)
      have h7 : x 7 = (Dg R2) := hv 7 (by kernel_rfl)
      have h8 : x 8 = (Dg RR) := hv 8 (by kernel_rfl)
      have p9 : Pr.p (Sl := (fun _ => (frm w.heap.size))) (Blk w.heap.size (RR.map B).toArray 26) (x 9) wf := hv 9 (by kernel_rfl)
      clear hv
      simp only [h0, h1, h2, h3, h4, h5, h6, h7, h8]
      clear h0 h1 h2 h3 h4 h5 h6 h7 h8
      have kz := hid (k1.out.frmB Kk.undrew (Nat.le_refl _))
      have hb := hid p9
      clear p9 Kk
      go_wp2_with fail
      refine bodyPost_ret (v := Dg RR) ?_ rfl ?_
      · exact ret_dg rfl w.heap.size rfl RR hb.out hll.out
      · exact ⟨rfl, kz.out⟩
set_option maxRecDepth 100000 in
set_option maxHeartbeats 4000000 in
theorem refroot_any (ps : List (Ent × Value)) : ∀ (v : Value) (w : World), ps.length ≤ 63 → RdE w v ps → TabR w → Calls Tryd.prog 38 #[v] w fun ed w' => ed = .returned (Dg (rootD (ents ps))) ∧ Kept no w w' := by
  induction hn : ps.length using Nat.strongRecOn generalizing ps with
  | ind n ih =>
  intro v w h63 hr hT
  obtain ⟨ao, cap, rfl, hcap⟩ := hr.shape
  rw [hn] at hr hcap ⊢
  replace hT := hid hT
  by_cases h0 : n = 0
  · subst h0
    obtain rfl : ps = [] := List.eq_nil_of_length_eq_zero hn
    have hv : Hd (sum [] = rootD (ents [])) := ⟨by unfold ents; rw [List.map_nil, rootD]⟩
    rw [← hv.out]
    clear hv
    have hll := hid (sum_length [])
    clear ih hr hn hcap
    go_enter Tryd.func38, Tryd.ntmps38
    go_upto_region 1 with fail
    obtain ⟨w1, hw1, g0, k1⟩ := z_block w
    unfold Z32 at hw1
    rw [← hw1]
    clear hw1
    replace g0 := hid g0
    replace k1 := hid k1
    go_wp2_with fail
    refine (refsum_any _ [] w1 (by simp) (nil_rd w1 1) (hT.out.kept k1.out)).mono ?_
    rintro ed w2 ⟨rfl, k2⟩
    have g6 := hid (setRow_heap w2 w.heap.size _ ((sum []).map B).toArray _ _ (k2.blk g0.out))
    have gz := hid (k2.blk g0.out)
    have K6 := hid (((k1.out.trans' k2)).setRow (g := w.heap.size) (.inr (Nat.le_refl _)) ((sum []).map B).toArray)
    have hZ := hid Z32_size
    clear k2 g0 k1
    go_wp2_with (with_reducible refine sd rfl _ _ rfl w.heap.size rfl (sum []) rfl _ gz.out hZ.out hll.out ?_)
    refine bodyPost_ret (v := Dg (sum [])) ?_ rfl ?_
    · exact ret_dg rfl w.heap.size rfl (sum []) g6.out hll.out
    · exact ⟨rfl, K6.out⟩
  by_cases h1 : n = 1
  · subst h1
    obtain ⟨b, o, rfl, hrg⟩ := hr.at 0 (by omega)
    obtain ⟨⟨e, vb⟩, rfl⟩ := List.length_eq_one_iff.1 hn
    have hv : Hd (leafD e = rootD (ents [(e, vb)])) := ⟨by unfold ents; rw [List.map_cons, List.map_nil, rootD]⟩
    have hok := hid (hr.1 (e, vb) (by simp))
    rw [← hv.out]
    clear hv
    rw [Nat.zero_mul, Nat.add_zero] at hrg
    have hrg' : Hd (w.rangeAt b o (entC e vb)) := ⟨hrg⟩
    have hll := hid (leafD_length e)
    clear ih hr hn hrg
    go_enter Tryd.func38, Tryd.ntmps38
    go_upto_region 1 with fail
    obtain ⟨w1, hw1, g0, k1⟩ := z_block w
    unfold Z32 at hw1
    rw [← hw1]
    clear hw1
    replace g0 := hid g0
    replace k1 := hid k1
    have hrg1 := hid (k1.out.rng hrg'.out)
    clear hrg'
    go_wp2_with (with_reducible refine lem rfl _ rfl b o rfl e vb hrg1.out hok.out ?_)
    refine (refleaf_any e vb w1 (hok.out.kept k1.out) (hT.out.kept k1.out)).mono ?_
    rintro ed w2 ⟨rfl, k2⟩
    have g6 := hid (setRow_heap w2 w.heap.size _ ((leafD e).map B).toArray _ _ (k2.blk g0.out))
    have gz := hid (k2.blk g0.out)
    have K6 := hid (((k1.out.trans' k2)).setRow (g := w.heap.size) (.inr (Nat.le_refl _)) ((leafD e).map B).toArray)
    have hZ := hid Z32_size
    clear k2 g0 k1
    go_wp2_with (with_reducible refine sd rfl _ _ rfl w.heap.size rfl (leafD e) rfl _ gz.out hZ.out hll.out ?_)
    refine bodyPost_ret (v := Dg (leafD e)) ?_ rfl ?_
    · exact ret_dg rfl w.heap.size rfl (leafD e) g6.out hll.out
    · exact ⟨rfl, K6.out⟩
  · have h2 : 2 ≤ n := by omega
    have hK1 := half_lt n h2
    have hK0 := half_pos n
    have hv := hid (root_split ps (by omega))
    rw [hn] at hv
    have HH := hid (fun w => split_any n w h2 h63)
    generalize half n = K at hK1 hK0 hv HH
    obtain ⟨b, o, rfl, hr2⟩ := RdE.drop (n := n) hr K (by omega)
    have hr1 := hid (RdE.take (n := n) hr K (by omega))
    rw [hn] at hr2
    replace hr2 := hid hr2
    have l1 : (ps.take K).length = K := by rw [List.length_take]; omega
    have l2 : (ps.drop K).length = n - K := by rw [List.length_drop, hn]
    have IH1 := hid (fun w h t => ih K hK1 (ps.take K) l1 (.slice (some ⟨b, o, none⟩) K cap) w (by omega) h t)
    have IH2 := hid (fun w h t => ih (n - K) (by omega) (ps.drop K) l2 (.slice (some ⟨b, o + K * 35, none⟩) (n - K) (cap - K)) w (by omega) h t)
    have hA := rootD_length (ents (ps.take K))
    have hB := rootD_length (ents (ps.drop K))
    generalize rootD (ents (ps.take K)) = R1 at hv IH1 hA
    generalize rootD (ents (ps.drop K)) = R2 at hv IH2 hB
    have HI := hid (fun w t => node_any R1 R2 w hA hB t)
    have hll := hid (innerD_length R1 R2)
    generalize innerD R1 R2 = RR at hv HI hll
    rw [hv.out]
    have c1 : ((K : Nat) : Int) ≤ ((n : Nat) : Int) := by omega
    have c2 : ((n : Nat) : Int) ≤ ((cap : Nat) : Int) := by omega
    have c3 : (0 : Int) ≤ ((K : Nat) : Int) := by omega
    have c4 : ((K : Nat) : Int) ≤ ((cap : Nat) : Int) := by omega
    have c5 : ¬ cap = K := by omega
    have z0 : ¬ ((n : Nat) : Int) = 0 := by omega
    have z1 : ¬ ((n : Nat) : Int) = 1 := by omega
    have y0 : (((n : Nat) : Int) == 0) = false := by simpa using h0
    have y1 : (((n : Nat) : Int) == 1) = false := by simpa using z1
    clear ih hr hv l1 l2 hA hB hn
    go_enter Tryd.func38, Tryd.ntmps38
    go_upto_region 1 with fail
    obtain ⟨w1, hw1, g0, k1⟩ := z_block w
    unfold Z32 at hw1
    rw [← hw1]
    clear hw1
    replace g0 := hid g0
    replace k1 := hid k1
    go_upto_region 7 with (refine (HH.out _).mono ?_; rintro ed w' ⟨rfl, rfl⟩)
    refine region_flow (S := (frm w.heap.size)) (Sl := (fun _ => (frm w.heap.size))) [Is (.slice (some ⟨b, o, none⟩) n cap), Is (.int .i64 (K : Int)), Is (.slice (some ⟨b, o, none⟩) K cap), Is (Dg R1), Is (.slice (some ⟨b, o, none⟩) n cap), Is (.int .i64 (K : Int)), Is (.slice (some ⟨b, o + K * 35, none⟩) (n - K) (cap - K)), Is (Dg R2), Is (Dg RR), Blk w.heap.size (RR.map B).toArray 26] [9] (fun _ _ h => h) _ (by kernel_rfl) (by kernel_rfl) (by kernel_rfl) (by kernel_rfl) (fun x => by simp only [puts, Act.put, List.map_cons, List.map_nil, Nat.zero_add, Nat.reduceAdd, List.setIfInBounds_toArray, List.set_cons_zero, List.set_cons_succ]; exact rfl) ?_ ?_
    · skip
      refine Steps.cons (fun x wf Kk hq hdep hold => ?_) ?_
      · try dsimp only
        clear hq hdep hold
        rw [if_pos (by rfl)]
        refine OpY.val (v := (.slice (some ⟨b, o, none⟩) n cap)) ?_ ⟨Kept.refl _ _, rfl⟩
        first | rfl | go_simp
      refine Steps.cons (fun x wf Kk hq hdep hold => ?_) ?_
      · try dsimp only
        clear hq hdep hold
        rw [if_pos (by rfl)]
        refine OpY.val (v := (.int .i64 (K : Int))) ?_ ⟨Kept.refl _ _, rfl⟩
        first | rfl | go_simp
      refine Steps.cons (fun x wf Kk hq hdep hold => ?_) ?_
      · try dsimp only
        have h0 : x 0 = (.slice (some ⟨b, o, none⟩) n cap) := hdep 0 (by kernel_rfl)
        have h1 : x 1 = (.int .i64 (K : Int)) := hdep 1 (by kernel_rfl)
        clear hq hdep hold
        simp only [h0, h1]
        clear h0 h1
        rw [if_pos (by rfl)]
        refine OpY.val (v := (.slice (some ⟨b, o, none⟩) K cap)) ?_ ⟨Kept.refl _ _, rfl⟩
        first | rfl | go_simp
      refine Steps.cons (fun x wf Kk hq hdep hold => ?_) ?_
      · try dsimp only
        have h2 : x 2 = (.slice (some ⟨b, o, none⟩) K cap) := hdep 2 (by kernel_rfl)
        clear hq hdep hold
        simp only [h2]
        clear h2
        rw [if_pos (by rfl)]
        refine OpY.call (f := 38) (args := #[(.slice (some ⟨b, o, none⟩) K cap)]) (by go_simp) ?_
        refine (IH1.out wf (hr1.out.kept (k1.out.frmB Kk.undrew (Nat.le_refl _))) (hT.out.kept (k1.out.frmB Kk.undrew (Nat.le_refl _)))).mono ?_
        rintro e w2 ⟨rfl, k2⟩
        exact ⟨_, rfl, k2, rfl⟩
      refine Steps.cons (fun x wf Kk hq hdep hold => ?_) ?_
      · try dsimp only
        clear hq hdep hold
        rw [if_pos (by rfl)]
        refine OpY.val (v := (.slice (some ⟨b, o, none⟩) n cap)) ?_ ⟨Kept.refl _ _, rfl⟩
        first | rfl | go_simp
      refine Steps.cons (fun x wf Kk hq hdep hold => ?_) ?_
      · try dsimp only
        clear hq hdep hold
        rw [if_pos (by rfl)]
        refine OpY.val (v := (.int .i64 (K : Int))) ?_ ⟨Kept.refl _ _, rfl⟩
        first | rfl | go_simp
      refine Steps.cons (fun x wf Kk hq hdep hold => ?_) ?_
      · try dsimp only
        have h4 : x 4 = (.slice (some ⟨b, o, none⟩) n cap) := hdep 4 (by kernel_rfl)
        have h5 : x 5 = (.int .i64 (K : Int)) := hdep 5 (by kernel_rfl)
        clear hq hdep hold
        simp only [h4, h5]
        clear h4 h5
        rw [if_pos (by rfl)]
        refine OpY.val (v := (.slice (some ⟨b, o + K * 35, none⟩) (n - K) (cap - K))) ?_ ⟨Kept.refl _ _, rfl⟩
        first | rfl | go_simp
      refine Steps.cons (fun x wf Kk hq hdep hold => ?_) ?_
      · try dsimp only
        have h6 : x 6 = (.slice (some ⟨b, o + K * 35, none⟩) (n - K) (cap - K)) := hdep 6 (by kernel_rfl)
        clear hq hdep hold
        simp only [h6]
        clear h6
        rw [if_pos (by rfl)]
        refine OpY.call (f := 38) (args := #[(.slice (some ⟨b, o + K * 35, none⟩) (n - K) (cap - K))]) (by go_simp) ?_
        refine (IH2.out wf (hr2.out.kept (k1.out.frmB Kk.undrew (Nat.le_refl _))) (hT.out.kept (k1.out.frmB Kk.undrew (Nat.le_refl _)))).mono ?_
        rintro e w2 ⟨rfl, k2⟩
        exact ⟨_, rfl, k2, rfl⟩
      refine Steps.cons (fun x wf Kk hq hdep hold => ?_) ?_
      · try dsimp only
        have h3 : x 3 = (Dg R1) := hdep 3 (by kernel_rfl)
        have h7 : x 7 = (Dg R2) := hdep 7 (by kernel_rfl)
        clear hq hdep hold
        simp only [h3, h7]
        clear h3 h7
        rw [if_pos (by rfl)]
        refine OpY.call (f := 63) (args := #[(Dg R1), (Dg R2)]) (by go_simp) ?_
        refine (HI.out wf (hT.out.kept (k1.out.frmB Kk.undrew (Nat.le_refl _)))).mono ?_
        rintro e w2 ⟨rfl, k2⟩
        exact ⟨_, rfl, k2, rfl⟩
      refine Steps.cons (fun x wf Kk hq hdep hold => ?_) ?_
      · try dsimp only
        have h8 : x 8 = (Dg RR) := hdep 8 (by kernel_rfl)
        have Kq := hq no (fun j hj => by cases (show j ∈ ([] : List Nat) from by (have e : ∀ l : List Nat, l = [] → j ∈ l → j ∈ ([] : List Nat) := fun l h h2 => h ▸ h2); exact e _ (by kernel_rfl) hj))
        clear hq hdep hold
        simp only [h8]
        clear h8
        rw [if_pos (by rfl)]
        have gz := Kq.undrew.blk g0.out
        refine ysd (.tmp 2) (.tmp 26) rfl w.heap.size rfl RR rfl _ gz Z32_size hll.out ⟨?_, setRow_heap _ _ _ _ _ _ gz⟩
        exact (Kept.refl _ _).setRow (.inl (Nat.le_refl _)) _
      exact Steps.nil _
    · intro x wf Kk hv
      try dsimp only
      have h0 : x 0 = (.slice (some ⟨b, o, none⟩) n cap) := hv 0 (by kernel_rfl)
      have h1 : x 1 = (.int .i64 (K : Int)) := hv 1 (by kernel_rfl)
      have h2 : x 2 = (.slice (some ⟨b, o, none⟩) K cap) := hv 2 (by kernel_rfl)
      have h3 : x 3 = (Dg R1) := hv 3 (by kernel_rfl)
      have h4 : x 4 = (.slice (some ⟨b, o, none⟩) n cap) := hv 4 (by kernel_rfl)
      have h5 : x 5 = (.int .i64 (K : Int)) := hv 5 (by kernel_rfl)
      have h6 : x 6 = (.slice (some ⟨b, o + K * 35, none⟩) (n - K) (cap - K)) := hv 6 (by kernel_rfl)
      have h7 : x 7 = (Dg R2) := hv 7 (by kernel_rfl)
      have h8 : x 8 = (Dg RR) := hv 8 (by kernel_rfl)
      have p9 : Pr.p (Sl := (fun _ => (frm w.heap.size))) (Blk w.heap.size (RR.map B).toArray 26) (x 9) wf := hv 9 (by kernel_rfl)
      clear hv
      simp only [h0, h1, h2, h3, h4, h5, h6, h7, h8]
      clear h0 h1 h2 h3 h4 h5 h6 h7 h8
      have kz := hid (k1.out.frmB Kk.undrew (Nat.le_refl _))
      have hb := hid p9
      clear p9 Kk
      go_wp2_with fail
      refine bodyPost_ret (v := Dg RR) ?_ rfl ?_
      · exact ret_dg rfl w.heap.size rfl RR hb.out hll.out
      · exact ⟨rfl, kz.out⟩
theorem New.fr {w : World} {v : Value} {B : Nat} (h : New w v) (hB : B ≤ w.heap.size) : ∀ k, v.ownBlock = some k → B ≤ k := fun k hk => by
  rcases h with h | ⟨j, h, hl⟩
  · rw [h] at hk; cases hk
  · rw [h] at hk; cases hk; omega
theorem frNew {w : World} {v : Value} (h : ∀ k, v.ownBlock = some k → w.heap.size ≤ k) : New w v := by
  cases hv : v.ownBlock with
  | none => exact .inl hv
  | some k => exact .inr ⟨k, hv, h k hv⟩
theorem proveD_count (l : List Ent) : ∀ (i : Nat), (proveD l i).length ≤ l.length := by
  induction hn : l.length using Nat.strongRecOn generalizing l with
  | ind n ih =>
    intro i
    subst hn
    by_cases h2 : 2 ≤ l.length
    · have hh := half_lt l.length h2
      have hp := half_pos l.length
      rw [proveD_more l i h2]
      split
      · have e : (l.take (half l.length)).length = half l.length := by rw [List.length_take]; omega
        have := ih (l.take (half l.length)).length (by omega) _ rfl i
        rw [List.length_append, List.length_singleton]
        omega
      · have e : (l.drop (half l.length)).length = l.length - half l.length := by rw [List.length_drop]
        have := ih (l.drop (half l.length)).length (by omega) _ rfl (i - half l.length)
        rw [List.length_append, List.length_singleton]
        omega
    · rcases l with _ | ⟨x, _ | ⟨y, r⟩⟩
      · rw [proveD]; simp
      · rw [proveD]; simp
      · exact absurd (by simp) h2
theorem extendD_count (l : List Ent) : ∀ (m : Nat) (k : Bool), (extendD l m k).length ≤ l.length + 1 := by
  induction hn : l.length using Nat.strongRecOn generalizing l with
  | ind n ih =>
    intro i k
    subst hn
    rw [extendD]
    split
    · split <;> simp
    · have hh := half_lt l.length (by omega)
      have hp := half_pos l.length
      split
      · have e : (l.take (half l.length)).length = half l.length := by rw [List.length_take]; omega
        have := ih (l.take (half l.length)).length (by omega) _ rfl i k
        rw [List.length_append, List.length_singleton]
        omega
      · have e : (l.drop (half l.length)).length = l.length - half l.length := by rw [List.length_drop]
        have := ih (l.drop (half l.length)).length (by omega) _ rfl (i - half l.length) false
        rw [List.length_append, List.length_singleton]
        omega

set_option maxRecDepth 100000 in
set_option maxHeartbeats 4000000 in
theorem prove_any (ps : List (Ent × Value)) : ∀ (i : Nat) (v : Value) (w : World), i < ps.length → ps.length ≤ 63 → RdE w v ps → Tab w → Calls Tryd.prog 41 #[v, .int .i64 (i : Int)] w fun ed w' => ∃ v', ed = .returned v' ∧ w'.ownsRow 0 26 32 v' (proveD (ents ps) i).length (flatD (proveD (ents ps) i)) ∧ Kept no w w' ∧ New w v' := by
  induction hn : ps.length using Nat.strongRecOn generalizing ps with
  | ind n ih =>
  intro i v w hi h63 hr hT
  obtain ⟨ao, cap, rfl, hcap⟩ := hr.shape
  rw [hn] at hr hcap ⊢
  replace hT := hid hT
  by_cases h1 : n = 1
  · subst h1
    obtain rfl : i = 0 := by omega
    obtain ⟨⟨e, vb⟩, rfl⟩ := List.length_eq_one_iff.1 hn
    have hv : proveD (ents [(e, vb)]) 0 = [] := by unfold ents; rw [List.map_cons, List.map_nil, proveD]
    rw [hv]
    clear ih hr hn hv
    go_enter Tryd.func41, Tryd.ntmps41
    go_wp2_with fail
    go_ret
    exact ⟨_, rfl, World.ownsRow_nil _ _ _ _, Kept.refl _ _, .inl rfl⟩
  · have h2 : 2 ≤ n := by omega
    have hk0 := hid (Kept.refl no w)
    have hK1 := half_lt n h2
    have hK0 := half_pos n
    have hv := hid (proveD_more (ents ps) i (by rw [ents_length]; omega))
    rw [ents_length, hn, ents_take, ents_drop] at hv
    have HH := hid (fun w => half_any n w h2 h63)
    generalize half n = K at hK1 hK0 hv HH
    obtain ⟨b, o, rfl, hr2⟩ := RdE.drop (n := n) hr K (by omega)
    have hr1 := hid (RdE.take (n := n) hr K (by omega))
    rw [hn] at hr2
    replace hr2 := hid hr2
    have l1 : (ps.take K).length = K := by rw [List.length_take]; omega
    have l2 : (ps.drop K).length = n - K := by rw [List.length_drop, hn]
    have c1 : ((K : Nat) : Int) ≤ ((n : Nat) : Int) := by omega
    have c2 : ((n : Nat) : Int) ≤ ((cap : Nat) : Int) := by omega
    have c3 : (0 : Int) ≤ ((K : Nat) : Int) := by omega
    have c4 : ((K : Nat) : Int) ≤ ((cap : Nat) : Int) := by omega
    have c5 : ¬ cap = K := by omega
    have z1 : ¬ ((n : Nat) : Int) = 1 := by omega
    have y1 : (((n : Nat) : Int) == 1) = false := by simpa using z1
    obtain ⟨I, hI⟩ : ∃ I : Int, (i : Int) = I := ⟨_, rfl⟩
    rw [hI]
    have g0 : ¬ I < 0 := by omega
    have g0' : (0 : Int) ≤ I := by omega
    have g1 : ¬ ((n : Nat) : Int) ≤ I := by omega
    have g1' : I < ((n : Nat) : Int) := by omega
    by_cases hik : i < K
    · have hlt : I < (K : Int) := by omega
      rw [if_pos hik] at hv
      have IHP := hid (fun w h t => ih K hK1 (ps.take K) l1 i (.slice (some ⟨b, o, none⟩) K cap) w hik (by omega) h t)
      rw [hI] at IHP
      have HRT := hid (fun w h t => root_any (ps.drop K) (.slice (some ⟨b, o + K * 35, none⟩) (n - K) (cap - K)) w (by omega) h t)
      have hdl : Hd ((proveD (ents (ps.take K)) i).length ≤ 100) := ⟨by have := proveD_count (ents (ps.take K)) i; rw [ents_length, l1] at this; omega⟩
      have hR2 := hid (rootD_length (ents (ps.drop K)))
      generalize rootD (ents (ps.drop K)) = R2 at HRT hv hR2
      generalize proveD (ents (ps.take K)) i = ds at IHP hv hdl
      clear ih hr l1 l2 hn hI hik
      go_enter Tryd.func41, Tryd.ntmps41
      go_upto_region 5 with (refine (HH.out _).mono ?_; rintro ed w' ⟨rfl, rfl⟩)
      refine region_flow (S := (frm w.heap.size)) (Sl := (fun _ => (frm w.heap.size))) [Is (.slice (some ⟨b, o, none⟩) n cap), Is (.int .i64 (K : Int)), Is (.slice (some ⟨b, o, none⟩) K cap), Is (.int .i64 I), OwN w.heap.size 26 32 ds.length (flatD ds), Is (.slice (some ⟨b, o, none⟩) n cap), Is (.int .i64 (K : Int)), Is (.slice (some ⟨b, o + K * 35, none⟩) (n - K) (cap - K)), Is (Dg R2), RdIs 32 1 (R2.map B), OwN w.heap.size 26 32 (ds ++ [R2]).length (flatD (ds ++ [R2])), OwN w.heap.size 26 32 (ds ++ [R2]).length (flatD (ds ++ [R2]))] [10] (fun _ _ h => h) _ (by kernel_rfl) (by kernel_rfl) (by kernel_rfl) (by kernel_rfl) (fun x => by simp only [puts, Act.put, List.map_cons, List.map_nil, Nat.zero_add, Nat.reduceAdd, List.setIfInBounds_toArray, List.set_cons_zero, List.set_cons_succ]; exact rfl) ?_ ?_
      · skip
        refine Steps.cons (fun x wf Kk hq hdep hold => ?_) ?_
        · try dsimp only
          clear hq hdep hold
          rw [if_pos (by rfl)]
          refine OpY.val (v := (.slice (some ⟨b, o, none⟩) n cap)) ?_ ⟨Kept.refl _ _, rfl⟩
          first | rfl | go_simp
        refine Steps.cons (fun x wf Kk hq hdep hold => ?_) ?_
        · try dsimp only
          clear hq hdep hold
          rw [if_pos (by rfl)]
          refine OpY.val (v := (.int .i64 (K : Int))) ?_ ⟨Kept.refl _ _, rfl⟩
          first | rfl | go_simp
        refine Steps.cons (fun x wf Kk hq hdep hold => ?_) ?_
        · try dsimp only
          have h0 : x 0 = (.slice (some ⟨b, o, none⟩) n cap) := hdep 0 (by kernel_rfl)
          have h1 : x 1 = (.int .i64 (K : Int)) := hdep 1 (by kernel_rfl)
          clear hq hdep hold
          simp only [h0, h1]
          clear h0 h1
          rw [if_pos (by rfl)]
          refine OpY.val (v := (.slice (some ⟨b, o, none⟩) K cap)) ?_ ⟨Kept.refl _ _, rfl⟩
          first | rfl | go_simp
        refine Steps.cons (fun x wf Kk hq hdep hold => ?_) ?_
        · try dsimp only
          clear hq hdep hold
          rw [if_pos (by rfl)]
          refine OpY.val (v := (.int .i64 I)) ?_ ⟨Kept.refl _ _, rfl⟩
          first | rfl | go_simp
        refine Steps.cons (fun x wf Kk hq hdep hold => ?_) ?_
        · try dsimp only
          have h2 : x 2 = (.slice (some ⟨b, o, none⟩) K cap) := hdep 2 (by kernel_rfl)
          have h3 : x 3 = (.int .i64 I) := hdep 3 (by kernel_rfl)
          clear hq hdep hold
          simp only [h2, h3]
          clear h2 h3
          rw [if_pos (by rfl)]
          refine OpY.call (f := 41) (args := #[(.slice (some ⟨b, o, none⟩) K cap), (.int .i64 I)]) (by go_simp) ?_
          refine (IHP.out wf (hr1.out.kept (hk0.out.frmB Kk.undrew (Nat.le_refl _))) (hT.out.kept (hk0.out.frmB Kk.undrew (Nat.le_refl _)))).mono ?_
          rintro e w2 ⟨v2, rfl, o2, k2, n2⟩
          exact ⟨_, rfl, k2, o2, n2.fr Kk.size⟩
        refine Steps.cons (fun x wf Kk hq hdep hold => ?_) ?_
        · try dsimp only
          clear hq hdep hold
          rw [if_pos (by rfl)]
          refine OpY.val (v := (.slice (some ⟨b, o, none⟩) n cap)) ?_ ⟨Kept.refl _ _, rfl⟩
          first | rfl | go_simp
        refine Steps.cons (fun x wf Kk hq hdep hold => ?_) ?_
        · try dsimp only
          clear hq hdep hold
          rw [if_pos (by rfl)]
          refine OpY.val (v := (.int .i64 (K : Int))) ?_ ⟨Kept.refl _ _, rfl⟩
          first | rfl | go_simp
        refine Steps.cons (fun x wf Kk hq hdep hold => ?_) ?_
        · try dsimp only
          have h5 : x 5 = (.slice (some ⟨b, o, none⟩) n cap) := hdep 5 (by kernel_rfl)
          have h6 : x 6 = (.int .i64 (K : Int)) := hdep 6 (by kernel_rfl)
          clear hq hdep hold
          simp only [h5, h6]
          clear h5 h6
          rw [if_pos (by rfl)]
          refine OpY.val (v := (.slice (some ⟨b, o + K * 35, none⟩) (n - K) (cap - K))) ?_ ⟨Kept.refl _ _, rfl⟩
          first | rfl | go_simp
        refine Steps.cons (fun x wf Kk hq hdep hold => ?_) ?_
        · try dsimp only
          have h7 : x 7 = (.slice (some ⟨b, o + K * 35, none⟩) (n - K) (cap - K)) := hdep 7 (by kernel_rfl)
          clear hq hdep hold
          simp only [h7]
          clear h7
          rw [if_pos (by rfl)]
          refine OpY.call (f := 40) (args := #[(.slice (some ⟨b, o + K * 35, none⟩) (n - K) (cap - K))]) (by go_simp) ?_
          refine (HRT.out wf (hr2.out.kept (hk0.out.frmB Kk.undrew (Nat.le_refl _))) (hT.out.kept (hk0.out.frmB Kk.undrew (Nat.le_refl _)))).mono ?_
          rintro e w2 ⟨rfl, k2⟩
          exact ⟨_, rfl, k2, rfl⟩
        refine Steps.cons (fun x wf Kk hq hdep hold => ?_) ?_
        · try dsimp only
          have h8 : x 8 = (Dg R2) := hdep 8 (by kernel_rfl)
          clear hq hdep hold
          simp only [h8]
          clear h8
          rw [if_pos (by rfl)]
          refine OpY.build 33 26 1 _ rfl 32 (.agg Z32) Tryd.underlying33 infDz (by decide) (by decide) (R2.map B) _ rfl (fillD hR2.out) (by simp [hR2.out]) (by decide) (fun w' hg k ho => ⟨k, Rd.of_own ho⟩)
        refine Steps.cons (fun x wf Kk hq hdep hold => ?_) ?_
        · try dsimp only
          have p4 : Pr.p (Sl := (fun _ => (frm w.heap.size))) (OwN w.heap.size 26 32 ds.length (flatD ds)) (x 4) wf := hdep 4 (by kernel_rfl)
          have p9 : Pr.p (Sl := (fun _ => (frm w.heap.size))) (RdIs 32 1 (R2.map B)) (x 9) wf := hdep 9 (by kernel_rfl)
          clear hq hdep hold
          rw [if_pos (by rfl)]
          refine OpY.append (.tmp 29) (.tmp 34) 33 _ rfl rfl 26 32 32 TDigs' (x 4) ds.length (flatD ds) rfl p4.1 (x 9) 1 (R2.map B) rfl p9 (B_one _) ?c2 ?c3 ?_
          case c2 => have := hdl.out; unfold maxLen; omega
          case c3 => have := hdl.out; omega
          rintro v' w' h2 h3 h4 _
          exact ⟨h3.mono fun k _ hk => p4.2 k hk, by rw [flatD_snoc, List.length_append]; exact h2, h4.fr p4.2 Kk.size⟩
        refine Steps.cons (fun x wf Kk hq hdep hold => ?_) ?_
        · try dsimp only
          have p10 : Pr.p (Sl := (fun _ => (frm w.heap.size))) (OwN w.heap.size 26 32 (ds ++ [R2]).length (flatD (ds ++ [R2]))) (x 10) wf := hdep 10 (by kernel_rfl)
          clear hq hdep hold
          rw [if_pos (by rfl)]
          exact OpY.val (v := x 10) rfl ⟨Kept.refl _ _, p10⟩
        exact Steps.nil _
      · intro x wf Kk hv
        try dsimp only
        have h0 : x 0 = (.slice (some ⟨b, o, none⟩) n cap) := hv 0 (by kernel_rfl)
        have h1 : x 1 = (.int .i64 (K : Int)) := hv 1 (by kernel_rfl)
        have h2 : x 2 = (.slice (some ⟨b, o, none⟩) K cap) := hv 2 (by kernel_rfl)
        have h3 : x 3 = (.int .i64 I) := hv 3 (by kernel_rfl)
        have h5 : x 5 = (.slice (some ⟨b, o, none⟩) n cap) := hv 5 (by kernel_rfl)
        have h6 : x 6 = (.int .i64 (K : Int)) := hv 6 (by kernel_rfl)
        have h7 : x 7 = (.slice (some ⟨b, o + K * 35, none⟩) (n - K) (cap - K)) := hv 7 (by kernel_rfl)
        have h8 : x 8 = (Dg R2) := hv 8 (by kernel_rfl)
        have p11 : Pr.p (Sl := (fun _ => (frm w.heap.size))) (OwN w.heap.size 26 32 (ds ++ [R2]).length (flatD (ds ++ [R2]))) (x 11) wf := hv 11 (by kernel_rfl)
        clear hv
        simp only [h0, h1, h2, h3, h5, h6, h7, h8]
        clear h0 h1 h2 h3 h5 h6 h7 h8
        have kz := hid (hk0.out.frmB Kk.undrew (Nat.le_refl _))
        have hb := hid p11
        clear p11 Kk
        go_wp2_with fail
        go_ret
        exact ⟨_, rfl, by rw [hv.out]; exact hb.out.1, kz.out, frNew hb.out.2⟩
    · have hlt : ¬ I < (K : Int) := by omega
      have hge : (K : Int) ≤ I := by omega
      rw [if_neg hik] at hv
      have IHP := hid (fun w h t => ih (n - K) (by omega) (ps.drop K) l2 (i - K) (.slice (some ⟨b, o + K * 35, none⟩) (n - K) (cap - K)) w (by omega) (by omega) h t)
      have HRT := hid (fun w h t => root_any (ps.take K) (.slice (some ⟨b, o, none⟩) K cap) w (by omega) h t)
      have hdl : Hd ((proveD (ents (ps.drop K)) (i - K)).length ≤ 100) := ⟨by have := proveD_count (ents (ps.drop K)) (i - K); rw [ents_length, l2] at this; omega⟩
      have hR2 := hid (rootD_length (ents (ps.take K)))
      generalize rootD (ents (ps.take K)) = R2 at HRT hv hR2
      generalize proveD (ents (ps.drop K)) (i - K) = ds at IHP hv hdl
      obtain ⟨I2, hI2⟩ : ∃ I2 : Nat, i - K = I2 := ⟨_, rfl⟩
      have s1 : I - (K : Int) = (I2 : Int) := by omega
      have s2 : IntKind.i64.wrap (I2 : Int) = (I2 : Int) := IntWalk.i64_in _ (by omega)
      rw [hI2] at IHP
      clear ih hr l1 l2 hn hI hik hI2
      go_enter Tryd.func41, Tryd.ntmps41
      go_upto_region 6 with (refine (HH.out _).mono ?_; rintro ed w' ⟨rfl, rfl⟩)
      refine region_flow (S := (frm w.heap.size)) (Sl := (fun _ => (frm w.heap.size))) [Is (.slice (some ⟨b, o, none⟩) n cap), Is (.int .i64 (K : Int)), Is (.slice (some ⟨b, o + K * 35, none⟩) (n - K) (cap - K)), Is (.int .i64 I), Is (.int .i64 (K : Int)), Is (.int .i64 (I2 : Int)), OwN w.heap.size 26 32 ds.length (flatD ds), Is (.slice (some ⟨b, o, none⟩) n cap), Is (.int .i64 (K : Int)), Is (.slice (some ⟨b, o, none⟩) K cap), Is (Dg R2), RdIs 32 1 (R2.map B), OwN w.heap.size 26 32 (ds ++ [R2]).length (flatD (ds ++ [R2])), OwN w.heap.size 26 32 (ds ++ [R2]).length (flatD (ds ++ [R2]))] [12] (fun _ _ h => h) _ (by kernel_rfl) (by kernel_rfl) (by kernel_rfl) (by kernel_rfl) (fun x => by simp only [puts, Act.put, List.map_cons, List.map_nil, Nat.zero_add, Nat.reduceAdd, List.setIfInBounds_toArray, List.set_cons_zero, List.set_cons_succ]; exact rfl) ?_ ?_
      · skip
        refine Steps.cons (fun x wf Kk hq hdep hold => ?_) ?_
        · try dsimp only
          clear hq hdep hold
          rw [if_pos (by rfl)]
          refine OpY.val (v := (.slice (some ⟨b, o, none⟩) n cap)) ?_ ⟨Kept.refl _ _, rfl⟩
          first | rfl | go_simp
        refine Steps.cons (fun x wf Kk hq hdep hold => ?_) ?_
        · try dsimp only
          clear hq hdep hold
          rw [if_pos (by rfl)]
          refine OpY.val (v := (.int .i64 (K : Int))) ?_ ⟨Kept.refl _ _, rfl⟩
          first | rfl | go_simp
        refine Steps.cons (fun x wf Kk hq hdep hold => ?_) ?_
        · try dsimp only
          have h0 : x 0 = (.slice (some ⟨b, o, none⟩) n cap) := hdep 0 (by kernel_rfl)
          have h1 : x 1 = (.int .i64 (K : Int)) := hdep 1 (by kernel_rfl)
          clear hq hdep hold
          simp only [h0, h1]
          clear h0 h1
          rw [if_pos (by rfl)]
          refine OpY.val (v := (.slice (some ⟨b, o + K * 35, none⟩) (n - K) (cap - K))) ?_ ⟨Kept.refl _ _, rfl⟩
          first | rfl | go_simp
        refine Steps.cons (fun x wf Kk hq hdep hold => ?_) ?_
        · try dsimp only
          clear hq hdep hold
          rw [if_pos (by rfl)]
          refine OpY.val (v := (.int .i64 I)) ?_ ⟨Kept.refl _ _, rfl⟩
          first | rfl | go_simp
        refine Steps.cons (fun x wf Kk hq hdep hold => ?_) ?_
        · try dsimp only
          clear hq hdep hold
          rw [if_pos (by rfl)]
          refine OpY.val (v := (.int .i64 (K : Int))) ?_ ⟨Kept.refl _ _, rfl⟩
          first | rfl | go_simp
        refine Steps.cons (fun x wf Kk hq hdep hold => ?_) ?_
        · try dsimp only
          have h3 : x 3 = (.int .i64 I) := hdep 3 (by kernel_rfl)
          have h4 : x 4 = (.int .i64 (K : Int)) := hdep 4 (by kernel_rfl)
          clear hq hdep hold
          simp only [h3, h4]
          clear h3 h4
          rw [if_pos (by rfl)]
          refine OpY.val (v := (.int .i64 (I2 : Int))) ?_ ⟨Kept.refl _ _, rfl⟩
          go_simp
        refine Steps.cons (fun x wf Kk hq hdep hold => ?_) ?_
        · try dsimp only
          have h2 : x 2 = (.slice (some ⟨b, o + K * 35, none⟩) (n - K) (cap - K)) := hdep 2 (by kernel_rfl)
          have h5 : x 5 = (.int .i64 (I2 : Int)) := hdep 5 (by kernel_rfl)
          clear hq hdep hold
          simp only [h2, h5]
          clear h2 h5
          rw [if_pos (by rfl)]
          refine OpY.call (f := 41) (args := #[(.slice (some ⟨b, o + K * 35, none⟩) (n - K) (cap - K)), (.int .i64 (I2 : Int))]) (by go_simp) ?_
          refine (IHP.out wf (hr2.out.kept (hk0.out.frmB Kk.undrew (Nat.le_refl _))) (hT.out.kept (hk0.out.frmB Kk.undrew (Nat.le_refl _)))).mono ?_
          rintro e w2 ⟨v2, rfl, o2, k2, n2⟩
          exact ⟨_, rfl, k2, o2, n2.fr Kk.size⟩
        refine Steps.cons (fun x wf Kk hq hdep hold => ?_) ?_
        · try dsimp only
          clear hq hdep hold
          rw [if_pos (by rfl)]
          refine OpY.val (v := (.slice (some ⟨b, o, none⟩) n cap)) ?_ ⟨Kept.refl _ _, rfl⟩
          first | rfl | go_simp
        refine Steps.cons (fun x wf Kk hq hdep hold => ?_) ?_
        · try dsimp only
          clear hq hdep hold
          rw [if_pos (by rfl)]
          refine OpY.val (v := (.int .i64 (K : Int))) ?_ ⟨Kept.refl _ _, rfl⟩
          first | rfl | go_simp
        refine Steps.cons (fun x wf Kk hq hdep hold => ?_) ?_
        · try dsimp only
          have h7 : x 7 = (.slice (some ⟨b, o, none⟩) n cap) := hdep 7 (by kernel_rfl)
          have h8 : x 8 = (.int .i64 (K : Int)) := hdep 8 (by kernel_rfl)
          clear hq hdep hold
          simp only [h7, h8]
          clear h7 h8
          rw [if_pos (by rfl)]
          refine OpY.val (v := (.slice (some ⟨b, o, none⟩) K cap)) ?_ ⟨Kept.refl _ _, rfl⟩
          first | rfl | go_simp
        refine Steps.cons (fun x wf Kk hq hdep hold => ?_) ?_
        · try dsimp only
          have h9 : x 9 = (.slice (some ⟨b, o, none⟩) K cap) := hdep 9 (by kernel_rfl)
          clear hq hdep hold
          simp only [h9]
          clear h9
          rw [if_pos (by rfl)]
          refine OpY.call (f := 40) (args := #[(.slice (some ⟨b, o, none⟩) K cap)]) (by go_simp) ?_
          refine (HRT.out wf (hr1.out.kept (hk0.out.frmB Kk.undrew (Nat.le_refl _))) (hT.out.kept (hk0.out.frmB Kk.undrew (Nat.le_refl _)))).mono ?_
          rintro e w2 ⟨rfl, k2⟩
          exact ⟨_, rfl, k2, rfl⟩
        refine Steps.cons (fun x wf Kk hq hdep hold => ?_) ?_
        · try dsimp only
          have h10 : x 10 = (Dg R2) := hdep 10 (by kernel_rfl)
          clear hq hdep hold
          simp only [h10]
          clear h10
          rw [if_pos (by rfl)]
          refine OpY.build 33 26 1 _ rfl 32 (.agg Z32) Tryd.underlying33 infDz (by decide) (by decide) (R2.map B) _ rfl (fillD hR2.out) (by simp [hR2.out]) (by decide) (fun w' hg k ho => ⟨k, Rd.of_own ho⟩)
        refine Steps.cons (fun x wf Kk hq hdep hold => ?_) ?_
        · try dsimp only
          have p6 : Pr.p (Sl := (fun _ => (frm w.heap.size))) (OwN w.heap.size 26 32 ds.length (flatD ds)) (x 6) wf := hdep 6 (by kernel_rfl)
          have p11 : Pr.p (Sl := (fun _ => (frm w.heap.size))) (RdIs 32 1 (R2.map B)) (x 11) wf := hdep 11 (by kernel_rfl)
          clear hq hdep hold
          rw [if_pos (by rfl)]
          refine OpY.append (.tmp 42) (.tmp 47) 33 _ rfl rfl 26 32 32 TDigs' (x 6) ds.length (flatD ds) rfl p6.1 (x 11) 1 (R2.map B) rfl p11 (B_one _) ?c2 ?c3 ?_
          case c2 => have := hdl.out; unfold maxLen; omega
          case c3 => have := hdl.out; omega
          rintro v' w' h2 h3 h4 _
          exact ⟨h3.mono fun k _ hk => p6.2 k hk, by rw [flatD_snoc, List.length_append]; exact h2, h4.fr p6.2 Kk.size⟩
        refine Steps.cons (fun x wf Kk hq hdep hold => ?_) ?_
        · try dsimp only
          have p12 : Pr.p (Sl := (fun _ => (frm w.heap.size))) (OwN w.heap.size 26 32 (ds ++ [R2]).length (flatD (ds ++ [R2]))) (x 12) wf := hdep 12 (by kernel_rfl)
          clear hq hdep hold
          rw [if_pos (by rfl)]
          exact OpY.val (v := x 12) rfl ⟨Kept.refl _ _, p12⟩
        exact Steps.nil _
      · intro x wf Kk hv
        try dsimp only
        have h0 : x 0 = (.slice (some ⟨b, o, none⟩) n cap) := hv 0 (by kernel_rfl)
        have h1 : x 1 = (.int .i64 (K : Int)) := hv 1 (by kernel_rfl)
        have h2 : x 2 = (.slice (some ⟨b, o + K * 35, none⟩) (n - K) (cap - K)) := hv 2 (by kernel_rfl)
        have h3 : x 3 = (.int .i64 I) := hv 3 (by kernel_rfl)
        have h4 : x 4 = (.int .i64 (K : Int)) := hv 4 (by kernel_rfl)
        have h5 : x 5 = (.int .i64 (I2 : Int)) := hv 5 (by kernel_rfl)
        have h7 : x 7 = (.slice (some ⟨b, o, none⟩) n cap) := hv 7 (by kernel_rfl)
        have h8 : x 8 = (.int .i64 (K : Int)) := hv 8 (by kernel_rfl)
        have h9 : x 9 = (.slice (some ⟨b, o, none⟩) K cap) := hv 9 (by kernel_rfl)
        have h10 : x 10 = (Dg R2) := hv 10 (by kernel_rfl)
        have p13 : Pr.p (Sl := (fun _ => (frm w.heap.size))) (OwN w.heap.size 26 32 (ds ++ [R2]).length (flatD (ds ++ [R2]))) (x 13) wf := hv 13 (by kernel_rfl)
        clear hv
        simp only [h0, h1, h2, h3, h4, h5, h7, h8, h9, h10]
        clear h0 h1 h2 h3 h4 h5 h7 h8 h9 h10
        have kz := hid (hk0.out.frmB Kk.undrew (Nat.le_refl _))
        have hb := hid p13
        clear p13 Kk
        go_wp2_with fail
        go_ret
        exact ⟨_, rfl, by rw [hv.out]; exact hb.out.1, kz.out, frNew hb.out.2⟩
set_option maxRecDepth 100000 in
set_option maxHeartbeats 4000000 in
theorem refprove_any (ps : List (Ent × Value)) : ∀ (i : Nat) (v : Value) (w : World), i < ps.length → ps.length ≤ 63 → RdE w v ps → TabR w → Calls Tryd.prog 36 #[v, .int .i64 (i : Int)] w fun ed w' => ∃ v', ed = .returned v' ∧ w'.ownsRow 0 26 32 v' (proveD (ents ps) i).length (flatD (proveD (ents ps) i)) ∧ Kept no w w' ∧ New w v' := by
  induction hn : ps.length using Nat.strongRecOn generalizing ps with
  | ind n ih =>
  intro i v w hi h63 hr hT
  obtain ⟨ao, cap, rfl, hcap⟩ := hr.shape
  rw [hn] at hr hcap ⊢
  replace hT := hid hT
  by_cases h1 : n = 1
  · subst h1
    obtain rfl : i = 0 := by omega
    obtain ⟨⟨e, vb⟩, rfl⟩ := List.length_eq_one_iff.1 hn
    have hv : proveD (ents [(e, vb)]) 0 = [] := by unfold ents; rw [List.map_cons, List.map_nil, proveD]
    rw [hv]
    clear ih hr hn hv
    go_enter Tryd.func36, Tryd.ntmps36
    go_wp2_with fail
    go_ret
    exact ⟨_, rfl, World.ownsRow_nil _ _ _ _, Kept.refl _ _, .inl rfl⟩
  · have h2 : 2 ≤ n := by omega
    have hk0 := hid (Kept.refl no w)
    have hK1 := half_lt n h2
    have hK0 := half_pos n
    have hv := hid (proveD_more (ents ps) i (by rw [ents_length]; omega))
    rw [ents_length, hn, ents_take, ents_drop] at hv
    have HH := hid (fun w => split_any n w h2 h63)
    generalize half n = K at hK1 hK0 hv HH
    obtain ⟨b, o, rfl, hr2⟩ := RdE.drop (n := n) hr K (by omega)
    have hr1 := hid (RdE.take (n := n) hr K (by omega))
    rw [hn] at hr2
    replace hr2 := hid hr2
    have l1 : (ps.take K).length = K := by rw [List.length_take]; omega
    have l2 : (ps.drop K).length = n - K := by rw [List.length_drop, hn]
    have c1 : ((K : Nat) : Int) ≤ ((n : Nat) : Int) := by omega
    have c2 : ((n : Nat) : Int) ≤ ((cap : Nat) : Int) := by omega
    have c3 : (0 : Int) ≤ ((K : Nat) : Int) := by omega
    have c4 : ((K : Nat) : Int) ≤ ((cap : Nat) : Int) := by omega
    have c5 : ¬ cap = K := by omega
    have z1 : ¬ ((n : Nat) : Int) = 1 := by omega
    have y1 : (((n : Nat) : Int) == 1) = false := by simpa using z1
    obtain ⟨I, hI⟩ : ∃ I : Int, (i : Int) = I := ⟨_, rfl⟩
    rw [hI]
    have g0 : ¬ I < 0 := by omega
    have g0' : (0 : Int) ≤ I := by omega
    have g1 : ¬ ((n : Nat) : Int) ≤ I := by omega
    have g1' : I < ((n : Nat) : Int) := by omega
    by_cases hik : i < K
    · have hlt : I < (K : Int) := by omega
      rw [if_pos hik] at hv
      have IHP := hid (fun w h t => ih K hK1 (ps.take K) l1 i (.slice (some ⟨b, o, none⟩) K cap) w hik (by omega) h t)
      rw [hI] at IHP
      have HRT := hid (fun w h t => refroot_any (ps.drop K) (.slice (some ⟨b, o + K * 35, none⟩) (n - K) (cap - K)) w (by omega) h t)
      have hdl : Hd ((proveD (ents (ps.take K)) i).length ≤ 100) := ⟨by have := proveD_count (ents (ps.take K)) i; rw [ents_length, l1] at this; omega⟩
      have hR2 := hid (rootD_length (ents (ps.drop K)))
      generalize rootD (ents (ps.drop K)) = R2 at HRT hv hR2
      generalize proveD (ents (ps.take K)) i = ds at IHP hv hdl
      clear ih hr l1 l2 hn hI hik
      go_enter Tryd.func36, Tryd.ntmps36
      go_upto_region 5 with (refine (HH.out _).mono ?_; rintro ed w' ⟨rfl, rfl⟩)
      refine region_flow (S := (frm w.heap.size)) (Sl := (fun _ => (frm w.heap.size))) [Is (.slice (some ⟨b, o, none⟩) n cap), Is (.int .i64 (K : Int)), Is (.slice (some ⟨b, o, none⟩) K cap), Is (.int .i64 I), OwN w.heap.size 26 32 ds.length (flatD ds), Is (.slice (some ⟨b, o, none⟩) n cap), Is (.int .i64 (K : Int)), Is (.slice (some ⟨b, o + K * 35, none⟩) (n - K) (cap - K)), Is (Dg R2), RdIs 32 1 (R2.map B), OwN w.heap.size 26 32 (ds ++ [R2]).length (flatD (ds ++ [R2])), OwN w.heap.size 26 32 (ds ++ [R2]).length (flatD (ds ++ [R2]))] [10] (fun _ _ h => h) _ (by kernel_rfl) (by kernel_rfl) (by kernel_rfl) (by kernel_rfl) (fun x => by simp only [puts, Act.put, List.map_cons, List.map_nil, Nat.zero_add, Nat.reduceAdd, List.setIfInBounds_toArray, List.set_cons_zero, List.set_cons_succ]; exact rfl) ?_ ?_
      · skip
        refine Steps.cons (fun x wf Kk hq hdep hold => ?_) ?_
        · try dsimp only
          clear hq hdep hold
          rw [if_pos (by rfl)]
          refine OpY.val (v := (.slice (some ⟨b, o, none⟩) n cap)) ?_ ⟨Kept.refl _ _, rfl⟩
          first | rfl | go_simp
        refine Steps.cons (fun x wf Kk hq hdep hold => ?_) ?_
        · try dsimp only
          clear hq hdep hold
          rw [if_pos (by rfl)]
          refine OpY.val (v := (.int .i64 (K : Int))) ?_ ⟨Kept.refl _ _, rfl⟩
          first | rfl | go_simp
        refine Steps.cons (fun x wf Kk hq hdep hold => ?_) ?_
        · try dsimp only
          have h0 : x 0 = (.slice (some ⟨b, o, none⟩) n cap) := hdep 0 (by kernel_rfl)
          have h1 : x 1 = (.int .i64 (K : Int)) := hdep 1 (by kernel_rfl)
          clear hq hdep hold
          simp only [h0, h1]
          clear h0 h1
          rw [if_pos (by rfl)]
          refine OpY.val (v := (.slice (some ⟨b, o, none⟩) K cap)) ?_ ⟨Kept.refl _ _, rfl⟩
          first | rfl | go_simp
        refine Steps.cons (fun x wf Kk hq hdep hold => ?_) ?_
        · try dsimp only
          clear hq hdep hold
          rw [if_pos (by rfl)]
          refine OpY.val (v := (.int .i64 I)) ?_ ⟨Kept.refl _ _, rfl⟩
          first | rfl | go_simp
        refine Steps.cons (fun x wf Kk hq hdep hold => ?_) ?_
        · try dsimp only
          have h2 : x 2 = (.slice (some ⟨b, o, none⟩) K cap) := hdep 2 (by kernel_rfl)
          have h3 : x 3 = (.int .i64 I) := hdep 3 (by kernel_rfl)
          clear hq hdep hold
          simp only [h2, h3]
          clear h2 h3
          rw [if_pos (by rfl)]
          refine OpY.call (f := 36) (args := #[(.slice (some ⟨b, o, none⟩) K cap), (.int .i64 I)]) (by go_simp) ?_
          refine (IHP.out wf (hr1.out.kept (hk0.out.frmB Kk.undrew (Nat.le_refl _))) (hT.out.kept (hk0.out.frmB Kk.undrew (Nat.le_refl _)))).mono ?_
          rintro e w2 ⟨v2, rfl, o2, k2, n2⟩
          exact ⟨_, rfl, k2, o2, n2.fr Kk.size⟩
        refine Steps.cons (fun x wf Kk hq hdep hold => ?_) ?_
        · try dsimp only
          clear hq hdep hold
          rw [if_pos (by rfl)]
          refine OpY.val (v := (.slice (some ⟨b, o, none⟩) n cap)) ?_ ⟨Kept.refl _ _, rfl⟩
          first | rfl | go_simp
        refine Steps.cons (fun x wf Kk hq hdep hold => ?_) ?_
        · try dsimp only
          clear hq hdep hold
          rw [if_pos (by rfl)]
          refine OpY.val (v := (.int .i64 (K : Int))) ?_ ⟨Kept.refl _ _, rfl⟩
          first | rfl | go_simp
        refine Steps.cons (fun x wf Kk hq hdep hold => ?_) ?_
        · try dsimp only
          have h5 : x 5 = (.slice (some ⟨b, o, none⟩) n cap) := hdep 5 (by kernel_rfl)
          have h6 : x 6 = (.int .i64 (K : Int)) := hdep 6 (by kernel_rfl)
          clear hq hdep hold
          simp only [h5, h6]
          clear h5 h6
          rw [if_pos (by rfl)]
          refine OpY.val (v := (.slice (some ⟨b, o + K * 35, none⟩) (n - K) (cap - K))) ?_ ⟨Kept.refl _ _, rfl⟩
          first | rfl | go_simp
        refine Steps.cons (fun x wf Kk hq hdep hold => ?_) ?_
        · try dsimp only
          have h7 : x 7 = (.slice (some ⟨b, o + K * 35, none⟩) (n - K) (cap - K)) := hdep 7 (by kernel_rfl)
          clear hq hdep hold
          simp only [h7]
          clear h7
          rw [if_pos (by rfl)]
          refine OpY.call (f := 38) (args := #[(.slice (some ⟨b, o + K * 35, none⟩) (n - K) (cap - K))]) (by go_simp) ?_
          refine (HRT.out wf (hr2.out.kept (hk0.out.frmB Kk.undrew (Nat.le_refl _))) (hT.out.kept (hk0.out.frmB Kk.undrew (Nat.le_refl _)))).mono ?_
          rintro e w2 ⟨rfl, k2⟩
          exact ⟨_, rfl, k2, rfl⟩
        refine Steps.cons (fun x wf Kk hq hdep hold => ?_) ?_
        · try dsimp only
          have h8 : x 8 = (Dg R2) := hdep 8 (by kernel_rfl)
          clear hq hdep hold
          simp only [h8]
          clear h8
          rw [if_pos (by rfl)]
          refine OpY.build 33 26 1 _ rfl 32 (.agg Z32) Tryd.underlying33 infDz (by decide) (by decide) (R2.map B) _ rfl (fillD hR2.out) (by simp [hR2.out]) (by decide) (fun w' hg k ho => ⟨k, Rd.of_own ho⟩)
        refine Steps.cons (fun x wf Kk hq hdep hold => ?_) ?_
        · try dsimp only
          have p4 : Pr.p (Sl := (fun _ => (frm w.heap.size))) (OwN w.heap.size 26 32 ds.length (flatD ds)) (x 4) wf := hdep 4 (by kernel_rfl)
          have p9 : Pr.p (Sl := (fun _ => (frm w.heap.size))) (RdIs 32 1 (R2.map B)) (x 9) wf := hdep 9 (by kernel_rfl)
          clear hq hdep hold
          rw [if_pos (by rfl)]
          refine OpY.append (.tmp 19) (.tmp 24) 33 _ rfl rfl 26 32 32 TDigs' (x 4) ds.length (flatD ds) rfl p4.1 (x 9) 1 (R2.map B) rfl p9 (B_one _) ?c2 ?c3 ?_
          case c2 => have := hdl.out; unfold maxLen; omega
          case c3 => have := hdl.out; omega
          rintro v' w' h2 h3 h4 _
          exact ⟨h3.mono fun k _ hk => p4.2 k hk, by rw [flatD_snoc, List.length_append]; exact h2, h4.fr p4.2 Kk.size⟩
        refine Steps.cons (fun x wf Kk hq hdep hold => ?_) ?_
        · try dsimp only
          have p10 : Pr.p (Sl := (fun _ => (frm w.heap.size))) (OwN w.heap.size 26 32 (ds ++ [R2]).length (flatD (ds ++ [R2]))) (x 10) wf := hdep 10 (by kernel_rfl)
          clear hq hdep hold
          rw [if_pos (by rfl)]
          exact OpY.val (v := x 10) rfl ⟨Kept.refl _ _, p10⟩
        exact Steps.nil _
      · intro x wf Kk hv
        try dsimp only
        have h0 : x 0 = (.slice (some ⟨b, o, none⟩) n cap) := hv 0 (by kernel_rfl)
        have h1 : x 1 = (.int .i64 (K : Int)) := hv 1 (by kernel_rfl)
        have h2 : x 2 = (.slice (some ⟨b, o, none⟩) K cap) := hv 2 (by kernel_rfl)
        have h3 : x 3 = (.int .i64 I) := hv 3 (by kernel_rfl)
        have h5 : x 5 = (.slice (some ⟨b, o, none⟩) n cap) := hv 5 (by kernel_rfl)
        have h6 : x 6 = (.int .i64 (K : Int)) := hv 6 (by kernel_rfl)
        have h7 : x 7 = (.slice (some ⟨b, o + K * 35, none⟩) (n - K) (cap - K)) := hv 7 (by kernel_rfl)
        have h8 : x 8 = (Dg R2) := hv 8 (by kernel_rfl)
        have p11 : Pr.p (Sl := (fun _ => (frm w.heap.size))) (OwN w.heap.size 26 32 (ds ++ [R2]).length (flatD (ds ++ [R2]))) (x 11) wf := hv 11 (by kernel_rfl)
        clear hv
        simp only [h0, h1, h2, h3, h5, h6, h7, h8]
        clear h0 h1 h2 h3 h5 h6 h7 h8
        have kz := hid (hk0.out.frmB Kk.undrew (Nat.le_refl _))
        have hb := hid p11
        clear p11 Kk
        go_wp2_with fail
        go_ret
        exact ⟨_, rfl, by rw [hv.out]; exact hb.out.1, kz.out, frNew hb.out.2⟩
    · have hlt : ¬ I < (K : Int) := by omega
      have hge : (K : Int) ≤ I := by omega
      rw [if_neg hik] at hv
      have IHP := hid (fun w h t => ih (n - K) (by omega) (ps.drop K) l2 (i - K) (.slice (some ⟨b, o + K * 35, none⟩) (n - K) (cap - K)) w (by omega) (by omega) h t)
      have HRT := hid (fun w h t => refroot_any (ps.take K) (.slice (some ⟨b, o, none⟩) K cap) w (by omega) h t)
      have hdl : Hd ((proveD (ents (ps.drop K)) (i - K)).length ≤ 100) := ⟨by have := proveD_count (ents (ps.drop K)) (i - K); rw [ents_length, l2] at this; omega⟩
      have hR2 := hid (rootD_length (ents (ps.take K)))
      generalize rootD (ents (ps.take K)) = R2 at HRT hv hR2
      generalize proveD (ents (ps.drop K)) (i - K) = ds at IHP hv hdl
      obtain ⟨I2, hI2⟩ : ∃ I2 : Nat, i - K = I2 := ⟨_, rfl⟩
      have s1 : I - (K : Int) = (I2 : Int) := by omega
      have s2 : IntKind.i64.wrap (I2 : Int) = (I2 : Int) := IntWalk.i64_in _ (by omega)
      rw [hI2] at IHP
      clear ih hr l1 l2 hn hI hik hI2
      go_enter Tryd.func36, Tryd.ntmps36
      go_upto_region 6 with (refine (HH.out _).mono ?_; rintro ed w' ⟨rfl, rfl⟩)
      refine region_flow (S := (frm w.heap.size)) (Sl := (fun _ => (frm w.heap.size))) [Is (.slice (some ⟨b, o, none⟩) n cap), Is (.int .i64 (K : Int)), Is (.slice (some ⟨b, o + K * 35, none⟩) (n - K) (cap - K)), Is (.int .i64 I), Is (.int .i64 (K : Int)), Is (.int .i64 (I2 : Int)), OwN w.heap.size 26 32 ds.length (flatD ds), Is (.slice (some ⟨b, o, none⟩) n cap), Is (.int .i64 (K : Int)), Is (.slice (some ⟨b, o, none⟩) K cap), Is (Dg R2), RdIs 32 1 (R2.map B), OwN w.heap.size 26 32 (ds ++ [R2]).length (flatD (ds ++ [R2])), OwN w.heap.size 26 32 (ds ++ [R2]).length (flatD (ds ++ [R2]))] [12] (fun _ _ h => h) _ (by kernel_rfl) (by kernel_rfl) (by kernel_rfl) (by kernel_rfl) (fun x => by simp only [puts, Act.put, List.map_cons, List.map_nil, Nat.zero_add, Nat.reduceAdd, List.setIfInBounds_toArray, List.set_cons_zero, List.set_cons_succ]; exact rfl) ?_ ?_
      · skip
        refine Steps.cons (fun x wf Kk hq hdep hold => ?_) ?_
        · try dsimp only
          clear hq hdep hold
          rw [if_pos (by rfl)]
          refine OpY.val (v := (.slice (some ⟨b, o, none⟩) n cap)) ?_ ⟨Kept.refl _ _, rfl⟩
          first | rfl | go_simp
        refine Steps.cons (fun x wf Kk hq hdep hold => ?_) ?_
        · try dsimp only
          clear hq hdep hold
          rw [if_pos (by rfl)]
          refine OpY.val (v := (.int .i64 (K : Int))) ?_ ⟨Kept.refl _ _, rfl⟩
          first | rfl | go_simp
        refine Steps.cons (fun x wf Kk hq hdep hold => ?_) ?_
        · try dsimp only
          have h0 : x 0 = (.slice (some ⟨b, o, none⟩) n cap) := hdep 0 (by kernel_rfl)
          have h1 : x 1 = (.int .i64 (K : Int)) := hdep 1 (by kernel_rfl)
          clear hq hdep hold
          simp only [h0, h1]
          clear h0 h1
          rw [if_pos (by rfl)]
          refine OpY.val (v := (.slice (some ⟨b, o + K * 35, none⟩) (n - K) (cap - K))) ?_ ⟨Kept.refl _ _, rfl⟩
          first | rfl | go_simp
        refine Steps.cons (fun x wf Kk hq hdep hold => ?_) ?_
        · try dsimp only
          clear hq hdep hold
          rw [if_pos (by rfl)]
          refine OpY.val (v := (.int .i64 I)) ?_ ⟨Kept.refl _ _, rfl⟩
          first | rfl | go_simp
        refine Steps.cons (fun x wf Kk hq hdep hold => ?_) ?_
        · try dsimp only
          clear hq hdep hold
          rw [if_pos (by rfl)]
          refine OpY.val (v := (.int .i64 (K : Int))) ?_ ⟨Kept.refl _ _, rfl⟩
          first | rfl | go_simp
        refine Steps.cons (fun x wf Kk hq hdep hold => ?_) ?_
        · try dsimp only
          have h3 : x 3 = (.int .i64 I) := hdep 3 (by kernel_rfl)
          have h4 : x 4 = (.int .i64 (K : Int)) := hdep 4 (by kernel_rfl)
          clear hq hdep hold
          simp only [h3, h4]
          clear h3 h4
          rw [if_pos (by rfl)]
          refine OpY.val (v := (.int .i64 (I2 : Int))) ?_ ⟨Kept.refl _ _, rfl⟩
          go_simp
        refine Steps.cons (fun x wf Kk hq hdep hold => ?_) ?_
        · try dsimp only
          have h2 : x 2 = (.slice (some ⟨b, o + K * 35, none⟩) (n - K) (cap - K)) := hdep 2 (by kernel_rfl)
          have h5 : x 5 = (.int .i64 (I2 : Int)) := hdep 5 (by kernel_rfl)
          clear hq hdep hold
          simp only [h2, h5]
          clear h2 h5
          rw [if_pos (by rfl)]
          refine OpY.call (f := 36) (args := #[(.slice (some ⟨b, o + K * 35, none⟩) (n - K) (cap - K)), (.int .i64 (I2 : Int))]) (by go_simp) ?_
          refine (IHP.out wf (hr2.out.kept (hk0.out.frmB Kk.undrew (Nat.le_refl _))) (hT.out.kept (hk0.out.frmB Kk.undrew (Nat.le_refl _)))).mono ?_
          rintro e w2 ⟨v2, rfl, o2, k2, n2⟩
          exact ⟨_, rfl, k2, o2, n2.fr Kk.size⟩
        refine Steps.cons (fun x wf Kk hq hdep hold => ?_) ?_
        · try dsimp only
          clear hq hdep hold
          rw [if_pos (by rfl)]
          refine OpY.val (v := (.slice (some ⟨b, o, none⟩) n cap)) ?_ ⟨Kept.refl _ _, rfl⟩
          first | rfl | go_simp
        refine Steps.cons (fun x wf Kk hq hdep hold => ?_) ?_
        · try dsimp only
          clear hq hdep hold
          rw [if_pos (by rfl)]
          refine OpY.val (v := (.int .i64 (K : Int))) ?_ ⟨Kept.refl _ _, rfl⟩
          first | rfl | go_simp
        refine Steps.cons (fun x wf Kk hq hdep hold => ?_) ?_
        · try dsimp only
          have h7 : x 7 = (.slice (some ⟨b, o, none⟩) n cap) := hdep 7 (by kernel_rfl)
          have h8 : x 8 = (.int .i64 (K : Int)) := hdep 8 (by kernel_rfl)
          clear hq hdep hold
          simp only [h7, h8]
          clear h7 h8
          rw [if_pos (by rfl)]
          refine OpY.val (v := (.slice (some ⟨b, o, none⟩) K cap)) ?_ ⟨Kept.refl _ _, rfl⟩
          first | rfl | go_simp
        refine Steps.cons (fun x wf Kk hq hdep hold => ?_) ?_
        · try dsimp only
          have h9 : x 9 = (.slice (some ⟨b, o, none⟩) K cap) := hdep 9 (by kernel_rfl)
          clear hq hdep hold
          simp only [h9]
          clear h9
          rw [if_pos (by rfl)]
          refine OpY.call (f := 38) (args := #[(.slice (some ⟨b, o, none⟩) K cap)]) (by go_simp) ?_
          refine (HRT.out wf (hr1.out.kept (hk0.out.frmB Kk.undrew (Nat.le_refl _))) (hT.out.kept (hk0.out.frmB Kk.undrew (Nat.le_refl _)))).mono ?_
          rintro e w2 ⟨rfl, k2⟩
          exact ⟨_, rfl, k2, rfl⟩
        refine Steps.cons (fun x wf Kk hq hdep hold => ?_) ?_
        · try dsimp only
          have h10 : x 10 = (Dg R2) := hdep 10 (by kernel_rfl)
          clear hq hdep hold
          simp only [h10]
          clear h10
          rw [if_pos (by rfl)]
          refine OpY.build 33 26 1 _ rfl 32 (.agg Z32) Tryd.underlying33 infDz (by decide) (by decide) (R2.map B) _ rfl (fillD hR2.out) (by simp [hR2.out]) (by decide) (fun w' hg k ho => ⟨k, Rd.of_own ho⟩)
        refine Steps.cons (fun x wf Kk hq hdep hold => ?_) ?_
        · try dsimp only
          have p6 : Pr.p (Sl := (fun _ => (frm w.heap.size))) (OwN w.heap.size 26 32 ds.length (flatD ds)) (x 6) wf := hdep 6 (by kernel_rfl)
          have p11 : Pr.p (Sl := (fun _ => (frm w.heap.size))) (RdIs 32 1 (R2.map B)) (x 11) wf := hdep 11 (by kernel_rfl)
          clear hq hdep hold
          rw [if_pos (by rfl)]
          refine OpY.append (.tmp 32) (.tmp 37) 33 _ rfl rfl 26 32 32 TDigs' (x 6) ds.length (flatD ds) rfl p6.1 (x 11) 1 (R2.map B) rfl p11 (B_one _) ?c2 ?c3 ?_
          case c2 => have := hdl.out; unfold maxLen; omega
          case c3 => have := hdl.out; omega
          rintro v' w' h2 h3 h4 _
          exact ⟨h3.mono fun k _ hk => p6.2 k hk, by rw [flatD_snoc, List.length_append]; exact h2, h4.fr p6.2 Kk.size⟩
        refine Steps.cons (fun x wf Kk hq hdep hold => ?_) ?_
        · try dsimp only
          have p12 : Pr.p (Sl := (fun _ => (frm w.heap.size))) (OwN w.heap.size 26 32 (ds ++ [R2]).length (flatD (ds ++ [R2]))) (x 12) wf := hdep 12 (by kernel_rfl)
          clear hq hdep hold
          rw [if_pos (by rfl)]
          exact OpY.val (v := x 12) rfl ⟨Kept.refl _ _, p12⟩
        exact Steps.nil _
      · intro x wf Kk hv
        try dsimp only
        have h0 : x 0 = (.slice (some ⟨b, o, none⟩) n cap) := hv 0 (by kernel_rfl)
        have h1 : x 1 = (.int .i64 (K : Int)) := hv 1 (by kernel_rfl)
        have h2 : x 2 = (.slice (some ⟨b, o + K * 35, none⟩) (n - K) (cap - K)) := hv 2 (by kernel_rfl)
        have h3 : x 3 = (.int .i64 I) := hv 3 (by kernel_rfl)
        have h4 : x 4 = (.int .i64 (K : Int)) := hv 4 (by kernel_rfl)
        have h5 : x 5 = (.int .i64 (I2 : Int)) := hv 5 (by kernel_rfl)
        have h7 : x 7 = (.slice (some ⟨b, o, none⟩) n cap) := hv 7 (by kernel_rfl)
        have h8 : x 8 = (.int .i64 (K : Int)) := hv 8 (by kernel_rfl)
        have h9 : x 9 = (.slice (some ⟨b, o, none⟩) K cap) := hv 9 (by kernel_rfl)
        have h10 : x 10 = (Dg R2) := hv 10 (by kernel_rfl)
        have p13 : Pr.p (Sl := (fun _ => (frm w.heap.size))) (OwN w.heap.size 26 32 (ds ++ [R2]).length (flatD (ds ++ [R2]))) (x 13) wf := hv 13 (by kernel_rfl)
        clear hv
        simp only [h0, h1, h2, h3, h4, h5, h7, h8, h9, h10]
        clear h0 h1 h2 h3 h4 h5 h7 h8 h9 h10
        have kz := hid (hk0.out.frmB Kk.undrew (Nat.le_refl _))
        have hb := hid p13
        clear p13 Kk
        go_wp2_with fail
        go_ret
        exact ⟨_, rfl, by rw [hv.out]; exact hb.out.1, kz.out, frNew hb.out.2⟩
set_option maxRecDepth 100000 in
set_option maxHeartbeats 4000000 in
theorem ext_any (ps : List (Ent × Value)) : ∀ (m : Nat) (known : Bool) (v : Value) (w : World), 1 ≤ m → m ≤ ps.length → ps.length ≤ 63 → RdE w v ps → Tab w → Calls Tryd.prog 67 #[v, .int .i64 (m : Int), .bool known] w fun ed w' => ∃ v', ed = .returned v' ∧ w'.ownsRow 0 26 32 v' (extendD (ents ps) m known).length (flatD (extendD (ents ps) m known)) ∧ Kept no w w' ∧ New w v' := by
  induction hn : ps.length using Nat.strongRecOn generalizing ps with
  | ind n ih =>
  intro m known v w hm hmn h63 hr hT
  obtain ⟨ao, cap, rfl, hcap⟩ := hr.shape
  rw [hn] at hr hcap ⊢
  replace hT := hid hT
  have hk0 := hid (Kept.refl no w)
  by_cases h1 : m = n
  · subst h1
    cases known with
    | true =>
      have hv : extendD (ents ps) m true = [] := by rw [extendD, if_pos (.inl (by rw [ents_length, hn])), if_pos rfl]
      rw [hv]
      clear ih hr hn hv
      go_enter Tryd.func67, Tryd.ntmps67
      go_wp2_with fail
      go_ret
      exact ⟨_, rfl, World.ownsRow_nil _ _ _ _, Kept.refl _ _, .inl rfl⟩
    | false =>
      have hv : extendD (ents ps) m false = [rootD (ents ps)] := by rw [extendD, if_pos (.inl (by rw [ents_length, hn])), if_neg (by decide)]
      rw [hv]
      have HRT := hid (fun w h t => root_any ps (.slice ao m cap) w (by omega) h t)
      have hR2 := hid (rootD_length (ents ps))
      generalize rootD (ents ps) = R2 at HRT hR2
      replace hr := hid hr
      clear ih hn hv
      go_enter Tryd.func67, Tryd.ntmps67
      go_wp2_with fail
      refine (HRT.out w hr.out hT.out).mono ?_
      rintro ed w2 ⟨rfl, k2⟩
      have hsz := hid k2.size
      go_wp2_with (refine bd rfl _ rfl R2 rfl hR2.out ?_)
      intro w3 k3 o3
      have K3 := hid (k2.trans' k3)
      replace o3 := hid o3
      clear k2 k3
      go_wp2_with fail
      go_ret
      exact ⟨_, rfl, o3.out, K3.out, .inr ⟨_, rfl, hsz.out⟩⟩
  · have h2 : 2 ≤ n := by omega
    have hK1 := half_lt n h2
    have hK0 := half_pos n
    have hv : Hd (extendD (ents ps) m known = if m ≤ half n then extendD (ents (ps.take (half n))) m known ++ [rootD (ents (ps.drop (half n)))] else extendD (ents (ps.drop (half n))) (m - half n) false ++ [rootD (ents (ps.take (half n)))]) := ⟨by
      rw [extendD, if_neg (by rw [ents_length, hn]; omega), ents_length, hn, ents_take, ents_drop]⟩
    have HH := hid (fun w => half_any n w h2 h63)
    generalize half n = K at hK1 hK0 hv HH
    obtain ⟨b, o, rfl, hr2⟩ := RdE.drop (n := n) hr K (by omega)
    have hr1 := hid (RdE.take (n := n) hr K (by omega))
    rw [hn] at hr2
    replace hr2 := hid hr2
    have l1 : (ps.take K).length = K := by rw [List.length_take]; omega
    have l2 : (ps.drop K).length = n - K := by rw [List.length_drop, hn]
    have c1 : ((K : Nat) : Int) ≤ ((n : Nat) : Int) := by omega
    have c2 : ((n : Nat) : Int) ≤ ((cap : Nat) : Int) := by omega
    have c3 : (0 : Int) ≤ ((K : Nat) : Int) := by omega
    have c4 : ((K : Nat) : Int) ≤ ((cap : Nat) : Int) := by omega
    have c5 : ¬ cap = K := by omega
    obtain ⟨I, hI⟩ : ∃ I : Int, (m : Int) = I := ⟨_, rfl⟩
    rw [hI]
    have z1 : ¬ I = ((n : Nat) : Int) := by omega
    have y1 : (I == ((n : Nat) : Int)) = false := by simpa using z1
    by_cases hik : m ≤ K
    · have hlt : I ≤ (K : Int) := by omega
      rw [if_pos hik] at hv
      have IHP := hid (fun w h t => ih K hK1 (ps.take K) l1 m known (.slice (some ⟨b, o, none⟩) K cap) w hm hik (by omega) h t)
      rw [hI] at IHP
      have HRT := hid (fun w h t => root_any (ps.drop K) (.slice (some ⟨b, o + K * 35, none⟩) (n - K) (cap - K)) w (by omega) h t)
      have hdl : Hd ((extendD (ents (ps.take K)) m known).length ≤ 100) := ⟨by have := extendD_count (ents (ps.take K)) m known; rw [ents_length, l1] at this; omega⟩
      have hR2 := hid (rootD_length (ents (ps.drop K)))
      generalize rootD (ents (ps.drop K)) = R2 at HRT hv hR2
      generalize extendD (ents (ps.take K)) m known = ds at IHP hv hdl
      clear ih hr l1 l2 hn hI hik
      go_enter Tryd.func67, Tryd.ntmps67
      go_upto_region 7 with (refine (HH.out _).mono ?_; rintro ed w' ⟨rfl, rfl⟩)
      refine region_flow (S := (frm w.heap.size)) (Sl := (fun _ => (frm w.heap.size))) [Is (.slice (some ⟨b, o, none⟩) n cap), Is (.int .i64 (K : Int)), Is (.slice (some ⟨b, o, none⟩) K cap), Is (.int .i64 I), Is (.bool known), OwN w.heap.size 26 32 ds.length (flatD ds), Is (.slice (some ⟨b, o, none⟩) n cap), Is (.int .i64 (K : Int)), Is (.slice (some ⟨b, o + K * 35, none⟩) (n - K) (cap - K)), Is (Dg R2), RdIs 32 1 (R2.map B), OwN w.heap.size 26 32 (ds ++ [R2]).length (flatD (ds ++ [R2])), OwN w.heap.size 26 32 (ds ++ [R2]).length (flatD (ds ++ [R2]))] [11] (fun _ _ h => h) _ (by kernel_rfl) (by kernel_rfl) (by kernel_rfl) (by kernel_rfl) (fun x => by simp only [puts, Act.put, List.map_cons, List.map_nil, Nat.zero_add, Nat.reduceAdd, List.setIfInBounds_toArray, List.set_cons_zero, List.set_cons_succ]; exact rfl) ?_ ?_
      · skip
        refine Steps.cons (fun x wf Kk hq hdep hold => ?_) ?_
        · try dsimp only
          clear hq hdep hold
          rw [if_pos (by rfl)]
          refine OpY.val (v := (.slice (some ⟨b, o, none⟩) n cap)) ?_ ⟨Kept.refl _ _, rfl⟩
          first | rfl | go_simp
        refine Steps.cons (fun x wf Kk hq hdep hold => ?_) ?_
        · try dsimp only
          clear hq hdep hold
          rw [if_pos (by rfl)]
          refine OpY.val (v := (.int .i64 (K : Int))) ?_ ⟨Kept.refl _ _, rfl⟩
          first | rfl | go_simp
        refine Steps.cons (fun x wf Kk hq hdep hold => ?_) ?_
        · try dsimp only
          have h0 : x 0 = (.slice (some ⟨b, o, none⟩) n cap) := hdep 0 (by kernel_rfl)
          have h1 : x 1 = (.int .i64 (K : Int)) := hdep 1 (by kernel_rfl)
          clear hq hdep hold
          simp only [h0, h1]
          clear h0 h1
          rw [if_pos (by rfl)]
          refine OpY.val (v := (.slice (some ⟨b, o, none⟩) K cap)) ?_ ⟨Kept.refl _ _, rfl⟩
          first | rfl | go_simp
        refine Steps.cons (fun x wf Kk hq hdep hold => ?_) ?_
        · try dsimp only
          clear hq hdep hold
          rw [if_pos (by rfl)]
          refine OpY.val (v := (.int .i64 I)) ?_ ⟨Kept.refl _ _, rfl⟩
          first | rfl | go_simp
        refine Steps.cons (fun x wf Kk hq hdep hold => ?_) ?_
        · try dsimp only
          clear hq hdep hold
          rw [if_pos (by rfl)]
          refine OpY.val (v := (.bool known)) ?_ ⟨Kept.refl _ _, rfl⟩
          first | rfl | go_simp
        refine Steps.cons (fun x wf Kk hq hdep hold => ?_) ?_
        · try dsimp only
          have h2 : x 2 = (.slice (some ⟨b, o, none⟩) K cap) := hdep 2 (by kernel_rfl)
          have h3 : x 3 = (.int .i64 I) := hdep 3 (by kernel_rfl)
          have h4 : x 4 = (.bool known) := hdep 4 (by kernel_rfl)
          clear hq hdep hold
          simp only [h2, h3, h4]
          clear h2 h3 h4
          rw [if_pos (by rfl)]
          refine OpY.call (f := 67) (args := #[(.slice (some ⟨b, o, none⟩) K cap), (.int .i64 I), (.bool known)]) (by go_simp) ?_
          refine (IHP.out wf (hr1.out.kept (hk0.out.frmB Kk.undrew (Nat.le_refl _))) (hT.out.kept (hk0.out.frmB Kk.undrew (Nat.le_refl _)))).mono ?_
          rintro e w2 ⟨v2, rfl, o2, k2, n2⟩
          exact ⟨_, rfl, k2, o2, n2.fr Kk.size⟩
        refine Steps.cons (fun x wf Kk hq hdep hold => ?_) ?_
        · try dsimp only
          clear hq hdep hold
          rw [if_pos (by rfl)]
          refine OpY.val (v := (.slice (some ⟨b, o, none⟩) n cap)) ?_ ⟨Kept.refl _ _, rfl⟩
          first | rfl | go_simp
        refine Steps.cons (fun x wf Kk hq hdep hold => ?_) ?_
        · try dsimp only
          clear hq hdep hold
          rw [if_pos (by rfl)]
          refine OpY.val (v := (.int .i64 (K : Int))) ?_ ⟨Kept.refl _ _, rfl⟩
          first | rfl | go_simp
        refine Steps.cons (fun x wf Kk hq hdep hold => ?_) ?_
        · try dsimp only
          have h6 : x 6 = (.slice (some ⟨b, o, none⟩) n cap) := hdep 6 (by kernel_rfl)
          have h7 : x 7 = (.int .i64 (K : Int)) := hdep 7 (by kernel_rfl)
          clear hq hdep hold
          simp only [h6, h7]
          clear h6 h7
          rw [if_pos (by rfl)]
          refine OpY.val (v := (.slice (some ⟨b, o + K * 35, none⟩) (n - K) (cap - K))) ?_ ⟨Kept.refl _ _, rfl⟩
          first | rfl | go_simp
        refine Steps.cons (fun x wf Kk hq hdep hold => ?_) ?_
        · try dsimp only
          have h8 : x 8 = (.slice (some ⟨b, o + K * 35, none⟩) (n - K) (cap - K)) := hdep 8 (by kernel_rfl)
          clear hq hdep hold
          simp only [h8]
          clear h8
          rw [if_pos (by rfl)]
          refine OpY.call (f := 40) (args := #[(.slice (some ⟨b, o + K * 35, none⟩) (n - K) (cap - K))]) (by go_simp) ?_
          refine (HRT.out wf (hr2.out.kept (hk0.out.frmB Kk.undrew (Nat.le_refl _))) (hT.out.kept (hk0.out.frmB Kk.undrew (Nat.le_refl _)))).mono ?_
          rintro e w2 ⟨rfl, k2⟩
          exact ⟨_, rfl, k2, rfl⟩
        refine Steps.cons (fun x wf Kk hq hdep hold => ?_) ?_
        · try dsimp only
          have h9 : x 9 = (Dg R2) := hdep 9 (by kernel_rfl)
          clear hq hdep hold
          simp only [h9]
          clear h9
          rw [if_pos (by rfl)]
          refine OpY.build 33 26 1 _ rfl 32 (.agg Z32) Tryd.underlying33 infDz (by decide) (by decide) (R2.map B) _ rfl (fillD hR2.out) (by simp [hR2.out]) (by decide) (fun w' hg k ho => ⟨k, Rd.of_own ho⟩)
        refine Steps.cons (fun x wf Kk hq hdep hold => ?_) ?_
        · try dsimp only
          have p5 : Pr.p (Sl := (fun _ => (frm w.heap.size))) (OwN w.heap.size 26 32 ds.length (flatD ds)) (x 5) wf := hdep 5 (by kernel_rfl)
          have p10 : Pr.p (Sl := (fun _ => (frm w.heap.size))) (RdIs 32 1 (R2.map B)) (x 10) wf := hdep 10 (by kernel_rfl)
          clear hq hdep hold
          rw [if_pos (by rfl)]
          refine OpY.append (.tmp 27) (.tmp 32) 33 _ rfl rfl 26 32 32 TDigs' (x 5) ds.length (flatD ds) rfl p5.1 (x 10) 1 (R2.map B) rfl p10 (B_one _) ?c2 ?c3 ?_
          case c2 => have := hdl.out; unfold maxLen; omega
          case c3 => have := hdl.out; omega
          rintro v' w' h2 h3 h4 _
          exact ⟨h3.mono fun k _ hk => p5.2 k hk, by rw [flatD_snoc, List.length_append]; exact h2, h4.fr p5.2 Kk.size⟩
        refine Steps.cons (fun x wf Kk hq hdep hold => ?_) ?_
        · try dsimp only
          have p11 : Pr.p (Sl := (fun _ => (frm w.heap.size))) (OwN w.heap.size 26 32 (ds ++ [R2]).length (flatD (ds ++ [R2]))) (x 11) wf := hdep 11 (by kernel_rfl)
          clear hq hdep hold
          rw [if_pos (by rfl)]
          exact OpY.val (v := x 11) rfl ⟨Kept.refl _ _, p11⟩
        exact Steps.nil _
      · intro x wf Kk hv
        try dsimp only
        have h0 : x 0 = (.slice (some ⟨b, o, none⟩) n cap) := hv 0 (by kernel_rfl)
        have h1 : x 1 = (.int .i64 (K : Int)) := hv 1 (by kernel_rfl)
        have h2 : x 2 = (.slice (some ⟨b, o, none⟩) K cap) := hv 2 (by kernel_rfl)
        have h3 : x 3 = (.int .i64 I) := hv 3 (by kernel_rfl)
        have h4 : x 4 = (.bool known) := hv 4 (by kernel_rfl)
        have h6 : x 6 = (.slice (some ⟨b, o, none⟩) n cap) := hv 6 (by kernel_rfl)
        have h7 : x 7 = (.int .i64 (K : Int)) := hv 7 (by kernel_rfl)
        have h8 : x 8 = (.slice (some ⟨b, o + K * 35, none⟩) (n - K) (cap - K)) := hv 8 (by kernel_rfl)
        have h9 : x 9 = (Dg R2) := hv 9 (by kernel_rfl)
        have p12 : Pr.p (Sl := (fun _ => (frm w.heap.size))) (OwN w.heap.size 26 32 (ds ++ [R2]).length (flatD (ds ++ [R2]))) (x 12) wf := hv 12 (by kernel_rfl)
        clear hv
        simp only [h0, h1, h2, h3, h4, h6, h7, h8, h9]
        clear h0 h1 h2 h3 h4 h6 h7 h8 h9
        have kz := hid (hk0.out.frmB Kk.undrew (Nat.le_refl _))
        have hb := hid p12
        clear p12 Kk
        go_wp2_with fail
        go_ret
        exact ⟨_, rfl, by rw [hv.out]; exact hb.out.1, kz.out, frNew hb.out.2⟩
    · have hlt : ¬ I ≤ (K : Int) := by omega
      have hge : (K : Int) < I := by omega
      rw [if_neg hik] at hv
      have IHP := hid (fun w h t => ih (n - K) (by omega) (ps.drop K) l2 (m - K) false (.slice (some ⟨b, o + K * 35, none⟩) (n - K) (cap - K)) w (by omega) (by omega) (by omega) h t)
      have HRT := hid (fun w h t => root_any (ps.take K) (.slice (some ⟨b, o, none⟩) K cap) w (by omega) h t)
      have hdl : Hd ((extendD (ents (ps.drop K)) (m - K) false).length ≤ 100) := ⟨by have := extendD_count (ents (ps.drop K)) (m - K) false; rw [ents_length, l2] at this; omega⟩
      have hR2 := hid (rootD_length (ents (ps.take K)))
      generalize rootD (ents (ps.take K)) = R2 at HRT hv hR2
      generalize extendD (ents (ps.drop K)) (m - K) false = ds at IHP hv hdl
      obtain ⟨I2, hI2⟩ : ∃ I2 : Nat, m - K = I2 := ⟨_, rfl⟩
      have s1 : I - (K : Int) = (I2 : Int) := by omega
      have s2 : IntKind.i64.wrap (I2 : Int) = (I2 : Int) := IntWalk.i64_in _ (by omega)
      rw [hI2] at IHP
      clear ih hr l1 l2 hn hI hik hI2
      go_enter Tryd.func67, Tryd.ntmps67
      go_upto_region 8 with (refine (HH.out _).mono ?_; rintro ed w' ⟨rfl, rfl⟩)
      refine region_flow (S := (frm w.heap.size)) (Sl := (fun _ => (frm w.heap.size))) [Is (.slice (some ⟨b, o, none⟩) n cap), Is (.int .i64 (K : Int)), Is (.slice (some ⟨b, o + K * 35, none⟩) (n - K) (cap - K)), Is (.int .i64 I), Is (.int .i64 (K : Int)), Is (.int .i64 (I2 : Int)), OwN w.heap.size 26 32 ds.length (flatD ds), Is (.slice (some ⟨b, o, none⟩) n cap), Is (.int .i64 (K : Int)), Is (.slice (some ⟨b, o, none⟩) K cap), Is (Dg R2), RdIs 32 1 (R2.map B), OwN w.heap.size 26 32 (ds ++ [R2]).length (flatD (ds ++ [R2])), OwN w.heap.size 26 32 (ds ++ [R2]).length (flatD (ds ++ [R2]))] [12] (fun _ _ h => h) _ (by kernel_rfl) (by kernel_rfl) (by kernel_rfl) (by kernel_rfl) (fun x => by simp only [puts, Act.put, List.map_cons, List.map_nil, Nat.zero_add, Nat.reduceAdd, List.setIfInBounds_toArray, List.set_cons_zero, List.set_cons_succ]; exact rfl) ?_ ?_
      · skip
        refine Steps.cons (fun x wf Kk hq hdep hold => ?_) ?_
        · try dsimp only
          clear hq hdep hold
          rw [if_pos (by rfl)]
          refine OpY.val (v := (.slice (some ⟨b, o, none⟩) n cap)) ?_ ⟨Kept.refl _ _, rfl⟩
          first | rfl | go_simp
        refine Steps.cons (fun x wf Kk hq hdep hold => ?_) ?_
        · try dsimp only
          clear hq hdep hold
          rw [if_pos (by rfl)]
          refine OpY.val (v := (.int .i64 (K : Int))) ?_ ⟨Kept.refl _ _, rfl⟩
          first | rfl | go_simp
        refine Steps.cons (fun x wf Kk hq hdep hold => ?_) ?_
        · try dsimp only
          have h0 : x 0 = (.slice (some ⟨b, o, none⟩) n cap) := hdep 0 (by kernel_rfl)
          have h1 : x 1 = (.int .i64 (K : Int)) := hdep 1 (by kernel_rfl)
          clear hq hdep hold
          simp only [h0, h1]
          clear h0 h1
          rw [if_pos (by rfl)]
          refine OpY.val (v := (.slice (some ⟨b, o + K * 35, none⟩) (n - K) (cap - K))) ?_ ⟨Kept.refl _ _, rfl⟩
          first | rfl | go_simp
        refine Steps.cons (fun x wf Kk hq hdep hold => ?_) ?_
        · try dsimp only
          clear hq hdep hold
          rw [if_pos (by rfl)]
          refine OpY.val (v := (.int .i64 I)) ?_ ⟨Kept.refl _ _, rfl⟩
          first | rfl | go_simp
        refine Steps.cons (fun x wf Kk hq hdep hold => ?_) ?_
        · try dsimp only
          clear hq hdep hold
          rw [if_pos (by rfl)]
          refine OpY.val (v := (.int .i64 (K : Int))) ?_ ⟨Kept.refl _ _, rfl⟩
          first | rfl | go_simp
        refine Steps.cons (fun x wf Kk hq hdep hold => ?_) ?_
        · try dsimp only
          have h3 : x 3 = (.int .i64 I) := hdep 3 (by kernel_rfl)
          have h4 : x 4 = (.int .i64 (K : Int)) := hdep 4 (by kernel_rfl)
          clear hq hdep hold
          simp only [h3, h4]
          clear h3 h4
          rw [if_pos (by rfl)]
          refine OpY.val (v := (.int .i64 (I2 : Int))) ?_ ⟨Kept.refl _ _, rfl⟩
          go_simp
        refine Steps.cons (fun x wf Kk hq hdep hold => ?_) ?_
        · try dsimp only
          have h2 : x 2 = (.slice (some ⟨b, o + K * 35, none⟩) (n - K) (cap - K)) := hdep 2 (by kernel_rfl)
          have h5 : x 5 = (.int .i64 (I2 : Int)) := hdep 5 (by kernel_rfl)
          clear hq hdep hold
          simp only [h2, h5]
          clear h2 h5
          rw [if_pos (by rfl)]
          refine OpY.call (f := 67) (args := #[(.slice (some ⟨b, o + K * 35, none⟩) (n - K) (cap - K)), (.int .i64 (I2 : Int)), (.bool false)]) (by go_simp) ?_
          refine (IHP.out wf (hr2.out.kept (hk0.out.frmB Kk.undrew (Nat.le_refl _))) (hT.out.kept (hk0.out.frmB Kk.undrew (Nat.le_refl _)))).mono ?_
          rintro e w2 ⟨v2, rfl, o2, k2, n2⟩
          exact ⟨_, rfl, k2, o2, n2.fr Kk.size⟩
        refine Steps.cons (fun x wf Kk hq hdep hold => ?_) ?_
        · try dsimp only
          clear hq hdep hold
          rw [if_pos (by rfl)]
          refine OpY.val (v := (.slice (some ⟨b, o, none⟩) n cap)) ?_ ⟨Kept.refl _ _, rfl⟩
          first | rfl | go_simp
        refine Steps.cons (fun x wf Kk hq hdep hold => ?_) ?_
        · try dsimp only
          clear hq hdep hold
          rw [if_pos (by rfl)]
          refine OpY.val (v := (.int .i64 (K : Int))) ?_ ⟨Kept.refl _ _, rfl⟩
          first | rfl | go_simp
        refine Steps.cons (fun x wf Kk hq hdep hold => ?_) ?_
        · try dsimp only
          have h7 : x 7 = (.slice (some ⟨b, o, none⟩) n cap) := hdep 7 (by kernel_rfl)
          have h8 : x 8 = (.int .i64 (K : Int)) := hdep 8 (by kernel_rfl)
          clear hq hdep hold
          simp only [h7, h8]
          clear h7 h8
          rw [if_pos (by rfl)]
          refine OpY.val (v := (.slice (some ⟨b, o, none⟩) K cap)) ?_ ⟨Kept.refl _ _, rfl⟩
          first | rfl | go_simp
        refine Steps.cons (fun x wf Kk hq hdep hold => ?_) ?_
        · try dsimp only
          have h9 : x 9 = (.slice (some ⟨b, o, none⟩) K cap) := hdep 9 (by kernel_rfl)
          clear hq hdep hold
          simp only [h9]
          clear h9
          rw [if_pos (by rfl)]
          refine OpY.call (f := 40) (args := #[(.slice (some ⟨b, o, none⟩) K cap)]) (by go_simp) ?_
          refine (HRT.out wf (hr1.out.kept (hk0.out.frmB Kk.undrew (Nat.le_refl _))) (hT.out.kept (hk0.out.frmB Kk.undrew (Nat.le_refl _)))).mono ?_
          rintro e w2 ⟨rfl, k2⟩
          exact ⟨_, rfl, k2, rfl⟩
        refine Steps.cons (fun x wf Kk hq hdep hold => ?_) ?_
        · try dsimp only
          have h10 : x 10 = (Dg R2) := hdep 10 (by kernel_rfl)
          clear hq hdep hold
          simp only [h10]
          clear h10
          rw [if_pos (by rfl)]
          refine OpY.build 33 26 1 _ rfl 32 (.agg Z32) Tryd.underlying33 infDz (by decide) (by decide) (R2.map B) _ rfl (fillD hR2.out) (by simp [hR2.out]) (by decide) (fun w' hg k ho => ⟨k, Rd.of_own ho⟩)
        refine Steps.cons (fun x wf Kk hq hdep hold => ?_) ?_
        · try dsimp only
          have p6 : Pr.p (Sl := (fun _ => (frm w.heap.size))) (OwN w.heap.size 26 32 ds.length (flatD ds)) (x 6) wf := hdep 6 (by kernel_rfl)
          have p11 : Pr.p (Sl := (fun _ => (frm w.heap.size))) (RdIs 32 1 (R2.map B)) (x 11) wf := hdep 11 (by kernel_rfl)
          clear hq hdep hold
          rw [if_pos (by rfl)]
          refine OpY.append (.tmp 40) (.tmp 45) 33 _ rfl rfl 26 32 32 TDigs' (x 6) ds.length (flatD ds) rfl p6.1 (x 11) 1 (R2.map B) rfl p11 (B_one _) ?c2 ?c3 ?_
          case c2 => have := hdl.out; unfold maxLen; omega
          case c3 => have := hdl.out; omega
          rintro v' w' h2 h3 h4 _
          exact ⟨h3.mono fun k _ hk => p6.2 k hk, by rw [flatD_snoc, List.length_append]; exact h2, h4.fr p6.2 Kk.size⟩
        refine Steps.cons (fun x wf Kk hq hdep hold => ?_) ?_
        · try dsimp only
          have p12 : Pr.p (Sl := (fun _ => (frm w.heap.size))) (OwN w.heap.size 26 32 (ds ++ [R2]).length (flatD (ds ++ [R2]))) (x 12) wf := hdep 12 (by kernel_rfl)
          clear hq hdep hold
          rw [if_pos (by rfl)]
          exact OpY.val (v := x 12) rfl ⟨Kept.refl _ _, p12⟩
        exact Steps.nil _
      · intro x wf Kk hv
        try dsimp only
        have h0 : x 0 = (.slice (some ⟨b, o, none⟩) n cap) := hv 0 (by kernel_rfl)
        have h1 : x 1 = (.int .i64 (K : Int)) := hv 1 (by kernel_rfl)
        have h2 : x 2 = (.slice (some ⟨b, o + K * 35, none⟩) (n - K) (cap - K)) := hv 2 (by kernel_rfl)
        have h3 : x 3 = (.int .i64 I) := hv 3 (by kernel_rfl)
        have h4 : x 4 = (.int .i64 (K : Int)) := hv 4 (by kernel_rfl)
        have h5 : x 5 = (.int .i64 (I2 : Int)) := hv 5 (by kernel_rfl)
        have h7 : x 7 = (.slice (some ⟨b, o, none⟩) n cap) := hv 7 (by kernel_rfl)
        have h8 : x 8 = (.int .i64 (K : Int)) := hv 8 (by kernel_rfl)
        have h9 : x 9 = (.slice (some ⟨b, o, none⟩) K cap) := hv 9 (by kernel_rfl)
        have h10 : x 10 = (Dg R2) := hv 10 (by kernel_rfl)
        have p13 : Pr.p (Sl := (fun _ => (frm w.heap.size))) (OwN w.heap.size 26 32 (ds ++ [R2]).length (flatD (ds ++ [R2]))) (x 13) wf := hv 13 (by kernel_rfl)
        clear hv
        simp only [h0, h1, h2, h3, h4, h5, h7, h8, h9, h10]
        clear h0 h1 h2 h3 h4 h5 h7 h8 h9 h10
        have kz := hid (hk0.out.frmB Kk.undrew (Nat.le_refl _))
        have hb := hid p13
        clear p13 Kk
        go_wp2_with fail
        go_ret
        exact ⟨_, rfl, by rw [hv.out]; exact hb.out.1, kz.out, frNew hb.out.2⟩
set_option maxRecDepth 100000 in
set_option maxHeartbeats 4000000 in
theorem sub_any (ps : List (Ent × Value)) : ∀ (m : Nat) (known : Bool) (v : Value) (w : World), 1 ≤ m → m ≤ ps.length → ps.length ≤ 63 → RdE w v ps → TabR w → Calls Tryd.prog 68 #[.int .i64 (m : Int), v, .bool known] w fun ed w' => ∃ v', ed = .returned v' ∧ w'.ownsRow 0 26 32 v' (extendD (ents ps) m known).length (flatD (extendD (ents ps) m known)) ∧ Kept no w w' ∧ New w v' := by
  induction hn : ps.length using Nat.strongRecOn generalizing ps with
  | ind n ih =>
  intro m known v w hm hmn h63 hr hT
  obtain ⟨ao, cap, rfl, hcap⟩ := hr.shape
  rw [hn] at hr hcap ⊢
  replace hT := hid hT
  have hk0 := hid (Kept.refl no w)
  by_cases h1 : m = n
  · subst h1
    cases known with
    | true =>
      have hv : extendD (ents ps) m true = [] := by rw [extendD, if_pos (.inl (by rw [ents_length, hn])), if_pos rfl]
      rw [hv]
      clear ih hr hn hv
      go_enter Tryd.func68, Tryd.ntmps68
      go_wp2_with fail
      go_ret
      exact ⟨_, rfl, World.ownsRow_nil _ _ _ _, Kept.refl _ _, .inl rfl⟩
    | false =>
      have hv : extendD (ents ps) m false = [rootD (ents ps)] := by rw [extendD, if_pos (.inl (by rw [ents_length, hn])), if_neg (by decide)]
      rw [hv]
      have HRT := hid (fun w h t => refroot_any ps (.slice ao m cap) w (by omega) h t)
      have hR2 := hid (rootD_length (ents ps))
      generalize rootD (ents ps) = R2 at HRT hR2
      replace hr := hid hr
      clear ih hn hv
      go_enter Tryd.func68, Tryd.ntmps68
      go_wp2_with fail
      refine (HRT.out w hr.out hT.out).mono ?_
      rintro ed w2 ⟨rfl, k2⟩
      have hsz := hid k2.size
      go_wp2_with (refine bd rfl _ rfl R2 rfl hR2.out ?_)
      intro w3 k3 o3
      have K3 := hid (k2.trans' k3)
      replace o3 := hid o3
      clear k2 k3
      go_wp2_with fail
      go_ret
      exact ⟨_, rfl, o3.out, K3.out, .inr ⟨_, rfl, hsz.out⟩⟩
  · have h2 : 2 ≤ n := by omega
    have hK1 := half_lt n h2
    have hK0 := half_pos n
    have hv : Hd (extendD (ents ps) m known = if m ≤ half n then extendD (ents (ps.take (half n))) m known ++ [rootD (ents (ps.drop (half n)))] else extendD (ents (ps.drop (half n))) (m - half n) false ++ [rootD (ents (ps.take (half n)))]) := ⟨by
      rw [extendD, if_neg (by rw [ents_length, hn]; omega), ents_length, hn, ents_take, ents_drop]⟩
    have HH := hid (fun w => split_any n w h2 h63)
    generalize half n = K at hK1 hK0 hv HH
    obtain ⟨b, o, rfl, hr2⟩ := RdE.drop (n := n) hr K (by omega)
    have hr1 := hid (RdE.take (n := n) hr K (by omega))
    rw [hn] at hr2
    replace hr2 := hid hr2
    have l1 : (ps.take K).length = K := by rw [List.length_take]; omega
    have l2 : (ps.drop K).length = n - K := by rw [List.length_drop, hn]
    have c1 : ((K : Nat) : Int) ≤ ((n : Nat) : Int) := by omega
    have c2 : ((n : Nat) : Int) ≤ ((cap : Nat) : Int) := by omega
    have c3 : (0 : Int) ≤ ((K : Nat) : Int) := by omega
    have c4 : ((K : Nat) : Int) ≤ ((cap : Nat) : Int) := by omega
    have c5 : ¬ cap = K := by omega
    obtain ⟨I, hI⟩ : ∃ I : Int, (m : Int) = I := ⟨_, rfl⟩
    rw [hI]
    have z1 : ¬ I = ((n : Nat) : Int) := by omega
    have y1 : (I == ((n : Nat) : Int)) = false := by simpa using z1
    by_cases hik : m ≤ K
    · have hlt : I ≤ (K : Int) := by omega
      rw [if_pos hik] at hv
      have IHP := hid (fun w h t => ih K hK1 (ps.take K) l1 m known (.slice (some ⟨b, o, none⟩) K cap) w hm hik (by omega) h t)
      rw [hI] at IHP
      have HRT := hid (fun w h t => refroot_any (ps.drop K) (.slice (some ⟨b, o + K * 35, none⟩) (n - K) (cap - K)) w (by omega) h t)
      have hdl : Hd ((extendD (ents (ps.take K)) m known).length ≤ 100) := ⟨by have := extendD_count (ents (ps.take K)) m known; rw [ents_length, l1] at this; omega⟩
      have hR2 := hid (rootD_length (ents (ps.drop K)))
      generalize rootD (ents (ps.drop K)) = R2 at HRT hv hR2
      generalize extendD (ents (ps.take K)) m known = ds at IHP hv hdl
      clear ih hr l1 l2 hn hI hik
      go_enter Tryd.func68, Tryd.ntmps68
      go_upto_region 7 with (refine (HH.out _).mono ?_; rintro ed w' ⟨rfl, rfl⟩)
      refine region_flow (S := (frm w.heap.size)) (Sl := (fun _ => (frm w.heap.size))) [Is (.int .i64 I), Is (.slice (some ⟨b, o, none⟩) n cap), Is (.int .i64 (K : Int)), Is (.slice (some ⟨b, o, none⟩) K cap), Is (.bool known), OwN w.heap.size 26 32 ds.length (flatD ds), Is (.slice (some ⟨b, o, none⟩) n cap), Is (.int .i64 (K : Int)), Is (.slice (some ⟨b, o + K * 35, none⟩) (n - K) (cap - K)), Is (Dg R2), RdIs 32 1 (R2.map B), OwN w.heap.size 26 32 (ds ++ [R2]).length (flatD (ds ++ [R2])), OwN w.heap.size 26 32 (ds ++ [R2]).length (flatD (ds ++ [R2]))] [11] (fun _ _ h => h) _ (by kernel_rfl) (by kernel_rfl) (by kernel_rfl) (by kernel_rfl) (fun x => by simp only [puts, Act.put, List.map_cons, List.map_nil, Nat.zero_add, Nat.reduceAdd, List.setIfInBounds_toArray, List.set_cons_zero, List.set_cons_succ]; exact rfl) ?_ ?_
      · skip
        refine Steps.cons (fun x wf Kk hq hdep hold => ?_) ?_
        · try dsimp only
          clear hq hdep hold
          rw [if_pos (by rfl)]
          refine OpY.val (v := (.int .i64 I)) ?_ ⟨Kept.refl _ _, rfl⟩
          first | rfl | go_simp
        refine Steps.cons (fun x wf Kk hq hdep hold => ?_) ?_
        · try dsimp only
          clear hq hdep hold
          rw [if_pos (by rfl)]
          refine OpY.val (v := (.slice (some ⟨b, o, none⟩) n cap)) ?_ ⟨Kept.refl _ _, rfl⟩
          first | rfl | go_simp
        refine Steps.cons (fun x wf Kk hq hdep hold => ?_) ?_
        · try dsimp only
          clear hq hdep hold
          rw [if_pos (by rfl)]
          refine OpY.val (v := (.int .i64 (K : Int))) ?_ ⟨Kept.refl _ _, rfl⟩
          first | rfl | go_simp
        refine Steps.cons (fun x wf Kk hq hdep hold => ?_) ?_
        · try dsimp only
          have h1 : x 1 = (.slice (some ⟨b, o, none⟩) n cap) := hdep 1 (by kernel_rfl)
          have h2 : x 2 = (.int .i64 (K : Int)) := hdep 2 (by kernel_rfl)
          clear hq hdep hold
          simp only [h1, h2]
          clear h1 h2
          rw [if_pos (by rfl)]
          refine OpY.val (v := (.slice (some ⟨b, o, none⟩) K cap)) ?_ ⟨Kept.refl _ _, rfl⟩
          first | rfl | go_simp
        refine Steps.cons (fun x wf Kk hq hdep hold => ?_) ?_
        · try dsimp only
          clear hq hdep hold
          rw [if_pos (by rfl)]
          refine OpY.val (v := (.bool known)) ?_ ⟨Kept.refl _ _, rfl⟩
          first | rfl | go_simp
        refine Steps.cons (fun x wf Kk hq hdep hold => ?_) ?_
        · try dsimp only
          have h0 : x 0 = (.int .i64 I) := hdep 0 (by kernel_rfl)
          have h3 : x 3 = (.slice (some ⟨b, o, none⟩) K cap) := hdep 3 (by kernel_rfl)
          have h4 : x 4 = (.bool known) := hdep 4 (by kernel_rfl)
          clear hq hdep hold
          simp only [h0, h3, h4]
          clear h0 h3 h4
          rw [if_pos (by rfl)]
          refine OpY.call (f := 68) (args := #[(.int .i64 I), (.slice (some ⟨b, o, none⟩) K cap), (.bool known)]) (by go_simp) ?_
          refine (IHP.out wf (hr1.out.kept (hk0.out.frmB Kk.undrew (Nat.le_refl _))) (hT.out.kept (hk0.out.frmB Kk.undrew (Nat.le_refl _)))).mono ?_
          rintro e w2 ⟨v2, rfl, o2, k2, n2⟩
          exact ⟨_, rfl, k2, o2, n2.fr Kk.size⟩
        refine Steps.cons (fun x wf Kk hq hdep hold => ?_) ?_
        · try dsimp only
          clear hq hdep hold
          rw [if_pos (by rfl)]
          refine OpY.val (v := (.slice (some ⟨b, o, none⟩) n cap)) ?_ ⟨Kept.refl _ _, rfl⟩
          first | rfl | go_simp
        refine Steps.cons (fun x wf Kk hq hdep hold => ?_) ?_
        · try dsimp only
          clear hq hdep hold
          rw [if_pos (by rfl)]
          refine OpY.val (v := (.int .i64 (K : Int))) ?_ ⟨Kept.refl _ _, rfl⟩
          first | rfl | go_simp
        refine Steps.cons (fun x wf Kk hq hdep hold => ?_) ?_
        · try dsimp only
          have h6 : x 6 = (.slice (some ⟨b, o, none⟩) n cap) := hdep 6 (by kernel_rfl)
          have h7 : x 7 = (.int .i64 (K : Int)) := hdep 7 (by kernel_rfl)
          clear hq hdep hold
          simp only [h6, h7]
          clear h6 h7
          rw [if_pos (by rfl)]
          refine OpY.val (v := (.slice (some ⟨b, o + K * 35, none⟩) (n - K) (cap - K))) ?_ ⟨Kept.refl _ _, rfl⟩
          first | rfl | go_simp
        refine Steps.cons (fun x wf Kk hq hdep hold => ?_) ?_
        · try dsimp only
          have h8 : x 8 = (.slice (some ⟨b, o + K * 35, none⟩) (n - K) (cap - K)) := hdep 8 (by kernel_rfl)
          clear hq hdep hold
          simp only [h8]
          clear h8
          rw [if_pos (by rfl)]
          refine OpY.call (f := 38) (args := #[(.slice (some ⟨b, o + K * 35, none⟩) (n - K) (cap - K))]) (by go_simp) ?_
          refine (HRT.out wf (hr2.out.kept (hk0.out.frmB Kk.undrew (Nat.le_refl _))) (hT.out.kept (hk0.out.frmB Kk.undrew (Nat.le_refl _)))).mono ?_
          rintro e w2 ⟨rfl, k2⟩
          exact ⟨_, rfl, k2, rfl⟩
        refine Steps.cons (fun x wf Kk hq hdep hold => ?_) ?_
        · try dsimp only
          have h9 : x 9 = (Dg R2) := hdep 9 (by kernel_rfl)
          clear hq hdep hold
          simp only [h9]
          clear h9
          rw [if_pos (by rfl)]
          refine OpY.build 33 26 1 _ rfl 32 (.agg Z32) Tryd.underlying33 infDz (by decide) (by decide) (R2.map B) _ rfl (fillD hR2.out) (by simp [hR2.out]) (by decide) (fun w' hg k ho => ⟨k, Rd.of_own ho⟩)
        refine Steps.cons (fun x wf Kk hq hdep hold => ?_) ?_
        · try dsimp only
          have p5 : Pr.p (Sl := (fun _ => (frm w.heap.size))) (OwN w.heap.size 26 32 ds.length (flatD ds)) (x 5) wf := hdep 5 (by kernel_rfl)
          have p10 : Pr.p (Sl := (fun _ => (frm w.heap.size))) (RdIs 32 1 (R2.map B)) (x 10) wf := hdep 10 (by kernel_rfl)
          clear hq hdep hold
          rw [if_pos (by rfl)]
          refine OpY.append (.tmp 27) (.tmp 32) 33 _ rfl rfl 26 32 32 TDigs' (x 5) ds.length (flatD ds) rfl p5.1 (x 10) 1 (R2.map B) rfl p10 (B_one _) ?c2 ?c3 ?_
          case c2 => have := hdl.out; unfold maxLen; omega
          case c3 => have := hdl.out; omega
          rintro v' w' h2 h3 h4 _
          exact ⟨h3.mono fun k _ hk => p5.2 k hk, by rw [flatD_snoc, List.length_append]; exact h2, h4.fr p5.2 Kk.size⟩
        refine Steps.cons (fun x wf Kk hq hdep hold => ?_) ?_
        · try dsimp only
          have p11 : Pr.p (Sl := (fun _ => (frm w.heap.size))) (OwN w.heap.size 26 32 (ds ++ [R2]).length (flatD (ds ++ [R2]))) (x 11) wf := hdep 11 (by kernel_rfl)
          clear hq hdep hold
          rw [if_pos (by rfl)]
          exact OpY.val (v := x 11) rfl ⟨Kept.refl _ _, p11⟩
        exact Steps.nil _
      · intro x wf Kk hv
        try dsimp only
        have h0 : x 0 = (.int .i64 I) := hv 0 (by kernel_rfl)
        have h1 : x 1 = (.slice (some ⟨b, o, none⟩) n cap) := hv 1 (by kernel_rfl)
        have h2 : x 2 = (.int .i64 (K : Int)) := hv 2 (by kernel_rfl)
        have h3 : x 3 = (.slice (some ⟨b, o, none⟩) K cap) := hv 3 (by kernel_rfl)
        have h4 : x 4 = (.bool known) := hv 4 (by kernel_rfl)
        have h6 : x 6 = (.slice (some ⟨b, o, none⟩) n cap) := hv 6 (by kernel_rfl)
        have h7 : x 7 = (.int .i64 (K : Int)) := hv 7 (by kernel_rfl)
        have h8 : x 8 = (.slice (some ⟨b, o + K * 35, none⟩) (n - K) (cap - K)) := hv 8 (by kernel_rfl)
        have h9 : x 9 = (Dg R2) := hv 9 (by kernel_rfl)
        have p12 : Pr.p (Sl := (fun _ => (frm w.heap.size))) (OwN w.heap.size 26 32 (ds ++ [R2]).length (flatD (ds ++ [R2]))) (x 12) wf := hv 12 (by kernel_rfl)
        clear hv
        simp only [h0, h1, h2, h3, h4, h6, h7, h8, h9]
        clear h0 h1 h2 h3 h4 h6 h7 h8 h9
        have kz := hid (hk0.out.frmB Kk.undrew (Nat.le_refl _))
        have hb := hid p12
        clear p12 Kk
        go_wp2_with fail
        go_ret
        exact ⟨_, rfl, by rw [hv.out]; exact hb.out.1, kz.out, frNew hb.out.2⟩
    · have hlt : ¬ I ≤ (K : Int) := by omega
      have hge : (K : Int) < I := by omega
      rw [if_neg hik] at hv
      have IHP := hid (fun w h t => ih (n - K) (by omega) (ps.drop K) l2 (m - K) false (.slice (some ⟨b, o + K * 35, none⟩) (n - K) (cap - K)) w (by omega) (by omega) (by omega) h t)
      have HRT := hid (fun w h t => refroot_any (ps.take K) (.slice (some ⟨b, o, none⟩) K cap) w (by omega) h t)
      have hdl : Hd ((extendD (ents (ps.drop K)) (m - K) false).length ≤ 100) := ⟨by have := extendD_count (ents (ps.drop K)) (m - K) false; rw [ents_length, l2] at this; omega⟩
      have hR2 := hid (rootD_length (ents (ps.take K)))
      generalize rootD (ents (ps.take K)) = R2 at HRT hv hR2
      generalize extendD (ents (ps.drop K)) (m - K) false = ds at IHP hv hdl
      obtain ⟨I2, hI2⟩ : ∃ I2 : Nat, m - K = I2 := ⟨_, rfl⟩
      have s1 : I - (K : Int) = (I2 : Int) := by omega
      have s2 : IntKind.i64.wrap (I2 : Int) = (I2 : Int) := IntWalk.i64_in _ (by omega)
      rw [hI2] at IHP
      clear ih hr l1 l2 hn hI hik hI2
      go_enter Tryd.func68, Tryd.ntmps68
      go_upto_region 8 with (refine (HH.out _).mono ?_; rintro ed w' ⟨rfl, rfl⟩)
      refine region_flow (S := (frm w.heap.size)) (Sl := (fun _ => (frm w.heap.size))) [Is (.int .i64 I), Is (.int .i64 (K : Int)), Is (.int .i64 (I2 : Int)), Is (.slice (some ⟨b, o, none⟩) n cap), Is (.int .i64 (K : Int)), Is (.slice (some ⟨b, o + K * 35, none⟩) (n - K) (cap - K)), OwN w.heap.size 26 32 ds.length (flatD ds), Is (.slice (some ⟨b, o, none⟩) n cap), Is (.int .i64 (K : Int)), Is (.slice (some ⟨b, o, none⟩) K cap), Is (Dg R2), RdIs 32 1 (R2.map B), OwN w.heap.size 26 32 (ds ++ [R2]).length (flatD (ds ++ [R2])), OwN w.heap.size 26 32 (ds ++ [R2]).length (flatD (ds ++ [R2]))] [12] (fun _ _ h => h) _ (by kernel_rfl) (by kernel_rfl) (by kernel_rfl) (by kernel_rfl) (fun x => by simp only [puts, Act.put, List.map_cons, List.map_nil, Nat.zero_add, Nat.reduceAdd, List.setIfInBounds_toArray, List.set_cons_zero, List.set_cons_succ]; exact rfl) ?_ ?_
      · skip
        refine Steps.cons (fun x wf Kk hq hdep hold => ?_) ?_
        · try dsimp only
          clear hq hdep hold
          rw [if_pos (by rfl)]
          refine OpY.val (v := (.int .i64 I)) ?_ ⟨Kept.refl _ _, rfl⟩
          first | rfl | go_simp
        refine Steps.cons (fun x wf Kk hq hdep hold => ?_) ?_
        · try dsimp only
          clear hq hdep hold
          rw [if_pos (by rfl)]
          refine OpY.val (v := (.int .i64 (K : Int))) ?_ ⟨Kept.refl _ _, rfl⟩
          first | rfl | go_simp
        refine Steps.cons (fun x wf Kk hq hdep hold => ?_) ?_
        · try dsimp only
          have h0 : x 0 = (.int .i64 I) := hdep 0 (by kernel_rfl)
          have h1 : x 1 = (.int .i64 (K : Int)) := hdep 1 (by kernel_rfl)
          clear hq hdep hold
          simp only [h0, h1]
          clear h0 h1
          rw [if_pos (by rfl)]
          refine OpY.val (v := (.int .i64 (I2 : Int))) ?_ ⟨Kept.refl _ _, rfl⟩
          go_simp
        refine Steps.cons (fun x wf Kk hq hdep hold => ?_) ?_
        · try dsimp only
          clear hq hdep hold
          rw [if_pos (by rfl)]
          refine OpY.val (v := (.slice (some ⟨b, o, none⟩) n cap)) ?_ ⟨Kept.refl _ _, rfl⟩
          first | rfl | go_simp
        refine Steps.cons (fun x wf Kk hq hdep hold => ?_) ?_
        · try dsimp only
          clear hq hdep hold
          rw [if_pos (by rfl)]
          refine OpY.val (v := (.int .i64 (K : Int))) ?_ ⟨Kept.refl _ _, rfl⟩
          first | rfl | go_simp
        refine Steps.cons (fun x wf Kk hq hdep hold => ?_) ?_
        · try dsimp only
          have h3 : x 3 = (.slice (some ⟨b, o, none⟩) n cap) := hdep 3 (by kernel_rfl)
          have h4 : x 4 = (.int .i64 (K : Int)) := hdep 4 (by kernel_rfl)
          clear hq hdep hold
          simp only [h3, h4]
          clear h3 h4
          rw [if_pos (by rfl)]
          refine OpY.val (v := (.slice (some ⟨b, o + K * 35, none⟩) (n - K) (cap - K))) ?_ ⟨Kept.refl _ _, rfl⟩
          first | rfl | go_simp
        refine Steps.cons (fun x wf Kk hq hdep hold => ?_) ?_
        · try dsimp only
          have h2 : x 2 = (.int .i64 (I2 : Int)) := hdep 2 (by kernel_rfl)
          have h5 : x 5 = (.slice (some ⟨b, o + K * 35, none⟩) (n - K) (cap - K)) := hdep 5 (by kernel_rfl)
          clear hq hdep hold
          simp only [h2, h5]
          clear h2 h5
          rw [if_pos (by rfl)]
          refine OpY.call (f := 68) (args := #[(.int .i64 (I2 : Int)), (.slice (some ⟨b, o + K * 35, none⟩) (n - K) (cap - K)), (.bool false)]) (by go_simp) ?_
          refine (IHP.out wf (hr2.out.kept (hk0.out.frmB Kk.undrew (Nat.le_refl _))) (hT.out.kept (hk0.out.frmB Kk.undrew (Nat.le_refl _)))).mono ?_
          rintro e w2 ⟨v2, rfl, o2, k2, n2⟩
          exact ⟨_, rfl, k2, o2, n2.fr Kk.size⟩
        refine Steps.cons (fun x wf Kk hq hdep hold => ?_) ?_
        · try dsimp only
          clear hq hdep hold
          rw [if_pos (by rfl)]
          refine OpY.val (v := (.slice (some ⟨b, o, none⟩) n cap)) ?_ ⟨Kept.refl _ _, rfl⟩
          first | rfl | go_simp
        refine Steps.cons (fun x wf Kk hq hdep hold => ?_) ?_
        · try dsimp only
          clear hq hdep hold
          rw [if_pos (by rfl)]
          refine OpY.val (v := (.int .i64 (K : Int))) ?_ ⟨Kept.refl _ _, rfl⟩
          first | rfl | go_simp
        refine Steps.cons (fun x wf Kk hq hdep hold => ?_) ?_
        · try dsimp only
          have h7 : x 7 = (.slice (some ⟨b, o, none⟩) n cap) := hdep 7 (by kernel_rfl)
          have h8 : x 8 = (.int .i64 (K : Int)) := hdep 8 (by kernel_rfl)
          clear hq hdep hold
          simp only [h7, h8]
          clear h7 h8
          rw [if_pos (by rfl)]
          refine OpY.val (v := (.slice (some ⟨b, o, none⟩) K cap)) ?_ ⟨Kept.refl _ _, rfl⟩
          first | rfl | go_simp
        refine Steps.cons (fun x wf Kk hq hdep hold => ?_) ?_
        · try dsimp only
          have h9 : x 9 = (.slice (some ⟨b, o, none⟩) K cap) := hdep 9 (by kernel_rfl)
          clear hq hdep hold
          simp only [h9]
          clear h9
          rw [if_pos (by rfl)]
          refine OpY.call (f := 38) (args := #[(.slice (some ⟨b, o, none⟩) K cap)]) (by go_simp) ?_
          refine (HRT.out wf (hr1.out.kept (hk0.out.frmB Kk.undrew (Nat.le_refl _))) (hT.out.kept (hk0.out.frmB Kk.undrew (Nat.le_refl _)))).mono ?_
          rintro e w2 ⟨rfl, k2⟩
          exact ⟨_, rfl, k2, rfl⟩
        refine Steps.cons (fun x wf Kk hq hdep hold => ?_) ?_
        · try dsimp only
          have h10 : x 10 = (Dg R2) := hdep 10 (by kernel_rfl)
          clear hq hdep hold
          simp only [h10]
          clear h10
          rw [if_pos (by rfl)]
          refine OpY.build 33 26 1 _ rfl 32 (.agg Z32) Tryd.underlying33 infDz (by decide) (by decide) (R2.map B) _ rfl (fillD hR2.out) (by simp [hR2.out]) (by decide) (fun w' hg k ho => ⟨k, Rd.of_own ho⟩)
        refine Steps.cons (fun x wf Kk hq hdep hold => ?_) ?_
        · try dsimp only
          have p6 : Pr.p (Sl := (fun _ => (frm w.heap.size))) (OwN w.heap.size 26 32 ds.length (flatD ds)) (x 6) wf := hdep 6 (by kernel_rfl)
          have p11 : Pr.p (Sl := (fun _ => (frm w.heap.size))) (RdIs 32 1 (R2.map B)) (x 11) wf := hdep 11 (by kernel_rfl)
          clear hq hdep hold
          rw [if_pos (by rfl)]
          refine OpY.append (.tmp 40) (.tmp 45) 33 _ rfl rfl 26 32 32 TDigs' (x 6) ds.length (flatD ds) rfl p6.1 (x 11) 1 (R2.map B) rfl p11 (B_one _) ?c2 ?c3 ?_
          case c2 => have := hdl.out; unfold maxLen; omega
          case c3 => have := hdl.out; omega
          rintro v' w' h2 h3 h4 _
          exact ⟨h3.mono fun k _ hk => p6.2 k hk, by rw [flatD_snoc, List.length_append]; exact h2, h4.fr p6.2 Kk.size⟩
        refine Steps.cons (fun x wf Kk hq hdep hold => ?_) ?_
        · try dsimp only
          have p12 : Pr.p (Sl := (fun _ => (frm w.heap.size))) (OwN w.heap.size 26 32 (ds ++ [R2]).length (flatD (ds ++ [R2]))) (x 12) wf := hdep 12 (by kernel_rfl)
          clear hq hdep hold
          rw [if_pos (by rfl)]
          exact OpY.val (v := x 12) rfl ⟨Kept.refl _ _, p12⟩
        exact Steps.nil _
      · intro x wf Kk hv
        try dsimp only
        have h0 : x 0 = (.int .i64 I) := hv 0 (by kernel_rfl)
        have h1 : x 1 = (.int .i64 (K : Int)) := hv 1 (by kernel_rfl)
        have h2 : x 2 = (.int .i64 (I2 : Int)) := hv 2 (by kernel_rfl)
        have h3 : x 3 = (.slice (some ⟨b, o, none⟩) n cap) := hv 3 (by kernel_rfl)
        have h4 : x 4 = (.int .i64 (K : Int)) := hv 4 (by kernel_rfl)
        have h5 : x 5 = (.slice (some ⟨b, o + K * 35, none⟩) (n - K) (cap - K)) := hv 5 (by kernel_rfl)
        have h7 : x 7 = (.slice (some ⟨b, o, none⟩) n cap) := hv 7 (by kernel_rfl)
        have h8 : x 8 = (.int .i64 (K : Int)) := hv 8 (by kernel_rfl)
        have h9 : x 9 = (.slice (some ⟨b, o, none⟩) K cap) := hv 9 (by kernel_rfl)
        have h10 : x 10 = (Dg R2) := hv 10 (by kernel_rfl)
        have p13 : Pr.p (Sl := (fun _ => (frm w.heap.size))) (OwN w.heap.size 26 32 (ds ++ [R2]).length (flatD (ds ++ [R2]))) (x 13) wf := hv 13 (by kernel_rfl)
        clear hv
        simp only [h0, h1, h2, h3, h4, h5, h7, h8, h9, h10]
        clear h0 h1 h2 h3 h4 h5 h7 h8 h9 h10
        have kz := hid (hk0.out.frmB Kk.undrew (Nat.le_refl _))
        have hb := hid p13
        clear p13 Kk
        go_wp2_with fail
        go_ret
        exact ⟨_, rfl, by rw [hv.out]; exact hb.out.1, kz.out, frNew hb.out.2⟩
end Go.Proofs.YtknbkhmpnanegaaDoor
