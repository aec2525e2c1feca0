/- climb, run (printed by gen_b5.py). -/
import Derived.Test.YtknbkhmpnanegaaDoorB4
namespace Go.Proofs.YtknbkhmpnanegaaDoor
open Go.RowKit Go.Mk Go.Sha Go.Brd
theorem results_dg_tmp {fn : Func} {p q : Tmp} (h : fn.results = #[.cell p 26, .tmp q]) (tmps : Array Value) (w : World) (g : Nat) (D : List UInt8) (v : Value)
    (hp : tmps.getD p undef = .pointer (some ⟨g, 0, none⟩)) (hq : tmps.getD q undef = v) (hg : w.heap[g]? = some (.cells (D.map B).toArray 26 (0, 0))) (hD : D.length = 32) :
    (results fn tmps).run Tryd.prog w = .ok (.tuple #[Dg D, v]) w := by
  have hp' : tmps[p]?.getD undef = .pointer (some ⟨g, 0, none⟩) := by simpa using hp
  have hq' : tmps[q]?.getD undef = v := by simpa using hq
  have hl := run_loadVar_row w g 26 26 (D.map B).toArray (0, 0) _ hg Tryd.underlying26 rfl (infD hD)
  simp only [results, h, List.mapM_toArray, List.mapM_cons, List.mapM_nil]
  simp [hp', hq', asAddr, hl, Dg]
/-- What climb and run hand back: the hash counts if the length fits. -/
def ClmP (q : List UInt8 × Bool) (e : Ending) : Prop := ∃ D, e = .returned (.tuple #[Dg D, .bool q.2]) ∧ D.length = 32 ∧ (q.2 = true → D = q.1)
theorem climb_one (H : List UInt8) (i : Nat) (q : List (List UInt8)) : climbR H 1 i q = (H, q.isEmpty) := by cases q <;> simp [climbR]
theorem climb_nil (H : List UInt8) (n i : Nat) (h : n ≠ 1) : climbR H n i [] = (H, false) := by simp [climbR, h]
theorem two_dg (w : World) (D : List UInt8) : ∃ w1, w1 = (w.alloc (.cells (D.map B).toArray 26)).alloc (.cells Z32 26) ∧ w1.heap[w.heap.size]? = some (.cells (D.map B).toArray 26 (0, 0)) ∧ w1.heap[w.heap.size + 1]? = some (.cells Z32 26 (0, 0)) ∧ Kept no w w1 := by
  have e1 := World.size_alloc (w := w) (o := .cells (D.map B).toArray 26)
  refine ⟨_, rfl, ?_, ?_, ((Kept.refl no w).alloc _).alloc _⟩
  · rw [heap_alloc_old _ _ (by omega), heap_alloc_new]
  · rw [← e1, heap_alloc_new]
theorem RdD.last {w : World} {ao : Option Addr} {n cap : Nat} {ds : List (List UInt8)} {D : List UInt8} (h : RdD w (.slice ao n cap) (ds ++ [D])) : ∃ b o, ao = some ⟨b, o, none⟩ ∧ n = ds.length + 1 ∧ w.rangeAt b (o + ds.length * 32) (D.map B) ∧ RdD w (.slice (some ⟨b, o, none⟩) ds.length cap) ds := by
  obtain ⟨b, o, rfl, hr⟩ := h.at ds.length (by simp)
  have hn : n = ds.length + 1 := by obtain ⟨_, _, _, _, e, _⟩ := h; cases e; simp
  refine ⟨b, o, rfl, hn, by simpa using hr, ?_⟩
  have ht := Rd.takeRows (f := fun d : List UInt8 => d.map B) (sz := 32) (fun d hd => by rw [List.length_map]; exact h.1 d hd) h.2 ds.length (by simp)
  rw [List.take_left] at ht
  exact ⟨fun d hd => h.1 d (by simp [hd]), ht⟩

set_option maxRecDepth 100000 in
set_option maxHeartbeats 1000000 in
theorem climb_any (H : List UInt8) (ds : List (List UInt8)) : ∀ (n i : Nat) (v : Value) (w : World), H.length = 32 → i < n → n ≤ 63 → ds.length ≤ 1000 → RdD w v ds → Tab w → Calls Tryd.prog 59 #[Dg H, .int .i64 (n : Int), .int .i64 (i : Int), v] w fun ed w' => ClmP (climbR H n i ds.reverse) ed ∧ Kept no w w' := by
  induction hm : ds.length using Nat.strongRecOn generalizing ds with
  | ind m0 ih =>
  intro n i v w hHl hi h63 hd hr hT
  obtain ⟨ao, cap, rfl⟩ := Rd.shapeZ hr.2
  replace hHl := hid hHl
  replace hT := hid hT
  obtain ⟨L, hH⟩ : ∃ L, H.map B = L := ⟨_, rfl⟩
  replace hH := hid hH
  have hDg : Dg H = .agg L.toArray := by rw [← hH.out]; rfl
  rw [hm] at hr ⊢
  by_cases h1 : n = 1
  · subst h1
    have hv := hid (climb_one H i ds.reverse)
    by_cases h0 : m0 = 0
    · subst h0
      have hq : Hd (ClmP (climbR H 1 i ds.reverse) (.returned (.tuple #[Dg H, .bool true]))) := ⟨by
        obtain rfl : ds = [] := List.eq_nil_of_length_eq_zero hm
        rw [hv.out]; exact ⟨H, rfl, hHl.out, fun _ => rfl⟩⟩
      rw [hDg]
      clear hDg
      clear ih hr hm hd hv
      go_enter Tryd.func59, Tryd.ntmps59
      go_upto_region 1 with fail
      obtain ⟨w1, hw1, g0, g1, k1⟩ := two_dg w H
      rw [hH.out] at hw1
      unfold Z32 at hw1
      rw [← hw1]
      clear hw1
      replace g0 := hid g0
      replace g1 := hid g1
      replace k1 := hid k1
      have hZ := hid Z32_size
      have g6 := hid (setRow_heap w1 (w.heap.size + 1) _ ((H).map B).toArray _ _ g1.out)
      have K6 := hid (k1.out.setRow (g := w.heap.size + 1) (.inr (Nat.le_succ _)) ((H).map B).toArray)
      go_wp2_with (first | (with_reducible refine ld rfl _ rfl w.heap.size rfl H g0.out hHl.out ?_) | (with_reducible refine sd rfl _ _ rfl (w.heap.size + 1) rfl (H) rfl _ g1.out hZ.out hHl.out ?_))
      refine bodyPost_ret (v := .tuple #[Dg (H), .bool true]) ?_ rfl ?_
      · exact results_dg_tmp rfl _ _ (w.heap.size + 1) (H) _ rfl rfl g6.out hHl.out
      · exact ⟨hq.out, K6.out⟩
    · have z0 : ¬ ((m0 : Nat) : Int) = 0 := by omega
      have y0 : (((m0 : Nat) : Int) == 0) = false := by simpa using z0
      have hq : Hd (ClmP (climbR H 1 i ds.reverse) (.returned (.tuple #[Dg H, .bool false]))) := ⟨by
        have : ds.reverse.isEmpty = false := by cases ds with
          | nil => simp at hm; omega
          | cons x xs => simp
        rw [hv.out, this]; exact ⟨H, rfl, hHl.out, fun _ => rfl⟩⟩
      rw [hDg]
      clear hDg
      clear ih hr hm hd hv
      go_enter Tryd.func59, Tryd.ntmps59
      go_upto_region 1 with fail
      obtain ⟨w1, hw1, g0, g1, k1⟩ := two_dg w H
      rw [hH.out] at hw1
      unfold Z32 at hw1
      rw [← hw1]
      clear hw1
      replace g0 := hid g0
      replace g1 := hid g1
      replace k1 := hid k1
      have hZ := hid Z32_size
      have g6 := hid (setRow_heap w1 (w.heap.size + 1) _ ((H).map B).toArray _ _ g1.out)
      have K6 := hid (k1.out.setRow (g := w.heap.size + 1) (.inr (Nat.le_succ _)) ((H).map B).toArray)
      go_wp2_with (first | (with_reducible refine ld rfl _ rfl w.heap.size rfl H g0.out hHl.out ?_) | (with_reducible refine sd rfl _ _ rfl (w.heap.size + 1) rfl (H) rfl _ g1.out hZ.out hHl.out ?_))
      refine bodyPost_ret (v := .tuple #[Dg (H), .bool false]) ?_ rfl ?_
      · exact results_dg_tmp rfl _ _ (w.heap.size + 1) (H) _ rfl rfl g6.out hHl.out
      · exact ⟨hq.out, K6.out⟩
  · have zn : ¬ ((n : Nat) : Int) = 1 := by omega
    have yn : (((n : Nat) : Int) == 1) = false := by simpa using zn
    by_cases h0 : m0 = 0
    · subst h0
      have hq : Hd (ClmP (climbR H n i ds.reverse) (.returned (.tuple #[Dg H, .bool false]))) := ⟨by
        obtain rfl : ds = [] := List.eq_nil_of_length_eq_zero hm
        rw [List.reverse_nil, climb_nil H n i h1]; exact ⟨H, rfl, hHl.out, fun h => by cases h⟩⟩
      rw [hDg]
      clear hDg
      clear ih hr hm hd
      go_enter Tryd.func59, Tryd.ntmps59
      go_upto_region 1 with fail
      obtain ⟨w1, hw1, g0, g1, k1⟩ := two_dg w H
      rw [hH.out] at hw1
      unfold Z32 at hw1
      rw [← hw1]
      clear hw1
      replace g0 := hid g0
      replace g1 := hid g1
      replace k1 := hid k1
      have hZ := hid Z32_size
      have g6 := hid (setRow_heap w1 (w.heap.size + 1) _ ((H).map B).toArray _ _ g1.out)
      have K6 := hid (k1.out.setRow (g := w.heap.size + 1) (.inr (Nat.le_succ _)) ((H).map B).toArray)
      go_wp2_with (first | (with_reducible refine ld rfl _ rfl w.heap.size rfl H g0.out hHl.out ?_) | (with_reducible refine sd rfl _ _ rfl (w.heap.size + 1) rfl (H) rfl _ g1.out hZ.out hHl.out ?_))
      refine bodyPost_ret (v := .tuple #[Dg (H), .bool false]) ?_ rfl ?_
      · exact results_dg_tmp rfl _ _ (w.heap.size + 1) (H) _ rfl rfl g6.out hHl.out
      · exact ⟨hq.out, K6.out⟩
    · have h2 : 2 ≤ n := by omega
      obtain ⟨ds', PP, rfl⟩ : ∃ l x, ds = l ++ [x] := by
        rcases List.eq_nil_or_concat ds with rfl | ⟨l, x, rfl⟩
        · simp at hm; omega
        · exact ⟨l, x, by simp⟩
      obtain ⟨b, o, rfl, hL, hrP, hrd⟩ := RdD.last hr
      have hP := hid (hr.1 PP (by simp))
      obtain ⟨m, hm'⟩ : ∃ m, ds'.length = m := ⟨_, rfl⟩
      rw [hm'] at hL hrP hrd
      have hK1 := half_lt n h2
      have hK0 := half_pos n
      have hv : Hd (climbR H n i (ds' ++ [PP]).reverse = if i < half n then (innerD (climbR H (half n) i ds'.reverse).1 PP, (climbR H (half n) i ds'.reverse).2) else (innerD PP (climbR H (n - half n) (i - half n) ds'.reverse).1, (climbR H (n - half n) (i - half n) ds'.reverse).2)) := ⟨by
        rw [List.reverse_append, List.reverse_singleton, List.singleton_append]
        simp only [climbR]
        rw [if_neg h1]⟩
      have HH := hid (fun w => half_any n w h2 h63)
      generalize half n = K at hK1 hK0 hv HH
      subst hL
      obtain ⟨L1, hL1⟩ : ∃ L1, m + 1 = L1 := ⟨_, rfl⟩
      rw [hL1] at hr h0 ⊢
      have e1 : (L1 : Int) - 1 = (m : Int) := by omega
      have e1w : IntKind.i64.wrap (m : Int) = (m : Int) := IntWalk.i64_in _ (by omega)
      have c1 : (m : Int) < (L1 : Int) := by omega
      have c2 : (m : Int) ≤ (L1 : Int) := by omega
      have c3 : (0 : Int) ≤ (m : Int) := by omega
      have hcap : L1 ≤ cap := by obtain ⟨_, _, _, _, e, h1, _⟩ := hr; cases e; rw [List.length_append, List.length_singleton, hm', hL1] at h1; exact h1
      have c4 : (m : Int) ≤ (cap : Int) := by omega
      have z0 : ¬ ((L1 : Nat) : Int) = 0 := by omega
      have y0 : (((L1 : Nat) : Int) == 0) = false := by simpa using z0
      have hIH := hid (fun n' i' W (a : i' < n') (b1 : n' ≤ 63) (hr : RdD W (.slice (some ⟨b, o, none⟩) m cap) ds') (t : Tab W) => by have := ih m (by simp at hm; omega) ds' hm' n' i' (.slice (some ⟨b, o, none⟩) m cap) W hHl.out a b1 (by simp at hd; omega) hr t; exact this)
      have hrd' := hid hrd
      have hrP0 := hid hrP
      have hll := hid (fun X Y => innerD_length X Y)
      obtain ⟨I, hI⟩ : ∃ I : Int, (i : Int) = I := ⟨_, rfl⟩
      rw [hI, hDg]
      clear hDg
      clear ih hr hm hrP hrd hL1
      have rest : Hd (∀ (w1 : World), Kept no w w1 → True) := ⟨fun _ _ => trivial⟩
      clear rest
      by_cases hik : i < K
      · have hlt : I < (K : Int) := by omega
        rw [if_pos hik] at hv
        have IHP := hid (fun W h t => hIH.out K i W hik (by omega) h t)
        rw [hI] at IHP
        generalize climbR H K i ds'.reverse = q at IHP hv
        clear hIH hI hik
        go_enter Tryd.func59, Tryd.ntmps59
        go_upto_region 1 with fail
        obtain ⟨w1, hw1, g0, g1, k1⟩ := two_dg w H
        rw [hH.out] at hw1
        unfold Z32 at hw1
        rw [← hw1]
        clear hw1
        replace g0 := hid g0
        replace g1 := hid g1
        replace k1 := hid k1
        have hZ := hid Z32_size
        go_upto_region 3 with fail
        have hrP := hid (k1.out.drew.rng hrP0.out)
        refine wp_region_held_drew (S := fun w' => w'.rangeAt b (o + m * 32) (PP.map B)) (by kernel_rfl) hrP.out (fun _ => ?_)
        generalize hwd : w1.drew = W0 at hrP ⊢
        have kd : Hd (Kept no w1 W0) := ⟨by rw [← hwd]; exact (Kept.refl no w1).drew⟩
        clear hwd
        refine take2 0 (some 32) (.slice (some ⟨b, o, none⟩) L1 cap) rfl rfl (by kernel_rfl) (by kernel_rfl) (by kernel_rfl) (fun _ _ _ h => h) (Or.inl ⟨by rfl, fun w hSw => ?_⟩) hrP.out ?_
        · first | rfl | go_simp
        try simp only [Act.put, List.setIfInBounds_toArray, List.set_cons_zero, List.set_cons_succ]
        refine take2 1 (some 33) (.slice (some ⟨b, o, none⟩) L1 cap) rfl rfl (by kernel_rfl) (by kernel_rfl) (by kernel_rfl) (fun _ _ _ h => h) (Or.inl ⟨by rfl, fun w hSw => ?_⟩) hrP.out ?_
        · first | rfl | go_simp
        try simp only [Act.put, List.setIfInBounds_toArray, List.set_cons_zero, List.set_cons_succ]
        refine take2 2 (some 34) (.int .i64 (L1 : Int)) rfl rfl (by kernel_rfl) (by kernel_rfl) (by kernel_rfl) (fun _ _ _ h => h) (Or.inl ⟨by rfl, fun w hSw => ?_⟩) hrP.out ?_
        · first | rfl | go_simp
        try simp only [Act.put, List.setIfInBounds_toArray, List.set_cons_zero, List.set_cons_succ]
        refine take2 3 (some 35) (.int .i64 (m : Int)) rfl rfl (by kernel_rfl) (by kernel_rfl) (by kernel_rfl) (fun _ _ _ h => h) (Or.inl ⟨by rfl, fun w hSw => ?_⟩) hrP.out ?_
        · first | rfl | go_simp
        try simp only [Act.put, List.setIfInBounds_toArray, List.set_cons_zero, List.set_cons_succ]
        refine take2 4 (some 36) (.pointer (some ⟨b, o + m * 32, none⟩)) rfl rfl (by kernel_rfl) (by kernel_rfl) (by kernel_rfl) (fun _ _ _ h => h) (Or.inl ⟨by rfl, fun w hSw => ?_⟩) hrP.out ?_
        · first | rfl | go_simp
        try simp only [Act.put, List.setIfInBounds_toArray, List.set_cons_zero, List.set_cons_succ]
        refine take2 5 (some 37) (Dg PP) rfl rfl (by kernel_rfl) (by kernel_rfl) (by kernel_rfl) (fun _ _ _ h => h) (yieldsIf_load_mid (by rfl) 26 (.tmp 36) rfl b (o + m * 32) rfl (PP.map B) _ (fun w h => h) Tryd.underlying26 rfl (infDl hP.out)) hrP.out ?_
        try simp only [Act.put, List.setIfInBounds_toArray, List.set_cons_zero, List.set_cons_succ]
        refine take2 6 (some 38) (.slice (some ⟨b, o, none⟩) L1 cap) rfl rfl (by kernel_rfl) (by kernel_rfl) (by kernel_rfl) (fun _ _ _ h => h) (Or.inl ⟨by rfl, fun w hSw => ?_⟩) hrP.out ?_
        · first | rfl | go_simp
        try simp only [Act.put, List.setIfInBounds_toArray, List.set_cons_zero, List.set_cons_succ]
        refine take2 7 (some 39) (.slice (some ⟨b, o, none⟩) L1 cap) rfl rfl (by kernel_rfl) (by kernel_rfl) (by kernel_rfl) (fun _ _ _ h => h) (Or.inl ⟨by rfl, fun w hSw => ?_⟩) hrP.out ?_
        · first | rfl | go_simp
        try simp only [Act.put, List.setIfInBounds_toArray, List.set_cons_zero, List.set_cons_succ]
        refine take2 8 (some 40) (.int .i64 (L1 : Int)) rfl rfl (by kernel_rfl) (by kernel_rfl) (by kernel_rfl) (fun _ _ _ h => h) (Or.inl ⟨by rfl, fun w hSw => ?_⟩) hrP.out ?_
        · first | rfl | go_simp
        try simp only [Act.put, List.setIfInBounds_toArray, List.set_cons_zero, List.set_cons_succ]
        refine take2 9 (some 41) (.int .i64 (m : Int)) rfl rfl (by kernel_rfl) (by kernel_rfl) (by kernel_rfl) (fun _ _ _ h => h) (Or.inl ⟨by rfl, fun w hSw => ?_⟩) hrP.out ?_
        · first | rfl | go_simp
        try simp only [Act.put, List.setIfInBounds_toArray, List.set_cons_zero, List.set_cons_succ]
        refine take2 10 (some 42) (.slice (some ⟨b, o, none⟩) m cap) rfl rfl (by kernel_rfl) (by kernel_rfl) (by kernel_rfl) (fun _ _ _ h => h) (Or.inl ⟨by rfl, fun w hSw => ?_⟩) hrP.out ?_
        · first | rfl | go_simp
        try simp only [Act.put, List.setIfInBounds_toArray, List.set_cons_zero, List.set_cons_succ]
        refine wpAnyH_ready (rs := [11]) (by kernel_rfl) (by simp) ?_
        refine AllReadyH.cons rfl (fun K hK => ?_) AllReadyH.nil
        go_simp
        refine hK.out _ _ (((Kept.refl no W0).alloc _).rng hrP.out) (fun _ => ?_)
        clear hK K
        try simp only [Act.put, List.setIfInBounds_toArray, List.set_cons_zero, List.set_cons_succ]
        have e1 := hid (heap_alloc_new W0 (.cells Z32 26))
        have q1 := hid ((Kept.refl no W0).alloc (.cells Z32 26))
        unfold Z32 at e1 q1
        generalize hgp : W0.heap.size = gp at e1 ⊢
        have hgp' : Hd (w1.heap.size ≤ gp) := ⟨by rw [← hgp]; exact kd.out.size⟩
        have q0 : Hd (W0.heap.size ≤ gp) := ⟨by rw [hgp]; exact Nat.le_refl _⟩
        clear hgp
        generalize W0.alloc _ = W1 at e1 q1 ⊢
        refine wpAnyH_ready (rs := [12]) (by kernel_rfl) (by simp) ?_
        refine AllReadyH.cons rfl (fun K hK => ?_) AllReadyH.nil
        rw [if_pos (by rfl)]
        refine wp_store_row 26 _ _ rfl gp (PP.map B).toArray rfl rfl 26 _ e1.out (infD hP.out) (Dg_cells hP.out).symm (oneD PP) ?_
        have e2 := hid (setRow_heap W1 gp _ (PP.map B).toArray _ _ e1.out)
        have k2 := hid ((kd.out.trans' q1.out).setRow (g := gp) (.inr hgp'.out) (PP.map B).toArray)
        have s2 := hid ((q1.out.setRow (g := gp) (.inr q0.out) (PP.map B).toArray).rng hrP.out)
        refine hK.out _ _ s2.out (fun _ => ?_)
        clear hK K
        try simp only [Act.put]
        generalize W1.setRow gp _ = W2 at e2 k2 s2 ⊢
        clear hrP kd e1 q1 q0
        refine take2 13 (some 11) (.slice (some ⟨b, o, none⟩) m cap) rfl rfl (by kernel_rfl) (by kernel_rfl) (by kernel_rfl) (fun _ _ _ h => h) (Or.inl ⟨by rfl, fun w hSw => ?_⟩) s2.out ?_
        · first | rfl | go_simp
        try simp only [Act.put, List.setIfInBounds_toArray]
        refine wpAnyH_done (by kernel_rfl) ?_ _
        clear s2
        have K2 := hid (k1.out.trans' k2.out)
        have gH := hid (k2.out.blk g0.out)
        have gZ := hid (k2.out.blk g1.out)
        clear g0 g1 k1 k2
        go_upto_region 6 with (refine (HH.out _).mono ?_; rintro ed w' ⟨rfl, rfl⟩)
        go_wp2_with (with_reducible refine ld rfl _ rfl w.heap.size rfl H gH.out hHl.out ?_)
        refine (IHP.out W2 (hrd'.out.kept K2.out) (hT.out.kept K2.out)).mono ?_
        rintro ed W3 ⟨⟨X, rfl, hX, hXq⟩, k3⟩
        have hN := hid (heap_alloc_new W3 (.cells Z32 26))
        obtain ⟨W4, hw4, g4, k4⟩ := dg_block W3 X
        have k34 := k3.trans' k4
        have K4 := hid (K2.out.trans' k34)
        have gZ4 := hid (k34.blk gZ.out)
        have gP4 := hid (k34.blk e2.out)
        unfold Z32 at hN hw4
        unfold Z32 at hZ
        replace hw4 := hid hw4
        replace g4 := hid g4
        generalize hgs : W3.heap.size = gs at hN hw4 g4
        replace hgs := hid hgs
        replace hX := hid hX
        replace hXq := hid hXq
        clear k3 k4 k34 gH gZ e2 K2
        go_upto_region 7 with (with_reducible refine sd rfl _ _ rfl W3.heap.size rfl X rfl _ (by rw [hgs.out]; exact hN.out) hZ.out hX.out ?_; rw [hgs.out, ← hw4.out])
        clear hN hw4 hgs
        go_wp2_with (first | (with_reducible refine ld rfl _ rfl gp rfl PP gP4.out hP.out ?_) | (with_reducible refine ld rfl _ rfl gs rfl X g4.out hX.out ?_))
        refine (inner_any X PP W4 hX.out hP.out (hT.out.kept K4.out)).mono ?_
        rintro ed W5 ⟨rfl, k5⟩
        have hlR := hid (hll.out X PP)
        have hfin : Hd (ClmP (climbR H n i (ds' ++ [PP]).reverse) (.returned (.tuple #[Dg (innerD X PP), .bool q.2]))) := ⟨by
          rw [hv.out]; exact ⟨_, rfl, innerD_length _ _, fun h => by rw [hXq.out h]⟩⟩
        generalize innerD X PP = RR at hlR hfin ⊢
        have gZ5 := hid (k5.blk gZ4.out)
        have g6 := hid (setRow_heap W5 (w.heap.size + 1) _ (RR.map B).toArray _ _ gZ5.out)
        have K6 := hid ((K4.out.trans' k5).setRow (g := w.heap.size + 1) (.inr (Nat.le_succ _)) (RR.map B).toArray)
        clear k5 K4 gZ4 gP4 g4
        have hZ2 := hid Z32_size
        go_wp2_with (with_reducible refine sd rfl _ _ rfl (w.heap.size + 1) rfl RR rfl _ gZ5.out hZ2.out hlR.out ?_)
        
        refine bodyPost_ret (v := .tuple #[Dg RR, .bool q.2]) ?_ rfl ?_
        · exact results_dg_tmp rfl _ _ (w.heap.size + 1) RR _ rfl rfl g6.out hlR.out
        · exact ⟨hfin.out, K6.out⟩
      · have hlt : ¬ I < (K : Int) := by omega
        have hge : (K : Int) ≤ I := by omega
        rw [if_neg hik] at hv
        obtain ⟨I2, hI2⟩ : ∃ I2 : Nat, i - K = I2 := ⟨_, rfl⟩
        obtain ⟨N2, hN2⟩ : ∃ N2 : Nat, n - K = N2 := ⟨_, rfl⟩
        have s1 : I - (K : Int) = (I2 : Int) := by omega
        have s2 : IntKind.i64.wrap (I2 : Int) = (I2 : Int) := IntWalk.i64_in _ (by omega)
        have s3 : (n : Int) - (K : Int) = (N2 : Int) := by omega
        have s4 : IntKind.i64.wrap (N2 : Int) = (N2 : Int) := IntWalk.i64_in _ (by omega)
        have IHP := hid (fun W h t => hIH.out (n - K) (i - K) W (by omega) (by omega) h t)
        rw [hI2, hN2] at IHP
        rw [hI2, hN2] at hv
        generalize climbR H N2 I2 ds'.reverse = q at IHP hv
        clear hIH hI hik hI2 hN2
        go_enter Tryd.func59, Tryd.ntmps59
        go_upto_region 1 with fail
        obtain ⟨w1, hw1, g0, g1, k1⟩ := two_dg w H
        rw [hH.out] at hw1
        unfold Z32 at hw1
        rw [← hw1]
        clear hw1
        replace g0 := hid g0
        replace g1 := hid g1
        replace k1 := hid k1
        have hZ := hid Z32_size
        go_upto_region 3 with fail
        have hrP := hid (k1.out.drew.rng hrP0.out)
        refine wp_region_held_drew (S := fun w' => w'.rangeAt b (o + m * 32) (PP.map B)) (by kernel_rfl) hrP.out (fun _ => ?_)
        generalize hwd : w1.drew = W0 at hrP ⊢
        have kd : Hd (Kept no w1 W0) := ⟨by rw [← hwd]; exact (Kept.refl no w1).drew⟩
        clear hwd
        refine take2 0 (some 32) (.slice (some ⟨b, o, none⟩) L1 cap) rfl rfl (by kernel_rfl) (by kernel_rfl) (by kernel_rfl) (fun _ _ _ h => h) (Or.inl ⟨by rfl, fun w hSw => ?_⟩) hrP.out ?_
        · first | rfl | go_simp
        try simp only [Act.put, List.setIfInBounds_toArray, List.set_cons_zero, List.set_cons_succ]
        refine take2 1 (some 33) (.slice (some ⟨b, o, none⟩) L1 cap) rfl rfl (by kernel_rfl) (by kernel_rfl) (by kernel_rfl) (fun _ _ _ h => h) (Or.inl ⟨by rfl, fun w hSw => ?_⟩) hrP.out ?_
        · first | rfl | go_simp
        try simp only [Act.put, List.setIfInBounds_toArray, List.set_cons_zero, List.set_cons_succ]
        refine take2 2 (some 34) (.int .i64 (L1 : Int)) rfl rfl (by kernel_rfl) (by kernel_rfl) (by kernel_rfl) (fun _ _ _ h => h) (Or.inl ⟨by rfl, fun w hSw => ?_⟩) hrP.out ?_
        · first | rfl | go_simp
        try simp only [Act.put, List.setIfInBounds_toArray, List.set_cons_zero, List.set_cons_succ]
        refine take2 3 (some 35) (.int .i64 (m : Int)) rfl rfl (by kernel_rfl) (by kernel_rfl) (by kernel_rfl) (fun _ _ _ h => h) (Or.inl ⟨by rfl, fun w hSw => ?_⟩) hrP.out ?_
        · first | rfl | go_simp
        try simp only [Act.put, List.setIfInBounds_toArray, List.set_cons_zero, List.set_cons_succ]
        refine take2 4 (some 36) (.pointer (some ⟨b, o + m * 32, none⟩)) rfl rfl (by kernel_rfl) (by kernel_rfl) (by kernel_rfl) (fun _ _ _ h => h) (Or.inl ⟨by rfl, fun w hSw => ?_⟩) hrP.out ?_
        · first | rfl | go_simp
        try simp only [Act.put, List.setIfInBounds_toArray, List.set_cons_zero, List.set_cons_succ]
        refine take2 5 (some 37) (Dg PP) rfl rfl (by kernel_rfl) (by kernel_rfl) (by kernel_rfl) (fun _ _ _ h => h) (yieldsIf_load_mid (by rfl) 26 (.tmp 36) rfl b (o + m * 32) rfl (PP.map B) _ (fun w h => h) Tryd.underlying26 rfl (infDl hP.out)) hrP.out ?_
        try simp only [Act.put, List.setIfInBounds_toArray, List.set_cons_zero, List.set_cons_succ]
        refine take2 6 (some 38) (.slice (some ⟨b, o, none⟩) L1 cap) rfl rfl (by kernel_rfl) (by kernel_rfl) (by kernel_rfl) (fun _ _ _ h => h) (Or.inl ⟨by rfl, fun w hSw => ?_⟩) hrP.out ?_
        · first | rfl | go_simp
        try simp only [Act.put, List.setIfInBounds_toArray, List.set_cons_zero, List.set_cons_succ]
        refine take2 7 (some 39) (.slice (some ⟨b, o, none⟩) L1 cap) rfl rfl (by kernel_rfl) (by kernel_rfl) (by kernel_rfl) (fun _ _ _ h => h) (Or.inl ⟨by rfl, fun w hSw => ?_⟩) hrP.out ?_
        · first | rfl | go_simp
        try simp only [Act.put, List.setIfInBounds_toArray, List.set_cons_zero, List.set_cons_succ]
        refine take2 8 (some 40) (.int .i64 (L1 : Int)) rfl rfl (by kernel_rfl) (by kernel_rfl) (by kernel_rfl) (fun _ _ _ h => h) (Or.inl ⟨by rfl, fun w hSw => ?_⟩) hrP.out ?_
        · first | rfl | go_simp
        try simp only [Act.put, List.setIfInBounds_toArray, List.set_cons_zero, List.set_cons_succ]
        refine take2 9 (some 41) (.int .i64 (m : Int)) rfl rfl (by kernel_rfl) (by kernel_rfl) (by kernel_rfl) (fun _ _ _ h => h) (Or.inl ⟨by rfl, fun w hSw => ?_⟩) hrP.out ?_
        · first | rfl | go_simp
        try simp only [Act.put, List.setIfInBounds_toArray, List.set_cons_zero, List.set_cons_succ]
        refine take2 10 (some 42) (.slice (some ⟨b, o, none⟩) m cap) rfl rfl (by kernel_rfl) (by kernel_rfl) (by kernel_rfl) (fun _ _ _ h => h) (Or.inl ⟨by rfl, fun w hSw => ?_⟩) hrP.out ?_
        · first | rfl | go_simp
        try simp only [Act.put, List.setIfInBounds_toArray, List.set_cons_zero, List.set_cons_succ]
        refine wpAnyH_ready (rs := [11]) (by kernel_rfl) (by simp) ?_
        refine AllReadyH.cons rfl (fun K hK => ?_) AllReadyH.nil
        go_simp
        refine hK.out _ _ (((Kept.refl no W0).alloc _).rng hrP.out) (fun _ => ?_)
        clear hK K
        try simp only [Act.put, List.setIfInBounds_toArray, List.set_cons_zero, List.set_cons_succ]
        have e1 := hid (heap_alloc_new W0 (.cells Z32 26))
        have q1 := hid ((Kept.refl no W0).alloc (.cells Z32 26))
        unfold Z32 at e1 q1
        generalize hgp : W0.heap.size = gp at e1 ⊢
        have hgp' : Hd (w1.heap.size ≤ gp) := ⟨by rw [← hgp]; exact kd.out.size⟩
        have q0 : Hd (W0.heap.size ≤ gp) := ⟨by rw [hgp]; exact Nat.le_refl _⟩
        clear hgp
        generalize W0.alloc _ = W1 at e1 q1 ⊢
        refine wpAnyH_ready (rs := [12]) (by kernel_rfl) (by simp) ?_
        refine AllReadyH.cons rfl (fun K hK => ?_) AllReadyH.nil
        rw [if_pos (by rfl)]
        refine wp_store_row 26 _ _ rfl gp (PP.map B).toArray rfl rfl 26 _ e1.out (infD hP.out) (Dg_cells hP.out).symm (oneD PP) ?_
        have e2 := hid (setRow_heap W1 gp _ (PP.map B).toArray _ _ e1.out)
        have k2 := hid ((kd.out.trans' q1.out).setRow (g := gp) (.inr hgp'.out) (PP.map B).toArray)
        have s2 := hid ((q1.out.setRow (g := gp) (.inr q0.out) (PP.map B).toArray).rng hrP.out)
        refine hK.out _ _ s2.out (fun _ => ?_)
        clear hK K
        try simp only [Act.put]
        generalize W1.setRow gp _ = W2 at e2 k2 s2 ⊢
        clear hrP kd e1 q1 q0
        refine take2 13 (some 11) (.slice (some ⟨b, o, none⟩) m cap) rfl rfl (by kernel_rfl) (by kernel_rfl) (by kernel_rfl) (fun _ _ _ h => h) (Or.inl ⟨by rfl, fun w hSw => ?_⟩) s2.out ?_
        · first | rfl | go_simp
        try simp only [Act.put, List.setIfInBounds_toArray]
        refine wpAnyH_done (by kernel_rfl) ?_ _
        clear s2
        have K2 := hid (k1.out.trans' k2.out)
        have gH := hid (k2.out.blk g0.out)
        have gZ := hid (k2.out.blk g1.out)
        clear g0 g1 k1 k2
        go_upto_region 8 with (refine (HH.out _).mono ?_; rintro ed w' ⟨rfl, rfl⟩)
        go_wp2_with (with_reducible refine ld rfl _ rfl w.heap.size rfl H gH.out hHl.out ?_)
        refine (IHP.out W2 (hrd'.out.kept K2.out) (hT.out.kept K2.out)).mono ?_
        rintro ed W3 ⟨⟨X, rfl, hX, hXq⟩, k3⟩
        have hN := hid (heap_alloc_new W3 (.cells Z32 26))
        obtain ⟨W4, hw4, g4, k4⟩ := dg_block W3 X
        have k34 := k3.trans' k4
        have K4 := hid (K2.out.trans' k34)
        have gZ4 := hid (k34.blk gZ.out)
        have gP4 := hid (k34.blk e2.out)
        unfold Z32 at hN hw4
        unfold Z32 at hZ
        replace hw4 := hid hw4
        replace g4 := hid g4
        generalize hgs : W3.heap.size = gs at hN hw4 g4
        replace hgs := hid hgs
        replace hX := hid hX
        replace hXq := hid hXq
        clear k3 k4 k34 gH gZ e2 K2
        go_upto_region 9 with (with_reducible refine sd rfl _ _ rfl W3.heap.size rfl X rfl _ (by rw [hgs.out]; exact hN.out) hZ.out hX.out ?_; rw [hgs.out, ← hw4.out])
        clear hN hw4 hgs
        go_wp2_with (first | (with_reducible refine ld rfl _ rfl gp rfl PP gP4.out hP.out ?_) | (with_reducible refine ld rfl _ rfl gs rfl X g4.out hX.out ?_))
        refine (inner_any PP X W4 hP.out hX.out (hT.out.kept K4.out)).mono ?_
        rintro ed W5 ⟨rfl, k5⟩
        have hlR := hid (hll.out PP X)
        have hfin : Hd (ClmP (climbR H n i (ds' ++ [PP]).reverse) (.returned (.tuple #[Dg (innerD PP X), .bool q.2]))) := ⟨by
          rw [hv.out]; exact ⟨_, rfl, innerD_length _ _, fun h => by rw [hXq.out h]⟩⟩
        generalize innerD PP X = RR at hlR hfin ⊢
        have gZ5 := hid (k5.blk gZ4.out)
        have g6 := hid (setRow_heap W5 (w.heap.size + 1) _ (RR.map B).toArray _ _ gZ5.out)
        have K6 := hid ((K4.out.trans' k5).setRow (g := w.heap.size + 1) (.inr (Nat.le_succ _)) (RR.map B).toArray)
        clear k5 K4 gZ4 gP4 g4
        have hZ2 := hid Z32_size
        go_wp2_with (with_reducible refine sd rfl _ _ rfl (w.heap.size + 1) rfl RR rfl _ gZ5.out hZ2.out hlR.out ?_)
        
        refine bodyPost_ret (v := .tuple #[Dg RR, .bool q.2]) ?_ rfl ?_
        · exact results_dg_tmp rfl _ _ (w.heap.size + 1) RR _ rfl rfl g6.out hlR.out
        · exact ⟨hfin.out, K6.out⟩
set_option maxRecDepth 100000 in
set_option maxHeartbeats 1000000 in
theorem run_any (H : List UInt8) (ds : List (List UInt8)) : ∀ (n i : Nat) (v : Value) (w : World), H.length = 32 → i < n → n ≤ 63 → ds.length ≤ 1000 → RdD w v ds → TabR w → Calls Tryd.prog 69 #[Dg H, .int .i64 (n : Int), .int .i64 (i : Int), v] w fun ed w' => ClmP (climbR H n i ds.reverse) ed ∧ Kept no w w' := by
  induction hm : ds.length using Nat.strongRecOn generalizing ds with
  | ind m0 ih =>
  intro n i v w hHl hi h63 hd hr hT
  obtain ⟨ao, cap, rfl⟩ := Rd.shapeZ hr.2
  replace hHl := hid hHl
  replace hT := hid hT
  obtain ⟨L, hH⟩ : ∃ L, H.map B = L := ⟨_, rfl⟩
  replace hH := hid hH
  have hDg : Dg H = .agg L.toArray := by rw [← hH.out]; rfl
  rw [hm] at hr ⊢
  by_cases h1 : n = 1
  · subst h1
    have hv := hid (climb_one H i ds.reverse)
    by_cases h0 : m0 = 0
    · subst h0
      have hq : Hd (ClmP (climbR H 1 i ds.reverse) (.returned (.tuple #[Dg H, .bool true]))) := ⟨by
        obtain rfl : ds = [] := List.eq_nil_of_length_eq_zero hm
        rw [hv.out]; exact ⟨H, rfl, hHl.out, fun _ => rfl⟩⟩
      rw [hDg]
      clear hDg
      clear ih hr hm hd hv
      go_enter Tryd.func69, Tryd.ntmps69
      go_upto_region 1 with fail
      obtain ⟨w1, hw1, g0, g1, k1⟩ := two_dg w H
      rw [hH.out] at hw1
      unfold Z32 at hw1
      rw [← hw1]
      clear hw1
      replace g0 := hid g0
      replace g1 := hid g1
      replace k1 := hid k1
      have hZ := hid Z32_size
      have g6 := hid (setRow_heap w1 (w.heap.size + 1) _ ((H).map B).toArray _ _ g1.out)
      have K6 := hid (k1.out.setRow (g := w.heap.size + 1) (.inr (Nat.le_succ _)) ((H).map B).toArray)
      go_wp2_with (first | (with_reducible refine ld rfl _ rfl w.heap.size rfl H g0.out hHl.out ?_) | (with_reducible refine sd rfl _ _ rfl (w.heap.size + 1) rfl (H) rfl _ g1.out hZ.out hHl.out ?_))
      refine bodyPost_ret (v := .tuple #[Dg (H), .bool true]) ?_ rfl ?_
      · exact results_dg_tmp rfl _ _ (w.heap.size + 1) (H) _ rfl rfl g6.out hHl.out
      · exact ⟨hq.out, K6.out⟩
    · have z0 : ¬ ((m0 : Nat) : Int) = 0 := by omega
      have y0 : (((m0 : Nat) : Int) == 0) = false := by simpa using z0
      have hq : Hd (ClmP (climbR H 1 i ds.reverse) (.returned (.tuple #[Dg H, .bool false]))) := ⟨by
        have : ds.reverse.isEmpty = false := by cases ds with
          | nil => simp at hm; omega
          | cons x xs => simp
        rw [hv.out, this]; exact ⟨H, rfl, hHl.out, fun _ => rfl⟩⟩
      rw [hDg]
      clear hDg
      clear ih hr hm hd hv
      go_enter Tryd.func69, Tryd.ntmps69
      go_upto_region 1 with fail
      obtain ⟨w1, hw1, g0, g1, k1⟩ := two_dg w H
      rw [hH.out] at hw1
      unfold Z32 at hw1
      rw [← hw1]
      clear hw1
      replace g0 := hid g0
      replace g1 := hid g1
      replace k1 := hid k1
      have hZ := hid Z32_size
      have g6 := hid (setRow_heap w1 (w.heap.size + 1) _ ((H).map B).toArray _ _ g1.out)
      have K6 := hid (k1.out.setRow (g := w.heap.size + 1) (.inr (Nat.le_succ _)) ((H).map B).toArray)
      go_wp2_with (first | (with_reducible refine ld rfl _ rfl w.heap.size rfl H g0.out hHl.out ?_) | (with_reducible refine sd rfl _ _ rfl (w.heap.size + 1) rfl (H) rfl _ g1.out hZ.out hHl.out ?_))
      refine bodyPost_ret (v := .tuple #[Dg (H), .bool false]) ?_ rfl ?_
      · exact results_dg_tmp rfl _ _ (w.heap.size + 1) (H) _ rfl rfl g6.out hHl.out
      · exact ⟨hq.out, K6.out⟩
  · have zn : ¬ ((n : Nat) : Int) = 1 := by omega
    have yn : (((n : Nat) : Int) == 1) = false := by simpa using zn
    by_cases h0 : m0 = 0
    · subst h0
      have hq : Hd (ClmP (climbR H n i ds.reverse) (.returned (.tuple #[Dg Z32l, .bool false]))) := ⟨by
        obtain rfl : ds = [] := List.eq_nil_of_length_eq_zero hm
        rw [List.reverse_nil, climb_nil H n i h1]; exact ⟨Z32l, rfl, rfl, fun h => by cases h⟩⟩
      have hz32 : Hd (Z32l.length = 32) := ⟨rfl⟩
      rw [hDg]
      clear hDg
      clear ih hr hm hd
      go_enter Tryd.func69, Tryd.ntmps69
      go_upto_region 1 with fail
      obtain ⟨w1, hw1, g0, g1, k1⟩ := two_dg w H
      rw [hH.out] at hw1
      unfold Z32 at hw1
      rw [← hw1]
      clear hw1
      replace g0 := hid g0
      replace g1 := hid g1
      replace k1 := hid k1
      have hZ := hid Z32_size
      have g6 := hid (setRow_heap w1 (w.heap.size + 1) _ ((Z32l).map B).toArray _ _ g1.out)
      have K6 := hid (k1.out.setRow (g := w.heap.size + 1) (.inr (Nat.le_succ _)) ((Z32l).map B).toArray)
      go_wp2_with (first | (with_reducible refine ld rfl _ rfl w.heap.size rfl H g0.out hHl.out ?_) | (with_reducible refine sd rfl _ _ rfl (w.heap.size + 1) rfl (Z32l) rfl _ g1.out hZ.out hz32.out ?_))
      refine bodyPost_ret (v := .tuple #[Dg (Z32l), .bool false]) ?_ rfl ?_
      · exact results_dg_tmp rfl _ _ (w.heap.size + 1) (Z32l) _ rfl rfl g6.out hz32.out
      · exact ⟨hq.out, K6.out⟩
    · have h2 : 2 ≤ n := by omega
      obtain ⟨ds', PP, rfl⟩ : ∃ l x, ds = l ++ [x] := by
        rcases List.eq_nil_or_concat ds with rfl | ⟨l, x, rfl⟩
        · simp at hm; omega
        · exact ⟨l, x, by simp⟩
      obtain ⟨b, o, rfl, hL, hrP, hrd⟩ := RdD.last hr
      have hP := hid (hr.1 PP (by simp))
      obtain ⟨m, hm'⟩ : ∃ m, ds'.length = m := ⟨_, rfl⟩
      rw [hm'] at hL hrP hrd
      have hK1 := half_lt n h2
      have hK0 := half_pos n
      have hv : Hd (climbR H n i (ds' ++ [PP]).reverse = if i < half n then (innerD (climbR H (half n) i ds'.reverse).1 PP, (climbR H (half n) i ds'.reverse).2) else (innerD PP (climbR H (n - half n) (i - half n) ds'.reverse).1, (climbR H (n - half n) (i - half n) ds'.reverse).2)) := ⟨by
        rw [List.reverse_append, List.reverse_singleton, List.singleton_append]
        simp only [climbR]
        rw [if_neg h1]⟩
      have HH := hid (fun w => split_any n w h2 h63)
      generalize half n = K at hK1 hK0 hv HH
      subst hL
      obtain ⟨L1, hL1⟩ : ∃ L1, m + 1 = L1 := ⟨_, rfl⟩
      rw [hL1] at hr h0 ⊢
      have e1 : (L1 : Int) - 1 = (m : Int) := by omega
      have e1w : IntKind.i64.wrap (m : Int) = (m : Int) := IntWalk.i64_in _ (by omega)
      have c1 : (m : Int) < (L1 : Int) := by omega
      have c2 : (m : Int) ≤ (L1 : Int) := by omega
      have c3 : (0 : Int) ≤ (m : Int) := by omega
      have hcap : L1 ≤ cap := by obtain ⟨_, _, _, _, e, h1, _⟩ := hr; cases e; rw [List.length_append, List.length_singleton, hm', hL1] at h1; exact h1
      have c4 : (m : Int) ≤ (cap : Int) := by omega
      have z0 : ¬ ((L1 : Nat) : Int) = 0 := by omega
      have y0 : (((L1 : Nat) : Int) == 0) = false := by simpa using z0
      have hIH := hid (fun n' i' W (a : i' < n') (b1 : n' ≤ 63) (hr : RdD W (.slice (some ⟨b, o, none⟩) m cap) ds') (t : TabR W) => by have := ih m (by simp at hm; omega) ds' hm' n' i' (.slice (some ⟨b, o, none⟩) m cap) W hHl.out a b1 (by simp at hd; omega) hr t; exact this)
      have hrd' := hid hrd
      have hrP0 := hid hrP
      have hll := hid (fun X Y => innerD_length X Y)
      obtain ⟨I, hI⟩ : ∃ I : Int, (i : Int) = I := ⟨_, rfl⟩
      rw [hI, hDg]
      clear hDg
      clear ih hr hm hrP hrd hL1
      have rest : Hd (∀ (w1 : World), Kept no w w1 → True) := ⟨fun _ _ => trivial⟩
      clear rest
      by_cases hik : i < K
      · have hlt : I < (K : Int) := by omega
        rw [if_pos hik] at hv
        have IHP := hid (fun W h t => hIH.out K i W hik (by omega) h t)
        rw [hI] at IHP
        generalize climbR H K i ds'.reverse = q at IHP hv
        clear hIH hI hik
        go_enter Tryd.func69, Tryd.ntmps69
        go_upto_region 1 with fail
        obtain ⟨w1, hw1, g0, g1, k1⟩ := two_dg w H
        rw [hH.out] at hw1
        unfold Z32 at hw1
        rw [← hw1]
        clear hw1
        replace g0 := hid g0
        replace g1 := hid g1
        replace k1 := hid k1
        have hZ := hid Z32_size
        go_upto_region 5 with fail
        have hrP := hid (k1.out.drew.rng hrP0.out)
        refine wp_region_held_drew (S := fun w' => w'.rangeAt b (o + m * 32) (PP.map B)) (by kernel_rfl) hrP.out (fun _ => ?_)
        generalize hwd : w1.drew = W0 at hrP ⊢
        have kd : Hd (Kept no w1 W0) := ⟨by rw [← hwd]; exact (Kept.refl no w1).drew⟩
        clear hwd
        refine take2 0 (some 27) (.slice (some ⟨b, o, none⟩) L1 cap) rfl rfl (by kernel_rfl) (by kernel_rfl) (by kernel_rfl) (fun _ _ _ h => h) (Or.inl ⟨by rfl, fun w hSw => ?_⟩) hrP.out ?_
        · first | rfl | go_simp
        try simp only [Act.put, List.setIfInBounds_toArray, List.set_cons_zero, List.set_cons_succ]
        refine take2 1 (some 28) (.slice (some ⟨b, o, none⟩) L1 cap) rfl rfl (by kernel_rfl) (by kernel_rfl) (by kernel_rfl) (fun _ _ _ h => h) (Or.inl ⟨by rfl, fun w hSw => ?_⟩) hrP.out ?_
        · first | rfl | go_simp
        try simp only [Act.put, List.setIfInBounds_toArray, List.set_cons_zero, List.set_cons_succ]
        refine take2 2 (some 29) (.int .i64 (L1 : Int)) rfl rfl (by kernel_rfl) (by kernel_rfl) (by kernel_rfl) (fun _ _ _ h => h) (Or.inl ⟨by rfl, fun w hSw => ?_⟩) hrP.out ?_
        · first | rfl | go_simp
        try simp only [Act.put, List.setIfInBounds_toArray, List.set_cons_zero, List.set_cons_succ]
        refine take2 3 (some 30) (.int .i64 (m : Int)) rfl rfl (by kernel_rfl) (by kernel_rfl) (by kernel_rfl) (fun _ _ _ h => h) (Or.inl ⟨by rfl, fun w hSw => ?_⟩) hrP.out ?_
        · first | rfl | go_simp
        try simp only [Act.put, List.setIfInBounds_toArray, List.set_cons_zero, List.set_cons_succ]
        refine take2 4 (some 31) (.pointer (some ⟨b, o + m * 32, none⟩)) rfl rfl (by kernel_rfl) (by kernel_rfl) (by kernel_rfl) (fun _ _ _ h => h) (Or.inl ⟨by rfl, fun w hSw => ?_⟩) hrP.out ?_
        · first | rfl | go_simp
        try simp only [Act.put, List.setIfInBounds_toArray, List.set_cons_zero, List.set_cons_succ]
        refine take2 5 (some 32) (Dg PP) rfl rfl (by kernel_rfl) (by kernel_rfl) (by kernel_rfl) (fun _ _ _ h => h) (yieldsIf_load_mid (by rfl) 26 (.tmp 31) rfl b (o + m * 32) rfl (PP.map B) _ (fun w h => h) Tryd.underlying26 rfl (infDl hP.out)) hrP.out ?_
        try simp only [Act.put, List.setIfInBounds_toArray, List.set_cons_zero, List.set_cons_succ]
        refine take2 6 (some 33) (.slice (some ⟨b, o, none⟩) L1 cap) rfl rfl (by kernel_rfl) (by kernel_rfl) (by kernel_rfl) (fun _ _ _ h => h) (Or.inl ⟨by rfl, fun w hSw => ?_⟩) hrP.out ?_
        · first | rfl | go_simp
        try simp only [Act.put, List.setIfInBounds_toArray, List.set_cons_zero, List.set_cons_succ]
        refine take2 7 (some 34) (.slice (some ⟨b, o, none⟩) L1 cap) rfl rfl (by kernel_rfl) (by kernel_rfl) (by kernel_rfl) (fun _ _ _ h => h) (Or.inl ⟨by rfl, fun w hSw => ?_⟩) hrP.out ?_
        · first | rfl | go_simp
        try simp only [Act.put, List.setIfInBounds_toArray, List.set_cons_zero, List.set_cons_succ]
        refine take2 8 (some 35) (.int .i64 (L1 : Int)) rfl rfl (by kernel_rfl) (by kernel_rfl) (by kernel_rfl) (fun _ _ _ h => h) (Or.inl ⟨by rfl, fun w hSw => ?_⟩) hrP.out ?_
        · first | rfl | go_simp
        try simp only [Act.put, List.setIfInBounds_toArray, List.set_cons_zero, List.set_cons_succ]
        refine take2 9 (some 36) (.int .i64 (m : Int)) rfl rfl (by kernel_rfl) (by kernel_rfl) (by kernel_rfl) (fun _ _ _ h => h) (Or.inl ⟨by rfl, fun w hSw => ?_⟩) hrP.out ?_
        · first | rfl | go_simp
        try simp only [Act.put, List.setIfInBounds_toArray, List.set_cons_zero, List.set_cons_succ]
        refine take2 10 (some 37) (.slice (some ⟨b, o, none⟩) m cap) rfl rfl (by kernel_rfl) (by kernel_rfl) (by kernel_rfl) (fun _ _ _ h => h) (Or.inl ⟨by rfl, fun w hSw => ?_⟩) hrP.out ?_
        · first | rfl | go_simp
        try simp only [Act.put, List.setIfInBounds_toArray, List.set_cons_zero, List.set_cons_succ]
        refine wpAnyH_ready (rs := [11]) (by kernel_rfl) (by simp) ?_
        refine AllReadyH.cons rfl (fun K hK => ?_) AllReadyH.nil
        go_simp
        refine hK.out _ _ (((Kept.refl no W0).alloc _).rng hrP.out) (fun _ => ?_)
        clear hK K
        try simp only [Act.put, List.setIfInBounds_toArray, List.set_cons_zero, List.set_cons_succ]
        have e1 := hid (heap_alloc_new W0 (.cells Z32 26))
        have q1 := hid ((Kept.refl no W0).alloc (.cells Z32 26))
        unfold Z32 at e1 q1
        generalize hgp : W0.heap.size = gp at e1 ⊢
        have hgp' : Hd (w1.heap.size ≤ gp) := ⟨by rw [← hgp]; exact kd.out.size⟩
        have q0 : Hd (W0.heap.size ≤ gp) := ⟨by rw [hgp]; exact Nat.le_refl _⟩
        clear hgp
        generalize W0.alloc _ = W1 at e1 q1 ⊢
        refine wpAnyH_ready (rs := [12]) (by kernel_rfl) (by simp) ?_
        refine AllReadyH.cons rfl (fun K hK => ?_) AllReadyH.nil
        rw [if_pos (by rfl)]
        refine wp_store_row 26 _ _ rfl gp (PP.map B).toArray rfl rfl 26 _ e1.out (infD hP.out) (Dg_cells hP.out).symm (oneD PP) ?_
        have e2 := hid (setRow_heap W1 gp _ (PP.map B).toArray _ _ e1.out)
        have k2 := hid ((kd.out.trans' q1.out).setRow (g := gp) (.inr hgp'.out) (PP.map B).toArray)
        have s2 := hid ((q1.out.setRow (g := gp) (.inr q0.out) (PP.map B).toArray).rng hrP.out)
        refine hK.out _ _ s2.out (fun _ => ?_)
        clear hK K
        try simp only [Act.put]
        generalize W1.setRow gp _ = W2 at e2 k2 s2 ⊢
        clear hrP kd e1 q1 q0
        refine take2 13 (some 11) (.slice (some ⟨b, o, none⟩) m cap) rfl rfl (by kernel_rfl) (by kernel_rfl) (by kernel_rfl) (fun _ _ _ h => h) (Or.inl ⟨by rfl, fun w hSw => ?_⟩) s2.out ?_
        · first | rfl | go_simp
        try simp only [Act.put, List.setIfInBounds_toArray]
        refine wpAnyH_done (by kernel_rfl) ?_ _
        clear s2
        have K2 := hid (k1.out.trans' k2.out)
        have gH := hid (k2.out.blk g0.out)
        have gZ := hid (k2.out.blk g1.out)
        clear g0 g1 k1 k2
        go_upto_region 8 with (refine (HH.out _).mono ?_; rintro ed w' ⟨rfl, rfl⟩)
        go_wp2_with (with_reducible refine ld rfl _ rfl w.heap.size rfl H gH.out hHl.out ?_)
        refine (IHP.out W2 (hrd'.out.kept K2.out) (hT.out.kept K2.out)).mono ?_
        rintro ed W3 ⟨⟨X, rfl, hX, hXq⟩, k3⟩
        have hN := hid (heap_alloc_new W3 (.cells Z32 26))
        obtain ⟨W4, hw4, g4, k4⟩ := dg_block W3 X
        have k34 := k3.trans' k4
        have K4 := hid (K2.out.trans' k34)
        have gZ4 := hid (k34.blk gZ.out)
        have gP4 := hid (k34.blk e2.out)
        unfold Z32 at hN hw4
        unfold Z32 at hZ
        replace hw4 := hid hw4
        replace g4 := hid g4
        generalize hgs : W3.heap.size = gs at hN hw4 g4
        replace hgs := hid hgs
        replace hX := hid hX
        replace hXq := hid hXq
        clear k3 k4 k34 gH gZ e2 K2
        go_upto_region 9 with (with_reducible refine sd rfl _ _ rfl W3.heap.size rfl X rfl _ (by rw [hgs.out]; exact hN.out) hZ.out hX.out ?_; rw [hgs.out, ← hw4.out])
        clear hN hw4 hgs
        go_wp2_with (first | (with_reducible refine ld rfl _ rfl gp rfl PP gP4.out hP.out ?_) | (with_reducible refine ld rfl _ rfl gs rfl X g4.out hX.out ?_))
        refine (node_any X PP W4 hX.out hP.out (hT.out.kept K4.out)).mono ?_
        rintro ed W5 ⟨rfl, k5⟩
        have hlR := hid (hll.out X PP)
        have hfin : Hd (ClmP (climbR H n i (ds' ++ [PP]).reverse) (.returned (.tuple #[Dg (innerD X PP), .bool q.2]))) := ⟨by
          rw [hv.out]; exact ⟨_, rfl, innerD_length _ _, fun h => by rw [hXq.out h]⟩⟩
        generalize innerD X PP = RR at hlR hfin ⊢
        have gZ5 := hid (k5.blk gZ4.out)
        have g6 := hid (setRow_heap W5 (w.heap.size + 1) _ (RR.map B).toArray _ _ gZ5.out)
        have K6 := hid ((K4.out.trans' k5).setRow (g := w.heap.size + 1) (.inr (Nat.le_succ _)) (RR.map B).toArray)
        clear k5 K4 gZ4 gP4 g4
        have hZ2 := hid Z32_size
        go_wp2_with (with_reducible refine sd rfl _ _ rfl (w.heap.size + 1) rfl RR rfl _ gZ5.out hZ2.out hlR.out ?_)
        
        refine bodyPost_ret (v := .tuple #[Dg RR, .bool q.2]) ?_ rfl ?_
        · exact results_dg_tmp rfl _ _ (w.heap.size + 1) RR _ rfl rfl g6.out hlR.out
        · exact ⟨hfin.out, K6.out⟩
      · have hlt : ¬ I < (K : Int) := by omega
        have hge : (K : Int) ≤ I := by omega
        rw [if_neg hik] at hv
        obtain ⟨I2, hI2⟩ : ∃ I2 : Nat, i - K = I2 := ⟨_, rfl⟩
        obtain ⟨N2, hN2⟩ : ∃ N2 : Nat, n - K = N2 := ⟨_, rfl⟩
        have s1 : I - (K : Int) = (I2 : Int) := by omega
        have s2 : IntKind.i64.wrap (I2 : Int) = (I2 : Int) := IntWalk.i64_in _ (by omega)
        have s3 : (n : Int) - (K : Int) = (N2 : Int) := by omega
        have s4 : IntKind.i64.wrap (N2 : Int) = (N2 : Int) := IntWalk.i64_in _ (by omega)
        have IHP := hid (fun W h t => hIH.out (n - K) (i - K) W (by omega) (by omega) h t)
        rw [hI2, hN2] at IHP
        rw [hI2, hN2] at hv
        generalize climbR H N2 I2 ds'.reverse = q at IHP hv
        clear hIH hI hik hI2 hN2
        go_enter Tryd.func69, Tryd.ntmps69
        go_upto_region 1 with fail
        obtain ⟨w1, hw1, g0, g1, k1⟩ := two_dg w H
        rw [hH.out] at hw1
        unfold Z32 at hw1
        rw [← hw1]
        clear hw1
        replace g0 := hid g0
        replace g1 := hid g1
        replace k1 := hid k1
        have hZ := hid Z32_size
        go_upto_region 5 with fail
        have hrP := hid (k1.out.drew.rng hrP0.out)
        refine wp_region_held_drew (S := fun w' => w'.rangeAt b (o + m * 32) (PP.map B)) (by kernel_rfl) hrP.out (fun _ => ?_)
        generalize hwd : w1.drew = W0 at hrP ⊢
        have kd : Hd (Kept no w1 W0) := ⟨by rw [← hwd]; exact (Kept.refl no w1).drew⟩
        clear hwd
        refine take2 0 (some 27) (.slice (some ⟨b, o, none⟩) L1 cap) rfl rfl (by kernel_rfl) (by kernel_rfl) (by kernel_rfl) (fun _ _ _ h => h) (Or.inl ⟨by rfl, fun w hSw => ?_⟩) hrP.out ?_
        · first | rfl | go_simp
        try simp only [Act.put, List.setIfInBounds_toArray, List.set_cons_zero, List.set_cons_succ]
        refine take2 1 (some 28) (.slice (some ⟨b, o, none⟩) L1 cap) rfl rfl (by kernel_rfl) (by kernel_rfl) (by kernel_rfl) (fun _ _ _ h => h) (Or.inl ⟨by rfl, fun w hSw => ?_⟩) hrP.out ?_
        · first | rfl | go_simp
        try simp only [Act.put, List.setIfInBounds_toArray, List.set_cons_zero, List.set_cons_succ]
        refine take2 2 (some 29) (.int .i64 (L1 : Int)) rfl rfl (by kernel_rfl) (by kernel_rfl) (by kernel_rfl) (fun _ _ _ h => h) (Or.inl ⟨by rfl, fun w hSw => ?_⟩) hrP.out ?_
        · first | rfl | go_simp
        try simp only [Act.put, List.setIfInBounds_toArray, List.set_cons_zero, List.set_cons_succ]
        refine take2 3 (some 30) (.int .i64 (m : Int)) rfl rfl (by kernel_rfl) (by kernel_rfl) (by kernel_rfl) (fun _ _ _ h => h) (Or.inl ⟨by rfl, fun w hSw => ?_⟩) hrP.out ?_
        · first | rfl | go_simp
        try simp only [Act.put, List.setIfInBounds_toArray, List.set_cons_zero, List.set_cons_succ]
        refine take2 4 (some 31) (.pointer (some ⟨b, o + m * 32, none⟩)) rfl rfl (by kernel_rfl) (by kernel_rfl) (by kernel_rfl) (fun _ _ _ h => h) (Or.inl ⟨by rfl, fun w hSw => ?_⟩) hrP.out ?_
        · first | rfl | go_simp
        try simp only [Act.put, List.setIfInBounds_toArray, List.set_cons_zero, List.set_cons_succ]
        refine take2 5 (some 32) (Dg PP) rfl rfl (by kernel_rfl) (by kernel_rfl) (by kernel_rfl) (fun _ _ _ h => h) (yieldsIf_load_mid (by rfl) 26 (.tmp 31) rfl b (o + m * 32) rfl (PP.map B) _ (fun w h => h) Tryd.underlying26 rfl (infDl hP.out)) hrP.out ?_
        try simp only [Act.put, List.setIfInBounds_toArray, List.set_cons_zero, List.set_cons_succ]
        refine take2 6 (some 33) (.slice (some ⟨b, o, none⟩) L1 cap) rfl rfl (by kernel_rfl) (by kernel_rfl) (by kernel_rfl) (fun _ _ _ h => h) (Or.inl ⟨by rfl, fun w hSw => ?_⟩) hrP.out ?_
        · first | rfl | go_simp
        try simp only [Act.put, List.setIfInBounds_toArray, List.set_cons_zero, List.set_cons_succ]
        refine take2 7 (some 34) (.slice (some ⟨b, o, none⟩) L1 cap) rfl rfl (by kernel_rfl) (by kernel_rfl) (by kernel_rfl) (fun _ _ _ h => h) (Or.inl ⟨by rfl, fun w hSw => ?_⟩) hrP.out ?_
        · first | rfl | go_simp
        try simp only [Act.put, List.setIfInBounds_toArray, List.set_cons_zero, List.set_cons_succ]
        refine take2 8 (some 35) (.int .i64 (L1 : Int)) rfl rfl (by kernel_rfl) (by kernel_rfl) (by kernel_rfl) (fun _ _ _ h => h) (Or.inl ⟨by rfl, fun w hSw => ?_⟩) hrP.out ?_
        · first | rfl | go_simp
        try simp only [Act.put, List.setIfInBounds_toArray, List.set_cons_zero, List.set_cons_succ]
        refine take2 9 (some 36) (.int .i64 (m : Int)) rfl rfl (by kernel_rfl) (by kernel_rfl) (by kernel_rfl) (fun _ _ _ h => h) (Or.inl ⟨by rfl, fun w hSw => ?_⟩) hrP.out ?_
        · first | rfl | go_simp
        try simp only [Act.put, List.setIfInBounds_toArray, List.set_cons_zero, List.set_cons_succ]
        refine take2 10 (some 37) (.slice (some ⟨b, o, none⟩) m cap) rfl rfl (by kernel_rfl) (by kernel_rfl) (by kernel_rfl) (fun _ _ _ h => h) (Or.inl ⟨by rfl, fun w hSw => ?_⟩) hrP.out ?_
        · first | rfl | go_simp
        try simp only [Act.put, List.setIfInBounds_toArray, List.set_cons_zero, List.set_cons_succ]
        refine wpAnyH_ready (rs := [11]) (by kernel_rfl) (by simp) ?_
        refine AllReadyH.cons rfl (fun K hK => ?_) AllReadyH.nil
        go_simp
        refine hK.out _ _ (((Kept.refl no W0).alloc _).rng hrP.out) (fun _ => ?_)
        clear hK K
        try simp only [Act.put, List.setIfInBounds_toArray, List.set_cons_zero, List.set_cons_succ]
        have e1 := hid (heap_alloc_new W0 (.cells Z32 26))
        have q1 := hid ((Kept.refl no W0).alloc (.cells Z32 26))
        unfold Z32 at e1 q1
        generalize hgp : W0.heap.size = gp at e1 ⊢
        have hgp' : Hd (w1.heap.size ≤ gp) := ⟨by rw [← hgp]; exact kd.out.size⟩
        have q0 : Hd (W0.heap.size ≤ gp) := ⟨by rw [hgp]; exact Nat.le_refl _⟩
        clear hgp
        generalize W0.alloc _ = W1 at e1 q1 ⊢
        refine wpAnyH_ready (rs := [12]) (by kernel_rfl) (by simp) ?_
        refine AllReadyH.cons rfl (fun K hK => ?_) AllReadyH.nil
        rw [if_pos (by rfl)]
        refine wp_store_row 26 _ _ rfl gp (PP.map B).toArray rfl rfl 26 _ e1.out (infD hP.out) (Dg_cells hP.out).symm (oneD PP) ?_
        have e2 := hid (setRow_heap W1 gp _ (PP.map B).toArray _ _ e1.out)
        have k2 := hid ((kd.out.trans' q1.out).setRow (g := gp) (.inr hgp'.out) (PP.map B).toArray)
        have s2 := hid ((q1.out.setRow (g := gp) (.inr q0.out) (PP.map B).toArray).rng hrP.out)
        refine hK.out _ _ s2.out (fun _ => ?_)
        clear hK K
        try simp only [Act.put]
        generalize W1.setRow gp _ = W2 at e2 k2 s2 ⊢
        clear hrP kd e1 q1 q0
        refine take2 13 (some 11) (.slice (some ⟨b, o, none⟩) m cap) rfl rfl (by kernel_rfl) (by kernel_rfl) (by kernel_rfl) (fun _ _ _ h => h) (Or.inl ⟨by rfl, fun w hSw => ?_⟩) s2.out ?_
        · first | rfl | go_simp
        try simp only [Act.put, List.setIfInBounds_toArray]
        refine wpAnyH_done (by kernel_rfl) ?_ _
        clear s2
        have K2 := hid (k1.out.trans' k2.out)
        have gH := hid (k2.out.blk g0.out)
        have gZ := hid (k2.out.blk g1.out)
        clear g0 g1 k1 k2
        go_upto_region 10 with (refine (HH.out _).mono ?_; rintro ed w' ⟨rfl, rfl⟩)
        go_wp2_with (with_reducible refine ld rfl _ rfl w.heap.size rfl H gH.out hHl.out ?_)
        refine (IHP.out W2 (hrd'.out.kept K2.out) (hT.out.kept K2.out)).mono ?_
        rintro ed W3 ⟨⟨X, rfl, hX, hXq⟩, k3⟩
        have hN := hid (heap_alloc_new W3 (.cells Z32 26))
        obtain ⟨W4, hw4, g4, k4⟩ := dg_block W3 X
        have k34 := k3.trans' k4
        have K4 := hid (K2.out.trans' k34)
        have gZ4 := hid (k34.blk gZ.out)
        have gP4 := hid (k34.blk e2.out)
        unfold Z32 at hN hw4
        unfold Z32 at hZ
        replace hw4 := hid hw4
        replace g4 := hid g4
        generalize hgs : W3.heap.size = gs at hN hw4 g4
        replace hgs := hid hgs
        replace hX := hid hX
        replace hXq := hid hXq
        clear k3 k4 k34 gH gZ e2 K2
        go_upto_region 11 with (with_reducible refine sd rfl _ _ rfl W3.heap.size rfl X rfl _ (by rw [hgs.out]; exact hN.out) hZ.out hX.out ?_; rw [hgs.out, ← hw4.out])
        clear hN hw4 hgs
        go_wp2_with (first | (with_reducible refine ld rfl _ rfl gp rfl PP gP4.out hP.out ?_) | (with_reducible refine ld rfl _ rfl gs rfl X g4.out hX.out ?_))
        refine (node_any PP X W4 hP.out hX.out (hT.out.kept K4.out)).mono ?_
        rintro ed W5 ⟨rfl, k5⟩
        have hlR := hid (hll.out PP X)
        have hfin : Hd (ClmP (climbR H n i (ds' ++ [PP]).reverse) (.returned (.tuple #[Dg (innerD PP X), .bool q.2]))) := ⟨by
          rw [hv.out]; exact ⟨_, rfl, innerD_length _ _, fun h => by rw [hXq.out h]⟩⟩
        generalize innerD PP X = RR at hlR hfin ⊢
        have gZ5 := hid (k5.blk gZ4.out)
        have g6 := hid (setRow_heap W5 (w.heap.size + 1) _ (RR.map B).toArray _ _ gZ5.out)
        have K6 := hid ((K4.out.trans' k5).setRow (g := w.heap.size + 1) (.inr (Nat.le_succ _)) (RR.map B).toArray)
        clear k5 K4 gZ4 gP4 g4
        have hZ2 := hid Z32_size
        go_wp2_with (with_reducible refine sd rfl _ _ rfl (w.heap.size + 1) rfl RR rfl _ gZ5.out hZ2.out hlR.out ?_)
        
        refine bodyPost_ret (v := .tuple #[Dg RR, .bool q.2]) ?_ rfl ?_
        · exact results_dg_tmp rfl _ _ (w.heap.size + 1) RR _ rfl rfl g6.out hlR.out
        · exact ⟨hfin.out, K6.out⟩
end Go.Proofs.YtknbkhmpnanegaaDoor
