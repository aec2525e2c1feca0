/- ScatterPlaces: the walk (printed by gen_scat3.py). -/
import Derived.Test.YtobihnkmmlkccaaDoorScat2
import Derived.Test.YtobihnkmmlkccaaDoorFlow2
namespace Go.Proofs.YtobihnkmmlkccaaDoor
open Go.RowKit Go.Mk Go.Bit Go.Sha Go.Rnd
section
variable {Sl : Nat → Nat → Prop}
def PlS (l : List Nat) : Pr Sl := soft (fun v w => Rd w 1 v l.length (l.map I)) fun _ _ _ h k => h.keptNo k
end
set_option maxRecDepth 20000 in
set_option maxHeartbeats 4000000 in
theorem scatterplaces_any (s : ByteArray) (hs : s.size ≤ 9223372036854775807) (a b n : Int) (w : World) (hT : Tab w) (hR : TabR w) :
    Calls Tryd.prog 3 #[.agg #[.string s, .int .i64 a, .int .i64 b, .int .i64 n]] w fun e w' => e = .returned (.bool true) ∧ Kept no w w' := by
  obtain ⟨g, hg⟩ : ∃ g, w.heap.size = g := ⟨_, rfl⟩
  obtain ⟨w0, hw0⟩ : ∃ w0, w0 = w.alloc (.cells #[.string s, .int .i64 a, .int .i64 b, .int .i64 n] 23) := ⟨_, rfl⟩
  have g0 : w0.heap[g]? = some (.cells #[.string s, .int .i64 a, .int .i64 b, .int .i64 n] 23 (0, 0)) := by rw [hw0, ← hg]; exact heap_alloc_new _ _
  have k0 : Hd (Kept no w w0) := ⟨by rw [hw0]; exact (Kept.refl no w).alloc _⟩
  have z0 : Hd (w0.cell? ⟨g, 0, none⟩ = some (.string s)) := ⟨by rw [cell_of_row w0 _ 0 _ _ _ g0]; rfl⟩
  have z1 : Hd (w0.cell? ⟨g, 1, none⟩ = some (.int .i64 a)) := ⟨by rw [cell_of_row w0 _ 1 _ _ _ g0]; rfl⟩
  have z2 : Hd (w0.cell? ⟨g, 2, none⟩ = some (.int .i64 b)) := ⟨by rw [cell_of_row w0 _ 2 _ _ _ g0]; rfl⟩
  have z3 : Hd (w0.cell? ⟨g, 3, none⟩ = some (.int .i64 n)) := ⟨by rw [cell_of_row w0 _ 3 _ _ _ g0]; rfl⟩
  replace hT := hid (hT.kept k0.out)
  replace hR := hid (hR.kept k0.out)
  replace hg := hid hg
  replace hw0 := hid hw0
  clear g0
  have hq : (if 20 < (s.size : Int) then (20 : Int) else (s.size : Int)) = ((min s.size 20 : Nat) : Int) := by split <;> omega
  have hqn : (if 20 < s.size then (20 : Int) else (s.size : Int)) = ((min s.size 20 : Nat) : Int) := by split <;> omega
  have hqc : ((min s.size 20 : Nat) : Int) ≤ (s.size : Int) := by omega
  have hq0 : (0 : Int) ≤ ((min s.size 20 : Nat) : Int) := by omega
  have hq20 : min s.size 20 ≤ 20 := by omega
  generalize min s.size 20 = q at hq hqn hqc hq0 hq20
  obtain ⟨t, ht⟩ : ∃ t, s.extract 0 q = t := ⟨_, rfl⟩
  have htz : t.size ≤ 1000 := by rw [← ht]; exact cut20 s q hq20
  go_enter Tryd.func3, Tryd.ntmps3
  go_upto_region 1 with fail
  rw [← hw0.out, hg.out]
  refine region_flow (S := no) (Sl := (fun _ => no)) [Is (.pointer (some ⟨g, 0, none⟩)), Is (.string s), Is (.pointer (some ⟨g, 0, none⟩)), Is (.string s), Is (.int .i64 (s.size : Int)), Is (.int .i64 (q : Int)), Is (.string t), Is (.pointer (some ⟨g, 1, none⟩)), Is (.int .i64 a), Is (.pointer (some ⟨g, 2, none⟩)), Is (.int .i64 b), Is (.pointer (some ⟨g, 3, none⟩)), Is (.int .i64 n), Is (.string t), Is (.int .i64 a), Is (.int .i64 b), Is (.int .i64 n)] [] (fun _ _ h => h) _ (by kernel_rfl) (by kernel_rfl) (by kernel_rfl) (by kernel_rfl) (fun x => by simp only [puts, Act.put, List.map_cons, List.map_nil, Nat.zero_add, Nat.reduceAdd, List.setIfInBounds_toArray, List.set_cons_zero, List.set_cons_succ]; exact rfl) ?_ ?_
  · skip
    refine Steps.cons (fun x wf Kk hq hdep hold => ?_) ?_
    · try dsimp only
      clear hq hdep hold
      rw [if_pos (by rfl)]
      refine OpY.val (v := (.pointer (some ⟨g, 0, none⟩))) ?_ ⟨Kept.refl _ _, rfl⟩
      first | rfl | go_simp
    refine Steps.cons (fun x wf Kk hq hdep hold => ?_) ?_
    · try dsimp only
      have h0 : x 0 = (.pointer (some ⟨g, 0, none⟩)) := hdep 0 (by kernel_rfl)
      clear hq hdep hold
      simp only [h0]
      clear h0
      have c0 := Kk.undrew.cell z0.out id
      rw [if_pos (by rfl)]
      refine OpY.val (v := (.string s)) ?_ ⟨Kept.refl _ _, rfl⟩
      first | rfl | go_simp
    refine Steps.cons (fun x wf Kk hq hdep hold => ?_) ?_
    · try dsimp only
      clear hq hdep hold
      rw [if_pos (by rfl)]
      refine OpY.val (v := (.pointer (some ⟨g, 0, none⟩))) ?_ ⟨Kept.refl _ _, rfl⟩
      first | rfl | go_simp
    refine Steps.cons (fun x wf Kk hq hdep hold => ?_) ?_
    · try dsimp only
      have h2 : x 2 = (.pointer (some ⟨g, 0, none⟩)) := hdep 2 (by kernel_rfl)
      clear hq hdep hold
      simp only [h2]
      clear h2
      have c0 := Kk.undrew.cell z0.out id
      rw [if_pos (by rfl)]
      refine OpY.val (v := (.string s)) ?_ ⟨Kept.refl _ _, rfl⟩
      first | rfl | go_simp
    refine Steps.cons (fun x wf Kk hq hdep hold => ?_) ?_
    · try dsimp only
      have h3 : x 3 = (.string s) := hdep 3 (by kernel_rfl)
      clear hq hdep hold
      simp only [h3]
      clear h3
      rw [if_pos (by rfl)]
      refine OpY.val (v := (.int .i64 (s.size : Int))) ?_ ⟨Kept.refl _ _, rfl⟩
      first | rfl | go_simp
    refine Steps.cons (fun x wf Kk hq hdep hold => ?_) ?_
    · try dsimp only
      have h4 : x 4 = (.int .i64 (s.size : Int)) := hdep 4 (by kernel_rfl)
      clear hq hdep hold
      simp only [h4]
      clear h4
      rw [if_pos (by rfl)]
      refine OpY.val (v := (.int .i64 (q : Int))) ?_ ⟨Kept.refl _ _, rfl⟩
      first | rfl | go_simp
    refine Steps.cons (fun x wf Kk hq hdep hold => ?_) ?_
    · try dsimp only
      have h1 : x 1 = (.string s) := hdep 1 (by kernel_rfl)
      have h5 : x 5 = (.int .i64 (q : Int)) := hdep 5 (by kernel_rfl)
      clear hq hdep hold
      simp only [h1, h5]
      clear h1 h5
      rw [if_pos (by rfl)]
      rw [← ht]
      refine OpY.val (v := (.string (s.extract 0 q))) ?_ ⟨Kept.refl _ _, rfl⟩
      first | rfl | go_simp
    refine Steps.cons (fun x wf Kk hq hdep hold => ?_) ?_
    · try dsimp only
      clear hq hdep hold
      rw [if_pos (by rfl)]
      refine OpY.val (v := (.pointer (some ⟨g, 1, none⟩))) ?_ ⟨Kept.refl _ _, rfl⟩
      first | rfl | go_simp
    refine Steps.cons (fun x wf Kk hq hdep hold => ?_) ?_
    · try dsimp only
      have h7 : x 7 = (.pointer (some ⟨g, 1, none⟩)) := hdep 7 (by kernel_rfl)
      clear hq hdep hold
      simp only [h7]
      clear h7
      have c1 := Kk.undrew.cell z1.out id
      rw [if_pos (by rfl)]
      refine OpY.val (v := (.int .i64 a)) ?_ ⟨Kept.refl _ _, rfl⟩
      first | rfl | go_simp
    refine Steps.cons (fun x wf Kk hq hdep hold => ?_) ?_
    · try dsimp only
      clear hq hdep hold
      rw [if_pos (by rfl)]
      refine OpY.val (v := (.pointer (some ⟨g, 2, none⟩))) ?_ ⟨Kept.refl _ _, rfl⟩
      first | rfl | go_simp
    refine Steps.cons (fun x wf Kk hq hdep hold => ?_) ?_
    · try dsimp only
      have h9 : x 9 = (.pointer (some ⟨g, 2, none⟩)) := hdep 9 (by kernel_rfl)
      clear hq hdep hold
      simp only [h9]
      clear h9
      have c2 := Kk.undrew.cell z2.out id
      rw [if_pos (by rfl)]
      refine OpY.val (v := (.int .i64 b)) ?_ ⟨Kept.refl _ _, rfl⟩
      first | rfl | go_simp
    refine Steps.cons (fun x wf Kk hq hdep hold => ?_) ?_
    · try dsimp only
      clear hq hdep hold
      rw [if_pos (by rfl)]
      refine OpY.val (v := (.pointer (some ⟨g, 3, none⟩))) ?_ ⟨Kept.refl _ _, rfl⟩
      first | rfl | go_simp
    refine Steps.cons (fun x wf Kk hq hdep hold => ?_) ?_
    · try dsimp only
      have h11 : x 11 = (.pointer (some ⟨g, 3, none⟩)) := hdep 11 (by kernel_rfl)
      clear hq hdep hold
      simp only [h11]
      clear h11
      have c3 := Kk.undrew.cell z3.out id
      rw [if_pos (by rfl)]
      refine OpY.val (v := (.int .i64 n)) ?_ ⟨Kept.refl _ _, rfl⟩
      first | rfl | go_simp
    refine Steps.cons (fun x wf Kk hq hdep hold => ?_) ?_
    · try dsimp only
      have h6 : x 6 = (.string t) := hdep 6 (by kernel_rfl)
      clear hq hdep hold
      simp only [h6]
      clear h6
      rw [if_pos (by rfl)]
      refine OpY.val (v := (.string t)) ?_ ⟨Kept.refl _ _, rfl⟩
      first | rfl | go_simp
    refine Steps.cons (fun x wf Kk hq hdep hold => ?_) ?_
    · try dsimp only
      have h8 : x 8 = (.int .i64 a) := hdep 8 (by kernel_rfl)
      clear hq hdep hold
      simp only [h8]
      clear h8
      rw [if_pos (by rfl)]
      refine OpY.val (v := (.int .i64 a)) ?_ ⟨Kept.refl _ _, rfl⟩
      first | rfl | go_simp
    refine Steps.cons (fun x wf Kk hq hdep hold => ?_) ?_
    · try dsimp only
      have h10 : x 10 = (.int .i64 b) := hdep 10 (by kernel_rfl)
      clear hq hdep hold
      simp only [h10]
      clear h10
      rw [if_pos (by rfl)]
      refine OpY.val (v := (.int .i64 b)) ?_ ⟨Kept.refl _ _, rfl⟩
      first | rfl | go_simp
    refine Steps.cons (fun x wf Kk hq hdep hold => ?_) ?_
    · try dsimp only
      have h12 : x 12 = (.int .i64 n) := hdep 12 (by kernel_rfl)
      clear hq hdep hold
      simp only [h12]
      clear h12
      rw [if_pos (by rfl)]
      refine OpY.val (v := (.int .i64 n)) ?_ ⟨Kept.refl _ _, rfl⟩
      first | rfl | go_simp
    exact Steps.nil _
  · intro x wf Kk hv
    try dsimp only
    have h0 : x 0 = (.pointer (some ⟨g, 0, none⟩)) := hv 0 (by kernel_rfl)
    have h1 : x 1 = (.string s) := hv 1 (by kernel_rfl)
    have h2 : x 2 = (.pointer (some ⟨g, 0, none⟩)) := hv 2 (by kernel_rfl)
    have h3 : x 3 = (.string s) := hv 3 (by kernel_rfl)
    have h4 : x 4 = (.int .i64 (s.size : Int)) := hv 4 (by kernel_rfl)
    have h5 : x 5 = (.int .i64 (q : Int)) := hv 5 (by kernel_rfl)
    have h6 : x 6 = (.string t) := hv 6 (by kernel_rfl)
    have h7 : x 7 = (.pointer (some ⟨g, 1, none⟩)) := hv 7 (by kernel_rfl)
    have h8 : x 8 = (.int .i64 a) := hv 8 (by kernel_rfl)
    have h9 : x 9 = (.pointer (some ⟨g, 2, none⟩)) := hv 9 (by kernel_rfl)
    have h10 : x 10 = (.int .i64 b) := hv 10 (by kernel_rfl)
    have h11 : x 11 = (.pointer (some ⟨g, 3, none⟩)) := hv 11 (by kernel_rfl)
    have h12 : x 12 = (.int .i64 n) := hv 12 (by kernel_rfl)
    have h13 : x 13 = (.string t) := hv 13 (by kernel_rfl)
    have h14 : x 14 = (.int .i64 a) := hv 14 (by kernel_rfl)
    have h15 : x 15 = (.int .i64 b) := hv 15 (by kernel_rfl)
    have h16 : x 16 = (.int .i64 n) := hv 16 (by kernel_rfl)
    clear hv
    simp only [h0, h1, h2, h3, h4, h5, h6, h7, h8, h9, h10, h11, h12, h13, h14, h15, h16]
    clear h0 h1 h2 h3 h4 h5 h6 h7 h8 h9 h10 h11 h12 h13 h14 h15 h16
    have K0 := hid (k0.out.trans' Kk.undrew)
    have T1 := hid (hT.out.kept Kk.undrew)
    have R1 := hid (hR.out.kept Kk.undrew)
    clear Kk z0 z1 z2 z3 hT hR hq hqn hqc hq0 hq20 ht
    have HP := hid (fun W (h : Tab W) => places_any t a b n W htz h)
    have HQ := hid (fun W (h : TabR W) => refplaces_any t a b n W htz h)
    obtain ⟨l, hl⟩ : ∃ l, placesL t a b n = l := ⟨_, rfl⟩
    have hl16 : l.length ≤ 16 := by
      rw [← hl]; unfold placesL; split
      · rename_i h; unfold okPl at h; rw [perm_length]; omega
      · simp
    rw [hl] at HP HQ
    clear hl
    have HA := hid (awake17_any wf T1.out)
    go_wp2_with fail
    refine HA.out.mono ?_
    rintro e w1 ⟨rfl, k1⟩
    replace K0 := hid (K0.out.trans' k1)
    have H1 := hid (HP.out w1 (T1.out.kept k1))
    replace R1 := hid (R1.out.kept k1)
    clear HA HP T1 k1
    go_wp2_with fail
    refine H1.out.mono ?_
    rintro e w2 ⟨v2, rfl, r2, k2⟩
    replace K0 := hid (K0.out.trans' k2)
    have H2 := hid (HQ.out w2 (R1.out.kept k2))
    replace r2 := hid r2
    clear H1 HQ R1 k2
    go_wp2_with fail
    refine H2.out.mono ?_
    rintro e w3 ⟨v3, rfl, r3, k3⟩
    replace K0 := hid (K0.out.trans' k3)
    have H3 := hid (eqi_any v2 v3 l l w3 (by omega) (by omega) (r2.out.keptNo k3) r3)
    clear H2 r2 r3 k3
    go_wp2_with fail
    refine H3.out.mono ?_
    rintro e w4 ⟨rfl, dq, hdq⟩
    replace K0 := hid (K0.out.drewN dq)
    rw [← hdq] at K0
    clear hdq H3
    simp only [decide_true]
    go_wp2
    go_ret
    exact ⟨rfl, K0.out⟩
end Go.Proofs.YtobihnkmmlkccaaDoor
