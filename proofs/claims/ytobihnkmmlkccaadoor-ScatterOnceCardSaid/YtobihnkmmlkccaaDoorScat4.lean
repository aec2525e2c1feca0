/- ScatterOnce: the walk (printed by gen_scat4.py). -/
import Derived.Test.YtobihnkmmlkccaaDoorSeen17
import Derived.Test.YtobihnkmmlkccaaDoorFlow2
namespace Go.Proofs.YtobihnkmmlkccaaDoor
open Go.RowKit Go.Mk Go.Bit Go.Sha Go.Rnd
def m6 (n : Int) : Nat := (n % 6).toNat
def m16 (n : Int) : Nat := (n % 16).toNat
theorem m6_of (n : Int) : (n.tmod 6 + 6) % 6 = (m6 n : Int) := by unfold m6; rw [Int.tmod_eq_emod]; split <;> omega
theorem m16_of (n : Int) : (n.tmod 16 + 16) % 16 = (m16 n : Int) := by unfold m16; rw [Int.tmod_eq_emod]; split <;> omega
theorem m6_lt (n : Int) : m6 n < 6 := by unfold m6; omega
theorem m16_lt (n : Int) : m16 n < 16 := by unfold m16; omega
set_option maxRecDepth 20000 in
set_option maxHeartbeats 4000000 in
theorem scatteronce_any (s : ByteArray) (hs : s.size ≤ 9223372036854775807) (a b n : Int) (w : World) (hT : Tab w) :
    Calls Tryd.prog 4 #[.agg #[.string s, .int .i64 a, .int .i64 b, .int .i64 n]] w fun e w' => e = .returned (.bool true) ∧ Kept no w w' := by
  obtain ⟨g, hg⟩ : ∃ g, w.heap.size = g := ⟨_, rfl⟩
  obtain ⟨w0, hw0⟩ : ∃ w0, w0 = w.alloc (.cells #[.string s, .int .i64 a, .int .i64 b, .int .i64 n] 23) := ⟨_, rfl⟩
  have g0 : w0.heap[g]? = some (.cells #[.string s, .int .i64 a, .int .i64 b, .int .i64 n] 23 (0, 0)) := by rw [hw0, ← hg]; exact heap_alloc_new _ _
  have k0 : Hd (Kept no w w0) := ⟨by rw [hw0]; exact (Kept.refl no w).alloc _⟩
  have z0 : w0.cell? ⟨g, 0, none⟩ = some (.string s) := by rw [cell_of_row w0 _ 0 _ _ _ g0]; rfl
  have z1 : Hd (w0.cell? ⟨g, 1, none⟩ = some (.int .i64 a)) := ⟨by rw [cell_of_row w0 _ 1 _ _ _ g0]; rfl⟩
  have z2 : Hd (w0.cell? ⟨g, 2, none⟩ = some (.int .i64 b)) := ⟨by rw [cell_of_row w0 _ 2 _ _ _ g0]; rfl⟩
  have z3 : Hd (w0.cell? ⟨g, 3, none⟩ = some (.int .i64 n)) := ⟨by rw [cell_of_row w0 _ 3 _ _ _ g0]; rfl⟩
  replace hT := hid (hT.kept k0.out)
  replace hg := hid hg
  replace hw0 := hid hw0
  clear g0
  have hq : (if 20 < (s.size : Int) then (20 : Int) else (s.size : Int)) = ((min s.size 20 : Nat) : Int) := by split <;> omega
  have hqn : (if 20 < s.size then (20 : Int) else (s.size : Int)) = ((min s.size 20 : Nat) : Int) := by split <;> omega
  have hqc : ((min s.size 20 : Nat) : Int) ≤ (s.size : Int) := by omega
  have hq0 : (0 : Int) ≤ ((min s.size 20 : Nat) : Int) := by omega
  have hq20 : min s.size 20 ≤ 20 := by omega
  generalize min s.size 20 = q at hq hqn hqc hq0 hq20
  obtain ⟨t, ht⟩ : ∃ t, s.extract 0 q = t := ⟨_, rfl⟩
  have htz : t.size ≤ 1000 := by rw [← ht]; exact cut20 s q hq20
  replace ht := hid ht
  go_enter Tryd.func4, Tryd.ntmps4
  go_upto_region 1 with fail
  rw [← hw0.out, hg.out]
  go_upto_region 2 with fail
  rw [ht.out]
  clear hq hqn hqc hq0 hq20 ht z0
  have ha := m6_of a
  have hb := m16_of b
  have hn := m16_of n
  have ha2 := m6_lt a
  have hb2 := m16_lt b
  have hn2 := m16_lt n
  have a1 : a.tmod 6 ≤ 5 := by have := Int.tmod_lt_of_pos a (show (0 : Int) < 6 by decide); omega
  have a2 : -5 ≤ a.tmod 6 := by have := Int.lt_tmod_of_pos a (show (0 : Int) < 6 by decide); omega
  have b1 : b.tmod 16 ≤ 15 := by have := Int.tmod_lt_of_pos b (show (0 : Int) < 16 by decide); omega
  have b2 : -15 ≤ b.tmod 16 := by have := Int.lt_tmod_of_pos b (show (0 : Int) < 16 by decide); omega
  have n1 : n.tmod 16 ≤ 15 := by have := Int.tmod_lt_of_pos n (show (0 : Int) < 16 by decide); omega
  have n2 : -15 ≤ n.tmod 16 := by have := Int.lt_tmod_of_pos n (show (0 : Int) < 16 by decide); omega
  generalize m6 a = A at ha ha2
  generalize m16 b = Bq at hb hb2
  generalize m16 n = N at hn hn2
  refine region_flow (S := no) (Sl := (fun _ => no)) [Is (.pointer (some ⟨g, 1, none⟩)), Is (.int .i64 a), Is (.int .i64 (a.tmod 6)), Is (.int .i64 (a.tmod 6 + 6)), Is (.int .i64 (A : Int)), Is (.int .i64 (1 + (A : Int))), Is (.pointer (some ⟨g, 2, none⟩)), Is (.int .i64 b), Is (.int .i64 (b.tmod 16)), Is (.int .i64 (b.tmod 16 + 16)), Is (.int .i64 (Bq : Int)), Is (.int .i64 (1 + (Bq : Int))), Is (.pointer (some ⟨g, 3, none⟩)), Is (.int .i64 n), Is (.int .i64 (n.tmod 16)), Is (.int .i64 (n.tmod 16 + 16)), Is (.int .i64 (N : Int)), Is (.int .i64 (1 + (N : Int))), Is (.int .i64 (1 + (A : Int))), Is (.int .i64 (1 + (Bq : Int))), Is (.int .i64 (1 + (N : Int)))] [] (fun _ _ h => h) _ (by kernel_rfl) (by kernel_rfl) (by kernel_rfl) (by kernel_rfl) (fun x => by simp only [puts, Act.put, List.map_cons, List.map_nil, Nat.zero_add, Nat.reduceAdd, List.setIfInBounds_toArray, List.set_cons_zero, List.set_cons_succ]; exact rfl) ?_ ?_
  · skip
    refine Steps.cons (fun x wf Kk hq hdep hold => ?_) ?_
    · try dsimp only
      clear hq hdep hold
      rw [if_pos (by rfl)]
      refine OpY.val (v := (.pointer (some ⟨g, 1, none⟩))) ?_ ⟨Kept.refl _ _, rfl⟩
      first | rfl | go_simp
    refine Steps.cons (fun x wf Kk hq hdep hold => ?_) ?_
    · try dsimp only
      have h0 : x 0 = (.pointer (some ⟨g, 1, none⟩)) := hdep 0 (by kernel_rfl)
      clear hq hdep hold
      simp only [h0]
      clear h0
      have c1 := Kk.undrew.cell z1.out id
      rw [if_pos (by rfl)]
      refine OpY.val (v := (.int .i64 a)) ?_ ⟨Kept.refl _ _, rfl⟩
      first | rfl | go_simp
    refine Steps.cons (fun x wf Kk hq hdep hold => ?_) ?_
    · try dsimp only
      have h1 : x 1 = (.int .i64 a) := hdep 1 (by kernel_rfl)
      clear hq hdep hold
      simp only [h1]
      clear h1
      rw [if_pos (by rfl)]
      refine OpY.val (v := (.int .i64 (a.tmod 6))) ?_ ⟨Kept.refl _ _, rfl⟩
      first | rfl | go_simp
    refine Steps.cons (fun x wf Kk hq hdep hold => ?_) ?_
    · try dsimp only
      have h2 : x 2 = (.int .i64 (a.tmod 6)) := hdep 2 (by kernel_rfl)
      clear hq hdep hold
      simp only [h2]
      clear h2
      rw [if_pos (by rfl)]
      refine OpY.val (v := (.int .i64 (a.tmod 6 + 6))) ?_ ⟨Kept.refl _ _, rfl⟩
      first | (go_simp; done) | (go_simp; exact IntWalk.i64_in _ (by omega))
    refine Steps.cons (fun x wf Kk hq hdep hold => ?_) ?_
    · try dsimp only
      have h3 : x 3 = (.int .i64 (a.tmod 6 + 6)) := hdep 3 (by kernel_rfl)
      clear hq hdep hold
      simp only [h3]
      clear h3
      rw [if_pos (by rfl)]
      refine OpY.val (v := (.int .i64 (A : Int))) ?_ ⟨Kept.refl _ _, rfl⟩
      first | (go_simp; done) | (go_simp; rw [Int.tmod_eq_emod_of_nonneg (by omega), ha])
    refine Steps.cons (fun x wf Kk hq hdep hold => ?_) ?_
    · try dsimp only
      have h4 : x 4 = (.int .i64 (A : Int)) := hdep 4 (by kernel_rfl)
      clear hq hdep hold
      simp only [h4]
      clear h4
      rw [if_pos (by rfl)]
      refine OpY.val (v := (.int .i64 (1 + (A : Int)))) ?_ ⟨Kept.refl _ _, rfl⟩
      first | (go_simp; done) | (go_simp; exact IntWalk.i64_in _ (by omega))
    refine Steps.cons (fun x wf Kk hq hdep hold => ?_) ?_
    · try dsimp only
      clear hq hdep hold
      rw [if_pos (by rfl)]
      refine OpY.val (v := (.pointer (some ⟨g, 2, none⟩))) ?_ ⟨Kept.refl _ _, rfl⟩
      first | rfl | go_simp
    refine Steps.cons (fun x wf Kk hq hdep hold => ?_) ?_
    · try dsimp only
      have h6 : x 6 = (.pointer (some ⟨g, 2, none⟩)) := hdep 6 (by kernel_rfl)
      clear hq hdep hold
      simp only [h6]
      clear h6
      have c2 := Kk.undrew.cell z2.out id
      rw [if_pos (by rfl)]
      refine OpY.val (v := (.int .i64 b)) ?_ ⟨Kept.refl _ _, rfl⟩
      first | rfl | go_simp
    refine Steps.cons (fun x wf Kk hq hdep hold => ?_) ?_
    · try dsimp only
      have h7 : x 7 = (.int .i64 b) := hdep 7 (by kernel_rfl)
      clear hq hdep hold
      simp only [h7]
      clear h7
      rw [if_pos (by rfl)]
      refine OpY.val (v := (.int .i64 (b.tmod 16))) ?_ ⟨Kept.refl _ _, rfl⟩
      first | rfl | go_simp
    refine Steps.cons (fun x wf Kk hq hdep hold => ?_) ?_
    · try dsimp only
      have h8 : x 8 = (.int .i64 (b.tmod 16)) := hdep 8 (by kernel_rfl)
      clear hq hdep hold
      simp only [h8]
      clear h8
      rw [if_pos (by rfl)]
      refine OpY.val (v := (.int .i64 (b.tmod 16 + 16))) ?_ ⟨Kept.refl _ _, rfl⟩
      first | (go_simp; done) | (go_simp; exact IntWalk.i64_in _ (by omega))
    refine Steps.cons (fun x wf Kk hq hdep hold => ?_) ?_
    · try dsimp only
      have h9 : x 9 = (.int .i64 (b.tmod 16 + 16)) := hdep 9 (by kernel_rfl)
      clear hq hdep hold
      simp only [h9]
      clear h9
      rw [if_pos (by rfl)]
      refine OpY.val (v := (.int .i64 (Bq : Int))) ?_ ⟨Kept.refl _ _, rfl⟩
      first | (go_simp; done) | (go_simp; rw [Int.tmod_eq_emod_of_nonneg (by omega), hb])
    refine Steps.cons (fun x wf Kk hq hdep hold => ?_) ?_
    · try dsimp only
      have h10 : x 10 = (.int .i64 (Bq : Int)) := hdep 10 (by kernel_rfl)
      clear hq hdep hold
      simp only [h10]
      clear h10
      rw [if_pos (by rfl)]
      refine OpY.val (v := (.int .i64 (1 + (Bq : Int)))) ?_ ⟨Kept.refl _ _, rfl⟩
      first | (go_simp; done) | (go_simp; exact IntWalk.i64_in _ (by omega))
    refine Steps.cons (fun x wf Kk hq hdep hold => ?_) ?_
    · try dsimp only
      clear hq hdep hold
      rw [if_pos (by rfl)]
      refine OpY.val (v := (.pointer (some ⟨g, 3, none⟩))) ?_ ⟨Kept.refl _ _, rfl⟩
      first | rfl | go_simp
    refine Steps.cons (fun x wf Kk hq hdep hold => ?_) ?_
    · try dsimp only
      have h12 : x 12 = (.pointer (some ⟨g, 3, none⟩)) := hdep 12 (by kernel_rfl)
      clear hq hdep hold
      simp only [h12]
      clear h12
      have c3 := Kk.undrew.cell z3.out id
      rw [if_pos (by rfl)]
      refine OpY.val (v := (.int .i64 n)) ?_ ⟨Kept.refl _ _, rfl⟩
      first | rfl | go_simp
    refine Steps.cons (fun x wf Kk hq hdep hold => ?_) ?_
    · try dsimp only
      have h13 : x 13 = (.int .i64 n) := hdep 13 (by kernel_rfl)
      clear hq hdep hold
      simp only [h13]
      clear h13
      rw [if_pos (by rfl)]
      refine OpY.val (v := (.int .i64 (n.tmod 16))) ?_ ⟨Kept.refl _ _, rfl⟩
      first | rfl | go_simp
    refine Steps.cons (fun x wf Kk hq hdep hold => ?_) ?_
    · try dsimp only
      have h14 : x 14 = (.int .i64 (n.tmod 16)) := hdep 14 (by kernel_rfl)
      clear hq hdep hold
      simp only [h14]
      clear h14
      rw [if_pos (by rfl)]
      refine OpY.val (v := (.int .i64 (n.tmod 16 + 16))) ?_ ⟨Kept.refl _ _, rfl⟩
      first | (go_simp; done) | (go_simp; exact IntWalk.i64_in _ (by omega))
    refine Steps.cons (fun x wf Kk hq hdep hold => ?_) ?_
    · try dsimp only
      have h15 : x 15 = (.int .i64 (n.tmod 16 + 16)) := hdep 15 (by kernel_rfl)
      clear hq hdep hold
      simp only [h15]
      clear h15
      rw [if_pos (by rfl)]
      refine OpY.val (v := (.int .i64 (N : Int))) ?_ ⟨Kept.refl _ _, rfl⟩
      first | (go_simp; done) | (go_simp; rw [Int.tmod_eq_emod_of_nonneg (by omega), hn])
    refine Steps.cons (fun x wf Kk hq hdep hold => ?_) ?_
    · try dsimp only
      have h16 : x 16 = (.int .i64 (N : Int)) := hdep 16 (by kernel_rfl)
      clear hq hdep hold
      simp only [h16]
      clear h16
      rw [if_pos (by rfl)]
      refine OpY.val (v := (.int .i64 (1 + (N : Int)))) ?_ ⟨Kept.refl _ _, rfl⟩
      first | (go_simp; done) | (go_simp; exact IntWalk.i64_in _ (by omega))
    refine Steps.cons (fun x wf Kk hq hdep hold => ?_) ?_
    · try dsimp only
      have h5 : x 5 = (.int .i64 (1 + (A : Int))) := hdep 5 (by kernel_rfl)
      clear hq hdep hold
      simp only [h5]
      clear h5
      rw [if_pos (by rfl)]
      refine OpY.val (v := (.int .i64 (1 + (A : Int)))) ?_ ⟨Kept.refl _ _, rfl⟩
      first | rfl | go_simp
    refine Steps.cons (fun x wf Kk hq hdep hold => ?_) ?_
    · try dsimp only
      have h11 : x 11 = (.int .i64 (1 + (Bq : Int))) := hdep 11 (by kernel_rfl)
      clear hq hdep hold
      simp only [h11]
      clear h11
      rw [if_pos (by rfl)]
      refine OpY.val (v := (.int .i64 (1 + (Bq : Int)))) ?_ ⟨Kept.refl _ _, rfl⟩
      first | rfl | go_simp
    refine Steps.cons (fun x wf Kk hq hdep hold => ?_) ?_
    · try dsimp only
      have h17 : x 17 = (.int .i64 (1 + (N : Int))) := hdep 17 (by kernel_rfl)
      clear hq hdep hold
      simp only [h17]
      clear h17
      rw [if_pos (by rfl)]
      refine OpY.val (v := (.int .i64 (1 + (N : Int)))) ?_ ⟨Kept.refl _ _, rfl⟩
      first | rfl | go_simp
    exact Steps.nil _
  · intro x wf Kk hv
    try dsimp only
    have h0 : x 0 = (.pointer (some ⟨g, 1, none⟩)) := hv 0 (by kernel_rfl)
    have h1 : x 1 = (.int .i64 a) := hv 1 (by kernel_rfl)
    have h2 : x 2 = (.int .i64 (a.tmod 6)) := hv 2 (by kernel_rfl)
    have h3 : x 3 = (.int .i64 (a.tmod 6 + 6)) := hv 3 (by kernel_rfl)
    have h4 : x 4 = (.int .i64 (A : Int)) := hv 4 (by kernel_rfl)
    have h5 : x 5 = (.int .i64 (1 + (A : Int))) := hv 5 (by kernel_rfl)
    have h6 : x 6 = (.pointer (some ⟨g, 2, none⟩)) := hv 6 (by kernel_rfl)
    have h7 : x 7 = (.int .i64 b) := hv 7 (by kernel_rfl)
    have h8 : x 8 = (.int .i64 (b.tmod 16)) := hv 8 (by kernel_rfl)
    have h9 : x 9 = (.int .i64 (b.tmod 16 + 16)) := hv 9 (by kernel_rfl)
    have h10 : x 10 = (.int .i64 (Bq : Int)) := hv 10 (by kernel_rfl)
    have h11 : x 11 = (.int .i64 (1 + (Bq : Int))) := hv 11 (by kernel_rfl)
    have h12 : x 12 = (.pointer (some ⟨g, 3, none⟩)) := hv 12 (by kernel_rfl)
    have h13 : x 13 = (.int .i64 n) := hv 13 (by kernel_rfl)
    have h14 : x 14 = (.int .i64 (n.tmod 16)) := hv 14 (by kernel_rfl)
    have h15 : x 15 = (.int .i64 (n.tmod 16 + 16)) := hv 15 (by kernel_rfl)
    have h16 : x 16 = (.int .i64 (N : Int)) := hv 16 (by kernel_rfl)
    have h17 : x 17 = (.int .i64 (1 + (N : Int))) := hv 17 (by kernel_rfl)
    have h18 : x 18 = (.int .i64 (1 + (A : Int))) := hv 18 (by kernel_rfl)
    have h19 : x 19 = (.int .i64 (1 + (Bq : Int))) := hv 19 (by kernel_rfl)
    have h20 : x 20 = (.int .i64 (1 + (N : Int))) := hv 20 (by kernel_rfl)
    clear hv
    simp only [h0, h1, h2, h3, h4, h5, h6, h7, h8, h9, h10, h11, h12, h13, h14, h15, h16, h17, h18, h19, h20]
    clear h0 h1 h2 h3 h4 h5 h6 h7 h8 h9 h10 h11 h12 h13 h14 h15 h16 h17 h18 h19 h20
    have K0 := hid (k0.out.trans' Kk.undrew)
    have T1 := hid (hT.out.kept Kk.undrew)
    obtain ⟨Q, hQ⟩ : ∃ Q : Nat, 1 + (N : Int) = (Q : Int) := ⟨N + 1, by omega⟩
    rw [hQ]
    have hok : okPl (1 + (A : Int)) (1 + (Bq : Int)) (Q : Int) := by unfold okPl; omega
    have HP := places_any t (1 + (A : Int)) (1 + (Bq : Int)) (Q : Int) wf htz T1.out
    have hL : placesL t (1 + (A : Int)) (1 + (Bq : Int)) (Q : Int) = (perm (seedOf t (1 + (A : Int)).toNat (1 + (Bq : Int)).toNat).data.toList Q 0).1 := by unfold placesL; rw [if_pos hok, Int.toNat_natCast]
    rw [hL] at HP
    generalize (seedOf t (1 + (A : Int)).toNat (1 + (Bq : Int)).toNat).data.toList = sd at HP
    have hpl := perm_length sd Q 0
    have hpn := hid (perm_nodup sd Q 0)
    have hplt := hid (perm_lt sd Q 0)
    generalize (perm sd Q 0).1 = l at HP hpl hpn hplt
    have hQ17 : Q ≤ 16 := by omega
    rw [hpl] at HP
    replace HP := hid HP
    clear Kk z1 z2 z3 hT ha hb hn a1 a2 b1 b2 n1 n2 hok hL hQ
    have hmk := fun w => make_bools Q (by omega) w
    go_wp2_with fail
    refine HP.out.mono ?_
    rintro e w2 ⟨v2, rfl, r2, k2⟩
    obtain ⟨a2, c2, rfl⟩ := r2.shape
    replace K0 := hid (K0.out.trans' k2)
    replace T1 := hid (T1.out.kept k2)
    replace r2 := hid r2
    have hbq : ((Q : Int) != (Q : Int)) = false := by simp
    clear HP k2
    go_wp2
    have b0 := hid (heap_alloc_new w2 (.cells (arrV (fun _ => .bool false) Q) 4))
    have k9 := hid ((Kept.refl no w2).alloc (.cells (arrV (fun _ => .bool false) Q) 4))
    clear hmk
    go_loopw [49] (fun i wr => ∃ k : Nat, k ≤ Q ∧ i = .int .i64 (k : Int) ∧ Hd (wr.heap[w2.heap.size]? = some (.cells (arrV (seenF l k) Q) 4 (0, 0))) ∧ Hd (Kept no w2 wr)) (fun i _ => Q - (intOf i).toNat)
    case atStart => exact ⟨0, by omega, rfl, b0, k9⟩
    case round =>
      clear b0 k9
      obtain ⟨k, hk, rfl, b0, k9⟩ := hrel
      by_cases hlt : k < Q
      · have hkl : k < l.length := by omega
        obtain ⟨b5, o5, rfl, c1⟩ := RdI.at (r2.out.keptNo k9.out) hpl k hlt
        have hxl : l.getD k 0 < Q := hplt.out _ (by rw [List.getD_eq_getElem?_getD, List.getElem?_eq_getElem hkl]; exact List.getElem_mem hkl)
        have c2' := arrV_cell b0.out (l.getD k 0) hxl
        rw [seenF_new l k hkl hpn.out] at c2'
        have f2 := row_free b0.out (l.getD k 0)
        have hn := seenF_next l k hkl
        have hset := row_set b0.out (l.getD k 0) (.bool true)
        rw [arrV_set hn.1 (fun i _ hne => hn.2 i hne)] at hset
        replace hset := hid hset
        clear hn
        generalize l.getD k 0 = xx at c1 hxl c2' f2 hset
        have x1 : ¬ (xx : Int) < 0 := by omega
        have x2 : (xx : Int) < (Q : Int) := by omega
        have x3 : (k : Int) < (Q : Int) := by omega
        have x4 : decide ((xx : Int) < 0) = false := by simp
        have x5 : decide ((Q : Int) ≤ (xx : Int)) = false := by simp; omega
        have K1 := hid (k9.out.setCell (a := ⟨w2.heap.size, xx, none⟩) (.inr (Nat.le_refl _)) (.bool true))
        clear b0 k9
        go_wp2
        go_roundw
        case rel => first | exact ⟨k + 1, by omega, by go_num, hset, K1⟩ | ((repeat apply Exists.intro); exact ⟨⟨k + 1, by omega, by go_num, hset, K1⟩, rfl⟩)
        case measure => simp [intOf]; omega
      · obtain rfl : k = Q := by omega
        have K2 := hid (K0.out.trans' k9.out)
        have HA := hid (awake17_any wr (T1.out.kept k9.out))
        clear b0 k9 hlt hk
        go_wp2_with fail
        refine HA.out.mono ?_
        rintro e w5 ⟨rfl, k5⟩
        replace K2 := hid (K2.out.trans' k5)
        clear k5
        go_wp2
        go_ret
        exact ⟨rfl, K2.out⟩
end Go.Proofs.YtobihnkmmlkccaaDoor
