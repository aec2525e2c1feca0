/- electionlaw04.DigestParts answers true: the walk. -/
import Derived.Test.YtmacnamgjjglmaaDoorCut
import Derived.Test.YtmacnamgjjglmaaDoorAwake
namespace Go.Proofs.YtmacnamgjjglmaaDoor
open Go.RowKit Go.Mk Go.Sha
theorem be_inj (a b : Nat) (s : Nat) (ha : a < 256 ^ s) (hb : b < 256 ^ s) (h : be a s = be b s) : a = b := by
  induction s generalizing a b with
  | zero => simp at ha hb; omega
  | succ s ih =>
    simp only [be, List.cons.injEq] at h
    obtain ⟨h1, h2⟩ := h
    have e8 : 2 ^ (8 * s) = 256 ^ s := by rw [Nat.pow_mul]
    rw [e8] at h1
    have hd : a / 256 ^ s = b / 256 ^ s := by
      have := congrArg UInt8.toNat h1
      have la : a / 256 ^ s < 256 := by rw [Nat.div_lt_iff_lt_mul (Nat.pow_pos (by decide)), Nat.mul_comm, ← Nat.pow_succ]; exact ha
      have lb : b / 256 ^ s < 256 := by rw [Nat.div_lt_iff_lt_mul (Nat.pow_pos (by decide)), Nat.mul_comm, ← Nat.pow_succ]; exact hb
      simpa [Nat.mod_eq_of_lt la, Nat.mod_eq_of_lt lb] using this
    have hm : a % 256 ^ s = b % 256 ^ s := by
      have key : ∀ (x t : Nat), t ≤ s → be x t = be (x % 256 ^ s) t := by
        intro x t ht
        induction t with
        | zero => rfl
        | succ t iht =>
          simp only [be]
          rw [iht (by omega)]
          congr 1
          have e : 2 ^ (8 * t) = 256 ^ t := by rw [Nat.pow_mul]
          rw [e]
          apply UInt8.toNat_inj.1
          simp only [UInt8.toNat_ofNat']
          obtain ⟨d, rfl⟩ : ∃ d, s = t + 1 + d := ⟨s - (t + 1), by omega⟩
          rw [show 256 ^ (t + 1 + d) = 256 ^ t * (256 * 256 ^ d) by rw [Nat.pow_add, Nat.pow_succ]; rw [Nat.mul_assoc]]
          rw [Nat.mod_mul_right_div_self]
          rw [Nat.mod_mul_right_mod]
      apply ih
      · exact Nat.mod_lt _ (Nat.pow_pos (by decide))
      · exact Nat.mod_lt _ (Nat.pow_pos (by decide))
      · rw [← key a s (Nat.le_refl _), ← key b s (Nat.le_refl _)]; exact h2
    rw [← Nat.div_add_mod a (256 ^ s), ← Nat.div_add_mod b (256 ^ s), hd, hm]
theorem join_inj : ∀ (xs ys : List (List UInt8)), (∀ p ∈ xs, p.length < 4294967296) → (∀ p ∈ ys, p.length < 4294967296) → join xs = join ys → xs = ys := by
  intro xs
  induction xs with
  | nil =>
    intro ys _ _ h
    cases ys with
    | nil => rfl
    | cons b ys => exfalso; have := congrArg List.length h; simp [join, be_length] at this <;> omega
  | cons a xs ih =>
    intro ys ha hb h
    cases ys with
    | nil => exfalso; have := congrArg List.length h; simp [join, be_length] at this <;> omega
    | cons b ys =>
      have h' : be a.length 4 ++ (a ++ join xs) = be b.length 4 ++ (b ++ join ys) := by simpa [join, List.append_assoc] using h
      obtain ⟨h1, h2⟩ := List.append_inj h' (by rw [be_length, be_length])
      have hl := be_inj _ _ 4 (ha a (by simp)) (hb b (by simp)) h1
      obtain ⟨h3, h4⟩ := List.append_inj h2 hl
      rw [h3, ih ys (fun p hp => ha p (by simp [hp])) (fun p hp => hb p (by simp [hp])) h4]
theorem cut_len (ps : List (List UInt8)) (n m : Nat) : ∀ p ∈ cut ps n m, p.length ≤ m := by
  intro p hp
  simp only [cut, List.mem_map] at hp
  obtain ⟨q, _, rfl⟩ := hp
  rw [List.length_take]; omega
theorem cut_count (ps : List (List UInt8)) (n m : Nat) : (cut ps n m).length ≤ n := by simp [cut]; omega
theorem join_len (ps : List (List UInt8)) (m : Nat) (h : ∀ p ∈ ps, p.length ≤ m) : (join ps).length ≤ ps.length * (4 + m) := by
  induction ps with
  | nil => simp [join]
  | cons p ps ih =>
    have h1 := ih fun q hq => h q (by simp [hq])
    have h2 := h p (by simp)
    have e : (join (p :: ps)).length = 4 + p.length + (join ps).length := by simp [join, be_length]; omega
    rw [e, List.length_cons, Nat.succ_mul]; omega
theorem take_step {α : Type} (xs ys : List α) (d : α) (k : Nat) (h1 : k < xs.length) (h2 : k < ys.length) (ht : xs.take k = ys.take k) : xs.getD k d = ys.getD k d ↔ xs.take (k + 1) = ys.take (k + 1) := by
  have e1 : xs.take (k + 1) = ys.take k ++ [xs[k]] := by rw [List.take_succ_eq_append_getElem h1, ht]
  have e2 : ys.take (k + 1) = ys.take k ++ [ys[k]] := List.take_succ_eq_append_getElem h2
  rw [e1, e2, List.getD_eq_getElem?_getD, List.getElem?_eq_getElem h1, List.getD_eq_getElem?_getD, List.getElem?_eq_getElem h2]
  show xs[k] = ys[k] ↔ _
  exact ⟨fun h => by rw [h], fun h => by have := List.append_cancel_left h; exact (List.cons.inj this).1⟩
set_option maxRecDepth 20000 in
set_option maxHeartbeats 1000000 in
theorem parts_any (va vb : Value) (as' bs : List (List UInt8)) (w : World) (ha : as'.length ≤ 9223372036854775807) (hb : bs.length ≤ 9223372036854775807) (hal : ∀ p ∈ as', p.length ≤ 9223372036854775807) (hbl : ∀ p ∈ bs, p.length ≤ 9223372036854775807)
    (hra : RdP w va as') (hrb : RdP w vb bs) (hT : Tab w) :
    Calls Tryd.prog 4 #[va, vb] w fun e w' => e = .returned (.bool true) ∧ Kept no w w' := by
  replace hra := hid hra
  replace hrb := hid hrb
  replace hT := hid hT
  replace hal := hid hal
  replace hbl := hid hbl
  go_enter Tryd.func4, Tryd.ntmps4
  go_wp2_with fail
  refine (cut_any va as' 6 30 w ha (by decide) (by decide) hal.out hra.out).mono ?_
  rintro e w1 ⟨v1, rfl, r1, k1⟩
  go_wp2_with fail
  refine (cut_any vb bs 6 30 w1 hb (by decide) (by decide) hbl.out (hrb.out.kept k1)).mono ?_
  rintro e w2 ⟨v2, rfl, r2, k2⟩
  have r1 := hid (r1.kept k2)
  have K2 := hid (k1.trans' k2)
  have cA := hid (cut_len as' 6 30)
  have cB := hid (cut_len bs 6 30)
  have nA := cut_count as' 6 30
  have nB := cut_count bs 6 30
  generalize cut as' 6 30 = xs at r1 cA nA
  generalize cut bs 6 30 = ys at r2 cB nB
  clear k1 k2
  obtain ⟨ao, ca, rfl⟩ : ∃ ao ca, v1 = .slice ao xs.length ca := by obtain ⟨_, ⟨_, ao, ca, h, _⟩, _⟩ := r1.out; exact ⟨ao, ca, h⟩
  obtain ⟨bo, cb, rfl⟩ : ∃ ao ca, v2 = .slice ao ys.length ca := by obtain ⟨_, ⟨_, ao, ca, h, _⟩, _⟩ := r2; exact ⟨ao, ca, h⟩
  replace r2 := hid r2
  obtain ⟨s0, hs0, h0⟩ : ∃ s0 : Bool, ((xs.length : Int) == (ys.length : Int)) = s0 ∧ Hd (s0 = decide (xs.length = ys.length)) := ⟨_, rfl, ⟨by
    by_cases h : xs.length = ys.length
    · simp [h]
    · rw [decide_eq_false h]; rw [beq_eq_false_iff_ne]; omega⟩⟩
  go_wp2
  clear hs0
  go_loopw [5, 6] (fun b i wr => ∃ (k : Nat) (s : Bool), k ≤ xs.length ∧ i = .int .i64 k ∧ b = .bool s ∧ Hd (s = decide (xs.length = ys.length ∧ xs.take k = ys.take k)) ∧ Hd (Kept no w2 wr)) (fun _ i _ => xs.length - (intOf i).toNat)
  case atStart => exact ⟨0, s0, by omega, rfl, rfl, ⟨by rw [h0.out]; simp⟩, ⟨Kept.refl _ _⟩⟩
  case round =>
    obtain ⟨k, s, hk, rfl, rfl, hs, hK⟩ := hrel
    by_cases hc : s = true ∧ k < xs.length
    · obtain ⟨rfl, hlt⟩ := hc
      have hsp := of_decide_eq_true hs.out.symm
      have hll := hsp.1
      have hlt2 : k < ys.length := by omega
      have hkx : (k : Int) < (xs.length : Int) := by omega
      have hky : (k : Int) < (ys.length : Int) := by omega
      obtain ⟨vs1, q1, q2⟩ := r1.out.kept hK.out
      obtain ⟨vs2, q3, q4⟩ := r2.out.kept hK.out
      have e1 := q2 k hlt
      have e2 := q4 k hlt2
      have c1 : ∃ b o, ao = some ⟨b, o, none⟩ ∧ wr.cell? ⟨b, o + k, none⟩ = some (vs1.getD k undef) := by
        obtain ⟨hl, _, _, e, _, _, h | ⟨b, o, rfl, hc⟩⟩ := q1
        · cases e; omega
        · cases e; exact ⟨b, o, rfl, hc k _ (by rw [List.getD_eq_getElem?_getD, List.getElem?_eq_getElem (by omega)]; rfl)⟩
      have c2 : ∃ b o, bo = some ⟨b, o, none⟩ ∧ wr.cell? ⟨b, o + k, none⟩ = some (vs2.getD k undef) := by
        obtain ⟨hl, _, _, e, _, _, h | ⟨b, o, rfl, hc⟩⟩ := q3
        · cases e; omega
        · cases e; exact ⟨b, o, rfl, hc k _ (by rw [List.getD_eq_getElem?_getD, List.getElem?_eq_getElem (by omega)]; rfl)⟩
      obtain ⟨b1, o1, rfl, c1⟩ := c1
      obtain ⟨b2, o2, rfl, c2⟩ := c2
      have l1 : (xs.getD k []).length ≤ 30 := cA.out _ (by rw [List.getD_eq_getElem?_getD, List.getElem?_eq_getElem hlt]; exact List.getElem_mem hlt)
      have l2 : (ys.getD k []).length ≤ 30 := cB.out _ (by rw [List.getD_eq_getElem?_getD, List.getElem?_eq_getElem hlt2]; exact List.getElem_mem hlt2)
      have hnext : Hd (decide (xs.getD k [] = ys.getD k []) = decide (xs.length = ys.length ∧ xs.take (k + 1) = ys.take (k + 1))) := ⟨by
        apply decide_eq_decide.2
        rw [take_step xs ys [] k hlt hlt2 hsp.2]
        exact ⟨fun h => ⟨hll, h⟩, fun h => h.2⟩⟩
      generalize vs1.getD k undef = p1 at e1 c1
      generalize vs2.getD k undef = p2 at e2 c2
      generalize xs.getD k [] = x at e1 l1 hnext
      generalize ys.getD k [] = y at e2 l2 hnext
      have EQ : Hd (∀ n, Calls Tryd.prog 19 #[p1, p2] (wr.drewN n) fun e w'' => e = .returned (.bool (decide (x = y))) ∧ ∃ m, w'' = wr.drewN m) := ⟨fun n =>
        (eq_any p1 p2 x y (wr.drewN n) (by omega) (by omega) (e1.keptNo ((Kept.refl no wr).drewN n)) (e2.keptNo ((Kept.refl no wr).drewN n))).mono fun _ _ ⟨h1, q, h2⟩ => ⟨h1, n + q, by rw [h2, World.drewN_drewN]⟩⟩
      clear q1 q2 q3 q4 e1 e2 hsp hll
      generalize decide (x = y) = dd at EQ hnext
      go_wp2_with fail
      go_quiet ((go_at_call 19; exact EQ.out _))
      have hK' : Hd (Kept no w2 (wr.drewN nq)) := ⟨hK.out.drewN nq⟩
      clear EQ c1 c2 hK hs
      go_wp2
      go_roundw
      case rel => exact ⟨k + 1, dd, by omega, by go_num, rfl, hnext, hK'⟩
      case measure => simp [intOf]; omega
    · have hfin : Hd (s = decide (xs = ys)) := ⟨by
        have h1 := hs.out
        cases s with
        | false =>
          have h2 := of_decide_eq_false h1.symm
          symm; apply decide_eq_false; intro h; apply h2; subst h; exact ⟨rfl, rfl⟩
        | true =>
          have h2 := of_decide_eq_true h1.symm
          have h3 : ¬ k < xs.length := fun h => hc ⟨rfl, h⟩
          have h4 := h2.2
          rw [List.take_of_length_le (by omega), List.take_of_length_le (by omega)] at h4
          symm; exact decide_eq_true h4⟩
      have hks : s = true → ¬ (k : Int) < (xs.length : Int) := fun h => by have : ¬ k < xs.length := fun h2 => hc ⟨h, h2⟩; omega
      have R1 := hid (r1.out.kept hK.out)
      have R2 := hid (r2.out.kept hK.out)
      have K3 := hid (K2.out.trans' hK.out)
      have LX : Hd ((join xs).length ≤ 1099511000000) := ⟨by have := join_len xs 30 cA.out; omega⟩
      have LY : Hd ((join ys).length ≤ 1099511000000) := ⟨by have := join_len ys 30 cB.out; omega⟩
      have JI : Hd (decide (join xs = join ys) = decide (xs = ys)) := ⟨decide_eq_decide.2 ⟨fun h => join_inj xs ys (fun p hp => by have := cA.out p hp; omega) (fun p hp => by have := cB.out p hp; omega) h, fun h => by rw [h]⟩⟩
      clear r1 r2 K2 cA cB hs hK hc
      have hks := hid hks
      cases s
      · go_wp2_with fail
        refine (awake_any wr (hT.out.kept K3.out)).mono ?_
        rintro e w5 ⟨rfl, k5⟩
        go_wp2_with fail
        refine (join_any _ xs w5 LX.out (by omega) (R1.out.kept k5)).mono ?_
        rintro e w6 ⟨v6, rfl, o6, k6, _⟩
        go_wp2_with fail
        refine (join_any _ ys w6 LY.out (by omega) ((R2.out.kept k5).kept k6)).mono ?_
        rintro e w7 ⟨v7, rfl, o7, k7, _⟩
        go_wp2_with fail
        refine (eq_any v6 v7 (join xs) (join ys) w7 (by have := LX.out; omega) (by have := LY.out; omega) (Rd.of_own (k7.ownsRow o6 fun _ _ => id)) (Rd.of_own o7)).mono ?_
        rintro e w8 ⟨rfl, q, hq⟩
        have K8 := hid ((((K3.out.trans' k5).trans' k6).trans' k7).drewN q)
        rw [← hq] at K8
        rw [JI.out, ← hfin.out]
        clear k5 k6 k7 o6 o7 hq
        go_wp2
        go_ret
        exact ⟨rfl, K8.out⟩
      · have hk9 := hks.out rfl
        go_wp2_with fail
        refine (awake_any wr (hT.out.kept K3.out)).mono ?_
        rintro e w5 ⟨rfl, k5⟩
        go_wp2_with fail
        refine (join_any _ xs w5 LX.out (by omega) (R1.out.kept k5)).mono ?_
        rintro e w6 ⟨v6, rfl, o6, k6, _⟩
        go_wp2_with fail
        refine (join_any _ ys w6 LY.out (by omega) ((R2.out.kept k5).kept k6)).mono ?_
        rintro e w7 ⟨v7, rfl, o7, k7, _⟩
        go_wp2_with fail
        refine (eq_any v6 v7 (join xs) (join ys) w7 (by have := LX.out; omega) (by have := LY.out; omega) (Rd.of_own (k7.ownsRow o6 fun _ _ => id)) (Rd.of_own o7)).mono ?_
        rintro e w8 ⟨rfl, q, hq⟩
        have K8 := hid ((((K3.out.trans' k5).trans' k6).trans' k7).drewN q)
        rw [← hq] at K8
        rw [JI.out, ← hfin.out]
        clear k5 k6 k7 o6 o7 hq
        go_wp2
        go_ret
        exact ⟨rfl, K8.out⟩
end Go.Proofs.YtmacnamgjjglmaaDoor
