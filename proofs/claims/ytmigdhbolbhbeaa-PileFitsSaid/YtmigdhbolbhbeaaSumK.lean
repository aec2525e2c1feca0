/- Flags, cuts of flags, two remaining candidates. -/
import Derived.Test.YtmigdhbolbhbeaaAwk24
namespace Go.Pil
theorem sum_take_le : ∀ (l : List Int), (∀ x ∈ l, 0 ≤ x) → ∀ k, 0 ≤ (l.take k).sum ∧ (l.take k).sum ≤ l.sum
  | [], _, k => by simp
  | x :: l, h, k => by
    have h0 := h x (by simp)
    cases k with
    | zero =>
      have := sum_take_le l (fun y hy => h y (by simp [hy])) 0
      simp only [List.take_zero, List.sum_nil, List.sum_cons] at *; omega
    | succ k =>
      have := sum_take_le l (fun y hy => h y (by simp [hy])) k
      simp only [List.take_succ_cons, List.sum_cons]; omega
theorem sum_take_succ {l : List Int} {k : Nat} (hk : k < l.length) : (l.take (k + 1)).sum = (l.take k).sum + l.getD k 0 := by
  have e : l.getD k 0 = l[k] := by simp [List.getD_eq_getElem?_getD, hk]
  rw [List.take_succ_eq_append_getElem hk, List.sum_append, e]; simp
theorem first_nonneg {gs : List Grp} (remain : List Bool) (h : isPile 7 gs = true) : ∀ x ∈ (firstV gs remain).1, 0 ≤ x := fun x hx => by
  obtain ⟨i, hi, rfl⟩ := List.getElem_of_mem hx
  have := (firstK_facts remain h gs.length).2.1 i
  rw [firstK_all (Nat.le_refl _)] at this
  simpa [List.getD_eq_getElem?_getD, hi] using this.1
theorem first_two {gs : List Grp} (h : isPile 7 gs = true) {n a b : Nat} (hn : n ≤ 7) (ha : a < n) (hb : b < n) (hab : a ≠ b) :
    (first gs (two n a b)).1.length = n ∧ (first gs (two n a b)).1.getD a 0 = prefers gs a b ∧ (first gs (two n a b)).1.getD b 0 = prefers gs b a ∧ (first gs (two n a b)).2 = tot gs - prefers gs a b - prefers gs b a := by
  have hf : first gs (two n a b) = firstV gs (two n a b) := by unfold first; rw [if_pos ⟨h, by rw [two_len]; exact hn⟩]
  have hz : ((a : Int) : Int) ≠ (b : Int) := by omega
  have p1 : prefers gs a b = sumIf (fun p => pref p a b) gs := by unfold prefers; rw [if_pos ⟨h, hz⟩]
  have p2 : prefers gs b a = sumIf (fun p => pref p b a) gs := by unfold prefers; rw [if_pos ⟨h, Ne.symm hz⟩]
  have a1 : (firstV gs (two n a b)).1.getD a 0 = sumIf (fun p => pref p a b) gs := by
    rw [first_at gs _ a (by rw [two_len]; exact ha)]
    exact sumIf_congr fun g _ => (hd_two ha hb hab g.p).1
  have b1 : (firstV gs (two n a b)).1.getD b 0 = sumIf (fun p => pref p b a) gs := by
    rw [first_at gs _ b (by rw [two_len]; exact hb)]
    exact sumIf_congr fun g _ => (hd_two ha hb hab g.p).2
  rw [hf, p1, p2]
  refine ⟨by rw [first_len, two_len], a1, b1, ?_⟩
  rw [first_rest]
  have e : tot gs = sumIf (fun p => (pref p a b || pref p b a) || hd (two n a b) p == none) gs := by
    rw [← sumIf_all]
    refine sumIf_congr fun g _ => ?_
    rw [← (hd_two ha hb hab g.p).1, ← (hd_two ha hb hab g.p).2]
    cases hh : hd (two n a b) g.p with
    | none => simp
    | some c =>
      have := (hd_in hh).2.2.2
      rw [inB_two ha hb] at this
      have := of_decide_eq_true this
      rcases this with rfl | rfl <;> simp
  rw [e, sumIf_or, sumIf_or]
  · omega
  · rintro g _ ⟨h1, h2⟩
    unfold pref at h1 h2
    have := of_decide_eq_true h1
    have := of_decide_eq_true h2
    omega
  · rintro g _ ⟨h1, h2⟩
    rw [← (hd_two ha hb hab g.p).1, ← (hd_two ha hb hab g.p).2] at h1
    have h2 : hd (two n a b) g.p = none := by simpa using h2
    rw [h2] at h1
    simp at h1
end Go.Pil
namespace Go.Proofs.Ytmigdhbolbhbeaa
open Go.RowKit Go.Mk Go.Pil
theorem RdZ.base {w : World} {ao : Option Addr} {n cap : Nat} {zs : List Int} (h : RdZ w (.slice ao n cap) zs) (hz : 0 < zs.length) :
    ∃ b o, ao = some ⟨b, o, none⟩ ∧ ∀ k, k < zs.length → w.cell? ⟨b, o + k, none⟩ = some (.int .i64 (zs.getD k 0)) := by
  obtain ⟨_, _, _, e, h1, _, h | ⟨b, o, rfl, hc⟩⟩ := h
  · cases e; omega
  · cases e
    exact ⟨b, o, rfl, fun k hk => hc k _ (by simp [hk, Z])⟩
theorem RdT.addr {w : World} {av : Option Addr} {lv cv : Nat} {zs : List Bool} (h : RdT w (.slice av lv cv) zs) : cv = 0 ∨ ∃ b o, av = some ⟨b, o, none⟩ := by
  obtain ⟨_, _, _, e, _, _, h | ⟨b, o, rfl, _⟩⟩ := h
  · cases e; exact .inl h
  · cases e; exact .inr ⟨b, o, rfl⟩
theorem pre_sliceT (av : Option Addr) (lv cv m : Nat) (hav : cv = 0 ∨ ∃ b o, av = some ⟨b, o, none⟩) (hm : m ≤ cv) (w : World) : (Instr.slice 33 (.slice av lv cv) none (some (.int .i64 (m : Int))) none).run Try.prog w = .ok (.slice av m cv) w := by
  have h0 : (0 : Int) ≤ (m : Int) := by omega
  have hc : Try.prog.underlying 33 = some (.slice 4) := by kernel_rfl
  rcases hav with rfl | ⟨b, o, rfl⟩
  · obtain rfl : m = 0 := by omega
    simp [Instr.slice, Instr.sliceBounds, Instr.sliceBound, run_underlying hc, asIntOf]
  · simp [Instr.slice, Instr.sliceBounds, Instr.sliceBound, run_underlying hc, asIntOf, h0]
    have e : (⟨b, o, none⟩ : Addr).add 0 = ⟨b, o, none⟩ := by simp [Addr.add]
    rw [if_pos hm, e]; simp
theorem RdT.take {w : World} {ao : Option Addr} {n cap : Nat} {zs : List Bool} (h : RdT w (.slice ao n cap) zs) (k : Nat) (hk : k ≤ zs.length) : RdT w (.slice ao k cap) (zs.take k) := by
  obtain ⟨hl, _, _, e, h1, h2, h3⟩ := h
  cases e
  have hlk : (zs.take k).length = k := by rw [List.length_take]; omega
  refine ⟨by simp, ao, cap, by rw [hlk], by omega, h2, h3.imp id fun ⟨b, o, e, hc⟩ => ⟨b, o, e, fun j u hj => hc j u ?_⟩⟩
  rw [List.map_take, List.getElem?_take] at hj
  split at hj
  · exact hj
  · cases hj
theorem RdT.cut {w : World} {ao : Option Addr} {n cap : Nat} {zs : List Bool} (h : RdT w (.slice ao n cap) zs) (k : Nat) : RdT w (.slice ao (min zs.length k) cap) (zs.take k) := by
  have := h.take (min zs.length k) (by omega)
  rwa [show zs.take (min zs.length k) = zs.take k by rw [Nat.min_comm]; exact List.take_eq_take_min.symm] at this
theorem minNat (l k : Nat) : min (l : Int) (k : Int) = ((min l k : Nat) : Int) ∧ (if (k : Int) < (l : Int) then (k : Int) else (l : Int)) = ((min l k : Nat) : Int) := by
  refine ⟨by omega, ?_⟩
  split <;> omega
set_option maxHeartbeats 400000 in
theorem flags_any (v : Value) (zs : List Bool) (w : World) (hr : RdT w v zs) : Calls Try.prog 19 #[v] w fun e w' => (∃ v', e = .returned v' ∧ RdT w v' (zs.take 10)) ∧ w' = w := by
  obtain ⟨ao, cap, rfl, hcap, hcm⟩ := Rd.shape2 hr
  have hsl := pre_sliceT ao zs.length cap (min zs.length 10) (RdT.addr hr) (by omega)
  obtain ⟨q1, q2⟩ := minNat zs.length 10
  have hv := hid (hr.cut 10)
  generalize min zs.length 10 = m at hsl q1 q2 hv
  have q1' : min (zs.length : Int) 10 = (m : Int) := q1
  have q2' : (if 10 < (zs.length : Int) then (10 : Int) else (zs.length : Int)) = (m : Int) := q2
  clear q1 q2 hr
  go_enter Try.func19, Try.ntmps19
  go_wp2
  go_ret
  exact ⟨⟨_, rfl, hv.out⟩, rfl⟩
def zsT (l : List Bool) : Array Value := (l.map Value.bool).toArray
theorem zsT_set (l : List Bool) (c : Nat) (x : Bool) : (zsT l).setIfInBounds c (.bool x) = zsT (l.set c x) := by
  unfold zsT; rw [List.map_set]; simp
theorem zsT_made (n : Nat) : madeCells #[Value.bool false] n = zsT (List.replicate n false) := by
  unfold zsT
  apply Array.ext
  · simp [madeCells]
  · intro i h1 h2
    simp [madeCells, Nat.mod_one]
theorem makeT (n : Nat) (h : n ≤ 1000000) (w : World) : (Instr.makeSlice 33 (.int .i64 (n : Int)) (.int .i64 (n : Int))).run Try.prog w = .ok (.slice (some ⟨w.heap.size, 0, none⟩) n n) (w.alloc (.cells (zsT (List.replicate n false)) 4)) := by
  obtain ⟨i, hi, hz, hs, hb⟩ := info_parts (P := Try.prog) (e := 4) (z := .bool false) (size := 1) (bytes := 1) (by kernel_rfl)
  have := run_make (P := Try.prog) w 33 4 i _ Try.underlying33 hi hz .i64 .i64 n n (by omega) (by omega) (by rw [hb]; omega) (by omega)
  rw [this, hs, Nat.mul_one, Int.toNat_natCast]
  rw [show (Value.bool false).cells = #[Value.bool false] from rfl, zsT_made]
theorem zsT_rd {w : World} {q : Nat} {l : List Bool} (h : w.heap[q]? = some (.cells (zsT l) 4 (0, 0))) (n : Nat) (hn : l.length = n) (hm : n ≤ maxLen) : RdT w (.slice (some ⟨q, 0, none⟩) n n) l := blk_RdT l n hn hm rfl h
end Go.Proofs.Ytmigdhbolbhbeaa
