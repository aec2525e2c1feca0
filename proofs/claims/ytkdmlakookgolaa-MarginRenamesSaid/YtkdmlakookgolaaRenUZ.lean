/- Renaming the candidates (plain): upper bounds stay. -/
import Derived.Test.YtkdmlakookgolaaRenLZ
namespace Go.Mg
open Go.Pil
section
variable {n : Nat} {p : List Int} {gs : List Grp}
/-- The new name, as a number. -/
def fN (p : List Int) (i : Nat) : Nat := (ren1 p (i : Int)).toNat
theorem fN_eq (h : p.Perm (allC n)) {i : Nat} (hi : i < n) : (fN p i : Int) = ren1 p (i : Int) := by
  (have := pm_rng h (c := (i : Int)) ⟨by omega, by omega⟩); (unfold fN)
  omega
theorem fN_bij (h : p.Perm (allC n)) : Bij n (fN p) (invN n p) := pm_bij h
theorem low_ren (h : p.Perm (allC n)) (hp : isPile (n : Int) gs = true) {s t : Nat} (hr : Rl n (fN p) s t) {c : Nat} (hc : c < n) : (c : Int) ∈ lows n gs s ↔ (fN p c : Int) ∈ lows n (renP p gs) t := by
  (have hB := fN_bij h); (have hb := pile_inR hp); (have hs : ∀ x ∈ sl n s, 0 ≤ x ∧ x < (n : Int) := fun x hx => (mem_sl.1 hx).1)
  have hsm : ∀ x : Int, x ∈ sl n t ↔ ∃ d ∈ sl n s, x = ren1 p d := fun x => by
    rw [hr.mem hB]
    constructor
    · (rintro ⟨d, hd, rfl⟩); (have hdr := hs d hd); (exact ⟨d, hd, by rw [fN_eq h (by omega), Int.toNat_of_nonneg hdr.1]⟩)
    · (rintro ⟨d, hd, rfl⟩); (have hdr := hs d hd); (exact ⟨d, hd, by rw [fN_eq h (by omega), Int.toNat_of_nonneg hdr.1]⟩)
  have hv : ∀ d : Int, 0 ≤ d ∧ d < (n : Int) → vt n (renP p gs) (sl n t) (ren1 p d) = vt n gs (sl n s) d := fun d hd => by
    (rw [← vt_ren h hb hs hd]); (refine vt_congrR (fun x _ _ => ?_) _); (rw [hsm]); (unfold ren); (rw [List.mem_map]); (exact ⟨fun ⟨d, h1, h2⟩ => ⟨d, h1, h2.symm⟩, fun ⟨d, h1, h2⟩ => ⟨d, h1, h2.symm⟩⟩)
  (have hcr : 0 ≤ (c : Int) ∧ (c : Int) < (n : Int) := ⟨by omega, by omega⟩); (rw [mem_lows, mem_lows, fN_eq h hc, hsm])
  constructor
  · (rintro ⟨h1, h2⟩); (refine ⟨⟨_, h1, rfl⟩, fun d hd => ?_⟩); (obtain ⟨d, hd', rfl⟩ := (hsm _).1 hd); (rw [hv _ hcr, hv _ (hs d hd')]); (exact h2 d hd')
  · (rintro ⟨⟨e, he, hee⟩, h2⟩); (have hce := pm_inj h hcr (hs e he) hee); (refine ⟨hce ▸ he, fun d hd => ?_⟩); (have := h2 (ren1 p d) ((hsm _).2 ⟨d, hd, rfl⟩))
    rwa [hv _ hcr, hv _ (hs d hd)] at this
theorem rc_ren (h : p.Perm (allC n)) (h7 : n ≤ 7) (hp : isPile (n : Int) gs = true) {s t : Nat} (hs : s < 2 ^ n) (ht : t < 2 ^ n) (hr : Rl n (fN p) s t) : Rc 2 n gs s ↔ Rc 2 n (renP p gs) t := by
  (have hB := fN_bij h); (refine ⟨fun hc => rc_map h7 hB (fun s t _ _ hr c hc hl => (low_ren h hp hr hc).1 hl) hc t ht hr, fun hc => rc_map h7 hB.symm (fun s t _ _ hr c hc hl => ?_) hc s hs (hr.symm hB)⟩); (have hr' := hr.symm hB.symm); (have hg := hB.lg c hc); (exact (low_ren h hp hr' hg.1).2 (by rw [hg.2]; exact hl))
theorem fN_inj (h : p.Perm (allC n)) {i j : Nat} (hi : i < n) (hj : j < n) : fN p i = fN p j ↔ i = j := by
  (have hB := fN_bij h); (exact ⟨fun e => by rw [← (hB.lf i hi).2, e, (hB.lf j hj).2], fun e => by rw [e]⟩)
theorem rl_pow (h : p.Perm (allC n)) (h7 : n ≤ 7) {r : Nat} (hr : r < n) : Rl n (fN p) (2 ^ r) (2 ^ fN p r) := fun i hi => by
  (have hB := fN_bij h); (have h1 := (hB.lf i hi).1); (have h2 := (hB.lf r hr).1); (rw [bits_pow _ (by omega) _ (by omega), bits_pow _ (by omega) _ (by omega)]); (exact decide_eq_decide.2 (fN_inj h hi hr))
theorem pow_lt {r : Nat} (hr : r < n) : 2 ^ r < 2 ^ n := Nat.pow_lt_pow_right (by decide) hr
theorem pair_bits {r w : Nat} (h7 : n ≤ 7) (hr : r < n) (hw : w < n) (hne : r ≠ w) : 2 ^ r + 2 ^ w < 2 ^ n ∧ ∀ i, i < n → (2 ^ r + 2 ^ w).testBit i = (decide (i = r) || decide (i = w)) := by
  (have hn := pow7 h7); (have hl := pow_lt hr); (have hb : (2 ^ r).testBit w = false := by rw [bits_pow r (by omega) w (by omega)]; exact decide_eq_false (Ne.symm hne)); (refine ⟨bits_add_lt n h7 _ hl w hw hb, fun i hi => ?_⟩); (rw [bits_add _ (by omega) w (by omega) hb i (by omega), bits_pow r (by omega) i (by omega)])
theorem rl_pair (h : p.Perm (allC n)) (h7 : n ≤ 7) {r w : Nat} (hr : r < n) (hw : w < n) (hne : r ≠ w) : Rl n (fN p) (2 ^ r + 2 ^ w) (2 ^ fN p r + 2 ^ fN p w) := fun i hi => by
  (have hB := fN_bij h); (rw [(pair_bits h7 (hB.lf r hr).1 (hB.lf w hw).1 (fun e => hne ((fN_inj h hr hw).1 e))).2 _ (hB.lf i hi).1, (pair_bits h7 hr hw hne).2 i hi])
  congr 1
  · exact decide_eq_decide.2 (fN_inj h hi hr)
  · exact decide_eq_decide.2 (fN_inj h hi hw)
theorem pair_ren (h : p.Perm (allC n)) (hp : isPile (n : Int) gs = true) {r w : Nat} (hr : r < n) (hw : w < n) :
    half (vt n (renP p gs) [(fN p r : Int), (fN p w : Int)] (fN p w : Int) - vt n (renP p gs) [(fN p r : Int), (fN p w : Int)] (fN p r : Int)) = half (vt n gs [(r : Int), (w : Int)] (w : Int) - vt n gs [(r : Int), (w : Int)] (r : Int)) := by
  have hl : ∀ x ∈ [(r : Int), (w : Int)], 0 ≤ x ∧ x < (n : Int) := fun x hx => by
    rcases List.mem_cons.1 hx with rfl | hx
    · exact ⟨by omega, by omega⟩
    · rw [List.mem_singleton.1 hx]; exact ⟨by omega, by omega⟩
  (have hb := pile_inR hp); (have h1 := vt_ren h hb hl (c := (w : Int)) ⟨by omega, by omega⟩); (have h2 := vt_ren h hb hl (c := (r : Int)) ⟨by omega, by omega⟩); (rw [fN_eq h hr, fN_eq h hw, ← h1, ← h2]; rfl)
theorem mn_congr {l m : List Int} (hl : ∀ x ∈ l, 0 ≤ x) (h : ∀ x, x ∈ l ↔ x ∈ m) : mn l = mn m := by
  (have h1 := mn_spec l hl); (have h2 := mn_spec m fun x hx => hl x ((h x).2 hx))
  rcases h1 with ⟨a1, a2⟩ | ⟨a1, a2, a3⟩
  · rcases h2 with ⟨b1, _⟩ | ⟨_, b2, _⟩
    · rw [a1, b1]
    · exact absurd ((h _).2 b2) (a2 _)
  · rcases h2 with ⟨_, b2⟩ | ⟨b1, b2, b3⟩
    · exact absurd ((h _).1 a2) (b2 _)
    · (have := a3 _ ((h _).2 b2)); (have := b3 _ ((h _).1 a2))
      omega
open Classical in
theorem mem_upL {w : Nat} {x : Int} : x ∈ upL n gs w n ↔ ∃ r, r < n ∧ r ≠ w ∧ Rc 2 n gs (2 ^ r + 2 ^ w) ∧ x = half (vt n gs [(r : Int), (w : Int)] (w : Int) - vt n gs [(r : Int), (w : Int)] (r : Int)) := by
  (unfold upL); (rw [List.mem_map])
  constructor
  · (rintro ⟨r, hr, rfl⟩); (obtain ⟨h1, h2⟩ := List.mem_filter.1 hr); (have h2 := of_decide_eq_true h2); (exact ⟨r, List.mem_range.1 h1, h2.1, h2.2, rfl⟩)
  · (rintro ⟨r, h1, h2, h3, rfl⟩); (exact ⟨r, List.mem_filter.2 ⟨List.mem_range.2 h1, decide_eq_true ⟨h2, h3⟩⟩, rfl⟩)
theorem upV_ren (h : p.Perm (allC n)) (h7 : n ≤ 7) (hp : isPile (n : Int) gs = true) {w : Nat} (hw : w < n) : upV n (renP p gs) (fN p w) = upV n gs w := by
  (have hB := fN_bij h); (have hfw := (hB.lf w hw).1); (have hone : ∀ r, r < n → (Rc 2 n gs (2 ^ r) ↔ Rc 2 n (renP p gs) (2 ^ fN p r)) := fun r hr => rc_ren h h7 hp (pow_lt hr) (pow_lt (hB.lf r hr).1) (rl_pow h h7 hr)); (have hpr : ∀ r, r < n → r ≠ w → (Rc 2 n gs (2 ^ r + 2 ^ w) ↔ Rc 2 n (renP p gs) (2 ^ fN p r + 2 ^ fN p w)) := fun r hr hne => rc_ren h h7 hp (pair_bits h7 hr hw hne).1 (pair_bits h7 (hB.lf r hr).1 hfw (fun e => hne ((fN_inj h hr hw).1 e))).1 (rl_pair h h7 hr hw hne)); (unfold upV)
  by_cases hx : ∃ r, r < n ∧ r ≠ w ∧ Rc 2 n gs (2 ^ r)
  · (rw [if_pos hx]); (obtain ⟨r, h1, h2, h3⟩ := hx); (rw [if_pos ⟨fN p r, (hB.lf r h1).1, fun e => h2 ((fN_inj h h1 hw).1 e), (hone r h1).1 h3⟩])
  · rw [if_neg hx, if_neg (fun ⟨r, h1, h2, h3⟩ => by
      have hg := hB.lg r h1
      refine hx ⟨invN n p r, hg.1, fun e => h2 (by rw [← hg.2, e]), (hone _ hg.1).2 (by rw [hg.2]; exact h3)⟩)]
    refine mn_congr (fun x hx => by
      obtain ⟨r, _, _, _, rfl⟩ := mem_upL.1 hx
      exact half_nonneg _) fun x => ?_
    rw [mem_upL, mem_upL]
    constructor
    · (rintro ⟨r, h1, h2, h3, rfl⟩); (have hg := hB.lg r h1); (have hne : invN n p r ≠ w := fun e => h2 (by rw [← hg.2, e])); (have e := pair_ren h hp hg.1 hw); (rw [hg.2] at e); (exact ⟨invN n p r, hg.1, hne, (hpr _ hg.1 hne).2 (by rw [hg.2]; exact h3), e⟩)
    · (rintro ⟨r, h1, h2, h3, rfl⟩); (exact ⟨fN p r, (hB.lf r h1).1, fun e => h2 ((fN_inj h h1 hw).1 e), (hpr r h1 h2).1 h3, (pair_ren h hp h1 hw).symm⟩)
/-- P31: Upper does not depend on the names. -/
theorem upper_ren (h : p.Perm (allC n)) (h2 : 2 ≤ n) (h7 : n ≤ 7) (hp : isPile (n : Int) gs = true) {w : Nat} (hw : w < n) : upperB (n : Int) (renP p gs) (ren1 p (w : Int)) = upperB (n : Int) gs (w : Int) := by
  (have hr := pm_rng h (c := (w : Int)) ⟨by omega, by omega⟩); (unfold upperB); (rw [if_pos ⟨by omega, ⟨by omega, ren_pile h hp⟩, hr⟩, if_pos ⟨by omega, ⟨by omega, hp⟩, by omega, by omega⟩, Int.toNat_natCast, Int.toNat_natCast]); (exact upV_ren h h7 hp hw)
end
open Classical in
theorem upV_nonnegR {n w : Nat} {gs : List Grp} (hn : n ≤ 7) (hw : w < n) (h2 : 2 ≤ n) : 0 ≤ upV n gs w := by
  by_cases h : ∃ r, r < n ∧ r ≠ w ∧ Rc 2 n gs (2 ^ r)
  · unfold upV; rw [if_pos h]; exact Int.le_refl _
  · -- the set of two from which w comes
    have hfull : ∀ s, Rc 2 n gs s → 2 ≤ (sl n s).length → ∃ r, r < n ∧ r ≠ w ∧ Rc 2 n gs (2 ^ r + 2 ^ w) := by
      intro s
      induction s using Nat.strongRecOn with
      | ind s ih =>
        (intro hr h2s); (have hlt := hr.lt)
        by_cases h2e : (sl n s).length = 2
        · cases hb : s.testBit w with
          | true =>
            (obtain ⟨r, h1, h3, rfl⟩ := pair_of hn hlt h2e hw hb); (exact ⟨r, h1, h3, hr⟩)
          | false =>
            exfalso
            (obtain ⟨c, hc⟩ := low_exists gs (n := n) (s := s) (by intro e; rw [e] at h2s; simp at h2s)); (have hl := low_sub hn hlt hc); (have hs := sl_sub n hn s hlt c.toNat (by omega) hl.2.2.2); (obtain ⟨d, hd⟩ := List.exists_mem_of_length_pos (show 0 < (sl n (s - 2 ^ c.toNat)).length by omega)); (obtain ⟨⟨d0, dn⟩, db⟩ := mem_sl.1 hd); (have hr2 : Rc 2 n gs (s - 2 ^ c.toNat) := .step hr h2s hc); (have e := single n hn _ hr2.lt d.toNat (by omega) db (by omega)); (refine h ⟨d.toNat, by omega, fun hdw => ?_, e ▸ hr2⟩); (rw [hdw] at db); (have := pow7 hn); (have := (bits_sub s (by omega) c.toNat (by omega) hl.2.2.2).2 w (by omega)); (rw [this, hb] at db; cases db)
        · (obtain ⟨c, hc⟩ := low_exists gs (n := n) (s := s) (by intro e; rw [e] at h2s; simp at h2s)); (have hl := low_sub hn hlt hc); (have hs := sl_sub n hn s hlt c.toNat (by omega) hl.2.2.2); (exact ih _ hl.2.1 (.step hr h2s hc) (by omega))
    (obtain ⟨r, h1, h3, h4⟩ := hfull (2 ^ n - 1) .full (by rw [sl_full hn]; simp [allC]; omega)); (unfold upV); (rw [if_neg h])
    rcases mn_spec (upL n gs w n) (fun x hx => by
      (unfold upL at hx); (obtain ⟨r, _, rfl⟩ := List.mem_map.1 hx)
      exact half_nonneg _) with ⟨_, hno⟩ | ⟨h0, _⟩
    · exfalso
      apply hno (pairV n gs w r)
      (unfold upL); (exact List.mem_map.2 ⟨r, List.mem_filter.2 ⟨List.mem_range.2 h1, decide_eq_true ⟨h3, h4⟩⟩, rfl⟩)
    · exact h0
end Go.Mg
