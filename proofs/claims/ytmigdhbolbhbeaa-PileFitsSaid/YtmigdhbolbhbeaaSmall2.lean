/- Small functions: Ballot of both packages, cmp.Compare, slices.Compare, Equal, Index, Clone, Place. -/
import Derived.Test.YtmigdhbolbhbeaaSmall
namespace Go.Mk
theorem setCell_row {w : World} {g : Nat} {c : Array Value} {e : TypeId} {fr : Nat × Nat} (h : w.heap[g]? = some (.cells c e fr)) (j : Nat) (v : Value) : (w.setCell ⟨g, j, none⟩ v).heap[g]? = some (.cells (c.setIfInBounds j v) e fr) := by
  unfold World.setCell; simp only [Array.getElem?_modify, if_pos, h]; rfl
end Go.Mk
namespace Go.Proofs.Ytmigdhbolbhbeaa
open Go.RowKit Go.Mk Go.Pil
theorem ballot_iff (n : Int) (p : List Int) : ballot n p = true ↔ p.Nodup ∧ ∀ x ∈ p, 0 ≤ x ∧ x < n := by unfold ballot; exact decide_eq_true_iff
theorem ballot_step {n : Int} {p : List Int} {k : Nat} (hk : k < p.length) (h : ballot n (p.take k) = true) : ballot n (p.take (k + 1)) = true ↔ (0 ≤ p.getD k 0 ∧ p.getD k 0 < n ∧ p.getD k 0 ∉ p.take k) := by
  rw [ballot_iff] at h ⊢
  have hg : p.getD k 0 = p[k] := by simp [List.getD_eq_getElem?_getD, hk]
  rw [hg, List.take_succ_eq_append_getElem hk]
  constructor
  · rintro ⟨h1, h2⟩
    have h3 := h2 p[k] (List.mem_append_right _ (List.mem_singleton.2 rfl))
    refine ⟨h3.1, h3.2, fun hm => ?_⟩
    rw [List.nodup_append] at h1
    exact h1.2.2 _ hm _ (by simp) rfl
  · rintro ⟨h1, h2, h3⟩
    refine ⟨?_, fun x hx => ?_⟩
    · rw [List.nodup_append]
      refine ⟨h.1, by simp, fun a ha b hb e => h3 ?_⟩
      obtain rfl : b = p[k] := by simpa using hb
      rw [← e]; exact ha
    · rcases List.mem_append.1 hx with hx | hx
      · exact h.2 x hx
      · obtain rfl : x = p[k] := by simpa using hx
        exact ⟨h1, h2⟩
theorem ballot_fail {n : Int} {p : List Int} {k : Nat} (hk : k < p.length) (h : ballot n (p.take k) = true) (hf : ¬ (0 ≤ p.getD k 0 ∧ p.getD k 0 < n ∧ p.getD k 0 ∉ p.take k)) : ballot n p = false := by
  cases hb : ballot n p with
  | false => rfl
  | true =>
    refine absurd ((ballot_step hk h).1 ?_) hf
    rw [ballot_iff] at hb ⊢
    exact ⟨hb.1.sublist (List.take_sublist _ _), fun x hx => hb.2 x (List.mem_of_mem_take hx)⟩
set_option maxRecDepth 20000 in
set_option maxHeartbeats 1000000 in
theorem refballot_any (n : Int) (v : Value) (p : List Int) (w : World) (hr : RdZ w v p) : Calls Try.prog 50 #[.int .i64 n, v] w fun e w' => e = .returned (.bool (ballot n p)) ∧ Qt w w' := by
  obtain ⟨ao, cap, rfl, hcap, hcm⟩ := Rd.shape2 hr
  have hm63 := maxLen_63
  replace hr := hid hr
  go_enter Try.func50, Try.ntmps50
  go_wp2
  go_loopw [5] (fun i wr => ∃ k : Nat, k ≤ p.length ∧ i = .int .i64 (k : Int) ∧ Hd (ballot n (p.take k) = true) ∧ Hd (Qt w wr)) (fun i _ => p.length - (intOf i).toNat)
  case atStart => exact ⟨0, by omega, rfl, ⟨by rw [ballot_iff]; simp⟩, ⟨Qt.refl _⟩⟩
  case round =>
    obtain ⟨k, hk, rfl, hb, hW⟩ := hrel
    by_cases hlt : k < p.length
    · have hk1 : (k : Int) < (p.length : Int) := by omega
      have hk0 : (0 : Int) ≤ (k : Int) := by omega
      have hkc : (k : Int) ≤ (cap : Int) := by omega
      obtain ⟨b, o, rfl, hc⟩ := (hr.out.kept hW.out.kept).at k hlt
      have HS := hid (ballot_step hlt hb.out)
      have HF := hid (ballot_fail hlt hb.out)
      have HH := hid (Qt.quiet (w := wr) fun W (kw : Qt wr W) => has_any (.slice (some ⟨b, o, none⟩) k cap) (p.take k) (p.getD k 0) W ((hr.out.take k hk).kept (hW.out.kept.trans' kw.kept)))
      generalize p.getD k 0 = z at hc HS HF HH
      by_cases h0 : z < 0
      · have hd : decide (z < 0) = true := decide_eq_true h0
        have hv := hid (HF.out (by omega))
        clear HS HF HH hb
        go_wp2_with fail
        go_quiet (fail)
        have hW' := hid (hW.out.drewN nq)
        go_wp2
        go_ret
        exact ⟨by rw [hv.out]; rfl, hW'.out⟩
      · have hd : decide (z < 0) = false := decide_eq_false h0
        by_cases h1 : n ≤ z
        · have hd1 : decide (n ≤ z) = true := decide_eq_true h1
          have hv := hid (HF.out (by omega))
          clear HS HF HH hb
          go_wp2_with fail
          go_quiet (fail)
          have hW' := hid (hW.out.drewN nq)
          go_wp2
          go_ret
          exact ⟨by rw [hv.out]; rfl, hW'.out⟩
        · have hd1 : decide (n ≤ z) = false := decide_eq_false h1
          have h0' : (0 : Int) ≤ z := by omega
          have h1' : z < n := by omega
          by_cases h2 : z ∈ p.take k
          · rw [decide_eq_true h2] at HH
            have hv := hid (HF.out (fun h => h.2.2 h2))
            clear HS HF hb h2
            go_wp2_with fail
            go_quiet ((go_at_call 72; exact HH.out _))
            have hW' := hid (hW.out.drewN nq)
            go_wp2
            go_ret
            exact ⟨by rw [hv.out]; rfl, hW'.out⟩
          · rw [decide_eq_false h2] at HH
            have hb' := hid (HS.out.2 ⟨h0', h1', h2⟩)
            clear HS HF hb h2
            go_wp2_with fail
            go_quiet ((go_at_call 72; exact HH.out _))
            have hW' := hid (hW.out.drewN nq)
            clear HH
            go_wp2
            go_roundw
            case rel => first | exact ⟨k + 1, by omega, by go_num, hb', hW'⟩ | ((repeat apply Exists.intro); exact ⟨⟨k + 1, by omega, by go_num, hb', hW'⟩, rfl⟩)
            case measure => simp [intOf]; omega
    · obtain rfl : k = p.length := by omega
      have hv : Hd (ballot n p = true) := ⟨by have := hb.out; rwa [List.take_length] at this⟩
      clear hb
      go_wp2
      go_ret
      exact ⟨by rw [hv.out]; rfl, hW.out⟩
/-- Which candidates have been seen. -/
def seenC (q : List Int) : Array Value := #[.bool (decide ((0 : Int) ∈ q)), .bool (decide ((1 : Int) ∈ q)), .bool (decide ((2 : Int) ∈ q)), .bool (decide ((3 : Int) ∈ q)), .bool (decide ((4 : Int) ∈ q)), .bool (decide ((5 : Int) ∈ q)), .bool (decide ((6 : Int) ∈ q))]
theorem seen_at (q : List Int) (c : Nat) (hc : c < 7) : (seenC q)[c]? = some (.bool (decide ((c : Int) ∈ q))) := by
  match c, hc with
  | 0, _ => rfl
  | 1, _ => rfl
  | 2, _ => rfl
  | 3, _ => rfl
  | 4, _ => rfl
  | 5, _ => rfl
  | 6, _ => rfl
theorem seen_set (q : List Int) (c : Nat) (hc : c < 7) : (seenC q).setIfInBounds c (.bool true) = seenC (q ++ [(c : Int)]) := by
  match c, hc with
  | 0, _ => simp [seenC]
  | 1, _ => simp [seenC]
  | 2, _ => simp [seenC]
  | 3, _ => simp [seenC]
  | 4, _ => simp [seenC]
  | 5, _ => simp [seenC]
  | 6, _ => simp [seenC]
set_option maxRecDepth 20000 in
set_option maxHeartbeats 1000000 in
theorem isballot_any (n : Int) (v : Value) (p : List Int) (w : World) (hn : n ≤ 7) (hr : RdZ w v p) : Calls Try.prog 47 #[.int .i64 n, v] w fun e w' => e = .returned (.bool (ballot n p)) ∧ Kept no w w' := by
  obtain ⟨ao, cap, rfl, hcap, hcm⟩ := Rd.shape2 hr
  have hm63 := maxLen_63
  replace hr := hid hr
  have g0 : Hd ((w.alloc (.cells #[.bool false, .bool false, .bool false, .bool false, .bool false, .bool false, .bool false] 82)).heap[w.heap.size]? = some (.cells (seenC []) 82 (0, 0))) := ⟨heap_alloc_new _ _⟩
  have k0 := hid ((Kept.refl no w).alloc (.cells #[.bool false, .bool false, .bool false, .bool false, .bool false, .bool false, .bool false] 82))
  go_enter Try.func47, Try.ntmps47
  go_wp2
  go_loopw [10] (fun i wr => ∃ k : Nat, k ≤ p.length ∧ i = .int .i64 (k : Int) ∧ Hd (ballot n (p.take k) = true) ∧ Hd (wr.heap[w.heap.size]? = some (.cells (seenC (p.take k)) 82 (0, 0))) ∧ Hd (Kept no w wr)) (fun i _ => p.length - (intOf i).toNat)
  case atStart => exact ⟨0, by omega, rfl, ⟨by rw [ballot_iff]; simp⟩, g0, k0⟩
  case round =>
    clear g0 k0
    obtain ⟨k, hk, rfl, hb, hg, hW⟩ := hrel
    by_cases hlt : k < p.length
    · have hk1 : (k : Int) < (p.length : Int) := by omega
      have hk0 : (0 : Int) ≤ (k : Int) := by omega
      obtain ⟨b, o, rfl, hc⟩ := (hr.out.kept hW.out).at k hlt
      have HS := hid (ballot_step hlt hb.out)
      have HF := hid (ballot_fail hlt hb.out)
      have HT : Hd (p.take (k + 1) = p.take k ++ [p.getD k 0]) := ⟨by rw [List.take_succ_eq_append_getElem hlt]; simp [List.getD_eq_getElem?_getD, hlt]⟩
      generalize p.getD k 0 = z at hc HS HF HT
      by_cases h0 : z < 0
      · have hd : decide (z < 0) = true := decide_eq_true h0
        have hv := hid (HF.out (by omega))
        clear HS HF HT hb
        go_wp2
        go_ret
        exact ⟨by rw [hv.out]; rfl, hW.out⟩
      · have hd : decide (z < 0) = false := decide_eq_false h0
        by_cases h1 : n ≤ z
        · have hd1 : decide (n ≤ z) = true := decide_eq_true h1
          have hv := hid (HF.out (by omega))
          clear HS HF HT hb
          go_wp2
          go_ret
          exact ⟨by rw [hv.out]; rfl, hW.out⟩
        · obtain ⟨c, rfl⟩ : ∃ c : Nat, z = (c : Int) := ⟨z.toNat, by omega⟩
          have hd1 : decide (n ≤ (c : Int)) = false := decide_eq_false h1
          have hc7 : (c : Int) < 7 := by omega
          have hc0 : (0 : Int) ≤ (c : Int) := by omega
          have cs : wr.cell? ⟨w.heap.size, c, none⟩ = some (.bool (decide ((c : Int) ∈ p.take k))) := by rw [cell_of_row wr _ c _ _ _ hg.out]; exact seen_at _ _ (by omega)
          have fs : wr.frozen? ⟨w.heap.size, c, none⟩ = false := row_free hg.out c
          by_cases h2 : (c : Int) ∈ p.take k
          · have hv := hid (HF.out (fun h => h.2.2 h2))
            rw [decide_eq_true h2] at cs
            clear HS HF HT hb h2 fs
            go_wp2
            go_ret
            exact ⟨by rw [hv.out]; rfl, hW.out⟩
          · have hb' := hid (HS.out.2 ⟨by omega, by omega, h2⟩)
            rw [decide_eq_false h2] at cs
            have hg' : Hd ((wr.setCell ⟨w.heap.size, c, none⟩ (.bool true)).heap[w.heap.size]? = some (.cells (seenC (p.take (k + 1))) 82 (0, 0))) := ⟨by rw [setCell_row hg.out, seen_set _ _ (by omega), HT.out]⟩
            have hW' := hid (hW.out.setCell (a := ⟨w.heap.size, c, none⟩) (.inr (Nat.le_refl _)) (.bool true))
            clear HS HF HT hb h2 hg hW
            go_wp2
            go_roundw
            case rel => first | exact ⟨k + 1, by omega, by go_num, hb', hg', hW'⟩ | ((repeat apply Exists.intro); exact ⟨⟨k + 1, by omega, by go_num, hb', hg', hW'⟩, rfl⟩)
            case measure => simp [intOf]; omega
    · obtain rfl : k = p.length := by omega
      have hv : Hd (ballot n p = true) := ⟨by have := hb.out; rwa [List.take_length] at this⟩
      clear hb
      go_wp2
      go_ret
      exact ⟨by rw [hv.out]; rfl, hW.out⟩
set_option maxHeartbeats 400000 in
theorem isnanz_any (x : Int) (w : World) : Calls Try.prog 80 #[.int .i64 x] w fun e w' => e = .returned (.bool false) ∧ w' = w := by
  have hb : (x != x) = false := by simp
  go_enter Try.func80, Try.ntmps80
  go_wp2
  go_ret
  exact ⟨rfl, rfl⟩
def cmpI (x y : Int) : Int := if x < y then -1 else if y < x then 1 else 0
set_option maxHeartbeats 400000 in
theorem cmpi_any (x y : Int) (w : World) : Calls Try.prog 77 #[.int .i64 x, .int .i64 y] w fun e w' => e = .returned (.int .i64 (cmpI x y)) ∧ w' = w := by
  have HN := hid isnanz_any
  have hc := hid (show cmpI x y = if x < y then -1 else if y < x then 1 else 0 from rfl)
  go_enter Try.func77, Try.ntmps77
  go_wp2_with fail
  refine (HN.out x w).mono ?_
  rintro e w' ⟨rfl, rfl⟩
  go_wp2_with fail
  refine (HN.out y _).mono ?_
  rintro e w'' ⟨rfl, rfl⟩
  by_cases h1 : x < y
  · rw [if_pos h1] at hc
    go_wp2
    go_ret
    exact ⟨by rw [hc.out]; rfl, rfl⟩
  · rw [if_neg h1] at hc
    by_cases h2 : y < x
    · rw [if_pos h2] at hc
      go_wp2
      go_ret
      exact ⟨by rw [hc.out]; rfl, rfl⟩
    · rw [if_neg h2] at hc
      go_wp2
      go_ret
      exact ⟨by rw [hc.out]; rfl, rfl⟩
set_option maxRecDepth 20000 in
set_option maxHeartbeats 1000000 in
theorem compare_any (va vb : Value) (xs ys : List Int) (w : World) (ha : RdZ w va xs) (hb : RdZ w vb ys) : Calls Try.prog 66 #[va, vb] w fun e w' => e = .returned (.int .i64 (cmp xs ys)) ∧ w' = w := by
  obtain ⟨ao, ca, rfl, hca, hcm⟩ := Rd.shape2 ha
  obtain ⟨bo, cb, rfl, hcb, hcn⟩ := Rd.shape2 hb
  have hm63 := maxLen_63
  replace ha := hid ha
  replace hb := hid hb
  go_enter Try.func66, Try.ntmps66
  go_wp2
  go_loopw [11] (fun i wr => ∃ k : Nat, k ≤ xs.length ∧ k ≤ ys.length ∧ i = .int .i64 (k : Int) ∧ Hd (xs.take k = ys.take k) ∧ Hd (wr = w)) (fun i _ => xs.length - (intOf i).toNat)
  case atStart => exact ⟨0, by omega, by omega, rfl, ⟨rfl⟩, ⟨rfl⟩⟩
  case round =>
    obtain ⟨k, hk, hk', rfl, ht, hW⟩ := hrel
    obtain rfl := hW.out
    by_cases hlt : k < xs.length
    · obtain ⟨b1, o1, rfl, c1⟩ := ha.out.at k hlt
      have hk1 : (k : Int) < (xs.length : Int) := by omega
      by_cases hlt2 : k < ys.length
      · obtain ⟨b2, o2, rfl, c2⟩ := hb.out.at k hlt2
        have hk2 : (k : Int) < (ys.length : Int) := by omega
        have hk3 : ¬ (ys.length : Int) ≤ (k : Int) := by omega
        have hat := hid (fun h => cmp_at (xs := xs) (ys := ys) hlt hlt2 ht.out h)
        have hnx := hid (fun h => take_eqZ (xs := xs) (ys := ys) hlt hlt2 ht.out h)
        generalize xs.getD k 0 = x at c1 hat hnx
        generalize ys.getD k 0 = y at c2 hat hnx
        have HC := hid (cmpi_any x y)
        clear ht
        go_wp2_with fail
        refine (HC.out _).mono ?_
        rintro e w' ⟨rfl, rfl⟩
        by_cases he : x = y
        · have hz : cmpI x y = 0 := by subst he; simp [cmpI]
          rw [hz]
          have hnx' := hid (hnx.out he)
          clear hnx hat hz he HC
          go_wp2
          go_roundw
          case rel => first | exact ⟨k + 1, by omega, by omega, by go_num, hnx', hW⟩ | ((repeat apply Exists.intro); exact ⟨⟨k + 1, by omega, by omega, by go_num, hnx', hW⟩, rfl⟩)
          case measure => simp [intOf]; omega
        · have hz : cmpI x y ≠ 0 := by unfold cmpI; split; decide; split; decide; omega
          have hr : Hd (cmp xs ys = cmpI x y) := ⟨by rw [hat.out he]; unfold cmpI; split; rfl; rw [if_pos (by omega)]⟩
          have hzb : (cmpI x y != 0) = true := by simpa using hz
          generalize cmpI x y = r at hz hr hzb
          clear hnx hat he HC
          go_wp2
          go_ret
          exact ⟨by rw [hr.out]; rfl, rfl⟩
      · have hk3 : (ys.length : Int) ≤ (k : Int) := by omega
        have hr : Hd (cmp xs ys = 1) := ⟨cmp_pos (by have := ht.out; rw [show k = ys.length by omega, List.take_length] at this; exact this.symm) (by omega)⟩
        clear ht
        go_wp2
        go_ret
        exact ⟨by rw [hr.out]; rfl, rfl⟩
    · have hk1 : ¬ (k : Int) < (xs.length : Int) := by omega
      have hr : Hd (cmp xs ys = if xs.length < ys.length then -1 else 0) := ⟨cmp_pre (by have := ht.out; rwa [show k = xs.length by omega, List.take_length] at this)⟩
      clear ht
      by_cases hl : xs.length < ys.length
      · have hl1 : (xs.length : Int) < (ys.length : Int) := by omega
        rw [if_pos hl] at hr
        go_wp2
        go_ret
        exact ⟨by rw [hr.out]; rfl, rfl⟩
      · have hl1 : ¬ (xs.length : Int) < (ys.length : Int) := by omega
        rw [if_neg hl] at hr
        go_wp2
        go_ret
        exact ⟨by rw [hr.out]; rfl, rfl⟩
set_option maxRecDepth 20000 in
set_option maxHeartbeats 1000000 in
theorem equal_any (va vb : Value) (xs ys : List Int) (w : World) (ha : RdZ w va xs) (hb : RdZ w vb ys) : Calls Try.prog 75 #[va, vb] w fun e w' => e = .returned (.bool (decide (xs = ys))) ∧ Qt w w' := by
  obtain ⟨ao, ca, rfl, hca, hcm⟩ := Rd.shape2 ha
  obtain ⟨bo, cb, rfl, hcb, hcn⟩ := Rd.shape2 hb
  have hm63 := maxLen_63
  replace ha := hid ha
  replace hb := hid hb
  by_cases hl : xs.length = ys.length
  · have hlb : ((xs.length : Int) != (ys.length : Int)) = false := by simp [hl]
    replace hl := hid hl
    go_enter Try.func75, Try.ntmps75
    go_wp2
    go_loopw [5, 13] (fun _ i wr => ∃ k : Nat, k ≤ xs.length ∧ i = .int .i64 (k : Int) ∧ Hd (xs.take k = ys.take k) ∧ Hd (Qt w wr)) (fun _ i _ => xs.length - (intOf i).toNat)
    case atStart => exact ⟨0, by omega, rfl, ⟨rfl⟩, ⟨Qt.refl _⟩⟩
    case round =>
      obtain ⟨k, hk, rfl, ht, hW⟩ := hrel
      by_cases hlt : k < xs.length
      · have hlt2 : k < ys.length := by have := hl.out; omega
        have hk1 : (k : Int) < (xs.length : Int) := by omega
        have hk2 : (k : Int) < (ys.length : Int) := by omega
        obtain ⟨b1, o1, rfl, c1⟩ := (ha.out.kept hW.out.kept).at k hlt
        obtain ⟨b2, o2, rfl, c2⟩ := (hb.out.kept hW.out.kept).at k hlt2
        have heq := hid (fun h => take_eqZ hlt hlt2 ht.out h)
        have hne := hid (fun h => (cmp_at hlt hlt2 ht.out h))
        generalize xs.getD k 0 = x at c1 hne heq
        generalize ys.getD k 0 = y at c2 hne heq
        by_cases he : x = y
        · have hb0 : (x != y) = false := by simpa using he
          have ht' := hid (heq.out he)
          clear he hne heq ht
          go_wp2_with fail
          go_quiet (fail)
          have hW' := hid (hW.out.drewN nq)
          go_wp2
          go_roundw
          case rel => first | exact ⟨k + 1, by omega, by go_num, ht', hW'⟩ | ((repeat apply Exists.intro); exact ⟨⟨k + 1, by omega, by go_num, ht', hW'⟩, rfl⟩)
          case measure => simp [intOf]; omega
        · have hb0 : (x != y) = true := by simpa using he
          have hv : Hd (decide (xs = ys) = false) := ⟨decide_eq_false fun e => by
            have := hne.out he
            rw [e, cmp_self] at this
            split at this <;> omega⟩
          clear he hne heq ht
          go_wp2_with fail
          go_quiet (fail)
          have hW' := hid (hW.out.drewN nq)
          go_wp2
          go_ret
          exact ⟨by rw [hv.out]; rfl, hW'.out⟩
      · have hk1 : ¬ (k : Int) < (xs.length : Int) := by omega
        have hv : Hd (decide (xs = ys) = true) := ⟨decide_eq_true (by
          have h1 := ht.out
          rwa [List.take_of_length_le (by omega), List.take_of_length_le (by have := hl.out; omega)] at h1)⟩
        clear ht
        go_wp2
        go_ret
        exact ⟨by rw [hv.out]; rfl, hW.out⟩
  · have hlb : ((xs.length : Int) != (ys.length : Int)) = true := by rw [bne_iff_ne]; omega
    have hv : Hd (decide (xs = ys) = false) := ⟨decide_eq_false fun e => hl (by rw [e])⟩
    clear hl
    go_enter Try.func75, Try.ntmps75
    go_wp2
    go_ret
    exact ⟨by rw [hv.out]; rfl, Qt.refl _⟩
set_option maxHeartbeats 400000 in
theorem clonez_any (v : Value) (xs : List Int) (w : World) (hl : xs.length ≤ 1099511627776) (hr : RdZ w v xs) :
    Calls Try.prog 48 #[v] w fun e w' => ∃ v', e = .returned v' ∧ w'.ownsRow 0 3 1 v' xs.length (xs.map Z) ∧ Kept no w w' ∧ New w v' := by
  obtain ⟨h1, ao, cap, rfl, h2, h3, hao⟩ := id hr
  have he := fun (w : World) (a : Option Addr) (n c : Nat) => Lib.run_eql_slice_nil (P := Try.prog) w 36 3 a n c 0 0 Try.underlying36
  cases ao with
  | none =>
    have hx : xs = [] := List.eq_nil_of_length_eq_zero (by rcases hao with h | ⟨_, _, h, _⟩; omega; cases h)
    subst hx
    go_enter Try.func48, Try.ntmps48
    go_wp2
    go_ret
    exact ⟨_, rfl, World.ownsRow_nil _ _ _ _, Kept.refl _ _, .inl rfl⟩
  | some ad =>
    have hr' : Rd (w.alloc (.cells #[] 3)) 1 _ _ _ := Rd.alloc hr _
    have hown : (w.alloc (.cells #[] 3)).ownsRow 0 3 1 (.slice (some ⟨w.heap.size, 0, none⟩) 0 0) 0 [] := ⟨rfl, .inr ⟨w.heap.size, 0, #[], rfl, Nat.zero_le _, heap_alloc_new w _, Nat.le_refl _, Nat.zero_le _, rfl, rfl⟩⟩
    go_enter Try.func48, Try.ntmps48
    go_wp2_with (at_builtin; refine wpList_append _ rfl _ _ 36 rfl 3 1 8 TInts _ _ _ rfl hown _ _ _ rfl hr' (Z_one xs) ?c1 ?c2 ?_)
    case c1 => unfold maxLen; omega
    case c2 => omega
    intro v' w' h4 h5 h6 _
    have hk : Kept no w w' := ((Kept.refl no w).alloc _).trans h5 fun k hk e => by
      simp only [ob, Value.ownBlock, Option.some.injEq] at e; omega
    have hn : New w v' := by
      rcases h6 with h6 | ⟨k, h6, h7⟩
      · exact .inr ⟨w.heap.size, h6, Nat.le_refl _⟩
      · exact .inr ⟨k, h6, by rw [World.size_alloc] at h7; omega⟩
    have h4' : Hd (w'.ownsRow 0 3 1 v' xs.length (xs.map Z)) := ⟨by simpa using h4⟩
    clear h5 h6 hown hr' hr hao h4
    go_wp2
    go_ret
    exact ⟨_, rfl, h4'.out, hk, hn⟩
end Go.Proofs.Ytmigdhbolbhbeaa
