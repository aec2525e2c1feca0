/- Small functions: Mod, Has, Less, Eq, Place, isNaN, Compare, Equal, Index, Clone. -/
import Derived.Test.YtmigdhbolbhbeaaGrp
namespace Go.Proofs.Ytmigdhbolbhbeaa
open Go.RowKit Go.Mk Go.Pil
/-- x modulo n, from 0 on. -/
def modI (x n : Int) : Int := (x.tmod n + n).tmod n
theorem modI_lt (x n : Int) (h : 0 < n) : 0 ≤ modI x n ∧ modI x n < n := by
  unfold modI
  have h1 := Int.lt_tmod_of_pos x h
  exact ⟨Int.tmod_nonneg _ (by omega), Int.tmod_lt_of_pos _ h⟩
set_option maxHeartbeats 400000 in
theorem mod_any (x n : Int) (w : World) (h : 0 < n) (hn : n ≤ 1000000) : Calls Try.prog 14 #[.int .i64 x, .int .i64 n] w fun e w' => e = .returned (.int .i64 (modI x n)) ∧ w' = w := by
  have h1 := Int.tmod_lt_of_pos x h
  have h2 : -n < x.tmod n := Int.lt_tmod_of_pos x h
  have h3 : 0 ≤ (x.tmod n + n).tmod n := Int.tmod_nonneg _ (by omega)
  have h4 := Int.tmod_lt_of_pos (x.tmod n + n) h
  have e1 : IntKind.i64.wrap (x.tmod n) = x.tmod n := IntWalk.i64_in _ (by omega)
  have e2 : IntKind.i64.wrap (x.tmod n + n) = x.tmod n + n := IntWalk.i64_in _ (by omega)
  have e3 : IntKind.i64.wrap ((x.tmod n + n).tmod n) = (x.tmod n + n).tmod n := IntWalk.i64_in _ (by omega)
  have hz : ¬ n = 0 := by omega
  have hzb : (n == 0) = false := by simpa using hz
  have hm := hid (show modI x n = (x.tmod n + n).tmod n from rfl)
  clear h1 h2 h3 h4
  go_enter Try.func14, Try.ntmps14
  go_wp2
  go_ret
  exact ⟨by rw [hm.out]; rfl, rfl⟩
theorem mem_take_succ {zs : List Int} {k : Nat} (hk : k < zs.length) (x : Int) : x ∈ zs.take (k + 1) ↔ x ∈ zs.take k ∨ x = zs.getD k 0 := by
  rw [List.take_succ_eq_append_getElem hk, List.mem_append]
  simp [List.getD_eq_getElem?_getD, hk]
set_option maxRecDepth 20000 in
set_option maxHeartbeats 1000000 in
theorem has_any (v : Value) (zs : List Int) (x : Int) (w : World) (hr : RdZ w v zs) : Calls Try.prog 72 #[v, .int .i64 x] w fun e w' => e = .returned (.bool (decide (x ∈ zs))) ∧ Qt w w' := by
  obtain ⟨ao, cap, rfl, hcap, hcm⟩ := Rd.shape2 hr
  have hm63 := maxLen_63
  replace hr := hid hr
  go_enter Try.func72, Try.ntmps72
  go_wp2
  go_loopw [5] (fun i wr => ∃ k : Nat, k ≤ zs.length ∧ i = .int .i64 (k : Int) ∧ Hd (x ∉ zs.take k) ∧ Hd (Qt w wr)) (fun i _ => zs.length - (intOf i).toNat)
  case atStart => exact ⟨0, by omega, rfl, ⟨by simp⟩, ⟨Qt.refl _⟩⟩
  case round =>
    obtain ⟨k, hk, rfl, hx, hW⟩ := hrel
    by_cases hlt : k < zs.length
    · obtain ⟨b, o, rfl, hc⟩ := (hr.out.kept hW.out.kept).at k hlt
      have hk1 : (k : Int) < (zs.length : Int) := by omega
      have hst := hid (mem_take_succ hlt x)
      have hml := hid (fun h => List.mem_of_mem_take (i := k + 1) (show x ∈ zs.take (k + 1) from h))
      generalize zs.getD k 0 = z at hc hst
      by_cases he : z = x
      · have hb : (z == x) = true := by simpa using he
        have hv : Hd (decide (x ∈ zs) = true) := ⟨decide_eq_true (hml.out (hst.out.2 (.inr he.symm)))⟩
        clear he
        go_wp2
        go_ret
        exact ⟨by rw [hv.out]; rfl, hW.out⟩
      · have hb : (z == x) = false := by simpa using he
        have hn : Hd (x ∉ zs.take (k + 1)) := ⟨fun h => (hst.out.1 h).elim hx.out fun e => he e.symm⟩
        clear he hst hml hx
        go_wp2
        go_roundw
        case rel => first | exact ⟨k + 1, by omega, by go_num, hn, hW⟩ | ((repeat apply Exists.intro); exact ⟨⟨k + 1, by omega, by go_num, hn, hW⟩, rfl⟩)
        case measure => simp [intOf]; omega
    · obtain rfl : k = zs.length := by omega
      have hv : Hd (decide (x ∈ zs) = false) := ⟨decide_eq_false (by have := hx.out; rwa [List.take_length] at this)⟩
      clear hx
      go_wp2
      go_ret
      exact ⟨by rw [hv.out]; rfl, hW.out⟩
theorem take_eqZ {xs ys : List Int} {k : Nat} (h1 : k < xs.length) (h2 : k < ys.length) (ht : xs.take k = ys.take k) (he : xs.getD k 0 = ys.getD k 0) : xs.take (k + 1) = ys.take (k + 1) := by
  rw [List.take_succ_eq_append_getElem h1, List.take_succ_eq_append_getElem h2, ht]
  rw [List.getD_eq_getElem?_getD, List.getD_eq_getElem?_getD, List.getElem?_eq_getElem h1, List.getElem?_eq_getElem h2] at he
  simp only [Option.getD_some] at he
  rw [he]
theorem lt_at {xs ys : List Int} {k : Nat} (hx : k < xs.length) (hy : k < ys.length) (ht : xs.take k = ys.take k) (hne : xs.getD k 0 ≠ ys.getD k 0) : lt xs ys = decide (xs.getD k 0 < ys.getD k 0) := by
  have h := cmp_at hx hy ht hne
  have h2 := cmp_lt xs ys
  rw [h] at h2
  by_cases hh : xs.getD k 0 < ys.getD k 0
  · rw [if_pos hh] at h2
    rw [decide_eq_true hh]; exact h2.1 (by decide)
  · rw [if_neg hh] at h2
    rw [decide_eq_false hh]
    cases hl : lt xs ys with
    | false => rfl
    | true => have := h2.2 hl; omega
theorem lt_end {xs ys : List Int} {k : Nat} (ht : xs.take k = ys.take k) (h : xs.length = k ∨ ys.length = k) (h1 : k ≤ xs.length) (_ : k ≤ ys.length) : lt xs ys = decide (xs.length < ys.length) := by
  have hc := cmp_lt xs ys
  rcases h with h | h
  · have e : xs = ys.take xs.length := by rw [h, ← ht, ← h, List.take_length]
    rw [cmp_pre e] at hc
    split at hc
    · rename_i hl; rw [decide_eq_true hl]; exact hc.1 (by decide)
    · rename_i hl; rw [decide_eq_false hl]
      cases hh : lt xs ys with
      | false => rfl
      | true => have := hc.2 hh; omega
  · have e : ys = xs.take ys.length := by rw [h, ht, ← h, List.take_length]
    rw [decide_eq_false (by omega)]
    by_cases hl : ys.length < xs.length
    · rw [cmp_pos e hl] at hc
      cases hh : lt xs ys with
      | false => rfl
      | true => have := hc.2 hh; omega
    · have : xs = ys := by rw [e, List.take_of_length_le (by omega)]
      rw [this, lt_irrefl]
set_option maxRecDepth 20000 in
set_option maxHeartbeats 1000000 in
theorem less_any (va vb : Value) (xs ys : List Int) (w : World) (ha : RdZ w va xs) (hb : RdZ w vb ys) : Calls Try.prog 34 #[va, vb] w fun e w' => e = .returned (.bool (lt xs ys)) ∧ Qt w w' := by
  obtain ⟨ao, ca, rfl, hca, hcm⟩ := Rd.shape2 ha
  obtain ⟨bo, cb, rfl, hcb, hcn⟩ := Rd.shape2 hb
  have hm63 := maxLen_63
  replace ha := hid ha
  replace hb := hid hb
  go_enter Try.func34, Try.ntmps34
  go_wp2
  go_loopw [5] (fun i wr => ∃ k : Nat, k ≤ xs.length ∧ k ≤ ys.length ∧ i = .int .i64 (k : Int) ∧ Hd (xs.take k = ys.take k) ∧ Hd (Qt w wr)) (fun i _ => xs.length - (intOf i).toNat)
  case atStart => exact ⟨0, by omega, by omega, rfl, ⟨rfl⟩, ⟨Qt.refl _⟩⟩
  case round =>
    obtain ⟨k, hk, hk', rfl, ht, hW⟩ := hrel
    by_cases hlt : k < xs.length
    · have hk1 : (k : Int) < (xs.length : Int) := by omega
      by_cases hlt2 : k < ys.length
      · have hk2 : (k : Int) < (ys.length : Int) := by omega
        obtain ⟨b1, o1, rfl, c1⟩ := (ha.out.kept hW.out.kept).at k hlt
        obtain ⟨b2, o2, rfl, c2⟩ := (hb.out.kept hW.out.kept).at k hlt2
        have hne := hid (fun h => lt_at hlt hlt2 ht.out h)
        have heq := hid (fun h => take_eqZ hlt hlt2 ht.out h)
        generalize xs.getD k 0 = x at c1 hne heq
        generalize ys.getD k 0 = y at c2 hne heq
        by_cases he : x = y
        · have hb0 : (x != y) = false := by simpa using he
          have ht' := hid (heq.out he)
          clear he hne heq ht
          go_wp2_with fail
          go_quiet (fail)
          have hW' := hid (hW.out.drewN nq)
          go_wp2
          go_roundw
          case rel => first | exact ⟨k + 1, by omega, by omega, by go_num, ht', hW'⟩ | ((repeat apply Exists.intro); exact ⟨⟨k + 1, by omega, by omega, by go_num, ht', hW'⟩, rfl⟩)
          case measure => simp [intOf]; omega
        · have hb0 : (x != y) = true := by simpa using he
          have hv := hid (hne.out he)
          clear he hne heq ht
          go_wp2_with fail
          go_quiet (fail)
          have hW' := hid (hW.out.drewN nq)
          have c1' : (wr.drewN nq).cell? ⟨b1, o1 + k, none⟩ = some (.int .i64 x) := c1
          have c2' : (wr.drewN nq).cell? ⟨b2, o2 + k, none⟩ = some (.int .i64 y) := c2
          go_wp2_with fail
          go_quiet (fail)
          have hW2 := hid (hW'.out.drewN nq)
          go_wp2
          go_ret
          exact ⟨by rw [hv.out]; rfl, hW2.out⟩
      · have hk2 : ¬ (k : Int) < (ys.length : Int) := by omega
        have hv := hid (lt_end ht.out (.inr (by omega)) hk hk')
        have hd : (decide ((xs.length : Int) < (ys.length : Int))) = decide (xs.length < ys.length) := by simp
        have hW' := hW.out
        clear ht
        go_wp2
        go_ret
        exact ⟨by rw [hv.out]; first | rfl | simp, hW'⟩
    · have hk1 : ¬ (k : Int) < (xs.length : Int) := by omega
      have hv := hid (lt_end ht.out (.inl (by omega)) hk hk')
      have hW' := hW.out
      clear ht
      go_wp2
      go_ret
      exact ⟨by rw [hv.out]; first | rfl | simp, hW'⟩
set_option maxHeartbeats 1000000 in
theorem eqz_any (va vb : Value) (xs ys : List Int) (w : World) (ha : RdZ w va xs) (hb : RdZ w vb ys) : Calls Try.prog 52 #[va, vb] w fun e w' => e = .returned (.bool (decide (xs = ys))) ∧ Qt w w' := by
  have H1 := hid (less_any va vb xs ys w ha hb)
  have H2 := hid (fun W (k : Qt w W) => less_any vb va ys xs W (hb.kept k.kept) (ha.kept k.kept))
  have hv : Hd (decide (xs = ys) = (!lt xs ys && !lt ys xs)) := ⟨by
    rcases lt_tri xs ys with h | h | h
    · rw [decide_eq_false (lt_ne h), h]; rfl
    · subst h; simp [lt_irrefl]
    · rw [decide_eq_false (Ne.symm (lt_ne h)), h]; simp⟩
  cases h1 : lt xs ys with
  | true =>
    rw [h1] at H1 hv
    clear h1
    go_enter Try.func52, Try.ntmps52
    go_wp2_with fail
    refine H1.out.mono ?_
    rintro e w1 ⟨rfl, k1⟩
    replace k1 := hid k1
    go_wp2_with fail
    go_ret
    exact ⟨by rw [hv.out]; rfl, k1.out⟩
  | false =>
    rw [h1] at H1 hv
    clear h1
    generalize lt ys xs = r at H2 hv
    go_enter Try.func52, Try.ntmps52
    go_wp2_with fail
    refine H1.out.mono ?_
    rintro e w1 ⟨rfl, k1⟩
    replace H2 := hid (H2.out w1 k1)
    replace k1 := hid k1
    go_wp2_with fail
    refine H2.out.mono ?_
    rintro e w2 ⟨rfl, k2⟩
    have K2 := hid (k1.out.trans k2)
    clear k2
    cases r
    · go_wp2_with fail
      go_ret
      exact ⟨by rw [hv.out]; rfl, K2.out⟩
    · go_wp2_with fail
      go_ret
      exact ⟨by rw [hv.out]; rfl, K2.out⟩
end Go.Proofs.Ytmigdhbolbhbeaa
