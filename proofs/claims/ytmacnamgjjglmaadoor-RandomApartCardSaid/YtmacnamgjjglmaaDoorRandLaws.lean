/- The laws of layer 5 but the two scripts: walks. -/
import Derived.Test.YtmacnamgjjglmaaDoorOrder
namespace Go.Proofs.YtmacnamgjjglmaaDoor
open Go.RowKit Go.Mk Go.Sha Go.Rnd
set_option maxRecDepth 20000 in
set_option maxHeartbeats 1000000 in
theorem none_any (w : World) (hT : Tab w) (hR : TabR w) : Calls Tryd.prog 14 #[] w fun e w' => e = .returned (.bool true) ∧ Kept no w w' := by
  replace hT := hid hT
  replace hR := hid hR
  have HO := hid (fun w1 h => order_any ⟨#[120]⟩ 0 w1 (by decide) (by decide) h)
  go_enter Tryd.func14, Tryd.ntmps14
  go_wp2_with fail
  refine (awake5_any w hT.out hR.out).mono ?_
  rintro e w1 ⟨rfl, k1⟩
  replace k1 := hid k1
  go_wp2_with fail
  refine (word_nil w1).mono ?_
  rintro e w' ⟨rfl, rfl⟩
  go_wp2_with fail
  refine (below_nil 5 w1).mono ?_
  rintro e w' ⟨rfl, rfl⟩
  go_wp2_with fail
  refine (perm_nil 3 w1).mono ?_
  rintro e w' ⟨rfl, rfl⟩
  go_wp2_with fail
  refine (order_no ⟨#[120]⟩ (-1) w1 (.inl (by decide))).mono ?_
  rintro e w2 ⟨rfl, k2⟩
  replace k1 := hid (k1.out.trans' k2)
  clear k2
  go_wp2_with fail
  refine (order_no ⟨#[120]⟩ 1025 w2 (.inr (by decide))).mono ?_
  rintro e w3 ⟨rfl, k2⟩
  replace k1 := hid (k1.out.trans' k2)
  clear k2
  go_wp2_with fail
  refine (HO.out w3 (hT.out.kept k1.out)).mono ?_
  rintro e w4 ⟨v, rfl, r4, k2⟩
  obtain ⟨a, c, rfl⟩ := r4.shape
  replace k1 := hid (k1.out.trans' k2)
  clear k2 r4
  go_wp2
  go_ret
  exact ⟨rfl, k1.out⟩
/-- n modulo 20, from 0 on. -/
def m20 (n : Int) : Nat := (n % 20).toNat
theorem m20_lt (n : Int) : m20 n < 20 := by unfold m20; omega
theorem m20_of (n : Int) : (n.tmod 20 + 20) % 20 = (m20 n : Int) := by unfold m20; rw [Int.tmod_eq_emod]; split <;> omega
set_option maxRecDepth 20000 in
set_option maxHeartbeats 1000000 in
theorem orderlaw_any (s : ByteArray) (hs : s.size ≤ 9223372036854775807) (n : Int) (w : World) (hT : Tab w) (hR : TabR w) :
    Calls Tryd.prog 12 #[.string s, .int .i64 n] w fun e w' => e = .returned (.bool true) ∧ Kept no w w' := by
  replace hT := hid hT
  replace hR := hid hR
  have HS := hid (short_any s hs w)
  have hz := shortS_size s
  generalize shortS s = t at HS hz
  have hm := m20_of n
  have hm2 := m20_lt n
  have ht1 : n.tmod 20 ≤ 19 := by have := Int.tmod_lt_of_pos n (show (0 : Int) < 20 by decide); omega
  have ht2 : -19 ≤ n.tmod 20 := by have := Int.lt_tmod_of_pos n (show (0 : Int) < 20 by decide); omega
  generalize m20 n = q at hm hm2
  go_enter Tryd.func12, Tryd.ntmps12
  go_wp2_with fail
  refine HS.out.mono ?_
  rintro e w' ⟨rfl, rfl⟩
  clear HS
  have HX := hid (fun w1 h => order_any t q w1 (by omega) (by omega) h)
  have HY := hid (fun w1 h => reforder_any t q w1 (by omega) (by omega) h)
  have hpl := perm_length t.data.toList q 0
  generalize (perm t.data.toList q 0).1 = l at HX HY hpl
  go_upto_region 2 with fail
  rw [hm]
  clear hm ht1 ht2
  go_wp2_with fail
  refine (awake5_any w hT.out hR.out).mono ?_
  rintro e w1 ⟨rfl, k1⟩
  replace k1 := hid k1
  go_wp2_with fail
  refine (HX.out w1 (hT.out.kept k1.out)).mono ?_
  rintro e w2 ⟨v2, rfl, r2, k2⟩
  replace k1 := hid (k1.out.trans' k2)
  replace r2 := hid r2
  clear k2 HX
  go_wp2_with fail
  refine (HY.out w2 (hR.out.kept k1.out)).mono ?_
  rintro e w3 ⟨v3, rfl, r3, k3⟩
  replace k1 := hid (k1.out.trans' k3)
  replace r2 := hid (r2.out.keptNo k3)
  replace r3 := hid r3
  clear k3 HY
  subst hpl
  go_wp2_with fail
  refine (eqi_any v2 v3 l l w3 (by omega) (by omega) r2.out r3.out).mono ?_
  rintro e w4 ⟨rfl, d, hd⟩
  replace k1 := hid (k1.out.drewN d)
  rw [← hd] at k1
  clear hd
  simp only [decide_true]
  go_wp2
  go_ret
  exact ⟨rfl, k1.out⟩
/-- An array of n values. -/
def arrV (f : Nat → Value) (n : Nat) : Array Value := ((List.range n).map f).toArray
theorem arrV_cell {w : World} {g n : Nat} {t : TypeId} {f : Nat → Value} (h : w.heap[g]? = some (.cells (arrV f n) t (0, 0))) (j : Nat) (hj : j < n) : w.cell? ⟨g, j, none⟩ = some (f j) := by
  rw [cell_of_row w g j _ t (0, 0) h]; simp [arrV, hj]
theorem arrV_set {f f' : Nat → Value} {n j : Nat} {x : Value} (hj : f' j = x) (h : ∀ i, i < n → i ≠ j → f' i = f i) : (arrV f n).setIfInBounds j x = arrV f' n := by
  apply Array.ext_getElem?
  intro i
  rw [Array.getElem?_setIfInBounds]
  by_cases e : j = i
  · subst e
    rw [if_pos rfl]
    by_cases hn : j < n
    · simp [arrV, hn, hj]
    · simp [arrV, hn]
  · rw [if_neg e]
    by_cases hn : i < n
    · simp [arrV, hn, h i hn (Ne.symm e)]
    · simp [arrV, hn]
theorem made_bools (n : Nat) : madeCells #[Value.bool false] n = arrV (fun _ => .bool false) n := by
  apply Array.ext
  · simp [madeCells, arrV]
  · intro i h1 h2
    simp [madeCells, Nat.mod_one, arrV]
theorem make_bools (n : Nat) (h : n ≤ 1000000) (w : World) : (Instr.makeSlice 59 (.int .i64 (n : Int)) (.int .i64 (n : Int))).run Tryd.prog w = .ok (.slice (some ⟨w.heap.size, 0, none⟩) n n) (w.alloc (.cells (arrV (fun _ => .bool false) n) 4)) := by
  obtain ⟨i, hi, hz, hs, hb⟩ := info_parts (P := Tryd.prog) (e := 4) (z := .bool false) (size := 1) (bytes := 1) (by kernel_rfl)
  have := run_make (P := Tryd.prog) w 59 4 i _ Tryd.underlying59 hi hz .i64 .i64 n n (by omega) (by omega) (by rw [hb]; omega) (by omega)
  rw [this, hs, Nat.mul_one, Int.toNat_natCast]
  rw [show (Value.bool false).cells = #[Value.bool false] from rfl, made_bools]
def seenF (l : List Nat) (k j : Nat) : Value := .bool (decide (j ∈ l.take k))
theorem seenF_next (l : List Nat) (k : Nat) (h : k < l.length) : seenF l (k + 1) (l.getD k 0) = .bool true ∧ ∀ j, j ≠ l.getD k 0 → seenF l (k + 1) j = seenF l k j := by
  have e : l.take (k + 1) = l.take k ++ [l.getD k 0] := by rw [List.take_succ_eq_append_getElem h, List.getD_eq_getElem?_getD, List.getElem?_eq_getElem h]; rfl
  refine ⟨?_, fun j hj => ?_⟩
  · unfold seenF; rw [e]; simp
  · unfold seenF
    congr 1
    apply decide_eq_decide.2
    rw [e, List.mem_append, List.mem_singleton]
    exact ⟨fun h => h.resolve_right hj, .inl⟩
theorem seenF_new (l : List Nat) (k : Nat) (h : k < l.length) (hn : l.Nodup) : seenF l k (l.getD k 0) = .bool false := by
  unfold seenF
  rw [List.getD_eq_getElem?_getD, List.getElem?_eq_getElem h]
  simp only [Option.getD_some, Value.bool.injEq, decide_eq_false_iff_not]
  intro hm
  obtain ⟨i, hi, he⟩ := List.getElem_of_mem hm
  rw [List.getElem_take] at he
  have hik : i < k := by simp at hi; omega
  exact (List.pairwise_iff_getElem.1 hn) i k (by omega) h hik he
set_option maxRecDepth 20000 in
set_option maxHeartbeats 1000000 in
theorem permlaw_any (s : ByteArray) (hs : s.size ≤ 9223372036854775807) (n : Int) (w : World) (hT : Tab w) (hR : TabR w) :
    Calls Tryd.prog 10 #[.string s, .int .i64 n] w fun e w' => e = .returned (.bool true) ∧ Kept no w w' := by
  replace hT := hid hT
  replace hR := hid hR
  have HS := hid (short_any s hs w)
  have hz := shortS_size s
  generalize shortS s = t at HS hz
  have hm := m20_of n
  have hm2 := m20_lt n
  have ht1 : n.tmod 20 ≤ 19 := by have := Int.tmod_lt_of_pos n (show (0 : Int) < 20 by decide); omega
  have ht2 : -19 ≤ n.tmod 20 := by have := Int.lt_tmod_of_pos n (show (0 : Int) < 20 by decide); omega
  generalize m20 n = q at hm hm2
  go_enter Tryd.func10, Tryd.ntmps10
  go_wp2_with fail
  refine HS.out.mono ?_
  rintro e w' ⟨rfl, rfl⟩
  clear HS
  have HX := hid (fun w1 h => order_any t q w1 (by omega) (by omega) h)
  have hpl := perm_length t.data.toList q 0
  have hpn := hid (perm_nodup t.data.toList q 0)
  have hplt := hid (perm_lt t.data.toList q 0)
  generalize (perm t.data.toList q 0).1 = l at HX hpl hpn hplt
  go_upto_region 2 with fail
  rw [hm]
  clear hm ht1 ht2
  have hmk := fun w => make_bools q (by omega) w
  go_wp2_with fail
  refine (HX.out w hT.out).mono ?_
  rintro e w2 ⟨v2, rfl, r2, k2⟩
  obtain ⟨a2, c2, rfl⟩ := r2.shape
  replace k2 := hid k2
  replace r2 := hid r2
  clear HX
  go_wp2
  have b0 := hid (heap_alloc_new w2 (.cells (arrV (fun _ => .bool false) q) 4))
  have k0 := hid ((Kept.refl no w2).alloc (.cells (arrV (fun _ => .bool false) q) 4))
  clear hmk
  go_loopw [7] (fun i wr => ∃ k : Nat, k ≤ q ∧ i = .int .i64 (k : Int) ∧ Hd (wr.heap[w2.heap.size]? = some (.cells (arrV (seenF l k) q) 4 (0, 0))) ∧ Hd (Kept no w2 wr)) (fun i _ => q - (intOf i).toNat)
  case atStart => exact ⟨0, by omega, rfl, b0, k0⟩
  case round =>
    clear b0 k0
    obtain ⟨k, hk, rfl, b0, k0⟩ := hrel
    by_cases hlt : k < q
    · have hkl : k < l.length := by omega
      obtain ⟨b, o, rfl, c1⟩ := RdI.at (r2.out.keptNo k0.out) hpl k hlt
      have hxl : l.getD k 0 < q := hplt.out _ (by rw [List.getD_eq_getElem?_getD, List.getElem?_eq_getElem hkl]; exact List.getElem_mem hkl)
      have c2' := arrV_cell b0.out (l.getD k 0) hxl
      rw [seenF_new l k hkl hpn.out] at c2'
      have f2 := row_free b0.out (l.getD k 0)
      have hn := seenF_next l k hkl
      have hset := row_set b0.out (l.getD k 0) (.bool true)
      rw [arrV_set hn.1 (fun i _ hne => hn.2 i hne)] at hset
      replace hset := hid hset
      clear hn
      generalize l.getD k 0 = x at c1 hxl c2' f2 hset
      have x1 : ¬ (x : Int) < 0 := by omega
      have x2 : (x : Int) < (q : Int) := by omega
      have x3 : (k : Int) < (q : Int) := by omega
      have x4 : decide ((x : Int) < 0) = false := by simp
      have x5 : decide ((q : Int) ≤ (x : Int)) = false := by simp; omega
      have K1 := hid (k0.out.setCell (a := ⟨w2.heap.size, x, none⟩) (.inr (Nat.le_refl _)) (.bool true))
      clear b0 k0
      go_wp2
      go_roundw
      case rel => first | exact ⟨k + 1, by omega, by go_num, hset, K1⟩ | ((repeat apply Exists.intro); exact ⟨⟨k + 1, by omega, by go_num, hset, K1⟩, rfl⟩)
      case measure => simp [intOf]; omega
    · obtain rfl : k = q := by omega
      have K2 := hid (k2.out.trans' k0.out)
      clear b0 k0 hlt hk
      go_wp2_with fail
      refine (awake5_any wr (hT.out.kept K2.out) (hR.out.kept K2.out)).mono ?_
      rintro e w5 ⟨rfl, k5⟩
      replace K2 := hid (K2.out.trans' k5)
      clear k5
      go_wp2
      go_ret
      exact ⟨rfl, K2.out⟩
set_option maxRecDepth 20000 in
set_option maxHeartbeats 1000000 in
theorem belowlaw_no (s : ByteArray) (hs : s.size ≤ 9223372036854775807) (n : Int) (w : World) (hn : n < 1 ∨ 2147483648 < n) (hT : Tab w) (hR : TabR w) :
    Calls Tryd.prog 11 #[.string s, .int .i64 n] w fun e w' => e = .returned (.bool true) ∧ Kept no w w' := by
  replace hT := hid hT
  replace hR := hid hR
  have HS := hid (short_any s hs w)
  have hz := shortS_size s
  generalize shortS s = t at HS hz
  have hn' := hid hn
  have HW := hid (fun w1 g h => word_any g t 0 w1 (by decide) (by omega) h)
  have HV := hid (fun w1 g h => refword_any g t 0 w1 (by decide) (by omega) h)
  generalize word t.data.toList 0 = x at HW HV
  have hcase : (n < 1 ∧ True) ∨ (¬ n < 1 ∧ 2147483648 < n) := by
    by_cases h : n < 1
    · exact .inl ⟨h, trivial⟩
    · exact .inr ⟨h, by omega⟩
  clear hn
  rcases hcase with ⟨c1, _⟩ | ⟨c1, c2⟩
  all_goals
    go_enter Tryd.func11, Tryd.ntmps11
    go_wp2_with fail
    refine HS.out.mono ?_
    rintro e w' ⟨rfl, rfl⟩
    clear HS
    go_wp2_with fail
    refine (new_any t w).mono ?_
    rintro e w1 ⟨rfl, s1, k1⟩
    replace s1 := hid s1
    replace k1 := hid k1
    go_wp2_with fail
    refine (below_no _ n w1 hn'.out).mono ?_
    rintro e w' ⟨rfl, rfl⟩
    go_wp2_with fail
    refine (awake5_any w1 (hT.out.kept k1.out) (hR.out.kept k1.out)).mono ?_
    rintro e w2 ⟨rfl, k2⟩
    replace s1 := hid (s1.out.kept k2 id)
    replace k1 := hid (k1.out.trans' k2)
    clear k2
    go_wp2_with fail
    refine (HW.out w2 _ s1.out (hT.out.kept k1.out)).mono ?_
    rintro e w3 ⟨rfl, _, k3⟩
    have K3 : Hd (Kept no w w3) := ⟨k1.out.trans k3 fun k hk e => by unfold at1 at e; omega⟩
    clear k3 k1 s1 HW
    have h1 := hid (heap_alloc_new w3 (.cells #[.string t, .int .u64 0] 49))
    have h2 := hid ((Kept.refl no w3).alloc (.cells #[.string t, .int .u64 0] 49))
    have HV2 := hid (HV.out (w3.alloc (.cells #[.string t, .int .u64 0] 49)) _ h1.out ((hR.out.kept K3.out).kept h2.out))
    clear HV h1
    go_wp2_with fail
    refine HV2.out.mono ?_
    rintro e w4 ⟨rfl, _, k4⟩
    have K4 := hid (K3.out.trans' (Kept.new1 h2.out k4))
    clear k4 h2 HV2 K3
    go_wp2
    go_ret
    exact ⟨rfl, K4.out⟩
set_option maxRecDepth 20000 in
set_option maxHeartbeats 1000000 in
theorem belowlaw_yes (s : ByteArray) (hs : s.size ≤ 9223372036854775807) (n : Nat) (w : World) (h1 : 1 ≤ n) (h2 : n ≤ 2147483648) (hT : Tab w) (hR : TabR w) :
    Calls Tryd.prog 11 #[.string s, .int .i64 n] w fun e w' => e = .returned (.bool true) ∧ Kept no w w' := by
  replace hT := hid hT
  replace hR := hid hR
  have HS := hid (short_any s hs w)
  have hz := shortS_size s
  generalize shortS s = t at HS hz
  have HB := hid (fun w1 g h => below_any g t n 0 w1 h1 h2 (by decide) (by omega) h)
  have hb := below_lt t.data.toList n 0 h1
  generalize (below t.data.toList n 0).1 = x at HB hb
  have c1 : ¬ (n : Int) < 1 := by omega
  have c2 : decide ((2147483648 : Int) < (n : Int)) = false := by simp; omega
  have c3 : (0 : Int) ≤ (x : Int) := by omega
  have c4 : (x : Int) < (n : Int) := by omega
  have c5 : decide ((x : Int) < (n : Int)) = true := by simp; omega
  go_enter Tryd.func11, Tryd.ntmps11
  go_wp2_with fail
  refine HS.out.mono ?_
  rintro e w' ⟨rfl, rfl⟩
  clear HS
  go_wp2_with fail
  refine (new_any t w).mono ?_
  rintro e w1 ⟨rfl, s1, k1⟩
  replace s1 := hid s1
  replace k1 := hid k1
  go_wp2_with fail
  refine (HB.out w1 _ s1.out (hT.out.kept k1.out)).mono ?_
  rintro e w2 ⟨rfl, _, k2⟩
  have K2 := hid (Kept.new1 k1.out k2)
  clear k2 k1 s1 HB
  go_wp2_with fail
  refine (awake5_any w2 (hT.out.kept K2.out) (hR.out.kept K2.out)).mono ?_
  rintro e w3 ⟨rfl, k3⟩
  replace K2 := hid (K2.out.trans' k3)
  clear k3
  go_wp2
  go_ret
  exact ⟨rfl, K2.out⟩
theorem belowlaw_any (s : ByteArray) (hs : s.size ≤ 9223372036854775807) (n : Int) (w : World) (hT : Tab w) (hR : TabR w) :
    Calls Tryd.prog 11 #[.string s, .int .i64 n] w fun e w' => e = .returned (.bool true) ∧ Kept no w w' := by
  by_cases h : n < 1 ∨ 2147483648 < n
  · exact belowlaw_no s hs n w h hT hR
  · obtain ⟨m, rfl⟩ : ∃ m : Nat, n = (m : Int) := ⟨n.toNat, by omega⟩
    exact belowlaw_yes s hs m w (by omega) (by omega) hT hR
end Go.Proofs.YtmacnamgjjglmaaDoor
