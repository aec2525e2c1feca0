/- Source.Perm and Order, the program's. -/
import Derived.Test.YtobihnkmmlkccaaDoorBelow
import Derived.RegionTactic
import Derived.BigRegion
import Derived.Laws.MakeOwn
namespace Go.Proofs.YtobihnkmmlkccaaDoor
open Go.RowKit Go.Mk Go.Sha Go.Rnd
def I (n : Nat) : Value := .int .i64 (n : Int)
def ints (l : List Nat) : Array Value := (l.map I).toArray
theorem ints_cell {w : World} {b : Nat} {t : TypeId} {l : List Nat} (h : w.heap[b]? = some (.cells (ints l) t (0, 0))) (j : Nat) (hj : j < l.length) : w.cell? ⟨b, j, none⟩ = some (.int .i64 ((l.getD j 0 : Nat) : Int)) := by
  rw [cell_of_row w b j _ t (0, 0) h]; simp [ints, hj, I]
theorem ints_set (l : List Nat) (i x : Nat) : (ints l).setIfInBounds i (I x) = ints (l.set i x) := by
  simp [ints, List.map_set]
theorem ints_rep (n : Nat) : ints (List.replicate n 0) = Array.replicate n (.int .i64 0) := by
  simp [ints, I]
theorem swap_cells {w : World} {b : Nat} {t : TypeId} {l : List Nat} (h : w.heap[b]? = some (.cells (ints l) t (0, 0))) (i k : Nat) :
    ((w.setCell ⟨b, i, none⟩ (I (l.getD k 0))).setCell ⟨b, k, none⟩ (I (l.getD i 0))).heap[b]? = some (.cells (ints (swap l i k)) t (0, 0)) := by
  have h1 := row_set h i (I (l.getD k 0))
  rw [ints_set] at h1
  have h2 := row_set h1 k (I (l.getD i 0))
  rw [ints_set] at h2
  exact h2
theorem made_ints (n : Nat) : madeCells #[Value.int .i64 0] n = ints (List.replicate n 0) := by
  rw [ints_rep]
  apply Array.ext
  · simp [madeCells]
  · intro i h1 h2
    simp [madeCells, Nat.mod_one]
theorem make_ints (n : Nat) (h : n ≤ 1000000) (w : World) : (Instr.makeSlice 26 (.int .i64 (n : Int)) (.int .i64 (n : Int))).run Tryd.prog w = .ok (.slice (some ⟨w.heap.size, 0, none⟩) n n) (w.alloc (.cells (ints (List.replicate n 0)) 3)) := by
  obtain ⟨i, hi, hz, hs, hb⟩ := info_parts (P := Tryd.prog) (e := 3) (z := .int .i64 0) (size := 1) (bytes := 8) (by kernel_rfl)
  have := run_make (P := Tryd.prog) w 26 3 i _ Tryd.underlying26 hi hz .i64 .i64 n n (by omega) (by omega) (by rw [hb]; omega) (by omega)
  rw [this, hs, Nat.mul_one, Int.toNat_natCast]
  rw [show (Value.int .i64 0).cells = #[Value.int .i64 0] from rfl, made_ints]
set_option maxHeartbeats 400000 in
theorem perm_no (p : Option Addr) (n : Int) (w : World) (hn : n < 0 ∨ 1024 < n) :
    Calls Tryd.prog 17 #[.pointer p, .int .i64 n] w fun e w' => e = .returned (.slice none 0 0) ∧ w = w' := by
  cases p with
  | none =>
    go_enter Tryd.func17, Tryd.ntmps17
    go_wp2
    go_ret
    exact ⟨rfl, rfl⟩
  | some a =>
    rcases hn with hn | hn
    · go_enter Tryd.func17, Tryd.ntmps17
      go_wp2
      go_ret
      exact ⟨rfl, rfl⟩
    · have h1 : ¬ n < 0 := by omega
      go_enter Tryd.func17, Tryd.ntmps17
      go_wp2
      go_ret
      exact ⟨rfl, rfl⟩
set_option maxHeartbeats 400000 in
theorem perm_nil (n : Int) (w : World) :
    Calls Tryd.prog 17 #[.pointer none, .int .i64 n] w fun e w' => e = .returned (.slice none 0 0) ∧ w = w' := by
  go_enter Tryd.func17, Tryd.ntmps17
  go_wp2
  go_ret
  exact ⟨rfl, rfl⟩
set_option maxRecDepth 100000 in
set_option maxHeartbeats 1000000 in
theorem perm_any (g : Nat) (s : ByteArray) (n c : Nat) (w : World) (h2 : n ≤ 1024) (hc : c < 4611686018427200000) (hs : s.size ≤ 1000000) (hS : Src 48 g s c w) (hT : Tab w) :
    Calls Tryd.prog 17 #[.pointer (some ⟨g, 0, none⟩), .int .i64 n] w fun e w' => ∃ v, e = .returned v ∧ Rd w' 1 v n ((perm s.data.toList n c).1.map I) ∧ Src 48 g s (perm s.data.toList n c).2 w' ∧ Kept (at1 g) w w' := by
  replace hT := hid hT
  replace hS := hid hS
  have b1 : ¬ (n : Int) < 0 := by omega
  have b7 : decide ((1024 : Int) < (n : Int)) = false := by simp; omega
  have hmk := fun w => make_ints n (by omega) w
  go_enter Tryd.func17, Tryd.ntmps17
  go_wp2
  have hgl := lt_of_heap hS.out
  have r0 := hid (heap_alloc_new w (.cells (ints (List.replicate n 0)) 3))
  have s0 := hid (hS.out.kept ((Kept.refl no w).alloc (.cells (ints (List.replicate n 0)) 3)) id)
  have k0 := hid (((Kept.refl (at1 g) w).alloc (.cells (ints (List.replicate n 0)) 3)))
  clear hmk
  go_loopw [6, 23] (fun _ i wr => ∃ (k : Nat) (l : List Nat), k ≤ n ∧ i = .int .i64 (k : Int) ∧ l.length = n ∧ Hd (l.take k = List.range k) ∧ Hd (wr.heap[w.heap.size]? = some (.cells (ints l) 3 (0, 0))) ∧ Hd (Src 48 g s c wr) ∧ Hd (Kept (at1 g) w wr)) (fun _ i _ => n - (intOf i).toNat)
  case atStart => exact ⟨0, _, by omega, rfl, by simp, ⟨rfl⟩, r0, s0, k0⟩
  case round =>
    clear r0 s0 k0
    obtain ⟨k, l, hk, rfl, hll, hl, r0, s0, k0⟩ := hrel
    replace hll := hid hll
    by_cases hlt : k < n
    · have f1 : wr.frozen? ⟨w.heap.size, k, none⟩ = false := row_free r0.out k
      have c1 := ints_cell r0.out k (by rw [hll.out]; exact hlt)
      have hk1 : (k : Int) < (n : Int) := by omega
      go_wp2
      have r1 := row_set r0.out k (I k)
      rw [ints_set] at r1
      have s1 : Hd (Src 48 g s c (wr.setCell ⟨w.heap.size, k, none⟩ (I k))) := ⟨by
        unfold Src; rw [Below.heap_setCell _ _ _ _ (by simp; omega)]; exact s0.out⟩
      have k1 := hid (k0.out.setCell (a := ⟨w.heap.size, k, none⟩) (.inr (Nat.le_refl _)) (I k))
      have hl1 : Hd ((l.set k k).take (k + 1) = List.range (k + 1)) := ⟨by
        have hkl : k < l.length := by rw [hll.out]; exact hlt
        rw [List.take_succ_eq_append_getElem (by simpa using hkl), List.range_succ]
        rw [List.take_set_of_le (Nat.le_refl _), hl.out]; simp⟩
      have hll1 : (l.set k k).length = n := by simp [hll.out]
      replace r1 := hid r1
      unfold I at r1 s1 k1
      clear r0 s0 k0 f1 c1 hl hll
      go_roundw
      case rel => first | exact ⟨k + 1, l.set k k, by omega, by go_num, hll1, hl1, r1, s1, k1⟩ | ((repeat apply Exists.intro); exact ⟨⟨k + 1, l.set k k, by omega, by go_num, hll1, hl1, r1, s1, k1⟩, rfl⟩)
      case measure => simp [intOf]; omega
    · obtain rfl : k = n := by omega
      have hle : l = List.range k := by have := hl.out; rwa [List.take_of_length_le (by rw [hll.out]; exact Nat.le_refl _)] at this
      subst hle
      clear hl hll hlt hk
      go_wp2
      have hP := hid (show shuffle s.data.toList (k - 1) c (List.range k) = perm s.data.toList k c from rfl)
      obtain ⟨wo, rfl⟩ : ∃ wo : World, wo = wr := ⟨_, rfl⟩
      go_loopw [7, 8] (fun i _ wr => ∃ (iv : Int) (m c' : Nat) (l : List Nat), i = .int .i64 iv ∧ (iv = (m : Int) ∧ m < k ∨ iv = -1 ∧ k = 0 ∧ m = 0) ∧ c' + 16 * m ≤ c + 16 * k ∧ Hd (l.length = k) ∧ Hd (shuffle s.data.toList m c' l = perm s.data.toList k c) ∧ Hd (wr.heap[w.heap.size]? = some (.cells (ints l) 3 (0, 0))) ∧ Hd (Src 48 g s c' wr) ∧ Hd (Kept (at1 g) w wr)) (fun i _ _ => (intOf i + 1).toNat)
      case atStart =>
        by_cases hk0 : k = 0
        · subst hk0; exact ⟨_, 0, c, _, rfl, .inr ⟨by omega, rfl, rfl⟩, by omega, ⟨by simp⟩, hP, r0, s0, k0⟩
        · exact ⟨_, k - 1, c, _, rfl, .inl ⟨by omega, by omega⟩, by omega, ⟨by simp⟩, hP, r0, s0, k0⟩
      case round =>
        clear r0 s0 k0 hP
        obtain ⟨iv, m, c', l, rfl, hiv, hcc, hll, hP, r0, s0, k0⟩ := hrel
        by_cases hpos : 0 < iv
        · obtain ⟨m', rfl⟩ : ∃ m', m = m' + 1 := ⟨m - 1, by omega⟩
          obtain rfl : iv = (m' : Int) + 1 := by omega
          have hmk : m' + 1 < k := by omega
          have HB := below_any g s (m' + 2) c' wr (by omega) (by omega) (by omega) hs s0.out (hT.out.at1 hS.out k0.out)
          rw [show ((m' + 2 : Nat) : Int) = (m' : Int) + 1 + 1 by omega] at HB
          have hlt := below_lt s.data.toList (m' + 2) c' (by omega)
          have hle := below_le s.data.toList (m' + 2) c'
          have hP2 : Hd (shuffle s.data.toList m' (below s.data.toList (m' + 2) c').2 (swap l (m' + 1) (below s.data.toList (m' + 2) c').1) = perm s.data.toList k c) := ⟨hP.out⟩
          generalize (below s.data.toList (m' + 2) c').1 = kk at HB hlt hP2
          generalize (below s.data.toList (m' + 2) c').2 = cc at HB hle hP2
          replace HB := hid HB
          clear hP hiv
          go_wp2_with fail
          refine HB.out.mono ?_
          rintro e w2 ⟨rfl, s2, k2⟩
          have hbg : ¬ at1 g w.heap.size := fun e => by unfold at1 at e; omega
          have r2 := hid ((k2.block _ (lt_of_heap r0.out) hbg).trans r0.out)
          replace s2 := hid s2
          replace k2 := hid (at1_trans k0.out k2)
          clear HB r0 s0 k0
          have c1 := ints_cell r2.out (m' + 1) (by rw [hll.out]; exact hmk)
          have c2 := ints_cell r2.out kk (by rw [hll.out]; omega)
          have f1 : w2.frozen? ⟨w.heap.size, m' + 1, none⟩ = false := row_free r2.out _
          have f2 : w2.frozen? ⟨w.heap.size, kk, none⟩ = false := row_free r2.out _
          have i1 : (0 : Int) ≤ (m' : Int) + 1 := by omega
          have i2 : (m' : Int) + 1 < (k : Int) := by omega
          have i3 : ((m' : Int) + 1).toNat = m' + 1 := by omega
          have i4 : (kk : Int) < (k : Int) := by omega
          have hsw := hid (swap_cells r2.out (m' + 1) kk)
          generalize l.getD (m' + 1) 0 = x1 at c1 hsw
          generalize l.getD kk 0 = x2 at c2 hsw
          by_cases hik : kk = m' + 1
          · subst hik
            obtain rfl : x1 = x2 := by have h := c1.symm.trans c2; simp at h; omega
            have R3 : Hd (((w2.setCell ⟨w.heap.size, m' + 1, none⟩ (I x1)).setCell ⟨w.heap.size, (m' + 1), none⟩ (I x1)).drew.heap[w.heap.size]? = some (.cells (ints (swap l (m' + 1) (m' + 1))) 3 (0, 0))) := ⟨hsw.out⟩
            have S3 : Hd (Src 48 g s cc ((w2.setCell ⟨w.heap.size, m' + 1, none⟩ (I x1)).setCell ⟨w.heap.size, (m' + 1), none⟩ (I x1)).drew) := ⟨by
              show ((w2.setCell ⟨w.heap.size, m' + 1, none⟩ (I x1)).setCell ⟨w.heap.size, (m' + 1), none⟩ (I x1)).heap[g]? = _
              rw [Below.heap_setCell _ _ _ _ (by simp; omega), Below.heap_setCell _ _ _ _ (by simp; omega)]; exact s2.out⟩
            have K3 : Hd (Kept (at1 g) w ((w2.setCell ⟨w.heap.size, m' + 1, none⟩ (I x1)).setCell ⟨w.heap.size, (m' + 1), none⟩ (I x1)).drew) := ⟨((k2.out.setCell (a := ⟨w.heap.size, m' + 1, none⟩) (.inr (Nat.le_refl _)) (I x1)).setCell (a := ⟨w.heap.size, (m' + 1), none⟩) (.inr (Nat.le_refl _)) (I x1)).drew⟩
            have hl3 : Hd ((swap l (m' + 1) (m' + 1)).length = k) := ⟨by rw [swap_length]; exact hll.out⟩
            unfold I at R3 S3 K3
            clear r2 s2 k2 hsw
            go_wp2
            go_region
            all_goals
              clear c1 c2 f1 f2
              go_wp2
              go_roundw
              case rel => first | exact ⟨(m' : Int), m', cc, _, congrArg (Value.int .i64) (by omega), .inl ⟨rfl, by omega⟩, by omega, hl3, hP2, R3, S3, K3⟩ | ((repeat apply Exists.intro); exact ⟨⟨(m' : Int), m', cc, _, congrArg (Value.int .i64) (by omega), .inl ⟨rfl, by omega⟩, by omega, hl3, hP2, R3, S3, K3⟩, rfl⟩)
              case measure => simp [intOf]; omega
          · have hne : ¬ m' + 1 = kk := fun h => hik h.symm
            have R3 : Hd (((w2.setCell ⟨w.heap.size, m' + 1, none⟩ (I x2)).setCell ⟨w.heap.size, kk, none⟩ (I x1)).drew.heap[w.heap.size]? = some (.cells (ints (swap l (m' + 1) kk)) 3 (0, 0))) := ⟨hsw.out⟩
            have S3 : Hd (Src 48 g s cc ((w2.setCell ⟨w.heap.size, m' + 1, none⟩ (I x2)).setCell ⟨w.heap.size, kk, none⟩ (I x1)).drew) := ⟨by
              show ((w2.setCell ⟨w.heap.size, m' + 1, none⟩ (I x2)).setCell ⟨w.heap.size, kk, none⟩ (I x1)).heap[g]? = _
              rw [Below.heap_setCell _ _ _ _ (by simp; omega), Below.heap_setCell _ _ _ _ (by simp; omega)]; exact s2.out⟩
            have K3 : Hd (Kept (at1 g) w ((w2.setCell ⟨w.heap.size, m' + 1, none⟩ (I x2)).setCell ⟨w.heap.size, kk, none⟩ (I x1)).drew) := ⟨((k2.out.setCell (a := ⟨w.heap.size, m' + 1, none⟩) (.inr (Nat.le_refl _)) (I x2)).setCell (a := ⟨w.heap.size, kk, none⟩) (.inr (Nat.le_refl _)) (I x1)).drew⟩
            have hl3 : Hd ((swap l (m' + 1) kk).length = k) := ⟨by rw [swap_length]; exact hll.out⟩
            unfold I at R3 S3 K3
            clear r2 s2 k2 hsw
            go_wp2
            go_region
            all_goals
              clear c1 c2 f1 f2
              go_wp2
              go_roundw
              case rel => first | exact ⟨(m' : Int), m', cc, _, congrArg (Value.int .i64) (by omega), .inl ⟨rfl, by omega⟩, by omega, hl3, hP2, R3, S3, K3⟩ | ((repeat apply Exists.intro); exact ⟨⟨(m' : Int), m', cc, _, congrArg (Value.int .i64) (by omega), .inl ⟨rfl, by omega⟩, by omega, hl3, hP2, R3, S3, K3⟩, rfl⟩)
              case measure => simp [intOf]; omega
        · have hm0 : m = 0 := by omega
          subst hm0
          have hP3 := hP.out
          simp only [shuffle] at hP3
          have hr : Rd wr 1 (.slice (some ⟨w.heap.size, 0, none⟩) k k) k ((perm s.data.toList k c).1.map I) := by
            rw [← hP3]
            exact Rd.block r0.out (by simp [hll.out]) (by unfold maxLen; omega)
          have hs2 : Src 48 g s (perm s.data.toList k c).2 wr := by rw [← hP3]; exact s0.out
          replace hr := hid hr
          replace hs2 := hid hs2
          clear hP hP3 r0 s0
          go_wp2
          go_ret
          exact ⟨_, rfl, hr.out, hs2.out, k0.out⟩
end Go.Proofs.YtobihnkmmlkccaaDoor
