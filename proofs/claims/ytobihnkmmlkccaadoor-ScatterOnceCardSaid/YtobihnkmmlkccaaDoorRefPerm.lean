/- Source.Perm, the reference's. -/
import Derived.Test.YtobihnkmmlkccaaDoorPerm
import Derived.Test.YtobihnkmmlkccaaDoorRefBelow
namespace Go.Proofs.YtobihnkmmlkccaaDoor
open Go.RowKit Go.Mk Go.Sha Go.Rnd
theorem TInts : ElemT Tryd.prog 26 3 1 8 := .mk' (z := .int .i64 0) (by kernel_rfl) (by kernel_rfl) (by kernel_rfl) (by decide)
/-- A block whose first cells are the list. -/
def RowL (w : World) (b : Nat) (t : TypeId) (l : List Nat) : Prop := ∃ cur, w.heap[b]? = some (.cells cur t (0, 0)) ∧ cur.toList.take l.length = l.map I
theorem RowL.lt {w : World} {b : Nat} {t : TypeId} {l : List Nat} (h : RowL w b t l) : b < w.heap.size := by obtain ⟨_, h, _⟩ := h; exact lt_of_heap h
theorem RowL.cell {w : World} {b : Nat} {t : TypeId} {l : List Nat} (h : RowL w b t l) (j : Nat) (hj : j < l.length) : w.cell? ⟨b, j, none⟩ = some (.int .i64 ((l.getD j 0 : Nat) : Int)) := by
  obtain ⟨cur, h1, h2⟩ := h
  rw [cell_of_row w b j _ t (0, 0) h1]
  have h3 : (cur.toList.take l.length)[j]? = (l.map I)[j]? := by rw [h2]
  rw [List.getElem?_take, if_pos hj, Array.getElem?_toList] at h3
  rw [h3]; simp [hj, I]
theorem RowL.free {w : World} {b : Nat} {t : TypeId} {l : List Nat} (h : RowL w b t l) (j : Nat) : w.frozen? ⟨b, j, none⟩ = false := by
  obtain ⟨cur, h1, _⟩ := h; exact row_free h1 j
theorem RowL.set {w : World} {b : Nat} {t : TypeId} {l : List Nat} (h : RowL w b t l) (i x : Nat) : RowL (w.setCell ⟨b, i, none⟩ (I x)) b t (l.set i x) := by
  obtain ⟨cur, h1, h2⟩ := h
  refine ⟨_, row_set h1 i (I x), ?_⟩
  rw [Array.toList_setIfInBounds, List.length_set, List.take_set, h2, List.map_set]
theorem RowL.swap {w : World} {b : Nat} {t : TypeId} {l : List Nat} (h : RowL w b t l) (i k : Nat) :
    RowL ((w.setCell ⟨b, i, none⟩ (I (l.getD k 0))).setCell ⟨b, k, none⟩ (I (l.getD i 0))) b t (swap l i k) := (h.set i _).set k _
theorem RowL.kept {S : Nat → Prop} {w w' : World} {b : Nat} {t : TypeId} {l : List Nat} (h : RowL w b t l) (hk : Kept S w w') (hn : ¬ S b) : RowL w' b t l := by
  obtain ⟨cur, h1, h2⟩ := h; exact ⟨cur, (hk.block b (lt_of_heap h1) hn).trans h1, h2⟩
theorem RowL.rd {w : World} {b : Nat} {t : TypeId} {l : List Nat} (h : RowL w b t l) (cap : Nat) (h1 : l.length ≤ cap) (h2 : cap ≤ maxLen) : Rd w 1 (.slice (some ⟨b, 0, none⟩) l.length cap) l.length (l.map I) :=
  ⟨by simp, _, cap, rfl, h1, h2, .inr ⟨b, 0, rfl, fun j u hu => by
    have hj : j < l.length := by have := (List.getElem?_eq_some_iff.1 hu).1; simpa using this
    rw [Nat.zero_add, h.cell j hj, ← hu]; simp [hj, I]⟩⟩
set_option maxHeartbeats 400000 in
theorem refperm_no (p : Option Addr) (n : Int) (w : World) (hn : n < 0 ∨ 1024 < n) :
    Calls Tryd.prog 19 #[.pointer p, .int .i64 n] w fun e w' => e = .returned (.slice none 0 0) ∧ w = w' := by
  rcases hn with hn | hn
  · go_enter Tryd.func19, Tryd.ntmps19
    go_wp2
    go_ret
    exact ⟨rfl, rfl⟩
  · have h1 : ¬ n < 0 := by omega
    go_enter Tryd.func19, Tryd.ntmps19
    go_wp2
    go_ret
    exact ⟨rfl, rfl⟩
set_option maxRecDepth 100000 in
set_option maxHeartbeats 1000000 in
theorem refperm_any (g : Nat) (s : ByteArray) (n c : Nat) (w : World) (h2 : n ≤ 1024) (hc : c < 4611686018427200000) (hs : s.size ≤ 1000000) (hS : Src 43 g s c w) (hT : TabR w) :
    Calls Tryd.prog 19 #[.pointer (some ⟨g, 0, none⟩), .int .i64 n] w fun e w' => ∃ v, e = .returned v ∧ Rd w' 1 v n ((perm s.data.toList n c).1.map I) ∧ Src 43 g s (perm s.data.toList n c).2 w' ∧ Kept (at1 g) w w' := by
  replace hT := hid hT
  replace hS := hid hS
  have b1 : ¬ (n : Int) < 0 := by omega
  have b7 : decide ((1024 : Int) < (n : Int)) = false := by simp; omega
  go_enter Tryd.func19, Tryd.ntmps19
  go_wp2
  have hgl := lt_of_heap hS.out
  go_loopw [5, 6] (fun v i wr => ∃ (k : Nat), k ≤ n ∧ i = .int .i64 (k : Int) ∧ Hd (wr.ownsRow 0 3 1 v k ((List.range k).map I)) ∧ Hd (Kept no w wr) ∧ Hd (New w v)) (fun _ i _ => n - (intOf i).toNat)
  case atStart => exact ⟨0, by omega, rfl, ⟨World.ownsRow_nil _ _ _ _⟩, ⟨Kept.refl _ _⟩, ⟨.inl rfl⟩⟩
  case round =>
    obtain ⟨k, hk, rfl, ho, hK, hN⟩ := hrel
    by_cases hlt : k < n
    · have hk1 : (k : Int) < (n : Int) := by omega
      go_wp2_with (at_builtin; refine wpList_append_lit _ rfl _ _ 26 rfl 3 1 8 TInts _ _ _ rfl ho.out 1 [_] rfl rfl ?c1 ?c2 ?c3 ?_)
      case c1 => simp [Value.oneCell']
      case c2 => unfold maxLen; omega
      case c3 => omega
      intro v' w' h3 h4 h5 _
      have h7 : Hd (w'.ownsRow 0 3 1 v' (k + 1) ((List.range (k + 1)).map I)) := ⟨by
        rw [List.range_succ, List.map_append]; exact h3⟩
      have h8 := hid (hN.out.kept hK.out h4)
      have h9 := hid (hN.out.step h5 hK.out.size)
      clear h3 h4 h5 ho hK hN
      go_wp2
      go_roundw
      case rel => first | exact ⟨k + 1, by omega, by go_num, h7, h8, h9⟩ | ((repeat apply Exists.intro); exact ⟨⟨k + 1, by omega, by go_num, h7, h8, h9⟩, rfl⟩)
      case measure => simp [intOf]; omega
    · obtain rfl : k = n := by omega
      have hP := hid (show shuffle s.data.toList (k - 1) c (List.range k) = perm s.data.toList k c from rfl)
      have s0 := hid (hS.out.kept hK.out id)
      have k0 := hid (hK.out.of_no (S := at1 g))
      clear hlt hk
      by_cases hk0 : k = 0
      · subst hk0
        have hp0 : perm s.data.toList 0 c = ([], c) := rfl
        have hr : Hd (Rd wr 1 u5 0 ((perm s.data.toList 0 c).1.map I)) := ⟨by rw [hp0]; exact Rd.of_own ho.out⟩
        have hs2 : Hd (Src 43 g s (perm s.data.toList 0 c).2 wr) := ⟨by rw [hp0]; exact s0.out⟩
        clear hP hp0 ho
        go_wp2
        obtain ⟨wo, rfl⟩ : ∃ wo : World, wo = wr := ⟨_, rfl⟩
        go_loopw [7, 8] (fun i _ wr => i = .int .i64 (-1) ∧ wr = wo) (fun _ _ _ => 0)
        case atStart => exact ⟨rfl, rfl⟩
        case round =>
          obtain ⟨rfl, rfl⟩ := hrel
          go_wp2
          go_ret
          exact ⟨_, rfl, hr.out, hs2.out, k0.out⟩
      obtain ⟨b, cap, rfl, hbl, hrow, hcap1, hcap2⟩ : ∃ b cap, u5 = .slice (some ⟨b, 0, none⟩) k cap ∧ w.heap.size ≤ b ∧ Hd (RowL wr b 3 (List.range k)) ∧ k ≤ cap ∧ cap ≤ maxLen := by
        obtain ⟨_, ⟨rfl, h⟩ | ⟨b, cap, cur, rfl, _, q1, q2, q3, _, q4⟩⟩ := ho.out
        · omega
        · refine ⟨b, cap, rfl, ?_, ⟨⟨cur, q1, by rw [← q4]; simp⟩⟩, q2, q3⟩
          rcases hN.out with h | ⟨j, h, hl⟩
          · cases h
          · cases h; exact hl
      clear ho hN hK
      go_wp2
      obtain ⟨wo, rfl⟩ : ∃ wo : World, wo = wr := ⟨_, rfl⟩
      go_loopw [7, 8] (fun i _ wr => ∃ (iv : Int) (m c' : Nat) (l : List Nat), i = .int .i64 iv ∧ (iv = (m : Int) ∧ m < k ∨ iv = -1 ∧ k = 0 ∧ m = 0) ∧ c' + 16 * m ≤ c + 16 * k ∧ Hd (l.length = k) ∧ Hd (shuffle s.data.toList m c' l = perm s.data.toList k c) ∧ Hd (RowL wr b 3 l) ∧ Hd (Src 43 g s c' wr) ∧ Hd (Kept (at1 g) w wr)) (fun i _ _ => (intOf i + 1).toNat)
      case atStart =>
        exact ⟨_, k - 1, c, _, rfl, .inl ⟨by omega, by omega⟩, by omega, ⟨by simp⟩, hP, hrow, s0, k0⟩
      case round =>
        clear hrow s0 k0 hP
        obtain ⟨iv, m, c', l, rfl, hiv, hcc, hll, hP, r0, s0, k0⟩ := hrel
        by_cases hpos : 1 ≤ iv
        · obtain ⟨m', rfl⟩ : ∃ m', m = m' + 1 := ⟨m - 1, by omega⟩
          obtain rfl : iv = (m' : Int) + 1 := by omega
          have hmk : m' + 1 < k := by omega
          have HB := refbelow_any g s (m' + 2) c' wr (by omega) (by omega) (by omega) hs s0.out (hT.out.at1 hS.out k0.out)
          rw [show ((m' + 2 : Nat) : Int) = (m' : Int) + 1 + 1 by omega] at HB
          have hlt := below_lt s.data.toList (m' + 2) c' (by omega)
          have hle := below_le s.data.toList (m' + 2) c'
          have hP2 : Hd (shuffle s.data.toList m' (below s.data.toList (m' + 2) c').2 (swap l (m' + 1) (below s.data.toList (m' + 2) c').1) = perm s.data.toList k c) := ⟨hP.out⟩
          generalize (below s.data.toList (m' + 2) c').1 = kk at HB hlt hP2
          generalize (below s.data.toList (m' + 2) c').2 = cc at HB hle hP2
          replace HB := hid HB
          clear hP hiv
          go_wp2_with fail
          refine HB.out.mono ?_
          rintro e w2 ⟨rfl, s2, k2⟩
          have hbg : ¬ at1 g b := fun e => by unfold at1 at e; omega
          have r2 := hid (r0.out.kept k2 hbg)
          replace s2 := hid s2
          replace k2 := hid (at1_trans k0.out k2)
          clear HB r0 s0 k0
          have c1 := r2.out.cell (m' + 1) (by rw [hll.out]; exact hmk)
          have c2 := r2.out.cell kk (by rw [hll.out]; omega)
          have f1 : w2.frozen? ⟨b, m' + 1, none⟩ = false := r2.out.free _
          have f2 : w2.frozen? ⟨b, kk, none⟩ = false := r2.out.free _
          have i1 : (0 : Int) ≤ (m' : Int) + 1 := by omega
          have i2 : (m' : Int) + 1 < (k : Int) := by omega
          have i3 : ((m' : Int) + 1).toNat = m' + 1 := by omega
          have i4 : (kk : Int) < (k : Int) := by omega
          have hsw := hid (r2.out.swap (m' + 1) kk)
          generalize l.getD (m' + 1) 0 = x1 at c1 hsw
          generalize l.getD kk 0 = x2 at c2 hsw
          by_cases hik : kk = m' + 1
          · subst hik
            obtain rfl : x1 = x2 := by have h := c1.symm.trans c2; simp at h; omega
            have R3 : Hd (RowL ((w2.setCell ⟨b, m' + 1, none⟩ (I x1)).setCell ⟨b, (m' + 1), none⟩ (I x1)).drew b 3 (swap l (m' + 1) (m' + 1))) := ⟨hsw.out⟩
            have S3 : Hd (Src 43 g s cc ((w2.setCell ⟨b, m' + 1, none⟩ (I x1)).setCell ⟨b, (m' + 1), none⟩ (I x1)).drew) := ⟨by
              show ((w2.setCell ⟨b, m' + 1, none⟩ (I x1)).setCell ⟨b, (m' + 1), none⟩ (I x1)).heap[g]? = _
              rw [Below.heap_setCell _ _ _ _ (by simp; omega), Below.heap_setCell _ _ _ _ (by simp; omega)]; exact s2.out⟩
            have K3 : Hd (Kept (at1 g) w ((w2.setCell ⟨b, m' + 1, none⟩ (I x1)).setCell ⟨b, (m' + 1), none⟩ (I x1)).drew) := ⟨((k2.out.setCell (a := ⟨b, m' + 1, none⟩) (.inr hbl) (I x1)).setCell (a := ⟨b, (m' + 1), none⟩) (.inr hbl) (I x1)).drew⟩
            have hl3 : Hd ((swap l (m' + 1) (m' + 1)).length = k) := ⟨by rw [swap_length]; exact hll.out⟩
            unfold I at R3 S3 K3
            clear r2 s2 k2 hsw
            go_wp2
            go_region
            all_goals
              clear c1 c2 f1 f2
              go_wp2
              go_roundw
              case rel => first | exact ⟨(m' : Int), m', cc, _, congrArg (Value.int .i64) (by omega), .inl ⟨rfl, by omega⟩, by omega, hl3, hP2, R3, S3, K3⟩ | ((repeat apply Exists.intro); exact ⟨⟨(m' : Int), m', cc, _, congrArg (Value.int .i64) (by omega), .inl ⟨rfl, by omega⟩, by omega, hl3, hP2, R3, S3, K3⟩, rfl⟩)
              case measure => simp [intOf]; omega
          · have hne : ¬ m' + 1 = kk := fun h => hik h.symm
            have R3 : Hd (RowL ((w2.setCell ⟨b, m' + 1, none⟩ (I x2)).setCell ⟨b, kk, none⟩ (I x1)).drew b 3 (swap l (m' + 1) kk)) := ⟨hsw.out⟩
            have S3 : Hd (Src 43 g s cc ((w2.setCell ⟨b, m' + 1, none⟩ (I x2)).setCell ⟨b, kk, none⟩ (I x1)).drew) := ⟨by
              show ((w2.setCell ⟨b, m' + 1, none⟩ (I x2)).setCell ⟨b, kk, none⟩ (I x1)).heap[g]? = _
              rw [Below.heap_setCell _ _ _ _ (by simp; omega), Below.heap_setCell _ _ _ _ (by simp; omega)]; exact s2.out⟩
            have K3 : Hd (Kept (at1 g) w ((w2.setCell ⟨b, m' + 1, none⟩ (I x2)).setCell ⟨b, kk, none⟩ (I x1)).drew) := ⟨((k2.out.setCell (a := ⟨b, m' + 1, none⟩) (.inr hbl) (I x2)).setCell (a := ⟨b, kk, none⟩) (.inr hbl) (I x1)).drew⟩
            have hl3 : Hd ((swap l (m' + 1) kk).length = k) := ⟨by rw [swap_length]; exact hll.out⟩
            unfold I at R3 S3 K3
            clear r2 s2 k2 hsw
            go_wp2
            go_region
            all_goals
              clear c1 c2 f1 f2
              go_wp2
              go_roundw
              case rel => first | exact ⟨(m' : Int), m', cc, _, congrArg (Value.int .i64) (by omega), .inl ⟨rfl, by omega⟩, by omega, hl3, hP2, R3, S3, K3⟩ | ((repeat apply Exists.intro); exact ⟨⟨(m' : Int), m', cc, _, congrArg (Value.int .i64) (by omega), .inl ⟨rfl, by omega⟩, by omega, hl3, hP2, R3, S3, K3⟩, rfl⟩)
              case measure => simp [intOf]; omega
        · have hm0 : m = 0 := by omega
          subst hm0
          have hP3 := hP.out
          simp only [shuffle] at hP3
          have hr : Rd wr 1 (.slice (some ⟨b, 0, none⟩) k cap) k ((perm s.data.toList k c).1.map I) := by
            rw [← hP3]
            have := r0.out.rd cap (by rw [hll.out]; exact hcap1) hcap2
            rwa [hll.out] at this
          have hs2 : Src 43 g s (perm s.data.toList k c).2 wr := by rw [← hP3]; exact s0.out
          replace hr := hid hr
          replace hs2 := hid hs2
          clear hP hP3 r0 s0
          go_wp2
          go_ret
          exact ⟨_, rfl, hr.out, hs2.out, k0.out⟩
end Go.Proofs.YtobihnkmmlkccaaDoor
