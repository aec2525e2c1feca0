/- New, Order, Eq (printed by gen_ord17.py out of XOrder). -/
import Derived.Test.YtobihnkmmlkccaaDoorRefPerm
import Derived.Deep.QuietTactic
import Derived.BigQuiet
namespace Go.Proofs.YtobihnkmmlkccaaDoor
open Go.RowKit Go.Mk Go.Sha Go.Rnd
theorem Kept.new1 {w w1 w' : World} (h : Kept no w w1) (h' : Kept (at1 w.heap.size) w1 w') : Kept no w w' :=
  h.trans h' fun k hk e => by unfold at1 at e; omega
set_option maxHeartbeats 400000 in
theorem new_any (s : ByteArray) (w : World) :
    Calls Tryd.prog 16 #[.string s] w fun e w' => e = .returned (.pointer (some ⟨w.heap.size, 0, none⟩)) ∧ Src 48 w.heap.size s 0 w' ∧ Kept no w w' := by
  have h1 := hid (heap_alloc_new w (.cells #[.string s, .int .u64 0] 48))
  have h2 := hid ((Kept.refl no w).alloc (.cells #[.string s, .int .u64 0] 48))
  go_enter Tryd.func16, Tryd.ntmps16
  go_wp2
  go_ret
  exact ⟨rfl, h1.out, h2.out⟩
set_option maxHeartbeats 400000 in
theorem word_nil (w : World) : Calls Tryd.prog 27 #[.pointer none] w fun e w' => e = .returned (.int .u64 0) ∧ w = w' := by
  go_enter Tryd.func27, Tryd.ntmps27
  go_wp2
  go_ret
  exact ⟨rfl, rfl⟩
set_option maxHeartbeats 400000 in
theorem order_any (s : ByteArray) (n : Nat) (w : World) (hn : n ≤ 1024) (hs : s.size ≤ 1000000) (hT : Tab w) :
    Calls Tryd.prog 11 #[.string s, .int .i64 n] w fun e w' => ∃ v, e = .returned v ∧ Rd w' 1 v n ((perm s.data.toList n 0).1.map I) ∧ Kept no w w' := by
  replace hT := hid hT
  go_enter Tryd.func11, Tryd.ntmps11
  go_wp2_with fail
  refine (new_any s w).mono ?_
  rintro e w1 ⟨rfl, s1, k1⟩
  have HP := hid (perm_any w.heap.size s n 0 w1 hn (by omega) hs s1 (hT.out.kept k1))
  clear s1
  replace k1 := hid k1
  go_wp2_with fail
  refine HP.out.mono ?_
  rintro e w2 ⟨v, rfl, r2, _, k2⟩
  replace k1 := hid (Kept.new1 k1.out k2)
  replace r2 := hid r2
  clear k2
  go_wp2
  go_ret
  exact ⟨_, rfl, r2.out, k1.out⟩
set_option maxHeartbeats 400000 in
theorem order_no (s : ByteArray) (n : Int) (w : World) (hn : n < 0 ∨ 1024 < n) :
    Calls Tryd.prog 11 #[.string s, .int .i64 n] w fun e w' => e = .returned (.slice none 0 0) ∧ Kept no w w' := by
  have hn := hid hn
  go_enter Tryd.func11, Tryd.ntmps11
  go_wp2_with fail
  refine (new_any s w).mono ?_
  rintro e w1 ⟨rfl, _, k1⟩
  replace k1 := hid k1
  go_wp2_with fail
  refine (perm_no _ n w1 hn.out).mono ?_
  rintro e w2 ⟨rfl, rfl⟩
  go_wp2
  go_ret
  exact ⟨rfl, k1.out⟩
set_option maxHeartbeats 400000 in
theorem reforder_any (s : ByteArray) (n : Nat) (w : World) (hn : n ≤ 1024) (hs : s.size ≤ 1000000) (hT : TabR w) :
    Calls Tryd.prog 13 #[.string s, .int .i64 n] w fun e w' => ∃ v, e = .returned v ∧ Rd w' 1 v n ((perm s.data.toList n 0).1.map I) ∧ Kept no w w' := by
  replace hT := hid hT
  have h1 := hid (heap_alloc_new w (.cells #[.string s, .int .u64 0] 43))
  have h2 := hid ((Kept.refl no w).alloc (.cells #[.string s, .int .u64 0] 43))
  have HP := hid (refperm_any w.heap.size s n 0 (w.alloc (.cells #[.string s, .int .u64 0] 43)) hn (by omega) hs h1.out (hT.out.kept h2.out))
  go_enter Tryd.func13, Tryd.ntmps13
  go_wp2_with fail
  refine HP.out.mono ?_
  rintro e w2 ⟨v, rfl, r2, _, k2⟩
  replace h2 := hid (Kept.new1 h2.out k2)
  replace r2 := hid r2
  clear k2 h1 HP
  go_wp2
  go_ret
  exact ⟨_, rfl, r2.out, h2.out⟩
set_option maxHeartbeats 400000 in
theorem reforder_no (s : ByteArray) (n : Int) (w : World) (hn : n < 0 ∨ 1024 < n) :
    Calls Tryd.prog 13 #[.string s, .int .i64 n] w fun e w' => e = .returned (.slice none 0 0) ∧ Kept no w w' := by
  have hn := hid hn
  have h2 := hid ((Kept.refl no w).alloc (.cells #[.string s, .int .u64 0] 43))
  go_enter Tryd.func13, Tryd.ntmps13
  go_wp2_with fail
  refine (refperm_no _ n _ hn.out).mono ?_
  rintro e w2 ⟨rfl, rfl⟩
  go_wp2
  go_ret
  exact ⟨rfl, h2.out⟩
/-- The cell of element k of a slice that reads as a list of numbers. -/
theorem RdI.at {w : World} {ao : Option Addr} {n cap : Nat} {l : List Nat} (h : Rd w 1 (.slice ao n cap) n (l.map I)) (hl : l.length = n) (k : Nat) (hk : k < n) :
    ∃ b o, ao = some ⟨b, o, none⟩ ∧ w.cell? ⟨b, o + k, none⟩ = some (.int .i64 ((l.getD k 0 : Nat) : Int)) := by
  obtain ⟨_, _, _, e, h1, _, h | ⟨b, o, rfl, hc⟩⟩ := h
  · cases e; omega
  · cases e
    refine ⟨b, o, rfl, hc k _ ?_⟩
    simp [show k < l.length by omega, I]
theorem _root_.Go.Mk.Rd.shape {w : World} {size n : Nat} {v : Value} {xs : List Value} (h : Rd w size v n xs) : ∃ ao cap, v = .slice ao n cap := by
  obtain ⟨_, ao, cap, h, _⟩ := h; exact ⟨ao, cap, h⟩
theorem take_eqN (xs ys : List Nat) (k : Nat) (h1 : k < xs.length) (h2 : k < ys.length) (ht : xs.take k = ys.take k) (he : xs.getD k 0 = ys.getD k 0) : xs.take (k + 1) = ys.take (k + 1) := by
  rw [List.take_succ_eq_append_getElem h1, List.take_succ_eq_append_getElem h2, ht]
  rw [List.getD_eq_getElem?_getD, List.getD_eq_getElem?_getD, List.getElem?_eq_getElem h1, List.getElem?_eq_getElem h2] at he
  simp only [Option.getD_some] at he
  rw [he]
set_option maxRecDepth 20000 in
set_option maxHeartbeats 400000 in
theorem eqi_any (va vb : Value) (xs ys : List Nat) (w : World) (hx : xs.length ≤ 1099511627776) (hy : ys.length ≤ 1099511627776) (ha : Rd w 1 va xs.length (xs.map I)) (hb : Rd w 1 vb ys.length (ys.map I)) :
    Calls Tryd.prog 7 #[va, vb] w fun e w' => e = .returned (.bool (decide (xs = ys))) ∧ ∃ q, w' = w.drewN q := by
  obtain ⟨ao, ca, rfl⟩ := ha.shape
  obtain ⟨bo, cb, rfl⟩ := hb.shape
  have ha := hid ha
  have hb := hid hb
  by_cases hl : xs.length = ys.length
  · have hlb : ((xs.length : Int) != (ys.length : Int)) = false := by simp [hl]
    have hl' := hid hl
    clear hl
    go_enter Tryd.func7, Tryd.ntmps7
    go_wp2
    go_loopw [5] (fun i wr => ∃ k : Nat, k ≤ xs.length ∧ i = .int .i64 k ∧ xs.take k = ys.take k ∧ Hd (∃ q, wr = w.drewN q)) (fun i _ => xs.length - (intOf i).toNat)
    case atStart => exact ⟨0, by omega, rfl, rfl, ⟨⟨0, rfl⟩⟩⟩
    case round =>
      obtain ⟨k, hk, rfl, ht, hW⟩ := hrel
      have hK : Kept no w wr := by obtain ⟨q, h⟩ := hW.out; rw [h]; exact (Kept.refl no w).drewN q
      have ht := hid ht
      by_cases hlt : k < xs.length
      · have hlt2 : k < ys.length := by have := hl'.out; omega
        obtain ⟨b1, o1, rfl, c1⟩ := RdI.at (ha.out.keptNo hK) rfl k hlt
        obtain ⟨b2, o2, rfl, c2⟩ := RdI.at (hb.out.keptNo hK) rfl k hlt2
        have hk1 : (k : Int) < (xs.length : Int) := by omega
        have hk2 : (k : Int) < (ys.length : Int) := by omega
        generalize hex : xs.getD k 0 = x at c1
        generalize hey : ys.getD k 0 = y at c2
        replace hex := hid hex
        replace hey := hid hey
        by_cases he : x = y
        · subst he
          have hb0 : ((x : Int) != (x : Int)) = false := by simp
          have ht' := hid (take_eqN xs ys k hlt hlt2 ht.out (by rw [hex.out, hey.out]))
          go_wp2_with fail
          go_quiet (fail)
          have hW' : Hd (∃ q, wr.drewN nq = w.drewN q) := by obtain ⟨q, h⟩ := hW.out; exact ⟨⟨q + nq, by rw [h]; simp [World.drewN, Nat.add_assoc]⟩⟩
          clear hK
          go_wp2
          go_roundw
          case rel => exact ⟨k + 1, by omega, by go_num, ht'.out, hW'⟩
          case measure => simp [intOf]; omega
        · have hb0 : ((x : Int) != (y : Int)) = true := by rw [bne_iff_ne]; omega
          have hne := hid (show ¬ xs = ys by intro h; subst h; apply he; rw [← hex.out, hey.out])
          clear he
          go_wp2_with fail
          go_quiet (fail)
          have hW' : Hd (∃ q, wr.drewN nq = w.drewN q) := by obtain ⟨q, h⟩ := hW.out; exact ⟨⟨q + nq, by rw [h]; simp [World.drewN, Nat.add_assoc]⟩⟩
          clear hK
          go_wp2
          go_ret
          exact ⟨by rw [decide_eq_false hne.out]; rfl, hW'.out⟩
      · have hk0 : k = xs.length := by omega
        have heq := hid (show xs = ys by
          have h1 := ht.out
          rw [List.take_of_length_le (by omega), List.take_of_length_le (by have := hl'.out; omega)] at h1
          exact h1)
        clear hk0
        go_wp2
        go_ret
        exact ⟨by rw [decide_eq_true heq.out]; rfl, hW.out⟩
  · have hlb : ((xs.length : Int) != (ys.length : Int)) = true := by rw [bne_iff_ne]; omega
    have hne := hid (show ¬ xs = ys by intro h; subst h; exact hl rfl)
    clear hl
    go_enter Tryd.func7, Tryd.ntmps7
    go_wp2
    go_ret
    exact ⟨by rw [decide_eq_false hne.out]; rfl, 0, rfl⟩
def shortS (s : ByteArray) : ByteArray := s.extract 0 (min s.size 20)
theorem shortS_size (s : ByteArray) : (shortS s).size ≤ 20 := by unfold shortS; rw [ByteArray.size_extract]; omega
end Go.Proofs.YtobihnkmmlkccaaDoor
