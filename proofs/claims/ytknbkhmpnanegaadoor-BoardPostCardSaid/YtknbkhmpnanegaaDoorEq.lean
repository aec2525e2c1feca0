/- electionref04.Eq compares two byte strings. -/
import Derived.Test.YtknbkhmpnanegaaDoorNum
import Derived.Deep.QuietTactic
import Derived.BigQuiet
namespace Go.Proofs.YtknbkhmpnanegaaDoor
open Go.RowKit Go.Mk Go.Sha
/-- The cell of element k of a slice that reads as xs. -/
theorem Rd.at {w : World} {ao : Option Addr} {cap : Nat} {xs : List UInt8} (h : Rd w 1 (.slice ao xs.length cap) xs.length (xs.map B)) (k : Nat) (hk : k < xs.length) :
    ∃ b o, ao = some ⟨b, o, none⟩ ∧ w.cell? ⟨b, o + k, none⟩ = some (.int .u8 ((xs.getD k 0).toNat : Int)) := by
  obtain ⟨_, _, _, e, _, _, h | ⟨b, o, rfl, hc⟩⟩ := h
  · cases e; omega
  · cases e
    refine ⟨b, o, rfl, hc k _ ?_⟩
    rw [List.getElem?_map, List.getElem?_eq_getElem hk, List.getD_eq_getElem?_getD, List.getElem?_eq_getElem hk]; rfl
theorem eq_split (xs ys : List UInt8) (hl : xs.length = ys.length) (k : Nat) (hk : k < xs.length) (ht : xs.take k = ys.take k) (he : xs.getD k 0 = ys.getD k 0) : xs.take (k + 1) = ys.take (k + 1) := by
  have hk' : k < ys.length := by omega
  have h1 : xs[k] = ys[k] := by simpa [List.getD_eq_getElem?_getD, hk, hk'] using he
  rw [List.take_succ_eq_append_getElem hk, List.take_succ_eq_append_getElem hk', ht, h1]
set_option maxRecDepth 20000 in
set_option maxHeartbeats 400000 in
theorem eq_any (va vb : Value) (xs ys : List UInt8) (w : World) (hx : xs.length ≤ 1099511627776) (hy : ys.length ≤ 1099511627776) (ha : Rd w 1 va xs.length (xs.map B)) (hb : Rd w 1 vb ys.length (ys.map B)) :
    Calls Tryd.prog 39 #[va, vb] w fun e w' => e = .returned (.bool (decide (xs = ys))) ∧ ∃ q, w' = w.drewN q := by
  obtain ⟨ao, ca, rfl⟩ : ∃ ao ca, va = .slice ao xs.length ca := by obtain ⟨_, ao, ca, h, _⟩ := ha; exact ⟨ao, ca, h⟩
  obtain ⟨bo, cb, rfl⟩ : ∃ ao ca, vb = .slice ao ys.length ca := by obtain ⟨_, ao, ca, h, _⟩ := hb; exact ⟨ao, ca, h⟩
  have ha := hid ha
  have hb := hid hb
  by_cases hl : xs.length = ys.length
  · have hlb : ((xs.length : Int) != (ys.length : Int)) = false := by simp [hl]
    have hl' := hid hl
    clear hl
    go_enter Tryd.func39, Tryd.ntmps39
    go_wp2
    go_loopw [5] (fun i wr => ∃ k : Nat, k ≤ xs.length ∧ i = .int .i64 k ∧ xs.take k = ys.take k ∧ Hd (∃ q, wr = w.drewN q)) (fun i _ => xs.length - (intOf i).toNat)
    case atStart => exact ⟨0, by omega, rfl, rfl, ⟨⟨0, rfl⟩⟩⟩
    case round =>
      obtain ⟨k, hk, rfl, ht, hW⟩ := hrel
      have hK : Kept no w wr := by obtain ⟨q, h⟩ := hW.out; rw [h]; exact (Kept.refl no w).drewN q
      have ht := hid ht
      by_cases hlt : k < xs.length
      · have hlt2 : k < ys.length := by have := hl'.out; omega
        obtain ⟨b1, o1, rfl, c1⟩ := Rd.at (ha.out.keptNo hK) k hlt
        obtain ⟨b2, o2, rfl, c2⟩ := Rd.at (hb.out.keptNo hK) k hlt2
        have hk1 : (k : Int) < (xs.length : Int) := by omega
        have hk2 : (k : Int) < (ys.length : Int) := by omega
        generalize hex : xs.getD k 0 = x at c1
        generalize hey : ys.getD k 0 = y at c2
        replace hex := hid hex
        replace hey := hid hey
        by_cases he : x = y
        · subst he
          have hb0 : ((x.toNat : Int) != (x.toNat : Int)) = false := by simp
          have ht' := hid (eq_split xs ys hl'.out k hlt ht.out (by rw [hex.out, hey.out]))
          go_wp2_with fail
          go_quiet (fail)
          have hW' : Hd (∃ q, wr.drewN nq = w.drewN q) := by obtain ⟨q, h⟩ := hW.out; exact ⟨⟨q + nq, by rw [h]; simp [World.drewN, Nat.add_assoc]⟩⟩
          clear hK
          go_wp2
          go_roundw
          case rel => exact ⟨k + 1, by omega, by go_num, ht'.out, hW'⟩
          case measure => simp [intOf]; omega
        · have hb0 : ((x.toNat : Int) != (y.toNat : Int)) = true := by
            rw [bne_iff_ne]; intro h; apply he; apply UInt8.toNat_inj.1; omega
          have hne := hid (show ¬ xs = ys by intro h; subst h; apply he; rw [← hex.out, hey.out])
          clear he
          go_wp2_with fail
          go_quiet (fail)
          have hW' : Hd (∃ q, wr.drewN nq = w.drewN q) := by obtain ⟨q, h⟩ := hW.out; exact ⟨⟨q + nq, by rw [h]; simp [World.drewN, Nat.add_assoc]⟩⟩
          clear hK
          go_wp2
          go_ret
          exact ⟨by rw [decide_eq_false hne.out]; rfl, hW'.out⟩
      · have hk0 : k = xs.length := by omega
        have heq := hid (show xs = ys by
          have h1 := ht.out
          rw [List.take_of_length_le (by omega), List.take_of_length_le (by have := hl'.out; omega)] at h1
          exact h1)
        clear hk0
        go_wp2
        go_ret
        exact ⟨by rw [decide_eq_true heq.out]; rfl, hW.out⟩
  · have hlb : ((xs.length : Int) != (ys.length : Int)) = true := by rw [bne_iff_ne]; omega
    have hne := hid (show ¬ xs = ys by intro h; subst h; exact hl rfl)
    clear hl
    go_enter Tryd.func39, Tryd.ntmps39
    go_wp2
    go_ret
    exact ⟨by rw [decide_eq_false hne.out]; rfl, 0, rfl⟩
end Go.Proofs.YtknbkhmpnanegaaDoor
