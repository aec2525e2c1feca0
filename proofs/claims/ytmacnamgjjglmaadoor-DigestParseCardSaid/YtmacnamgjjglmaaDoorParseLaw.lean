/- electionlaw04.DigestParse answers true: the walk. -/
import Derived.Test.YtmacnamgjjglmaaDoorParse
import Derived.Test.YtmacnamgjjglmaaDoorRefText
import Derived.Test.YtmacnamgjjglmaaDoorAwake
import Derived.Test.YtmacnamgjjglmaaDoorHeld
namespace Go.Proofs.YtmacnamgjjglmaaDoor
open Go.RowKit Go.Mk Go.Sha
theorem hex_range (c : UInt8) : isHex c = true ↔ (48 ≤ (c.toNat : Int) ∧ (c.toNat : Int) ≤ 57) ∨ (97 ≤ (c.toNat : Int) ∧ (c.toNat : Int) ≤ 102) := by
  simp only [isHex, Bool.or_eq_true, Bool.and_eq_true, decide_eq_true_eq]; omega
def gk (b : List UInt8) (k : Nat) : Bool := decide (b.length = 64) && (b.take k).all isHex
theorem gk_step (b : List UInt8) (k : Nat) (h : k < b.length) : gk b (k + 1) = (gk b k && isHex b[k]) := by
  unfold gk
  rw [List.take_succ_eq_append_getElem h, List.all_append]
  simp [Bool.and_assoc]
theorem gk_all (b : List UInt8) (k : Nat) (h : b.length ≤ k) : gk b k = goodD b := by
  unfold gk goodD
  rw [List.take_of_length_le h]
set_option maxRecDepth 100000 in
set_option maxHeartbeats 2000000 in
theorem parselaw_any (s : ByteArray) (hs : s.size ≤ 9223372036854775807) (w : World) (hT : Tab w) :
    Calls Tryd.prog 8 #[.string s] w fun e w' => e = .returned (.bool true) ∧ Kept no w w' := by
  have hq : (if 70 < (s.size : Int) then (70 : Int) else (s.size : Int)) = ((min s.size 70 : Nat) : Int) := by split <;> omega
  have hqc : ((min s.size 70 : Nat) : Int) ≤ (s.size : Int) := by omega
  have hq0 : (0 : Int) ≤ ((min s.size 70 : Nat) : Int) := by omega
  have hqn : min s.size 70 ≤ s.size := by omega
  have hqm : min s.size 70 ≤ 70 := by omega
  generalize min s.size 70 = q at hq hqc hq0 hqn hqm
  replace hT := hid hT
  go_enter Tryd.func8, Tryd.ntmps8
  go_upto_region 2 with fail
  have hts : (s.extract 0 q).size ≤ 70 := by rw [ByteArray.size_extract]; omega
  generalize s.extract 0 q = t at hts ⊢
  clear hq hqc hq0 hqn hqm
  have hb : Hd (t.size = t.data.toList.length) := ⟨(Array.length_toList (xs := t.data)).symm⟩
  go_wp2_with fail
  refine (parse_any t w (by omega)).mono ?_
  rintro e w1 ⟨rfl, K1⟩
  replace K1 := hid K1
  have hsz : ((readD t.data.toList).map B).toArray.size = 32 := by simp [readD_length]
  have hinf : Hd ((Tryd.prog.info? 25).map (·.size) = some ((readD t.data.toList).map B).toArray.size) := ⟨by rw [hsz]; kernel_rfl⟩
  have hone : Hd (((readD t.data.toList).map B).toArray.all (·.oneCell') = true) := ⟨all_oneCell_toArray (B_one _)⟩
  have hold : Hd (Z32.size = ((readD t.data.toList).map B).toArray.size) := ⟨by rw [hsz]; rfl⟩
  clear hsz
  have hRD := hid (show readD t.data.toList = if goodD t.data.toList then unhex t.data.toList else List.replicate 32 0 from rfl)
  have hrl := hid (readD_length t.data.toList)
  generalize readD t.data.toList = D at hinf hone hold hRD hrl ⊢
  have hgd := hid (gk_all t.data.toList t.size (by rw [hb.out]; exact Nat.le_refl _))
  have hgd2 := hid (show goodD t.data.toList = (decide (t.data.toList.length = 64) && t.data.toList.all isHex) from rfl)
  generalize goodD t.data.toList = gd at hRD hgd hgd2 ⊢
  obtain ⟨w2, hw2, r2, K2⟩ : ∃ w2, w2 = (w1.alloc (.cells Z32 25)).setRow w1.heap.size (D.map B).toArray ∧ w2.heap[w1.heap.size]? = some (.cells (D.map B).toArray 25 (0, 0)) ∧ Kept no w w2 :=
    ⟨_, rfl, setRow_heap _ _ _ _ _ _ (heap_alloc_new w1 _), (K1.out.alloc _).setRow (.inr K1.out.size) _⟩
  have hN := hid (heap_alloc_new w1 (.cells Z32 25))
  unfold Z32 at hN hold hw2
  replace hw2 := hid hw2
  replace r2 := hid r2
  replace K2 := hid K2
  obtain ⟨g0, hg0e, hg0⟩ : ∃ g0 : Bool, ((t.size : Int) == 64) = g0 ∧ Hd (g0 = gk t.data.toList 0) := ⟨_, rfl, ⟨by
    have h := hb.out
    by_cases h64 : t.size = 64
    · rw [show ((t.size : Int) == 64) = true by rw [beq_iff_eq]; omega]
      unfold gk; rw [decide_eq_true (by omega)]; rfl
    · rw [show ((t.size : Int) == 64) = false by rw [beq_eq_false_iff_ne]; omega]
      unfold gk; rw [decide_eq_false (by omega)]; rfl⟩⟩
  go_wp2_with (with_reducible refine wpList_store_row rfl 25 _ _ rfl w1.heap.size (D.map B).toArray rfl rfl 25 _ hN.out hinf.out hold.out hone.out ?_; rw [← hw2.out])
  clear hw2 hN K1 hg0e hone hold
  generalize w1.heap.size = gb at r2 ⊢
  clear w1
  go_loopw [5, 6] (fun g i wr => ∃ (k : Nat) (b : Bool), k ≤ t.size ∧ i = .int .i64 (k : Int) ∧ g = .bool b ∧ Hd (b = gk t.data.toList k) ∧ wr = w2) (fun _ i _ => t.size - (intOf i).toNat)
  case atStart => exact ⟨0, g0, by omega, rfl, rfl, hg0, rfl⟩
  case round =>
    clear hg0
    obtain ⟨k, b, hk, rfl, rfl, hg, rfl⟩ := hrel
    by_cases hlt : k < t.size
    · have hkb : k < t.data.toList.length := by rw [← hb.out]; exact hlt
      have hst := hid (gk_step t.data.toList k hkb)
      have hcb : t[k] = t.data.toList[k] := rfl
      rw [← hcb] at hst
      clear hcb
      have hrg := hex_range t[k]
      generalize hc : t[k] = c at hst hrg
      have h256 := c.toNat_lt
      have fin : ∀ b', b' = (b && isHex c) → Hd (b' = gk t.data.toList (k + 1)) := fun b' h => ⟨by rw [hst.out, ← hg.out]; exact h⟩
      replace fin := hid fin
      clear hst hg
      cases b with
      | false =>
        have F := hid (fin.out false rfl)
        clear fin hrg hc
        go_wp2
        go_roundw
        case rel => exact ⟨k + 1, false, by omega, by go_num, rfl, F.out, trivial⟩
        case measure => simp [intOf]; omega
      | true =>
        by_cases c1 : (48 : Int) ≤ (c.toNat : Int)
        · by_cases c2 : (c.toNat : Int) ≤ 57
          · have hx := hid (fin.out true (by rw [hrg.2 (.inl ⟨c1, c2⟩)]; rfl))
            clear fin hrg
            go_wp2
            go_roundw
            case rel => exact ⟨k + 1, true, by omega, by go_num, rfl, hx.out, trivial⟩
            case measure => simp [intOf]; omega
          · by_cases c3 : (97 : Int) ≤ (c.toNat : Int)
            · by_cases c4 : (c.toNat : Int) ≤ 102
              · have hx := hid (fin.out true (by rw [hrg.2 (.inr ⟨c3, c4⟩)]; rfl))
                clear fin hrg
                go_wp2
                go_roundw
                case rel => exact ⟨k + 1, true, by omega, by go_num, rfl, hx.out, trivial⟩
                case measure => simp [intOf]; omega
              · have hx := hid (fin.out false (by rw [show isHex c = false by rw [← Bool.not_eq_true, hrg]; omega]; rfl))
                clear fin hrg
                go_wp2
                go_roundw
                case rel => exact ⟨k + 1, false, by omega, by go_num, rfl, hx.out, trivial⟩
                case measure => simp [intOf]; omega
            · have hx := hid (fin.out false (by rw [show isHex c = false by rw [← Bool.not_eq_true, hrg]; omega]; rfl))
              clear fin hrg
              go_wp2
              go_roundw
              case rel => exact ⟨k + 1, false, by omega, by go_num, rfl, hx.out, trivial⟩
              case measure => simp [intOf]; omega
        · have c3 : ¬ (97 : Int) ≤ (c.toNat : Int) := by omega
          have hx := hid (fin.out false (by rw [show isHex c = false by rw [← Bool.not_eq_true, hrg]; omega]; rfl))
          clear fin hrg
          go_wp2
          go_roundw
          case rel => exact ⟨k + 1, false, by omega, by go_num, rfl, hx.out, trivial⟩
          case measure => simp [intOf]; omega
    · obtain rfl : k = t.size := by omega
      obtain rfl : b = gd := by rw [hg.out, hgd.out]
      clear hg hgd hlt hk
      have hg := guard_digest
      cases b with
      | true =>
        have hall := hgd2.out
        have hD : D = unhex t.data.toList := hRD.out
        have hbk : hex D = t.data.toList := by
          have h2 : t.data.toList.length = 64 ∧ t.data.toList.all isHex = true := by
            have := hall.symm; rw [Bool.and_eq_true, decide_eq_true_eq] at this; exact this
          rw [hD]; exact hex_unhex _ h2.1 h2.2
        have hst : (ByteArray.mk (hex D).toArray) = t := by rw [hbk]
        have HR := fun w => reftext_any D hrl.out w
        rw [hst] at HR
        replace HR := hid HR
        clear hst hbk hD hall hgd2 hRD
        go_wp2_with fail
        refine (awake_any wr (hT.out.kept K2.out)).mono ?_
        rintro e w3 ⟨rfl, k3⟩
        have r3 := hid ((k3.block _ (lt_of_heap r2.out) id).trans r2.out)
        have K3 := hid (K2.out.trans' k3)
        clear k3 r2 K2
        go_wp2_with (refine wpList_load_row_want (by rfl) 25 _ rfl gb rfl 25 _ _ _ r3.out Tryd.underlying25 rfl hinf.out ?_)
        refine (HR.out w3).mono ?_
        rintro e w4 ⟨rfl, k4⟩
        have K4 := hid (K3.out.trans' k4)
        clear k4
        go_wp2
        go_ret
        exact ⟨rfl, K4.out⟩
      | false =>
        have hD : D = List.replicate 32 0 := hRD.out
        have he := fun w => eql_digest (List.replicate 32 0) (List.replicate 32 0) (by simp) (by simp) w
        rw [← Z32_rep] at he
        simp only [beq_self_eq_true] at he
        have hin2 := hid Z32_inf
        have r2 := r2.out
        rw [hD, ← Z32_rep] at r2
        unfold Z32 at r2 he hin2
        replace r2 := hid r2
        clear hD hRD hgd2 hrl hinf
        go_wp2_with fail
        refine (awake_any wr (hT.out.kept K2.out)).mono ?_
        rintro e w3 ⟨rfl, k3⟩
        have r3 := hid ((k3.block _ (lt_of_heap r2.out) id).trans r2.out)
        have K3 := hid (K2.out.trans' k3)
        clear k3 r2 K2
        go_wp2_with (refine wpList_load_row_want (by rfl) 25 _ rfl gb rfl 25 _ _ _ r3.out Tryd.underlying25 rfl hin2.out ?_)
        go_ret
        exact ⟨rfl, K3.out⟩
end Go.Proofs.YtmacnamgjjglmaaDoor
