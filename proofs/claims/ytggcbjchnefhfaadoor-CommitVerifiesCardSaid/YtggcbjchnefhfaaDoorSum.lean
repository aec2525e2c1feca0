/- digest.Sum returns the SHA-256 digest of its message (up to 2^40 bytes), in new memory. -/
import Derived.Test.YtggcbjchnefhfaaDoorNum
import Derived.Test.YtggcbjchnefhfaaDoorMix
import Derived.Deep.MidRow
namespace Go.Proofs.YtggcbjchnefhfaaDoor
open Go.RowKit Go.Mk Go.Sha
theorem index8 (s : St) (k : Nat) (hk : k < 8) (w : World) : (Instr.index 81 (.agg (cells8 s)) (.int .i64 k)).run Tryd.prog w = .ok (.int .u32 ((s.list.getD k 0).toNat : Int)) w := by
  obtain ⟨x0, x1, x2, x3, x4, x5, x6, x7⟩ := s
  rcases (show k = 0 ∨ k = 1 ∨ k = 2 ∨ k = 3 ∨ k = 4 ∨ k = 5 ∨ k = 6 ∨ k = 7 by omega) with rfl | rfl | rfl | rfl | rfl | rfl | rfl | rfl
  all_goals kernel_rfl
def outK (s : St) (k : Nat) : List UInt8 := (s.list.take k).flatMap fun x => be x.toNat 4
theorem outK_succ (s : St) (k : Nat) (hk : k < 8) : outK s (k + 1) = outK s k ++ be (s.list.getD k 0).toNat 4 := by
  have h : k < s.list.length := hk
  unfold outK
  rw [List.take_succ_eq_append_getElem h, List.flatMap_append]
  simp [h]
theorem outK_length (s : St) (k : Nat) (hk : k ≤ 8) : (outK s k).length = 4 * k := by
  induction k with
  | zero => rfl
  | succ k ih => rw [outK_succ s k (by omega), List.length_append, ih (by omega), be_length]; omega
def Dg (l : List UInt8) : Value := .agg (l.map B).toArray
theorem cells8_H0 : (#[.int .u32 1779033703, .int .u32 3144134277, .int .u32 1013904242, .int .u32 2773480762, .int .u32 1359893119, .int .u32 2600822924, .int .u32 528734635, .int .u32 1541459225] : Array Value) = cells8 H0 := by kernel_rfl
theorem infC (s : St) : (Tryd.prog.info? 81).map (·.size) = some (cells8 s).size := by rw [cells8_size]; exact inf8
theorem u64_of32 (x : UInt32) : IntKind.u64.wrap (x.toNat : Int) = (x.toNat : Int) := by
  have := x.toNat_lt
  simp only [IntKind.wrap, IntKind.bits, IntKind.signed]
  simp
  omega
theorem Dg_size (xs : List UInt8) : ((sum xs).map B).toArray.size = 32 := by simp [sum_length]
structure SR (w0 : World) (g : Nat) (cur Z : Array Value) (st : St) (w : World) : Prop where
  fz : w.heap[w0.heap.size]? = some (.cells Z 43 (0, 0))
  fh : w.heap[w0.heap.size + 1]? = some (.cells (cells8 st) 81 (0, 0))
  fg : w.heap[g]? = some (.cells cur 5 (0, 0))
  kept : Kept no w0 w
theorem lt_of_heap {w : World} {g : Nat} {o : Obj} (h : w.heap[g]? = some o) : g < w.heap.size := (Array.getElem?_eq_some_iff.1 h).1
theorem SR.trans {w0 : World} {g : Nat} {cur Z : Array Value} {st : St} {w w' : World} (R : SR w0 g cur Z st w) (hk : Kept no w w') : SR w0 g cur Z st w' :=
  ⟨(hk.block _ (lt_of_heap R.fz) id).trans R.fz, (hk.block _ (lt_of_heap R.fh) id).trans R.fh, (hk.block _ (lt_of_heap R.fg) id).trans R.fg, R.kept.trans' hk⟩
theorem SR.set {w0 : World} {g : Nat} {cur Z : Array Value} {st : St} {w : World} (R : SR w0 g cur Z st w) (h : g ≠ w0.heap.size + 1) (st' : St) : SR w0 g cur Z st' (w.setRow (w0.heap.size + 1) (cells8 st')) :=
  ⟨by rw [setRow_other _ _ _ _ (by omega)]; exact R.fz, setRow_heap _ _ _ _ _ _ R.fh, by rw [setRow_other _ _ _ _ h]; exact R.fg, R.kept.setRow (.inr (by omega)) _⟩
set_option maxRecDepth 20000 in
set_option maxHeartbeats 400000 in
theorem digest_any (v : Value) (xs : List UInt8) (w : World) (hl : xs.length ≤ 1099511000000) (hr : Rd w 1 v xs.length (xs.map B)) (hT : Tab w) :
    Calls Tryd.prog 35 #[v] w fun e w' => e = .returned (Dg (sum xs)) ∧ Kept no w w' := by
  have hv : ∃ ao cap, v = .slice ao xs.length cap := by obtain ⟨_, ao, cap, h, _⟩ := hr; exact ⟨ao, cap, h⟩
  obtain ⟨ao, cap, rfl⟩ := hv
  have HP := fun (w1 : World) (hk : Kept no w w1) => padded_any _ xs w1 (by omega) (hr.keptNo hk)
  replace HP := hid HP
  have HT := hid fun (w1 : World) (hk : Kept no w w1) (i : Nat) (hi : i < 64) => hk.cell (hT i hi) id
  clear hr hT
  go_enter Tryd.func35, Tryd.ntmps35
  go_wp2_with fail
  refine Calls.new2 _ _ _ _ _ ?_
  intro w1 g1 g2 k1 z1
  refine (HP.out w1 k1).mono ?_
  rintro e w2 ⟨v2, rfl, ho, hk, hn⟩
  have g1 := (hk.block _ (by omega) id).trans g1
  have g2 := (hk.block _ (by omega) id).trans g2
  have k2 := k1.trans' hk
  clear HP k1
  have hn : New w v2 := by rcases hn with hn | ⟨k, hn, hl⟩; exact .inl hn; exact .inr ⟨k, hn, by omega⟩
  have hPm := padded_mod xs
  have hpos : 0 < (padded xs).length := by rw [padded_length]; omega
  have hPl : (padded xs).length ≤ 1099511600000 := by rw [padded_length]; have := zeros_lt xs.length; omega
  obtain ⟨nb, hnb⟩ : ∃ nb, (padded xs).length = 64 * nb := ⟨(padded xs).length / 64, by omega⟩
  have hsum := hid (show sum xs = (blocks ((padded xs).length / 64) H0 (padded xs)).list.flatMap fun x => be x.toNat 4 from rfl)
  rw [hnb, Nat.mul_div_cancel_left _ (by decide)] at hsum
  generalize padded xs = L at ho hnb hsum hPl hpos
  obtain ⟨g, c2, cur, rfl, hg, hcc⟩ : ∃ g c2 cur, v2 = .slice (some ⟨g, 0, none⟩) L.length c2 ∧ w2.heap[g]? = some (.cells cur 5 (0, 0)) ∧ (64 * nb ≤ c2 ∧ c2 ≤ maxLen ∧ cur.toList.take (64 * nb) = L.map B) := by
    obtain ⟨_, ⟨rfl, h⟩ | ⟨g, c, cur, rfl, _, h1, h2, h3, _, h4⟩⟩ := ho
    · rw [h] at hpos; omega
    · exact ⟨g, c, cur, rfl, h1, by omega, h3, by rw [← h4, hnb]; simp⟩
  have n1 : g ≠ w.heap.size := by rintro rfl; rw [g1] at hg; simp at hg
  have n2 : g ≠ w.heap.size + 1 := by rintro rfl; rw [g2] at hg; simp at hg
  rw [cells8_H0] at g2
  obtain ⟨Z, hZ, g1⟩ : ∃ Z : Array Value, Hd (Z.size = 32) ∧ w2.heap[w.heap.size]? = some (.cells Z 43 (0,0)) := ⟨_, ⟨rfl⟩, g1⟩
  have R0 : SR w g cur Z H0 w2 := ⟨g1, g2, hg, k2⟩
  clear g1 g2 hg k2 ho hn hk z1 hpos hPm
  replace R0 := hid R0
  replace hsum := hid hsum
  replace hnb := hid hnb
  replace hcc := hid hcc
  go_wp2
  go_loopw [4] (fun p wr => ∃ i st a c, i ≤ nb ∧ p = .slice a (64 * (nb - i)) c ∧ (i < nb → a = some ⟨g, 64 * i, none⟩) ∧ 64 * (nb - i) ≤ c ∧ c ≤ maxLen ∧ blocks (nb - i) st (L.drop (64 * i)) = blocks nb H0 L ∧ SR w g cur Z st wr)
    (fun p _ => match p with | .slice _ n _ => n | _ => 0)
  case atStart => exact ⟨0, H0, _, c2, by omega, by rw [hnb.out]; rfl, fun _ => rfl, by have := hcc.out.1; omega, hcc.out.2.1, rfl, R0.out⟩
  case round =>
    clear R0
    obtain ⟨i, st, a, c, hi, rfl, ha, hc1, hc2, hb, R⟩ := hrel
    by_cases hlt : i < nb
    · obtain rfl := ha hlt
      have hLd : (L.drop (64 * i)).length = 64 * (nb - i) := by rw [List.length_drop, hnb.out]; omega
      have hM := mix_any st g (64 * i) c (L.drop (64 * i)) wr (by rw [hLd]; omega) (by rw [hLd]; have := hnb.out; omega) (fun j u hu => by
        rw [cell_of_row wr g _ cur 5 (0, 0) R.fg]
        rw [List.map_drop, List.getElem?_drop, ← hcc.out.2.2, List.getElem?_take] at hu
        split at hu
        · rw [← hu, Array.getElem?_toList]
        · cases hu) (fun k hk => HT.out wr R.kept k hk)
      rw [hLd] at hM
      have hb' := hid hb
      rw [show nb - i = (nb - (i + 1)) + 1 by omega, blocks, List.drop_drop] at hb'
      clear hLd hb
      have hf := hid R.fh
      replace R := hid R
      replace hM := hid hM
      have hn0 : (0 : Int) < ((64 * (nb - i) : Nat) : Int) := by omega
      go_wp2_with (with_reducible refine wpList_load_row rfl 81 _ rfl (w.heap.size + 1) rfl 81 (cells8 st) _ _ hf.out Tryd.underlying81 rfl (infC st) ?_)
      refine hM.out.mono ?_
      rintro e w3 ⟨rfl, hk⟩
      replace R := R.out.trans hk
      have R' := hid (R.set n2 (mix st (L.drop (64 * i))))
      replace hf := hid R.fh
      clear R hM hk
      have hsz8 : Hd ((cells8 st).size = (cells8 (mix st (L.drop (64 * i)))).size) := ⟨by rw [cells8_size, cells8_size]⟩
      generalize mix st (L.drop (64 * i)) = st' at hb' R' hsz8 ⊢
      by_cases hc64 : c = 64
      · subst hc64
        obtain rfl : nb = i + 1 := by omega
        rw [show i + 1 - i = 1 by omega] at *
        go_wp2_with (with_reducible refine wpList_store_row rfl 81 _ _ rfl (w.heap.size + 1) (cells8 st') rfl rfl 81 _ hf.out (infC st') hsz8.out (cells8_one st') ?_)
        go_roundw
        case rel => exact ⟨i + 1, st', some ⟨g, 64 * i, none⟩, 0, Nat.le_refl _, by rw [Nat.sub_self], fun h => absurd h (by omega), by omega, Nat.zero_le _, by rw [Nat.mul_add]; exact hb'.out, R'.out⟩
        case measure => simp
      · have hcc' : 64 < c := by omega
        have hn64 : 64 ≤ 64 * (nb - i) := by omega
        go_wp2_with (with_reducible refine wpList_store_row rfl 81 _ _ rfl (w.heap.size + 1) (cells8 st') rfl rfl 81 _ hf.out (infC st') hsz8.out (cells8_one st') ?_)
        go_roundw
        case rel => exact ⟨i + 1, st', some ⟨g, 64 * i + 64, none⟩, c - 64, by omega, by rw [show 64 * (nb - (i + 1)) = 64 * (nb - i) - 64 by omega], fun _ => by rw [Nat.mul_add], by omega, by omega, by rw [Nat.mul_add]; exact hb'.out, R'.out⟩
        case measure => simp; omega
    · obtain rfl : i = nb := by omega
      rw [Nat.sub_self] at *
      have hst := hid hb
      simp only [blocks] at hst
      have hf := hid R.fh
      have hsum' : Hd (sum xs = outK st 8) := ⟨by rw [hsum.out.out, ← hst.out]; rfl⟩
      replace R := hid R
      clear hb hst hsum hcc ha
      go_wp2_with (with_reducible refine wpList_load_row rfl 81 _ rfl (w.heap.size + 1) rfl 81 (cells8 st) _ _ hf.out Tryd.underlying81 rfl (infC st) ?_)
      obtain ⟨wo, rfl⟩ : ∃ wo : World, wo = wr := ⟨_, rfl⟩
      clear hf
      go_loopw [5, 20] (fun out i wr => ∃ k : Nat, k ≤ 8 ∧ i = .int .i64 k ∧ wr.ownsRow 0 5 1 out (4 * k) ((outK st k).map B) ∧ Kept no wo wr ∧ New wo out) (fun _ i _ => 8 - (intOf i).toNat)
      case atStart => exact ⟨0, by omega, rfl, World.ownsRow_nil _ _ _ _, Kept.refl _ _, .inl rfl⟩
      case round =>
        obtain ⟨k, hk, rfl, ho, hK, hN⟩ := hrel
        by_cases hlt : k < 8
        · have hix := index8 st k hlt
          generalize hx : st.list.getD k 0 = x at hix
          have hol := outK_length st k hk
          have hN1 := number_any u5 (outK st k) x.toNat 4 wr (by omega) (by omega) (by rw [hol]; exact ho)
          rw [hol] at hN1
          replace hN1 := hid hN1
          have hs := hid (outK_succ st k hlt)
          rw [hx] at hs
          clear hx hol
          go_wp2_with fail
          rw [u64_of32]
          refine hN1.out.mono ?_
          rintro e w5 ⟨v5, rfl, ho5, hk5, hn5⟩
          have hN' := hN.step hn5 hK.size
          have hK' := hN.kept hK hk5
          rw [← hs.out] at ho5
          have ho5' : w5.ownsRow 0 5 1 v5 (4 * (k + 1)) ((outK st (k + 1)).map B) := ho5
          clear ho hk5 hn5 hK hN hN1 hs ho5
          go_wp2
          go_roundw
          case rel => exact ⟨k + 1, by omega, by go_num, ho5', hK', hN'⟩
          case measure => simp [intOf]; omega
        · obtain rfl : k = 8 := by omega
          obtain ⟨g5, c5, cur5, rfl, h5, h5c⟩ : ∃ g5 c5 cur5, u5 = .slice (some ⟨g5, 0, none⟩) 32 c5 ∧ wr.heap[g5]? = some (.cells cur5 5 (0, 0)) ∧ cur5.toList.take 32 = (outK st 8).map B := by
            obtain ⟨_, ⟨rfl, h⟩ | ⟨g, c, cur, rfl, _, h1, h2, h3, h4, h5⟩⟩ := ho
            · omega
            · exact ⟨g, c, cur, rfl, h1, by simpa using h5⟩
          have hra : wr.rangeAt g5 0 ((sum xs).map B) := fun j u hu => by
            rw [cell_of_row wr g5 _ cur5 5 (0, 0) h5, Nat.zero_add]
            rw [hsum'.out, ← h5c, List.getElem?_take] at hu
            split at hu
            · rw [← hu, Array.getElem?_toList]
            · cases hu
          have R' := R.out.trans hK
          have hf := hid R'.fz
          have hkept := hid R'.kept
          have hl32 : Hd ((Tryd.prog.info? 43).map (·.size) = some ((sum xs).map B).length) := ⟨by rw [List.length_map, sum_length]; kernel_rfl⟩
          have hl32' : Hd ((Tryd.prog.info? 43).map (·.size) = some ((sum xs).map B).toArray.size) := ⟨by rw [Dg_size]; kernel_rfl⟩
          have hone : Hd (((sum xs).map B).toArray.all (·.oneCell') = true) := ⟨all_oneCell_toArray (B_one _)⟩
          have hold : Hd (Z.size = ((sum xs).map B).toArray.size) := ⟨by rw [Dg_size]; exact hZ.out⟩
          have h2 := hid (setRow_heap wr w.heap.size _ ((sum xs).map B).toArray _ _ R'.fz)
          replace hra := hid hra
          have harr : ∀ w : World, (Instr.arrayAt 43 (.slice (some ⟨g5, 0, none⟩) 32 c5)).run Tryd.prog w = .ok (.pointer (some ⟨g5, 0, none⟩)) w := fun _ => by kernel_rfl
          clear R R' hK hN ho h5 h5c hsum' hZ hnb HT
          go_wp2_with (first | (with_reducible refine wpList_load_mid rfl 43 _ rfl g5 0 rfl ((sum xs).map B) _ hra.out Tryd.underlying43 rfl hl32.out ?_) | (with_reducible refine wpList_store_row rfl 43 _ _ rfl w.heap.size ((sum xs).map B).toArray rfl rfl 43 _ hf.out hl32'.out hold.out hone.out ?_))
          refine bodyPost_ret (v := Dg (sum xs)) ?_ rfl ?_
          · exact results_cell_row rfl _ _ w.heap.size 43 ((sum xs).map B).toArray (0, 0) _ rfl h2.out Tryd.underlying43 rfl hl32'.out
          · exact ⟨rfl, hkept.out.setRow (.inr (Nat.le_refl _)) _⟩
end Go.Proofs.YtggcbjchnefhfaaDoor
