/- The reference's long division. -/
import Derived.Test.YtobihnkmmlkccaaDoorBit3
import Derived.Laws.OwnMore
namespace Go.Proofs.YtobihnkmmlkccaaDoor
open Go.RowKit Go.Mk Go.Bit
theorem kept_lit {wr w2 : World} {o : Obj} (k : Kept (ob (.slice (some ⟨wr.heap.size, 0, none⟩) 1 1)) (wr.alloc o) w2) : Kept no wr w2 :=
  ((Kept.refl no wr).alloc o).trans k fun j hj e => by
    have : wr.heap.size = j := by simpa [ob, Value.ownBlock] using e
    omega
theorem rdT_setCell {W w1 : World} {v : Value} {bs : List Bool} {g i : Nat} {u : Value} (h : RdT W v bs) (hn : New w1 v) (hg : g < w1.heap.size) : RdT (W.setCell ⟨g, i, none⟩ u) v bs :=
  Rd.kept h ((Kept.refl (fun j => j = g) W).setCell (a := ⟨g, i, none⟩) (.inl rfl) u) fun j hj e => by
    have e : j = g := e
    rcases hn with hn | ⟨k, h1, h2⟩
    · rw [hn] at hj; cases hj
    · rw [h1] at hj; cases hj; omega
set_option maxRecDepth 20000 in
set_option maxHeartbeats 4000000 in
theorem div_any (va vb : Value) (a b : List Bool) (w : World) (hla : a.length ≤ 100000) (hlb : b.length ≤ 100000) (ha : RdT w va a) (hb : RdT w vb b) : Calls Tryd.prog 20 #[va, vb] w fun e w' => ∃ v1 v2, e = .returned (.tuple #[v1, v2]) ∧ OwT w w' v1 (divB a b).1 ∧ RdT w' v2 (divB a b).2 := by
  obtain ⟨aa, ca, rfl, hca, hcam⟩ := ha.shape
  obtain ⟨ab, cb, rfl, hcb, hcbm⟩ := hb.shape
  have hm63 : maxLen = 9223372036854775807 := rfl
  obtain ⟨res, hres⟩ : ∃ res, divB a b = res := ⟨_, rfl⟩
  rw [hres]
  unfold divB at hres
  obtain ⟨la, hla'⟩ : ∃ l, a.length = l := ⟨_, rfl⟩
  rw [hla'] at ha hca hla hres ⊢
  replace ha := hid ha
  replace hb := hid hb
  replace hres := hid hres
  have hmk := TBits_mk la (by omega)
  obtain ⟨g, hg⟩ : ∃ g, w.heap.size = g := ⟨_, rfl⟩
  obtain ⟨w1, hw1⟩ : ∃ w1, w1 = w.alloc (.cells (Array.replicate la (.bool false)) 4) := ⟨_, rfl⟩
  have g1 : w1.heap[g]? = some (.cells ((List.replicate la false).map Value.bool).toArray 4 (0, 0)) := by rw [hw1, ← hg, show ((List.replicate la false).map Value.bool).toArray = Array.replicate la (.bool false) by simp]; exact heap_alloc_new _ _
  have k1 : Hd (Kept no w w1) := ⟨by rw [hw1]; exact (Kept.refl no w).alloc _⟩
  have hg1 : Hd (g < w1.heap.size) := ⟨(Array.getElem?_eq_some_iff.1 g1).1⟩
  replace g1 := hid g1
  replace hla' := hid hla'
  replace hg := hid hg
  replace hw1 := hid hw1
  have hlaw : IntKind.i64.wrap ((la : Int) - 1) = (la : Int) - 1 := IntWalk.i64_in _ (by omega)
  go_enter Tryd.func20, Tryd.ntmps20
  go_wp2
  rw [← hw1.out, hg.out]
  go_loopw [7, 8] (fun r i wr => ∃ (j k : Nat), j + k = la ∧ i = .int .i64 ((j : Int) - 1) ∧ Hd (RdT wr r (divN a b k).2 ∧ New w1 r) ∧ Hd (wr.heap[g]? = some (.cells ((divN a b k).1.map Value.bool).toArray 4 (0, 0))) ∧ Hd (Kept no w wr) ∧ Hd (w1.heap.size ≤ wr.heap.size)) (fun _ i _ => (intOf i + 1).toNat)
  case atStart => exact ⟨la, 0, by omega, rfl, ⟨RdT.nil _, .inl rfl⟩, ⟨by have := g1.out; rw [show (divN a b 0).1 = List.replicate la false by simp [divN, hla'.out]]; exact this⟩, k1, ⟨Nat.le_refl _⟩⟩
  case round =>
    obtain ⟨j, k, hjk, rfl, hR, hG, hK, hKsz⟩ := hrel
    cases j with
    | zero =>
      obtain rfl : k = la := by omega
      have hq : Hd ((divN a b k).1.length = k) := ⟨(divN_q a b k).trans hla'.out⟩
      have hRq := hid (show RdT wr (.slice (some ⟨g, 0, none⟩) k k) (divN a b k).1 from by
        have := Rd.block (n := k) (size := 1) hG.out (by rw [List.length_map, hq.out, Nat.mul_one]) (by omega)
        unfold RdT; rw [hq.out]; exact this)
      have HT := hid (trim_any _ _ wr (by rw [hq.out]; omega) hRq.out)
      have hR1 := hid hR.out.1
      have hv : Hd (res = (trimB (divN a b k).1, (divN a b k).2)) := ⟨hres.out.symm⟩
      clear hres hR hG ha hb
      go_wp2_with fail
      refine HT.out.mono ?_
      rintro e w2 ⟨v', rfl, o2⟩
      have h1 := hid (o2.from_ hK.out)
      have h2 := hid (hR1.out.kept o2.kept)
      clear o2 HT hRq
      go_wp2
      go_ret2
      exact ⟨_, _, rfl, by rw [hv.out]; exact h1.out, by rw [hv.out]; exact h2.out⟩
    | succ j =>
      have e1 : ((j + 1 : Nat) : Int) - 1 = (j : Int) := by omega
      have hj0 : (0 : Int) ≤ (j : Int) := by omega
      have hjl : j < la := by omega
      have hj1 : (j : Int) < (la : Int) := by omega
      have hwj : IntKind.i64.wrap ((j : Int) - 1) = (j : Int) - 1 := IntWalk.i64_in _ (by omega)
      obtain ⟨b0, o0, rfl, c0⟩ := (ha.out.kept hK.out).at j (by rw [hla'.out]; exact hjl)
      have hd : Hd (divN a b (k + 1) = (if 0 ≤ cmpB (trimB (at_ a j :: (divN a b k).2)) b then ((divN a b k).1.set j true, subB (trimB (at_ a j :: (divN a b k).2)) b) else ((divN a b k).1, trimB (at_ a j :: (divN a b k).2)))) := ⟨by
        have : a.length - 1 - k = j := by rw [hla'.out]; omega
        rw [← this]; rfl⟩
      have hlr : Hd ((divN a b k).2.length ≤ k) := ⟨divN_r a b k⟩
      obtain ⟨nx, hnx⟩ : ∃ nx, divN a b (k + 1) = nx := ⟨_, rfl⟩
      rw [hnx] at hd
      replace hnx := hid hnx
      generalize (divN a b k).2 = r at hR hd hlr
      have hqL : Hd ((divN a b k).1.length = la) := ⟨(divN_q a b k).trans hla'.out⟩
      generalize (divN a b k).1 = q at hG hd hqL
      generalize at_ a j = x at c0 hd
      have hRr := hid hR.out.1
      have hb1 : Hd (1 + r.length ≤ maxLen ∧ (1 + r.length) * 1 ≤ 140737488355328) := ⟨by have := hlr.out; rw [hm63]; omega⟩
      have hkl : k ≤ la := by omega
      rw [e1]
      clear hR hres
      go_wp2_with (at_builtin; refine wpList_append _ rfl _ _ 35 rfl 4 1 1 TBits _ _ _ rfl (World.ownsRow_lit wr #[.bool x] 1 (Nat.zero_le _) (by decide) rfl) _ _ _ rfl (Rd.alloc hRr.out _) (T_one r) ?c1 ?c2 ?_)
      case c1 => exact hb1.out.1
      case c2 => exact hb1.out.2
      intro v' w2 h2 h3 h4 _
      have k2 := kept_lit h3
      have n2 : New wr v' := by
        rcases h4 with h4 | ⟨q9, h5, h6⟩
        · exact .inr ⟨wr.heap.size, by rw [h4]; rfl, Nat.le_refl _⟩
        · exact .inr ⟨q9, h5, Nat.le_trans ((Kept.refl no wr).alloc (.cells #[Value.bool x] 4)).size h6⟩
      have hX := hid (show RdT w2 v' (x :: r) from by
        have := Rd.of_own h2
        unfold RdT
        rw [List.length_cons, Nat.add_comm]; exact this)
      have hT := hid (trim_any v' (x :: r) w2 (by have := hlr.out; rw [List.length_cons]; omega) hX.out)
      have hlt1 := hid (trimB_length (x :: r))
      generalize trimB (x :: r) = t at hT hlt1 hd
      clear h2 h3 h4 n2 hb1 hX
      replace k2 := hid k2
      go_wp2_with fail
      refine hT.out.mono ?_
      rintro e w3 ⟨vt, rfl, o3⟩
      have K3 := hid ((hK.out.trans' k2.out).trans' o3.kept)
      have G3 := hid (((k2.out.trans' o3.kept).block g (Nat.lt_of_lt_of_le hg1.out hKsz.out) id).trans hG.out)
      have N3 := hid (o3.new.older (Nat.le_trans hKsz.out k2.out.size))
      have R3 := hid o3.rd
      have Z3 : Hd (w1.heap.size ≤ w3.heap.size) := ⟨Nat.le_trans hKsz.out (Nat.le_trans k2.out.size o3.kept.size)⟩
      obtain ⟨at3, ct3, rfl, _, _⟩ := o3.rd.shape
      have hlt2 : Hd (t.length ≤ k + 1) := ⟨by have h5 := hlt1.out; have := hlr.out; simp only [List.length_cons] at h5; omega⟩
      clear o3 hT hRr hK hG k2
      have HC := hid (cmp_any _ _ t b w3 (by have := hlt2.out; omega) (by omega) R3.out (hb.out.kept K3.out))
      go_wp2_with fail
      refine HC.out.mono ?_
      rintro e w4 ⟨rfl, rfl⟩
      clear HC
      by_cases hc : 0 ≤ cmpB t b
      · have hd2 : Hd (nx = (q.set j true, subB t b)) := ⟨by rw [hd.out, if_pos hc]⟩
        have HS := hid (sub_any _ _ t b w4 (by have := hlt2.out; omega) R3.out (hb.out.kept K3.out))
        clear hd
        go_wp2_with fail
        refine HS.out.mono ?_
        rintro e w5 ⟨vs, rfl, o5⟩
        have G5 := o5.kept.block g (Nat.lt_of_lt_of_le hg1.out Z3.out) id
        rw [G3.out] at G5
        have c5 : w5.cell? ⟨g, j, none⟩ = some (.bool (q.getD j false)) := by
          rw [cell_of_row w5 _ j _ _ _ G5]
          have : j < q.length := by rw [hqL.out]; exact hjl
          simp [this]
        have f5 : w5.frozen? ⟨g, j, none⟩ = false := by simp [World.frozen?, G5]
        have K5 := hid (K3.out.trans' o5.kept)
        have N5 := hid (o5.new.older Z3.out)
        have S5 := hid o5.rd
        have Z5 : Hd (w1.heap.size ≤ w5.heap.size) := ⟨Nat.le_trans Z3.out o5.kept.size⟩
        have G6 : Hd ((w5.setCell ⟨g, j, none⟩ (.bool true)).heap[g]? = some (.cells ((q.set j true).map Value.bool).toArray 4 (0, 0))) := ⟨by
          unfold World.setCell
          simp only [Array.getElem?_modify, if_pos, G5]
          simp [List.map_set]⟩
        have Z6 : Hd (w1.heap.size ≤ (w5.setCell ⟨g, j, none⟩ (.bool true)).heap.size) := ⟨by rw [show (w5.setCell ⟨g, j, none⟩ (.bool true)).heap.size = w5.heap.size by simp [World.setCell]]; exact Z5.out⟩
        clear HS G5 o5
        go_wp2
        go_roundw
        case rel => exact ⟨j, k + 1, by omega, rfl, by rw [hnx.out, hd2.out]; exact ⟨rdT_setCell S5.out N5.out hg1.out, N5.out⟩, by rw [hnx.out, hd2.out]; exact G6, ⟨K5.out.setCell (.inr (by show w.heap.size ≤ g; rw [hg.out]; exact Nat.le_refl _)) _⟩, Z6⟩
        case measure => simp [intOf]
      · have hd2 : Hd (nx = (q, t)) := ⟨by rw [hd.out, if_neg hc]⟩
        clear hd
        go_wp2
        go_roundw
        case rel => exact ⟨j, k + 1, by omega, rfl, by rw [hnx.out, hd2.out]; exact ⟨R3.out, N3.out⟩, by rw [hnx.out, hd2.out]; exact G3, K3, Z3⟩
        case measure => simp [intOf]
end Go.Proofs.YtobihnkmmlkccaaDoor
