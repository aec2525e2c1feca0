/- digest.Join and digest.Of. -/
import Derived.Test.YtggcbjchnefhfaaDoorSum
namespace Go.Proofs.YtggcbjchnefhfaaDoor
open Go.RowKit Go.Mk Go.Sha
def join (ps : List (List UInt8)) : List UInt8 := ps.flatMap fun p => be p.length 4 ++ p
def RdP (w : World) (v : Value) (ps : List (List UInt8)) : Prop :=
  ∃ vs : List Value, Rd w 1 v ps.length vs ∧ ∀ j, j < ps.length → Rd w 1 (vs.getD j undef) (ps.getD j []).length ((ps.getD j []).map B)
theorem RdP.kept {w w' : World} {v : Value} {ps : List (List UInt8)} (h : RdP w v ps) (hk : Kept no w w') : RdP w' v ps := by
  obtain ⟨vs, h1, h2⟩ := h
  exact ⟨vs, h1.keptNo hk, fun j hj => (h2 j hj).keptNo hk⟩
theorem join_snoc (ps : List (List UInt8)) (k : Nat) (hk : k < ps.length) : join (ps.take (k + 1)) = join (ps.take k) ++ be (ps.getD k []).length 4 ++ ps.getD k [] := by
  unfold join
  rw [List.take_succ_eq_append_getElem hk, List.flatMap_append]
  simp [hk]
theorem join_take_le (ps : List (List UInt8)) (k : Nat) : (join (ps.take k)).length ≤ (join ps).length := by
  have : join ps = join (ps.take k) ++ join (ps.drop k) := by
    unfold join; rw [← List.flatMap_append, List.take_append_drop]
  rw [this, List.length_append]; omega
theorem len_u64 (n : Nat) (h : n ≤ 1099511627776) : IntKind.u64.wrap (n : Int) = (n : Int) := by
  simp only [IntKind.wrap, IntKind.bits, IntKind.signed]
  simp
  omega
set_option maxRecDepth 20000 in
set_option maxHeartbeats 400000 in
theorem join_any (v : Value) (ps : List (List UInt8)) (w : World) (hl : (join ps).length ≤ 1099511000000) (hn : ps.length ≤ 1099511000000) (hr : RdP w v ps) :
    Calls Tryd.prog 36 #[v] w fun e w' => ∃ v', e = .returned v' ∧ w'.ownsRow 0 5 1 v' (join ps).length ((join ps).map B) ∧ Kept no w w' ∧ New w v' := by
  obtain ⟨vs, h1, h2⟩ := hr
  obtain ⟨hvl, ao, cap, rfl, hcap, hcm, hao⟩ := id h1
  have h1 := hid h1
  have h2 := hid h2
  clear hao
  go_enter Tryd.func36, Tryd.ntmps36
  go_wp2
  go_loopw [3, 8] (fun out i wr => ∃ k : Nat, k ≤ ps.length ∧ i = .int .i64 k ∧ wr.ownsRow 0 5 1 out (join (ps.take k)).length ((join (ps.take k)).map B) ∧ Kept no w wr ∧ New w out) (fun _ i _ => ps.length - (intOf i).toNat)
  case atStart => exact ⟨0, by omega, rfl, World.ownsRow_nil _ _ _ _, Kept.refl _ _, .inl rfl⟩
  case round =>
    obtain ⟨k, hk, rfl, ho, hK, hN⟩ := hrel
    by_cases hlt : k < ps.length
    · have hs := hid (join_snoc ps k hlt)
      have hle := join_take_le ps (k + 1)
      have hp := h2.out k hlt
      have hcell : ∃ b o, ao = some ⟨b, o, none⟩ ∧ wr.cell? ⟨b, o + k, none⟩ = some (vs.getD k undef) := by
        obtain ⟨_, _, _, e, _, _, h | ⟨b, o, rfl, hc⟩⟩ := h1.out
        · cases e; omega
        · cases e; exact ⟨b, o, rfl, hK.cell (hc k _ (by rw [List.getD_eq_getElem?_getD, List.getElem?_eq_getElem (by omega)]; rfl)) id⟩
      obtain ⟨b, o, rfl, hcell⟩ := hcell
      rw [hs.out] at hle
      generalize vs.getD k undef = vk at hp hcell
      generalize ps.getD k [] = p at hp hs hle
      obtain ⟨_, ak, ck, rfl, hkc, hkm, _⟩ := id hp
      simp only [List.length_append, be_length] at hle
      have hu := len_u64 p.length (by omega)
      have hN1 := hid (number_any u3 (join (ps.take k)) p.length 4 wr (by omega) (by omega) ho)
      replace hp := hid hp
      go_wp2_with fail
      refine hN1.out.mono ?_
      rintro e w5 ⟨v5, rfl, ho5, hk5, hn5⟩
      have hN' := hN.step hn5 hK.size
      have hK' := hN.kept hK hk5
      have hp5 := hp.out.keptNo hK'
      clear hk5 hn5 hN1 hp hcell hu
      go_wp2_with (at_builtin; refine wpList_append _ rfl _ _ 53 rfl 5 1 1 TBytes _ _ _ rfl ho5 _ _ _ rfl hp5 (B_one _) ?c1 ?c2 ?_)
      case c1 => unfold maxLen; omega
      case c2 => omega
      intro v6 w6 ho6 hk6 hn6 _
      have hN6 := hN'.step hn6 hK'.size
      have hK6 := hN'.kept hK' hk6
      have ho6' : w6.ownsRow 0 5 1 v6 (join (ps.take (k + 1))).length ((join (ps.take (k + 1))).map B) := by
        rw [hs.out]
        simpa [be_length, Nat.add_assoc] using ho6
      clear hk6 hn6 ho6 ho5 hK hN hK' hN' hp5 ho
      go_wp2
      go_roundw
      case rel => exact ⟨k + 1, by omega, by go_num, ho6', hK6, hN6⟩
      case measure => simp [intOf]; omega
    · obtain rfl : k = ps.length := by omega
      rw [List.take_length] at ho
      clear hlt hk
      go_wp2
      go_ret
      exact ⟨_, rfl, ho, hK, hN⟩
theorem Tab.kept {w w' : World} (h : Tab w) (hk : Kept no w w') : Tab w' := fun i hi => hk.cell (h i hi) id
theorem Dg_inf (xs : List UInt8) : (Tryd.prog.info? 43).map (·.size) = some ((sum xs).map B).toArray.size := by rw [Dg_size]; kernel_rfl
theorem Dg_one (xs : List UInt8) : ((sum xs).map B).toArray.all (·.oneCell') = true := all_oneCell_toArray (B_one _)
set_option maxRecDepth 20000 in
set_option maxHeartbeats 400000 in
theorem of_any (v : Value) (ps : List (List UInt8)) (w : World) (hl : (join ps).length ≤ 1099511000000) (hn : ps.length ≤ 1099511000000) (hr : RdP w v ps) (hT : Tab w) :
    Calls Tryd.prog 25 #[v] w fun e w' => e = .returned (Dg (sum (join ps))) ∧ Kept no w w' := by
  have hv : ∃ ao cap, v = .slice ao ps.length cap := by obtain ⟨_, ⟨_, ao, cap, h, _⟩, _⟩ := hr; exact ⟨ao, cap, h⟩
  obtain ⟨ao, cap, rfl⟩ := hv
  have hr := hid hr
  have hT := hid hT
  go_enter Tryd.func25, Tryd.ntmps25
  go_wp2_with fail
  refine Calls.new1 _ _ _ ?_
  intro w1 g1 k1 z1
  refine (join_any _ ps w1 hl hn (hr.out.kept k1)).mono ?_
  rintro e w2 ⟨v2, rfl, ho, hk, hN⟩
  go_wp2_with fail
  refine (digest_any v2 (join ps) w2 hl (Rd.of_own ho) (hT.out.kept (k1.trans' hk))).mono ?_
  rintro e w3 ⟨rfl, hk3⟩
  obtain ⟨Z, hZ, g1⟩ : ∃ Z : Array Value, Hd (Z.size = 32) ∧ w1.heap[w.heap.size]? = some (.cells Z 43 (0,0)) := ⟨_, ⟨rfl⟩, g1⟩
  have hk13 := hk.trans' hk3
  have g3 := (hk13.block _ (by omega) id).trans g1
  have hK := hid (k1.trans' hk13)
  have hold : Hd (Z.size = ((sum (join ps)).map B).toArray.size) := ⟨by rw [Dg_size]; exact hZ.out⟩
  have h2 := hid (setRow_heap w3 w.heap.size _ ((sum (join ps)).map B).toArray _ _ g3)
  replace g3 := hid g3
  clear g1 k1 z1 ho hk hN hk3 hk13 hr hT hZ
  unfold Dg
  go_wp2_with (with_reducible refine wpList_store_row rfl 43 _ _ rfl w.heap.size ((sum (join ps)).map B).toArray rfl rfl 43 _ g3.out (Dg_inf _) hold.out (Dg_one _) ?_)
  refine bodyPost_ret (v := Dg (sum (join ps))) ?_ rfl ?_
  · exact results_cell_row rfl _ _ w.heap.size 43 ((sum (join ps)).map B).toArray (0, 0) _ rfl h2.out Tryd.underlying43 rfl (Dg_inf _)
  · exact ⟨rfl, hK.out.setRow (.inr (Nat.le_refl _)) _⟩
end Go.Proofs.YtggcbjchnefhfaaDoor
