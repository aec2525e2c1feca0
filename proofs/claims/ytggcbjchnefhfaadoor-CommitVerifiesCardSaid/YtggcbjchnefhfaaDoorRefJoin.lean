/- electionref04.Join and electionref04.Of. -/
import Derived.Test.YtggcbjchnefhfaaDoorRefSum
import Derived.Test.YtggcbjchnefhfaaDoorKit2
namespace Go.Proofs.YtggcbjchnefhfaaDoor
open Go.RowKit Go.Mk Go.Sha
theorem be4 (n : Nat) : be n 4 = [UInt8.ofNat (n / 16777216), UInt8.ofNat (n / 65536), UInt8.ofNat (n / 256), UInt8.ofNat n] := by
  simp only [be, Nat.mul_zero, Nat.pow_zero, Nat.div_one]
theorem B_div (n d : Nat) : B (UInt8.ofNat (n / d)) = .int .u8 ((n : Int) / (d : Int) % 256) := by
  rw [← B_of, Int.natCast_ediv]
theorem be4_vals (n : Nat) : (be n 4).map B = [.int .u8 ((n : Int) / 16777216 % 256), .int .u8 ((n : Int) / 65536 % 256), .int .u8 ((n : Int) / 256 % 256), .int .u8 ((n : Int) % 256)] := by
  rw [be4]
  show [B _, B _, B _, B _] = _
  rw [B_div n 16777216, B_div n 65536, B_div n 256, ← B_of]
  rfl
theorem u32_len (n : Nat) (h : n < 4294967296) : IntKind.u32.wrap (n : Int) = (n : Int) := by rw [IntKind.wrap_u32']; omega
set_option maxRecDepth 20000 in
set_option maxHeartbeats 1000000 in
theorem refjoin_any (v : Value) (ps : List (List UInt8)) (w : World) (hl : (join ps).length ≤ 1099511000000) (hn : ps.length ≤ 1099511000000) (h32 : ∀ p ∈ ps, p.length < 4294967296) (hr : RdP w v ps) :
    Calls Tryd.prog 50 #[v] w fun e w' => ∃ v', e = .returned v' ∧ w'.ownsRow 0 5 1 v' (join ps).length ((join ps).map B) ∧ Kept no w w' ∧ New w v' := by
  obtain ⟨vs, h1, h2⟩ := hr
  obtain ⟨hvl, ao, cap, rfl, hcap, hcm, hao⟩ := id h1
  have h1 := hid h1
  have h2 := hid h2
  replace h32 := hid h32
  clear hao
  go_enter Tryd.func50, Tryd.ntmps50
  go_wp2
  go_loopw [3, 4, 5] (fun out i _ wr => ∃ k : Nat, k ≤ ps.length ∧ i = .int .i64 k ∧ Hd (wr.ownsRow 0 5 1 out (join (ps.take k)).length ((join (ps.take k)).map B)) ∧ Hd (Kept no w wr) ∧ Hd (New w out)) (fun _ i _ _ => ps.length - (intOf i).toNat)
  case atStart => exact ⟨0, by omega, rfl, ⟨World.ownsRow_nil _ _ _ _⟩, ⟨Kept.refl _ _⟩, ⟨.inl rfl⟩⟩
  case round =>
    obtain ⟨k, hk, rfl, ho, hK, hN⟩ := hrel
    by_cases hlt : k < ps.length
    · have hs := hid (join_snoc ps k hlt)
      have hle := join_take_le ps (k + 1)
      have hp := h2.out k hlt
      have hcell : ∃ b o, ao = some ⟨b, o, none⟩ ∧ w.cell? ⟨b, o + k, none⟩ = some (vs.getD k undef) := by
        obtain ⟨_, _, _, e, _, _, h | ⟨b, o, rfl, hc⟩⟩ := h1.out
        · cases e; omega
        · cases e; exact ⟨b, o, rfl, hc k _ (by rw [List.getD_eq_getElem?_getD, List.getElem?_eq_getElem (by omega)]; rfl)⟩
      obtain ⟨b, o, rfl, hcell⟩ := hcell
      have hp32 : (ps.getD k []).length < 4294967296 := h32.out _ (by rw [List.getD_eq_getElem?_getD, List.getElem?_eq_getElem hlt]; exact List.getElem_mem hlt)
      rw [hs.out] at hle
      generalize vs.getD k undef = vk at hp hcell
      generalize ps.getD k [] = p at hp hs hle hp32
      obtain ⟨_, ak, ck, rfl, hkc, hkm, _⟩ := id hp
      simp only [List.length_append, be_length] at hle
      have hu := u32_len p.length hp32
      have hcw := hK.out.cell hcell id
      replace hcell := hid hcell
      have k1 : (k : Int) < (ps.length : Int) := by omega
      have hv4 := hid (be4_vals p.length)
      have HO : Hd (((wr.alloc (.cells #[.int .u8 ((p.length : Int) / 16777216 % 256), .int .u8 ((p.length : Int) / 65536 % 256), .int .u8 ((p.length : Int) / 256 % 256), .int .u8 ((p.length : Int) % 256)] 5)).drew).ownsRow 0 5 1 u3 (join (ps.take k)).length ((join (ps.take k)).map B)) := ⟨((Kept.refl no wr).alloc _).drew.ownsRow ho.out fun _ _ => id⟩
      have HR : Hd (Rd ((wr.alloc (.cells #[.int .u8 ((p.length : Int) / 16777216 % 256), .int .u8 ((p.length : Int) / 65536 % 256), .int .u8 ((p.length : Int) / 256 % 256), .int .u8 ((p.length : Int) % 256)] 5)).drew) 1 (.slice (some ⟨wr.heap.size, 0, none⟩) 4 4) 4 [.int .u8 ((p.length : Int) / 16777216 % 256), .int .u8 ((p.length : Int) / 65536 % 256), .int .u8 ((p.length : Int) / 256 % 256), .int .u8 ((p.length : Int) % 256)]) := ⟨(Rd.new wr 5 1 4 _ rfl (by unfold maxLen; omega)).drew⟩
      have H1 : Hd (∀ u ∈ [Value.int .u8 ((p.length : Int) / 16777216 % 256), .int .u8 ((p.length : Int) / 65536 % 256), .int .u8 ((p.length : Int) / 256 % 256), .int .u8 ((p.length : Int) % 256)], u.oneCell' = true) := ⟨by simp [Value.oneCell']⟩
      have H2 : Hd (∀ u ∈ p.map B, u.oneCell' = true) := ⟨B_one p⟩
      have HM : Hd ((join (ps.take k)).length + 4 ≤ maxLen) := ⟨by unfold maxLen; omega⟩
      have HB : Hd (((join (ps.take k)).length + 4) * 1 ≤ 140737488355328) := ⟨by omega⟩
      have HM2 : Hd ((join (ps.take k)).length + 4 + p.length ≤ maxLen) := ⟨by unfold maxLen; omega⟩
      have HB2 : Hd (((join (ps.take k)).length + 4 + p.length) * 1 ≤ 140737488355328) := ⟨by omega⟩
      have KK : Hd (∀ (o : Obj) v1 w1, Kept (ob u3) (wr.alloc o).drew w1 → NewOr (wr.alloc o).drew u3 v1 → Kept no w w1 ∧ New w v1) := ⟨fun o v1 w1 hk1 hn1 => ⟨hN.out.kept hK.out (hk1.after_lit _), hN.out.step (hn1.after_lit _) hK.out.size⟩⟩
      replace hp := hid hp
      replace hu := hid hu
      go_wp2_with fail
      go_region_held3 (fun w' => w'.cell? ⟨b, o + k, none⟩ = some (.slice ak p.length ck)) (first | go_keep | exact (KK.out _ _ _ hk1 hn1).1.cell hcell.out id | exact KX.cell hcell.out id)
        ((first | (refine step_append rfl (.tmp 18) (.tmp 30) 53 rfl 5 1 1 TBytes u3 _ _ rfl HO.out _ 4 _ rfl HR.out H1.out HM.out HB.out ?_; intro v1 w1 ho1 hk1 hn1 _) | (refine step_append rfl (.tmp 31) (.tmp 35) 53 rfl 5 1 1 TBytes v1 _ _ rfl ho1 _ p.length _ rfl (hp.out.keptNo (KK.out _ _ _ hk1 hn1).1) H2.out HM2.out HB2.out ?_; intro v2 w2 ho2 hk2 hn2 _; have KX := (KK.out _ _ _ hk1 hn1).2.kept (KK.out _ _ _ hk1 hn1).1 hk2)))
      have hN2 := hid ((KK.out _ _ _ hk1 hn1).2.step hn2 (KK.out _ _ _ hk1 hn1).1.size)
      have ho3 : Hd (w2.ownsRow 0 5 1 v2 (join (ps.take (k + 1))).length ((join (ps.take (k + 1))).map B)) := ⟨by
        rw [hs.out]
        simp only [List.map_append, List.length_append, hv4.out, be_length]
        exact ho2⟩
      replace KX := hid KX
      clear ho1 hk1 hn1 ho2 hk2 hn2 HO HR H1 H2 KK hv4 hs hcw hcell hp hu ho hK hN
      go_wp2
      go_roundw
      case rel => first | exact ⟨k + 1, by omega, by go_num, ho3, KX, hN2⟩ | ((repeat apply Exists.intro); exact ⟨⟨k + 1, by omega, by go_num, ho3, KX, hN2⟩, rfl⟩)
      case measure => simp [intOf]; omega
    · obtain rfl : k = ps.length := by omega
      rw [List.take_length] at ho
      clear hlt hk
      go_wp2
      go_ret
      exact ⟨_, rfl, ho.out, hK.out, hN.out⟩
set_option maxRecDepth 20000 in
set_option maxHeartbeats 400000 in
theorem refof_any (v : Value) (ps : List (List UInt8)) (w : World) (hl : (join ps).length ≤ 1099511000000) (hn : ps.length ≤ 1099511000000) (h32 : ∀ p ∈ ps, p.length < 4294967296) (hr : RdP w v ps) (hT : TabR w) :
    Calls Tryd.prog 33 #[v] w fun e w' => e = .returned (Dg (sum (join ps))) ∧ Kept no w w' := by
  have hv : ∃ ao cap, v = .slice ao ps.length cap := by obtain ⟨_, ⟨_, ao, cap, h, _⟩, _⟩ := hr; exact ⟨ao, cap, h⟩
  obtain ⟨ao, cap, rfl⟩ := hv
  replace hr := hid hr
  replace hT := hid hT
  replace h32 := hid h32
  go_enter Tryd.func33, Tryd.ntmps33
  go_wp2_with fail
  refine Calls.new1 _ _ _ ?_
  intro w1 g1 k1 z1
  refine (refjoin_any _ ps w1 hl hn h32.out (hr.out.kept k1)).mono ?_
  rintro e w2 ⟨v2, rfl, ho, hk, hN⟩
  go_wp2_with fail
  refine (refsum_any v2 (join ps) w2 hl (Rd.of_own ho) (hT.out.kept (k1.trans' hk))).mono ?_
  rintro e w3 ⟨rfl, hk3⟩
  obtain ⟨Z, hZ, g1⟩ : ∃ Z : Array Value, Hd (Z.size = 32) ∧ w1.heap[w.heap.size]? = some (.cells Z 43 (0,0)) := ⟨_, ⟨rfl⟩, g1⟩
  have hk13 := hk.trans' hk3
  have g3 := (hk13.block _ (by omega) id).trans g1
  have hK := hid (k1.trans' hk13)
  have hold : Hd (Z.size = ((sum (join ps)).map B).toArray.size) := ⟨by rw [Dg_size]; exact hZ.out⟩
  have h2 := hid (setRow_heap w3 w.heap.size _ ((sum (join ps)).map B).toArray _ _ g3)
  replace g3 := hid g3
  clear g1 k1 z1 ho hk hN hk3 hk13 hr hT hZ h32
  unfold Dg
  go_wp2_with (with_reducible refine wpList_store_row rfl 43 _ _ rfl w.heap.size ((sum (join ps)).map B).toArray rfl rfl 43 _ g3.out (Dg_inf _) hold.out (Dg_one _) ?_)
  refine bodyPost_ret (v := Dg (sum (join ps))) ?_ rfl ?_
  · exact results_cell_row rfl _ _ w.heap.size 43 ((sum (join ps)).map B).toArray (0, 0) _ rfl h2.out Tryd.underlying43 rfl (Dg_inf _)
  · exact ⟨rfl, hK.out.setRow (.inr (Nat.le_refl _)) _⟩
end Go.Proofs.YtggcbjchnefhfaaDoor
