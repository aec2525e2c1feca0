/- commit.numbers and electionref36.numbers: the bytes of numbers. -/
import Derived.Test.YtggcbjchnefhfaaDoorRowsG
import Derived.Test.YtggcbjchnefhfaaDoorCmtL
namespace Go.Proofs.YtggcbjchnefhfaaDoor
open Go.RowKit Go.Mk Go.Sha Go.Cmt
theorem RdZ.at {w : World} {ao : Option Addr} {n cap : Nat} {zs : List Int} (h : Rd w 1 (.slice ao n cap) n (zs.map Z)) (hl : zs.length = n) (k : Nat) (hk : k < n) :
    ∃ b o, ao = some ⟨b, o, none⟩ ∧ w.cell? ⟨b, o + k, none⟩ = some (.int .i64 (zs.getD k 0)) := by
  obtain ⟨_, _, _, e, h1, _, h | ⟨b, o, rfl, hc⟩⟩ := h
  · cases e; omega
  · cases e
    refine ⟨b, o, rfl, hc k _ ?_⟩
    simp [show k < zs.length by omega, Z]
theorem Rd.shapeZ {w : World} {size n : Nat} {v : Value} {xs : List Value} (h : Rd w size v n xs) : ∃ ao cap, v = .slice ao n cap := by
  obtain ⟨_, ao, cap, h, _⟩ := h; exact ⟨ao, cap, h⟩
theorem wrap_u64 (z : Int) : IntKind.u64.wrap z = ((z % 18446744073709551616).toNat : Int) := by
  simp only [IntKind.wrap, IntKind.bits, IntKind.signed]
  simp
  omega
set_option maxRecDepth 100000 in
set_option maxHeartbeats 1000000 in
theorem numbers_any (v : Value) (zs : List Int) (w : World) (hn : zs.length ≤ 1000000) (hr : RdZ w v zs) :
    Calls Tryd.prog 27 #[v] w fun e w' => ∃ v', e = .returned v' ∧ w'.ownsRow 0 5 1 v' (numsB zs).length ((numsB zs).map B) ∧ Kept no w w' ∧ New w v' := by
  obtain ⟨ao, cap, rfl⟩ := Rd.shapeZ hr
  replace hr := hid hr
  go_enter Tryd.func27, Tryd.ntmps27
  go_wp2
  go_loopw [3, 5, 6, 9] (fun out _ _ i wr => ∃ k : Nat, k ≤ zs.length ∧ i = .int .i64 (k : Int) ∧ Hd (wr.ownsRow 0 5 1 out (numsB (zs.take k)).length ((numsB (zs.take k)).map B)) ∧ Hd (Kept no w wr) ∧ Hd (New w out)) (fun _ _ _ i _ => zs.length - (intOf i).toNat)
  case atStart => exact ⟨0, by omega, rfl, ⟨World.ownsRow_nil _ _ _ _⟩, ⟨Kept.refl _ _⟩, ⟨.inl rfl⟩⟩
  case round =>
    obtain ⟨k, hk, rfl, ho, hK, hN⟩ := hrel
    by_cases hlt : k < zs.length
    · obtain ⟨b, o, rfl, hcell⟩ := RdZ.at (hr.out.kept hK.out) rfl k hlt
      have hs := hid (numsB_snoc zs k hlt)
      have hk1 : (k : Int) < (zs.length : Int) := by omega
      generalize zs.getD k 0 = z at hcell hs
      have hw := wrap_u64 z
      have h8 := hid (show num8 z = be (z % 18446744073709551616).toNat 8 from rfl)
      generalize (z % 18446744073709551616).toNat = N at hw h8
      have hlk := numsB_length (zs.take k)
      rw [List.length_take] at hlk
      generalize hA : numsB (zs.take k) = A at ho hs hlk
      replace hA := hid hA
      have hAl : A.length ≤ 8000000 := by omega
      clear hlk
      go_wp2
      obtain ⟨wo, rfl⟩ : ∃ wo : World, wo = wr := ⟨_, rfl⟩
      go_loopw [3, 6] (fun out i wr => ∃ (j : Nat) (acc : List UInt8), j ≤ 8 ∧ i = .int .i64 (8 * (j : Int) - 8) ∧ Hd (acc ++ be N j = be N 8) ∧ acc.length + j = 8 ∧ Hd (wr.ownsRow 0 5 1 out (A.length + acc.length) ((A ++ acc).map B)) ∧ Hd (Kept no w wr) ∧ Hd (New w out))
        (fun _ i _ => (intOf i + 8).toNat)
      case atStart => exact ⟨8, [], by omega, rfl, ⟨rfl⟩, rfl, by simpa using ho, hK, hN⟩
      case round =>
        clear ho hK hN hcell
        obtain ⟨j, acc, hj, rfl, Hacc, hal, ho, hK, hN⟩ := hrel
        by_cases hj0 : j = 0
        · subst hj0
          have hfin : Hd (wr.ownsRow 0 5 1 u3 (numsB (zs.take (k + 1))).length ((numsB (zs.take (k + 1))).map B)) := ⟨by
            have h1 : acc = be N 8 := by have := Hacc.out; rwa [show be N 0 = [] from rfl, List.append_nil] at this
            have h2 := ho.out
            rw [h1, ← h8.out] at h2
            rw [hs.out, List.length_append]; exact h2⟩
          clear Hacc ho hal
          go_wp2
          go_roundw
          case rel => first | exact ⟨k + 1, by omega, by go_num, hfin, hK, hN⟩ | ((repeat apply Exists.intro); exact ⟨⟨k + 1, by omega, by go_num, hfin, hK, hN⟩, rfl⟩)
          case measure => simp [intOf]; omega
        · obtain ⟨m, rfl⟩ : ∃ m, j = m + 1 := ⟨j - 1, by omega⟩
          have hcast : 8 * (((m + 1 : Nat)) : Int) - 8 = 8 * (m : Int) := by omega
          simp only [hcast]
          clear hcast
          have hsh : (8 * (m : Int)).toNat = 8 * m := by omega
          go_wp2_with (at_builtin; refine wpList_append_lit _ rfl _ _ 53 rfl 5 1 1 TBytes _ _ _ rfl ho.out 1 [_] rfl rfl ?c1 ?c2 ?c3 ?_)
          case c1 => simp [Value.oneCell']
          case c2 => unfold maxLen; omega
          case c3 => omega
          intro v' w' h2 h3 h4 _
          have h7 : Hd (w'.ownsRow 0 5 1 v' (A.length + (acc ++ [UInt8.ofNat (N / 2 ^ (8 * m))]).length) ((A ++ (acc ++ [UInt8.ofNat (N / 2 ^ (8 * m))])).map B)) := ⟨by
            have e : Value.int IntKind.u8 ((N : Int) / 2 ^ (8 * m) % 256) = B (UInt8.ofNat (N / 2 ^ (8 * m))) := by rw [← B_of]; norm_cast
            rw [e] at h2
            simpa [Nat.add_assoc] using h2⟩
          have h5 := hid (hN.out.kept hK.out h3)
          have h6 := hid (hN.out.step h4 hK.out.size)
          clear h2 h3 h4 hK hN ho hsh
          go_wp2
          go_roundw
          case rel => first | exact ⟨m, _, by omega, congrArg (Value.int .i64) (by omega), ⟨by rw [← Hacc.out, be_succ]; simp⟩, by simp; omega, h7, h5, h6⟩ | ((repeat apply Exists.intro); exact ⟨⟨m, _, by omega, congrArg (Value.int .i64) (by omega), ⟨by rw [← Hacc.out, be_succ]; simp⟩, by simp; omega, h7, h5, h6⟩, rfl⟩)
          case measure => simp [intOf]; omega
    · obtain rfl : k = zs.length := by omega
      rw [List.take_length] at ho
      clear hlt hk
      go_wp2
      go_ret
      exact ⟨_, rfl, ho.out, hK.out, hN.out⟩
set_option maxRecDepth 100000 in
set_option maxHeartbeats 1000000 in
theorem refnumbers_any (v : Value) (zs : List Int) (w : World) (hn : zs.length ≤ 1000000) (hr : RdZ w v zs) :
    Calls Tryd.prog 34 #[v] w fun e w' => ∃ v', e = .returned v' ∧ w'.ownsRow 0 5 1 v' (numsB zs).length ((numsB zs).map B) ∧ Kept no w w' ∧ New w v' := by
  obtain ⟨ao, cap, rfl⟩ := Rd.shapeZ hr
  replace hr := hid hr
  go_enter Tryd.func34, Tryd.ntmps34
  go_wp2
  go_loopw [3, 4, 5, 6] (fun out i _ _ wr => ∃ k : Nat, k ≤ zs.length ∧ i = .int .i64 (k : Int) ∧ Hd (wr.ownsRow 0 5 1 out (numsB (zs.take k)).length ((numsB (zs.take k)).map B)) ∧ Hd (Kept no w wr) ∧ Hd (New w out)) (fun _ i _ _ _ => zs.length - (intOf i).toNat)
  case atStart => exact ⟨0, by omega, rfl, ⟨World.ownsRow_nil _ _ _ _⟩, ⟨Kept.refl _ _⟩, ⟨.inl rfl⟩⟩
  case round =>
    obtain ⟨k, hk, rfl, ho, hK, hN⟩ := hrel
    by_cases hlt : k < zs.length
    · obtain ⟨b, o, rfl, hcell⟩ := RdZ.at (hr.out.kept hK.out) rfl k hlt
      have hs := hid (numsB_snoc zs k hlt)
      have hk1 : (k : Int) < (zs.length : Int) := by omega
      generalize zs.getD k 0 = z at hcell hs
      have hw := wrap_u64 z
      have h8 := hid (show num8 z = be (z % 18446744073709551616).toNat 8 from rfl)
      generalize (z % 18446744073709551616).toNat = N at hw h8
      have hlk := numsB_length (zs.take k)
      rw [List.length_take] at hlk
      generalize hA : numsB (zs.take k) = A at ho hs hlk
      replace hA := hid hA
      have hAl : A.length ≤ 8000000 := by omega
      clear hlk
      go_wp2
      obtain ⟨wo, rfl⟩ : ∃ wo : World, wo = wr := ⟨_, rfl⟩
      go_loopw [3, 6] (fun out i wr => ∃ (j : Nat) (acc : List UInt8), j ≤ 8 ∧ i = .int .i64 ((j : Int) - 1) ∧ Hd (acc ++ be N j = be N 8) ∧ acc.length + j = 8 ∧ Hd (wr.ownsRow 0 5 1 out (A.length + acc.length) ((A ++ acc).map B)) ∧ Hd (Kept no w wr) ∧ Hd (New w out))
        (fun _ i _ => (intOf i + 1).toNat)
      case atStart => exact ⟨8, [], by omega, rfl, ⟨rfl⟩, rfl, by simpa using ho, hK, hN⟩
      case round =>
        clear ho hK hN hcell
        obtain ⟨j, acc, hj, rfl, Hacc, hal, ho, hK, hN⟩ := hrel
        by_cases hj0 : j = 0
        · subst hj0
          have hfin : Hd (wr.ownsRow 0 5 1 u3 (numsB (zs.take (k + 1))).length ((numsB (zs.take (k + 1))).map B)) := ⟨by
            have h1 : acc = be N 8 := by have := Hacc.out; rwa [show be N 0 = [] from rfl, List.append_nil] at this
            have h2 := ho.out
            rw [h1, ← h8.out] at h2
            rw [hs.out, List.length_append]; exact h2⟩
          clear Hacc ho hal
          go_wp2
          go_roundw
          case rel => first | exact ⟨k + 1, by omega, by go_num, hfin, hK, hN⟩ | ((repeat apply Exists.intro); exact ⟨⟨k + 1, by omega, by go_num, hfin, hK, hN⟩, rfl⟩)
          case measure => simp [intOf]; omega
        · obtain ⟨m, rfl⟩ : ∃ m, j = m + 1 := ⟨j - 1, by omega⟩
          have hcast : (((m + 1 : Nat)) : Int) - 1 = (m : Int) := by omega
          simp only [hcast]
          clear hcast
          have hsh : (8 * (m : Int)).toNat = 8 * m := by omega
          go_wp2_with (at_builtin; refine wpList_append_lit _ rfl _ _ 53 rfl 5 1 1 TBytes _ _ _ rfl ho.out 1 [_] rfl rfl ?c1 ?c2 ?c3 ?_)
          case c1 => simp [Value.oneCell']
          case c2 => unfold maxLen; omega
          case c3 => omega
          intro v' w' h2 h3 h4 _
          have h7 : Hd (w'.ownsRow 0 5 1 v' (A.length + (acc ++ [UInt8.ofNat (N / 2 ^ (8 * m))]).length) ((A ++ (acc ++ [UInt8.ofNat (N / 2 ^ (8 * m))])).map B)) := ⟨by
            have e : Value.int IntKind.u8 ((N : Int) / 2 ^ (8 * m) % 256) = B (UInt8.ofNat (N / 2 ^ (8 * m))) := by rw [← B_of]; norm_cast
            rw [e] at h2
            simpa [Nat.add_assoc] using h2⟩
          have h5 := hid (hN.out.kept hK.out h3)
          have h6 := hid (hN.out.step h4 hK.out.size)
          clear h2 h3 h4 hK hN ho hsh
          go_wp2
          go_roundw
          case rel => first | exact ⟨m, _, by omega, congrArg (Value.int .i64) (by omega), ⟨by rw [← Hacc.out, be_succ]; simp⟩, by simp; omega, h7, h5, h6⟩ | ((repeat apply Exists.intro); exact ⟨⟨m, _, by omega, congrArg (Value.int .i64) (by omega), ⟨by rw [← Hacc.out, be_succ]; simp⟩, by simp; omega, h7, h5, h6⟩, rfl⟩)
          case measure => simp [intOf]
    · obtain rfl : k = zs.length := by omega
      rw [List.take_length] at ho
      clear hlt hk
      go_wp2
      go_ret
      exact ⟨_, rfl, ho.out, hK.out, hN.out⟩
end Go.Proofs.YtggcbjchnefhfaaDoor
