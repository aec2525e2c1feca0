import Derived.Test.YtggcbjchnefhfaaDoorProg
import Derived.Test.YtggcbjchnefhfaaDoorUL
namespace Go.Proofs.YtggcbjchnefhfaaDoor
open Go.RowKit Go.Mk Go.Sha
theorem TBytes : ElemT Tryd.prog 53 5 1 1 := .mk' (z := .int .u8 0) (by kernel_rfl) (by kernel_rfl) (by kernel_rfl) (by decide)
theorem be_succ (n s : Nat) : be n (s+1) = UInt8.ofNat (n / 2^(8*s)) :: be n s := rfl
set_option maxRecDepth 20000 in
set_option maxHeartbeats 400000 in
theorem number_any (v : Value) (xs : List UInt8) (n : Nat) (s : Nat) (w : World) (hs : s ≤ 8) (hl : xs.length ≤ 1099511627776)
    (ho : w.ownsRow 0 5 1 v xs.length (xs.map B)) :
    Calls Tryd.prog 53 #[v, .int .u64 n, .int .i64 s] w fun e w' => ∃ v', e = .returned v' ∧ w'.ownsRow 0 5 1 v' (xs.length + s) ((xs ++ be n s).map B) ∧ Kept (ob v) w w' ∧ NewOr w v v' := by
  go_enter Tryd.func53, Tryd.ntmps53
  go_wp2
  go_loopw [0, 7] (fun v' i wr => ∃ j acc, j ≤ s ∧ i = .int .i64 ((j : Int) - 1) ∧ acc ++ be n j = be n s ∧ acc.length + j = s ∧ wr.ownsRow 0 5 1 v' (xs.length + acc.length) ((xs ++ acc).map B) ∧ Kept (ob v) w wr ∧ NewOr w v v')
    (fun _ i _ => (intOf i + 1).toNat)
  case atStart => exact ⟨s, [], by omega, rfl, rfl, by simp, by simpa using ho, Kept.refl _ _, NewOr.refl _ _⟩
  case round =>
    obtain ⟨j, acc, hj, rfl, hacc, hlen, hown, hgr, hv⟩ := hrel
    have Hacc := hid hacc; clear hacc
    by_cases hj0 : j = 0
    · subst hj0
      go_wp2
      go_ret
      have h1 := Hacc.out
      simp only [be, List.append_nil] at h1
      exact ⟨_, rfl, by rw [← h1]; rw [show s = acc.length by omega]; exact hown, hgr, hv⟩
    · obtain ⟨m, rfl⟩ : ∃ m, j = m + 1 := ⟨j - 1, by omega⟩
      have hcast : (((m + 1 : Nat) : Int) - 1) = (m : Int) := by omega
      simp only [hcast]
      clear hcast
      go_wp2_with (at_builtin; refine wpList_append_lit _ rfl _ _ 53 rfl 5 1 1 TBytes _ _ _ rfl hown 1 [_] rfl rfl ?c1 ?c2 ?c3 ?_)
      case c1 => simp [Value.oneCell']
      case c2 => unfold maxLen; omega
      case c3 => omega
      intro v' w' h2 h3 h4 _
      have h5 : Kept (ob v) w w' := hgr.step hv h3
      have h6 : NewOr w v v' := hv.trans h4 hgr.size
      have h7 : w'.ownsRow 0 5 1 v' (xs.length + (acc ++ [UInt8.ofNat (n / 2 ^ (8 * m))]).length) ((xs ++ (acc ++ [UInt8.ofNat (n / 2 ^ (8 * m))])).map B) := by
        have e : Value.int IntKind.u8 ((n : Int) / 2 ^ (8 * m) % 256) = B (UInt8.ofNat (n / 2 ^ (8 * m))) := by rw [← B_of]; norm_cast
        rw [e] at h2
        simpa [Nat.add_assoc] using h2
      clear h2 h3 h4 hgr hv hown
      go_wp2
      go_roundw
      case rel => exact ⟨m, _, by omega, rfl, by rw [← Hacc.out, be_succ]; simp, by simp; omega, h7, h5, h6⟩
      case measure => simp [intOf]
def New (w : World) (v : Value) : Prop := v.ownBlock = none ∨ ∃ k, v.ownBlock = some k ∧ w.heap.size ≤ k
set_option maxHeartbeats 400000 in
theorem clone_any (v : Value) (xs : List UInt8) (w : World) (hl : xs.length ≤ 1099511627776) (hr : Rd w 1 v xs.length (xs.map B)) :
    Calls Tryd.prog 61 #[v] w fun e w' => ∃ v', e = .returned v' ∧ w'.ownsRow 0 5 1 v' xs.length (xs.map B) ∧ Kept no w w' ∧ New w v' := by
  obtain ⟨h1, ao, cap, rfl, h2, h3, hao⟩ := id hr
  cases ao with
  | none =>
    have hx : xs = [] := List.eq_nil_of_length_eq_zero (by rcases hao with h | ⟨_, _, h, _⟩; omega; cases h)
    subst hx
    have he := fun (w : World) (a : Option Addr) (n c : Nat) => Lib.run_eql_slice_nil (P := Tryd.prog) w 53 5 a n c 0 0 Tryd.underlying53
    go_enter Tryd.func61, Tryd.ntmps61
    go_wp2
    go_ret
    exact ⟨_, rfl, World.ownsRow_nil _ _ _ _, Kept.refl _ _, .inl rfl⟩
  | some ad =>
    have he := fun (w : World) (a : Option Addr) (n c : Nat) => Lib.run_eql_slice_nil (P := Tryd.prog) w 53 5 a n c 0 0 Tryd.underlying53
    have hr' : Rd (w.alloc (.cells #[] 5)) 1 _ _ _ := hr.alloc _
    have hown : (w.alloc (.cells #[] 5)).ownsRow 0 5 1 (.slice (some ⟨w.heap.size, 0, none⟩) 0 0) 0 [] := ⟨rfl, .inr ⟨w.heap.size, 0, #[], rfl, Nat.zero_le _, heap_alloc_new w _, Nat.le_refl _, Nat.zero_le _, rfl, rfl⟩⟩
    go_enter Tryd.func61, Tryd.ntmps61
    go_wp2_with (at_builtin; refine wpList_append _ rfl _ _ 53 rfl 5 1 1 TBytes _ _ _ rfl hown _ _ _ rfl hr' (B_one xs) ?c1 ?c2 ?_)
    case c1 => unfold maxLen; omega
    case c2 => omega
    intro v' w' h4 h5 h6 _
    have hk : Kept no w w' := ((Kept.refl no w).alloc _).trans h5 fun k hk e => by
      simp only [ob, Value.ownBlock, Option.some.injEq] at e; omega
    have hn : New w v' := by
      rcases h6 with h6 | ⟨k, h6, h7⟩
      · exact .inr ⟨w.heap.size, h6, Nat.le_refl _⟩
      · exact .inr ⟨k, h6, by rw [World.size_alloc] at h7; omega⟩
    clear h5 h6 hown hr' hr hao
    go_wp2
    go_ret
    exact ⟨_, rfl, h4, hk, hn⟩
theorem zeros_next (l j : Nat) (h : j < zeros l) : (l + 1 + j) % 64 ≠ 56 := by unfold zeros at h; omega
theorem zeros_last (l : Nat) : (l + 1 + zeros l) % 64 = 56 := by unfold zeros; omega
theorem zeros_lt (l : Nat) : zeros l < 64 := by unfold zeros; omega
theorem B0 : Value.int .u8 0 = B 0 := rfl
theorem B128 : Value.int .u8 128 = B 128 := rfl
theorem New.step {w w1 : World} {v v' : Value} (h : New w v) (h' : NewOr w1 v v') (hs : w.heap.size ≤ w1.heap.size) : New w v' := by
  rcases h' with h' | ⟨k, h1, h2⟩
  · rcases h with h | ⟨k, h1, h2⟩
    · exact .inl (h'.trans h)
    · exact .inr ⟨k, h'.trans h1, h2⟩
  · exact .inr ⟨k, h1, by omega⟩
theorem New.kept {w w1 w' : World} {v : Value} (h : New w v) (hk : Kept no w w1) (hv : Kept (ob v) w1 w') : Kept no w w' :=
  hk.trans hv fun k hlt e => by
    rcases h with h | ⟨j, h1, h2⟩
    · rw [ob, h] at e; cases e
    · rw [ob, h1, Option.some.injEq] at e; omega
set_option maxRecDepth 20000 in
set_option maxHeartbeats 400000 in
theorem padded_any (v : Value) (xs : List UInt8) (w : World) (hl : xs.length ≤ 1099511627000) (hr : Rd w 1 v xs.length (xs.map B)) :
    Calls Tryd.prog 51 #[v] w fun e w' => ∃ v', e = .returned v' ∧ w'.ownsRow 0 5 1 v' (padded xs).length ((padded xs).map B) ∧ Kept no w w' ∧ New w v' := by
  have hv : ∃ ao cap, v = .slice ao xs.length cap := by obtain ⟨_, ao, cap, h, _⟩ := hr; exact ⟨ao, cap, h⟩
  obtain ⟨ao, cap, rfl⟩ := hv
  have H1 := hid (clone_any _ xs w (by omega) hr)
  clear hr
  go_enter Tryd.func51, Tryd.ntmps51
  go_wp2_with fail
  refine H1.out.mono ?_
  rintro e w1 ⟨v1, rfl, ho, hk, hn⟩
  clear H1
  go_wp2_with (at_builtin; refine wpList_append_lit _ rfl _ _ 53 rfl 5 1 1 TBytes _ _ _ rfl ho 1 [_] rfl rfl ?c1 ?c2 ?c3 ?_)
  case c1 => simp [Value.oneCell']
  case c2 => unfold maxLen; omega
  case c3 => omega
  intro v2 w2 ho2 hk2 hn2 _
  rw [B128] at ho2
  have hN := hn.step hn2 hk.size
  have hK := hn.kept hk hk2
  clear hk hk2 hn hn2 ho
  have ho2 : w2.ownsRow 0 5 1 v2 (xs.length + 1 + 0) ((xs ++ 128 :: List.replicate 0 0).map B) := by simpa using ho2
  go_wp2
  go_loopw [3] (fun v3 wr => ∃ j, j ≤ zeros xs.length ∧ wr.ownsRow 0 5 1 v3 (xs.length + 1 + j) ((xs ++ 128 :: List.replicate j 0).map B) ∧ Kept no w wr ∧ New w v3)
    (fun v3 _ => 1099511628000 - (match v3 with | .slice _ n _ => n | _ => 0))
  case atStart => exact ⟨0, Nat.zero_le _, ho2, hK, hN⟩
  case round =>
    clear ho2 hK hN
    obtain ⟨j, hj, ho, hK, hN⟩ := hrel
    have hz := zeros_lt xs.length
    obtain ⟨a3, c3, rfl⟩ : ∃ a c, u3 = Value.slice a (xs.length + 1 + j) c := by
      obtain ⟨_, ⟨rfl, h⟩ | ⟨g, c, _, rfl, _⟩⟩ := ho
      · omega
      · exact ⟨_, _, rfl⟩
    by_cases hlt : j < zeros xs.length
    · have hne := zeros_next xs.length j hlt
      go_wp2_with (at_builtin; refine wpList_append_lit _ rfl _ _ 53 rfl 5 1 1 TBytes _ _ _ rfl ho 1 [_] rfl rfl ?c1 ?c2 ?c3 ?_)
      case c1 => simp [Value.oneCell']
      case c2 => unfold maxLen; omega
      case c3 => omega
      intro v4 w4 ho4 hk4 hn4 _
      rw [B0] at ho4
      have ho4 : w4.ownsRow 0 5 1 v4 (xs.length + 1 + (j + 1)) ((xs ++ 128 :: List.replicate (j + 1) 0).map B) := by
        simpa [List.replicate_succ', Nat.add_assoc] using ho4
      have hN' := hN.step hn4 hK.size
      have hK' := hN.kept hK hk4
      have hv4 : ∃ a c, v4 = Value.slice a (xs.length + 1 + (j + 1)) c := by
        obtain ⟨_, ⟨rfl, h⟩ | ⟨g, c, _, rfl, _⟩⟩ := ho4
        · omega
        · exact ⟨_, _, rfl⟩
      clear hk4 hn4 hK hN ho
      go_wp2
      go_roundw
      case rel => exact ⟨j + 1, by omega, ho4, hK', hN'⟩
      case measure => obtain ⟨a, c, rfl⟩ := hv4; simp; omega
    · obtain rfl : j = zeros xs.length := by omega
      have he := zeros_last xs.length
      have H2 := fun w1 => number_any (.slice a3 (xs.length + 1 + zeros xs.length) c3) (xs ++ 128 :: List.replicate (zeros xs.length) 0) (8 * xs.length) 8 w1 (by omega) (by simp; omega)
      have hlen : (xs ++ 128 :: List.replicate (zeros xs.length) 0).length = xs.length + 1 + zeros xs.length := by simp; omega
      rw [hlen, show ((8 * xs.length : Nat) : Int) = (xs.length : Int) * 8 by omega] at H2
      replace H2 := hid H2
      clear hlt hj
      go_wp2_with fail
      refine (H2.out _ ho).mono ?_
      rintro e w5 ⟨v5, rfl, ho5, hk5, hn5⟩
      have hN' := hN.step hn5 hK.size
      have hK' := hN.kept hK hk5
      have hp : (xs ++ 128 :: List.replicate (zeros xs.length) 0) ++ be (8 * xs.length) 8 = padded xs := by simp [padded]
      rw [hp, show xs.length + 1 + zeros xs.length + 8 = (padded xs).length by rw [padded_length]; omega] at ho5
      clear ho hk5 hn5 hK hN H2 hp he
      replace ho5 := hid ho5
      go_wp2
      go_ret
      exact ⟨_, rfl, ho5.out, hK', hN'⟩
end Go.Proofs.YtggcbjchnefhfaaDoor
