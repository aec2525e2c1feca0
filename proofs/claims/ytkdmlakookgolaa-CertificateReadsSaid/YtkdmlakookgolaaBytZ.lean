/- Numbers as bytes: electionref31.bytes, certificate.appendNumber. -/
import Derived.Test.YtkdmlakookgolaaIsbZ
import Derived.Test.YtkdmlakookgolaaReachZ
namespace Go.Mg
/-- A byte's value. -/
def B8 (x : UInt8) : Value := .int .u8 (x.toNat : Int)
/-- Byte i of a number. -/
def byt (x i : Nat) : UInt8 := UInt8.ofNat (x / 256 ^ i)
/-- The k last bytes, the highest first. -/
def encB (x : Nat) : Nat → List UInt8
  | 0 => []
  | k + 1 => byt x k :: encB x k
theorem encB_len (x : Nat) : ∀ k, (encB x k).length = k
  | 0 => rfl
  | k + 1 => by rw [encB, List.length_cons, encB_len x k]
theorem byt_val (x i : Nat) : Value.int .u8 ((x : Int) / 2 ^ (8 * i) % 256) = B8 (byt x i) := by
  (unfold B8 byt); (rw [UInt8.toNat_ofNat', show (256 : Nat) = 2 ^ 8 from rfl, ← Nat.pow_mul])
  congr 1
theorem B8_one (xs : List UInt8) : ∀ u ∈ xs.map B8, u.oneCell' = true := fun u hu => by
  obtain ⟨z, _, rfl⟩ := List.mem_map.1 hu
  rfl
end Go.Mg
namespace Go.Proofs.Ytkdmlakookgolaa
open Go.RowKit Go.Mk Go.Pil Go.Mg
theorem TByt : ElemT Try.prog 45 5 1 1 := .mk' (z := .int .u8 0) (by kernel_rfl) (by kernel_rfl) (by kernel_rfl) (by decide)
/-- An owned extension: the slice lies in the old one's block, or in a new one. -/
structure Ext (w w' : World) (v v' : Value) (L : List UInt8) : Prop where
  own : w'.ownsRow 0 5 1 v' L.length (L.map B8)
  kept : Kept (ob v) w w'
  new : NewOr w v v'
theorem Ext.refl {w : World} {v : Value} {xs : List UInt8} (h : w.ownsRow 0 5 1 v xs.length (xs.map B8)) : Ext w w v v xs := ⟨h, Kept.refl _ _, .inl rfl⟩
theorem Ext.ob {w w' : World} {v v' : Value} {L : List UInt8} (h : Ext w w' v v' L) (k : Nat) (hk : Mk.ob v' k) : Mk.ob v k ∨ w.heap.size ≤ k := by
  rcases h.new with h1 | ⟨j, h1, h2⟩
  · exact .inl (h1.symm.trans hk)
  · (have : j = k := Option.some.inj (h1.symm.trans hk)); (exact .inr (by omega))
theorem Ext.add {w w1 w2 : World} {v v1 v2 : Value} {L : List UInt8} {us : List UInt8} (h : Ext w w1 v v1 L) (h2 : w2.ownsRow 0 5 1 v2 (L.length + us.length) (L.map B8 ++ us.map B8)) (h3 : Kept (Mk.ob v1) w1 w2) (h4 : NewOr w1 v1 v2) : Ext w w2 v v2 (L ++ us) := by
  refine ⟨by rw [List.length_append, List.map_append]; exact h2, ?_, ?_⟩
  · exact h.kept.trans h3 fun k hk e => by
      rcases h.ob k e with h' | h'
      · exact h'
      · omega
  · rcases h4 with h4 | ⟨j, h5, h6⟩
    · rcases h.new with h5 | ⟨j, h5, h6⟩
      · exact .inl (h4.trans h5)
      · exact .inr ⟨j, h4.trans h5, h6⟩
    · exact .inr ⟨j, h5, Nat.le_trans h.kept.size h6⟩
theorem Ext.trans {w w1 w2 : World} {v v1 v2 : Value} {L M : List UInt8} (h : Ext w w1 v v1 L) (h' : Ext w1 w2 v1 v2 M) : Ext w w2 v v2 M := by
  refine ⟨h'.own, h.kept.trans h'.kept fun k hk e => ?_, ?_⟩
  · rcases h.ob k e with h1 | h1
    · exact h1
    · omega
  · rcases h'.new with h4 | ⟨j, h5, h6⟩
    · rcases h.new with h5 | ⟨j, h5, h6⟩
      · exact .inl (h4.trans h5)
      · exact .inr ⟨j, h4.trans h5, h6⟩
    · exact .inr ⟨j, h5, Nat.le_trans h.kept.size h6⟩
set_option maxRecDepth 100000 in
set_option maxHeartbeats 2000000 in
theorem refbytes_any (v : Value) (xs : List UInt8) (x k : Nat) (w : World) (ho : w.ownsRow 0 5 1 v xs.length (xs.map B8)) (hk : k ≤ 4) (hl : xs.length ≤ 1000000) :
    Calls Try.prog 64 #[v, .int .i64 (x : Int), .int .i64 (k : Int)] w fun e w' => ∃ v', e = .returned v' ∧ Ext w w' v v' (xs ++ encB x k) := by
  have hkw : IntKind.i64.wrap ((k : Int) - 1) = (k : Int) - 1 := IntWalk.i64_in _ (by omega)
  go_enter Try.func64, Try.ntmps64
  go_wp2
  go_loopw [0, 7] (fun out i wr => ∃ (j : Nat) (ys : List UInt8), j ≤ k ∧ i = .int .i64 ((j : Int) - 1) ∧ Hd (ys.length + j = k) ∧ Hd (ys ++ encB x j = encB x k) ∧ Hd (Ext w wr v out (xs ++ ys))) (fun _ i _ => (intOf i + 1).toNat)
  case atStart => exact ⟨k, [], Nat.le_refl _, rfl, ⟨by simp⟩, ⟨rfl⟩, ⟨by rw [List.append_nil]; exact Ext.refl ho⟩⟩
  case round =>
    obtain ⟨j, ys, hj, rfl, hyl, hye, hE⟩ := hrel
    cases j with
    | zero =>
      (have hE2 : Hd (Ext w wr v u0 (xs ++ encB x k)) := ⟨by have h := hye.out; rw [show encB x 0 = [] from rfl, List.append_nil] at h; rw [← h]; exact hE.out⟩); (have e1 : ((0 : Nat) : Int) - 1 = -1 := rfl); (rw [e1]); (clear hye hE); (go_wp2); (go_ret); (exact ⟨_, rfl, hE2.out⟩)
    | succ i =>
      (have e1 : ((i + 1 : Nat) : Int) - 1 = (i : Int) := by omega); (rw [e1]); (have h0 : (0 : Int) ≤ (i : Int) := by omega)
      have hs : Hd ((xs ++ ys).length + 1 ≤ maxLen ∧ ((xs ++ ys).length + 1) * 1 ≤ 140737488355328) := ⟨by
        (have hm : maxLen = 9223372036854775807 := rfl); (have := hyl.out)
        rw [List.length_append]; omega⟩
      go_wp2_with (at_builtin; refine wpList_append_lit _ rfl _ _ 45 rfl 5 1 1 TByt _ _ _ rfl hE.out.own 1 [_] rfl rfl ?c1 ?c2 ?c3 ?_)
      case c1 => simp [Value.oneCell']
      case c2 => exact hs.out.1
      case c3 => exact hs.out.2
      intro v' w5 h2 h3 h4 _
      have hE' : Hd (Ext w w5 v v' (xs ++ (ys ++ [byt x i]))) := ⟨by
        (rw [← List.append_assoc]); (refine hE.out.add (us := [byt x i]) ?_ h3 h4)
        rw [List.map_cons, List.map_nil, ← byt_val]; simpa using h2⟩
      (have hyl' : Hd ((ys ++ [byt x i]).length + i = k) := ⟨by have := hyl.out; simp; omega⟩); (have hye' : Hd ((ys ++ [byt x i]) ++ encB x i = encB x k) := ⟨by rw [← hye.out, List.append_assoc]; rfl⟩); (have hiw : IntKind.i64.wrap ((i : Int) - 1) = (i : Int) - 1 := IntWalk.i64_in _ (by omega)); (clear h2 h3 h4 hE hs hyl hye); (go_wp2); (go_roundw)
      case rel => first | exact ⟨i, _, by omega, by go_num, hyl', hye', hE'⟩ | ((repeat apply Exists.intro); exact ⟨⟨i, _, by omega, by go_num, hyl', hye', hE'⟩, rfl⟩)
      case measure => simp [intOf]
set_option maxRecDepth 100000 in
set_option maxHeartbeats 2000000 in
theorem appnum_any (v : Value) (xs : List UInt8) (x k : Nat) (w : World) (ho : w.ownsRow 0 5 1 v xs.length (xs.map B8)) (hk : k ≤ 4) (hl : xs.length ≤ 1000000) :
    Calls Try.prog 91 #[v, .int .i64 (x : Int), .int .i64 (k : Int)] w fun e w' => ∃ v', e = .returned v' ∧ Ext w w' v v' (xs ++ encB x k) := by
  have hkw : IntKind.i64.wrap ((k : Int) - 1) = (k : Int) - 1 := IntWalk.i64_in _ (by omega)
  go_enter Try.func91, Try.ntmps91
  go_wp2
  go_loopw [0, 7] (fun out i wr => ∃ (j : Nat) (ys : List UInt8), j ≤ k ∧ i = .int .i64 ((j : Int) - 1) ∧ Hd (ys.length + j = k) ∧ Hd (ys ++ encB x j = encB x k) ∧ Hd (Ext w wr v out (xs ++ ys))) (fun _ i _ => (intOf i + 1).toNat)
  case atStart => exact ⟨k, [], Nat.le_refl _, rfl, ⟨by simp⟩, ⟨rfl⟩, ⟨by rw [List.append_nil]; exact Ext.refl ho⟩⟩
  case round =>
    obtain ⟨j, ys, hj, rfl, hyl, hye, hE⟩ := hrel
    cases j with
    | zero =>
      (have hE2 : Hd (Ext w wr v u0 (xs ++ encB x k)) := ⟨by have h := hye.out; rw [show encB x 0 = [] from rfl, List.append_nil] at h; rw [← h]; exact hE.out⟩); (have e1 : ((0 : Nat) : Int) - 1 = -1 := rfl); (rw [e1]); (clear hye hE); (go_wp2); (go_ret); (exact ⟨_, rfl, hE2.out⟩)
    | succ i =>
      (have e1 : ((i + 1 : Nat) : Int) - 1 = (i : Int) := by omega); (rw [e1]); (have h0 : (0 : Int) ≤ (i : Int) := by omega)
      have hs : Hd ((xs ++ ys).length + 1 ≤ maxLen ∧ ((xs ++ ys).length + 1) * 1 ≤ 140737488355328) := ⟨by
        (have hm : maxLen = 9223372036854775807 := rfl); (have := hyl.out)
        rw [List.length_append]; omega⟩
      go_wp2_with (at_builtin; refine wpList_append_lit _ rfl _ _ 45 rfl 5 1 1 TByt _ _ _ rfl hE.out.own 1 [_] rfl rfl ?c1 ?c2 ?c3 ?_)
      case c1 => simp [Value.oneCell']
      case c2 => exact hs.out.1
      case c3 => exact hs.out.2
      intro v' w5 h2 h3 h4 _
      have hE' : Hd (Ext w w5 v v' (xs ++ (ys ++ [byt x i]))) := ⟨by
        (rw [← List.append_assoc]); (refine hE.out.add (us := [byt x i]) ?_ h3 h4)
        rw [List.map_cons, List.map_nil, ← byt_val]; simpa using h2⟩
      (have hyl' : Hd ((ys ++ [byt x i]).length + i = k) := ⟨by have := hyl.out; simp; omega⟩); (have hye' : Hd ((ys ++ [byt x i]) ++ encB x i = encB x k) := ⟨by rw [← hye.out, List.append_assoc]; rfl⟩); (have hiw : IntKind.i64.wrap ((i : Int) - 1) = (i : Int) - 1 := IntWalk.i64_in _ (by omega)); (clear h2 h3 h4 hE hs hyl hye); (go_wp2); (go_roundw)
      case rel => first | exact ⟨i, _, by omega, by go_num, hyl', hye', hE'⟩ | ((repeat apply Exists.intro); exact ⟨⟨i, _, by omega, by go_num, hyl', hye', hE'⟩, rfl⟩)
      case measure => simp [intOf]
end Go.Proofs.Ytkdmlakookgolaa
