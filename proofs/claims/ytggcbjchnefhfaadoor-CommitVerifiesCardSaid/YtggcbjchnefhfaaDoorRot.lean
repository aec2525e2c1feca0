import Derived.Test.YtggcbjchnefhfaaDoorProg
import Derived.Test.YtggcbjchnefhfaaDoorUL
import Derived.Test.YtggcbjchnefhfaaDoorShaL
import Derived.StillTailTactics
import Derived.Deep.QuietTactic
import Derived.BigQuiet
namespace Go.Proofs.YtggcbjchnefhfaaDoor
open Go.RowKit Go.Mk Go.Sha

set_option maxHeartbeats 400000 in
theorem rot_any (x : UInt32) (k : Int) (n : Nat) (h : 0 < n) (h' : n < 32) (w : World) (a b : Int) (ha : a = ((2 ^ n : Nat) : Int)) (hb : b = ((2 ^ (32 - n) : Nat) : Int)) (m : Int) (hm : bits .and .u64 (IntKind.u64.wrap k) 31 = m)
   (h3 : ∀ x : Int, Op.shift .shl .u32 x .u64 m = pure (.int .u32 (x * b % 4294967296))) (h4 : ∀ x : Int, Op.shift .shr .u32 x .u64 (IntKind.u64.wrap (32 - m)) = pure (.int .u32 (x / a))) :
  Calls Tryd.prog 63 #[.int .u32 (x.toNat : Int), .int .i64 k] w fun e w' => e = .returned (.int .u32 ((rotr x n).toNat : Int)) ∧ w = w' := by
  have H := u_rot' x n h h' a b ha hb
  clear ha hb h h'
  go_enter Tryd.func63, Tryd.ntmps63
  go_wp2
  go_ret
  exact ⟨rfl, rfl⟩
theorem rot7 (x : UInt32) (w : World) : Calls Tryd.prog 63 #[.int .u32 (x.toNat : Int), .int .i64 (-7)] w fun e w' => e = .returned (.int .u32 ((rotr x 7).toNat : Int)) ∧ w = w' :=
  rot_any x _ 7 (by decide) (by decide) w 128 33554432 rfl rfl 25 (by decide +kernel) (fun x => (mk_shl .u32 .u64 25 x (by decide) 33554432 rfl).trans (by rw [IntKind.wrap_u32'])) (fun x => by rw [show IntKind.u64.wrap (32 - 25) = ((7 : Nat) : Int) by decide +kernel]; exact mk_shr .u32 .u64 7 x (by decide) 128 rfl)
theorem rot18 (x : UInt32) (w : World) : Calls Tryd.prog 63 #[.int .u32 (x.toNat : Int), .int .i64 (-18)] w fun e w' => e = .returned (.int .u32 ((rotr x 18).toNat : Int)) ∧ w = w' :=
  rot_any x _ 18 (by decide) (by decide) w 262144 16384 rfl rfl 14 (by decide +kernel) (fun x => (mk_shl .u32 .u64 14 x (by decide) 16384 rfl).trans (by rw [IntKind.wrap_u32'])) (fun x => by rw [show IntKind.u64.wrap (32 - 14) = ((18 : Nat) : Int) by decide +kernel]; exact mk_shr .u32 .u64 18 x (by decide) 262144 rfl)
theorem rot17 (x : UInt32) (w : World) : Calls Tryd.prog 63 #[.int .u32 (x.toNat : Int), .int .i64 (-17)] w fun e w' => e = .returned (.int .u32 ((rotr x 17).toNat : Int)) ∧ w = w' :=
  rot_any x _ 17 (by decide) (by decide) w 131072 32768 rfl rfl 15 (by decide +kernel) (fun x => (mk_shl .u32 .u64 15 x (by decide) 32768 rfl).trans (by rw [IntKind.wrap_u32'])) (fun x => by rw [show IntKind.u64.wrap (32 - 15) = ((17 : Nat) : Int) by decide +kernel]; exact mk_shr .u32 .u64 17 x (by decide) 131072 rfl)
theorem rot19 (x : UInt32) (w : World) : Calls Tryd.prog 63 #[.int .u32 (x.toNat : Int), .int .i64 (-19)] w fun e w' => e = .returned (.int .u32 ((rotr x 19).toNat : Int)) ∧ w = w' :=
  rot_any x _ 19 (by decide) (by decide) w 524288 8192 rfl rfl 13 (by decide +kernel) (fun x => (mk_shl .u32 .u64 13 x (by decide) 8192 rfl).trans (by rw [IntKind.wrap_u32'])) (fun x => by rw [show IntKind.u64.wrap (32 - 13) = ((19 : Nat) : Int) by decide +kernel]; exact mk_shr .u32 .u64 19 x (by decide) 524288 rfl)
theorem rot6 (x : UInt32) (w : World) : Calls Tryd.prog 63 #[.int .u32 (x.toNat : Int), .int .i64 (-6)] w fun e w' => e = .returned (.int .u32 ((rotr x 6).toNat : Int)) ∧ w = w' :=
  rot_any x _ 6 (by decide) (by decide) w 64 67108864 rfl rfl 26 (by decide +kernel) (fun x => (mk_shl .u32 .u64 26 x (by decide) 67108864 rfl).trans (by rw [IntKind.wrap_u32'])) (fun x => by rw [show IntKind.u64.wrap (32 - 26) = ((6 : Nat) : Int) by decide +kernel]; exact mk_shr .u32 .u64 6 x (by decide) 64 rfl)
theorem rot11 (x : UInt32) (w : World) : Calls Tryd.prog 63 #[.int .u32 (x.toNat : Int), .int .i64 (-11)] w fun e w' => e = .returned (.int .u32 ((rotr x 11).toNat : Int)) ∧ w = w' :=
  rot_any x _ 11 (by decide) (by decide) w 2048 2097152 rfl rfl 21 (by decide +kernel) (fun x => (mk_shl .u32 .u64 21 x (by decide) 2097152 rfl).trans (by rw [IntKind.wrap_u32'])) (fun x => by rw [show IntKind.u64.wrap (32 - 21) = ((11 : Nat) : Int) by decide +kernel]; exact mk_shr .u32 .u64 11 x (by decide) 2048 rfl)
theorem rot25 (x : UInt32) (w : World) : Calls Tryd.prog 63 #[.int .u32 (x.toNat : Int), .int .i64 (-25)] w fun e w' => e = .returned (.int .u32 ((rotr x 25).toNat : Int)) ∧ w = w' :=
  rot_any x _ 25 (by decide) (by decide) w 33554432 128 rfl rfl 7 (by decide +kernel) (fun x => (mk_shl .u32 .u64 7 x (by decide) 128 rfl).trans (by rw [IntKind.wrap_u32'])) (fun x => by rw [show IntKind.u64.wrap (32 - 7) = ((25 : Nat) : Int) by decide +kernel]; exact mk_shr .u32 .u64 25 x (by decide) 33554432 rfl)
theorem rot2 (x : UInt32) (w : World) : Calls Tryd.prog 63 #[.int .u32 (x.toNat : Int), .int .i64 (-2)] w fun e w' => e = .returned (.int .u32 ((rotr x 2).toNat : Int)) ∧ w = w' :=
  rot_any x _ 2 (by decide) (by decide) w 4 1073741824 rfl rfl 30 (by decide +kernel) (fun x => (mk_shl .u32 .u64 30 x (by decide) 1073741824 rfl).trans (by rw [IntKind.wrap_u32'])) (fun x => by rw [show IntKind.u64.wrap (32 - 30) = ((2 : Nat) : Int) by decide +kernel]; exact mk_shr .u32 .u64 2 x (by decide) 4 rfl)
theorem rot13 (x : UInt32) (w : World) : Calls Tryd.prog 63 #[.int .u32 (x.toNat : Int), .int .i64 (-13)] w fun e w' => e = .returned (.int .u32 ((rotr x 13).toNat : Int)) ∧ w = w' :=
  rot_any x _ 13 (by decide) (by decide) w 8192 524288 rfl rfl 19 (by decide +kernel) (fun x => (mk_shl .u32 .u64 19 x (by decide) 524288 rfl).trans (by rw [IntKind.wrap_u32'])) (fun x => by rw [show IntKind.u64.wrap (32 - 19) = ((13 : Nat) : Int) by decide +kernel]; exact mk_shr .u32 .u64 13 x (by decide) 8192 rfl)
theorem rot22 (x : UInt32) (w : World) : Calls Tryd.prog 63 #[.int .u32 (x.toNat : Int), .int .i64 (-22)] w fun e w' => e = .returned (.int .u32 ((rotr x 22).toNat : Int)) ∧ w = w' :=
  rot_any x _ 22 (by decide) (by decide) w 4194304 1024 rfl rfl 10 (by decide +kernel) (fun x => (mk_shl .u32 .u64 10 x (by decide) 1024 rfl).trans (by rw [IntKind.wrap_u32'])) (fun x => by rw [show IntKind.u64.wrap (32 - 10) = ((22 : Nat) : Int) by decide +kernel]; exact mk_shr .u32 .u64 22 x (by decide) 4194304 rfl)
theorem rot7q (x : UInt32) (w : World) (m : Nat) : Calls Tryd.prog 63 #[.int .u32 (x.toNat : Int), .int .i64 (-7)] (w.drewN m) fun e w'' => e = .returned (.int .u32 ((rotr x 7).toNat : Int)) ∧ ∃ q, w'' = w.drewN q :=
  (rot7 x _).mono fun _ _ h => ⟨h.1, m, h.2.symm⟩
theorem rot18q (x : UInt32) (w : World) (m : Nat) : Calls Tryd.prog 63 #[.int .u32 (x.toNat : Int), .int .i64 (-18)] (w.drewN m) fun e w'' => e = .returned (.int .u32 ((rotr x 18).toNat : Int)) ∧ ∃ q, w'' = w.drewN q :=
  (rot18 x _).mono fun _ _ h => ⟨h.1, m, h.2.symm⟩
theorem rot17q (x : UInt32) (w : World) (m : Nat) : Calls Tryd.prog 63 #[.int .u32 (x.toNat : Int), .int .i64 (-17)] (w.drewN m) fun e w'' => e = .returned (.int .u32 ((rotr x 17).toNat : Int)) ∧ ∃ q, w'' = w.drewN q :=
  (rot17 x _).mono fun _ _ h => ⟨h.1, m, h.2.symm⟩
theorem rot19q (x : UInt32) (w : World) (m : Nat) : Calls Tryd.prog 63 #[.int .u32 (x.toNat : Int), .int .i64 (-19)] (w.drewN m) fun e w'' => e = .returned (.int .u32 ((rotr x 19).toNat : Int)) ∧ ∃ q, w'' = w.drewN q :=
  (rot19 x _).mono fun _ _ h => ⟨h.1, m, h.2.symm⟩
theorem rot6q (x : UInt32) (w : World) (m : Nat) : Calls Tryd.prog 63 #[.int .u32 (x.toNat : Int), .int .i64 (-6)] (w.drewN m) fun e w'' => e = .returned (.int .u32 ((rotr x 6).toNat : Int)) ∧ ∃ q, w'' = w.drewN q :=
  (rot6 x _).mono fun _ _ h => ⟨h.1, m, h.2.symm⟩
theorem rot11q (x : UInt32) (w : World) (m : Nat) : Calls Tryd.prog 63 #[.int .u32 (x.toNat : Int), .int .i64 (-11)] (w.drewN m) fun e w'' => e = .returned (.int .u32 ((rotr x 11).toNat : Int)) ∧ ∃ q, w'' = w.drewN q :=
  (rot11 x _).mono fun _ _ h => ⟨h.1, m, h.2.symm⟩
theorem rot25q (x : UInt32) (w : World) (m : Nat) : Calls Tryd.prog 63 #[.int .u32 (x.toNat : Int), .int .i64 (-25)] (w.drewN m) fun e w'' => e = .returned (.int .u32 ((rotr x 25).toNat : Int)) ∧ ∃ q, w'' = w.drewN q :=
  (rot25 x _).mono fun _ _ h => ⟨h.1, m, h.2.symm⟩
theorem rot2q (x : UInt32) (w : World) (m : Nat) : Calls Tryd.prog 63 #[.int .u32 (x.toNat : Int), .int .i64 (-2)] (w.drewN m) fun e w'' => e = .returned (.int .u32 ((rotr x 2).toNat : Int)) ∧ ∃ q, w'' = w.drewN q :=
  (rot2 x _).mono fun _ _ h => ⟨h.1, m, h.2.symm⟩
theorem rot13q (x : UInt32) (w : World) (m : Nat) : Calls Tryd.prog 63 #[.int .u32 (x.toNat : Int), .int .i64 (-13)] (w.drewN m) fun e w'' => e = .returned (.int .u32 ((rotr x 13).toNat : Int)) ∧ ∃ q, w'' = w.drewN q :=
  (rot13 x _).mono fun _ _ h => ⟨h.1, m, h.2.symm⟩
theorem rot22q (x : UInt32) (w : World) (m : Nat) : Calls Tryd.prog 63 #[.int .u32 (x.toNat : Int), .int .i64 (-22)] (w.drewN m) fun e w'' => e = .returned (.int .u32 ((rotr x 22).toNat : Int)) ∧ ∃ q, w'' = w.drewN q :=
  (rot22 x _).mono fun _ _ h => ⟨h.1, m, h.2.symm⟩

end Go.Proofs.YtggcbjchnefhfaaDoor
