/- electionref04.rot at the ten constants of SHA-256. -/
import Derived.Test.YtggcbjchnefhfaaDoorRot
namespace Go.Proofs.YtggcbjchnefhfaaDoor
open Go.RowKit Go.Mk Go.Sha
set_option maxHeartbeats 400000 in
theorem rotR_any (x : UInt32) (k : Int) (n : Nat) (h : 0 < n) (h' : n < 32) (w : World) (a b : Int) (ha : a = ((2 ^ n : Nat) : Int)) (hb : b = ((2 ^ (32 - n) : Nat) : Int))
   (h3 : ∀ x : Int, Op.shift .shl .u32 x .u64 (IntKind.u64.wrap (32 - k)) = pure (.int .u32 (x * b % 4294967296))) (h4 : ∀ x : Int, Op.shift .shr .u32 x .u64 k = pure (.int .u32 (x / a))) :
  Calls Tryd.prog 66 #[.int .u32 (x.toNat : Int), .int .u64 k] w fun e w' => e = .returned (.int .u32 ((rotr x n).toNat : Int)) ∧ w' = w := by
  have H := u_rot x n h h' a b ha hb
  clear ha hb h h'
  go_enter Tryd.func66, Tryd.ntmps66
  go_wp2
  go_ret
  exact ⟨rfl, rfl⟩
theorem rotR17 (x : UInt32) (w : World) : Calls Tryd.prog 66 #[.int .u32 (x.toNat : Int), .int .u64 17] w fun e w' => e = .returned (.int .u32 ((rotr x 17).toNat : Int)) ∧ w' = w :=
  rotR_any x _ 17 (by decide) (by decide) w 131072 32768 rfl rfl (fun x => by rw [show IntKind.u64.wrap (32 - 17) = ((15 : Nat) : Int) by decide +kernel]; exact (mk_shl .u32 .u64 15 x (by decide) 32768 rfl).trans (by rw [IntKind.wrap_u32'])) (fun x => mk_shr .u32 .u64 17 x (by decide) 131072 rfl)
theorem rotR17q (x : UInt32) (w : World) (m : Nat) : Calls Tryd.prog 66 #[.int .u32 (x.toNat : Int), .int .u64 17] (w.drewN m) fun e w'' => e = .returned (.int .u32 ((rotr x 17).toNat : Int)) ∧ ∃ q, w'' = w.drewN q :=
  (rotR17 x _).mono fun _ _ h => ⟨h.1, m, h.2⟩
theorem rotR19 (x : UInt32) (w : World) : Calls Tryd.prog 66 #[.int .u32 (x.toNat : Int), .int .u64 19] w fun e w' => e = .returned (.int .u32 ((rotr x 19).toNat : Int)) ∧ w' = w :=
  rotR_any x _ 19 (by decide) (by decide) w 524288 8192 rfl rfl (fun x => by rw [show IntKind.u64.wrap (32 - 19) = ((13 : Nat) : Int) by decide +kernel]; exact (mk_shl .u32 .u64 13 x (by decide) 8192 rfl).trans (by rw [IntKind.wrap_u32'])) (fun x => mk_shr .u32 .u64 19 x (by decide) 524288 rfl)
theorem rotR19q (x : UInt32) (w : World) (m : Nat) : Calls Tryd.prog 66 #[.int .u32 (x.toNat : Int), .int .u64 19] (w.drewN m) fun e w'' => e = .returned (.int .u32 ((rotr x 19).toNat : Int)) ∧ ∃ q, w'' = w.drewN q :=
  (rotR19 x _).mono fun _ _ h => ⟨h.1, m, h.2⟩
theorem rotR7 (x : UInt32) (w : World) : Calls Tryd.prog 66 #[.int .u32 (x.toNat : Int), .int .u64 7] w fun e w' => e = .returned (.int .u32 ((rotr x 7).toNat : Int)) ∧ w' = w :=
  rotR_any x _ 7 (by decide) (by decide) w 128 33554432 rfl rfl (fun x => by rw [show IntKind.u64.wrap (32 - 7) = ((25 : Nat) : Int) by decide +kernel]; exact (mk_shl .u32 .u64 25 x (by decide) 33554432 rfl).trans (by rw [IntKind.wrap_u32'])) (fun x => mk_shr .u32 .u64 7 x (by decide) 128 rfl)
theorem rotR7q (x : UInt32) (w : World) (m : Nat) : Calls Tryd.prog 66 #[.int .u32 (x.toNat : Int), .int .u64 7] (w.drewN m) fun e w'' => e = .returned (.int .u32 ((rotr x 7).toNat : Int)) ∧ ∃ q, w'' = w.drewN q :=
  (rotR7 x _).mono fun _ _ h => ⟨h.1, m, h.2⟩
theorem rotR18 (x : UInt32) (w : World) : Calls Tryd.prog 66 #[.int .u32 (x.toNat : Int), .int .u64 18] w fun e w' => e = .returned (.int .u32 ((rotr x 18).toNat : Int)) ∧ w' = w :=
  rotR_any x _ 18 (by decide) (by decide) w 262144 16384 rfl rfl (fun x => by rw [show IntKind.u64.wrap (32 - 18) = ((14 : Nat) : Int) by decide +kernel]; exact (mk_shl .u32 .u64 14 x (by decide) 16384 rfl).trans (by rw [IntKind.wrap_u32'])) (fun x => mk_shr .u32 .u64 18 x (by decide) 262144 rfl)
theorem rotR18q (x : UInt32) (w : World) (m : Nat) : Calls Tryd.prog 66 #[.int .u32 (x.toNat : Int), .int .u64 18] (w.drewN m) fun e w'' => e = .returned (.int .u32 ((rotr x 18).toNat : Int)) ∧ ∃ q, w'' = w.drewN q :=
  (rotR18 x _).mono fun _ _ h => ⟨h.1, m, h.2⟩
theorem rotR6 (x : UInt32) (w : World) : Calls Tryd.prog 66 #[.int .u32 (x.toNat : Int), .int .u64 6] w fun e w' => e = .returned (.int .u32 ((rotr x 6).toNat : Int)) ∧ w' = w :=
  rotR_any x _ 6 (by decide) (by decide) w 64 67108864 rfl rfl (fun x => by rw [show IntKind.u64.wrap (32 - 6) = ((26 : Nat) : Int) by decide +kernel]; exact (mk_shl .u32 .u64 26 x (by decide) 67108864 rfl).trans (by rw [IntKind.wrap_u32'])) (fun x => mk_shr .u32 .u64 6 x (by decide) 64 rfl)
theorem rotR6q (x : UInt32) (w : World) (m : Nat) : Calls Tryd.prog 66 #[.int .u32 (x.toNat : Int), .int .u64 6] (w.drewN m) fun e w'' => e = .returned (.int .u32 ((rotr x 6).toNat : Int)) ∧ ∃ q, w'' = w.drewN q :=
  (rotR6 x _).mono fun _ _ h => ⟨h.1, m, h.2⟩
theorem rotR11 (x : UInt32) (w : World) : Calls Tryd.prog 66 #[.int .u32 (x.toNat : Int), .int .u64 11] w fun e w' => e = .returned (.int .u32 ((rotr x 11).toNat : Int)) ∧ w' = w :=
  rotR_any x _ 11 (by decide) (by decide) w 2048 2097152 rfl rfl (fun x => by rw [show IntKind.u64.wrap (32 - 11) = ((21 : Nat) : Int) by decide +kernel]; exact (mk_shl .u32 .u64 21 x (by decide) 2097152 rfl).trans (by rw [IntKind.wrap_u32'])) (fun x => mk_shr .u32 .u64 11 x (by decide) 2048 rfl)
theorem rotR11q (x : UInt32) (w : World) (m : Nat) : Calls Tryd.prog 66 #[.int .u32 (x.toNat : Int), .int .u64 11] (w.drewN m) fun e w'' => e = .returned (.int .u32 ((rotr x 11).toNat : Int)) ∧ ∃ q, w'' = w.drewN q :=
  (rotR11 x _).mono fun _ _ h => ⟨h.1, m, h.2⟩
theorem rotR25 (x : UInt32) (w : World) : Calls Tryd.prog 66 #[.int .u32 (x.toNat : Int), .int .u64 25] w fun e w' => e = .returned (.int .u32 ((rotr x 25).toNat : Int)) ∧ w' = w :=
  rotR_any x _ 25 (by decide) (by decide) w 33554432 128 rfl rfl (fun x => by rw [show IntKind.u64.wrap (32 - 25) = ((7 : Nat) : Int) by decide +kernel]; exact (mk_shl .u32 .u64 7 x (by decide) 128 rfl).trans (by rw [IntKind.wrap_u32'])) (fun x => mk_shr .u32 .u64 25 x (by decide) 33554432 rfl)
theorem rotR25q (x : UInt32) (w : World) (m : Nat) : Calls Tryd.prog 66 #[.int .u32 (x.toNat : Int), .int .u64 25] (w.drewN m) fun e w'' => e = .returned (.int .u32 ((rotr x 25).toNat : Int)) ∧ ∃ q, w'' = w.drewN q :=
  (rotR25 x _).mono fun _ _ h => ⟨h.1, m, h.2⟩
theorem rotR2 (x : UInt32) (w : World) : Calls Tryd.prog 66 #[.int .u32 (x.toNat : Int), .int .u64 2] w fun e w' => e = .returned (.int .u32 ((rotr x 2).toNat : Int)) ∧ w' = w :=
  rotR_any x _ 2 (by decide) (by decide) w 4 1073741824 rfl rfl (fun x => by rw [show IntKind.u64.wrap (32 - 2) = ((30 : Nat) : Int) by decide +kernel]; exact (mk_shl .u32 .u64 30 x (by decide) 1073741824 rfl).trans (by rw [IntKind.wrap_u32'])) (fun x => mk_shr .u32 .u64 2 x (by decide) 4 rfl)
theorem rotR2q (x : UInt32) (w : World) (m : Nat) : Calls Tryd.prog 66 #[.int .u32 (x.toNat : Int), .int .u64 2] (w.drewN m) fun e w'' => e = .returned (.int .u32 ((rotr x 2).toNat : Int)) ∧ ∃ q, w'' = w.drewN q :=
  (rotR2 x _).mono fun _ _ h => ⟨h.1, m, h.2⟩
theorem rotR13 (x : UInt32) (w : World) : Calls Tryd.prog 66 #[.int .u32 (x.toNat : Int), .int .u64 13] w fun e w' => e = .returned (.int .u32 ((rotr x 13).toNat : Int)) ∧ w' = w :=
  rotR_any x _ 13 (by decide) (by decide) w 8192 524288 rfl rfl (fun x => by rw [show IntKind.u64.wrap (32 - 13) = ((19 : Nat) : Int) by decide +kernel]; exact (mk_shl .u32 .u64 19 x (by decide) 524288 rfl).trans (by rw [IntKind.wrap_u32'])) (fun x => mk_shr .u32 .u64 13 x (by decide) 8192 rfl)
theorem rotR13q (x : UInt32) (w : World) (m : Nat) : Calls Tryd.prog 66 #[.int .u32 (x.toNat : Int), .int .u64 13] (w.drewN m) fun e w'' => e = .returned (.int .u32 ((rotr x 13).toNat : Int)) ∧ ∃ q, w'' = w.drewN q :=
  (rotR13 x _).mono fun _ _ h => ⟨h.1, m, h.2⟩
theorem rotR22 (x : UInt32) (w : World) : Calls Tryd.prog 66 #[.int .u32 (x.toNat : Int), .int .u64 22] w fun e w' => e = .returned (.int .u32 ((rotr x 22).toNat : Int)) ∧ w' = w :=
  rotR_any x _ 22 (by decide) (by decide) w 4194304 1024 rfl rfl (fun x => by rw [show IntKind.u64.wrap (32 - 22) = ((10 : Nat) : Int) by decide +kernel]; exact (mk_shl .u32 .u64 10 x (by decide) 1024 rfl).trans (by rw [IntKind.wrap_u32'])) (fun x => mk_shr .u32 .u64 22 x (by decide) 4194304 rfl)
theorem rotR22q (x : UInt32) (w : World) (m : Nat) : Calls Tryd.prog 66 #[.int .u32 (x.toNat : Int), .int .u64 22] (w.drewN m) fun e w'' => e = .returned (.int .u32 ((rotr x 22).toNat : Int)) ∧ ∃ q, w'' = w.drewN q :=
  (rotR22 x _).mono fun _ _ h => ⟨h.1, m, h.2⟩
end Go.Proofs.YtggcbjchnefhfaaDoor
