/- Places of both packages (printed by gen_places.py). -/
import Derived.Test.YtobihnkmmlkccaaDoorItoa
import Derived.Test.YtobihnkmmlkccaaDoorOrd17
namespace Go.Proofs.YtobihnkmmlkccaaDoor
open Go.RowKit Go.Mk Go.Bit Go.Sha Go.Rnd
def seedOf (s : ByteArray) (a b : Nat) : ByteArray := (((s ++ ⟨#[47]⟩) ++ ⟨(decS a).toArray⟩) ++ ⟨#[47]⟩) ++ ⟨(decS b).toArray⟩
def okPl (a b n : Int) : Prop := 1 ≤ a ∧ a ≤ 6 ∧ 1 ≤ b ∧ b ≤ 16 ∧ 1 ≤ n ∧ n ≤ 16
instance (a b n : Int) : Decidable (okPl a b n) := by unfold okPl; infer_instance
def placesL (s : ByteArray) (a b n : Int) : List Nat := if okPl a b n then (perm (seedOf s a.toNat b.toNat).data.toList n.toNat 0).1 else []
theorem decS_len (n : Nat) : (decS n).length ≤ 2 := by unfold decS; split <;> simp
theorem seedOf_size (s : ByteArray) (a b : Nat) : (seedOf s a b).size ≤ s.size + 6 := by
  have h1 := decS_len a
  have h2 := decS_len b
  unfold seedOf
  simp only [ByteArray.size_append]
  have e1 : (⟨(decS a).toArray⟩ : ByteArray).size = (decS a).length := by show (decS a).toArray.size = _; simp
  have e2 : (⟨(decS b).toArray⟩ : ByteArray).size = (decS b).length := by show (decS b).toArray.size = _; simp
  have e3 : (⟨#[47]⟩ : ByteArray).size = 1 := rfl
  rw [e1, e2, e3]; omega
theorem placesL_no {s : ByteArray} {a b n : Int} (h : ¬ okPl a b n) : placesL s a b n = [] := if_neg h
set_option maxRecDepth 20000 in
set_option maxHeartbeats 4000000 in
theorem places_any (s : ByteArray) (a b n : Int) (w : World) (hs : s.size ≤ 1000) (hT : Tab w) : Calls Tryd.prog 8 #[.string s, .int .i64 a, .int .i64 b, .int .i64 n] w fun e w' => ∃ v, e = .returned v ∧ Rd w' 1 v (placesL s a b n).length ((placesL s a b n).map I) ∧ Kept no w w' := by
  replace hT := hid hT
  have hnil : Hd (¬ okPl a b n → Rd w 1 (.slice none 0 0) (placesL s a b n).length ((placesL s a b n).map I)) := ⟨fun h => by rw [placesL_no h]; exact Rd.of_own (World.ownsRow_nil w 0 3 1)⟩
  by_cases c0 : a < 1
  · have hr := hid (hnil.out (by unfold okPl; omega))
    have d0 : decide (a < 1) = true := decide_eq_true c0
    clear hnil
    go_enter Tryd.func8, Tryd.ntmps8
    go_wp2
    go_ret
    exact ⟨_, rfl, hr.out, Kept.refl _ _⟩
  have d0 : decide (a < 1) = false := decide_eq_false c0
  by_cases c1 : 6 < a
  · have hr := hid (hnil.out (by unfold okPl; omega))
    have d1 : decide (6 < a) = true := decide_eq_true c1
    clear hnil
    go_enter Tryd.func8, Tryd.ntmps8
    go_wp2
    go_ret
    exact ⟨_, rfl, hr.out, Kept.refl _ _⟩
  have d1 : decide (6 < a) = false := decide_eq_false c1
  by_cases c2 : b < 1
  · have hr := hid (hnil.out (by unfold okPl; omega))
    have d2 : decide (b < 1) = true := decide_eq_true c2
    clear hnil
    go_enter Tryd.func8, Tryd.ntmps8
    go_wp2
    go_ret
    exact ⟨_, rfl, hr.out, Kept.refl _ _⟩
  have d2 : decide (b < 1) = false := decide_eq_false c2
  by_cases c3 : 16 < b
  · have hr := hid (hnil.out (by unfold okPl; omega))
    have d3 : decide (16 < b) = true := decide_eq_true c3
    clear hnil
    go_enter Tryd.func8, Tryd.ntmps8
    go_wp2
    go_ret
    exact ⟨_, rfl, hr.out, Kept.refl _ _⟩
  have d3 : decide (16 < b) = false := decide_eq_false c3
  by_cases c4 : n < 1
  · have hr := hid (hnil.out (by unfold okPl; omega))
    have d4 : decide (n < 1) = true := decide_eq_true c4
    clear hnil
    go_enter Tryd.func8, Tryd.ntmps8
    go_wp2
    go_ret
    exact ⟨_, rfl, hr.out, Kept.refl _ _⟩
  have d4 : decide (n < 1) = false := decide_eq_false c4
  by_cases c5 : 16 < n
  · have hr := hid (hnil.out (by unfold okPl; omega))
    have d5 : decide (16 < n) = true := decide_eq_true c5
    clear hnil
    go_enter Tryd.func8, Tryd.ntmps8
    go_wp2
    go_ret
    exact ⟨_, rfl, hr.out, Kept.refl _ _⟩
  have d5 : decide (16 < n) = false := decide_eq_false c5
  obtain ⟨A, hA⟩ : ∃ A : Nat, a = (A : Int) := ⟨a.toNat, by omega⟩
  obtain ⟨B, hB⟩ : ∃ B : Nat, b = (B : Int) := ⟨b.toNat, by omega⟩
  obtain ⟨N, hN⟩ : ∃ N : Nat, n = (N : Int) := ⟨n.toNat, by omega⟩
  subst hA hB hN
  have hpl : Hd (placesL s (A : Int) (B : Int) (N : Int) = (perm (seedOf s A B).data.toList N 0).1) := ⟨if_pos (by unfold okPl; omega)⟩
  have hlen : Hd ((perm (seedOf s A B).data.toList N 0).1.length = N) := ⟨perm_length _ _ _⟩
  have hsz := seedOf_size s A B
  have hA1 : 1 ≤ A := by omega
  have hA2 : A ≤ 16 := by omega
  have hB1 : 1 ≤ B := by omega
  have hB2 : B ≤ 16 := by omega
  have hN2 : N ≤ 1024 := by omega
  have hl1 := decS_len A
  have hl2 := decS_len B
  have hz1 : (⟨(decS A).toArray⟩ : ByteArray).size ≤ 2 := by show (decS A).toArray.size ≤ 2; simpa using hl1
  have hz2 : (⟨(decS B).toArray⟩ : ByteArray).size ≤ 2 := by show (decS B).toArray.size ≤ 2; simpa using hl2
  have hz3 : (⟨#[47]⟩ : ByteArray).size = 1 := rfl
  have hseed : Hd ((((s ++ ⟨#[47]⟩) ++ ⟨(decS A).toArray⟩) ++ ⟨#[47]⟩) ++ ⟨(decS B).toArray⟩ = seedOf s A B) := ⟨rfl⟩
  obtain ⟨DA, hDA⟩ : ∃ z : ByteArray, (⟨(decS A).toArray⟩ : ByteArray) = z := ⟨_, rfl⟩
  obtain ⟨DB, hDB⟩ : ∃ z : ByteArray, (⟨(decS B).toArray⟩ : ByteArray) = z := ⟨_, rfl⟩
  rw [hDA] at hz1 hseed
  rw [hDB] at hz2 hseed
  clear hl1 hl2 hnil
  have HA := itoa_any A w hA1 hA2
  have HB := itoa_any B w hB1 hB2
  rw [hDA] at HA
  rw [hDB] at HB
  replace HA := hid HA
  replace HB := hid HB
  have HO := hid (order_any (seedOf s A B) N w hN2 (by omega) hT.out)
  replace hsz := hid hsz
  clear hDA hDB
  go_enter Tryd.func8, Tryd.ntmps8
  go_wp2_with fail
  refine HA.out.mono ?_
  rintro e w1 ⟨rfl, rfl⟩
  go_wp2_with fail
  refine HB.out.mono ?_
  rintro e w2 ⟨rfl, rfl⟩
  go_wp2_with fail
  rw [hseed.out]
  refine HO.out.mono ?_
  rintro e w3 ⟨v, rfl, r3, k3⟩
  replace r3 := hid r3
  replace k3 := hid k3
  go_wp2
  go_ret
  exact ⟨_, rfl, by rw [hpl.out, hlen.out]; exact r3.out, k3.out⟩
set_option maxRecDepth 20000 in
set_option maxHeartbeats 4000000 in
theorem refplaces_any (s : ByteArray) (a b n : Int) (w : World) (hs : s.size ≤ 1000) (hT : TabR w) : Calls Tryd.prog 9 #[.string s, .int .i64 a, .int .i64 b, .int .i64 n] w fun e w' => ∃ v, e = .returned v ∧ Rd w' 1 v (placesL s a b n).length ((placesL s a b n).map I) ∧ Kept no w w' := by
  replace hT := hid hT
  have hnil : Hd (¬ okPl a b n → Rd w 1 (.slice none 0 0) (placesL s a b n).length ((placesL s a b n).map I)) := ⟨fun h => by rw [placesL_no h]; exact Rd.of_own (World.ownsRow_nil w 0 3 1)⟩
  by_cases c0 : a < 1
  · have hr := hid (hnil.out (by unfold okPl; omega))
    have d0 : decide (a < 1) = true := decide_eq_true c0
    clear hnil
    go_enter Tryd.func9, Tryd.ntmps9
    go_wp2
    go_ret
    exact ⟨_, rfl, hr.out, Kept.refl _ _⟩
  have d0 : decide (a < 1) = false := decide_eq_false c0
  by_cases c1 : 6 < a
  · have hr := hid (hnil.out (by unfold okPl; omega))
    have d1 : decide (6 < a) = true := decide_eq_true c1
    clear hnil
    go_enter Tryd.func9, Tryd.ntmps9
    go_wp2
    go_ret
    exact ⟨_, rfl, hr.out, Kept.refl _ _⟩
  have d1 : decide (6 < a) = false := decide_eq_false c1
  by_cases c2 : b < 1
  · have hr := hid (hnil.out (by unfold okPl; omega))
    have d2 : decide (b < 1) = true := decide_eq_true c2
    clear hnil
    go_enter Tryd.func9, Tryd.ntmps9
    go_wp2
    go_ret
    exact ⟨_, rfl, hr.out, Kept.refl _ _⟩
  have d2 : decide (b < 1) = false := decide_eq_false c2
  by_cases c3 : 16 < b
  · have hr := hid (hnil.out (by unfold okPl; omega))
    have d3 : decide (16 < b) = true := decide_eq_true c3
    clear hnil
    go_enter Tryd.func9, Tryd.ntmps9
    go_wp2
    go_ret
    exact ⟨_, rfl, hr.out, Kept.refl _ _⟩
  have d3 : decide (16 < b) = false := decide_eq_false c3
  by_cases c4 : n < 1
  · have hr := hid (hnil.out (by unfold okPl; omega))
    have d4 : decide (n < 1) = true := decide_eq_true c4
    clear hnil
    go_enter Tryd.func9, Tryd.ntmps9
    go_wp2
    go_ret
    exact ⟨_, rfl, hr.out, Kept.refl _ _⟩
  have d4 : decide (n < 1) = false := decide_eq_false c4
  by_cases c5 : 16 < n
  · have hr := hid (hnil.out (by unfold okPl; omega))
    have d5 : decide (16 < n) = true := decide_eq_true c5
    clear hnil
    go_enter Tryd.func9, Tryd.ntmps9
    go_wp2
    go_ret
    exact ⟨_, rfl, hr.out, Kept.refl _ _⟩
  have d5 : decide (16 < n) = false := decide_eq_false c5
  obtain ⟨A, hA⟩ : ∃ A : Nat, a = (A : Int) := ⟨a.toNat, by omega⟩
  obtain ⟨B, hB⟩ : ∃ B : Nat, b = (B : Int) := ⟨b.toNat, by omega⟩
  obtain ⟨N, hN⟩ : ∃ N : Nat, n = (N : Int) := ⟨n.toNat, by omega⟩
  subst hA hB hN
  have hpl : Hd (placesL s (A : Int) (B : Int) (N : Int) = (perm (seedOf s A B).data.toList N 0).1) := ⟨if_pos (by unfold okPl; omega)⟩
  have hlen : Hd ((perm (seedOf s A B).data.toList N 0).1.length = N) := ⟨perm_length _ _ _⟩
  have hsz := seedOf_size s A B
  have hA1 : 1 ≤ A := by omega
  have hA2 : A ≤ 16 := by omega
  have hB1 : 1 ≤ B := by omega
  have hB2 : B ≤ 16 := by omega
  have hN2 : N ≤ 1024 := by omega
  have hl1 := decS_len A
  have hl2 := decS_len B
  have hz1 : (⟨(decS A).toArray⟩ : ByteArray).size ≤ 2 := by show (decS A).toArray.size ≤ 2; simpa using hl1
  have hz2 : (⟨(decS B).toArray⟩ : ByteArray).size ≤ 2 := by show (decS B).toArray.size ≤ 2; simpa using hl2
  have hz3 : (⟨#[47]⟩ : ByteArray).size = 1 := rfl
  have hseed : Hd ((((s ++ ⟨#[47]⟩) ++ ⟨(decS A).toArray⟩) ++ ⟨#[47]⟩) ++ ⟨(decS B).toArray⟩ = seedOf s A B) := ⟨rfl⟩
  obtain ⟨DA, hDA⟩ : ∃ z : ByteArray, (⟨(decS A).toArray⟩ : ByteArray) = z := ⟨_, rfl⟩
  obtain ⟨DB, hDB⟩ : ∃ z : ByteArray, (⟨(decS B).toArray⟩ : ByteArray) = z := ⟨_, rfl⟩
  rw [hDA] at hz1 hseed
  rw [hDB] at hz2 hseed
  clear hl1 hl2 hnil
  have HS := hid (fun (m : Nat) (W : World) (h : m ≤ 1000000) => small_any m W h)
  have HD := fun (m : Nat) (W : World) (v : Value) h1 h2 h3 => refdigits_any v m W h1 h2 h3
  replace HD := hid HD
  have HO := hid (fun W (k : Kept no w W) => reforder_any (seedOf s A B) N W hN2 (by omega) (hT.out.kept k))
  replace hsz := hid hsz
  replace hDA := hid hDA
  replace hDB := hid hDB
  go_enter Tryd.func9, Tryd.ntmps9
  go_wp2_with fail
  refine (HS.out A _ (by omega)).mono ?_
  rintro e w1 ⟨v1, rfl, o1⟩
  have K1 := hid o1.kept
  have H2 := HD.out A w1 v1 hA1 hA2 o1.rd
  rw [hDA.out] at H2
  replace H2 := hid H2
  clear o1
  go_wp2_with fail
  refine H2.out.mono ?_
  rintro e w2 ⟨rfl, k2⟩
  have K2 := hid (K1.out.trans' k2)
  clear H2 K1 k2
  go_wp2_with fail
  refine (HS.out B _ (by omega)).mono ?_
  rintro e w3 ⟨v3, rfl, o3⟩
  have K3 := hid (K2.out.trans' o3.kept)
  have H4 := HD.out B w3 v3 hB1 hB2 o3.rd
  rw [hDB.out] at H4
  replace H4 := hid H4
  clear o3 K2
  go_wp2_with fail
  refine H4.out.mono ?_
  rintro e w4 ⟨rfl, k4⟩
  have K4 := hid (K3.out.trans' k4)
  clear H4 k4 K3
  have H5 := hid (HO.out w4 K4.out)
  clear HO HS HD
  go_wp2_with fail
  rw [hseed.out]
  refine H5.out.mono ?_
  rintro e w5 ⟨v, rfl, r5, k5⟩
  have K5 := hid (K4.out.trans' k5)
  replace r5 := hid r5
  clear k5
  go_wp2
  go_ret
  exact ⟨_, rfl, by rw [hpl.out, hlen.out]; exact r5.out, K5.out⟩
end Go.Proofs.YtobihnkmmlkccaaDoor
