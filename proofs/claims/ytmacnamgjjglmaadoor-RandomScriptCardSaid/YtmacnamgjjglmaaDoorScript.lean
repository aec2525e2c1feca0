/- electionlaw05.RandomScript: the walk. -/
import Derived.Test.YtmacnamgjjglmaaDoorRandLaws
import Derived.Deep.RegionHeld3
namespace Go.Rnd
def belowZ (s : List UInt8) (n : Int) (c : Nat) : Int × Nat := if 1 ≤ n ∧ n ≤ 2147483648 then (((below s n.toNat c).1 : Int), (below s n.toNat c).2) else (0, c)
def permZ (s : List UInt8) (n : Int) (c : Nat) : List Nat × Nat := if 0 ≤ n ∧ n ≤ 1024 then perm s n.toNat c else ([], c)
theorem belowZ_le (s : List UInt8) (n : Int) (c : Nat) : (belowZ s n c).2 ≤ c + 16 := by
  unfold belowZ; split
  · exact (below_le s n.toNat c).1
  · show c ≤ _; omega
theorem permZ_le (s : List UInt8) (n : Int) (c : Nat) : (permZ s n c).2 ≤ c + 16384 := by
  unfold permZ; split
  · have := perm_le s n.toNat c; omega
  · show c ≤ _; omega
theorem permZ_len (s : List UInt8) (n : Int) (c : Nat) : (permZ s n c).1.length ≤ 1024 := by
  unfold permZ; split
  · rw [perm_length]; omega
  · simp
end Go.Rnd
namespace Go.Proofs.YtmacnamgjjglmaaDoor
open Go.RowKit Go.Mk Go.Sha Go.Rnd
theorem below_all (g : Nat) (s : ByteArray) (n : Int) (c : Nat) (w : World) (hc : c < 4611686018427300000) (hs : s.size ≤ 1000000) (hS : Src 70 g s c w) (hT : Tab w) :
    Calls Tryd.prog 31 #[.pointer (some ⟨g, 0, none⟩), .int .i64 n] w fun e w' => e = .returned (.int .i64 (belowZ s.data.toList n c).1) ∧ Src 70 g s (belowZ s.data.toList n c).2 w' ∧ Kept (at1 g) w w' := by
  by_cases h : 1 ≤ n ∧ n ≤ 2147483648
  · obtain ⟨m, rfl⟩ : ∃ m : Nat, n = (m : Int) := ⟨n.toNat, by omega⟩
    have e : belowZ s.data.toList (m : Int) c = (((below s.data.toList m c).1 : Int), (below s.data.toList m c).2) := by unfold belowZ; rw [if_pos h]; rfl
    rw [e]
    exact below_any g s m c w (by omega) (by omega) hc hs hS hT
  · have e : belowZ s.data.toList n c = (0, c) := by unfold belowZ; rw [if_neg h]
    rw [e]
    exact (below_no _ n w (by omega)).mono fun e w' ⟨h1, h2⟩ => ⟨h1, h2 ▸ hS, h2 ▸ Kept.refl _ _⟩
theorem refbelow_all (g : Nat) (s : ByteArray) (n : Int) (c : Nat) (w : World) (hc : c < 4611686018427300000) (hs : s.size ≤ 1000000) (hS : Src 49 g s c w) (hT : TabR w) :
    Calls Tryd.prog 32 #[.pointer (some ⟨g, 0, none⟩), .int .i64 n] w fun e w' => e = .returned (.int .i64 (belowZ s.data.toList n c).1) ∧ Src 49 g s (belowZ s.data.toList n c).2 w' ∧ Kept (at1 g) w w' := by
  by_cases h : 1 ≤ n ∧ n ≤ 2147483648
  · obtain ⟨m, rfl⟩ : ∃ m : Nat, n = (m : Int) := ⟨n.toNat, by omega⟩
    have e : belowZ s.data.toList (m : Int) c = (((below s.data.toList m c).1 : Int), (below s.data.toList m c).2) := by unfold belowZ; rw [if_pos h]; rfl
    rw [e]
    exact refbelow_any g s m c w (by omega) (by omega) hc hs hS hT
  · have e : belowZ s.data.toList n c = (0, c) := by unfold belowZ; rw [if_neg h]
    rw [e]
    exact (refbelow_no _ n w (by omega)).mono fun e w' ⟨h1, h2⟩ => ⟨h1, h2 ▸ hS, h2 ▸ Kept.refl _ _⟩
theorem nil_rd (w : World) : Rd w 1 (.slice none 0 0) ([] : List Nat).length (([] : List Nat).map I) := ⟨rfl, none, 0, rfl, Nat.le_refl _, Nat.zero_le _, .inl rfl⟩
theorem perm_all (g : Nat) (s : ByteArray) (n : Int) (c : Nat) (w : World) (hc : c < 4611686018427200000) (hs : s.size ≤ 1000000) (hS : Src 70 g s c w) (hT : Tab w) :
    Calls Tryd.prog 34 #[.pointer (some ⟨g, 0, none⟩), .int .i64 n] w fun e w' => ∃ v, e = .returned v ∧ Rd w' 1 v (permZ s.data.toList n c).1.length ((permZ s.data.toList n c).1.map I) ∧ Src 70 g s (permZ s.data.toList n c).2 w' ∧ Kept (at1 g) w w' := by
  by_cases h : 0 ≤ n ∧ n ≤ 1024
  · obtain ⟨m, rfl⟩ : ∃ m : Nat, n = (m : Int) := ⟨n.toNat, by omega⟩
    have e : permZ s.data.toList (m : Int) c = perm s.data.toList m c := by unfold permZ; rw [if_pos h]; rfl
    rw [e]
    exact (perm_any g s m c w (by omega) hc hs hS hT).mono fun e w' ⟨v, h1, h2, h3⟩ => ⟨v, h1, by rw [perm_length]; exact h2, h3⟩
  · have e : permZ s.data.toList n c = ([], c) := by unfold permZ; rw [if_neg h]
    rw [e]
    exact (perm_no _ n w (by omega)).mono fun e w' ⟨h1, h2⟩ => ⟨_, h1, nil_rd _, h2 ▸ hS, h2 ▸ Kept.refl _ _⟩
theorem refperm_all (g : Nat) (s : ByteArray) (n : Int) (c : Nat) (w : World) (hc : c < 4611686018427200000) (hs : s.size ≤ 1000000) (hS : Src 49 g s c w) (hT : TabR w) :
    Calls Tryd.prog 35 #[.pointer (some ⟨g, 0, none⟩), .int .i64 n] w fun e w' => ∃ v, e = .returned v ∧ Rd w' 1 v (permZ s.data.toList n c).1.length ((permZ s.data.toList n c).1.map I) ∧ Src 49 g s (permZ s.data.toList n c).2 w' ∧ Kept (at1 g) w w' := by
  by_cases h : 0 ≤ n ∧ n ≤ 1024
  · obtain ⟨m, rfl⟩ : ∃ m : Nat, n = (m : Int) := ⟨n.toNat, by omega⟩
    have e : permZ s.data.toList (m : Int) c = perm s.data.toList m c := by unfold permZ; rw [if_pos h]; rfl
    rw [e]
    exact (refperm_any g s m c w (by omega) hc hs hS hT).mono fun e w' ⟨v, h1, h2, h3⟩ => ⟨v, h1, by rw [perm_length]; exact h2, h3⟩
  · have e : permZ s.data.toList n c = ([], c) := by unfold permZ; rw [if_neg h]
    rw [e]
    exact (refperm_no _ n w (by omega)).mono fun e w' ⟨h1, h2⟩ => ⟨_, h1, nil_rd _, h2 ▸ hS, h2 ▸ Kept.refl _ _⟩
/-- Two sources: the program's and the reference's. -/
structure Two (w0 : World) (gs gx : Nat) (a : ByteArray) (c1 c3 : Nat) (w : World) : Prop where
  s : Src 70 gs a c1 w
  x : Src 49 gx a c3 w
  kept : Kept no w0 w
  ls : w0.heap.size ≤ gs
  lx : w0.heap.size ≤ gx
  sx : gs ≠ gx
theorem Two.kept' {w0 : World} {gs gx : Nat} {a : ByteArray} {c1 c3 : Nat} {w w' : World} (h : Two w0 gs gx a c1 c3 w) (hk : Kept no w w') : Two w0 gs gx a c1 c3 w' :=
  { h with s := h.s.kept hk id, x := h.x.kept hk id, kept := h.kept.trans' hk }
theorem Two.step1 {w0 : World} {gs gx : Nat} {a : ByteArray} {c1 c3 c : Nat} {w w' : World} (h : Two w0 gs gx a c1 c3 w) (hs : Src 70 gs a c w') (hk : Kept (at1 gs) w w') : Two w0 gs gx a c c3 w' :=
  { h with s := hs, x := h.x.kept hk (fun e => h.sx e.symm), kept := h.kept.trans hk fun k hk e => by have := h.ls; unfold at1 at e; omega }
theorem Two.step3 {w0 : World} {gs gx : Nat} {a : ByteArray} {c1 c3 c : Nat} {w w' : World} (h : Two w0 gs gx a c1 c3 w) (hs : Src 49 gx a c w') (hk : Kept (at1 gx) w w') : Two w0 gs gx a c1 c w' :=
  { h with x := hs, s := h.s.kept hk (fun e => h.sx e), kept := h.kept.trans hk fun k hk e => by have := h.lx; unfold at1 at e; omega }
theorem Rd.keptI {t : TypeId} {g : Nat} {s : ByteArray} {c : Nat} {w w' : World} {v : Value} {l : List Nat} (h : Rd w 1 v l.length (l.map I)) (hS : Src t g s c w) (k : Kept (at1 g) w w') : Rd w' 1 v l.length (l.map I) := by
  obtain ⟨h1, ao, cap, rfl, h2, h3, h4 | ⟨b, o, rfl, hc⟩⟩ := h
  · exact ⟨h1, ao, cap, rfl, h2, h3, .inl h4⟩
  · refine ⟨h1, _, cap, rfl, h2, h3, .inr ⟨b, o, rfl, fun j u hu => k.cell (hc j u hu) fun e => ?_⟩⟩
    have e : b = g := e
    subst e
    have hcu := hc j u hu
    unfold Src at hS
    rw [cell_of_row w b (o + j) _ t (0, 0) hS] at hcu
    simp only [List.getElem?_map, Option.map_eq_some_iff] at hu
    obtain ⟨x, _, rfl⟩ := hu
    match o + j, hcu with
    | 0, hcu => cases hcu
    | 1, hcu => cases hcu
    | n + 2, hcu => simp at hcu
def opCells (ops : List (Int × Int)) : List Value := ops.flatMap fun o => [.int .i64 o.1, .int .i64 o.2]
theorem opCells_get (ops : List (Int × Int)) (k : Nat) (h : k < ops.length) : (opCells ops)[2 * k]? = some (.int .i64 (ops.getD k (0, 0)).1) ∧ (opCells ops)[2 * k + 1]? = some (.int .i64 (ops.getD k (0, 0)).2) := by
  induction ops generalizing k with
  | nil => simp at h
  | cons o ops ih =>
    cases k with
    | zero => simp [opCells]
    | succ k =>
      have := ih k (by simpa using h)
      rw [show 2 * (k + 1) = 2 * k + 1 + 1 by omega]
      simpa [opCells] using this
set_option maxRecDepth 100000 in
set_option maxHeartbeats 2000000 in
theorem script_any (s1 : ByteArray) (hs1 : s1.size ≤ 9223372036854775807) (v : Value) (ops : List (Int × Int)) (w : World) (hn : ops.length ≤ 9223372036854775807) (hr : Rd w 2 v ops.length (opCells ops)) (hT : Tab w) (hR : TabR w) :
    Calls Tryd.prog 9 #[.string s1, v] w fun e w' => e = .returned (.bool true) ∧ Kept no w w' := by
  obtain ⟨ao, cap, rfl⟩ := hr.shape
  replace hr := hid hr
  replace hT := hid hT
  replace hR := hid hR
  have HS1 := hid (short_any s1 hs1 w)
  have hz1 := shortS_size s1
  generalize shortS s1 = a at HS1 hz1
  go_enter Tryd.func9, Tryd.ntmps9
  go_wp2_with fail
  refine HS1.out.mono ?_
  rintro e w' ⟨rfl, rfl⟩
  clear HS1
  go_wp2_with fail
  refine (new_any a w).mono ?_
  rintro e w1 ⟨rfl, q1, k1⟩
  obtain ⟨w4, hw4, F0⟩ : ∃ w4, w4 = w1.alloc (.cells #[.string a, .int .u64 0] 49) ∧ Two w w.heap.size w1.heap.size a 0 0 w4 := by
    have ka := (Kept.refl no w1).alloc (.cells #[.string a, .int .u64 0] 49)
    have l1 := lt_of_heap q1
    exact ⟨_, rfl, q1.kept ka id, heap_alloc_new _ _, k1.trans' ka, Nat.le_refl _, k1.size, by omega⟩
  replace hw4 := hid hw4
  replace F0 := hid F0
  clear q1 k1
  go_wp2_with fail
  rw [← hw4.out]
  clear hw4
  generalize w1.heap.size = gx at F0 ⊢
  generalize hgs : w.heap.size = gs at F0 ⊢
  clear hgs w1
  go_loopw [7] (fun i wr => ∃ k c : Nat, k ≤ ops.length ∧ k ≤ 8 ∧ c ≤ 16384 * k ∧ i = .int .i64 (k : Int) ∧ Hd (Two w gs gx a c c wr)) (fun i _ => 8 - (intOf i).toNat)
  case atStart => exact ⟨0, 0, by omega, by omega, by omega, rfl, F0⟩
  case round =>
    clear F0 w4
    obtain ⟨k, c, hk, hk8, hcd, rfl, F⟩ := hrel
    by_cases hlt : k < ops.length ∧ k < 8
    · obtain ⟨h1, h2⟩ := hlt
      have hcell : ∃ bb o, ao = some ⟨bb, o, none⟩ ∧ wr.cell? ⟨bb, o + k * 2, none⟩ = some (.int .i64 (ops.getD k (0, 0)).1) ∧ wr.cell? ⟨bb, o + k * 2 + 1, none⟩ = some (.int .i64 (ops.getD k (0, 0)).2) := by
        obtain ⟨_, _, _, e, _, _, h | ⟨bb, o, rfl, hc⟩⟩ := hr.out
        · cases e; omega
        · cases e
          have := opCells_get ops k h1
          rw [Nat.mul_comm 2 k] at this
          exact ⟨bb, o, rfl, F.out.kept.cell (hc _ _ this.1) id, F.out.kept.cell (hc _ _ this.2) id⟩
      obtain ⟨bb, o, rfl, hc1, hc2⟩ := hcell
      generalize (ops.getD k (0, 0)).1 = kd at hc1
      generalize (ops.getD k (0, 0)).2 = nn at hc2
      have i1 : (k : Int) < (ops.length : Int) := by omega
      have i2 : (k : Int) < 8 := by omega
      have i3 : decide ((k : Int) < 8) = true := by simp; omega
      have i4 : decide ((k : Int) < (ops.length : Int)) = true := by simp; omega
      go_upto_region 7 with fail
      obtain ⟨w3, hw3, e0, e1, F3, h8s, h8x⟩ : ∃ w3, w3 = wr.alloc (.cells #[.int .i64 kd, .int .i64 nn] 51) ∧ w3.cell? ⟨wr.heap.size, 0, none⟩ = some (.int .i64 kd) ∧ w3.cell? ⟨wr.heap.size, 1, none⟩ = some (.int .i64 nn) ∧ Hd (Two w gs gx a c c w3) ∧ ¬ at1 gs wr.heap.size ∧ ¬ at1 gx wr.heap.size := by
        have l1 := lt_of_heap F.out.s
        have l2 := lt_of_heap F.out.x
        exact ⟨_, rfl, cell_of_row _ _ 0 _ 51 (0, 0) (heap_alloc_new _ _), cell_of_row _ _ 1 _ 51 (0, 0) (heap_alloc_new _ _), ⟨F.out.kept' ((Kept.refl no wr).alloc _)⟩, fun e => by unfold at1 at e; omega, fun e => by unfold at1 at e; omega⟩
      rw [← hw3]
      clear hw3 hc1 hc2 F
      generalize wr.heap.size = g8 at e0 e1 h8s h8x ⊢
      clear wr
      by_cases hk0 : kd = 0
      · subst hk0
        have HW := hid (word_any gs a c w3 (by omega) (by omega) F3.out.s (hT.out.kept F3.out.kept))
        generalize hxw : word a.data.toList c = x at HW
        go_wp2_with fail
        refine HW.out.mono ?_
        rintro e w5 ⟨rfl, s5, k5⟩
        have F5 := hid (F3.out.step1 s5 k5)
        clear s5 k5 HW
        have HV := hid (refword_any gx a c w5 (by omega) (by omega) F5.out.x (hR.out.kept F5.out.kept))
        rw [hxw] at HV
        clear hxw
        go_wp2_with fail
        refine HV.out.mono ?_
        rintro e w6 ⟨rfl, s6, k6⟩
        have F6 := hid (F5.out.step3 s6 k6)
        clear s6 k6 HV F5
        clear e0 e1 F3
        go_wp2
        go_roundw
        case rel => first | exact ⟨k + 1, c + 1, by omega, by omega, by omega, by go_num, F6⟩ | ((repeat apply Exists.intro); exact ⟨⟨k + 1, c + 1, by omega, by omega, by omega, by go_num, F6⟩, rfl⟩)
        case measure => simp [intOf]; omega
      · have d0 : (kd == 0) = false := by rw [beq_eq_false_iff_ne]; exact hk0
        by_cases hk1 : kd = 1
        · subst hk1
          clear hk0 d0
          have hle := belowZ_le a.data.toList nn c
          have HB := hid (fun w1 h h' => below_all gs a nn c w1 (by omega) (by omega) h h')
          have HC := hid (fun w1 h h' => refbelow_all gx a nn c w1 (by omega) (by omega) h h')
          generalize (belowZ a.data.toList nn c).1 = y at HB HC
          generalize (belowZ a.data.toList nn c).2 = cc at HB HC hle
          go_wp2_with fail
          have C0 : w3.drew.cell? ⟨g8, 1, none⟩ = some (.int .i64 nn) := e1
          have F0 := hid (F3.out.kept' ((Kept.refl no w3).drew))
          clear e0 e1
          go_region_held3 (fun w' => w'.cell? ⟨g8, 1, none⟩ = some (.int .i64 nn)) (first | exact C0 | exact C5 | exact C6)
            ((first | (go_at_call 31; refine (HB.out _ F0.out.s (hT.out.kept F0.out.kept)).mono ?_; rintro e w5 ⟨rfl, s5, k5⟩; have F5 := hid (F0.out.step1 s5 k5); have C5 := k5.cell C0 h8s) | (go_at_call 32; refine (HC.out _ F5.out.x (hR.out.kept F5.out.kept)).mono ?_; rintro e w6 ⟨rfl, s6, k6⟩; have F6 := hid (F5.out.step3 s6 k6); have C6 := k6.cell C5 h8x)))
          clear C0 C5 C6 F0 F5 F3 HB HC s5 k5 s6 k6
          go_wp2
          go_roundw
          case rel => first | exact ⟨k + 1, cc, by omega, by omega, by omega, by go_num, F6⟩ | ((repeat apply Exists.intro); exact ⟨⟨k + 1, cc, by omega, by omega, by omega, by go_num, F6⟩, rfl⟩)
          case measure => simp [intOf]; omega
        · have d1 : (kd == 1) = false := by rw [beq_eq_false_iff_ne]; exact hk1
          clear hk0 hk1
          by_cases n1 : nn < 0
          · have m1 : decide (nn < 0) = true := by simp; omega
            have hle := permZ_le a.data.toList nn c
            have hln := permZ_len a.data.toList nn c
            have HB := hid (fun w1 h h' => perm_all gs a nn c w1 (by omega) (by omega) h h')
            have HC := hid (fun w1 h h' => refperm_all gx a nn c w1 (by omega) (by omega) h h')
            generalize (permZ a.data.toList nn c).1 = l at HB HC hln
            generalize (permZ a.data.toList nn c).2 = cc at HB HC hle
            go_wp2_with fail
            have C0 : w3.drew.cell? ⟨g8, 1, none⟩ = some (.int .i64 nn) := e1
            have F0 := hid (F3.out.kept' ((Kept.refl no w3).drew))
            clear e0 e1
            go_region_held3 (fun w' => w'.cell? ⟨g8, 1, none⟩ = some (.int .i64 nn)) (first | exact C0 | exact C5 | exact C6 | exact C7)
              ((first | (go_at_call 34; refine (HB.out _ F0.out.s (hT.out.kept F0.out.kept)).mono ?_; rintro e w5 ⟨v5, rfl, r5, s5, k5⟩; have F5 := hid (F0.out.step1 s5 k5); have C5 := k5.cell C0 h8s) | (go_at_call 35; refine (HC.out _ F5.out.x (hR.out.kept F5.out.kept)).mono ?_; rintro e w6 ⟨v6, rfl, r6, s6, k6⟩; have r5' := Rd.keptI r5 F5.out.x k6; have F6 := hid (F5.out.step3 s6 k6); have C6 := k6.cell C5 h8x) | (go_at_call 33; refine (eqi_any v5 v6 l l _ (by omega) (by omega) r5' r6).mono ?_; rintro e w7 ⟨rfl, dq, rfl⟩; have F7 := hid (F6.out.kept' ((Kept.refl no w6).drewN dq)); have C7 : (w6.drewN dq).cell? ⟨g8, 1, none⟩ = some (.int .i64 nn) := C6; simp only [decide_true])))
            clear C0 C5 C6 C7 F0 F5 F6 F3 HB HC s5 k5 s6 k6 r5 r6 r5'
            go_wp2
            go_roundw
            case rel => first | exact ⟨k + 1, cc, by omega, by omega, by omega, by go_num, F7⟩ | ((repeat apply Exists.intro); exact ⟨⟨k + 1, cc, by omega, by omega, by omega, by go_num, F7⟩, rfl⟩)
            case measure => simp [intOf]; omega
          · have m1 : decide (nn < 0) = false := by simp; omega
            by_cases n2 : nn ≤ 12
            · have m2 : decide (nn ≤ 12) = true := by simp; omega
              have hle := permZ_le a.data.toList nn c
              have hln := permZ_len a.data.toList nn c
              have HB := hid (fun w1 h h' => perm_all gs a nn c w1 (by omega) (by omega) h h')
              have HC := hid (fun w1 h h' => refperm_all gx a nn c w1 (by omega) (by omega) h h')
              generalize (permZ a.data.toList nn c).1 = l at HB HC hln
              generalize (permZ a.data.toList nn c).2 = cc at HB HC hle
              go_wp2_with fail
              have C0 : w3.drew.cell? ⟨g8, 1, none⟩ = some (.int .i64 nn) := e1
              have F0 := hid (F3.out.kept' ((Kept.refl no w3).drew))
              clear e0 e1
              go_region_held3 (fun w' => w'.cell? ⟨g8, 1, none⟩ = some (.int .i64 nn)) (first | exact C0 | exact C5 | exact C6 | exact C7)
                ((first | (go_at_call 34; refine (HB.out _ F0.out.s (hT.out.kept F0.out.kept)).mono ?_; rintro e w5 ⟨v5, rfl, r5, s5, k5⟩; have F5 := hid (F0.out.step1 s5 k5); have C5 := k5.cell C0 h8s) | (go_at_call 35; refine (HC.out _ F5.out.x (hR.out.kept F5.out.kept)).mono ?_; rintro e w6 ⟨v6, rfl, r6, s6, k6⟩; have r5' := Rd.keptI r5 F5.out.x k6; have F6 := hid (F5.out.step3 s6 k6); have C6 := k6.cell C5 h8x) | (go_at_call 33; refine (eqi_any v5 v6 l l _ (by omega) (by omega) r5' r6).mono ?_; rintro e w7 ⟨rfl, dq, rfl⟩; have F7 := hid (F6.out.kept' ((Kept.refl no w6).drewN dq)); have C7 : (w6.drewN dq).cell? ⟨g8, 1, none⟩ = some (.int .i64 nn) := C6; simp only [decide_true])))
              clear C0 C5 C6 C7 F0 F5 F6 F3 HB HC s5 k5 s6 k6 r5 r6 r5'
              go_wp2
              go_roundw
              case rel => first | exact ⟨k + 1, cc, by omega, by omega, by omega, by go_num, F7⟩ | ((repeat apply Exists.intro); exact ⟨⟨k + 1, cc, by omega, by omega, by omega, by go_num, F7⟩, rfl⟩)
              case measure => simp [intOf]; omega
            · have m2 : decide (nn ≤ 12) = false := by simp; omega
              by_cases n3 : 1024 < nn
              · have m3 : decide (1024 < nn) = true := by simp; omega
                have hle := permZ_le a.data.toList nn c
                have hln := permZ_len a.data.toList nn c
                have HB := hid (fun w1 h h' => perm_all gs a nn c w1 (by omega) (by omega) h h')
                have HC := hid (fun w1 h h' => refperm_all gx a nn c w1 (by omega) (by omega) h h')
                generalize (permZ a.data.toList nn c).1 = l at HB HC hln
                generalize (permZ a.data.toList nn c).2 = cc at HB HC hle
                go_wp2_with fail
                have C0 : w3.drew.cell? ⟨g8, 1, none⟩ = some (.int .i64 nn) := e1
                have F0 := hid (F3.out.kept' ((Kept.refl no w3).drew))
                clear e0 e1
                go_region_held3 (fun w' => w'.cell? ⟨g8, 1, none⟩ = some (.int .i64 nn)) (first | exact C0 | exact C5 | exact C6 | exact C7)
                  ((first | (go_at_call 34; refine (HB.out _ F0.out.s (hT.out.kept F0.out.kept)).mono ?_; rintro e w5 ⟨v5, rfl, r5, s5, k5⟩; have F5 := hid (F0.out.step1 s5 k5); have C5 := k5.cell C0 h8s) | (go_at_call 35; refine (HC.out _ F5.out.x (hR.out.kept F5.out.kept)).mono ?_; rintro e w6 ⟨v6, rfl, r6, s6, k6⟩; have r5' := Rd.keptI r5 F5.out.x k6; have F6 := hid (F5.out.step3 s6 k6); have C6 := k6.cell C5 h8x) | (go_at_call 33; refine (eqi_any v5 v6 l l _ (by omega) (by omega) r5' r6).mono ?_; rintro e w7 ⟨rfl, dq, rfl⟩; have F7 := hid (F6.out.kept' ((Kept.refl no w6).drewN dq)); have C7 : (w6.drewN dq).cell? ⟨g8, 1, none⟩ = some (.int .i64 nn) := C6; simp only [decide_true])))
                clear C0 C5 C6 C7 F0 F5 F6 F3 HB HC s5 k5 s6 k6 r5 r6 r5'
                go_wp2
                go_roundw
                case rel => first | exact ⟨k + 1, cc, by omega, by omega, by omega, by go_num, F7⟩ | ((repeat apply Exists.intro); exact ⟨⟨k + 1, cc, by omega, by omega, by omega, by go_num, F7⟩, rfl⟩)
                case measure => simp [intOf]; omega
              · have m3 : decide (1024 < nn) = false := by simp; omega
                have F7 := F3
                go_wp2
                go_roundw
                case rel => first | exact ⟨k + 1, c, by omega, by omega, by omega, by go_num, F7⟩ | ((repeat apply Exists.intro); exact ⟨⟨k + 1, c, by omega, by omega, by omega, by go_num, F7⟩, rfl⟩)
                case measure => simp [intOf]; omega
    · by_cases h1 : k < ops.length
      · have i1 : decide ((k : Int) < (ops.length : Int)) = true := by simp; omega
        have i2 : decide ((k : Int) < 8) = false := by simp; omega
        have i3 : (k : Int) < (ops.length : Int) := by omega
        have i4 : ¬ (k : Int) < 8 := by omega
        clear hlt
        go_wp2_with fail
        refine (awake5_any wr (hT.out.kept F.out.kept) (hR.out.kept F.out.kept)).mono ?_
        rintro e w3 ⟨rfl, k3⟩
        replace F := hid (F.out.kept' k3)
        clear k3
        have HW := hid (word_any gs a c w3 (by omega) (by omega) F.out.s (hT.out.kept F.out.kept))
        generalize hxw : word a.data.toList c = x at HW
        go_wp2_with fail
        refine HW.out.mono ?_
        rintro e w5 ⟨rfl, s5, k5⟩
        have F5 := hid (F.out.step1 s5 k5)
        clear s5 k5 HW
        have HV := hid (refword_any gx a c w5 (by omega) (by omega) F5.out.x (hR.out.kept F5.out.kept))
        rw [hxw] at HV
        clear hxw
        go_wp2_with fail
        refine HV.out.mono ?_
        rintro e w6 ⟨rfl, s6, k6⟩
        have F6 := hid (F5.out.step3 s6 k6)
        clear s6 k6 HV F5
        go_wp2
        go_ret
        exact ⟨rfl, F6.out.kept⟩
      · have i1 : decide ((k : Int) < (ops.length : Int)) = false := by simp; omega
        have i3 : ¬ (k : Int) < (ops.length : Int) := by omega
        clear hlt
        go_wp2_with fail
        refine (awake5_any wr (hT.out.kept F.out.kept) (hR.out.kept F.out.kept)).mono ?_
        rintro e w3 ⟨rfl, k3⟩
        replace F := hid (F.out.kept' k3)
        clear k3
        have HW := hid (word_any gs a c w3 (by omega) (by omega) F.out.s (hT.out.kept F.out.kept))
        generalize hxw : word a.data.toList c = x at HW
        go_wp2_with fail
        refine HW.out.mono ?_
        rintro e w5 ⟨rfl, s5, k5⟩
        have F5 := hid (F.out.step1 s5 k5)
        clear s5 k5 HW
        have HV := hid (refword_any gx a c w5 (by omega) (by omega) F5.out.x (hR.out.kept F5.out.kept))
        rw [hxw] at HV
        clear hxw
        go_wp2_with fail
        refine HV.out.mono ?_
        rintro e w6 ⟨rfl, s6, k6⟩
        have F6 := hid (F5.out.step3 s6 k6)
        clear s6 k6 HV F5
        go_wp2
        go_ret
        exact ⟨rfl, F6.out.kept⟩
end Go.Proofs.YtmacnamgjjglmaaDoor
