/- electionlaw05.RandomApart: the walk. -/
import Derived.Test.YtmacnamgjjglmaaDoorRandLaws
namespace Go.Proofs.YtmacnamgjjglmaaDoor
open Go.RowKit Go.Mk Go.Sha Go.Rnd
/-- Four sources: two of the program's, two of the reference's. -/
structure Four (w0 : World) (gs gt gx gy : Nat) (a b : ByteArray) (c1 c2 c3 c4 : Nat) (w : World) : Prop where
  s : Src 70 gs a c1 w
  t : Src 70 gt b c2 w
  x : Src 49 gx a c3 w
  y : Src 49 gy b c4 w
  kept : Kept no w0 w
  ls : w0.heap.size ≤ gs
  lt : w0.heap.size ≤ gt
  lx : w0.heap.size ≤ gx
  ly : w0.heap.size ≤ gy
  st : gs ≠ gt
  xy : gx ≠ gy
  sx : gs ≠ gx
  sy : gs ≠ gy
  tx : gt ≠ gx
  ty : gt ≠ gy
theorem Four.kept' {w0 : World} {gs gt gx gy : Nat} {a b : ByteArray} {c1 c2 c3 c4 : Nat} {w w' : World} (h : Four w0 gs gt gx gy a b c1 c2 c3 c4 w) (hk : Kept no w w') : Four w0 gs gt gx gy a b c1 c2 c3 c4 w' :=
  { h with s := h.s.kept hk id, t := h.t.kept hk id, x := h.x.kept hk id, y := h.y.kept hk id, kept := h.kept.trans' hk }
theorem Four.kept1 {w0 : World} {w w' : World} {g : Nat} (h : Kept no w0 w) (hl : w0.heap.size ≤ g) (hk : Kept (at1 g) w w') : Kept no w0 w' :=
  h.trans hk fun k hk e => by unfold at1 at e; omega
theorem Four.step1 {w0 : World} {gs gt gx gy : Nat} {a b : ByteArray} {c1 c2 c3 c4 c : Nat} {w w' : World} (h : Four w0 gs gt gx gy a b c1 c2 c3 c4 w) (hs : Src 70 gs a c w') (hk : Kept (at1 gs) w w') : Four w0 gs gt gx gy a b c c2 c3 c4 w' :=
  { h with s := hs, t := h.t.kept hk (fun e => h.st e.symm), x := h.x.kept hk (fun e => h.sx e.symm), y := h.y.kept hk (fun e => h.sy e.symm), kept := Four.kept1 h.kept h.ls hk }
theorem Four.step2 {w0 : World} {gs gt gx gy : Nat} {a b : ByteArray} {c1 c2 c3 c4 c : Nat} {w w' : World} (h : Four w0 gs gt gx gy a b c1 c2 c3 c4 w) (hs : Src 70 gt b c w') (hk : Kept (at1 gt) w w') : Four w0 gs gt gx gy a b c1 c c3 c4 w' :=
  { h with t := hs, s := h.s.kept hk (fun e => h.st e), x := h.x.kept hk (fun e => h.tx e.symm), y := h.y.kept hk (fun e => h.ty e.symm), kept := Four.kept1 h.kept h.lt hk }
theorem Four.step3 {w0 : World} {gs gt gx gy : Nat} {a b : ByteArray} {c1 c2 c3 c4 c : Nat} {w w' : World} (h : Four w0 gs gt gx gy a b c1 c2 c3 c4 w) (hs : Src 49 gx a c w') (hk : Kept (at1 gx) w w') : Four w0 gs gt gx gy a b c1 c2 c c4 w' :=
  { h with x := hs, s := h.s.kept hk (fun e => h.sx e), t := h.t.kept hk (fun e => h.tx e), y := h.y.kept hk (fun e => h.xy e.symm), kept := Four.kept1 h.kept h.lx hk }
theorem Four.step4 {w0 : World} {gs gt gx gy : Nat} {a b : ByteArray} {c1 c2 c3 c4 c : Nat} {w w' : World} (h : Four w0 gs gt gx gy a b c1 c2 c3 c4 w) (hs : Src 49 gy b c w') (hk : Kept (at1 gy) w w') : Four w0 gs gt gx gy a b c1 c2 c3 c w' :=
  { h with y := hs, s := h.s.kept hk (fun e => h.sy e), t := h.t.kept hk (fun e => h.ty e), x := h.x.kept hk (fun e => h.xy e), kept := Four.kept1 h.kept h.ly hk }
set_option maxRecDepth 100000 in
set_option maxHeartbeats 2000000 in
theorem apart_any (s1 s2 : ByteArray) (hs1 : s1.size ≤ 9223372036854775807) (hs2 : s2.size ≤ 9223372036854775807) (v : Value) (ts : List Bool) (w : World) (hn : ts.length ≤ 9223372036854775807) (hr : Rd w 1 v ts.length (ts.map Value.bool)) (hT : Tab w) (hR : TabR w) :
    Calls Tryd.prog 13 #[.string s1, .string s2, v] w fun e w' => e = .returned (.bool true) ∧ Kept no w w' := by
  obtain ⟨ao, cap, rfl⟩ := hr.shape
  replace hr := hid hr
  replace hT := hid hT
  replace hR := hid hR
  have HS1 := hid (short_any s1 hs1 w)
  have hz1 := shortS_size s1
  have HS2 := hid (short_any s2 hs2 w)
  have hz2 := shortS_size s2
  generalize shortS s1 = a at HS1 hz1
  generalize shortS s2 = b at HS2 hz2
  go_enter Tryd.func13, Tryd.ntmps13
  go_wp2_with fail
  refine HS1.out.mono ?_
  rintro e w' ⟨rfl, rfl⟩
  go_wp2_with fail
  refine HS2.out.mono ?_
  rintro e w' ⟨rfl, rfl⟩
  clear HS1 HS2
  go_wp2_with fail
  refine (new_any a w).mono ?_
  rintro e w1 ⟨rfl, q1, k1⟩
  replace q1 := hid q1
  replace k1 := hid k1
  have l1 := lt_of_heap q1.out
  go_wp2_with fail
  refine (new_any b w1).mono ?_
  rintro e w2 ⟨rfl, q2, k2⟩
  replace q1 := hid (q1.out.kept k2 id)
  replace q2 := hid q2
  have l2 := lt_of_heap q2.out
  have lk1 := k1.out.size
  replace k1 := hid (k1.out.trans' k2)
  clear k2
  obtain ⟨w4, hw4, F0⟩ : ∃ w4, w4 = (w2.alloc (.cells #[.string a, .int .u64 0] 49)).alloc (.cells #[.string b, .int .u64 0] 49) ∧ Four w w.heap.size w1.heap.size w2.heap.size (w2.heap.size + 1) a b 0 0 0 0 w4 := by
    have ka := (Kept.refl no w2).alloc (.cells #[.string a, .int .u64 0] 49)
    have kb := ka.alloc (.cells #[.string b, .int .u64 0] 49)
    have lk2 := k1.out.size
    refine ⟨_, rfl, q1.out.kept kb id, q2.out.kept kb id, ?_, ?_, k1.out.trans' kb, Nat.le_refl _, lk1, lk2, by omega, by omega, by omega, by omega, by omega, by omega, by omega⟩
    · unfold Src; rw [heap_alloc_old _ _ (by simp), heap_alloc_new]; rfl
    · unfold Src; rw [← World.size_alloc (w := w2) (o := .cells #[.string a, .int .u64 0] 49), heap_alloc_new]; rfl
  replace hw4 := hid hw4
  replace F0 := hid F0
  go_wp2_with fail
  rw [← hw4.out]
  clear hw4 q1 q2 k1 lk1 l1 l2
  generalize w1.heap.size = gt at F0 ⊢
  generalize w2.heap.size + 1 = gy at F0 ⊢
  generalize w2.heap.size = gx at F0 ⊢
  generalize hgs : w.heap.size = gs at F0 ⊢
  clear hgs w1 w2
  go_loopw [11] (fun i wr => ∃ k c d : Nat, k ≤ ts.length ∧ k ≤ 8 ∧ c + d ≤ k ∧ i = .int .i64 (k : Int) ∧ Hd (Four w gs gt gx gy a b c d c d wr)) (fun i _ => 8 - (intOf i).toNat)
  case atStart => exact ⟨0, 0, 0, by omega, by omega, by omega, rfl, F0⟩
  case round =>
    clear F0 w4
    obtain ⟨k, c, d, hk, hk8, hcd, rfl, F⟩ := hrel
    by_cases hlt : k < ts.length ∧ k < 8
    · obtain ⟨h1, h2⟩ := hlt
      have hcell : ∃ bb o, ao = some ⟨bb, o, none⟩ ∧ wr.cell? ⟨bb, o + k, none⟩ = some (.bool (ts.getD k false)) := by
        obtain ⟨_, _, _, e, _, _, h | ⟨bb, o, rfl, hc⟩⟩ := hr.out
        · cases e; omega
        · cases e; exact ⟨bb, o, rfl, F.out.kept.cell (hc k _ (by simp [h1])) id⟩
      obtain ⟨bb, o, rfl, hcell⟩ := hcell
      have i1 : (k : Int) < (ts.length : Int) := by omega
      have i2 : (k : Int) < 8 := by omega
      have i3 : decide ((k : Int) < 8) = true := by simp; omega
      have i4 : decide ((k : Int) < (ts.length : Int)) = true := by simp; omega
      generalize ts.getD k false = tk at hcell
      cases tk with
      | true =>
        have HW := hid (word_any gs a c wr (by omega) (by omega) F.out.s (hT.out.kept F.out.kept))
        generalize hxw : word a.data.toList c = x at HW
        go_wp2_with fail
        refine HW.out.mono ?_
        rintro e w5 ⟨rfl, s5, k5⟩
        have F5 := hid (F.out.step1 s5 k5)
        clear s5 k5 HW
        have HV := hid (refword_any gx a c w5 (by omega) (by omega) F5.out.x (hR.out.kept F5.out.kept))
        rw [hxw] at HV
        clear hxw
        go_wp2_with fail
        refine HV.out.mono ?_
        rintro e w6 ⟨rfl, s6, k6⟩
        have F6 := hid (F5.out.step3 s6 k6)
        clear s6 k6 HV F5
        have hcell6 : Hd (w6.cell? ⟨bb, o + k, none⟩ = some (.bool true)) := by
          obtain ⟨_, _, _, e, _, _, h | ⟨bb', o', e2, hc⟩⟩ := hr.out
          · cases e; omega
          · cases e; cases e2
            have h0 := hc k (.bool (ts.getD k false)) (by simp [h1])
            have h00 := F.out.kept.cell h0 id
            rw [hcell] at h00
            rw [← h00] at h0
            exact ⟨F6.out.kept.cell h0 id⟩
        have hcell7 := hcell6.out
        clear hcell hcell6 F
        go_wp2
        go_roundw
        case rel => first | exact ⟨k + 1, c + 1, d, by omega, by omega, by omega, by go_num, F6⟩ | ((repeat apply Exists.intro); exact ⟨⟨k + 1, c + 1, d, by omega, by omega, by omega, by go_num, F6⟩, rfl⟩)
        case measure => simp [intOf]; omega
      | false =>
        have HW := hid (word_any gt b d wr (by omega) (by omega) F.out.t (hT.out.kept F.out.kept))
        generalize hxw : word b.data.toList d = x at HW
        go_wp2_with fail
        refine HW.out.mono ?_
        rintro e w5 ⟨rfl, s5, k5⟩
        have F5 := hid (F.out.step2 s5 k5)
        clear s5 k5 HW
        have HV := hid (refword_any gy b d w5 (by omega) (by omega) F5.out.y (hR.out.kept F5.out.kept))
        rw [hxw] at HV
        clear hxw
        go_wp2_with fail
        refine HV.out.mono ?_
        rintro e w6 ⟨rfl, s6, k6⟩
        have F6 := hid (F5.out.step4 s6 k6)
        clear s6 k6 HV F5
        clear hcell F
        go_wp2
        go_roundw
        case rel => first | exact ⟨k + 1, c, d + 1, by omega, by omega, by omega, by go_num, F6⟩ | ((repeat apply Exists.intro); exact ⟨⟨k + 1, c, d + 1, by omega, by omega, by omega, by go_num, F6⟩, rfl⟩)
        case measure => simp [intOf]; omega
    · by_cases h1 : k < ts.length
      · have i1 : decide ((k : Int) < (ts.length : Int)) = true := by simp; omega
        have i2 : decide ((k : Int) < 8) = false := by simp; omega
        have i3 : (k : Int) < (ts.length : Int) := by omega
        have i4 : ¬ (k : Int) < 8 := by omega
        clear hlt
        go_wp2_with fail
        refine (awake5_any wr (hT.out.kept F.out.kept) (hR.out.kept F.out.kept)).mono ?_
        rintro e w3 ⟨rfl, k3⟩
        replace F := hid (F.out.kept' k3)
        clear k3
        have HW := hid (word_any gs a c w3 (by omega) (by omega) F.out.s (hT.out.kept F.out.kept))
        generalize hxw : word a.data.toList c = x at HW
        go_wp2_with fail
        refine HW.out.mono ?_
        rintro e w5 ⟨rfl, s5, k5⟩
        have F5 := hid (F.out.step1 s5 k5)
        clear s5 k5 HW
        have HV := hid (refword_any gx a c w5 (by omega) (by omega) F5.out.x (hR.out.kept F5.out.kept))
        rw [hxw] at HV
        clear hxw
        go_wp2_with fail
        refine HV.out.mono ?_
        rintro e w6 ⟨rfl, s6, k6⟩
        have F6 := hid (F5.out.step3 s6 k6)
        clear s6 k6 HV F5
        have HW := hid (word_any gt b d w6 (by omega) (by omega) F6.out.t (hT.out.kept F6.out.kept))
        generalize hxw : word b.data.toList d = x at HW
        go_wp2_with fail
        refine HW.out.mono ?_
        rintro e w7 ⟨rfl, s5, k5⟩
        have F5 := hid (F6.out.step2 s5 k5)
        clear s5 k5 HW
        have HV := hid (refword_any gy b d w7 (by omega) (by omega) F5.out.y (hR.out.kept F5.out.kept))
        rw [hxw] at HV
        clear hxw
        go_wp2_with fail
        refine HV.out.mono ?_
        rintro e w8 ⟨rfl, s8, k8⟩
        have F8 := hid (F5.out.step4 s8 k8)
        clear s8 k8 HV F5
        go_wp2
        go_ret
        exact ⟨rfl, F8.out.kept⟩
      · have i1 : decide ((k : Int) < (ts.length : Int)) = false := by simp; omega
        have i3 : ¬ (k : Int) < (ts.length : Int) := by omega
        clear hlt
        go_wp2_with fail
        refine (awake5_any wr (hT.out.kept F.out.kept) (hR.out.kept F.out.kept)).mono ?_
        rintro e w3 ⟨rfl, k3⟩
        replace F := hid (F.out.kept' k3)
        clear k3
        have HW := hid (word_any gs a c w3 (by omega) (by omega) F.out.s (hT.out.kept F.out.kept))
        generalize hxw : word a.data.toList c = x at HW
        go_wp2_with fail
        refine HW.out.mono ?_
        rintro e w5 ⟨rfl, s5, k5⟩
        have F5 := hid (F.out.step1 s5 k5)
        clear s5 k5 HW
        have HV := hid (refword_any gx a c w5 (by omega) (by omega) F5.out.x (hR.out.kept F5.out.kept))
        rw [hxw] at HV
        clear hxw
        go_wp2_with fail
        refine HV.out.mono ?_
        rintro e w6 ⟨rfl, s6, k6⟩
        have F6 := hid (F5.out.step3 s6 k6)
        clear s6 k6 HV F5
        have HW := hid (word_any gt b d w6 (by omega) (by omega) F6.out.t (hT.out.kept F6.out.kept))
        generalize hxw : word b.data.toList d = x at HW
        go_wp2_with fail
        refine HW.out.mono ?_
        rintro e w7 ⟨rfl, s5, k5⟩
        have F5 := hid (F6.out.step2 s5 k5)
        clear s5 k5 HW
        have HV := hid (refword_any gy b d w7 (by omega) (by omega) F5.out.y (hR.out.kept F5.out.kept))
        rw [hxw] at HV
        clear hxw
        go_wp2_with fail
        refine HV.out.mono ?_
        rintro e w8 ⟨rfl, s8, k8⟩
        have F8 := hid (F5.out.step4 s8 k8)
        clear s8 k8 HV F5
        go_wp2
        go_ret
        exact ⟨rfl, F8.out.kept⟩
end Go.Proofs.YtmacnamgjjglmaaDoor
