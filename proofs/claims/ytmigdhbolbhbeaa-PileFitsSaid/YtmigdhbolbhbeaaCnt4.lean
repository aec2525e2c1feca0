/- The reference's Prefers. -/
import Derived.Test.YtmigdhbolbhbeaaCnt3
namespace Go.Proofs.Ytmigdhbolbhbeaa
open Go.RowKit Go.Mk Go.Pil
set_option maxRecDepth 20000 in
set_option maxHeartbeats 2000000 in
theorem refprefers_any (v : Value) (ps : List (Grp × Value)) (x y : Int) (w : World) (hr : RdG w v ps) : Calls Try.prog 32 #[v, .int .i64 x, .int .i64 y] w fun e w' => e = .returned (.int .i64 (if isPile 7 (grps ps) = true then sumIf (fun p => pref p x y) (grps ps) else 0)) ∧ Qt w w' := by
  obtain ⟨ao, cap, rfl, hcap, hcm⟩ := hr.shape
  have hm63 := maxLen_63
  obtain ⟨P, hP⟩ : ∃ P, isPile 7 (grps ps) = P := ⟨_, rfl⟩
  have hb : Hd (∀ k, P = true → 0 ≤ sumIf (fun p => pref p x y) ((grps ps).take k) ∧ sumIf (fun p => pref p x y) ((grps ps).take k) ≤ 100000) := ⟨fun k h => sumIf_pre (n := 7) (by rw [hP, h]) k⟩
  have HP : Hd (∀ W, Qt w W → Calls Try.prog 58 #[.slice ao ps.length cap] W fun e w' => e = .returned (.bool P) ∧ Qt W w') := ⟨fun W k => by have := refpile_any _ ps W (hr.kept k.kept); rwa [hP] at this⟩
  have hres : Hd ((if isPile 7 (grps ps) = true then sumIf (fun p => pref p x y) (grps ps) else 0) = if P = true then sumIf (fun p => pref p x y) (grps ps) else 0) := ⟨by rw [hP]⟩
  rw [hres.out]
  clear hP hres
  obtain ⟨res, hrs⟩ : ∃ res, (if P = true then sumIf (fun p => pref p x y) (grps ps) else 0) = res := ⟨_, rfl⟩
  rw [hrs]
  replace hrs := hid hrs
  replace hr := hid hr
  obtain ⟨len, hlen⟩ : ∃ len, ps.length = len := ⟨_, rfl⟩
  rw [hlen] at hr hcap HP ⊢
  replace hlen := hid hlen
  go_enter Try.func32, Try.ntmps32
  go_wp2
  go_loopw [7, 8] (fun s i wr => ∃ (k : Nat) (T : Int), k ≤ len ∧ i = .int .i64 (k : Int) ∧ s = .int .i64 T ∧ Hd (T = sumIf (fun p => pref p x y) ((grps ps).take k)) ∧ Hd (P = false → k = 0) ∧ Hd (Qt w wr)) (fun _ i _ => len - (intOf i).toNat)
  case atStart => exact ⟨0, 0, by omega, rfl, rfl, ⟨by simp [sumIf]⟩, ⟨fun _ => rfl⟩, ⟨Qt.refl _⟩⟩
  case round =>
    obtain ⟨k, T, hk, rfl, rfl, hT, hQ, hW⟩ := hrel
    by_cases hlt : k < len
    · have hk1 : (k : Int) < (len : Int) := by omega
      have hk0 : (0 : Int) ≤ (k : Int) := by omega
      obtain ⟨b, o, g, vg, rfl, hel, c0, c1, hz⟩ := (hr.out.kept hW.out.kept).at k (by rw [hlen.out]; exact hlt)
      have hts := hid (sumIf_take (Q := fun p => pref p x y) (grps_get _ hel))
      clear hel
      cases P with
      | false =>
        have hv : Hd (T = res) := ⟨by rw [hT.out, hQ.out rfl, ← hrs.out]; simp [sumIf]⟩
        have HP' := hid (HP.out _ hW.out)
        clear hT hQ HP hts hb hz
        go_wp2_with fail
        refine HP'.out.mono ?_
        rintro e w1 ⟨rfl, k1⟩
        have hW' := hid (hW.out.trans k1)
        clear k1 HP'
        go_wp2
        go_ret
        exact ⟨by rw [hv.out] <;> rfl, hW'.out⟩
      | true =>
        obtain ⟨N, hN⟩ : ∃ N, g.n = N := ⟨_, rfl⟩
        rw [hN] at c1 hts
        have hb1 := hb.out k rfl
        have hb2 := hb.out (k + 1) rfl
        rw [hts.out, ← hT.out] at hb2
        rw [← hT.out] at hb1
        have hQ' : Hd ((true : Bool) = false → k + 1 = 0) := ⟨fun h => by cases h⟩
        have HP' := hid (HP.out _ hW.out)
        replace hb1 := hid hb1
        replace hb2 := hid hb2
        replace hz := hid hz
        clear hN hQ
        go_wp2_with fail
        refine HP'.out.mono ?_
        rintro e w1 ⟨rfl, k1⟩
        have hW' := hid (hW.out.trans k1)
        have d0 := k1.kept.cell c0 id
        have d1 := k1.kept.cell c1 id
        have hz1 := hid (hz.out.kept k1.kept)
        have H1 := hid (fun z => Qt.quiet (w := w1) fun W (kw : Qt w1 W) => place_any vg g.p z W (hz1.out.kept kw.kept))
        obtain ⟨ix, hix⟩ : ∃ ix, g.p.idxOf x = ix := ⟨_, rfl⟩
        obtain ⟨iy, hiy⟩ : ∃ iy, g.p.idxOf y = iy := ⟨_, rfl⟩
        have hpf : Hd (pref g.p x y = decide (ix < iy)) := ⟨by unfold pref; rw [hix, hiy]⟩
        clear k1 HP' hW hz c0 c1 hz1
        by_cases hlt2 : ix < iy
        · have hd2 : decide ((ix : Int) < (iy : Int)) = true := decide_eq_true (by omega)
          have hlt3 : (ix : Int) < (iy : Int) := by omega
          have hT' : Hd (T + N = sumIf (fun p => pref p x y) ((grps ps).take (k + 1))) := ⟨by rw [hts.out, ← hT.out, hpf.out, decide_eq_true hlt2, if_pos rfl]⟩
          have hbb := hb2.out
          rw [hpf.out, decide_eq_true hlt2, if_pos rfl] at hbb
          have hw1 : IntKind.i64.wrap (T + N) = T + N := IntWalk.i64_in _ (by omega)
          clear hbb hb1 hb2 hts hT hpf hlt2
          go_wp2_with fail
          go_quiet ((go_at_call 64; exact H1.out _ _))
          try rw [hix, hiy]
          have hW2 := hid (hW'.out.drewN nq)
          have d1' : (w1.drewN nq).cell? ⟨b, o + k * 2 + 1, none⟩ = some (.int .i64 N) := d1
          clear H1 hW' d0 d1
          go_wp2
          go_roundw
          case rel => first | exact ⟨k + 1, T + N, by omega, by go_num, rfl, hT', hQ', hW2⟩ | ((repeat apply Exists.intro); exact ⟨⟨k + 1, T + N, by omega, by go_num, rfl, hT', hQ', hW2⟩, rfl⟩)
          case measure => simp [intOf]; omega
        · have hd2 : decide ((ix : Int) < (iy : Int)) = false := decide_eq_false (by omega)
          have hlt3 : ¬ (ix : Int) < (iy : Int) := by omega
          have hT' : Hd (T = sumIf (fun p => pref p x y) ((grps ps).take (k + 1))) := ⟨by rw [hts.out, ← hT.out, hpf.out, decide_eq_false hlt2, if_neg (by decide), Int.add_zero]⟩
          clear hb1 hb2 hts hT hpf hlt2
          go_wp2_with fail
          go_quiet ((go_at_call 64; exact H1.out _ _))
          try rw [hix, hiy]
          have hW2 := hid (hW'.out.drewN nq)
          clear H1 hW' d0 d1
          go_wp2
          go_roundw
          case rel => first | exact ⟨k + 1, T, by omega, by go_num, rfl, hT', hQ', hW2⟩ | ((repeat apply Exists.intro); exact ⟨⟨k + 1, T, by omega, by go_num, rfl, hT', hQ', hW2⟩, rfl⟩)
          case measure => simp [intOf]; omega
    · obtain rfl : k = len := by omega
      have hv : Hd (T = res) := ⟨by
        rw [hT.out, ← hrs.out]
        cases P with
        | false => rw [hQ.out rfl]; simp [sumIf]
        | true => rw [List.take_of_length_le (by rw [grps_length, hlen.out]; exact Nat.le_refl _), if_pos rfl]⟩
      clear hT hQ HP hb
      go_wp2
      go_ret
      exact ⟨by rw [hv.out] <;> rfl, hW.out⟩
end Go.Proofs.Ytmigdhbolbhbeaa
