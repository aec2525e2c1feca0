/- pile.Prefers. -/
import Derived.Test.YtmigdhbolbhbeaaCnt3
namespace Go.Proofs.Ytmigdhbolbhbeaa
open Go.RowKit Go.Mk Go.Pil
set_option maxRecDepth 100000 in
set_option maxHeartbeats 2000000 in
theorem prefers_any (v : Value) (ps : List (Grp × Value)) (x y : Int) (w : World) (hr : RdG w v ps) : Calls Try.prog 22 #[v, .int .i64 x, .int .i64 y] w fun e w' => e = .returned (.int .i64 (prefers (grps ps) x y)) ∧ Kept no w w' := by
  obtain ⟨ao, cap, rfl, hcap, hcm⟩ := hr.shape
  have hm63 := maxLen_63
  have HI := isany_any _ ps w hr
  cases hP : isPile 7 (grps ps) with
  | false =>
    have hv : Hd (prefers (grps ps) x y = 0) := ⟨by unfold prefers; rw [if_neg (by rw [hP]; simp)]⟩
    rw [hP] at HI
    replace HI := hid HI
    clear hP hr
    go_enter Try.func22, Try.ntmps22
    go_wp2_with fail
    refine HI.out.mono ?_
    rintro e w1 ⟨rfl, k1⟩
    replace k1 := hid k1
    clear HI
    go_wp2
    go_ret
    exact ⟨by rw [hv.out] <;> rfl, k1.out⟩
  | true =>
    rw [hP] at HI
    replace HI := hid HI
    by_cases hxy : x = y
    · have hv : Hd (prefers (grps ps) x y = 0) := ⟨by unfold prefers; rw [if_neg (by simp [hxy])]⟩
      have hb0 : (x == y) = true := by simpa using hxy
      clear hP hr hxy
      go_enter Try.func22, Try.ntmps22
      go_wp2_with fail
      refine HI.out.mono ?_
      rintro e w1 ⟨rfl, k1⟩
      replace k1 := hid k1
      clear HI
      go_wp2
      go_ret
      exact ⟨by rw [hv.out] <;> rfl, k1.out⟩
    · have hv : Hd (prefers (grps ps) x y = sumIf (fun p => pref p x y) (grps ps)) := ⟨by unfold prefers; rw [if_pos ⟨hP, hxy⟩]⟩
      have hb0 : (x == y) = false := by simpa using hxy
      have hb : Hd (∀ k, 0 ≤ sumIf (fun p => pref p x y) ((grps ps).take k) ∧ sumIf (fun p => pref p x y) ((grps ps).take k) ≤ 100000) := ⟨fun k => sumIf_pre (n := 7) hP k⟩
      replace hr := hid hr
      clear hP hxy
      obtain ⟨len, hlen⟩ : ∃ len, ps.length = len := ⟨_, rfl⟩
      rw [hlen] at hr hcap HI ⊢
      replace hlen := hid hlen
      go_enter Try.func22, Try.ntmps22
      go_wp2_with fail
      refine HI.out.mono ?_
      rintro e w1 ⟨rfl, k1⟩
      replace k1 := hid k1
      clear HI
      go_wp2
      go_loopw [7, 22] (fun s i wr => ∃ (k : Nat) (T : Int), k ≤ len ∧ i = .int .i64 (k : Int) ∧ s = .int .i64 T ∧ Hd (T = sumIf (fun p => pref p x y) ((grps ps).take k)) ∧ Hd (Kept no w wr)) (fun _ i _ => len - (intOf i).toNat)
      case atStart => exact ⟨0, 0, by omega, rfl, rfl, ⟨by simp [sumIf]⟩, k1⟩
      case round =>
        obtain ⟨k, T, hk, rfl, rfl, hT, hW⟩ := hrel
        by_cases hlt : k < len
        · have hk1 : (k : Int) < (len : Int) := by omega
          have hk0 : (0 : Int) ≤ (k : Int) := by omega
          obtain ⟨b, o, g, vg, rfl, hel, c0, c1, hz⟩ := (hr.out.kept hW.out).at k (by rw [hlen.out]; exact hlt)
          have hts := hid (sumIf_take (Q := fun p => pref p x y) (grps_get _ hel))
          obtain ⟨N, hN⟩ : ∃ N, g.n = N := ⟨_, rfl⟩
          rw [hN] at c1 hts
          obtain ⟨av, cv, rfl, _, _⟩ := Rd.shape2 hz
          obtain ⟨lv, hlv⟩ : ∃ lv, g.p.length = lv := ⟨_, rfl⟩
          rw [hlv] at c0 hz
          have hb1 := hb.out k
          have hb2 := hb.out (k + 1)
          rw [hts.out, ← hT.out] at hb2
          rw [← hT.out] at hb1
          replace hb1 := hid hb1
          replace hb2 := hid hb2
          clear hN hel hlv
          go_upto_region 7 with fail
          obtain ⟨w2, hw2, g2, k2⟩ := alloc_named wr (.cells #[.slice av lv cv, .int .i64 N] 67)
          rw [← hw2]
          have d0 : w2.cell? ⟨wr.heap.size, 0, none⟩ = some (.slice av lv cv) := by rw [cell_of_row w2 _ 0 _ _ _ g2]; rfl
          have d1 : w2.cell? ⟨wr.heap.size, 1, none⟩ = some (.int .i64 N) := by rw [cell_of_row w2 _ 1 _ _ _ g2]; rfl
          have hz1 := hid (hz.kept k2)
          have hW2 := hid (hW.out.trans' k2)
          have H1 := hid (fun z => Qt.quiet (w := w2) fun W (kw : Qt w2 W) => index_any (.slice av lv cv) g.p z W (hz1.out.kept kw.kept))
          have hpf := hid (pref_idx g.p x y)
          generalize wr.heap.size = q at d0 d1
          clear hw2 g2 hW c0 c1 k2 hz hz1
          go_quiet ((go_at_call 57; exact H1.out _ _))
          generalize idxI g.p x = ix at hpf ⊢
          generalize idxI g.p y = iy at hpf ⊢
          have hW3 := hid (hW2.out.drewN nq)
          have d1' : (w2.drewN nq).cell? ⟨q, 1, none⟩ = some (.int .i64 N) := d1
          clear H1 hW2 d0 d1
          have yes : 0 ≤ ix ∧ (iy < 0 ∨ ix < iy) → Hd (T + N = sumIf (fun p => pref p x y) ((grps ps).take (k + 1))) ∧ IntKind.i64.wrap (T + N) = T + N := fun h => by
            have hp := hpf.out.2 h
            have hbb := hb2.out
            simp only [hp, if_true] at hbb
            exact ⟨⟨by rw [hts.out, ← hT.out]; simp only [hp, if_true]⟩, IntWalk.i64_in _ (by omega)⟩
          have nope : ¬ (0 ≤ ix ∧ (iy < 0 ∨ ix < iy)) → Hd (T = sumIf (fun p => pref p x y) ((grps ps).take (k + 1))) := fun h => ⟨by
            have hp : pref g.p x y = false := by cases hh : pref g.p x y with | false => rfl | true => exact absurd (hpf.out.1 hh) h
            rw [hts.out, ← hT.out]; simp [hp]⟩
          clear hts hT hb1 hb2 hpf
          by_cases hx0 : 0 ≤ ix
          · have hd0 : decide ((0 : Int) ≤ ix) = true := decide_eq_true hx0
            by_cases hy0 : iy < 0
            · have hd1 : decide (iy < (0 : Int)) = true := decide_eq_true hy0
              obtain ⟨hT', hw1⟩ := yes ⟨hx0, .inl hy0⟩
              clear yes nope
              go_wp2
              go_roundw
              case rel => first | exact ⟨k + 1, T + N, by omega, by go_num, rfl, hT', hW3⟩ | ((repeat apply Exists.intro); exact ⟨⟨k + 1, T + N, by omega, by go_num, rfl, hT', hW3⟩, rfl⟩)
              case measure => simp [intOf]; omega
            · have hd1 : decide (iy < (0 : Int)) = false := decide_eq_false hy0
              by_cases hlt2 : ix < iy
              · have hd2 : decide (ix < iy) = true := decide_eq_true hlt2
                obtain ⟨hT', hw1⟩ := yes ⟨hx0, .inr hlt2⟩
                clear yes nope
                go_wp2
                go_roundw
                case rel => first | exact ⟨k + 1, T + N, by omega, by go_num, rfl, hT', hW3⟩ | ((repeat apply Exists.intro); exact ⟨⟨k + 1, T + N, by omega, by go_num, rfl, hT', hW3⟩, rfl⟩)
                case measure => simp [intOf]; omega
              · have hd2 : decide (ix < iy) = false := decide_eq_false hlt2
                have hT' := nope (by omega)
                clear yes nope
                go_wp2
                go_roundw
                case rel => first | exact ⟨k + 1, T, by omega, by go_num, rfl, hT', hW3⟩ | ((repeat apply Exists.intro); exact ⟨⟨k + 1, T, by omega, by go_num, rfl, hT', hW3⟩, rfl⟩)
                case measure => simp [intOf]; omega
          · have hd0 : decide ((0 : Int) ≤ ix) = false := decide_eq_false hx0
            have hT' := nope (by omega)
            clear yes nope
            go_wp2
            go_roundw
            case rel => first | exact ⟨k + 1, T, by omega, by go_num, rfl, hT', hW3⟩ | ((repeat apply Exists.intro); exact ⟨⟨k + 1, T, by omega, by go_num, rfl, hT', hW3⟩, rfl⟩)
            case measure => simp [intOf]; omega
        · obtain rfl : k = len := by omega
          have hv' : Hd (T = prefers (grps ps) x y) := ⟨by
            rw [hT.out, hv.out, List.take_of_length_le (by rw [grps_length, hlen.out]; exact Nat.le_refl _)]⟩
          clear hT hv hb
          go_wp2
          go_ret
          exact ⟨by rw [hv'.out] <;> rfl, hW.out⟩
end Go.Proofs.Ytmigdhbolbhbeaa
