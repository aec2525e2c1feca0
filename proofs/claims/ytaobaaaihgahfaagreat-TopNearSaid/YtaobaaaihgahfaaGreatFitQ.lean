/- Fit of both packages (printed by gen_fit.py). -/
import Derived.Test.YtaobaaaihgahfaaGreatGenQ
namespace Go.Pil
def permB (n : Nat) (l : List Int) : Bool := decide (l.length = n) && ballot (n : Int) l
/-- The first error of a contest that cannot be counted. -/
def fitP (m : Int) (n : Nat) (cm s d t : Int) (gs : List Grp) (l : List Int) : Int :=
  if m < 1 ∨ 3 < m ∨ cm ≠ m then 5
  else if n < 1 ∨ 7 < n ∨ s < 1 ∨ 5 < s ∨ (m = 1 ∧ s ≠ 1) ∨ (if m = 2 then d < 1 ∨ 6 < d else d ≠ 0) ∨ t < 1 ∨ 3 < t then 4
  else if isPile (n : Int) gs = true then (if permB n l = true then 0 else 13) else 8
end Go.Pil
namespace Go.Proofs.YtaobaaaihgahfaaGreat
open Go.RowKit Go.Mk Go.Pil
set_option maxHeartbeats 1000000 in
theorem isperm_any (v : Value) (zs : List Int) (n : Nat) (w : World) (hn : n ≤ 7) (hr : RdZ w v zs) : Calls Tryz.prog 75 #[v, .int .i64 (n : Int)] w fun e w' => e = .returned (.bool (permB n zs)) ∧ Kept no w w' := by
  (obtain ⟨ao, cap, rfl, hcap, hcm⟩ := Rd.shape2 hr); (have HB := hid (isballot_any (n : Int) _ zs w (by omega) hr)); (obtain ⟨r, hrr⟩ : ∃ r, ballot (n : Int) zs = r := ⟨_, rfl⟩); (have hp : Hd (permB n zs = (decide (zs.length = n) && r)) := ⟨by unfold permB; rw [hrr]⟩); (rw [hrr] at HB); (clear hrr hr)
  by_cases hl : zs.length = n
  · (have hb : ((zs.length : Int) == (n : Int)) = true := by simp [hl]); (have hv : Hd (permB n zs = r) := ⟨by rw [hp.out, decide_eq_true hl]; rfl⟩); (rw [hv.out]); (clear hp hv); (generalize zs.length = lz at HB hb hl ⊢); (clear hl)
    go_enter Tryz.func75, Tryz.ntmps75
    (go_wp2_with fail); (refine HB.out.mono ?_); (rintro e w1 ⟨rfl, k1⟩); (replace k1 := hid k1); (clear HB); (go_wp2); (go_ret); (exact ⟨rfl, k1.out⟩)
  · (have hb : ((zs.length : Int) == (n : Int)) = false := by simp; omega); (have hv : Hd (permB n zs = false) := ⟨by rw [hp.out, decide_eq_false hl]; rfl⟩); (rw [hv.out]); (clear hp hv HB hl)
    go_enter Tryz.func75, Tryz.ntmps75
    (go_wp2); (go_ret); (exact ⟨rfl, Kept.refl _ _⟩)
set_option maxRecDepth 20000 in
set_option maxHeartbeats 8000000 in
theorem fit_any (m : Int) (nm : ByteArray) (ac : Option Addr) (n cc : Nat) (cm s ra d t ov sk : Int) (v vl : Value) (ps : List (Grp × Value)) (zs : List Int) (w : World) (hr : RdG w v ps) (hz : RdZ w vl zs) : Calls Tryz.prog 25 #[.int .i64 m, .agg #[.string nm, .slice ac n cc, .int .i64 cm, .int .i64 s, .int .i64 ra, .int .i64 d, .int .i64 t, .int .i64 ov, .int .i64 sk], v, vl] w fun e w' => e = .returned (.int .i64 (fitP m n cm s d t (grps ps) zs)) ∧ Kept no w w' := by
  (obtain ⟨res, hres⟩ : ∃ res, fitP m n cm s d t (grps ps) zs = res := ⟨_, rfl⟩); (rw [hres]); (unfold fitP at hres); (obtain ⟨w0, hw0⟩ : ∃ w0, w0 = w.alloc (.cells #[.string nm, .slice ac n cc, .int .i64 cm, .int .i64 s, .int .i64 ra, .int .i64 d, .int .i64 t, .int .i64 ov, .int .i64 sk] 24) := ⟨_, rfl⟩); (have k0 : Hd (Kept no w w0) := ⟨by rw [hw0]; exact (Kept.refl no w).alloc _⟩); (replace hr := hid (hr.kept k0.out)); (replace hz := hid (hz.kept k0.out)); (replace hw0 := hid hw0)
  by_cases h1 : m < 1
  · (skip); (have h1d : decide (m < 1) = true := decide_eq_true h1); (have hv : res = 5 := by rw [← hres]; rw [if_pos (.inl h1)]); (subst hv); (clear hres)
    go_enter Tryz.func25, Tryz.ntmps25
    go_wp2
    all_goals (try rw [← hw0.out])
    all_goals go_ret
    all_goals exact ⟨rfl, k0.out⟩
  have h1d : decide (m < 1) = false := decide_eq_false h1
  by_cases h2 : 3 < m
  · (skip); (have h2d : decide (3 < m) = true := decide_eq_true h2); (have hv : res = 5 := by rw [← hres]; rw [if_pos (.inr (.inl h2))]); (subst hv); (clear hres)
    go_enter Tryz.func25, Tryz.ntmps25
    go_wp2
    all_goals (try rw [← hw0.out])
    all_goals go_ret
    all_goals exact ⟨rfl, k0.out⟩
  have h2d : decide (3 < m) = false := decide_eq_false h2
  by_cases hcm : cm = m
  case neg =>
    (have hcb : (cm != m) = true := by simpa using hcm); (have hv : res = 5 := by rw [← hres]; rw [if_pos (.inr (.inr hcm))]); (subst hv); (clear hres)
    go_enter Tryz.func25, Tryz.ntmps25
    go_wp2
    all_goals (try rw [← hw0.out])
    all_goals go_ret
    all_goals exact ⟨rfl, k0.out⟩
  (subst hcm); (have hcb : (cm != cm) = false := by simp); (rw [if_neg (by omega)] at hres)
  rcases (show cm = 1 ∨ cm = 2 ∨ cm = 3 by omega) with rfl | rfl | rfl
  · clear h1 h2 h1d h2d hcb
    by_cases h10 : (n : Int) < 1
    · (skip); (have h10d : decide ((n : Int) < 1) = true := decide_eq_true h10); (have hv : res = 4 := by rw [← hres]; rw [if_pos (.inl (by omega))]); (subst hv); (clear hres)
      go_enter Tryz.func25, Tryz.ntmps25
      go_wp2
      all_goals (try rw [← hw0.out])
      all_goals go_ret
      all_goals exact ⟨rfl, k0.out⟩
    have h10d : decide ((n : Int) < 1) = false := decide_eq_false h10
    by_cases h11 : 7 < (n : Int)
    · (skip); (have h11d : decide (7 < (n : Int)) = true := decide_eq_true h11); (have hv : res = 4 := by rw [← hres]; rw [if_pos (.inr (.inl (by omega)))]); (subst hv); (clear hres)
      go_enter Tryz.func25, Tryz.ntmps25
      go_wp2
      all_goals (try rw [← hw0.out])
      all_goals go_ret
      all_goals exact ⟨rfl, k0.out⟩
    have h11d : decide (7 < (n : Int)) = false := decide_eq_false h11
    by_cases h12 : s < 1
    · (skip); (have h12d : decide (s < 1) = true := decide_eq_true h12); (have hv : res = 4 := by rw [← hres]; rw [if_pos (.inr (.inr (.inl h12)))]); (subst hv); (clear hres)
      go_enter Tryz.func25, Tryz.ntmps25
      go_wp2
      all_goals (try rw [← hw0.out])
      all_goals go_ret
      all_goals exact ⟨rfl, k0.out⟩
    have h12d : decide (s < 1) = false := decide_eq_false h12
    by_cases h13 : 5 < s
    · (skip); (have h13d : decide (5 < s) = true := decide_eq_true h13); (have hv : res = 4 := by rw [← hres]; rw [if_pos (.inr (.inr (.inr (.inl h13))))]); (subst hv); (clear hres)
      go_enter Tryz.func25, Tryz.ntmps25
      go_wp2
      all_goals (try rw [← hw0.out])
      all_goals go_ret
      all_goals exact ⟨rfl, k0.out⟩
    have h13d : decide (5 < s) = false := decide_eq_false h13
    by_cases h14 : s = 1
    case neg =>
      (have h14b : (s != 1) = true := by simpa using h14); (have hv : res = 4 := by rw [← hres]; rw [if_pos (.inr (.inr (.inr (.inr (.inl ⟨rfl, h14⟩)))))]); (subst hv); (clear hres)
      go_enter Tryz.func25, Tryz.ntmps25
      go_wp2
      all_goals (try rw [← hw0.out])
      all_goals go_ret
      all_goals exact ⟨rfl, k0.out⟩
    subst h14
    by_cases h15 : d = 0
    case neg =>
      (have h15b : (d == 0) = false := by simpa using h15); (have hv : res = 4 := by rw [← hres]; rw [if_pos (.inr (.inr (.inr (.inr (.inr (.inl (by rw [if_neg (by decide)]; exact h15)))))))]); (subst hv); (clear hres)
      go_enter Tryz.func25, Tryz.ntmps25
      go_wp2
      all_goals (try rw [← hw0.out])
      all_goals go_ret
      all_goals exact ⟨rfl, k0.out⟩
    subst h15
    by_cases h17 : t < 1
    · (skip); (have h17d : decide (t < 1) = true := decide_eq_true h17); (have hv : res = 4 := by rw [← hres]; rw [if_pos (.inr (.inr (.inr (.inr (.inr (.inr (.inl h17)))))))]); (subst hv); (clear hres)
      go_enter Tryz.func25, Tryz.ntmps25
      go_wp2
      all_goals (try rw [← hw0.out])
      all_goals go_ret
      all_goals exact ⟨rfl, k0.out⟩
    have h17d : decide (t < 1) = false := decide_eq_false h17
    by_cases h18 : 3 < t
    · (skip); (have h18d : decide (3 < t) = true := decide_eq_true h18); (have hv : res = 4 := by rw [← hres]; rw [if_pos (.inr (.inr (.inr (.inr (.inr (.inr (.inr h18)))))))]); (subst hv); (clear hres)
      go_enter Tryz.func25, Tryz.ntmps25
      go_wp2
      all_goals (try rw [← hw0.out])
      all_goals go_ret
      all_goals exact ⟨rfl, k0.out⟩
    (have h18d : decide (3 < t) = false := decide_eq_false h18); (rw [if_neg (by rintro (h | h | h | h | h | h | h | h) <;> first | omega | (exact h.2 rfl) | (rw [if_neg (by decide)] at h; exact h rfl))] at hres); (have HP := ispile_any (n : Int) v ps w0 (by omega) hr.out)
    cases hP : isPile (n : Int) (grps ps) with
    | false =>
      (rw [hP] at HP); (replace HP := hid HP); (have hv : res = 8 := by rw [← hres, if_neg (by rw [hP]; decide)]); (subst hv); (clear hres hP)
      go_enter Tryz.func25, Tryz.ntmps25
      (go_wp2_with fail); (rw [← hw0.out]); (with_reducible refine HP.out.mono ?_); (rintro e w1 ⟨rfl, k1⟩); (have k2 := hid (k0.out.trans' k1)); (clear k1 HP); (go_wp2); (go_ret); (exact ⟨rfl, k2.out⟩)
    | true =>
      (rw [hP] at HP); (replace HP := hid HP); (rw [if_pos hP] at hres); (clear hP); (replace hres := hid hres); (have hn7 : (n : Int) ≤ 7 := by omega); (have hn7' : n ≤ 7 := by omega)
      go_enter Tryz.func25, Tryz.ntmps25
      (go_wp2_with fail); (rw [← hw0.out]); (with_reducible refine HP.out.mono ?_); (rintro e w1 ⟨rfl, k1⟩); (replace k1 := hid k1); (have HQ := isperm_any vl zs n w1 (by omega) (hz.out.kept k1.out))
      cases hQ : permB n zs with
      | false =>
        (rw [hQ] at HQ); (replace HQ := hid HQ); (have hv : res = 13 := by rw [← hres.out, if_neg (by rw [hQ]; decide)]); (subst hv); (clear hres hQ HP); (go_wp2_with fail); (with_reducible refine HQ.out.mono ?_); (rintro e w2 ⟨rfl, k2⟩); (have k3 := hid ((k0.out.trans' k1.out).trans' k2)); (clear k2 HQ); (go_wp2); (go_ret); (exact ⟨rfl, k3.out⟩)
      | true =>
        (rw [hQ] at HQ); (replace HQ := hid HQ); (have hv : res = 0 := by rw [← hres.out, if_pos hQ]); (subst hv); (clear hres hQ HP); (go_wp2_with fail); (with_reducible refine HQ.out.mono ?_); (rintro e w2 ⟨rfl, k2⟩); (have k3 := hid ((k0.out.trans' k1.out).trans' k2)); (clear k2 HQ); (go_wp2); (go_ret); (exact ⟨rfl, k3.out⟩)
  · clear h1 h2 h1d h2d hcb
    by_cases h10 : (n : Int) < 1
    · (skip); (have h10d : decide ((n : Int) < 1) = true := decide_eq_true h10); (have hv : res = 4 := by rw [← hres]; rw [if_pos (.inl (by omega))]); (subst hv); (clear hres)
      go_enter Tryz.func25, Tryz.ntmps25
      go_wp2
      all_goals (try rw [← hw0.out])
      all_goals go_ret
      all_goals exact ⟨rfl, k0.out⟩
    have h10d : decide ((n : Int) < 1) = false := decide_eq_false h10
    by_cases h11 : 7 < (n : Int)
    · (skip); (have h11d : decide (7 < (n : Int)) = true := decide_eq_true h11); (have hv : res = 4 := by rw [← hres]; rw [if_pos (.inr (.inl (by omega)))]); (subst hv); (clear hres)
      go_enter Tryz.func25, Tryz.ntmps25
      go_wp2
      all_goals (try rw [← hw0.out])
      all_goals go_ret
      all_goals exact ⟨rfl, k0.out⟩
    have h11d : decide (7 < (n : Int)) = false := decide_eq_false h11
    by_cases h12 : s < 1
    · (skip); (have h12d : decide (s < 1) = true := decide_eq_true h12); (have hv : res = 4 := by rw [← hres]; rw [if_pos (.inr (.inr (.inl h12)))]); (subst hv); (clear hres)
      go_enter Tryz.func25, Tryz.ntmps25
      go_wp2
      all_goals (try rw [← hw0.out])
      all_goals go_ret
      all_goals exact ⟨rfl, k0.out⟩
    have h12d : decide (s < 1) = false := decide_eq_false h12
    by_cases h13 : 5 < s
    · (skip); (have h13d : decide (5 < s) = true := decide_eq_true h13); (have hv : res = 4 := by rw [← hres]; rw [if_pos (.inr (.inr (.inr (.inl h13))))]); (subst hv); (clear hres)
      go_enter Tryz.func25, Tryz.ntmps25
      go_wp2
      all_goals (try rw [← hw0.out])
      all_goals go_ret
      all_goals exact ⟨rfl, k0.out⟩
    have h13d : decide (5 < s) = false := decide_eq_false h13
    by_cases h15 : 1 ≤ d
    case neg =>
      (have h15d : decide (1 ≤ d) = false := decide_eq_false h15); (have hv : res = 4 := by rw [← hres]; rw [if_pos (.inr (.inr (.inr (.inr (.inr (.inl (by rw [if_pos rfl]; omega)))))))]); (subst hv); (clear hres)
      go_enter Tryz.func25, Tryz.ntmps25
      go_wp2
      all_goals (try rw [← hw0.out])
      all_goals go_ret
      all_goals exact ⟨rfl, k0.out⟩
    have h15d : decide (1 ≤ d) = true := decide_eq_true h15
    by_cases h16 : d ≤ 6
    case neg =>
      (have h16d : decide (d ≤ 6) = false := decide_eq_false h16); (have hv : res = 4 := by rw [← hres]; rw [if_pos (.inr (.inr (.inr (.inr (.inr (.inl (by rw [if_pos rfl]; omega)))))))]); (subst hv); (clear hres)
      go_enter Tryz.func25, Tryz.ntmps25
      go_wp2
      all_goals (try rw [← hw0.out])
      all_goals go_ret
      all_goals exact ⟨rfl, k0.out⟩
    have h16d : decide (d ≤ 6) = true := decide_eq_true h16
    by_cases h17 : t < 1
    · (skip); (have h17d : decide (t < 1) = true := decide_eq_true h17); (have hv : res = 4 := by rw [← hres]; rw [if_pos (.inr (.inr (.inr (.inr (.inr (.inr (.inl h17)))))))]); (subst hv); (clear hres)
      go_enter Tryz.func25, Tryz.ntmps25
      go_wp2
      all_goals (try rw [← hw0.out])
      all_goals go_ret
      all_goals exact ⟨rfl, k0.out⟩
    have h17d : decide (t < 1) = false := decide_eq_false h17
    by_cases h18 : 3 < t
    · (skip); (have h18d : decide (3 < t) = true := decide_eq_true h18); (have hv : res = 4 := by rw [← hres]; rw [if_pos (.inr (.inr (.inr (.inr (.inr (.inr (.inr h18)))))))]); (subst hv); (clear hres)
      go_enter Tryz.func25, Tryz.ntmps25
      go_wp2
      all_goals (try rw [← hw0.out])
      all_goals go_ret
      all_goals exact ⟨rfl, k0.out⟩
    (have h18d : decide (3 < t) = false := decide_eq_false h18); (rw [if_neg (by rintro (h | h | h | h | h | h | h | h) <;> first | omega | (exact absurd h.1 (by decide)) | (rw [if_pos rfl] at h; omega))] at hres); (have HP := ispile_any (n : Int) v ps w0 (by omega) hr.out)
    cases hP : isPile (n : Int) (grps ps) with
    | false =>
      (rw [hP] at HP); (replace HP := hid HP); (have hv : res = 8 := by rw [← hres, if_neg (by rw [hP]; decide)]); (subst hv); (clear hres hP)
      go_enter Tryz.func25, Tryz.ntmps25
      (go_wp2_with fail); (rw [← hw0.out]); (with_reducible refine HP.out.mono ?_); (rintro e w1 ⟨rfl, k1⟩); (have k2 := hid (k0.out.trans' k1)); (clear k1 HP); (go_wp2); (go_ret); (exact ⟨rfl, k2.out⟩)
    | true =>
      (rw [hP] at HP); (replace HP := hid HP); (rw [if_pos hP] at hres); (clear hP); (replace hres := hid hres); (have hn7 : (n : Int) ≤ 7 := by omega); (have hn7' : n ≤ 7 := by omega)
      go_enter Tryz.func25, Tryz.ntmps25
      (go_wp2_with fail); (rw [← hw0.out]); (with_reducible refine HP.out.mono ?_); (rintro e w1 ⟨rfl, k1⟩); (replace k1 := hid k1); (have HQ := isperm_any vl zs n w1 (by omega) (hz.out.kept k1.out))
      cases hQ : permB n zs with
      | false =>
        (rw [hQ] at HQ); (replace HQ := hid HQ); (have hv : res = 13 := by rw [← hres.out, if_neg (by rw [hQ]; decide)]); (subst hv); (clear hres hQ HP); (go_wp2_with fail); (with_reducible refine HQ.out.mono ?_); (rintro e w2 ⟨rfl, k2⟩); (have k3 := hid ((k0.out.trans' k1.out).trans' k2)); (clear k2 HQ); (go_wp2); (go_ret); (exact ⟨rfl, k3.out⟩)
      | true =>
        (rw [hQ] at HQ); (replace HQ := hid HQ); (have hv : res = 0 := by rw [← hres.out, if_pos hQ]); (subst hv); (clear hres hQ HP); (go_wp2_with fail); (with_reducible refine HQ.out.mono ?_); (rintro e w2 ⟨rfl, k2⟩); (have k3 := hid ((k0.out.trans' k1.out).trans' k2)); (clear k2 HQ); (go_wp2); (go_ret); (exact ⟨rfl, k3.out⟩)
  · clear h1 h2 h1d h2d hcb
    by_cases h10 : (n : Int) < 1
    · (skip); (have h10d : decide ((n : Int) < 1) = true := decide_eq_true h10); (have hv : res = 4 := by rw [← hres]; rw [if_pos (.inl (by omega))]); (subst hv); (clear hres)
      go_enter Tryz.func25, Tryz.ntmps25
      go_wp2
      all_goals (try rw [← hw0.out])
      all_goals go_ret
      all_goals exact ⟨rfl, k0.out⟩
    have h10d : decide ((n : Int) < 1) = false := decide_eq_false h10
    by_cases h11 : 7 < (n : Int)
    · (skip); (have h11d : decide (7 < (n : Int)) = true := decide_eq_true h11); (have hv : res = 4 := by rw [← hres]; rw [if_pos (.inr (.inl (by omega)))]); (subst hv); (clear hres)
      go_enter Tryz.func25, Tryz.ntmps25
      go_wp2
      all_goals (try rw [← hw0.out])
      all_goals go_ret
      all_goals exact ⟨rfl, k0.out⟩
    have h11d : decide (7 < (n : Int)) = false := decide_eq_false h11
    by_cases h12 : s < 1
    · (skip); (have h12d : decide (s < 1) = true := decide_eq_true h12); (have hv : res = 4 := by rw [← hres]; rw [if_pos (.inr (.inr (.inl h12)))]); (subst hv); (clear hres)
      go_enter Tryz.func25, Tryz.ntmps25
      go_wp2
      all_goals (try rw [← hw0.out])
      all_goals go_ret
      all_goals exact ⟨rfl, k0.out⟩
    have h12d : decide (s < 1) = false := decide_eq_false h12
    by_cases h13 : 5 < s
    · (skip); (have h13d : decide (5 < s) = true := decide_eq_true h13); (have hv : res = 4 := by rw [← hres]; rw [if_pos (.inr (.inr (.inr (.inl h13))))]); (subst hv); (clear hres)
      go_enter Tryz.func25, Tryz.ntmps25
      go_wp2
      all_goals (try rw [← hw0.out])
      all_goals go_ret
      all_goals exact ⟨rfl, k0.out⟩
    have h13d : decide (5 < s) = false := decide_eq_false h13
    by_cases h15 : d = 0
    case neg =>
      (have h15b : (d == 0) = false := by simpa using h15); (have hv : res = 4 := by rw [← hres]; rw [if_pos (.inr (.inr (.inr (.inr (.inr (.inl (by rw [if_neg (by decide)]; exact h15)))))))]); (subst hv); (clear hres)
      go_enter Tryz.func25, Tryz.ntmps25
      go_wp2
      all_goals (try rw [← hw0.out])
      all_goals go_ret
      all_goals exact ⟨rfl, k0.out⟩
    subst h15
    by_cases h17 : t < 1
    · (skip); (have h17d : decide (t < 1) = true := decide_eq_true h17); (have hv : res = 4 := by rw [← hres]; rw [if_pos (.inr (.inr (.inr (.inr (.inr (.inr (.inl h17)))))))]); (subst hv); (clear hres)
      go_enter Tryz.func25, Tryz.ntmps25
      go_wp2
      all_goals (try rw [← hw0.out])
      all_goals go_ret
      all_goals exact ⟨rfl, k0.out⟩
    have h17d : decide (t < 1) = false := decide_eq_false h17
    by_cases h18 : 3 < t
    · (skip); (have h18d : decide (3 < t) = true := decide_eq_true h18); (have hv : res = 4 := by rw [← hres]; rw [if_pos (.inr (.inr (.inr (.inr (.inr (.inr (.inr h18)))))))]); (subst hv); (clear hres)
      go_enter Tryz.func25, Tryz.ntmps25
      go_wp2
      all_goals (try rw [← hw0.out])
      all_goals go_ret
      all_goals exact ⟨rfl, k0.out⟩
    (have h18d : decide (3 < t) = false := decide_eq_false h18); (rw [if_neg (by rintro (h | h | h | h | h | h | h | h) <;> first | omega | (exact absurd h.1 (by decide)) | (rw [if_neg (by decide)] at h; exact h rfl))] at hres); (have HP := ispile_any (n : Int) v ps w0 (by omega) hr.out)
    cases hP : isPile (n : Int) (grps ps) with
    | false =>
      (rw [hP] at HP); (replace HP := hid HP); (have hv : res = 8 := by rw [← hres, if_neg (by rw [hP]; decide)]); (subst hv); (clear hres hP)
      go_enter Tryz.func25, Tryz.ntmps25
      (go_wp2_with fail); (rw [← hw0.out]); (with_reducible refine HP.out.mono ?_); (rintro e w1 ⟨rfl, k1⟩); (have k2 := hid (k0.out.trans' k1)); (clear k1 HP); (go_wp2); (go_ret); (exact ⟨rfl, k2.out⟩)
    | true =>
      (rw [hP] at HP); (replace HP := hid HP); (rw [if_pos hP] at hres); (clear hP); (replace hres := hid hres); (have hn7 : (n : Int) ≤ 7 := by omega); (have hn7' : n ≤ 7 := by omega)
      go_enter Tryz.func25, Tryz.ntmps25
      (go_wp2_with fail); (rw [← hw0.out]); (with_reducible refine HP.out.mono ?_); (rintro e w1 ⟨rfl, k1⟩); (replace k1 := hid k1); (have HQ := isperm_any vl zs n w1 (by omega) (hz.out.kept k1.out))
      cases hQ : permB n zs with
      | false =>
        (rw [hQ] at HQ); (replace HQ := hid HQ); (have hv : res = 13 := by rw [← hres.out, if_neg (by rw [hQ]; decide)]); (subst hv); (clear hres hQ HP); (go_wp2_with fail); (with_reducible refine HQ.out.mono ?_); (rintro e w2 ⟨rfl, k2⟩); (have k3 := hid ((k0.out.trans' k1.out).trans' k2)); (clear k2 HQ); (go_wp2); (go_ret); (exact ⟨rfl, k3.out⟩)
      | true =>
        (rw [hQ] at HQ); (replace HQ := hid HQ); (have hv : res = 0 := by rw [← hres.out, if_pos hQ]); (subst hv); (clear hres hQ HP); (go_wp2_with fail); (with_reducible refine HQ.out.mono ?_); (rintro e w2 ⟨rfl, k2⟩); (have k3 := hid ((k0.out.trans' k1.out).trans' k2)); (clear k2 HQ); (go_wp2); (go_ret); (exact ⟨rfl, k3.out⟩)
end Go.Proofs.YtaobaaaihgahfaaGreat
