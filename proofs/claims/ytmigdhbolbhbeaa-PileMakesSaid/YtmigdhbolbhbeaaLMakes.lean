/- PileMakes: the walk. -/
import Derived.Test.YtmigdhbolbhbeaaAwk24
namespace Go.Proofs.Ytmigdhbolbhbeaa
open Go.RowKit Go.Mk Go.Pil
set_option maxRecDepth 20000 in
set_option maxHeartbeats 2000000 in
theorem pilemakes_any (n : Int) (v : Value) (bs : List (List Int × Value)) (raw : Bool) (w : World) (hr : RdB w v bs) : Calls Try.prog 3 #[.int .i64 n, v, .bool raw] w fun e w' => e = .returned (.bool true) ∧ Kept no w w' := by
  have HF := hid (lawsmall_any v bs w hr)
  replace hr := hid hr
  cases hf : few (lists bs) with
  | false =>
    rw [hf] at HF
    clear hf hr
    go_enter Try.func3, Try.ntmps3
    go_wp2_with fail
    refine HF.out.mono ?_
    rintro e w1 ⟨rfl, k1⟩
    replace k1 := hid k1
    clear HF
    go_wp2_with fail
    refine (awake_any _).mono ?_
    rintro e w2 ⟨rfl, k2⟩
    have k3 := hid (k1.out.kept.trans' k2)
    clear k2 k1
    go_wp2
    go_ret
    exact ⟨rfl, k3.out⟩
  | true =>
    rw [hf] at HF
    clear hf
    cases raw with
    | true =>
      go_enter Try.func3, Try.ntmps3
      go_wp2_with fail
      refine HF.out.mono ?_
      rintro e w1 ⟨rfl, k1⟩
      replace k1 := hid k1.kept
      have hr1 := hid (hr.out.kept k1.out)
      clear HF hr
      have HM := hid (make_any n v bs w1 hr1.out)
      have HR := hid (fun W' (k : Kept no w1 W') => refmake_any n v bs W' ((hr1.out).kept k))
      generalize mk n (lists bs) = r at HM HR
      obtain ⟨gs, c⟩ := r
      simp only at HM HR
      have kW := hid (k1.out)
      go_wp2_with fail
      refine HM.out.mono ?_
      rintro e w2 ⟨v2, rfl, ps, hps, hrd, k2⟩
      have HR' := hid (HR.out w2 k2)
      have k2' := hid (kW.out.trans' k2)
      replace hrd := hid hrd
      clear k2 HR HM kW
      go_wp2_with fail
      refine HR'.out.mono ?_
      rintro e w3 ⟨v3, rfl, qs, hqs, hrd3, k3⟩
      have k3' := hid (k2'.out.trans' k3)
      have hrd2 := hid (hrd.out.kept k3)
      replace hrd3 := hid hrd3
      clear k3 k2' hrd HR'
      have hcc : (c == c) = true := by simp
      go_wp2_with fail
      refine (awake_any _).mono ?_
      rintro e w4 ⟨rfl, k4⟩
      have k4' := hid (k3'.out.trans' k4)
      have HS := samepile_any _ _ ps qs w4 (hrd2.out.kept k4) (hrd3.out.kept k4)
      rw [decide_eq_true (hps.trans hqs.symm)] at HS
      replace HS := hid HS
      clear k4 k3' hrd2 hrd3 hps hqs
      go_wp2_with fail
      refine HS.out.mono ?_
      rintro e w5 ⟨rfl, k5⟩
      have k5' := hid (k4'.out.trans' k5.kept)
      clear k5 HS k4'
      go_wp2
      go_ret
      exact ⟨rfl, k5'.out⟩
    | false =>
      obtain ⟨hm0, hm1⟩ := modI_lt n 7 (by decide)
      have HMo := hid (mod_any n 7 · (by decide) (by decide))
      generalize modI n 7 = m at HMo hm0 hm1
      have hw1 : IntKind.i64.wrap (1 + m) = 1 + m := IntWalk.i64_in _ (by omega)
      go_enter Try.func3, Try.ntmps3
      go_wp2_with fail
      refine HF.out.mono ?_
      rintro e w1 ⟨rfl, k1⟩
      replace k1 := hid k1.kept
      have hr1 := hid (hr.out.kept k1.out)
      clear HF hr
      go_wp2_with fail
      refine (HMo.out w1).mono ?_
      rintro e w2 ⟨rfl, rfl⟩
      have HB := hid (ballots_any (1 + m) v bs 60 w2 (by omega) (by omega) (by decide) hr1.out)
      clear HMo
      go_wp2_with fail
      refine HB.out.mono ?_
      rintro e w6 ⟨v6, cs, rfl, _, hO⟩
      have k6 := hid (k1.out.trans' hO.kept)
      have hr6 := hid hO.rd
      clear hO HB k1 hr1
      have HM := hid (make_any (1 + m) v6 cs w6 hr6.out)
      have HR := hid (fun W' (k : Kept no w6 W') => refmake_any (1 + m) v6 cs W' ((hr6.out).kept k))
      generalize mk (1 + m) (lists cs) = r at HM HR
      obtain ⟨gs, c⟩ := r
      simp only at HM HR
      have kW := hid (k6.out)
      go_wp2_with fail
      refine HM.out.mono ?_
      rintro e w2 ⟨v2, rfl, ps, hps, hrd, k2⟩
      have HR' := hid (HR.out w2 k2)
      have k2' := hid (kW.out.trans' k2)
      replace hrd := hid hrd
      clear k2 HR HM kW
      go_wp2_with fail
      refine HR'.out.mono ?_
      rintro e w3 ⟨v3, rfl, qs, hqs, hrd3, k3⟩
      have k3' := hid (k2'.out.trans' k3)
      have hrd2 := hid (hrd.out.kept k3)
      replace hrd3 := hid hrd3
      clear k3 k2' hrd HR'
      have hcc : (c == c) = true := by simp
      go_wp2_with fail
      refine (awake_any _).mono ?_
      rintro e w4 ⟨rfl, k4⟩
      have k4' := hid (k3'.out.trans' k4)
      have HS := samepile_any _ _ ps qs w4 (hrd2.out.kept k4) (hrd3.out.kept k4)
      rw [decide_eq_true (hps.trans hqs.symm)] at HS
      replace HS := hid HS
      clear k4 k3' hrd2 hrd3 hps hqs
      go_wp2_with fail
      refine HS.out.mono ?_
      rintro e w5 ⟨rfl, k5⟩
      have k5' := hid (k4'.out.trans' k5.kept)
      clear k5 HS k4'
      go_wp2
      go_ret
      exact ⟨rfl, k5'.out⟩
end Go.Proofs.Ytmigdhbolbhbeaa

