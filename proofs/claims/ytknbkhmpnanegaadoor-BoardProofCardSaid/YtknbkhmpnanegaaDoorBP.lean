/- electionlaw23.BoardProof: every proof is accepted (printed by gen_bp.py). -/
import Derived.Test.YtknbkhmpnanegaaDoorBR
namespace Go.Proofs.YtknbkhmpnanegaaDoor
open Go.RowKit Go.Mk Go.Sha Go.Brd
theorem inc_true (qs : List (Ent × Value)) (j : Nat) (hj : j < qs.length) : incI (rootD (ents qs)) (qs.length : Int) (j : Int) (qs[j]'hj).1 (proveD (ents qs) j) = true := by
  have h := climb_prove (qs[j]'hj).1 (ents qs) j (by simp [ents, hj])
  rw [ents_length] at h
  unfold incI
  rw [if_pos (by omega)]
  unfold includedD
  rw [Int.toNat_natCast, Int.toNat_natCast, h]
  simp
theorem ext_true (qs : List (Ent × Value)) (m : Nat) (h1 : 1 ≤ m) (h2 : m ≤ qs.length) : extI (rootD ((ents qs).take m)) (rootD (ents qs)) (m : Int) (qs.length : Int) (extendD (ents qs) m true) = true := by
  have h := rebuild_extend (rootD ((ents qs).take m)) (ents qs) m true h1 (by rw [ents_length]; exact h2) (fun _ => rfl)
  rw [ents_length] at h
  unfold extI
  rw [if_pos (by omega)]
  unfold extendedD
  rw [Int.toNat_natCast, Int.toNat_natCast, h]
  simp
theorem extendZ_eq (es : List Ent) (m : Nat) (h1 : 1 ≤ m) (h2 : m ≤ es.length) : extendZ es (m : Int) = extendD es m true := by
  unfold extendZ
  rw [if_pos (by omega), Int.toNat_natCast]
def PRd {Sl : Nat → Nat → Prop} (ds : List (List UInt8)) : Pr Sl := soft (fun v w => RdD w v ds) fun _ _ _ h k => h.kept k
def Facts (w1 : World) (al : Option Addr) (q cl : Nat) (R : List UInt8) (j : Nat) : Prop :=
  ∃ (b o : Nat) (e : Ent) (vb : Value) (P X : List (List UInt8)) (O : List UInt8), al = some ⟨b, o, none⟩ ∧ w1.rangeAt b (o + j * 35) (entC e vb) ∧ OkE w1 e vb ∧
    (∀ W, Kept no w1 W → Calls Tryd.prog 41 #[.slice al q cl, .int .i64 (j : Int)] W fun ed w' => ∃ v', ed = .returned v' ∧ RdD w' v' P ∧ Kept no W w') ∧
    (∀ W, Kept no w1 W → Calls Tryd.prog 42 #[.slice al q cl, .int .i64 ((j + 1 : Nat) : Int)] W fun ed w' => ∃ v', ed = .returned v' ∧ RdD w' v' X ∧ Kept no W w') ∧
    (∀ W, Kept no w1 W → Calls Tryd.prog 40 #[.slice al (j + 1) cl] W fun ed w' => ed = .returned (Dg O) ∧ Kept no W w') ∧
    (∀ W v', Kept no w1 W → RdD W v' P → Calls Tryd.prog 37 #[Dg R, .int .i64 (q : Int), .int .i64 (j : Int), Ev e vb, v'] W fun ed w' => ed = .returned (.bool true) ∧ Kept no W w') ∧
    (∀ W v', Kept no w1 W → RdD W v' X → Calls Tryd.prog 46 #[Dg O, Dg R, .int .i64 ((j + 1 : Nat) : Int), .int .i64 (q : Int), v'] W fun ed w' => ed = .returned (.bool true) ∧ Kept no W w')
theorem proof_facts (w1 : World) (al : Option Addr) (cl : Nat) (qs : List (Ent × Value)) (h12 : qs.length ≤ 12) (hr : RdE w1 (.slice al qs.length cl) qs) (hT : Tab w1) (j : Nat) (hj : j < qs.length) : Facts w1 al qs.length cl (rootD (ents qs)) j := by
  obtain ⟨b, o, e, h⟩ := hr.at j hj
  have hok := hr.1 (qs[j]'hj) (List.getElem_mem hj)
  have hpc := proveD_count (ents qs) j
  have hxc := extendD_count (ents qs) (j + 1) true
  rw [ents_length] at hpc hxc
  refine ⟨b, o, (qs[j]'hj).1, (qs[j]'hj).2, proveD (ents qs) j, extendD (ents qs) (j + 1) true, rootD ((ents qs).take (j + 1)), e, h, hok, fun W k => ?_, fun W k => ?_, fun W k => ?_, fun W v' k hp => ?_, fun W v' k hx => ?_⟩
  · refine (prove_any qs j _ W hj (by omega) (hr.kept k) (hT.kept k)).mono ?_
    rintro ed w' ⟨v', rfl, ho, hk, _⟩
    exact ⟨v', rfl, own_RdD ho (proveD_len _ _), hk⟩
  · have := extend_z qs ((j + 1 : Nat) : Int) _ W (by omega) (hr.kept k) (hT.kept k)
    rw [extendZ_eq (ents qs) (j + 1) (by omega) (by rw [ents_length]; omega)] at this
    exact this
  · have := root_any (qs.take (j + 1)) (.slice al (j + 1) cl) W (by rw [List.length_take]; omega) ((hr.take (j + 1) (by omega)).kept k) (hT.kept k)
    rw [← ents_take] at this
    exact this
  · have := included_any (rootD (ents qs)) (qs.length : Int) (j : Int) (qs[j]'hj).1 (qs[j]'hj).2 v' (proveD (ents qs) j) W (rootD_length _) (by omega) (hok.kept k) (by omega) hp (hT.kept k)
    rw [inc_true qs j hj] at this
    exact this
  · have := extended_any (rootD ((ents qs).take (j + 1))) (rootD (ents qs)) ((j + 1 : Nat) : Int) (qs.length : Int) v' (extendD (ents qs) (j + 1) true) W (rootD_length _) (rootD_length _) (by omega) (by omega) hx (hT.kept k)
    rw [ext_true qs (j + 1) (by omega) (by omega)] at this
    exact this
set_option maxRecDepth 100000 in
set_option maxHeartbeats 4000000 in
theorem boardproof_any (v : Value) (ns : List (Int × List UInt8 × Value)) (w : World) (hn : ns.length ≤ 9223372036854775807) (hr : RdN w v ns) (hT : Tab w) (hTR : TabR w) :
    Calls Tryd.prog 12 #[v] w fun ed w' => ed = .returned (.bool true) ∧ Kept no w w' := by
  have HM := hid (make_any v ns w hn hr hTR)
  replace hT := hid hT
  clear hr hTR
  go_enter Tryd.func12, Tryd.ntmps12
  go_wp2_with fail
  refine HM.out.mono ?_
  rintro ed w1 ⟨v1, qs, rfl, hM, k1, _⟩
  clear HM
  have h12 := hM.1
  obtain ⟨al, cl, rfl, hcl⟩ := hM.rd.shape
  obtain ⟨q, hq⟩ : ∃ q, qs.length = q := ⟨_, rfl⟩
  have HR := hid (fun W (k : Kept no w1 W) => root_any qs (.slice al qs.length cl) W (by omega) (hM.rd.kept k) (hT.out.kept (k1.trans' k)))
  have HF := hid (fun j (hj : j < qs.length) => proof_facts w1 al cl qs h12 hM.rd (hT.out.kept k1) j hj)
  have HA := hid (fun W (k : Kept no w1 W) => awake23_any W (hT.out.kept (k1.trans' k)))
  generalize rootD (ents qs) = R at HR HF
  rw [hq] at HR HF h12 hcl ⊢
  replace k1 := hid k1
  clear hM hq
  go_wp2_with fail
  go_loopw [5, 12] (fun _ i wr => ∃ k : Nat, k ≤ q ∧ i = .int .i64 (k : Int) ∧ Hd (Kept no w1 wr)) (fun _ i _ => q - (intOf i).toNat)
  case atStart => exact ⟨0, by omega, rfl, ⟨Kept.refl _ _⟩⟩
  case round =>
    obtain ⟨k, hk, rfl, hK⟩ := hrel
    by_cases hlt : k < q
    · obtain ⟨b, o, e, vb, P, X, O, rfl, hrg, hok, HP, HX, HT, HI, HE⟩ := HF.out k hlt
      replace hrg := hid hrg
      replace hok := hid hok
      replace HP := hid HP
      replace HX := hid HX
      replace HT := hid HT
      replace HI := hid HI
      replace HE := hid HE
      have hk1 : (k : Int) < (q : Int) := by omega
      have hk0 : (0 : Int) ≤ (k : Int) := by omega
      obtain ⟨m, hm⟩ : ∃ m, k + 1 = m := ⟨_, rfl⟩
      have hkw : IntKind.i64.wrap ((k : Int) + 1) = (m : Int) := by rw [IntWalk.i64_in _ (by omega)]; omega
      rw [hm] at HX HT HE
      have hm0 : (0 : Int) ≤ (m : Int) := by omega
      have hm1 : (m : Int) ≤ (cl : Int) := by omega
      go_upto_region 6 with fail
      refine region_flow (S := no) (Sl := (fun _ => no)) [Is (.slice (some ⟨b, o, none⟩) q cl), Is (Dg R), Is (.int .i64 (q : Int)), Is (.int .i64 (k : Int)), Is (.slice (some ⟨b, o, none⟩) q cl), Is (.int .i64 (k : Int)), Is (.pointer (some ⟨b, o + k * 35, none⟩)), Is (Ev e vb), Is (.slice (some ⟨b, o, none⟩) q cl), Is (.int .i64 (k : Int)), PRd P, Is (.bool true), Is (.bool false)] [] (fun _ _ h => h) _ (by kernel_rfl) (by kernel_rfl) (by kernel_rfl) (by kernel_rfl) (fun x => by simp only [puts, Act.put, List.map_cons, List.map_nil, Nat.zero_add, Nat.reduceAdd, List.setIfInBounds_toArray, List.set_cons_zero, List.set_cons_succ]; exact rfl) ?_ ?_
      · skip
        refine Steps.cons (fun x wf Kk hq hdep hold => ?_) ?_
        · try dsimp only
          clear hq hdep hold
          rw [if_pos (by rfl)]
          refine OpY.val (v := (.slice (some ⟨b, o, none⟩) q cl)) ?_ ⟨Kept.refl _ _, rfl⟩
          first | rfl | go_simp
        refine Steps.cons (fun x wf Kk hq hdep hold => ?_) ?_
        · try dsimp only
          have h0 : x 0 = (.slice (some ⟨b, o, none⟩) q cl) := hdep 0 (by kernel_rfl)
          clear hq hdep hold
          simp only [h0]
          clear h0
          rw [if_pos (by rfl)]
          refine OpY.call (f := 40) (args := #[(.slice (some ⟨b, o, none⟩) q cl)]) (by go_simp) ?_
          refine (HR.out wf (hK.out.trans' Kk.undrew)).mono ?_
          rintro e w2 ⟨rfl, k2⟩
          exact ⟨_, rfl, k2, rfl⟩
        refine Steps.cons (fun x wf Kk hq hdep hold => ?_) ?_
        · try dsimp only
          clear hq hdep hold
          rw [if_pos (by rfl)]
          refine OpY.val (v := (.int .i64 (q : Int))) ?_ ⟨Kept.refl _ _, rfl⟩
          first | rfl | go_simp
        refine Steps.cons (fun x wf Kk hq hdep hold => ?_) ?_
        · try dsimp only
          clear hq hdep hold
          rw [if_pos (by rfl)]
          refine OpY.val (v := (.int .i64 (k : Int))) ?_ ⟨Kept.refl _ _, rfl⟩
          first | rfl | go_simp
        refine Steps.cons (fun x wf Kk hq hdep hold => ?_) ?_
        · try dsimp only
          clear hq hdep hold
          rw [if_pos (by rfl)]
          refine OpY.val (v := (.slice (some ⟨b, o, none⟩) q cl)) ?_ ⟨Kept.refl _ _, rfl⟩
          first | rfl | go_simp
        refine Steps.cons (fun x wf Kk hq hdep hold => ?_) ?_
        · try dsimp only
          clear hq hdep hold
          rw [if_pos (by rfl)]
          refine OpY.val (v := (.int .i64 (k : Int))) ?_ ⟨Kept.refl _ _, rfl⟩
          first | rfl | go_simp
        refine Steps.cons (fun x wf Kk hq hdep hold => ?_) ?_
        · try dsimp only
          have h4 : x 4 = (.slice (some ⟨b, o, none⟩) q cl) := hdep 4 (by kernel_rfl)
          have h5 : x 5 = (.int .i64 (k : Int)) := hdep 5 (by kernel_rfl)
          clear hq hdep hold
          simp only [h4, h5]
          clear h4 h5
          rw [if_pos (by rfl)]
          refine OpY.val (v := (.pointer (some ⟨b, o + k * 35, none⟩))) ?_ ⟨Kept.refl _ _, rfl⟩
          first | rfl | go_simp
        refine Steps.cons (fun x wf Kk hq hdep hold => ?_) ?_
        · try dsimp only
          have h6 : x 6 = (.pointer (some ⟨b, o + k * 35, none⟩)) := hdep 6 (by kernel_rfl)
          clear hq hdep hold
          simp only [h6]
          clear h6
          rw [if_pos (by rfl)]
          exact OpY.row 47 (.tmp 21) rfl b (o + k * 35) rfl (entC e vb) _ ((hK.out.trans' Kk.undrew).rng hrg.out) Tryd.underlying47 rfl (infEl hok.out) ⟨Kept.refl _ _, rfl⟩
        refine Steps.cons (fun x wf Kk hq hdep hold => ?_) ?_
        · try dsimp only
          clear hq hdep hold
          rw [if_pos (by rfl)]
          refine OpY.val (v := (.slice (some ⟨b, o, none⟩) q cl)) ?_ ⟨Kept.refl _ _, rfl⟩
          first | rfl | go_simp
        refine Steps.cons (fun x wf Kk hq hdep hold => ?_) ?_
        · try dsimp only
          clear hq hdep hold
          rw [if_pos (by rfl)]
          refine OpY.val (v := (.int .i64 (k : Int))) ?_ ⟨Kept.refl _ _, rfl⟩
          first | rfl | go_simp
        refine Steps.cons (fun x wf Kk hq hdep hold => ?_) ?_
        · try dsimp only
          have h8 : x 8 = (.slice (some ⟨b, o, none⟩) q cl) := hdep 8 (by kernel_rfl)
          have h9 : x 9 = (.int .i64 (k : Int)) := hdep 9 (by kernel_rfl)
          clear hq hdep hold
          simp only [h8, h9]
          clear h8 h9
          rw [if_pos (by rfl)]
          refine OpY.call (f := 41) (args := #[(.slice (some ⟨b, o, none⟩) q cl), (.int .i64 (k : Int))]) (by go_simp) ?_
          refine (HP.out wf (hK.out.trans' Kk.undrew)).mono ?_
          rintro ed w7 ⟨v7, rfl, h7, k7⟩
          exact ⟨_, rfl, k7, h7⟩
        refine Steps.cons (fun x wf Kk hq hdep hold => ?_) ?_
        · try dsimp only
          have h1 : x 1 = (Dg R) := hdep 1 (by kernel_rfl)
          have h2 : x 2 = (.int .i64 (q : Int)) := hdep 2 (by kernel_rfl)
          have h3 : x 3 = (.int .i64 (k : Int)) := hdep 3 (by kernel_rfl)
          have h7 : x 7 = (Ev e vb) := hdep 7 (by kernel_rfl)
          have p10 : Pr.p (Sl := (fun _ => no)) (PRd P) (x 10) wf := hdep 10 (by kernel_rfl)
          clear hq hdep hold
          simp only [h1, h2, h3, h7]
          clear h1 h2 h3 h7
          rw [if_pos (by rfl)]
          refine OpY.call (f := 37) (args := #[(Dg R), (.int .i64 (q : Int)), (.int .i64 (k : Int)), (Ev e vb), x 10]) (by go_simp) ?_
          refine (HI.out wf (x 10) (hK.out.trans' Kk.undrew) (show RdD wf (x 10) P from p10)).mono ?_
          rintro e w2 ⟨rfl, k2⟩
          exact ⟨_, rfl, k2, rfl⟩
        refine Steps.cons (fun x wf Kk hq hdep hold => ?_) ?_
        · try dsimp only
          have h11 : x 11 = (.bool true) := hdep 11 (by kernel_rfl)
          clear hq hdep hold
          simp only [h11]
          clear h11
          rw [if_pos (by rfl)]
          refine OpY.val (v := (.bool false)) ?_ ⟨Kept.refl _ _, rfl⟩
          first | rfl | go_simp
        exact Steps.nil _
      · intro x wf Kk hv
        try dsimp only
        have h0 : x 0 = (.slice (some ⟨b, o, none⟩) q cl) := hv 0 (by kernel_rfl)
        have h1 : x 1 = (Dg R) := hv 1 (by kernel_rfl)
        have h2 : x 2 = (.int .i64 (q : Int)) := hv 2 (by kernel_rfl)
        have h3 : x 3 = (.int .i64 (k : Int)) := hv 3 (by kernel_rfl)
        have h4 : x 4 = (.slice (some ⟨b, o, none⟩) q cl) := hv 4 (by kernel_rfl)
        have h5 : x 5 = (.int .i64 (k : Int)) := hv 5 (by kernel_rfl)
        have h6 : x 6 = (.pointer (some ⟨b, o + k * 35, none⟩)) := hv 6 (by kernel_rfl)
        have h7 : x 7 = (Ev e vb) := hv 7 (by kernel_rfl)
        have h8 : x 8 = (.slice (some ⟨b, o, none⟩) q cl) := hv 8 (by kernel_rfl)
        have h9 : x 9 = (.int .i64 (k : Int)) := hv 9 (by kernel_rfl)
        have h11 : x 11 = (.bool true) := hv 11 (by kernel_rfl)
        have h12 : x 12 = (.bool false) := hv 12 (by kernel_rfl)
        clear hv
        simp only [h0, h1, h2, h3, h4, h5, h6, h7, h8, h9, h11, h12]
        clear h0 h1 h2 h3 h4 h5 h6 h7 h8 h9 h11 h12
        have K2 := hid (hK.out.trans' Kk.undrew)
        clear Kk hK hrg
        go_wp2_with fail
        refine (HT.out _ K2.out).mono ?_
        rintro ed w3 ⟨rfl, k3⟩
        have K3 := hid (K2.out.trans' k3)
        clear k3 K2
        go_wp2_with fail
        refine (HR.out _ K3.out).mono ?_
        rintro ed w4 ⟨rfl, k4⟩
        have K4 := hid (K3.out.trans' k4)
        clear k4 K3
        go_wp2_with fail
        refine (HX.out _ K4.out).mono ?_
        rintro ed w5 ⟨v5, rfl, hx5, k5⟩
        have K5 := hid (K4.out.trans' k5)
        replace hx5 := hid hx5
        clear k5 K4
        go_wp2_with fail
        refine (HE.out _ _ K5.out hx5.out).mono ?_
        rintro ed w6 ⟨rfl, k6⟩
        have K6 := hid (K5.out.trans' k6)
        clear k6 K5 hx5
        go_wp2_with fail
        go_roundw
        case rel => first | exact ⟨m, by omega, by go_num, K6⟩ | ((repeat apply Exists.intro); exact ⟨⟨m, by omega, by go_num, K6⟩, rfl⟩)
        case measure => simp [intOf]; omega
    · obtain rfl : k = q := by omega
      clear hlt hk
      go_wp2_with fail
      refine (HA.out _ hK.out).mono ?_
      rintro ed w8 ⟨rfl, k8⟩
      have K8 := hid ((k1.out.trans' hK.out).trans' k8)
      clear k8
      go_wp2_with fail
      go_ret
      exact ⟨rfl, K8.out⟩
end Go.Proofs.YtknbkhmpnanegaaDoor
