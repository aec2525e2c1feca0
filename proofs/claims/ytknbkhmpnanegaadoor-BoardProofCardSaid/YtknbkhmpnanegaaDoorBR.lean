/- Digests, Extend, Prove at any number, BoardRoot (printed by gen_br.py). -/
import Derived.Test.YtknbkhmpnanegaaDoorBM
namespace Go.Proofs.YtknbkhmpnanegaaDoor
open Go.RowKit Go.Mk Go.Sha Go.Brd
theorem RdD.at' {w : World} {ao : Option Addr} {n cap : Nat} {ds : List (List UInt8)} (h : RdD w (.slice ao n cap) ds) (k : Nat) (hk : k < ds.length) : ∃ b o, ao = some ⟨b, o, none⟩ ∧ w.rangeAt b (o + k * 32) (ds[k].map B) := by
  obtain ⟨b, o, e, hr⟩ := Rd.row (f := fun d : List UInt8 => d.map B) (sz := 32) (fun d hd => by rw [List.length_map]; exact h.1 d hd) h.2 k hk
  exact ⟨b, o, e, hr⟩
theorem RdD.nil (w : World) : RdD w (.slice none 0 0) [] := ⟨fun _ h => absurd h (List.not_mem_nil), nil_rd w 32⟩
set_option maxRecDepth 100000 in
set_option maxHeartbeats 2000000 in
theorem digs_any (v1 v2 : Value) (ds : List (List UInt8)) (w : World) (hn : ds.length ≤ 1000) (h1 : RdD w v1 ds) (h2 : RdD w v2 ds) :
    Calls Tryd.prog 43 #[v1, v2] w fun ed w' => ed = .returned (.bool true) ∧ Kept no w w' := by
  obtain ⟨a1, c1, rfl⟩ := Rd.shapeZ h1.2
  obtain ⟨a2, c2, rfl⟩ := Rd.shapeZ h2.2
  obtain ⟨n, hn'⟩ : ∃ n, ds.length = n := ⟨_, rfl⟩
  rw [hn'] at h1 h2 hn ⊢
  replace h1 := hid h1
  replace h2 := hid h2
  replace hn' := hid hn'
  have hgd := guard_digest
  go_enter Tryd.func43, Tryd.ntmps43
  go_wp2_with fail
  go_loopw [5, 13] (fun _ i wr => ∃ k : Nat, k ≤ n ∧ i = .int .i64 (k : Int) ∧ Hd (Kept no w wr)) (fun _ i _ => n - (intOf i).toNat)
  case atStart => exact ⟨0, by omega, rfl, ⟨Kept.refl _ _⟩⟩
  case round =>
    obtain ⟨k, hk, rfl, hK⟩ := hrel
    by_cases hlt : k < n
    · obtain ⟨b1, o1, rfl, r1⟩ := (h1.out.kept hK.out).at' k (by rw [hn'.out]; exact hlt)
      obtain ⟨b2, o2, rfl, r2⟩ := (h2.out.kept hK.out).at' k (by rw [hn'.out]; exact hlt)
      have hD := hid (h1.out.1 (ds[k]'(by rw [hn'.out]; exact hlt)) (List.getElem_mem _))
      generalize (ds[k]'(by rw [hn'.out]; exact hlt)) = D at r1 r2 hD
      replace r1 := hid r1
      replace r2 := hid r2
      have hk1 : (k : Int) < (n : Int) := by omega
      have hk0 : (0 : Int) ≤ (k : Int) := by omega
      have heq := neqDg D D hD.out hD.out false (by simp)
      go_upto_region 6 with fail
      refine region_flow (S := no) (Sl := (fun _ => no)) [Is (.slice (some ⟨b1, o1, none⟩) n c1), Is (.int .i64 (k : Int)), Is (.pointer (some ⟨b1, o1 + k * 32, none⟩)), Is (Dg D), Is (.slice (some ⟨b2, o2, none⟩) n c2), Is (.int .i64 (k : Int)), Is (.pointer (some ⟨b2, o2 + k * 32, none⟩)), Is (Dg D), Is (.bool false)] [] (fun _ _ h => h) _ (by kernel_rfl) (by kernel_rfl) (by kernel_rfl) (by kernel_rfl) (fun x => by simp only [puts, Act.put, List.map_cons, List.map_nil, Nat.zero_add, Nat.reduceAdd, List.setIfInBounds_toArray, List.set_cons_zero, List.set_cons_succ]; exact rfl) ?_ ?_
      · skip
        refine Steps.cons (fun x wf Kk hq hdep hold => ?_) ?_
        · try dsimp only
          clear hq hdep hold
          rw [if_pos (by rfl)]
          refine OpY.val (v := (.slice (some ⟨b1, o1, none⟩) n c1)) ?_ ⟨Kept.refl _ _, rfl⟩
          first | rfl | go_simp
        refine Steps.cons (fun x wf Kk hq hdep hold => ?_) ?_
        · try dsimp only
          clear hq hdep hold
          rw [if_pos (by rfl)]
          refine OpY.val (v := (.int .i64 (k : Int))) ?_ ⟨Kept.refl _ _, rfl⟩
          first | rfl | go_simp
        refine Steps.cons (fun x wf Kk hq hdep hold => ?_) ?_
        · try dsimp only
          have h0 : x 0 = (.slice (some ⟨b1, o1, none⟩) n c1) := hdep 0 (by kernel_rfl)
          have h1 : x 1 = (.int .i64 (k : Int)) := hdep 1 (by kernel_rfl)
          clear hq hdep hold
          simp only [h0, h1]
          clear h0 h1
          rw [if_pos (by rfl)]
          refine OpY.val (v := (.pointer (some ⟨b1, o1 + k * 32, none⟩))) ?_ ⟨Kept.refl _ _, rfl⟩
          first | rfl | go_simp
        refine Steps.cons (fun x wf Kk hq hdep hold => ?_) ?_
        · try dsimp only
          have h2 : x 2 = (.pointer (some ⟨b1, o1 + k * 32, none⟩)) := hdep 2 (by kernel_rfl)
          clear hq hdep hold
          simp only [h2]
          clear h2
          rw [if_pos (by rfl)]
          exact OpY.row 26 (.tmp 18) rfl b1 (o1 + k * 32) rfl (D.map B) _ (Kk.undrew.rng r1.out) Tryd.underlying26 rfl (infDl hD.out) ⟨Kept.refl _ _, rfl⟩
        refine Steps.cons (fun x wf Kk hq hdep hold => ?_) ?_
        · try dsimp only
          clear hq hdep hold
          rw [if_pos (by rfl)]
          refine OpY.val (v := (.slice (some ⟨b2, o2, none⟩) n c2)) ?_ ⟨Kept.refl _ _, rfl⟩
          first | rfl | go_simp
        refine Steps.cons (fun x wf Kk hq hdep hold => ?_) ?_
        · try dsimp only
          clear hq hdep hold
          rw [if_pos (by rfl)]
          refine OpY.val (v := (.int .i64 (k : Int))) ?_ ⟨Kept.refl _ _, rfl⟩
          first | rfl | go_simp
        refine Steps.cons (fun x wf Kk hq hdep hold => ?_) ?_
        · try dsimp only
          have h4 : x 4 = (.slice (some ⟨b2, o2, none⟩) n c2) := hdep 4 (by kernel_rfl)
          have h5 : x 5 = (.int .i64 (k : Int)) := hdep 5 (by kernel_rfl)
          clear hq hdep hold
          simp only [h4, h5]
          clear h4 h5
          rw [if_pos (by rfl)]
          refine OpY.val (v := (.pointer (some ⟨b2, o2 + k * 32, none⟩))) ?_ ⟨Kept.refl _ _, rfl⟩
          first | rfl | go_simp
        refine Steps.cons (fun x wf Kk hq hdep hold => ?_) ?_
        · try dsimp only
          have h6 : x 6 = (.pointer (some ⟨b2, o2 + k * 32, none⟩)) := hdep 6 (by kernel_rfl)
          clear hq hdep hold
          simp only [h6]
          clear h6
          rw [if_pos (by rfl)]
          exact OpY.row 26 (.tmp 22) rfl b2 (o2 + k * 32) rfl (D.map B) _ (Kk.undrew.rng r2.out) Tryd.underlying26 rfl (infDl hD.out) ⟨Kept.refl _ _, rfl⟩
        refine Steps.cons (fun x wf Kk hq hdep hold => ?_) ?_
        · try dsimp only
          have h3 : x 3 = (Dg D) := hdep 3 (by kernel_rfl)
          have h7 : x 7 = (Dg D) := hdep 7 (by kernel_rfl)
          clear hq hdep hold
          simp only [h3, h7]
          clear h3 h7
          rw [if_pos (by rfl)]
          refine OpY.val (v := (.bool false)) ?_ ⟨Kept.refl _ _, rfl⟩
          have heq' := heq
          unfold Dg at heq' ⊢
          generalize D.map B = LL at heq' ⊢
          clear heq
          go_simp
        exact Steps.nil _
      · intro x wf Kk hv
        try dsimp only
        have h0 : x 0 = (.slice (some ⟨b1, o1, none⟩) n c1) := hv 0 (by kernel_rfl)
        have h1 : x 1 = (.int .i64 (k : Int)) := hv 1 (by kernel_rfl)
        have h2 : x 2 = (.pointer (some ⟨b1, o1 + k * 32, none⟩)) := hv 2 (by kernel_rfl)
        have h3 : x 3 = (Dg D) := hv 3 (by kernel_rfl)
        have h4 : x 4 = (.slice (some ⟨b2, o2, none⟩) n c2) := hv 4 (by kernel_rfl)
        have h5 : x 5 = (.int .i64 (k : Int)) := hv 5 (by kernel_rfl)
        have h6 : x 6 = (.pointer (some ⟨b2, o2 + k * 32, none⟩)) := hv 6 (by kernel_rfl)
        have h7 : x 7 = (Dg D) := hv 7 (by kernel_rfl)
        have h8 : x 8 = (.bool false) := hv 8 (by kernel_rfl)
        clear hv
        simp only [h0, h1, h2, h3, h4, h5, h6, h7, h8]
        clear h0 h1 h2 h3 h4 h5 h6 h7 h8
        have K2 := hid (hK.out.trans' Kk.undrew)
        clear Kk hK r1 r2 heq
        go_wp2_with fail
        go_roundw
        case rel => first | exact ⟨k + 1, by omega, by go_num, K2⟩ | ((repeat apply Exists.intro); exact ⟨⟨k + 1, by omega, by go_num, K2⟩, rfl⟩)
        case measure => simp [intOf]; omega
    · obtain rfl : k = n := by omega
      clear hlt hk
      go_wp2_with fail
      go_ret
      exact ⟨rfl, hK.out⟩
def proveZ (es : List Ent) (i : Int) : List (List UInt8) := if 0 ≤ i ∧ i < (es.length : Int) then proveD es i.toNat else []
def extendZ (es : List Ent) (m : Int) : List (List UInt8) := if 1 ≤ m ∧ m ≤ (es.length : Int) then extendD es m.toNat true else []
set_option maxRecDepth 100000 in
set_option maxHeartbeats 2000000 in
theorem prove_z (ps : List (Ent × Value)) (i : Int) (v : Value) (w : World) (h63 : ps.length ≤ 63) (hr : RdE w v ps) (hT : Tab w) : Calls Tryd.prog 41 #[v, .int .i64 i] w fun ed w' => ∃ v', ed = .returned v' ∧ RdD w' v' (proveZ (ents ps) i) ∧ Kept no w w' := by
  by_cases h : 0 ≤ i ∧ i < (ps.length : Int)
  · obtain ⟨j, rfl⟩ : ∃ j : Nat, i = (j : Int) := ⟨i.toNat, by omega⟩
    refine (prove_any ps j v w (by omega) h63 hr hT).mono ?_
    rintro ed w' ⟨v', rfl, ho, hk, _⟩
    refine ⟨v', rfl, ?_, hk⟩
    unfold proveZ
    rw [if_pos (by rw [ents_length]; exact h)]
    exact own_RdD ho (proveD_len _ _)
  · have hv : Hd (proveZ (ents ps) i = []) := ⟨by unfold proveZ; rw [if_neg (by rw [ents_length]; exact h)]⟩
    obtain ⟨ao, cap, rfl, hcap⟩ := hr.shape
    clear hr hT
    generalize ps.length = n at h h63 hcap
    by_cases h0 : i < 0
    · clear h
      go_enter Tryd.func41, Tryd.ntmps41
      go_wp2_with fail
      go_ret
      exact ⟨_, rfl, by rw [hv.out]; exact RdD.nil _, Kept.refl _ _⟩
    · have h1 : (n : Int) ≤ i := by omega
      clear h
      go_enter Tryd.func41, Tryd.ntmps41
      go_wp2_with fail
      go_ret
      exact ⟨_, rfl, by rw [hv.out]; exact RdD.nil _, Kept.refl _ _⟩
set_option maxRecDepth 100000 in
set_option maxHeartbeats 2000000 in
theorem extend_z (ps : List (Ent × Value)) (m : Int) (v : Value) (w : World) (h63 : ps.length ≤ 63) (hr : RdE w v ps) (hT : Tab w) : Calls Tryd.prog 42 #[v, .int .i64 m] w fun ed w' => ∃ v', ed = .returned v' ∧ RdD w' v' (extendZ (ents ps) m) ∧ Kept no w w' := by
  obtain ⟨ao, cap, rfl, hcap⟩ := hr.shape
  obtain ⟨n, hn'⟩ : ∃ n, ps.length = n := ⟨_, rfl⟩
  by_cases h : 1 ≤ m ∧ m ≤ (ps.length : Int)
  · obtain ⟨j, rfl⟩ : ∃ j : Nat, m = (j : Int) := ⟨m.toNat, by omega⟩
    have hv : Hd (extendZ (ents ps) (j : Int) = extendD (ents ps) j true) := ⟨by unfold extendZ; rw [if_pos (by rw [ents_length]; exact h)]; rfl⟩
    have HX := hid (ext_any ps j true (.slice ao ps.length cap) w (by omega) (by omega) h63 hr hT)
    have hl := hid (extendD_len (ents ps) j true)
    rw [hn'] at HX h h63 hcap ⊢
    clear hr hT
    obtain ⟨h1, h2⟩ := h
    go_enter Tryd.func42, Tryd.ntmps42
    go_wp2_with fail
    refine HX.out.mono ?_
    rintro ed w2 ⟨v2, rfl, o2, k2, _⟩
    replace o2 := hid o2
    replace k2 := hid k2
    go_wp2_with fail
    go_ret
    exact ⟨_, rfl, by rw [hv.out]; exact own_RdD o2.out hl.out, k2.out⟩
  · have hv : Hd (extendZ (ents ps) m = []) := ⟨by unfold extendZ; rw [if_neg (by rw [ents_length]; exact h)]⟩
    rw [hn'] at h h63 hcap ⊢
    clear hr hT hn'
    by_cases h0 : m < 1
    · clear h
      go_enter Tryd.func42, Tryd.ntmps42
      go_wp2_with fail
      go_ret
      exact ⟨_, rfl, by rw [hv.out]; exact RdD.nil _, Kept.refl _ _⟩
    · have h1 : (n : Int) < m := by omega
      clear h
      go_enter Tryd.func42, Tryd.ntmps42
      go_wp2_with fail
      go_ret
      exact ⟨_, rfl, by rw [hv.out]; exact RdD.nil _, Kept.refl _ _⟩
set_option maxRecDepth 100000 in
set_option maxHeartbeats 2000000 in
theorem refextend_any (ps : List (Ent × Value)) (j : Nat) (v : Value) (w : World) (h1 : 1 ≤ j) (h2 : j ≤ ps.length) (h63 : ps.length ≤ 63) (hr : RdE w v ps) (hT : TabR w) : Calls Tryd.prog 44 #[v, .int .i64 (j : Int)] w fun ed w' => ∃ v', ed = .returned v' ∧ RdD w' v' (extendD (ents ps) j true) ∧ Kept no w w' := by
  have HX := hid (sub_any ps j true v w h1 h2 h63 hr hT)
  have hl := hid (extendD_len (ents ps) j true)
  clear hr hT
  go_enter Tryd.func44, Tryd.ntmps44
  go_wp2_with fail
  refine HX.out.mono ?_
  rintro ed w2 ⟨v2, rfl, o2, k2, _⟩
  replace o2 := hid o2
  replace k2 := hid k2
  go_wp2_with fail
  go_ret
  exact ⟨_, rfl, own_RdD o2.out hl.out, k2.out⟩
set_option maxRecDepth 100000 in
set_option maxHeartbeats 4000000 in
theorem boardroot_any (v : Value) (ns : List (Int × List UInt8 × Value)) (i : Int) (w : World) (hn : ns.length ≤ 9223372036854775807) (hr : RdN w v ns) (hT : Tab w) (hTR : TabR w) :
    Calls Tryd.prog 10 #[v, .int .i64 i] w fun ed w' => ed = .returned (.bool true) ∧ Kept no w w' := by
  have HM := hid (make_any v ns w hn hr hTR)
  replace hT := hid hT
  replace hTR := hid hTR
  clear hr
  go_enter Tryd.func10, Tryd.ntmps10
  go_wp2_with fail
  refine HM.out.mono ?_
  rintro ed w1 ⟨v1, qs, rfl, hM, k1, _⟩
  clear HM
  have h12 := hM.1
  obtain ⟨al, cl, rfl, _⟩ := hM.rd.shape
  obtain ⟨q, hq⟩ : ∃ q, qs.length = q := ⟨_, rfl⟩
  have HR1 := hid (fun W (k : Kept no w1 W) => root_any qs (.slice al qs.length cl) W (by omega) (hM.rd.kept k) (hT.out.kept (k1.trans' k)))
  have HR2 := hid (fun W (k : Kept no w1 W) => refroot_any qs (.slice al qs.length cl) W (by omega) (hM.rd.kept k) (hTR.out.kept (k1.trans' k)))
  have HP := hid (fun W (k : Kept no w1 W) => prove_z qs i (.slice al qs.length cl) W (by omega) (hM.rd.kept k) (hT.out.kept (k1.trans' k)))
  have HX := hid (fun W (k : Kept no w1 W) => extend_z qs i (.slice al qs.length cl) W (by omega) (hM.rd.kept k) (hT.out.kept (k1.trans' k)))
  have HRP := hid (fun W (k : Kept no w1 W) j (hj : j < qs.length) => refprove_any qs j (.slice al qs.length cl) W hj (by omega) (hM.rd.kept k) (hTR.out.kept (k1.trans' k)))
  have HRX := hid (fun W (k : Kept no w1 W) j (h1 : 1 ≤ j) (h2 : j ≤ qs.length) => refextend_any qs j (.slice al qs.length cl) W h1 h2 (by omega) (hM.rd.kept k) (hTR.out.kept (k1.trans' k)))
  have HA := hid (fun W (k : Kept no w1 W) => awake23_any W (hT.out.kept (k1.trans' k)))
  have hRl := hid (rootD_length (ents qs))
  have hPl := hid (fun j => proveD_len (ents qs) j)
  have hPc := hid (fun j => proveD_count (ents qs) j)
  have hXc := hid (fun j => extendD_count (ents qs) j true)
  have hel : Hd ((ents qs).length = q) := ⟨by rw [ents_length, hq]⟩
  rw [hq] at HR1 HR2 HP HX HRP HRX h12 ⊢
  generalize rootD (ents qs) = R at HR1 HR2 hRl
  have heq := neqDg R R hRl.out hRl.out false (by simp)
  have hgd := guard_digest
  unfold Dg at heq HR1 HR2
  replace k1 := hid k1
  clear hM hq
  have W0 : Hd (Kept no w1 w1) := ⟨Kept.refl _ _⟩
  go_wp2_with fail
  refine (HR1.out w1 W0.out).mono ?_
  rintro ed w2 ⟨rfl, k2⟩
  replace k2 := hid k2
  go_wp2_with fail
  refine (HR2.out w2 k2.out).mono ?_
  rintro ed w3 ⟨rfl, k3⟩
  have K3 := hid (k2.out.trans' k3)
  clear k2 k3
  generalize R.map B = LR at heq
  go_wp2_with fail
  refine (HP.out w3 K3.out).mono ?_
  rintro ed w4 ⟨v4, rfl, hp4, k4⟩
  have K4 := hid (K3.out.trans' k4)
  replace hp4 := hid hp4
  clear k4 K3
  go_wp2_with fail
  refine (HX.out w4 K4.out).mono ?_
  rintro ed w5 ⟨v5, rfl, hx5, k5⟩
  have K5 := hid (K4.out.trans' k5)
  have hp5 := hid (hp4.out.kept k5)
  replace hx5 := hid hx5
  clear k5 K4 hp4
  clear heq HR1 HR2 HP HX
  by_cases hA : i < 0
  · have e1 : i < 1 := by omega
    have hpz : proveZ (ents qs) i = [] := by unfold proveZ; rw [if_neg (by rw [hel.out]; omega)]
    rw [hpz] at hp5
    obtain ⟨ap, cp, rfl⟩ := Rd.shapeZ hp5.out.2
    simp only [List.length_nil] at hp5 ⊢
    have KZ := hid K5.out
    have KX : Hd (Kept no w5 w5) := ⟨Kept.refl _ _⟩
    clear hpz
    have hxz : extendZ (ents qs) i = [] := by unfold extendZ; rw [if_neg (by rw [hel.out]; omega)]
    rw [hxz] at hx5
    obtain ⟨ax, cx, rfl⟩ := Rd.shapeZ hx5.out.2
    simp only [List.length_nil] at hx5 ⊢
    go_wp2_with fail
    refine (HA.out _ KZ.out).mono ?_
    rintro ed w8 ⟨rfl, k8⟩
    have K8 := hid ((k1.out.trans' KZ.out).trans' k8)
    clear k8
    go_wp2_with fail
    go_ret
    exact ⟨rfl, K8.out⟩
  have hA' : 0 ≤ i := by omega
  by_cases hB : (q : Int) ≤ i
  · by_cases hC : i < 1
    · skip
      have hpz : proveZ (ents qs) i = [] := by unfold proveZ; rw [if_neg (by rw [hel.out]; omega)]
      rw [hpz] at hp5
      obtain ⟨ap, cp, rfl⟩ := Rd.shapeZ hp5.out.2
      simp only [List.length_nil] at hp5 ⊢
      have KZ := hid K5.out
      have KX : Hd (Kept no w5 w5) := ⟨Kept.refl _ _⟩
      clear hpz
      have hxz : extendZ (ents qs) i = [] := by unfold extendZ; rw [if_neg (by rw [hel.out]; omega)]
      rw [hxz] at hx5
      obtain ⟨ax, cx, rfl⟩ := Rd.shapeZ hx5.out.2
      simp only [List.length_nil] at hx5 ⊢
      go_wp2_with fail
      refine (HA.out _ KZ.out).mono ?_
      rintro ed w8 ⟨rfl, k8⟩
      have K8 := hid ((k1.out.trans' KZ.out).trans' k8)
      clear k8
      go_wp2_with fail
      go_ret
      exact ⟨rfl, K8.out⟩
    · have hC' : 1 ≤ i := by omega
      by_cases hD : (q : Int) < i
      · skip
        have hpz : proveZ (ents qs) i = [] := by unfold proveZ; rw [if_neg (by rw [hel.out]; omega)]
        rw [hpz] at hp5
        obtain ⟨ap, cp, rfl⟩ := Rd.shapeZ hp5.out.2
        simp only [List.length_nil] at hp5 ⊢
        have KZ := hid K5.out
        have KX : Hd (Kept no w5 w5) := ⟨Kept.refl _ _⟩
        clear hpz
        have hxz : extendZ (ents qs) i = [] := by unfold extendZ; rw [if_neg (by rw [hel.out]; omega)]
        rw [hxz] at hx5
        obtain ⟨ax, cx, rfl⟩ := Rd.shapeZ hx5.out.2
        simp only [List.length_nil] at hx5 ⊢
        go_wp2_with fail
        refine (HA.out _ KZ.out).mono ?_
        rintro ed w8 ⟨rfl, k8⟩
        have K8 := hid ((k1.out.trans' KZ.out).trans' k8)
        clear k8
        go_wp2_with fail
        go_ret
        exact ⟨rfl, K8.out⟩
      · have hD' : i ≤ (q : Int) := by omega
        have hpz : proveZ (ents qs) i = [] := by unfold proveZ; rw [if_neg (by rw [hel.out]; omega)]
        rw [hpz] at hp5
        obtain ⟨ap, cp, rfl⟩ := Rd.shapeZ hp5.out.2
        simp only [List.length_nil] at hp5 ⊢
        have KZ := hid K5.out
        have KX : Hd (Kept no w5 w5) := ⟨Kept.refl _ _⟩
        clear hpz
        have hxz : extendZ (ents qs) i = extendD (ents qs) i.toNat true := by unfold extendZ; rw [if_pos (by rw [hel.out]; omega)]
        rw [hxz] at hx5
        obtain ⟨j, hj⟩ : ∃ j : Nat, i = (j : Int) := ⟨i.toNat, by omega⟩
        have HRX1 := hid (fun W k => HRX.out W k j (by omega) (by omega))
        have hxl : Hd ((extendD (ents qs) j true).length ≤ 1000) := ⟨by have := hXc.out j; rw [hel.out] at this; omega⟩
        rw [show i.toNat = j by omega] at hx5
        rw [← hj] at HRX1
        clear hxz hj
        generalize extendD (ents qs) j true = X at hx5 HRX1 hxl
        go_wp2_with fail
        refine (HA.out _ KZ.out).mono ?_
        rintro ed w8 ⟨rfl, k8⟩
        have K8 := hid (KZ.out.trans' k8)
        have hx8 := hid (hx5.out.kept (KX.out.trans' k8))
        clear k8
        go_wp2_with fail
        refine (HRX1.out w8 K8.out).mono ?_
        rintro ed w9 ⟨v9, rfl, hx9, k9⟩
        have K9 := hid (K8.out.trans' k9)
        have hx8' := hid (hx8.out.kept k9)
        replace hx9 := hid hx9
        clear k9
        go_wp2_with fail
        refine (digs_any _ _ X w9 hxl.out hx8'.out hx9.out).mono ?_
        rintro ed w10 ⟨rfl, k10⟩
        have K10 := hid ((k1.out.trans' K9.out).trans' k10)
        clear k10
        go_wp2_with fail
        go_ret
        exact ⟨rfl, K10.out⟩
  · have hB' : i < (q : Int) := by omega
    by_cases hC : i < 1
    · skip
      have hpz : proveZ (ents qs) i = proveD (ents qs) i.toNat := by unfold proveZ; rw [if_pos (by rw [hel.out]; omega)]
      rw [hpz] at hp5
      obtain ⟨j, hj⟩ : ∃ j : Nat, i = (j : Int) := ⟨i.toNat, by omega⟩
      have HRP1 := hid (fun W k => HRP.out W k j (by omega))
      have hpl : Hd ((proveD (ents qs) j).length ≤ 1000) := ⟨by have := hPc.out j; rw [hel.out] at this; omega⟩
      have hpd : Hd (∀ d ∈ proveD (ents qs) j, d.length = 32) := ⟨hPl.out j⟩
      rw [show i.toNat = j by omega] at hp5
      rw [← hj] at HRP1
      clear hpz hj
      generalize proveD (ents qs) j = P at hp5 HRP1 hpl hpd
      go_wp2_with fail
      refine (HRP1.out w5 K5.out).mono ?_
      rintro ed w6 ⟨v6, rfl, o6, k6, _⟩
      have hp6 := hid (hp5.out.kept k6)
      have ho6 := hid (own_RdD o6 hpd.out)
      replace k6 := hid k6
      clear o6
      go_wp2_with fail
      refine (digs_any _ _ P w6 hpl.out hp6.out ho6.out).mono ?_
      rintro ed w7 ⟨rfl, k7⟩
      have KX := hid (k6.out.trans' k7)
      have KZ := hid (K5.out.trans' KX.out)
      clear k6 k7 hp5 hp6 ho6 HRP1
      have hxz : extendZ (ents qs) i = [] := by unfold extendZ; rw [if_neg (by rw [hel.out]; omega)]
      rw [hxz] at hx5
      obtain ⟨ax, cx, rfl⟩ := Rd.shapeZ hx5.out.2
      simp only [List.length_nil] at hx5 ⊢
      go_wp2_with fail
      refine (HA.out _ KZ.out).mono ?_
      rintro ed w8 ⟨rfl, k8⟩
      have K8 := hid ((k1.out.trans' KZ.out).trans' k8)
      clear k8
      go_wp2_with fail
      go_ret
      exact ⟨rfl, K8.out⟩
    · have hC' : 1 ≤ i := by omega
      have hD : ¬ (q : Int) < i := by omega
      have hD' : i ≤ (q : Int) := by omega
      have hpz : proveZ (ents qs) i = proveD (ents qs) i.toNat := by unfold proveZ; rw [if_pos (by rw [hel.out]; omega)]
      rw [hpz] at hp5
      obtain ⟨j, hj⟩ : ∃ j : Nat, i = (j : Int) := ⟨i.toNat, by omega⟩
      have HRP1 := hid (fun W k => HRP.out W k j (by omega))
      have hpl : Hd ((proveD (ents qs) j).length ≤ 1000) := ⟨by have := hPc.out j; rw [hel.out] at this; omega⟩
      have hpd : Hd (∀ d ∈ proveD (ents qs) j, d.length = 32) := ⟨hPl.out j⟩
      rw [show i.toNat = j by omega] at hp5
      rw [← hj] at HRP1
      clear hpz hj
      generalize proveD (ents qs) j = P at hp5 HRP1 hpl hpd
      go_wp2_with fail
      refine (HRP1.out w5 K5.out).mono ?_
      rintro ed w6 ⟨v6, rfl, o6, k6, _⟩
      have hp6 := hid (hp5.out.kept k6)
      have ho6 := hid (own_RdD o6 hpd.out)
      replace k6 := hid k6
      clear o6
      go_wp2_with fail
      refine (digs_any _ _ P w6 hpl.out hp6.out ho6.out).mono ?_
      rintro ed w7 ⟨rfl, k7⟩
      have KX := hid (k6.out.trans' k7)
      have KZ := hid (K5.out.trans' KX.out)
      clear k6 k7 hp5 hp6 ho6 HRP1
      have hxz : extendZ (ents qs) i = extendD (ents qs) i.toNat true := by unfold extendZ; rw [if_pos (by rw [hel.out]; omega)]
      rw [hxz] at hx5
      obtain ⟨j, hj⟩ : ∃ j : Nat, i = (j : Int) := ⟨i.toNat, by omega⟩
      have HRX1 := hid (fun W k => HRX.out W k j (by omega) (by omega))
      have hxl : Hd ((extendD (ents qs) j true).length ≤ 1000) := ⟨by have := hXc.out j; rw [hel.out] at this; omega⟩
      rw [show i.toNat = j by omega] at hx5
      rw [← hj] at HRX1
      clear hxz hj
      generalize extendD (ents qs) j true = X at hx5 HRX1 hxl
      go_wp2_with fail
      refine (HA.out _ KZ.out).mono ?_
      rintro ed w8 ⟨rfl, k8⟩
      have K8 := hid (KZ.out.trans' k8)
      have hx8 := hid (hx5.out.kept (KX.out.trans' k8))
      clear k8
      go_wp2_with fail
      refine (HRX1.out w8 K8.out).mono ?_
      rintro ed w9 ⟨v9, rfl, hx9, k9⟩
      have K9 := hid (K8.out.trans' k9)
      have hx8' := hid (hx8.out.kept k9)
      replace hx9 := hid hx9
      clear k9
      go_wp2_with fail
      refine (digs_any _ _ X w9 hxl.out hx8'.out hx9.out).mono ?_
      rintro ed w10 ⟨rfl, k10⟩
      have K10 := hid ((k1.out.trans' K9.out).trans' k10)
      clear k10
      go_wp2_with fail
      go_ret
      exact ⟨rfl, K10.out⟩
end Go.Proofs.YtknbkhmpnanegaaDoor
