/- electionref31.Tail (printed by gen_rtail.py). -/
import Derived.Test.YtkdmlakookgolaaGenZ
import Derived.Test.YtkdmlakookgolaaCntZ
namespace Go.Proofs.Ytkdmlakookgolaa
open Go.RowKit Go.Mk Go.Pil Go.Mg
theorem post_sliceI (av : Option Addr) (lv cv m : Nat) (hm : m ≤ lv) (w : World) : (Instr.slice 40 (.slice av lv cv) (some (.int .i64 (m : Int))) none none).run Try.prog w = .ok (.slice (if cv = m then av else av.map (·.add m)) (lv - m) (cv - m)) w := by
  (have h0 : (0 : Int) ≤ (m : Int) := by omega); (have hc : Try.prog.underlying 40 = some (.slice 3) := by kernel_rfl); (obtain ⟨i, hi, hz, hs, hb⟩ := info_parts (P := Try.prog) (e := 3) (z := .int .i64 0) (size := 1) (bytes := 8) (by kernel_rfl)); (have h1 : (m : Int) ≤ (lv : Int) := by omega)
  simp [Instr.slice, Instr.sliceBounds, Instr.sliceBound, run_underlying hc, asIntOf, h0, sizeOf, typeInfo, hi, hs, hm]
theorem RdZ.dropI {w : World} {ao : Option Addr} {n cap : Nat} {zs : List Int} (h : RdZ w (.slice ao n cap) zs) (m : Nat) (hm : m ≤ zs.length) : RdZ w (.slice (if cap = m then ao else ao.map (·.add m)) (zs.length - m) (cap - m)) (zs.drop m) := by
  obtain ⟨hl, _, _, e, h1, h2, h3⟩ := h
  cases e
  (have hd : (zs.drop m).length = zs.length - m := by simp); (refine ⟨by simp, _, _, by rw [hd], by rw [hd]; omega, by omega, ?_⟩)
  by_cases hc : cap = m
  · exact .inl (by omega)
  · rcases h3 with h3 | ⟨b, o, rfl, hcc⟩
    · exact .inl (by omega)
    · refine .inr ⟨b, o + m, ?_, fun j u hj => ?_⟩
      · (rw [if_neg hc]); (simp only [Option.map_some, Addr.add])
        split
        · rename_i e0; subst e0; simp
        · rfl
      · (rw [List.map_drop, List.getElem?_drop] at hj); (have := hcc (m + j) u hj); (rw [Nat.add_assoc]; exact this)
/-- The votes that a count gave, read at a candidate. -/
theorem votes_at {w w' : World} {v : Value} {n : Nat} {gs : List Grp} {l : List Int} (h : OwZ w w' v (firstV gs (flags n l)).1) (hn : 0 < n) : ∃ b o cv, v = .slice (some ⟨b, o, none⟩) n cv ∧ ∀ c : Nat, c < n → w'.cell? ⟨b, o + c, none⟩ = some (.int .i64 (vt n gs l (c : Int))) := by
  (have hl : (firstV gs (flags n l)).1.length = n := by rw [first_len, flags_len]); (obtain ⟨ao, cv, rfl, _, _⟩ := Rd.shape2 h.rd); (have hr := h.rd); (obtain ⟨b, o, rfl, _⟩ := hr.at 0 (by rw [hl]; exact hn)); (refine ⟨b, o, cv, by rw [hl], fun c hc => ?_⟩); (obtain ⟨b', o', e, hcell⟩ := hr.at c (by rw [hl]; exact hc))
  cases e
  rw [hcell]
  rfl
/-- A tail's numbers in memory. -/
theorem tail_at {w : World} {v : Value} {n : Nat} {tail : List Int} (h : RdZ w v tail) (ht : isTail n tail = true) : ∃ b o cap, v = .slice (some ⟨b, o, none⟩) tail.length cap ∧ 0 < tail.length ∧ tail.length ≤ cap ∧ (∀ i : Nat, i < tail.length → ∃ c : Nat, c < n ∧ tail.getD i 0 = (c : Int) ∧ w.cell? ⟨b, o + i, none⟩ = some (.int .i64 (c : Int))) := by
  (obtain ⟨hne, _, hb⟩ := isTail_iff.1 ht); (have hl : 0 < tail.length := List.length_pos_iff.2 hne); (obtain ⟨ao, cap, rfl, hc, _⟩ := Rd.shape2 h); (obtain ⟨b, o, rfl, _⟩ := h.at 0 hl); (refine ⟨b, o, cap, rfl, hl, hc, fun i hi => ?_⟩); (obtain ⟨b', o', e, hcell⟩ := h.at i hi)
  cases e
  (have hm := hb (tail.getD i 0) (by rw [List.getD_eq_getElem?_getD, List.getElem?_eq_getElem hi]; simp)); (refine ⟨(tail.getD i 0).toNat, by omega, by omega, ?_⟩); (rw [hcell])
  congr 2
  omega
theorem nodup_len : ∀ (n : Nat) (l : List Int), l.Nodup → (∀ x ∈ l, 0 ≤ x ∧ x < (n : Int)) → l.length ≤ n := by
  intro n
  induction n with
  | zero =>
    intro l _ h
    cases l with
    | nil => simp
    | cons x l => have := h x (by simp); omega
  | succ n ih =>
    intro l hd h
    have h2 := ih (l.erase (n : Int)) (hd.erase _) fun x hx => by
      (have h3 := (hd.mem_erase_iff).1 hx); (have h4 := h x h3.2); (have h5 := h3.1)
      omega
    have := List.length_erase (l := l) (a := (n : Int))
    split at this <;> omega
theorem tail_len7 {n : Nat} {tail : List Int} (h : isTail n tail = true) (hn : n ≤ 7) : tail.length ≤ 7 := by
  (obtain ⟨_, hd, hb⟩ := isTail_iff.1 h); (have := nodup_len n tail hd hb)
  omega

theorem half_max (a b : Int) : half (max a b) = max (half a) (half b) := by
  rcases Int.le_total a b with h | h
  · rw [Int.max_eq_right h, Int.max_eq_right (half_mono h)]
  · rw [Int.max_eq_left h, Int.max_eq_left (half_mono h)]
theorem half_step (L R : List Int) (q : Nat) (h : q < R.length) : half (mx (L ++ R.take (q + 1))) = max (half (mx (L ++ R.take q))) (half (R.getD q 0)) := by rw [mx_take L R q h, half_max]
set_option maxRecDepth 100000 in
set_option maxHeartbeats 4000000 in
theorem reftail_any (n : Int) (v vz : Value) (ps : List (Grp × Value)) (tail : List Int) (w : World) (hr : RdG w v ps) (hz : RdZ w vz tail) :
    Calls Try.prog 35 #[.int .i64 n, v, vz] w fun e w' => e = .returned (.int .i64 (tailB n (grps ps) tail)) ∧ Kept no w w' := by
  (obtain ⟨ag, cg, rfl, _, _⟩ := hr.shape); (have HV := hid (refvalid_any n _ ps w hr)); (have HT := hid (fun w h => refistail_any n vz tail w h)); (obtain ⟨at_, ct, rfl⟩ := Rd.shapeZ hz)
  by_cases hv : (decide (1 ≤ n ∧ n ≤ 7) && isPile n (grps ps)) = true
  case neg =>
    have hv : (decide (1 ≤ n ∧ n ≤ 7) && isPile n (grps ps)) = false := by simpa using hv
    have hres : Hd (tailB n (grps ps) tail = -1) := ⟨by
      (unfold tailB; rw [if_neg]); (rintro ⟨h1, h2, _⟩)
      rw [decide_eq_true h1, h2] at hv; cases hv⟩
    (rw [hv] at HV); (clear HT hr hz hv)
    go_enter Try.func35, Try.ntmps35
    (go_wp2_with fail); (refine HV.out.mono ?_); (rintro e w1 ⟨rfl, q1⟩); (have k1 := hid q1.kept); (clear q1 HV); (go_wp2); (go_ret); (exact ⟨by rw [hres.out]; rfl, k1.out⟩)
  rw [hv] at HV
  have hv1 : (1 ≤ n ∧ n ≤ 7) ∧ isPile n (grps ps) = true := by
    rw [Bool.and_eq_true, decide_eq_true_iff] at hv; exact hv
  clear hv
  cases ht : isTail n tail with
  | false =>
    rw [ht] at HT
    have hres : Hd (tailB n (grps ps) tail = -1) := ⟨by
      (unfold tailB; rw [if_neg]); (rintro ⟨_, _, h⟩)
      rw [ht] at h; cases h⟩
    (replace hz := hid hz); (clear hr hv1 ht)
    go_enter Try.func35, Try.ntmps35
    (go_wp2_with fail); (refine HV.out.mono ?_); (rintro e w1 ⟨rfl, q1⟩); (have k1 := hid q1.kept); (clear q1 HV); (go_wp2_with fail); (refine (HT.out _ (hz.out.kept k1.out)).mono ?_); (rintro e w2 ⟨rfl, q2⟩); (have k2 := hid (k1.out.trans' q2.kept)); (clear k1 q2 HT); (go_wp2); (go_ret); (exact ⟨by rw [hres.out]; rfl, k2.out⟩)
  | true =>
    (rw [ht] at HT); (obtain ⟨N, rfl⟩ : ∃ N : Nat, n = (N : Int) := ⟨n.toNat, by omega⟩); (have hN1 : 0 < N := by omega); (have hN7 : N ≤ 7 := by omega); (have hp7 : Hd (isPile 7 (grps ps) = true) := ⟨isPile_mono (by omega) hv1.2⟩)
    have hres : Hd (tailB (N : Int) (grps ps) tail = half (mx (dinK N (grps ps) tail tail.length ++ doutK N (grps ps) tail N))) := ⟨by
      unfold tailB; rw [if_pos ⟨hv1.1, hv1.2, ht⟩, Int.toNat_natCast, dinK_all, doutK_all]; rfl⟩
    (have htl := isTail_iff.1 ht); (obtain ⟨b, o, cap0, he, hm0, hmc, hTc⟩ := tail_at hz ht)
    cases he
    (have hm7 := tail_len7 ht hN7); (obtain ⟨m, hm⟩ : ∃ m, tail.length = m := ⟨_, rfl⟩); (rw [hm] at hm0 hmc hTc hm7 hz HT hres ⊢); (replace hm := hid hm); (replace hz := hid hz); (replace hr := hid hr); (replace htl := hid htl); (replace hTc := hid hTc); (have HV1 := hid hv1.2); (clear hv1 ht)
    go_enter Try.func35, Try.ntmps35
    (go_wp2_with fail); (refine HV.out.mono ?_); (rintro e w1 ⟨rfl, q1⟩); (have k1 := hid q1.kept); (clear q1 HV); (go_wp2_with fail); (refine (HT.out _ (hz.out.kept k1.out)).mono ?_); (rintro e w2 ⟨rfl, q2⟩); (have k2 := hid (k1.out.trans' q2.kept)); (clear k1 q2 HT); (go_wp2)
    go_loopw [7, 8] (fun B i wr => ∃ (k : Nat) (bb : Int), k ≤ m ∧ i = .int .i64 (k : Int) ∧ B = .int .i64 bb ∧ Hd (bb = half (mx (dinK N (grps ps) tail k))) ∧ Hd (Kept no w wr)) (fun _ i _ => m - (intOf i).toNat)
    case atStart => exact ⟨0, 0, by omega, rfl, rfl, ⟨rfl⟩, k2⟩
    case round =>
      (clear k2); (obtain ⟨k, bb, hk, rfl, rfl, hB, hK⟩ := hrel)
      by_cases hlt : k < m
      · (have hk1 : (k : Int) < (m : Int) := by omega); (have hk0 : (0 : Int) ≤ (k : Int) := by omega); (have hsl := post_sliceI (some ⟨b, o, none⟩) m ct k hk); (have hdr := (hz.out.kept hK.out).dropI k (by rw [hm.out]; exact hk)); (rw [hm.out] at hdr); (have HF := refflags_any N _ (tail.drop k) wr (by omega) (fun x hx => htl.out.2.2 x (List.mem_of_mem_drop hx)) hdr); (generalize (if ct = k then (some ⟨b, o, none⟩ : Option Addr) else (some ⟨b, o, none⟩ : Option Addr).map (·.add k)) = ad at hsl hdr HF); (replace HF := hid HF); (clear hdr); (go_wp2_with fail); (refine HF.out.mono ?_); (rintro e w3 ⟨vf, rfl, hf, k3⟩); (have HC := hid (reffirst_any _ vf ps _ w3 (hr.out.kept (hK.out.trans' k3)) hf)); (rw [first_firstV hp7.out (by omega)] at HC); (have hK3 := hid (hK.out.trans' k3)); (clear hf k3 HF hsl); (go_wp2_with fail); (refine HC.out.mono ?_); (rintro e w4 ⟨vv, rfl, ov⟩); (have hK4 := hid (hK3.out.trans' ov.kept)); (obtain ⟨bV, oV, cV, rfl, hVc⟩ := votes_at ov hN1); (replace hVc := hid hVc); (obtain ⟨ck, hckN, hck, hTk⟩ := hTc.out k hlt); (have hTk4 := hid (hK4.out.cell hTk id)); (have hVk := hid (hVc.out ck hckN)); (have hsm : Hd (∀ c, 0 ≤ vt N (grps ps) (tail.drop k) c ∧ vt N (grps ps) (tail.drop k) c ≤ 100000) := ⟨fun c => vt_small hp7.out _ c⟩)
        have hrow : Hd (∀ jn : Nat, k + 1 ≤ jn → jn < m → ∀ cj : Nat, tail.getD jn 0 = (cj : Int) → (rowI N (grps ps) tail k).getD (jn - (k + 1)) 0 = vt N (grps ps) (tail.drop k) (ck : Int) - vt N (grps ps) (tail.drop k) (cj : Int)) := ⟨fun jn h1 h2 cj h3 => by
          have := rowI_at (n := N) (gs := grps ps) (tail := tail) (i := k) (k := jn - (k + 1)) (by rw [hm.out]; omega)
          rw [this, hck, show k + 1 + (jn - (k + 1)) = jn by omega, h3]⟩
        (obtain ⟨VT, hVT⟩ : ∃ f, vt N (grps ps) (tail.drop k) = f := ⟨_, rfl⟩); (rw [hVT] at hVc hVk hsm hrow); (have hxk := hsm.out (ck : Int)); (obtain ⟨xk, hxe⟩ : ∃ x, VT (ck : Int) = x := ⟨_, rfl⟩); (rw [hxe] at hVk hxk hrow); (clear ov HC hK hK3 hVT hTk); (have hckI : (ck : Int) < (N : Int) := by omega); (have hckJ : (0 : Int) ≤ (ck : Int) := by omega); (obtain ⟨w9, rfl⟩ : ∃ w9 : World, w9 = wr := ⟨_, rfl⟩); (go_wp2)
        go_loopw [7, 11] (fun B j wr => ∃ (jn : Nat) (b2 : Int), k + 1 ≤ jn ∧ jn ≤ m ∧ j = .int .i64 (jn : Int) ∧ B = .int .i64 b2 ∧ Hd (b2 = half (mx (dinK N (grps ps) tail k ++ (rowI N (grps ps) tail k).take (jn - (k + 1))))) ∧ Hd (Kept no w4 wr)) (fun _ j _ => m - (intOf j).toNat)
        case atStart => exact ⟨k + 1, bb, by omega, by omega, by go_num, rfl, ⟨by rw [hB.out, Nat.sub_self, List.take_zero, List.append_nil]⟩, ⟨Kept.refl _ _⟩⟩
        case round =>
          obtain ⟨jn, b2, hj0, hj, rfl, rfl, hB2, hK2⟩ := hrel
          by_cases hjl : jn < m
          · (have hj1 : (jn : Int) < (m : Int) := by omega); (have hj00 : (0 : Int) ≤ (jn : Int) := by omega); (obtain ⟨cj, hcjN, hcj, hTj⟩ := hTc.out jn hjl); (have hTj4 := hid (hK2.out.cell (hK4.out.cell hTj id) id)); (have hTk5 := hid (hK2.out.cell hTk4.out id)); (have hVk5 := hid (hK2.out.cell hVk.out id)); (have hVj5 := hid (hK2.out.cell (hVc.out cj hcjN) id)); (have hxj := hsm.out (cj : Int)); (have hst := hid (half_step (dinK N (grps ps) tail k) (rowI N (grps ps) tail k) (jn - (k + 1)) (by rw [rowI_len, hm.out]; omega))); (rw [hrow.out jn hj0 hjl cj hcj] at hst); (obtain ⟨xj, hxje⟩ : ∃ x, VT (cj : Int) = x := ⟨_, rfl⟩); (rw [hxje] at hVj5 hxj hst); (have hwr : IntKind.i64.wrap (xk - xj) = xk - xj := IntWalk.i64_in _ (by omega)); (have HH := hid (fun w => refhalf_any (xk - xj) w (by omega))); (obtain ⟨h, hh⟩ : ∃ h, half (xk - xj) = h := ⟨_, rfl⟩); (rw [hh] at HH hst); (have hcjI : (cj : Int) < (N : Int) := by omega); (have hcjJ : (0 : Int) ≤ (cj : Int) := by omega)
            have hB3 : Hd (max b2 h = half (mx (dinK N (grps ps) tail k ++ (rowI N (grps ps) tail k).take (jn + 1 - (k + 1))))) := ⟨by
              rw [show jn + 1 - (k + 1) = jn - (k + 1) + 1 by omega, hst.out, ← hB2.out]⟩
            (clear hxje hh hst hB2 hTj hcj); (go_upto_region 11 with fail); (refine region_flow (S := no) (Sl := (fun _ => no)) [Is (.int .i64 b2), Is (.slice (some ⟨bV, oV, none⟩) N cV), Is (.slice (some ⟨b, o, none⟩) m ct), Is (.int .i64 (k : Int)), Is (.pointer (some ⟨b, o + k, none⟩)), Is (.int .i64 (ck : Int)), Is (.pointer (some ⟨bV, oV + ck, none⟩)), Is (.int .i64 xk), Is (.slice (some ⟨bV, oV, none⟩) N cV), Is (.slice (some ⟨b, o, none⟩) m ct), Is (.int .i64 (jn : Int)), Is (.pointer (some ⟨b, o + jn, none⟩)), Is (.int .i64 (cj : Int)), Is (.pointer (some ⟨bV, oV + cj, none⟩)), Is (.int .i64 xj), Is (.int .i64 (xk - xj)), Is (.int .i64 h), Is (.int .i64 (max b2 h)), Is (.int .i64 (max b2 h))] [] (fun _ _ h => h) _ (by kernel_rfl) (by kernel_rfl) (by kernel_rfl) (by kernel_rfl) (fun x => by simp only [puts, Act.put, List.map_cons, List.map_nil, Nat.zero_add, Nat.reduceAdd, List.setIfInBounds_toArray, List.set_cons_zero, List.set_cons_succ]; exact rfl) ?_ ?_)
            · (skip); (refine .cons (fun x wf Kk hq hdep hold => ?_) ?_)
              · (try dsimp only); (have h18 : x 18 = (.int .i64 b2) := hold 18 (by kernel_rfl)); (clear hq hdep hold); (simp only [h18]); (clear h18); (rw [if_pos (by rfl)]); (refine OpY.val ?_ ⟨Kept.refl _ _, rfl⟩); (first | rfl | go_simp)
              refine .cons (fun x wf Kk hq hdep hold => ?_) ?_
              · (try dsimp only); (clear hq hdep hold); (rw [if_pos (by rfl)]); (refine OpY.val ?_ ⟨Kept.refl _ _, rfl⟩); (first | rfl | go_simp)
              refine .cons (fun x wf Kk hq hdep hold => ?_) ?_
              · (try dsimp only); (clear hq hdep hold); (rw [if_pos (by rfl)]); (refine OpY.val ?_ ⟨Kept.refl _ _, rfl⟩); (first | rfl | go_simp)
              refine .cons (fun x wf Kk hq hdep hold => ?_) ?_
              · (try dsimp only); (clear hq hdep hold); (rw [if_pos (by rfl)]); (refine OpY.val ?_ ⟨Kept.refl _ _, rfl⟩); (first | rfl | go_simp)
              refine .cons (fun x wf Kk hq hdep hold => ?_) ?_
              · (try dsimp only); (have h2 : x 2 = _ := hdep 2 (by kernel_rfl)); (have h3 : x 3 = _ := hdep 3 (by kernel_rfl)); (clear hq hdep hold); (simp only [h2, h3]); (clear h2 h3); (rw [if_pos (by rfl)]); (refine OpY.val ?_ ⟨Kept.refl _ _, rfl⟩); (first | rfl | go_simp)
              refine .cons (fun x wf Kk hq hdep hold => ?_) ?_
              · (try dsimp only); (have h4 : x 4 = _ := hdep 4 (by kernel_rfl)); (clear hq hdep hold); (simp only [h4]); (clear h4); (have c1 := Kk.undrew.cell hTk5.out id); (rw [if_pos (by rfl)]); (refine OpY.val ?_ ⟨Kept.refl _ _, rfl⟩); (first | rfl | go_simp)
              refine .cons (fun x wf Kk hq hdep hold => ?_) ?_
              · (try dsimp only); (have h1 : x 1 = _ := hdep 1 (by kernel_rfl)); (have h5 : x 5 = _ := hdep 5 (by kernel_rfl)); (clear hq hdep hold); (simp only [h1, h5]); (clear h1 h5); (rw [if_pos (by rfl)]); (refine OpY.val ?_ ⟨Kept.refl _ _, rfl⟩); (first | rfl | go_simp)
              refine .cons (fun x wf Kk hq hdep hold => ?_) ?_
              · (try dsimp only); (have h6 : x 6 = _ := hdep 6 (by kernel_rfl)); (clear hq hdep hold); (simp only [h6]); (clear h6); (have c1 := Kk.undrew.cell hVk5.out id); (rw [if_pos (by rfl)]); (refine OpY.val ?_ ⟨Kept.refl _ _, rfl⟩); (first | rfl | go_simp)
              refine .cons (fun x wf Kk hq hdep hold => ?_) ?_
              · (try dsimp only); (clear hq hdep hold); (rw [if_pos (by rfl)]); (refine OpY.val ?_ ⟨Kept.refl _ _, rfl⟩); (first | rfl | go_simp)
              refine .cons (fun x wf Kk hq hdep hold => ?_) ?_
              · (try dsimp only); (clear hq hdep hold); (rw [if_pos (by rfl)]); (refine OpY.val ?_ ⟨Kept.refl _ _, rfl⟩); (first | rfl | go_simp)
              refine .cons (fun x wf Kk hq hdep hold => ?_) ?_
              · (try dsimp only); (clear hq hdep hold); (rw [if_pos (by rfl)]); (refine OpY.val ?_ ⟨Kept.refl _ _, rfl⟩); (first | rfl | go_simp)
              refine .cons (fun x wf Kk hq hdep hold => ?_) ?_
              · (try dsimp only); (have h9 : x 9 = _ := hdep 9 (by kernel_rfl)); (have h10 : x 10 = _ := hdep 10 (by kernel_rfl)); (clear hq hdep hold); (simp only [h9, h10]); (clear h9 h10); (rw [if_pos (by rfl)]); (refine OpY.val ?_ ⟨Kept.refl _ _, rfl⟩); (first | rfl | go_simp)
              refine .cons (fun x wf Kk hq hdep hold => ?_) ?_
              · (try dsimp only); (have h11 : x 11 = _ := hdep 11 (by kernel_rfl)); (clear hq hdep hold); (simp only [h11]); (clear h11); (have c1 := Kk.undrew.cell hTj4.out id); (rw [if_pos (by rfl)]); (refine OpY.val ?_ ⟨Kept.refl _ _, rfl⟩); (first | rfl | go_simp)
              refine .cons (fun x wf Kk hq hdep hold => ?_) ?_
              · (try dsimp only); (have h8 : x 8 = _ := hdep 8 (by kernel_rfl)); (have h12 : x 12 = _ := hdep 12 (by kernel_rfl)); (clear hq hdep hold); (simp only [h8, h12]); (clear h8 h12); (rw [if_pos (by rfl)]); (refine OpY.val ?_ ⟨Kept.refl _ _, rfl⟩); (first | rfl | go_simp)
              refine .cons (fun x wf Kk hq hdep hold => ?_) ?_
              · (try dsimp only); (have h13 : x 13 = _ := hdep 13 (by kernel_rfl)); (clear hq hdep hold); (simp only [h13]); (clear h13); (have c1 := Kk.undrew.cell hVj5.out id); (rw [if_pos (by rfl)]); (refine OpY.val ?_ ⟨Kept.refl _ _, rfl⟩); (first | rfl | go_simp)
              refine .cons (fun x wf Kk hq hdep hold => ?_) ?_
              · (try dsimp only); (have h7 : x 7 = _ := hdep 7 (by kernel_rfl)); (have h14 : x 14 = _ := hdep 14 (by kernel_rfl)); (clear hq hdep hold); (simp only [h7, h14]); (clear h7 h14); (rw [if_pos (by rfl)]); (refine OpY.val ?_ ⟨Kept.refl _ _, rfl⟩); (first | rfl | go_simp)
              refine .cons (fun x wf Kk hq hdep hold => ?_) ?_
              · (try dsimp only); (have h15 : x 15 = _ := hdep 15 (by kernel_rfl)); (clear hq hdep hold); (simp only [h15]); (clear h15); (rw [if_pos (by rfl)]); (refine OpY.call (f := 75) (args := #[(.int .i64 (xk - xj))]) (by go_simp) ?_); (refine (HH.out _).mono ?_); (rintro e w2 ⟨rfl, rfl⟩); (exact ⟨_, rfl, Kept.refl _ _, rfl⟩)
              refine .cons (fun x wf Kk hq hdep hold => ?_) ?_
              · (try dsimp only); (have h0 : x 0 = _ := hdep 0 (by kernel_rfl)); (have h16 : x 16 = _ := hdep 16 (by kernel_rfl)); (clear hq hdep hold); (simp only [h0, h16]); (clear h0 h16); (rw [if_pos (by rfl)]); (refine OpY.val ?_ ⟨Kept.refl _ _, rfl⟩); (first | rfl | (go_simp; done) | (go_simp; split <;> omega))
              refine .cons (fun x wf Kk hq hdep hold => ?_) ?_
              · (try dsimp only); (have h17 : x 17 = _ := hdep 17 (by kernel_rfl)); (clear hq hdep hold); (simp only [h17]); (clear h17); (rw [if_pos (by rfl)]); (refine OpY.val ?_ ⟨Kept.refl _ _, rfl⟩); (first | rfl | (go_simp; done) | (go_simp; split <;> omega))
              exact .nil _
            · (intro x wf Kk hv); (try dsimp only); (have h18 : x 18 = _ := hv 18 (by kernel_rfl)); (clear hv); (simp only [h18]); (clear h18); (have hK5 := hid (hK2.out.trans' Kk.undrew)); (clear Kk hK2 hTj4 hTk5 hVk5 hVj5 HH); (obtain ⟨b3, hb3⟩ : ∃ b3, max b2 h = b3 := ⟨_, rfl⟩); (rw [hb3] at hB3); (clear hwr hxj); (go_wp2); (go_roundw)
              case rel => first | exact ⟨jn + 1, b3, by omega, by omega, by go_num, by rw [hb3], hB3, hK5⟩ | ((repeat apply Exists.intro); exact ⟨⟨jn + 1, b3, by omega, by omega, by go_num, by rw [hb3], hB3, hK5⟩, rfl⟩)
              case measure => simp [intOf]; omega
          · (obtain rfl : jn = m := by omega); (have hj1 : ¬ (jn : Int) < (jn : Int) := by omega)
            have hB5 : Hd (b2 = half (mx (dinK N (grps ps) tail (k + 1)))) := ⟨by
              rw [hB2.out, dinK_succ, List.take_of_length_le (by rw [rowI_len, hm.out]; omega)]⟩
            (have hK5 := hid (hK4.out.trans' hK2.out)); (clear hB2 hK2 hK4 hVk hTk4 hrow); (go_wp2); (go_roundw)
            case rel => first | exact ⟨k + 1, b2, by omega, by go_num, rfl, hB5, hK5⟩ | ((repeat apply Exists.intro); exact ⟨⟨k + 1, b2, by omega, by go_num, rfl, hB5, hK5⟩, rfl⟩)
            case measure => simp [intOf]; omega
      · (obtain rfl : k = m := by omega); (have hk1 : ¬ (k : Int) < (k : Int) := by omega); (have HA := hid (all24_any N wr hN7)); (go_wp2_with fail); (refine HA.out.mono ?_); (rintro e w3 ⟨vf, rfl, hf, k3⟩); (have HC := hid (reffirst_any _ vf ps _ w3 (hr.out.kept (hK.out.trans' k3)) hf)); (rw [first_firstV hp7.out (by omega)] at HC); (have hK3 := hid (hK.out.trans' k3)); (clear hf k3 HA); (go_wp2_with fail); (refine HC.out.mono ?_); (rintro e w4 ⟨vv, rfl, ov⟩); (have hK4 := hid (hK3.out.trans' ov.kept)); (obtain ⟨bV, oV, cV, rfl, hVc⟩ := votes_at ov hN1); (replace hVc := hid hVc); (have hsm : Hd (∀ c, 0 ≤ vt N (grps ps) (allC N) c ∧ vt N (grps ps) (allC N) c ≤ 100000) := ⟨fun c => vt_small hp7.out _ c⟩); (obtain ⟨VT, hVT⟩ : ∃ f, vt N (grps ps) (allC N) = f := ⟨_, rfl⟩)
        have hcol : Hd (∀ (e : Nat) (jn : Nat), jn < k → ∀ cj : Nat, tail.getD jn 0 = (cj : Int) → (colE N (grps ps) tail (e : Int)).getD jn 0 = VT (e : Int) - prefers (grps ps) (cj : Int) (e : Int)) := ⟨fun e jn h1 cj h3 => by
          rw [colE_at (by rw [hm.out]; exact h1), h3, hVT]⟩
        (rw [hVT] at hVc hsm); (clear ov HC hK hK3 hVT); (obtain ⟨w9, rfl⟩ : ∃ w9 : World, w9 = wr := ⟨_, rfl⟩); (obtain ⟨L0, hL0⟩ : ∃ L, dinK N (grps ps) tail k = L := ⟨_, rfl⟩); (rw [hL0] at hB hres); (clear hL0); (go_wp2)
        go_loopw [7, 14] (fun B i wr => ∃ (e : Nat) (bb : Int), e ≤ N ∧ i = .int .i64 (e : Int) ∧ B = .int .i64 bb ∧ Hd (bb = half (mx (L0 ++ doutK N (grps ps) tail e))) ∧ Hd (Kept no w4 wr)) (fun _ i _ => N - (intOf i).toNat)
        case atStart => exact ⟨0, bb, by omega, rfl, rfl, ⟨by rw [hB.out]; simp [doutK, allC]⟩, ⟨Kept.refl _ _⟩⟩
        case round =>
          (clear hB); (obtain ⟨e, bb, he, rfl, rfl, hB, hK2⟩ := hrel)
          by_cases hel : e < N
          · (have he1 : (e : Int) < (N : Int) := by omega); (have he0 : (0 : Int) ≤ (e : Int) := by omega); (have hVe := hid (hK2.out.cell (hVc.out e hel) id)); (have hxe := hsm.out (e : Int)); (have hce := hid (hcol.out e)); (obtain ⟨xe, hxee⟩ : ∃ x, VT (e : Int) = x := ⟨_, rfl⟩); (rw [hxee] at hVe hxe hce); (have hns := hid (doutK_succ N (grps ps) tail e)); (obtain ⟨L1, hL1⟩ : ∃ L, L0 ++ doutK N (grps ps) tail e = L := ⟨_, rfl⟩); (have hnext : Hd (L0 ++ doutK N (grps ps) tail (e + 1) = L1 ++ if (e : Int) ∈ tail then [] else colE N (grps ps) tail (e : Int)) := ⟨by rw [hns.out, ← List.append_assoc, hL1]⟩); (rw [hL1] at hB); (clear hxee hns hL1); (obtain ⟨w10, rfl⟩ : ∃ w10 : World, w10 = wr := ⟨_, rfl⟩); (have hKw := hid (hK4.out.trans' hK2.out)); (go_wp2)
            go_loopw [7, 15] (fun B j wr => ∃ (jn : Nat) (b2 : Int), jn ≤ k ∧ j = .int .i64 (jn : Int) ∧ B = .int .i64 b2 ∧ Hd ((e : Int) ∈ tail → jn = 0) ∧ Hd (b2 = half (mx (L1 ++ (colE N (grps ps) tail (e : Int)).take jn))) ∧ Hd (Kept no w10 wr)) (fun _ j _ => k - (intOf j).toNat)
            case atStart => exact ⟨0, bb, by omega, rfl, rfl, ⟨fun _ => rfl⟩, ⟨by rw [hB.out, List.take_zero, List.append_nil]⟩, ⟨Kept.refl _ _⟩⟩
            case round =>
              obtain ⟨jn, b2, hj, rfl, rfl, hj0, hB2, hK3⟩ := hrel
              by_cases hjl : jn < k
              · (have hj1 : (jn : Int) < (k : Int) := by omega); (have hjd : decide ((jn : Int) < (k : Int)) = true := decide_eq_true hj1); (have hj00 : (0 : Int) ≤ (jn : Int) := by omega); (have HH := has_any _ tail (e : Int) wr (hz.out.kept (hKw.out.trans' hK3.out))); (skip)
                by_cases het : (e : Int) ∈ tail
                · (rw [decide_eq_true het] at HH); (replace HH := hid HH); (obtain rfl := hj0.out het)
                  have hB5 : Hd (b2 = half (mx (L0 ++ doutK N (grps ps) tail (e + 1)))) := ⟨by
                    rw [hB2.out, hnext.out, if_pos het, List.take_zero]⟩
                  (clear hB2 hB het hnext hce hVe); (go_wp2_with fail); (refine HH.out.mono ?_); (rintro _ w5 ⟨rfl, q5⟩); (have hK5 := hid (hK2.out.trans' (hK3.out.trans' q5.kept))); (clear q5 HH hK3); (go_wp2); (go_roundw)
                  case rel => first | exact ⟨e + 1, b2, by omega, by go_num, rfl, hB5, hK5⟩ | ((repeat apply Exists.intro); exact ⟨⟨e + 1, b2, by omega, by go_num, rfl, hB5, hK5⟩, rfl⟩)
                  case measure => simp [intOf]; omega
                · (rw [decide_eq_false het] at HH); (replace HH := hid HH); (have hj0' : Hd ((e : Int) ∈ tail → jn + 1 = 0) := ⟨fun h => absurd h het⟩); (obtain ⟨cj, hcjN, hcj, hTj⟩ := hTc.out jn hjl); (have hst := hid (half_step L1 (colE N (grps ps) tail (e : Int)) jn (by rw [colE_len, hm.out]; exact hjl))); (rw [hce.out jn hjl cj hcj] at hst); (have hps := prefers_small hp7.out (cj : Int) (e : Int)); (have HP := fun w h => refprefers_any (.slice ag ps.length cg) ps (cj : Int) (e : Int) w h); (rw [prefers_ref] at HP); (obtain ⟨pp, hpp⟩ : ∃ x, prefers (grps ps) (cj : Int) (e : Int) = x := ⟨_, rfl⟩); (rw [hpp] at hst hps HP); (have hwr : IntKind.i64.wrap (xe - pp) = xe - pp := IntWalk.i64_in _ (by omega)); (have HF := hid (fun w => refhalf_any (xe - pp) w (by omega))); (obtain ⟨h, hh⟩ : ∃ h, half (xe - pp) = h := ⟨_, rfl⟩); (rw [hh] at HF hst); (have hB3 : Hd (max b2 h = half (mx (L1 ++ (colE N (grps ps) tail (e : Int)).take (jn + 1)))) := ⟨by rw [hst.out, ← hB2.out]⟩); (replace HP := hid HP); (clear hpp hh hst hB2 hcj het); (go_wp2_with fail); (refine HH.out.mono ?_); (rintro _ w5 ⟨rfl, q5⟩); (have hK5 := hid (hK3.out.trans' q5.kept)); (have hTj5 := hid ((hKw.out.trans' hK5.out).cell hTj id)); (have hVe5 := hid (hK5.out.cell hVe.out id)); (have hr5 := hid (hr.out.kept (hKw.out.trans' hK5.out))); (clear q5 HH hK3 hTj); (go_upto_region 19 with fail); (refine region_flow (S := no) (Sl := (fun _ => no)) [Is (.int .i64 b2), Is (.slice (some ⟨bV, oV, none⟩) N cV), Is (.int .i64 (e : Int)), Is (.pointer (some ⟨bV, oV + e, none⟩)), Is (.int .i64 xe), Is (.slice ag ps.length cg), Is (.slice (some ⟨b, o, none⟩) k ct), Is (.int .i64 (jn : Int)), Is (.pointer (some ⟨b, o + jn, none⟩)), Is (.int .i64 (cj : Int)), Is (.int .i64 (e : Int)), Is (.int .i64 pp), Is (.int .i64 (xe - pp)), Is (.int .i64 h), Is (.int .i64 (max b2 h)), Is (.int .i64 (max b2 h))] [] (fun _ _ h => h) _ (by kernel_rfl) (by kernel_rfl) (by kernel_rfl) (by kernel_rfl) (fun x => by simp only [puts, Act.put, List.map_cons, List.map_nil, Nat.zero_add, Nat.reduceAdd, List.setIfInBounds_toArray, List.set_cons_zero, List.set_cons_succ]; exact rfl) ?_ ?_)
                  · (skip); (refine .cons (fun x wf Kk hq hdep hold => ?_) ?_)
                    · (try dsimp only); (have h15 : x 15 = (.int .i64 b2) := hold 15 (by kernel_rfl)); (clear hq hdep hold); (simp only [h15]); (clear h15); (rw [if_pos (by rfl)]); (refine OpY.val ?_ ⟨Kept.refl _ _, rfl⟩); (first | rfl | go_simp)
                    refine .cons (fun x wf Kk hq hdep hold => ?_) ?_
                    · (try dsimp only); (clear hq hdep hold); (rw [if_pos (by rfl)]); (refine OpY.val ?_ ⟨Kept.refl _ _, rfl⟩); (first | rfl | go_simp)
                    refine .cons (fun x wf Kk hq hdep hold => ?_) ?_
                    · (try dsimp only); (clear hq hdep hold); (rw [if_pos (by rfl)]); (refine OpY.val ?_ ⟨Kept.refl _ _, rfl⟩); (first | rfl | go_simp)
                    refine .cons (fun x wf Kk hq hdep hold => ?_) ?_
                    · (try dsimp only); (have h1 : x 1 = _ := hdep 1 (by kernel_rfl)); (have h2 : x 2 = _ := hdep 2 (by kernel_rfl)); (clear hq hdep hold); (simp only [h1, h2]); (clear h1 h2); (rw [if_pos (by rfl)]); (refine OpY.val ?_ ⟨Kept.refl _ _, rfl⟩); (first | rfl | go_simp)
                    refine .cons (fun x wf Kk hq hdep hold => ?_) ?_
                    · (try dsimp only); (have h3 : x 3 = _ := hdep 3 (by kernel_rfl)); (clear hq hdep hold); (simp only [h3]); (clear h3); (have c1 := Kk.undrew.cell hVe5.out id); (rw [if_pos (by rfl)]); (refine OpY.val ?_ ⟨Kept.refl _ _, rfl⟩); (first | rfl | go_simp)
                    refine .cons (fun x wf Kk hq hdep hold => ?_) ?_
                    · (try dsimp only); (clear hq hdep hold); (rw [if_pos (by rfl)]); (refine OpY.val ?_ ⟨Kept.refl _ _, rfl⟩); (first | rfl | go_simp)
                    refine .cons (fun x wf Kk hq hdep hold => ?_) ?_
                    · (try dsimp only); (clear hq hdep hold); (rw [if_pos (by rfl)]); (refine OpY.val ?_ ⟨Kept.refl _ _, rfl⟩); (first | rfl | go_simp)
                    refine .cons (fun x wf Kk hq hdep hold => ?_) ?_
                    · (try dsimp only); (clear hq hdep hold); (rw [if_pos (by rfl)]); (refine OpY.val ?_ ⟨Kept.refl _ _, rfl⟩); (first | rfl | go_simp)
                    refine .cons (fun x wf Kk hq hdep hold => ?_) ?_
                    · (try dsimp only); (have h6 : x 6 = _ := hdep 6 (by kernel_rfl)); (have h7 : x 7 = _ := hdep 7 (by kernel_rfl)); (clear hq hdep hold); (simp only [h6, h7]); (clear h6 h7); (rw [if_pos (by rfl)]); (refine OpY.val ?_ ⟨Kept.refl _ _, rfl⟩); (first | rfl | go_simp)
                    refine .cons (fun x wf Kk hq hdep hold => ?_) ?_
                    · (try dsimp only); (have h8 : x 8 = _ := hdep 8 (by kernel_rfl)); (clear hq hdep hold); (simp only [h8]); (clear h8); (have c1 := Kk.undrew.cell hTj5.out id); (rw [if_pos (by rfl)]); (refine OpY.val ?_ ⟨Kept.refl _ _, rfl⟩); (first | rfl | go_simp)
                    refine .cons (fun x wf Kk hq hdep hold => ?_) ?_
                    · (try dsimp only); (clear hq hdep hold); (rw [if_pos (by rfl)]); (refine OpY.val ?_ ⟨Kept.refl _ _, rfl⟩); (first | rfl | go_simp)
                    refine .cons (fun x wf Kk hq hdep hold => ?_) ?_
                    · (try dsimp only); (have h5 : x 5 = _ := hdep 5 (by kernel_rfl)); (have h9 : x 9 = _ := hdep 9 (by kernel_rfl)); (have h10 : x 10 = _ := hdep 10 (by kernel_rfl)); (clear hq hdep hold); (simp only [h5, h9, h10]); (clear h5 h9 h10); (rw [if_pos (by rfl)]); (refine OpY.call (f := 77) (args := #[(.slice ag ps.length cg), (.int .i64 (cj : Int)), (.int .i64 (e : Int))]) (by go_simp) ?_); (refine (HP.out _ (hr5.out.kept Kk.undrew)).mono ?_); (rintro e w2 ⟨rfl, k2⟩); (exact ⟨_, rfl, k2.kept, rfl⟩)
                    refine .cons (fun x wf Kk hq hdep hold => ?_) ?_
                    · (try dsimp only); (have h4 : x 4 = _ := hdep 4 (by kernel_rfl)); (have h11 : x 11 = _ := hdep 11 (by kernel_rfl)); (clear hq hdep hold); (simp only [h4, h11]); (clear h4 h11); (rw [if_pos (by rfl)]); (refine OpY.val ?_ ⟨Kept.refl _ _, rfl⟩); (first | rfl | go_simp)
                    refine .cons (fun x wf Kk hq hdep hold => ?_) ?_
                    · (try dsimp only); (have h12 : x 12 = _ := hdep 12 (by kernel_rfl)); (clear hq hdep hold); (simp only [h12]); (clear h12); (rw [if_pos (by rfl)]); (refine OpY.call (f := 75) (args := #[(.int .i64 (xe - pp))]) (by go_simp) ?_); (refine (HF.out _).mono ?_); (rintro e w2 ⟨rfl, rfl⟩); (exact ⟨_, rfl, Kept.refl _ _, rfl⟩)
                    refine .cons (fun x wf Kk hq hdep hold => ?_) ?_
                    · (try dsimp only); (have h0 : x 0 = _ := hdep 0 (by kernel_rfl)); (have h13 : x 13 = _ := hdep 13 (by kernel_rfl)); (clear hq hdep hold); (simp only [h0, h13]); (clear h0 h13); (rw [if_pos (by rfl)]); (refine OpY.val ?_ ⟨Kept.refl _ _, rfl⟩); (first | rfl | (go_simp; done) | (go_simp; split <;> omega))
                    refine .cons (fun x wf Kk hq hdep hold => ?_) ?_
                    · (try dsimp only); (have h14 : x 14 = _ := hdep 14 (by kernel_rfl)); (clear hq hdep hold); (simp only [h14]); (clear h14); (rw [if_pos (by rfl)]); (refine OpY.val ?_ ⟨Kept.refl _ _, rfl⟩); (first | rfl | (go_simp; done) | (go_simp; split <;> omega))
                    exact .nil _
                  · (intro x wf Kk hv); (try dsimp only); (have h15 : x 15 = _ := hv 15 (by kernel_rfl)); (clear hv); (simp only [h15]); (clear h15); (have hK6 := hid (hK5.out.trans' Kk.undrew)); (clear Kk hK5 hTj5 hVe5 HP HF hr5); (obtain ⟨b3, hb3⟩ : ∃ b3, max b2 h = b3 := ⟨_, rfl⟩); (rw [hb3] at hB3); (clear hwr hps); (go_wp2); (go_roundw)
                    case rel => first | exact ⟨jn + 1, b3, by omega, by go_num, by rw [hb3], hj0', hB3, hK6⟩ | ((repeat apply Exists.intro); exact ⟨⟨jn + 1, b3, by omega, by go_num, by rw [hb3], hj0', hB3, hK6⟩, rfl⟩)
                    case measure => simp [intOf]; omega
              · (obtain rfl : jn = k := by omega); (have hj1 : ¬ (jn : Int) < (jn : Int) := by omega); (have hjd : decide ((jn : Int) < (jn : Int)) = false := decide_eq_false hj1); (have het : (e : Int) ∉ tail := fun h => by have := hj0.out h; omega)
                have hB5 : Hd (b2 = half (mx (L0 ++ doutK N (grps ps) tail (e + 1)))) := ⟨by
                  rw [hB2.out, hnext.out, if_neg het, List.take_of_length_le (by rw [colE_len, hm.out]; exact Nat.le_refl _)]⟩
                (have hK5 := hid (hK2.out.trans' hK3.out)); (clear hB2 hB het hnext hce hVe hK3); (go_wp2); (go_roundw)
                case rel => first | exact ⟨e + 1, b2, by omega, by go_num, rfl, hB5, hK5⟩ | ((repeat apply Exists.intro); exact ⟨⟨e + 1, b2, by omega, by go_num, rfl, hB5, hK5⟩, rfl⟩)
                case measure => simp [intOf]; omega
          · (obtain rfl : e = N := by omega); (have he1 : ¬ (e : Int) < (e : Int) := by omega); (have hfin : Hd (tailB (e : Int) (grps ps) tail = bb) := ⟨by rw [hres.out, hB.out]⟩); (have hK5 := hid (hK4.out.trans' hK2.out)); (clear hB hK2 hK4); (go_wp2); (go_ret); (exact ⟨by rw [hfin.out]; rfl, hK5.out⟩)
end Go.Proofs.Ytkdmlakookgolaa
