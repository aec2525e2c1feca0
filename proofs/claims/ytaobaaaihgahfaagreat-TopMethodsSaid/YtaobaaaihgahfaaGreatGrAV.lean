/- ratio.Mul, Div, Frac (printed by gen_grat.py). -/
import Derived.Test.YtaobaaaihgahfaaGreatRatV
import Derived.Test.YtaobaaaihgahfaaGreatIrvAV
import Derived.Test.YtaobaaaihgahfaaGreatIrvCV
namespace Go.Proofs.YtaobaaaihgahfaaGreat
open Go.RowKit Go.Mk Go.Pil Go.Nt
theorem results_rat2 {fn : Func} {p q : Tmp} (h : fn.results = #[.cell p 76, .tmp q]) (tmps : Array Value) (w : World) (g : Nat) (C : List Value) (hC : C.length = 3) (v : Value)
    (hp : tmps.getD p undef = .pointer (some ⟨g, 0, none⟩)) (hq : tmps.getD q undef = v) (hg : w.heap[g]? = some (.cells C.toArray 76 (0, 0))) :
    (results fn tmps).run Tryz.prog w = .ok (.tuple #[.agg C.toArray, v]) w := by
  (have hp' : tmps[p]?.getD undef = .pointer (some ⟨g, 0, none⟩) := by simpa using hp); (have hq' : tmps[q]?.getD undef = v := by simpa using hq); (have hi : (Tryz.prog.info? 76).map (·.size) = some C.toArray.size := by rw [List.size_toArray, hC]; kernel_rfl); (have hl := run_loadVar_row w g 76 76 C.toArray (0, 0) _ hg Tryz.underlying76 rfl hi); (simp only [results, h, List.mapM_toArray, List.mapM_cons, List.mapM_nil])
  simp [hp', hq', asAddr, hl]
theorem OwA.own1 {B : Nat} {w0 w' : World} {v : Value} {s : Bool} {p q : Nat} (h : OwA B w' v s p q) (k : Kept no w0 w') (hB : w0.heap.size ≤ B) : OwR w0 w' v s p q := by
  (obtain ⟨vn, vd, e, ⟨h1, h2⟩, h3, h4⟩ := h); (exact ⟨vn, vd, e, ⟨h1, k, frNew fun j hj => by have := h2 j hj; omega⟩, h3, k, frNew fun j hj => by have := h4 j hj; omega⟩)
set_option maxRecDepth 100000 in
set_option maxHeartbeats 4000000 in
theorem ratmul_any (v1 v2 : Value) (p1 d1 p2 d2 : Nat) (w : World) (h1 : p1 < 4294967296) (h2 : p2 < 4294967296) (h3 : d1 < 4294967296) (h4 : d2 < 4294967296) (hp : p1 * p2 < 4294967296) (hd : d1 * d2 < 4294967296) (r1 : RdR w v1 false p1 d1) (r2 : RdR w v2 false p2 d2) :
    Calls Tryz.prog 168 #[v1, v2] w fun e w' => ∃ v, e = .returned v ∧ OwR w w' v false (mkP (p1 * p2) (d1 * d2)) (mkQ (p1 * p2) (d1 * d2)) := by
  (obtain ⟨an1, ln1, cn1, ad1, ld1, cd1, rfl⟩ := shapeR r1); (obtain ⟨an2, ln2, cn2, ad2, ld2, cd2, rfl⟩ := shapeR r2); (obtain ⟨w1, hw1, g1, k1⟩ := alloc_named w (.cells #[.bool false, .slice an1 ln1 cn1, .slice ad1 ld1 cd1] 76)); (have e1 : w1.heap.size = w.heap.size + 1 := by rw [hw1]; simp); (obtain ⟨w2, hw2, g2, k2⟩ := alloc_named w1 (.cells #[.bool false, .slice an2 ln2 cn2, .slice ad2 ld2 cd2] 76)); (have e2 : w2.heap.size = w1.heap.size + 1 := by rw [hw2]; simp); (obtain ⟨w3, hw3, g3, k3⟩ := alloc_named w2 (.cells #[.bool false, .slice none 0 0, .slice none 0 0] 76)); (have e3 : w3.heap.size = w2.heap.size + 1 := by rw [hw3]; simp); (have k03 := hid ((k1.trans' k2).trans' k3)); (have gA := hid ((k2.trans' k3).blk g1)); (have gB := hid (k3.blk g2)); (have gD := hid g3); (obtain ⟨G1, hG1⟩ : ∃ g, w.heap.size = g := ⟨_, rfl⟩); (obtain ⟨G2, hG2⟩ : ∃ g, w1.heap.size = g := ⟨_, rfl⟩); (obtain ⟨G4, hG4⟩ : ∃ g, w2.heap.size = g := ⟨_, rfl⟩); (rw [hG1] at gA); (rw [hG2] at gB); (rw [hG4] at gD); (have hGG : Hd (w.heap.size ≤ G1 ∧ G1 < w3.heap.size ∧ G2 < w3.heap.size ∧ G1 ≠ G2 ∧ w.heap.size ≤ G2 ∧ G4 ≠ G1 ∧ G4 ≠ G2 ∧ w.heap.size ≤ G4 ∧ G4 < w3.heap.size) := ⟨by omega⟩); (have q1 : Hd (G1 + 1 = G2) := ⟨by omega⟩); (have q2 : Hd (G2 + 1 = G4) := ⟨by omega⟩); (replace hw1 := hid hw1); (replace hw2 := hid hw2); (replace hw3 := hid hw3); (replace hG1 := hid hG1); (replace hG2 := hid hG2); (replace hG4 := hid hG4)
  have rc1 : RdX w3 (.slice an1 ln1 cn1) p1 ∧ RdX w3 (.slice ad1 ld1 cd1) d1 := by
    obtain ⟨_, _, e, ha, hb⟩ := r1.kept k03.out; cases e; exact ⟨ha, hb⟩
  have rc2 : RdX w3 (.slice an2 ln2 cn2) p2 ∧ RdX w3 (.slice ad2 ld2 cd2) d2 := by
    obtain ⟨_, _, e, ha, hb⟩ := r2.kept k03.out; cases e; exact ⟨ha, hb⟩
  (have HM1 := hid (fun (W : World) (k : Kept no w3 W) => natmul_any (.slice an1 ln1 cn1) (.slice an2 ln2 cn2) p1 p2 W h1 h2 hp (rc1.1.kept k) (rc2.1.kept k))); (have HM2 := hid (fun (W : World) (k : Kept no w3 W) => natmul_any (.slice ad1 ld1 cd1) (.slice ad2 ld2 cd2) d1 d2 W h3 h4 hd (rc1.2.kept k) (rc2.2.kept k))); (have HK := hid (fun (W : World) (vp vq : Value) (rp : RdX W vp (p1 * p2)) (rq : RdX W vq (d1 * d2)) => ratmake_any false vp vq (p1 * p2) (d1 * d2) W hp hd rp rq)); (have hs : mkS false (p1 * p2) (d1 * d2) = false := by unfold mkS; split <;> rfl); (rw [hs] at HK); (obtain ⟨P, hP⟩ : ∃ x, mkP (p1 * p2) (d1 * d2) = x := ⟨_, rfl⟩); (obtain ⟨Q, hQ⟩ : ∃ x, mkQ (p1 * p2) (d1 * d2) = x := ⟨_, rfl⟩); (rw [hP, hQ] at HK ⊢); (replace hP := hid hP); (replace hQ := hid hQ); (have c1' := slotR gA.out); (have c2' := slotR gB.out); (have c10 := hid c1'.1); (have c11 := hid c1'.2.1); (have c12 := hid c1'.2.2); (have c20 := hid c2'.1); (have c21 := hid c2'.2.1); (have c22 := hid c2'.2.2); (have hSl : ∀ j k : Nat, (fun (_ k : Nat) => k = G4) j k → k < w3.heap.size := fun j k h => by have := hGG.out; have h : k = G4 := h; omega); (clear r1 r2 g1 k1 e1 g2 k2 e2 g3 k3 e3 rc1 rc2 h1 h2 h3 h4 hp hd hs c1' c2')
  go_enter Tryz.func168, Tryz.ntmps168
  (go_upto_region 1 with fail); (rw [← hw1.out, hG1.out]); (try rw [q1.out]); (rw [← hw2.out]); (try rw [q2.out]); (rw [← hw3.out]); (refine region_flow (S := (fun k => k = G4)) (Sl := (fun _ k => k = G4)) [Is (.pointer (some ⟨G1, 0, none⟩)), Is (.bool false), Is (.pointer (some ⟨G2, 0, none⟩)), Is (.bool false), Is (.bool false), Is (.pointer (some ⟨G1, 1, none⟩)), Is (.slice an1 ln1 cn1), Is (.pointer (some ⟨G2, 1, none⟩)), Is (.slice an2 ln2 cn2), PU w3.drew (p1 * p2), Is (.pointer (some ⟨G1, 2, none⟩)), Is (.slice ad1 ld1 cd1), Is (.pointer (some ⟨G2, 2, none⟩)), Is (.slice ad2 ld2 cd2), PU w3.drew (d1 * d2), PRa w3.heap.size false P Q hSl, PStr 15 G4 (fun _ => false) (fun _ h => by cases h)] [16] (fun _ _ h => h) _ (by kernel_rfl) (by kernel_rfl) (by kernel_rfl) (by kernel_rfl) (fun x => by simp only [puts, Act.put, List.map_cons, List.map_nil, Nat.zero_add, Nat.reduceAdd, List.setIfInBounds_toArray, List.set_cons_zero, List.set_cons_succ]; exact rfl) ?_ ?_)
  · (skip); (refine .cons (fun x wf Kk hq hdep hold => ?_) ?_)
    · (try dsimp only); (clear hq hdep hold); (refine opv rfl ?_); (first | rfl | go_simp)
    refine .cons (fun x wf Kk hq hdep hold => ?_) ?_
    · (try dsimp only); (have h0 : x 0 = _ := hdep 0 (by kernel_rfl)); (have Kq := hq no (fun _ hj => (noMem (by kernel_rfl) hj).elim)); (clear hq hdep hold); (simp only [h0]); (clear h0); (have m_c10 := Kq.undrew.cell c10.out id); (refine opv rfl ?_); (first | rfl | go_simp)
    refine .cons (fun x wf Kk hq hdep hold => ?_) ?_
    · (try dsimp only); (clear hq hdep hold); (refine opv rfl ?_); (first | rfl | go_simp)
    refine .cons (fun x wf Kk hq hdep hold => ?_) ?_
    · (try dsimp only); (have h2 : x 2 = _ := hdep 2 (by kernel_rfl)); (have Kq := hq no (fun _ hj => (noMem (by kernel_rfl) hj).elim)); (clear hq hdep hold); (simp only [h2]); (clear h2); (have m_c20 := Kq.undrew.cell c20.out id); (refine opv rfl ?_); (first | rfl | go_simp)
    refine .cons (fun x wf Kk hq hdep hold => ?_) ?_
    · (try dsimp only); (have h1 : x 1 = _ := hdep 1 (by kernel_rfl)); (have h3 : x 3 = _ := hdep 3 (by kernel_rfl)); (clear hq hdep hold); (simp only [h1, h3]); (clear h1 h3); (refine opv rfl ?_); (first | rfl | go_simp)
    refine .cons (fun x wf Kk hq hdep hold => ?_) ?_
    · (try dsimp only); (clear hq hdep hold); (refine opv rfl ?_); (first | rfl | go_simp)
    refine .cons (fun x wf Kk hq hdep hold => ?_) ?_
    · (try dsimp only); (have h5 : x 5 = _ := hdep 5 (by kernel_rfl)); (have Kq := hq no (fun _ hj => (noMem (by kernel_rfl) hj).elim)); (clear hq hdep hold); (simp only [h5]); (clear h5); (have m_c11 := Kq.undrew.cell c11.out id); (refine opv rfl ?_); (first | rfl | go_simp)
    refine .cons (fun x wf Kk hq hdep hold => ?_) ?_
    · (try dsimp only); (clear hq hdep hold); (refine opv rfl ?_); (first | rfl | go_simp)
    refine .cons (fun x wf Kk hq hdep hold => ?_) ?_
    · (try dsimp only); (have h7 : x 7 = _ := hdep 7 (by kernel_rfl)); (have Kq := hq no (fun _ hj => (noMem (by kernel_rfl) hj).elim)); (clear hq hdep hold); (simp only [h7]); (clear h7); (have m_c21 := Kq.undrew.cell c21.out id); (refine opv rfl ?_); (first | rfl | go_simp)
    refine .cons (fun x wf Kk hq hdep hold => ?_) ?_
    · (try dsimp only); (have h6 : x 6 = _ := hdep 6 (by kernel_rfl)); (have h8 : x 8 = _ := hdep 8 (by kernel_rfl)); (have Kq := hq no (fun _ hj => (noMem (by kernel_rfl) hj).elim)); (clear hq hdep hold); (simp only [h6, h8]); (clear h6 h8); (rw [if_pos (by rfl)]); (refine OpY.call (f := 172) (args := #[(.slice an1 ln1 cn1), (.slice an2 ln2 cn2)]) (by go_simp) ?_); (refine (HM1.out wf Kq.undrew).mono ?_); (rintro e w2 ⟨v, rfl, o⟩); (exact ⟨_, rfl, o.kept, o.from_ Kq⟩)
    refine .cons (fun x wf Kk hq hdep hold => ?_) ?_
    · (try dsimp only); (clear hq hdep hold); (refine opv rfl ?_); (first | rfl | go_simp)
    refine .cons (fun x wf Kk hq hdep hold => ?_) ?_
    · (try dsimp only); (have h10 : x 10 = _ := hdep 10 (by kernel_rfl)); (have Kq := hq no (fun _ hj => (noMem (by kernel_rfl) hj).elim)); (clear hq hdep hold); (simp only [h10]); (clear h10); (have m_c12 := Kq.undrew.cell c12.out id); (refine opv rfl ?_); (first | rfl | go_simp)
    refine .cons (fun x wf Kk hq hdep hold => ?_) ?_
    · (try dsimp only); (clear hq hdep hold); (refine opv rfl ?_); (first | rfl | go_simp)
    refine .cons (fun x wf Kk hq hdep hold => ?_) ?_
    · (try dsimp only); (have h12 : x 12 = _ := hdep 12 (by kernel_rfl)); (have Kq := hq no (fun _ hj => (noMem (by kernel_rfl) hj).elim)); (clear hq hdep hold); (simp only [h12]); (clear h12); (have m_c22 := Kq.undrew.cell c22.out id); (refine opv rfl ?_); (first | rfl | go_simp)
    refine .cons (fun x wf Kk hq hdep hold => ?_) ?_
    · (try dsimp only); (have h11 : x 11 = _ := hdep 11 (by kernel_rfl)); (have h13 : x 13 = _ := hdep 13 (by kernel_rfl)); (have Kq := hq no (fun _ hj => (noMem (by kernel_rfl) hj).elim)); (clear hq hdep hold); (simp only [h11, h13]); (clear h11 h13); (rw [if_pos (by rfl)]); (refine OpY.call (f := 172) (args := #[(.slice ad1 ld1 cd1), (.slice ad2 ld2 cd2)]) (by go_simp) ?_); (refine (HM2.out wf Kq.undrew).mono ?_); (rintro e w2 ⟨v, rfl, o⟩); (exact ⟨_, rfl, o.kept, o.from_ Kq⟩)
    refine .cons (fun x wf Kk hq hdep hold => ?_) ?_
    · (try dsimp only); (have h4 : x 4 = _ := hdep 4 (by kernel_rfl)); (have p9 : Pr.p (Sl := (fun _ k => k = G4)) (PU w3.drew (p1 * p2)) (x 9) wf := hdep 9 (by kernel_rfl)); (have p14 : Pr.p (Sl := (fun _ k => k = G4)) (PU w3.drew (d1 * d2)) (x 14) wf := hdep 14 (by kernel_rfl)); (have Kq := hq no (fun _ hj => (noMem (by kernel_rfl) hj).elim)); (clear hq hdep hold); (simp only [h4]); (clear h4); (rw [if_pos (by rfl)]); (refine OpY.call (f := 113) (args := #[(.bool false), x 9, x 14]) (by go_simp) ?_); (refine (HK.out wf (x 9) (x 14) p9.rd p14.rd).mono ?_); (rintro e w2 ⟨v, rfl, o⟩); (have ok := o.kept); (obtain ⟨vn, vd, rfl, on, od⟩ := o); (exact ⟨_, rfl, ok, vn, vd, rfl, ⟨on.own, on.new.fr Kq.undrew.size⟩, od.own, od.new.fr Kq.undrew.size⟩)
    refine .cons (fun x wf Kk hq hdep hold => ?_) ?_
    · (try dsimp only); (have p15 : Pr.p (Sl := (fun _ k => k = G4)) (PRa w3.heap.size false P Q hSl) (x 15) wf := hdep 15 (by kernel_rfl)); (have Kq := hq no (fun _ hj => (noMem (by kernel_rfl) hj).elim)); (clear hq hdep hold); (rw [if_pos (by rfl)]); (obtain ⟨vn, vd, e9, on, od⟩ := p15); (obtain ⟨ua, uc, rfl⟩ := RdU.shape (Rd.of_own on.1)); (obtain ⟨va, vc, rfl⟩ := RdU.shape (Rd.of_own od.1)); (rw [e9]); (have hb : wf.heap[G4]? = _ := Kq.undrew.blk gD.out); (obtain ⟨m0, m1, m2⟩ := slotR hb); (have q0 := row_free hb 0); (have q1 := row_free hb 1); (have q2 := row_free hb 2); (refine OpY.skipZ (w' := ((wf.setCell ⟨G4, 0, none⟩ (.bool false)).setCell ⟨G4, 1, none⟩ (.slice ua (nl P).length uc)).setCell ⟨G4, 2, none⟩ (.slice va (nl Q).length vc)) (by go_simp) ⟨(((Kept.refl (fun k => k = G4) wf).setCell (a := ⟨G4, 0, none⟩) (.inl rfl) (.bool false)).setCell (a := ⟨G4, 1, none⟩) (.inl rfl) (.slice ua (nl P).length uc)).setCell (a := ⟨G4, 2, none⟩) (.inl rfl) (.slice va (nl Q).length vc), _, _, _, e9, set3_row hb (.bool false) (.slice ua (nl P).length uc) (.slice va (nl Q).length vc)⟩)
    exact .nil _
  · (intro x wf Kk hv); (try dsimp only); (have p15 : Pr.p (Sl := (fun _ k => k = G4)) (PRa w3.heap.size false P Q hSl) (x 15) wf := hv 15 (by kernel_rfl)); (have p16 : Pr.r (Sl := (fun _ k => k = G4)) (PStr 15 G4 (fun _ => false) (fun _ h => by cases h)) (x 15) (x 16) wf := hv 16 (by kernel_rfl)); (clear hv); (obtain ⟨a, b, c, ex, hb⟩ := p16); (have oo := p15); (obtain ⟨wa, hwa⟩ : ∃ W, W = wf := ⟨_, rfl⟩); (subst hwa); (rw [ex] at oo); (have kq := Kk.undrew); (have k0a : Hd (Kept no w wa) := ⟨k03.out.trans kq fun k hk (h : k = G4) => by have := hGG.out; omega⟩); (have oR := hid (OwA.own1 oo k0a.out (by have := k03.out.size; exact this))); (have hb' := hid hb); (clear kq hb oo ex p15 Kk); (go_wp2); (refine bodyPost_ret (v := .agg #[a, b, c]) ?_ rfl ?_)
    · exact results_rat rfl _ _ G4 [a, b, c] rfl rfl hb'.out
    · exact ⟨_, rfl, oR.out⟩
set_option maxRecDepth 100000 in
set_option maxHeartbeats 4000000 in
theorem ratdiv_any (v1 v2 : Value) (n1 n2 : Nat) (w : World) (h1 : n1 < 4294967296) (h2 : n2 < 4294967296) (h0 : n2 ≠ 0) (r1 : RdR w v1 false n1 1) (r2 : RdR w v2 false n2 1) :
    Calls Tryz.prog 174 #[v1, v2] w fun e w' => ∃ v, e = .returned (.tuple #[v, .bool true]) ∧ OwR w w' v false (mkP n1 n2) (mkQ n1 n2) := by
  (obtain ⟨an1, ln1, cn1, ad1, ld1, cd1, rfl⟩ := shapeR r1); (obtain ⟨an2, ln2, cn2, ad2, ld2, cd2, rfl⟩ := shapeR r2); (obtain ⟨w1, hw1, g1, k1⟩ := alloc_named w (.cells #[.bool false, .slice an1 ln1 cn1, .slice ad1 ld1 cd1] 76)); (have e1 : w1.heap.size = w.heap.size + 1 := by rw [hw1]; simp); (obtain ⟨w2, hw2, g2, k2⟩ := alloc_named w1 (.cells #[.bool false, .slice an2 ln2 cn2, .slice ad2 ld2 cd2] 76)); (have e2 : w2.heap.size = w1.heap.size + 1 := by rw [hw2]; simp); (obtain ⟨w3, hw3, g3, k3⟩ := alloc_named w2 (.cells #[.bool false, .slice none 0 0, .slice none 0 0] 76)); (have e3 : w3.heap.size = w2.heap.size + 1 := by rw [hw3]; simp); (have k03 := hid ((k1.trans' k2).trans' k3)); (have gA := hid ((k2.trans' k3).blk g1)); (have gB := hid (k3.blk g2)); (have gD := hid g3); (obtain ⟨G1, hG1⟩ : ∃ g, w.heap.size = g := ⟨_, rfl⟩); (obtain ⟨G2, hG2⟩ : ∃ g, w1.heap.size = g := ⟨_, rfl⟩); (obtain ⟨G4, hG4⟩ : ∃ g, w2.heap.size = g := ⟨_, rfl⟩); (rw [hG1] at gA); (rw [hG2] at gB); (rw [hG4] at gD); (have hGG : Hd (w.heap.size ≤ G1 ∧ G1 < w3.heap.size ∧ G2 < w3.heap.size ∧ G1 ≠ G2 ∧ w.heap.size ≤ G2 ∧ G4 ≠ G1 ∧ G4 ≠ G2 ∧ w.heap.size ≤ G4 ∧ G4 < w3.heap.size) := ⟨by omega⟩); (have q1 : Hd (G1 + 1 = G2) := ⟨by omega⟩); (have q2 : Hd (G2 + 1 = G4) := ⟨by omega⟩); (replace hw1 := hid hw1); (replace hw2 := hid hw2); (replace hw3 := hid hw3); (replace hG1 := hid hG1); (replace hG2 := hid hG2); (replace hG4 := hid hG4); (have hr1 := hid (rngR gA.out)); (have hr2 := hid (rngR gB.out)); (have HN1 := fun (W : World) (k : Kept no w3 W) => ratnorm_any _ false n1 1 W h1 (by decide) ((r1.kept k03.out).kept k)); (have HN2 := fun (W : World) (k : Kept no w3 W) => ratnorm_any _ false n2 1 W h2 (by decide) ((r2.kept k03.out).kept k)); (obtain ⟨a1, a2, a3⟩ := mk_one false n1); (obtain ⟨b1, b2, b3⟩ := mk_one false n2); (rw [a1, a2, a3, ite_self] at HN1); (rw [b1, b2, b3, ite_self] at HN2); (replace HN1 := hid HN1); (replace HN2 := hid HN2)
  have hSl : ∀ j k, SLr G1 G2 j k → k < w3.heap.size := fun j k h => by
    have := hGG.out
    rcases h with ⟨_, rfl⟩ | ⟨_, rfl⟩
    · exact this.2.1
    · exact this.2.2.1
  have hs1 : ∀ j, (fun j => j == 5) j = true → ¬ SLr G1 G2 j G1 := fun j h hh => by
    (have hj : j = 5 := by simpa using h); (have := hGG.out)
    rcases hh with ⟨h, _⟩ | ⟨_, h⟩ <;> omega
  have hs2 : ∀ j, (fun j => j == 4) j = true → ¬ SLr G1 G2 j G2 := fun j h hh => by
    (have hj : j = 4 := by simpa using h); (have := hGG.out)
    rcases hh with ⟨_, h⟩ | ⟨h, _⟩ <;> omega
  (have HK := hid (fun (W : World) (vp vq : Value) (rp : RdX W vp (n1 * 1)) (rq : RdX W vq (1 * n2)) => ratmake_any false vp vq (n1 * 1) (1 * n2) W (by omega) (by omega) rp rq)); (have hs : mkS false (n1 * 1) (1 * n2) = false := by unfold mkS; split <;> rfl); (rw [hs] at HK); (have eP : mkP (n1 * 1) (1 * n2) = mkP n1 n2 := by rw [Nat.mul_one, Nat.one_mul]); (have eQ : mkQ (n1 * 1) (1 * n2) = mkQ n1 n2 := by rw [Nat.mul_one, Nat.one_mul]); (rw [eP, eQ] at HK); (obtain ⟨P, hP⟩ : ∃ x, mkP n1 n2 = x := ⟨_, rfl⟩); (obtain ⟨Q, hQ⟩ : ∃ x, mkQ n1 n2 = x := ⟨_, rfl⟩); (rw [hP, hQ] at HK ⊢); (replace hP := hid hP); (replace hQ := hid hQ); (have h1' := hid h1); (have h2' := hid h2); (have h0' := hid h0); (clear r1 r2 g1 k1 e1 g2 k2 e2 g3 k3 e3 h1 h2 h0 hs eP eQ a1 a2 a3 b1 b2 b3)
  go_enter Tryz.func174, Tryz.ntmps174
  (go_upto_region 1 with fail); (rw [← hw1.out, hG1.out]); (try rw [q1.out]); (rw [← hw2.out]); (try rw [q2.out]); (rw [← hw3.out]); (refine region_flow (S := (fun k => k = G1 ∨ k = G2)) (Sl := (SLr G1 G2)) [Is (.agg #[.bool false, .slice an1 ln1 cn1, .slice ad1 ld1 cd1]), PRa w3.heap.size false n1 1 hSl, Is (.agg #[.bool false, .slice an2 ln2 cn2, .slice ad2 ld2 cd2]), PRa w3.heap.size false n2 1 hSl, PStr 1 G1 (fun j => j == 5) hs1, PStr 3 G2 (fun j => j == 4) hs2] [4, 5] (fun _ _ h => h.imp And.right And.right) _ (by kernel_rfl) (by kernel_rfl) (by kernel_rfl) (by kernel_rfl) (fun x => by simp only [puts, Act.put, List.map_cons, List.map_nil, Nat.zero_add, Nat.reduceAdd, List.setIfInBounds_toArray, List.set_cons_zero, List.set_cons_succ]; exact rfl) ?_ ?_)
  · (skip); (refine .cons (fun x wf Kk hq hdep hold => ?_) ?_)
    · (try dsimp only); (have Kq := hq no (fun _ hj => (noMem (by kernel_rfl) hj).elim)); (clear hq hdep hold); (rw [if_pos (by rfl)]); (exact OpY.row 76 (.tmp 2) rfl G1 (0) rfl ([.bool false, .slice an1 ln1 cn1, .slice ad1 ld1 cd1] : List Value) _ (Kq.undrew.rng hr1.out) Tryz.underlying76 rfl (by kernel_rfl) ⟨Kept.refl _ _, rfl⟩)
    refine .cons (fun x wf Kk hq hdep hold => ?_) ?_
    · (try dsimp only); (have h0 : x 0 = _ := hdep 0 (by kernel_rfl)); (have Kq := hq no (fun _ hj => (noMem (by kernel_rfl) hj).elim)); (clear hq hdep hold); (simp only [h0]); (clear h0); (rw [if_pos (by rfl)]); (refine OpY.call (f := 170) (args := #[(.agg #[.bool false, .slice an1 ln1 cn1, .slice ad1 ld1 cd1])]) (by go_simp) ?_); (refine (HN1.out wf Kq.undrew).mono ?_); (rintro e w2 ⟨v, rfl, o⟩); (have ok := o.kept); (obtain ⟨vn, vd, rfl, on, od⟩ := o); (exact ⟨_, rfl, ok, vn, vd, rfl, ⟨on.own, on.new.fr Kq.undrew.size⟩, od.own, od.new.fr Kq.undrew.size⟩)
    refine .cons (fun x wf Kk hq hdep hold => ?_) ?_
    · (try dsimp only); (have Kq := hq no (fun _ hj => (noMem (by kernel_rfl) hj).elim)); (clear hq hdep hold); (rw [if_pos (by rfl)]); (exact OpY.row 76 (.tmp 3) rfl G2 (0) rfl ([.bool false, .slice an2 ln2 cn2, .slice ad2 ld2 cd2] : List Value) _ (Kq.undrew.rng hr2.out) Tryz.underlying76 rfl (by kernel_rfl) ⟨Kept.refl _ _, rfl⟩)
    refine .cons (fun x wf Kk hq hdep hold => ?_) ?_
    · (try dsimp only); (have h2 : x 2 = _ := hdep 2 (by kernel_rfl)); (have Kq := hq no (fun _ hj => (noMem (by kernel_rfl) hj).elim)); (clear hq hdep hold); (simp only [h2]); (clear h2); (rw [if_pos (by rfl)]); (refine OpY.call (f := 170) (args := #[(.agg #[.bool false, .slice an2 ln2 cn2, .slice ad2 ld2 cd2])]) (by go_simp) ?_); (refine (HN2.out wf Kq.undrew).mono ?_); (rintro e w2 ⟨v, rfl, o⟩); (have ok := o.kept); (obtain ⟨vn, vd, rfl, on, od⟩ := o); (exact ⟨_, rfl, ok, vn, vd, rfl, ⟨on.own, on.new.fr Kq.undrew.size⟩, od.own, od.new.fr Kq.undrew.size⟩)
    refine .cons (fun x wf Kk hq hdep hold => ?_) ?_
    · (try dsimp only); (have p1 : Pr.p (Sl := (SLr G1 G2)) (PRa w3.heap.size false n1 1 hSl) (x 1) wf := hdep 1 (by kernel_rfl)); (have Kq := hq no (fun _ hj => (noMem (by kernel_rfl) hj).elim)); (clear hq hdep hold); (rw [if_pos (by rfl)]); (obtain ⟨vn, vd, e9, on, od⟩ := p1); (obtain ⟨ua, uc, rfl⟩ := RdU.shape (Rd.of_own on.1)); (obtain ⟨va, vc, rfl⟩ := RdU.shape (Rd.of_own od.1)); (rw [e9]); (have hb : wf.heap[G1]? = _ := Kq.undrew.blk gA.out); (obtain ⟨m0, m1, m2⟩ := slotR hb); (have q0 := row_free hb 0); (have q1 := row_free hb 1); (have q2 := row_free hb 2); (refine OpY.skipZ (w' := ((wf.setCell ⟨G1, 0, none⟩ (.bool false)).setCell ⟨G1, 1, none⟩ (.slice ua (nl n1).length uc)).setCell ⟨G1, 2, none⟩ (.slice va (nl 1).length vc)) (by go_simp) ⟨(((Kept.refl (SLr G1 G2 4) wf).setCell (a := ⟨G1, 0, none⟩) (.inl (Or.inl ⟨rfl, rfl⟩)) (.bool false)).setCell (a := ⟨G1, 1, none⟩) (.inl (Or.inl ⟨rfl, rfl⟩)) (.slice ua (nl n1).length uc)).setCell (a := ⟨G1, 2, none⟩) (.inl (Or.inl ⟨rfl, rfl⟩)) (.slice va (nl 1).length vc), _, _, _, e9, set3_row hb (.bool false) (.slice ua (nl n1).length uc) (.slice va (nl 1).length vc)⟩)
    refine .cons (fun x wf Kk hq hdep hold => ?_) ?_
    · (try dsimp only); (have p3 : Pr.p (Sl := (SLr G1 G2)) (PRa w3.heap.size false n2 1 hSl) (x 3) wf := hdep 3 (by kernel_rfl)); (have Kq := hq (fun k => k = G1) (fun j hj k hk => by (have e : ∀ l : List Nat, l = [4] → j ∈ l → j ∈ ([4] : List Nat) := fun l h h2 => h ▸ h2); have hj := e _ (by kernel_rfl) hj; obtain rfl := List.mem_singleton.1 hj; rcases hk with h | h; exact h.2; exact absurd h.1 (by decide))); (clear hq hdep hold); (rw [if_pos (by rfl)]); (obtain ⟨vn, vd, e9, on, od⟩ := p3); (obtain ⟨ua, uc, rfl⟩ := RdU.shape (Rd.of_own on.1)); (obtain ⟨va, vc, rfl⟩ := RdU.shape (Rd.of_own od.1)); (rw [e9]); (have hb : wf.heap[G2]? = _ := (Kq.undrew.block G2 (lt_of_heap gB.out) (fun h => hGG.out.2.2.2.1 h.symm)).trans gB.out); (obtain ⟨m0, m1, m2⟩ := slotR hb); (have q0 := row_free hb 0); (have q1 := row_free hb 1); (have q2 := row_free hb 2); (refine OpY.skipZ (w' := ((wf.setCell ⟨G2, 0, none⟩ (.bool false)).setCell ⟨G2, 1, none⟩ (.slice ua (nl n2).length uc)).setCell ⟨G2, 2, none⟩ (.slice va (nl 1).length vc)) (by go_simp) ⟨(((Kept.refl (SLr G1 G2 5) wf).setCell (a := ⟨G2, 0, none⟩) (.inl (Or.inr ⟨rfl, rfl⟩)) (.bool false)).setCell (a := ⟨G2, 1, none⟩) (.inl (Or.inr ⟨rfl, rfl⟩)) (.slice ua (nl n2).length uc)).setCell (a := ⟨G2, 2, none⟩) (.inl (Or.inr ⟨rfl, rfl⟩)) (.slice va (nl 1).length vc), _, _, _, e9, set3_row hb (.bool false) (.slice ua (nl n2).length uc) (.slice va (nl 1).length vc)⟩)
    exact .nil _
  · (intro x wf Kk hv); (try dsimp only); (have p1 : Pr.p (Sl := (SLr G1 G2)) (PRa w3.heap.size false n1 1 hSl) (x 1) wf := hv 1 (by kernel_rfl)); (have p3 : Pr.p (Sl := (SLr G1 G2)) (PRa w3.heap.size false n2 1 hSl) (x 3) wf := hv 3 (by kernel_rfl)); (have p4 : Pr.r (Sl := (SLr G1 G2)) (PStr 1 G1 (fun j => j == 5) hs1) (x 1) (x 4) wf := hv 4 (by kernel_rfl)); (have p5 : Pr.r (Sl := (SLr G1 G2)) (PStr 3 G2 (fun j => j == 4) hs2) (x 3) (x 5) wf := hv 5 (by kernel_rfl)); (clear hv); (obtain ⟨x10, x11, x12, ex1, hb1⟩ := p4); (obtain ⟨y10, y11, y12, ey1, hb2⟩ := p5); (obtain ⟨u1, u2, eu, ou1, ou2⟩ := p1); (obtain ⟨t3, t4, et, ot1, ot2⟩ := p3); (rw [eu] at ex1); (rw [et] at ey1)
    cases ex1
    cases ey1
    (have kq := Kk.undrew); (obtain ⟨wa, hwa⟩ : ∃ W, W = wf := ⟨_, rfl⟩); (subst hwa); (have gA2 := hid hb1); (have gB2 := hid hb2); (have gD2 : Hd (wa.heap[G4]? = some (.cells #[.bool false, .slice none 0 0, .slice none 0 0] 76 (0, 0))) := ⟨(kq.block G4 (lt_of_heap gD.out) (fun h => by have := hGG.out; rcases h with h | h <;> omega)).trans gD.out⟩); (have k0a : Hd (Kept no w wa) := ⟨k03.out.trans kq fun k hk h => by have := hGG.out; rcases h with h | h <;> omega⟩); (have hwa3 : Hd (w3.heap.size ≤ wa.heap.size) := ⟨kq.size⟩); (have ru1 : RdX wa x11 n1 := Rd.of_own ou1.1); (have ru2 : RdX wa x12 1 := Rd.of_own ou2.1); (have rt1 : RdX wa y11 n2 := Rd.of_own ot1.1); (have rt2 : RdX wa y12 1 := Rd.of_own ot2.1); (obtain ⟨xa, xc, hxe⟩ := RdU.shape ru1); (obtain ⟨ya, yc, hye⟩ := RdU.shape ru2); (obtain ⟨xa2, xc2, hxe2⟩ := RdU.shape rt1); (obtain ⟨ya2, yc2, hye2⟩ := RdU.shape rt2); (obtain ⟨xl, hxl⟩ : ∃ l, (nl n1).length = l := ⟨_, rfl⟩); (obtain ⟨yl, hyl⟩ : ∃ l, (nl 1).length = l := ⟨_, rfl⟩); (have hx2n : (nl n2).length = 1 := by have := h0'.out; have h9 := @nl_len0 n2; unfold nl; rw [if_neg this]; rfl); (rw [hxl] at hxe); (rw [hyl] at hye hye2); (rw [hx2n] at hxe2); (subst hxe hye hxe2 hye2); (have HM1 := hid (fun (W : World) (k : Kept no wa W) => natmul_any (.slice xa xl xc) (.slice ya2 yl yc2) n1 1 W h1'.out (by decide) (by have := h1'.out; omega) (ru1.kept k) (rt2.kept k))); (have HM2 := hid (fun (W : World) (k : Kept no wa W) => natmul_any (.slice ya yl yc) (.slice xa2 1 xc2) 1 n2 W (by decide) h2'.out (by have := h2'.out; omega) (ru2.kept k) (rt1.kept k))); (obtain ⟨c10', c11', c12'⟩ := slotR gA2.out); (obtain ⟨c20', c21', c22'⟩ := slotR gB2.out); (have c10 := hid c10'); (have c11 := hid c11'); (have c12 := hid c12'); (have c20 := hid c20'); (have c22 := hid c22'); (have c21 := hid c21'); (rw [eu, et]); (have hSl2 : ∀ j k : Nat, (fun (_ k : Nat) => k = G4) j k → k < w3.heap.size := fun j k h => by have := hGG.out; have h : k = G4 := h; omega); (clear c10' c11' c12' c20' c22' Kk kq hb1 hb2 eu et ou1 ou2 ot1 ot2 ru1 ru2 rt1 rt2 hxl hyl hr1 hr2 HN1 HN2 gA gB hSl hs1 hs2 hx2n); (have gD := hid gD2.out); (clear gD2); (go_upto_region 4 with fail); (clear c21'); (refine region_flow (S := (fun k => k = G4)) (Sl := (fun _ k => k = G4)) [Is (.pointer (some ⟨G1, 0, none⟩)), Is (.bool false), Is (.pointer (some ⟨G2, 0, none⟩)), Is (.bool false), Is (.bool false), Is (.pointer (some ⟨G1, 1, none⟩)), Is (.slice xa xl xc), Is (.pointer (some ⟨G2, 2, none⟩)), Is (.slice ya2 yl yc2), PU wa.drew (n1 * 1), Is (.pointer (some ⟨G1, 2, none⟩)), Is (.slice ya yl yc), Is (.pointer (some ⟨G2, 1, none⟩)), Is (.slice xa2 1 xc2), PU wa.drew (1 * n2), PRa w3.heap.size false P Q hSl2, PStr 15 G4 (fun _ => false) (fun _ h => by cases h), Is (.bool true)] [16] (fun _ _ h => h) _ (by kernel_rfl) (by kernel_rfl) (by kernel_rfl) (by kernel_rfl) (fun x => by simp only [puts, Act.put, List.map_cons, List.map_nil, Nat.zero_add, Nat.reduceAdd, List.setIfInBounds_toArray, List.set_cons_zero, List.set_cons_succ]; exact rfl) ?_ ?_)
    · (skip); (refine .cons (fun x wf Kk hq hdep hold => ?_) ?_)
      · (try dsimp only); (clear hq hdep hold); (refine opv rfl ?_); (first | rfl | go_simp)
      refine .cons (fun x wf Kk hq hdep hold => ?_) ?_
      · (try dsimp only); (have h0 : x 0 = _ := hdep 0 (by kernel_rfl)); (have Kq := hq no (fun _ hj => (noMem (by kernel_rfl) hj).elim)); (clear hq hdep hold); (simp only [h0]); (clear h0); (have m_c10 := Kq.undrew.cell c10.out id); (refine opv rfl ?_); (first | rfl | go_simp)
      refine .cons (fun x wf Kk hq hdep hold => ?_) ?_
      · (try dsimp only); (clear hq hdep hold); (refine opv rfl ?_); (first | rfl | go_simp)
      refine .cons (fun x wf Kk hq hdep hold => ?_) ?_
      · (try dsimp only); (have h2 : x 2 = _ := hdep 2 (by kernel_rfl)); (have Kq := hq no (fun _ hj => (noMem (by kernel_rfl) hj).elim)); (clear hq hdep hold); (simp only [h2]); (clear h2); (have m_c20 := Kq.undrew.cell c20.out id); (refine opv rfl ?_); (first | rfl | go_simp)
      refine .cons (fun x wf Kk hq hdep hold => ?_) ?_
      · (try dsimp only); (have h1 : x 1 = _ := hdep 1 (by kernel_rfl)); (have h3 : x 3 = _ := hdep 3 (by kernel_rfl)); (clear hq hdep hold); (simp only [h1, h3]); (clear h1 h3); (refine opv rfl ?_); (first | rfl | go_simp)
      refine .cons (fun x wf Kk hq hdep hold => ?_) ?_
      · (try dsimp only); (clear hq hdep hold); (refine opv rfl ?_); (first | rfl | go_simp)
      refine .cons (fun x wf Kk hq hdep hold => ?_) ?_
      · (try dsimp only); (have h5 : x 5 = _ := hdep 5 (by kernel_rfl)); (have Kq := hq no (fun _ hj => (noMem (by kernel_rfl) hj).elim)); (clear hq hdep hold); (simp only [h5]); (clear h5); (have m_c11 := Kq.undrew.cell c11.out id); (refine opv rfl ?_); (first | rfl | go_simp)
      refine .cons (fun x wf Kk hq hdep hold => ?_) ?_
      · (try dsimp only); (clear hq hdep hold); (refine opv rfl ?_); (first | rfl | go_simp)
      refine .cons (fun x wf Kk hq hdep hold => ?_) ?_
      · (try dsimp only); (have h7 : x 7 = _ := hdep 7 (by kernel_rfl)); (have Kq := hq no (fun _ hj => (noMem (by kernel_rfl) hj).elim)); (clear hq hdep hold); (simp only [h7]); (clear h7); (have m_c22 := Kq.undrew.cell c22.out id); (refine opv rfl ?_); (first | rfl | go_simp)
      refine .cons (fun x wf Kk hq hdep hold => ?_) ?_
      · (try dsimp only); (have h6 : x 6 = _ := hdep 6 (by kernel_rfl)); (have h8 : x 8 = _ := hdep 8 (by kernel_rfl)); (have Kq := hq no (fun _ hj => (noMem (by kernel_rfl) hj).elim)); (clear hq hdep hold); (simp only [h6, h8]); (clear h6 h8); (rw [if_pos (by rfl)]); (refine OpY.call (f := 172) (args := #[(.slice xa xl xc), (.slice ya2 yl yc2)]) (by go_simp) ?_); (refine (HM1.out wf Kq.undrew).mono ?_); (rintro e w2 ⟨v, rfl, o⟩); (exact ⟨_, rfl, o.kept, o.from_ Kq⟩)
      refine .cons (fun x wf Kk hq hdep hold => ?_) ?_
      · (try dsimp only); (clear hq hdep hold); (refine opv rfl ?_); (first | rfl | go_simp)
      refine .cons (fun x wf Kk hq hdep hold => ?_) ?_
      · (try dsimp only); (have h10 : x 10 = _ := hdep 10 (by kernel_rfl)); (have Kq := hq no (fun _ hj => (noMem (by kernel_rfl) hj).elim)); (clear hq hdep hold); (simp only [h10]); (clear h10); (have m_c12 := Kq.undrew.cell c12.out id); (refine opv rfl ?_); (first | rfl | go_simp)
      refine .cons (fun x wf Kk hq hdep hold => ?_) ?_
      · (try dsimp only); (clear hq hdep hold); (refine opv rfl ?_); (first | rfl | go_simp)
      refine .cons (fun x wf Kk hq hdep hold => ?_) ?_
      · (try dsimp only); (have h12 : x 12 = _ := hdep 12 (by kernel_rfl)); (have Kq := hq no (fun _ hj => (noMem (by kernel_rfl) hj).elim)); (clear hq hdep hold); (simp only [h12]); (clear h12); (have m_c21 := Kq.undrew.cell c21.out id); (refine opv rfl ?_); (first | rfl | go_simp)
      refine .cons (fun x wf Kk hq hdep hold => ?_) ?_
      · (try dsimp only); (have h11 : x 11 = _ := hdep 11 (by kernel_rfl)); (have h13 : x 13 = _ := hdep 13 (by kernel_rfl)); (have Kq := hq no (fun _ hj => (noMem (by kernel_rfl) hj).elim)); (clear hq hdep hold); (simp only [h11, h13]); (clear h11 h13); (rw [if_pos (by rfl)]); (refine OpY.call (f := 172) (args := #[(.slice ya yl yc), (.slice xa2 1 xc2)]) (by go_simp) ?_); (refine (HM2.out wf Kq.undrew).mono ?_); (rintro e w2 ⟨v, rfl, o⟩); (exact ⟨_, rfl, o.kept, o.from_ Kq⟩)
      refine .cons (fun x wf Kk hq hdep hold => ?_) ?_
      · (try dsimp only); (have h4 : x 4 = _ := hdep 4 (by kernel_rfl)); (have p9 : Pr.p (Sl := (fun _ k => k = G4)) (PU wa.drew (n1 * 1)) (x 9) wf := hdep 9 (by kernel_rfl)); (have p14 : Pr.p (Sl := (fun _ k => k = G4)) (PU wa.drew (1 * n2)) (x 14) wf := hdep 14 (by kernel_rfl)); (have Kq := hq no (fun _ hj => (noMem (by kernel_rfl) hj).elim)); (clear hq hdep hold); (simp only [h4]); (clear h4); (rw [if_pos (by rfl)]); (refine OpY.call (f := 113) (args := #[(.bool false), x 9, x 14]) (by go_simp) ?_); (refine (HK.out wf (x 9) (x 14) p9.rd p14.rd).mono ?_); (rintro e w2 ⟨v, rfl, o⟩); (have ok := o.kept); (obtain ⟨vn, vd, rfl, on, od⟩ := o); (exact ⟨_, rfl, ok, vn, vd, rfl, ⟨on.own, on.new.fr (Nat.le_trans hwa3.out Kq.undrew.size)⟩, od.own, od.new.fr (Nat.le_trans hwa3.out Kq.undrew.size)⟩)
      refine .cons (fun x wf Kk hq hdep hold => ?_) ?_
      · (try dsimp only); (have p15 : Pr.p (Sl := (fun _ k => k = G4)) (PRa w3.heap.size false P Q hSl2) (x 15) wf := hdep 15 (by kernel_rfl)); (have Kq := hq no (fun _ hj => (noMem (by kernel_rfl) hj).elim)); (clear hq hdep hold); (rw [if_pos (by rfl)]); (obtain ⟨vn, vd, e9, on, od⟩ := p15); (obtain ⟨ua, uc, rfl⟩ := RdU.shape (Rd.of_own on.1)); (obtain ⟨va, vc, rfl⟩ := RdU.shape (Rd.of_own od.1)); (rw [e9]); (have hb : wf.heap[G4]? = _ := Kq.undrew.blk gD.out); (obtain ⟨m0, m1, m2⟩ := slotR hb); (have q0 := row_free hb 0); (have q1 := row_free hb 1); (have q2 := row_free hb 2); (refine OpY.skipZ (w' := ((wf.setCell ⟨G4, 0, none⟩ (.bool false)).setCell ⟨G4, 1, none⟩ (.slice ua (nl P).length uc)).setCell ⟨G4, 2, none⟩ (.slice va (nl Q).length vc)) (by go_simp) ⟨(((Kept.refl (fun k => k = G4) wf).setCell (a := ⟨G4, 0, none⟩) (.inl rfl) (.bool false)).setCell (a := ⟨G4, 1, none⟩) (.inl rfl) (.slice ua (nl P).length uc)).setCell (a := ⟨G4, 2, none⟩) (.inl rfl) (.slice va (nl Q).length vc), _, _, _, e9, set3_row hb (.bool false) (.slice ua (nl P).length uc) (.slice va (nl Q).length vc)⟩)
      refine .cons (fun x wf Kk hq hdep hold => ?_) ?_
      · (try dsimp only); (clear hq hdep hold); (refine opv rfl ?_); (first | rfl | go_simp)
      exact .nil _
    · (intro x wf Kk hv); (try dsimp only); (have p15 : Pr.p (Sl := (fun _ k => k = G4)) (PRa w3.heap.size false P Q hSl2) (x 15) wf := hv 15 (by kernel_rfl)); (have p16 : Pr.r (Sl := (fun _ k => k = G4)) (PStr 15 G4 (fun _ => false) (fun _ h => by cases h)) (x 15) (x 16) wf := hv 16 (by kernel_rfl)); (have h17 : x 17 = _ := hv 17 (by kernel_rfl)); (clear hv); (simp only [h17]); (clear h17); (obtain ⟨a, b, c, ex, hb⟩ := p16); (have oo := p15); (obtain ⟨wb, hwb⟩ : ∃ W, W = wf := ⟨_, rfl⟩); (subst hwb); (rw [ex] at oo); (have kq := Kk.undrew); (have k0b : Hd (Kept no w wb) := ⟨k0a.out.trans kq fun k hk (h : k = G4) => by have := hGG.out; omega⟩); (have oR := hid (OwA.own1 oo k0b.out (by have := k03.out.size; exact this))); (have hb' := hid hb); (clear kq hb oo ex p15 Kk); (go_wp2); (refine bodyPost_ret (v := .tuple #[.agg #[a, b, c], .bool true]) ?_ rfl ?_)
      · exact results_rat2 rfl _ _ G4 [a, b, c] rfl _ rfl rfl hb'.out
      · exact ⟨_, rfl, oR.out⟩
set_option maxHeartbeats 2000000 in
theorem ratfrac_any (a b : Nat) (w : World) (ha : a < 4294967296) (hb : b < 4294967296) :
    Calls Tryz.prog 106 #[.int .i64 (a : Int), .int .i64 (b : Int)] w fun e w' => ∃ v, e = .returned v ∧ OwR w w' v false (mkP a b) (mkQ a b) := by
  (obtain ⟨w1, hw1, g1, k1⟩ := alloc_named w (.cells #[.bool false, .slice none 0 0, .slice none 0 0] 76)); (obtain ⟨g, hg⟩ : ∃ g, w.heap.size = g := ⟨_, rfl⟩); (rw [hg] at g1); (have hgl : Hd (w.heap.size ≤ g) := ⟨Nat.le_of_eq hg⟩); (have hg1 := hid g1); (have hk1 := hid k1); (have HA := hid (ratsize_any a w1 ha)); (have HB := hid (fun W => ratsize_any b W hb)); (have HK := hid (fun (W : World) (vp vq : Value) (rp : RdX W vp a) (rq : RdX W vq b) => ratmake_any false vp vq a b W ha hb rp rq)); (have hs : mkS false a b = false := by unfold mkS; split <;> rfl); (rw [hs] at HK); (obtain ⟨P, hP⟩ : ∃ x, mkP a b = x := ⟨_, rfl⟩); (obtain ⟨Q, hQ⟩ : ∃ x, mkQ a b = x := ⟨_, rfl⟩); (rw [hP, hQ] at HK ⊢); (have a0 : ¬ (a : Int) < 0 := by omega); (have b0 : ¬ (b : Int) < 0 := by omega); (have ad : decide ((a : Int) < 0) = false := decide_eq_false a0); (have bd : decide ((b : Int) < 0) = false := decide_eq_false b0); (clear g1 k1 hs hP hQ ha hb)
  go_enter Tryz.func106, Tryz.ntmps106
  (go_upto_region 1 with fail); (rw [← hw1]); (try rw [hg]); (clear hw1 hg); (go_wp2_with fail); (with_reducible refine HA.out.mono ?_); (rintro e w2 ⟨v2, rfl, o2⟩); (have hB2 := hid (HB.out w2)); (obtain ⟨a2, c2, rfl⟩ := o2.rd.shape); (have o2' := hid o2); (clear HA HB o2); (go_wp2_with fail); (with_reducible refine hB2.out.mono ?_); (rintro e w3 ⟨v3, rfl, o3⟩); (obtain ⟨a3, c3, rfl⟩ := o3.rd.shape); (have HK3 := hid (HK.out w3 _ _ (o2'.out.rd.kept o3.kept) o3.rd)); (have k3 := hid ((hk1.out.trans' o2'.out.kept).trans' o3.kept)); (have hg3 := hid ((o2'.out.kept.trans' o3.kept).blk hg1.out)); (clear hB2 o2' o3 HK hg1 hk1); (go_wp2_with fail); (with_reducible refine HK3.out.mono ?_); (rintro e w4 ⟨v4, rfl, o4⟩); (have hg4 := hid (o4.kept.blk hg3.out)); (obtain ⟨vn, vd, rfl, on, od⟩ := o4.from_ k3.out); (obtain ⟨an, cn, rfl⟩ := on.rd.shape); (obtain ⟨ad2, cd, rfl⟩ := od.rd.shape); (have on' := hid on); (have od' := hid od); (clear HK3 o4 on od hg3); (obtain ⟨c0, c1, c2'⟩ := slotR hg4.out); (have f0 := row_free hg4.out 0); (have f1 := row_free hg4.out 1); (have f2 := row_free hg4.out 2); (have gS := hid (set3_row hg4.out (.bool false) (.slice an (nl P).length cn) (.slice ad2 (nl Q).length cd))); (have oS := hid (on'.out.set3 hg4.out hgl.out (.bool false) (.slice an (nl P).length cn) (.slice ad2 (nl Q).length cd))); (have oT := hid (od'.out.set3 hg4.out hgl.out (.bool false) (.slice an (nl P).length cn) (.slice ad2 (nl Q).length cd))); (go_wp2); (refine bodyPost_ret (v := .agg #[.bool false, .slice an (nl P).length cn, .slice ad2 (nl Q).length cd]) ?_ rfl ?_)
  · exact results_rat rfl _ _ g [.bool false, .slice an (nl P).length cn, .slice ad2 (nl Q).length cd] rfl rfl gS.out
  · exact ⟨_, rfl, _, _, rfl, oS.out, oT.out⟩
end Go.Proofs.YtaobaaaihgahfaaGreat

/- Rows of ratios (any numbers of one limb) in memory. -/
namespace Go.Gg
/-- A ratio and where its limbs lie. -/
structure RQ where
  p : Nat
  q : Nat
  a : Value
  b : Value
def cQ (x : RQ) : List Value := [.bool false, x.a, x.b]
theorem cQ_len (x : RQ) : (cQ x).length = 3 := rfl
theorem flat_set3 {α β : Type} (f : α → List β) (g : α → β × β × β) (hf : ∀ x, f x = [(g x).1, (g x).2.1, (g x).2.2]) : ∀ (l : List α) (i : Nat) (x : α), i < l.length →
    (((l.flatMap f).set (i * 3) (g x).1).set (i * 3 + 1) (g x).2.1).set (i * 3 + 2) (g x).2.2 = (l.set i x).flatMap f := by
  intro l
  induction l with
  | nil => intro i x h; simp at h
  | cons y l ih =>
    intro i x h
    cases i with
    | zero => simp [hf]
    | succ i =>
      (have := ih i x (by simpa using h)); (rw [List.set_cons_succ, List.flatMap_cons, List.flatMap_cons, ← this]); (have h3 : (f y).length = 3 := by rw [hf]; rfl); (rw [List.set_append_right _ _ (by omega), List.set_append_right _ _ (by omega), List.set_append_right _ _ (by omega)])
      congr 1
      rw [h3, show (i + 1) * 3 - 3 = i * 3 by omega, show (i + 1) * 3 + 1 - 3 = i * 3 + 1 by omega, show (i + 1) * 3 + 2 - 3 = i * 3 + 2 by omega]
end Go.Gg
namespace Go.Proofs.YtaobaaaihgahfaaGreat
open Go.RowKit Go.Mk Go.Pil Go.Nt Go.Gg
def Limbs (w : World) (a : Value) (p : Nat) : Prop := w.ownsRow 0 202 1 a (nl p).length ((nl p).map N32)
/-- A row of ratios. -/
structure InQ (w : World) (v : Value) (qs : List RQ) : Prop where
  own : w.ownsRow 0 76 3 v qs.length (qs.flatMap cQ)
  one : ∀ x ∈ qs, Limbs w x.a x.p ∧ Limbs w x.b x.q
theorem InQ.nil (w : World) : InQ w (.slice none 0 0) [] := ⟨World.ownsRow_nil _ _ _ _, fun x hx => by cases hx⟩
/-- Blocks of other kinds, and other blocks, may turn. -/
theorem InQ.keptS {w w' : World} {v : Value} {qs : List RQ} {S : Nat → Prop} (h : InQ w v qs) (k : Kept S w w') (h1 : ∀ j, ob v j → ¬ S j) (h2 : ∀ j, S j → ∃ c t fr, w.heap[j]? = some (.cells c t fr) ∧ t ≠ 202) : InQ w' v qs := by
  refine ⟨k.ownsRow h.own h1, fun x hx => ⟨k.ownsRow (h.one x hx).1 fun j hj hs => ?_, k.ownsRow (h.one x hx).2 fun j hj hs => ?_⟩⟩
  · (obtain ⟨c, t, fr, hg, h2⟩ := h2 j hs); (exact own_ne (h.one x hx).1 hg (Ne.symm h2) j hj rfl)
  · (obtain ⟨c, t, fr, hg, h2⟩ := h2 j hs); (exact own_ne (h.one x hx).2 hg (Ne.symm h2) j hj rfl)
theorem InQ.keptNo {w w' : World} {v : Value} {qs : List RQ} (h : InQ w v qs) (k : Kept no w w') : InQ w' v qs := h.keptS k (fun _ _ => id) fun _ f => f.elim
theorem InQ.shape {w : World} {v : Value} {qs : List RQ} (h : InQ w v qs) : ∃ a c, v = .slice a qs.length c := by
  (obtain ⟨_, a, c, e, _⟩ := Rd.of_own h.own); (exact ⟨a, c, e⟩)
theorem RQ.shape {w : World} {x : RQ} (h : Limbs w x.a x.p ∧ Limbs w x.b x.q) : (∃ a c, x.a = .slice a (nl x.p).length c) ∧ ∃ a c, x.b = .slice a (nl x.q).length c := ⟨RdU.shape (Rd.of_own h.1), RdU.shape (Rd.of_own h.2)⟩
/-- The ratio at a place. -/
theorem InQ.at {w : World} {ao : Option Addr} {n cap : Nat} {qs : List RQ} (h : InQ w (.slice ao n cap) qs) (i : Nat) (hi : i < qs.length) :
    ∃ g x, ao = some ⟨g, 0, none⟩ ∧ qs[i] = x ∧ w.cell? ⟨g, i * 3, none⟩ = some (.bool false) ∧ w.cell? ⟨g, i * 3 + 1, none⟩ = some x.a ∧ w.cell? ⟨g, i * 3 + 2, none⟩ = some x.b ∧ RdR w (.agg #[.bool false, x.a, x.b]) false x.p x.q := by
  obtain ⟨_, ⟨h0, hz⟩ | ⟨g, c, cur, e, _⟩⟩ := h.own
  · omega
  · cases e
    obtain ⟨b, o, e, hr⟩ := Rd.row (f := cQ) (sz := 3) (fun _ _ => rfl) (Rd.of_own h.own) i hi
    cases e
    (have c0 := hr 0 _ rfl); (have c1 := hr 1 _ rfl); (have c2 := hr 2 _ rfl); (rw [Nat.zero_add] at c0 c1 c2); (refine ⟨g, _, rfl, rfl, c0, c1, c2, _, _, rfl, ?_, ?_⟩)
    · exact Rd.of_own (h.one _ (List.getElem_mem hi)).1
    · exact Rd.of_own (h.one _ (List.getElem_mem hi)).2
theorem InQ.rng {w : World} {g n cap : Nat} {qs : List RQ} (h : InQ w (.slice (some ⟨g, 0, none⟩) n cap) qs) (i : Nat) (hi : i < qs.length) : w.rangeAt g (i * 3) (cQ qs[i]) := by
  obtain ⟨b, o, e, hr⟩ := Rd.row (f := cQ) (sz := 3) (fun _ _ => rfl) (Rd.of_own h.own) i hi
  cases e
  (rw [Nat.zero_add] at hr); (exact hr)
theorem InQ.add {w w1 w2 : World} {v v' : Value} {qs : List RQ} (h : InQ w v qs) (k1 : Kept no w w1) {x : RQ} (hx : Limbs w1 x.a x.p ∧ Limbs w1 x.b x.q)
    (ho : w2.ownsRow 0 76 3 v' (qs.length + 1) (qs.flatMap cQ ++ cQ x)) (hk : Kept (ob v) w1 w2) : InQ w2 v' (qs ++ [x]) := by
  (have h1 := h.keptNo k1); (have hne : ∀ {u : Value} {l : List Nat}, w1.ownsRow 0 202 1 u l.length (l.map N32) → ∀ j, u.ownBlock = some j → ¬ ob v j := fun hu j hj hv => own_own hu h1.own uint_ne_ratio' j hj hv); (refine ⟨by rw [List.length_append, List.length_singleton, List.flatMap_append]; simpa using ho, fun y hy => ?_⟩)
  rcases List.mem_append.1 hy with hy | hy
  · exact ⟨hk.ownsRow (h1.one y hy).1 (hne (h1.one y hy).1), hk.ownsRow (h1.one y hy).2 (hne (h1.one y hy).2)⟩
  · (rw [List.mem_singleton.1 hy]); (exact ⟨hk.ownsRow hx.1 (hne hx.1), hk.ownsRow hx.2 (hne hx.2)⟩)
/-- A ratio stored at a place. -/
theorem InQ.set {w : World} {g n cap : Nat} {qs : List RQ} (h : InQ w (.slice (some ⟨g, 0, none⟩) n cap) qs) (i : Nat) (hi : i < qs.length) {x : RQ} (hx : Limbs w x.a x.p ∧ Limbs w x.b x.q) :
    InQ (((w.setCell ⟨g, i * 3, none⟩ (.bool false)).setCell ⟨g, i * 3 + 1, none⟩ x.a).setCell ⟨g, i * 3 + 2, none⟩ x.b) (.slice (some ⟨g, 0, none⟩) n cap) (qs.set i x) := by
  (have hn : n = qs.length := by obtain ⟨a, c, e⟩ := h.shape; cases e; rfl); (subst hn); (have ho := own_set (own_set (own_set h.own (i * 3) (.bool false)) (i * 3 + 1) x.a) (i * 3 + 2) x.b); (rw [flat_set3 cQ (fun x => (Value.bool false, x.a, x.b)) (fun _ => rfl) qs i x hi] at ho); (have k : Kept (fun j => j = g) w _ := (((Kept.refl (fun j => j = g) w).setCell (a := ⟨g, i * 3, none⟩) (.inl rfl) (.bool false)).setCell (a := ⟨g, i * 3 + 1, none⟩) (.inl rfl) x.a).setCell (a := ⟨g, i * 3 + 2, none⟩) (.inl rfl) x.b); (have hne : ∀ {u : Value} {p : Nat}, Limbs w u p → ∀ j, u.ownBlock = some j → ¬ j = g := fun hu j hj e => own_own hu h.own uint_ne_ratio' j hj (by rw [e]; rfl)); (refine ⟨by rw [List.length_set]; exact ho, fun y hy => ?_⟩)
  have hy' : Limbs w y.a y.p ∧ Limbs w y.b y.q := by
    rcases List.mem_or_eq_of_mem_set hy with hy | rfl
    · exact h.one y hy
    · exact hx
  exact ⟨k.ownsRow hy'.1 (hne hy'.1), k.ownsRow hy'.2 (hne hy'.2)⟩
/-- A row of ratios of one's own. -/
structure OwQ (w0 w : World) (v : Value) (qs : List RQ) : Prop where
  inq : InQ w v qs
  kept : Kept no w0 w
  new : New w0 v
theorem OwQ.nil (w : World) : OwQ w w (.slice none 0 0) [] := ⟨InQ.nil w, Kept.refl _ _, .inl rfl⟩
theorem OwQ.keptNo {w0 w w' : World} {v : Value} {qs : List RQ} (h : OwQ w0 w v qs) (k : Kept no w w') : OwQ w0 w' v qs := ⟨h.inq.keptNo k, h.kept.trans' k, h.new⟩
theorem OwQ.add {w0 w w1 w2 : World} {v v' : Value} {qs : List RQ} (h : OwQ w0 w v qs) (k1 : Kept no w w1) {x : RQ} (hx : Limbs w1 x.a x.p ∧ Limbs w1 x.b x.q)
    (ho : w2.ownsRow 0 76 3 v' (qs.length + 1) (qs.flatMap cQ ++ cQ x)) (hk : Kept (ob v) w1 w2) (hn : NewOr w1 v v') : OwQ w0 w2 v' (qs ++ [x]) :=
  ⟨h.inq.add k1 hx ho hk, (h.kept.trans' k1).trans hk fun j hj hv => by have := h.new.fr (Nat.le_refl _) j hv; omega, h.new.step hn (h.kept.trans' k1).size⟩
theorem OwR.limbs {w w' : World} {v : Value} {p q : Nat} (h : OwR w w' v false p q) : ∃ x : RQ, v = .agg #[.bool false, x.a, x.b] ∧ x.p = p ∧ x.q = q ∧ Limbs w' x.a x.p ∧ Limbs w' x.b x.q := by
  (obtain ⟨a, b, e, h1, h2⟩ := h); (exact ⟨⟨p, q, a, b⟩, e, rfl, rfl, h1.own, h2.own⟩)
theorem cQ_one {w : World} {x : RQ} (h : Limbs w x.a x.p ∧ Limbs w x.b x.q) : ∀ u ∈ cQ x, u.oneCell' = true := fun u hu => by
  (obtain ⟨⟨a, c, e⟩, ⟨a', c', e'⟩⟩ := RQ.shape h); (unfold cQ at hu); (rw [e, e'] at hu)
  simp at hu
  rcases hu with rfl | rfl | rfl <;> rfl
end Go.Proofs.YtaobaaaihgahfaaGreat

/- gregory.all, copies; meek.all (printed by gen_greg1.py). -/
namespace Go.Gg
/-- The candidates below k with a standing. -/
def allK (st : List Int) (s : Int) (k : Nat) : List Int := ((List.range k).filter fun i : Nat => decide (st.getD i 0 = s)).map fun i : Nat => (i : Int)
def allS (st : List Int) (s : Int) : List Int := allK st s st.length
theorem allK_step (st : List Int) (s : Int) (k : Nat) : allK st s (k + 1) = allK st s k ++ if st.getD k 0 = s then [(k : Int)] else [] := by
  (unfold allK); (rw [List.range_succ, List.filter_append, List.map_append])
  by_cases h : st.getD k 0 = s
  · rw [if_pos h, List.filter_cons_of_pos (by simpa using h)]; rfl
  · rw [if_neg h, List.filter_cons_of_neg (by simpa using h)]; rfl
theorem allK_zero (st : List Int) (s : Int) : allK st s 0 = [] := by unfold allK; rfl
theorem allK_len (st : List Int) (s : Int) (k : Nat) : (allK st s k).length ≤ k := by
  (unfold allK); (rw [List.length_map]); (exact Nat.le_trans (List.length_filter_le _ _) (by simp))
theorem mem_allS {st : List Int} {s : Int} {x : Int} : x ∈ allS st s ↔ ∃ i : Nat, i < st.length ∧ st.getD i 0 = s ∧ x = (i : Int) := by
  (unfold allS allK); (rw [List.mem_map])
  constructor
  · (rintro ⟨i, hi, rfl⟩); (obtain ⟨h1, h2⟩ := List.mem_filter.1 hi); (exact ⟨i, List.mem_range.1 h1, by simpa using h2, rfl⟩)
  · (rintro ⟨i, h1, h2, rfl⟩); (exact ⟨i, List.mem_filter.2 ⟨List.mem_range.2 h1, by simpa using h2⟩, rfl⟩)
end Go.Gg
namespace Go.Proofs.YtaobaaaihgahfaaGreat
open Go.RowKit Go.Mk Go.Pil Go.Nt Go.Gg
theorem OpY.storeMid {P : Program} {o : Oper} {a : Act} {w : World} {R : Value → World → Prop} (ty : TypeId) (x y : Operand) (ho : o.op = .store ty x y)
    (g of : Nat) (cells : Array Value) (hx : a.eval x = .pointer (some ⟨g, of, none⟩)) (hy : a.eval y = .agg cells) (ht : w.there g of cells.size) (hi : (P.info? ty).map (·.size) = some cells.size)
    (h1 : cells.all (·.oneCell') = true) (h : R undef (w.setCells g of cells.toList)) : OpY P o a w R := by
  (unfold OpY execOp); (simp only [ho, hx, hy, Instr.storeAt, Instr.sureAddr, Sem.run_bind, Sem.run_pure, Result.andThen_ok, run_storeVar_mid w g of ty cells ht hi h1]); (exact h)
set_option maxRecDepth 20000 in
set_option maxHeartbeats 2000000 in
theorem allg_any (gk : Nat) (sv : Value) (st : List Int) (s : Int) (w : World) (hl : st.length ≤ 1000) (hc : w.cell? ⟨gk, 13, none⟩ = some sv) (rs : RdZ w sv st) :
    Calls Tryz.prog 121 #[.pointer (some ⟨gk, 0, none⟩), .int .i64 s] w fun e w' => ∃ v', e = .returned v' ∧ OwZ w w' v' (allS st s) := by
  (obtain ⟨ao, cap, rfl, hcap, hcm⟩ := Rd.shape2 rs); (obtain ⟨n, hn⟩ : ∃ n, st.length = n := ⟨_, rfl⟩); (have hfin : Hd (allK st s n = allS st s) := ⟨by unfold allS; rw [hn]⟩); (rw [hn] at hl rs hc hcap); (replace hn := hid hn); (replace rs := hid rs)
  go_enter Tryz.func121, Tryz.ntmps121
  (go_wp2); (clear hc)
  go_loopw [5, 13] (fun out i wr => ∃ (k : Nat), k ≤ n ∧ i = .int .i64 (k : Int) ∧ Hd (OwZ w wr out (allK st s k))) (fun _ i _ => n - (intOf i).toNat)
  case atStart => exact ⟨0, by omega, rfl, ⟨by rw [allK_zero]; exact OwZ.nil w⟩⟩
  case round =>
    obtain ⟨k, hk, rfl, hO⟩ := hrel
    by_cases hlt : k < n
    · (have hk1 : (k : Int) < (n : Int) := by omega); (have hk0 : (0 : Int) ≤ (k : Int) := by omega); (have hkl : k < st.length := by rw [hn.out]; exact hlt); (obtain ⟨b, o, rfl, hcx⟩ := RdZ.at (rs.out.kept hO.out.kept) k hkl); (have hst := hid (allK_step st s k)); (have hln := allK_len st s k); (obtain ⟨z, hz⟩ : ∃ z, st.getD k 0 = z := ⟨_, rfl⟩); (rw [hz] at hcx hst); (clear hz)
      by_cases he : z = s
      · (have hbe : (z == s) = true := by rw [he]; simp); (have hqm : Hd ((allK st s k).length + 1 ≤ maxLen ∧ ((allK st s k).length + 1) * 8 ≤ 140737488355328) := ⟨by have hm : maxLen = 9223372036854775807 := rfl; omega⟩); (have hst' : Hd (allK st s (k + 1) = allK st s k ++ [(k : Int)]) := ⟨by rw [hst.out, if_pos he]⟩); (obtain ⟨L, hL⟩ : ∃ L, allK st s k = L := ⟨_, rfl⟩); (rw [hL] at hO hqm hst' hln); (clear hst hL); (go_wp2_with (at_builtin; refine wpList_append_lit _ rfl _ _ 26 rfl 3 1 8 TInts _ _ _ rfl hO.out.own 1 [.int .i64 (k : Int)] rfl rfl (fun u hu => by obtain rfl := List.mem_singleton.1 hu; rfl) hqm.out.1 hqm.out.2 ?_)); (intro v' w5 h2 h3 h4 _); (have hO5 : Hd (OwZ w w5 v' (allK st s (k + 1))) := ⟨by rw [hst'.out]; exact hO.out.add (k : Int) h2 h3 h4⟩); (clear h2 h3 h4 hO hqm hst'); (go_wp2); (go_roundw)
        case rel => first | exact ⟨k + 1, by omega, by go_num, hO5⟩ | ((repeat apply Exists.intro); exact ⟨⟨k + 1, by omega, by go_num, hO5⟩, rfl⟩)
        case measure => simp [intOf]; omega
      · (have hbe : (z == s) = false := beq_eq_false_iff_ne.2 he); (have hO5 : Hd (OwZ w wr (u5) (allK st s (k + 1))) := ⟨by rw [hst.out, if_neg he, List.append_nil]; exact hO.out⟩); (clear hst hO); (go_wp2); (go_roundw)
        case rel => first | exact ⟨k + 1, by omega, by go_num, hO5⟩ | ((repeat apply Exists.intro); exact ⟨⟨k + 1, by omega, by go_num, hO5⟩, rfl⟩)
        case measure => simp [intOf]; omega
    · (obtain rfl : k = n := by omega); (have hk1 : ¬ (k : Int) < (k : Int) := by omega); (have hO5 : Hd (OwZ w wr (u5) (allS st s)) := ⟨by rw [← hfin.out]; exact hO.out⟩); (clear hO); (go_wp2); (go_ret); (exact ⟨_, rfl, hO5.out⟩)
set_option maxRecDepth 20000 in
set_option maxHeartbeats 2000000 in
theorem allm_any (gk : Nat) (sv : Value) (st : List Int) (s : Int) (w : World) (hl : st.length ≤ 1000) (hc : w.cell? ⟨gk, 12, none⟩ = some sv) (rs : RdZ w sv st) :
    Calls Tryz.prog 109 #[.pointer (some ⟨gk, 0, none⟩), .int .i64 s] w fun e w' => ∃ v', e = .returned v' ∧ OwZ w w' v' (allS st s) := by
  (obtain ⟨ao, cap, rfl, hcap, hcm⟩ := Rd.shape2 rs); (obtain ⟨n, hn⟩ : ∃ n, st.length = n := ⟨_, rfl⟩); (have hfin : Hd (allK st s n = allS st s) := ⟨by unfold allS; rw [hn]⟩); (rw [hn] at hl rs hc hcap); (replace hn := hid hn); (replace rs := hid rs)
  go_enter Tryz.func109, Tryz.ntmps109
  (go_wp2); (clear hc)
  go_loopw [5, 13] (fun out i wr => ∃ (k : Nat), k ≤ n ∧ i = .int .i64 (k : Int) ∧ Hd (OwZ w wr out (allK st s k))) (fun _ i _ => n - (intOf i).toNat)
  case atStart => exact ⟨0, by omega, rfl, ⟨by rw [allK_zero]; exact OwZ.nil w⟩⟩
  case round =>
    obtain ⟨k, hk, rfl, hO⟩ := hrel
    by_cases hlt : k < n
    · (have hk1 : (k : Int) < (n : Int) := by omega); (have hk0 : (0 : Int) ≤ (k : Int) := by omega); (have hkl : k < st.length := by rw [hn.out]; exact hlt); (obtain ⟨b, o, rfl, hcx⟩ := RdZ.at (rs.out.kept hO.out.kept) k hkl); (have hst := hid (allK_step st s k)); (have hln := allK_len st s k); (obtain ⟨z, hz⟩ : ∃ z, st.getD k 0 = z := ⟨_, rfl⟩); (rw [hz] at hcx hst); (clear hz)
      by_cases he : z = s
      · (have hbe : (z == s) = true := by rw [he]; simp); (have hqm : Hd ((allK st s k).length + 1 ≤ maxLen ∧ ((allK st s k).length + 1) * 8 ≤ 140737488355328) := ⟨by have hm : maxLen = 9223372036854775807 := rfl; omega⟩); (have hst' : Hd (allK st s (k + 1) = allK st s k ++ [(k : Int)]) := ⟨by rw [hst.out, if_pos he]⟩); (obtain ⟨L, hL⟩ : ∃ L, allK st s k = L := ⟨_, rfl⟩); (rw [hL] at hO hqm hst' hln); (clear hst hL); (go_wp2_with (at_builtin; refine wpList_append_lit _ rfl _ _ 26 rfl 3 1 8 TInts _ _ _ rfl hO.out.own 1 [.int .i64 (k : Int)] rfl rfl (fun u hu => by obtain rfl := List.mem_singleton.1 hu; rfl) hqm.out.1 hqm.out.2 ?_)); (intro v' w5 h2 h3 h4 _); (have hO5 : Hd (OwZ w w5 v' (allK st s (k + 1))) := ⟨by rw [hst'.out]; exact hO.out.add (k : Int) h2 h3 h4⟩); (clear h2 h3 h4 hO hqm hst'); (go_wp2); (go_roundw)
        case rel => first | exact ⟨k + 1, by omega, by go_num, hO5⟩ | ((repeat apply Exists.intro); exact ⟨⟨k + 1, by omega, by go_num, hO5⟩, rfl⟩)
        case measure => simp [intOf]; omega
      · (have hbe : (z == s) = false := beq_eq_false_iff_ne.2 he); (have hO5 : Hd (OwZ w wr (u5) (allK st s (k + 1))) := ⟨by rw [hst.out, if_neg he, List.append_nil]; exact hO.out⟩); (clear hst hO); (go_wp2); (go_roundw)
        case rel => first | exact ⟨k + 1, by omega, by go_num, hO5⟩ | ((repeat apply Exists.intro); exact ⟨⟨k + 1, by omega, by go_num, hO5⟩, rfl⟩)
        case measure => simp [intOf]; omega
    · (obtain rfl : k = n := by omega); (have hk1 : ¬ (k : Int) < (k : Int) := by omega); (have hO5 : Hd (OwZ w wr (u5) (allS st s)) := ⟨by rw [← hfin.out]; exact hO.out⟩); (clear hO); (go_wp2); (go_ret); (exact ⟨_, rfl, hO5.out⟩)
def PUl {Sl : Nat → Nat → Prop} (w0 : World) (n : Nat) : Pr Sl := soft (fun v w => OwU w0 w v (nl n)) fun _ _ _ h k => h.keptNo k
def PRQ {Sl : Nat → Nat → Prop} (p q : Nat) : Pr Sl := soft (fun v w => ∃ x : RQ, v = .agg #[.bool false, x.a, x.b] ∧ x.p = p ∧ x.q = q ∧ Limbs w x.a x.p ∧ Limbs w x.b x.q) fun _ _ _ ⟨x, e, h1, h2, h3, h4⟩ k => ⟨x, e, h1, h2, k.ownsRow h3 fun _ _ => id, k.ownsRow h4 fun _ _ => id⟩
def PRl {Sl : Nat → Nat → Prop} (p q : Nat) : Pr Sl := soft (fun v w => ∃ x : RQ, Rd w 3 v 1 (cQ x) ∧ x.p = p ∧ x.q = q ∧ Limbs w x.a x.p ∧ Limbs w x.b x.q) fun _ _ _ ⟨x, e, h1, h2, h3, h4⟩ k => ⟨x, e.keptNo k, h1, h2, k.ownsRow h3 fun _ _ => id, k.ownsRow h4 fun _ _ => id⟩
def POq {Sl : Nat → Nat → Prop} (w0 : World) (qs : List RQ) (p q : Nat) : Pr Sl := soft (fun v w => ∃ x : RQ, x.p = p ∧ x.q = q ∧ OwQ w0 w v (qs ++ [x])) fun _ _ _ ⟨x, e, h1, h2⟩ k => ⟨x, e, h1, h2.keptNo k⟩
theorem fill_rat (y : RQ) : Instr.fill (fun i => some (i * 3, 3)) ((Array.range (1 * 3)).map ((Value.agg #[.bool false, .slice none 0 0, .slice none 0 0]).cells[· % (Value.agg #[.bool false, .slice none 0 0, .slice none 0 0]).cells.size]!)) [(0, .agg #[.bool false, y.a, y.b])] = some (cQ y).toArray := by
  have := fill_rows 3 (by decide) (.agg #[.bool false, .slice none 0 0, .slice none 0 0]) [.agg #[.bool false, y.a, y.b]] (by intro v hv; (obtain rfl : v = .agg #[.bool false, y.a, y.b] := by simpa using hv); rfl)
  simpa [Value.cells, cQ] using this
theorem infRat : (Tryz.prog.info? 76).map (fun i => (i.zero, i.size)) = some (some (.agg #[.bool false, .slice none 0 0, .slice none 0 0]), 3) := by kernel_rfl
def pq (qs : List RQ) : List (Nat × Nat) := qs.map fun x => (x.p, x.q)
set_option maxRecDepth 100000 in
set_option maxHeartbeats 4000000 in
theorem copies_any (v : Value) (qs : List RQ) (w : World) (hl : qs.length ≤ 1000) (hr : InQ w v qs) :
    Calls Tryz.prog 117 #[v] w fun e w' => ∃ v' rs, e = .returned v' ∧ pq rs = pq qs ∧ OwQ w w' v' rs := by
  (obtain ⟨ao, cap, rfl⟩ := hr.shape); (obtain ⟨n, hn⟩ : ∃ n, qs.length = n := ⟨_, rfl⟩); (rw [hn] at hl hr ⊢); (replace hn := hid hn); (replace hr := hid hr)
  go_enter Tryz.func117, Tryz.ntmps117
  go_wp2
  go_loopw [3, 8] (fun out i wr => ∃ (k : Nat) (rs : List RQ), k ≤ n ∧ i = .int .i64 (k : Int) ∧ rs.length = k ∧ Hd (pq rs = (pq qs).take k) ∧ Hd (OwQ w wr out rs)) (fun _ i _ => n - (intOf i).toNat)
  case atStart => exact ⟨0, [], by omega, rfl, rfl, ⟨by simp [pq]⟩, ⟨OwQ.nil w⟩⟩
  case round =>
    obtain ⟨k, rs, hk, rfl, hrk, hpq, hO⟩ := hrel
    by_cases hlt : k < n
    · (have hk1 : (k : Int) < (n : Int) := by omega); (have hk0 : (0 : Int) ≤ (k : Int) := by omega); (have hkl : k < qs.length := by rw [hn.out]; exact hlt); (obtain ⟨g, x, rfl, hx, c0, c1, c2, hR⟩ := (hr.out.keptNo hO.out.kept).at k hkl); (obtain ⟨p, q, a, b⟩ := x); (have hlim := (hr.out.keptNo hO.out.kept).one _ (List.getElem_mem hkl)); (rw [hx] at hlim); (obtain ⟨⟨aa, ac, ea⟩, ⟨ba, bc, eb⟩⟩ := RQ.shape hlim); (simp only at ea eb c1 c2 hR hlim); (subst ea eb)
      have hpq' : Hd (∀ y : RQ, y.p = p → y.q = q → pq (rs ++ [y]) = (pq qs).take (k + 1)) := ⟨fun y h1 h2 => by
        (have hp : pq (rs ++ [y]) = pq rs ++ [(p, q)] := by unfold pq; rw [List.map_append, List.map_cons, List.map_nil, h1, h2]); (rw [hp, hpq.out, List.take_succ_eq_append_getElem (by unfold pq; rw [List.length_map]; exact hkl)])
        congr 2
        unfold pq
        rw [List.getElem_map, hx]⟩
      (obtain ⟨pl, hpl⟩ : ∃ l, (nl p).length = l := ⟨_, rfl⟩); (obtain ⟨ql, hql⟩ : ∃ l, (nl q).length = l := ⟨_, rfl⟩); (have hU : Hd (RdX wr (.slice aa (nl p).length ac) p ∧ RdX wr (.slice ba (nl q).length bc) q) := ⟨Rd.of_own hlim.1, Rd.of_own hlim.2⟩); (rw [hpl] at c1 hU); (rw [hql] at c2 hU); (have hqm : Hd (rs.length + 1 ≤ maxLen ∧ (rs.length + 1) * 56 ≤ 140737488355328) := ⟨by have hm : maxLen = 9223372036854775807 := rfl; omega⟩); (clear hx hR hlim hpq hpl hql hkl); (go_upto_region 5 with fail); (obtain ⟨w2, hw2, g2, k2⟩ := alloc_named wr (.cells #[.bool false, .slice aa pl ac, .slice ba ql bc] 76)); (rw [← hw2]); (obtain ⟨G, hG⟩ : ∃ g, wr.heap.size = g := ⟨_, rfl⟩); (rw [hG] at g2 ⊢); (have b2 := hid g2); (have hO2 := hid (hO.out.keptNo k2)); (have HCA := hid (fun (W : World) (kk : Kept no w2 W) => cloneu_any _ (nl p) W (by unfold nl; split <;> simp) ((hU.out.1.kept k2).kept kk))); (have HCB := hid (fun (W : World) (kk : Kept no w2 W) => cloneu_any _ (nl q) W (by unfold nl; split <;> simp) ((hU.out.2.kept k2).kept kk))); (obtain ⟨s0', s1', s2'⟩ := slotR b2.out); (have s0 := hid s0'); (have s1 := hid s1'); (have s2 := hid s2'); (clear hw2 g2 k2 hG hO hU c0 c1 c2 s0' s1' s2'); (refine region_flow (S := (ob u3)) (Sl := (fun _ => (ob u3))) [Is (u3), Is (.pointer (some ⟨G, 0, none⟩)), Is (.bool false), Is (.pointer (some ⟨G, 1, none⟩)), Is (.slice aa pl ac), PUl w2.drew p, Is (.pointer (some ⟨G, 2, none⟩)), Is (.slice ba ql bc), PUl w2.drew q, PRQ p q, PRl p q, POq w rs p q, Is2 11] [11] (fun _ _ h => h) _ (by kernel_rfl) (by kernel_rfl) (by kernel_rfl) (by kernel_rfl) (fun x => by simp only [puts, Act.put, List.map_cons, List.map_nil, Nat.zero_add, Nat.reduceAdd, List.setIfInBounds_toArray, List.set_cons_zero, List.set_cons_succ]; exact rfl) ?_ ?_)
      · (skip); (refine .cons (fun x wf Kk hq hdep hold => ?_) ?_)
        · (try dsimp only); (have h12 : x 12 = u3 := hold 12 (by kernel_rfl)); (clear hq hdep hold); (simp only [h12]); (clear h12); (refine opv rfl ?_); (first | rfl | go_simp)
        refine .cons (fun x wf Kk hq hdep hold => ?_) ?_
        · (try dsimp only); (clear hq hdep hold); (refine opv rfl ?_); (first | rfl | go_simp)
        refine .cons (fun x wf Kk hq hdep hold => ?_) ?_
        · (try dsimp only); (have h1 : x 1 = _ := hdep 1 (by kernel_rfl)); (have Kq := hq no (fun _ hj => (noMem (by kernel_rfl) hj).elim)); (clear hq hdep hold); (simp only [h1]); (clear h1); (have m_s0 := Kq.undrew.cell s0.out id); (refine opv rfl ?_); (first | rfl | go_simp)
        refine .cons (fun x wf Kk hq hdep hold => ?_) ?_
        · (try dsimp only); (clear hq hdep hold); (refine opv rfl ?_); (first | rfl | go_simp)
        refine .cons (fun x wf Kk hq hdep hold => ?_) ?_
        · (try dsimp only); (have h3 : x 3 = _ := hdep 3 (by kernel_rfl)); (have Kq := hq no (fun _ hj => (noMem (by kernel_rfl) hj).elim)); (clear hq hdep hold); (simp only [h3]); (clear h3); (have m_s1 := Kq.undrew.cell s1.out id); (refine opv rfl ?_); (first | rfl | go_simp)
        refine .cons (fun x wf Kk hq hdep hold => ?_) ?_
        · (try dsimp only); (have h4 : x 4 = _ := hdep 4 (by kernel_rfl)); (have Kq := hq no (fun _ hj => (noMem (by kernel_rfl) hj).elim)); (clear hq hdep hold); (simp only [h4]); (clear h4); (rw [if_pos (by rfl)]); (refine OpY.call (f := 169) (args := #[(.slice aa pl ac)]) (by go_simp) ?_); (refine (HCA.out wf Kq.undrew).mono ?_); (rintro e w7 ⟨v, rfl, o⟩); (exact ⟨_, rfl, o.kept, o.from_ Kq⟩)
        refine .cons (fun x wf Kk hq hdep hold => ?_) ?_
        · (try dsimp only); (clear hq hdep hold); (refine opv rfl ?_); (first | rfl | go_simp)
        refine .cons (fun x wf Kk hq hdep hold => ?_) ?_
        · (try dsimp only); (have h6 : x 6 = _ := hdep 6 (by kernel_rfl)); (have Kq := hq no (fun _ hj => (noMem (by kernel_rfl) hj).elim)); (clear hq hdep hold); (simp only [h6]); (clear h6); (have m_s2 := Kq.undrew.cell s2.out id); (refine opv rfl ?_); (first | rfl | go_simp)
        refine .cons (fun x wf Kk hq hdep hold => ?_) ?_
        · (try dsimp only); (have h7 : x 7 = _ := hdep 7 (by kernel_rfl)); (have Kq := hq no (fun _ hj => (noMem (by kernel_rfl) hj).elim)); (clear hq hdep hold); (simp only [h7]); (clear h7); (rw [if_pos (by rfl)]); (refine OpY.call (f := 169) (args := #[(.slice ba ql bc)]) (by go_simp) ?_); (refine (HCB.out wf Kq.undrew).mono ?_); (rintro e w7 ⟨v, rfl, o⟩); (exact ⟨_, rfl, o.kept, o.from_ Kq⟩)
        refine .cons (fun x wf Kk hq hdep hold => ?_) ?_
        · (try dsimp only); (have h2 : x 2 = _ := hdep 2 (by kernel_rfl)); (have p5 : Pr.p (Sl := (fun _ => (ob u3))) (PUl w2.drew p) (x 5) wf := hdep 5 (by kernel_rfl)); (have p8 : Pr.p (Sl := (fun _ => (ob u3))) (PUl w2.drew q) (x 8) wf := hdep 8 (by kernel_rfl)); (have Kq := hq no (fun _ hj => (noMem (by kernel_rfl) hj).elim)); (clear hq hdep hold); (simp only [h2]); (clear h2); (rw [if_pos (by rfl)]); (obtain ⟨xa, xc, ex⟩ := p5.rd.shape); (obtain ⟨ya, yc, ey⟩ := p8.rd.shape); (have o17 := p5.own); (have o20 := p8.own); (rw [ex] at o17); (rw [ey] at o20); (rw [ex, ey]); (refine OpY.val (v := .agg #[.bool false, .slice xa (nl p).length xc, .slice ya (nl q).length yc]) (by go_simp) ⟨Kept.refl _ _, ⟨p, q, _, _⟩, rfl, rfl, rfl, o17, o20⟩)
        refine .cons (fun x wf Kk hq hdep hold => ?_) ?_
        · (try dsimp only); (have p9 : Pr.p (Sl := (fun _ => (ob u3))) (PRQ p q) (x 9) wf := hdep 9 (by kernel_rfl)); (have Kq := hq no (fun _ hj => (noMem (by kernel_rfl) hj).elim)); (clear hq hdep hold); (rw [if_pos (by rfl)]); (obtain ⟨y, ey, hy1, hy2, hy3, hy4⟩ := p9); (rw [ey]); (have hone := cQ_one ⟨hy3, hy4⟩); (refine OpY.build 72 76 1 _ rfl 3 _ Tryz.underlying72 infRat (by decide) (by decide) (cQ y) [(0, .agg #[.bool false, y.a, y.b])] rfl (fill_rat y) rfl (by decide) ?_); (intro w' hg k ho); (exact ⟨k, y, Rd.of_own ho, hy1, hy2, k.ownsRow hy3 fun _ _ => id, k.ownsRow hy4 fun _ _ => id⟩)
        refine .cons (fun x wf Kk hq hdep hold => ?_) ?_
        · (try dsimp only); (have h0 : x 0 = _ := hdep 0 (by kernel_rfl)); (have p10 : Pr.p (Sl := (fun _ => (ob u3))) (PRl p q) (x 10) wf := hdep 10 (by kernel_rfl)); (have Kq := hq no (fun _ hj => (noMem (by kernel_rfl) hj).elim)); (clear hq hdep hold); (simp only [h0]); (clear h0); (rw [if_pos (by rfl)]); (obtain ⟨y, ry, hy1, hy2, hy3, hy4⟩ := p10); (have hO3 := hO2.out.keptNo Kq.undrew); (refine OpY.append (.tmp 12) (.tmp 22) 72 _ rfl rfl 76 3 56 TRats u3 _ _ rfl hO3.inq.own (x 10) 1 (cQ y) rfl ry (cQ_one ⟨hy3, hy4⟩) hqm.out.1 hqm.out.2 ?_); (intro v2 w7 h2 h3 h4 _); (exact ⟨h3, y, hy1, hy2, hO3.add (Kept.refl _ _) ⟨hy3, hy4⟩ h2 h3 h4⟩)
        refine .cons (fun x wf Kk hq hdep hold => ?_) ?_
        · (try dsimp only); (have p11 : Pr.p (Sl := (fun _ => (ob u3))) (POq w rs p q) (x 11) wf := hdep 11 (by kernel_rfl)); (clear hq hdep hold); (rw [if_pos (by rfl)]); (refine OpY.val (v := x 11) rfl ⟨Kept.refl _ _, rfl⟩)
        exact .nil _
      · (intro x wf Kk hv); (try dsimp only); (have p11 : Pr.p (Sl := (fun _ => (ob u3))) (POq w rs p q) (x 11) wf := hv 11 (by kernel_rfl)); (have p12 : Pr.r (Sl := (fun _ => (ob u3))) (Is2 11) (x 11) (x 12) wf := hv 12 (by kernel_rfl)); (clear hv); (obtain ⟨y, hy1, hy2, hO4⟩ := p11); (have hO3 := hid hO4); (have hq3 := hid (hpq'.out y hy1 hy2)); (have hl3 : (rs ++ [y]).length = k + 1 := by rw [List.length_append, List.length_singleton, hrk]); (obtain ⟨vo, hvo⟩ : ∃ v, x 12 = v := ⟨_, rfl⟩); (have eA : x 12 = x 11 := p12); (rw [hvo] at eA); (rw [← eA] at hO3); (simp only [hvo]); (clear hO4 hy1 hy2 hpq' HCA HCB Kk eA hvo p12 hO2 s0 s1 s2 b2); (go_wp2); (go_roundw)
        case rel => first | exact ⟨k + 1, _, by omega, by go_num, hl3, hq3, hO3⟩ | ((repeat apply Exists.intro); exact ⟨⟨k + 1, _, by omega, by go_num, hl3, hq3, hO3⟩, rfl⟩)
        case measure => simp [intOf]; omega
    · (obtain rfl : k = n := by omega); (have hk1 : ¬ (k : Int) < (k : Int) := by omega); (have hpq' : Hd (pq rs = pq qs) := ⟨by rw [hpq.out, List.take_of_length_le (by unfold pq; rw [List.length_map, hn.out]; exact Nat.le_refl _)]⟩); (clear hpq); (go_wp2); (go_ret); (first | exact ⟨_, rs, rfl, hpq'.out, hO.out⟩ | exact ⟨_, rfl, rs, hpq'.out, hO.out⟩)
end Go.Proofs.YtaobaaaihgahfaaGreat

/- gregory.votes (printed by gen_greg2.py). -/
namespace Go.Gg
/-- A parcel. -/
structure Pc where
  prefs : List Int
  pv : Value
  n : Nat
  at_ : Nat
  w : RQ
def cP (x : Pc) : List Value := [x.pv, .int .i64 (x.n : Int), .int .i64 (x.at_ : Int), .bool false, x.w.a, x.w.b]
/-- The votes, with one parcel more. -/
def addV (V : List Nat) (x : Pc) : List Nat := if x.at_ < x.prefs.length then V.set (x.prefs.getD x.at_ 0).toNat (V.getD (x.prefs.getD x.at_ 0).toNat 0 + x.w.p * x.n / x.w.q) else V
def votesP (n : Nat) (pc : List Pc) : List Nat := pc.foldl addV (List.replicate n 0)
def setV (q : Nat) (V : List Nat) (c : Int) : List Nat := V.set c.toNat q
def votesG (n : Nat) (st : List Int) (q : Nat) (pc : List Pc) : List Nat := (allS st 2).foldl (setV q) (votesP n pc)
theorem addV_len (V : List Nat) (x : Pc) : (addV V x).length = V.length := by unfold addV; split <;> simp
theorem votesP_len (n : Nat) (pc : List Pc) : (votesP n pc).length = n := by
  unfold votesP
  have : ∀ (l : List Pc) (V : List Nat), (l.foldl addV V).length = V.length := by
    intro l
    induction l with
    | nil => intro V; rfl
    | cons x l ih => intro V; rw [List.foldl_cons, ih, addV_len]
  rw [this]; simp
theorem setV_len (q : Nat) (l : List Int) (V : List Nat) : (l.foldl (setV q) V).length = V.length := by
  induction l generalizing V with
  | nil => rfl
  | cons x l ih => rw [List.foldl_cons, ih]; unfold setV; simp
theorem foldl_take {α β : Type} (f : β → α → β) (b : β) (l : List α) (k : Nat) (h : k < l.length) : (l.take (k + 1)).foldl f b = f ((l.take k).foldl f b) l[k] := by
  rw [List.take_succ_eq_append_getElem h, List.foldl_append]; rfl
/-- What the parcels must be that the votes are integers. -/
structure PcOk (n : Nat) (x : Pc) : Prop where
  pn : x.n ≤ 100000
  an : x.at_ ≤ 1000000
  on : x.at_ < x.prefs.length → (0 ≤ x.prefs.getD x.at_ 0 ∧ x.prefs.getD x.at_ 0 < n) ∧ x.w.q ∣ x.w.p * x.n
  q0 : x.w.q ≠ 0
  qs : x.w.q < 10000
  ps : x.w.p < 10000
end Go.Gg
namespace Go.Proofs.YtaobaaaihgahfaaGreat
open Go.RowKit Go.Mk Go.Pil Go.Nt Go.Gg
theorem mk_int {m q : Nat} (h0 : q ≠ 0) (h : q ∣ m) : mkP m q = m / q ∧ mkQ m q = 1 := by
  unfold mkP mkQ
  by_cases hm : m = 0
  · subst hm; simp
  · (rw [if_neg (by omega), if_neg (by omega), Nat.gcd_eq_right h]); (exact ⟨rfl, Nat.div_self (by omega)⟩)
/-- Parcels that can be read. -/
structure RdP (w : World) (v : Value) (pc : List Pc) : Prop where
  row : Rd w 6 v pc.length (pc.flatMap cP)
  prefs : ∀ x ∈ pc, RdZ w x.pv x.prefs
  one : ∀ x ∈ pc, RdX w x.w.a x.w.p ∧ RdX w x.w.b x.w.q
theorem RdP.kept {w w' : World} {v : Value} {pc : List Pc} (h : RdP w v pc) (k : Kept no w w') : RdP w' v pc := ⟨h.row.keptNo k, fun x hx => RdZ.kept (h.prefs x hx) k, fun x hx => ⟨(h.one x hx).1.kept k, (h.one x hx).2.kept k⟩⟩
theorem RdP.at {w : World} {ao : Option Addr} {n cap : Nat} {pc : List Pc} (h : RdP w (.slice ao n cap) pc) (k : Nat) (hk : k < pc.length) :
    ∃ b o x, ao = some ⟨b, o, none⟩ ∧ pc[k] = x ∧ w.rangeAt b (o + k * 6) (cP x) ∧ RdZ w x.pv x.prefs ∧ RdX w x.w.a x.w.p ∧ RdX w x.w.b x.w.q := by
  (obtain ⟨b, o, e, hr⟩ := Rd.row (f := cP) (sz := 6) (fun _ _ => rfl) h.row k hk); (exact ⟨b, o, _, e, rfl, hr, h.prefs _ (List.getElem_mem hk), h.one _ (List.getElem_mem hk)⟩)
def PSq {Sl : Nat → Nat → Prop} (w0 : World) (v : Value) (rs : List RQ) (c p : Nat) : Pr Sl := soft (fun _ w => ∃ y : RQ, y.p = p ∧ y.q = 1 ∧ OwQ w0 w v (rs.set c y)) fun _ _ _ ⟨x, e, h1, h2⟩ k => ⟨x, e, h1, h2.keptNo k⟩
theorem OwQ.put {w0 w : World} {g n cap : Nat} {qs : List RQ} (h : OwQ w0 w (.slice (some ⟨g, 0, none⟩) n cap) qs) (i : Nat) (hi : i < qs.length) {x : RQ} (hx : Limbs w x.a x.p ∧ Limbs w x.b x.q) :
    OwQ w0 (w.setCells g (i * 3) (cQ x)) (.slice (some ⟨g, 0, none⟩) n cap) (qs.set i x) ∧ Kept (fun j => j = g) w (w.setCells g (i * 3) (cQ x)) := by
  (have k : Kept (fun j => j = g) w (w.setCells g (i * 3) (cQ x)) := (((Kept.refl (fun j => j = g) w).setCell (a := ⟨g, i * 3, none⟩) (.inl rfl) (.bool false)).setCell (a := ⟨g, i * 3 + 1, none⟩) (.inl rfl) x.a).setCell (a := ⟨g, i * 3 + 2, none⟩) (.inl rfl) x.b); (have hgn := h.new.fr (Nat.le_refl _) g rfl); (exact ⟨⟨h.inq.set i hi hx, h.kept.trans k fun j hj (e : j = g) => by omega, h.new⟩, k⟩)
theorem InQ.there {w : World} {g n cap : Nat} {qs : List RQ} (h : InQ w (.slice (some ⟨g, 0, none⟩) n cap) qs) (i : Nat) (hi : i < qs.length) : w.there g (i * 3) 3 := fun j hj => by
  obtain ⟨_, ⟨e, _⟩ | ⟨g', c, cur, e, _, hg, _⟩⟩ := h.own
  · cases e
  · cases e
    (refine ⟨?_, row_free hg _⟩); (have := h.rng i hi j ((cQ qs[i])[j]'(by rw [cQ_len]; exact hj)) (List.getElem?_eq_getElem _)); (rw [this]; rfl)
theorem row_freeQ {w : World} {g n cap : Nat} {qs : List RQ} (h : InQ w (.slice (some ⟨g, 0, none⟩) n cap) qs) (i : Nat) : w.frozen? ⟨g, i, none⟩ = false := by
  obtain ⟨_, ⟨e, _⟩ | ⟨g', c, cur, e, _, hg, _⟩⟩ := h.own
  · cases e
  · cases e; exact row_free hg i
/-- Votes that are integers. -/
def ints (rs : List RQ) (V : List Nat) : Prop := rs.map (fun x => (x.p, x.q)) = V.map fun v => (v, 1)
theorem ints_len {rs : List RQ} {V : List Nat} (h : ints rs V) : rs.length = V.length := by have := congrArg List.length h; simpa using this
theorem ints_at {rs : List RQ} {V : List Nat} (h : ints rs V) (i : Nat) (hi : i < rs.length) : rs[i].p = V.getD i 0 ∧ rs[i].q = 1 := by
  (have hv : i < V.length := by rw [← ints_len h]; exact hi); (have e : (rs.map (fun x => (x.p, x.q)))[i]? = (V.map fun v => (v, 1))[i]? := by rw [h]); (rw [List.getElem?_map, List.getElem?_map, List.getElem?_eq_getElem hi, List.getElem?_eq_getElem hv] at e); (simp only [Option.map_some, Option.some.injEq, Prod.mk.injEq] at e); (rw [List.getD_eq_getElem?_getD, List.getElem?_eq_getElem hv]); (exact e)
theorem ints_set {rs : List RQ} {V : List Nat} (h : ints rs V) (i : Nat) (y : RQ) (hq : y.q = 1) : ints (rs.set i y) (V.set i y.p) := by
  (unfold ints at *); (rw [List.map_set, List.map_set, h, hq])
theorem ints_add {rs : List RQ} {V : List Nat} (h : ints rs V) (y : RQ) (hq : y.q = 1) : ints (rs ++ [y]) (V ++ [y.p]) := by
  (unfold ints at *); (rw [List.map_append, List.map_append, h]; simp [hq])
set_option maxRecDepth 100000 in
set_option maxHeartbeats 8000000 in
theorem votes_any (gk n quo : Nat) (sv pv : Value) (st : List Int) (pc : List Pc) (w : World) (hl : st.length = n) (hn : n ≤ 1000) (hpl : pc.length ≤ 100000) (hquo : quo ≤ 100001) (c11 : w.cell? ⟨gk, 11, none⟩ = some (.int .i64 (quo : Int))) (c12 : w.cell? ⟨gk, 12, none⟩ = some pv) (c13 : w.cell? ⟨gk, 13, none⟩ = some sv)
    (rs : RdZ w sv st) (rp : RdP w pv pc) (hok : ∀ x ∈ pc, PcOk n x) (hb : ∀ k, ∀ v ∈ votesP n (pc.take k), v ≤ 200000) :
    Calls Tryz.prog 116 #[.pointer (some ⟨gk, 0, none⟩)] w fun e w' => ∃ v' qs, e = .returned v' ∧ ints qs (votesG n st quo pc) ∧ OwQ w w' v' qs := by
  (have HA := hid (fun (W : World) (k : Kept no w W) => allg_any gk sv st 2 W (by omega) (k.cell c13 id) (RdZ.kept rs k))); (have hm63 := maxLen_63); (obtain ⟨as_, cs_, rfl, hcs, hcsm⟩ := Rd.shape2 rs); (obtain ⟨ap, cp, rfl, hcp, hcpm⟩ := Rd.shape2 rp.row); (obtain ⟨m, hm⟩ : ∃ m, pc.length = m := ⟨_, rfl⟩); (rw [hm] at hpl c12 rp hcp); (rw [hl] at c13); (have c11' := hid c11); (have c12' := hid c12); (replace hl := hid hl); (replace hm := hid hm); (replace rp := hid rp); (replace hok := hid hok); (replace hb := hid hb); (clear rs c11 c12)
  go_enter Tryz.func116, Tryz.ntmps116
  (go_upto_region 3 with fail); (clear c13)
  go_loopw [3, 14] (fun out i wr => ∃ (k : Nat) (qs : List RQ), k ≤ n ∧ i = .int .i64 (k : Int) ∧ qs.length = k ∧ Hd (ints qs (List.replicate k 0)) ∧ Hd (OwQ w wr out qs)) (fun _ i _ => n - (intOf i).toNat)
  case atStart => exact ⟨0, [], by omega, rfl, rfl, ⟨rfl⟩, ⟨OwQ.nil w⟩⟩
  case round =>
    obtain ⟨k, qs, hk, rfl, hqk, hI, hO⟩ := hrel
    by_cases hlt : k < n
    · (have hk1 : (k : Int) < (n : Int) := by omega); (have hk0 : (0 : Int) ≤ (k : Int) := by omega); (have HO := hid (ratof_any 0 wr (by omega))); (have hqm : Hd (qs.length + 1 ≤ maxLen ∧ (qs.length + 1) * 56 ≤ 140737488355328) := ⟨by have hm : maxLen = 9223372036854775807 := rfl; omega⟩); (rw [show ((0 : Nat) : Int) = 0 from rfl] at HO); (go_wp2_with fail); (with_reducible refine HO.out.mono ?_); (rintro e w2 ⟨v2, rfl, o2⟩); (have hk2 := hid o2.kept); (obtain ⟨y, rfl, hy1, hy2, hy3, hy4⟩ := o2.limbs); (have hO2 := hid (hO.out.keptNo hk2.out)); (have hone := hid (cQ_one ⟨hy3, hy4⟩))
      have hI2 : Hd (ints (qs ++ [y]) (List.replicate (k + 1) 0)) := ⟨by
        (have := ints_add hI.out y hy2); (rw [hy1] at this)
        rw [List.replicate_succ']; exact this⟩
      (have hlim := hid (And.intro hy3 hy4)); (obtain ⟨⟨ya, yc, eya⟩, ⟨yb, yd, eyb⟩⟩ := RQ.shape ⟨hy3, hy4⟩); (have eC : cQ y = [.bool false, .slice ya (nl y.p).length yc, .slice yb (nl y.q).length yd] := by unfold cQ; rw [eya, eyb]); (rw [eya, eyb]); (rw [eC] at hone); (replace eC := hid eC); (clear HO o2 hy1 hy2 hy3 hy4 eya eyb); (go_wp2_with (at_builtin; refine wpList_append_lit _ rfl _ _ 72 rfl 76 3 56 TRats _ _ _ rfl hO2.out.inq.own 1 [.bool false, .slice ya (nl y.p).length yc, .slice yb (nl y.q).length yd] rfl rfl hone.out hqm.out.1 hqm.out.2 ?_)); (intro v' w5 h2 h3 h4 _); (have hO5 : Hd (OwQ w w5 v' (qs ++ [y])) := ⟨hO2.out.add (Kept.refl _ _) hlim.out (by rw [eC.out, hqk]; exact h2) h3 h4⟩); (have hq5 : (qs ++ [y]).length = k + 1 := by rw [List.length_append, List.length_singleton, hqk]); (clear h2 h3 h4 hO hO2 hqm hlim hone eC hI); (go_wp2); (go_roundw)
      case rel => first | exact ⟨k + 1, _, by omega, by go_num, hq5, hI2, hO5⟩ | ((repeat apply Exists.intro); exact ⟨⟨k + 1, _, by omega, by go_num, hq5, hI2, hO5⟩, rfl⟩)
      case measure => simp [intOf]; omega
    · (obtain rfl : k = n := by omega); (have hk1 : ¬ (k : Int) < (k : Int) := by omega); (have k0 := hid hO.out.kept); (have d12 : wr.cell? ⟨gk, 12, none⟩ = some (.slice ap m cp) := k0.out.cell c12'.out id); (go_upto_region 7 with fail); (clear d12)
      go_loopw [26] (fun i wr2 => ∃ (j : Nat) (qs : List RQ), j ≤ m ∧ i = .int .i64 (j : Int) ∧ qs.length = k ∧ Hd (ints qs (votesP k (pc.take j))) ∧ Hd (OwQ w wr2 u3 qs)) (fun i _ => m - (intOf i).toNat)
      case atStart => exact ⟨0, qs, by omega, rfl, hqk, hI, hO⟩
      case round =>
        (clear hI hO hqk k0); (obtain ⟨j, qs, hj, rfl, hqj, hI, hO⟩ := hrel); (obtain ⟨oa, oc, hos⟩ := hO.out.inq.shape); (rw [hqj] at hos); (subst hos)
        by_cases hlt : j < m
        · (have hj1 : (j : Int) < (m : Int) := by omega); (have hj0 : (0 : Int) ≤ (j : Int) := by omega); (have hjl : j < pc.length := by rw [hm.out]; exact hlt); (obtain ⟨b, o, x, rfl, hx, hrng, hrz, hwa, hwb⟩ := (rp.out.kept hO.out.kept).at j hjl); (have hokx : PcOk k x := hx ▸ hok.out _ (List.getElem_mem hjl)); (have hvt : Hd (votesP k (pc.take (j + 1)) = addV (votesP k (pc.take j)) x) := ⟨by unfold votesP; rw [foldl_take _ _ _ _ hjl, hx]⟩); (obtain ⟨za, zc, hze, hzc, hzm⟩ := Rd.shape2 hrz); (obtain ⟨xa, xc, exa⟩ := RdU.shape hwa); (obtain ⟨xb, xd, exb⟩ := RdU.shape hwb); (obtain ⟨pl, hpl⟩ : ∃ l, x.prefs.length = l := ⟨_, rfl⟩); (have r0 := hrng 0 x.pv rfl); (have r1 := hrng 1 (.int .i64 (x.n : Int)) rfl); (have r2 := hrng 2 (.int .i64 (x.at_ : Int)) rfl); (have r3 := hrng 3 (.bool false) rfl); (have r4 := hrng 4 x.w.a rfl); (have r5 := hrng 5 x.w.b rfl); (rw [hze, hpl] at r0); (rw [exa] at r4); (rw [exb] at r5); (rw [Nat.add_zero] at r0); (obtain ⟨xn, hxn⟩ : ∃ l, x.n = l := ⟨_, rfl⟩); (obtain ⟨xt, hxt⟩ : ∃ l, x.at_ = l := ⟨_, rfl⟩); (obtain ⟨wal, hwal⟩ : ∃ l, (nl x.w.p).length = l := ⟨_, rfl⟩); (obtain ⟨wbl, hwbl⟩ : ∃ l, (nl x.w.q).length = l := ⟨_, rfl⟩); (rw [hxn] at r1); (rw [hxt] at r2); (rw [hwal] at r4 exa); (rw [hwbl] at r5 exb); (rw [hze, hpl] at hrz); (rw [exa] at hwa); (rw [exb] at hwb); (have hrz' := hid hrz); (have hwa' := hid hwa); (have hwb' := hid hwb); (have hok' := hid hokx); (have hxn' := hid hxn); (have hxt' := hid hxt); (have hpl' := hid hpl); (clear hx hrng hze exa exb hwal hwbl hrz hwa hwb hokx hxn hxt hpl hjl); (go_upto_region 9 with fail); (obtain ⟨w2, hw2, g2, k2⟩ := alloc_named wr (.cells #[.slice za pl zc, .int .i64 (xn : Int), .int .i64 (xt : Int), .bool false, .slice xa wal xc, .slice xb wbl xd] 122)); (rw [← hw2]); (obtain ⟨G, hG⟩ : ∃ g, wr.heap.size = g := ⟨_, rfl⟩); (rw [hG] at g2 ⊢); (have s0 : w2.cell? ⟨G, 0, none⟩ = some (.slice za pl zc) := cell_at g2 rfl); (have s2 : w2.cell? ⟨G, 2, none⟩ = some (.int .i64 (xt : Int)) := cell_at g2 rfl); (have hO2 := hid (hO.out.keptNo k2)); (have hG2 := hid g2); (have hrz2 := hid (RdZ.kept hrz'.out k2)); (have hwa2 := hid (hwa'.out.kept k2)); (have hwb2 := hid (hwb'.out.kept k2)); (clear hw2 g2 k2 hG hO r0 r1 r2 r3 r4 r5 hrz' hwa' hwb')
          by_cases hat : xt < pl
          · (have hat1 : (xt : Int) < (pl : Int) := by omega); (have hat0 : (0 : Int) ≤ (xt : Int) := by omega); (obtain ⟨hcr, hdv⟩ := hok'.out.on (by rw [hxt'.out, hpl'.out]; exact hat)); (rw [hxt'.out] at hcr); (obtain ⟨bz, oz, hza, hcz⟩ := RdZ.at hrz2.out xt (by rw [hpl'.out]; exact hat)); (subst hza); (obtain ⟨cz, hce⟩ : ∃ z, x.prefs.getD xt 0 = z := ⟨_, rfl⟩); (rw [hce] at hcz hcr); (obtain ⟨c, rfl⟩ : ∃ c : Nat, cz = (c : Int) := ⟨cz.toNat, by omega⟩); (have hcn1 : (c : Int) < (k : Int) := hcr.2); (have hcn0 : (0 : Int) ≤ (c : Int) := by omega); (have hcl : c < qs.length := by omega); (obtain ⟨go_, y0, hgo, hy0, _, _, _, hRy⟩ := hO2.out.inq.at c hcl); (subst hgo); (have hIc := ints_at hI.out c hcl); (rw [hy0] at hIc); (obtain ⟨V, hV⟩ : ∃ V, (votesP k (pc.take j)).getD c 0 = V := ⟨_, rfl⟩); (rw [hV] at hIc)
            have hV1 : V ≤ 200000 := by
              (have hcv : c < (votesP k (pc.take j)).length := by rw [votesP_len]; omega); (rw [← hV, List.getD_eq_getElem?_getD, List.getElem?_eq_getElem hcv]); (exact hb.out j _ (List.getElem_mem hcv))
            (obtain ⟨M, hM⟩ : ∃ M, x.w.p * x.n / x.w.q = M := ⟨_, rfl⟩); (have hps := hok'.out.ps); (have hpn := hok'.out.pn); (have hpp : x.w.p * x.n ≤ 10000 * 100000 := Nat.mul_le_mul (by omega) hpn); (have hM1 : M < 2147483648 := by rw [← hM]; exact Nat.lt_of_le_of_lt (Nat.div_le_self _ _) (by omega))
            have hvt2 : Hd (votesP k (pc.take (j + 1)) = (votesP k (pc.take j)).set c (V + M)) := ⟨by
              (rw [hvt.out]); (unfold addV)
              rw [if_pos (by rw [hxt'.out, hpl'.out]; exact hat), hxt'.out, hce, Int.toNat_natCast, hV, hM]⟩
            have hOf := hid (fun (W : World) => ratof_any xn W (by have := hok'.out.pn; rw [hxn'.out] at this; omega))
            have hMu := hid (fun (W : World) (k : Kept no w2 W) (v : Value) (rv : RdR W v false xn 1) => by
              (have := ratmul_any (.agg #[.bool false, .slice xa wal xc, .slice xb wbl xd]) v x.w.p x.w.q xn 1 W (by omega) (by rw [← hxn'.out]; omega) (by have := hok'.out.qs; omega) (by decide) (by rw [← hxn'.out]; omega) (by have := hok'.out.qs; omega) ⟨_, _, rfl, hwa2.out.kept k, hwb2.out.kept k⟩ rv); (rw [Nat.mul_one, ← hxn'.out, (mk_int hok'.out.q0 hdv).1, (mk_int hok'.out.q0 hdv).2, hM] at this)
              exact this)
            have hAd := hid (fun (W : World) (k : Kept no w2 W) (v : Value) (rv : RdR W v false M 1) => by
              (have hy : RdR W (.agg #[.bool false, y0.a, y0.b]) false V 1 := by have := hRy.kept k; rwa [hIc.1, hIc.2] at this); (have := ratadd_any (.agg #[.bool false, y0.a, y0.b]) v false false V M W (by omega) hM1 hy rv); (have eN : sumN (z1 false V) V (z1 false M) M = V + M := by unfold sumN z1; simp); (have eS : z1 (sumS (z1 false V) V (z1 false M) M) (sumN (z1 false V) V (z1 false M) M) = false := by unfold sumS z1; simp); (rw [eS, eN] at this)
              exact this)
            (have hrow := hid (hO2.out.inq.rng c hcl)); (rw [hy0] at hrow); (have hgt := hid (hO2.out.inq.there c hcl)); (have hgG : Hd (G ≠ go_) := ⟨fun e => own_ne hO2.out.inq.own hG2.out (by decide) go_ rfl e.symm⟩)
            have hrowW : Hd (w2.rangeAt G 3 [.bool false, .slice xa wal xc, .slice xb wbl xd]) := ⟨fun j u hu => by
              rw [cell_of_row w2 G (3 + j) _ _ _ hG2.out]
              match j, hu with
              | 0, hu => exact hu
              | 1, hu => exact hu
              | 2, hu => exact hu
              | j + 3, hu => simp at hu⟩
            (obtain ⟨⟨ya, yc, eya⟩, ⟨yb, yd, eyb⟩⟩ := RQ.shape (hO2.out.inq.one _ (List.getElem_mem hcl))); (rw [hy0] at eya eyb); (have eYC : cQ y0 = [.bool false, .slice ya (nl y0.p).length yc, .slice yb (nl y0.q).length yd] := by unfold cQ; rw [eya, eyb]); (rw [eya, eyb] at hAd); (rw [eYC] at hrow); (have s1 : Hd (w2.cell? ⟨G, 1, none⟩ = some (.int .i64 (xn : Int))) := ⟨cell_at hG2.out rfl⟩); (have hcl' := hid hcl); (have hI' := hid (fun (y : RQ) (h1 : y.p = V + M) (h2 : y.q = 1) => (show ints (qs.set c y) (votesP k (pc.take (j + 1))) by rw [hvt2.out, ← h1]; exact ints_set hI.out c y h2))); (obtain ⟨yl, hyl⟩ : ∃ l, (nl y0.p).length = l := ⟨_, rfl⟩); (obtain ⟨yl2, hyl2⟩ : ∃ l, (nl y0.q).length = l := ⟨_, rfl⟩); (rw [hyl, hyl2] at hAd hrow); (clear hvt hvt2 hcr hdv hce hy0 hIc hV hV1 hM hM1 hps hpn hpp hRy eya eyb eYC hwa2 hwb2 hyl hyl2 hok' hI hcl); (go_upto_region 11 with fail); (clear hcz s0 s2); (refine region_flow (S := (fun j => j = go_)) (Sl := (fun _ => (fun j => j = go_))) [Is (.slice (some ⟨go_, 0, none⟩) k oc), Is (.int .i64 (c : Int)), Is (.slice (some ⟨go_, 0, none⟩) k oc), Is (.int .i64 (c : Int)), Is (.pointer (some ⟨go_, c * 3, none⟩)), Is (.agg #[.bool false, .slice ya yl yc, .slice yb yl2 yd]), Is (.pointer (some ⟨G, 3, none⟩)), Is (.agg #[.bool false, .slice xa wal xc, .slice xb wbl xd]), Is (.pointer (some ⟨G, 1, none⟩)), Is (.int .i64 (xn : Int)), PRQ xn 1, PRQ M 1, PRQ (V + M) 1, Is (.pointer (some ⟨go_, c * 3, none⟩)), PSq w (.slice (some ⟨go_, 0, none⟩) k oc) qs c (V + M)] [14] (fun _ _ h => h) _ (by kernel_rfl) (by kernel_rfl) (by kernel_rfl) (by kernel_rfl) (fun x => by simp only [puts, Act.put, List.map_cons, List.map_nil, Nat.zero_add, Nat.reduceAdd, List.setIfInBounds_toArray, List.set_cons_zero, List.set_cons_succ]; exact rfl) ?_ ?_)
            · (skip); (refine .cons (fun x wf Kk hq hdep hold => ?_) ?_)
              · (try dsimp only); (clear hq hdep hold); (refine opv rfl ?_); (first | rfl | go_simp)
              refine .cons (fun x wf Kk hq hdep hold => ?_) ?_
              · (try dsimp only); (clear hq hdep hold); (refine opv rfl ?_); (first | rfl | go_simp)
              refine .cons (fun x wf Kk hq hdep hold => ?_) ?_
              · (try dsimp only); (clear hq hdep hold); (refine opv rfl ?_); (first | rfl | go_simp)
              refine .cons (fun x wf Kk hq hdep hold => ?_) ?_
              · (try dsimp only); (clear hq hdep hold); (refine opv rfl ?_); (first | rfl | go_simp)
              refine .cons (fun x wf Kk hq hdep hold => ?_) ?_
              · (try dsimp only); (have h2 : x 2 = _ := hdep 2 (by kernel_rfl)); (have h3 : x 3 = _ := hdep 3 (by kernel_rfl)); (clear hq hdep hold); (simp only [h2, h3]); (clear h2 h3); (refine opv rfl ?_); (first | rfl | go_simp)
              refine .cons (fun x wf Kk hq hdep hold => ?_) ?_
              · (try dsimp only); (have h4 : x 4 = _ := hdep 4 (by kernel_rfl)); (have Kq := hq no (fun _ hj => (noMem (by kernel_rfl) hj).elim)); (clear hq hdep hold); (simp only [h4]); (clear h4); (rw [if_pos (by rfl)]); (exact OpY.row 76 (.tmp 46) rfl go_ (c * 3) rfl [.bool false, .slice ya yl yc, .slice yb yl2 yd] _ (Kq.undrew.rng hrow.out) Tryz.underlying76 rfl (by kernel_rfl) ⟨Kept.refl _ _, rfl⟩)
              refine .cons (fun x wf Kk hq hdep hold => ?_) ?_
              · (try dsimp only); (clear hq hdep hold); (refine opv rfl ?_); (first | rfl | go_simp)
              refine .cons (fun x wf Kk hq hdep hold => ?_) ?_
              · (try dsimp only); (have h6 : x 6 = _ := hdep 6 (by kernel_rfl)); (have Kq := hq no (fun _ hj => (noMem (by kernel_rfl) hj).elim)); (clear hq hdep hold); (simp only [h6]); (clear h6); (rw [if_pos (by rfl)]); (exact OpY.row 76 (.tmp 48) rfl G (3) rfl [.bool false, .slice xa wal xc, .slice xb wbl xd] _ (Kq.undrew.rng hrowW.out) Tryz.underlying76 rfl (by kernel_rfl) ⟨Kept.refl _ _, rfl⟩)
              refine .cons (fun x wf Kk hq hdep hold => ?_) ?_
              · (try dsimp only); (clear hq hdep hold); (refine opv rfl ?_); (first | rfl | go_simp)
              refine .cons (fun x wf Kk hq hdep hold => ?_) ?_
              · (try dsimp only); (have h8 : x 8 = _ := hdep 8 (by kernel_rfl)); (have Kq := hq no (fun _ hj => (noMem (by kernel_rfl) hj).elim)); (clear hq hdep hold); (simp only [h8]); (clear h8); (have m1 := Kq.undrew.cell s1.out id); (refine opv rfl ?_); (first | rfl | go_simp)
              refine .cons (fun x wf Kk hq hdep hold => ?_) ?_
              · (try dsimp only); (have h9 : x 9 = _ := hdep 9 (by kernel_rfl)); (have Kq := hq no (fun _ hj => (noMem (by kernel_rfl) hj).elim)); (clear hq hdep hold); (simp only [h9]); (clear h9); (rw [if_pos (by rfl)]); (refine OpY.call (f := 57) (args := #[(.int .i64 (xn : Int))]) (by go_simp) ?_); (refine (hOf.out wf).mono ?_); (rintro e w7 ⟨v, rfl, o⟩); (have ok := o.kept); (exact ⟨_, rfl, ok, o.limbs⟩)
              refine .cons (fun x wf Kk hq hdep hold => ?_) ?_
              · (try dsimp only); (have h7 : x 7 = _ := hdep 7 (by kernel_rfl)); (have p10 : Pr.p (Sl := (fun _ => (fun j => j = go_))) (PRQ xn 1) (x 10) wf := hdep 10 (by kernel_rfl)); (have Kq := hq no (fun _ hj => (noMem (by kernel_rfl) hj).elim)); (clear hq hdep hold); (simp only [h7]); (clear h7); (rw [if_pos (by rfl)]); (obtain ⟨y10, e10, hp10, hq10, hl10, hm10⟩ := p10); (have hr10 : RdR wf (x 10) false y10.p y10.q := by rw [e10]; exact ⟨_, _, rfl, Rd.of_own hl10, Rd.of_own hm10⟩); (rw [hp10, hq10] at hr10); (refine OpY.call (f := 168) (args := #[(.agg #[.bool false, .slice xa wal xc, .slice xb wbl xd]), x 10]) (by go_simp) ?_); (refine (hMu.out wf Kq.undrew (x 10) hr10).mono ?_); (rintro e w7 ⟨v, rfl, o⟩); (have ok := o.kept); (exact ⟨_, rfl, ok, o.limbs⟩)
              refine .cons (fun x wf Kk hq hdep hold => ?_) ?_
              · (try dsimp only); (have h5 : x 5 = _ := hdep 5 (by kernel_rfl)); (have p11 : Pr.p (Sl := (fun _ => (fun j => j = go_))) (PRQ M 1) (x 11) wf := hdep 11 (by kernel_rfl)); (have Kq := hq no (fun _ hj => (noMem (by kernel_rfl) hj).elim)); (clear hq hdep hold); (simp only [h5]); (clear h5); (rw [if_pos (by rfl)]); (obtain ⟨y11, e11, hp11, hq11, hl11, hm11⟩ := p11); (have hr11 : RdR wf (x 11) false y11.p y11.q := by rw [e11]; exact ⟨_, _, rfl, Rd.of_own hl11, Rd.of_own hm11⟩); (rw [hp11, hq11] at hr11); (refine OpY.call (f := 124) (args := #[(.agg #[.bool false, .slice ya yl yc, .slice yb yl2 yd]), x 11]) (by go_simp) ?_); (refine (hAd.out wf Kq.undrew (x 11) hr11).mono ?_); (rintro e w7 ⟨v, rfl, o⟩); (have ok := o.kept); (exact ⟨_, rfl, ok, o.limbs⟩)
              refine .cons (fun x wf Kk hq hdep hold => ?_) ?_
              · (try dsimp only); (have h0 : x 0 = _ := hdep 0 (by kernel_rfl)); (have h1 : x 1 = _ := hdep 1 (by kernel_rfl)); (clear hq hdep hold); (simp only [h0, h1]); (clear h0 h1); (refine opv rfl ?_); (first | rfl | go_simp)
              refine .cons (fun x wf Kk hq hdep hold => ?_) ?_
              · (try dsimp only); (have h13 : x 13 = _ := hdep 13 (by kernel_rfl)); (have p12 : Pr.p (Sl := (fun _ => (fun j => j = go_))) (PRQ (V + M) 1) (x 12) wf := hdep 12 (by kernel_rfl)); (have Kq := hq no (fun _ hj => (noMem (by kernel_rfl) hj).elim)); (clear hq hdep hold); (simp only [h13]); (clear h13); (rw [if_pos (by rfl)]); (obtain ⟨y12, e12, hp12, hq12, hl12, hm12⟩ := p12); (have hO5 := hO2.out.keptNo Kq.undrew); (obtain ⟨hO6, hK6⟩ := hO5.put c hcl'.out (x := y12) ⟨hl12, hm12⟩); (rw [e12]); (refine OpY.storeMid 76 (.tmp 55) (.tmp 54) rfl go_ (c * 3) (cQ y12).toArray rfl rfl (hO5.inq.there c hcl'.out) (by kernel_rfl) (all_oneCell_toArray (cQ_one ⟨hl12, hm12⟩)) ?_); (exact ⟨hK6, y12, hp12, hq12, hO6⟩)
              exact .nil _
            · (intro x wf Kk hv); (try dsimp only); (have p14 : Pr.p (Sl := (fun _ => (fun j => j = go_))) (PSq w (.slice (some ⟨go_, 0, none⟩) k oc) qs c (V + M)) (x 14) wf := hv 14 (by kernel_rfl)); (clear hv); (obtain ⟨y, hy1, hy2, hO5⟩ := p14); (have hI5 := hid (hI'.out y hy1 hy2)); (have hq5 : (qs.set c y).length = k := by rw [List.length_set]; exact hqj); (have hO6 := hid hO5); (clear hO5 hy1 hy2 hI' hAd hMu hOf hrow hrowW hgt Kk hO2 hG2 s1); (go_wp2); (go_roundw)
              case rel => first | exact ⟨j + 1, _, by omega, by go_num, hq5, hI5, hO6⟩ | ((repeat apply Exists.intro); exact ⟨⟨j + 1, _, by omega, by go_num, hq5, hI5, hO6⟩, rfl⟩)
              case measure => simp [intOf]; omega
          · have hat1 : ¬ (xt : Int) < (pl : Int) := by omega
            have hI2 : Hd (ints qs (votesP k (pc.take (j + 1)))) := ⟨by
              (rw [hvt.out]); (unfold addV); (rw [if_neg (by rw [hxt'.out, hpl'.out]; exact hat)])
              exact hI.out⟩
            (clear hvt hI hok' hG2 hrz2 hwa2 hwb2); (go_wp2); (go_roundw)
            case rel => first | exact ⟨j + 1, _, by omega, by go_num, hqj, hI2, hO2⟩ | ((repeat apply Exists.intro); exact ⟨⟨j + 1, _, by omega, by go_num, hqj, hI2, hO2⟩, rfl⟩)
            case measure => simp [intOf]; omega
        · (obtain rfl : j = m := by omega); (have hj1 : ¬ (j : Int) < (j : Int) := by omega); (have hI2 : Hd (ints qs (votesP k pc)) := ⟨by have := hI.out; rwa [List.take_of_length_le (by rw [hm.out]; exact Nat.le_refl _)] at this⟩); (clear hI); (have HA2 := hid (HA.out wr hO.out.kept)); (go_wp2_with fail); (with_reducible refine HA2.out.mono ?_); (rintro e w3 ⟨vS, rfl, oS⟩); (obtain ⟨aS, cS, rfl, hcS, hcSm⟩ := Rd.shape2 oS.rd); (have hO3 := hid (hO.out.keptNo oS.kept)); (have hal := allK_len st 2 st.length); (have hmemS := hid (fun x hx => (mem_allS (st := st) (s := 2) (x := x)).1 hx)); (have hvf : Hd ((allS st 2).foldl (setV quo) (votesP k pc) = votesG k st quo pc) := ⟨rfl⟩); (obtain ⟨S, hS⟩ : ∃ S, allS st 2 = S := ⟨_, rfl⟩); (rw [show allK st 2 st.length = S from hS, hl.out] at hal); (rw [hS] at oS hmemS hvf hcS ⊢); (obtain ⟨sl, hsl⟩ : ∃ l, S.length = l := ⟨_, rfl⟩); (have oS' := hid oS.own); (rw [hsl] at oS' hal hcS ⊢); (replace hsl := hid hsl); (clear HA2 HA hO oS hS); (go_upto_region 14 with fail)
          go_loopw [60] (fun i wr3 => ∃ (i2 : Nat) (qs : List RQ), i2 ≤ sl ∧ i = .int .i64 (i2 : Int) ∧ qs.length = k ∧ Hd (ints qs ((S.take i2).foldl (setV quo) (votesP k pc))) ∧ Hd (OwQ w wr3 (.slice oa k oc) qs) ∧ Hd (wr3.ownsRow 0 3 1 (.slice aS sl cS) sl (S.map Z))) (fun i _ => sl - (intOf i).toNat)
          case atStart => exact ⟨0, qs, by omega, rfl, hqj, hI2, hO3, oS'⟩
          case round =>
            (clear hI2 hO3 oS' hqj); (obtain ⟨i2, qs, hi, rfl, hqi, hI, hO, rS⟩ := hrel)
            by_cases hlt : i2 < sl
            · (have hi1 : (i2 : Int) < (sl : Int) := by omega); (have hi0 : (0 : Int) ≤ (i2 : Int) := by omega); (have hil : i2 < S.length := by rw [hsl.out]; exact hlt); (obtain ⟨b, o, rfl, hcx⟩ := RdZ.at (show RdZ wr (.slice aS sl cS) S from by have := own_RdZ (zs := S) (by rw [hsl.out]; exact rS.out); exact this) i2 hil); (obtain ⟨c, hc1, _, hce⟩ := hmemS.out _ (getD_memZ hil))
              have htk : Hd ((S.take (i2 + 1)).foldl (setV quo) (votesP k pc) = ((S.take i2).foldl (setV quo) (votesP k pc)).set c quo) := ⟨by
                (rw [foldl_take _ _ _ _ hil]); (have : S[i2] = (c : Int) := by rw [List.getD_eq_getElem?_getD, List.getElem?_eq_getElem hil] at hce; exact hce)
                rw [this]; rfl⟩
              (rw [hce] at hcx); (rw [hl.out] at hc1); (have hcn1 : (c : Int) < (k : Int) := by omega); (have hcn0 : (0 : Int) ≤ (c : Int) := by omega); (have hcl : c < qs.length := by omega); (obtain ⟨go_, y0, hgo, hy0, _, _, _, _⟩ := hO.out.inq.at c hcl); (subst hgo); (have d11 : wr.cell? ⟨gk, 11, none⟩ = some (.int .i64 (quo : Int)) := hO.out.kept.cell c11'.out id); (have HOf := hid (ratof_any quo wr (by omega))); (have hcl' := hid hcl); (clear hy0 hce hil); (go_wp2_with fail); (with_reducible refine HOf.out.mono ?_); (rintro e w4 ⟨v4, rfl, o4⟩); (have k4 := o4.kept); (obtain ⟨y, rfl, hy1, hy2, hy3, hy4⟩ := o4.limbs); (obtain ⟨⟨ya, yc, eya⟩, ⟨yb, yd, eyb⟩⟩ := RQ.shape ⟨hy3, hy4⟩); (have hO4 := hO.out.keptNo k4); (have hS4 := k4.ownsRow rS.out fun _ _ => id); (obtain ⟨hO5, hK5⟩ := hO4.put c hcl ⟨hy3, hy4⟩); (have hS5 := hid (hK5.ownsRow hS4 fun j hj (e : j = go_) => own_own hS4 hO4.inq.own (by decide) j hj (by rw [e]; rfl)))
              have hI5 : Hd (ints (qs.set c y) ((S.take (i2 + 1)).foldl (setV quo) (votesP k pc))) := ⟨by
                (rw [htk.out]); (have := ints_set hI.out c y hy2)
                rwa [hy1] at this⟩
              (have eC : cQ y = [.bool false, .slice ya (nl y.p).length yc, .slice yb (nl y.q).length yd] := by unfold cQ; rw [eya, eyb]); (rw [eya, eyb]); (rw [eC] at hO5 hS5); (have hO5' : Hd (OwQ w (((w4.setCell ⟨go_, c * 3, none⟩ (.bool false)).setCell ⟨go_, c * 3 + 1, none⟩ (.slice ya (nl y.p).length yc)).setCell ⟨go_, c * 3 + 2, none⟩ (.slice yb (nl y.q).length yd)) (.slice (some ⟨go_, 0, none⟩) k oc) (qs.set c y)) := ⟨hO5⟩); (replace hS5 : Hd (World.ownsRow (((w4.setCell ⟨go_, c * 3, none⟩ (.bool false)).setCell ⟨go_, c * 3 + 1, none⟩ (.slice ya (nl y.p).length yc)).setCell ⟨go_, c * 3 + 2, none⟩ (.slice yb (nl y.q).length yd)) 0 3 1 (.slice (some ⟨b, o, none⟩) sl cS) sl (S.map Z)) := ⟨hS5.out⟩); (obtain ⟨_, z0, hgz, _, m0, m1, m2, _⟩ := hO4.inq.at c hcl)
              cases hgz
              (have q0 := row_freeQ hO4.inq (c * 3)); (have q1 := row_freeQ hO4.inq (c * 3 + 1)); (have q2 := row_freeQ hO4.inq (c * 3 + 2)); (have hq5 : (qs.set c y).length = k := by rw [List.length_set]; exact hqi); (clear HOf o4 k4 hy1 hy2 hy3 hy4 eya eyb eC hO5 hK5 hS4 hO4 hO rS hI htk d11 hcx); (go_upto_region 17 with fail); (obtain ⟨w5, hw5⟩ : ∃ W, (((w4.setCell ⟨go_, c * 3, none⟩ (.bool false)).setCell ⟨go_, c * 3 + 1, none⟩ (.slice ya (nl y.p).length yc)).setCell ⟨go_, c * 3 + 2, none⟩ (.slice yb (nl y.q).length yd)) = W := ⟨_, rfl⟩); (rw [hw5] at hO5' hS5); (rw [hw5]); (clear hw5 m0 m1 m2 q0 q1 q2); (go_wp2); (go_roundw)
              case rel => first | exact ⟨i2 + 1, _, by omega, by go_num, hq5, hI5, hO5', hS5⟩ | ((repeat apply Exists.intro); exact ⟨⟨i2 + 1, _, by omega, by go_num, hq5, hI5, hO5', hS5⟩, rfl⟩)
              case measure => simp [intOf]; omega
            · (obtain rfl : i2 = sl := by omega); (have hi1 : ¬ (i2 : Int) < (i2 : Int) := by omega); (have hI3 : Hd (ints qs (votesG k st quo pc)) := ⟨by have := hI.out; rwa [List.take_of_length_le (by rw [hsl.out]; exact Nat.le_refl _), hvf.out] at this⟩); (clear hI); (go_wp2); (go_ret); (first | exact ⟨_, qs, rfl, hI3.out, hO.out⟩ | exact ⟨_, rfl, qs, hI3.out, hO.out⟩)
end Go.Proofs.YtaobaaaihgahfaaGreat
