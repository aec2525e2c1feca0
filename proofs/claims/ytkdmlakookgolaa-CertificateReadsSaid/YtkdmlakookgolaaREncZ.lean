/- electionref31.Encode (printed by gen_renc.py). -/
import Derived.Test.YtkdmlakookgolaaEnc1Z
namespace Go.Mg
open Go.Pil
theorem encK_lenP {A M : Int} {l : List Nd} : ∀ k, k ≤ l.length → (∀ j, j < k → NdOk j (l.getD j default)) → (encK A M l k).length ≤ 7 + 15 * k
  | 0, _, _ => by unfold encK; simp [encB_len]
  | k + 1, hk, h => by
    (rw [encK_succ (by omega), List.length_append]); (have := encK_lenP (A := A) (M := M) k (by omega) fun j hj => h j (by omega)); (have := encNd_len (h k (by omega)))
    omega
end Go.Mg
namespace Go.Proofs.Ytkdmlakookgolaa
open Go.RowKit Go.Mk Go.Pil Go.Mg
theorem refbytes_int (v : Value) (xs : List UInt8) (x k : Int) (X K : Nat) (w : World) (ho : w.ownsRow 0 5 1 v xs.length (xs.map B8)) (hX : x = (X : Int)) (hK : k = (K : Int)) (hk : K ≤ 4) (hl : xs.length ≤ 1000000) :
    Calls Try.prog 64 #[v, .int .i64 x, .int .i64 k] w fun e w' => ∃ v', e = .returned v' ∧ Ext w w' v v' (xs ++ encB X K) := by
  (subst hX hK); (exact refbytes_any v xs X K w ho hk hl)
/-- Bytes of one's own in blocks of S. -/
def PX {Sl : Nat → Nat → Prop} (S : Nat → Prop) (L : List UInt8) : Pr Sl := soft (fun v w => w.ownsRow 0 5 1 v L.length (L.map B8) ∧ ∀ k, ob v k → S k) fun _ _ _ ⟨h1, h2⟩ k => ⟨k.ownsRow h1 fun _ _ => id, h2⟩
theorem Ext.obS {S : Nat → Prop} {w w' : World} {v v' : Value} {L : List UInt8} (h : Ext w w' v v' L) (hS : ∀ k, Mk.ob v k → S k) (hn : ∀ k, w.heap.size ≤ k → S k) : ∀ k, Mk.ob v' k → S k := fun k hk => (h.ob k hk).elim (hS k) (hn k)
set_option maxRecDepth 100000 in
set_option maxHeartbeats 8000000 in
theorem rencode_any (A M : Int) (v : Value) (q : List (Nd × Value)) (w : World) (hq : RdN w v q) :
    Calls Try.prog 30 #[.agg #[.int .i64 A, .int .i64 M, v]] w fun e w' => EncR A M (nds q) e w' ∧ Kept no w w' := by
  (obtain ⟨an, cn, rfl, hlc, hcm⟩ := Rd.shape2 hq.2); (have hm63 := maxLen_63); (obtain ⟨len, hlen⟩ : ∃ n, q.length = n := ⟨_, rfl⟩); (rw [hlen] at hq hlc ⊢); (have hndl : Hd ((nds q).length = len) := ⟨by rw [nds_length]; exact hlen⟩); (replace hlen := hid hlen); (obtain ⟨w1, hw1, g1, k1⟩ := alloc_named w (.cells #[.int .i64 A, .int .i64 M, .slice an len cn] 25)); (have gC := hid g1); (have kF := hid k1); (replace hq := hid hq)
  go_enter Try.func30, Try.ntmps30
  (go_upto_region 1 with fail); (rw [← hw1]); (generalize w.heap.size = GC at gC); (obtain ⟨c0, c1, c2⟩ := slotC gC.out); (clear hw1 g1 k1)
  by_cases b1 : A < 0
  · (have b1d : decide (A < 0) = true := decide_eq_true b1); (have hv : Hd (¬ EncOk A M (nds q)) := ⟨fun h => by have := h.a0; omega⟩); (go_wp2); (go_ret2); (exact ⟨.inr ⟨hv.out, rfl⟩, kF.out⟩)
  have b1d : decide (A < 0) = false := decide_eq_false b1
  by_cases b2 : 7 ≤ A
  · (have b2d : decide (7 ≤ A) = true := decide_eq_true b2); (have hv : Hd (¬ EncOk A M (nds q)) := ⟨fun h => by have := h.a1; omega⟩); (go_wp2); (go_ret2); (exact ⟨.inr ⟨hv.out, rfl⟩, kF.out⟩)
  have b2d : decide (7 ≤ A) = false := decide_eq_false b2
  by_cases b3 : M < 0
  · (have b3d : decide (M < 0) = true := decide_eq_true b3); (have hv : Hd (¬ EncOk A M (nds q)) := ⟨fun h => by have := h.m0; omega⟩); (go_wp2); (go_ret2); (exact ⟨.inr ⟨hv.out, rfl⟩, kF.out⟩)
  have b3d : decide (M < 0) = false := decide_eq_false b3
  by_cases b4 : 100000 < M
  · (have b4d : decide (100000 < M) = true := decide_eq_true b4); (have hv : Hd (¬ EncOk A M (nds q)) := ⟨fun h => by have := h.m1; omega⟩); (go_wp2); (go_ret2); (exact ⟨.inr ⟨hv.out, rfl⟩, kF.out⟩)
  have b4d : decide (100000 < M) = false := decide_eq_false b4
  by_cases hl4 : 4000 < len
  · (have hl4i : (4000 : Int) < (len : Int) := by omega); (have hl4d : decide ((4000 : Int) < (len : Int)) = true := decide_eq_true hl4i); (have hv : Hd (¬ EncOk A M (nds q)) := ⟨fun h => by have := h.len; rw [hndl.out] at this; omega⟩); (go_wp2); (go_ret2); (exact ⟨.inr ⟨hv.out, rfl⟩, kF.out⟩)
  (have hl4i : ¬ (4000 : Int) < (len : Int) := by omega); (have hl4d : decide ((4000 : Int) < (len : Int)) = false := decide_eq_false hl4i); (obtain ⟨A', rfl⟩ : ∃ a : Nat, A = (a : Int) := ⟨A.toNat, by omega⟩); (obtain ⟨M', rfl⟩ : ∃ m : Nat, M = (m : Int) := ⟨M.toNat, by omega⟩); (have c0h := hid c0); (have c1h := hid c1); (have c2h := hid c2); (have kF1 := kF); (have hGC : Hd (GC < w1.drew.heap.size) := ⟨lt_of_heap gC.out⟩); (go_upto_region 3 with fail); (refine region_flow (S := (fun k => w1.drew.heap.size ≤ k)) (Sl := (fun _ => (fun k => w1.drew.heap.size ≤ k))) [Is (.pointer (some ⟨GC, 0, none⟩)), Is (.int .i64 (A' : Int)), PX (fun k => w1.drew.heap.size ≤ k) ([] ++ encB A' 1), Is (.pointer (some ⟨GC, 1, none⟩)), Is (.int .i64 (M' : Int)), PX (fun k => w1.drew.heap.size ≤ k) ([] ++ encB A' 1 ++ encB M' 4), Is (.pointer (some ⟨GC, 2, none⟩)), Is (.slice an len cn), Is (.int .i64 (len : Int)), PX (fun k => w1.drew.heap.size ≤ k) ([] ++ encB A' 1 ++ encB M' 4 ++ encB len 2), PX (fun k => w1.drew.heap.size ≤ k) ([] ++ encB A' 1 ++ encB M' 4 ++ encB len 2)] [2, 5, 9] (fun _ _ h => h) _ (by kernel_rfl) (by kernel_rfl) (by kernel_rfl) (by kernel_rfl) (fun x => by simp only [puts, Act.put, List.map_cons, List.map_nil, Nat.zero_add, Nat.reduceAdd, List.setIfInBounds_toArray, List.set_cons_zero, List.set_cons_succ]; exact rfl) ?_ ?_)
  · (skip); (refine .cons (fun x wf Kk hq hdep hold => ?_) ?_)
    · (try dsimp only); (clear hq hdep hold); (rw [if_pos (by rfl)]); (refine OpY.val ?_ ⟨Kept.refl _ _, rfl⟩); (first | rfl | go_simp)
    refine .cons (fun x wf Kk hq hdep hold => ?_) ?_
    · (try dsimp only); (have h0 : x 0 = _ := hdep 0 (by kernel_rfl)); (clear hq hdep hold); (simp only [h0]); (clear h0); (have m0 := Kk.cell c0h.out (fun h => Nat.not_lt_of_le h hGC.out)); (rw [if_pos (by rfl)]); (refine OpY.val ?_ ⟨Kept.refl _ _, rfl⟩); (first | rfl | go_simp)
    refine .cons (fun x wf Kk hq hdep hold => ?_) ?_
    · (try dsimp only); (have h1 : x 1 = _ := hdep 1 (by kernel_rfl)); (clear hq hdep hold); (simp only [h1]); (clear h1); (rw [if_pos (by rfl)]); (have hsz := Kk.size); (refine OpY.call (f := 64) (args := #[(.slice none 0 0), (.int .i64 (A' : Int)), (.int .i64 1)]) (by go_simp) ?_); (refine (refbytes_int (.slice none 0 0) ([]) _ _ A' 1 wf (World.ownsRow_nil _ _ _ _) rfl rfl (by decide) (by simp)).mono ?_); (rintro e w2 ⟨v2, rfl, E2⟩); (exact ⟨_, rfl, E2.kept.mono (fun k _ hk => (fun k hk => by cases hk) k hk), E2.own, E2.obS (fun k hk => by cases hk) (fun k hk => Nat.le_trans hsz hk)⟩)
    refine .cons (fun x wf Kk hq hdep hold => ?_) ?_
    · (try dsimp only); (clear hq hdep hold); (rw [if_pos (by rfl)]); (refine OpY.val ?_ ⟨Kept.refl _ _, rfl⟩); (first | rfl | go_simp)
    refine .cons (fun x wf Kk hq hdep hold => ?_) ?_
    · (try dsimp only); (have h3 : x 3 = _ := hdep 3 (by kernel_rfl)); (clear hq hdep hold); (simp only [h3]); (clear h3); (have m1 := Kk.cell c1h.out (fun h => Nat.not_lt_of_le h hGC.out)); (rw [if_pos (by rfl)]); (refine OpY.val ?_ ⟨Kept.refl _ _, rfl⟩); (first | rfl | go_simp)
    refine .cons (fun x wf Kk hq hdep hold => ?_) ?_
    · (try dsimp only); (have p2 : Pr.p (Sl := (fun _ => (fun k => w1.drew.heap.size ≤ k))) (PX (fun k => w1.drew.heap.size ≤ k) ([] ++ encB A' 1)) (x 2) wf := hdep 2 (by kernel_rfl)); (have h4 : x 4 = _ := hdep 4 (by kernel_rfl)); (clear hq hdep hold); (simp only [h4]); (clear h4); (rw [if_pos (by rfl)]); (have hsz := Kk.size); (refine OpY.call (f := 64) (args := #[x 2, (.int .i64 (M' : Int)), (.int .i64 4)]) (by go_simp) ?_); (refine (refbytes_int _ ([] ++ encB A' 1) _ _ M' 4 wf p2.1 rfl rfl (by decide) (by simp [encB_len])).mono ?_); (rintro e w2 ⟨v2, rfl, E2⟩); (exact ⟨_, rfl, E2.kept.mono (fun k _ hk => p2.2 k hk), E2.own, E2.obS p2.2 (fun k hk => Nat.le_trans hsz hk)⟩)
    refine .cons (fun x wf Kk hq hdep hold => ?_) ?_
    · (try dsimp only); (clear hq hdep hold); (rw [if_pos (by rfl)]); (refine OpY.val ?_ ⟨Kept.refl _ _, rfl⟩); (first | rfl | go_simp)
    refine .cons (fun x wf Kk hq hdep hold => ?_) ?_
    · (try dsimp only); (have h6 : x 6 = _ := hdep 6 (by kernel_rfl)); (clear hq hdep hold); (simp only [h6]); (clear h6); (have m2 := Kk.cell c2h.out (fun h => Nat.not_lt_of_le h hGC.out)); (rw [if_pos (by rfl)]); (refine OpY.val ?_ ⟨Kept.refl _ _, rfl⟩); (first | rfl | go_simp)
    refine .cons (fun x wf Kk hq hdep hold => ?_) ?_
    · (try dsimp only); (have h7 : x 7 = _ := hdep 7 (by kernel_rfl)); (clear hq hdep hold); (simp only [h7]); (clear h7); (rw [if_pos (by rfl)]); (refine OpY.val ?_ ⟨Kept.refl _ _, rfl⟩); (first | rfl | go_simp)
    refine .cons (fun x wf Kk hq hdep hold => ?_) ?_
    · (try dsimp only); (have p5 : Pr.p (Sl := (fun _ => (fun k => w1.drew.heap.size ≤ k))) (PX (fun k => w1.drew.heap.size ≤ k) ([] ++ encB A' 1 ++ encB M' 4)) (x 5) wf := hdep 5 (by kernel_rfl)); (have h8 : x 8 = _ := hdep 8 (by kernel_rfl)); (clear hq hdep hold); (simp only [h8]); (clear h8); (rw [if_pos (by rfl)]); (have hsz := Kk.size); (refine OpY.call (f := 64) (args := #[x 5, (.int .i64 (len : Int)), (.int .i64 2)]) (by go_simp) ?_); (refine (refbytes_int _ ([] ++ encB A' 1 ++ encB M' 4) _ _ len 2 wf p5.1 rfl rfl (by decide) (by simp [encB_len])).mono ?_); (rintro e w2 ⟨v2, rfl, E2⟩); (exact ⟨_, rfl, E2.kept.mono (fun k _ hk => p5.2 k hk), E2.own, E2.obS p5.2 (fun k hk => Nat.le_trans hsz hk)⟩)
    refine .cons (fun x wf Kk hq hdep hold => ?_) ?_
    · (try dsimp only); (have p9 : Pr.p (Sl := (fun _ => (fun k => w1.drew.heap.size ≤ k))) (PX (fun k => w1.drew.heap.size ≤ k) ([] ++ encB A' 1 ++ encB M' 4 ++ encB len 2)) (x 9) wf := hdep 9 (by kernel_rfl)); (clear hq hdep hold); (rw [if_pos (by rfl)]); (exact OpY.val (v := x 9) rfl ⟨Kept.refl _ _, p9⟩)
    exact .nil _
  · (intro x wf Kk hv); (try dsimp only); (have p10 : Pr.p (Sl := (fun _ => (fun k => w1.drew.heap.size ≤ k))) (PX (fun k => w1.drew.heap.size ≤ k) ([] ++ encB A' 1 ++ encB M' 4 ++ encB len 2)) (x 10) wf := hv 10 (by kernel_rfl)); (clear hv); (obtain ⟨hown, hob⟩ := p10); (have k1f := hid ((Kept.fresh Kk).undrew)); (have hnew : Hd (∀ k, ob (x 10) k → w1.heap.size ≤ k) := ⟨fun k hk => hob k hk⟩)
    have hown0 : Hd (wf.ownsRow 0 5 1 (x 10) (encK (A' : Int) (M' : Int) (nds q) 0).length ((encK (A' : Int) (M' : Int) (nds q) 0).map B8)) := ⟨by
      have e : encK (A' : Int) (M' : Int) (nds q) 0 = [] ++ encB A' 1 ++ encB M' 4 ++ encB len 2 := by
        (unfold encK); (rw [hndl.out, List.take_zero])
        simp [encB]
      rw [e]; exact hown⟩
    (generalize x 10 = vo at hnew hown0 ⊢); (have hCk := hid (k1f.out.cell c2h.out id)); (clear Kk hown hob); (go_wp2)
    go_loopw [4, 5] (fun out i wr => ∃ k : Nat, k ≤ len ∧ i = .int .i64 (k : Int) ∧ Hd (∀ j, j < k → NdOk j ((nds q).getD j default)) ∧ Hd (wr.ownsRow 0 5 1 out (encK (A' : Int) (M' : Int) (nds q) k).length ((encK (A' : Int) (M' : Int) (nds q) k).map B8)) ∧ Hd (∀ k, ob out k → w1.heap.size ≤ k) ∧ Hd (Kept no w1 wr)) (fun _ i _ => len - (intOf i).toNat)
    case atStart => exact ⟨0, by omega, rfl, ⟨fun j hj => by omega⟩, hown0, hnew, k1f⟩
    case round =>
      (clear hown0 hnew k1f hCk); (obtain ⟨k, hk, rfl, hok, hO, hN, hW⟩ := hrel); (have kFr := hid (kF.out.trans' hW.out)); (have c2r := hW.out.cell c2h.out id); (obtain ⟨uo, huo⟩ : ∃ uo, uo = u4 := ⟨_, rfl⟩); (subst huo)
      by_cases hlt : k < len
      · (have hk1 : (k : Int) < (len : Int) := by omega); (have hk0 : (0 : Int) ≤ (k : Int) := by omega); (obtain ⟨b, o, x, tv, rfl, ex, a0, a1, a2, a3, hz⟩ := (hq.out.kept kFr.out).at k (by rw [hlen.out]; exact hlt)); (have hxe := nds_at (by rw [hlen.out]; exact hlt) ex)
        have hzw : RdZ w tv x.tail := by
          (have h1 := hq.out.1 _ (List.getElem_mem (show k < q.length by rw [hlen.out]; exact hlt))); (rw [ex] at h1; exact h1)
        have hbad : Hd (¬ NdOk k x → ¬ EncOk (A' : Int) (M' : Int) (nds q)) := ⟨fun h hc => h (by have := hc.nd k (by rw [hndl.out]; exact hlt); rwa [hxe] at this)⟩
        have hgood : Hd (NdOk k x → ∀ j, j < k + 1 → NdOk j ((nds q).getD j default)) := ⟨fun h j hj => by
          by_cases hjk : j = k
          · subst hjk; rw [hxe]; exact h
          · exact hok.out j (by omega)⟩
        (have hnx : Hd (encK (A' : Int) (M' : Int) (nds q) (k + 1) = encK (A' : Int) (M' : Int) (nds q) k ++ encNd x) := ⟨by rw [encK_succ (by rw [hndl.out]; exact hlt), hxe]⟩); (have hkl := encK_lenP (A := (A' : Int)) (M := (M' : Int)) k (by rw [hndl.out]; omega) hok.out); (obtain ⟨KB, hKB⟩ : ∃ l, encK (A' : Int) (M' : Int) (nds q) k = l := ⟨_, rfl⟩); (rw [hKB] at hO hnx hkl); (obtain ⟨av, cv, rfl, hcv1, _⟩ := Rd.shape2 hz); (have hnd := hid (encNd_eq x)); (obtain ⟨lv, hlv⟩ : ∃ l, x.tail.length = l := ⟨_, rfl⟩); (rw [hlv] at a1 hz hcv1 hzw); (replace hlv := hid hlv); (replace hzw := hid hzw); (obtain ⟨XP, hP⟩ : ∃ p, x.par = p := ⟨_, rfl⟩); (obtain ⟨XD, hD⟩ : ∃ p, x.bd = p := ⟨_, rfl⟩); (obtain ⟨L, hL⟩ : ∃ l, x.leaf = l := ⟨_, rfl⟩); (rw [hP] at a0); (rw [hD] at a2); (rw [hL] at a3); (replace hP := hid hP); (replace hD := hid hD); (replace hL := hid hL); (clear ex hKB hxe hok hz); (go_upto_region 8 with fail); (obtain ⟨w4, hw4, g4, k4⟩ := alloc_named wr (.cells #[.int .i64 XP, .slice av lv cv, .int .i64 XD, .bool L] 76)); (rw [← hw4]); (obtain ⟨d0, d1, d2, d3⟩ := slotN4 g4)
        have hGo : Hd (¬ ob uo wr.heap.size) := ⟨fun e => by
          have := own_lt hO.out _ e
          omega⟩
        (generalize wr.heap.size = G8 at d0 d1 d2 d3 g4 hGo); (have hO4 := hid (k4.ownsRow hO.out fun _ _ => id)); (have hW4 := hid (hW.out.trans' k4)); (have kF := hid (kFr.out.trans' k4)); (replace g4 := hid g4); (clear hw4 k4 hO hW a0 a1 a2 a3 kFr c2r)
        by_cases b5 : XP < -1
        · (have b5d : decide (XP < -1) = true := decide_eq_true b5); (have hv : Hd (¬ EncOk (A' : Int) (M' : Int) (nds q)) := ⟨hbad.out fun h => by have := h.lo; rw [hP.out] at this; omega⟩); (go_wp2); (go_ret2); (exact ⟨.inr ⟨hv.out, rfl⟩, kF.out⟩)
        have b5d : decide (XP < -1) = false := decide_eq_false b5
        by_cases b6 : (k : Int) ≤ XP
        · (have b6d : decide ((k : Int) ≤ XP) = true := decide_eq_true b6); (have hv : Hd (¬ EncOk (A' : Int) (M' : Int) (nds q)) := ⟨hbad.out fun h => by have := h.hi; rw [hP.out] at this; omega⟩); (go_wp2); (go_ret2); (exact ⟨.inr ⟨hv.out, rfl⟩, kF.out⟩)
        have b6d : decide ((k : Int) ≤ XP) = false := decide_eq_false b6
        by_cases b7 : XD < 0
        · (have b7d : decide (XD < 0) = true := decide_eq_true b7); (have hv : Hd (¬ EncOk (A' : Int) (M' : Int) (nds q)) := ⟨hbad.out fun h => by have := h.b0; rw [hD.out] at this; omega⟩); (go_wp2); (go_ret2); (exact ⟨.inr ⟨hv.out, rfl⟩, kF.out⟩)
        have b7d : decide (XD < 0) = false := decide_eq_false b7
        by_cases b8 : 100000 < XD
        · (have b8d : decide (100000 < XD) = true := decide_eq_true b8); (have hv : Hd (¬ EncOk (A' : Int) (M' : Int) (nds q)) := ⟨hbad.out fun h => by have := h.b1; rw [hD.out] at this; omega⟩); (go_wp2); (go_ret2); (exact ⟨.inr ⟨hv.out, rfl⟩, kF.out⟩)
        have b8d : decide (100000 < XD) = false := decide_eq_false b8
        by_cases b9 : lv < 1
        · (have b9i : (lv : Int) < 1 := by omega); (have b9d : decide ((lv : Int) < 1) = true := decide_eq_true b9i); (have b9z : lv = 0 := by omega); (have hv : Hd (¬ EncOk (A' : Int) (M' : Int) (nds q)) := ⟨hbad.out fun h => by have := h.t0; rw [hlv.out] at this; omega⟩); (go_wp2); (go_ret2); (exact ⟨.inr ⟨hv.out, rfl⟩, kF.out⟩)
        (have b9i : ¬ (lv : Int) < 1 := by omega); (have b9d : decide ((lv : Int) < 1) = false := decide_eq_false b9i)
        by_cases bA : 7 < lv
        · (have bAi : (7 : Int) < (lv : Int) := by omega); (have bAd : decide ((7 : Int) < (lv : Int)) = true := decide_eq_true bAi); (have hv : Hd (¬ EncOk (A' : Int) (M' : Int) (nds q)) := ⟨hbad.out fun h => by have := h.t1; rw [hlv.out] at this; omega⟩); (go_wp2); (go_ret2); (exact ⟨.inr ⟨hv.out, rfl⟩, kF.out⟩)
        (have bAi : ¬ (7 : Int) < (lv : Int) := by omega); (have bAd : decide ((7 : Int) < (lv : Int)) = false := decide_eq_false bAi); (obtain ⟨P, hPe⟩ : ∃ p : Nat, XP + 1 = (p : Int) := ⟨(XP + 1).toNat, by omega⟩); (have hPw : IntKind.i64.wrap (XP + 1) = (P : Int) := by rw [hPe]; exact IntWalk.i64_in _ (by omega)); (obtain ⟨D, rfl⟩ : ∃ p : Nat, XD = (p : Int) := ⟨XD.toNat, by omega⟩)
        have hhd : Hd (hdNd x = encB P 2 ++ encB D 4 ++ [byt (if L = true then 1 else 0) 0, byt lv 0]) := ⟨by
          unfold hdNd leafN
          rw [hP.out, hPe, hD.out, hlv.out, hL.out, Int.toNat_natCast, Int.toNat_natCast]⟩
        (clear hPe); (have d0h := hid d0); (have d1h := hid d1); (have d2h := hid d2); (have hSG : Hd (¬ (w4.drew.heap.size ≤ G8 ∨ ob uo G8)) := ⟨fun h => h.elim (fun h => Nat.not_lt_of_le h (lt_of_heap g4.out)) hGo.out⟩); (obtain ⟨know, hknow⟩ : ∃ know : Nat, know = k := ⟨_, rfl⟩); (subst hknow); (obtain ⟨xn, hxn⟩ : ∃ xn, xn = x := ⟨_, rfl⟩); (subst hxn)
        cases L with
        | false =>
          (go_upto_region 13 with fail); (refine region_flow (S := (fun k => w4.drew.heap.size ≤ k ∨ ob uo k)) (Sl := (fun _ => (fun k => w4.drew.heap.size ≤ k ∨ ob uo k))) [Is (uo), Is (.pointer (some ⟨G8, 0, none⟩)), Is (.int .i64 XP), Is (.int .i64 (P : Int)), PX (fun k => w4.drew.heap.size ≤ k ∨ ob uo k) (KB ++ encB P 2), Is (.pointer (some ⟨G8, 2, none⟩)), Is (.int .i64 (D : Int)), PX (fun k => w4.drew.heap.size ≤ k ∨ ob uo k) (KB ++ encB P 2 ++ encB D 4), Is (.int .i64 0), PX (fun k => w4.drew.heap.size ≤ k ∨ ob uo k) (KB ++ encB P 2 ++ encB D 4 ++ encB 0 1), Is (.pointer (some ⟨G8, 1, none⟩)), Is (.slice av lv cv), Is (.int .i64 (lv : Int)), PX (fun k => w4.drew.heap.size ≤ k ∨ ob uo k) (KB ++ encB P 2 ++ encB D 4 ++ encB 0 1 ++ encB lv 1), PX (fun k => w4.drew.heap.size ≤ k ∨ ob uo k) (KB ++ encB P 2 ++ encB D 4 ++ encB 0 1 ++ encB lv 1)] [4, 7, 9, 13] (fun _ _ h => h) _ (by kernel_rfl) (by kernel_rfl) (by kernel_rfl) (by kernel_rfl) (fun x => by simp only [puts, Act.put, List.map_cons, List.map_nil, Nat.zero_add, Nat.reduceAdd, List.setIfInBounds_toArray, List.set_cons_zero, List.set_cons_succ]; exact rfl) ?_ ?_)
          · (skip); (refine .cons (fun x wf Kk hq hdep hold => ?_) ?_)
            · (try dsimp only); (have h14 : x 14 = uo := hold 14 (by kernel_rfl)); (clear hq hdep hold); (simp only [h14]); (clear h14); (rw [if_pos (by rfl)]); (refine OpY.val ?_ ⟨Kept.refl _ _, rfl⟩); (first | rfl | go_simp)
            refine .cons (fun x wf Kk hq hdep hold => ?_) ?_
            · (try dsimp only); (clear hq hdep hold); (rw [if_pos (by rfl)]); (refine OpY.val ?_ ⟨Kept.refl _ _, rfl⟩); (first | rfl | go_simp)
            refine .cons (fun x wf Kk hq hdep hold => ?_) ?_
            · (try dsimp only); (have h1 : x 1 = _ := hdep 1 (by kernel_rfl)); (clear hq hdep hold); (simp only [h1]); (clear h1); (have m0 := Kk.cell d0h.out hSG.out); (rw [if_pos (by rfl)]); (refine OpY.val ?_ ⟨Kept.refl _ _, rfl⟩); (first | rfl | go_simp)
            refine .cons (fun x wf Kk hq hdep hold => ?_) ?_
            · (try dsimp only); (have h2 : x 2 = _ := hdep 2 (by kernel_rfl)); (clear hq hdep hold); (simp only [h2]); (clear h2); (rw [if_pos (by rfl)]); (refine OpY.val ?_ ⟨Kept.refl _ _, rfl⟩); (first | rfl | go_simp)
            refine .cons (fun x wf Kk hq hdep hold => ?_) ?_
            · (try dsimp only); (have h0 : x 0 = _ := hdep 0 (by kernel_rfl)); (have h3 : x 3 = _ := hdep 3 (by kernel_rfl)); (have Kq := hq no (fun j hj => by cases (show j ∈ ([] : List Nat) from by (have e : ∀ l : List Nat, l = [] → j ∈ l → j ∈ ([] : List Nat) := fun l h h2 => h ▸ h2); exact e _ (by kernel_rfl) hj))); (clear hq hdep hold); (simp only [h0, h3]); (clear h0 h3); (rw [if_pos (by rfl)]); (have hb : wf.ownsRow 0 5 1 uo KB.length (KB.map B8) ∧ True := ⟨(Kq.undrew).ownsRow hO4.out (fun _ _ => id), trivial⟩); (have hsz := Kk.size); (refine OpY.call (f := 64) (args := #[(uo), (.int .i64 (P : Int)), (.int .i64 2)]) (by go_simp) ?_); (refine (refbytes_int uo (KB) _ _ P 2 wf hb.1 rfl rfl (by decide) (by omega)).mono ?_); (rintro e w2 ⟨v2, rfl, E2⟩); (exact ⟨_, rfl, E2.kept.mono (fun k _ hk => (fun k hk => Or.inr hk) k hk), E2.own, E2.obS (fun k hk => Or.inr hk) (fun k hk => Or.inl (Nat.le_trans hsz hk))⟩)
            refine .cons (fun x wf Kk hq hdep hold => ?_) ?_
            · (try dsimp only); (clear hq hdep hold); (rw [if_pos (by rfl)]); (refine OpY.val ?_ ⟨Kept.refl _ _, rfl⟩); (first | rfl | go_simp)
            refine .cons (fun x wf Kk hq hdep hold => ?_) ?_
            · (try dsimp only); (have h5 : x 5 = _ := hdep 5 (by kernel_rfl)); (clear hq hdep hold); (simp only [h5]); (clear h5); (have m2 := Kk.cell d2h.out hSG.out); (rw [if_pos (by rfl)]); (refine OpY.val ?_ ⟨Kept.refl _ _, rfl⟩); (first | rfl | go_simp)
            refine .cons (fun x wf Kk hq hdep hold => ?_) ?_
            · (try dsimp only); (have p4 : Pr.p (Sl := (fun _ => (fun k => w4.drew.heap.size ≤ k ∨ ob uo k))) (PX (fun k => w4.drew.heap.size ≤ k ∨ ob uo k) (KB ++ encB P 2)) (x 4) wf := hdep 4 (by kernel_rfl)); (have h6 : x 6 = _ := hdep 6 (by kernel_rfl)); (clear hq hdep hold); (simp only [h6]); (clear h6); (rw [if_pos (by rfl)]); (have hsz := Kk.size); (refine OpY.call (f := 64) (args := #[x 4, (.int .i64 (D : Int)), (.int .i64 4)]) (by go_simp) ?_); (refine (refbytes_int _ (KB ++ encB P 2) _ _ D 4 wf p4.1 rfl rfl (by decide) (by simp [encB_len]; omega)).mono ?_); (rintro e w2 ⟨v2, rfl, E2⟩); (exact ⟨_, rfl, E2.kept.mono (fun k _ hk => p4.2 k hk), E2.own, E2.obS p4.2 (fun k hk => Or.inl (Nat.le_trans hsz hk))⟩)
            refine .cons (fun x wf Kk hq hdep hold => ?_) ?_
            · (try dsimp only); (clear hq hdep hold); (rw [if_pos (by rfl)]); (refine OpY.val ?_ ⟨Kept.refl _ _, rfl⟩); (first | rfl | go_simp)
            refine .cons (fun x wf Kk hq hdep hold => ?_) ?_
            · (try dsimp only); (have p7 : Pr.p (Sl := (fun _ => (fun k => w4.drew.heap.size ≤ k ∨ ob uo k))) (PX (fun k => w4.drew.heap.size ≤ k ∨ ob uo k) (KB ++ encB P 2 ++ encB D 4)) (x 7) wf := hdep 7 (by kernel_rfl)); (have h8 : x 8 = _ := hdep 8 (by kernel_rfl)); (clear hq hdep hold); (simp only [h8]); (clear h8); (rw [if_pos (by rfl)]); (have hsz := Kk.size); (refine OpY.call (f := 64) (args := #[x 7, (.int .i64 0), (.int .i64 1)]) (by go_simp) ?_); (refine (refbytes_int _ (KB ++ encB P 2 ++ encB D 4) _ _ 0 1 wf p7.1 rfl rfl (by decide) (by simp [encB_len]; omega)).mono ?_); (rintro e w2 ⟨v2, rfl, E2⟩); (exact ⟨_, rfl, E2.kept.mono (fun k _ hk => p7.2 k hk), E2.own, E2.obS p7.2 (fun k hk => Or.inl (Nat.le_trans hsz hk))⟩)
            refine .cons (fun x wf Kk hq hdep hold => ?_) ?_
            · (try dsimp only); (clear hq hdep hold); (rw [if_pos (by rfl)]); (refine OpY.val ?_ ⟨Kept.refl _ _, rfl⟩); (first | rfl | go_simp)
            refine .cons (fun x wf Kk hq hdep hold => ?_) ?_
            · (try dsimp only); (have h10 : x 10 = _ := hdep 10 (by kernel_rfl)); (clear hq hdep hold); (simp only [h10]); (clear h10); (have m1 := Kk.cell d1h.out hSG.out); (rw [if_pos (by rfl)]); (refine OpY.val ?_ ⟨Kept.refl _ _, rfl⟩); (first | rfl | go_simp)
            refine .cons (fun x wf Kk hq hdep hold => ?_) ?_
            · (try dsimp only); (have h11 : x 11 = _ := hdep 11 (by kernel_rfl)); (clear hq hdep hold); (simp only [h11]); (clear h11); (rw [if_pos (by rfl)]); (refine OpY.val ?_ ⟨Kept.refl _ _, rfl⟩); (first | rfl | go_simp)
            refine .cons (fun x wf Kk hq hdep hold => ?_) ?_
            · (try dsimp only); (have p9 : Pr.p (Sl := (fun _ => (fun k => w4.drew.heap.size ≤ k ∨ ob uo k))) (PX (fun k => w4.drew.heap.size ≤ k ∨ ob uo k) (KB ++ encB P 2 ++ encB D 4 ++ encB 0 1)) (x 9) wf := hdep 9 (by kernel_rfl)); (have h12 : x 12 = _ := hdep 12 (by kernel_rfl)); (clear hq hdep hold); (simp only [h12]); (clear h12); (rw [if_pos (by rfl)]); (have hsz := Kk.size); (refine OpY.call (f := 64) (args := #[x 9, (.int .i64 (lv : Int)), (.int .i64 1)]) (by go_simp) ?_); (refine (refbytes_int _ (KB ++ encB P 2 ++ encB D 4 ++ encB 0 1) _ _ lv 1 wf p9.1 rfl rfl (by decide) (by simp [encB_len]; omega)).mono ?_); (rintro e w2 ⟨v2, rfl, E2⟩); (exact ⟨_, rfl, E2.kept.mono (fun k _ hk => p9.2 k hk), E2.own, E2.obS p9.2 (fun k hk => Or.inl (Nat.le_trans hsz hk))⟩)
            refine .cons (fun x wf Kk hq hdep hold => ?_) ?_
            · (try dsimp only); (have p13 : Pr.p (Sl := (fun _ => (fun k => w4.drew.heap.size ≤ k ∨ ob uo k))) (PX (fun k => w4.drew.heap.size ≤ k ∨ ob uo k) (KB ++ encB P 2 ++ encB D 4 ++ encB 0 1 ++ encB lv 1)) (x 13) wf := hdep 13 (by kernel_rfl)); (clear hq hdep hold); (rw [if_pos (by rfl)]); (exact OpY.val (v := x 13) rfl ⟨Kept.refl _ _, p13⟩)
            exact .nil _
          · (intro x wf Kk hv); (try dsimp only); (have p14 : Pr.p (Sl := (fun _ => (fun k => w4.drew.heap.size ≤ k ∨ ob uo k))) (PX (fun k => w4.drew.heap.size ≤ k ∨ ob uo k) (KB ++ encB P 2 ++ encB D 4 ++ encB 0 1 ++ encB lv 1)) (x 14) wf := hv 14 (by kernel_rfl)); (clear hv); (obtain ⟨h5, hob5⟩ := p14)
            have k5 : Hd (Kept no w1 wf) := ⟨hW4.out.trans Kk.undrew fun j hj e => by
              rcases (show w4.drew.heap.size ≤ j ∨ ob uo j from e) with h | h
              · (have h1 : w4.heap.size ≤ j := h); (have := hW4.out.size)
                omega
              · have := hN.out j h; omega⟩
            have hN5 : Hd (∀ j, ob (x 14) j → w1.heap.size ≤ j) := ⟨fun j hj => by
              rcases (show w4.drew.heap.size ≤ j ∨ ob uo j from hob5 j hj) with h | h
              · (have h1 : w4.heap.size ≤ j := h); (have := hW4.out.size)
                omega
              · exact hN.out j h⟩
            (have hG5 : Hd (¬ ob (x 14) G8) := ⟨fun h => hSG.out (hob5 G8 h)⟩); (have g5 : Hd (wf.heap[G8]? = some (.cells #[.int .i64 XP, .slice av lv cv, .int .i64 (D : Int), .bool false] 76 (0, 0))) := ⟨(Kk.block G8 (lt_of_heap g4.out) hSG.out).trans g4.out⟩)
            have E5 : Hd (Ext wf wf (x 14) (x 14) (KB ++ hdNd xn)) := ⟨Ext.refl (by
              have e : KB ++ hdNd xn = KB ++ encB P 2 ++ encB D 4 ++ encB 0 1 ++ encB lv 1 := by
                rw [hhd.out]; simp [encB]
              rw [e]; exact h5)⟩
            (generalize x 14 = v5 at hN5 hG5 E5 ⊢); (clear h5 hob5 Kk hO4 hW4 hN hSG hGo d0h d1h d2h hhd g4); (obtain ⟨d0, d1, d2, d3⟩ := slotN4 g5.out); (go_wp2); (clear d0 d1 d2 d3)
            go_loopw [4, 8] (fun out i wr => ∃ z : Nat, z ≤ lv ∧ i = .int .i64 (z : Int) ∧ Hd (∀ c ∈ xn.tail.take z, 0 ≤ c ∧ c < 7) ∧ Hd (Ext wf wr v5 out (KB ++ hdNd xn ++ tlNd (xn.tail.take z)))) (fun _ i _ => lv - (intOf i).toNat)
            case atStart => exact ⟨0, by omega, rfl, ⟨fun c h => by simp at h⟩, ⟨by rw [List.take_zero]; unfold tlNd; rw [List.map_nil, List.append_nil]; exact E5.out⟩⟩
            case round =>
              (clear E5); (obtain ⟨z, hzz, rfl, hcs, hEz⟩ := hrel); (have kz : Hd (Kept no w1 wr) := ⟨k5.out.trans hEz.out.kept fun j hj e => by have := hN5.out j e; omega⟩); (have gz := (hEz.out.kept.block G8 (lt_of_heap g5.out) hG5.out).trans g5.out); (obtain ⟨d0, d1, d2, d3⟩ := slotN4 gz); (have c2z := kz.out.cell c2h.out id); (have kFz := hid (kF1.out.trans' kz.out))
              by_cases hzl : z < lv
              · (have hz1 : (z : Int) < (lv : Int) := by omega); (have hz0 : (0 : Int) ≤ (z : Int) := by omega); (obtain ⟨b', o', rfl, hc⟩ := RdZ.at (hzw.out.kept kFz.out) z (by rw [hlv.out]; exact hzl)); (have hnz := hid (tl_take (t := xn.tail) (z := z) (by rw [hlv.out]; exact hzl))); (have hmem : xn.tail.getD z 0 ∈ xn.tail := by rw [List.getD_eq_getElem?_getD, List.getElem?_eq_getElem (by rw [hlv.out]; exact hzl)]; exact List.getElem_mem _); (have hbad2 : Hd (¬ (0 ≤ xn.tail.getD z 0 ∧ xn.tail.getD z 0 < 7) → ¬ EncOk (A' : Int) (M' : Int) (nds q)) := ⟨fun h => hbad.out fun h' => h (h'.cs _ hmem)⟩)
                have hstep : Hd (0 ≤ xn.tail.getD z 0 ∧ xn.tail.getD z 0 < 7 → ∀ c ∈ xn.tail.take (z + 1), 0 ≤ c ∧ c < 7) := ⟨fun h c hc => by
                  rw [List.take_succ_eq_append_getElem (by rw [hlv.out]; exact hzl), List.mem_append] at hc
                  rcases hc with hc | hc
                  · exact hcs.out c hc
                  · (rw [List.mem_singleton.1 hc]); (rw [List.getD_eq_getElem?_getD, List.getElem?_eq_getElem (by rw [hlv.out]; exact hzl)] at h)
                    exact h⟩
                (obtain ⟨cc, hcc⟩ : ∃ c, xn.tail.getD z 0 = c := ⟨_, rfl⟩); (rw [hcc] at hc hnz hbad2 hstep); (clear hmem hcs hcc gz)
                by_cases e1 : cc < 0
                · (have e1d : decide (cc < 0) = true := decide_eq_true e1); (have hv : Hd (¬ EncOk (A' : Int) (M' : Int) (nds q)) := ⟨hbad2.out fun h => by omega⟩); (go_wp2); (go_ret2); (exact ⟨.inr ⟨hv.out, rfl⟩, kFz.out⟩)
                have e1d : decide (cc < 0) = false := decide_eq_false e1
                by_cases e2 : 7 ≤ cc
                · (have e2d : decide (7 ≤ cc) = true := decide_eq_true e2); (have hv : Hd (¬ EncOk (A' : Int) (M' : Int) (nds q)) := ⟨hbad2.out fun h => by omega⟩); (go_wp2); (go_ret2); (exact ⟨.inr ⟨hv.out, rfl⟩, kFz.out⟩)
                (have e2d : decide (7 ≤ cc) = false := decide_eq_false e2); (have hcs2 := hid (hstep.out ⟨by omega, by omega⟩)); (obtain ⟨cn2, rfl⟩ : ∃ c : Nat, cc = (c : Int) := ⟨cc.toNat, by omega⟩); (rw [Int.toNat_natCast] at hnz); (have hc7 : cn2 < 7 := by omega)
                have hsz : Hd ((KB ++ hdNd xn ++ tlNd (xn.tail.take z)).length + 1 ≤ maxLen ∧ ((KB ++ hdNd xn ++ tlNd (xn.tail.take z)).length + 1) * 1 ≤ 140737488355328) := ⟨by
                  (have hm : maxLen = 9223372036854775807 := rfl); (have h1 : (tlNd (xn.tail.take z)).length ≤ z := by unfold tlNd; rw [List.length_map, List.length_take]; omega)
                  rw [List.length_append, List.length_append, hdNd_len]; omega⟩
                (clear hbad2 hstep); (go_wp2_with (at_builtin; refine wpList_append_lit _ rfl _ _ 45 rfl 5 1 1 TByt _ _ _ rfl hEz.out.own 1 [_] rfl rfl ?c1 ?c2 ?c3 ?_))
                case c1 => simp [Value.oneCell']
                case c2 => have := hsz.out.1; simp at this ⊢; omega
                case c3 => have := hsz.out.2; simp at this ⊢; omega
                intro v' wz h2 h3 h4 _
                have hEz' : Hd (Ext wf wz v5 v' (KB ++ hdNd xn ++ tlNd (xn.tail.take (z + 1)))) := ⟨by
                  (rw [hnz.out, ← List.append_assoc]); (refine hEz.out.add (us := [byt cn2 0]) ?_ h3 h4); (rw [List.map_cons, List.map_nil, ← byt_lit (show cn2 < 256 by omega)])
                  simpa using h2⟩
                (clear h2 h3 h4 hEz hsz hnz d0 d1 d2 d3 hc kz c2z kFz); (go_wp2); (go_roundw)
                case rel => first | exact ⟨z + 1, by omega, by go_num, hcs2, hEz'⟩ | ((repeat apply Exists.intro); exact ⟨⟨z + 1, by omega, by go_num, hcs2, hEz'⟩, rfl⟩)
                case measure => simp [intOf]; omega
              · (have hz1 : ¬ (z : Int) < (lv : Int) := by omega); (have hall := hid (hgood.out ⟨by rw [hP.out]; omega, by rw [hP.out]; omega, by rw [hD.out]; omega, by rw [hD.out]; omega, by rw [hlv.out]; omega, by rw [hlv.out]; omega, fun c hc => hcs.out c (by rw [List.take_of_length_le (by rw [hlv.out]; omega)]; exact hc)⟩))
                have hown : Hd (wr.ownsRow 0 5 1 u4 (encK (A' : Int) (M' : Int) (nds q) (know + 1)).length ((encK (A' : Int) (M' : Int) (nds q) (know + 1)).map B8)) := ⟨by
                  (have := hEz.out.own); (rw [List.take_of_length_le (by rw [hlv.out]; omega)] at this); (rw [hnx.out, hnd.out, ← List.append_assoc])
                  exact this⟩
                have hNn : Hd (∀ j, ob u4 j → w1.heap.size ≤ j) := ⟨fun j hj => by
                  rcases hEz.out.ob j hj with h | h
                  · exact hN5.out j h
                  · have := k5.out.size; omega⟩
                (clear hEz hnx hnd hcs hgood hbad gz kFz); (go_wp2); (go_roundw)
                case rel => first | exact ⟨know + 1, by omega, by go_num, hall, hown, hNn, kz⟩ | ((repeat apply Exists.intro); exact ⟨⟨know + 1, by omega, by go_num, hall, hown, hNn, kz⟩, rfl⟩)
                case measure => simp [intOf]; omega
        | true =>
          (go_upto_region 13 with fail); (refine region_flow (S := (fun k => w4.drew.heap.size ≤ k ∨ ob uo k)) (Sl := (fun _ => (fun k => w4.drew.heap.size ≤ k ∨ ob uo k))) [Is (uo), Is (.pointer (some ⟨G8, 0, none⟩)), Is (.int .i64 XP), Is (.int .i64 (P : Int)), PX (fun k => w4.drew.heap.size ≤ k ∨ ob uo k) (KB ++ encB P 2), Is (.pointer (some ⟨G8, 2, none⟩)), Is (.int .i64 (D : Int)), PX (fun k => w4.drew.heap.size ≤ k ∨ ob uo k) (KB ++ encB P 2 ++ encB D 4), Is (.int .i64 1), PX (fun k => w4.drew.heap.size ≤ k ∨ ob uo k) (KB ++ encB P 2 ++ encB D 4 ++ encB 1 1), Is (.pointer (some ⟨G8, 1, none⟩)), Is (.slice av lv cv), Is (.int .i64 (lv : Int)), PX (fun k => w4.drew.heap.size ≤ k ∨ ob uo k) (KB ++ encB P 2 ++ encB D 4 ++ encB 1 1 ++ encB lv 1), PX (fun k => w4.drew.heap.size ≤ k ∨ ob uo k) (KB ++ encB P 2 ++ encB D 4 ++ encB 1 1 ++ encB lv 1)] [4, 7, 9, 13] (fun _ _ h => h) _ (by kernel_rfl) (by kernel_rfl) (by kernel_rfl) (by kernel_rfl) (fun x => by simp only [puts, Act.put, List.map_cons, List.map_nil, Nat.zero_add, Nat.reduceAdd, List.setIfInBounds_toArray, List.set_cons_zero, List.set_cons_succ]; exact rfl) ?_ ?_)
          · (skip); (refine .cons (fun x wf Kk hq hdep hold => ?_) ?_)
            · (try dsimp only); (have h14 : x 14 = uo := hold 14 (by kernel_rfl)); (clear hq hdep hold); (simp only [h14]); (clear h14); (rw [if_pos (by rfl)]); (refine OpY.val ?_ ⟨Kept.refl _ _, rfl⟩); (first | rfl | go_simp)
            refine .cons (fun x wf Kk hq hdep hold => ?_) ?_
            · (try dsimp only); (clear hq hdep hold); (rw [if_pos (by rfl)]); (refine OpY.val ?_ ⟨Kept.refl _ _, rfl⟩); (first | rfl | go_simp)
            refine .cons (fun x wf Kk hq hdep hold => ?_) ?_
            · (try dsimp only); (have h1 : x 1 = _ := hdep 1 (by kernel_rfl)); (clear hq hdep hold); (simp only [h1]); (clear h1); (have m0 := Kk.cell d0h.out hSG.out); (rw [if_pos (by rfl)]); (refine OpY.val ?_ ⟨Kept.refl _ _, rfl⟩); (first | rfl | go_simp)
            refine .cons (fun x wf Kk hq hdep hold => ?_) ?_
            · (try dsimp only); (have h2 : x 2 = _ := hdep 2 (by kernel_rfl)); (clear hq hdep hold); (simp only [h2]); (clear h2); (rw [if_pos (by rfl)]); (refine OpY.val ?_ ⟨Kept.refl _ _, rfl⟩); (first | rfl | go_simp)
            refine .cons (fun x wf Kk hq hdep hold => ?_) ?_
            · (try dsimp only); (have h0 : x 0 = _ := hdep 0 (by kernel_rfl)); (have h3 : x 3 = _ := hdep 3 (by kernel_rfl)); (have Kq := hq no (fun j hj => by cases (show j ∈ ([] : List Nat) from by (have e : ∀ l : List Nat, l = [] → j ∈ l → j ∈ ([] : List Nat) := fun l h h2 => h ▸ h2); exact e _ (by kernel_rfl) hj))); (clear hq hdep hold); (simp only [h0, h3]); (clear h0 h3); (rw [if_pos (by rfl)]); (have hb : wf.ownsRow 0 5 1 uo KB.length (KB.map B8) ∧ True := ⟨(Kq.undrew).ownsRow hO4.out (fun _ _ => id), trivial⟩); (have hsz := Kk.size); (refine OpY.call (f := 64) (args := #[(uo), (.int .i64 (P : Int)), (.int .i64 2)]) (by go_simp) ?_); (refine (refbytes_int uo (KB) _ _ P 2 wf hb.1 rfl rfl (by decide) (by omega)).mono ?_); (rintro e w2 ⟨v2, rfl, E2⟩); (exact ⟨_, rfl, E2.kept.mono (fun k _ hk => (fun k hk => Or.inr hk) k hk), E2.own, E2.obS (fun k hk => Or.inr hk) (fun k hk => Or.inl (Nat.le_trans hsz hk))⟩)
            refine .cons (fun x wf Kk hq hdep hold => ?_) ?_
            · (try dsimp only); (clear hq hdep hold); (rw [if_pos (by rfl)]); (refine OpY.val ?_ ⟨Kept.refl _ _, rfl⟩); (first | rfl | go_simp)
            refine .cons (fun x wf Kk hq hdep hold => ?_) ?_
            · (try dsimp only); (have h5 : x 5 = _ := hdep 5 (by kernel_rfl)); (clear hq hdep hold); (simp only [h5]); (clear h5); (have m2 := Kk.cell d2h.out hSG.out); (rw [if_pos (by rfl)]); (refine OpY.val ?_ ⟨Kept.refl _ _, rfl⟩); (first | rfl | go_simp)
            refine .cons (fun x wf Kk hq hdep hold => ?_) ?_
            · (try dsimp only); (have p4 : Pr.p (Sl := (fun _ => (fun k => w4.drew.heap.size ≤ k ∨ ob uo k))) (PX (fun k => w4.drew.heap.size ≤ k ∨ ob uo k) (KB ++ encB P 2)) (x 4) wf := hdep 4 (by kernel_rfl)); (have h6 : x 6 = _ := hdep 6 (by kernel_rfl)); (clear hq hdep hold); (simp only [h6]); (clear h6); (rw [if_pos (by rfl)]); (have hsz := Kk.size); (refine OpY.call (f := 64) (args := #[x 4, (.int .i64 (D : Int)), (.int .i64 4)]) (by go_simp) ?_); (refine (refbytes_int _ (KB ++ encB P 2) _ _ D 4 wf p4.1 rfl rfl (by decide) (by simp [encB_len]; omega)).mono ?_); (rintro e w2 ⟨v2, rfl, E2⟩); (exact ⟨_, rfl, E2.kept.mono (fun k _ hk => p4.2 k hk), E2.own, E2.obS p4.2 (fun k hk => Or.inl (Nat.le_trans hsz hk))⟩)
            refine .cons (fun x wf Kk hq hdep hold => ?_) ?_
            · (try dsimp only); (clear hq hdep hold); (rw [if_pos (by rfl)]); (refine OpY.val ?_ ⟨Kept.refl _ _, rfl⟩); (first | rfl | go_simp)
            refine .cons (fun x wf Kk hq hdep hold => ?_) ?_
            · (try dsimp only); (have p7 : Pr.p (Sl := (fun _ => (fun k => w4.drew.heap.size ≤ k ∨ ob uo k))) (PX (fun k => w4.drew.heap.size ≤ k ∨ ob uo k) (KB ++ encB P 2 ++ encB D 4)) (x 7) wf := hdep 7 (by kernel_rfl)); (have h8 : x 8 = _ := hdep 8 (by kernel_rfl)); (clear hq hdep hold); (simp only [h8]); (clear h8); (rw [if_pos (by rfl)]); (have hsz := Kk.size); (refine OpY.call (f := 64) (args := #[x 7, (.int .i64 1), (.int .i64 1)]) (by go_simp) ?_); (refine (refbytes_int _ (KB ++ encB P 2 ++ encB D 4) _ _ 1 1 wf p7.1 rfl rfl (by decide) (by simp [encB_len]; omega)).mono ?_); (rintro e w2 ⟨v2, rfl, E2⟩); (exact ⟨_, rfl, E2.kept.mono (fun k _ hk => p7.2 k hk), E2.own, E2.obS p7.2 (fun k hk => Or.inl (Nat.le_trans hsz hk))⟩)
            refine .cons (fun x wf Kk hq hdep hold => ?_) ?_
            · (try dsimp only); (clear hq hdep hold); (rw [if_pos (by rfl)]); (refine OpY.val ?_ ⟨Kept.refl _ _, rfl⟩); (first | rfl | go_simp)
            refine .cons (fun x wf Kk hq hdep hold => ?_) ?_
            · (try dsimp only); (have h10 : x 10 = _ := hdep 10 (by kernel_rfl)); (clear hq hdep hold); (simp only [h10]); (clear h10); (have m1 := Kk.cell d1h.out hSG.out); (rw [if_pos (by rfl)]); (refine OpY.val ?_ ⟨Kept.refl _ _, rfl⟩); (first | rfl | go_simp)
            refine .cons (fun x wf Kk hq hdep hold => ?_) ?_
            · (try dsimp only); (have h11 : x 11 = _ := hdep 11 (by kernel_rfl)); (clear hq hdep hold); (simp only [h11]); (clear h11); (rw [if_pos (by rfl)]); (refine OpY.val ?_ ⟨Kept.refl _ _, rfl⟩); (first | rfl | go_simp)
            refine .cons (fun x wf Kk hq hdep hold => ?_) ?_
            · (try dsimp only); (have p9 : Pr.p (Sl := (fun _ => (fun k => w4.drew.heap.size ≤ k ∨ ob uo k))) (PX (fun k => w4.drew.heap.size ≤ k ∨ ob uo k) (KB ++ encB P 2 ++ encB D 4 ++ encB 1 1)) (x 9) wf := hdep 9 (by kernel_rfl)); (have h12 : x 12 = _ := hdep 12 (by kernel_rfl)); (clear hq hdep hold); (simp only [h12]); (clear h12); (rw [if_pos (by rfl)]); (have hsz := Kk.size); (refine OpY.call (f := 64) (args := #[x 9, (.int .i64 (lv : Int)), (.int .i64 1)]) (by go_simp) ?_); (refine (refbytes_int _ (KB ++ encB P 2 ++ encB D 4 ++ encB 1 1) _ _ lv 1 wf p9.1 rfl rfl (by decide) (by simp [encB_len]; omega)).mono ?_); (rintro e w2 ⟨v2, rfl, E2⟩); (exact ⟨_, rfl, E2.kept.mono (fun k _ hk => p9.2 k hk), E2.own, E2.obS p9.2 (fun k hk => Or.inl (Nat.le_trans hsz hk))⟩)
            refine .cons (fun x wf Kk hq hdep hold => ?_) ?_
            · (try dsimp only); (have p13 : Pr.p (Sl := (fun _ => (fun k => w4.drew.heap.size ≤ k ∨ ob uo k))) (PX (fun k => w4.drew.heap.size ≤ k ∨ ob uo k) (KB ++ encB P 2 ++ encB D 4 ++ encB 1 1 ++ encB lv 1)) (x 13) wf := hdep 13 (by kernel_rfl)); (clear hq hdep hold); (rw [if_pos (by rfl)]); (exact OpY.val (v := x 13) rfl ⟨Kept.refl _ _, p13⟩)
            exact .nil _
          · (intro x wf Kk hv); (try dsimp only); (have p14 : Pr.p (Sl := (fun _ => (fun k => w4.drew.heap.size ≤ k ∨ ob uo k))) (PX (fun k => w4.drew.heap.size ≤ k ∨ ob uo k) (KB ++ encB P 2 ++ encB D 4 ++ encB 1 1 ++ encB lv 1)) (x 14) wf := hv 14 (by kernel_rfl)); (clear hv); (obtain ⟨h5, hob5⟩ := p14)
            have k5 : Hd (Kept no w1 wf) := ⟨hW4.out.trans Kk.undrew fun j hj e => by
              rcases (show w4.drew.heap.size ≤ j ∨ ob uo j from e) with h | h
              · (have h1 : w4.heap.size ≤ j := h); (have := hW4.out.size)
                omega
              · have := hN.out j h; omega⟩
            have hN5 : Hd (∀ j, ob (x 14) j → w1.heap.size ≤ j) := ⟨fun j hj => by
              rcases (show w4.drew.heap.size ≤ j ∨ ob uo j from hob5 j hj) with h | h
              · (have h1 : w4.heap.size ≤ j := h); (have := hW4.out.size)
                omega
              · exact hN.out j h⟩
            (have hG5 : Hd (¬ ob (x 14) G8) := ⟨fun h => hSG.out (hob5 G8 h)⟩); (have g5 : Hd (wf.heap[G8]? = some (.cells #[.int .i64 XP, .slice av lv cv, .int .i64 (D : Int), .bool true] 76 (0, 0))) := ⟨(Kk.block G8 (lt_of_heap g4.out) hSG.out).trans g4.out⟩)
            have E5 : Hd (Ext wf wf (x 14) (x 14) (KB ++ hdNd xn)) := ⟨Ext.refl (by
              have e : KB ++ hdNd xn = KB ++ encB P 2 ++ encB D 4 ++ encB 1 1 ++ encB lv 1 := by
                rw [hhd.out]; simp [encB]
              rw [e]; exact h5)⟩
            (generalize x 14 = v5 at hN5 hG5 E5 ⊢); (clear h5 hob5 Kk hO4 hW4 hN hSG hGo d0h d1h d2h hhd g4); (obtain ⟨d0, d1, d2, d3⟩ := slotN4 g5.out); (go_wp2); (clear d0 d1 d2 d3)
            go_loopw [4, 8] (fun out i wr => ∃ z : Nat, z ≤ lv ∧ i = .int .i64 (z : Int) ∧ Hd (∀ c ∈ xn.tail.take z, 0 ≤ c ∧ c < 7) ∧ Hd (Ext wf wr v5 out (KB ++ hdNd xn ++ tlNd (xn.tail.take z)))) (fun _ i _ => lv - (intOf i).toNat)
            case atStart => exact ⟨0, by omega, rfl, ⟨fun c h => by simp at h⟩, ⟨by rw [List.take_zero]; unfold tlNd; rw [List.map_nil, List.append_nil]; exact E5.out⟩⟩
            case round =>
              (clear E5); (obtain ⟨z, hzz, rfl, hcs, hEz⟩ := hrel); (have kz : Hd (Kept no w1 wr) := ⟨k5.out.trans hEz.out.kept fun j hj e => by have := hN5.out j e; omega⟩); (have gz := (hEz.out.kept.block G8 (lt_of_heap g5.out) hG5.out).trans g5.out); (obtain ⟨d0, d1, d2, d3⟩ := slotN4 gz); (have c2z := kz.out.cell c2h.out id); (have kFz := hid (kF1.out.trans' kz.out))
              by_cases hzl : z < lv
              · (have hz1 : (z : Int) < (lv : Int) := by omega); (have hz0 : (0 : Int) ≤ (z : Int) := by omega); (obtain ⟨b', o', rfl, hc⟩ := RdZ.at (hzw.out.kept kFz.out) z (by rw [hlv.out]; exact hzl)); (have hnz := hid (tl_take (t := xn.tail) (z := z) (by rw [hlv.out]; exact hzl))); (have hmem : xn.tail.getD z 0 ∈ xn.tail := by rw [List.getD_eq_getElem?_getD, List.getElem?_eq_getElem (by rw [hlv.out]; exact hzl)]; exact List.getElem_mem _); (have hbad2 : Hd (¬ (0 ≤ xn.tail.getD z 0 ∧ xn.tail.getD z 0 < 7) → ¬ EncOk (A' : Int) (M' : Int) (nds q)) := ⟨fun h => hbad.out fun h' => h (h'.cs _ hmem)⟩)
                have hstep : Hd (0 ≤ xn.tail.getD z 0 ∧ xn.tail.getD z 0 < 7 → ∀ c ∈ xn.tail.take (z + 1), 0 ≤ c ∧ c < 7) := ⟨fun h c hc => by
                  rw [List.take_succ_eq_append_getElem (by rw [hlv.out]; exact hzl), List.mem_append] at hc
                  rcases hc with hc | hc
                  · exact hcs.out c hc
                  · (rw [List.mem_singleton.1 hc]); (rw [List.getD_eq_getElem?_getD, List.getElem?_eq_getElem (by rw [hlv.out]; exact hzl)] at h)
                    exact h⟩
                (obtain ⟨cc, hcc⟩ : ∃ c, xn.tail.getD z 0 = c := ⟨_, rfl⟩); (rw [hcc] at hc hnz hbad2 hstep); (clear hmem hcs hcc gz)
                by_cases e1 : cc < 0
                · (have e1d : decide (cc < 0) = true := decide_eq_true e1); (have hv : Hd (¬ EncOk (A' : Int) (M' : Int) (nds q)) := ⟨hbad2.out fun h => by omega⟩); (go_wp2); (go_ret2); (exact ⟨.inr ⟨hv.out, rfl⟩, kFz.out⟩)
                have e1d : decide (cc < 0) = false := decide_eq_false e1
                by_cases e2 : 7 ≤ cc
                · (have e2d : decide (7 ≤ cc) = true := decide_eq_true e2); (have hv : Hd (¬ EncOk (A' : Int) (M' : Int) (nds q)) := ⟨hbad2.out fun h => by omega⟩); (go_wp2); (go_ret2); (exact ⟨.inr ⟨hv.out, rfl⟩, kFz.out⟩)
                (have e2d : decide (7 ≤ cc) = false := decide_eq_false e2); (have hcs2 := hid (hstep.out ⟨by omega, by omega⟩)); (obtain ⟨cn2, rfl⟩ : ∃ c : Nat, cc = (c : Int) := ⟨cc.toNat, by omega⟩); (rw [Int.toNat_natCast] at hnz); (have hc7 : cn2 < 7 := by omega)
                have hsz : Hd ((KB ++ hdNd xn ++ tlNd (xn.tail.take z)).length + 1 ≤ maxLen ∧ ((KB ++ hdNd xn ++ tlNd (xn.tail.take z)).length + 1) * 1 ≤ 140737488355328) := ⟨by
                  (have hm : maxLen = 9223372036854775807 := rfl); (have h1 : (tlNd (xn.tail.take z)).length ≤ z := by unfold tlNd; rw [List.length_map, List.length_take]; omega)
                  rw [List.length_append, List.length_append, hdNd_len]; omega⟩
                (clear hbad2 hstep); (go_wp2_with (at_builtin; refine wpList_append_lit _ rfl _ _ 45 rfl 5 1 1 TByt _ _ _ rfl hEz.out.own 1 [_] rfl rfl ?c1 ?c2 ?c3 ?_))
                case c1 => simp [Value.oneCell']
                case c2 => have := hsz.out.1; simp at this ⊢; omega
                case c3 => have := hsz.out.2; simp at this ⊢; omega
                intro v' wz h2 h3 h4 _
                have hEz' : Hd (Ext wf wz v5 v' (KB ++ hdNd xn ++ tlNd (xn.tail.take (z + 1)))) := ⟨by
                  (rw [hnz.out, ← List.append_assoc]); (refine hEz.out.add (us := [byt cn2 0]) ?_ h3 h4); (rw [List.map_cons, List.map_nil, ← byt_lit (show cn2 < 256 by omega)])
                  simpa using h2⟩
                (clear h2 h3 h4 hEz hsz hnz d0 d1 d2 d3 hc kz c2z kFz); (go_wp2); (go_roundw)
                case rel => first | exact ⟨z + 1, by omega, by go_num, hcs2, hEz'⟩ | ((repeat apply Exists.intro); exact ⟨⟨z + 1, by omega, by go_num, hcs2, hEz'⟩, rfl⟩)
                case measure => simp [intOf]; omega
              · (have hz1 : ¬ (z : Int) < (lv : Int) := by omega); (have hall := hid (hgood.out ⟨by rw [hP.out]; omega, by rw [hP.out]; omega, by rw [hD.out]; omega, by rw [hD.out]; omega, by rw [hlv.out]; omega, by rw [hlv.out]; omega, fun c hc => hcs.out c (by rw [List.take_of_length_le (by rw [hlv.out]; omega)]; exact hc)⟩))
                have hown : Hd (wr.ownsRow 0 5 1 u4 (encK (A' : Int) (M' : Int) (nds q) (know + 1)).length ((encK (A' : Int) (M' : Int) (nds q) (know + 1)).map B8)) := ⟨by
                  (have := hEz.out.own); (rw [List.take_of_length_le (by rw [hlv.out]; omega)] at this); (rw [hnx.out, hnd.out, ← List.append_assoc])
                  exact this⟩
                have hNn : Hd (∀ j, ob u4 j → w1.heap.size ≤ j) := ⟨fun j hj => by
                  rcases hEz.out.ob j hj with h | h
                  · exact hN5.out j h
                  · have := k5.out.size; omega⟩
                (clear hEz hnx hnd hcs hgood hbad gz kFz); (go_wp2); (go_roundw)
                case rel => first | exact ⟨know + 1, by omega, by go_num, hall, hown, hNn, kz⟩ | ((repeat apply Exists.intro); exact ⟨⟨know + 1, by omega, by go_num, hall, hown, hNn, kz⟩, rfl⟩)
                case measure => simp [intOf]; omega
      · (obtain rfl : k = len := by omega); (have hk1 : ¬ (k : Int) < (k : Int) := by omega); (have hv : Hd (EncOk (A' : Int) (M' : Int) (nds q)) := ⟨⟨by omega, by omega, by omega, by omega, by rw [hndl.out]; omega, fun i hi => hok.out i (by rw [hndl.out] at hi; omega)⟩⟩)
        have hr : Hd (Rd wr 1 uo (encC (A' : Int) (M' : Int) (nds q)).length ((encC (A' : Int) (M' : Int) (nds q)).map B8)) := ⟨by
          have := Rd.of_own hO.out
          rw [← encK_all, hndl.out]; exact this⟩
        (clear hO hok); (go_wp2); (go_ret2); (exact ⟨.inl ⟨hv.out, _, rfl, hr.out⟩, kFr.out⟩)
end Go.Proofs.Ytkdmlakookgolaa
