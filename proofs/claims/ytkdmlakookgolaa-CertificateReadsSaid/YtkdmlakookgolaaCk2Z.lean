/- certificate.covers (printed by gen_ck2.py). -/
import Derived.Test.YtkdmlakookgolaaCkLZ
import Derived.Test.YtkdmlakookgolaaCk1Z
import Derived.Test.YtkdmlakookgolaaNodMZ
import Derived.Test.YtkdmlakookgolaaGrpZ
namespace Go.Mg
open Go.Pil
def rootL (l : List Nd) : List Int := (List.range 7).map fun c : Nat => (cntH l (-1) (c : Int) : Int)
def kidL (len : Nat) (l : List Nd) : List Int := (List.range (len * 7)).map fun j : Nat => (cntH l ((j / 7 : Nat) : Int) ((j % 7 : Nat) : Int) : Int)
theorem cntH_nil (i c : Int) : cntH [] i c = 0 := rfl
theorem cntH_snoc (l : List Nd) (x : Nd) (i c : Int) : cntH (l ++ [x]) i c = cntH l i c + if x.par = i ∧ hdN x = c then 1 else 0 := by
  (unfold cntH); (rw [List.countP_append, List.countP_singleton]); (simp only [Bool.and_eq_true, beq_iff_eq])
theorem rootL_at (l : List Nd) {c : Nat} (h : c < 7) : (rootL l).getD c 0 = (cntH l (-1) (c : Int) : Int) := by
  unfold rootL; rw [List.getD_eq_getElem?_getD, List.getElem?_map, List.getElem?_range h]; rfl
theorem kidL_at {len : Nat} (l : List Nd) {i c : Nat} (hi : i < len) (h : c < 7) : (kidL len l).getD (i * 7 + c) 0 = (cntH l (i : Int) (c : Int) : Int) := by
  (unfold kidL); (rw [List.getD_eq_getElem?_getD, List.getElem?_map, List.getElem?_range (by omega)]); (simp only [Option.map_some, Option.getD_some]); (rw [show (i * 7 + c) / 7 = i by omega, show (i * 7 + c) % 7 = c by omega])
theorem rootL_set (l : List Nd) (x : Nd) (hp : x.par = -1) {c : Nat} (hc : hdN x = (c : Int)) (_ : c < 7) : (rootL l).set c ((cntH l (-1) (c : Int) : Int) + 1) = rootL (l ++ [x]) := by
  unfold rootL
  apply List.ext_getElem (by simp)
  (intro j h1 h2); (rw [List.getElem_set]); (simp only [List.getElem_map, List.getElem_range, cntH_snoc])
  by_cases hj : c = j
  · subst hj; rw [if_pos rfl, if_pos ⟨hp, hc⟩]; omega
  · rw [if_neg hj, if_neg (by rw [hc]; omega)]; simp
theorem rootL_same (l : List Nd) (x : Nd) (hp : x.par ≠ -1) : rootL (l ++ [x]) = rootL l := by
  (unfold rootL); (refine List.map_congr_left fun c _ => ?_); (rw [cntH_snoc, if_neg (fun h => hp h.1)]; simp)
theorem kidL_set {len : Nat} (l : List Nd) (x : Nd) {i c : Nat} (hp : x.par = (i : Int)) (hc : hdN x = (c : Int)) (_ : i < len) (h : c < 7) : (kidL len l).set (i * 7 + c) ((cntH l (i : Int) (c : Int) : Int) + 1) = kidL len (l ++ [x]) := by
  unfold kidL
  apply List.ext_getElem (by simp)
  (intro j h1 h2); (rw [List.getElem_set]); (simp only [List.getElem_map, List.getElem_range, cntH_snoc])
  by_cases hj : i * 7 + c = j
  · (subst hj); (rw [if_pos rfl, show (i * 7 + c) / 7 = i by omega, show (i * 7 + c) % 7 = c by omega, if_pos ⟨hp, hc⟩]; omega)
  · rw [if_neg hj, if_neg (by rw [hp, hc]; omega)]; simp
theorem kidL_same {len : Nat} (l : List Nd) (x : Nd) (hp : x.par < 0) : kidL len (l ++ [x]) = kidL len l := by
  (unfold kidL); (refine List.map_congr_left fun j _ => ?_); (rw [cntH_snoc, if_neg (fun h => by have := h.1; omega)]; simp)
theorem kidL_nil (len : Nat) : kidL len [] = List.replicate (len * 7) 0 := by
  unfold kidL; rw [List.eq_replicate_iff]; simp [cntH_nil]
theorem cnt_le (l : List Nd) (i c : Int) : cntH l i c ≤ l.length := List.countP_le_length
/-- Where a tail is not empty: its head and its rest. -/
theorem drop1_eq {x u : List Int} (hx : x ≠ []) : x.drop 1 = u ↔ x.length = u.length + 1 ∧ x.drop 1 = u := by
  constructor
  · (rintro rfl); (refine ⟨?_, rfl⟩); (rw [List.length_drop]); (have := List.length_pos_iff.2 hx)
    omega
  · exact fun h => h.2
end Go.Mg
namespace Go.Proofs.Ytkdmlakookgolaa
open Go.RowKit Go.Mk Go.Pil Go.Mg
theorem nds_take (q : List (Nd × Value)) {k : Nat} {x : Nd} {v : Value} (hk : k < q.length) (h : q[k] = (x, v)) : (nds q).take (k + 1) = (nds q).take k ++ [x] := by
  rw [List.take_succ_eq_append_getElem (by rw [nds_length]; exact hk)]
  congr 2
  simp [nds, h]
/-- A flag that tells whether p holds. -/
def RetIff (p : Prop) (e : Ending) : Prop := ∃ b : Bool, e = .returned (.bool b) ∧ (b = true ↔ p)
theorem retNo {p : Prop} (h : ¬ p) : RetIff p (.returned (.bool false)) := ⟨false, rfl, by simpa using h⟩
theorem retYes {p : Prop} (h : p) : RetIff p (.returned (.bool true)) := ⟨true, rfl, by simpa using h⟩
def zsI (l : List Int) : Array Value := (l.map Z).toArray
theorem zsI_set (l : List Int) (c : Nat) (x : Int) : (zsI l).setIfInBounds c (.int .i64 x) = zsI (l.set c x) := by
  unfold zsI; rw [List.map_set]; simp [Z]
theorem zsI_cell {w : World} {g : Nat} {l : List Int} {t : TypeId} (h : w.heap[g]? = some (.cells (zsI l) t (0, 0))) {c : Nat} (hc : c < l.length) : w.cell? ⟨g, c, none⟩ = some (.int .i64 (l.getD c 0)) := by
  rw [cell_of_row w _ c _ _ _ h]
  simp [zsI, hc, Z]
theorem slotN4 {w : World} {g : Nat} {a b c d : Value} {t : TypeId} (h : w.heap[g]? = some (.cells #[a, b, c, d] t (0, 0))) : w.cell? ⟨g, 0, none⟩ = some a ∧ w.cell? ⟨g, 1, none⟩ = some b ∧ w.cell? ⟨g, 2, none⟩ = some c ∧ w.cell? ⟨g, 3, none⟩ = some d := by
  refine ⟨?_, ?_, ?_, ?_⟩
  · rw [cell_of_row w _ 0 _ _ _ h]; rfl
  · rw [cell_of_row w _ 1 _ _ _ h]; rfl
  · rw [cell_of_row w _ 2 _ _ _ h]; rfl
  · rw [cell_of_row w _ 3 _ _ _ h]; rfl
theorem zsK_made (n : Nat) : madeCells (Value.agg #[.int .i64 0, .int .i64 0, .int .i64 0, .int .i64 0, .int .i64 0, .int .i64 0, .int .i64 0]).cells (n * 7) = zsI (List.replicate (n * 7) 0) := by
  have e : ∀ r, r < 7 → (#[Value.int .i64 0, .int .i64 0, .int .i64 0, .int .i64 0, .int .i64 0, .int .i64 0, .int .i64 0] : Array Value)[r]! = .int .i64 0 := by
    intro r hr
    match r, hr with
    | 0, _ => rfl
    | 1, _ => rfl
    | 2, _ => rfl
    | 3, _ => rfl
    | 4, _ => rfl
    | 5, _ => rfl
    | 6, _ => rfl
  unfold zsI
  apply Array.ext
  · simp [madeCells]
  · (intro j h1 h2); (have : j % 7 < 7 := Nat.mod_lt _ (by decide))
    have e2 : (madeCells (Value.agg #[.int .i64 0, .int .i64 0, .int .i64 0, .int .i64 0, .int .i64 0, .int .i64 0, .int .i64 0]).cells (n * 7))[j] = (#[Value.int .i64 0, .int .i64 0, .int .i64 0, .int .i64 0, .int .i64 0, .int .i64 0, .int .i64 0] : Array Value)[j % 7]! := by
      simp [madeCells, Value.cells]
    rw [e2, e _ this]
    simp [Z]
set_option maxRecDepth 20000 in
theorem makeK (n : Nat) (h : n ≤ 100000) (w : World) : (Instr.makeSlice 114 (.int .i64 (n : Int)) (.int .i64 (n : Int))).run Try.prog w = .ok (.slice (some ⟨w.heap.size, 0, none⟩) n n) (w.alloc (.cells (zsI (List.replicate (n * 7) 0)) 113)) := by
  (obtain ⟨i, hi, hz, hs, hb⟩ := info_parts (P := Try.prog) (e := 113) (z := .agg #[.int .i64 0, .int .i64 0, .int .i64 0, .int .i64 0, .int .i64 0, .int .i64 0, .int .i64 0]) (size := 7) (bytes := 56) (by kernel_rfl)); (have h1 : ((i.bytes : Nat) : Int) * (n : Int) ≤ 281474976710656 := by rw [hb]; omega); (have := run_make (P := Try.prog) w 114 113 i _ Try.underlying114 hi hz .i64 .i64 n n (by omega) (by omega) h1 (by omega)); (rw [this, hs, Int.toNat_natCast, zsK_made])
theorem slotC {w : World} {g : Nat} {a b c : Value} {t : TypeId} (h : w.heap[g]? = some (.cells #[a, b, c] t (0, 0))) : w.cell? ⟨g, 0, none⟩ = some a ∧ w.cell? ⟨g, 1, none⟩ = some b ∧ w.cell? ⟨g, 2, none⟩ = some c := by
  refine ⟨?_, ?_, ?_⟩
  · rw [cell_of_row w _ 0 _ _ _ h]; rfl
  · rw [cell_of_row w _ 1 _ _ _ h]; rfl
  · rw [cell_of_row w _ 2 _ _ _ h]; rfl
def PBlkI {Sl : Nat → Nat → Prop} (g : Nat) (t : TypeId) (l : List Int) : Pr Sl := soft (fun _ w => w.heap[g]? = some (.cells (zsI l) t (0, 0))) fun _ _ _ h k => k.blk h
set_option maxRecDepth 100000 in
set_option maxHeartbeats 8000000 in
theorem covers_any (N : Nat) (h2 : 2 ≤ N) (h7 : N ≤ 7) (A M : Int) (hA : 0 ≤ A ∧ A < (N : Int)) (v : Value) (q : List (Nd × Value)) (w : World) (hq : RdN w v q) (hl : q.length ≤ 4000) :
    Calls Try.prog 56 #[.int .i64 (N : Int), .agg #[.int .i64 A, .int .i64 M, v]] w fun e w' => RetIff (CodeCov N A (nds q)) e ∧ Kept no w w' := by
  (obtain ⟨an, cn, rfl, _, _⟩ := Rd.shape2 hq.2); (obtain ⟨len, hlen⟩ : ∃ n, q.length = n := ⟨_, rfl⟩); (rw [hlen] at hq hl ⊢); (have hndl : Hd ((nds q).length = len) := ⟨by rw [nds_length]; exact hlen⟩); (replace hlen := hid hlen); (obtain ⟨w1, hw1, g1, k1⟩ := alloc_named w (.cells #[.int .i64 A, .int .i64 M, .slice an len cn] 25)); (have e1 : w1.heap.size = w.heap.size + 1 := by rw [hw1]; simp); (obtain ⟨w2, hw2, g2, k2⟩ := alloc_named w1 (.cells #[.int .i64 0, .int .i64 0, .int .i64 0, .int .i64 0, .int .i64 0, .int .i64 0, .int .i64 0] 113)); (have e2 : w2.heap.size = w1.heap.size + 1 := by rw [hw2]; simp); (have hmk := makeK len (by omega) w2); (obtain ⟨w3, hw3, g3, k3⟩ := alloc_named w2 (.cells (zsI (List.replicate (len * 7) 0)) 113)); (have e3 : w3.heap.size = w2.heap.size + 1 := by rw [hw3]; simp); (have k03 := hid ((k1.trans' k2).trans' k3)); (have gC := hid ((k2.trans' k3).blk g1)); (have gR := hid (show w3.heap[w1.heap.size]? = some (.cells (zsI (rootL ((nds q).take 0))) 113 (0, 0)) from k3.blk g2)); (have gK := hid (show w3.heap[w2.heap.size]? = some (.cells (zsI (kidL len ((nds q).take 0))) 113 (0, 0)) from by rw [List.take_zero, kidL_nil]; exact g3)); (have hCR : Hd (w.heap.size ≠ w1.heap.size ∧ w.heap.size ≠ w2.heap.size ∧ w1.heap.size ≠ w2.heap.size ∧ w.heap.size ≤ w1.heap.size ∧ w.heap.size ≤ w2.heap.size) := ⟨by omega⟩); (replace hq := hid hq); (have hcl := hid (fun j => cnt_le ((nds q).take j))); (have k2s := hid k2); (have g1s := hid g1); (replace hw1 := hid hw1); (replace hw2 := hid hw2); (replace hw3 := hid hw3); (replace e1 := hid e1); (replace e2 := hid e2); (clear g1 g2 g3 k1 k2 k3)
  go_enter Try.func56, Try.ntmps56
  (go_upto_region 1 with fail); (rw [← hw1.out]); (go_upto_region 2 with fail); (rw [← hw2.out]); (have gC2 := k2s.out.blk g1s.out); (obtain ⟨c0, c1, c2⟩ := slotC gC2); (go_upto_region 3 with fail); (rw [← hw3.out]); (clear c0 c1 c2 gC2); (obtain ⟨c0, c1, c2⟩ := slotC gC.out); (obtain ⟨SZ, hSZ⟩ : ∃ n, w.heap.size = n := ⟨_, rfl⟩); (rw [hSZ] at gC hCR c0 c1 c2 ⊢); (obtain ⟨GC, hGC⟩ : ∃ n, SZ = n := ⟨_, rfl⟩); (rw [hGC] at gC c0 c1 c2 ⊢); (have hGC' : Hd (w.heap.size = GC) := ⟨hSZ.trans hGC⟩); (rw [hGC] at hCR); (generalize w1.heap.size = GR at gR hCR); (generalize w2.heap.size = GK at gK hCR); (clear hw1 hw2 hw3 e1 e2 hmk k2s g1s hSZ hGC); (go_wp2)
  go_loopw [22] (fun i wr => ∃ k : Nat, k ≤ len ∧ i = .int .i64 (k : Int) ∧ Hd (∀ j, j < k → OkC N (nds q) j ((nds q).getD j default)) ∧ Hd (wr.heap[GC]? = some (.cells #[.int .i64 A, .int .i64 M, .slice an len cn] 25 (0, 0))) ∧ Hd (wr.heap[GR]? = some (.cells (zsI (rootL ((nds q).take k))) 113 (0, 0))) ∧ Hd (wr.heap[GK]? = some (.cells (zsI (kidL len ((nds q).take k))) 113 (0, 0))) ∧ Hd (Kept no w wr)) (fun i _ => len - (intOf i).toNat)
  case atStart => exact ⟨0, by omega, rfl, ⟨fun j hj => by omega⟩, gC, gR, gK, k03⟩
  case round =>
    (clear gR gK gC k03 c0 c1 c2); (obtain ⟨k, hk, rfl, hok, hC, hR, hKd, hW⟩ := hrel)
    by_cases hlt : k < len
    · (have hk1 : (k : Int) < (len : Int) := by omega); (have hk0 : (0 : Int) ≤ (k : Int) := by omega); (obtain ⟨b, o, x, tv, rfl, ex, a0, a1, a2, a3, hz⟩ := (hq.out.kept hW.out).at k (by rw [hlen.out]; exact hlt)); (have hxk : Hd ((nds q).getD k default = x) := ⟨nds_at (by rw [hlen.out]; exact hlt) ex⟩); (have htk := hid (nds_take q (by rw [hlen.out]; exact hlt) ex)); (have hbad : Hd (¬ OkC N (nds q) k x → ¬ CodeCov N A (nds q)) := ⟨fun h hc => h (by have := hc.ok k (by rw [hndl.out]; exact hlt); rwa [hxk.out] at this)⟩); (obtain ⟨av, cv, rfl, hcv1, _⟩ := Rd.shape2 hz); (obtain ⟨lv, hlv⟩ : ∃ l, x.tail.length = l := ⟨_, rfl⟩); (rw [hlv] at a1 hz hcv1); (replace hlv := hid hlv); (obtain ⟨P, hP⟩ : ∃ p, x.par = p := ⟨_, rfl⟩); (obtain ⟨L, hL⟩ : ∃ l, x.leaf = l := ⟨_, rfl⟩); (obtain ⟨B, hB⟩ : ∃ l, x.bd = l := ⟨_, rfl⟩); (rw [hP] at a0); (rw [hB] at a2); (rw [hL] at a3); (replace hP := hid hP); (replace hL := hid hL); (clear ex hB); (go_upto_region 6 with fail); (obtain ⟨w4, hw4, g4, k4⟩ := alloc_named wr (.cells #[.int .i64 P, .slice av lv cv, .int .i64 B, .bool L] 76)); (rw [← hw4]); (obtain ⟨d0, d1, d2, d3⟩ := slotN4 g4); (generalize wr.heap.size = G8 at d0 d1 d2 d3 g4); (have hC4 := hid (k4.blk hC.out)); (have hR4 := hid (k4.blk hR.out)); (have hK4 := hid (k4.blk hKd.out)); (have hW4 := hid (hW.out.trans' k4)); (have hz4 := hz.kept k4); (replace g4 := hid g4); (have HT := hid (ctail_any (N : Int) (.slice av lv cv) x.tail w4 hz4)); (clear hw4 k4 hC hR hKd hW hz a0 a1 a2 a3); (go_wp2_with fail); (with_reducible refine HT.out.mono ?_); (rintro e w5 ⟨rfl, k5⟩); (have hC5 := hid (k5.blk hC4.out)); (have hR5 := hid (k5.blk hR4.out)); (have hK5 := hid (k5.blk hK4.out)); (have hW5 := hid (hW4.out.trans' k5)); (have hz5 := hid (show RdZ w5 (.slice av lv cv) x.tail from hz4.kept k5)); (have g5 := hid (k5.blk g4.out)); (obtain ⟨d0, d1, d2, d3⟩ := slotN4 g5.out); (obtain ⟨c0, c1, c2⟩ := slotC hC5.out); (clear HT k5 hC4 hR4 hK4 hW4 hz4 g4)
      cases hT : isTail (N : Int) x.tail with
      | false =>
        (have hn := hid (hbad.out fun h => by have := h.tail; rw [hT] at this; cases this)); (clear hT); (go_wp2); (go_ret); (exact ⟨retNo hn.out, hW5.out⟩)
      | true =>
      (have hTl := hid (isTail_iff.1 hT)); (have hTc := hid (isTail_cons hT)); (have hlv1 : 0 < lv := by rw [← hlv.out]; exact List.length_pos_iff.2 hTl.out.1); (replace hT := hid hT)
      by_cases hfull : lv = N ∧ L = false
      · (obtain ⟨rfl, rfl⟩ := hfull); (have hn := hid (hbad.out fun h => by have := h.full hlv.out; rw [hL.out] at this; cases this)); (have hbe : ((lv : Int) == (lv : Int)) = true := by simp); (go_wp2); (go_ret); (exact ⟨retNo hn.out, hW5.out⟩)
      have hfl : Hd (x.tail.length = N → x.leaf = true) := ⟨fun h => by
        (rw [hlv.out] at h); (rw [hL.out])
        cases L with
        | true => rfl
        | false => exact absurd ⟨h, rfl⟩ hfull⟩
      have hcond : ((((lv : Int) == (N : Int)) = false ∧ decide ((lv : Int) = (N : Int)) = false) ∧ ¬ (lv : Int) = (N : Int)) ∨ ((((lv : Int) == (N : Int)) = true ∧ decide ((lv : Int) = (N : Int)) = true) ∧ (lv : Int) = (N : Int) ∧ L = true) := by
        by_cases h : lv = N
        · right
          (subst h); (refine ⟨⟨by simp, by simp⟩, rfl, ?_⟩)
          cases L with
          | true => rfl
          | false => exact absurd ⟨rfl, rfl⟩ hfull
        · left
          (have h' : ¬ (lv : Int) = (N : Int) := by omega); (exact ⟨⟨by rw [beq_eq_false_iff_ne]; exact h', decide_eq_false h'⟩, h'⟩)
      (clear hfull); (obtain ⟨bt, ot, rfl, hd0⟩ := hz5.out.at 0 (by rw [hlv.out]; exact hlv1)); (have hhd : Hd (x.tail.getD 0 0 = hdN x) := ⟨by unfold hdN; rw [hTc.out]; simp⟩); (rw [hhd.out, Nat.add_zero] at hd0)
      have hhr : 0 ≤ hdN x ∧ hdN x < (N : Int) := by
        (have : hdN x ∈ x.tail := by rw [hTc.out]; exact List.mem_cons_self); (exact hTl.out.2.2 _ this)
      (obtain ⟨c, hc⟩ : ∃ c : Nat, hdN x = (c : Int) := ⟨(hdN x).toNat, by omega⟩); (rw [hc] at hd0 hhr); (have hcN : c < N := by omega); (have hc7 : (c : Int) < 7 := by omega); (have hcp : (0 : Int) ≤ (c : Int) := by omega); (replace hc := hid hc); (replace hd0 := hid hd0); (clear hhd hhr)
      by_cases hPm : P = -1
      · subst hPm
        by_cases hl1 : lv = 1
        · subst hl1
          have hok2 : Hd (∀ j, j < k + 1 → OkC N (nds q) j ((nds q).getD j default)) := ⟨fun j hj => by
            by_cases hjk : j = k
            · (subst hjk); (rw [hxk.out]); (exact ⟨hT.out, hfl.out, by rw [hP.out]; omega, by rw [hP.out]; omega, fun h => by rw [hP.out] at h; omega, by unfold upT; rw [hP.out, if_neg (by omega)]; exact List.drop_eq_nil_of_le (by rw [hlv.out]; omega)⟩)
            · exact hok.out j (by omega)⟩
          (have hrl := rootL_at ((nds q).take k) (c := c) (by omega)); (have hcc := zsI_cell hR5.out (c := c) (by unfold rootL; simp; omega)); (rw [hrl] at hcc); (have hcb := hcl.out k (-1) (c : Int)); (have htl : ((nds q).take k).length ≤ 4000 := by rw [List.length_take, hndl.out]; omega); (have hset := rootL_set ((nds q).take k) x hP.out hc.out (by omega)); (rw [← htk.out] at hset); (have hks := kidL_same (len := len) ((nds q).take k) x (by rw [hP.out]; omega)); (rw [← htk.out] at hks); (obtain ⟨Cn, hCn⟩ : ∃ n : Nat, cntH ((nds q).take k) (-1) (c : Int) = n := ⟨_, rfl⟩); (rw [hCn] at hcc hcb hset); (have hw1 : IntKind.i64.wrap ((Cn : Int) + 1) = (Cn : Int) + 1 := IntWalk.i64_in _ (by omega)); (have fz := row_free hR5.out c); (have hR6 : Hd ((w5.setCell ⟨GR, c, none⟩ (.int .i64 ((Cn : Int) + 1))).heap[GR]? = some (.cells (zsI (rootL ((nds q).take (k + 1)))) 113 (0, 0))) := ⟨by rw [setCell_row hR5.out, zsI_set, hset]⟩); (have kS := (Kept.refl (fun j => j = GR) w5).setCell (a := ⟨GR, c, none⟩) (.inl rfl) (.int .i64 ((Cn : Int) + 1))); (have hC6 := hid ((kS.block GC (lt_of_heap hC5.out) hCR.out.1).trans hC5.out)); (have hK6 : Hd ((w5.setCell ⟨GR, c, none⟩ (.int .i64 ((Cn : Int) + 1))).heap[GK]? = some (.cells (zsI (kidL len ((nds q).take (k + 1)))) 113 (0, 0))) := ⟨by rw [hks]; exact (kS.block GK (lt_of_heap hK5.out) (Ne.symm hCR.out.2.2.1)).trans hK5.out⟩); (have hW6 := hid (hW5.out.setCell (a := ⟨GR, c, none⟩) (.inr (by rw [hGC'.out]; exact hCR.out.2.2.2.1)) (.int .i64 ((Cn : Int) + 1)))); (have hd0' := hd0.out); (clear hset hks hCn hrl hcb htl kS hok hfl)
          rcases hcond with ⟨⟨q1, q2⟩, q3⟩ | ⟨⟨q1, q2⟩, q3, rfl⟩
          · (go_wp2); (go_roundw)
            case rel => first | exact ⟨k + 1, by omega, by go_num, hok2, hC6, hR6, hK6, hW6⟩ | ((repeat apply Exists.intro); exact ⟨⟨k + 1, by omega, by go_num, hok2, hC6, hR6, hK6, hW6⟩, rfl⟩)
            case measure => simp [intOf]; omega
          · omega
        · have hn := hid (hbad.out fun h => by
            (have := h.cons); (unfold upT at this); (rw [hP.out, if_neg (by omega)] at this); (have := congrArg List.length this); (rw [List.length_drop, hlv.out] at this)
            simp at this; omega)
          (have hl1i : ¬ (lv : Int) = 1 := by omega); (have hl1d : decide ((lv : Int) = 1) = false := decide_eq_false hl1i); (have hl1b : ((lv : Int) == 1) = false := by rw [beq_eq_false_iff_ne]; exact hl1i); (clear hok hfl hd0)
          rcases hcond with ⟨⟨q1, q2⟩, q3⟩ | ⟨⟨q1, q2⟩, q3, rfl⟩
          · (go_wp2); (go_ret); (exact ⟨retNo hn.out, hW5.out⟩)
          · (go_wp2); (go_ret); (exact ⟨retNo hn.out, hW5.out⟩)
      · (have hPi : ¬ P = -1 := hPm); (have hPb : (P == -1) = false := by rw [beq_eq_false_iff_ne]; exact hPm); (have hPd : decide (P = -1) = false := decide_eq_false hPm)
        by_cases hP0 : P < 0
        · (have hP0d : decide (P < 0) = true := decide_eq_true hP0); (have hn := hid (hbad.out fun h => by have := h.lo; rw [hP.out] at this; omega)); (clear hok hfl hd0)
          rcases hcond with ⟨⟨q1, q2⟩, q3⟩ | ⟨⟨q1, q2⟩, q3, rfl⟩
          · (go_wp2_with fail); (go_quiet (fail)); (have kF := hid (hW5.out.drewN nq)); (go_wp2); (go_ret); (exact ⟨retNo hn.out, kF.out⟩)
          · (go_wp2_with fail); (go_quiet (fail)); (have kF := hid (hW5.out.drewN nq)); (go_wp2); (go_ret); (exact ⟨retNo hn.out, kF.out⟩)
        (obtain ⟨p, hp⟩ : ∃ p : Nat, P = (p : Int) := ⟨P.toNat, by omega⟩); (have hP0d : decide (P < 0) = false := decide_eq_false hP0); (subst hp)
        by_cases hPk : (k : Int) ≤ (p : Int)
        · (have hPkd : decide ((k : Int) ≤ (p : Int)) = true := decide_eq_true hPk); (have hPkN : k ≤ p := by omega); (have hPkNd : decide (k ≤ p) = true := decide_eq_true hPkN); (have hn := hid (hbad.out fun h => by have := h.hi; rw [hP.out] at this; omega)); (clear hok hfl hd0)
          rcases hcond with ⟨⟨q1, q2⟩, q3⟩ | ⟨⟨q1, q2⟩, q3, rfl⟩
          · (go_wp2_with fail); (go_quiet (fail)); (have kF := hid (hW5.out.drewN nq)); (go_wp2); (go_ret); (exact ⟨retNo hn.out, kF.out⟩)
          · (go_wp2_with fail); (go_quiet (fail)); (have kF := hid (hW5.out.drewN nq)); (go_wp2); (go_ret); (exact ⟨retNo hn.out, kF.out⟩)
        (have hPkd : decide ((k : Int) ≤ (p : Int)) = false := decide_eq_false hPk); (have hPkN : ¬ k ≤ p := by omega); (have hPkNd : decide (k ≤ p) = false := decide_eq_false hPkN); (have hpl : (p : Int) < (len : Int) := by omega); (have hN0 : ¬ N = 0 := by omega); (have hN0i : (0 : Int) < (N : Int) := by omega); (have hlv0i : (0 : Int) < (lv : Int) := by omega); (have hpl0 : (0 : Int) ≤ (p : Int) := by omega); (obtain ⟨b', o', y, ty, hbo, ey, _, b1, _, b3, hzy⟩ := (hq.out.kept hW5.out).at p (by rw [hlen.out]; omega))
        cases hbo
        (have hyk : Hd ((nds q).getD p default = y) := ⟨nds_at (by rw [hlen.out]; omega) ey⟩); (obtain ⟨ay, cy, rfl, _, _⟩ := Rd.shape2 hzy); (obtain ⟨ly, hly⟩ : ∃ l, y.tail.length = l := ⟨_, rfl⟩); (rw [hly] at b1 hzy); (obtain ⟨Ly, hLy⟩ : ∃ l, y.leaf = l := ⟨_, rfl⟩); (rw [hLy] at b3); (clear ey)
        cases Ly with
        | true =>
          (have hn := hid (hbad.out fun h => by have := h.leafp (by rw [hP.out]; exact hpl0); rw [hP.out, Int.toNat_natCast, hyk.out, hLy] at this; cases this)); (clear hok hfl hd0 hzy hLy hly)
          rcases hcond with ⟨⟨q1, q2⟩, q3⟩ | ⟨⟨q1, q2⟩, q3, rfl⟩
          · (go_wp2_with fail); (go_quiet (fail)); (have kF := hid (hW5.out.drewN nq)); (go_wp2); (go_ret); (exact ⟨retNo hn.out, kF.out⟩)
          · (go_wp2_with fail); (go_quiet (fail)); (have kF := hid (hW5.out.drewN nq)); (go_wp2); (go_ret); (exact ⟨retNo hn.out, kF.out⟩)
        | false =>
        (have hsl : ∀ w, (Instr.slice 40 (.slice (some ⟨bt, ot, none⟩) lv cv) (some (.int .i64 1)) none none).run Try.prog w = .ok (.slice (if cv = 1 then (some ⟨bt, ot, none⟩ : Option Addr) else (some ⟨bt, ot, none⟩ : Option Addr).map (·.add 1)) (lv - 1) (cv - 1)) w := fun w => post_sliceI (some ⟨bt, ot, none⟩) lv cv 1 (by omega) w); (have hzd := hz5.out.dropI 1 (by rw [hlv.out]; omega)); (rw [hlv.out] at hzd); (obtain ⟨ad, had⟩ : ∃ ad, (if cv = 1 then (some ⟨bt, ot, none⟩ : Option Addr) else (some ⟨bt, ot, none⟩ : Option Addr).map (·.add 1)) = ad := ⟨_, rfl⟩); (rw [had] at hsl hzd); (obtain ⟨ld, hld⟩ : ∃ l, lv - 1 = l := ⟨_, rfl⟩); (obtain ⟨cd, hcd⟩ : ∃ l, cv - 1 = l := ⟨_, rfl⟩); (rw [hld, hcd] at hsl hzd); (have HE := Qt.quiet (w := w5) fun W (kw : Qt w5 W) => equal_any (.slice ad ld cd) (.slice ay ly cy) (x.tail.drop 1) y.tail W (RdZ.kept hzd kw.kept) (RdZ.kept (show RdZ w5 (.slice ay ly cy) y.tail from by rw [← hly] at hzy ⊢; exact hzy) kw.kept)); (have hup : Hd (upT (nds q) x = y.tail) := ⟨by unfold upT; rw [hP.out, if_pos hpl0, Int.toNat_natCast, hyk.out]⟩)
        by_cases heq : x.tail.drop 1 = y.tail
        · (rw [decide_eq_true heq] at HE); (replace HE := hid HE)
          have hok2 : Hd (∀ j, j < k + 1 → OkC N (nds q) j ((nds q).getD j default)) := ⟨fun j hj => by
            by_cases hjk : j = k
            · (subst hjk); (rw [hxk.out]); (exact ⟨hT.out, hfl.out, by rw [hP.out]; omega, by rw [hP.out]; omega, fun h => by rw [hP.out, Int.toNat_natCast, hyk.out]; exact hLy, by rw [hup.out]; exact heq⟩)
            · exact hok.out j (by omega)⟩
          (have hrs := rootL_same ((nds q).take k) x (by rw [hP.out]; omega)); (rw [← htk.out] at hrs); (have hks := kidL_set (len := len) ((nds q).take k) x hP.out hc.out (by omega) (by omega)); (rw [← htk.out] at hks); (have hkl := kidL_at (len := len) ((nds q).take k) (i := p) (c := c) (by omega) (by omega)); (have hcb := hcl.out k (p : Int) (c : Int)); (have htl : ((nds q).take k).length ≤ 4000 := by rw [List.length_take, hndl.out]; omega); (obtain ⟨Cn, hCn⟩ : ∃ n : Nat, cntH ((nds q).take k) (p : Int) (c : Int) = n := ⟨_, rfl⟩); (rw [hCn] at hcb hks hkl); (have hlk : p * 7 + c < (kidL len ((nds q).take k)).length := by unfold kidL; simp; omega); (obtain ⟨KL, hKL⟩ : ∃ l, kidL len ((nds q).take k) = l := ⟨_, rfl⟩); (rw [hKL] at hK5 hks hkl hlk); (have hw1 : IntKind.i64.wrap ((Cn : Int) + 1) = (Cn : Int) + 1 := IntWalk.i64_in _ (by omega)); (replace hks := hid hks); (replace hkl := hid hkl); (replace hlk := hid hlk); (have hR6 : Hd (w5.heap[GR]? = some (.cells (zsI (rootL ((nds q).take (k + 1)))) 113 (0, 0))) := ⟨by rw [hrs]; exact hR5.out⟩); (clear hrs hKL hCn hcb htl hok hfl hzy hzd hLy hly had hld hcd hup heq hR5)
          rcases hcond with ⟨⟨q1, q2⟩, q3⟩ | ⟨⟨q1, q2⟩, q3, rfl⟩
          · (skip); (go_wp2_with fail); (go_quiet ((go_at_call 78; exact HE.out _))); (obtain ⟨w6, hw6⟩ : ∃ w6, w6 = w5.drewN nq := ⟨_, rfl⟩); (have k56 : Kept no w5 w6 := by rw [hw6]; exact (Kept.refl no w5).drewN nq); (rw [← hw6]); (have hC6 := hid (k56.blk hC5.out)); (have hR7 := hid (k56.blk hR6.out)); (have hK6 := hid (k56.blk hK5.out)); (have hW6 := hid (hW5.out.trans' k56)); (have g6 := hid (k56.blk g5.out)); (have hd6 := hid (k56.cell hd0.out id))
            have hKc := hid (show w6.cell? ⟨GK, p * 7 + c, none⟩ = some (.int .i64 (Cn : Int)) from by
              have := zsI_cell hK6.out hlk.out
              rwa [hkl.out] at this)
            (clear hw6 k56 hsl hd0 HE b1 b3 c0 c1 c2 d0 d1 d2 d3 hC5 hR6 hK5 hW5 g5); (go_upto_region 14 with fail); (have e0 := hid (slotN4 g6.out).1); (have e1 := hid (slotN4 g6.out).2.1); (refine region_flow (S := (fun k => k = GK)) (Sl := (fun j k => j = 13 ∧ k = GK)) [Is (.slice (some ⟨GK, 0, none⟩) len len), Is (.pointer (some ⟨G8, 0, none⟩)), Is (.int .i64 (p : Int)), Is (.pointer (some ⟨G8, 1, none⟩)), Is (.slice (some ⟨bt, ot, none⟩) lv cv), Is (.pointer (some ⟨bt, ot, none⟩)), Is (.int .i64 (c : Int)), Is (.pointer (some ⟨GK, p * 7, none⟩)), Is (.pointer (some ⟨GK, p * 7 + c, none⟩)), Is (.int .i64 (Cn : Int)), Is (.int .i64 ((Cn : Int) + 1)), Is (.pointer (some ⟨GK, p * 7, none⟩)), Is (.pointer (some ⟨GK, p * 7 + c, none⟩)), PBlkI GK 113 (kidL len ((nds q).take (k + 1)))] [13] (fun j k h => h.2) _ (by kernel_rfl) (by kernel_rfl) (by kernel_rfl) (by kernel_rfl) (fun x => by simp only [puts, Act.put, List.map_cons, List.map_nil, Nat.zero_add, Nat.reduceAdd, List.setIfInBounds_toArray, List.set_cons_zero, List.set_cons_succ]; exact rfl) ?_ ?_)
            · (skip); (refine .cons (fun x wf Kk hq hdep hold => ?_) ?_)
              · (try dsimp only); (clear hq hdep hold); (rw [if_pos (by rfl)]); (refine OpY.val ?_ ⟨Kept.refl _ _, rfl⟩); (first | rfl | go_simp)
              refine .cons (fun x wf Kk hq hdep hold => ?_) ?_
              · (try dsimp only); (clear hq hdep hold); (rw [if_pos (by rfl)]); (refine OpY.val ?_ ⟨Kept.refl _ _, rfl⟩); (first | rfl | go_simp)
              refine .cons (fun x wf Kk hq hdep hold => ?_) ?_
              · (try dsimp only); (have h1 : x 1 = _ := hdep 1 (by kernel_rfl)); (have Kq := hq no (fun j hj => by cases (show j ∈ ([] : List Nat) from by (have e : ∀ l : List Nat, l = [] → j ∈ l → j ∈ ([] : List Nat) := fun l h h2 => h ▸ h2); exact e _ (by kernel_rfl) hj))); (clear hq hdep hold); (simp only [h1]); (clear h1); (have m1 := Kq.undrew.cell e0.out id); (rw [if_pos (by rfl)]); (refine OpY.val ?_ ⟨Kept.refl _ _, rfl⟩); (first | rfl | go_simp)
              refine .cons (fun x wf Kk hq hdep hold => ?_) ?_
              · (try dsimp only); (clear hq hdep hold); (rw [if_pos (by rfl)]); (refine OpY.val ?_ ⟨Kept.refl _ _, rfl⟩); (first | rfl | go_simp)
              refine .cons (fun x wf Kk hq hdep hold => ?_) ?_
              · (try dsimp only); (have h3 : x 3 = _ := hdep 3 (by kernel_rfl)); (have Kq := hq no (fun j hj => by cases (show j ∈ ([] : List Nat) from by (have e : ∀ l : List Nat, l = [] → j ∈ l → j ∈ ([] : List Nat) := fun l h h2 => h ▸ h2); exact e _ (by kernel_rfl) hj))); (clear hq hdep hold); (simp only [h3]); (clear h3); (have m1 := Kq.undrew.cell e1.out id); (rw [if_pos (by rfl)]); (refine OpY.val ?_ ⟨Kept.refl _ _, rfl⟩); (first | rfl | go_simp)
              refine .cons (fun x wf Kk hq hdep hold => ?_) ?_
              · (try dsimp only); (have h4 : x 4 = _ := hdep 4 (by kernel_rfl)); (clear hq hdep hold); (simp only [h4]); (clear h4); (rw [if_pos (by rfl)]); (refine OpY.val ?_ ⟨Kept.refl _ _, rfl⟩); (first | rfl | go_simp)
              refine .cons (fun x wf Kk hq hdep hold => ?_) ?_
              · (try dsimp only); (have h5 : x 5 = _ := hdep 5 (by kernel_rfl)); (have Kq := hq no (fun j hj => by cases (show j ∈ ([] : List Nat) from by (have e : ∀ l : List Nat, l = [] → j ∈ l → j ∈ ([] : List Nat) := fun l h h2 => h ▸ h2); exact e _ (by kernel_rfl) hj))); (clear hq hdep hold); (simp only [h5]); (clear h5); (have m1 := Kq.undrew.cell hd6.out id); (rw [if_pos (by rfl)]); (refine OpY.val ?_ ⟨Kept.refl _ _, rfl⟩); (first | rfl | go_simp)
              refine .cons (fun x wf Kk hq hdep hold => ?_) ?_
              · (try dsimp only); (have h0 : x 0 = _ := hdep 0 (by kernel_rfl)); (have h2 : x 2 = _ := hdep 2 (by kernel_rfl)); (clear hq hdep hold); (simp only [h0, h2]); (clear h0 h2); (rw [if_pos (by rfl)]); (refine OpY.val ?_ ⟨Kept.refl _ _, rfl⟩); (first | rfl | go_simp)
              refine .cons (fun x wf Kk hq hdep hold => ?_) ?_
              · (try dsimp only); (have h7 : x 7 = _ := hdep 7 (by kernel_rfl)); (have h6 : x 6 = _ := hdep 6 (by kernel_rfl)); (clear hq hdep hold); (simp only [h7, h6]); (clear h7 h6); (rw [if_pos (by rfl)]); (refine OpY.val ?_ ⟨Kept.refl _ _, rfl⟩); (first | rfl | go_simp)
              refine .cons (fun x wf Kk hq hdep hold => ?_) ?_
              · (try dsimp only); (have h8 : x 8 = _ := hdep 8 (by kernel_rfl)); (have Kq := hq no (fun j hj => by cases (show j ∈ ([] : List Nat) from by (have e : ∀ l : List Nat, l = [] → j ∈ l → j ∈ ([] : List Nat) := fun l h h2 => h ▸ h2); exact e _ (by kernel_rfl) hj))); (clear hq hdep hold); (simp only [h8]); (clear h8); (have m1 := Kq.undrew.cell hKc.out id); (rw [if_pos (by rfl)]); (refine OpY.val ?_ ⟨Kept.refl _ _, rfl⟩); (first | rfl | go_simp)
              refine .cons (fun x wf Kk hq hdep hold => ?_) ?_
              · (try dsimp only); (have h9 : x 9 = _ := hdep 9 (by kernel_rfl)); (clear hq hdep hold); (simp only [h9]); (clear h9); (rw [if_pos (by rfl)]); (refine OpY.val ?_ ⟨Kept.refl _ _, rfl⟩); (first | rfl | go_simp)
              refine .cons (fun x wf Kk hq hdep hold => ?_) ?_
              · (try dsimp only); (have h0 : x 0 = _ := hdep 0 (by kernel_rfl)); (have h2 : x 2 = _ := hdep 2 (by kernel_rfl)); (clear hq hdep hold); (simp only [h0, h2]); (clear h0 h2); (rw [if_pos (by rfl)]); (refine OpY.val ?_ ⟨Kept.refl _ _, rfl⟩); (first | rfl | go_simp)
              refine .cons (fun x wf Kk hq hdep hold => ?_) ?_
              · (try dsimp only); (have h11 : x 11 = _ := hdep 11 (by kernel_rfl)); (have h6 : x 6 = _ := hdep 6 (by kernel_rfl)); (clear hq hdep hold); (simp only [h11, h6]); (clear h11 h6); (rw [if_pos (by rfl)]); (refine OpY.val ?_ ⟨Kept.refl _ _, rfl⟩); (first | rfl | go_simp)
              refine .cons (fun x wf Kk hq hdep hold => ?_) ?_
              · (try dsimp only); (have h12 : x 12 = _ := hdep 12 (by kernel_rfl)); (have h10 : x 10 = _ := hdep 10 (by kernel_rfl)); (have Kq := hq no (fun j hj => by cases (show j ∈ ([] : List Nat) from by (have e : ∀ l : List Nat, l = [] → j ∈ l → j ∈ ([] : List Nat) := fun l h h2 => h ▸ h2); exact e _ (by kernel_rfl) hj))); (clear hq hdep hold); (simp only [h12, h10]); (clear h12 h10); (rw [if_pos (by rfl)]); (have hb := Kq.undrew.blk hK6.out); (have fz := row_free hb (p * 7 + c)); (have m1 := Kq.undrew.cell hKc.out id); (have kS := (Kept.refl (fun j => j = GK) wf).setCell (a := ⟨GK, p * 7 + c, none⟩) (.inl rfl) (.int .i64 ((Cn : Int) + 1))); (refine OpY.skipY (w' := wf.setCell ⟨GK, p * 7 + c, none⟩ (.int .i64 ((Cn : Int) + 1))) (by go_simp) ⟨kS.mono fun k _ h => ⟨by trivial, h⟩, ?_⟩)
                show (wf.setCell ⟨GK, p * 7 + c, none⟩ (.int .i64 ((Cn : Int) + 1))).heap[GK]? = _
                rw [setCell_row hb, zsI_set, hks.out]
              exact .nil _
            · (intro x wf Kk hv); (try dsimp only); (have p13 : Pr.p (Sl := (fun j k => j = 13 ∧ k = GK)) (PBlkI GK 113 (kidL len ((nds q).take (k + 1)))) (x 13) wf := hv 13 (by kernel_rfl)); (clear hv); (have hC7 := hid ((Kk.undrew.block GC (lt_of_heap hC6.out) hCR.out.2.1).trans hC6.out)); (have hR8 := hid ((Kk.undrew.block GR (lt_of_heap hR7.out) hCR.out.2.2.1).trans hR7.out)); (have hK7 := hid p13)
              have hW7 : Hd (Kept no w wf) := ⟨hW6.out.trans Kk.undrew fun j hj h => by
                rw [h] at hj; have h1 := hCR.out.2.2.2.2; rw [← hGC'.out] at h1; omega⟩
              (clear Kk p13 hC6 hR7 hK6 hW6 g6 hd6 hKc e0 e1 hks hkl hlk); (go_wp2); (go_roundw)
              case rel => first | exact ⟨k + 1, by omega, by go_num, hok2, hC7, hR8, hK7, hW7⟩ | ((repeat apply Exists.intro); exact ⟨⟨k + 1, by omega, by go_num, hok2, hC7, hR8, hK7, hW7⟩, rfl⟩)
              case measure => simp [intOf]; omega
          · (skip); (go_wp2_with fail); (go_quiet ((go_at_call 78; exact HE.out _))); (obtain ⟨w6, hw6⟩ : ∃ w6, w6 = w5.drewN nq := ⟨_, rfl⟩); (have k56 : Kept no w5 w6 := by rw [hw6]; exact (Kept.refl no w5).drewN nq); (rw [← hw6]); (have hC6 := hid (k56.blk hC5.out)); (have hR7 := hid (k56.blk hR6.out)); (have hK6 := hid (k56.blk hK5.out)); (have hW6 := hid (hW5.out.trans' k56)); (have g6 := hid (k56.blk g5.out)); (have hd6 := hid (k56.cell hd0.out id))
            have hKc := hid (show w6.cell? ⟨GK, p * 7 + c, none⟩ = some (.int .i64 (Cn : Int)) from by
              have := zsI_cell hK6.out hlk.out
              rwa [hkl.out] at this)
            (clear hw6 k56 hsl hd0 HE b1 b3 c0 c1 c2 d0 d1 d2 d3 hC5 hR6 hK5 hW5 g5); (go_upto_region 14 with fail); (have e0 := hid (slotN4 g6.out).1); (have e1 := hid (slotN4 g6.out).2.1); (refine region_flow (S := (fun k => k = GK)) (Sl := (fun j k => j = 13 ∧ k = GK)) [Is (.slice (some ⟨GK, 0, none⟩) len len), Is (.pointer (some ⟨G8, 0, none⟩)), Is (.int .i64 (p : Int)), Is (.pointer (some ⟨G8, 1, none⟩)), Is (.slice (some ⟨bt, ot, none⟩) lv cv), Is (.pointer (some ⟨bt, ot, none⟩)), Is (.int .i64 (c : Int)), Is (.pointer (some ⟨GK, p * 7, none⟩)), Is (.pointer (some ⟨GK, p * 7 + c, none⟩)), Is (.int .i64 (Cn : Int)), Is (.int .i64 ((Cn : Int) + 1)), Is (.pointer (some ⟨GK, p * 7, none⟩)), Is (.pointer (some ⟨GK, p * 7 + c, none⟩)), PBlkI GK 113 (kidL len ((nds q).take (k + 1)))] [13] (fun j k h => h.2) _ (by kernel_rfl) (by kernel_rfl) (by kernel_rfl) (by kernel_rfl) (fun x => by simp only [puts, Act.put, List.map_cons, List.map_nil, Nat.zero_add, Nat.reduceAdd, List.setIfInBounds_toArray, List.set_cons_zero, List.set_cons_succ]; exact rfl) ?_ ?_)
            · (skip); (refine .cons (fun x wf Kk hq hdep hold => ?_) ?_)
              · (try dsimp only); (clear hq hdep hold); (rw [if_pos (by rfl)]); (refine OpY.val ?_ ⟨Kept.refl _ _, rfl⟩); (first | rfl | go_simp)
              refine .cons (fun x wf Kk hq hdep hold => ?_) ?_
              · (try dsimp only); (clear hq hdep hold); (rw [if_pos (by rfl)]); (refine OpY.val ?_ ⟨Kept.refl _ _, rfl⟩); (first | rfl | go_simp)
              refine .cons (fun x wf Kk hq hdep hold => ?_) ?_
              · (try dsimp only); (have h1 : x 1 = _ := hdep 1 (by kernel_rfl)); (have Kq := hq no (fun j hj => by cases (show j ∈ ([] : List Nat) from by (have e : ∀ l : List Nat, l = [] → j ∈ l → j ∈ ([] : List Nat) := fun l h h2 => h ▸ h2); exact e _ (by kernel_rfl) hj))); (clear hq hdep hold); (simp only [h1]); (clear h1); (have m1 := Kq.undrew.cell e0.out id); (rw [if_pos (by rfl)]); (refine OpY.val ?_ ⟨Kept.refl _ _, rfl⟩); (first | rfl | go_simp)
              refine .cons (fun x wf Kk hq hdep hold => ?_) ?_
              · (try dsimp only); (clear hq hdep hold); (rw [if_pos (by rfl)]); (refine OpY.val ?_ ⟨Kept.refl _ _, rfl⟩); (first | rfl | go_simp)
              refine .cons (fun x wf Kk hq hdep hold => ?_) ?_
              · (try dsimp only); (have h3 : x 3 = _ := hdep 3 (by kernel_rfl)); (have Kq := hq no (fun j hj => by cases (show j ∈ ([] : List Nat) from by (have e : ∀ l : List Nat, l = [] → j ∈ l → j ∈ ([] : List Nat) := fun l h h2 => h ▸ h2); exact e _ (by kernel_rfl) hj))); (clear hq hdep hold); (simp only [h3]); (clear h3); (have m1 := Kq.undrew.cell e1.out id); (rw [if_pos (by rfl)]); (refine OpY.val ?_ ⟨Kept.refl _ _, rfl⟩); (first | rfl | go_simp)
              refine .cons (fun x wf Kk hq hdep hold => ?_) ?_
              · (try dsimp only); (have h4 : x 4 = _ := hdep 4 (by kernel_rfl)); (clear hq hdep hold); (simp only [h4]); (clear h4); (rw [if_pos (by rfl)]); (refine OpY.val ?_ ⟨Kept.refl _ _, rfl⟩); (first | rfl | go_simp)
              refine .cons (fun x wf Kk hq hdep hold => ?_) ?_
              · (try dsimp only); (have h5 : x 5 = _ := hdep 5 (by kernel_rfl)); (have Kq := hq no (fun j hj => by cases (show j ∈ ([] : List Nat) from by (have e : ∀ l : List Nat, l = [] → j ∈ l → j ∈ ([] : List Nat) := fun l h h2 => h ▸ h2); exact e _ (by kernel_rfl) hj))); (clear hq hdep hold); (simp only [h5]); (clear h5); (have m1 := Kq.undrew.cell hd6.out id); (rw [if_pos (by rfl)]); (refine OpY.val ?_ ⟨Kept.refl _ _, rfl⟩); (first | rfl | go_simp)
              refine .cons (fun x wf Kk hq hdep hold => ?_) ?_
              · (try dsimp only); (have h0 : x 0 = _ := hdep 0 (by kernel_rfl)); (have h2 : x 2 = _ := hdep 2 (by kernel_rfl)); (clear hq hdep hold); (simp only [h0, h2]); (clear h0 h2); (rw [if_pos (by rfl)]); (refine OpY.val ?_ ⟨Kept.refl _ _, rfl⟩); (first | rfl | go_simp)
              refine .cons (fun x wf Kk hq hdep hold => ?_) ?_
              · (try dsimp only); (have h7 : x 7 = _ := hdep 7 (by kernel_rfl)); (have h6 : x 6 = _ := hdep 6 (by kernel_rfl)); (clear hq hdep hold); (simp only [h7, h6]); (clear h7 h6); (rw [if_pos (by rfl)]); (refine OpY.val ?_ ⟨Kept.refl _ _, rfl⟩); (first | rfl | go_simp)
              refine .cons (fun x wf Kk hq hdep hold => ?_) ?_
              · (try dsimp only); (have h8 : x 8 = _ := hdep 8 (by kernel_rfl)); (have Kq := hq no (fun j hj => by cases (show j ∈ ([] : List Nat) from by (have e : ∀ l : List Nat, l = [] → j ∈ l → j ∈ ([] : List Nat) := fun l h h2 => h ▸ h2); exact e _ (by kernel_rfl) hj))); (clear hq hdep hold); (simp only [h8]); (clear h8); (have m1 := Kq.undrew.cell hKc.out id); (rw [if_pos (by rfl)]); (refine OpY.val ?_ ⟨Kept.refl _ _, rfl⟩); (first | rfl | go_simp)
              refine .cons (fun x wf Kk hq hdep hold => ?_) ?_
              · (try dsimp only); (have h9 : x 9 = _ := hdep 9 (by kernel_rfl)); (clear hq hdep hold); (simp only [h9]); (clear h9); (rw [if_pos (by rfl)]); (refine OpY.val ?_ ⟨Kept.refl _ _, rfl⟩); (first | rfl | go_simp)
              refine .cons (fun x wf Kk hq hdep hold => ?_) ?_
              · (try dsimp only); (have h0 : x 0 = _ := hdep 0 (by kernel_rfl)); (have h2 : x 2 = _ := hdep 2 (by kernel_rfl)); (clear hq hdep hold); (simp only [h0, h2]); (clear h0 h2); (rw [if_pos (by rfl)]); (refine OpY.val ?_ ⟨Kept.refl _ _, rfl⟩); (first | rfl | go_simp)
              refine .cons (fun x wf Kk hq hdep hold => ?_) ?_
              · (try dsimp only); (have h11 : x 11 = _ := hdep 11 (by kernel_rfl)); (have h6 : x 6 = _ := hdep 6 (by kernel_rfl)); (clear hq hdep hold); (simp only [h11, h6]); (clear h11 h6); (rw [if_pos (by rfl)]); (refine OpY.val ?_ ⟨Kept.refl _ _, rfl⟩); (first | rfl | go_simp)
              refine .cons (fun x wf Kk hq hdep hold => ?_) ?_
              · (try dsimp only); (have h12 : x 12 = _ := hdep 12 (by kernel_rfl)); (have h10 : x 10 = _ := hdep 10 (by kernel_rfl)); (have Kq := hq no (fun j hj => by cases (show j ∈ ([] : List Nat) from by (have e : ∀ l : List Nat, l = [] → j ∈ l → j ∈ ([] : List Nat) := fun l h h2 => h ▸ h2); exact e _ (by kernel_rfl) hj))); (clear hq hdep hold); (simp only [h12, h10]); (clear h12 h10); (rw [if_pos (by rfl)]); (have hb := Kq.undrew.blk hK6.out); (have fz := row_free hb (p * 7 + c)); (have m1 := Kq.undrew.cell hKc.out id); (have kS := (Kept.refl (fun j => j = GK) wf).setCell (a := ⟨GK, p * 7 + c, none⟩) (.inl rfl) (.int .i64 ((Cn : Int) + 1))); (refine OpY.skipY (w' := wf.setCell ⟨GK, p * 7 + c, none⟩ (.int .i64 ((Cn : Int) + 1))) (by go_simp) ⟨kS.mono fun k _ h => ⟨by trivial, h⟩, ?_⟩)
                show (wf.setCell ⟨GK, p * 7 + c, none⟩ (.int .i64 ((Cn : Int) + 1))).heap[GK]? = _
                rw [setCell_row hb, zsI_set, hks.out]
              exact .nil _
            · (intro x wf Kk hv); (try dsimp only); (have p13 : Pr.p (Sl := (fun j k => j = 13 ∧ k = GK)) (PBlkI GK 113 (kidL len ((nds q).take (k + 1)))) (x 13) wf := hv 13 (by kernel_rfl)); (clear hv); (have hC7 := hid ((Kk.undrew.block GC (lt_of_heap hC6.out) hCR.out.2.1).trans hC6.out)); (have hR8 := hid ((Kk.undrew.block GR (lt_of_heap hR7.out) hCR.out.2.2.1).trans hR7.out)); (have hK7 := hid p13)
              have hW7 : Hd (Kept no w wf) := ⟨hW6.out.trans Kk.undrew fun j hj h => by
                rw [h] at hj; have h1 := hCR.out.2.2.2.2; rw [← hGC'.out] at h1; omega⟩
              (clear Kk p13 hC6 hR7 hK6 hW6 g6 hd6 hKc e0 e1 hks hkl hlk); (go_wp2); (go_roundw)
              case rel => first | exact ⟨k + 1, by omega, by go_num, hok2, hC7, hR8, hK7, hW7⟩ | ((repeat apply Exists.intro); exact ⟨⟨k + 1, by omega, by go_num, hok2, hC7, hR8, hK7, hW7⟩, rfl⟩)
              case measure => simp [intOf]; omega
        · (rw [decide_eq_false heq] at HE); (replace HE := hid HE); (have hn := hid (hbad.out fun h => by have := h.cons; rw [hup.out] at this; exact heq this)); (clear hok hfl hd0 hzy hzd hLy hly had hld hcd)
          rcases hcond with ⟨⟨q1, q2⟩, q3⟩ | ⟨⟨q1, q2⟩, q3, rfl⟩
          · (go_wp2_with fail); (go_quiet ((go_at_call 78; exact HE.out _))); (have kF := hid (hW5.out.drewN nq)); (go_wp2); (go_ret); (exact ⟨retNo hn.out, kF.out⟩)
          · (go_wp2_with fail); (go_quiet ((go_at_call 78; exact HE.out _))); (have kF := hid (hW5.out.drewN nq)); (go_wp2); (go_ret); (exact ⟨retNo hn.out, kF.out⟩)
    · (obtain rfl : k = len := by omega); (have hallok : Hd (∀ j, j < (nds q).length → OkC N (nds q) j ((nds q).getD j default)) := ⟨fun j hj => hok.out j (by rw [← hndl.out]; exact hj)⟩); (rw [List.take_of_length_le (by rw [hndl.out]; exact Nat.le_refl _)] at hR hKd); (obtain ⟨w9, rfl⟩ : ∃ w9 : World, w9 = wr := ⟨_, rfl⟩)
      have hRv := hid (fun (c : Nat) (hc : c < N) => show w9.cell? ⟨GR, c, none⟩ = some (.int .i64 (cntH (nds q) (-1) (c : Int) : Int)) from by
        have := zsI_cell hR.out (c := c) (by unfold rootL; simp; omega)
        rwa [rootL_at (nds q) (by omega)] at this)
      have hKv := hid (fun (i c : Nat) (hi : i < k) (hc : c < N) => show w9.cell? ⟨GK, i * 7 + c, none⟩ = some (.int .i64 (cntH (nds q) (i : Int) (c : Int) : Int)) from by
        have := zsI_cell hKd.out (c := i * 7 + c) (by unfold kidL; simp; omega)
        rwa [kidL_at (nds q) hi (by omega)] at this)
      (clear hok hR hKd hcl); (go_wp2)
      go_loopw [106] (fun i wr => ∃ c : Nat, c ≤ N ∧ i = .int .i64 (c : Int) ∧ Hd (∀ j : Nat, j < c → cntH (nds q) (-1) (j : Int) = if (j : Int) = A then 0 else 1) ∧ wr = w9) (fun i _ => N - (intOf i).toNat)
      case atStart => exact ⟨0, by omega, rfl, ⟨fun j hj => by omega⟩, rfl⟩
      case round =>
        (obtain ⟨c, hc, rfl, hro, rfl⟩ := hrel); (obtain ⟨c0, c1, c2⟩ := slotC hC.out)
        by_cases hcl : c < N
        · (have hc1 : (c : Int) < (N : Int) := by omega); (have hc0 : (0 : Int) ≤ (c : Int) := by omega); (have hc7 : (c : Int) < 7 := by omega); (have hcc := hRv.out c hcl)
          have hwant : Hd (∀ m, cntH (nds q) (-1) (c : Int) = m → ¬ (m = if (c : Int) = A then 0 else 1) → ¬ CodeCov N A (nds q)) := ⟨fun m hm hne hcov => hne (by
            rw [← hm]
            by_cases hcA : (c : Int) = A
            · rw [if_pos hcA]; exact hcov.no (-1) c (by omega) (by omega) hcl (by unfold wantH; rw [if_pos (by omega)]; exact fun h => h hcA)
            · rw [if_neg hcA]; exact hcov.yes (-1) c (by omega) (by omega) hcl (by unfold wantH; rw [if_pos (by omega)]; exact hcA))⟩
          have hro2 : Hd (∀ m, cntH (nds q) (-1) (c : Int) = m → (m = if (c : Int) = A then 0 else 1) → ∀ j : Nat, j < c + 1 → cntH (nds q) (-1) (j : Int) = if (j : Int) = A then 0 else 1) := ⟨fun m hm he j hj => by
            by_cases hjc : j = c
            · subst hjc; rw [hm, he]
            · exact hro.out j (by omega)⟩
          (obtain ⟨m, hm⟩ : ∃ m, cntH (nds q) (-1) (c : Int) = m := ⟨_, rfl⟩); (rw [hm] at hcc); (have hw := hid (hwant.out m hm)); (have hr2 := hid (hro2.out m hm)); (clear hwant hro2 hro hm)
          have KEYS : (if (c : Int) = A then (0 : Nat) else 1) = 0 ∧ (c : Int) = A ∨ (if (c : Int) = A then (0 : Nat) else 1) = 1 ∧ ¬ (c : Int) = A := by
            by_cases h : (c : Int) = A
            · left; rw [if_pos h]; exact ⟨rfl, h⟩
            · right; rw [if_neg h]; exact ⟨rfl, h⟩
          rcases KEYS with ⟨kv, kA⟩ | ⟨kv, kA⟩
          · (rw [kv] at hw hr2); (have hAb : ((c : Int) == A) = true := by rw [beq_iff_eq]; exact kA); (have hAd : decide ((c : Int) = A) = true := decide_eq_true kA); (clear kA)
            by_cases hm0 : m = 0
            · (have hr3 := hid (hr2.out hm0)); (have hmi : (m : Int) = 0 := by omega); (rw [hmi] at hcc); (clear hm0 hmi); (clear hw hr2 kv); (go_wp2); (go_roundw)
              case rel => first | exact ⟨c + 1, by omega, by go_num, hr3, by trivial⟩ | ((repeat apply Exists.intro); exact ⟨⟨c + 1, by omega, by go_num, hr3, by trivial⟩, rfl⟩)
              case measure => simp [intOf]; omega
            · (have hn := hid (hw.out hm0)); (have hmi : ¬ (m : Int) = 0 := by omega); (have hmb : ((m : Int) == 0) = false := by rw [beq_eq_false_iff_ne]; exact hmi); (have hmd : decide ((m : Int) = 0) = false := decide_eq_false hmi); (clear hw hr2 kv); (go_wp2); (go_ret); (exact ⟨retNo hn.out, hW.out⟩)
          · (rw [kv] at hw hr2); (have hAb : ((c : Int) == A) = false := by rw [beq_eq_false_iff_ne]; exact kA); (have hAd : decide ((c : Int) = A) = false := decide_eq_false kA)
            by_cases hm0 : m = 1
            · (have hr3 := hid (hr2.out hm0)); (have hmi : (m : Int) = 1 := by omega); (rw [hmi] at hcc); (clear hm0 hmi); (clear hw hr2 kv); (go_wp2); (go_roundw)
              case rel => first | exact ⟨c + 1, by omega, by go_num, hr3, by trivial⟩ | ((repeat apply Exists.intro); exact ⟨⟨c + 1, by omega, by go_num, hr3, by trivial⟩, rfl⟩)
              case measure => simp [intOf]; omega
            · (have hn := hid (hw.out hm0)); (have hmi : ¬ (m : Int) = 1 := by omega); (have hmb : ((m : Int) == 1) = false := by rw [beq_eq_false_iff_ne]; exact hmi); (have hmd : decide ((m : Int) = 1) = false := decide_eq_false hmi); (clear hw hr2 kv); (go_wp2); (go_ret); (exact ⟨retNo hn.out, hW.out⟩)
        · (obtain rfl : c = N := by omega); (clear hRv); (obtain ⟨w8, rfl⟩ : ∃ w8 : World, w8 = wr := ⟨_, rfl⟩); (go_wp2)
          go_loopw [122] (fun i wr => ∃ j : Nat, j ≤ k ∧ i = .int .i64 (j : Int) ∧ Hd (∀ i' c' : Nat, i' < j → c' < c → cntH (nds q) (i' : Int) (c' : Int) = if ((nds q).getD i' default).leaf = true ∨ (c' : Int) ∈ ((nds q).getD i' default).tail then 0 else 1) ∧ Hd (Kept no w8 wr)) (fun i _ => k - (intOf i).toNat)
          case atStart => exact ⟨0, by omega, rfl, ⟨fun i' c' h => by omega⟩, ⟨Kept.refl _ _⟩⟩
          case round =>
            (clear c0 c1 c2); (obtain ⟨i, hi, rfl, hki, hKw⟩ := hrel)
            by_cases hil : i < k
            · (have hi1 : (i : Int) < (k : Int) := by omega); (have hi0 : (0 : Int) ≤ (i : Int) := by omega); (obtain ⟨b, o, x, tv, rfl, ex, a0, a1, a2, a3, hz⟩ := (hq.out.kept (hW.out.trans' hKw.out)).at i (by rw [hlen.out]; exact hil)); (have hxi : Hd ((nds q).getD i default = x) := ⟨nds_at (by rw [hlen.out]; exact hil) ex⟩); (obtain ⟨av, cv, rfl, _, _⟩ := Rd.shape2 hz); (obtain ⟨lv, hlv⟩ : ∃ l, x.tail.length = l := ⟨_, rfl⟩); (rw [hlv] at a1 hz); (obtain ⟨P, hP⟩ : ∃ p, x.par = p := ⟨_, rfl⟩); (obtain ⟨L, hL⟩ : ∃ l, x.leaf = l := ⟨_, rfl⟩); (obtain ⟨B, hB⟩ : ∃ l, x.bd = l := ⟨_, rfl⟩); (rw [hP] at a0); (rw [hB] at a2); (rw [hL] at a3); (have hwt : Hd (∀ c' : Nat, (if ((nds q).getD i default).leaf = true ∨ (c' : Int) ∈ ((nds q).getD i default).tail then (0 : Nat) else 1) = if L = true ∨ (c' : Int) ∈ x.tail then 0 else 1) := ⟨fun c' => by rw [hxi.out, hL]⟩)
              have hwn : Hd (∀ c' : Nat, c' < c → cntH (nds q) (i : Int) (c' : Int) ≠ (if L = true ∨ (c' : Int) ∈ x.tail then 0 else 1) → ¬ CodeCov c A (nds q)) := ⟨fun c' hc' hne hcov => hne (by
                (rw [← hL]); (have hin : (i : Int) < ((nds q).length : Int) := by rw [hndl.out]; exact hi1)
                by_cases hw : x.leaf = true ∨ (c' : Int) ∈ x.tail
                · rw [if_pos hw]
                  exact hcov.no i c' (by omega) hin hc' (by
                    (unfold wantH; rw [if_neg (by omega), Int.toNat_natCast, hxi.out]); (rintro ⟨e1, e2⟩)
                    rcases hw with h | h
                    · rw [e1] at h; cases h
                    · exact e2 h)
                · rw [if_neg hw]
                  exact hcov.yes i c' (by omega) hin hc' (by
                    (unfold wantH; rw [if_neg (by omega), Int.toNat_natCast, hxi.out]); (refine ⟨?_, fun h => hw (.inr h)⟩)
                    cases hlf : x.leaf with
                    | false => rfl
                    | true => exact absurd (.inl hlf) hw))⟩
              (clear ex hB hP hxi hL); (go_upto_region 28 with fail); (obtain ⟨w4, hw4, g4, k4⟩ := alloc_named wr (.cells #[.int .i64 P, .slice av lv cv, .int .i64 B, .bool L] 76)); (rw [← hw4]); (generalize wr.heap.size = G8 at g4); (have hW4 := hid (hKw.out.trans' k4)); (have hz4 := hid (show RdZ w4 (.slice av lv cv) x.tail from by rw [← hlv] at hz ⊢; exact RdZ.kept hz k4)); (replace g4 := hid g4); (clear hw4 k4 hKw hz a0 a1 a2 a3 hlv); (obtain ⟨inow, hinow⟩ : ∃ inow : Nat, inow = i := ⟨_, rfl⟩); (subst hinow); (go_wp2)
              go_loopw [128] (fun i wr => ∃ z : Nat, z ≤ c ∧ i = .int .i64 (z : Int) ∧ Hd (∀ c' : Nat, c' < z → cntH (nds q) (inow : Int) (c' : Int) = if L = true ∨ (c' : Int) ∈ x.tail then 0 else 1) ∧ Hd (Kept no w4 wr)) (fun i _ => c - (intOf i).toNat)
              case atStart => exact ⟨0, by omega, rfl, ⟨fun c' h => by omega⟩, ⟨Kept.refl _ _⟩⟩
              case round =>
                obtain ⟨z, hz, rfl, hzi, hKz⟩ := hrel
                by_cases hzl : z < c
                · (have hz1 : (z : Int) < (c : Int) := by omega); (have hz0 : (0 : Int) ≤ (z : Int) := by omega); (have hz7 : (z : Int) < 7 := by omega); (obtain ⟨d0, d1, d2, d3⟩ := slotN4 (hKz.out.blk g4.out)); (have hcc := hid ((hW4.out.trans' hKz.out).cell (hKv.out inow z hil hzl) id)); (have HC := hid (ccontains_any (.slice av lv cv) x.tail (z : Int) wr (hz4.out.kept hKz.out))); (have hn0 := hid (hwn.out z hzl))
                  have hn1 : Hd (∀ m, cntH (nds q) (inow : Int) (z : Int) = m → m = (if L = true ∨ (z : Int) ∈ x.tail then 0 else 1) → ∀ c' : Nat, c' < z + 1 → cntH (nds q) (inow : Int) (c' : Int) = if L = true ∨ (c' : Int) ∈ x.tail then 0 else 1) := ⟨fun m hm he c' hc' => by
                    by_cases hcz : c' = z
                    · subst hcz; rw [hm, he]
                    · exact hzi.out c' (by omega)⟩
                  (obtain ⟨m, hm⟩ : ∃ m, cntH (nds q) (inow : Int) (z : Int) = m := ⟨_, rfl⟩); (rw [hm] at hcc hn0); (have hn2 := hid (hn1.out m hm)); (clear hn1 hm hzi)
                  cases L with
                  | true =>
                    (rw [if_pos (.inl rfl)] at hn0 hn2); (clear HC); (have hcv := hcc.out)
                    by_cases hm0 : m = 0
                    · (have hr3 := hid (hn2.out hm0)); (have hmi : (m : Int) = 0 := by omega); (rw [hmi] at hcv); (clear hn0 hn2 hm0 hmi hcc); (go_wp2); (go_roundw)
                      case rel => first | exact ⟨z + 1, by omega, by go_num, hr3, hKz⟩ | ((repeat apply Exists.intro); exact ⟨⟨z + 1, by omega, by go_num, hr3, hKz⟩, rfl⟩)
                      case measure => simp [intOf]; omega
                    · (have hn := hid (hn0.out hm0)); (have hmi : ¬ (m : Int) = 0 := by omega); (have hmb : ((m : Int) == 0) = false := by rw [beq_eq_false_iff_ne]; exact hmi); (have hmd : decide ((m : Int) = 0) = false := decide_eq_false hmi); (have kF := hid ((hW.out.trans' hW4.out).trans' hKz.out)); (clear hn0 hn2 hcc); (go_wp2); (go_ret); (exact ⟨retNo hn.out, kF.out⟩)
                  | false =>
                    by_cases hzt : (z : Int) ∈ x.tail
                    · (rw [if_pos (.inr hzt)] at hn0 hn2); (rw [decide_eq_true hzt] at HC); (clear hzt); (go_wp2_with fail); (with_reducible refine HC.out.mono ?_); (rintro e w6 ⟨rfl, q6⟩); (have hcv := q6.kept.cell hcc.out id); (have hKz6 := hid (hKz.out.trans' q6.kept)); (clear HC q6 hcc hKz d0 d1 d2 d3)
                      by_cases hm0 : m = 0
                      · (have hr3 := hid (hn2.out hm0)); (have hmi : (m : Int) = 0 := by omega); (rw [hmi] at hcv); (clear hn0 hn2 hm0 hmi); (go_wp2); (go_roundw)
                        case rel => first | exact ⟨z + 1, by omega, by go_num, hr3, hKz6⟩ | ((repeat apply Exists.intro); exact ⟨⟨z + 1, by omega, by go_num, hr3, hKz6⟩, rfl⟩)
                        case measure => simp [intOf]; omega
                      · (have hn := hid (hn0.out hm0)); (have hmi : ¬ (m : Int) = 0 := by omega); (have hmb : ((m : Int) == 0) = false := by rw [beq_eq_false_iff_ne]; exact hmi); (have hmd : decide ((m : Int) = 0) = false := decide_eq_false hmi); (have kF := hid ((hW.out.trans' hW4.out).trans' hKz6.out)); (clear hn0 hn2); (go_wp2); (go_ret); (exact ⟨retNo hn.out, kF.out⟩)
                    · (rw [if_neg (fun h => h.elim (fun h => by cases h) hzt)] at hn0 hn2); (rw [decide_eq_false hzt] at HC); (clear hzt); (go_wp2_with fail); (with_reducible refine HC.out.mono ?_); (rintro e w6 ⟨rfl, q6⟩); (have hcv := q6.kept.cell hcc.out id); (have hKz6 := hid (hKz.out.trans' q6.kept)); (clear HC q6 hcc hKz d0 d1 d2 d3)
                      by_cases hm0 : m = 1
                      · (have hr3 := hid (hn2.out hm0)); (have hmi : (m : Int) = 1 := by omega); (rw [hmi] at hcv); (clear hn0 hn2 hm0 hmi); (go_wp2); (go_roundw)
                        case rel => first | exact ⟨z + 1, by omega, by go_num, hr3, hKz6⟩ | ((repeat apply Exists.intro); exact ⟨⟨z + 1, by omega, by go_num, hr3, hKz6⟩, rfl⟩)
                        case measure => simp [intOf]; omega
                      · (have hn := hid (hn0.out hm0)); (have hmi : ¬ (m : Int) = 1 := by omega); (have hmb : ((m : Int) == 1) = false := by rw [beq_eq_false_iff_ne]; exact hmi); (have hmd : decide ((m : Int) = 1) = false := decide_eq_false hmi); (have kF := hid ((hW.out.trans' hW4.out).trans' hKz6.out)); (clear hn0 hn2); (go_wp2); (go_ret); (exact ⟨retNo hn.out, kF.out⟩)
                · obtain rfl : z = c := by omega
                  have hki2 : Hd (∀ i' c' : Nat, i' < inow + 1 → c' < z → cntH (nds q) (i' : Int) (c' : Int) = if ((nds q).getD i' default).leaf = true ∨ (c' : Int) ∈ ((nds q).getD i' default).tail then 0 else 1) := ⟨fun i' c' h1 h2 => by
                    by_cases hii : i' = inow
                    · subst hii; rw [hwt.out c']; exact hzi.out c' h2
                    · exact hki.out i' c' (by omega) h2⟩
                  (have hK9 := hid (hW4.out.trans' hKz.out)); (clear hki hzi hwn hwt); (go_wp2); (go_roundw)
                  case rel => first | exact ⟨inow + 1, by omega, by go_num, hki2, hK9⟩ | ((repeat apply Exists.intro); exact ⟨⟨inow + 1, by omega, by go_num, hki2, hK9⟩, rfl⟩)
                  case measure => simp [intOf]; omega
            · obtain rfl : i = k := by omega
              have hcov : Hd (CodeCov c A (nds q)) := ⟨by
                refine ⟨hallok.out, fun i' c' h1 h2 h3 h4 => ?_, fun i' c' h1 h2 h3 h4 => ?_⟩
                · by_cases h0 : i' < 0
                  · (obtain rfl : i' = -1 := by omega); (unfold wantH at h4); (rw [if_pos (by omega)] at h4); (rw [hro.out c' h3, if_neg h4])
                  · (obtain ⟨j, rfl⟩ : ∃ j : Nat, i' = (j : Int) := ⟨i'.toNat, by omega⟩); (unfold wantH at h4); (rw [if_neg h0, Int.toNat_natCast] at h4); (rw [hki.out j c' (by rw [hndl.out] at h2; omega) h3, if_neg (fun h => h.elim (fun h => by rw [h4.1] at h; cases h) h4.2)])
                · by_cases h0 : i' < 0
                  · (obtain rfl : i' = -1 := by omega); (unfold wantH at h4); (rw [if_pos (by omega)] at h4); (rw [hro.out c' h3, if_pos (Classical.byContradiction h4)])
                  · (obtain ⟨j, rfl⟩ : ∃ j : Nat, i' = (j : Int) := ⟨i'.toNat, by omega⟩); (unfold wantH at h4); (rw [if_neg h0, Int.toNat_natCast] at h4)
                    rw [hki.out j c' (by rw [hndl.out] at h2; omega) h3, if_pos (Classical.byContradiction fun h => h4 ⟨by
                      cases hlf : ((nds q).getD j default).leaf with
                      | false => rfl
                      | true => exact absurd (.inl hlf) h, fun h' => h (.inr h')⟩)]⟩
              (have kF := hid (hW.out.trans' hKw.out)); (clear hki hro hallok); (go_wp2); (go_ret); (exact ⟨retYes hcov.out, kF.out⟩)
end Go.Proofs.Ytkdmlakookgolaa
