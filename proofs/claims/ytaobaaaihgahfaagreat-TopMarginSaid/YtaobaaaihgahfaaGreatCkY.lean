/- Certificates in plain Lean: covering trees, what is proved. -/
import Derived.Test.YtaobaaaihgahfaaGreatNodeY
import Derived.Test.YtaobaaaihgahfaaGreatSrchY
import Derived.Test.YtaobaaaihgahfaaGreatRTailY
import Derived.Test.YtaobaaaihgahfaaGreatCntY
import Derived.Test.YtaobaaaihgahfaaGreatNodMY
import Derived.Test.YtaobaaaihgahfaaGreatGrpY
namespace Go.Mg
open Go.Pil
def hdN (x : Nd) : Int := x.tail.headD 0
def upT (l : List Nd) (x : Nd) : List Int := if 0 ≤ x.par then (l.getD x.par.toNat default).tail else []
/-- The conditions of node i by itself. -/
structure OkC (n : Nat) (l : List Nd) (i : Nat) (x : Nd) : Prop where
  tail : isTail (n : Int) x.tail = true
  full : x.tail.length = n → x.leaf = true
  lo : -1 ≤ x.par
  hi : x.par < (i : Int)
  leafp : 0 ≤ x.par → (l.getD x.par.toNat default).leaf = false
  cons : x.tail.drop 1 = upT l x
def cntH (l : List Nd) (i c : Int) : Nat := l.countP fun x => x.par == i && hdN x == c
def wantH (win : Int) (l : List Nd) (i c : Int) : Prop := if i < 0 then c ≠ win else (l.getD i.toNat default).leaf = false ∧ c ∉ (l.getD i.toNat default).tail
structure CodeCov (n : Nat) (win : Int) (l : List Nd) : Prop where
  ok : ∀ i, i < l.length → OkC n l i (l.getD i default)
  yes : ∀ (i : Int) (c : Nat), -1 ≤ i → i < l.length → c < n → wantH win l i c → cntH l i c = 1
  no : ∀ (i : Int) (c : Nat), -1 ≤ i → i < l.length → c < n → ¬ wantH win l i c → cntH l i c = 0
theorem isTail_cons {n : Int} {t : List Int} (h : isTail n t = true) : t = t.headD 0 :: t.drop 1 := by
  have := (isTail_iff.1 h).1
  cases t with
  | nil => exact absurd rfl this
  | cons a t => rfl
section
variable {n : Nat} {win : Int} {l : List Nd}
theorem getD_of_mem {x : Nd} (h : x ∈ l) : ∃ k, k < l.length ∧ l.getD k default = x := by
  (obtain ⟨k, hk, rfl⟩ := List.getElem_of_mem h); (exact ⟨k, hk, by rw [List.getD_eq_getElem?_getD, List.getElem?_eq_getElem hk]; rfl⟩)
theorem nodup_allC (n : Nat) : (allC n).Nodup := by
  (unfold allC); (exact List.pairwise_map.2 ((List.nodup_range (n := n)).imp fun h e => h (Int.ofNat.inj e)))
theorem one_of_mem {c : Int} {a : List Int} (hn : a.Nodup) (hm : c ∈ a) : a.count c = 1 := by
  (have h1 := List.nodup_iff_count.1 hn c); (have h2 := List.count_pos_iff.2 hm)
  omega
def bestV (n : Nat) (gs : List Grp) (B : List Int) (x : Nd) : Int := if 0 ≤ x.par then max (bd n gs x.tail) (B.getD x.par.toNat 0) else bd n gs x.tail
def bestK (n : Nat) (gs : List Grp) (l : List Nd) : Nat → List Int
  | 0 => []
  | k + 1 => bestK n gs l k ++ [bestV n gs (bestK n gs l k) (l.getD k default)]
theorem bestK_len (n : Nat) (gs : List Grp) (l : List Nd) : ∀ k, (bestK n gs l k).length = k
  | 0 => rfl
  | k + 1 => by simp [bestK, bestK_len n gs l k]
theorem bestK_at (n : Nat) (gs : List Grp) (l : List Nd) {i k : Nat} (h : i < k) : (bestK n gs l k).getD i 0 = bestV n gs (bestK n gs l i) (l.getD i default) := by
  induction k with
  | zero => omega
  | succ k ih =>
    by_cases hik : i = k
    · (subst hik); (rw [bestK, List.getD_eq_getElem?_getD, List.getElem?_append_right (by rw [bestK_len]; exact Nat.le_refl _), bestK_len])
      simp
    · (rw [bestK, List.getD_eq_getElem?_getD, List.getElem?_append_left (by rw [bestK_len]; omega), ← List.getD_eq_getElem?_getD]); (exact ih (by omega))
theorem bestV_rng {m : Int} {gs : List Grp} (hp : isPile m gs = true) {B : List Int} (hB : ∀ b ∈ B, 0 ≤ b ∧ b ≤ 50000) (x : Nd) : 0 ≤ bestV n gs B x ∧ bestV n gs B x ≤ 50000 := by
  (have h1 := bd_nonneg n gs x.tail); (have h2 := bd_le (n := n) hp x.tail); (unfold bestV)
  split
  · by_cases hl : x.par.toNat < B.length
    · have := hB (B.getD x.par.toNat 0) (by rw [List.getD_eq_getElem?_getD, List.getElem?_eq_getElem hl]; exact List.getElem_mem hl)
      omega
    · (rw [List.getD_eq_getElem?_getD, List.getElem?_eq_none (by omega)]); (simp only [Option.getD_none])
      omega
  · exact ⟨h1, h2⟩
theorem bestK_rng {m : Int} {gs : List Grp} (hp : isPile m gs = true) (l : List Nd) : ∀ k, ∀ b ∈ bestK n gs l k, 0 ≤ b ∧ b ≤ 50000
  | 0 => fun b hb => by cases hb
  | k + 1 => fun b hb => by
    rcases List.mem_append.1 hb with hb | hb
    · exact bestK_rng hp l k b hb
    · rw [List.mem_singleton.1 hb]; exact bestV_rng hp (bestK_rng hp l k) _
def BdOk (n : Nat) (gs : List Grp) (mar : Int) (l : List Nd) (i : Nat) : Prop := (l.getD i default).bd ≤ bestV n gs (bestK n gs l i) (l.getD i default) ∧ ((l.getD i default).leaf = true → mar ≤ (l.getD i default).bd)
open Classical in
/-- What Check returns. -/
noncomputable def chkE (n : Int) (gs : List Grp) (win mar : Int) (l : List Nd) : Int :=
  if ¬ ((2 ≤ n ∧ n ≤ 7) ∧ (0 ≤ win ∧ win < n) ∧ 0 ≤ mar) then 4 else if isPile n gs = false then 8 else if 4000 < l.length then 7
  else if ¬ CodeCov n.toNat win l then 14 else if ¬ ∀ i, i < l.length → BdOk n.toNat gs mar l i then 15 else 0
end
end Go.Mg

/- certificate.only, isTail, later, proved (printed by gen_ck1.py). -/
namespace Go.Mg
open Go.Pil
theorem hd_all {n : Nat} {p : List Int} (h : ballot (n : Int) p = true) : hd (flags n (allC n)) p = p.head? := by
  (unfold ballot at h); (have h := of_decide_eq_true h); (unfold hd kept); (rw [List.filter_eq_self.2 fun x hx => ?_]); (rw [flags_in]); (have := h.2 x hx); (exact decide_eq_true ⟨this.1, this.2, mem_allC.2 this⟩)
/-- First of all, or ranked later. -/
theorem first_later {n : Nat} {gs : List Grp} (hp : isPile (n : Int) gs = true) (h7 : n ≤ 7) {e : Int} (h0 : 0 ≤ e) (hn : e < n) : prefers gs e (-1) - sumIf (fun p => decide (0 < idxI p e)) gs = vt n gs (allC n) e := by
  (have hb := (isPile_iff _ _).1 hp); (unfold prefers); (rw [if_pos ⟨isPile_mono (by omega) hp, by omega⟩, vt_eq _ _ h0 hn])
  have h1 : ∀ g ∈ gs, ((hd (flags n (allC n)) g.p == some e) || decide (0 < idxI g.p e)) = pref g.p e (-1) ∧ ¬ ((hd (flags n (allC n)) g.p == some e) = true ∧ decide (0 < idxI g.p e) = true) := fun g hg => by
    (have hbg := (hb.1 g hg).1); (rw [hd_all hbg]); (unfold ballot at hbg); (have hbg := of_decide_eq_true hbg); (have hm1 : (-1 : Int) ∉ g.p := fun h => by have := hbg.2 _ h; omega); (generalize g.p = p at hm1 ⊢)
    cases p with
    | nil => simp [idxI, pref]
    | cons x t =>
      (have hx1 : x ≠ -1 := fun h => hm1 (by simp [h])); (have ht1 : (-1 : Int) ∉ t := fun h => hm1 (by simp [h])); (have hl : t.idxOf (-1) = t.length := List.idxOf_eq_length ht1); (have hl2 : (x :: t).idxOf (-1) = t.length + 1 := by rw [List.idxOf_cons, show (x == (-1 : Int)) = false from by rw [beq_eq_false_iff_ne]; exact hx1]; simp only [cond_false]; rw [hl]); (unfold pref idxI); (rw [hl2, List.idxOf_cons])
      by_cases hxe : x = e
      · subst hxe
        simp
      · (rw [show (x == e) = false from by rw [beq_eq_false_iff_ne]; exact hxe]); (simp only [cond_false, List.head?_cons, List.mem_cons]); (have hse : (some x == some e) = false := by simpa using hxe); (rw [hse])
        by_cases het : e ∈ t
        · (have := List.idxOf_lt_length_iff.2 het); (rw [if_pos (.inr het)])
          simp
          omega
        · (have := List.idxOf_eq_length het); (rw [if_neg (fun h => h.elim (fun h => hxe h.symm) het), this])
          simp
  (have h2 := sumIf_or (Q := fun p => hd (flags n (allC n)) p == some e) (R := fun p => decide (0 < idxI p e)) gs fun g hg => (h1 g hg).2); (have h3 : sumIf (fun p => (hd (flags n (allC n)) p == some e) || decide (0 < idxI p e)) gs = sumIf (fun p => pref p e (-1)) gs := sumIf_congr fun g hg => (h1 g hg).1)
  omega
/-- The differences within a tail, and of each with itself. -/
def rowC (n : Nat) (gs : List Grp) (tail : List Int) (i : Nat) : List Int := (tail.drop i).map fun d => vt n gs (tail.drop i) (tail.getD i 0) - vt n gs (tail.drop i) d
def dinC (n : Nat) (gs : List Grp) (tail : List Int) (k : Nat) : List Int := (List.range k).flatMap (rowC n gs tail)
theorem dinC_succ (n : Nat) (gs : List Grp) (tail : List Int) (k : Nat) : dinC n gs tail (k + 1) = dinC n gs tail k ++ rowC n gs tail k := by simp [dinC, List.range_succ]
theorem rowC_len (n : Nat) (gs : List Grp) (tail : List Int) (i : Nat) : (rowC n gs tail i).length = tail.length - i := by simp [rowC]
theorem rowC_at {n : Nat} {gs : List Grp} {tail : List Int} {i k : Nat} (h : i + k < tail.length) : (rowC n gs tail i).getD k 0 = vt n gs (tail.drop i) (tail.getD i 0) - vt n gs (tail.drop i) (tail.getD (i + k) 0) := by
  (unfold rowC); (rw [List.getD_eq_getElem?_getD, List.getElem?_map, List.getElem?_drop, List.getElem?_eq_getElem h, List.getD_eq_getElem?_getD (i := i + k), List.getElem?_eq_getElem h]; rfl)
theorem rowC_cons {n : Nat} {gs : List Grp} {tail : List Int} {i : Nat} (h : i < tail.length) : rowC n gs tail i = 0 :: rowI n gs tail i := by
  unfold rowC rowI
  conv => lhs; rw [List.drop_eq_getElem_cons h]
  (rw [List.map_cons, List.getD_eq_getElem?_getD, List.getElem?_eq_getElem h]); (have e : tail[i] :: tail.drop (i + 1) = tail.drop i := (List.drop_eq_getElem_cons h).symm); (rw [e]; simp)
theorem dinC_mx (n : Nat) (gs : List Grp) (tail : List Int) (L : List Int) : mx (dinC n gs tail tail.length ++ L) = mx (din n gs tail ++ L) := by
  have h1 : ∀ x, x ∈ dinC n gs tail tail.length → x ≤ 0 ∨ x ∈ din n gs tail := fun x hx => by
    (unfold dinC at hx); (obtain ⟨i, hi, hx⟩ := List.mem_flatMap.1 hx); (rw [rowC_cons (List.mem_range.1 hi)] at hx)
    rcases List.mem_cons.1 hx with rfl | hx
    · exact .inl (Int.le_refl _)
    · exact .inr (List.mem_flatMap.2 ⟨i, hi, hx⟩)
  have h2 : ∀ x, x ∈ din n gs tail → x ∈ dinC n gs tail tail.length := fun x hx => by
    (obtain ⟨i, hi, hx⟩ := List.mem_flatMap.1 (show x ∈ (List.range tail.length).flatMap (rowI n gs tail) from hx)); (refine List.mem_flatMap.2 ⟨i, hi, ?_⟩); (rw [rowC_cons (List.mem_range.1 hi)]); (exact List.mem_cons_of_mem _ hx)
  refine mx_eq (fun x hx => ?_) (fun x hx => ?_)
  · rcases List.mem_append.1 hx with hx | hx
    · exact (h1 x hx).imp id fun h => List.mem_append_left _ h
    · exact .inr (List.mem_append_right _ hx)
  · rcases List.mem_append.1 hx with hx | hx
    · exact .inr (List.mem_append_left _ (h2 x hx))
    · exact .inr (List.mem_append_right _ hx)
theorem din_leC {n : Nat} {m : Int} {gs : List Grp} (h : isPile m gs = true) (tail : List Int) (k : Nat) : ∀ x ∈ dinC n gs tail k, x ≤ 100000 := fun x hx => by
  (unfold dinC at hx); (obtain ⟨t, _, hx⟩ := List.mem_flatMap.1 hx); (unfold rowC at hx); (obtain ⟨d, _, rfl⟩ := List.mem_map.1 hx); (have := vt_small (n := n) h (tail.drop t) (tail.getD t 0)); (have := vt_small (n := n) h (tail.drop t) d)
  omega
theorem dout_leC {n : Nat} {m : Int} {gs : List Grp} (h : isPile m gs = true) (tail : List Int) (k : Nat) : ∀ x ∈ doutK n gs tail k, x ≤ 100000 := fun x hx => by
  (unfold doutK at hx); (obtain ⟨e, _, hx⟩ := List.mem_flatMap.1 hx); (unfold colE at hx); (obtain ⟨t, _, rfl⟩ := List.mem_map.1 hx); (have := vt_small (n := n) h (allC n) e); (have := prefers_small h t e)
  omega
end Go.Mg
namespace Go.Proofs.YtaobaaaihgahfaaGreat
open Go.RowKit Go.Mk Go.Pil Go.Mg
set_option maxRecDepth 20000 in
set_option maxHeartbeats 1000000 in
theorem ccontains_any (v : Value) (zs : List Int) (x : Int) (w : World) (hr : RdZ w v zs) : Calls Tryz.prog 40 #[v, .int .i64 x] w fun e w' => e = .returned (.bool (decide (x ∈ zs))) ∧ Qt w w' := by
  have HI := hid (index_any v zs x w hr)
  have hd : Hd (decide (0 ≤ idxI zs x) = decide (x ∈ zs)) := ⟨by
    unfold idxI
    by_cases h : x ∈ zs
    · rw [if_pos h, decide_eq_true h]; exact decide_eq_true (by omega)
    · rw [if_neg h, decide_eq_false h]; rfl⟩
  (obtain ⟨i, hi⟩ : ∃ i, idxI zs x = i := ⟨_, rfl⟩); (rw [hi] at HI hd); (clear hr hi)
  go_enter Tryz.func40, Tryz.ntmps40
  (go_wp2_with fail); (refine HI.out.mono ?_); (rintro e w1 ⟨rfl, q1⟩); (have hd := hd.out); (replace q1 := hid q1); (clear HI); (go_wp2); (go_ret); (exact ⟨by first | rfl | rw [← hd] | rw [hd], q1.out⟩)
set_option maxRecDepth 20000 in
set_option maxHeartbeats 1000000 in
theorem conly_any (n : Nat) (v : Value) (l : List Int) (w : World) (hn : n ≤ 7) (hl : ∀ x ∈ l, 0 ≤ x ∧ x < (n : Int)) (hr : RdZ w v l) : Calls Tryz.prog 89 #[.int .i64 (n : Int), v] w fun e w' => ∃ v', e = .returned v' ∧ RdT w' v' (flags n l) ∧ Kept no w w' := by
  (obtain ⟨ao, cap, rfl, hcap, hcm⟩ := Rd.shape2 hr); (have hm63 := maxLen_63); (have hmk := makeT n (by omega) w); (have g0 : Hd ((w.alloc (.cells (zsT (List.replicate n false)) 4)).heap[w.heap.size]? = some (.cells (zsT (flags n (l.take 0))) 4 (0, 0))) := ⟨by rw [List.take_zero, flags_nil]; exact heap_alloc_new _ _⟩); (have k0 := hid ((Kept.refl no w).alloc (.cells (zsT (List.replicate n false)) 4))); (replace hr := hid hr); (replace hl := hid hl)
  go_enter Tryz.func89, Tryz.ntmps89
  go_wp2
  go_loopw [12] (fun i wr => ∃ k : Nat, k ≤ l.length ∧ i = .int .i64 (k : Int) ∧ Hd (wr.heap[w.heap.size]? = some (.cells (zsT (flags n (l.take k))) 4 (0, 0))) ∧ Hd (Kept no w wr)) (fun i _ => l.length - (intOf i).toNat)
  case atStart => exact ⟨0, by omega, rfl, g0, k0⟩
  case round =>
    (clear g0 k0); (obtain ⟨k, hk, rfl, hg, hW⟩ := hrel)
    by_cases hlt : k < l.length
    · (have hk1 : (k : Int) < (l.length : Int) := by omega); (have hk0 : (0 : Int) ≤ (k : Int) := by omega); (obtain ⟨b, o, rfl, hc⟩ := (hr.out.kept hW.out).at k hlt); (have HT : Hd (l.take (k + 1) = l.take k ++ [l.getD k 0]) := ⟨by rw [List.take_succ_eq_append_getElem hlt]; simp [List.getD_eq_getElem?_getD, hlt]⟩); (have hz := hl.out (l.getD k 0) (by rw [List.getD_eq_getElem?_getD, List.getElem?_eq_getElem hlt]; simp)); (generalize l.getD k 0 = z at hc HT hz); (obtain ⟨c, rfl⟩ : ∃ c : Nat, z = (c : Int) := ⟨z.toNat, by omega⟩); (have hc1 : (c : Int) < (n : Int) := hz.2); (have hc0 : (0 : Int) ≤ (c : Int) := by omega); (have fs : wr.frozen? ⟨w.heap.size, c, none⟩ = false := row_free hg.out c)
      have cs : wr.cell? ⟨w.heap.size, c, none⟩ = some (.bool ((flags n (l.take k)).getD c false)) := by
        (rw [cell_of_row wr _ c _ _ _ hg.out]); (have : c < (flags n (l.take k)).length := by rw [flags_len]; omega)
        simp [zsT, this]
      (have hg' : Hd ((wr.setCell ⟨w.heap.size, c, none⟩ (.bool true)).heap[w.heap.size]? = some (.cells (zsT (flags n (l.take (k + 1)))) 4 (0, 0))) := ⟨by rw [setCell_row hg.out, zsT_set, flags_set _ _ (by omega), HT.out]⟩); (have hW' := hid (hW.out.setCell (a := ⟨w.heap.size, c, none⟩) (.inr (Nat.le_refl _)) (.bool true))); (clear HT hg hW hz); (go_wp2); (go_roundw)
      case rel => first | exact ⟨k + 1, by omega, by go_num, hg', hW'⟩ | ((repeat apply Exists.intro); exact ⟨⟨k + 1, by omega, by go_num, hg', hW'⟩, rfl⟩)
      case measure => simp [intOf]; omega
    · (obtain rfl : k = l.length := by omega); (have hrd : Hd (RdT wr (.slice (some ⟨w.heap.size, 0, none⟩) n n) (flags n l)) := ⟨zsT_rd (by have := hg.out; rwa [List.take_length] at this) n (flags_len _ _) (by have : maxLen = 9223372036854775807 := rfl; omega)⟩); (clear hg); (go_wp2); (go_ret); (exact ⟨_, rfl, hrd.out, hW.out⟩)
set_option maxRecDepth 20000 in
set_option maxHeartbeats 1000000 in
theorem ctail_any (n : Int) (v : Value) (p : List Int) (w : World) (hr : RdZ w v p) : Calls Tryz.prog 88 #[.int .i64 n, v] w fun e w' => e = .returned (.bool (isTail n p)) ∧ Kept no w w' := by
  (obtain ⟨ao, cap, rfl, hcap, hcm⟩ := Rd.shape2 hr); (have hm63 := maxLen_63); (have hadr := hid hr.addr); (replace hr := hid hr)
  go_enter Tryz.func88, Tryz.ntmps88
  go_wp2
  go_loopw [9] (fun i wr => ∃ k : Nat, k ≤ p.length ∧ i = .int .i64 (k : Int) ∧ Hd (ballot n (p.take k) = true) ∧ Hd (Kept no w wr)) (fun i _ => p.length - (intOf i).toNat)
  case atStart => exact ⟨0, by omega, rfl, ⟨by rw [ballot_iff]; simp⟩, ⟨Kept.refl _ _⟩⟩
  case round =>
    obtain ⟨k, hk, rfl, hb, hW⟩ := hrel
    by_cases hlt : k < p.length
    · (have hk1 : (k : Int) < (p.length : Int) := by omega); (have hk0 : (0 : Int) ≤ (k : Int) := by omega); (have hrw := hr.out.kept hW.out); (have hsl := pre_slice ao p.length cap k hadr.out (by omega)); (have hzt := hid (hrw.take k hk)); (obtain ⟨b, o, rfl, hc⟩ := hrw.at k hlt); (have HS := hid (ballot_step hlt hb.out)); (have HF := hid (ballot_fail hlt hb.out)); (have HT : Hd (p.take (k + 1) = p.take k ++ [p.getD k 0]) := ⟨by rw [List.take_succ_eq_append_getElem hlt]; simp [List.getD_eq_getElem?_getD, hlt]⟩); (generalize p.getD k 0 = z at hc HS HF HT); (clear hrw)
      by_cases h0 : z < 0
      · (have hd : decide (z < 0) = true := decide_eq_true h0); (have hv := hid (HF.out (by omega))); (clear HS HF HT hb hsl hzt); (go_wp2); (go_ret); (exact ⟨by rw [isTail_no hv.out]; rfl, hW.out⟩)
      · have hd : decide (z < 0) = false := decide_eq_false h0
        by_cases h1 : n ≤ z
        · (have hd1 : decide (n ≤ z) = true := decide_eq_true h1); (have hv := hid (HF.out (by omega))); (clear HS HF HT hb hsl hzt); (go_wp2); (go_ret); (exact ⟨by rw [isTail_no hv.out]; rfl, hW.out⟩)
        · have hd1 : decide (n ≤ z) = false := decide_eq_false h1
          have HC := hid (ccontains_any (.slice (some ⟨b, o, none⟩) k cap) (p.take k) z wr (by
            have := hzt.out; exact this))
          by_cases h2 : z ∈ p.take k
          · (have hv := hid (HF.out (fun h => h.2.2 h2))); (rw [decide_eq_true h2] at HC); (clear HS HF HT hb h2 hzt); (go_wp2_with fail); (with_reducible refine HC.out.mono ?_); (rintro e w2 ⟨rfl, q2⟩); (have kF := hid (hW.out.trans' q2.kept)); (clear HC q2); (go_wp2); (go_ret); (exact ⟨by rw [isTail_no hv.out]; rfl, kF.out⟩)
          · (have hb' := hid (HS.out.2 ⟨by omega, by omega, h2⟩)); (rw [decide_eq_false h2] at HC); (clear HS HF HT hb h2 hzt); (go_wp2_with fail); (with_reducible refine HC.out.mono ?_); (rintro e w2 ⟨rfl, q2⟩); (have kF := hid (hW.out.trans' q2.kept)); (clear HC q2); (go_wp2); (go_roundw)
            case rel => first | exact ⟨k + 1, by omega, by go_num, hb', kF⟩ | ((repeat apply Exists.intro); exact ⟨⟨k + 1, by omega, by go_num, hb', kF⟩, rfl⟩)
            case measure => simp [intOf]; omega
    · (obtain rfl : k = p.length := by omega); (have hv : Hd (ballot n p = true) := ⟨by have := hb.out; rwa [List.take_length] at this⟩); (clear hb)
      by_cases h0 : p.length = 0
      · (have h1 : ¬ (0 : Int) < (p.length : Int) := by omega); (have hd : decide ((0 : Int) < (p.length : Int)) = false := decide_eq_false h1); (have ht : Hd (isTail n p = false) := ⟨isTail_nil n (List.eq_nil_of_length_eq_zero h0)⟩); (go_wp2); (go_ret); (exact ⟨by rw [ht.out]; rfl, hW.out⟩)
      · (have h1 : (0 : Int) < (p.length : Int) := by omega); (have hd : decide ((0 : Int) < (p.length : Int)) = true := decide_eq_true h1); (have ht : Hd (isTail n p = decide (0 < p.length)) := ⟨by rw [isTail_yes hv.out (fun e => h0 (by rw [e]; rfl)), decide_eq_true (by omega)]⟩); (go_wp2); (go_ret); (exact ⟨by rw [ht.out]; rfl, hW.out⟩)
set_option maxRecDepth 20000 in
set_option maxHeartbeats 1000000 in
theorem later_any (v : Value) (ps : List (Grp × Value)) (c : Int) (w : World) (hr : RdG w v ps) (hp : isPile 7 (grps ps) = true) : Calls Tryz.prog 91 #[v, .int .i64 c] w fun e w' => e = .returned (.int .i64 (sumIf (fun p => decide (0 < idxI p c)) (grps ps))) ∧ Kept no w w' := by
  (obtain ⟨ao, cap, rfl, hcap, hcm⟩ := hr.shape); (have hm63 := maxLen_63); (have hb : Hd (∀ k, 0 ≤ sumIf (fun p => decide (0 < idxI p c)) ((grps ps).take k) ∧ sumIf (fun p => decide (0 < idxI p c)) ((grps ps).take k) ≤ 100000) := ⟨fun k => sumIf_pre (n := 7) hp k⟩); (replace hr := hid hr); (obtain ⟨len, hlen⟩ : ∃ len, ps.length = len := ⟨_, rfl⟩); (rw [hlen] at hr hcap ⊢); (replace hlen := hid hlen); (clear hp)
  go_enter Tryz.func91, Tryz.ntmps91
  go_wp2
  go_loopw [5, 10] (fun s i wr => ∃ (k : Nat) (T : Int), k ≤ len ∧ i = .int .i64 (k : Int) ∧ s = .int .i64 T ∧ Hd (T = sumIf (fun p => decide (0 < idxI p c)) ((grps ps).take k)) ∧ Hd (Kept no w wr)) (fun _ i _ => len - (intOf i).toNat)
  case atStart => exact ⟨0, 0, by omega, rfl, rfl, ⟨by simp [sumIf]⟩, ⟨Kept.refl _ _⟩⟩
  case round =>
    obtain ⟨k, T, hk, rfl, rfl, hT, hW⟩ := hrel
    by_cases hlt : k < len
    · (have hk1 : (k : Int) < (len : Int) := by omega); (have hk0 : (0 : Int) ≤ (k : Int) := by omega); (obtain ⟨b, o, g, vg, rfl, hel, c0, c1, hz⟩ := (hr.out.kept hW.out).at k (by rw [hlen.out]; exact hlt)); (have hts := sumIf_take (Q := fun p => decide (0 < idxI p c)) (grps_get _ hel)); (have hb1 := hb.out k); (have hb2 := hb.out (k + 1)); (rw [hts] at hb2); (rw [← hT.out] at hb1 hb2); (obtain ⟨av, cv, rfl, _, _⟩ := Rd.shape2 hz); (obtain ⟨lv, hlv⟩ : ∃ lv, g.p.length = lv := ⟨_, rfl⟩); (rw [hlv] at c0 hz); (replace hz := hid hz); (replace hlv := hid hlv); (replace hts := hid hts); (clear hel); (obtain ⟨N, hN⟩ : ∃ N, g.n = N := ⟨_, rfl⟩); (rw [hN] at c1 hts hb2); (clear hN); (go_upto_region 5 with fail); (obtain ⟨w1, hw1, g1, k1⟩ := alloc_named wr (.cells #[.slice av lv cv, .int .i64 N] 105)); (rw [← hw1]); (have d0 : w1.cell? ⟨wr.heap.size, 0, none⟩ = some (.slice av lv cv) := by rw [cell_of_row w1 _ 0 _ _ _ g1]; rfl); (have d1 : w1.cell? ⟨wr.heap.size, 1, none⟩ = some (.int .i64 N) := by rw [cell_of_row w1 _ 1 _ _ _ g1]; rfl); (have K1 := hid (hW.out.trans' k1)); (have HI := hid (index_any (.slice av lv cv) g.p c w1 (hz.out.kept k1))); (obtain ⟨I, hI⟩ : ∃ I, idxI g.p c = I := ⟨_, rfl⟩); (rw [hI] at HI hb2 hts); (generalize wr.heap.size = q at d0 d1); (clear hw1 g1 k1 hz hI c0 c1)
      by_cases hpos : 0 < I
      · (have hpd : decide (0 < I) = true := decide_eq_true hpos); (rw [hpd, if_pos rfl] at hts hb2); (have hw1 : IntKind.i64.wrap (T + N) = T + N := IntWalk.i64_in _ (by omega)); (have hT' : Hd (T + N = sumIf (fun p => decide (0 < idxI p c)) ((grps ps).take (k + 1))) := ⟨by rw [hts.out, hT.out]⟩); (clear hts hT hb1 hb2); (go_wp2_with fail); (with_reducible refine HI.out.mono ?_); (rintro e w2 ⟨rfl, q2⟩); (have kF := hid (K1.out.trans' q2.kept)); (have d1' := q2.kept.cell d1 id); (clear HI q2 d0 d1); (go_wp2); (go_roundw)
        case rel => first | exact ⟨k + 1, T + N, by omega, by go_num, rfl, hT', kF⟩ | ((repeat apply Exists.intro); exact ⟨⟨k + 1, T + N, by omega, by go_num, rfl, hT', kF⟩, rfl⟩)
        case measure => simp [intOf]; omega
      · (have hpd : decide (0 < I) = false := decide_eq_false hpos); (have hT' : Hd (T = sumIf (fun p => decide (0 < idxI p c)) ((grps ps).take (k + 1))) := ⟨by rw [hts.out, hpd, if_neg (by decide), Int.add_zero, hT.out]⟩); (clear hts hT hb1 hb2); (go_wp2_with fail); (with_reducible refine HI.out.mono ?_); (rintro e w2 ⟨rfl, q2⟩); (have kF := hid (K1.out.trans' q2.kept)); (clear HI q2 d0 d1); (go_wp2); (go_roundw)
        case rel => first | exact ⟨k + 1, T, by omega, by go_num, rfl, hT', kF⟩ | ((repeat apply Exists.intro); exact ⟨⟨k + 1, T, by omega, by go_num, rfl, hT', kF⟩, rfl⟩)
        case measure => simp [intOf]; omega
    · (obtain rfl : k = len := by omega); (have hv : Hd (T = sumIf (fun p => decide (0 < idxI p c)) (grps ps)) := ⟨by rw [hT.out, List.take_of_length_le (by rw [grps_length, hlen.out]; exact Nat.le_refl _)]⟩); (clear hT hb); (go_wp2); (go_ret); (exact ⟨by rw [hv.out] <;> rfl, hW.out⟩)
set_option maxRecDepth 100000 in
set_option maxHeartbeats 4000000 in
theorem proved_any (N : Nat) (v vz : Value) (ps : List (Grp × Value)) (tail : List Int) (w : World) (hN1 : 1 ≤ N) (hN7 : N ≤ 7) (hp : isPile (N : Int) (grps ps) = true) (ht : isTail (N : Int) tail = true) (hr : RdG w v ps) (hz : RdZ w vz tail) :
    Calls Tryz.prog 42 #[.int .i64 (N : Int), v, vz] w fun e w' => e = .returned (.int .i64 (bd N (grps ps) tail)) ∧ Kept no w w' := by
  (obtain ⟨ag, cg, rfl, _, _⟩ := hr.shape); (have hp7 : Hd (isPile 7 (grps ps) = true) := ⟨isPile_mono (by omega) hp⟩)
  have hres : Hd (bd N (grps ps) tail = (mx (dinC N (grps ps) tail tail.length ++ doutK N (grps ps) tail N) + 1) / 2) := ⟨by
    (rw [dinC_mx, doutK_all]); (have := (mx_spec (din N (grps ps) tail ++ dout N (grps ps) tail)).1)
    unfold bd half; split <;> omega⟩
  (have htl := isTail_iff.1 ht); (have hfl := hid (fun (e : Nat) (he : e < N) => first_later hp hN7 (e := (e : Int)) (by omega) (by omega))); (obtain ⟨b, o, ct, he, hm0, hmc, hTc⟩ := tail_at hz ht); (subst he); (have hm7 := tail_len7 ht hN7); (have hdrng := hid (fun (q : Nat) x (hx : x ∈ tail.drop q) => htl.2.2 x (List.mem_of_mem_drop hx))); (obtain ⟨m, hm⟩ : ∃ m, tail.length = m := ⟨_, rfl⟩); (rw [hm] at hm0 hmc hTc hm7 hz hres ⊢); (replace hm := hid hm); (replace hz := hid hz); (replace hr := hid hr); (replace htl := hid htl); (replace hTc := hid hTc); (have hm63 := maxLen_63); (clear ht hp)
  go_enter Tryz.func42, Tryz.ntmps42
  go_wp2
  go_loopw [7, 21] (fun B i wr => ∃ (q : Nat) (bb : Int), q ≤ m ∧ i = .int .i64 (q : Int) ∧ B = .int .i64 bb ∧ Hd (bb = mx (dinC N (grps ps) tail q)) ∧ Hd (Kept no w wr)) (fun _ i _ => m - (intOf i).toNat)
  case atStart => exact ⟨0, 0, by omega, rfl, rfl, ⟨by simp [dinC, mx]⟩, ⟨Kept.refl _ _⟩⟩
  case round =>
    obtain ⟨q, bb, hk, rfl, rfl, hB, hK⟩ := hrel
    by_cases hlt : q < m
    · (have hq0 : (0 : Int) ≤ (q : Int) := by omega); (have hqm : (q : Int) < (m : Int) := by omega); (obtain ⟨ck, hckN, hck, hTk⟩ := hTc.out q (by omega)); (have hTk1 := hK.out.cell hTk id); (have hckI : (ck : Int) < (N : Int) := by omega); (have hckJ : (0 : Int) ≤ (ck : Int) := by omega); (have hsl := post_sliceI (some ⟨b, o, none⟩) m ct q (by omega)); (have hdr := (hz.out.kept hK.out).dropI q (by rw [hm.out]; omega)); (rw [hm.out] at hdr); (obtain ⟨ad, had⟩ : ∃ ad, (if ct = q then (some ⟨b, o, none⟩ : Option Addr) else (some ⟨b, o, none⟩ : Option Addr).map (·.add q)) = ad := ⟨_, rfl⟩); (rw [had] at hsl hdr); (obtain ⟨mq, hmq⟩ : ∃ mq, m - q = mq := ⟨_, rfl⟩); (obtain ⟨cq, hcq⟩ : ∃ cq, ct - q = cq := ⟨_, rfl⟩); (rw [hmq, hcq] at hsl hdr); (have hld : Hd ((tail.drop q).length = mq) := ⟨by rw [List.length_drop, hm.out, hmq]⟩); (have hmq1 : q + mq = m := by omega); (replace hdr := hid hdr); (have HO := hid (conly_any N (.slice ad mq cq) (tail.drop q) wr hN7 (hdrng.out q) hdr.out)); (clear had hmq hcq); (go_wp2_with fail); (with_reducible refine HO.out.mono ?_); (rintro e w3 ⟨vf, rfl, hf, k3⟩); (have HC := first_any (.slice ag ps.length cg) vf ps _ w3 (hr.out.kept (hK.out.trans' k3)) hf); (rw [first_firstV hp7.out hN7] at HC); (replace HC := hid HC); (have hK3 := hid (hK.out.trans' k3)); (have hd3 := hid (hdr.out.kept k3)); (clear HO hf k3 hdr); (go_wp2_with fail); (with_reducible refine HC.out.mono ?_); (rintro e w4 ⟨vv, rfl, ov⟩); (have hK4 := hid (hK3.out.trans' ov.kept)); (have hd4 := hid (hd3.out.kept ov.kept)); (obtain ⟨bV, oV, cV, rfl, hVc⟩ := votes_at ov hN1); (replace hVc := hid hVc); (have hVk := hid (hVc.out ck hckN)); (have hsm : Hd (∀ c, 0 ≤ vt N (grps ps) (tail.drop q) c ∧ vt N (grps ps) (tail.drop q) c ≤ 100000) := ⟨fun c => vt_small hp7.out _ c⟩)
      have hrow : Hd (∀ t : Nat, q + t < m → ∀ cj : Nat, tail.getD (q + t) 0 = (cj : Int) → (rowC N (grps ps) tail q).getD t 0 = vt N (grps ps) (tail.drop q) (ck : Int) - vt N (grps ps) (tail.drop q) (cj : Int)) := ⟨fun t h1 cj h3 => by
        have := rowC_at (n := N) (gs := grps ps) (tail := tail) (i := q) (k := t) (by rw [hm.out]; omega)
        rw [this, hck, h3]⟩
      (obtain ⟨VT, hVT⟩ : ∃ f, vt N (grps ps) (tail.drop q) = f := ⟨_, rfl⟩); (rw [hVT] at hVc hVk hsm hrow); (have hxk := hsm.out (ck : Int)); (obtain ⟨xk, hxe⟩ : ∃ x, VT (ck : Int) = x := ⟨_, rfl⟩); (rw [hxe] at hVk hxk hrow); (clear ov HC hVT hTk hTk1 hxe hK hd3 hK3); (obtain ⟨w9, rfl⟩ : ∃ w9 : World, w9 = wr := ⟨_, rfl⟩); (go_wp2)
      go_loopw [7, 40] (fun B j wr => ∃ (t : Nat) (b2 : Int), t ≤ mq ∧ j = .int .i64 (t : Int) ∧ B = .int .i64 b2 ∧ Hd (b2 = mx (dinC N (grps ps) tail q ++ (rowC N (grps ps) tail q).take t)) ∧ Hd (Kept no w4 wr)) (fun _ j _ => mq - (intOf j).toNat)
      case atStart => exact ⟨0, bb, by omega, rfl, rfl, ⟨by rw [hB.out, List.take_zero, List.append_nil]⟩, ⟨Kept.refl _ _⟩⟩
      case round =>
        obtain ⟨t, b2, hj, rfl, rfl, hB2, hK2⟩ := hrel
        by_cases hjl : t < mq
        · (have hj1 : (t : Int) < (mq : Int) := by omega); (have hj00 : (0 : Int) ≤ (t : Int) := by omega); (obtain ⟨cj, hcjN, hcj, _⟩ := hTc.out (q + t) (by omega)); (obtain ⟨bd, od, hde, hTj⟩ := (hd4.out.kept hK2.out).at t (by rw [hld.out]; exact hjl)); (obtain rfl := hde)
          have hde2 : (tail.drop q).getD t 0 = (cj : Int) := by
            rw [← hcj, List.getD_eq_getElem?_getD, List.getD_eq_getElem?_getD, List.getElem?_drop]
          (rw [hde2] at hTj); (have hVk5 := hid (hK2.out.cell hVk.out id)); (have hVj5 := hid (hK2.out.cell (hVc.out cj hcjN) id)); (have hxj := hsm.out (cj : Int)); (have hst := hid (mx_take (dinC N (grps ps) tail q) (rowC N (grps ps) tail q) t (by rw [rowC_len, hm.out]; omega))); (rw [hrow.out t (by omega) cj hcj] at hst); (obtain ⟨xj, hxje⟩ : ∃ x, VT (cj : Int) = x := ⟨_, rfl⟩); (rw [hxje] at hVj5 hxj hst); (have hwr : IntKind.i64.wrap (xk - xj) = xk - xj := IntWalk.i64_in _ (by omega)); (have hcjI : (cj : Int) < (N : Int) := by omega); (have hcjJ : (0 : Int) ≤ (cj : Int) := by omega); (have hB3 : Hd (max b2 (xk - xj) = mx (dinC N (grps ps) tail q ++ (rowC N (grps ps) tail q).take (t + 1))) := ⟨by rw [hst.out, ← hB2.out]⟩); (clear hxje hst hB2 hcj hde2); (go_upto_region 9 with fail); (refine region_flow (S := no) (Sl := (fun _ => no)) [Is (.int .i64 b2), Is (.slice (some ⟨bV, oV, none⟩) N cV), Is (.int .i64 (ck : Int)), Is (.pointer (some ⟨bV, oV + ck, none⟩)), Is (.int .i64 xk), Is (.slice (some ⟨bV, oV, none⟩) N cV), Is (.int .i64 (cj : Int)), Is (.pointer (some ⟨bV, oV + cj, none⟩)), Is (.int .i64 xj), Is (.int .i64 (xk - xj)), Is (.int .i64 (max b2 (xk - xj))), Is (.int .i64 (max b2 (xk - xj)))] [] (fun _ _ h => h) _ (by kernel_rfl) (by kernel_rfl) (by kernel_rfl) (by kernel_rfl) (fun x => by simp only [puts, Act.put, List.map_cons, List.map_nil, Nat.zero_add, Nat.reduceAdd, List.setIfInBounds_toArray, List.set_cons_zero, List.set_cons_succ]; exact rfl) ?_ ?_)
          · (skip); (refine .cons (fun x wf Kk hq hdep hold => ?_) ?_)
            · (try dsimp only); (have h11 : x 11 = (.int .i64 b2) := hold 11 (by kernel_rfl)); (clear hq hdep hold); (simp only [h11]); (clear h11); (rw [if_pos (by rfl)]); (refine OpY.val ?_ ⟨Kept.refl _ _, rfl⟩); (first | rfl | go_simp)
            refine .cons (fun x wf Kk hq hdep hold => ?_) ?_
            · (try dsimp only); (clear hq hdep hold); (rw [if_pos (by rfl)]); (refine OpY.val ?_ ⟨Kept.refl _ _, rfl⟩); (first | rfl | go_simp)
            refine .cons (fun x wf Kk hq hdep hold => ?_) ?_
            · (try dsimp only); (clear hq hdep hold); (rw [if_pos (by rfl)]); (refine OpY.val ?_ ⟨Kept.refl _ _, rfl⟩); (first | rfl | go_simp)
            refine .cons (fun x wf Kk hq hdep hold => ?_) ?_
            · (try dsimp only); (have h1 : x 1 = _ := hdep 1 (by kernel_rfl)); (have h2 : x 2 = _ := hdep 2 (by kernel_rfl)); (clear hq hdep hold); (simp only [h1, h2]); (clear h1 h2); (rw [if_pos (by rfl)]); (refine OpY.val ?_ ⟨Kept.refl _ _, rfl⟩); (first | rfl | go_simp)
            refine .cons (fun x wf Kk hq hdep hold => ?_) ?_
            · (try dsimp only); (have h3 : x 3 = _ := hdep 3 (by kernel_rfl)); (clear hq hdep hold); (simp only [h3]); (clear h3); (have c1 := Kk.undrew.cell hVk5.out id); (rw [if_pos (by rfl)]); (refine OpY.val ?_ ⟨Kept.refl _ _, rfl⟩); (first | rfl | go_simp)
            refine .cons (fun x wf Kk hq hdep hold => ?_) ?_
            · (try dsimp only); (clear hq hdep hold); (rw [if_pos (by rfl)]); (refine OpY.val ?_ ⟨Kept.refl _ _, rfl⟩); (first | rfl | go_simp)
            refine .cons (fun x wf Kk hq hdep hold => ?_) ?_
            · (try dsimp only); (clear hq hdep hold); (rw [if_pos (by rfl)]); (refine OpY.val ?_ ⟨Kept.refl _ _, rfl⟩); (first | rfl | go_simp)
            refine .cons (fun x wf Kk hq hdep hold => ?_) ?_
            · (try dsimp only); (have h5 : x 5 = _ := hdep 5 (by kernel_rfl)); (have h6 : x 6 = _ := hdep 6 (by kernel_rfl)); (clear hq hdep hold); (simp only [h5, h6]); (clear h5 h6); (rw [if_pos (by rfl)]); (refine OpY.val ?_ ⟨Kept.refl _ _, rfl⟩); (first | rfl | go_simp)
            refine .cons (fun x wf Kk hq hdep hold => ?_) ?_
            · (try dsimp only); (have h7 : x 7 = _ := hdep 7 (by kernel_rfl)); (clear hq hdep hold); (simp only [h7]); (clear h7); (have c1 := Kk.undrew.cell hVj5.out id); (rw [if_pos (by rfl)]); (refine OpY.val ?_ ⟨Kept.refl _ _, rfl⟩); (first | rfl | go_simp)
            refine .cons (fun x wf Kk hq hdep hold => ?_) ?_
            · (try dsimp only); (have h4 : x 4 = _ := hdep 4 (by kernel_rfl)); (have h8 : x 8 = _ := hdep 8 (by kernel_rfl)); (clear hq hdep hold); (simp only [h4, h8]); (clear h4 h8); (rw [if_pos (by rfl)]); (refine OpY.val ?_ ⟨Kept.refl _ _, rfl⟩); (first | rfl | go_simp)
            refine .cons (fun x wf Kk hq hdep hold => ?_) ?_
            · (try dsimp only); (have h0 : x 0 = _ := hdep 0 (by kernel_rfl)); (have h9 : x 9 = _ := hdep 9 (by kernel_rfl)); (clear hq hdep hold); (simp only [h0, h9]); (clear h0 h9); (rw [if_pos (by rfl)]); (refine OpY.val ?_ ⟨Kept.refl _ _, rfl⟩); (first | rfl | (go_simp; done) | (go_simp; split <;> omega))
            refine .cons (fun x wf Kk hq hdep hold => ?_) ?_
            · (try dsimp only); (have h10 : x 10 = _ := hdep 10 (by kernel_rfl)); (clear hq hdep hold); (simp only [h10]); (clear h10); (rw [if_pos (by rfl)]); (refine OpY.val ?_ ⟨Kept.refl _ _, rfl⟩); (first | rfl | (go_simp; done) | (go_simp; split <;> omega))
            exact .nil _
          · (intro x wf Kk hv); (try dsimp only); (have h11 : x 11 = _ := hv 11 (by kernel_rfl)); (clear hv); (simp only [h11]); (clear h11); (generalize max b2 (xk - xj) = b3 at hB3); (have hK5 := hid (hK2.out.trans' Kk.undrew)); (clear Kk hK2 hVk5 hVj5 hTj hwr); (go_wp2); (go_roundw)
            case rel => first | exact ⟨t + 1, b3, by omega, by go_num, rfl, hB3, hK5⟩ | ((repeat apply Exists.intro); exact ⟨⟨t + 1, b3, by omega, by go_num, rfl, hB3, hK5⟩, rfl⟩)
            case measure => simp [intOf]; omega
        · (obtain rfl : t = mq := by omega); (have hj1 : ¬ (t : Int) < (t : Int) := by omega); (have hB5 : Hd (b2 = mx (dinC N (grps ps) tail (q + 1))) := ⟨by rw [hB2.out, dinC_succ, List.take_of_length_le (by rw [rowC_len, hm.out]; omega)]⟩); (have hK5 := hid (hK4.out.trans' hK2.out)); (clear hB2 hK2 hK4 hVk hrow hsl); (go_wp2); (go_roundw)
          case rel => first | exact ⟨q + 1, b2, by omega, by go_num, rfl, hB5, hK5⟩ | ((repeat apply Exists.intro); exact ⟨⟨q + 1, b2, by omega, by go_num, rfl, hB5, hK5⟩, rfl⟩)
          case measure => simp [intOf]; omega
    · (obtain rfl : q = m := by omega); (have hqm : ¬ (q : Int) < (q : Int) := by omega); (have HO := hid (conly_any N (.slice (some ⟨b, o, none⟩) q ct) tail wr hN7 (fun x hx => htl.out.2.2 x hx) (hz.out.kept hK.out))); (go_wp2_with fail); (with_reducible refine HO.out.mono ?_); (rintro e w3 ⟨vf, rfl, hf, k3⟩); (obtain ⟨bf, cf, rfl, _, _⟩ := Rd.shape2 hf); (rw [flags_len] at hf ⊢); (have hf3 : Hd (RdT w3 (.slice bf N cf) (flags N tail)) := ⟨hf⟩); (have hK3 := hid (hK.out.trans' k3))
      have hLb : Hd (∀ e, 0 ≤ mx (dinC N (grps ps) tail q ++ doutK N (grps ps) tail e) ∧ mx (dinC N (grps ps) tail q ++ doutK N (grps ps) tail e) ≤ 100000) := ⟨fun e => ⟨(mx_spec _).1, mx_le (by decide) fun x hx => by
        rcases List.mem_append.1 hx with hx | hx
        · exact din_leC hp7.out _ _ x hx
        · exact dout_leC hp7.out _ _ x hx⟩⟩
      (obtain ⟨L0, hL0⟩ : ∃ L, dinC N (grps ps) tail q = L := ⟨_, rfl⟩); (rw [hL0] at hB hres hLb); (clear HO hf k3 hL0 hK); (obtain ⟨w9, rfl⟩ : ∃ w9 : World, w9 = wr := ⟨_, rfl⟩); (go_wp2)
      go_loopw [7, 61] (fun B i wr => ∃ (e : Nat) (bb : Int), e ≤ N ∧ i = .int .i64 (e : Int) ∧ B = .int .i64 bb ∧ Hd (bb = mx (L0 ++ doutK N (grps ps) tail e)) ∧ Hd (Kept no w3 wr)) (fun _ i _ => N - (intOf i).toNat)
      case atStart => exact ⟨0, bb, by omega, rfl, rfl, ⟨by rw [hB.out]; simp [doutK, allC]⟩, ⟨Kept.refl _ _⟩⟩
      case round =>
        (clear hB); (obtain ⟨e, bb, he, rfl, rfl, hB, hK2⟩ := hrel)
        by_cases hel : e < N
        · (have he1 : (e : Int) < (N : Int) := by omega); (have he0 : (0 : Int) ≤ (e : Int) := by omega); (obtain ⟨bg, og, hge, hgc⟩ := RdT.at (n := N) (bs := flags N tail) (show RdT wr (.slice bf N cf) _ from hf3.out.kept hK2.out) e (by rw [flags_len]; exact hel)); (subst hge)
          have hfe : (flags N tail).getD e false = decide ((e : Int) ∈ tail) := by
            (have h := flags_in (n := N) tail (e : Int)); (unfold inB at h); (rw [decide_eq_true he0, Bool.true_and, Int.toNat_natCast] at h); (rw [h, decide_eq_decide]); (exact ⟨fun h => h.2.2, fun h => ⟨he0, he1, h⟩⟩)
          (rw [hfe] at hgc); (have hns := hid (doutK_succ N (grps ps) tail e)); (obtain ⟨L1, hL1⟩ : ∃ L, L0 ++ doutK N (grps ps) tail e = L := ⟨_, rfl⟩); (have hnext : Hd (L0 ++ doutK N (grps ps) tail (e + 1) = L1 ++ if (e : Int) ∈ tail then [] else colE N (grps ps) tail (e : Int)) := ⟨by rw [hns.out, ← List.append_assoc, hL1]⟩); (rw [hL1] at hB); (clear hns hL1 hfe)
          by_cases het : (e : Int) ∈ tail
          · (rw [decide_eq_true het] at hgc); (have hB5 : Hd (bb = mx (L0 ++ doutK N (grps ps) tail (e + 1))) := ⟨by rw [hB.out, hnext.out, if_pos het, List.append_nil]⟩); (clear hB het hnext); (go_wp2); (go_roundw)
            case rel => first | exact ⟨e + 1, bb, by omega, by go_num, rfl, hB5, hK2⟩ | ((repeat apply Exists.intro); exact ⟨⟨e + 1, bb, by omega, by go_num, rfl, hB5, hK2⟩, rfl⟩)
            case measure => simp [intOf]; omega
          · (rw [decide_eq_false het] at hgc); (have hKw := hid (hK3.out.trans' hK2.out)); (have HP1 := hid (prefers_any (.slice ag ps.length cg) ps (e : Int) (-1) wr (hr.out.kept hKw.out))); (have hfe := hfl.out e hel); (have hps1 := prefers_small hp7.out (e : Int) (-1)); (obtain ⟨P1, hP1⟩ : ∃ x, prefers (grps ps) (e : Int) (-1) = x := ⟨_, rfl⟩); (rw [hP1] at HP1 hfe hps1); (have hls := sumIf_pre (Q := fun p => decide (0 < idxI p (e : Int))) (n := 7) hp7.out ps.length); (rw [List.take_of_length_le (by rw [grps_length]; exact Nat.le_refl _)] at hls)
            have hcol : Hd (∀ (jn : Nat), jn < q → ∀ cj : Nat, tail.getD jn 0 = (cj : Int) → (colE N (grps ps) tail (e : Int)).getD jn 0 = vt N (grps ps) (allC N) (e : Int) - prefers (grps ps) (cj : Int) (e : Int)) := ⟨fun jn h1 cj h3 => by
              rw [colE_at (by rw [hm.out]; exact h1), h3]⟩
            (have hxs := vt_small (n := N) hp7.out (allC N) (e : Int)); (obtain ⟨xe, hxe⟩ : ∃ x, vt N (grps ps) (allC N) (e : Int) = x := ⟨_, rfl⟩); (rw [hxe] at hfe hcol hxs); (obtain ⟨S1, hS1⟩ : ∃ x, sumIf (fun p => decide (0 < idxI p (e : Int))) (grps ps) = x := ⟨_, rfl⟩); (have HL0 := hid (fun w h => later_any (.slice ag ps.length cg) ps (e : Int) w h hp7.out)); (rw [hS1] at hfe hls HL0); (have hwp : IntKind.i64.wrap (P1 - S1) = xe := by rw [hfe]; exact IntWalk.i64_in _ (by omega)); (clear hP1 hxe hS1 hfe); (go_wp2_with fail); (with_reducible refine HP1.out.mono ?_); (rintro e' w5 ⟨rfl, k5⟩); (have HL := hid (HL0.out w5 (hr.out.kept (hKw.out.trans' k5)))); (have hK5 := hid (hK2.out.trans' k5)); (clear HP1 HL0 k5 hK2 hKw hgc); (go_wp2_with fail); (with_reducible refine HL.out.mono ?_); (rintro e' w6 ⟨rfl, k6⟩); (have hK6 := hid (hK5.out.trans' k6)); (clear HL k6 hK5); (go_wp2)
            go_loopw [7, 77] (fun B j wr => ∃ (jn : Nat) (b2 : Int), jn ≤ q ∧ j = .int .i64 (jn : Int) ∧ B = .int .i64 b2 ∧ Hd (b2 = mx (L1 ++ (colE N (grps ps) tail (e : Int)).take jn)) ∧ Hd (Kept no w3 wr)) (fun _ j _ => q - (intOf j).toNat)
            case atStart => exact ⟨0, bb, by omega, rfl, rfl, ⟨by rw [hB.out, List.take_zero, List.append_nil]⟩, hK6⟩
            case round =>
              (clear hK6); (obtain ⟨jn, b2, hj, rfl, rfl, hB2, hK7⟩ := hrel)
              by_cases hjl : jn < q
              · (have hj1 : (jn : Int) < (q : Int) := by omega); (have hj00 : (0 : Int) ≤ (jn : Int) := by omega); (obtain ⟨cj, hcjN, hcj, hTj⟩ := hTc.out jn hjl); (have hst := hid (mx_take L1 (colE N (grps ps) tail (e : Int)) jn (by rw [colE_len, hm.out]; exact hjl))); (rw [hcol.out jn hjl cj hcj] at hst); (have hps := prefers_small hp7.out (cj : Int) (e : Int)); (have hKv := hid (hK3.out.trans' hK7.out)); (have HP := prefers_any (.slice ag ps.length cg) ps (cj : Int) (e : Int) wr (hr.out.kept hKv.out)); (obtain ⟨pp, hpp⟩ : ∃ x, prefers (grps ps) (cj : Int) (e : Int) = x := ⟨_, rfl⟩); (rw [hpp] at hst hps HP); (have hwr : IntKind.i64.wrap (xe - pp) = xe - pp := IntWalk.i64_in _ (by omega)); (have hB3 : Hd (max b2 (xe - pp) = mx (L1 ++ (colE N (grps ps) tail (e : Int)).take (jn + 1))) := ⟨by rw [hst.out, ← hB2.out]⟩); (have hmi : (if b2 < xe - pp then xe - pp else b2) = max b2 (xe - pp) := by split <;> omega); (replace HP := hid HP); (have hTj5 := hKv.out.cell hTj id); (clear hpp hst hB2 hcj hTj); (go_wp2_with fail); (with_reducible refine HP.out.mono ?_); (rintro e' w7 ⟨rfl, k7⟩); (have hK8 := hid (hK7.out.trans' k7)); (clear HP k7 hK7 hKv hTj5)
                (obtain ⟨b3, hb3x⟩ : ∃ b3, max b2 (xe - pp) = b3 := ⟨_, rfl⟩); (rw [hb3x] at hB3 hmi)
                (go_wp2); (go_roundw)
                case rel => first | exact ⟨jn + 1, b3, by omega, by go_num, rfl, hB3, hK8⟩ | ((repeat apply Exists.intro); exact ⟨⟨jn + 1, b3, by omega, by go_num, rfl, hB3, hK8⟩, rfl⟩)
                case measure => simp [intOf]; omega
              · (obtain rfl : jn = q := by omega); (have hB5 : Hd (b2 = mx (L0 ++ doutK N (grps ps) tail (e + 1))) := ⟨by rw [hB2.out, hnext.out, if_neg het, List.take_of_length_le (by rw [colE_len, hm.out]; omega)]⟩); (clear hB2 hB hnext het hcol); (go_wp2); (go_roundw)
                case rel => first | exact ⟨e + 1, b2, by omega, by go_num, rfl, hB5, hK7⟩ | ((repeat apply Exists.intro); exact ⟨⟨e + 1, b2, by omega, by go_num, rfl, hB5, hK7⟩, rfl⟩)
                case measure => simp [intOf]; omega
        · (obtain rfl : e = N := by omega); (have hbb := hLb.out e); (rw [← hB.out] at hbb hres); (have hw1 : IntKind.i64.wrap (bb + 1) = bb + 1 := IntWalk.i64_in _ (by omega)); (have hq : (bb + 1).tdiv 2 = (bb + 1) / 2 := Int.tdiv_eq_ediv_of_nonneg (by omega)); (have hw2 : IntKind.i64.wrap ((bb + 1) / 2) = (bb + 1) / 2 := IntWalk.i64_in _ (by omega)); (have kF := hid (hK3.out.trans' hK2.out)); (generalize (bb + 1) / 2 = R at hres hq hw2); (clear hB hLb); (go_wp2); (go_ret); (exact ⟨by rw [hres.out] <;> rfl, kF.out⟩)
end Go.Proofs.YtaobaaaihgahfaaGreat

/- certificate.covers (printed by gen_ck2.py). -/
namespace Go.Mg
open Go.Pil
def rootL (l : List Nd) : List Int := (List.range 7).map fun c : Nat => (cntH l (-1) (c : Int) : Int)
def kidL (len : Nat) (l : List Nd) : List Int := (List.range (len * 7)).map fun j : Nat => (cntH l ((j / 7 : Nat) : Int) ((j % 7 : Nat) : Int) : Int)
theorem cntH_nil (i c : Int) : cntH [] i c = 0 := rfl
theorem cntH_snoc (l : List Nd) (x : Nd) (i c : Int) : cntH (l ++ [x]) i c = cntH l i c + if x.par = i ∧ hdN x = c then 1 else 0 := by
  (unfold cntH); (rw [List.countP_append, List.countP_singleton]); (simp only [Bool.and_eq_true, beq_iff_eq])
theorem rootL_at (l : List Nd) {c : Nat} (h : c < 7) : (rootL l).getD c 0 = (cntH l (-1) (c : Int) : Int) := by
  unfold rootL; rw [List.getD_eq_getElem?_getD, List.getElem?_map, List.getElem?_range h]; rfl
theorem kidL_at {len : Nat} (l : List Nd) {i c : Nat} (hi : i < len) (h : c < 7) : (kidL len l).getD (i * 7 + c) 0 = (cntH l (i : Int) (c : Int) : Int) := by
  (unfold kidL); (rw [List.getD_eq_getElem?_getD, List.getElem?_map, List.getElem?_range (by omega)]); (simp only [Option.map_some, Option.getD_some]); (rw [show (i * 7 + c) / 7 = i by omega, show (i * 7 + c) % 7 = c by omega])
theorem rootL_set (l : List Nd) (x : Nd) (hp : x.par = -1) {c : Nat} (hc : hdN x = (c : Int)) (_ : c < 7) : (rootL l).set c ((cntH l (-1) (c : Int) : Int) + 1) = rootL (l ++ [x]) := by
  unfold rootL
  apply List.ext_getElem (by simp)
  (intro j h1 h2); (rw [List.getElem_set]); (simp only [List.getElem_map, List.getElem_range, cntH_snoc])
  by_cases hj : c = j
  · subst hj; rw [if_pos rfl, if_pos ⟨hp, hc⟩]; omega
  · rw [if_neg hj, if_neg (by rw [hc]; omega)]; simp
theorem rootL_same (l : List Nd) (x : Nd) (hp : x.par ≠ -1) : rootL (l ++ [x]) = rootL l := by
  (unfold rootL); (refine List.map_congr_left fun c _ => ?_); (rw [cntH_snoc, if_neg (fun h => hp h.1)]; simp)
theorem kidL_set {len : Nat} (l : List Nd) (x : Nd) {i c : Nat} (hp : x.par = (i : Int)) (hc : hdN x = (c : Int)) (_ : i < len) (h : c < 7) : (kidL len l).set (i * 7 + c) ((cntH l (i : Int) (c : Int) : Int) + 1) = kidL len (l ++ [x]) := by
  unfold kidL
  apply List.ext_getElem (by simp)
  (intro j h1 h2); (rw [List.getElem_set]); (simp only [List.getElem_map, List.getElem_range, cntH_snoc])
  by_cases hj : i * 7 + c = j
  · (subst hj); (rw [if_pos rfl, show (i * 7 + c) / 7 = i by omega, show (i * 7 + c) % 7 = c by omega, if_pos ⟨hp, hc⟩]; omega)
  · rw [if_neg hj, if_neg (by rw [hp, hc]; omega)]; simp
theorem kidL_same {len : Nat} (l : List Nd) (x : Nd) (hp : x.par < 0) : kidL len (l ++ [x]) = kidL len l := by
  (unfold kidL); (refine List.map_congr_left fun j _ => ?_); (rw [cntH_snoc, if_neg (fun h => by have := h.1; omega)]; simp)
theorem kidL_nil (len : Nat) : kidL len [] = List.replicate (len * 7) 0 := by
  unfold kidL; rw [List.eq_replicate_iff]; simp [cntH_nil]
theorem cnt_le (l : List Nd) (i c : Int) : cntH l i c ≤ l.length := List.countP_le_length
end Go.Mg
namespace Go.Proofs.YtaobaaaihgahfaaGreat
open Go.RowKit Go.Mk Go.Pil Go.Mg
theorem nds_take (q : List (Nd × Value)) {k : Nat} {x : Nd} {v : Value} (hk : k < q.length) (h : q[k] = (x, v)) : (nds q).take (k + 1) = (nds q).take k ++ [x] := by
  rw [List.take_succ_eq_append_getElem (by rw [nds_length]; exact hk)]
  congr 2
  simp [nds, h]
/-- A flag that tells whether p holds. -/
def RetIff (p : Prop) (e : Ending) : Prop := ∃ b : Bool, e = .returned (.bool b) ∧ (b = true ↔ p)
theorem retNo {p : Prop} (h : ¬ p) : RetIff p (.returned (.bool false)) := ⟨false, rfl, by simpa using h⟩
theorem retYes {p : Prop} (h : p) : RetIff p (.returned (.bool true)) := ⟨true, rfl, by simpa using h⟩
def zsI (l : List Int) : Array Value := (l.map Z).toArray
theorem zsI_set (l : List Int) (c : Nat) (x : Int) : (zsI l).setIfInBounds c (.int .i64 x) = zsI (l.set c x) := by
  unfold zsI; rw [List.map_set]; simp [Z]
theorem zsI_cell {w : World} {g : Nat} {l : List Int} {t : TypeId} (h : w.heap[g]? = some (.cells (zsI l) t (0, 0))) {c : Nat} (hc : c < l.length) : w.cell? ⟨g, c, none⟩ = some (.int .i64 (l.getD c 0)) := by
  rw [cell_of_row w _ c _ _ _ h]
  simp [zsI, hc, Z]
theorem slotN4 {w : World} {g : Nat} {a b c d : Value} {t : TypeId} (h : w.heap[g]? = some (.cells #[a, b, c, d] t (0, 0))) : w.cell? ⟨g, 0, none⟩ = some a ∧ w.cell? ⟨g, 1, none⟩ = some b ∧ w.cell? ⟨g, 2, none⟩ = some c ∧ w.cell? ⟨g, 3, none⟩ = some d := by
  refine ⟨?_, ?_, ?_, ?_⟩
  · rw [cell_of_row w _ 0 _ _ _ h]; rfl
  · rw [cell_of_row w _ 1 _ _ _ h]; rfl
  · rw [cell_of_row w _ 2 _ _ _ h]; rfl
  · rw [cell_of_row w _ 3 _ _ _ h]; rfl
theorem zsK_made (n : Nat) : madeCells (Value.agg #[.int .i64 0, .int .i64 0, .int .i64 0, .int .i64 0, .int .i64 0, .int .i64 0, .int .i64 0]).cells (n * 7) = zsI (List.replicate (n * 7) 0) := by
  have e : ∀ r, r < 7 → (#[Value.int .i64 0, .int .i64 0, .int .i64 0, .int .i64 0, .int .i64 0, .int .i64 0, .int .i64 0] : Array Value)[r]! = .int .i64 0 := by
    intro r hr
    match r, hr with
    | 0, _ => rfl
    | 1, _ => rfl
    | 2, _ => rfl
    | 3, _ => rfl
    | 4, _ => rfl
    | 5, _ => rfl
    | 6, _ => rfl
  unfold zsI
  apply Array.ext
  · simp [madeCells]
  · (intro j h1 h2); (have : j % 7 < 7 := Nat.mod_lt _ (by decide))
    have e2 : (madeCells (Value.agg #[.int .i64 0, .int .i64 0, .int .i64 0, .int .i64 0, .int .i64 0, .int .i64 0, .int .i64 0]).cells (n * 7))[j] = (#[Value.int .i64 0, .int .i64 0, .int .i64 0, .int .i64 0, .int .i64 0, .int .i64 0, .int .i64 0] : Array Value)[j % 7]! := by
      simp [madeCells, Value.cells]
    rw [e2, e _ this]
    simp [Z]
set_option maxRecDepth 20000 in
theorem makeK (n : Nat) (h : n ≤ 100000) (w : World) : (Instr.makeSlice 148 (.int .i64 (n : Int)) (.int .i64 (n : Int))).run Tryz.prog w = .ok (.slice (some ⟨w.heap.size, 0, none⟩) n n) (w.alloc (.cells (zsI (List.replicate (n * 7) 0)) 147)) := by
  (obtain ⟨i, hi, hz, hs, hb⟩ := info_parts (P := Tryz.prog) (e := 147) (z := .agg #[.int .i64 0, .int .i64 0, .int .i64 0, .int .i64 0, .int .i64 0, .int .i64 0, .int .i64 0]) (size := 7) (bytes := 56) (by kernel_rfl)); (have h1 : ((i.bytes : Nat) : Int) * (n : Int) ≤ 281474976710656 := by rw [hb]; omega); (have := run_make (P := Tryz.prog) w 148 147 i _ Tryz.underlying148 hi hz .i64 .i64 n n (by omega) (by omega) h1 (by omega)); (rw [this, hs, Int.toNat_natCast, zsK_made])
theorem slotC {w : World} {g : Nat} {a b c : Value} {t : TypeId} (h : w.heap[g]? = some (.cells #[a, b, c] t (0, 0))) : w.cell? ⟨g, 0, none⟩ = some a ∧ w.cell? ⟨g, 1, none⟩ = some b ∧ w.cell? ⟨g, 2, none⟩ = some c := by
  refine ⟨?_, ?_, ?_⟩
  · rw [cell_of_row w _ 0 _ _ _ h]; rfl
  · rw [cell_of_row w _ 1 _ _ _ h]; rfl
  · rw [cell_of_row w _ 2 _ _ _ h]; rfl
def PBlkI {Sl : Nat → Nat → Prop} (g : Nat) (t : TypeId) (l : List Int) : Pr Sl := soft (fun _ w => w.heap[g]? = some (.cells (zsI l) t (0, 0))) fun _ _ _ h k => k.blk h
set_option maxRecDepth 100000 in
set_option maxHeartbeats 8000000 in
theorem covers_any (N : Nat) (h2 : 2 ≤ N) (h7 : N ≤ 7) (A M : Int) (hA : 0 ≤ A ∧ A < (N : Int)) (v : Value) (q : List (Nd × Value)) (w : World) (hq : RdN w v q) (hl : q.length ≤ 4000) :
    Calls Tryz.prog 41 #[.int .i64 (N : Int), .agg #[.int .i64 A, .int .i64 M, v]] w fun e w' => RetIff (CodeCov N A (nds q)) e ∧ Kept no w w' := by
  (obtain ⟨an, cn, rfl, _, _⟩ := Rd.shape2 hq.2); (obtain ⟨len, hlen⟩ : ∃ n, q.length = n := ⟨_, rfl⟩); (rw [hlen] at hq hl ⊢); (have hndl : Hd ((nds q).length = len) := ⟨by rw [nds_length]; exact hlen⟩); (replace hlen := hid hlen); (obtain ⟨w1, hw1, g1, k1⟩ := alloc_named w (.cells #[.int .i64 A, .int .i64 M, .slice an len cn] 41)); (have e1 : w1.heap.size = w.heap.size + 1 := by rw [hw1]; simp); (obtain ⟨w2, hw2, g2, k2⟩ := alloc_named w1 (.cells #[.int .i64 0, .int .i64 0, .int .i64 0, .int .i64 0, .int .i64 0, .int .i64 0, .int .i64 0] 147)); (have e2 : w2.heap.size = w1.heap.size + 1 := by rw [hw2]; simp); (have hmk := makeK len (by omega) w2); (obtain ⟨w3, hw3, g3, k3⟩ := alloc_named w2 (.cells (zsI (List.replicate (len * 7) 0)) 147)); (have e3 : w3.heap.size = w2.heap.size + 1 := by rw [hw3]; simp); (have k03 := hid ((k1.trans' k2).trans' k3)); (have gC := hid ((k2.trans' k3).blk g1)); (have gR := hid (show w3.heap[w1.heap.size]? = some (.cells (zsI (rootL ((nds q).take 0))) 147 (0, 0)) from k3.blk g2)); (have gK := hid (show w3.heap[w2.heap.size]? = some (.cells (zsI (kidL len ((nds q).take 0))) 147 (0, 0)) from by rw [List.take_zero, kidL_nil]; exact g3)); (have hCR : Hd (w.heap.size ≠ w1.heap.size ∧ w.heap.size ≠ w2.heap.size ∧ w1.heap.size ≠ w2.heap.size ∧ w.heap.size ≤ w1.heap.size ∧ w.heap.size ≤ w2.heap.size) := ⟨by omega⟩); (replace hq := hid hq); (have hcl := hid (fun j => cnt_le ((nds q).take j))); (have k2s := hid k2); (have g1s := hid g1); (replace hw1 := hid hw1); (replace hw2 := hid hw2); (replace hw3 := hid hw3); (replace e1 := hid e1); (replace e2 := hid e2); (clear g1 g2 g3 k1 k2 k3)
  go_enter Tryz.func41, Tryz.ntmps41
  (go_upto_region 1 with fail); (rw [← hw1.out]); (go_upto_region 2 with fail); (rw [← hw2.out]); (have gC2 := k2s.out.blk g1s.out); (obtain ⟨c0, c1, c2⟩ := slotC gC2); (go_upto_region 3 with fail); (rw [← hw3.out]); (clear c0 c1 c2 gC2); (obtain ⟨c0, c1, c2⟩ := slotC gC.out); (obtain ⟨SZ, hSZ⟩ : ∃ n, w.heap.size = n := ⟨_, rfl⟩); (rw [hSZ] at gC hCR c0 c1 c2 ⊢); (obtain ⟨GC, hGC⟩ : ∃ n, SZ = n := ⟨_, rfl⟩); (rw [hGC] at gC c0 c1 c2 ⊢); (have hGC' : Hd (w.heap.size = GC) := ⟨hSZ.trans hGC⟩); (rw [hGC] at hCR); (generalize w1.heap.size = GR at gR hCR); (generalize w2.heap.size = GK at gK hCR); (clear hw1 hw2 hw3 e1 e2 hmk k2s g1s hSZ hGC); (go_wp2)
  go_loopw [22] (fun i wr => ∃ k : Nat, k ≤ len ∧ i = .int .i64 (k : Int) ∧ Hd (∀ j, j < k → OkC N (nds q) j ((nds q).getD j default)) ∧ Hd (wr.heap[GC]? = some (.cells #[.int .i64 A, .int .i64 M, .slice an len cn] 41 (0, 0))) ∧ Hd (wr.heap[GR]? = some (.cells (zsI (rootL ((nds q).take k))) 147 (0, 0))) ∧ Hd (wr.heap[GK]? = some (.cells (zsI (kidL len ((nds q).take k))) 147 (0, 0))) ∧ Hd (Kept no w wr)) (fun i _ => len - (intOf i).toNat)
  case atStart => exact ⟨0, by omega, rfl, ⟨fun j hj => by omega⟩, gC, gR, gK, k03⟩
  case round =>
    (clear gR gK gC k03 c0 c1 c2); (obtain ⟨k, hk, rfl, hok, hC, hR, hKd, hW⟩ := hrel)
    by_cases hlt : k < len
    · (have hk1 : (k : Int) < (len : Int) := by omega); (have hk0 : (0 : Int) ≤ (k : Int) := by omega); (obtain ⟨b, o, x, tv, rfl, ex, a0, a1, a2, a3, hz⟩ := (hq.out.kept hW.out).at k (by rw [hlen.out]; exact hlt)); (have hxk : Hd ((nds q).getD k default = x) := ⟨nds_at (by rw [hlen.out]; exact hlt) ex⟩); (have htk := hid (nds_take q (by rw [hlen.out]; exact hlt) ex)); (have hbad : Hd (¬ OkC N (nds q) k x → ¬ CodeCov N A (nds q)) := ⟨fun h hc => h (by have := hc.ok k (by rw [hndl.out]; exact hlt); rwa [hxk.out] at this)⟩); (obtain ⟨av, cv, rfl, hcv1, _⟩ := Rd.shape2 hz); (obtain ⟨lv, hlv⟩ : ∃ l, x.tail.length = l := ⟨_, rfl⟩); (rw [hlv] at a1 hz hcv1); (replace hlv := hid hlv); (obtain ⟨P, hP⟩ : ∃ p, x.par = p := ⟨_, rfl⟩); (obtain ⟨L, hL⟩ : ∃ l, x.leaf = l := ⟨_, rfl⟩); (obtain ⟨B, hB⟩ : ∃ l, x.bd = l := ⟨_, rfl⟩); (rw [hP] at a0); (rw [hB] at a2); (rw [hL] at a3); (replace hP := hid hP); (replace hL := hid hL); (clear ex hB); (go_upto_region 6 with fail); (obtain ⟨w4, hw4, g4, k4⟩ := alloc_named wr (.cells #[.int .i64 P, .slice av lv cv, .int .i64 B, .bool L] 98)); (rw [← hw4]); (obtain ⟨d0, d1, d2, d3⟩ := slotN4 g4); (generalize wr.heap.size = G8 at d0 d1 d2 d3 g4); (have hC4 := hid (k4.blk hC.out)); (have hR4 := hid (k4.blk hR.out)); (have hK4 := hid (k4.blk hKd.out)); (have hW4 := hid (hW.out.trans' k4)); (have hz4 := hz.kept k4); (replace g4 := hid g4); (have HT := hid (ctail_any (N : Int) (.slice av lv cv) x.tail w4 hz4)); (clear hw4 k4 hC hR hKd hW hz a0 a1 a2 a3); (go_wp2_with fail); (with_reducible refine HT.out.mono ?_); (rintro e w5 ⟨rfl, k5⟩); (have hC5 := hid (k5.blk hC4.out)); (have hR5 := hid (k5.blk hR4.out)); (have hK5 := hid (k5.blk hK4.out)); (have hW5 := hid (hW4.out.trans' k5)); (have hz5 := hid (show RdZ w5 (.slice av lv cv) x.tail from hz4.kept k5)); (have g5 := hid (k5.blk g4.out)); (obtain ⟨d0, d1, d2, d3⟩ := slotN4 g5.out); (obtain ⟨c0, c1, c2⟩ := slotC hC5.out); (clear HT k5 hC4 hR4 hK4 hW4 hz4 g4)
      cases hT : isTail (N : Int) x.tail with
      | false =>
        (have hn := hid (hbad.out fun h => by have := h.tail; rw [hT] at this; cases this)); (clear hT); (go_wp2); (go_ret); (exact ⟨retNo hn.out, hW5.out⟩)
      | true =>
      (have hTl := hid (isTail_iff.1 hT)); (have hTc := hid (isTail_cons hT)); (have hlv1 : 0 < lv := by rw [← hlv.out]; exact List.length_pos_iff.2 hTl.out.1); (replace hT := hid hT)
      by_cases hfull : lv = N ∧ L = false
      · (obtain ⟨rfl, rfl⟩ := hfull); (have hn := hid (hbad.out fun h => by have := h.full hlv.out; rw [hL.out] at this; cases this)); (have hbe : ((lv : Int) == (lv : Int)) = true := by simp); (go_wp2); (go_ret); (exact ⟨retNo hn.out, hW5.out⟩)
      have hfl : Hd (x.tail.length = N → x.leaf = true) := ⟨fun h => by
        (rw [hlv.out] at h); (rw [hL.out])
        cases L with
        | true => rfl
        | false => exact absurd ⟨h, rfl⟩ hfull⟩
      have hcond : ((((lv : Int) == (N : Int)) = false ∧ decide ((lv : Int) = (N : Int)) = false) ∧ ¬ (lv : Int) = (N : Int)) ∨ ((((lv : Int) == (N : Int)) = true ∧ decide ((lv : Int) = (N : Int)) = true) ∧ (lv : Int) = (N : Int) ∧ L = true) := by
        by_cases h : lv = N
        · right
          (subst h); (refine ⟨⟨by simp, by simp⟩, rfl, ?_⟩)
          cases L with
          | true => rfl
          | false => exact absurd ⟨rfl, rfl⟩ hfull
        · left
          (have h' : ¬ (lv : Int) = (N : Int) := by omega); (exact ⟨⟨by rw [beq_eq_false_iff_ne]; exact h', decide_eq_false h'⟩, h'⟩)
      (clear hfull); (obtain ⟨bt, ot, rfl, hd0⟩ := hz5.out.at 0 (by rw [hlv.out]; exact hlv1)); (have hhd : Hd (x.tail.getD 0 0 = hdN x) := ⟨by unfold hdN; rw [hTc.out]; simp⟩); (rw [hhd.out, Nat.add_zero] at hd0)
      have hhr : 0 ≤ hdN x ∧ hdN x < (N : Int) := by
        (have : hdN x ∈ x.tail := by rw [hTc.out]; exact List.mem_cons_self); (exact hTl.out.2.2 _ this)
      (obtain ⟨c, hc⟩ : ∃ c : Nat, hdN x = (c : Int) := ⟨(hdN x).toNat, by omega⟩); (rw [hc] at hd0 hhr); (have hcN : c < N := by omega); (have hc7 : (c : Int) < 7 := by omega); (have hcp : (0 : Int) ≤ (c : Int) := by omega); (replace hc := hid hc); (replace hd0 := hid hd0); (clear hhd hhr)
      by_cases hPm : P = -1
      · subst hPm
        by_cases hl1 : lv = 1
        · subst hl1
          have hok2 : Hd (∀ j, j < k + 1 → OkC N (nds q) j ((nds q).getD j default)) := ⟨fun j hj => by
            by_cases hjk : j = k
            · (subst hjk); (rw [hxk.out]); (exact ⟨hT.out, hfl.out, by rw [hP.out]; omega, by rw [hP.out]; omega, fun h => by rw [hP.out] at h; omega, by unfold upT; rw [hP.out, if_neg (by omega)]; exact List.drop_eq_nil_of_le (by rw [hlv.out]; omega)⟩)
            · exact hok.out j (by omega)⟩
          (have hrl := rootL_at ((nds q).take k) (c := c) (by omega)); (have hcc := zsI_cell hR5.out (c := c) (by unfold rootL; simp; omega)); (rw [hrl] at hcc); (have hcb := hcl.out k (-1) (c : Int)); (have htl : ((nds q).take k).length ≤ 4000 := by rw [List.length_take, hndl.out]; omega); (have hset := rootL_set ((nds q).take k) x hP.out hc.out (by omega)); (rw [← htk.out] at hset); (have hks := kidL_same (len := len) ((nds q).take k) x (by rw [hP.out]; omega)); (rw [← htk.out] at hks); (obtain ⟨Cn, hCn⟩ : ∃ n : Nat, cntH ((nds q).take k) (-1) (c : Int) = n := ⟨_, rfl⟩); (rw [hCn] at hcc hcb hset); (have hw1 : IntKind.i64.wrap ((Cn : Int) + 1) = (Cn : Int) + 1 := IntWalk.i64_in _ (by omega)); (have fz := row_free hR5.out c); (have hR6 : Hd ((w5.setCell ⟨GR, c, none⟩ (.int .i64 ((Cn : Int) + 1))).heap[GR]? = some (.cells (zsI (rootL ((nds q).take (k + 1)))) 147 (0, 0))) := ⟨by rw [setCell_row hR5.out, zsI_set, hset]⟩); (have kS := (Kept.refl (fun j => j = GR) w5).setCell (a := ⟨GR, c, none⟩) (.inl rfl) (.int .i64 ((Cn : Int) + 1))); (have hC6 := hid ((kS.block GC (lt_of_heap hC5.out) hCR.out.1).trans hC5.out)); (have hK6 : Hd ((w5.setCell ⟨GR, c, none⟩ (.int .i64 ((Cn : Int) + 1))).heap[GK]? = some (.cells (zsI (kidL len ((nds q).take (k + 1)))) 147 (0, 0))) := ⟨by rw [hks]; exact (kS.block GK (lt_of_heap hK5.out) (Ne.symm hCR.out.2.2.1)).trans hK5.out⟩); (have hW6 := hid (hW5.out.setCell (a := ⟨GR, c, none⟩) (.inr (by rw [hGC'.out]; exact hCR.out.2.2.2.1)) (.int .i64 ((Cn : Int) + 1)))); (have hd0' := hd0.out); (clear hset hks hCn hrl hcb htl kS hok hfl)
          rcases hcond with ⟨⟨q1, q2⟩, q3⟩ | ⟨⟨q1, q2⟩, q3, rfl⟩
          · (go_wp2); (go_roundw)
            case rel => first | exact ⟨k + 1, by omega, by go_num, hok2, hC6, hR6, hK6, hW6⟩ | ((repeat apply Exists.intro); exact ⟨⟨k + 1, by omega, by go_num, hok2, hC6, hR6, hK6, hW6⟩, rfl⟩)
            case measure => simp [intOf]; omega
          · omega
        · have hn := hid (hbad.out fun h => by
            (have := h.cons); (unfold upT at this); (rw [hP.out, if_neg (by omega)] at this); (have := congrArg List.length this); (rw [List.length_drop, hlv.out] at this)
            simp at this; omega)
          (have hl1i : ¬ (lv : Int) = 1 := by omega); (have hl1d : decide ((lv : Int) = 1) = false := decide_eq_false hl1i); (have hl1b : ((lv : Int) == 1) = false := by rw [beq_eq_false_iff_ne]; exact hl1i); (clear hok hfl hd0)
          rcases hcond with ⟨⟨q1, q2⟩, q3⟩ | ⟨⟨q1, q2⟩, q3, rfl⟩
          · (go_wp2); (go_ret); (exact ⟨retNo hn.out, hW5.out⟩)
          · (go_wp2); (go_ret); (exact ⟨retNo hn.out, hW5.out⟩)
      · (have hPi : ¬ P = -1 := hPm); (have hPb : (P == -1) = false := by rw [beq_eq_false_iff_ne]; exact hPm); (have hPd : decide (P = -1) = false := decide_eq_false hPm)
        by_cases hP0 : P < 0
        · (have hP0d : decide (P < 0) = true := decide_eq_true hP0); (have hn := hid (hbad.out fun h => by have := h.lo; rw [hP.out] at this; omega)); (clear hok hfl hd0)
          rcases hcond with ⟨⟨q1, q2⟩, q3⟩ | ⟨⟨q1, q2⟩, q3, rfl⟩
          · (go_wp2_with fail); (go_quiet (fail)); (have kF := hid (hW5.out.drewN nq)); (go_wp2); (go_ret); (exact ⟨retNo hn.out, kF.out⟩)
          · (go_wp2_with fail); (go_quiet (fail)); (have kF := hid (hW5.out.drewN nq)); (go_wp2); (go_ret); (exact ⟨retNo hn.out, kF.out⟩)
        (obtain ⟨p, hp⟩ : ∃ p : Nat, P = (p : Int) := ⟨P.toNat, by omega⟩); (have hP0d : decide (P < 0) = false := decide_eq_false hP0); (subst hp)
        by_cases hPk : (k : Int) ≤ (p : Int)
        · (have hPkd : decide ((k : Int) ≤ (p : Int)) = true := decide_eq_true hPk); (have hPkN : k ≤ p := by omega); (have hPkNd : decide (k ≤ p) = true := decide_eq_true hPkN); (have hn := hid (hbad.out fun h => by have := h.hi; rw [hP.out] at this; omega)); (clear hok hfl hd0)
          rcases hcond with ⟨⟨q1, q2⟩, q3⟩ | ⟨⟨q1, q2⟩, q3, rfl⟩
          · (go_wp2_with fail); (go_quiet (fail)); (have kF := hid (hW5.out.drewN nq)); (go_wp2); (go_ret); (exact ⟨retNo hn.out, kF.out⟩)
          · (go_wp2_with fail); (go_quiet (fail)); (have kF := hid (hW5.out.drewN nq)); (go_wp2); (go_ret); (exact ⟨retNo hn.out, kF.out⟩)
        (have hPkd : decide ((k : Int) ≤ (p : Int)) = false := decide_eq_false hPk); (have hPkN : ¬ k ≤ p := by omega); (have hPkNd : decide (k ≤ p) = false := decide_eq_false hPkN); (have hpl : (p : Int) < (len : Int) := by omega); (have hN0 : ¬ N = 0 := by omega); (have hN0i : (0 : Int) < (N : Int) := by omega); (have hlv0i : (0 : Int) < (lv : Int) := by omega); (have hpl0 : (0 : Int) ≤ (p : Int) := by omega); (obtain ⟨b', o', y, ty, hbo, ey, _, b1, _, b3, hzy⟩ := (hq.out.kept hW5.out).at p (by rw [hlen.out]; omega))
        cases hbo
        (have hyk : Hd ((nds q).getD p default = y) := ⟨nds_at (by rw [hlen.out]; omega) ey⟩); (obtain ⟨ay, cy, rfl, _, _⟩ := Rd.shape2 hzy); (obtain ⟨ly, hly⟩ : ∃ l, y.tail.length = l := ⟨_, rfl⟩); (rw [hly] at b1 hzy); (obtain ⟨Ly, hLy⟩ : ∃ l, y.leaf = l := ⟨_, rfl⟩); (rw [hLy] at b3); (clear ey)
        cases Ly with
        | true =>
          (have hn := hid (hbad.out fun h => by have := h.leafp (by rw [hP.out]; exact hpl0); rw [hP.out, Int.toNat_natCast, hyk.out, hLy] at this; cases this)); (clear hok hfl hd0 hzy hLy hly)
          rcases hcond with ⟨⟨q1, q2⟩, q3⟩ | ⟨⟨q1, q2⟩, q3, rfl⟩
          · (go_wp2_with fail); (go_quiet (fail)); (have kF := hid (hW5.out.drewN nq)); (go_wp2); (go_ret); (exact ⟨retNo hn.out, kF.out⟩)
          · (go_wp2_with fail); (go_quiet (fail)); (have kF := hid (hW5.out.drewN nq)); (go_wp2); (go_ret); (exact ⟨retNo hn.out, kF.out⟩)
        | false =>
        (have hsl : ∀ w, (Instr.slice 26 (.slice (some ⟨bt, ot, none⟩) lv cv) (some (.int .i64 1)) none none).run Tryz.prog w = .ok (.slice (if cv = 1 then (some ⟨bt, ot, none⟩ : Option Addr) else (some ⟨bt, ot, none⟩ : Option Addr).map (·.add 1)) (lv - 1) (cv - 1)) w := fun w => post_sliceI (some ⟨bt, ot, none⟩) lv cv 1 (by omega) w); (have hzd := hz5.out.dropI 1 (by rw [hlv.out]; omega)); (rw [hlv.out] at hzd); (obtain ⟨ad, had⟩ : ∃ ad, (if cv = 1 then (some ⟨bt, ot, none⟩ : Option Addr) else (some ⟨bt, ot, none⟩ : Option Addr).map (·.add 1)) = ad := ⟨_, rfl⟩); (rw [had] at hsl hzd); (obtain ⟨ld, hld⟩ : ∃ l, lv - 1 = l := ⟨_, rfl⟩); (obtain ⟨cd, hcd⟩ : ∃ l, cv - 1 = l := ⟨_, rfl⟩); (rw [hld, hcd] at hsl hzd); (have HE := Qt.quiet (w := w5) fun W (kw : Qt w5 W) => equal_any (.slice ad ld cd) (.slice ay ly cy) (x.tail.drop 1) y.tail W (RdZ.kept hzd kw.kept) (RdZ.kept (show RdZ w5 (.slice ay ly cy) y.tail from by rw [← hly] at hzy ⊢; exact hzy) kw.kept)); (have hup : Hd (upT (nds q) x = y.tail) := ⟨by unfold upT; rw [hP.out, if_pos hpl0, Int.toNat_natCast, hyk.out]⟩)
        by_cases heq : x.tail.drop 1 = y.tail
        · (rw [decide_eq_true heq] at HE); (replace HE := hid HE)
          have hok2 : Hd (∀ j, j < k + 1 → OkC N (nds q) j ((nds q).getD j default)) := ⟨fun j hj => by
            by_cases hjk : j = k
            · (subst hjk); (rw [hxk.out]); (exact ⟨hT.out, hfl.out, by rw [hP.out]; omega, by rw [hP.out]; omega, fun h => by rw [hP.out, Int.toNat_natCast, hyk.out]; exact hLy, by rw [hup.out]; exact heq⟩)
            · exact hok.out j (by omega)⟩
          (have hrs := rootL_same ((nds q).take k) x (by rw [hP.out]; omega)); (rw [← htk.out] at hrs); (have hks := kidL_set (len := len) ((nds q).take k) x hP.out hc.out (by omega) (by omega)); (rw [← htk.out] at hks); (have hkl := kidL_at (len := len) ((nds q).take k) (i := p) (c := c) (by omega) (by omega)); (have hcb := hcl.out k (p : Int) (c : Int)); (have htl : ((nds q).take k).length ≤ 4000 := by rw [List.length_take, hndl.out]; omega); (obtain ⟨Cn, hCn⟩ : ∃ n : Nat, cntH ((nds q).take k) (p : Int) (c : Int) = n := ⟨_, rfl⟩); (rw [hCn] at hcb hks hkl); (have hlk : p * 7 + c < (kidL len ((nds q).take k)).length := by unfold kidL; simp; omega); (obtain ⟨KL, hKL⟩ : ∃ l, kidL len ((nds q).take k) = l := ⟨_, rfl⟩); (rw [hKL] at hK5 hks hkl hlk); (have hw1 : IntKind.i64.wrap ((Cn : Int) + 1) = (Cn : Int) + 1 := IntWalk.i64_in _ (by omega)); (replace hks := hid hks); (replace hkl := hid hkl); (replace hlk := hid hlk); (have hR6 : Hd (w5.heap[GR]? = some (.cells (zsI (rootL ((nds q).take (k + 1)))) 147 (0, 0))) := ⟨by rw [hrs]; exact hR5.out⟩); (clear hrs hKL hCn hcb htl hok hfl hzy hzd hLy hly had hld hcd hup heq hR5)
          rcases hcond with ⟨⟨q1, q2⟩, q3⟩ | ⟨⟨q1, q2⟩, q3, rfl⟩
          · (skip); (go_wp2_with fail); (go_quiet ((go_at_call 80; exact HE.out _))); (obtain ⟨w6, hw6⟩ : ∃ w6, w6 = w5.drewN nq := ⟨_, rfl⟩); (have k56 : Kept no w5 w6 := by rw [hw6]; exact (Kept.refl no w5).drewN nq); (rw [← hw6]); (have hC6 := hid (k56.blk hC5.out)); (have hR7 := hid (k56.blk hR6.out)); (have hK6 := hid (k56.blk hK5.out)); (have hW6 := hid (hW5.out.trans' k56)); (have g6 := hid (k56.blk g5.out)); (have hd6 := hid (k56.cell hd0.out id))
            have hKc := hid (show w6.cell? ⟨GK, p * 7 + c, none⟩ = some (.int .i64 (Cn : Int)) from by
              have := zsI_cell hK6.out hlk.out
              rwa [hkl.out] at this)
            (clear hw6 k56 hsl hd0 HE b1 b3 c0 c1 c2 d0 d1 d2 d3 hC5 hR6 hK5 hW5 g5); (go_upto_region 14 with fail); (have e0 := hid (slotN4 g6.out).1); (have e1 := hid (slotN4 g6.out).2.1); (refine region_flow (S := (fun k => k = GK)) (Sl := (fun j k => j = 13 ∧ k = GK)) [Is (.slice (some ⟨GK, 0, none⟩) len len), Is (.pointer (some ⟨G8, 0, none⟩)), Is (.int .i64 (p : Int)), Is (.pointer (some ⟨G8, 1, none⟩)), Is (.slice (some ⟨bt, ot, none⟩) lv cv), Is (.pointer (some ⟨bt, ot, none⟩)), Is (.int .i64 (c : Int)), Is (.pointer (some ⟨GK, p * 7, none⟩)), Is (.pointer (some ⟨GK, p * 7 + c, none⟩)), Is (.int .i64 (Cn : Int)), Is (.int .i64 ((Cn : Int) + 1)), Is (.pointer (some ⟨GK, p * 7, none⟩)), Is (.pointer (some ⟨GK, p * 7 + c, none⟩)), PBlkI GK 147 (kidL len ((nds q).take (k + 1)))] [13] (fun j k h => h.2) _ (by kernel_rfl) (by kernel_rfl) (by kernel_rfl) (by kernel_rfl) (fun x => by simp only [puts, Act.put, List.map_cons, List.map_nil, Nat.zero_add, Nat.reduceAdd, List.setIfInBounds_toArray, List.set_cons_zero, List.set_cons_succ]; exact rfl) ?_ ?_)
            · (skip); (refine .cons (fun x wf Kk hq hdep hold => ?_) ?_)
              · (try dsimp only); (clear hq hdep hold); (rw [if_pos (by rfl)]); (refine OpY.val ?_ ⟨Kept.refl _ _, rfl⟩); (first | rfl | go_simp)
              refine .cons (fun x wf Kk hq hdep hold => ?_) ?_
              · (try dsimp only); (clear hq hdep hold); (rw [if_pos (by rfl)]); (refine OpY.val ?_ ⟨Kept.refl _ _, rfl⟩); (first | rfl | go_simp)
              refine .cons (fun x wf Kk hq hdep hold => ?_) ?_
              · (try dsimp only); (have h1 : x 1 = _ := hdep 1 (by kernel_rfl)); (have Kq := hq no (fun j hj => by cases (show j ∈ ([] : List Nat) from by (have e : ∀ l : List Nat, l = [] → j ∈ l → j ∈ ([] : List Nat) := fun l h h2 => h ▸ h2); exact e _ (by kernel_rfl) hj))); (clear hq hdep hold); (simp only [h1]); (clear h1); (have m1 := Kq.undrew.cell e0.out id); (rw [if_pos (by rfl)]); (refine OpY.val ?_ ⟨Kept.refl _ _, rfl⟩); (first | rfl | go_simp)
              refine .cons (fun x wf Kk hq hdep hold => ?_) ?_
              · (try dsimp only); (clear hq hdep hold); (rw [if_pos (by rfl)]); (refine OpY.val ?_ ⟨Kept.refl _ _, rfl⟩); (first | rfl | go_simp)
              refine .cons (fun x wf Kk hq hdep hold => ?_) ?_
              · (try dsimp only); (have h3 : x 3 = _ := hdep 3 (by kernel_rfl)); (have Kq := hq no (fun j hj => by cases (show j ∈ ([] : List Nat) from by (have e : ∀ l : List Nat, l = [] → j ∈ l → j ∈ ([] : List Nat) := fun l h h2 => h ▸ h2); exact e _ (by kernel_rfl) hj))); (clear hq hdep hold); (simp only [h3]); (clear h3); (have m1 := Kq.undrew.cell e1.out id); (rw [if_pos (by rfl)]); (refine OpY.val ?_ ⟨Kept.refl _ _, rfl⟩); (first | rfl | go_simp)
              refine .cons (fun x wf Kk hq hdep hold => ?_) ?_
              · (try dsimp only); (have h4 : x 4 = _ := hdep 4 (by kernel_rfl)); (clear hq hdep hold); (simp only [h4]); (clear h4); (rw [if_pos (by rfl)]); (refine OpY.val ?_ ⟨Kept.refl _ _, rfl⟩); (first | rfl | go_simp)
              refine .cons (fun x wf Kk hq hdep hold => ?_) ?_
              · (try dsimp only); (have h5 : x 5 = _ := hdep 5 (by kernel_rfl)); (have Kq := hq no (fun j hj => by cases (show j ∈ ([] : List Nat) from by (have e : ∀ l : List Nat, l = [] → j ∈ l → j ∈ ([] : List Nat) := fun l h h2 => h ▸ h2); exact e _ (by kernel_rfl) hj))); (clear hq hdep hold); (simp only [h5]); (clear h5); (have m1 := Kq.undrew.cell hd6.out id); (rw [if_pos (by rfl)]); (refine OpY.val ?_ ⟨Kept.refl _ _, rfl⟩); (first | rfl | go_simp)
              refine .cons (fun x wf Kk hq hdep hold => ?_) ?_
              · (try dsimp only); (have h0 : x 0 = _ := hdep 0 (by kernel_rfl)); (have h2 : x 2 = _ := hdep 2 (by kernel_rfl)); (clear hq hdep hold); (simp only [h0, h2]); (clear h0 h2); (rw [if_pos (by rfl)]); (refine OpY.val ?_ ⟨Kept.refl _ _, rfl⟩); (first | rfl | go_simp)
              refine .cons (fun x wf Kk hq hdep hold => ?_) ?_
              · (try dsimp only); (have h7 : x 7 = _ := hdep 7 (by kernel_rfl)); (have h6 : x 6 = _ := hdep 6 (by kernel_rfl)); (clear hq hdep hold); (simp only [h7, h6]); (clear h7 h6); (rw [if_pos (by rfl)]); (refine OpY.val ?_ ⟨Kept.refl _ _, rfl⟩); (first | rfl | go_simp)
              refine .cons (fun x wf Kk hq hdep hold => ?_) ?_
              · (try dsimp only); (have h8 : x 8 = _ := hdep 8 (by kernel_rfl)); (have Kq := hq no (fun j hj => by cases (show j ∈ ([] : List Nat) from by (have e : ∀ l : List Nat, l = [] → j ∈ l → j ∈ ([] : List Nat) := fun l h h2 => h ▸ h2); exact e _ (by kernel_rfl) hj))); (clear hq hdep hold); (simp only [h8]); (clear h8); (have m1 := Kq.undrew.cell hKc.out id); (rw [if_pos (by rfl)]); (refine OpY.val ?_ ⟨Kept.refl _ _, rfl⟩); (first | rfl | go_simp)
              refine .cons (fun x wf Kk hq hdep hold => ?_) ?_
              · (try dsimp only); (have h9 : x 9 = _ := hdep 9 (by kernel_rfl)); (clear hq hdep hold); (simp only [h9]); (clear h9); (rw [if_pos (by rfl)]); (refine OpY.val ?_ ⟨Kept.refl _ _, rfl⟩); (first | rfl | go_simp)
              refine .cons (fun x wf Kk hq hdep hold => ?_) ?_
              · (try dsimp only); (have h0 : x 0 = _ := hdep 0 (by kernel_rfl)); (have h2 : x 2 = _ := hdep 2 (by kernel_rfl)); (clear hq hdep hold); (simp only [h0, h2]); (clear h0 h2); (rw [if_pos (by rfl)]); (refine OpY.val ?_ ⟨Kept.refl _ _, rfl⟩); (first | rfl | go_simp)
              refine .cons (fun x wf Kk hq hdep hold => ?_) ?_
              · (try dsimp only); (have h11 : x 11 = _ := hdep 11 (by kernel_rfl)); (have h6 : x 6 = _ := hdep 6 (by kernel_rfl)); (clear hq hdep hold); (simp only [h11, h6]); (clear h11 h6); (rw [if_pos (by rfl)]); (refine OpY.val ?_ ⟨Kept.refl _ _, rfl⟩); (first | rfl | go_simp)
              refine .cons (fun x wf Kk hq hdep hold => ?_) ?_
              · (try dsimp only); (have h12 : x 12 = _ := hdep 12 (by kernel_rfl)); (have h10 : x 10 = _ := hdep 10 (by kernel_rfl)); (have Kq := hq no (fun j hj => by cases (show j ∈ ([] : List Nat) from by (have e : ∀ l : List Nat, l = [] → j ∈ l → j ∈ ([] : List Nat) := fun l h h2 => h ▸ h2); exact e _ (by kernel_rfl) hj))); (clear hq hdep hold); (simp only [h12, h10]); (clear h12 h10); (rw [if_pos (by rfl)]); (have hb := Kq.undrew.blk hK6.out); (have fz := row_free hb (p * 7 + c)); (have m1 := Kq.undrew.cell hKc.out id); (have kS := (Kept.refl (fun j => j = GK) wf).setCell (a := ⟨GK, p * 7 + c, none⟩) (.inl rfl) (.int .i64 ((Cn : Int) + 1))); (refine OpY.skipY (w' := wf.setCell ⟨GK, p * 7 + c, none⟩ (.int .i64 ((Cn : Int) + 1))) (by go_simp) ⟨kS.mono fun k _ h => ⟨by trivial, h⟩, ?_⟩)
                show (wf.setCell ⟨GK, p * 7 + c, none⟩ (.int .i64 ((Cn : Int) + 1))).heap[GK]? = _
                rw [setCell_row hb, zsI_set, hks.out]
              exact .nil _
            · (intro x wf Kk hv); (try dsimp only); (have p13 : Pr.p (Sl := (fun j k => j = 13 ∧ k = GK)) (PBlkI GK 147 (kidL len ((nds q).take (k + 1)))) (x 13) wf := hv 13 (by kernel_rfl)); (clear hv); (have hC7 := hid ((Kk.undrew.block GC (lt_of_heap hC6.out) hCR.out.2.1).trans hC6.out)); (have hR8 := hid ((Kk.undrew.block GR (lt_of_heap hR7.out) hCR.out.2.2.1).trans hR7.out)); (have hK7 := hid p13)
              have hW7 : Hd (Kept no w wf) := ⟨hW6.out.trans Kk.undrew fun j hj h => by
                rw [h] at hj; have h1 := hCR.out.2.2.2.2; rw [← hGC'.out] at h1; omega⟩
              (clear Kk p13 hC6 hR7 hK6 hW6 g6 hd6 hKc e0 e1 hks hkl hlk); (go_wp2); (go_roundw)
              case rel => first | exact ⟨k + 1, by omega, by go_num, hok2, hC7, hR8, hK7, hW7⟩ | ((repeat apply Exists.intro); exact ⟨⟨k + 1, by omega, by go_num, hok2, hC7, hR8, hK7, hW7⟩, rfl⟩)
              case measure => simp [intOf]; omega
          · (skip); (go_wp2_with fail); (go_quiet ((go_at_call 80; exact HE.out _))); (obtain ⟨w6, hw6⟩ : ∃ w6, w6 = w5.drewN nq := ⟨_, rfl⟩); (have k56 : Kept no w5 w6 := by rw [hw6]; exact (Kept.refl no w5).drewN nq); (rw [← hw6]); (have hC6 := hid (k56.blk hC5.out)); (have hR7 := hid (k56.blk hR6.out)); (have hK6 := hid (k56.blk hK5.out)); (have hW6 := hid (hW5.out.trans' k56)); (have g6 := hid (k56.blk g5.out)); (have hd6 := hid (k56.cell hd0.out id))
            have hKc := hid (show w6.cell? ⟨GK, p * 7 + c, none⟩ = some (.int .i64 (Cn : Int)) from by
              have := zsI_cell hK6.out hlk.out
              rwa [hkl.out] at this)
            (clear hw6 k56 hsl hd0 HE b1 b3 c0 c1 c2 d0 d1 d2 d3 hC5 hR6 hK5 hW5 g5); (go_upto_region 14 with fail); (have e0 := hid (slotN4 g6.out).1); (have e1 := hid (slotN4 g6.out).2.1); (refine region_flow (S := (fun k => k = GK)) (Sl := (fun j k => j = 13 ∧ k = GK)) [Is (.slice (some ⟨GK, 0, none⟩) len len), Is (.pointer (some ⟨G8, 0, none⟩)), Is (.int .i64 (p : Int)), Is (.pointer (some ⟨G8, 1, none⟩)), Is (.slice (some ⟨bt, ot, none⟩) lv cv), Is (.pointer (some ⟨bt, ot, none⟩)), Is (.int .i64 (c : Int)), Is (.pointer (some ⟨GK, p * 7, none⟩)), Is (.pointer (some ⟨GK, p * 7 + c, none⟩)), Is (.int .i64 (Cn : Int)), Is (.int .i64 ((Cn : Int) + 1)), Is (.pointer (some ⟨GK, p * 7, none⟩)), Is (.pointer (some ⟨GK, p * 7 + c, none⟩)), PBlkI GK 147 (kidL len ((nds q).take (k + 1)))] [13] (fun j k h => h.2) _ (by kernel_rfl) (by kernel_rfl) (by kernel_rfl) (by kernel_rfl) (fun x => by simp only [puts, Act.put, List.map_cons, List.map_nil, Nat.zero_add, Nat.reduceAdd, List.setIfInBounds_toArray, List.set_cons_zero, List.set_cons_succ]; exact rfl) ?_ ?_)
            · (skip); (refine .cons (fun x wf Kk hq hdep hold => ?_) ?_)
              · (try dsimp only); (clear hq hdep hold); (rw [if_pos (by rfl)]); (refine OpY.val ?_ ⟨Kept.refl _ _, rfl⟩); (first | rfl | go_simp)
              refine .cons (fun x wf Kk hq hdep hold => ?_) ?_
              · (try dsimp only); (clear hq hdep hold); (rw [if_pos (by rfl)]); (refine OpY.val ?_ ⟨Kept.refl _ _, rfl⟩); (first | rfl | go_simp)
              refine .cons (fun x wf Kk hq hdep hold => ?_) ?_
              · (try dsimp only); (have h1 : x 1 = _ := hdep 1 (by kernel_rfl)); (have Kq := hq no (fun j hj => by cases (show j ∈ ([] : List Nat) from by (have e : ∀ l : List Nat, l = [] → j ∈ l → j ∈ ([] : List Nat) := fun l h h2 => h ▸ h2); exact e _ (by kernel_rfl) hj))); (clear hq hdep hold); (simp only [h1]); (clear h1); (have m1 := Kq.undrew.cell e0.out id); (rw [if_pos (by rfl)]); (refine OpY.val ?_ ⟨Kept.refl _ _, rfl⟩); (first | rfl | go_simp)
              refine .cons (fun x wf Kk hq hdep hold => ?_) ?_
              · (try dsimp only); (clear hq hdep hold); (rw [if_pos (by rfl)]); (refine OpY.val ?_ ⟨Kept.refl _ _, rfl⟩); (first | rfl | go_simp)
              refine .cons (fun x wf Kk hq hdep hold => ?_) ?_
              · (try dsimp only); (have h3 : x 3 = _ := hdep 3 (by kernel_rfl)); (have Kq := hq no (fun j hj => by cases (show j ∈ ([] : List Nat) from by (have e : ∀ l : List Nat, l = [] → j ∈ l → j ∈ ([] : List Nat) := fun l h h2 => h ▸ h2); exact e _ (by kernel_rfl) hj))); (clear hq hdep hold); (simp only [h3]); (clear h3); (have m1 := Kq.undrew.cell e1.out id); (rw [if_pos (by rfl)]); (refine OpY.val ?_ ⟨Kept.refl _ _, rfl⟩); (first | rfl | go_simp)
              refine .cons (fun x wf Kk hq hdep hold => ?_) ?_
              · (try dsimp only); (have h4 : x 4 = _ := hdep 4 (by kernel_rfl)); (clear hq hdep hold); (simp only [h4]); (clear h4); (rw [if_pos (by rfl)]); (refine OpY.val ?_ ⟨Kept.refl _ _, rfl⟩); (first | rfl | go_simp)
              refine .cons (fun x wf Kk hq hdep hold => ?_) ?_
              · (try dsimp only); (have h5 : x 5 = _ := hdep 5 (by kernel_rfl)); (have Kq := hq no (fun j hj => by cases (show j ∈ ([] : List Nat) from by (have e : ∀ l : List Nat, l = [] → j ∈ l → j ∈ ([] : List Nat) := fun l h h2 => h ▸ h2); exact e _ (by kernel_rfl) hj))); (clear hq hdep hold); (simp only [h5]); (clear h5); (have m1 := Kq.undrew.cell hd6.out id); (rw [if_pos (by rfl)]); (refine OpY.val ?_ ⟨Kept.refl _ _, rfl⟩); (first | rfl | go_simp)
              refine .cons (fun x wf Kk hq hdep hold => ?_) ?_
              · (try dsimp only); (have h0 : x 0 = _ := hdep 0 (by kernel_rfl)); (have h2 : x 2 = _ := hdep 2 (by kernel_rfl)); (clear hq hdep hold); (simp only [h0, h2]); (clear h0 h2); (rw [if_pos (by rfl)]); (refine OpY.val ?_ ⟨Kept.refl _ _, rfl⟩); (first | rfl | go_simp)
              refine .cons (fun x wf Kk hq hdep hold => ?_) ?_
              · (try dsimp only); (have h7 : x 7 = _ := hdep 7 (by kernel_rfl)); (have h6 : x 6 = _ := hdep 6 (by kernel_rfl)); (clear hq hdep hold); (simp only [h7, h6]); (clear h7 h6); (rw [if_pos (by rfl)]); (refine OpY.val ?_ ⟨Kept.refl _ _, rfl⟩); (first | rfl | go_simp)
              refine .cons (fun x wf Kk hq hdep hold => ?_) ?_
              · (try dsimp only); (have h8 : x 8 = _ := hdep 8 (by kernel_rfl)); (have Kq := hq no (fun j hj => by cases (show j ∈ ([] : List Nat) from by (have e : ∀ l : List Nat, l = [] → j ∈ l → j ∈ ([] : List Nat) := fun l h h2 => h ▸ h2); exact e _ (by kernel_rfl) hj))); (clear hq hdep hold); (simp only [h8]); (clear h8); (have m1 := Kq.undrew.cell hKc.out id); (rw [if_pos (by rfl)]); (refine OpY.val ?_ ⟨Kept.refl _ _, rfl⟩); (first | rfl | go_simp)
              refine .cons (fun x wf Kk hq hdep hold => ?_) ?_
              · (try dsimp only); (have h9 : x 9 = _ := hdep 9 (by kernel_rfl)); (clear hq hdep hold); (simp only [h9]); (clear h9); (rw [if_pos (by rfl)]); (refine OpY.val ?_ ⟨Kept.refl _ _, rfl⟩); (first | rfl | go_simp)
              refine .cons (fun x wf Kk hq hdep hold => ?_) ?_
              · (try dsimp only); (have h0 : x 0 = _ := hdep 0 (by kernel_rfl)); (have h2 : x 2 = _ := hdep 2 (by kernel_rfl)); (clear hq hdep hold); (simp only [h0, h2]); (clear h0 h2); (rw [if_pos (by rfl)]); (refine OpY.val ?_ ⟨Kept.refl _ _, rfl⟩); (first | rfl | go_simp)
              refine .cons (fun x wf Kk hq hdep hold => ?_) ?_
              · (try dsimp only); (have h11 : x 11 = _ := hdep 11 (by kernel_rfl)); (have h6 : x 6 = _ := hdep 6 (by kernel_rfl)); (clear hq hdep hold); (simp only [h11, h6]); (clear h11 h6); (rw [if_pos (by rfl)]); (refine OpY.val ?_ ⟨Kept.refl _ _, rfl⟩); (first | rfl | go_simp)
              refine .cons (fun x wf Kk hq hdep hold => ?_) ?_
              · (try dsimp only); (have h12 : x 12 = _ := hdep 12 (by kernel_rfl)); (have h10 : x 10 = _ := hdep 10 (by kernel_rfl)); (have Kq := hq no (fun j hj => by cases (show j ∈ ([] : List Nat) from by (have e : ∀ l : List Nat, l = [] → j ∈ l → j ∈ ([] : List Nat) := fun l h h2 => h ▸ h2); exact e _ (by kernel_rfl) hj))); (clear hq hdep hold); (simp only [h12, h10]); (clear h12 h10); (rw [if_pos (by rfl)]); (have hb := Kq.undrew.blk hK6.out); (have fz := row_free hb (p * 7 + c)); (have m1 := Kq.undrew.cell hKc.out id); (have kS := (Kept.refl (fun j => j = GK) wf).setCell (a := ⟨GK, p * 7 + c, none⟩) (.inl rfl) (.int .i64 ((Cn : Int) + 1))); (refine OpY.skipY (w' := wf.setCell ⟨GK, p * 7 + c, none⟩ (.int .i64 ((Cn : Int) + 1))) (by go_simp) ⟨kS.mono fun k _ h => ⟨by trivial, h⟩, ?_⟩)
                show (wf.setCell ⟨GK, p * 7 + c, none⟩ (.int .i64 ((Cn : Int) + 1))).heap[GK]? = _
                rw [setCell_row hb, zsI_set, hks.out]
              exact .nil _
            · (intro x wf Kk hv); (try dsimp only); (have p13 : Pr.p (Sl := (fun j k => j = 13 ∧ k = GK)) (PBlkI GK 147 (kidL len ((nds q).take (k + 1)))) (x 13) wf := hv 13 (by kernel_rfl)); (clear hv); (have hC7 := hid ((Kk.undrew.block GC (lt_of_heap hC6.out) hCR.out.2.1).trans hC6.out)); (have hR8 := hid ((Kk.undrew.block GR (lt_of_heap hR7.out) hCR.out.2.2.1).trans hR7.out)); (have hK7 := hid p13)
              have hW7 : Hd (Kept no w wf) := ⟨hW6.out.trans Kk.undrew fun j hj h => by
                rw [h] at hj; have h1 := hCR.out.2.2.2.2; rw [← hGC'.out] at h1; omega⟩
              (clear Kk p13 hC6 hR7 hK6 hW6 g6 hd6 hKc e0 e1 hks hkl hlk); (go_wp2); (go_roundw)
              case rel => first | exact ⟨k + 1, by omega, by go_num, hok2, hC7, hR8, hK7, hW7⟩ | ((repeat apply Exists.intro); exact ⟨⟨k + 1, by omega, by go_num, hok2, hC7, hR8, hK7, hW7⟩, rfl⟩)
              case measure => simp [intOf]; omega
        · (rw [decide_eq_false heq] at HE); (replace HE := hid HE); (have hn := hid (hbad.out fun h => by have := h.cons; rw [hup.out] at this; exact heq this)); (clear hok hfl hd0 hzy hzd hLy hly had hld hcd)
          rcases hcond with ⟨⟨q1, q2⟩, q3⟩ | ⟨⟨q1, q2⟩, q3, rfl⟩
          · (go_wp2_with fail); (go_quiet ((go_at_call 80; exact HE.out _))); (have kF := hid (hW5.out.drewN nq)); (go_wp2); (go_ret); (exact ⟨retNo hn.out, kF.out⟩)
          · (go_wp2_with fail); (go_quiet ((go_at_call 80; exact HE.out _))); (have kF := hid (hW5.out.drewN nq)); (go_wp2); (go_ret); (exact ⟨retNo hn.out, kF.out⟩)
    · (obtain rfl : k = len := by omega); (have hallok : Hd (∀ j, j < (nds q).length → OkC N (nds q) j ((nds q).getD j default)) := ⟨fun j hj => hok.out j (by rw [← hndl.out]; exact hj)⟩); (rw [List.take_of_length_le (by rw [hndl.out]; exact Nat.le_refl _)] at hR hKd); (obtain ⟨w9, rfl⟩ : ∃ w9 : World, w9 = wr := ⟨_, rfl⟩)
      have hRv := hid (fun (c : Nat) (hc : c < N) => show w9.cell? ⟨GR, c, none⟩ = some (.int .i64 (cntH (nds q) (-1) (c : Int) : Int)) from by
        have := zsI_cell hR.out (c := c) (by unfold rootL; simp; omega)
        rwa [rootL_at (nds q) (by omega)] at this)
      have hKv := hid (fun (i c : Nat) (hi : i < k) (hc : c < N) => show w9.cell? ⟨GK, i * 7 + c, none⟩ = some (.int .i64 (cntH (nds q) (i : Int) (c : Int) : Int)) from by
        have := zsI_cell hKd.out (c := i * 7 + c) (by unfold kidL; simp; omega)
        rwa [kidL_at (nds q) hi (by omega)] at this)
      (clear hok hR hKd hcl); (go_wp2)
      go_loopw [106] (fun i wr => ∃ c : Nat, c ≤ N ∧ i = .int .i64 (c : Int) ∧ Hd (∀ j : Nat, j < c → cntH (nds q) (-1) (j : Int) = if (j : Int) = A then 0 else 1) ∧ wr = w9) (fun i _ => N - (intOf i).toNat)
      case atStart => exact ⟨0, by omega, rfl, ⟨fun j hj => by omega⟩, rfl⟩
      case round =>
        (obtain ⟨c, hc, rfl, hro, rfl⟩ := hrel); (obtain ⟨c0, c1, c2⟩ := slotC hC.out)
        by_cases hcl : c < N
        · (have hc1 : (c : Int) < (N : Int) := by omega); (have hc0 : (0 : Int) ≤ (c : Int) := by omega); (have hc7 : (c : Int) < 7 := by omega); (have hcc := hRv.out c hcl)
          have hwant : Hd (∀ m, cntH (nds q) (-1) (c : Int) = m → ¬ (m = if (c : Int) = A then 0 else 1) → ¬ CodeCov N A (nds q)) := ⟨fun m hm hne hcov => hne (by
            rw [← hm]
            by_cases hcA : (c : Int) = A
            · rw [if_pos hcA]; exact hcov.no (-1) c (by omega) (by omega) hcl (by unfold wantH; rw [if_pos (by omega)]; exact fun h => h hcA)
            · rw [if_neg hcA]; exact hcov.yes (-1) c (by omega) (by omega) hcl (by unfold wantH; rw [if_pos (by omega)]; exact hcA))⟩
          have hro2 : Hd (∀ m, cntH (nds q) (-1) (c : Int) = m → (m = if (c : Int) = A then 0 else 1) → ∀ j : Nat, j < c + 1 → cntH (nds q) (-1) (j : Int) = if (j : Int) = A then 0 else 1) := ⟨fun m hm he j hj => by
            by_cases hjc : j = c
            · subst hjc; rw [hm, he]
            · exact hro.out j (by omega)⟩
          (obtain ⟨m, hm⟩ : ∃ m, cntH (nds q) (-1) (c : Int) = m := ⟨_, rfl⟩); (rw [hm] at hcc); (have hw := hid (hwant.out m hm)); (have hr2 := hid (hro2.out m hm)); (clear hwant hro2 hro hm)
          have KEYS : (if (c : Int) = A then (0 : Nat) else 1) = 0 ∧ (c : Int) = A ∨ (if (c : Int) = A then (0 : Nat) else 1) = 1 ∧ ¬ (c : Int) = A := by
            by_cases h : (c : Int) = A
            · left; rw [if_pos h]; exact ⟨rfl, h⟩
            · right; rw [if_neg h]; exact ⟨rfl, h⟩
          rcases KEYS with ⟨kv, kA⟩ | ⟨kv, kA⟩
          · (rw [kv] at hw hr2); (have hAb : ((c : Int) == A) = true := by rw [beq_iff_eq]; exact kA); (have hAd : decide ((c : Int) = A) = true := decide_eq_true kA); (clear kA)
            by_cases hm0 : m = 0
            · (have hr3 := hid (hr2.out hm0)); (have hmi : (m : Int) = 0 := by omega); (rw [hmi] at hcc); (clear hm0 hmi); (clear hw hr2 kv); (go_wp2); (go_roundw)
              case rel => first | exact ⟨c + 1, by omega, by go_num, hr3, by trivial⟩ | ((repeat apply Exists.intro); exact ⟨⟨c + 1, by omega, by go_num, hr3, by trivial⟩, rfl⟩)
              case measure => simp [intOf]; omega
            · (have hn := hid (hw.out hm0)); (have hmi : ¬ (m : Int) = 0 := by omega); (have hmb : ((m : Int) == 0) = false := by rw [beq_eq_false_iff_ne]; exact hmi); (have hmd : decide ((m : Int) = 0) = false := decide_eq_false hmi); (clear hw hr2 kv); (go_wp2); (go_ret); (exact ⟨retNo hn.out, hW.out⟩)
          · (rw [kv] at hw hr2); (have hAb : ((c : Int) == A) = false := by rw [beq_eq_false_iff_ne]; exact kA); (have hAd : decide ((c : Int) = A) = false := decide_eq_false kA)
            by_cases hm0 : m = 1
            · (have hr3 := hid (hr2.out hm0)); (have hmi : (m : Int) = 1 := by omega); (rw [hmi] at hcc); (clear hm0 hmi); (clear hw hr2 kv); (go_wp2); (go_roundw)
              case rel => first | exact ⟨c + 1, by omega, by go_num, hr3, by trivial⟩ | ((repeat apply Exists.intro); exact ⟨⟨c + 1, by omega, by go_num, hr3, by trivial⟩, rfl⟩)
              case measure => simp [intOf]; omega
            · (have hn := hid (hw.out hm0)); (have hmi : ¬ (m : Int) = 1 := by omega); (have hmb : ((m : Int) == 1) = false := by rw [beq_eq_false_iff_ne]; exact hmi); (have hmd : decide ((m : Int) = 1) = false := decide_eq_false hmi); (clear hw hr2 kv); (go_wp2); (go_ret); (exact ⟨retNo hn.out, hW.out⟩)
        · (obtain rfl : c = N := by omega); (clear hRv); (obtain ⟨w8, rfl⟩ : ∃ w8 : World, w8 = wr := ⟨_, rfl⟩); (go_wp2)
          go_loopw [122] (fun i wr => ∃ j : Nat, j ≤ k ∧ i = .int .i64 (j : Int) ∧ Hd (∀ i' c' : Nat, i' < j → c' < c → cntH (nds q) (i' : Int) (c' : Int) = if ((nds q).getD i' default).leaf = true ∨ (c' : Int) ∈ ((nds q).getD i' default).tail then 0 else 1) ∧ Hd (Kept no w8 wr)) (fun i _ => k - (intOf i).toNat)
          case atStart => exact ⟨0, by omega, rfl, ⟨fun i' c' h => by omega⟩, ⟨Kept.refl _ _⟩⟩
          case round =>
            (clear c0 c1 c2); (obtain ⟨i, hi, rfl, hki, hKw⟩ := hrel)
            by_cases hil : i < k
            · (have hi1 : (i : Int) < (k : Int) := by omega); (have hi0 : (0 : Int) ≤ (i : Int) := by omega); (obtain ⟨b, o, x, tv, rfl, ex, a0, a1, a2, a3, hz⟩ := (hq.out.kept (hW.out.trans' hKw.out)).at i (by rw [hlen.out]; exact hil)); (have hxi : Hd ((nds q).getD i default = x) := ⟨nds_at (by rw [hlen.out]; exact hil) ex⟩); (obtain ⟨av, cv, rfl, _, _⟩ := Rd.shape2 hz); (obtain ⟨lv, hlv⟩ : ∃ l, x.tail.length = l := ⟨_, rfl⟩); (rw [hlv] at a1 hz); (obtain ⟨P, hP⟩ : ∃ p, x.par = p := ⟨_, rfl⟩); (obtain ⟨L, hL⟩ : ∃ l, x.leaf = l := ⟨_, rfl⟩); (obtain ⟨B, hB⟩ : ∃ l, x.bd = l := ⟨_, rfl⟩); (rw [hP] at a0); (rw [hB] at a2); (rw [hL] at a3); (have hwt : Hd (∀ c' : Nat, (if ((nds q).getD i default).leaf = true ∨ (c' : Int) ∈ ((nds q).getD i default).tail then (0 : Nat) else 1) = if L = true ∨ (c' : Int) ∈ x.tail then 0 else 1) := ⟨fun c' => by rw [hxi.out, hL]⟩)
              have hwn : Hd (∀ c' : Nat, c' < c → cntH (nds q) (i : Int) (c' : Int) ≠ (if L = true ∨ (c' : Int) ∈ x.tail then 0 else 1) → ¬ CodeCov c A (nds q)) := ⟨fun c' hc' hne hcov => hne (by
                (rw [← hL]); (have hin : (i : Int) < ((nds q).length : Int) := by rw [hndl.out]; exact hi1)
                by_cases hw : x.leaf = true ∨ (c' : Int) ∈ x.tail
                · rw [if_pos hw]
                  exact hcov.no i c' (by omega) hin hc' (by
                    (unfold wantH; rw [if_neg (by omega), Int.toNat_natCast, hxi.out]); (rintro ⟨e1, e2⟩)
                    rcases hw with h | h
                    · rw [e1] at h; cases h
                    · exact e2 h)
                · rw [if_neg hw]
                  exact hcov.yes i c' (by omega) hin hc' (by
                    (unfold wantH; rw [if_neg (by omega), Int.toNat_natCast, hxi.out]); (refine ⟨?_, fun h => hw (.inr h)⟩)
                    cases hlf : x.leaf with
                    | false => rfl
                    | true => exact absurd (.inl hlf) hw))⟩
              (clear ex hB hP hxi hL); (go_upto_region 28 with fail); (obtain ⟨w4, hw4, g4, k4⟩ := alloc_named wr (.cells #[.int .i64 P, .slice av lv cv, .int .i64 B, .bool L] 98)); (rw [← hw4]); (generalize wr.heap.size = G8 at g4); (have hW4 := hid (hKw.out.trans' k4)); (have hz4 := hid (show RdZ w4 (.slice av lv cv) x.tail from by rw [← hlv] at hz ⊢; exact RdZ.kept hz k4)); (replace g4 := hid g4); (clear hw4 k4 hKw hz a0 a1 a2 a3 hlv); (obtain ⟨inow, hinow⟩ : ∃ inow : Nat, inow = i := ⟨_, rfl⟩); (subst hinow); (go_wp2)
              go_loopw [128] (fun i wr => ∃ z : Nat, z ≤ c ∧ i = .int .i64 (z : Int) ∧ Hd (∀ c' : Nat, c' < z → cntH (nds q) (inow : Int) (c' : Int) = if L = true ∨ (c' : Int) ∈ x.tail then 0 else 1) ∧ Hd (Kept no w4 wr)) (fun i _ => c - (intOf i).toNat)
              case atStart => exact ⟨0, by omega, rfl, ⟨fun c' h => by omega⟩, ⟨Kept.refl _ _⟩⟩
              case round =>
                obtain ⟨z, hz, rfl, hzi, hKz⟩ := hrel
                by_cases hzl : z < c
                · (have hz1 : (z : Int) < (c : Int) := by omega); (have hz0 : (0 : Int) ≤ (z : Int) := by omega); (have hz7 : (z : Int) < 7 := by omega); (obtain ⟨d0, d1, d2, d3⟩ := slotN4 (hKz.out.blk g4.out)); (have hcc := hid ((hW4.out.trans' hKz.out).cell (hKv.out inow z hil hzl) id)); (have HC := hid (ccontains_any (.slice av lv cv) x.tail (z : Int) wr (hz4.out.kept hKz.out))); (have hn0 := hid (hwn.out z hzl))
                  have hn1 : Hd (∀ m, cntH (nds q) (inow : Int) (z : Int) = m → m = (if L = true ∨ (z : Int) ∈ x.tail then 0 else 1) → ∀ c' : Nat, c' < z + 1 → cntH (nds q) (inow : Int) (c' : Int) = if L = true ∨ (c' : Int) ∈ x.tail then 0 else 1) := ⟨fun m hm he c' hc' => by
                    by_cases hcz : c' = z
                    · subst hcz; rw [hm, he]
                    · exact hzi.out c' (by omega)⟩
                  (obtain ⟨m, hm⟩ : ∃ m, cntH (nds q) (inow : Int) (z : Int) = m := ⟨_, rfl⟩); (rw [hm] at hcc hn0); (have hn2 := hid (hn1.out m hm)); (clear hn1 hm hzi)
                  cases L with
                  | true =>
                    (rw [if_pos (.inl rfl)] at hn0 hn2); (clear HC); (have hcv := hcc.out)
                    by_cases hm0 : m = 0
                    · (have hr3 := hid (hn2.out hm0)); (have hmi : (m : Int) = 0 := by omega); (rw [hmi] at hcv); (clear hn0 hn2 hm0 hmi hcc); (go_wp2); (go_roundw)
                      case rel => first | exact ⟨z + 1, by omega, by go_num, hr3, hKz⟩ | ((repeat apply Exists.intro); exact ⟨⟨z + 1, by omega, by go_num, hr3, hKz⟩, rfl⟩)
                      case measure => simp [intOf]; omega
                    · (have hn := hid (hn0.out hm0)); (have hmi : ¬ (m : Int) = 0 := by omega); (have hmb : ((m : Int) == 0) = false := by rw [beq_eq_false_iff_ne]; exact hmi); (have hmd : decide ((m : Int) = 0) = false := decide_eq_false hmi); (have kF := hid ((hW.out.trans' hW4.out).trans' hKz.out)); (clear hn0 hn2 hcc); (go_wp2); (go_ret); (exact ⟨retNo hn.out, kF.out⟩)
                  | false =>
                    by_cases hzt : (z : Int) ∈ x.tail
                    · (rw [if_pos (.inr hzt)] at hn0 hn2); (rw [decide_eq_true hzt] at HC); (clear hzt); (go_wp2_with fail); (with_reducible refine HC.out.mono ?_); (rintro e w6 ⟨rfl, q6⟩); (have hcv := q6.kept.cell hcc.out id); (have hKz6 := hid (hKz.out.trans' q6.kept)); (clear HC q6 hcc hKz d0 d1 d2 d3)
                      by_cases hm0 : m = 0
                      · (have hr3 := hid (hn2.out hm0)); (have hmi : (m : Int) = 0 := by omega); (rw [hmi] at hcv); (clear hn0 hn2 hm0 hmi); (go_wp2); (go_roundw)
                        case rel => first | exact ⟨z + 1, by omega, by go_num, hr3, hKz6⟩ | ((repeat apply Exists.intro); exact ⟨⟨z + 1, by omega, by go_num, hr3, hKz6⟩, rfl⟩)
                        case measure => simp [intOf]; omega
                      · (have hn := hid (hn0.out hm0)); (have hmi : ¬ (m : Int) = 0 := by omega); (have hmb : ((m : Int) == 0) = false := by rw [beq_eq_false_iff_ne]; exact hmi); (have hmd : decide ((m : Int) = 0) = false := decide_eq_false hmi); (have kF := hid ((hW.out.trans' hW4.out).trans' hKz6.out)); (clear hn0 hn2); (go_wp2); (go_ret); (exact ⟨retNo hn.out, kF.out⟩)
                    · (rw [if_neg (fun h => h.elim (fun h => by cases h) hzt)] at hn0 hn2); (rw [decide_eq_false hzt] at HC); (clear hzt); (go_wp2_with fail); (with_reducible refine HC.out.mono ?_); (rintro e w6 ⟨rfl, q6⟩); (have hcv := q6.kept.cell hcc.out id); (have hKz6 := hid (hKz.out.trans' q6.kept)); (clear HC q6 hcc hKz d0 d1 d2 d3)
                      by_cases hm0 : m = 1
                      · (have hr3 := hid (hn2.out hm0)); (have hmi : (m : Int) = 1 := by omega); (rw [hmi] at hcv); (clear hn0 hn2 hm0 hmi); (go_wp2); (go_roundw)
                        case rel => first | exact ⟨z + 1, by omega, by go_num, hr3, hKz6⟩ | ((repeat apply Exists.intro); exact ⟨⟨z + 1, by omega, by go_num, hr3, hKz6⟩, rfl⟩)
                        case measure => simp [intOf]; omega
                      · (have hn := hid (hn0.out hm0)); (have hmi : ¬ (m : Int) = 1 := by omega); (have hmb : ((m : Int) == 1) = false := by rw [beq_eq_false_iff_ne]; exact hmi); (have hmd : decide ((m : Int) = 1) = false := decide_eq_false hmi); (have kF := hid ((hW.out.trans' hW4.out).trans' hKz6.out)); (clear hn0 hn2); (go_wp2); (go_ret); (exact ⟨retNo hn.out, kF.out⟩)
                · obtain rfl : z = c := by omega
                  have hki2 : Hd (∀ i' c' : Nat, i' < inow + 1 → c' < z → cntH (nds q) (i' : Int) (c' : Int) = if ((nds q).getD i' default).leaf = true ∨ (c' : Int) ∈ ((nds q).getD i' default).tail then 0 else 1) := ⟨fun i' c' h1 h2 => by
                    by_cases hii : i' = inow
                    · subst hii; rw [hwt.out c']; exact hzi.out c' h2
                    · exact hki.out i' c' (by omega) h2⟩
                  (have hK9 := hid (hW4.out.trans' hKz.out)); (clear hki hzi hwn hwt); (go_wp2); (go_roundw)
                  case rel => first | exact ⟨inow + 1, by omega, by go_num, hki2, hK9⟩ | ((repeat apply Exists.intro); exact ⟨⟨inow + 1, by omega, by go_num, hki2, hK9⟩, rfl⟩)
                  case measure => simp [intOf]; omega
            · obtain rfl : i = k := by omega
              have hcov : Hd (CodeCov c A (nds q)) := ⟨by
                refine ⟨hallok.out, fun i' c' h1 h2 h3 h4 => ?_, fun i' c' h1 h2 h3 h4 => ?_⟩
                · by_cases h0 : i' < 0
                  · (obtain rfl : i' = -1 := by omega); (unfold wantH at h4); (rw [if_pos (by omega)] at h4); (rw [hro.out c' h3, if_neg h4])
                  · (obtain ⟨j, rfl⟩ : ∃ j : Nat, i' = (j : Int) := ⟨i'.toNat, by omega⟩); (unfold wantH at h4); (rw [if_neg h0, Int.toNat_natCast] at h4); (rw [hki.out j c' (by rw [hndl.out] at h2; omega) h3, if_neg (fun h => h.elim (fun h => by rw [h4.1] at h; cases h) h4.2)])
                · by_cases h0 : i' < 0
                  · (obtain rfl : i' = -1 := by omega); (unfold wantH at h4); (rw [if_pos (by omega)] at h4); (rw [hro.out c' h3, if_pos (Classical.byContradiction h4)])
                  · (obtain ⟨j, rfl⟩ : ∃ j : Nat, i' = (j : Int) := ⟨i'.toNat, by omega⟩); (unfold wantH at h4); (rw [if_neg h0, Int.toNat_natCast] at h4)
                    rw [hki.out j c' (by rw [hndl.out] at h2; omega) h3, if_pos (Classical.byContradiction fun h => h4 ⟨by
                      cases hlf : ((nds q).getD j default).leaf with
                      | false => rfl
                      | true => exact absurd (.inl hlf) h, fun h' => h (.inr h')⟩)]⟩
              (have kF := hid (hW.out.trans' hKw.out)); (clear hki hro hallok); (go_wp2); (go_ret); (exact ⟨retYes hcov.out, kF.out⟩)
end Go.Proofs.YtaobaaaihgahfaaGreat
