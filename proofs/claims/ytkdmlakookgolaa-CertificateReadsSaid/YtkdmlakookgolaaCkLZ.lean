/- Certificates in plain Lean: covering trees, what is proved. -/
import Derived.Test.YtkdmlakookgolaaNodeZ
import Derived.Test.YtkdmlakookgolaaSrchZ
namespace Go.Mg
open Go.Pil
def hdN (x : Nd) : Int := x.tail.headD 0
def upT (l : List Nd) (x : Nd) : List Int := if 0 ≤ x.par then (l.getD x.par.toNat default).tail else []
/-- The conditions of node i by itself. -/
structure OkC (n : Nat) (l : List Nd) (i : Nat) (x : Nd) : Prop where
  tail : isTail (n : Int) x.tail = true
  full : x.tail.length = n → x.leaf = true
  lo : -1 ≤ x.par
  hi : x.par < (i : Int)
  leafp : 0 ≤ x.par → (l.getD x.par.toNat default).leaf = false
  cons : x.tail.drop 1 = upT l x
def cntP (l : List Nd) (i : Int) : Nat := l.countP fun x => x.par == i
def cntH (l : List Nd) (i c : Int) : Nat := l.countP fun x => x.par == i && hdN x == c
def wantP (n : Nat) (l : List Nd) (i : Int) : Nat := if i < 0 then n - 1 else n - (l.getD i.toNat default).tail.length
def RefCov (n : Nat) (win : Int) (l : List Nd) : Prop :=
  (∀ i, i < l.length → OkC n l i (l.getD i default) ∧ ((l.getD i default).par < 0 → hdN (l.getD i default) ≠ win) ∧ ∀ k, k < i → ¬ ((l.getD k default).par = (l.getD i default).par ∧ (l.getD k default).tail = (l.getD i default).tail)) ∧
  ∀ i : Int, -1 ≤ i → i < l.length → (0 ≤ i → (l.getD i.toNat default).leaf = false) → cntP l i = wantP n l i
def wantH (win : Int) (l : List Nd) (i c : Int) : Prop := if i < 0 then c ≠ win else (l.getD i.toNat default).leaf = false ∧ c ∉ (l.getD i.toNat default).tail
structure CodeCov (n : Nat) (win : Int) (l : List Nd) : Prop where
  ok : ∀ i, i < l.length → OkC n l i (l.getD i default)
  yes : ∀ (i : Int) (c : Nat), -1 ≤ i → i < l.length → c < n → wantH win l i c → cntH l i c = 1
  no : ∀ (i : Int) (c : Nat), -1 ≤ i → i < l.length → c < n → ¬ wantH win l i c → cntH l i c = 0
/-- The heads of the children of i. -/
def headsOf (l : List Nd) (i : Int) : List Int := (l.filter fun x => x.par == i).map hdN
theorem heads_len (l : List Nd) (i : Int) : (headsOf l i).length = cntP l i := by unfold headsOf cntP; rw [List.length_map, List.countP_eq_length_filter]
theorem heads_count (l : List Nd) (i c : Int) : (headsOf l i).count c = cntH l i c := by
  (unfold headsOf cntH List.count); (rw [List.countP_map, List.countP_filter]); (refine List.countP_congr fun x _ => ?_); (simp only [Function.comp, Bool.and_eq_true]); (exact And.comm)
theorem isTail_cons {n : Int} {t : List Int} (h : isTail n t = true) : t = t.headD 0 :: t.drop 1 := by
  have := (isTail_iff.1 h).1
  cases t with
  | nil => exact absurd rfl this
  | cons a t => rfl
section
variable {n : Nat} {win : Int} {l : List Nd}
theorem getD_of_mem {x : Nd} (h : x ∈ l) : ∃ k, k < l.length ∧ l.getD k default = x := by
  (obtain ⟨k, hk, rfl⟩ := List.getElem_of_mem h); (exact ⟨k, hk, by rw [List.getD_eq_getElem?_getD, List.getElem?_eq_getElem hk]; rfl⟩)
theorem ok_tail {i : Nat} {x : Nd} (h : OkC n l i x) : x.tail = hdN x :: upT l x := by
  (have := isTail_cons h.tail); (rw [h.cons] at this); (exact this)
theorem ok_hd {i : Nat} {x : Nd} (h : OkC n l i x) : (0 ≤ hdN x ∧ hdN x < (n : Int)) ∧ hdN x ∉ upT l x := by
  (have ht := isTail_iff.1 h.tail); (rw [ok_tail h] at ht); (exact ⟨ht.2.2 _ List.mem_cons_self, (List.nodup_cons.1 ht.2.1).1⟩)
/-- Those whom i's children begin with, if the tree covers. -/
def wantL (n : Nat) (win : Int) (l : List Nd) (i : Int) : List Int := (allC n).filter fun c => decide (c ∉ (if i < 0 then [win] else (l.getD i.toNat default).tail))
theorem wantL_len (hw : 0 ≤ win ∧ win < (n : Int)) (hok : ∀ i, i < l.length → OkC n l i (l.getD i default)) {i : Int} (hi : i < l.length) : (wantL n win l i).length = wantP n l i := by
  unfold wantL wantP
  by_cases h0 : i < 0
  · (rw [if_pos h0, if_pos h0]); (have := out_len n [win] (by simp) (fun x hx => by rw [List.mem_singleton.1 hx]; exact hw)); (simp only [List.length_singleton] at this)
    omega
  · (rw [if_neg h0, if_neg h0]); (have ht := isTail_iff.1 (hok i.toNat (by omega)).tail); (have := out_len n _ ht.2.1 ht.2.2)
    omega
theorem heads_sub (hok : ∀ i, i < l.length → OkC n l i (l.getD i default)) {i : Int} (hr : i < 0 → ∀ x ∈ l, x.par = i → hdN x ≠ win) : ∀ c ∈ headsOf l i, c ∈ wantL n win l i := fun c hc => by
  (unfold headsOf at hc); (obtain ⟨x, hx, rfl⟩ := List.mem_map.1 hc); (obtain ⟨hxl, hxp⟩ := List.mem_filter.1 hx); (have hxp : x.par = i := by simpa using hxp); (obtain ⟨k, hk, he⟩ := getD_of_mem hxl); (have ho := hok k hk); (rw [he] at ho); (have hh := ok_hd ho); (unfold wantL); (refine List.mem_filter.2 ⟨mem_allC.2 hh.1, decide_eq_true ?_⟩)
  by_cases h0 : i < 0
  · rw [if_pos h0, List.mem_singleton]; exact hr h0 x hxl hxp
  · (rw [if_neg h0]); (have := hh.2); (unfold upT at this); (rw [if_pos (by omega), hxp] at this); (exact this)
theorem perm_of_len : ∀ {a b : List Int}, a.Nodup → (∀ x ∈ a, x ∈ b) → b.length ≤ a.length → a.Perm b
  | [], b, _, _, h => by
    (have : b = [] := List.eq_nil_of_length_eq_zero (by simpa using h)); (rw [this])
  | x :: a, b, hn, hs, h => by
    (obtain ⟨h1, h2⟩ := List.nodup_cons.1 hn); (have hxb := hs x List.mem_cons_self); (have hl := List.length_erase_of_mem hxb); (have h0 := List.length_pos_of_mem hxb); (have ih := perm_of_len (b := b.erase x) h2 (fun y hy => (List.mem_erase_of_ne fun e => h1 (by rw [← e]; exact hy)).2 (hs y (List.mem_cons_of_mem _ hy))) (by rw [hl]; simp at h; omega)); (exact (List.Perm.cons x ih).trans (List.perm_cons_erase hxb).symm)
theorem nodup_allC (n : Nat) : (allC n).Nodup := by
  (unfold allC); (exact List.pairwise_map.2 ((List.nodup_range (n := n)).imp fun h e => h (Int.ofNat.inj e)))
theorem one_of_mem {c : Int} {a : List Int} (hn : a.Nodup) (hm : c ∈ a) : a.count c = 1 := by
  (have h1 := List.nodup_iff_count.1 hn c); (have h2 := List.count_pos_iff.2 hm)
  omega
theorem same_tail {i k : Nat} {x y : Nd} (hx : OkC n l i x) (hy : OkC n l k y) (hp : x.par = y.par) (hh : hdN x = hdN y) : x.tail = y.tail := by
  (rw [ok_tail hx, ok_tail hy, hh]); (unfold upT); (rw [hp])
theorem cov_iff (hw : 0 ≤ win ∧ win < (n : Int)) : RefCov n win l ↔ CodeCov n win l := by
  constructor
  · (rintro ⟨h1, h2⟩); (have hok : ∀ i, i < l.length → OkC n l i (l.getD i default) := fun i hi => (h1 i hi).1)
    have hr : ∀ i : Int, i < 0 → ∀ x ∈ l, x.par = i → hdN x ≠ win := fun i hi x hx hp => by
      (obtain ⟨k, hk, rfl⟩ := getD_of_mem hx); (exact (h1 k hk).2.1 (by omega))
    have hnd : ∀ i : Int, (headsOf l i).Nodup := fun i => by
      (unfold headsOf List.Nodup); (rw [List.pairwise_map, List.pairwise_filter, List.pairwise_iff_getElem]); (intro a b ha hb hab pa pb e); (have ga : l.getD a default = l[a] := by rw [List.getD_eq_getElem?_getD, List.getElem?_eq_getElem ha]; rfl); (have gb : l.getD b default = l[b] := by rw [List.getD_eq_getElem?_getD, List.getElem?_eq_getElem hb]; rfl); (have oa := hok a ha); (have ob := hok b hb); (rw [ga] at oa); (rw [gb] at ob); (have pa : l[a].par = i := by simpa using pa); (have pb : l[b].par = i := by simpa using pb); (have := (h1 b hb).2.2 a hab); (rw [ga, gb] at this); (exact this ⟨pa.trans pb.symm, same_tail oa ob (pa.trans pb.symm) e⟩)
    have hp : ∀ i : Int, -1 ≤ i → i < l.length → (0 ≤ i → (l.getD i.toNat default).leaf = false) → (headsOf l i).Perm (wantL n win l i) := fun i hi hil hlf =>
      perm_of_len (hnd i) (heads_sub hok (hr i)) (by rw [wantL_len hw hok hil, heads_len, h2 i hi hil hlf]; exact Nat.le_refl _)
    have hwl : ∀ (i : Int) (c : Nat), c < n → ((c : Int) ∈ wantL n win l i ↔ (c : Int) ∉ (if i < 0 then [win] else (l.getD i.toNat default).tail)) := fun i c hc => by
      (unfold wantL); (rw [List.mem_filter, decide_eq_true_iff]); (exact ⟨fun h => h.2, fun h => ⟨mem_allC.2 ⟨by omega, by omega⟩, h⟩⟩)
    refine ⟨hok, fun i c hi hil hc hwt => ?_, fun i c hi hil hc hwt => ?_⟩
    · have hlf : 0 ≤ i → (l.getD i.toNat default).leaf = false := fun h0 => by
        (unfold wantH at hwt); (rw [if_neg (by omega)] at hwt); (exact hwt.1)
      rw [← heads_count, (hp i hi hil hlf).count_eq]
      have hm : (c : Int) ∈ wantL n win l i := (hwl i c hc).2 (by
        unfold wantH at hwt
        by_cases h0 : i < 0
        · rw [if_pos h0] at hwt ⊢; simpa using hwt
        · rw [if_neg h0] at hwt ⊢; exact hwt.2)
      (have hn : (wantL n win l i).Nodup := (nodup_allC n).sublist List.filter_sublist); (exact one_of_mem hn hm)
    · rw [← heads_count]
      by_cases hlf : 0 ≤ i → (l.getD i.toNat default).leaf = false
      · (rw [(hp i hi hil hlf).count_eq]); (refine List.count_eq_zero.2 fun hm => hwt ?_); (have := (hwl i c hc).1 hm); (unfold wantH)
        by_cases h0 : i < 0
        · rw [if_pos h0] at this ⊢; simpa using this
        · rw [if_neg h0] at this ⊢; exact ⟨hlf (by omega), this⟩
      · have h0 : 0 ≤ i := Classical.byContradiction fun h => hlf fun h' => absurd h' h
        have hl2 : (l.getD i.toNat default).leaf = true := by
          cases hb : (l.getD i.toNat default).leaf with
          | true => rfl
          | false => exact absurd (fun _ => hb) hlf
        (refine List.count_eq_zero.2 fun hm => ?_); (unfold headsOf at hm); (obtain ⟨x, hx, _⟩ := List.mem_map.1 hm); (obtain ⟨hxl, hxp⟩ := List.mem_filter.1 hx); (have hxp : x.par = i := by simpa using hxp); (obtain ⟨k, hk, rfl⟩ := getD_of_mem hxl); (have := (hok k hk).leafp (by omega)); (rw [hxp, hl2] at this)
        cases this
  · rintro ⟨hok, hy, hno⟩
    have hone : ∀ i : Int, -1 ≤ i → i < l.length → ∀ c, (headsOf l i).count c ≤ 1 := fun i hi hil c => by
      by_cases hc : 0 ≤ c ∧ c < (n : Int)
      · (obtain ⟨m, rfl⟩ : ∃ m : Nat, c = (m : Int) := ⟨c.toNat, by omega⟩); (rw [heads_count])
        by_cases hwt : wantH win l i m
        · rw [hy i m hi hil (by omega) hwt]; exact Nat.le_refl _
        · rw [hno i m hi hil (by omega) hwt]; exact Nat.zero_le _
      · (refine Nat.le_trans (Nat.le_of_eq (List.count_eq_zero.2 fun hm => hc ?_)) (Nat.zero_le _)); (unfold headsOf at hm); (obtain ⟨x, hx, rfl⟩ := List.mem_map.1 hm); (obtain ⟨hxl, _⟩ := List.mem_filter.1 hx); (obtain ⟨k, hk, rfl⟩ := getD_of_mem hxl); (exact (ok_hd (hok k hk)).1)
    have hrt : ∀ x ∈ l, x.par < 0 → hdN x ≠ win := fun x hx hp e => by
      (obtain ⟨k, hk, rfl⟩ := getD_of_mem hx); (have ho := hok k hk); (have hpe : (l.getD k default).par = -1 := by have := ho.lo; omega); (obtain ⟨m, hm⟩ : ∃ m : Nat, win = (m : Int) := ⟨win.toNat, by omega⟩); (have := hno (-1) m (by omega) (by omega) (by omega) (by unfold wantH; rw [if_pos (by omega), hm]; simp)); (rw [← heads_count] at this); (refine List.count_eq_zero.1 this ?_); (unfold headsOf); (exact List.mem_map.2 ⟨_, List.mem_filter.2 ⟨hx, by simpa using hpe⟩, by rw [e, hm]⟩)
    refine ⟨fun i hi => ⟨hok i hi, fun hp => hrt _ (by rw [List.getD_eq_getElem?_getD, List.getElem?_eq_getElem hi]; exact List.getElem_mem hi) hp, fun k hk ⟨e1, e2⟩ => ?_⟩, fun i hi hil hlf => ?_⟩
    · (have hnd : (headsOf l (l.getD i default).par).Nodup := List.nodup_iff_count.2 fun c => hone _ (hok i hi).lo (by have := (hok i hi).hi; omega) c); (unfold headsOf List.Nodup at hnd); (rw [List.pairwise_map, List.pairwise_filter, List.pairwise_iff_getElem] at hnd); (have ga : l.getD k default = l[k] := by rw [List.getD_eq_getElem?_getD, List.getElem?_eq_getElem (by omega)]; rfl); (have gb : l.getD i default = l[i] := by rw [List.getD_eq_getElem?_getD, List.getElem?_eq_getElem hi]; rfl); (rw [ga, gb] at e1 e2); (rw [gb] at hnd); (exact hnd k i (by omega) hi hk (by simpa using e1) (by simp) (by unfold hdN; rw [e2]))
    · (rw [← heads_len, ← wantL_len hw hok hil]); (refine List.Perm.length_eq (List.perm_iff_count.2 fun c => ?_)); (have hn : (wantL n win l i).Nodup := (nodup_allC n).sublist List.filter_sublist)
      have hwl : ∀ (c : Nat), c < n → ((c : Int) ∈ wantL n win l i ↔ wantH win l i c) := fun c hc => by
        (unfold wantL wantH); (rw [List.mem_filter, decide_eq_true_iff])
        by_cases h0 : i < 0
        · (rw [if_pos h0, if_pos h0, List.mem_singleton]); (exact ⟨fun h => h.2, fun h => ⟨mem_allC.2 ⟨by omega, by omega⟩, h⟩⟩)
        · (rw [if_neg h0, if_neg h0]); (exact ⟨fun h => ⟨hlf (by omega), h.2⟩, fun h => ⟨mem_allC.2 ⟨by omega, by omega⟩, h.2⟩⟩)
      by_cases hm : c ∈ wantL n win l i
      · (have hc := mem_allC.1 (List.mem_filter.1 hm).1); (obtain ⟨m, rfl⟩ : ∃ m : Nat, c = (m : Int) := ⟨c.toNat, by omega⟩); (rw [one_of_mem hn hm, heads_count, hy i m hi hil (by omega) ((hwl m (by omega)).1 hm)])
      · (rw [List.count_eq_zero.2 hm]); (refine List.count_eq_zero.2 fun hm2 => hm ?_); (exact heads_sub hok (fun h0 x hx hp => hrt x hx (by omega)) c hm2)
/-! What is proved for each node. -/
def bestV (n : Nat) (gs : List Grp) (B : List Int) (x : Nd) : Int := if 0 ≤ x.par then max (bd n gs x.tail) (B.getD x.par.toNat 0) else bd n gs x.tail
def bestK (n : Nat) (gs : List Grp) (l : List Nd) : Nat → List Int
  | 0 => []
  | k + 1 => bestK n gs l k ++ [bestV n gs (bestK n gs l k) (l.getD k default)]
theorem bestK_len (n : Nat) (gs : List Grp) (l : List Nd) : ∀ k, (bestK n gs l k).length = k
  | 0 => rfl
  | k + 1 => by simp [bestK, bestK_len n gs l k]
theorem bestK_at (n : Nat) (gs : List Grp) (l : List Nd) {i k : Nat} (h : i < k) : (bestK n gs l k).getD i 0 = bestV n gs (bestK n gs l i) (l.getD i default) := by
  induction k with
  | zero => omega
  | succ k ih =>
    by_cases hik : i = k
    · (subst hik); (rw [bestK, List.getD_eq_getElem?_getD, List.getElem?_append_right (by rw [bestK_len]; exact Nat.le_refl _), bestK_len])
      simp
    · (rw [bestK, List.getD_eq_getElem?_getD, List.getElem?_append_left (by rw [bestK_len]; omega), ← List.getD_eq_getElem?_getD]); (exact ih (by omega))
theorem bestV_rng {m : Int} {gs : List Grp} (hp : isPile m gs = true) {B : List Int} (hB : ∀ b ∈ B, 0 ≤ b ∧ b ≤ 50000) (x : Nd) : 0 ≤ bestV n gs B x ∧ bestV n gs B x ≤ 50000 := by
  (have h1 := bd_nonneg n gs x.tail); (have h2 := bd_le (n := n) hp x.tail); (unfold bestV)
  split
  · by_cases hl : x.par.toNat < B.length
    · have := hB (B.getD x.par.toNat 0) (by rw [List.getD_eq_getElem?_getD, List.getElem?_eq_getElem hl]; exact List.getElem_mem hl)
      omega
    · (rw [List.getD_eq_getElem?_getD, List.getElem?_eq_none (by omega)]); (simp only [Option.getD_none])
      omega
  · exact ⟨h1, h2⟩
theorem bestK_rng {m : Int} {gs : List Grp} (hp : isPile m gs = true) (l : List Nd) : ∀ k, ∀ b ∈ bestK n gs l k, 0 ≤ b ∧ b ≤ 50000
  | 0 => fun b hb => by cases hb
  | k + 1 => fun b hb => by
    rcases List.mem_append.1 hb with hb | hb
    · exact bestK_rng hp l k b hb
    · rw [List.mem_singleton.1 hb]; exact bestV_rng hp (bestK_rng hp l k) _
def BdOk (n : Nat) (gs : List Grp) (mar : Int) (l : List Nd) (i : Nat) : Prop := (l.getD i default).bd ≤ bestV n gs (bestK n gs l i) (l.getD i default) ∧ ((l.getD i default).leaf = true → mar ≤ (l.getD i default).bd)
open Classical in
/-- What Check returns. -/
noncomputable def chkE (n : Int) (gs : List Grp) (win mar : Int) (l : List Nd) : Int :=
  if ¬ ((2 ≤ n ∧ n ≤ 7) ∧ (0 ≤ win ∧ win < n) ∧ 0 ≤ mar) then 4 else if isPile n gs = false then 8 else if 4000 < l.length then 7
  else if ¬ CodeCov n.toNat win l then 14 else if ¬ ∀ i, i < l.length → BdOk n.toNat gs mar l i then 15 else 0
end
end Go.Mg
