/- Package derive: own (printed by gen_own.py). -/
import Derived.Test.YtaobaaaihgahfaaGreatDvAQ
namespace Go.Nr
open Go.Pil Go.Mg
theorem flags_srt {n : Nat} {T : List Int} (hT : Tl n T) : flags n (srt n T) = flags n T := by
  (unfold flags); (refine List.map_congr_left fun i _ => ?_); (exact decide_eq_decide.2 (mem_srt hT.rng))
theorem mg_next {n : Nat} {gs : List Grp} {T : List Int} (hT : Tl n T) (t b : Int) : mg n gs ⟨2, t, b, srt n T, 0⟩ = (firstV gs (flags n T)).1.getD t.toNat 0 - (firstV gs (flags n T)).1.getD b.toNat 0 := by
  (unfold mg); (rw [if_neg (by show ¬ (2 : Int) = 1; decide)]); (unfold vt)
  dsimp only
  rw [flags_srt hT]
/-- The first options of a tail: every a that is not in it beats its head. -/
def optA (T : List Int) (t : Int) (c : Nat) : List As := ((allC c).filter fun a => decide (a ∉ T)).map fun a => ⟨1, a, t, [], 0⟩
def optB (n : Nat) (T : List Int) (t : Int) (r : List Int) (k : Nat) : List As := optA T t n ++ (r.take k).map fun b => ⟨2, t, b, srt n T, 0⟩
theorem optA_succ (T : List Int) (t : Int) (c : Nat) : optA T t (c + 1) = optA T t c ++ if (c : Int) ∈ T then [] else [⟨1, (c : Int), t, [], 0⟩] := by
  (unfold optA); (rw [Go.Mg.allC_succ, List.filter_append, List.map_append])
  congr 1
  by_cases h : (c : Int) ∈ T
  · rw [if_pos h, List.filter_cons_of_neg (by simp [h])]; rfl
  · rw [if_neg h, List.filter_cons_of_pos (by simp [h])]; rfl
theorem optB_zero (n : Nat) (T : List Int) (t : Int) (r : List Int) : optB n T t r 0 = optA T t n := by unfold optB; simp
theorem optB_succ (n : Nat) (T : List Int) (t : Int) (r : List Int) (k : Nat) (hk : k < r.length) : optB n T t r (k + 1) = optB n T t r k ++ [⟨2, t, r.getD k 0, srt n T, 0⟩] := by
  (unfold optB); (rw [List.take_succ_eq_append_getElem hk, List.map_append, ← List.append_assoc, List.getD_eq_getElem?_getD, List.getElem?_eq_getElem hk]; rfl)
theorem optB_all (n : Nat) (t : Int) (r : List Int) : optB n (t :: r) t r r.length = opts n (t :: r) := by
  (unfold optB optA opts); (rw [List.take_length])
theorem opts_ne {n : Nat} (hn : 2 ≤ n) {T : List Int} (hT : Tl n T) : opts n T ≠ [] := by
  cases T with
  | nil => exact absurd rfl hT.ne
  | cons t r =>
    cases r with
    | cons b r => unfold opts; simp
    | nil =>
      refine List.ne_nil_of_mem (a := ⟨1, if t = 0 then 1 else 0, t, [], 0⟩) (mem_opts.2 (.inl ⟨if t = 0 then 1 else 0, ?_, ?_, rfl⟩))
      · split <;> omega
      · rw [List.mem_singleton]; split <;> omega
theorem sort_srt {n : Nat} {T : List Int} (hT : Tl n T) : (T.mergeSort fun a b => decide (a ≤ b)) = srt n T := by
  (have hp1 := List.mergeSort_perm T (fun a b => decide (a ≤ b))); (have hp2 : (T.mergeSort fun a b => decide (a ≤ b)).Perm (srt n T) := hp1.trans (srt_perm hT)); (refine hp2.eq_of_pairwise (le := fun a b => decide (a ≤ b) = true) ?_ ?_ ?_)
  · (intro a b _ _ h3 h4); (have h3 := of_decide_eq_true h3); (have h4 := of_decide_eq_true h4)
    omega
  · refine List.pairwise_mergeSort ?_ ?_ _
    · (intro a b c h3 h4); (have h3 := of_decide_eq_true h3); (have h4 := of_decide_eq_true h4); (exact decide_eq_true (by omega))
    · intro a b
      by_cases h3 : a ≤ b
      · rw [decide_eq_true h3]; rfl
      · rw [decide_eq_false h3, decide_eq_true (show b ≤ a by omega)]; rfl
  · have hp : (srt n T).Pairwise (· < ·) := by
      (unfold srt allC); (refine List.Pairwise.filter _ ?_); (rw [List.pairwise_map]); (exact List.pairwise_lt_range.imp fun h => Int.ofNat_lt.2 h)
    exact hp.imp fun h => decide_eq_true (by omega)
theorem votes_bnd {n : Nat} {gs : List Grp} (hn : n ≤ 7) (hp : isPile (n : Int) gs = true) (fl : List Bool) (c : Nat) (hc : c < fl.length) : 0 ≤ (firstV gs fl).1.getD c 0 ∧ (firstV gs fl).1.getD c 0 ≤ 100000 := by
  (rw [first_at gs fl c hc]); (have := sum_bnd (isPile_mono (by omega) hp) (fun p => hd fl p == some (c : Int)) gs.length)
  rwa [List.take_length] at this
end Go.Nr
namespace Go.Proofs.YtaobaaaihgahfaaGreat
open Go.RowKit Go.Mk Go.Pil Go.Mg Go.Nr Go.Sort
theorem OpY.storeRowA {P : Program} {o : Oper} {a : Act} {w : World} {R : Value → World → Prop} (ty : TypeId) (x y : Operand) (ho : o.op = .store ty x y)
    (g : Nat) (cells : Array Value) (hx : a.eval x = .pointer (some ⟨g, 0, none⟩)) (hy : a.eval y = .agg cells)
    (t : TypeId) (old : Array Value) (hg : w.heap[g]? = some (.cells old t (0, 0))) (hi : (P.info? ty).map (·.size) = some cells.size)
    (hold : old.size = cells.size) (h1 : cells.all (·.oneCell') = true) (h : R undef (w.setRow g cells)) : OpY P o a w R := by
  (unfold OpY execOp); (simp only [ho, hx, hy, Instr.storeAt, Instr.sureAddr, Sem.run_bind, Sem.run_pure, Result.andThen_ok, run_storeVar_row w g t ty old cells hg hi hold h1]); (exact h)
theorem rng_rowA {w : World} {g : Nat} {L : List Value} {t : TypeId} {fr : Nat × Nat} (h : w.heap[g]? = some (.cells L.toArray t fr)) : w.rangeAt g 0 L := fun j u hu => by
  rw [Nat.zero_add, cell_of_row w g j _ _ _ h]; simpa using hu
def POw {Sl : Nat → Nat → Prop} (n : Nat) (gs : List Grp) (gF gM gB : Nat) (Q : List As) : Pr Sl := soft (fun _ w => OwI n gs gF gM gB Q w) fun _ _ _ h k => h.kept k
def PBk {Sl : Nat → Nat → Prop} (g : Nat) (o : Obj) (s : Nat → Bool) (hs : ∀ j, s j = true → ¬ Sl j g) : Pr Sl := ⟨fun _ _ w => w.heap[g]? = some o, none, s, fun _ _ _ _ h k => (k.block g (lt_of_heap h) id).trans h, fun j hj _ _ _ _ h k => (k.block g (lt_of_heap h) (hs j hj)).trans h, fun _ _ _ _ _ h => h⟩
theorem results_own {fn : Func} {p q : Tmp} (h : fn.results = #[.cell p 59, .cell q 3]) (tmps : Array Value) (w : World) (g e : Nat) (C : Array Value) (hC : C.size = 5) (m : Int)
    (hp : tmps.getD p undef = .pointer (some ⟨g, 0, none⟩)) (hq : tmps.getD q undef = .pointer (some ⟨e, 0, none⟩)) (hg : w.heap[g]? = some (.cells C 59 (0, 0))) (he : w.heap[e]? = some (.cells #[.int .i64 m] 3 (0, 0))) :
    (results fn tmps).run Tryz.prog w = .ok (.tuple #[.agg C, .int .i64 m]) w := by
  (have hp' : tmps[p]?.getD undef = .pointer (some ⟨g, 0, none⟩) := by simpa using hp); (have hq' : tmps[q]?.getD undef = .pointer (some ⟨e, 0, none⟩) := by simpa using hq); (have hi : (Tryz.prog.info? 59).map (·.size) = some C.size := by rw [hC]; kernel_rfl); (have hl := run_loadVar_row w g 59 59 C (0, 0) _ hg Tryz.underlying59 rfl hi)
  have hl2 : (loadVar 3 ⟨e, 0, none⟩).run Tryz.prog w = .ok (.int .i64 m) w := by
    have h1 : w.cell? ⟨e, 0, none⟩ = some (.int .i64 m) := cell_at he rfl
    have hagg : (isAgg 3).run Tryz.prog w = .ok false w := by
      (unfold isAgg); (rw [Sem.run_bind, run_underlying Tryz.underlying3 w])
      rfl
    (unfold loadVar); (rw [Sem.run_bind, hagg])
    show (load ⟨e, 0, none⟩).run Tryz.prog w = _
    simp [h1]
  simp only [results, h, List.mapM_toArray, List.mapM_cons, List.mapM_nil]
  simp [hp', hq', asAddr, hl, hl2]
set_option maxRecDepth 100000 in
set_option maxHeartbeats 4000000 in
theorem own_any (n : Nat) (gs : List Grp) (gS bV bM N : Nat) (vT : Value) (T : List Int) (w : World) (h2 : 2 ≤ n) (hn : n ≤ 7) (hp : isPile (n : Int) gs = true) (hT : Tl n T) (ht : RdZ w vT T) (hD : DS no n gs gS bV bM N w) (hN : N ≤ 1000000) :
    Calls Tryz.prog 128 #[.pointer (some ⟨gS, 0, none⟩), vT] w fun e w' => ∃ x v, e = .returned (.tuple #[asV x v, .int .i64 (ownM n gs T)]) ∧ x ∈ opts n T ∧ mg n gs x = ownM n gs T ∧ OZ w' v x.am ∧ DS no n gs gS bV bM (N + 1) w' ∧ Kept (bm bV bM) w w' := by
  obtain ⟨t, r, hTe⟩ : ∃ t r, T = t :: r := by
    cases T with
    | nil => exact absurd rfl hT.ne
    | cons t r => exact ⟨t, r, rfl⟩
  (obtain ⟨aT, cT, rfl, hcT, hcm⟩ := Rd.shape2 ht); (have hl7 := len_le hT); (obtain ⟨bT, oT, haT, ht0⟩ := RdZ.at ht 0 (by rw [hTe]; simp)); (subst haT); (have ht0 : w.cell? ⟨bT, oT, none⟩ = some (.int .i64 t) := by rw [hTe] at ht0; exact ht0); (have htr := hT.rng t (by rw [hTe]; exact List.mem_cons_self)); (obtain ⟨tn, rfl⟩ : ∃ tn : Nat, t = (tn : Int) := ⟨t.toNat, by omega⟩); (have htn : tn < n := by omega); (obtain ⟨lR, hlR⟩ : ∃ m, r.length = m := ⟨_, rfl⟩); (have hlT : T.length = lR + 1 := by rw [hTe, List.length_cons, hlR]); (have hdr := RdZ.drop ht 1 (by omega)); (have hsl := fun W => post_sliceZ (some ⟨bT, oT, none⟩) (lR + 1) cT 1 (.inr ⟨_, _, rfl⟩) (by omega) (by omega) W); (obtain ⟨aR, haR⟩ : ∃ a, (if cT = 1 then (some (⟨bT, oT, none⟩ : Addr)) else (some (⟨bT, oT, none⟩ : Addr)).map (·.add 1)) = a := ⟨_, rfl⟩); (rw [haR] at hdr hsl); (rw [hlT] at hdr ht ⊢); (rw [Nat.add_sub_cancel] at hdr hsl); (have hsl : ∀ W, (Instr.slice 26 (.slice (some ⟨bT, oT, none⟩) (lR + 1) cT) (some (.int .i64 1)) none none).run Tryz.prog W = .ok (.slice aR lR (cT - 1)) W := hsl); (have hdr : RdZ w (.slice aR lR (cT - 1)) r := by rw [hTe] at hdr; exact hdr); (obtain ⟨vg, vb, hb, hgx, hbt⟩ := hD.blk); (have f0 := hid (show w.cell? ⟨gS, 0, none⟩ = some (.int .i64 (n : Int)) from cell_at hb rfl)); (have f2 := hid (show w.cell? ⟨gS, 2, none⟩ = some vb from cell_at hb rfl))
  -- the variables
  (obtain ⟨w1, hw1, g1, k1⟩ := alloc_named w (.cells #[.int .i64 0, .int .i64 0, .int .i64 0, .slice none 0 0, .int .i64 0] 59)); (have e1 : w1.heap.size = w.heap.size + 1 := by rw [hw1]; simp); (obtain ⟨w2, hw2, g2, k2⟩ := alloc_named w1 (.cells #[.int .i64 0] 3)); (have e2 : w2.heap.size = w1.heap.size + 1 := by rw [hw2]; simp); (obtain ⟨w3, hw3, g3, k3⟩ := alloc_named w2 (.cells #[.bool false] 4)); (have e3 : w3.heap.size = w2.heap.size + 1 := by rw [hw3]; simp); (obtain ⟨gB, hgB⟩ : ∃ g, w.heap.size = g := ⟨_, rfl⟩); (have hq : w1.heap.size = gB + 1 ∧ w2.heap.size = gB + 2 ∧ w3.heap.size = gB + 3 := by omega); (rw [hgB] at g1); (rw [hq.1] at g2); (rw [hq.2.1] at g3); (obtain ⟨gM, hgM⟩ : ∃ g, gB + 1 = g := ⟨_, rfl⟩); (obtain ⟨gF, hgF⟩ : ∃ g, gB + 2 = g := ⟨_, rfl⟩); (rw [hgM] at g2); (rw [hgF] at g3); (have hbk : Hd (∀ j, owB gF gM gB j → w.heap.size ≤ j ∧ j < gB + 3) := ⟨fun j hj => by rcases hj with h | h | h <;> omega⟩); (have ne1 : gF ≠ gM := by omega); (have ne2 : gF ≠ gB := by omega); (have ne3 : gM ≠ gB := by omega); (have k4 : Kept no w w3 := (k1.trans' k2).trans' k3); (have m4 : Ow3 gF gM gB false 0 ⟨0, 0, 0, [], 0⟩ (.slice none 0 0) w3 := ⟨g3, k3.blk g2, k3.blk (k2.blk g1), OZ.nil _, fun j hj => by cases hj⟩); (have hI4 : Hd (OwI n gs gF gM gB (optA T (tn : Int) 0) w3) := ⟨⟨false, 0, _, _, m4, .inl ⟨rfl, rfl⟩⟩⟩); (have e4 : w3.heap.size = gB + 3 := hq.2.2); (have fr3 := row_free g3 0); (have c3 : w3.cell? ⟨gF, 0, none⟩ = some (.bool false) := cell_at g3 rfl)
  -- what is called
  (have hTk := hid (fun (P : List As) (x : As) (v : Value) (W : World) (hI : OwI n gs gF gM gB P W) (hr : OZ W v x.am) (hv : ∀ j, v.ownBlock = some j → ¬ owB gF gM gB j) => take_any n gs gF gM gB ne1 ne2 ne3 P x v W hI hr hv)); (unfold asV at hTk); (have hCt := hid (fun (c : Int) (W : World) (k : Kept no w W) => containsN_any (.slice (some ⟨bT, oT, none⟩) (lR + 1) cT) T c W (RdZ.kept ht k))); (have hAm := hid (fun (W : World) (k : Kept no w W) (k2 : w3.heap.size ≤ W.heap.size) => among_any (owB gF gM gB) n gs gS bV bM N (.slice (some ⟨bT, oT, none⟩) (lR + 1) cT) T W hn hp hT (RdZ.kept ht k) ((hD.apart (by omega) (fun j hj => (hbk.out j hj).1)).kept k) hN fun j hj => by have := (hbk.out j hj).2; omega)); (have hVs := hid (fun (W : World) (k : Kept (bm bV bM) w W) => valuesS_any (rdZ_km hD.mV.isMp hD.mM.isMp k ht) hT.ne)); (have hSo := hid (fun (Bs : Nat) (W : World) (hS : SeqAt W Bs T) => sortedN_any Bs T (by rw [hlT]; omega) hT.ne W hS)); (rw [show sortZ T = srt n T from sort_srt hT] at hSo); (have iV := hid hD.mV.isMp); (have iM := hid hD.mM.isMp); (have hDX := hid hD); (have hbt' := hid hbt); (have ht' := hid ht); (have hdr' := hid hdr); (have hT' := hid hT); (have hlR' := hid hlR); (have hTe' := hid hTe); (have ht0' := hid ht0); (have hp' := hid hp); (have ne' := hid (And.intro ne1 (And.intro ne2 ne3))); (have k04 := hid k4); (have hgg := hid (And.intro hgB (And.intro hgM hgF))); (replace hsl := hid hsl); (replace hw1 := hid hw1); (replace hw2 := hid hw2); (replace hw3 := hid hw3); (replace e4 := hid e4); (have hq' := hid hq); (have htn0 : (0 : Int) ≤ (tn : Int) := by omega); (have htn1 : (tn : Int) < (n : Int) := by omega); (have hlR0 : (0 : Int) < ((lR + 1 : Nat) : Int) := by omega); (have hml : cT ≤ 9223372036854775807 := by have : maxLen = 9223372036854775807 := rfl; omega); (have hcl : lR + 1 ≤ cT := by omega); (clear hTe hD hb hgx hbt ht hdr hT hlT hlR hp hcT hcm htr haR ne1 ne2 ne3 hgB hgM hgF hq k1 k2 k3 k4 g1 g2 g3 m4 e1 e2 e3)
  go_enter Tryz.func128, Tryz.ntmps128
  (go_upto_region 1 with fail); (rw [← hw1.out, hgg.out.1]); (try rw [hq'.out.1]); (try rw [hgg.out.2.1]); (rw [← hw2.out]); (go_upto_region 2 with fail); (try rw [hq'.out.2.1]); (try rw [hgg.out.2.2]); (rw [← hw3.out]); (have t0 : w3.cell? ⟨bT, oT, none⟩ = some (.int .i64 (tn : Int)) := k04.out.cell ht0'.out id); (have s0 : w3.cell? ⟨gS, 0, none⟩ = some (.int .i64 (n : Int)) := k04.out.cell f0.out id); (clear fr3 c3); (go_upto_region 5 with fail); (clear t0 s0)
  go_loopw [22] (fun i wr => ∃ c : Nat, c ≤ n ∧ i = .int .i64 (c : Int) ∧ Hd (OwI n gs gF gM gB (optA T (tn : Int) c) wr) ∧ Hd (Kept no w wr) ∧ Hd (w3.heap.size ≤ wr.heap.size)) (fun i _ => n - (intOf i).toNat)
  case atStart => exact ⟨0, by omega, rfl, hI4, k04, ⟨Nat.le_refl _⟩⟩
  case round =>
    (clear hI4); (obtain ⟨c, hc, rfl, hI, hK, hS⟩ := hrel)
    by_cases hlt : c < n
    · (have hc1 : (c : Int) < (n : Int) := by omega); (have hc0 : (0 : Int) ≤ (c : Int) := by omega); (have HC := hid (hCt.out (c : Int) wr hK.out)); (have hst := hid (optA_succ T (tn : Int) c)); (go_wp2_with fail); (with_reducible refine HC.out.mono ?_); (rintro e wq ⟨rfl, qq⟩); (have hKq := hid (hK.out.trans' qq.kept)); (have hIq := hid (hI.out.kept qq.kept)); (have hSq := hid (Nat.le_trans hS.out qq.kept.size)); (clear HC qq hK hI hS)
      by_cases hm : (c : Int) ∈ T
      · (have hd : decide ((c : Int) ∈ T) = true := decide_eq_true hm); (have hI2 : Hd (OwI n gs gF gM gB (optA T (tn : Int) (c + 1)) wq) := ⟨by rw [hst.out, if_pos hm, List.append_nil]; exact hIq.out⟩); (replace hm := hid hm); (go_wp2); (go_roundw)
        case rel => first | exact ⟨c + 1, by omega, by go_num, hI2, hKq, hSq⟩ | ((repeat apply Exists.intro); exact ⟨⟨c + 1, by omega, by go_num, hI2, hKq, hSq⟩, rfl⟩)
        case measure => simp [intOf]; omega
      · (have hd : decide ((c : Int) ∈ T) = false := decide_eq_false hm); (obtain ⟨rows, hrB, hrl, hrm⟩ := hbt'.out.kept hKq.out); (obtain ⟨avb, cvb, hvb, _, _⟩ := Rd.shape2 hrB.2); (subst hvb); (obtain ⟨bb, ob, y, vy, hab, hrow, hcc, hry⟩ := RdB.at hrB c (by omega)); (subst hab); (obtain ⟨hly, hmy⟩ := hrm c hlt)
        have hge : (lists rows).getD c [] = y := by
          (rw [List.getD_eq_getElem?_getD]); (unfold lists); (rw [List.getElem?_map, List.getElem?_eq_getElem (by omega), hrow]; rfl)
        (rw [hge] at hly hmy); (obtain ⟨ay, cy, hvy, _, _⟩ := Rd.shape2 hry); (subst hvy); (obtain ⟨by_, oy, hay, hcy⟩ := RdZ.at hry tn (by omega)); (subst hay); (have hmx := hmy tn htn (fun e => hm (by rw [← e, hTe'.out]; exact List.mem_cons_self))); (rw [hmx] at hcy); (have g2c : wq.cell? ⟨gS, 2, none⟩ = some (.slice (some ⟨bb, ob, none⟩) rows.length cvb) := hKq.out.cell f2.out id); (rw [hrl] at g2c); (rw [hly] at hcc); (have hT1 := hid (hTk.out _ ⟨1, (c : Int), (tn : Int), [], 0⟩ (.slice none 0 0) wq hIq.out (OZ.nil _) (fun j hj => by cases hj))); (have hst2 : Hd (optA T (tn : Int) (c + 1) = optA T (tn : Int) c ++ [⟨1, (c : Int), (tn : Int), [], 0⟩]) := ⟨by rw [hst.out, if_neg hm]⟩); (replace hm := hid hm); (replace hry := hid hry); (replace hrB := hid hrB); (clear hrm hmy hge hmx hrow hry hrB hst); (go_wp2_with fail); (with_reducible refine hT1.out.mono ?_); (rintro e w7 ⟨⟨v7, rfl⟩, hI7, k7⟩); (have hI8 : Hd (OwI n gs gF gM gB (optA T (tn : Int) (c + 1)) w7) := ⟨by rw [hst2.out]; exact hI7⟩); (have hK8 : Hd (Kept no w w7) := ⟨hKq.out.trans k7 fun j hj e => by have := (hbk.out j e).1; omega⟩); (have hS8 := hid (Nat.le_trans hSq.out k7.size)); (clear hT1 hI7 k7 hcy hcc g2c hKq hIq hSq); (go_wp2); (go_roundw)
        case rel => first | exact ⟨c + 1, by omega, by go_num, hI8, hK8, hS8⟩ | ((repeat apply Exists.intro); exact ⟨⟨c + 1, by omega, by go_num, hI8, hK8, hS8⟩, rfl⟩)
        case measure => simp [intOf]; omega
    · (obtain rfl : c = n := by omega); (have hc1 : ¬ (c : Int) < (c : Int) := by omega); (have HA := hid (hAm.out wr hK.out hS.out)); (go_wp2_with fail); (with_reducible refine HA.out.mono ?_); (rintro e w5 ⟨⟨v5, rfl, hv5, hv5b⟩, hD5, k5⟩); (have iVr : IsMp wr bV := by obtain ⟨es, cc, hb⟩ := iV.out; exact ⟨es, cc, (isMp_kept iV.out hK.out).trans hb⟩); (have iMr : IsMp wr bM := by obtain ⟨es, cc, hb⟩ := iM.out; exact ⟨es, cc, (isMp_kept iM.out hK.out).trans hb⟩); (have hI5 : Hd (OwI c gs gF gM gB (optB c T (tn : Int) r 0) w5) := ⟨by rw [optB_zero]; exact hI.out.km iVr iMr k5⟩); (have hK5 : Hd (Kept (bm bV bM) w w5) := ⟨hK.out.of_no.trans k5 fun _ _ h => h⟩); (have hS5 := hid (Nat.le_trans hS.out k5.size)); (obtain ⟨av, cv, rfl⟩ := Rd.shapeZ hv5); (have hvl : (firstV gs (flags c T)).1.length = c := by rw [first_len, flags_len]); (rw [hvl] at hv5b ⊢); (obtain ⟨bv, ov, hav, _⟩ := RdZ.at hv5 0 (by omega)); (subst hav); (have hv5' := hid hv5); (have hv5b' := hid hv5b); (have hD5' := hid hD5); (have hvl' := hid hvl); (clear HA hD5 hv5 hv5b iVr iMr k5 hI hK hS hAm hvl); (have hsl5 := hsl.out w5); (go_upto_region 12 with fail); (clear hsl5)
      go_loopw [51] (fun i wr => ∃ k : Nat, k ≤ lR ∧ i = .int .i64 (k : Int) ∧ Hd (OwI c gs gF gM gB (optB c T (tn : Int) r k) wr) ∧ Hd (Kept (owB gF gM gB) w5 wr)) (fun i _ => lR - (intOf i).toNat)
      case atStart => exact ⟨0, by omega, rfl, hI5, ⟨Kept.refl _ _⟩⟩
      case round =>
        (clear hI5); (obtain ⟨k, hk, rfl, hI, hK⟩ := hrel); (have hKw : Hd (Kept (bm bV bM) w wr) := ⟨hK5.out.trans hK.out fun j hj e => by have := (hbk.out j e).1; omega⟩)
        by_cases hlt : k < lR
        · (have hk1 : (k : Int) < (lR : Int) := by omega); (have hk0 : (0 : Int) ≤ (k : Int) := by omega); (have hkl : k < r.length := by rw [hlR'.out]; exact hlt); (have hrr := rdZ_km iV.out iM.out hKw.out hdr'.out); (obtain ⟨b, o, hao, hck⟩ := RdZ.at hrr k hkl); (subst hao); (have hmem : r.getD k 0 ∈ T := hTe'.out ▸ List.mem_cons_of_mem _ (by rw [List.getD_eq_getElem?_getD, List.getElem?_eq_getElem hkl]; exact List.getElem_mem hkl)); (have hzr := hT'.out.rng _ hmem); (have hst := optB_succ c T (tn : Int) r k hkl); (obtain ⟨z, hz⟩ : ∃ z, r.getD k 0 = z := ⟨_, rfl⟩); (rw [hz] at hck hzr hst); (obtain ⟨zn, rfl⟩ : ∃ zn : Nat, z = (zn : Int) := ⟨z.toNat, by omega⟩); (have hzn1 : (zn : Int) < (c : Int) := by omega); (have hzn0 : (0 : Int) ≤ (zn : Int) := by omega); (replace hst := hid hst); (have HV := hid (hVs.out wr hKw.out)); (replace hrr := hid hrr); (clear hz hmem hkl hzr); (go_upto_region 14 with fail); (clear hck); (go_wp2_with fail); (with_reducible refine HV.out.mono ?_); (rintro e w6 ⟨Bs, rfl, hSq, k6⟩); (have HS := hid (hSo.out Bs w6 hSq)); (clear HV hSq); (go_wp2_with fail); (with_reducible refine HS.out.mono ?_); (rintro e w7 ⟨v7, rfl, o7⟩); (have hK7 := hid (hK.out.trans (k6.trans' o7.kept) fun _ _ h => h.elim)); (have hI7 := hid (hI.out.kept (k6.trans' o7.kept))); (have hKw7 := hid (hKw.out.trans (k6.trans' o7.kept) fun _ _ h => h.elim)); (have hrd7 : Hd (OZ w7 v7 (srt c T)) := ⟨o7.own⟩)
          have hnx : Hd (∀ j, v7.ownBlock = some j → ¬ owB gF gM gB j) := ⟨fun j hj hx => by
            rcases o7.new with h | ⟨g, h, hg⟩
            · rw [h] at hj; cases hj
            · (have : g = j := by have := h.symm.trans hj; simpa using this); (have h8 := (hbk.out j hx).2); (have h9 := e4.out); (have h10 := hS5.out); (have h11 := hK.out.size); (have h12 := k6.size)
              omega⟩
          (obtain ⟨a7, c7, rfl⟩ := Rd.shapeZ o7.rd); (obtain ⟨l7, hl7'⟩ : ∃ l, (srt c T).length = l := ⟨_, rfl⟩); (rw [hl7'] at hrd7 hnx ⊢); (have hv7 := Rd.kept hv5'.out hK7.out fun j hj hx => hv5b'.out j hj hx); (obtain ⟨b1_, o1_, e1_, hct⟩ := RdZ.at hv7 tn (by rw [hvl'.out]; exact htn))
          cases e1_
          obtain ⟨b2_, o2_, e2_, hcz⟩ := RdZ.at hv7 zn (by rw [hvl'.out]; omega)
          cases e2_
          (have hbt := votes_bnd hn hp'.out (flags c T) tn (by rw [flags_len]; exact htn)); (have hbz := votes_bnd hn hp'.out (flags c T) zn (by rw [flags_len]; omega)); (have hmg : mg c gs ⟨2, (tn : Int), (zn : Int), srt c T, 0⟩ = _ := mg_next hT'.out (tn : Int) (zn : Int)); (rw [Int.toNat_natCast, Int.toNat_natCast] at hmg); (have HT := hTk.out (optB c T (tn : Int) r k) ⟨2, (tn : Int), (zn : Int), srt c T, 0⟩ (.slice a7 l7 c7)); (rw [hmg] at HT); (obtain ⟨p, hpp⟩ : ∃ p, (firstV gs (flags c T)).1.getD tn 0 = p := ⟨_, rfl⟩); (obtain ⟨q, hqq⟩ : ∃ p, (firstV gs (flags c T)).1.getD zn 0 = p := ⟨_, rfl⟩); (rw [hpp] at hct hbt HT); (rw [hqq] at hcz hbz HT); (obtain ⟨d, hdd⟩ : ∃ d, p - q = d := ⟨_, rfl⟩); (rw [hdd] at HT); (have hwr : IntKind.i64.wrap d = d := IntWalk.i64_in _ (by omega)); (replace HT := hid HT); (have hct' := hid hct); (have hcz' := hid hcz); (clear HS o7 hv7 hct hcz hbt hbz hmg hpp hqq hK hI hKw k6 hl7'); (go_upto_region 15 with fail); (refine region_flow (S := (owB gF gM gB)) (Sl := (fun _ => (owB gF gM gB))) [Is (.func (.func 177) #[] #[.pointer (some ⟨gF, 0, none⟩), .pointer (some ⟨gM, 0, none⟩), .pointer (some ⟨gB, 0, none⟩)]), Is (.int .i64 (tn : Int)), Is (.int .i64 (zn : Int)), Is (.slice a7 l7 c7), Is (.agg #[.int .i64 2, .int .i64 (tn : Int), .int .i64 (zn : Int), .slice a7 l7 c7, .int .i64 0]), Is (.slice (some ⟨bv, ov, none⟩) c cv), Is (.int .i64 (tn : Int)), Is (.pointer (some ⟨bv, ov + tn, none⟩)), Is (.int .i64 p), Is (.slice (some ⟨bv, ov, none⟩) c cv), Is (.int .i64 (zn : Int)), Is (.pointer (some ⟨bv, ov + zn, none⟩)), Is (.int .i64 q), Is (.int .i64 d), POw c gs gF gM gB (optB c T (tn : Int) r k ++ [⟨2, (tn : Int), (zn : Int), srt c T, 0⟩])] [14] (fun _ _ h => h) _ (by kernel_rfl) (by kernel_rfl) (by kernel_rfl) (by kernel_rfl) (fun x => by simp only [puts, Act.put, List.map_cons, List.map_nil, Nat.zero_add, Nat.reduceAdd, List.setIfInBounds_toArray, List.set_cons_zero, List.set_cons_succ]; exact rfl) ?_ ?_)
          · (skip); (refine .cons (fun x wf Kk hq hdep hold => ?_) ?_)
            · (try dsimp only); (clear hq hdep hold); (rw [if_pos (by rfl)]); (refine OpY.val ?_ ⟨Kept.refl _ _, rfl⟩); (first | rfl | go_simp)
            refine .cons (fun x wf Kk hq hdep hold => ?_) ?_
            · (try dsimp only); (clear hq hdep hold); (rw [if_pos (by rfl)]); (refine OpY.val ?_ ⟨Kept.refl _ _, rfl⟩); (first | rfl | go_simp)
            refine .cons (fun x wf Kk hq hdep hold => ?_) ?_
            · (try dsimp only); (clear hq hdep hold); (rw [if_pos (by rfl)]); (refine OpY.val ?_ ⟨Kept.refl _ _, rfl⟩); (first | rfl | go_simp)
            refine .cons (fun x wf Kk hq hdep hold => ?_) ?_
            · (try dsimp only); (clear hq hdep hold); (rw [if_pos (by rfl)]); (refine OpY.val ?_ ⟨Kept.refl _ _, rfl⟩); (first | rfl | go_simp)
            refine .cons (fun x wf Kk hq hdep hold => ?_) ?_
            · (try dsimp only); (have h1 : x 1 = _ := hdep 1 (by kernel_rfl)); (have h2 : x 2 = _ := hdep 2 (by kernel_rfl)); (have h3 : x 3 = _ := hdep 3 (by kernel_rfl)); (clear hq hdep hold); (simp only [h1, h2, h3]); (clear h1 h2 h3); (rw [if_pos (by rfl)]); (refine OpY.val ?_ ⟨Kept.refl _ _, rfl⟩); (first | rfl | go_simp)
            refine .cons (fun x wf Kk hq hdep hold => ?_) ?_
            · (try dsimp only); (clear hq hdep hold); (rw [if_pos (by rfl)]); (refine OpY.val ?_ ⟨Kept.refl _ _, rfl⟩); (first | rfl | go_simp)
            refine .cons (fun x wf Kk hq hdep hold => ?_) ?_
            · (try dsimp only); (clear hq hdep hold); (rw [if_pos (by rfl)]); (refine OpY.val ?_ ⟨Kept.refl _ _, rfl⟩); (first | rfl | go_simp)
            refine .cons (fun x wf Kk hq hdep hold => ?_) ?_
            · (try dsimp only); (have h5 : x 5 = _ := hdep 5 (by kernel_rfl)); (have h6 : x 6 = _ := hdep 6 (by kernel_rfl)); (clear hq hdep hold); (simp only [h5, h6]); (clear h5 h6); (rw [if_pos (by rfl)]); (refine OpY.val ?_ ⟨Kept.refl _ _, rfl⟩); (first | rfl | go_simp)
            refine .cons (fun x wf Kk hq hdep hold => ?_) ?_
            · (try dsimp only); (have h7 : x 7 = _ := hdep 7 (by kernel_rfl)); (have Kq := hq no (fun j hj => by cases (show j ∈ ([] : List Nat) from by (have e : ∀ l : List Nat, l = [] → j ∈ l → j ∈ ([] : List Nat) := fun l h h2 => h ▸ h2); exact e _ (by kernel_rfl) hj))); (clear hq hdep hold); (simp only [h7]); (clear h7); (have m1 := Kq.undrew.cell hct'.out id); (rw [if_pos (by rfl)]); (refine OpY.val ?_ ⟨Kept.refl _ _, rfl⟩); (first | rfl | go_simp)
            refine .cons (fun x wf Kk hq hdep hold => ?_) ?_
            · (try dsimp only); (clear hq hdep hold); (rw [if_pos (by rfl)]); (refine OpY.val ?_ ⟨Kept.refl _ _, rfl⟩); (first | rfl | go_simp)
            refine .cons (fun x wf Kk hq hdep hold => ?_) ?_
            · (try dsimp only); (clear hq hdep hold); (rw [if_pos (by rfl)]); (refine OpY.val ?_ ⟨Kept.refl _ _, rfl⟩); (first | rfl | go_simp)
            refine .cons (fun x wf Kk hq hdep hold => ?_) ?_
            · (try dsimp only); (have h9 : x 9 = _ := hdep 9 (by kernel_rfl)); (have h10 : x 10 = _ := hdep 10 (by kernel_rfl)); (clear hq hdep hold); (simp only [h9, h10]); (clear h9 h10); (rw [if_pos (by rfl)]); (refine OpY.val ?_ ⟨Kept.refl _ _, rfl⟩); (first | rfl | go_simp)
            refine .cons (fun x wf Kk hq hdep hold => ?_) ?_
            · (try dsimp only); (have h11 : x 11 = _ := hdep 11 (by kernel_rfl)); (have Kq := hq no (fun j hj => by cases (show j ∈ ([] : List Nat) from by (have e : ∀ l : List Nat, l = [] → j ∈ l → j ∈ ([] : List Nat) := fun l h h2 => h ▸ h2); exact e _ (by kernel_rfl) hj))); (clear hq hdep hold); (simp only [h11]); (clear h11); (have m1 := Kq.undrew.cell hcz'.out id); (rw [if_pos (by rfl)]); (refine OpY.val ?_ ⟨Kept.refl _ _, rfl⟩); (first | rfl | go_simp)
            refine .cons (fun x wf Kk hq hdep hold => ?_) ?_
            · (try dsimp only); (have h8 : x 8 = _ := hdep 8 (by kernel_rfl)); (have h12 : x 12 = _ := hdep 12 (by kernel_rfl)); (clear hq hdep hold); (simp only [h8, h12]); (clear h8 h12); (rw [if_pos (by rfl)]); (refine OpY.val ?_ ⟨Kept.refl _ _, rfl⟩); (first | rfl | go_simp)
            refine .cons (fun x wf Kk hq hdep hold => ?_) ?_
            · (try dsimp only); (have h0 : x 0 = _ := hdep 0 (by kernel_rfl)); (have h4 : x 4 = _ := hdep 4 (by kernel_rfl)); (have h13 : x 13 = _ := hdep 13 (by kernel_rfl)); (have Kq := hq no (fun j hj => by cases (show j ∈ ([] : List Nat) from by (have e : ∀ l : List Nat, l = [] → j ∈ l → j ∈ ([] : List Nat) := fun l h h2 => h ▸ h2); exact e _ (by kernel_rfl) hj))); (clear hq hdep hold); (simp only [h0, h4, h13]); (clear h0 h4 h13); (rw [if_pos (by rfl)]); (refine OpY.call (f := 177) (args := #[(.agg #[.int .i64 2, .int .i64 (tn : Int), .int .i64 (zn : Int), .slice a7 l7 c7, .int .i64 0]), .int .i64 d, .pointer (some ⟨gF, 0, none⟩), .pointer (some ⟨gM, 0, none⟩), .pointer (some ⟨gB, 0, none⟩)]) (by go_simp) ?_); (refine (HT.out wf (hI7.out.kept Kq.undrew) (by have := hrd7.out; exact OZ.kept this Kq.undrew) hnx.out).mono ?_); (rintro e w8 ⟨⟨v8, rfl⟩, hI8, k8⟩); (exact ⟨_, rfl, k8, hI8⟩)
            exact .nil _
          · (intro x wf Kk hv); (try dsimp only); (have p14 : Pr.p (Sl := (fun _ => (owB gF gM gB))) (POw c gs gF gM gB (optB c T (tn : Int) r k ++ [⟨2, (tn : Int), (zn : Int), srt c T, 0⟩])) (x 14) wf := hv 14 (by kernel_rfl)); (clear hv); (have hI9 : Hd (OwI c gs gF gM gB (optB c T (tn : Int) r (k + 1)) wf) := ⟨by rw [hst.out]; exact p14⟩); (have hK9 : Hd (Kept (owB gF gM gB) w5 wf) := ⟨hK7.out.trans Kk.undrew fun _ _ h => h⟩); (clear p14 Kk hst hI7 hK7 hKw7 hrd7 hnx hct' hcz' HT hwr); (go_wp2); (go_roundw)
            case rel => first | exact ⟨k + 1, by omega, by go_num, hI9, hK9⟩ | ((repeat apply Exists.intro); exact ⟨⟨k + 1, by omega, by go_num, hI9, hK9⟩, rfl⟩)
            case measure => simp [intOf]; omega
        · (obtain rfl : k = lR := by omega); (have hk1 : ¬ (k : Int) < (k : Int) := by omega); (obtain ⟨f, m, xa, v, h3, hcs⟩ := hI.out); (have hall : optB c T (tn : Int) r k = opts c T := by rw [← hlR'.out, hTe'.out]; exact optB_all c (tn : Int) r); (rw [hall] at hcs)
          have hfin : Hd (xa ∈ opts c T ∧ m = ownM c gs T ∧ mg c gs xa = m) := ⟨by
            rcases hcs with ⟨h, _⟩ | ⟨_, h4, h5, h6⟩
            · exact absurd h (opts_ne h2 hT'.out)
            · exact ⟨h4, h6, h5.symm⟩⟩
          (obtain ⟨a9, l9, c9, rfl⟩ : ∃ a l cc, v = .slice a l cc := by obtain ⟨a, cc, h, _⟩ := Rd.shape2 h3.rd.rd; exact ⟨_, _, _, h⟩); (have hB := hid h3.b); (have hM := hid h3.m); (have hR := hid h3.rd); (have hRb := hid h3.ob); (clear h3 hcs hI hall); (go_upto_region 17 with fail); (refine region_flow (S := (fun k => k = gB ∨ k = gM)) (Sl := (fun j k => (j = 2 ∧ k = gB) ∨ (j = 3 ∧ k = gM))) [Is (.agg #[.int .i64 xa.k, .int .i64 xa.a, .int .i64 xa.b, .slice a9 l9 c9, .int .i64 xa.q]), Is (.int .i64 m), PBk gB (.cells #[.int .i64 xa.k, .int .i64 xa.a, .int .i64 xa.b, .slice a9 l9 c9, .int .i64 xa.q] 59 (0, 0)) (fun j => j == 3) (fun j hj h => by obtain rfl : j = 3 := (by simpa using hj); rcases h with h | h; exact absurd h.1 (by decide); exact ne'.out.2.2 h.2.symm), PBk gM (.cells #[.int .i64 m] 3 (0, 0)) (fun _ => false) (fun j hj => by cases hj)] [2, 3] (fun j k h => h.imp And.right And.right) _ (by kernel_rfl) (by kernel_rfl) (by kernel_rfl) (by kernel_rfl) (fun x => by simp only [puts, Act.put, List.map_cons, List.map_nil, Nat.zero_add, List.setIfInBounds_toArray, List.set_cons_zero, List.set_cons_succ]; exact rfl) ?_ ?_)
          · (skip); (refine .cons (fun x wf Kk hq hdep hold => ?_) ?_)
            · (try dsimp only); (have Kq := hq no (fun j hj => by cases (show j ∈ ([] : List Nat) from by (have e : ∀ l : List Nat, l = [] → j ∈ l → j ∈ ([] : List Nat) := fun l h h2 => h ▸ h2); exact e _ (by kernel_rfl) hj))); (clear hq hdep hold); (rw [if_pos (by rfl)]); (exact OpY.row 59 (.tmp 4) rfl gB (0) rfl [.int .i64 xa.k, .int .i64 xa.a, .int .i64 xa.b, .slice a9 l9 c9, .int .i64 xa.q] _ (rng_rowA (Kq.undrew.blk hB.out)) Tryz.underlying59 rfl (by kernel_rfl) ⟨Kept.refl _ _, rfl⟩)
            refine .cons (fun x wf Kk hq hdep hold => ?_) ?_
            · (try dsimp only); (have Kq := hq (fun j => j = gB) (fun j hj k hk => by (have e : ∀ l : List Nat, l = [2] → j ∈ l → j ∈ ([2] : List Nat) := fun l h h2 => h ▸ h2); have hj := e _ (by kernel_rfl) hj; obtain rfl := List.mem_singleton.1 hj; rcases hk with h | h; exact h.2; exact absurd h.1 (by decide))); (clear hq hdep hold); (have hMq := (Kq.undrew.block gM (lt_of_heap hM.out) ne'.out.2.2).trans hM.out); (have m1 : wf.cell? ⟨gM, 0, none⟩ = some (.int .i64 m) := cell_at hMq rfl); (rw [if_pos (by rfl)]); (refine OpY.val ?_ ⟨Kept.refl _ _, rfl⟩); (first | rfl | go_simp)
            refine .cons (fun x wf Kk hq hdep hold => ?_) ?_
            · (try dsimp only); (have h0 : x 0 = _ := hdep 0 (by kernel_rfl)); (have Kq := hq no (fun j hj => by cases (show j ∈ ([] : List Nat) from by (have e : ∀ l : List Nat, l = [] → j ∈ l → j ∈ ([] : List Nat) := fun l h h2 => h ▸ h2); exact e _ (by kernel_rfl) hj))); (clear hq hdep hold); (simp only [h0]); (clear h0); (rw [if_pos (by rfl)]); (have hgb := Kq.undrew.blk hB.out); (have hF := setRow_heap wf gB _ #[.int .i64 xa.k, .int .i64 xa.a, .int .i64 xa.b, .slice a9 l9 c9, .int .i64 xa.q] _ _ hgb); (refine OpY.storeRowA 59 (.tmp 4) (.tmp 74) rfl gB #[.int .i64 xa.k, .int .i64 xa.a, .int .i64 xa.b, .slice a9 l9 c9, .int .i64 xa.q] rfl rfl 59 _ hgb (by kernel_rfl) rfl (all_oneCell_toArray (cs := [.int .i64 xa.k, .int .i64 xa.a, .int .i64 xa.b, .slice a9 l9 c9, .int .i64 xa.q]) (fun u hu => by simp only [List.mem_cons, List.not_mem_nil, or_false] at hu; rcases hu with rfl | rfl | rfl | rfl | rfl <;> rfl)) ?_); (exact ⟨(Kept.refl _ _).setRow (.inl (.inl ⟨by trivial, rfl⟩)) _, hF⟩)
            refine .cons (fun x wf Kk hq hdep hold => ?_) ?_
            · (try dsimp only); (have h1 : x 1 = _ := hdep 1 (by kernel_rfl)); (have Kq := hq (fun j => j = gB) (fun j hj k hk => by (have e : ∀ l : List Nat, l = [2] → j ∈ l → j ∈ ([2] : List Nat) := fun l h h2 => h ▸ h2); have hj := e _ (by kernel_rfl) hj; obtain rfl := List.mem_singleton.1 hj; rcases hk with h | h; exact h.2; exact absurd h.1 (by decide))); (clear hq hdep hold); (simp only [h1]); (clear h1); (rw [if_pos (by rfl)]); (have hMq := (Kq.undrew.block gM (lt_of_heap hM.out) ne'.out.2.2).trans hM.out); (have m1 : wf.cell? ⟨gM, 0, none⟩ = some (.int .i64 m) := cell_at hMq rfl); (have fz := row_free hMq 0); (have hF : (wf.setCell ⟨gM, 0, none⟩ (.int .i64 m)).heap[gM]? = some (.cells #[.int .i64 m] 3 (0, 0)) := by rw [setCell_row hMq]; rfl); (refine OpY.skipY (w' := wf.setCell ⟨gM, 0, none⟩ (.int .i64 m)) (by go_simp) ⟨(Kept.refl _ _).setCell (a := ⟨gM, 0, none⟩) (.inl (.inr ⟨by trivial, rfl⟩)) _, hF⟩)
            exact .nil _
          · (intro x wf Kk hv); (try dsimp only); (have p2 : Pr.p (Sl := (fun j k => (j = 2 ∧ k = gB) ∨ (j = 3 ∧ k = gM))) (PBk gB (.cells #[.int .i64 xa.k, .int .i64 xa.a, .int .i64 xa.b, .slice a9 l9 c9, .int .i64 xa.q] 59 (0, 0)) (fun j => j == 3) (fun j hj h => by obtain rfl : j = 3 := (by simpa using hj); rcases h with h | h; exact absurd h.1 (by decide); exact ne'.out.2.2 h.2.symm)) (x 2) wf := hv 2 (by kernel_rfl)); (have p3 : Pr.p (Sl := (fun j k => (j = 2 ∧ k = gB) ∨ (j = 3 ∧ k = gM))) (PBk gM (.cells #[.int .i64 m] 3 (0, 0)) (fun _ => false) (fun j hj => by cases hj)) (x 3) wf := hv 3 (by kernel_rfl)); (clear hv); (have hK9 : Kept (owB gF gM gB) w5 wf := hK.out.trans Kk.undrew fun j _ h => by rcases h with h | h; exact .inr (.inr h); exact .inr (.inl h)); (have hKF := hid (hK5.out.trans hK9 fun j hj e => by have := (hbk.out j e).1; omega)); (have hVm : ∀ {b : Nat}, IsMp w b → ¬ owB gF gM gB b := fun ⟨es, cc, hb⟩ e => by have := (hbk.out _ e).1; have := (Array.getElem?_eq_some_iff.1 hb).1; omega); (have hDF := hid (hD5'.out.fin hDX.out hKF.out hK9 (hVm iV.out) (hVm iM.out))); (have hRF : Hd (OZ wf (.slice a9 l9 c9) xa.am) := ⟨Kk.undrew.ownsRow hR.out fun j hj e => hRb.out j hj (by rcases e with e | e; exact .inr (.inr e); exact .inr (.inl e))⟩); (have q2 := hid p2); (have q3 := hid p3); (clear p2 p3 Kk hK9); (go_wp2); (refine bodyPost_ret (results_own rfl _ _ gB gM _ rfl _ rfl rfl q2.out q3.out) rfl ?_); (refine ⟨xa, _, ?_, hfin.out.1, by rw [hfin.out.2.2, hfin.out.2.1], hRF.out, hDF.out, hKF.out⟩); (rw [← hfin.out.2.1]; rfl)
end Go.Proofs.YtaobaaaihgahfaaGreat

/- Package derive: value. -/
namespace Go.Nr
open Go.Pil Go.Mg
theorem minL_snoc (l : List Int) (a : Int) (h : l ≠ []) : minL (l ++ [a]) = min (minL l) a := by
  induction l with
  | nil => exact absurd rfl h
  | cons x l ih =>
    cases l with
    | nil => rfl
    | cons y l =>
      have := ih (by simp)
      show min x (minL ((y :: l) ++ [a])) = _
      rw [this]
      show _ = min (min x (minL (y :: l))) a
      omega
/-- How many entries the value of a tail may lay. -/
def Cv : Nat → Nat
  | 0 => 2
  | f + 1 => 2 + 4 * Cv f
theorem kid_at {n : Nat} {T : List Int} {k : Nat} (h : k < (kids n T).length) : ∃ c : Int, (kids n T)[k] = c :: T ∧ (0 ≤ c ∧ c < n) ∧ c ∉ T := by
  (have hm := List.getElem_mem h); (obtain ⟨c, _, hc⟩ := List.mem_map.1 (show (kids n T)[k] ∈ ((allC n).filter fun c => decide (c ∉ T)).map (· :: T) from hm)); (rw [← hc] at hm); (exact ⟨c, hc.symm, mem_kids.1 hm⟩)
theorem kids_le {n : Nat} (T : List Int) : (kids n T).length ≤ n := kidsC_le T n
end Go.Nr
namespace Go.Proofs.YtaobaaaihgahfaaGreat
open Go.RowKit Go.Mk Go.Pil Go.Mg Go.Nr Go.Sort Go.Maps
theorem post_sliceB (av : Option Addr) (lv cv m : Nat) (hm : m ≤ lv) (_hlc : lv ≤ cv) (w : World) : (Instr.slice 25 (.slice av lv cv) (some (.int .i64 (m : Int))) none none).run Tryz.prog w = .ok (.slice (if cv = m then av else av.map (·.add m)) (lv - m) (cv - m)) w := by
  (have h0 : (0 : Int) ≤ (m : Int) := by omega); (have hc : Tryz.prog.underlying 25 = some (.slice 26) := by kernel_rfl); (obtain ⟨i, hi, hz, hs, hb⟩ := info_parts (P := Tryz.prog) (e := 26) (z := .slice none 0 0) (size := 1) (bytes := 24) (by kernel_rfl)); (have h1 : (m : Int) ≤ (lv : Int) := by omega)
  simp [Instr.slice, Instr.sliceBounds, Instr.sliceBound, run_underlying hc, asIntOf, h0, sizeOf, typeInfo, hi, hs, hm]
theorem RdB.drop {w : World} {ao : Option Addr} {n cap : Nat} {bs : List (List Int × Value)} (h : RdB w (.slice ao n cap) bs) (m : Nat) (hm : m ≤ bs.length) : RdB w (.slice (if cap = m then ao else ao.map (·.add m)) (bs.length - m) (cap - m)) (bs.drop m) := by
  (refine ⟨fun x hx => h.1 x (List.mem_of_mem_drop hx), ?_⟩); (obtain ⟨_, hl, _, _, e, h1, h2, h3⟩ := h)
  cases e
  (have hd : (bs.drop m).length = bs.length - m := by simp); (refine ⟨by simp, _, _, by rw [hd], by rw [hd]; omega, by omega, ?_⟩)
  by_cases hc : cap = m
  · exact .inl (by omega)
  · rcases h3 with h3 | ⟨b, o, rfl, hcc⟩
    · exact .inl (by omega)
    · refine .inr ⟨b, o + m, ?_, fun j u hj => ?_⟩
      · (rw [if_neg hc]); (simp only [Option.map_some, Addr.add])
        split
        · rename_i e0; subst e0; simp
        · rfl
      · (rw [List.map_drop, List.getElem?_drop] at hj); (have := hcc (m + j) u hj); (rw [show o + m + j = o + (m + j) by omega]); (exact this)
theorem OwL.rdb {w w' : World} {v : Value} {bs : List (List Int × Value)} (h : OwL w w' v bs) : RdB w' v bs := ⟨fun x hx => own_RdZ (h.rows x hx), Rd.of_own h.own⟩
theorem DS.lookM {X : Nat → Prop} {n : Nat} {gs : List Grp} {gS bV bM N : Nat} {w : World} (h : DS X n gs gS bV bM N w) {T : List Int} (hT : Tl n T) (hn : n ≤ 7) {s : ByteArray} (hs : s.data.toList = keyB T) :
    ∃ z ok, (Instr.lookup 180 (.map (some bM)) (.string s) true).run Tryz.prog w = .ok (.tuple #[.int .i64 z, .bool ok]) w ∧ (ok = true → z = val n gs T) := by
  have hml : maxLen = 9223372036854775807 := rfl
  have hl : s.size ≤ maxLen := by
    (have h1 : s.size = (keyB T).length := by rw [← hs, Array.length_toList]; rfl); (have h2 : (keyB T).length = T.length := by unfold keyB; simp); (have := len_le hT)
    omega
  (have zI0 : (zeroValue 3).run Tryz.prog w = .ok (.int .i64 0) w := by kernel_rfl); (obtain ⟨v0, ok, hlk, hcase⟩ := h.mM.look (t := 180) (e := 3) (string_keyed Tryz.underlying9) Tryz.underlying180 zI0 (key := .string s) (kl := keyM T) (by unfold keyM; rw [← hs]; exact Go.WideMaps.keyOf_string_mk Tryz.underlying9 hl))
  rcases hcase with ⟨rfl, hS⟩ | ⟨rfl, rfl⟩
  · (have e := hS T hT rfl); (subst e); (exact ⟨_, true, hlk, fun _ => rfl⟩)
  · exact ⟨0, false, hlk, fun e => by cases e⟩
set_option maxRecDepth 100000 in
set_option maxHeartbeats 4000000 in
theorem valStep_any (n : Nat) (gs : List Grp) (gS bV bM N D : Nat) (vT : Value) (T : List Int) (w : World) (h2 : 2 ≤ n) (hn : n ≤ 4) (hp : isPile (n : Int) gs = true) (hT : Tl n T) (ht : RdZ w vT T) (hD : DS no n gs gS bV bM N w) (hN : N + 2 + 4 * D ≤ 1000000)
    (ih : ∀ c : Int, (0 ≤ c ∧ c < n) ∧ c ∉ T → ∀ (vU : Value) (M : Nat) (W : World), RdZ W vU (c :: T) → DS no n gs gS bV bM M W → M + D ≤ 1000000 →
      Calls Tryz.prog 127 #[.pointer (some ⟨gS, 0, none⟩), vU] W fun e w' => e = .returned (.int .i64 (val n gs (c :: T))) ∧ DS no n gs gS bV bM (M + D) w' ∧ Kept (bm bV bM) W w') :
    Calls Tryz.prog 127 #[.pointer (some ⟨gS, 0, none⟩), vT] w fun e w' => e = .returned (.int .i64 (val n gs T)) ∧ DS no n gs gS bV bM (N + 2 + 4 * D) w' ∧ Kept (bm bV bM) w w' := by
  (have HK := hid (key_any n vT T w (by omega) hT ht)); (have HO := hid (fun (W : World) (k : Kept no w W) => own_any n gs gS bV bM N vT T W h2 (by omega) hp hT (RdZ.kept ht k) (hD.kept k) (by omega))); (have HC := hid (fun (W : World) (M : Nat) (r : RdZ W vT T) (h : DS no n gs gS bV bM M W) => children_any no n gs gS bV bM M vT T W (by omega) hT r h)); (obtain ⟨aT, cT, rfl, _, _⟩ := Rd.shape2 ht); (obtain ⟨lT, hlT⟩ : ∃ m, T.length = m := ⟨_, rfl⟩); (rw [hlT] at HK HO HC ht ⊢); (obtain ⟨vv, hvv⟩ : ∃ v, val n gs T = v := ⟨_, rfl⟩); (rw [hvv]); (have hT' := hid hT); (have hD' := hid hD); (have ht' := hid ht); (have hvv' := hid hvv); (have iV := hid hD.mV.isMp); (have iM := hid hD.mM.isMp); (replace ih := hid ih); (have hNh := hid hN); (clear hT hD ht hvv hp hlT)
  go_enter Tryz.func127, Tryz.ntmps127
  (go_upto_region 1 with fail); (go_wp2_with fail); (with_reducible refine HK.out.mono ?_); (rintro e w1 ⟨⟨s, rfl, hs⟩, k1⟩); (have hD1 := hD'.out.kept k1); (obtain ⟨vg, vb, hb, _, _⟩ := hD1.blk); (have f4 : w1.cell? ⟨gS, 4, none⟩ = some (.map (some bM)) := cell_at hb rfl); (obtain ⟨z, ok, hlk, hok⟩ := hD1.lookM hT'.out (by omega) hs); (have HO1 := hid (HO.out w1 k1)); (have hs' := hid hs); (have k01 := hid k1); (replace hok := hid hok); (have hD1' := hid hD1); (clear HK HO hb hD1 k1 hs)
  cases ok with
  | true =>
    (go_wp2); (go_ret); (exact ⟨by show Ending.returned (.int .i64 z) = _; rw [hok.out (by trivial), hvv'.out], hD1'.out.more (by omega), k01.out.of_no⟩)
  | false =>
    (go_upto_region 5 with fail); (clear hlk f4 hok); (go_wp2_with fail); (with_reducible refine HO1.out.mono ?_); (rintro e w2 ⟨x, v, rfl, hx, hmx, hxo, hD2, k2⟩); (obtain ⟨mO, hmO⟩ : ∃ m, ownM n gs T = m := ⟨_, rfl⟩); (rw [hmO]); (obtain ⟨ax, lx, cx, rfl⟩ : ∃ a l c, v = .slice a l c := by obtain ⟨a, c, h, _⟩ := Rd.shape2 hxo.rd; exact ⟨_, _, _, h⟩); (unfold asV); (obtain ⟨w3, hw3, g3, k3⟩ := alloc_named w2 (.cells #[.int .i64 x.k, .int .i64 x.a, .int .i64 x.b, .slice ax lx cx, .int .i64 x.q] 59)); (have hD3 := hid (hD2.kept k3)); (have k03 := hid ((k01.out.of_no.trans k2 fun _ _ h => h).trans k3 fun _ _ h => h.elim)); (have HC1 := hid (HC.out w3 _ (rdZ_km iV.out iM.out k03.out ht'.out) hD3.out)); (replace hw3 := hid hw3); (replace hmO := hid hmO); (clear HO1 HC hD2 k2 k3 g3 hx hmx hxo k01 hD1'); (go_upto_region 6 with fail); (try rw [← hw3.out]); (go_wp2_with fail); (with_reducible refine HC1.out.mono ?_); (rintro e w4 ⟨v, rows, rfl, hrows, hO⟩); (have hD4 := hid (hD3.out.kept hO.kept)); (have k04 := hid (k03.out.trans hO.kept fun _ _ h => h.elim)); (have hrb := hO.rdb); (obtain ⟨m, hm⟩ : ∃ m, rows.length = m := ⟨_, rfl⟩); (obtain ⟨av, cv, rfl, hcv, hcvm⟩ := Rd.shape2 hrb.2); (rw [hm] at hrb hcv ⊢); (have hkl : (kids n T).length = m := by rw [← hrows, lists_length, hm]); (have hm4 : m ≤ 4 := by have := kids_le (n := n) T; omega); (have hm' := hid hm); (have hrows' := hid hrows); (have iV4 := hid hD4.out.mV.isMp); (have iM4 := hid hD4.out.mM.isMp); (have hkid := hid (fun (k : Nat) (hk : k < (kids n T).length) => kid_at hk)); (have hPut := hid (fun (W : World) (M : Nat) (h : DS no n gs gS bV bM M W) (hM : M ≤ 1000000) => h.putM (by omega) hM hT'.out hs'.out)); (rw [hvv'.out] at hPut); (have hkl' := hid hkl); (clear HC1 hO hrows hD3 k03 hm hkl)
    by_cases hm0 : m = 0
    · (subst hm0); (have hown : Hd (mO = vv) := ⟨by rw [← hvv'.out, ← hmO.out]; exact (val_none (List.eq_nil_of_length_eq_zero hkl'.out)).symm⟩); (replace hrb := hid hrb); (go_upto_region 15 with fail); (obtain ⟨w5, hup, hD5, k5⟩ := hPut.out w4 _ hD4.out (by omega)); (rw [← hown.out] at hup); (obtain ⟨vg, vb, hb, _, _⟩ := hD4.out.blk); (have f4 : w4.cell? ⟨gS, 4, none⟩ = some (.map (some bM)) := cell_at hb rfl); (have hD5' := hid hD5); (have kF := hid (k04.out.trans k5 fun _ _ h => h)); (clear hb hD5 k5); (go_wp2); (go_ret); (exact ⟨by show Ending.returned (.int .i64 mO) = _; rw [hown.out], hD5'.out.more (by omega), kF.out⟩)
    · (have hm1 : 0 < m := by omega); (have hm2 : (0 : Int) < (m : Int) := by omega); (obtain ⟨bb, ob, u, vu, hab, hrow, hcc, hru⟩ := RdB.at hrb 0 (by rw [hm'.out]; exact hm1)); (subst hab); (have hcc : w4.cell? ⟨bb, ob, none⟩ = some vu := hcc); (obtain ⟨au, cu, hau, _, _⟩ := Rd.shape2 hru); (subst hau)
      have hatk : ∀ k (h : k < rows.length) (h2 : k < (kids n T).length), rows[k].1 = (kids n T)[k] := fun k h h2 => by
        (have : (lists rows)[k]? = (kids n T)[k]? := by rw [hrows'.out]); (unfold lists at this); (rw [List.getElem?_map, List.getElem?_eq_getElem h, List.getElem?_eq_getElem h2] at this); (exact Option.some.inj this)
      (have hatk' := hid hatk); (obtain ⟨c0, hc0, hc1⟩ := hkid.out 0 (by rw [hkl'.out]; exact hm1)); (have e0 := hatk 0 (by rw [hm'.out]; exact hm1) (by rw [hkl'.out]; exact hm1)); (rw [hrow, hc0] at e0); (have e0 : u = c0 :: T := e0); (subst e0); (have HI := hid (ih.out c0 hc1 (.slice au (T.length + 1) cu) _ w4 hru hD4.out (by omega))); (have hdr := RdB.drop hrb 1 (by rw [hm'.out]; omega)); (have hsl := fun W => post_sliceB (some ⟨bb, ob, none⟩) m cv 1 (by omega) hcv W); (obtain ⟨aR, haR⟩ : ∃ a, (if cv = 1 then (some (⟨bb, ob, none⟩ : Addr)) else (some (⟨bb, ob, none⟩ : Addr)).map (·.add 1)) = a := ⟨_, rfl⟩); (rw [haR] at hdr hsl); (rw [hm'.out] at hdr); (have hsl : ∀ W, (Instr.slice 25 (.slice (some ⟨bb, ob, none⟩) m cv) (some (.int .i64 1)) none none).run Tryz.prog W = .ok (.slice aR (m - 1) (cv - 1)) W := hsl)
      have hmin0 : minL (((kids n T).take 1).map (val n gs)) = val n gs (c0 :: T) := by
        rw [List.take_succ_eq_append_getElem (by rw [hkl'.out]; exact hm1), hc0]; rfl
      (obtain ⟨z0, hz0⟩ : ∃ z, val n gs (c0 :: T) = z := ⟨_, rfl⟩); (rw [hz0] at HI hmin0); (replace hmin0 := hid hmin0); (replace hz0 := hid hz0); (replace hdr := hid hdr); (replace hrb := hid hrb); (replace hsl := hid hsl); (replace hru := hid hru); (replace hc0 := hid hc0); (clear hatk hrow haR); (go_upto_region 8 with fail); (go_wp2_with fail); (with_reducible refine HI.out.mono ?_); (rintro e w5 ⟨rfl, hD5, k5⟩); (have hD5' := hid hD5); (have k5' := hid k5); (have hsl5 := hsl.out w5); (clear HI hD5 k5 hcc); (go_upto_region 10 with fail); (clear hsl5)
      go_loopw [11, 47] (fun l i wr => ∃ (k : Nat) (z : Int), k + 1 ≤ m ∧ i = .int .i64 (k : Int) ∧ l = .int .i64 z ∧ Hd (minL (((kids n T).take (k + 1)).map (val n gs)) = z) ∧ Hd (DS no n gs gS bV bM (N + 1 + (k + 1) * D) wr) ∧ Hd (Kept (bm bV bM) w4 wr)) (fun _ i _ => m - (intOf i).toNat)
      case atStart => exact ⟨0, z0, by omega, rfl, rfl, hmin0, ⟨hD5'.out.more (by omega)⟩, k5'⟩
      case round =>
        (clear hmin0); (obtain ⟨k, z, hk, rfl, rfl, hz, hDr, hK⟩ := hrel)
        by_cases hlt : k + 1 < m
        · (have hk1 : (k : Int) < ((m - 1 : Nat) : Int) := by omega); (have hk0 : (0 : Int) ≤ (k : Int) := by omega); (have hrr := rdB_km iV4.out iM4.out hK.out hdr.out); (obtain ⟨b, o, x2, v2, hab, hrow, hcc, hru2⟩ := RdB.at hrr k (by rw [List.length_drop, hm'.out]; omega)); (subst hab); (obtain ⟨au2, cu2, hau, _, _⟩ := Rd.shape2 hru2); (subst hau); (obtain ⟨c2, hc2, hc3⟩ := hkid.out (k + 1) (by rw [hkl'.out]; exact hlt)); (have e0 := hatk'.out (k + 1) (by rw [hm'.out]; exact hlt) (by rw [hkl'.out]; exact hlt)); (have e1 : (rows.drop 1)[k]'(by rw [List.length_drop, hm'.out]; omega) = rows[k + 1]'(by rw [hm'.out]; exact hlt) := by rw [List.getElem_drop]; congr 1; omega); (rw [e1] at hrow); (rw [hrow, hc2] at e0); (have e0 : x2 = c2 :: T := e0); (subst e0); (have hmul : (k + 1 + 1) * D = (k + 1) * D + D := Nat.succ_mul _ _); (have hle : (k + 1) * D + D ≤ 4 * D := by rw [← hmul]; exact Nat.mul_le_mul_right _ (by omega)); (have HI := hid (ih.out c2 hc3 (.slice au2 (T.length + 1) cu2) _ wr hru2 hDr.out (by omega)))
          have hsn : minL (((kids n T).take (k + 1 + 1)).map (val n gs)) = min z (val n gs (c2 :: T)) := by
            rw [List.take_succ_eq_append_getElem (by rw [hkl'.out]; exact hlt), hc2, List.map_append]
            have hne : ((kids n T).take (k + 1)).map (val n gs) ≠ [] := by
              (intro h); (have := congrArg List.length h); (rw [List.length_map, List.length_take, hkl'.out, List.length_nil] at this)
              omega
            (have := minL_snoc _ (val n gs (c2 :: T)) hne); (rw [hz.out] at this); (exact this)
          (obtain ⟨z2, hz2⟩ : ∃ z, val n gs (c2 :: T) = z := ⟨_, rfl⟩); (rw [hz2] at HI hsn); (replace hsn := hid hsn); (replace hz2 := hid hz2); (replace hru2 := hid hru2); (replace hrr := hid hrr); (replace hc2 := hid hc2); (replace hmul := hid hmul); (clear hrow e1 hz hle); (go_wp2_with fail); (with_reducible refine HI.out.mono ?_); (rintro e w6 ⟨rfl, hD6, k6⟩); (have hD7 : Hd (DS no n gs gS bV bM (N + 1 + (k + 1 + 1) * D) w6) := ⟨hD6.more (by rw [hmul.out]; omega)⟩); (have hK7 := hid (hK.out.trans k6 fun _ _ h => h)); (clear HI hD6 k6 hcc hDr hK); (go_wp2); (go_roundw)
          case rel => first | exact ⟨k + 1, _, by omega, by go_num, rfl, hsn, hD7, hK7⟩ | ((repeat apply Exists.intro); exact ⟨⟨k + 1, _, by omega, by go_num, rfl, hsn, hD7, hK7⟩, rfl⟩)
          case measure => simp [intOf]; omega
        · (have hkm : k + 1 = m := by omega); (have hk1 : ¬ (k : Int) < ((m - 1 : Nat) : Int) := by omega)
          have hown : Hd (max mO z = vv) := ⟨by
            (have hne : kids n T ≠ [] := fun h => by have := hkl'.out; rw [h] at this; simp at this; omega); (have h1 := val_kids (gs := gs) hT'.out hne); (have h2 := hz.out); (rw [hkm, List.take_of_length_le (by rw [hkl'.out]; omega)] at h2); (rw [h2, hmO.out, hvv'.out] at h1)
            exact h1.symm⟩
          (obtain ⟨w7, hup, hD8, k8⟩ := hPut.out wr _ hDr.out (by have : (k + 1) * D ≤ 4 * D := Nat.mul_le_mul_right _ (by omega); omega)); (rw [← hown.out] at hup); (obtain ⟨vg, vb, hb, _, _⟩ := hDr.out.blk); (have f4 : wr.cell? ⟨gS, 4, none⟩ = some (.map (some bM)) := cell_at hb rfl); (have hDF : Hd (DS no n gs gS bV bM (N + 2 + 4 * D) w7) := ⟨hD8.more (by have : (k + 1) * D ≤ 4 * D := Nat.mul_le_mul_right _ (by omega); omega)⟩); (have kF := hid ((k04.out.trans hK.out fun _ _ h => h).trans k8 fun _ _ h => h)); (clear hb hD8 k8 hz); (go_wp2); (go_ret); (exact ⟨by show Ending.returned (.int .i64 (max mO z)) = _; rw [hown.out], hDF.out, kF.out⟩)
/-- The value of a tail. -/
theorem value_any (n : Nat) (gs : List Grp) (gS bV bM : Nat) (h2 : 2 ≤ n) (hn : n ≤ 4) (hp : isPile (n : Int) gs = true) : ∀ (f : Nat) (T : List Int), Tl n T → n ≤ T.length + f → ∀ (vT : Value) (N : Nat) (w : World), RdZ w vT T → DS no n gs gS bV bM N w → N + Cv f ≤ 1000000 →
    Calls Tryz.prog 127 #[.pointer (some ⟨gS, 0, none⟩), vT] w fun e w' => e = .returned (.int .i64 (val n gs T)) ∧ DS no n gs gS bV bM (N + Cv f) w' ∧ Kept (bm bV bM) w w' := by
  intro f
  induction f with
  | zero =>
    (intro T hT hf vT N w ht hD hN); (refine (valStep_any n gs gS bV bM N 0 vT T w h2 hn hp hT ht hD (by have : Cv 0 = 2 := rfl; omega) fun c hc => ?_).mono fun e w' h => h); (have := len_le (hT.kid hc)); (rw [List.length_cons] at this)
    omega
  | succ f ihf =>
    (intro T hT hf vT N w ht hD hN); (have hC : Cv (f + 1) = 2 + 4 * Cv f := rfl); (refine (valStep_any n gs gS bV bM N (Cv f) vT T w h2 hn hp hT ht hD (by omega) fun c hc vU M W hU hDW hM => ?_).mono fun e w' h => ⟨h.1, h.2.1.more (by omega), h.2.2⟩); (exact ihf (c :: T) (hT.kid hc) (by rw [List.length_cons]; omega) vU M W hU hDW hM)
end Go.Proofs.YtaobaaaihgahfaaGreat

/- Package derive: list. -/
namespace Go.Nr
open Go.Pil Go.Mg
/-- How many entries the list of a tail may lay. -/
def Cl : Nat → Nat
  | 0 => 1 + Cv 0
  | f + 1 => 1 + Cv (f + 1) + 4 * Cl f
end Go.Nr
namespace Go.Proofs.YtaobaaaihgahfaaGreat
open Go.RowKit Go.Mk Go.Pil Go.Mg Go.Nr Go.Sort Go.Maps
theorem int_ne_as : 3 ≠ 59 := by decide
theorem TAss : ElemT Tryz.prog 54 59 5 56 := .mk' (z := .agg #[.int .i64 0, .int .i64 0, .int .i64 0, .slice none 0 0, .int .i64 0]) (by kernel_rfl) (by kernel_rfl) (by kernel_rfl) (by decide)
/-- Assertions of one's own, each list of its own. -/
structure OwAs (w w' : World) (v : Value) (xs : List (As × Value)) : Prop where
  own : w'.ownsRow 0 59 5 v xs.length (xs.flatMap asC)
  rows : ∀ x ∈ xs, OZ w' x.2 x.1.am
  new : New w v
theorem OwAs.nil (w w' : World) : OwAs w w' (.slice none 0 0) [] := ⟨World.ownsRow_nil _ _ _ _, (fun x hx => by cases hx), .inl rfl⟩
theorem OwAs.kept {w w1 w2 : World} {v : Value} {xs : List (As × Value)} (h : OwAs w w1 v xs) (k : Kept no w1 w2) : OwAs w w2 v xs := ⟨k.ownsRow h.own fun _ _ => id, fun x hx => (h.rows x hx).kept k, h.new⟩
theorem OwAs.km {w w1 w2 : World} {v : Value} {xs : List (As × Value)} {V M : Nat} (hV : IsMp w1 V) (hM : IsMp w1 M) (k : Kept (bm V M) w1 w2) (h : OwAs w w1 v xs) : OwAs w w2 v xs := ⟨own_km hV hM k h.own, fun x hx => own_km hV hM k (h.rows x hx), h.new⟩
theorem OwAs.of {w0 w w' : World} {v : Value} {xs : List (As × Value)} (h : OwAs w w' v xs) (hs : w0.heap.size ≤ w.heap.size) : OwAs w0 w' v xs := ⟨h.own, h.rows, h.new.imp_right fun ⟨k, h1, h2⟩ => ⟨k, h1, by omega⟩⟩
theorem asC_one {xs : List (As × Value)} {w : World} (h : ∀ x ∈ xs, OZ w x.2 x.1.am) : ∀ u ∈ xs.flatMap asC, u.oneCell' = true := fun u hu => by
  (obtain ⟨x, hx, hu⟩ := List.mem_flatMap.1 hu); (obtain ⟨a, c, e, _⟩ := Rd.shape2 (h x hx).rd); (unfold asC at hu); (rw [e] at hu); (simp only [List.mem_cons, List.not_mem_nil, or_false] at hu)
  rcases hu with rfl | rfl | rfl | rfl | rfl <;> rfl
theorem OwAs.add {w w1 w2 : World} {v v' : Value} {xs ys : List (As × Value)} (h : OwAs w w1 v xs) (hy : ∀ x ∈ ys, OZ w1 x.2 x.1.am) (hs : w.heap.size ≤ w1.heap.size)
    (ho : w2.ownsRow 0 59 5 v' (xs.length + ys.length) (xs.flatMap asC ++ ys.flatMap asC)) (hk : Kept (ob v) w1 w2) (hv : NewOr w1 v v') : OwAs w w2 v' (xs ++ ys) := by
  refine ⟨by rw [List.length_append, List.flatMap_append]; exact ho, fun x hx => ?_, h.new.step hv hs⟩
  rcases List.mem_append.1 hx with hx | hx
  · exact hk.ownsRow (h.rows x hx) fun j hj hv => own_own (h.rows x hx) h.own int_ne_as j hj hv
  · exact hk.ownsRow (hy x hx) fun j hj hv => own_own (hy x hx) h.own int_ne_as j hj hv
theorem New.notOb {w : World} {v : Value} (h : New w v) {j : Nat} (hj : j < w.heap.size) : ¬ ob v j := fun e => by
  rcases h with h | ⟨k, h1, h2⟩
  · rw [ob, h] at e; cases e
  · rw [ob, h1, Option.some.injEq] at e; omega
set_option maxRecDepth 100000 in
set_option maxHeartbeats 4000000 in
theorem listStep_any (n : Nat) (gs : List Grp) (gS bV bM N Cvf D Lb : Nat) (vT : Value) (T : List Int) (w : World) (h2 : 2 ≤ n) (hn : n ≤ 4) (hp : isPile (n : Int) gs = true) (hT : Tl n T) (ht : RdZ w vT T) (hD : DS no n gs gS bV bM N w) (hN : N + (1 + Cvf + 4 * D) ≤ 1000000) (hL : 1 ≤ Lb ∧ Lb ≤ 1000)
    (hV : ∀ (vU : Value) (M : Nat) (W : World), RdZ W vU T → DS no n gs gS bV bM M W → M + Cvf ≤ 1000000 → Calls Tryz.prog 127 #[.pointer (some ⟨gS, 0, none⟩), vU] W fun e w' => e = .returned (.int .i64 (val n gs T)) ∧ DS no n gs gS bV bM (M + Cvf) w' ∧ Kept (bm bV bM) W w')
    (ih : ∀ c : Int, (0 ≤ c ∧ c < n) ∧ c ∉ T → ∀ (vU : Value) (M : Nat) (W : World), RdZ W vU (c :: T) → DS no n gs gS bV bM M W → M + D ≤ 1000000 →
      Calls Tryz.prog 63 #[.pointer (some ⟨gS, 0, none⟩), vU] W fun e w' => ∃ v xs, e = .returned v ∧ OwAs W w' v xs ∧ Lst n gs (c :: T) (xs.map (·.1)) ∧ xs.length ≤ Lb ∧ DS no n gs gS bV bM (M + D) w' ∧ Kept (bm bV bM) W w') :
    Calls Tryz.prog 63 #[.pointer (some ⟨gS, 0, none⟩), vT] w fun e w' => ∃ v xs, e = .returned v ∧ OwAs w w' v xs ∧ Lst n gs T (xs.map (·.1)) ∧ xs.length ≤ 4 * Lb ∧ DS no n gs gS bV bM (N + (1 + Cvf + 4 * D)) w' ∧ Kept (bm bV bM) w w' := by
  (have HO := hid (own_any n gs gS bV bM N vT T w h2 (by omega) hp hT ht hD (by omega))); (have HC := hid (fun (W : World) (M : Nat) (r : RdZ W vT T) (h : DS no n gs gS bV bM M W) => children_any no n gs gS bV bM M vT T W (by omega) hT r h)); (have HV := hid (fun (W : World) (M : Nat) (r : RdZ W vT T) (h : DS no n gs gS bV bM M W) (hM : M + Cvf ≤ 1000000) => hV vT M W r h hM)); (obtain ⟨aT, cT, rfl, _, _⟩ := Rd.shape2 ht); (obtain ⟨lT, hlT⟩ : ∃ m, T.length = m := ⟨_, rfl⟩); (rw [hlT] at HV HO HC ht ⊢); (obtain ⟨vv, hvv⟩ : ∃ v, val n gs T = v := ⟨_, rfl⟩); (rw [hvv] at HV); (have hT' := hid hT); (have ht' := hid ht); (have hvv' := hid hvv); (have iV := hid hD.mV.isMp); (have iM := hid hD.mM.isMp); (replace ih := hid ih); (clear hT hD ht hvv hp hlT hV)
  go_enter Tryz.func63, Tryz.ntmps63
  (go_upto_region 1 with fail); (go_wp2_with fail); (with_reducible refine HO.out.mono ?_); (rintro e w2 ⟨x, v, rfl, hx, hmx, hxo, hD2, k2⟩); (obtain ⟨mO, hmO⟩ : ∃ m, ownM n gs T = m := ⟨_, rfl⟩); (rw [hmO]); (rw [hmO] at hmx); (obtain ⟨ax, lx, cx, rfl⟩ : ∃ a l c, v = .slice a l c := by obtain ⟨a, c, h, _⟩ := Rd.shape2 hxo.rd; exact ⟨_, _, _, h⟩); (unfold asV); (obtain ⟨w3, hw3, g3, k3⟩ := alloc_named w2 (.cells #[.int .i64 x.k, .int .i64 x.a, .int .i64 x.b, .slice ax lx cx, .int .i64 x.q] 59)); (obtain ⟨G, hG⟩ : ∃ g, w2.heap.size = g := ⟨_, rfl⟩); (rw [hG] at g3); (have hD3 := hid (hD2.kept k3)); (have hx3 := hid (hxo.kept k3)); (have g3' := hid g3); (have k03 := hid (k2.trans k3 fun _ _ h => h.elim)); (have HV1 := hid (HV.out w3 _ (rdZ_km iV.out iM.out k03.out ht'.out) hD3.out (by omega))); (replace hw3 := hid hw3); (replace hG := hid hG); (replace hmO := hid hmO); (replace hmx := hid hmx); (replace hx := hid hx); (clear HO HV hD2 k2 k3 g3 hxo); (go_upto_region 2 with fail); (try rw [← hw3.out]); (try rw [hG.out]); (go_wp2_with fail); (with_reducible refine HV1.out.mono ?_); (rintro e w4 ⟨rfl, hD4, k4⟩); (have hD4' := hid hD4); (have k04 := hid (k03.out.trans k4 fun _ _ h => h)); (have g4 := hid (blk_km hD3.out.mV.isMp hD3.out.mM.isMp k4 g3'.out)); (have hx4 : Hd (OZ w4 (.slice ax lx cx) x.am) := ⟨own_km hD3.out.mV.isMp hD3.out.mM.isMp k4 hx3.out⟩); (have HC1 := hid (HC.out w4 _ (rdZ_km iV.out iM.out k04.out ht'.out) hD4)); (clear HV1 HC hD4 k4 hD3 hx3 g3' k03)
  by_cases hmv : mO = vv
  · (have heq : (mO == vv) = true := by rw [hmv]; exact beq_self_eq_true _); (have c0 : w4.cell? ⟨G, 0, none⟩ = some (.int .i64 x.k) := cell_at g4.out rfl); (have c1 : w4.cell? ⟨G, 1, none⟩ = some (.int .i64 x.a) := cell_at g4.out rfl); (have c2 : w4.cell? ⟨G, 2, none⟩ = some (.int .i64 x.b) := cell_at g4.out rfl); (have c3 : w4.cell? ⟨G, 3, none⟩ = some (.slice ax lx cx) := cell_at g4.out rfl); (have c4 : w4.cell? ⟨G, 4, none⟩ = some (.int .i64 x.q) := cell_at g4.out rfl); (have hown : Hd ((w4.alloc (.cells #[.int .i64 x.k, .int .i64 x.a, .int .i64 x.b, .slice ax lx cx, .int .i64 x.q] 59)).ownsRow 0 59 5 (.slice (some ⟨w4.heap.size, 0, none⟩) 1 1) 1 ([(x, (.slice ax lx cx : Value))].flatMap asC)) := ⟨⟨rfl, .inr ⟨_, 1, _, rfl, Nat.zero_le _, heap_alloc_new _ _, Nat.le_refl _, by decide, rfl, rfl⟩⟩⟩); (have kA : Kept no w4 (w4.alloc (.cells #[.int .i64 x.k, .int .i64 x.a, .int .i64 x.b, .slice ax lx cx, .int .i64 x.q] 59)) := (Kept.refl no w4).alloc _); (have hLst : Lst n gs T [x] := Lst.own hT'.out hx.out (by rw [hmx.out, hvv'.out, hmv]))
    have hfin : Hd (OwAs w (w4.alloc (.cells #[.int .i64 x.k, .int .i64 x.a, .int .i64 x.b, .slice ax lx cx, .int .i64 x.q] 59)) (.slice (some ⟨w4.heap.size, 0, none⟩) 1 1) [(x, .slice ax lx cx)] ∧ Lst n gs T [x] ∧ DS no n gs gS bV bM (N + (1 + Cvf + 4 * D)) (w4.alloc (.cells #[.int .i64 x.k, .int .i64 x.a, .int .i64 x.b, .slice ax lx cx, .int .i64 x.q] 59)) ∧ Kept (bm bV bM) w (w4.alloc (.cells #[.int .i64 x.k, .int .i64 x.a, .int .i64 x.b, .slice ax lx cx, .int .i64 x.q] 59))) :=
      ⟨⟨hown.out, fun y hy => by obtain rfl := List.mem_singleton.1 hy; exact hx4.out.kept kA, .inr ⟨_, rfl, k04.out.size⟩⟩, hLst, (hD4'.out.kept kA).more (by omega), k04.out.trans kA fun _ _ h => h.elim⟩
    (replace hmv := hid hmv); (clear hown kA hLst); (go_wp2); (go_ret); (exact ⟨_, _, rfl, hfin.out.1, hfin.out.2.1, by show 1 ≤ 4 * Lb; omega, hfin.out.2.2.1, hfin.out.2.2.2⟩)
  · (have heq : (mO == vv) = false := beq_eq_false_iff_ne.2 hmv); (have hne : Hd (ownM n gs T ≠ val n gs T) := ⟨by rw [hmO.out, hvv'.out]; exact hmv⟩); (replace hmv := hid hmv); (go_upto_region 5 with fail); (go_wp2_with fail); (with_reducible refine HC1.out.mono ?_); (rintro e w5 ⟨v, rows, rfl, hrows, hO⟩); (have hD5 := hid (hD4'.out.kept hO.kept)); (have k05 := hid (k04.out.trans hO.kept fun _ _ h => h.elim)); (have hrb := hO.rdb); (obtain ⟨m, hm⟩ : ∃ m, rows.length = m := ⟨_, rfl⟩); (obtain ⟨av, cv, rfl, hcv, hcvm⟩ := Rd.shape2 hrb.2); (rw [hm] at hrb hcv ⊢); (have hkl : (kids n T).length = m := by rw [← hrows, lists_length, hm]); (have hm4 : m ≤ 4 := by have := kids_le (n := n) T; omega); (have hm' := hid hm)
    have hatk := hid (fun k (h : k < rows.length) (h2 : k < (kids n T).length) => (by
        (have : (lists rows)[k]? = (kids n T)[k]? := by rw [hrows]); (unfold lists at this); (rw [List.getElem?_map, List.getElem?_eq_getElem h, List.getElem?_eq_getElem h2] at this)
        exact Option.some.inj this : rows[k].1 = (kids n T)[k]))
    (have iV5 := hid hD5.out.mV.isMp); (have iM5 := hid hD5.out.mM.isMp); (have hkid := hid (fun (k : Nat) (hk : k < (kids n T).length) => kid_at hk)); (have hkl' := hid hkl); (replace hrb := hid hrb); (clear HC1 hO hrows hm hkl hD4' k04 g4 hx4); (go_upto_region 6 with fail)
    go_loopw [7, 27] (fun out i wr => ∃ (k : Nat) (xs : List (As × Value)), k ≤ m ∧ i = .int .i64 (k : Int) ∧ Hd (OwAs w5 wr out xs) ∧ Hd (xs.length ≤ k * Lb) ∧ Hd (∀ K ∈ (kids n T).take k, ∃ M, Lst n gs K M ∧ ∀ x ∈ M, x ∈ xs.map (·.1)) ∧ Hd (∀ x ∈ xs.map (·.1), ∃ K ∈ kids n T, ∃ M, Lst n gs K M ∧ x ∈ M) ∧ Hd (DS no n gs gS bV bM (N + 1 + Cvf + k * D) wr) ∧ Hd (Kept (bm bV bM) w5 wr)) (fun _ i _ => m - (intOf i).toNat)
    case atStart => exact ⟨0, [], by omega, rfl, ⟨OwAs.nil w5 w5⟩, ⟨Nat.zero_le _⟩, ⟨fun K hK => by rw [List.take_zero] at hK; cases hK⟩, ⟨fun x hx => by cases hx⟩, ⟨hD5.out.more (by omega)⟩, ⟨Kept.refl _ _⟩⟩
    case round =>
      obtain ⟨k, xs, hk, rfl, hO, hXl, hA, hB, hDr, hK⟩ := hrel
      by_cases hlt : k < m
      · (have hk1 : (k : Int) < (m : Int) := by omega); (have hk0 : (0 : Int) ≤ (k : Int) := by omega); (have hrr := rdB_km iV5.out iM5.out hK.out hrb.out); (obtain ⟨b, o, x2, v2, hab, hrow, hcc, hru2⟩ := RdB.at hrr k (by rw [hm'.out]; omega)); (subst hab); (obtain ⟨au2, cu2, hau, _, _⟩ := Rd.shape2 hru2); (subst hau); (obtain ⟨c2, hc2, hc3⟩ := hkid.out k (by rw [hkl'.out]; exact hlt)); (have e0 := hatk.out k (by rw [hm'.out]; exact hlt) (by rw [hkl'.out]; exact hlt)); (rw [hrow, hc2] at e0); (have e0 : x2 = c2 :: T := e0); (subst e0); (have hmul : (k + 1) * D = k * D + D := Nat.succ_mul _ _); (have hle : k * D + D ≤ 4 * D := by rw [← hmul]; exact Nat.mul_le_mul_right _ (by omega)); (have hml2 : (k + 1) * Lb = k * Lb + Lb := Nat.succ_mul _ _); (have hle2 : k * Lb + Lb ≤ 4 * Lb := by rw [← hml2]; exact Nat.mul_le_mul_right _ (by omega)); (have HI := hid (ih.out c2 hc3 (.slice au2 (T.length + 1) cu2) _ wr hru2 hDr.out (by omega))); (have hmem : c2 :: T ∈ kids n T := mem_kids.2 hc3); (have htk : (kids n T).take (k + 1) = (kids n T).take k ++ [c2 :: T] := by rw [List.take_succ_eq_append_getElem (by rw [hkl'.out]; exact hlt), hc2]); (replace hru2 := hid hru2); (replace hrr := hid hrr); (replace hc2 := hid hc2); (replace htk := hid htk); (replace hmem := hid hmem); (replace hmul := hid hmul); (replace hml2 := hid hml2); (replace hle2 := hid hle2); (have iVr := hid hDr.out.mV.isMp); (have iMr := hid hDr.out.mM.isMp); (clear hrow hle); (go_wp2_with fail); (with_reducible refine HI.out.mono ?_); (rintro e w6 ⟨v6, ys, rfl, oY, hLs, hYl, hD6, k6⟩); (have hO6 := hid (hO.out.km iVr.out iMr.out k6)); (have hD7 : Hd (DS no n gs gS bV bM (N + 1 + Cvf + (k + 1) * D) w6) := ⟨hD6.more (by rw [hmul.out]; omega)⟩); (have hK7 := hid (hK.out.trans k6 fun _ _ h => h)); (have h05 := k05.out.size); (have h5r := hK.out.size); (have h6r := k6.size); (have hs6 : Hd (w5.heap.size ≤ w6.heap.size) := ⟨by omega⟩); (have hYr := hid oY.rows); (have hYo := hid (Rd.of_own oY.own))
        have hqm : Hd (xs.length + ys.length ≤ maxLen ∧ (xs.length + ys.length) * 56 ≤ 140737488355328) := ⟨by
          (have : maxLen = 9223372036854775807 := rfl); (have h1 := hXl.out); (have h2 := hle2.out); (have h3 := hL.2)
          omega⟩
        (have hYn : Hd (∀ x ∈ ys.map (·.1), x ∈ ys.map (·.1)) := ⟨fun _ h => h⟩); (have hLs' := hid hLs); (have hYl' := hid hYl); (obtain ⟨a6, c6, hv6, _, _⟩ := Rd.shape2 hYo.out); (subst hv6); (clear HI hD6 k6 oY hcc hDr hK hO hLs hYl h05 h5r h6r); (go_wp2_with (at_builtin; refine wpList_append _ rfl _ _ 54 rfl 59 5 56 TAss _ xs.length (xs.flatMap asC) rfl hO6.out.own (.slice a6 ys.length c6) ys.length (ys.flatMap asC) rfl hYo.out (asC_one hYr.out) hqm.out.1 hqm.out.2 ?_)); (intro v7 w7 q2 q3 q4 _); (have hO7 := hid (hO6.out.add hYr.out hs6.out q2 q3 q4)); (have hK8 : Hd (Kept (bm bV bM) w5 w7) := ⟨hK7.out.trans q3 fun j hj e => absurd e (hO6.out.new.notOb hj)⟩); (have hD8 : Hd (DS no n gs gS bV bM (N + 1 + Cvf + (k + 1) * D) w7) := ⟨hD7.out.keptOb hD5.out hK8.out hO6.out.own q3⟩); (clear q2 q3 q4 hO6 hD7 hK7 hs6 hYr hYo hqm); (have hXl2 : Hd ((xs ++ ys).length ≤ (k + 1) * Lb) := ⟨by have := hXl.out; have := hYl'.out; rw [List.length_append, hml2.out]; omega⟩)
        have hA2 : Hd (∀ K ∈ (kids n T).take (k + 1), ∃ M, Lst n gs K M ∧ ∀ x ∈ M, x ∈ (xs ++ ys).map (·.1)) := ⟨fun K hK => by
          (rw [htk.out, List.mem_append] at hK); (rw [List.map_append])
          rcases hK with hK | hK
          · (obtain ⟨M, h1, h2⟩ := hA.out K hK); (exact ⟨M, h1, fun x hx => List.mem_append_left _ (h2 x hx)⟩)
          · obtain rfl := List.mem_singleton.1 hK
            exact ⟨_, hLs'.out, fun x hx => List.mem_append_right _ hx⟩⟩
        have hB2 : Hd (∀ x ∈ (xs ++ ys).map (·.1), ∃ K ∈ kids n T, ∃ M, Lst n gs K M ∧ x ∈ M) := ⟨fun x hx => by
          rw [List.map_append, List.mem_append] at hx
          rcases hx with hx | hx
          · exact hB.out x hx
          · exact ⟨_, hmem.out, _, hLs'.out, hx⟩⟩
        (go_wp2); (go_roundw)
        case rel => first | exact ⟨k + 1, _, by omega, by go_num, hO7, hXl2, hA2, hB2, hD8, hK8⟩ | ((repeat apply Exists.intro); exact ⟨⟨k + 1, _, by omega, by go_num, hO7, hXl2, hA2, hB2, hD8, hK8⟩, rfl⟩)
        case measure => simp [intOf]; omega
      · (obtain rfl : k = m := by omega); (have hk1 : ¬ (k : Int) < (k : Int) := by omega); (have hLst : Hd (Lst n gs T (xs.map (·.1))) := ⟨Lst.kids hT'.out hne.out (fun K hK => hA.out K (by rw [List.take_of_length_le (by rw [hkl'.out]; omega)]; exact hK)) hB.out⟩); (have hle : k * D ≤ 4 * D := Nat.mul_le_mul_right _ hm4); (have hle2 : k * Lb ≤ 4 * Lb := Nat.mul_le_mul_right _ hm4); (have hlen : Hd (xs.length ≤ 4 * Lb) := ⟨Nat.le_trans hXl.out hle2⟩); (have hDF : Hd (DS no n gs gS bV bM (N + (1 + Cvf + 4 * D)) wr) := ⟨hDr.out.more (by omega)⟩); (have kF := hid (k05.out.trans hK.out fun _ _ h => h)); (clear hle hle2); (go_wp2); (go_ret); (have hOF := hO.out.of k05.out.size); (first | exact ⟨_, xs, rfl, hOF, hLst.out, hlen.out, hDF.out, kF.out⟩ | exact ⟨_, rfl, xs, hOF, hLst.out, hlen.out, hDF.out, kF.out⟩)
end Go.Proofs.YtaobaaaihgahfaaGreat

/- Package derive: lists of tails; newSearch. -/
namespace Go.Nr
open Go.Pil Go.Mg
/-- A row of margins, the first k of which are laid. -/
def rowP (n : Nat) (gs : List Grp) (a k : Nat) : List Int := (List.range n).map fun b => if b < k ∧ b ≠ a then mg n gs ⟨1, (a : Int), (b : Int), [], 0⟩ else 0
theorem rowP_len (n : Nat) (gs : List Grp) (a k : Nat) : (rowP n gs a k).length = n := by unfold rowP; simp
theorem rowP_zero (n : Nat) (gs : List Grp) (a : Nat) : rowP n gs a 0 = List.replicate n 0 := by
  (unfold rowP); (refine List.eq_replicate_iff.2 ⟨by simp, fun x hx => ?_⟩); (obtain ⟨b, _, rfl⟩ := List.mem_map.1 hx); (rw [if_neg (by omega)])
theorem rowP_at (n : Nat) (gs : List Grp) (a k b : Nat) (hb : b < n) : (rowP n gs a k)[b]? = some (if b < k ∧ b ≠ a then mg n gs ⟨1, (a : Int), (b : Int), [], 0⟩ else 0) := by
  unfold rowP; simp [hb]
theorem rowP_set (n : Nat) (gs : List Grp) (a k : Nat) (hk : k < n) (hne : k ≠ a) : (rowP n gs a k).set k (mg n gs ⟨1, (a : Int), (k : Int), [], 0⟩) = rowP n gs a (k + 1) := by
  apply List.ext_getElem?
  intro b
  by_cases hb : b < n
  · rw [List.getElem?_set, rowP_at n gs a (k + 1) b hb, rowP_at n gs a k b hb]
    by_cases he : k = b
    · (subst he); (rw [if_pos rfl, if_pos (by rw [rowP_len]; exact hk), if_pos ⟨by omega, hne⟩])
    · (rw [if_neg he]); (have : (b < k ∧ b ≠ a) ↔ (b < k + 1 ∧ b ≠ a) := ⟨fun h => ⟨by omega, h.2⟩, fun h => ⟨by omega, h.2⟩⟩); (simp only [this])
  · rw [List.getElem?_eq_none (by rw [List.length_set, rowP_len]; omega), List.getElem?_eq_none (by rw [rowP_len]; omega)]
theorem rowP_skip (n : Nat) (gs : List Grp) (a : Nat) : rowP n gs a a = rowP n gs a (a + 1) := by
  (unfold rowP); (refine List.map_congr_left fun b _ => ?_); (have : (b < a ∧ b ≠ a) ↔ (b < a + 1 ∧ b ≠ a) := ⟨fun h => ⟨by omega, h.2⟩, fun h => ⟨by omega, h.2⟩⟩); (simp only [this])
theorem Cl_succ (f : Nat) : Cl (f + 1) = 1 + Cv (f + 1) + 4 * Cl f := rfl
end Go.Nr
namespace Go.Proofs.YtaobaaaihgahfaaGreat
open Go.RowKit Go.Mk Go.Pil Go.Mg Go.Nr Go.Sort Go.Maps
/-- The list of a tail. -/
theorem list_any (n : Nat) (gs : List Grp) (gS bV bM : Nat) (h2 : 2 ≤ n) (hn : n ≤ 4) (hp : isPile (n : Int) gs = true) : ∀ (f : Nat), f ≤ 3 → ∀ (T : List Int), Tl n T → n ≤ T.length + f → ∀ (vT : Value) (N : Nat) (w : World), RdZ w vT T → DS no n gs gS bV bM N w → N + Cl f ≤ 1000000 →
    Calls Tryz.prog 63 #[.pointer (some ⟨gS, 0, none⟩), vT] w fun e w' => ∃ v xs, e = .returned v ∧ OwAs w w' v xs ∧ Lst n gs T (xs.map (·.1)) ∧ xs.length ≤ 4 ^ (f + 1) ∧ DS no n gs gS bV bM (N + Cl f) w' ∧ Kept (bm bV bM) w w' := by
  intro f
  induction f with
  | zero =>
    (intro _ T hT hf vT N w ht hD hN); (have hC : Cl 0 = 1 + Cv 0 := rfl); (refine (listStep_any n gs gS bV bM N (Cv 0) 0 1 vT T w h2 hn hp hT ht hD (by omega) ⟨by omega, by omega⟩ (fun vU M W hU hDW hM => value_any n gs gS bV bM h2 hn hp 0 T hT hf vU M W hU hDW hM) fun c hc => ?_).mono fun e w' ⟨v, xs, h1, h2, h3, h4, h5, h6⟩ => ⟨v, xs, h1, h2, h3, h4, h5.more (by omega), h6⟩); (have := len_le (hT.kid hc)); (rw [List.length_cons] at this)
    omega
  | succ f ihf =>
    (intro hf3 T hT hf vT N w ht hD hN); (have hC := Cl_succ f)
    have hpw : 4 ^ (f + 1) ≤ 1000 ∧ 1 ≤ 4 ^ (f + 1) := by
      have : ∀ f, f ≤ 2 → 4 ^ (f + 1) ≤ 1000 ∧ 1 ≤ 4 ^ (f + 1) := by
        intro f hf
        rcases (by omega : f = 0 ∨ f = 1 ∨ f = 2) with rfl | rfl | rfl <;> decide
      exact this f (by omega)
    (refine (listStep_any n gs gS bV bM N (Cv (f + 1)) (Cl f) (4 ^ (f + 1)) vT T w h2 hn hp hT ht hD (by omega) ⟨hpw.2, hpw.1⟩ (fun vU M W hU hDW hM => value_any n gs gS bV bM h2 hn hp (f + 1) T hT hf vU M W hU hDW hM) fun c hc vU M W hU hDW hM => ?_).mono fun e w' ⟨v, xs, h1, h2, h3, h4, h5, h6⟩ => ⟨v, xs, h1, h2, h3, by rw [Nat.pow_succ]; omega, h5.more (by omega), h6⟩); (exact ihf (by omega) (c :: T) (hT.kid hc) (by rw [List.length_cons]; omega) vU M W hU hDW hM)
theorem OwL.setS {w w1 w2 : World} {v : Value} {rows : List (List Int × Value)} (h : OwL w w1 v rows) {g : Nat} {C : Array Value} (hg : w1.heap[g]? = some (.cells C 182 (0, 0))) (hl : w.heap.size ≤ g) (k : Kept (fun j => j = g) w1 w2) : OwL w w2 v rows :=
  ⟨k.ownsRow h.own fun j hj e => own_ne h.own hg (by decide) j hj e, fun x hx => k.ownsRow (h.rows x hx) fun j hj e => own_ne (h.rows x hx) hg (by decide) j hj e, h.kept.trans k fun j hj (e : j = g) => by omega, h.new⟩
/-- A new search. -/
def NsR (n : Nat) (gs : List Grp) (w : World) (e : Ending) (w' : World) : Prop := ∃ gS bV bM, e = .returned (.pointer (some ⟨gS, 0, none⟩)) ∧ DS no n gs gS bV bM 0 w' ∧ Kept no w w' ∧ w.heap.size ≤ bV ∧ w.heap.size ≤ bM
set_option maxRecDepth 100000 in
set_option maxHeartbeats 4000000 in
theorem newSearch_any (n : Nat) (vg : Value) (ps : List (Grp × Value)) (w : World) (h2 : 2 ≤ n) (hn : n ≤ 7) (hp : isPile (n : Int) (grps ps) = true) (hg : RdG w vg ps) :
    Calls Tryz.prog 62 #[.int .i64 (n : Int), vg] w (NsR n (grps ps) w) := by
  (have HM := hid (fun (a b : Nat) (ha : a < n) (hb : b < n) (hne : b ≠ a) (W : World) (k : Kept no w W) => marginN_any n ⟨1, (a : Int), (b : Int), [], 0⟩ vg (.slice none 0 0) ps W (by omega) hn hp ⟨by show (0 : Int) ≤ a; omega, by show (a : Int) < n; omega, by show (0 : Int) ≤ b; omega, by show (b : Int) < n; omega, by show (a : Int) ≠ b; omega, rfl, .inl ⟨rfl, rfl⟩⟩ (OZ.nil W).rd (hg.kept k))); (unfold asV at HM)
  dsimp only at HM
  (obtain ⟨ag, cg, hvg, _, _⟩ := hg.shape); (subst hvg); (obtain ⟨lg, hlg⟩ : ∃ l, ps.length = l := ⟨_, rfl⟩); (have hg' := hid hg); (rw [hlg] at HM ⊢); (obtain ⟨w1, hw1, g1, k1⟩ := alloc_named w (.map #[] 0)); (have e1 : w1.heap.size = w.heap.size + 1 := by rw [hw1]; simp); (obtain ⟨w2, hw2, g2, k2⟩ := alloc_named w1 (.map #[] 0)); (have e2 : w2.heap.size = w1.heap.size + 1 := by rw [hw2]; simp); (obtain ⟨bV, hbV⟩ : ∃ g, w.heap.size = g := ⟨_, rfl⟩); (obtain ⟨bM, hbM⟩ : ∃ g, w1.heap.size = g := ⟨_, rfl⟩); (obtain ⟨gS, hgS⟩ : ∃ g, w2.heap.size = g := ⟨_, rfl⟩); (obtain ⟨w3, hw3, g3, k3⟩ := alloc_named w2 (.cells #[.int .i64 (n : Int), .slice ag lg cg, .slice none 0 0, .map (some bV), .map (some bM)] 182)); (rw [hbV] at g1); (rw [hbM] at g2); (rw [hgS] at g3); (have m1 := hid (((k3.block bV (by omega) id).trans (k2.block bV (by omega) id)).trans g1)); (have m2 := hid ((k3.block bM (by omega) id).trans g2)); (have m3 := hid g3); (have k03 := hid ((k1.trans' k2).trans' k3)); (have hsz : Hd (bV = w.heap.size ∧ bM = w.heap.size + 1 ∧ gS = w.heap.size + 2) := ⟨by omega⟩); (have hx1 := hid hbV); (have hx2 := hid hbM); (have hx3 := hid hgS); (have hmk1 : (Instr.makeMap 179 none).run Tryz.prog w = .ok (.map (some bV)) w1 := by rw [← hbV, hw1]; rfl); (have hmk2 : (Instr.makeMap 180 none).run Tryz.prog w1 = .ok (.map (some bM)) w2 := by rw [← hbM, hw2]; rfl); (replace hw1 := hid hw1); (replace hw2 := hid hw2); (replace hw3 := hid hw3); (clear g1 g2 g3 k1 k2 k3 e1 e2 hbV hbM hgS hg hp)
  go_enter Tryz.func62, Tryz.ntmps62
  (go_upto_region 3 with fail); (try rw [hx3.out]); (rw [← hw3.out]); (clear hmk1 hmk2)
  go_loopw [16] (fun i wr => ∃ (a : Nat) (out : Value) (rows : List (List Int × Value)), a ≤ n ∧ i = .int .i64 (a : Int) ∧ Hd (wr.heap[gS]? = some (.cells #[.int .i64 (n : Int), .slice ag lg cg, out, .map (some bV), .map (some bM)] 182 (0, 0))) ∧ Hd (OwL w wr out rows) ∧ Hd (lists rows = (List.range a).map fun c => rowP n (grps ps) c n) ∧ Hd (wr.heap[bV]? = some (.map #[] 0)) ∧ Hd (wr.heap[bM]? = some (.map #[] 0))) (fun i _ => n - (intOf i).toNat)
  case atStart => exact ⟨0, _, [], by omega, rfl, m3, ⟨(OwL.nil w).keptNo k03.out⟩, ⟨rfl⟩, m1, m2⟩
  case round =>
    (clear m1 m2 m3); (obtain ⟨a, out, rows, ha, rfl, hS, hO, hL, hV, hM⟩ := hrel)
    by_cases hlt : a < n
    · (have ha1 : (a : Int) < (n : Int) := by omega); (have ha0 : (0 : Int) ≤ (a : Int) := by omega); (have hmk := makeZ n (by omega) wr); (obtain ⟨w5, hw5, g5, k5⟩ := alloc_named wr (.cells (zsA (List.replicate n 0)) 3)); (obtain ⟨G, hG⟩ : ∃ g, wr.heap.size = g := ⟨_, rfl⟩); (rw [hG] at g5 hmk); (rw [← hw5] at hmk); (have g5' : Hd (w5.heap[G]? = some (.cells (zsA (rowP n (grps ps) a 0)) 3 (0, 0))) := ⟨by rw [rowP_zero]; exact g5⟩); (have k5' := hid k5); (obtain ⟨wa, hwa⟩ : ∃ W, W = wr := ⟨_, rfl⟩); (subst hwa); (have hG' := hid hG); (replace hw5 := hid hw5); (clear g5 k5 hG); (go_upto_region 7 with fail); (clear hmk)
      go_loopw [22] (fun i wr => ∃ k : Nat, k ≤ n ∧ i = .int .i64 (k : Int) ∧ Hd (wr.heap[G]? = some (.cells (zsA (rowP n (grps ps) a k)) 3 (0, 0))) ∧ Hd (Kept (fun j => j = G) w5 wr)) (fun i _ => n - (intOf i).toNat)
      case atStart => exact ⟨0, by omega, rfl, g5', ⟨Kept.refl _ _⟩⟩
      case round =>
        (clear g5'); (obtain ⟨k, hk, rfl, hgG, hK⟩ := hrel); (have kar : Hd (Kept no wa wr) := ⟨k5'.out.trans hK.out fun j hj (e : j = G) => by have := hG'.out; omega⟩)
        by_cases hkn : k < n
        · (have hk1 : (k : Int) < (n : Int) := by omega); (have hk0 : (0 : Int) ≤ (k : Int) := by omega)
          by_cases hka : k = a
          · (subst hka); (have hne : ((k : Int) != (k : Int)) = false := by simp); (have hg2 : Hd (wr.heap[G]? = some (.cells (zsA (rowP n (grps ps) k (k + 1))) 3 (0, 0))) := ⟨by rw [← rowP_skip]; exact hgG.out⟩); (clear hgG); (go_wp2); (go_roundw)
            case rel => first | exact ⟨k + 1, by omega, by go_num, hg2, hK⟩ | ((repeat apply Exists.intro); exact ⟨⟨k + 1, by omega, by go_num, hg2, hK⟩, rfl⟩)
            case measure => simp [intOf]; omega
          · (have hne : ((a : Int) != (k : Int)) = true := bne_iff_ne.2 (by omega)); (have HM1 := hid (HM.out a k hlt hkn hka wr (hO.out.kept.trans' kar.out))); (obtain ⟨z, hz⟩ : ∃ z, mg n (grps ps) ⟨1, (a : Int), (k : Int), [], 0⟩ = z := ⟨_, rfl⟩); (rw [hz] at HM1); (have hset := rowP_set n (grps ps) a k hkn hka); (rw [hz] at hset); (replace hset := hid hset); (replace hka := hid hka); (clear hz); (go_wp2_with fail); (with_reducible refine HM1.out.mono ?_); (rintro e w6 ⟨rfl, k6⟩); (have hg6 := k6.blk hgG.out); (have fz := row_free hg6 k); (have hcell := zsA_at hg6 k (by rw [rowP_len]; exact hkn)); (have hg7 : Hd ((w6.setCell ⟨G, k, none⟩ (.int .i64 z)).heap[G]? = some (.cells (zsA (rowP n (grps ps) a (k + 1))) 3 (0, 0))) := ⟨by rw [setCell_row hg6, zsA_set, hset.out]⟩); (have hK7 : Hd (Kept (fun j => j = G) w5 (w6.setCell ⟨G, k, none⟩ (.int .i64 z))) := ⟨(hK.out.trans k6 fun _ _ h => h.elim).setCell (a := ⟨G, k, none⟩) (.inl rfl) (.int .i64 z)⟩); (replace hg6 := hid hg6); (clear HM1 k6 hgG hK kar); (go_wp2); (go_roundw)
            case rel => first | exact ⟨k + 1, by omega, by go_num, hg7, hK7⟩ | ((repeat apply Exists.intro); exact ⟨⟨k + 1, by omega, by go_num, hg7, hK7⟩, rfl⟩)
            case measure => simp [intOf]; omega
        · (obtain rfl : k = n := by omega); (have hk1 : ¬ (k : Int) < (k : Int) := by omega); (have hOr := hid (hO.out.keptNo kar.out)); (have hSr := hid (kar.out.blk hS.out)); (have hVr : Hd (wr.heap[bV]? = some (.map #[] 0)) := ⟨(kar.out.block bV (lt_of_heap hV.out) id).trans hV.out⟩); (have hMr : Hd (wr.heap[bM]? = some (.map #[] 0)) := ⟨(kar.out.block bM (lt_of_heap hM.out) id).trans hM.out⟩); (have c2 : wr.cell? ⟨gS, 2, none⟩ = some out := cell_at hSr.out rfl); (have hrow : Hd (wr.ownsRow 0 3 1 (.slice (some ⟨G, 0, none⟩) k k) (rowP k (grps ps) a k).length ((rowP k (grps ps) a k).map Z)) := ⟨own_zsA hgG.out k (rowP_len _ _ _ _) (by have : maxLen = 9223372036854775807 := rfl; omega)⟩); (have hrl : rows.length = a := by rw [← lists_length, hL.out]; simp); (have hqm : Hd (rows.length + 1 ≤ maxLen ∧ (rows.length + 1) * 24 ≤ 140737488355328) := ⟨by have : maxLen = 9223372036854775807 := rfl; omega⟩); (have hL2 : Hd (lists (rows ++ [(rowP k (grps ps) a k, (.slice (some ⟨G, 0, none⟩) k k : Value))]) = (List.range (a + 1)).map fun c => rowP k (grps ps) c k) := ⟨by rw [List.range_succ, List.map_append, ← hL.out]; simp [lists]⟩); (clear hgG hK kar hS hO hV hM hrl hL); (go_wp2_with (at_builtin; refine wpList_append_lit _ rfl _ _ 25 rfl 26 1 24 TBals _ _ _ rfl hOr.out.own 1 [.slice (some ⟨G, 0, none⟩) k k] rfl rfl (fun u hu => by obtain rfl := List.mem_singleton.1 hu; rfl) hqm.out.1 hqm.out.2 ?_)); (intro v6 w6 q2 q3 q4 _); (have hO6 := hid (hOr.out.add (rowP k (grps ps) a k) (Kept.refl _ _) hrow.out q2 q3 q4))
          have nomap : ∀ b : Nat, wr.heap[b]? = some (.map #[] 0) → ¬ ob out b := fun b hb e => by
            obtain ⟨_, ⟨rfl, _⟩ | ⟨g, cap, cur, rfl, _, hg, _⟩⟩ := hOr.out.own
            · cases e
            · (have : g = b := by have := e; unfold ob at this; simpa [Value.ownBlock] using this); (subst this); (rw [hg] at hb; cases hb)
          (have hV6 : Hd (w6.heap[bV]? = some (.map #[] 0)) := ⟨(q3.block bV (lt_of_heap hVr.out) (nomap bV hVr.out)).trans hVr.out⟩); (have hM6 : Hd (w6.heap[bM]? = some (.map #[] 0)) := ⟨(q3.block bM (lt_of_heap hMr.out) (nomap bM hMr.out)).trans hMr.out⟩); (have hS6 : w6.heap[gS]? = some (.cells #[.int .i64 (k : Int), .slice ag lg cg, out, .map (some bV), .map (some bM)] 182 (0, 0)) := (q3.block gS (lt_of_heap hSr.out) (fun e => own_ne hOr.out.own hSr.out (by decide) gS e rfl)).trans hSr.out); (obtain ⟨a6, l6, c6, rfl⟩ : ∃ a l c, v6 = .slice a l c := by obtain ⟨a, c, h, _⟩ := Rd.shape2 (Rd.of_own hO6.out.own); exact ⟨_, _, _, h⟩); (have fz := row_free hS6 2); (have hcell : w6.cell? ⟨gS, 2, none⟩ = some out := cell_at hS6 rfl); (obtain ⟨w7, hw7⟩ : ∃ W, w6.setCell ⟨gS, 2, none⟩ (.slice a6 l6 c6) = W := ⟨_, rfl⟩); (have k7 : Kept (fun j => j = gS) w6 w7 := by rw [← hw7]; exact (Kept.refl (fun j => j = gS) w6).setCell (a := ⟨gS, 2, none⟩) (.inl rfl) _); (have hS7 : Hd (w7.heap[gS]? = some (.cells #[.int .i64 (k : Int), .slice ag lg cg, .slice a6 l6 c6, .map (some bV), .map (some bM)] 182 (0, 0))) := ⟨by rw [← hw7, setCell_row hS6]; rfl⟩); (have hO7 := hid (hO6.out.setS hS6 (by have := hsz.out; omega) k7)); (have hV7 : Hd (w7.heap[bV]? = some (.map #[] 0)) := ⟨(k7.block bV (lt_of_heap hV6.out) (fun (e : bV = gS) => by have := hsz.out; omega)).trans hV6.out⟩); (have hM7 : Hd (w7.heap[bM]? = some (.map #[] 0)) := ⟨(k7.block bM (lt_of_heap hM6.out) (fun (e : bM = gS) => by have := hsz.out; omega)).trans hM6.out⟩); (replace hS6 := hid hS6); (clear q2 q3 q4 hOr hSr hVr hMr hrow nomap hO6 hV6 hM6 k7 hqm c2); (go_wp2); (go_roundw)
          case rel => first | exact ⟨a + 1, _, _, by omega, by go_num, hS7, hO7, hL2, hV7, hM7⟩ | ((repeat apply Exists.intro); exact ⟨⟨a + 1, _, _, by omega, by go_num, hS7, hO7, hL2, hV7, hM7⟩, rfl⟩)
          case measure => simp [intOf]; omega
    · (obtain rfl : a = n := by omega); (have ha1 : ¬ (a : Int) < (a : Int) := by omega)
      have hF : Hd (DS no a (grps ps) gS bV bM 0 wr ∧ Kept no w wr) := ⟨by
        refine ⟨⟨⟨_, _, hS.out, ⟨ps, rfl, ?_⟩, rows, hO.out.rd, ?_, ?_⟩, ?_, ?_, ?_⟩, hO.out.kept⟩
        · (have := hg'.out.kept hO.out.kept); (rw [hlg] at this); (exact this)
        · rw [← lists_length, hL.out]; simp
        · (intro c hc); (have e : (lists rows).getD c [] = rowP a (grps ps) c a := by rw [hL.out, List.getD_eq_getElem?_getD]; simp [hc]); (rw [e]); (refine ⟨rowP_len _ _ _ _, fun b hb hne => ?_⟩); (rw [List.getD_eq_getElem?_getD, rowP_at a (grps ps) c a b hb, if_pos ⟨hb, hne⟩]; rfl)
        · (have h0 := (MapS.made Tryz.prog 3 w (SV no a (grps ps) wr)).mono (w' := wr) (by rw [heap_alloc_new, hx1.out]; exact hV.out) (Nat.le_refl 0) (fun _ _ h => h)); (rw [hx1.out] at h0); (exact h0)
        · (have h0 := (MapS.made Tryz.prog 9 w1 (SM a (grps ps))).mono (w' := wr) (by rw [heap_alloc_new, hx2.out]; exact hM.out) (Nat.le_refl 0) (fun _ _ h => h)); (rw [hx2.out] at h0); (exact h0)
        · have := hsz.out; omega⟩
      (go_wp2); (go_ret); (unfold NsR); (exact ⟨gS, bV, bM, rfl, hF.out.1, hF.out.2, by have := hsz.out; omega, by have := hsz.out; omega⟩)
end Go.Proofs.YtaobaaaihgahfaaGreat
