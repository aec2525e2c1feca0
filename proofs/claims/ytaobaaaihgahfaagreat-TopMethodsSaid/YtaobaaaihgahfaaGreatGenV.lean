/- pile.Make: groups with preferences of their own; the pile of any ballots. -/
import Derived.Test.YtaobaaaihgahfaaGreatAddV
import Derived.Test.YtaobaaaihgahfaaGreatCntV
namespace Go.Mk
def apart (v u : Value) : Prop := ∀ j, v.ownBlock = some j → u.ownBlock = some j → False
end Go.Mk
namespace Go.Pil
def allB (n : Int) (ls : List (List Int)) : Bool := ls.all (ballot n)
/-- What Make answers. -/
def mk (n : Int) (ls : List (List Int)) : List Grp × Int := if n < 1 ∨ 7 < n then ([], 4) else if 100000 < ls.length then ([], 7) else if allB n ls = true then (pileOf (ones ls), 0) else ([], 8)
theorem allB_take {n : Int} {ls : List (List Int)} {k : Nat} {p : List Int} (hp : ls[k]? = some p) (h : allB n (ls.take k) = true) (hb : ballot n p = true) : allB n (ls.take (k + 1)) = true := by
  (obtain ⟨hk, hgk⟩ := List.getElem?_eq_some_iff.1 hp); (unfold allB at *); (rw [List.take_succ_eq_append_getElem hk, List.all_append, h, hgk])
  simp [hb]
theorem allB_fail {n : Int} {ls : List (List Int)} {k : Nat} {p : List Int} (hp : ls[k]? = some p) (hb : ballot n p = false) : allB n ls = false := by
  unfold allB
  cases h : ls.all (ballot n) with
  | false => rfl
  | true => have := List.all_eq_true.1 h p (List.mem_of_getElem? hp); rw [hb] at this; cases this
theorem ones_take {ls : List (List Int)} {k : Nat} {p : List Int} (hp : ls[k]? = some p) : ones (ls.take (k + 1)) = ones (ls.take k) ++ [⟨p, 1⟩] := by
  (obtain ⟨hk, hgk⟩ := List.getElem?_eq_some_iff.1 hp); (rw [List.take_succ_eq_append_getElem hk, hgk]; simp [ones])
end Go.Pil
namespace Go.Proofs.YtaobaaaihgahfaaGreat
open Go.RowKit Go.Mk Go.Pil
def lists (bs : List (List Int × Value)) : List (List Int) := bs.map (·.1)
theorem lists_length (bs : List (List Int × Value)) : (lists bs).length = bs.length := by simp [lists]
theorem lists_get {bs : List (List Int × Value)} {k : Nat} (hk : k < bs.length) {p : List Int} {v : Value} (h : bs[k] = (p, v)) : (lists bs)[k]? = some p := by
  unfold lists; rw [List.getElem?_map, List.getElem?_eq_getElem hk, h]; rfl
/-- Groups that can be read behind a call. -/
def GR (w w' : World) (v : Value) (gs : List Grp) : Prop := ∃ qs, grps qs = gs ∧ RdG w' v qs ∧ Kept no w w'
/-- Groups of their own, each with preferences of its own. -/
structure OwC (w w' : World) (v : Value) (qs : List (Grp × Value)) : Prop where
  own : w'.ownsRow 0 105 2 v qs.length (flatG qs)
  rows : ∀ x ∈ qs, w'.ownsRow 0 3 1 x.2 x.1.p.length (x.1.p.map Z)
  kept : Kept no w w'
  new : New w v
  newr : ∀ x ∈ qs, New w x.2
  dist : qs.Pairwise fun x y => apart x.2 y.2
theorem int_ne_group : 3 ≠ 105 := by decide
theorem OwC.nil (w : World) : OwC w w (.slice none 0 0) [] := ⟨World.ownsRow_nil _ _ _ _, (fun x hx => by cases hx), Kept.refl _ _, .inl rfl, (fun x hx => by cases hx), List.Pairwise.nil⟩
theorem OwC.keptNo {w w' w2 : World} {v : Value} {qs : List (Grp × Value)} (h : OwC w w' v qs) (k : Kept no w' w2) : OwC w w2 v qs :=
  ⟨k.ownsRow h.own fun _ _ => id, fun x hx => k.ownsRow (h.rows x hx) fun _ _ => id, h.kept.trans' k, h.new, h.newr, h.dist⟩
theorem OwC.rows_kept {w w' W : World} {v : Value} {qs : List (Grp × Value)} (h : OwC w w' v qs) (k : Kept (ob v) w' W) : ∀ x ∈ qs, W.ownsRow 0 3 1 x.2 x.1.p.length (x.1.p.map Z) := fun x hx =>
  k.ownsRow (h.rows x hx) fun j hj hv => own_own (h.rows x hx) h.own int_ne_group j hj hv
theorem OwC.rdAll {w w' : World} {v : Value} {qs : List (Grp × Value)} (h : OwC w w' v qs) : ∀ x ∈ qs, ∀ W, Kept (ob v) w' W → RdZ W x.2 x.1.p := fun x hx _ k => own_RdZ (h.rows_kept k x hx)
/-- One group more: w1 the world behind the new preferences u, w2 behind the append. -/
theorem OwC.add {w w0 w1 w2 : World} {v v' u : Value} {qs : List (Grp × Value)} (h : OwC w w0 v qs) (g : Grp) (k1 : Kept no w0 w1) (hu : w1.ownsRow 0 3 1 u g.p.length (g.p.map Z)) (hn : New w0 u)
    (ho : w2.ownsRow 0 105 2 v' (qs.length + 1) (flatG qs ++ [u, .int .i64 g.n])) (hk : Kept (ob v) w1 w2) (hv : NewOr w1 v v') : OwC w w2 v' (qs ++ [(g, u)]) := by
  (have h1 := h.keptNo k1); (refine ⟨by rw [List.length_append, flatG_append, flatG_one]; exact ho, fun x hx => ?_, h1.new.kept h1.kept hk, h1.new.step hv h1.kept.size, fun x hx => ?_, ?_⟩)
  · rcases List.mem_append.1 hx with hx | hx
    · exact h1.rows_kept hk x hx
    · (obtain rfl : x = (g, u) := by simpa using hx); (exact hk.ownsRow hu fun j hj hv => own_own hu h1.own int_ne_group j hj hv)
  · rcases List.mem_append.1 hx with hx | hx
    · exact h.newr x hx
    · (obtain rfl : x = (g, u) := by simpa using hx); (exact hn.of h.kept.size)
  · (rw [List.pairwise_append]); (refine ⟨h.dist, by simp, fun x hx y hy => ?_⟩); (obtain rfl : y = (g, u) := by simpa using hy); (intro j hj hj'); (have h3 := own_lt (h.rows x hx) j hj); (have h4 := hn.fr (Nat.le_refl _) j hj')
    omega
end Go.Proofs.YtaobaaaihgahfaaGreat

/- Made ballots: electionmake.Ballot; lists of ballots of their own. -/
namespace Go.Pil
/-- The numbers modulo n, each once, at most n of them. -/
def balStep (n : Int) (out : List Int) (y : Int) : List Int := if (out.length : Int) < n ∧ (y.tmod n + n).tmod n ∉ out then out ++ [(y.tmod n + n).tmod n] else out
def bal (n : Int) (l : List Int) : List Int := l.foldl (balStep n) []
end Go.Pil
namespace Go.Proofs.YtaobaaaihgahfaaGreat
open Go.RowKit Go.Mk Go.Pil
/-- Ballots of their own, each of its own. -/
structure OwL (w w' : World) (v : Value) (bs : List (List Int × Value)) : Prop where
  own : w'.ownsRow 0 26 1 v bs.length (bs.map (·.2))
  rows : ∀ x ∈ bs, w'.ownsRow 0 3 1 x.2 x.1.length (x.1.map Z)
  kept : Kept no w w'
  new : New w v
theorem OwL.keptNo {w w' w2 : World} {v : Value} {bs : List (List Int × Value)} (h : OwL w w' v bs) (k : Kept no w' w2) : OwL w w2 v bs :=
  ⟨k.ownsRow h.own fun _ _ => id, fun x hx => k.ownsRow (h.rows x hx) fun _ _ => id, h.kept.trans' k, h.new⟩
theorem pre_slice (av : Option Addr) (lv cv m : Nat) (hav : cv = 0 ∨ ∃ b o, av = some ⟨b, o, none⟩) (hm : m ≤ cv) (w : World) : (Instr.slice 26 (.slice av lv cv) none (some (.int .i64 (m : Int))) none).run Tryz.prog w = .ok (.slice av m cv) w := by
  (have h0 : (0 : Int) ≤ (m : Int) := by omega); (have hc : Tryz.prog.underlying 26 = some (.slice 3) := by kernel_rfl)
  rcases hav with rfl | ⟨b, o, rfl⟩
  · obtain rfl : m = 0 := by omega
    simp [Instr.slice, Instr.sliceBounds, Instr.sliceBound, run_underlying hc, asIntOf]
  · simp [Instr.slice, Instr.sliceBounds, Instr.sliceBound, run_underlying hc, asIntOf, h0]
    (have e : (⟨b, o, none⟩ : Addr).add 0 = ⟨b, o, none⟩ := by simp [Addr.add]); (rw [if_pos hm, e]; simp)
end Go.Proofs.YtaobaaaihgahfaaGreat

/- electionmake.Ballots (printed by gen_gen.py). -/
namespace Go.Pil
end Go.Pil
namespace Go.Proofs.YtaobaaaihgahfaaGreat
open Go.RowKit Go.Mk Go.Pil
/-- A slice of the one element. -/
def One {Sl : Nat → Nat → Prop} (d : Nat) : Pr Sl := rel d (fun u v w => ∃ g, v = .slice (some ⟨g, 0, none⟩) 1 1 ∧ w.cell? ⟨g, 0, none⟩ = some u) fun _ _ _ _ ⟨g, e, h⟩ k => ⟨g, e, k.cell h id⟩
/-- The value of the operation before. -/
def Is2 {Sl : Nat → Nat → Prop} (d : Nat) : Pr Sl := rel d (fun u v _ => v = u) fun _ _ _ _ h _ => h
/-- The list with the ballot more. -/
def More {Sl : Nat → Nat → Prop} (w : World) (bs : List (List Int × Value)) (p : List Int) (d : Nat) : Pr Sl := rel d (fun u v w' => OwL w w' v (bs ++ [(p, u)])) fun _ _ _ _ h k => h.keptNo k
theorem OwZ.of_kept {w0 w w' : World} {v : Value} {zs : List Int} (h : OwZ w w' v zs) (k : Kept no w0 w) : OwZ w0 w' v zs := ⟨h.own, k.trans' h.kept, h.new.of k.size⟩
end Go.Proofs.YtaobaaaihgahfaaGreat

/- The reference's Make, made piles, SamePile, the statements' small, same, Short. -/
namespace Go.Pil
theorem pileOf_snoc (l : List Grp) (g : Grp) : pileOf (l ++ [g]) = addG (pileOf l) g.p g.n := by unfold pileOf; rw [List.foldl_append]; rfl
theorem len_tot : ∀ {l : List Grp}, (∀ g ∈ l, 1 ≤ g.n) → (l.length : Int) ≤ tot l
  | [], _ => by simp [tot]
  | g :: l, h => by
    (have := len_tot (l := l) fun x hx => h x (by simp [hx])); (have := h g (by simp)); (rw [tot_cons]; simp only [List.length_cons]; omega)
theorem n_le_tot : ∀ {l : List Grp}, (∀ g ∈ l, 1 ≤ g.n) → ∀ g ∈ l, g.n ≤ tot l
  | [], _ => fun g hg => by cases hg
  | x :: l, h => fun g hg => by
    (have h1 := tot_nonneg (l := l) fun x hx => h x (by simp [hx])); (have h2 := h x (by simp)); (rw [tot_cons])
    rcases List.mem_cons.1 hg with rfl | hg
    · omega
    · have := n_le_tot (l := l) (fun x hx => h x (by simp [hx])) g hg; omega
end Go.Pil
namespace Go.Proofs.YtaobaaaihgahfaaGreat
open Go.RowKit Go.Mk Go.Pil
theorem small_of {ps : List (Grp × Value)} (h : ∀ g ∈ grps ps, 1 ≤ g.n) (ht : tot (grps ps) ≤ 100000) : small ps := by
  (have h1 := len_tot h); (rw [grps_length] at h1); (refine ⟨by omega, fun x hx => ?_⟩); (have hm : x.1 ∈ grps ps := List.mem_map_of_mem hx); (have := h _ hm); (have := n_le_tot h _ hm)
  omega
set_option maxRecDepth 100000 in
set_option maxHeartbeats 2000000 in
theorem refmake_any (n : Int) (v : Value) (bs : List (List Int × Value)) (w : World) (hr : RdB w v bs) : Calls Tryz.prog 97 #[.int .i64 n, v] w fun e w' => ∃ v', e = .returned (.tuple #[v', .int .i64 (mk n (lists bs)).2]) ∧ GR w w' v' (mk n (lists bs)).1 := by
  (obtain ⟨ao, cap, rfl, hcap, hcm⟩ := Rd.shape2 hr.2); (have hm63 := maxLen_63); (have nilGR : ∀ W, Kept no w W → GR w W (.slice none 0 0) [] := fun W k => ⟨[], rfl, ⟨(fun x hx => by cases hx), nil_rd _ _⟩, k⟩)
  by_cases hn : n < 1 ∨ 7 < n
  · (have hv : Hd (mk n (lists bs) = ([], 4)) := ⟨by unfold mk; rw [if_pos hn]⟩); (rw [hv.out])
    by_cases h1 : n < 1
    · (have hd1 : decide (n < 1) = true := decide_eq_true h1); (clear hr hn hv)
      go_enter Tryz.func97, Tryz.ntmps97
      (go_wp2); (go_ret2); (exact ⟨_, rfl, nilGR _ (Kept.refl _ _)⟩)
    · (have hd1 : decide (n < 1) = false := decide_eq_false h1); (have h7 : 7 < n := by omega); (have hd7 : decide (7 < n) = true := decide_eq_true h7); (clear hr hn hv)
      go_enter Tryz.func97, Tryz.ntmps97
      (go_wp2); (go_ret2); (exact ⟨_, rfl, nilGR _ (Kept.refl _ _)⟩)
  (have hd1 : decide (n < 1) = false := decide_eq_false (by omega)); (have hd7 : decide (7 < n) = false := decide_eq_false (by omega)); (have hn1 : ¬ n < 1 := by omega); (have hn7 : ¬ 7 < n := by omega)
  by_cases hl : 100000 < bs.length
  · (have hv : Hd (mk n (lists bs) = ([], 7)) := ⟨by unfold mk; rw [if_neg hn, if_pos (by rw [lists_length]; exact hl)]⟩); (rw [hv.out]); (have hl' : (100000 : Int) < (bs.length : Int) := by omega); (clear hr hn hv)
    go_enter Tryz.func97, Tryz.ntmps97
    (go_wp2); (go_ret2); (exact ⟨_, rfl, nilGR _ (Kept.refl _ _)⟩)
  (have hl' : ¬ (100000 : Int) < (bs.length : Int) := by omega); (have hmk : Hd (mk n (lists bs) = if allB n (lists bs) = true then (pileOf (ones (lists bs)), 0) else ([], 8)) := ⟨by unfold mk; rw [if_neg hn, if_neg (by rw [lists_length]; exact hl)]⟩); (replace hr := hid hr); (clear hn); (obtain ⟨len, hlen⟩ : ∃ len, bs.length = len := ⟨_, rfl⟩); (rw [hlen] at hr hcap hl hl' ⊢); (replace hlen := hid hlen)
  go_enter Tryz.func97, Tryz.ntmps97
  go_wp2
  go_loopw [6, 7] (fun out i wr => ∃ (k : Nat) (qs : List (Grp × Value)), k ≤ len ∧ i = .int .i64 (k : Int) ∧ Hd (grps qs = pileOf (ones ((lists bs).take k))) ∧ Hd (allB n ((lists bs).take k) = true) ∧ Hd (RdG wr out qs) ∧ Hd (Kept no w wr)) (fun _ i _ => len - (intOf i).toNat)
  case atStart => exact ⟨0, [], by omega, rfl, ⟨rfl⟩, ⟨rfl⟩, ⟨(fun x hx => by cases hx), nil_rd _ _⟩, ⟨Kept.refl _ _⟩⟩
  case round =>
    obtain ⟨k, qs, hk, rfl, hqs, hA, hO, hW⟩ := hrel
    by_cases hlt : k < len
    · (have hk1 : (k : Int) < (len : Int) := by omega); (have hk0 : (0 : Int) ≤ (k : Int) := by omega); (obtain ⟨b, o, p, vp, rfl, hel, c0, hz⟩ := (hr.out.kept hW.out).at k (by rw [hlen.out]; exact hlt)); (have hpk := hid (lists_get _ hel)); (have HB := hid (refballot_any n vp p wr hz)); (replace hz := hid hz); (clear hel)
      cases hb : ballot n p with
      | false =>
        (have hv : Hd (mk n (lists bs) = ([], 8)) := ⟨by rw [hmk.out, allB_fail hpk.out hb, if_neg (by decide)]⟩); (rw [hb] at HB); (clear hb hmk hA hqs hO hpk hz); (go_wp2_with fail); (refine HB.out.mono ?_); (rintro e w1 ⟨rfl, k1⟩); (have hk2 := hid (hW.out.trans' k1.kept)); (clear k1 HB hW c0); (go_wp2); (go_ret2); (exact ⟨_, by rw [hv.out] <;> rfl, by rw [hv.out]; exact nilGR _ hk2.out⟩)
      | true =>
        (have hA' := hid (allB_take hpk.out hA.out hb)); (have hq' : Hd (addG (grps qs) p 1 = pileOf (ones ((lists bs).take (k + 1)))) := ⟨by rw [hqs.out, ones_take hpk.out, pileOf_snoc]⟩); (have hpl := ballot_len hb (by omega)); (have hsm : Hd (small qs) := ⟨small_of (by rw [hqs.out]; exact pileOf_pos (ones_pos _)) (by rw [hqs.out, pileOf_tot (ones_pos _), ones_tot, List.length_take]; omega)⟩); (rw [hb] at HB); (clear hb hA hqs hpk); (go_wp2_with fail); (refine HB.out.mono ?_); (rintro e w1 ⟨rfl, k1⟩); (have d0 := k1.kept.cell c0 id); (have hz1 := hid (hz.out.kept k1.kept)); (have hO1 := hid (hO.out.kept k1.kept)); (have hW1 := hid (hW.out.trans' k1.kept)); (have hls : p.length ≤ maxLen ∧ p.length * 8 ≤ 140737488355328 := by have hm : maxLen = 9223372036854775807 := rfl; omega); (replace hls := hid hls); (have hnil : Hd (w1.ownsRow 0 3 1 (.slice none 0 0) 0 []) := ⟨World.ownsRow_nil _ _ _ _⟩); (clear HB k1 hO hW hz c0 hpl); (go_wp2_with (at_builtin; refine wpList_append _ rfl _ _ 26 rfl 3 1 8 TInts _ _ _ rfl hnil.out _ _ _ rfl hz1.out (Z_one p) ?c1 ?c2 ?_))
        case c1 => rw [Nat.zero_add]; exact hls.out.1
        case c2 => rw [Nat.zero_add]; exact hls.out.2
        (intro v' w2 h4 h5 _ _); (try rw [Nat.zero_add, List.nil_append] at h4); (have k2 := Kept.ob_nil h5); (have HA := hid (refadd_any _ v' qs p 1 w2 (hO1.out.kept k2) (own_RdZ h4) hsm.out ⟨by omega, by omega⟩)); (have hW2 := hid (hW1.out.trans' k2)); (clear h4 h5 k2 hO1 hz1 hnil d0 hW1); (go_wp2_with fail); (refine HA.out.mono ?_); (rintro e w3 ⟨v3, rs, rfl, hO3, hrs⟩); (have hq3 : Hd (grps rs = pileOf (ones ((lists bs).take (k + 1)))) := ⟨by rw [hrs]; exact hq'.out⟩); (have hO4 := hid hO3.rd); (have hW3 := hid (hW2.out.trans' hO3.kept)); (clear hO3 hrs HA hq' hW2 hsm hls); (go_wp2); (go_roundw)
        case rel => first | exact ⟨k + 1, rs, by omega, by go_num, hq3, hA', hO4, hW3⟩ | ((repeat apply Exists.intro); exact ⟨⟨k + 1, rs, by omega, by go_num, hq3, hA', hO4, hW3⟩, rfl⟩)
        case measure => simp [intOf]; omega
    · (obtain rfl : k = len := by omega); (have hall : (lists bs).take k = lists bs := List.take_of_length_le (by rw [lists_length, hlen.out]; exact Nat.le_refl _))
      have hv : Hd (mk n (lists bs) = (grps qs, 0)) := ⟨by
        (have h1 := hA.out); (have h2 := hqs.out); (rw [hall] at h1 h2)
        rw [hmk.out, h1, if_pos rfl, h2]⟩
      (clear hA hqs hmk hall); (go_wp2); (go_ret2); (exact ⟨_, by rw [hv.out] <;> rfl, by rw [hv.out]; exact ⟨qs, rfl, hO.out, hW.out⟩⟩)
end Go.Proofs.YtaobaaaihgahfaaGreat

/- The fixed pile of law 24. -/
namespace Go.Proofs.YtaobaaaihgahfaaGreat
open Go.RowKit Go.Mk Go.Pil
theorem blk_RdZ {w : World} {g : Nat} {e : TypeId} {fr : Nat × Nat} (zs : List Int) (n : Nat) (hn : zs.length = n) (hm : n ≤ maxLen) {c : Array Value} (hc : c = (zs.map Z).toArray) (h : w.heap[g]? = some (.cells c e fr)) : RdZ w (.slice (some ⟨g, 0, none⟩) n n) zs := by
  (subst hn hc); (exact ⟨by simp, _, _, rfl, Nat.le_refl _, hm, .inr ⟨g, 0, rfl, fun j u hu => by rw [cell_of_row w _ _ _ _ _ h, Nat.zero_add]; simpa using hu⟩⟩)
theorem blk_RdT {w : World} {g : Nat} {e : TypeId} {fr : Nat × Nat} (zs : List Bool) (n : Nat) (hn : zs.length = n) (hm : n ≤ maxLen) {c : Array Value} (hc : c = (zs.map Value.bool).toArray) (h : w.heap[g]? = some (.cells c e fr)) : RdT w (.slice (some ⟨g, 0, none⟩) n n) zs := by
  (subst hn hc); (exact ⟨by simp, _, _, rfl, Nat.le_refl _, hm, .inr ⟨g, 0, rfl, fun j u hu => by rw [cell_of_row w _ _ _ _ _ h, Nat.zero_add]; simpa using hu⟩⟩)
end Go.Proofs.YtaobaaaihgahfaaGreat

/- Flags, cuts of flags, two remaining candidates. -/
namespace Go.Pil
theorem sum_take_le : ∀ (l : List Int), (∀ x ∈ l, 0 ≤ x) → ∀ k, 0 ≤ (l.take k).sum ∧ (l.take k).sum ≤ l.sum
  | [], _, k => by simp
  | x :: l, h, k => by
    have h0 := h x (by simp)
    cases k with
    | zero =>
      (have := sum_take_le l (fun y hy => h y (by simp [hy])) 0); (simp only [List.take_zero, List.sum_nil, List.sum_cons] at *; omega)
    | succ k =>
      (have := sum_take_le l (fun y hy => h y (by simp [hy])) k); (simp only [List.take_succ_cons, List.sum_cons]; omega)
end Go.Pil
namespace Go.Proofs.YtaobaaaihgahfaaGreat
open Go.RowKit Go.Mk Go.Pil
def zsT (l : List Bool) : Array Value := (l.map Value.bool).toArray
theorem zsT_set (l : List Bool) (c : Nat) (x : Bool) : (zsT l).setIfInBounds c (.bool x) = zsT (l.set c x) := by
  unfold zsT; rw [List.map_set]; simp
theorem zsT_made (n : Nat) : madeCells #[Value.bool false] n = zsT (List.replicate n false) := by
  unfold zsT
  apply Array.ext
  · simp [madeCells]
  · intro i h1 h2
    simp [madeCells, Nat.mod_one]
theorem makeT (n : Nat) (h : n ≤ 1000000) (w : World) : (Instr.makeSlice 68 (.int .i64 (n : Int)) (.int .i64 (n : Int))).run Tryz.prog w = .ok (.slice (some ⟨w.heap.size, 0, none⟩) n n) (w.alloc (.cells (zsT (List.replicate n false)) 4)) := by
  (obtain ⟨i, hi, hz, hs, hb⟩ := info_parts (P := Tryz.prog) (e := 4) (z := .bool false) (size := 1) (bytes := 1) (by kernel_rfl)); (have := run_make (P := Tryz.prog) w 68 4 i _ Tryz.underlying68 hi hz .i64 .i64 n n (by omega) (by omega) (by rw [hb]; omega) (by omega)); (rw [this, hs, Nat.mul_one, Int.toNat_natCast]); (rw [show (Value.bool false).cells = #[Value.bool false] from rfl, zsT_made])
theorem zsT_rd {w : World} {q : Nat} {l : List Bool} (h : w.heap[q]? = some (.cells (zsT l) 4 (0, 0))) (n : Nat) (hn : l.length = n) (hm : n ≤ maxLen) : RdT w (.slice (some ⟨q, 0, none⟩) n n) l := blk_RdT l n hn hm rfl h
end Go.Proofs.YtaobaaaihgahfaaGreat
