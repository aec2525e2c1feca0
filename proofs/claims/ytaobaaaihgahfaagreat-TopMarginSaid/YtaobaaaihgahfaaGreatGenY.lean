/- pile.Make: groups with preferences of their own; the pile of any ballots. -/
import Derived.Test.YtaobaaaihgahfaaGreatAddY
import Derived.Test.YtaobaaaihgahfaaGreatCntY
import Derived.Test.YtaobaaaihgahfaaGreatPilY
namespace Go.Mk
def apart (v u : Value) : Prop := ∀ j, v.ownBlock = some j → u.ownBlock = some j → False
end Go.Mk
namespace Go.Pil
def allB (n : Int) (ls : List (List Int)) : Bool := ls.all (ballot n)
/-- What Make answers. -/
def mk (n : Int) (ls : List (List Int)) : List Grp × Int := if n < 1 ∨ 7 < n then ([], 4) else if 100000 < ls.length then ([], 7) else if allB n ls = true then (pileOf (ones ls), 0) else ([], 8)
theorem allB_take {n : Int} {ls : List (List Int)} {k : Nat} {p : List Int} (hp : ls[k]? = some p) (h : allB n (ls.take k) = true) (hb : ballot n p = true) : allB n (ls.take (k + 1)) = true := by
  (obtain ⟨hk, hgk⟩ := List.getElem?_eq_some_iff.1 hp); (unfold allB at *); (rw [List.take_succ_eq_append_getElem hk, List.all_append, h, hgk])
  simp [hb]
theorem allB_fail {n : Int} {ls : List (List Int)} {k : Nat} {p : List Int} (hp : ls[k]? = some p) (hb : ballot n p = false) : allB n ls = false := by
  unfold allB
  cases h : ls.all (ballot n) with
  | false => rfl
  | true => have := List.all_eq_true.1 h p (List.mem_of_getElem? hp); rw [hb] at this; cases this
theorem ones_take {ls : List (List Int)} {k : Nat} {p : List Int} (hp : ls[k]? = some p) : ones (ls.take (k + 1)) = ones (ls.take k) ++ [⟨p, 1⟩] := by
  (obtain ⟨hk, hgk⟩ := List.getElem?_eq_some_iff.1 hp); (rw [List.take_succ_eq_append_getElem hk, hgk]; simp [ones])
end Go.Pil
namespace Go.Proofs.YtaobaaaihgahfaaGreat
open Go.RowKit Go.Mk Go.Pil
def lists (bs : List (List Int × Value)) : List (List Int) := bs.map (·.1)
theorem lists_length (bs : List (List Int × Value)) : (lists bs).length = bs.length := by simp [lists]
theorem lists_get {bs : List (List Int × Value)} {k : Nat} (hk : k < bs.length) {p : List Int} {v : Value} (h : bs[k] = (p, v)) : (lists bs)[k]? = some p := by
  unfold lists; rw [List.getElem?_map, List.getElem?_eq_getElem hk, h]; rfl
/-- Groups that can be read behind a call. -/
def GR (w w' : World) (v : Value) (gs : List Grp) : Prop := ∃ qs, grps qs = gs ∧ RdG w' v qs ∧ Kept no w w'
/-- Groups of their own, each with preferences of its own. -/
structure OwC (w w' : World) (v : Value) (qs : List (Grp × Value)) : Prop where
  own : w'.ownsRow 0 105 2 v qs.length (flatG qs)
  rows : ∀ x ∈ qs, w'.ownsRow 0 3 1 x.2 x.1.p.length (x.1.p.map Z)
  kept : Kept no w w'
  new : New w v
  newr : ∀ x ∈ qs, New w x.2
  dist : qs.Pairwise fun x y => apart x.2 y.2
theorem int_ne_group : 3 ≠ 105 := by decide
theorem OwC.nil (w : World) : OwC w w (.slice none 0 0) [] := ⟨World.ownsRow_nil _ _ _ _, (fun x hx => by cases hx), Kept.refl _ _, .inl rfl, (fun x hx => by cases hx), List.Pairwise.nil⟩
theorem OwC.keptNo {w w' w2 : World} {v : Value} {qs : List (Grp × Value)} (h : OwC w w' v qs) (k : Kept no w' w2) : OwC w w2 v qs :=
  ⟨k.ownsRow h.own fun _ _ => id, fun x hx => k.ownsRow (h.rows x hx) fun _ _ => id, h.kept.trans' k, h.new, h.newr, h.dist⟩
theorem OwC.rows_kept {w w' W : World} {v : Value} {qs : List (Grp × Value)} (h : OwC w w' v qs) (k : Kept (ob v) w' W) : ∀ x ∈ qs, W.ownsRow 0 3 1 x.2 x.1.p.length (x.1.p.map Z) := fun x hx =>
  k.ownsRow (h.rows x hx) fun j hj hv => own_own (h.rows x hx) h.own int_ne_group j hj hv
theorem OwC.rdAll {w w' : World} {v : Value} {qs : List (Grp × Value)} (h : OwC w w' v qs) : ∀ x ∈ qs, ∀ W, Kept (ob v) w' W → RdZ W x.2 x.1.p := fun x hx _ k => own_RdZ (h.rows_kept k x hx)
/-- One group more: w1 the world behind the new preferences u, w2 behind the append. -/
theorem OwC.add {w w0 w1 w2 : World} {v v' u : Value} {qs : List (Grp × Value)} (h : OwC w w0 v qs) (g : Grp) (k1 : Kept no w0 w1) (hu : w1.ownsRow 0 3 1 u g.p.length (g.p.map Z)) (hn : New w0 u)
    (ho : w2.ownsRow 0 105 2 v' (qs.length + 1) (flatG qs ++ [u, .int .i64 g.n])) (hk : Kept (ob v) w1 w2) (hv : NewOr w1 v v') : OwC w w2 v' (qs ++ [(g, u)]) := by
  (have h1 := h.keptNo k1); (refine ⟨by rw [List.length_append, flatG_append, flatG_one]; exact ho, fun x hx => ?_, h1.new.kept h1.kept hk, h1.new.step hv h1.kept.size, fun x hx => ?_, ?_⟩)
  · rcases List.mem_append.1 hx with hx | hx
    · exact h1.rows_kept hk x hx
    · (obtain rfl : x = (g, u) := by simpa using hx); (exact hk.ownsRow hu fun j hj hv => own_own hu h1.own int_ne_group j hj hv)
  · rcases List.mem_append.1 hx with hx | hx
    · exact h.newr x hx
    · (obtain rfl : x = (g, u) := by simpa using hx); (exact hn.of h.kept.size)
  · (rw [List.pairwise_append]); (refine ⟨h.dist, by simp, fun x hx y hy => ?_⟩); (obtain rfl : y = (g, u) := by simpa using hy); (intro j hj hj'); (have h3 := own_lt (h.rows x hx) j hj); (have h4 := hn.fr (Nat.le_refl _) j hj')
    omega
end Go.Proofs.YtaobaaaihgahfaaGreat

/- Made ballots: electionmake.Ballot; lists of ballots of their own. -/
namespace Go.Pil
end Go.Pil
namespace Go.Proofs.YtaobaaaihgahfaaGreat
open Go.RowKit Go.Mk Go.Pil
/-- Ballots of their own, each of its own. -/
structure OwL (w w' : World) (v : Value) (bs : List (List Int × Value)) : Prop where
  own : w'.ownsRow 0 26 1 v bs.length (bs.map (·.2))
  rows : ∀ x ∈ bs, w'.ownsRow 0 3 1 x.2 x.1.length (x.1.map Z)
  kept : Kept no w w'
  new : New w v
theorem OwL.keptNo {w w' w2 : World} {v : Value} {bs : List (List Int × Value)} (h : OwL w w' v bs) (k : Kept no w' w2) : OwL w w2 v bs :=
  ⟨k.ownsRow h.own fun _ _ => id, fun x hx => k.ownsRow (h.rows x hx) fun _ _ => id, h.kept.trans' k, h.new⟩
theorem RdZ.addr {w : World} {av : Option Addr} {lv cv : Nat} {zs : List Int} (h : RdZ w (.slice av lv cv) zs) : cv = 0 ∨ ∃ b o, av = some ⟨b, o, none⟩ := by
  obtain ⟨_, _, _, e, _, _, h | ⟨b, o, rfl, _⟩⟩ := h
  · cases e; exact .inl h
  · cases e; exact .inr ⟨b, o, rfl⟩
theorem pre_slice (av : Option Addr) (lv cv m : Nat) (hav : cv = 0 ∨ ∃ b o, av = some ⟨b, o, none⟩) (hm : m ≤ cv) (w : World) : (Instr.slice 26 (.slice av lv cv) none (some (.int .i64 (m : Int))) none).run Tryz.prog w = .ok (.slice av m cv) w := by
  (have h0 : (0 : Int) ≤ (m : Int) := by omega); (have hc : Tryz.prog.underlying 26 = some (.slice 3) := by kernel_rfl)
  rcases hav with rfl | ⟨b, o, rfl⟩
  · obtain rfl : m = 0 := by omega
    simp [Instr.slice, Instr.sliceBounds, Instr.sliceBound, run_underlying hc, asIntOf]
  · simp [Instr.slice, Instr.sliceBounds, Instr.sliceBound, run_underlying hc, asIntOf, h0]
    (have e : (⟨b, o, none⟩ : Addr).add 0 = ⟨b, o, none⟩ := by simp [Addr.add]); (rw [if_pos hm, e]; simp)
end Go.Proofs.YtaobaaaihgahfaaGreat

/- electionmake.Ballots (printed by gen_gen.py). -/
namespace Go.Pil
end Go.Pil
namespace Go.Proofs.YtaobaaaihgahfaaGreat
open Go.RowKit Go.Mk Go.Pil
/-- A slice of the one element. -/
def One {Sl : Nat → Nat → Prop} (d : Nat) : Pr Sl := rel d (fun u v w => ∃ g, v = .slice (some ⟨g, 0, none⟩) 1 1 ∧ w.cell? ⟨g, 0, none⟩ = some u) fun _ _ _ _ ⟨g, e, h⟩ k => ⟨g, e, k.cell h id⟩
/-- The list with the ballot more. -/
def More {Sl : Nat → Nat → Prop} (w : World) (bs : List (List Int × Value)) (p : List Int) (d : Nat) : Pr Sl := rel d (fun u v w' => OwL w w' v (bs ++ [(p, u)])) fun _ _ _ _ h k => h.keptNo k
theorem OwZ.of_kept {w0 w w' : World} {v : Value} {zs : List Int} (h : OwZ w w' v zs) (k : Kept no w0 w) : OwZ w0 w' v zs := ⟨h.own, k.trans' h.kept, h.new.of k.size⟩
end Go.Proofs.YtaobaaaihgahfaaGreat

/- The fixed pile of law 24. -/
namespace Go.Proofs.YtaobaaaihgahfaaGreat
open Go.RowKit Go.Mk Go.Pil
theorem blk_RdZ {w : World} {g : Nat} {e : TypeId} {fr : Nat × Nat} (zs : List Int) (n : Nat) (hn : zs.length = n) (hm : n ≤ maxLen) {c : Array Value} (hc : c = (zs.map Z).toArray) (h : w.heap[g]? = some (.cells c e fr)) : RdZ w (.slice (some ⟨g, 0, none⟩) n n) zs := by
  (subst hn hc); (exact ⟨by simp, _, _, rfl, Nat.le_refl _, hm, .inr ⟨g, 0, rfl, fun j u hu => by rw [cell_of_row w _ _ _ _ _ h, Nat.zero_add]; simpa using hu⟩⟩)
theorem blk_RdT {w : World} {g : Nat} {e : TypeId} {fr : Nat × Nat} (zs : List Bool) (n : Nat) (hn : zs.length = n) (hm : n ≤ maxLen) {c : Array Value} (hc : c = (zs.map Value.bool).toArray) (h : w.heap[g]? = some (.cells c e fr)) : RdT w (.slice (some ⟨g, 0, none⟩) n n) zs := by
  (subst hn hc); (exact ⟨by simp, _, _, rfl, Nat.le_refl _, hm, .inr ⟨g, 0, rfl, fun j u hu => by rw [cell_of_row w _ _ _ _ _ h, Nat.zero_add]; simpa using hu⟩⟩)
end Go.Proofs.YtaobaaaihgahfaaGreat

/- Flags, cuts of flags, two remaining candidates. -/
namespace Go.Pil
end Go.Pil
namespace Go.Proofs.YtaobaaaihgahfaaGreat
open Go.RowKit Go.Mk Go.Pil
theorem pre_sliceT (av : Option Addr) (lv cv m : Nat) (hav : cv = 0 ∨ ∃ b o, av = some ⟨b, o, none⟩) (hm : m ≤ cv) (w : World) : (Instr.slice 68 (.slice av lv cv) none (some (.int .i64 (m : Int))) none).run Tryz.prog w = .ok (.slice av m cv) w := by
  (have h0 : (0 : Int) ≤ (m : Int) := by omega); (have hc : Tryz.prog.underlying 68 = some (.slice 4) := by kernel_rfl)
  rcases hav with rfl | ⟨b, o, rfl⟩
  · obtain rfl : m = 0 := by omega
    simp [Instr.slice, Instr.sliceBounds, Instr.sliceBound, run_underlying hc, asIntOf]
  · simp [Instr.slice, Instr.sliceBounds, Instr.sliceBound, run_underlying hc, asIntOf, h0]
    (have e : (⟨b, o, none⟩ : Addr).add 0 = ⟨b, o, none⟩ := by simp [Addr.add]); (rw [if_pos hm, e]; simp)
def zsT (l : List Bool) : Array Value := (l.map Value.bool).toArray
theorem zsT_set (l : List Bool) (c : Nat) (x : Bool) : (zsT l).setIfInBounds c (.bool x) = zsT (l.set c x) := by
  unfold zsT; rw [List.map_set]; simp
theorem zsT_made (n : Nat) : madeCells #[Value.bool false] n = zsT (List.replicate n false) := by
  unfold zsT
  apply Array.ext
  · simp [madeCells]
  · intro i h1 h2
    simp [madeCells, Nat.mod_one]
theorem makeT (n : Nat) (h : n ≤ 1000000) (w : World) : (Instr.makeSlice 68 (.int .i64 (n : Int)) (.int .i64 (n : Int))).run Tryz.prog w = .ok (.slice (some ⟨w.heap.size, 0, none⟩) n n) (w.alloc (.cells (zsT (List.replicate n false)) 4)) := by
  (obtain ⟨i, hi, hz, hs, hb⟩ := info_parts (P := Tryz.prog) (e := 4) (z := .bool false) (size := 1) (bytes := 1) (by kernel_rfl)); (have := run_make (P := Tryz.prog) w 68 4 i _ Tryz.underlying68 hi hz .i64 .i64 n n (by omega) (by omega) (by rw [hb]; omega) (by omega)); (rw [this, hs, Nat.mul_one, Int.toNat_natCast]); (rw [show (Value.bool false).cells = #[Value.bool false] from rfl, zsT_made])
theorem zsT_rd {w : World} {q : Nat} {l : List Bool} (h : w.heap[q]? = some (.cells (zsT l) 4 (0, 0))) (n : Nat) (hn : l.length = n) (hm : n ≤ maxLen) : RdT w (.slice (some ⟨q, 0, none⟩) n n) l := blk_RdT l n hn hm rfl h
end Go.Proofs.YtaobaaaihgahfaaGreat

/- Small functions of folders 31 and 32: Half, half, Flags, All, IsTail, isTail. -/
namespace Go.Mg
open Go.Pil
theorem isTail_no {n : Int} {p : List Int} (h : ballot n p = false) : isTail n p = false := by simp [isTail, h]
theorem isTail_nil (n : Int) {p : List Int} (h : p = []) : isTail n p = false := by simp [isTail, h]
theorem isTail_yes {n : Int} {p : List Int} (h : ballot n p = true) (hne : p ≠ []) : isTail n p = true := by simp [isTail, h, hne]
theorem flags_set {n : Nat} (l : List Int) (c : Nat) (_ : c < n) : (flags n l).set c true = flags n (l ++ [(c : Int)]) := by
  apply List.ext_getElem
  · simp [flags]
  · (intro i h1 h2); (have hi : i < n := by simpa [flags] using h2); (rw [List.getElem_set])
    by_cases he : c = i
    · subst he; simp [flags]
    · rw [if_neg he]; simp [flags]; omega
theorem flags_nil (n : Nat) : flags n [] = List.replicate n false := by
  apply List.ext_getElem
  · simp [flags]
  · intro i h1 h2; simp [flags]
theorem isTail_iff {n : Int} {p : List Int} : isTail n p = true ↔ p ≠ [] ∧ p.Nodup ∧ ∀ x ∈ p, 0 ≤ x ∧ x < n := by simp [isTail, ballot]
end Go.Mg
namespace Go.Proofs.YtaobaaaihgahfaaGreat
open Go.RowKit Go.Mk Go.Pil Go.Mg
set_option maxRecDepth 20000 in
set_option maxHeartbeats 1000000 in
theorem mistail_any (n : Int) (v : Value) (p : List Int) (w : World) (hn : n ≤ 7) (hr : RdZ w v p) : Calls Tryz.prog 143 #[.int .i64 n, v] w fun e w' => e = .returned (.bool (isTail n p)) ∧ Kept no w w' := by
  (obtain ⟨ao, cap, rfl, hcap, hcm⟩ := Rd.shape2 hr); (have hm63 := maxLen_63); (replace hr := hid hr); (have g0 : Hd ((w.alloc (.cells #[.bool false, .bool false, .bool false, .bool false, .bool false, .bool false, .bool false] 152)).heap[w.heap.size]? = some (.cells (seenC []) 152 (0, 0))) := ⟨heap_alloc_new _ _⟩); (have k0 := hid ((Kept.refl no w).alloc (.cells #[.bool false, .bool false, .bool false, .bool false, .bool false, .bool false, .bool false] 152)))
  go_enter Tryz.func143, Tryz.ntmps143
  go_wp2
  go_loopw [10] (fun i wr => ∃ k : Nat, k ≤ p.length ∧ i = .int .i64 (k : Int) ∧ Hd (ballot n (p.take k) = true) ∧ Hd (wr.heap[w.heap.size]? = some (.cells (seenC (p.take k)) 152 (0, 0))) ∧ Hd (Kept no w wr)) (fun i _ => p.length - (intOf i).toNat)
  case atStart => exact ⟨0, by omega, rfl, ⟨by rw [ballot_iff]; simp⟩, g0, k0⟩
  case round =>
    (clear g0 k0); (obtain ⟨k, hk, rfl, hb, hg, hW⟩ := hrel)
    by_cases hlt : k < p.length
    · (have hk1 : (k : Int) < (p.length : Int) := by omega); (have hk0 : (0 : Int) ≤ (k : Int) := by omega); (obtain ⟨b, o, rfl, hc⟩ := (hr.out.kept hW.out).at k hlt); (have HS := hid (ballot_step hlt hb.out)); (have HF := hid (ballot_fail hlt hb.out)); (have HT : Hd (p.take (k + 1) = p.take k ++ [p.getD k 0]) := ⟨by rw [List.take_succ_eq_append_getElem hlt]; simp [List.getD_eq_getElem?_getD, hlt]⟩); (generalize p.getD k 0 = z at hc HS HF HT)
      by_cases h0 : z < 0
      · (have hd : decide (z < 0) = true := decide_eq_true h0); (have hv := hid (HF.out (by omega))); (clear HS HF HT hb); (go_wp2); (go_ret); (exact ⟨by rw [isTail_no hv.out]; rfl, hW.out⟩)
      · have hd : decide (z < 0) = false := decide_eq_false h0
        by_cases h1 : n ≤ z
        · (have hd1 : decide (n ≤ z) = true := decide_eq_true h1); (have hv := hid (HF.out (by omega))); (clear HS HF HT hb); (go_wp2); (go_ret); (exact ⟨by rw [isTail_no hv.out]; rfl, hW.out⟩)
        · (obtain ⟨c, rfl⟩ : ∃ c : Nat, z = (c : Int) := ⟨z.toNat, by omega⟩); (have hd1 : decide (n ≤ (c : Int)) = false := decide_eq_false h1); (have hc7 : (c : Int) < 7 := by omega); (have hc0 : (0 : Int) ≤ (c : Int) := by omega); (have cs : wr.cell? ⟨w.heap.size, c, none⟩ = some (.bool (decide ((c : Int) ∈ p.take k))) := by rw [cell_of_row wr _ c _ _ _ hg.out]; exact seen_at _ _ (by omega)); (have fs : wr.frozen? ⟨w.heap.size, c, none⟩ = false := row_free hg.out c)
          by_cases h2 : (c : Int) ∈ p.take k
          · (have hv := hid (HF.out (fun h => h.2.2 h2))); (rw [decide_eq_true h2] at cs); (clear HS HF HT hb h2 fs); (go_wp2); (go_ret); (exact ⟨by rw [isTail_no hv.out]; rfl, hW.out⟩)
          · (have hb' := hid (HS.out.2 ⟨by omega, by omega, h2⟩)); (rw [decide_eq_false h2] at cs); (have hg' : Hd ((wr.setCell ⟨w.heap.size, c, none⟩ (.bool true)).heap[w.heap.size]? = some (.cells (seenC (p.take (k + 1))) 152 (0, 0))) := ⟨by rw [setCell_row hg.out, seen_set _ _ (by omega), HT.out]⟩); (have hW' := hid (hW.out.setCell (a := ⟨w.heap.size, c, none⟩) (.inr (Nat.le_refl _)) (.bool true))); (clear HS HF HT hb h2 hg hW); (go_wp2); (go_roundw)
            case rel => first | exact ⟨k + 1, by omega, by go_num, hb', hg', hW'⟩ | ((repeat apply Exists.intro); exact ⟨⟨k + 1, by omega, by go_num, hb', hg', hW'⟩, rfl⟩)
            case measure => simp [intOf]; omega
    · (obtain rfl : k = p.length := by omega); (have hv : Hd (ballot n p = true) := ⟨by have := hb.out; rwa [List.take_length] at this⟩); (clear hb)
      by_cases h0 : p.length = 0
      · (have h1 : ¬ (0 : Int) < (p.length : Int) := by omega); (have hd : decide ((0 : Int) < (p.length : Int)) = false := decide_eq_false h1); (have ht : Hd (isTail n p = false) := ⟨isTail_nil n (List.eq_nil_of_length_eq_zero h0)⟩); (go_wp2); (go_ret); (exact ⟨by rw [ht.out]; rfl, hW.out⟩)
      · (have h1 : (0 : Int) < (p.length : Int) := by omega); (have hd : decide ((0 : Int) < (p.length : Int)) = true := decide_eq_true h1); (have ht : Hd (isTail n p = decide (0 < p.length)) := ⟨by rw [isTail_yes hv.out (fun e => h0 (by rw [e]; rfl)), decide_eq_true (by omega)]⟩); (go_wp2); (go_ret); (exact ⟨by rw [ht.out]; rfl, hW.out⟩)
set_option maxHeartbeats 400000 in
theorem mhalf_any (d : Int) (w : World) (hd : -1000000 ≤ d ∧ d ≤ 1000000) : Calls Tryz.prog 81 #[.int .i64 d] w fun e w' => e = .returned (.int .i64 (half d)) ∧ w' = w := by
  (have hw : IntKind.i64.wrap (d + 1) = d + 1 := IntWalk.i64_in _ (by omega)); (have hh : Hd (half d = (max 0 (d + 1)) / 2) := ⟨by unfold half; split <;> omega⟩); (have hm : (if (0 : Int) < d + 1 then d + 1 else 0) = max 0 (d + 1) := by split <;> omega); (have hq : (max 0 (d + 1)).tdiv 2 = max 0 (d + 1) / 2 := Int.tdiv_eq_ediv_of_nonneg (by omega)); (have hw2 : IntKind.i64.wrap (max 0 (d + 1) / 2) = max 0 (d + 1) / 2 := IntWalk.i64_in _ (by omega))
  go_enter Tryz.func81, Tryz.ntmps81
  (go_wp2); (go_ret); (exact ⟨by rw [hh.out]; rfl, rfl⟩)
theorem flags_all (n : Nat) : flags n (allC n) = List.replicate n true := by
  apply List.ext_getElem
  · simp [flags]
  · (intro i h1 h2); (have hi : i < n := by simpa [flags] using h1)
    simp [flags, mem_allC, hi]
end Go.Proofs.YtaobaaaihgahfaaGreat

/- What the loops over tails run through; numbers of votes are small. -/
namespace Go.Mg
open Go.Pil
def rowI (n : Nat) (gs : List Grp) (tail : List Int) (i : Nat) : List Int := (tail.drop (i + 1)).map fun d => vt n gs (tail.drop i) (tail.getD i 0) - vt n gs (tail.drop i) d
def colE (n : Nat) (gs : List Grp) (tail : List Int) (e : Int) : List Int := tail.map fun t => vt n gs (allC n) e - prefers gs t e
def dinK (n : Nat) (gs : List Grp) (tail : List Int) (k : Nat) : List Int := (List.range k).flatMap (rowI n gs tail)
def doutK (n : Nat) (gs : List Grp) (tail : List Int) (k : Nat) : List Int := ((allC k).filter fun e => decide (e ∉ tail)).flatMap (colE n gs tail)
theorem dinK_all (n : Nat) (gs : List Grp) (tail : List Int) : dinK n gs tail tail.length = din n gs tail := rfl
theorem doutK_all (n : Nat) (gs : List Grp) (tail : List Int) : doutK n gs tail n = dout n gs tail := rfl
theorem allC_succ (k : Nat) : allC (k + 1) = allC k ++ [(k : Int)] := by simp [allC, List.range_succ]
theorem doutK_succ (n : Nat) (gs : List Grp) (tail : List Int) (k : Nat) : doutK n gs tail (k + 1) = doutK n gs tail k ++ if (k : Int) ∈ tail then [] else colE n gs tail k := by
  (unfold doutK); (rw [allC_succ, List.filter_append, List.flatMap_append])
  by_cases h : (k : Int) ∈ tail <;> simp [h]
/-- One more of the row. -/
theorem mx_take (L R : List Int) (k : Nat) (h : k < R.length) : mx (L ++ R.take (k + 1)) = max (mx (L ++ R.take k)) (R.getD k 0) := by
  rw [List.take_succ_eq_append_getElem h, ← List.append_assoc, mx_snoc, List.getD_eq_getElem?_getD, List.getElem?_eq_getElem h]; rfl
theorem rowI_len (n : Nat) (gs : List Grp) (tail : List Int) (i : Nat) : (rowI n gs tail i).length = tail.length - (i + 1) := by simp [rowI]
theorem rowI_at {n : Nat} {gs : List Grp} {tail : List Int} {i k : Nat} (h : i + 1 + k < tail.length) : (rowI n gs tail i).getD k 0 = vt n gs (tail.drop i) (tail.getD i 0) - vt n gs (tail.drop i) (tail.getD (i + 1 + k) 0) := by
  (unfold rowI); (rw [List.getD_eq_getElem?_getD, List.getElem?_map, List.getElem?_drop, List.getElem?_eq_getElem h, List.getD_eq_getElem?_getD (i := i + 1 + k), List.getElem?_eq_getElem h]; rfl)
theorem colE_len (n : Nat) (gs : List Grp) (tail : List Int) (e : Int) : (colE n gs tail e).length = tail.length := by simp [colE]
theorem colE_at {n : Nat} {gs : List Grp} {tail : List Int} {e : Int} {k : Nat} (h : k < tail.length) : (colE n gs tail e).getD k 0 = vt n gs (allC n) e - prefers gs (tail.getD k 0) e := by
  (unfold colE); (rw [List.getD_eq_getElem?_getD, List.getElem?_map, List.getElem?_eq_getElem h, List.getD_eq_getElem?_getD (i := k), List.getElem?_eq_getElem h]; rfl)
theorem pile_pos {n : Int} {gs : List Grp} (h : isPile n gs = true) : ∀ g ∈ gs, 1 ≤ g.n := fun g hg => (((isPile_iff n gs).1 h).1 g hg).2
theorem vt_small {n : Nat} {m : Int} {gs : List Grp} (h : isPile m gs = true) (l : List Int) (c : Int) : 0 ≤ vt n gs l c ∧ vt n gs l c ≤ 100000 := by
  (have ht := ((isPile_iff m gs).1 h).2.1); (have hp := pile_pos h); (unfold vt)
  by_cases hc : c.toNat < n
  · (rw [first_at gs (flags n l) c.toNat (by rw [flags_len]; exact hc)]); (have := sumIf_bnd (Q := fun p => hd (flags n l) p == some (c.toNat : Int)) hp)
    omega
  · rw [List.getD_eq_getElem?_getD, List.getElem?_eq_none (by rw [first_len, flags_len]; omega)]
    simp
theorem prefers_small {m : Int} {gs : List Grp} (h : isPile m gs = true) (a b : Int) : 0 ≤ prefers gs a b ∧ prefers gs a b ≤ 100000 := by
  (have ht := ((isPile_iff m gs).1 h).2.1); (unfold prefers)
  split
  · have := sumIf_bnd (Q := fun p => pref p a b) (pile_pos h); omega
  · omega
theorem first_firstV {n : Nat} {gs : List Grp} (h : isPile 7 gs = true) (hn : n ≤ 7) (l : List Int) : first gs (flags n l) = firstV gs (flags n l) := by
  unfold first; rw [if_pos ⟨h, by rw [flags_len]; exact hn⟩]
end Go.Mg
