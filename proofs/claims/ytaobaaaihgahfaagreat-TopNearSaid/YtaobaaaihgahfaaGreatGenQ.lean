/- pile.Make: groups with preferences of their own; the pile of any ballots. -/
import Derived.Test.YtaobaaaihgahfaaGreatAddQ
import Derived.Test.YtaobaaaihgahfaaGreatCntQ
import Derived.Test.YtaobaaaihgahfaaGreatPilQ
namespace Go.Mk
def apart (v u : Value) : Prop := ∀ j, v.ownBlock = some j → u.ownBlock = some j → False
end Go.Mk
namespace Go.Pil
def allB (n : Int) (ls : List (List Int)) : Bool := ls.all (ballot n)
/-- What Make answers. -/
def mk (n : Int) (ls : List (List Int)) : List Grp × Int := if n < 1 ∨ 7 < n then ([], 4) else if 100000 < ls.length then ([], 7) else if allB n ls = true then (pileOf (ones ls), 0) else ([], 8)
theorem allB_take {n : Int} {ls : List (List Int)} {k : Nat} {p : List Int} (hp : ls[k]? = some p) (h : allB n (ls.take k) = true) (hb : ballot n p = true) : allB n (ls.take (k + 1)) = true := by
  (obtain ⟨hk, hgk⟩ := List.getElem?_eq_some_iff.1 hp); (unfold allB at *); (rw [List.take_succ_eq_append_getElem hk, List.all_append, h, hgk])
  simp [hb]
theorem allB_fail {n : Int} {ls : List (List Int)} {k : Nat} {p : List Int} (hp : ls[k]? = some p) (hb : ballot n p = false) : allB n ls = false := by
  unfold allB
  cases h : ls.all (ballot n) with
  | false => rfl
  | true => have := List.all_eq_true.1 h p (List.mem_of_getElem? hp); rw [hb] at this; cases this
theorem ones_take {ls : List (List Int)} {k : Nat} {p : List Int} (hp : ls[k]? = some p) : ones (ls.take (k + 1)) = ones (ls.take k) ++ [⟨p, 1⟩] := by
  (obtain ⟨hk, hgk⟩ := List.getElem?_eq_some_iff.1 hp); (rw [List.take_succ_eq_append_getElem hk, hgk]; simp [ones])
end Go.Pil
namespace Go.Proofs.YtaobaaaihgahfaaGreat
open Go.RowKit Go.Mk Go.Pil
def lists (bs : List (List Int × Value)) : List (List Int) := bs.map (·.1)
theorem lists_length (bs : List (List Int × Value)) : (lists bs).length = bs.length := by simp [lists]
theorem lists_get {bs : List (List Int × Value)} {k : Nat} (hk : k < bs.length) {p : List Int} {v : Value} (h : bs[k] = (p, v)) : (lists bs)[k]? = some p := by
  unfold lists; rw [List.getElem?_map, List.getElem?_eq_getElem hk, h]; rfl
/-- Groups of their own, each with preferences of its own. -/
structure OwC (w w' : World) (v : Value) (qs : List (Grp × Value)) : Prop where
  own : w'.ownsRow 0 105 2 v qs.length (flatG qs)
  rows : ∀ x ∈ qs, w'.ownsRow 0 3 1 x.2 x.1.p.length (x.1.p.map Z)
  kept : Kept no w w'
  new : New w v
  newr : ∀ x ∈ qs, New w x.2
  dist : qs.Pairwise fun x y => apart x.2 y.2
theorem int_ne_group : 3 ≠ 105 := by decide
theorem OwC.nil (w : World) : OwC w w (.slice none 0 0) [] := ⟨World.ownsRow_nil _ _ _ _, (fun x hx => by cases hx), Kept.refl _ _, .inl rfl, (fun x hx => by cases hx), List.Pairwise.nil⟩
theorem OwC.keptNo {w w' w2 : World} {v : Value} {qs : List (Grp × Value)} (h : OwC w w' v qs) (k : Kept no w' w2) : OwC w w2 v qs :=
  ⟨k.ownsRow h.own fun _ _ => id, fun x hx => k.ownsRow (h.rows x hx) fun _ _ => id, h.kept.trans' k, h.new, h.newr, h.dist⟩
theorem OwC.rows_kept {w w' W : World} {v : Value} {qs : List (Grp × Value)} (h : OwC w w' v qs) (k : Kept (ob v) w' W) : ∀ x ∈ qs, W.ownsRow 0 3 1 x.2 x.1.p.length (x.1.p.map Z) := fun x hx =>
  k.ownsRow (h.rows x hx) fun j hj hv => own_own (h.rows x hx) h.own int_ne_group j hj hv
theorem OwC.rdAll {w w' : World} {v : Value} {qs : List (Grp × Value)} (h : OwC w w' v qs) : ∀ x ∈ qs, ∀ W, Kept (ob v) w' W → RdZ W x.2 x.1.p := fun x hx _ k => own_RdZ (h.rows_kept k x hx)
/-- One group more: w1 the world behind the new preferences u, w2 behind the append. -/
theorem OwC.add {w w0 w1 w2 : World} {v v' u : Value} {qs : List (Grp × Value)} (h : OwC w w0 v qs) (g : Grp) (k1 : Kept no w0 w1) (hu : w1.ownsRow 0 3 1 u g.p.length (g.p.map Z)) (hn : New w0 u)
    (ho : w2.ownsRow 0 105 2 v' (qs.length + 1) (flatG qs ++ [u, .int .i64 g.n])) (hk : Kept (ob v) w1 w2) (hv : NewOr w1 v v') : OwC w w2 v' (qs ++ [(g, u)]) := by
  (have h1 := h.keptNo k1); (refine ⟨by rw [List.length_append, flatG_append, flatG_one]; exact ho, fun x hx => ?_, h1.new.kept h1.kept hk, h1.new.step hv h1.kept.size, fun x hx => ?_, ?_⟩)
  · rcases List.mem_append.1 hx with hx | hx
    · exact h1.rows_kept hk x hx
    · (obtain rfl : x = (g, u) := by simpa using hx); (exact hk.ownsRow hu fun j hj hv => own_own hu h1.own int_ne_group j hj hv)
  · rcases List.mem_append.1 hx with hx | hx
    · exact h.newr x hx
    · (obtain rfl : x = (g, u) := by simpa using hx); (exact hn.of h.kept.size)
  · (rw [List.pairwise_append]); (refine ⟨h.dist, by simp, fun x hx y hy => ?_⟩); (obtain rfl : y = (g, u) := by simpa using hy); (intro j hj hj'); (have h3 := own_lt (h.rows x hx) j hj); (have h4 := hn.fr (Nat.le_refl _) j hj')
    omega
end Go.Proofs.YtaobaaaihgahfaaGreat

/- Made ballots: electionmake.Ballot; lists of ballots of their own. -/
namespace Go.Pil
end Go.Pil
namespace Go.Proofs.YtaobaaaihgahfaaGreat
open Go.RowKit Go.Mk Go.Pil
/-- Ballots of their own, each of its own. -/
structure OwL (w w' : World) (v : Value) (bs : List (List Int × Value)) : Prop where
  own : w'.ownsRow 0 26 1 v bs.length (bs.map (·.2))
  rows : ∀ x ∈ bs, w'.ownsRow 0 3 1 x.2 x.1.length (x.1.map Z)
  kept : Kept no w w'
  new : New w v
theorem int_ne_ints : 3 ≠ 26 := by decide
theorem OwL.nil (w : World) : OwL w w (.slice none 0 0) [] := ⟨World.ownsRow_nil _ _ _ _, (fun x hx => by cases hx), Kept.refl _ _, .inl rfl⟩
theorem OwL.keptNo {w w' w2 : World} {v : Value} {bs : List (List Int × Value)} (h : OwL w w' v bs) (k : Kept no w' w2) : OwL w w2 v bs :=
  ⟨k.ownsRow h.own fun _ _ => id, fun x hx => k.ownsRow (h.rows x hx) fun _ _ => id, h.kept.trans' k, h.new⟩
theorem OwL.rd {w w' : World} {v : Value} {bs : List (List Int × Value)} (h : OwL w w' v bs) : RdB w' v bs := ⟨fun x hx => own_RdZ (h.rows x hx), Rd.of_own h.own⟩
theorem OwL.add {w w0 w1 w2 : World} {v v' u : Value} {bs : List (List Int × Value)} (h : OwL w w0 v bs) (p : List Int) (k1 : Kept no w0 w1) (hu : w1.ownsRow 0 3 1 u p.length (p.map Z))
    (ho : w2.ownsRow 0 26 1 v' (bs.length + 1) (bs.map (·.2) ++ [u])) (hk : Kept (ob v) w1 w2) (hv : NewOr w1 v v') : OwL w w2 v' (bs ++ [(p, u)]) := by
  (have h1 := h.keptNo k1); (refine ⟨by rw [List.length_append, List.map_append]; exact ho, fun x hx => ?_, h1.new.kept h1.kept hk, h1.new.step hv h1.kept.size⟩)
  rcases List.mem_append.1 hx with hx | hx
  · exact hk.ownsRow (h1.rows x hx) fun j hj hv => own_own (h1.rows x hx) h1.own int_ne_ints j hj hv
  · (obtain rfl : x = (p, u) := by simpa using hx); (exact hk.ownsRow hu fun j hj hv => own_own hu h1.own int_ne_ints j hj hv)
theorem RdZ.addr {w : World} {av : Option Addr} {lv cv : Nat} {zs : List Int} (h : RdZ w (.slice av lv cv) zs) : cv = 0 ∨ ∃ b o, av = some ⟨b, o, none⟩ := by
  obtain ⟨_, _, _, e, _, _, h | ⟨b, o, rfl, _⟩⟩ := h
  · cases e; exact .inl h
  · cases e; exact .inr ⟨b, o, rfl⟩
theorem pre_slice (av : Option Addr) (lv cv m : Nat) (hav : cv = 0 ∨ ∃ b o, av = some ⟨b, o, none⟩) (hm : m ≤ cv) (w : World) : (Instr.slice 26 (.slice av lv cv) none (some (.int .i64 (m : Int))) none).run Tryz.prog w = .ok (.slice av m cv) w := by
  (have h0 : (0 : Int) ≤ (m : Int) := by omega); (have hc : Tryz.prog.underlying 26 = some (.slice 3) := by kernel_rfl)
  rcases hav with rfl | ⟨b, o, rfl⟩
  · obtain rfl : m = 0 := by omega
    simp [Instr.slice, Instr.sliceBounds, Instr.sliceBound, run_underlying hc, asIntOf]
  · simp [Instr.slice, Instr.sliceBounds, Instr.sliceBound, run_underlying hc, asIntOf, h0]
    (have e : (⟨b, o, none⟩ : Addr).add 0 = ⟨b, o, none⟩ := by simp [Addr.add]); (rw [if_pos hm, e]; simp)
end Go.Proofs.YtaobaaaihgahfaaGreat

/- electionmake.Ballots (printed by gen_gen.py). -/
namespace Go.Pil
end Go.Pil
namespace Go.Proofs.YtaobaaaihgahfaaGreat
open Go.RowKit Go.Mk Go.Pil
/-- A slice of the one element. -/
def One {Sl : Nat → Nat → Prop} (d : Nat) : Pr Sl := rel d (fun u v w => ∃ g, v = .slice (some ⟨g, 0, none⟩) 1 1 ∧ w.cell? ⟨g, 0, none⟩ = some u) fun _ _ _ _ ⟨g, e, h⟩ k => ⟨g, e, k.cell h id⟩
/-- The list with the ballot more. -/
def More {Sl : Nat → Nat → Prop} (w : World) (bs : List (List Int × Value)) (p : List Int) (d : Nat) : Pr Sl := rel d (fun u v w' => OwL w w' v (bs ++ [(p, u)])) fun _ _ _ _ h k => h.keptNo k
theorem OwZ.of_kept {w0 w w' : World} {v : Value} {zs : List Int} (h : OwZ w w' v zs) (k : Kept no w0 w) : OwZ w0 w' v zs := ⟨h.own, k.trans' h.kept, h.new.of k.size⟩
end Go.Proofs.YtaobaaaihgahfaaGreat

/- The fixed pile of law 24. -/
namespace Go.Proofs.YtaobaaaihgahfaaGreat
open Go.RowKit Go.Mk Go.Pil
theorem blk_RdT {w : World} {g : Nat} {e : TypeId} {fr : Nat × Nat} (zs : List Bool) (n : Nat) (hn : zs.length = n) (hm : n ≤ maxLen) {c : Array Value} (hc : c = (zs.map Value.bool).toArray) (h : w.heap[g]? = some (.cells c e fr)) : RdT w (.slice (some ⟨g, 0, none⟩) n n) zs := by
  (subst hn hc); (exact ⟨by simp, _, _, rfl, Nat.le_refl _, hm, .inr ⟨g, 0, rfl, fun j u hu => by rw [cell_of_row w _ _ _ _ _ h, Nat.zero_add]; simpa using hu⟩⟩)
end Go.Proofs.YtaobaaaihgahfaaGreat

/- Flags, cuts of flags, two remaining candidates. -/
namespace Go.Pil
end Go.Pil
namespace Go.Proofs.YtaobaaaihgahfaaGreat
open Go.RowKit Go.Mk Go.Pil
def zsT (l : List Bool) : Array Value := (l.map Value.bool).toArray
theorem zsT_set (l : List Bool) (c : Nat) (x : Bool) : (zsT l).setIfInBounds c (.bool x) = zsT (l.set c x) := by
  unfold zsT; rw [List.map_set]; simp
theorem zsT_made (n : Nat) : madeCells #[Value.bool false] n = zsT (List.replicate n false) := by
  unfold zsT
  apply Array.ext
  · simp [madeCells]
  · intro i h1 h2
    simp [madeCells, Nat.mod_one]
theorem makeT (n : Nat) (h : n ≤ 1000000) (w : World) : (Instr.makeSlice 68 (.int .i64 (n : Int)) (.int .i64 (n : Int))).run Tryz.prog w = .ok (.slice (some ⟨w.heap.size, 0, none⟩) n n) (w.alloc (.cells (zsT (List.replicate n false)) 4)) := by
  (obtain ⟨i, hi, hz, hs, hb⟩ := info_parts (P := Tryz.prog) (e := 4) (z := .bool false) (size := 1) (bytes := 1) (by kernel_rfl)); (have := run_make (P := Tryz.prog) w 68 4 i _ Tryz.underlying68 hi hz .i64 .i64 n n (by omega) (by omega) (by rw [hb]; omega) (by omega)); (rw [this, hs, Nat.mul_one, Int.toNat_natCast]); (rw [show (Value.bool false).cells = #[Value.bool false] from rfl, zsT_made])
theorem zsT_rd {w : World} {q : Nat} {l : List Bool} (h : w.heap[q]? = some (.cells (zsT l) 4 (0, 0))) (n : Nat) (hn : l.length = n) (hm : n ≤ maxLen) : RdT w (.slice (some ⟨q, 0, none⟩) n n) l := blk_RdT l n hn hm rfl h
end Go.Proofs.YtaobaaaihgahfaaGreat

/- Small functions of folders 31 and 32: Half, half, Flags, All, IsTail, isTail. -/
namespace Go.Mg
open Go.Pil
theorem flags_set {n : Nat} (l : List Int) (c : Nat) (_ : c < n) : (flags n l).set c true = flags n (l ++ [(c : Int)]) := by
  apply List.ext_getElem
  · simp [flags]
  · (intro i h1 h2); (have hi : i < n := by simpa [flags] using h2); (rw [List.getElem_set])
    by_cases he : c = i
    · subst he; simp [flags]
    · rw [if_neg he]; simp [flags]; omega
theorem flags_nil (n : Nat) : flags n [] = List.replicate n false := by
  apply List.ext_getElem
  · simp [flags]
  · intro i h1 h2; simp [flags]
end Go.Mg
namespace Go.Proofs.YtaobaaaihgahfaaGreat
open Go.RowKit Go.Mk Go.Pil Go.Mg
end Go.Proofs.YtaobaaaihgahfaaGreat

/- What the loops over tails run through; numbers of votes are small. -/
namespace Go.Mg
open Go.Pil
theorem allC_succ (k : Nat) : allC (k + 1) = allC k ++ [(k : Int)] := by simp [allC, List.range_succ]
end Go.Mg
