/- electionref24.Add. -/
import Derived.Test.YtaobaaaihgahfaaGreatValQ
import Derived.Shelf.SlSortCmp.WholeK
import Derived.Shelf.SlSortCmp.NoneTotal
namespace Go.Proofs.YtaobaaaihgahfaaGreat
open Go.RowKit Go.Mk Go.Pil
theorem grps_append (a b : List (Grp × Value)) : grps (a ++ b) = grps a ++ grps b := by simp [grps]
theorem flatG_append (a b : List (Grp × Value)) : flatG (a ++ b) = flatG a ++ flatG b := by simp [flatG]
theorem flatG_one (x : Grp × Value) : flatG [x] = grpC x := by simp [flatG]
theorem own_RdG {w : World} {v : Value} {qs : List (Grp × Value)} (h : w.ownsRow 0 105 2 v qs.length (flatG qs)) (hp : ∀ x ∈ qs, RdZ w x.2 x.1.p) : RdG w v qs := ⟨hp, Rd.of_own h⟩
theorem RdZ.one {w : World} {v : Value} {zs : List Int} (h : RdZ w v zs) : v.oneCell' = true := by
  obtain ⟨_, _, _, rfl, _⟩ := h; rfl
def small (ps : List (Grp × Value)) : Prop := ps.length ≤ 1000000 ∧ ∀ x ∈ ps, -1000000 ≤ x.1.n ∧ x.1.n ≤ 1000000
end Go.Proofs.YtaobaaaihgahfaaGreat

/- Places of numbers in lists, which candidates remain, sums over groups: Place, slices.Index, in, remains, Total and Marked of both packages. -/
namespace Go.Pil
theorem tot_pre {n : Int} {l : List Grp} (h : isPile n l = true) (k : Nat) : 0 ≤ tot (l.take k) ∧ tot (l.take k) ≤ 100000 := pile_tot (pile_pre h k)
theorem idxOf_at {p : List Int} {k : Nat} {x : Int} (hk : k < p.length) (hn : x ∉ p.take k) (he : p.getD k 0 = x) : p.idxOf x = k := by
  have h1 : p = p.take k ++ x :: p.drop (k + 1) := by
    (rw [← he]); (have : p.getD k 0 = p[k] := by simp [List.getD_eq_getElem?_getD, hk]); (rw [this, ← List.drop_eq_getElem_cons hk, List.take_append_drop])
  rw [h1, List.idxOf_append, if_neg hn]
  simp; omega
def idxI (p : List Int) (x : Int) : Int := if x ∈ p then (p.idxOf x : Int) else -1
theorem pref_idx (p : List Int) (a b : Int) : pref p a b = true ↔ 0 ≤ idxI p a ∧ (idxI p b < 0 ∨ idxI p a < idxI p b) := by
  (unfold pref idxI); (rw [decide_eq_true_iff])
  by_cases ha : a ∈ p
  · (have := List.idxOf_lt_length_of_mem ha); (rw [if_pos ha])
    by_cases hb : b ∈ p
    · rw [if_pos hb]; omega
    · rw [if_neg hb, List.idxOf_eq_length hb]; omega
  · (rw [if_neg ha, List.idxOf_eq_length ha]); (have : p.idxOf b ≤ p.length := List.idxOf_le_length)
    omega
theorem sumIf_take {Q : List Int → Bool} {l : List Grp} {k : Nat} {g : Grp} (hg : l[k]? = some g) : sumIf Q (l.take (k + 1)) = sumIf Q (l.take k) + if Q g.p = true then g.n else 0 := by
  (obtain ⟨hk, hgk⟩ := List.getElem?_eq_some_iff.1 hg); (rw [List.take_succ_eq_append_getElem hk, hgk])
  simp [sumIf]
theorem sumIf_le {Q : List Int → Bool} {l : List Grp} (h : ∀ g ∈ l, 1 ≤ g.n) : 0 ≤ sumIf Q l ∧ sumIf Q l ≤ tot l := by
  induction l with
  | nil => simp [sumIf, tot]
  | cons g l ih =>
    (have := ih fun x hx => h x (by simp [hx])); (have := h g (by simp)); (rw [sumIf_cons, tot_cons])
    split <;> omega
theorem sumIf_pre {n : Int} {Q : List Int → Bool} {l : List Grp} (h : isPile n l = true) (k : Nat) : 0 ≤ sumIf Q (l.take k) ∧ sumIf Q (l.take k) ≤ 100000 := by
  (have h1 := tot_pre h k); (have h2 := sumIf_le (Q := Q) (l := l.take k) fun g hg => (((isPile_iff n l).1 h).1 g (List.mem_of_mem_take hg)).2)
  omega
end Go.Pil
namespace Go.Proofs.YtaobaaaihgahfaaGreat
open Go.RowKit Go.Mk Go.Pil
/-- A slice of flags. -/
def RdT (w : World) (v : Value) (bs : List Bool) : Prop := Rd w 1 v bs.length (bs.map Value.bool)
theorem RdT.kept {w w' : World} {v : Value} {bs : List Bool} (h : RdT w v bs) (hk : Kept no w w') : RdT w' v bs := Rd.keptNo h hk
theorem RdT.at {w : World} {ao : Option Addr} {n cap : Nat} {bs : List Bool} (h : RdT w (.slice ao n cap) bs) (k : Nat) (hk : k < bs.length) :
    ∃ b o, ao = some ⟨b, o, none⟩ ∧ w.cell? ⟨b, o + k, none⟩ = some (.bool (bs.getD k false)) := by
  obtain ⟨_, _, _, e, h1, _, h | ⟨b, o, rfl, hc⟩⟩ := h
  · cases e; omega
  · cases e
    exact ⟨b, o, rfl, hc k _ (by simp [hk])⟩
set_option maxRecDepth 20000 in
set_option maxHeartbeats 1000000 in
theorem index_any (v : Value) (zs : List Int) (x : Int) (w : World) (hr : RdZ w v zs) : Calls Tryz.prog 87 #[v, .int .i64 x] w fun e w' => e = .returned (.int .i64 (idxI zs x)) ∧ Qt w w' := by
  (obtain ⟨ao, cap, rfl, hcap, hcm⟩ := Rd.shape2 hr); (have hm63 := maxLen_63); (replace hr := hid hr)
  go_enter Tryz.func87, Tryz.ntmps87
  go_wp2
  go_loopw [8] (fun i wr => ∃ k : Nat, k ≤ zs.length ∧ i = .int .i64 (k : Int) ∧ Hd (x ∉ zs.take k) ∧ Hd (Qt w wr)) (fun i _ => zs.length - (intOf i).toNat)
  case atStart => exact ⟨0, by omega, rfl, ⟨by simp⟩, ⟨Qt.refl _⟩⟩
  case round =>
    obtain ⟨k, hk, rfl, hx, hW⟩ := hrel
    by_cases hlt : k < zs.length
    · (obtain ⟨b, o, rfl, hc⟩ := (hr.out.kept hW.out.kept).at k hlt); (have hk1 : (k : Int) < (zs.length : Int) := by omega); (have hst := hid (mem_take_succ hlt x)); (have hat := hid (fun h => idxOf_at hlt hx.out h)); (have hml := hid (fun h => List.mem_of_mem_take (i := k + 1) (show x ∈ zs.take (k + 1) from h))); (generalize zs.getD k 0 = z at hc hst hat)
      by_cases he : x = z
      · (have hb : (x == z) = true := by simpa using he); (have hv : Hd (idxI zs x = (k : Int)) := ⟨by unfold idxI; rw [if_pos (hml.out (hst.out.2 (.inr he))), hat.out he.symm]⟩); (clear he hat hst hml); (go_wp2); (go_ret); (exact ⟨by rw [hv.out] <;> rfl, hW.out⟩)
      · (have hb : (x == z) = false := by simpa using he); (have hn : Hd (x ∉ zs.take (k + 1)) := ⟨fun h => (hst.out.1 h).elim hx.out fun e => he e⟩); (clear he hst hat hx hml); (go_wp2); (go_roundw)
        case rel => first | exact ⟨k + 1, by omega, by go_num, hn, hW⟩ | ((repeat apply Exists.intro); exact ⟨⟨k + 1, by omega, by go_num, hn, hW⟩, rfl⟩)
        case measure => simp [intOf]; omega
    · (obtain rfl : k = zs.length := by omega); (have hv : Hd (idxI zs x = -1) := ⟨by unfold idxI; rw [if_neg (by have := hx.out; rwa [List.take_length] at this)]⟩); (clear hx); (go_wp2); (go_ret); (exact ⟨by rw [hv.out] <;> rfl, hW.out⟩)
set_option maxHeartbeats 1000000 in
theorem remains_any (v : Value) (bs : List Bool) (c : Nat) (w : World) (hr : RdT w v bs) : Calls Tryz.prog 77 #[v, .int .i64 (c : Int)] w fun e w' => e = .returned (.bool (inB bs (c : Int))) ∧ w' = w := by
  (obtain ⟨ao, cap, rfl, hcap, hcm⟩ := Rd.shape2 hr); (have hm63 := maxLen_63); (have h0 : (0 : Int) ≤ (c : Int) := by omega)
  by_cases h1 : c < bs.length
  · (obtain ⟨b, o, rfl, hc⟩ := RdT.at hr c h1); (have hv : Hd (inB bs (c : Int) = bs.getD c false) := ⟨by simp [inB]⟩); (have h1' : (c : Int) < (bs.length : Int) := by omega); (have hd1 : decide ((c : Int) < (bs.length : Int)) = true := decide_eq_true h1'); (generalize bs.getD c false = r at hc hv); (clear hr)
    go_enter Tryz.func77, Tryz.ntmps77
    (go_wp2); (go_ret); (exact ⟨by rw [hv.out]; rfl, rfl⟩)
  · (have hv : Hd (inB bs (c : Int) = false) := ⟨by simp [inB, List.getD_eq_getElem?_getD, List.getElem?_eq_none (Nat.not_lt.1 h1)]⟩); (have h1' : ¬ (c : Int) < (bs.length : Int) := by omega); (have hd1 : decide ((c : Int) < (bs.length : Int)) = false := decide_eq_false h1'); (clear hr)
    go_enter Tryz.func77, Tryz.ntmps77
    (go_wp2); (go_ret); (exact ⟨by rw [hv.out]; rfl, rfl⟩)
theorem total_range (gs : List Grp) : 0 ≤ total gs ∧ total gs ≤ 100000 := by
  unfold total
  split
  · rename_i h; exact pile_tot h
  · omega
end Go.Proofs.YtaobaaaihgahfaaGreat

/- The laying of slices.SortFunc over groups (printed by gen_srt.py). -/
namespace Go.Proofs.YtaobaaaihgahfaaGreat
open Go.Shelf Go.RowKit
def sortRen : Go.Shelf.Ren := ⟨fun | 6 => 94 | 14 => 146 | 15 => 131 | 20 => 195 | 21 => 196 | 22 => 197 | 23 => 198 | 24 => 199 | 25 => 200 | 26 => 201 | 27 => 202 | 28 => 189 | 29 => 190 | 46 => 223 | 47 => 217 | 48 => 218 | 49 => 224 | 50 => 225 | 57 => 248 | n => n, fun | 0 => 0 | 3 => 3 | 4 => 4 | 5 => 5 | 9 => 9 | 22 => 29 | 24 => 105 | 25 => 154 | 39 => 158 | 45 => 229 | 46 => 230 | 50 => 141 | 53 => 202 | 55 => 171 | 66 => 256 | 70 => 260 | 76 => 278 | 77 => 137 | n => n, fun n => n⟩
theorem sortLays : Go.Proofs.SlLaysF0.n6 Tryz.prog sortRen := { mixed := by kernel_rfl, f6 := ⟨Tryz.f94.name, by decide, by kernel_rfl⟩, f14 := ⟨Tryz.f146.name, by decide, by kernel_rfl⟩, f15 := by kernel_rfl, f20 := ⟨Tryz.f195.name, by decide, by kernel_rfl⟩, f21 := ⟨Tryz.f196.name, by decide, by kernel_rfl⟩, f22 := ⟨Tryz.f197.name, by decide, by kernel_rfl⟩, f23 := ⟨Tryz.f198.name, by decide, by kernel_rfl⟩, f24 := ⟨Tryz.f199.name, by decide, by kernel_rfl⟩, f25 := ⟨Tryz.f200.name, by decide, by kernel_rfl⟩, f26 := ⟨Tryz.f201.name, by decide, by kernel_rfl⟩, f27 := ⟨Tryz.f202.name, by decide, by kernel_rfl⟩, f28 := by kernel_rfl, f29 := by kernel_rfl, f46 := ⟨Tryz.f223.name, by decide, by kernel_rfl⟩, f47 := by kernel_rfl, f48 := by kernel_rfl, f49 := ⟨Tryz.f224.name, by decide, by kernel_rfl⟩, f50 := ⟨Tryz.f225.name, by decide, by kernel_rfl⟩, f57 := ⟨Tryz.f248.name, by decide, by kernel_rfl⟩, t0 := by kernel_rfl, a0 := fun _ => by kernel_rfl, z0 := fun _ => by kernel_rfl, v0 := fun _ => by kernel_rfl, t3 := by kernel_rfl, a3 := fun _ => by kernel_rfl, z3 := fun _ => by kernel_rfl, v3 := fun _ => by kernel_rfl, t4 := by kernel_rfl, a4 := fun _ => by kernel_rfl, z4 := fun _ => by kernel_rfl, v4 := fun _ => by kernel_rfl, t5 := by kernel_rfl, a5 := fun _ => by kernel_rfl, z5 := fun _ => by kernel_rfl, v5 := fun _ => by kernel_rfl, t9 := by kernel_rfl, a9 := fun _ => by kernel_rfl, z9 := fun _ => by kernel_rfl, v9 := fun _ => by kernel_rfl, t22 := by kernel_rfl, a22 := fun _ => by kernel_rfl, z22 := fun _ => by kernel_rfl, v22 := fun _ => by kernel_rfl, t25 := by kernel_rfl, a25 := fun _ => by kernel_rfl, z25 := fun _ => by kernel_rfl, v25 := fun _ => by kernel_rfl, t39 := by kernel_rfl, a39 := fun _ => by kernel_rfl, z39 := fun _ => by kernel_rfl, v39 := fun _ => by kernel_rfl, t45 := by kernel_rfl, a45 := fun _ => by kernel_rfl, z45 := fun _ => by kernel_rfl, v45 := fun _ => by kernel_rfl, t46 := by kernel_rfl, a46 := fun _ => by kernel_rfl, z46 := fun _ => by kernel_rfl, v46 := fun _ => by kernel_rfl, t50 := by kernel_rfl, a50 := fun _ => by kernel_rfl, z50 := fun _ => by kernel_rfl, v50 := fun _ => by kernel_rfl, t53 := by kernel_rfl, a53 := fun _ => by kernel_rfl, z53 := fun _ => by kernel_rfl, v53 := fun _ => by kernel_rfl, t55 := by kernel_rfl, a55 := fun _ => by kernel_rfl, z55 := fun _ => by kernel_rfl, v55 := fun _ => by kernel_rfl, t66 := by kernel_rfl, a66 := fun _ => by kernel_rfl, z66 := fun _ => by kernel_rfl, v66 := fun _ => by kernel_rfl, t70 := by kernel_rfl, a70 := fun _ => by kernel_rfl, z70 := fun _ => by kernel_rfl, v70 := fun _ => by kernel_rfl, t76 := by kernel_rfl, a76 := fun _ => by kernel_rfl, z76 := fun _ => by kernel_rfl, v76 := fun _ => by kernel_rfl, t77 := by kernel_rfl, a77 := fun _ => by kernel_rfl, z77 := fun _ => by kernel_rfl, v77 := fun _ => by kernel_rfl }
end Go.Proofs.YtaobaaaihgahfaaGreat

/- Sorting groups by their preferences: slices.SortFunc's contract at the closure of merge. -/
namespace Go.Mk
open Go.RowKit Go.Sort
section
variable {α : Type} [Inhabited α] {enc : α → List Value} {k : Nat} {w : World} {blk : Nat}
omit [Inhabited α] in
theorem extract_all (a : Array α) (n : Nat) (h : a.size = n) : a.extract 0 n = a := by subst h; exact Array.extract_size
theorem flatK_get (hk : ∀ x, (enc x).length = k) (d : Array α) (j : Nat) (hj : j < d.size * k) : (d.toList.flatMap enc)[j]? = some (flatK enc k d)[j]! := by
  (have hk0 : 0 < k := by rcases Nat.eq_zero_or_pos k with h | h; subst h; simp at hj; exact h); (have hq : j / k < d.size := by rw [Nat.div_lt_iff_lt_mul hk0]; exact hj); (have hr : j % k < k := Nat.mod_lt _ hk0); (rw [get_flatK _ _ _ _ hj]); (have e1 : j = j / k * k + j % k := by rw [Nat.mul_comm]; exact (Nat.div_add_mod j k).symm); (have := flatAt (f := enc) (sz := k) (ps := d.toList) (fun x _ => hk x) (j / k) (j % k) (by simpa using hq) hr); (rw [← e1] at this); (rw [this]); (have hd : d[j / k]! = d.toList[j / k]'(by simpa using hq) := by rw [getElem!_pos d _ hq]; simp); (rw [hd, List.getElem?_eq_getElem (by rw [hk]; exact hr)])
  congr 1
  rw [getElem!_pos _ _ (by rw [hk]; exact hr)]
theorem kept_sortK (off m : Nat) (dk : Array α) (os : Array Obj) : Kept (fun j => j = blk) w (Go.Proofs.sortWorldK enc k w blk off m dk os) := by
  (have hs : (putRowK enc k (Go.Sort.ahead w m) blk off dk).heap.size = w.heap.size := by rw [size_putRowK]; rfl); (refine ⟨rfl, rfl, rfl, ?_, fun j hj hne => ?_⟩)
  · unfold Go.Proofs.sortWorldK; rw [size_grow, hs]; omega
  · (have hne : j ≠ blk := hne); (unfold Go.Proofs.sortWorldK grow); (simp only); (rw [Array.getElem?_append_left (by rw [hs]; exact hj)]); (unfold putRowK putRow mapBlock); (simp only [Array.getElem?_modify]); (rw [if_neg (Ne.symm hne)]; rfl)
theorem holds_own {e : TypeId} {n cap : Nat} (hk : ∀ x, (enc x).length = k) (d : Array α) (_ : d.size = n) (ho : w.ownsRow 0 e k (.slice (some ⟨blk, 0, none⟩) n cap) n (d.toList.flatMap enc)) : HoldsK enc k w blk 0 d := by
  (intro j hj); (rw [size_flatK] at hj); (have hg := flatK_get hk d j hj); (obtain ⟨_, ⟨h, _⟩ | ⟨g, c, cur, e', _, hgb, hnc, hcm, hcs, ht⟩⟩ := ho)
  · cases h
  · cases e'
    (refine ⟨?_, row_free hgb _⟩); (rw [cell_of_row w _ _ cur _ (0, 0) hgb, Nat.zero_add]); (rw [← ht, List.getElem?_take] at hg)
    split at hg
    · simpa using hg
    · cases hg
theorem own_sortK {e : TypeId} {n cap m : Nat} (hk : ∀ x, (enc x).length = k) (d0 d : Array α) (os : Array Obj) (hn : d0.size = n) (hn' : d.size = n) (ho : w.ownsRow 0 e k (.slice (some ⟨blk, 0, none⟩) n cap) n (d0.toList.flatMap enc)) :
    (Go.Proofs.sortWorldK enc k w blk 0 m d os).ownsRow 0 e k (.slice (some ⟨blk, 0, none⟩) n cap) n (d.toList.flatMap enc) := by
  (have hH := holds_own hk d0 hn ho); (have hlen : (d.toList.flatMap enc).length = n * k := by rw [flatLen (sz := k) fun x _ => hk x]; simp [hn']); (obtain ⟨_, ⟨h, _⟩ | ⟨g, c, cur, e', _, hgb, hnc, hcm, hcs, ht⟩⟩ := ho)
  · cases h
  · cases e'
    (have hb : blk < w.heap.size := lt_of_heap hgb); (have hH' := Go.Proofs.holdsK_sortWorldK_c enc k w blk 0 d0 d m os hH hb (by rw [hn, hn']))
    have hh : (Go.Proofs.sortWorldK enc k w blk 0 m d os).heap[blk]? = some (.cells (putCells id 0 (flatK enc k d) cur) e (0, 0)) := by
      (have hs : (putRowK enc k (Go.Sort.ahead w m) blk 0 d).heap.size = w.heap.size := by rw [size_putRowK]; rfl); (unfold Go.Proofs.sortWorldK grow); (simp only); (rw [Array.getElem?_append_left (by rw [hs]; exact hb)]); (unfold putRowK putRow mapBlock); (simp only [Array.getElem?_modify, if_pos])
      show Option.map _ (w.heap[blk]?) = _
      rw [hgb]; rfl
    (refine ⟨hlen, .inr ⟨blk, cap, _, rfl, Nat.zero_le _, hh, hnc, hcm, by simp [putCells, hcs], ?_⟩⟩); (have hsz : (putCells id 0 (flatK enc k d) cur).size = cap * k := by simp [putCells, hcs]); (have hle : n * k ≤ cap * k := Nat.mul_le_mul_right _ hnc); (refine List.ext_getElem? fun j => ?_); (rw [List.getElem?_take])
    by_cases hj : j < n * k
    · (rw [if_pos hj, flatK_get hk d j (by rw [hn']; exact hj)]); (have := (hH' j (by rw [size_flatK, hn']; exact hj)).1); (rw [cell_of_row _ _ _ _ _ (0, 0) hh, Nat.zero_add] at this)
      simpa using this
    · rw [if_neg hj, List.getElem?_eq_none (by omega)]
end
end Go.Mk
namespace Go.Proofs.YtaobaaaihgahfaaGreat
open Go.RowKit Go.Mk Go.Pil Go.Sort
set_option maxRecDepth 20000 in
set_option maxHeartbeats 1000000 in
theorem closure_any (x y : Grp × Value) (W : World) (hx : RdZ W x.2 x.1.p) (hy : RdZ W y.2 y.1.p) : Calls Tryz.prog 95 #[.agg (grpC x).toArray, .agg (grpC y).toArray] W fun e w' => e = .returned (.int .i64 (cmp x.1.p y.1.p)) ∧ ∃ q os', w' = grow (W.drewN q) os' := by
  (obtain ⟨⟨xp, xn⟩, xv⟩ := x); (obtain ⟨⟨yp, yn⟩, yv⟩ := y); (simp only at hx hy ⊢); (obtain ⟨ax, cx, rfl, _, _⟩ := Rd.shape2 hx); (obtain ⟨ay, cy, rfl, _, _⟩ := Rd.shape2 hy); (obtain ⟨lx, hlx⟩ : ∃ l, xp.length = l := ⟨_, rfl⟩); (obtain ⟨ly, hly⟩ : ∃ l, yp.length = l := ⟨_, rfl⟩); (rw [hlx] at hx ⊢); (rw [hly] at hy ⊢); (have k1 := ((Kept.refl no W).alloc (.cells #[.slice ax lx cx, .int .i64 xn] 105)).alloc (.cells #[.slice ay ly cy, .int .i64 yn] 105)); (have HC := hid (compare_any (.slice ax lx cx) (.slice ay ly cy) xp yp _ (hx.kept k1) (hy.kept k1))); (replace hx := hid hx); (replace hy := hid hy); (replace hlx := hid hlx); (replace hly := hid hly); (clear k1); (unfold grpC)
  go_enter Tryz.func95, Tryz.ntmps95
  (go_wp2_with fail); (refine HC.out.mono ?_); (rintro e w1 ⟨rfl, rfl⟩); (go_wp2); (go_ret); (exact ⟨rfl, 0, _, by rw [alloc_eq_grow, alloc_eq_grow, grow_grow]; rfl⟩)
/-- A group whose preferences can be read in every world that differs from w in v's row alone. -/
structure PG (w : World) (v : Value) where
  x : Grp × Value
  ok : ∀ W, Kept (ob v) w W → RdZ W x.2 x.1.p
def encG {w : World} {v : Value} (x : PG w v) : List Value := grpC x.x
theorem swo_lt {w : World} {v : Value} : SWO (ltOf fun x y : PG w v => cmp x.x.1.p y.x.1.p) := by
  have e : ∀ x y : PG w v, ltOf (fun x y : PG w v => cmp x.x.1.p y.x.1.p) x y = lt x.x.1.p y.x.1.p := fun x y => by
    unfold ltOf
    cases h : lt x.x.1.p y.x.1.p with
    | true => exact decide_eq_true ((cmp_lt _ _).2 h)
    | false => exact decide_eq_false fun hh => by have := (cmp_lt _ _).1 hh; rw [h] at this; cases this
  (refine ⟨fun x => by rw [e]; exact lt_irrefl _, fun x y z h1 h2 => by rw [e] at *; exact lt_trans h1 h2, fun x y z h1 h2 => ?_⟩); (rw [e] at *)
  cases h3 : lt x.x.1.p z.x.1.p with
  | false => rfl
  | true =>
    rcases lt_tri x.x.1.p y.x.1.p with h | h | h
    · rw [h] at h1; cases h1
    · rw [h] at h3; rw [h3] at h2; cases h2
    · have := lt_trans h h3; rw [this] at h2; cases h2
set_option maxRecDepth 20000 in
set_option maxHeartbeats 1000000 in
theorem sort_any (v : Value) (ps : List (Grp × Value)) (w : World) (ho : w.ownsRow 0 105 2 v ps.length (flatG ps)) (hp : ∀ x ∈ ps, ∀ W, Kept (ob v) w W → RdZ W x.2 x.1.p) (hn : ps.length ≤ 1000000) :
    Calls Tryz.prog 94 #[v, .func (.func 95) #[] #[]] w fun e w' => e = .returned (.tuple #[]) ∧ ∃ qs, ps.Perm qs ∧ (qs.Pairwise fun a b => lt b.1.p a.1.p = false) ∧ w'.ownsRow 0 105 2 v qs.length (flatG qs) ∧ Kept (ob v) w w' := by
  by_cases h0 : ps = []
  · (subst h0); (obtain ⟨a, c, rfl⟩ : ∃ a c, v = .slice a 0 c := by obtain ⟨_, ⟨h, _⟩ | ⟨g, c, cur, h, _⟩⟩ := ho; exact ⟨_, _, h⟩; exact ⟨_, _, h⟩); (refine (AnyF.slices_SortFunc_none sortLays a c (.func (.func 95) #[] #[]) w).mono ?_); (rintro e w' ⟨rfl, rfl⟩); (exact ⟨rfl, [], List.Perm.refl _, List.Pairwise.nil, ho, Kept.refl _ _⟩)
  · (have ho' := ho); (obtain ⟨_, ⟨_, h⟩ | ⟨g, c, cur, rfl, _, hgb, _⟩⟩ := ho')
    · exact absurd (List.eq_nil_of_length_eq_zero h) h0
    (have hb : g < w.heap.size := lt_of_heap hgb); (obtain ⟨d, hd⟩ : ∃ d : List (PG w (.slice (some ⟨g, 0, none⟩) ps.length c)), d.map PG.x = ps := ⟨ps.attach.map fun x => ⟨x.1, hp x.1 x.2⟩, by rw [List.map_map]; exact List.attach_map_subtype_val ps⟩); (have hne : d ≠ [] := fun h => h0 (by rw [← hd, h]; rfl))
    haveI : Inhabited (PG w (.slice (some ⟨g, 0, none⟩) ps.length c)) := ⟨d.head hne⟩
    have hdl : d.toArray.size = ps.length := by have := congrArg List.length hd; simpa using this
    have hfl : flatG ps = d.toArray.toList.flatMap encG := by
      (have : flatG (d.map PG.x) = d.flatMap encG := by unfold flatG encG; rw [List.flatMap_map]); (rw [hd] at this); (exact this)
    (have hk : ∀ x : PG w (.slice (some ⟨g, 0, none⟩) ps.length c), (encG x).length = 2 := fun _ => rfl); (rw [hfl] at ho); (have hH := holds_own hk d.toArray hdl ho); (have eg : ∀ args w, (callFunc 95 args).run Tryz.prog w = .ok (.enter 95 args) w := enters_of Tryz.func95 (by kernel_rfl) rfl); (have hobe : ∀ j, j = g → ob (.slice (some ⟨g, 0, none⟩) ps.length c) j := fun j h => by rw [h]; rfl)
    have hcmp : CmpLays Tryz.prog 95 #[] encG 2 (fun x y : PG w (.slice (some ⟨g, 0, none⟩) ps.length c) => cmp x.x.1.p y.x.1.p) g 0 d.toArray.size w := fun m os dk _ x y => by
      (have kk : Kept (ob (.slice (some ⟨g, 0, none⟩) ps.length c)) w (sortWorldK encG 2 w g 0 m dk os) := (kept_sortK (w := w) 0 m dk os).mono fun j _ h => hobe j h); (exact closure_any x.x y.x _ (x.ok _ kk) (y.ok _ kk))
    have hcon := AnyQ.slices_SortFunc sortLays 2 (fun _ => by kernel_rfl) (fun _ => by kernel_rfl) encG hk (fun x u hu => by
      simp only [encG, grpC, List.mem_cons, List.not_mem_nil, or_false] at hu
      rcases hu with rfl | rfl
      · exact RdZ.one (x.ok w (Kept.refl _ _))
      · rfl) (fun x y => cmp x.x.1.p y.x.1.p) swo_lt 95 #[] g 0 c d.toArray w eg hcmp hH hb (by rw [hdl]; omega)
    (rw [hdl] at hcon); (refine hcon.mono ?_); (rintro e w' ⟨rfl, d', n, os, hperm, hsort, rfl⟩); (obtain ⟨hsz, _, hpm⟩ := hperm); (rw [hdl] at hsz); (have hex : ∀ a : Array (PG w (.slice (some ⟨g, 0, none⟩) ps.length c)), a.size = ps.length → a.extract 0 ps.length = a := fun a h => extract_all a _ h); (rw [hex d' hsz, hex d.toArray hdl] at hpm)
    have hpq : ps.Perm (d'.toList.map PG.x) := by
      have := (hpm.symm.map PG.x)
      rwa [show (d.toArray.toList.map PG.x) = ps from by simpa using hd] at this
    (have hql : (d'.toList.map PG.x).length = ps.length := by simpa using hsz); (have e2 : flatG (d'.toList.map PG.x) = d'.toList.flatMap encG := by unfold flatG encG; rw [List.flatMap_map]); (refine ⟨rfl, d'.toList.map PG.x, hpq, ?_, ?_, (kept_sortK (w := w) 0 n d' os).mono fun j _ h => hobe j h⟩)
    · (rw [List.pairwise_map, List.pairwise_iff_getElem]); (intro i j hi hj hij); (have := hsort i j (Nat.zero_le _) hij (by rw [← hsz]; simpa using hj)); (have e3 : ∀ q (hq : q < d'.toList.length), d'[q]! = d'.toList[q] := fun q hq => by rw [getElem!_pos d' q (by simpa using hq)]; simp); (rw [e3 i hi, e3 j hj] at this); (unfold ltOf at this)
      cases h : lt (d'.toList[j]).x.1.p (d'.toList[i]).x.1.p with
      | false => rfl
      | true => rw [decide_eq_true ((cmp_lt _ _).2 h)] at this; cases this
    · (rw [hql, e2]); (exact own_sortK hk d.toArray d' os hdl hsz ho)
end Go.Proofs.YtaobaaaihgahfaaGreat

/- pile.merge (printed by gen_merge.py). -/
namespace Go.Mk
open Go.RowKit
section
variable {P : Program} {S : Nat → Prop}
theorem OpY.skipZ {o : Oper} {a : Act} {w w' : World} {R : Value → World → Prop} (h : (execOp a.eval o).run P w = .ok .skip w') (hr : R undef w') : OpY P o a w R := by
  unfold OpY; rw [h]; exact hr
end
theorem own_set {w : World} {e : TypeId} {size n cap g : Nat} {L : List Value} (h : w.ownsRow 0 e size (.slice (some ⟨g, 0, none⟩) n cap) n L) (i : Nat) (v : Value) : (w.setCell ⟨g, i, none⟩ v).ownsRow 0 e size (.slice (some ⟨g, 0, none⟩) n cap) n (L.set i v) := by
  obtain ⟨h1, ⟨h, _⟩ | ⟨g', c, cur, e', _, hg, hn, hcm, hcs, ht⟩⟩ := h
  · cases h
  · cases e'
    (refine ⟨by rw [List.length_set]; exact h1, .inr ⟨g, cap, cur.setIfInBounds i v, rfl, Nat.zero_le _, setCell_row hg i v, hn, hcm, by simp [hcs], ?_⟩⟩); (rw [Array.toList_setIfInBounds, ← ht, List.take_set])
end Go.Mk
namespace Go.Proofs.YtaobaaaihgahfaaGreat
open Go.RowKit Go.Mk Go.Pil
def PUn {Sl : Nat → Nat → Prop} (w0 : World) (g i : Nat) (v : Value) : Pr Sl := soft (fun _ w => ∃ w1, Kept no w0 w1 ∧ Kept no (w1.setCell ⟨g, i, none⟩ v) w) fun _ _ _ ⟨w1, h1, h2⟩ k => ⟨w1, h1, h2.trans' k⟩
theorem flatG_set (qs : List (Grp × Value)) (l : Grp) (u : Value) (N : Int) : (flatG (qs ++ [(l, u)])).set (qs.length * 2 + 1) (.int .i64 N) = flatG (qs ++ [(⟨l.p, N⟩, u)]) := by
  (rw [flatG_append, flatG_append, flatG_one, flatG_one]); (have hl : (flatG qs).length = qs.length * 2 := flatLen (f := grpC) fun _ _ => rfl); (rw [List.set_append_right _ _ (by omega), hl, Nat.add_sub_cancel_left]; rfl)
end Go.Proofs.YtaobaaaihgahfaaGreat
