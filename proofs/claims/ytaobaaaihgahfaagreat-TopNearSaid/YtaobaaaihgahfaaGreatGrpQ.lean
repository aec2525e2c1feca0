/- Lists of numbers, groups, ballots in memory. -/
import Derived.Test.YtaobaaaihgahfaaGreatKitQ
import Derived.Test.YtaobaaaihgahfaaGreatPilQ
import Derived.Test.YtaobaaaihgahfaaGreatProg
import Derived.BigQuiet
import Derived.Deep.DeepCutAuto
import Derived.Laws.ResultCell
import Derived.Laws.MakeOwn
import Derived.Deep.MidRow
import Derived.StillTailTactics
import Derived.Deep.QuietTactic
namespace Go.Mk
open Go.RowKit
/-- Nothing but the tape's place has turned. -/
def Qt (w w' : World) : Prop := ∃ q, w' = w.drewN q
theorem Qt.refl (w : World) : Qt w w := ⟨0, rfl⟩
theorem Qt.drewN {w w' : World} (h : Qt w w') (n : Nat) : Qt w (w'.drewN n) := by obtain ⟨q, rfl⟩ := h; exact ⟨q + n, by rw [World.drewN_drewN]⟩
theorem Qt.trans {w w1 w2 : World} (h : Qt w w1) (h' : Qt w1 w2) : Qt w w2 := by obtain ⟨q, rfl⟩ := h'; exact h.drewN q
theorem Qt.kept {w w' : World} (h : Qt w w') : Kept no w w' := by obtain ⟨q, rfl⟩ := h; exact (Kept.refl no w).drewN q
theorem Qt.quiet {P : Program} {f : FuncId} {args : Array Value} {w : World} {v : Value} (h : ∀ W, Qt w W → Calls P f args W fun e w'' => e = .returned v ∧ Qt W w'') : ∀ n, Calls P f args (w.drewN n) fun e w'' => e = .returned v ∧ ∃ m, w'' = w.drewN m := fun n =>
  (h (w.drewN n) ⟨n, rfl⟩).mono fun _ _ ⟨h1, h2⟩ => ⟨h1, (Qt.trans ⟨n, rfl⟩ h2)⟩
def New (w : World) (v : Value) : Prop := v.ownBlock = none ∨ ∃ k, v.ownBlock = some k ∧ w.heap.size ≤ k
theorem New.step {w w1 : World} {v v' : Value} (h : New w v) (h' : NewOr w1 v v') (hs : w.heap.size ≤ w1.heap.size) : New w v' := by
  rcases h' with h' | ⟨k, h1, h2⟩
  · rcases h with h | ⟨k, h1, h2⟩
    · exact .inl (h'.trans h)
    · exact .inr ⟨k, h'.trans h1, h2⟩
  · exact .inr ⟨k, h1, by omega⟩
theorem New.kept {w w1 w' : World} {v : Value} (h : New w v) (hk : Kept no w w1) (hv : Kept (ob v) w1 w') : Kept no w w' :=
  hk.trans hv fun k hlt e => by
    rcases h with h | ⟨j, h1, h2⟩
    · rw [ob, h] at e; cases e
    · rw [ob, h1, Option.some.injEq] at e; omega
theorem New.fr {w : World} {v : Value} {B : Nat} (h : New w v) (hB : B ≤ w.heap.size) : ∀ k, v.ownBlock = some k → B ≤ k := fun k hk => by
  rcases h with h | ⟨j, h, hl⟩
  · rw [h] at hk; cases hk
  · rw [h] at hk; cases hk; omega
theorem frNew {w : World} {v : Value} (h : ∀ k, v.ownBlock = some k → w.heap.size ≤ k) : New w v := by
  cases hv : v.ownBlock with
  | none => exact .inl hv
  | some k => exact .inr ⟨k, hv, h k hv⟩
theorem New.of {w w1 : World} {v : Value} (h : New w1 v) (hs : w.heap.size ≤ w1.heap.size) : New w v := frNew fun k hk => h.fr hs k hk
theorem own_ne {w : World} {e t : TypeId} {size n : Nat} {v : Value} {xs : List Value} (h : w.ownsRow 0 e size v n xs) {g : Nat} {c : Array Value} {fr : Nat × Nat} (hg : w.heap[g]? = some (.cells c t fr)) (ht : e ≠ t) : ∀ j, v.ownBlock = some j → j ≠ g := fun j hj e => by
  obtain ⟨_, ⟨rfl, _⟩ | ⟨k, _, _, rfl, _, hk, _⟩⟩ := h
  · cases hj
  · (have : k = j := by simpa [Value.ownBlock] using hj); (subst this e); (rw [hk] at hg); (simp only [Option.some.injEq, Obj.cells.injEq] at hg); (exact ht hg.2.1)
theorem own_lt {w : World} {e : TypeId} {size n : Nat} {v : Value} {xs : List Value} (h : w.ownsRow 0 e size v n xs) : ∀ j, v.ownBlock = some j → j < w.heap.size := fun j hj => by
  obtain ⟨_, ⟨rfl, _⟩ | ⟨k, _, _, rfl, _, hk, _⟩⟩ := h
  · cases hj
  · (have : k = j := by simpa [Value.ownBlock] using hj); (subst this); (exact (Array.getElem?_eq_some_iff.1 hk).1)
/-- Two rows of different types lie apart. -/
theorem own_own {w : World} {e t : TypeId} {s1 s2 n m : Nat} {v u : Value} {xs ys : List Value} (h : w.ownsRow 0 e s1 v n xs) (h' : w.ownsRow 0 t s2 u m ys) (ht : e ≠ t) : ∀ j, v.ownBlock = some j → u.ownBlock = some j → False := fun j hv hu => by
  obtain ⟨_, ⟨rfl, _⟩ | ⟨k, _, c, rfl, _, hk, _⟩⟩ := h'
  · cases hu
  · (have : k = j := by simpa [Value.ownBlock] using hu); (subst this); (exact own_ne h hk ht k hv rfl)
theorem Kept.blk {w w' : World} (k : Kept no w w') {g : Nat} {o : Obj} (h : w.heap[g]? = some o) : w'.heap[g]? = some o := (k.block _ (Array.getElem?_eq_some_iff.1 h).1 id).trans h
theorem Kept.rng {w w' : World} (k : Kept no w w') {b o : Nat} {cs : List Value} (h : w.rangeAt b o cs) : w'.rangeAt b o cs := fun j u hu => k.cell (h j u hu) id
theorem row_free {w : World} {g : Nat} {c : Array Value} {t : TypeId} (h : w.heap[g]? = some (.cells c t (0, 0))) (j : Nat) : w.frozen? ⟨g, j, none⟩ = false := by
  simp [World.frozen?, h]
theorem lt_of_heap {w : World} {g : Nat} {o : Obj} (h : w.heap[g]? = some o) : g < w.heap.size := (Array.getElem?_eq_some_iff.1 h).1
section
variable {α : Type} {f : α → List Value} {sz : Nat} {ps : List α} {w : World} {ao : Option Addr} {n cap : Nat}
theorem flatLen (hf : ∀ x ∈ ps, (f x).length = sz) : (ps.flatMap f).length = ps.length * sz := by
  induction ps with
  | nil => simp
  | cons x ps ih => rw [List.flatMap_cons, List.length_append, hf x (by simp), ih fun y hy => hf y (by simp [hy]), List.length_cons, Nat.add_mul]; omega
theorem flatAt (hf : ∀ x ∈ ps, (f x).length = sz) (k j : Nat) (hk : k < ps.length) (hj : j < sz) : (ps.flatMap f)[k * sz + j]? = (f ps[k])[j]? := by
  induction ps generalizing k with
  | nil => simp at hk
  | cons x ps ih =>
    (rw [List.flatMap_cons]); (have hl := hf x (by simp))
    match k with
    | 0 => rw [Nat.zero_mul, Nat.zero_add, List.getElem?_append_left (by omega)]; rfl
    | k + 1 =>
      rw [List.getElem?_append_right (by rw [hl, Nat.add_mul]; omega), hl, show (k + 1) * sz + j - sz = k * sz + j by rw [Nat.add_mul]; omega, ih (fun e he => hf e (by simp [he])) k (by simpa using hk)]
      rfl
theorem Rd.row (hf : ∀ x ∈ ps, (f x).length = sz) (h : Rd w sz (.slice ao n cap) ps.length (ps.flatMap f)) (k : Nat) (hk : k < ps.length) : ∃ b o, ao = some ⟨b, o, none⟩ ∧ w.rangeAt b (o + k * sz) (f ps[k]) := by
  obtain ⟨_, _, _, e, h1, _, h | ⟨b, o, rfl, hc⟩⟩ := h
  · cases e; omega
  · cases e
    refine ⟨b, o, rfl, fun j u hu => ?_⟩
    have hj : j < sz := by
      have := (List.getElem?_eq_some_iff.1 hu).1
      rwa [hf _ (List.getElem_mem hk)] at this
    (rw [Nat.add_assoc]); (exact hc _ _ (by rw [flatAt hf k j hk hj]; exact hu))
end
theorem Rd.shapeZ {w : World} {size n : Nat} {v : Value} {xs : List Value} (h : Rd w size v n xs) : ∃ ao cap, v = .slice ao n cap := by
  obtain ⟨_, ao, cap, h, _⟩ := h; exact ⟨ao, cap, h⟩
theorem Rd.shape2 {w : World} {size n : Nat} {v : Value} {xs : List Value} (h : Rd w size v n xs) : ∃ ao cap, v = .slice ao n cap ∧ n ≤ cap ∧ cap ≤ maxLen := by
  obtain ⟨_, ao, cap, h, h1, h2, _⟩ := h; exact ⟨ao, cap, h, h1, h2⟩
theorem nil_rd (w : World) (size : Nat) : Rd w size (.slice none 0 0) 0 [] := ⟨by simp, none, 0, rfl, Nat.le_refl _, Nat.zero_le _, .inl rfl⟩
end Go.Mk
namespace Go.Proofs.YtaobaaaihgahfaaGreat
open Go.RowKit Go.Mk Go.Pil
def Z (z : Int) : Value := .int .i64 z
def RdZ (w : World) (v : Value) (zs : List Int) : Prop := Rd w 1 v zs.length (zs.map Z)
theorem RdZ.kept {w w' : World} {v : Value} {zs : List Int} (h : RdZ w v zs) (hk : Kept no w w') : RdZ w' v zs := Rd.keptNo h hk
theorem Z_one (zs : List Int) : ∀ u ∈ zs.map Z, u.oneCell' = true := fun u hu => by
  obtain ⟨z, _, rfl⟩ := List.mem_map.1 hu; rfl
theorem RdZ.at {w : World} {ao : Option Addr} {n cap : Nat} {zs : List Int} (h : RdZ w (.slice ao n cap) zs) (k : Nat) (hk : k < zs.length) :
    ∃ b o, ao = some ⟨b, o, none⟩ ∧ w.cell? ⟨b, o + k, none⟩ = some (.int .i64 (zs.getD k 0)) := by
  obtain ⟨_, _, _, e, h1, _, h | ⟨b, o, rfl, hc⟩⟩ := h
  · cases e; omega
  · cases e
    exact ⟨b, o, rfl, hc k _ (by simp [hk, Z])⟩
theorem RdZ.take {w : World} {ao : Option Addr} {n cap : Nat} {zs : List Int} (h : RdZ w (.slice ao n cap) zs) (k : Nat) (hk : k ≤ zs.length) : RdZ w (.slice ao k cap) (zs.take k) := by
  obtain ⟨hl, _, _, e, h1, h2, h3⟩ := h
  cases e
  (have hlk : (zs.take k).length = k := by rw [List.length_take]; omega); (refine ⟨by simp, ao, cap, by rw [hlk], by omega, h2, h3.imp id fun ⟨b, o, e, hc⟩ => ⟨b, o, e, fun j u hj => hc j u ?_⟩⟩); (rw [List.map_take, List.getElem?_take] at hj)
  split at hj
  · exact hj
  · cases hj
theorem own_RdZ {w : World} {v : Value} {zs : List Int} (h : w.ownsRow 0 3 1 v zs.length (zs.map Z)) : RdZ w v zs := Rd.of_own h
/-- A group: where its preferences lie, and its number. -/
def grpC (x : Grp × Value) : List Value := [x.2, .int .i64 x.1.n]
def flatG (ps : List (Grp × Value)) : List Value := ps.flatMap grpC
def grps (ps : List (Grp × Value)) : List Grp := ps.map (·.1)
theorem grps_length (ps : List (Grp × Value)) : (grps ps).length = ps.length := by simp [grps]
def RdG (w : World) (v : Value) (ps : List (Grp × Value)) : Prop := (∀ x ∈ ps, RdZ w x.2 x.1.p) ∧ Rd w 2 v ps.length (flatG ps)
theorem RdG.kept {w w' : World} {v : Value} {ps : List (Grp × Value)} (h : RdG w v ps) (k : Kept no w w') : RdG w' v ps := ⟨fun x hx => (h.1 x hx).kept k, h.2.keptNo k⟩
theorem RdG.at {w : World} {ao : Option Addr} {n cap : Nat} {ps : List (Grp × Value)} (h : RdG w (.slice ao n cap) ps) (k : Nat) (hk : k < ps.length) :
    ∃ b o g v, ao = some ⟨b, o, none⟩ ∧ ps[k] = (g, v) ∧ w.cell? ⟨b, o + k * 2, none⟩ = some v ∧ w.cell? ⟨b, o + k * 2 + 1, none⟩ = some (.int .i64 g.n) ∧ RdZ w v g.p := by
  (obtain ⟨b, o, e, hr⟩ := Rd.row (f := grpC) (sz := 2) (fun _ _ => rfl) h.2 k hk); (exact ⟨b, o, _, _, e, rfl, hr 0 _ rfl, hr 1 _ rfl, h.1 _ (List.getElem_mem hk)⟩)
theorem RdG.shape {w : World} {v : Value} {ps : List (Grp × Value)} (h : RdG w v ps) : ∃ ao cap, v = .slice ao ps.length cap ∧ ps.length ≤ cap ∧ cap ≤ maxLen := h.2.shape2
/-- Ballots: where each lies. -/
def RdB (w : World) (v : Value) (bs : List (List Int × Value)) : Prop := (∀ x ∈ bs, RdZ w x.2 x.1) ∧ Rd w 1 v bs.length (bs.map (·.2))
theorem RdB.kept {w w' : World} {v : Value} {bs : List (List Int × Value)} (h : RdB w v bs) (k : Kept no w w') : RdB w' v bs := ⟨fun x hx => (h.1 x hx).kept k, h.2.keptNo k⟩
theorem RdB.at {w : World} {ao : Option Addr} {n cap : Nat} {bs : List (List Int × Value)} (h : RdB w (.slice ao n cap) bs) (k : Nat) (hk : k < bs.length) :
    ∃ b o x v, ao = some ⟨b, o, none⟩ ∧ bs[k] = (x, v) ∧ w.cell? ⟨b, o + k, none⟩ = some v ∧ RdZ w v x := by
  obtain ⟨hl, _, _, e, h1, _, h0 | ⟨b, o, rfl, hc⟩⟩ := h.2
  · cases e; omega
  · cases e
    exact ⟨b, o, _, _, rfl, rfl, hc k _ (by simp [hk]), h.1 _ (List.getElem_mem hk)⟩
theorem TInts : ElemT Tryz.prog 26 3 1 8 := .mk' (z := .int .i64 0) (by kernel_rfl) (by kernel_rfl) (by kernel_rfl) (by decide)
theorem TGrps : ElemT Tryz.prog 29 105 2 32 := .mk' (z := .agg #[.slice none 0 0, .int .i64 0]) (by kernel_rfl) (by kernel_rfl) (by kernel_rfl) (by decide)
theorem TBals : ElemT Tryz.prog 25 26 1 24 := .mk' (z := .slice none 0 0) (by kernel_rfl) (by kernel_rfl) (by kernel_rfl) (by decide)
theorem maxLen_63 : maxLen ≤ 9223372036854775807 := by unfold maxLen; omega
end Go.Proofs.YtaobaaaihgahfaaGreat

/- Small functions: Mod, Has, Less, Eq, Place, isNaN, Compare, Equal, Index, Clone. -/
namespace Go.Proofs.YtaobaaaihgahfaaGreat
open Go.RowKit Go.Mk Go.Pil
/-- x modulo n, from 0 on. -/
def modI (x n : Int) : Int := (x.tmod n + n).tmod n
theorem modI_lt (x n : Int) (h : 0 < n) : 0 ≤ modI x n ∧ modI x n < n := by
  (unfold modI); (have h1 := Int.lt_tmod_of_pos x h); (exact ⟨Int.tmod_nonneg _ (by omega), Int.tmod_lt_of_pos _ h⟩)
set_option maxHeartbeats 400000 in
theorem mod_any (x n : Int) (w : World) (h : 0 < n) (hn : n ≤ 1000000) : Calls Tryz.prog 149 #[.int .i64 x, .int .i64 n] w fun e w' => e = .returned (.int .i64 (modI x n)) ∧ w' = w := by
  (have h1 := Int.tmod_lt_of_pos x h); (have h2 : -n < x.tmod n := Int.lt_tmod_of_pos x h); (have h3 : 0 ≤ (x.tmod n + n).tmod n := Int.tmod_nonneg _ (by omega)); (have h4 := Int.tmod_lt_of_pos (x.tmod n + n) h); (have e1 : IntKind.i64.wrap (x.tmod n) = x.tmod n := IntWalk.i64_in _ (by omega)); (have e2 : IntKind.i64.wrap (x.tmod n + n) = x.tmod n + n := IntWalk.i64_in _ (by omega)); (have e3 : IntKind.i64.wrap ((x.tmod n + n).tmod n) = (x.tmod n + n).tmod n := IntWalk.i64_in _ (by omega)); (have hz : ¬ n = 0 := by omega); (have hzb : (n == 0) = false := by simpa using hz); (have hm := hid (show modI x n = (x.tmod n + n).tmod n from rfl)); (clear h1 h2 h3 h4)
  go_enter Tryz.func149, Tryz.ntmps149
  (go_wp2); (go_ret); (exact ⟨by rw [hm.out]; rfl, rfl⟩)
theorem mem_take_succ {zs : List Int} {k : Nat} (hk : k < zs.length) (x : Int) : x ∈ zs.take (k + 1) ↔ x ∈ zs.take k ∨ x = zs.getD k 0 := by
  rw [List.take_succ_eq_append_getElem hk, List.mem_append]
  simp [List.getD_eq_getElem?_getD, hk]
set_option maxRecDepth 20000 in
set_option maxHeartbeats 1000000 in
theorem has_any (v : Value) (zs : List Int) (x : Int) (w : World) (hr : RdZ w v zs) : Calls Tryz.prog 96 #[v, .int .i64 x] w fun e w' => e = .returned (.bool (decide (x ∈ zs))) ∧ Qt w w' := by
  (obtain ⟨ao, cap, rfl, hcap, hcm⟩ := Rd.shape2 hr); (have hm63 := maxLen_63); (replace hr := hid hr)
  go_enter Tryz.func96, Tryz.ntmps96
  go_wp2
  go_loopw [5] (fun i wr => ∃ k : Nat, k ≤ zs.length ∧ i = .int .i64 (k : Int) ∧ Hd (x ∉ zs.take k) ∧ Hd (Qt w wr)) (fun i _ => zs.length - (intOf i).toNat)
  case atStart => exact ⟨0, by omega, rfl, ⟨by simp⟩, ⟨Qt.refl _⟩⟩
  case round =>
    obtain ⟨k, hk, rfl, hx, hW⟩ := hrel
    by_cases hlt : k < zs.length
    · (obtain ⟨b, o, rfl, hc⟩ := (hr.out.kept hW.out.kept).at k hlt); (have hk1 : (k : Int) < (zs.length : Int) := by omega); (have hst := hid (mem_take_succ hlt x)); (have hml := hid (fun h => List.mem_of_mem_take (i := k + 1) (show x ∈ zs.take (k + 1) from h))); (generalize zs.getD k 0 = z at hc hst)
      by_cases he : z = x
      · (have hb : (z == x) = true := by simpa using he); (have hv : Hd (decide (x ∈ zs) = true) := ⟨decide_eq_true (hml.out (hst.out.2 (.inr he.symm)))⟩); (clear he); (go_wp2); (go_ret); (exact ⟨by rw [hv.out]; rfl, hW.out⟩)
      · (have hb : (z == x) = false := by simpa using he); (have hn : Hd (x ∉ zs.take (k + 1)) := ⟨fun h => (hst.out.1 h).elim hx.out fun e => he e.symm⟩); (clear he hst hml hx); (go_wp2); (go_roundw)
        case rel => first | exact ⟨k + 1, by omega, by go_num, hn, hW⟩ | ((repeat apply Exists.intro); exact ⟨⟨k + 1, by omega, by go_num, hn, hW⟩, rfl⟩)
        case measure => simp [intOf]; omega
    · (obtain rfl : k = zs.length := by omega); (have hv : Hd (decide (x ∈ zs) = false) := ⟨decide_eq_false (by have := hx.out; rwa [List.take_length] at this)⟩); (clear hx); (go_wp2); (go_ret); (exact ⟨by rw [hv.out]; rfl, hW.out⟩)
theorem take_eqZ {xs ys : List Int} {k : Nat} (h1 : k < xs.length) (h2 : k < ys.length) (ht : xs.take k = ys.take k) (he : xs.getD k 0 = ys.getD k 0) : xs.take (k + 1) = ys.take (k + 1) := by
  (rw [List.take_succ_eq_append_getElem h1, List.take_succ_eq_append_getElem h2, ht]); (rw [List.getD_eq_getElem?_getD, List.getD_eq_getElem?_getD, List.getElem?_eq_getElem h1, List.getElem?_eq_getElem h2] at he); (simp only [Option.getD_some] at he); (rw [he])
theorem lt_at {xs ys : List Int} {k : Nat} (hx : k < xs.length) (hy : k < ys.length) (ht : xs.take k = ys.take k) (hne : xs.getD k 0 ≠ ys.getD k 0) : lt xs ys = decide (xs.getD k 0 < ys.getD k 0) := by
  (have h := cmp_at hx hy ht hne); (have h2 := cmp_lt xs ys); (rw [h] at h2)
  by_cases hh : xs.getD k 0 < ys.getD k 0
  · (rw [if_pos hh] at h2); (rw [decide_eq_true hh]; exact h2.1 (by decide))
  · (rw [if_neg hh] at h2); (rw [decide_eq_false hh])
    cases hl : lt xs ys with
    | false => rfl
    | true => have := h2.2 hl; omega
theorem lt_end {xs ys : List Int} {k : Nat} (ht : xs.take k = ys.take k) (h : xs.length = k ∨ ys.length = k) (h1 : k ≤ xs.length) (_ : k ≤ ys.length) : lt xs ys = decide (xs.length < ys.length) := by
  have hc := cmp_lt xs ys
  rcases h with h | h
  · (have e : xs = ys.take xs.length := by rw [h, ← ht, ← h, List.take_length]); (rw [cmp_pre e] at hc)
    split at hc
    · rename_i hl; rw [decide_eq_true hl]; exact hc.1 (by decide)
    · rename_i hl; rw [decide_eq_false hl]
      cases hh : lt xs ys with
      | false => rfl
      | true => have := hc.2 hh; omega
  · (have e : ys = xs.take ys.length := by rw [h, ht, ← h, List.take_length]); (rw [decide_eq_false (by omega)])
    by_cases hl : ys.length < xs.length
    · rw [cmp_pos e hl] at hc
      cases hh : lt xs ys with
      | false => rfl
      | true => have := hc.2 hh; omega
    · (have : xs = ys := by rw [e, List.take_of_length_le (by omega)]); (rw [this, lt_irrefl])
set_option maxRecDepth 20000 in
set_option maxHeartbeats 1000000 in
theorem less_any (va vb : Value) (xs ys : List Int) (w : World) (ha : RdZ w va xs) (hb : RdZ w vb ys) : Calls Tryz.prog 150 #[va, vb] w fun e w' => e = .returned (.bool (lt xs ys)) ∧ Qt w w' := by
  (obtain ⟨ao, ca, rfl, hca, hcm⟩ := Rd.shape2 ha); (obtain ⟨bo, cb, rfl, hcb, hcn⟩ := Rd.shape2 hb); (have hm63 := maxLen_63); (replace ha := hid ha); (replace hb := hid hb)
  go_enter Tryz.func150, Tryz.ntmps150
  go_wp2
  go_loopw [5] (fun i wr => ∃ k : Nat, k ≤ xs.length ∧ k ≤ ys.length ∧ i = .int .i64 (k : Int) ∧ Hd (xs.take k = ys.take k) ∧ Hd (Qt w wr)) (fun i _ => xs.length - (intOf i).toNat)
  case atStart => exact ⟨0, by omega, by omega, rfl, ⟨rfl⟩, ⟨Qt.refl _⟩⟩
  case round =>
    obtain ⟨k, hk, hk', rfl, ht, hW⟩ := hrel
    by_cases hlt : k < xs.length
    · have hk1 : (k : Int) < (xs.length : Int) := by omega
      by_cases hlt2 : k < ys.length
      · (have hk2 : (k : Int) < (ys.length : Int) := by omega); (obtain ⟨b1, o1, rfl, c1⟩ := (ha.out.kept hW.out.kept).at k hlt); (obtain ⟨b2, o2, rfl, c2⟩ := (hb.out.kept hW.out.kept).at k hlt2); (have hne := hid (fun h => lt_at hlt hlt2 ht.out h)); (have heq := hid (fun h => take_eqZ hlt hlt2 ht.out h)); (generalize xs.getD k 0 = x at c1 hne heq); (generalize ys.getD k 0 = y at c2 hne heq)
        by_cases he : x = y
        · (have hb0 : (x != y) = false := by simpa using he); (have ht' := hid (heq.out he)); (clear he hne heq ht); (go_wp2_with fail); (go_quiet (fail)); (have hW' := hid (hW.out.drewN nq)); (go_wp2); (go_roundw)
          case rel => first | exact ⟨k + 1, by omega, by omega, by go_num, ht', hW'⟩ | ((repeat apply Exists.intro); exact ⟨⟨k + 1, by omega, by omega, by go_num, ht', hW'⟩, rfl⟩)
          case measure => simp [intOf]; omega
        · (have hb0 : (x != y) = true := by simpa using he); (have hv := hid (hne.out he)); (clear he hne heq ht); (go_wp2_with fail); (go_quiet (fail)); (have hW' := hid (hW.out.drewN nq)); (have c1' : (wr.drewN nq).cell? ⟨b1, o1 + k, none⟩ = some (.int .i64 x) := c1); (have c2' : (wr.drewN nq).cell? ⟨b2, o2 + k, none⟩ = some (.int .i64 y) := c2); (go_wp2_with fail); (go_quiet (fail)); (have hW2 := hid (hW'.out.drewN nq)); (go_wp2); (go_ret); (exact ⟨by rw [hv.out]; rfl, hW2.out⟩)
      · (have hk2 : ¬ (k : Int) < (ys.length : Int) := by omega); (have hv := hid (lt_end ht.out (.inr (by omega)) hk hk')); (have hd : (decide ((xs.length : Int) < (ys.length : Int))) = decide (xs.length < ys.length) := by simp); (have hW' := hW.out); (clear ht); (go_wp2); (go_ret); (exact ⟨by rw [hv.out]; first | rfl | simp, hW'⟩)
    · (have hk1 : ¬ (k : Int) < (xs.length : Int) := by omega); (have hv := hid (lt_end ht.out (.inl (by omega)) hk hk')); (have hW' := hW.out); (clear ht); (go_wp2); (go_ret); (exact ⟨by rw [hv.out]; first | rfl | simp, hW'⟩)
set_option maxHeartbeats 1000000 in
theorem eqz_any (va vb : Value) (xs ys : List Int) (w : World) (ha : RdZ w va xs) (hb : RdZ w vb ys) : Calls Tryz.prog 99 #[va, vb] w fun e w' => e = .returned (.bool (decide (xs = ys))) ∧ Qt w w' := by
  (have H1 := hid (less_any va vb xs ys w ha hb)); (have H2 := hid (fun W (k : Qt w W) => less_any vb va ys xs W (hb.kept k.kept) (ha.kept k.kept)))
  have hv : Hd (decide (xs = ys) = (!lt xs ys && !lt ys xs)) := ⟨by
    rcases lt_tri xs ys with h | h | h
    · rw [decide_eq_false (lt_ne h), h]; rfl
    · subst h; simp [lt_irrefl]
    · rw [decide_eq_false (Ne.symm (lt_ne h)), h]; simp⟩
  cases h1 : lt xs ys with
  | true =>
    (rw [h1] at H1 hv); (clear h1)
    go_enter Tryz.func99, Tryz.ntmps99
    (go_wp2_with fail); (refine H1.out.mono ?_); (rintro e w1 ⟨rfl, k1⟩); (replace k1 := hid k1); (go_wp2_with fail); (go_ret); (exact ⟨by rw [hv.out]; rfl, k1.out⟩)
  | false =>
    (rw [h1] at H1 hv); (clear h1); (generalize lt ys xs = r at H2 hv)
    go_enter Tryz.func99, Tryz.ntmps99
    (go_wp2_with fail); (refine H1.out.mono ?_); (rintro e w1 ⟨rfl, k1⟩); (replace H2 := hid (H2.out w1 k1)); (replace k1 := hid k1); (go_wp2_with fail); (refine H2.out.mono ?_); (rintro e w2 ⟨rfl, k2⟩); (have K2 := hid (k1.out.trans k2)); (clear k2)
    cases r
    · (go_wp2_with fail); (go_ret); (exact ⟨by rw [hv.out]; rfl, K2.out⟩)
    · (go_wp2_with fail); (go_ret); (exact ⟨by rw [hv.out]; rfl, K2.out⟩)
end Go.Proofs.YtaobaaaihgahfaaGreat

/- Small functions: Ballot of both packages, cmp.Compare, slices.Compare, Equal, Index, Clone, Place. -/
namespace Go.Mk
theorem setCell_row {w : World} {g : Nat} {c : Array Value} {e : TypeId} {fr : Nat × Nat} (h : w.heap[g]? = some (.cells c e fr)) (j : Nat) (v : Value) : (w.setCell ⟨g, j, none⟩ v).heap[g]? = some (.cells (c.setIfInBounds j v) e fr) := by
  unfold World.setCell; simp only [Array.getElem?_modify, if_pos, h]; rfl
end Go.Mk
namespace Go.Proofs.YtaobaaaihgahfaaGreat
open Go.RowKit Go.Mk Go.Pil
theorem ballot_iff (n : Int) (p : List Int) : ballot n p = true ↔ p.Nodup ∧ ∀ x ∈ p, 0 ≤ x ∧ x < n := by unfold ballot; exact decide_eq_true_iff
theorem ballot_step {n : Int} {p : List Int} {k : Nat} (hk : k < p.length) (h : ballot n (p.take k) = true) : ballot n (p.take (k + 1)) = true ↔ (0 ≤ p.getD k 0 ∧ p.getD k 0 < n ∧ p.getD k 0 ∉ p.take k) := by
  (rw [ballot_iff] at h ⊢); (have hg : p.getD k 0 = p[k] := by simp [List.getD_eq_getElem?_getD, hk]); (rw [hg, List.take_succ_eq_append_getElem hk])
  constructor
  · (rintro ⟨h1, h2⟩); (have h3 := h2 p[k] (List.mem_append_right _ (List.mem_singleton.2 rfl))); (refine ⟨h3.1, h3.2, fun hm => ?_⟩); (rw [List.nodup_append] at h1); (exact h1.2.2 _ hm _ (by simp) rfl)
  · (rintro ⟨h1, h2, h3⟩); (refine ⟨?_, fun x hx => ?_⟩)
    · (rw [List.nodup_append]); (refine ⟨h.1, by simp, fun a ha b hb e => h3 ?_⟩); (obtain rfl : b = p[k] := by simpa using hb); (rw [← e]; exact ha)
    · rcases List.mem_append.1 hx with hx | hx
      · exact h.2 x hx
      · (obtain rfl : x = p[k] := by simpa using hx); (exact ⟨h1, h2⟩)
theorem ballot_fail {n : Int} {p : List Int} {k : Nat} (hk : k < p.length) (h : ballot n (p.take k) = true) (hf : ¬ (0 ≤ p.getD k 0 ∧ p.getD k 0 < n ∧ p.getD k 0 ∉ p.take k)) : ballot n p = false := by
  cases hb : ballot n p with
  | false => rfl
  | true =>
    (refine absurd ((ballot_step hk h).1 ?_) hf); (rw [ballot_iff] at hb ⊢); (exact ⟨hb.1.sublist (List.take_sublist _ _), fun x hx => hb.2 x (List.mem_of_mem_take hx)⟩)
set_option maxRecDepth 20000 in
set_option maxHeartbeats 1000000 in
theorem refballot_any (n : Int) (v : Value) (p : List Int) (w : World) (hr : RdZ w v p) : Calls Tryz.prog 49 #[.int .i64 n, v] w fun e w' => e = .returned (.bool (ballot n p)) ∧ Qt w w' := by
  (obtain ⟨ao, cap, rfl, hcap, hcm⟩ := Rd.shape2 hr); (have hm63 := maxLen_63); (replace hr := hid hr)
  go_enter Tryz.func49, Tryz.ntmps49
  go_wp2
  go_loopw [5] (fun i wr => ∃ k : Nat, k ≤ p.length ∧ i = .int .i64 (k : Int) ∧ Hd (ballot n (p.take k) = true) ∧ Hd (Qt w wr)) (fun i _ => p.length - (intOf i).toNat)
  case atStart => exact ⟨0, by omega, rfl, ⟨by rw [ballot_iff]; simp⟩, ⟨Qt.refl _⟩⟩
  case round =>
    obtain ⟨k, hk, rfl, hb, hW⟩ := hrel
    by_cases hlt : k < p.length
    · (have hk1 : (k : Int) < (p.length : Int) := by omega); (have hk0 : (0 : Int) ≤ (k : Int) := by omega); (have hkc : (k : Int) ≤ (cap : Int) := by omega); (obtain ⟨b, o, rfl, hc⟩ := (hr.out.kept hW.out.kept).at k hlt); (have HS := hid (ballot_step hlt hb.out)); (have HF := hid (ballot_fail hlt hb.out)); (have HH := hid (Qt.quiet (w := wr) fun W (kw : Qt wr W) => has_any (.slice (some ⟨b, o, none⟩) k cap) (p.take k) (p.getD k 0) W ((hr.out.take k hk).kept (hW.out.kept.trans' kw.kept)))); (generalize p.getD k 0 = z at hc HS HF HH)
      by_cases h0 : z < 0
      · (have hd : decide (z < 0) = true := decide_eq_true h0); (have hv := hid (HF.out (by omega))); (clear HS HF HH hb); (go_wp2_with fail); (go_quiet (fail)); (have hW' := hid (hW.out.drewN nq)); (go_wp2); (go_ret); (exact ⟨by rw [hv.out]; rfl, hW'.out⟩)
      · have hd : decide (z < 0) = false := decide_eq_false h0
        by_cases h1 : n ≤ z
        · (have hd1 : decide (n ≤ z) = true := decide_eq_true h1); (have hv := hid (HF.out (by omega))); (clear HS HF HH hb); (go_wp2_with fail); (go_quiet (fail)); (have hW' := hid (hW.out.drewN nq)); (go_wp2); (go_ret); (exact ⟨by rw [hv.out]; rfl, hW'.out⟩)
        · (have hd1 : decide (n ≤ z) = false := decide_eq_false h1); (have h0' : (0 : Int) ≤ z := by omega); (have h1' : z < n := by omega)
          by_cases h2 : z ∈ p.take k
          · (rw [decide_eq_true h2] at HH); (have hv := hid (HF.out (fun h => h.2.2 h2))); (clear HS HF hb h2); (go_wp2_with fail); (go_quiet ((go_at_call 96; exact HH.out _))); (have hW' := hid (hW.out.drewN nq)); (go_wp2); (go_ret); (exact ⟨by rw [hv.out]; rfl, hW'.out⟩)
          · (rw [decide_eq_false h2] at HH); (have hb' := hid (HS.out.2 ⟨h0', h1', h2⟩)); (clear HS HF hb h2); (go_wp2_with fail); (go_quiet ((go_at_call 96; exact HH.out _))); (have hW' := hid (hW.out.drewN nq)); (clear HH); (go_wp2); (go_roundw)
            case rel => first | exact ⟨k + 1, by omega, by go_num, hb', hW'⟩ | ((repeat apply Exists.intro); exact ⟨⟨k + 1, by omega, by go_num, hb', hW'⟩, rfl⟩)
            case measure => simp [intOf]; omega
    · (obtain rfl : k = p.length := by omega); (have hv : Hd (ballot n p = true) := ⟨by have := hb.out; rwa [List.take_length] at this⟩); (clear hb); (go_wp2); (go_ret); (exact ⟨by rw [hv.out]; rfl, hW.out⟩)
/-- Which candidates have been seen. -/
def seenC (q : List Int) : Array Value := #[.bool (decide ((0 : Int) ∈ q)), .bool (decide ((1 : Int) ∈ q)), .bool (decide ((2 : Int) ∈ q)), .bool (decide ((3 : Int) ∈ q)), .bool (decide ((4 : Int) ∈ q)), .bool (decide ((5 : Int) ∈ q)), .bool (decide ((6 : Int) ∈ q))]
theorem seen_at (q : List Int) (c : Nat) (hc : c < 7) : (seenC q)[c]? = some (.bool (decide ((c : Int) ∈ q))) := by
  match c, hc with
  | 0, _ => rfl
  | 1, _ => rfl
  | 2, _ => rfl
  | 3, _ => rfl
  | 4, _ => rfl
  | 5, _ => rfl
  | 6, _ => rfl
theorem seen_set (q : List Int) (c : Nat) (hc : c < 7) : (seenC q).setIfInBounds c (.bool true) = seenC (q ++ [(c : Int)]) := by
  match c, hc with
  | 0, _ => simp [seenC]
  | 1, _ => simp [seenC]
  | 2, _ => simp [seenC]
  | 3, _ => simp [seenC]
  | 4, _ => simp [seenC]
  | 5, _ => simp [seenC]
  | 6, _ => simp [seenC]
set_option maxRecDepth 20000 in
set_option maxHeartbeats 1000000 in
theorem isballot_any (n : Int) (v : Value) (p : List Int) (w : World) (hn : n ≤ 7) (hr : RdZ w v p) : Calls Tryz.prog 46 #[.int .i64 n, v] w fun e w' => e = .returned (.bool (ballot n p)) ∧ Kept no w w' := by
  (obtain ⟨ao, cap, rfl, hcap, hcm⟩ := Rd.shape2 hr); (have hm63 := maxLen_63); (replace hr := hid hr); (have g0 : Hd ((w.alloc (.cells #[.bool false, .bool false, .bool false, .bool false, .bool false, .bool false, .bool false] 152)).heap[w.heap.size]? = some (.cells (seenC []) 152 (0, 0))) := ⟨heap_alloc_new _ _⟩); (have k0 := hid ((Kept.refl no w).alloc (.cells #[.bool false, .bool false, .bool false, .bool false, .bool false, .bool false, .bool false] 152)))
  go_enter Tryz.func46, Tryz.ntmps46
  go_wp2
  go_loopw [10] (fun i wr => ∃ k : Nat, k ≤ p.length ∧ i = .int .i64 (k : Int) ∧ Hd (ballot n (p.take k) = true) ∧ Hd (wr.heap[w.heap.size]? = some (.cells (seenC (p.take k)) 152 (0, 0))) ∧ Hd (Kept no w wr)) (fun i _ => p.length - (intOf i).toNat)
  case atStart => exact ⟨0, by omega, rfl, ⟨by rw [ballot_iff]; simp⟩, g0, k0⟩
  case round =>
    (clear g0 k0); (obtain ⟨k, hk, rfl, hb, hg, hW⟩ := hrel)
    by_cases hlt : k < p.length
    · (have hk1 : (k : Int) < (p.length : Int) := by omega); (have hk0 : (0 : Int) ≤ (k : Int) := by omega); (obtain ⟨b, o, rfl, hc⟩ := (hr.out.kept hW.out).at k hlt); (have HS := hid (ballot_step hlt hb.out)); (have HF := hid (ballot_fail hlt hb.out)); (have HT : Hd (p.take (k + 1) = p.take k ++ [p.getD k 0]) := ⟨by rw [List.take_succ_eq_append_getElem hlt]; simp [List.getD_eq_getElem?_getD, hlt]⟩); (generalize p.getD k 0 = z at hc HS HF HT)
      by_cases h0 : z < 0
      · (have hd : decide (z < 0) = true := decide_eq_true h0); (have hv := hid (HF.out (by omega))); (clear HS HF HT hb); (go_wp2); (go_ret); (exact ⟨by rw [hv.out]; rfl, hW.out⟩)
      · have hd : decide (z < 0) = false := decide_eq_false h0
        by_cases h1 : n ≤ z
        · (have hd1 : decide (n ≤ z) = true := decide_eq_true h1); (have hv := hid (HF.out (by omega))); (clear HS HF HT hb); (go_wp2); (go_ret); (exact ⟨by rw [hv.out]; rfl, hW.out⟩)
        · (obtain ⟨c, rfl⟩ : ∃ c : Nat, z = (c : Int) := ⟨z.toNat, by omega⟩); (have hd1 : decide (n ≤ (c : Int)) = false := decide_eq_false h1); (have hc7 : (c : Int) < 7 := by omega); (have hc0 : (0 : Int) ≤ (c : Int) := by omega); (have cs : wr.cell? ⟨w.heap.size, c, none⟩ = some (.bool (decide ((c : Int) ∈ p.take k))) := by rw [cell_of_row wr _ c _ _ _ hg.out]; exact seen_at _ _ (by omega)); (have fs : wr.frozen? ⟨w.heap.size, c, none⟩ = false := row_free hg.out c)
          by_cases h2 : (c : Int) ∈ p.take k
          · (have hv := hid (HF.out (fun h => h.2.2 h2))); (rw [decide_eq_true h2] at cs); (clear HS HF HT hb h2 fs); (go_wp2); (go_ret); (exact ⟨by rw [hv.out]; rfl, hW.out⟩)
          · (have hb' := hid (HS.out.2 ⟨by omega, by omega, h2⟩)); (rw [decide_eq_false h2] at cs); (have hg' : Hd ((wr.setCell ⟨w.heap.size, c, none⟩ (.bool true)).heap[w.heap.size]? = some (.cells (seenC (p.take (k + 1))) 152 (0, 0))) := ⟨by rw [setCell_row hg.out, seen_set _ _ (by omega), HT.out]⟩); (have hW' := hid (hW.out.setCell (a := ⟨w.heap.size, c, none⟩) (.inr (Nat.le_refl _)) (.bool true))); (clear HS HF HT hb h2 hg hW); (go_wp2); (go_roundw)
            case rel => first | exact ⟨k + 1, by omega, by go_num, hb', hg', hW'⟩ | ((repeat apply Exists.intro); exact ⟨⟨k + 1, by omega, by go_num, hb', hg', hW'⟩, rfl⟩)
            case measure => simp [intOf]; omega
    · (obtain rfl : k = p.length := by omega); (have hv : Hd (ballot n p = true) := ⟨by have := hb.out; rwa [List.take_length] at this⟩); (clear hb); (go_wp2); (go_ret); (exact ⟨by rw [hv.out]; rfl, hW.out⟩)
set_option maxHeartbeats 400000 in
theorem isnanz_any (x : Int) (w : World) : Calls Tryz.prog 145 #[.int .i64 x] w fun e w' => e = .returned (.bool false) ∧ w' = w := by
  have hb : (x != x) = false := by simp
  go_enter Tryz.func145, Tryz.ntmps145
  (go_wp2); (go_ret); (exact ⟨rfl, rfl⟩)
def cmpI (x y : Int) : Int := if x < y then -1 else if y < x then 1 else 0
set_option maxHeartbeats 400000 in
theorem cmpi_any (x y : Int) (w : World) : Calls Tryz.prog 93 #[.int .i64 x, .int .i64 y] w fun e w' => e = .returned (.int .i64 (cmpI x y)) ∧ w' = w := by
  (have HN := hid isnanz_any); (have hc := hid (show cmpI x y = if x < y then -1 else if y < x then 1 else 0 from rfl))
  go_enter Tryz.func93, Tryz.ntmps93
  (go_wp2_with fail); (refine (HN.out x w).mono ?_); (rintro e w' ⟨rfl, rfl⟩); (go_wp2_with fail); (refine (HN.out y _).mono ?_); (rintro e w'' ⟨rfl, rfl⟩)
  by_cases h1 : x < y
  · (rw [if_pos h1] at hc); (go_wp2); (go_ret); (exact ⟨by rw [hc.out]; rfl, rfl⟩)
  · rw [if_neg h1] at hc
    by_cases h2 : y < x
    · (rw [if_pos h2] at hc); (go_wp2); (go_ret); (exact ⟨by rw [hc.out]; rfl, rfl⟩)
    · (rw [if_neg h2] at hc); (go_wp2); (go_ret); (exact ⟨by rw [hc.out]; rfl, rfl⟩)
set_option maxRecDepth 20000 in
set_option maxHeartbeats 1000000 in
theorem compare_any (va vb : Value) (xs ys : List Int) (w : World) (ha : RdZ w va xs) (hb : RdZ w vb ys) : Calls Tryz.prog 45 #[va, vb] w fun e w' => e = .returned (.int .i64 (cmp xs ys)) ∧ w' = w := by
  (obtain ⟨ao, ca, rfl, hca, hcm⟩ := Rd.shape2 ha); (obtain ⟨bo, cb, rfl, hcb, hcn⟩ := Rd.shape2 hb); (have hm63 := maxLen_63); (replace ha := hid ha); (replace hb := hid hb)
  go_enter Tryz.func45, Tryz.ntmps45
  go_wp2
  go_loopw [11] (fun i wr => ∃ k : Nat, k ≤ xs.length ∧ k ≤ ys.length ∧ i = .int .i64 (k : Int) ∧ Hd (xs.take k = ys.take k) ∧ Hd (wr = w)) (fun i _ => xs.length - (intOf i).toNat)
  case atStart => exact ⟨0, by omega, by omega, rfl, ⟨rfl⟩, ⟨rfl⟩⟩
  case round =>
    (obtain ⟨k, hk, hk', rfl, ht, hW⟩ := hrel); (obtain rfl := hW.out)
    by_cases hlt : k < xs.length
    · (obtain ⟨b1, o1, rfl, c1⟩ := ha.out.at k hlt); (have hk1 : (k : Int) < (xs.length : Int) := by omega)
      by_cases hlt2 : k < ys.length
      · (obtain ⟨b2, o2, rfl, c2⟩ := hb.out.at k hlt2); (have hk2 : (k : Int) < (ys.length : Int) := by omega); (have hk3 : ¬ (ys.length : Int) ≤ (k : Int) := by omega); (have hat := hid (fun h => cmp_at (xs := xs) (ys := ys) hlt hlt2 ht.out h)); (have hnx := hid (fun h => take_eqZ (xs := xs) (ys := ys) hlt hlt2 ht.out h)); (generalize xs.getD k 0 = x at c1 hat hnx); (generalize ys.getD k 0 = y at c2 hat hnx); (have HC := hid (cmpi_any x y)); (clear ht); (go_wp2_with fail); (refine (HC.out _).mono ?_); (rintro e w' ⟨rfl, rfl⟩)
        by_cases he : x = y
        · (have hz : cmpI x y = 0 := by subst he; simp [cmpI]); (rw [hz]); (have hnx' := hid (hnx.out he)); (clear hnx hat hz he HC); (go_wp2); (go_roundw)
          case rel => first | exact ⟨k + 1, by omega, by omega, by go_num, hnx', hW⟩ | ((repeat apply Exists.intro); exact ⟨⟨k + 1, by omega, by omega, by go_num, hnx', hW⟩, rfl⟩)
          case measure => simp [intOf]; omega
        · (have hz : cmpI x y ≠ 0 := by unfold cmpI; split; decide; split; decide; omega); (have hr : Hd (cmp xs ys = cmpI x y) := ⟨by rw [hat.out he]; unfold cmpI; split; rfl; rw [if_pos (by omega)]⟩); (have hzb : (cmpI x y != 0) = true := by simpa using hz); (generalize cmpI x y = r at hz hr hzb); (clear hnx hat he HC); (go_wp2); (go_ret); (exact ⟨by rw [hr.out]; rfl, rfl⟩)
      · (have hk3 : (ys.length : Int) ≤ (k : Int) := by omega); (have hr : Hd (cmp xs ys = 1) := ⟨cmp_pos (by have := ht.out; rw [show k = ys.length by omega, List.take_length] at this; exact this.symm) (by omega)⟩); (clear ht); (go_wp2); (go_ret); (exact ⟨by rw [hr.out]; rfl, rfl⟩)
    · (have hk1 : ¬ (k : Int) < (xs.length : Int) := by omega); (have hr : Hd (cmp xs ys = if xs.length < ys.length then -1 else 0) := ⟨cmp_pre (by have := ht.out; rwa [show k = xs.length by omega, List.take_length] at this)⟩); (clear ht)
      by_cases hl : xs.length < ys.length
      · (have hl1 : (xs.length : Int) < (ys.length : Int) := by omega); (rw [if_pos hl] at hr); (go_wp2); (go_ret); (exact ⟨by rw [hr.out]; rfl, rfl⟩)
      · (have hl1 : ¬ (xs.length : Int) < (ys.length : Int) := by omega); (rw [if_neg hl] at hr); (go_wp2); (go_ret); (exact ⟨by rw [hr.out]; rfl, rfl⟩)
set_option maxRecDepth 20000 in
set_option maxHeartbeats 1000000 in
theorem equal_any (va vb : Value) (xs ys : List Int) (w : World) (ha : RdZ w va xs) (hb : RdZ w vb ys) : Calls Tryz.prog 80 #[va, vb] w fun e w' => e = .returned (.bool (decide (xs = ys))) ∧ Qt w w' := by
  (obtain ⟨ao, ca, rfl, hca, hcm⟩ := Rd.shape2 ha); (obtain ⟨bo, cb, rfl, hcb, hcn⟩ := Rd.shape2 hb); (have hm63 := maxLen_63); (replace ha := hid ha); (replace hb := hid hb)
  by_cases hl : xs.length = ys.length
  · (have hlb : ((xs.length : Int) != (ys.length : Int)) = false := by simp [hl]); (replace hl := hid hl)
    go_enter Tryz.func80, Tryz.ntmps80
    go_wp2
    go_loopw [5, 13] (fun _ i wr => ∃ k : Nat, k ≤ xs.length ∧ i = .int .i64 (k : Int) ∧ Hd (xs.take k = ys.take k) ∧ Hd (Qt w wr)) (fun _ i _ => xs.length - (intOf i).toNat)
    case atStart => exact ⟨0, by omega, rfl, ⟨rfl⟩, ⟨Qt.refl _⟩⟩
    case round =>
      obtain ⟨k, hk, rfl, ht, hW⟩ := hrel
      by_cases hlt : k < xs.length
      · (have hlt2 : k < ys.length := by have := hl.out; omega); (have hk1 : (k : Int) < (xs.length : Int) := by omega); (have hk2 : (k : Int) < (ys.length : Int) := by omega); (obtain ⟨b1, o1, rfl, c1⟩ := (ha.out.kept hW.out.kept).at k hlt); (obtain ⟨b2, o2, rfl, c2⟩ := (hb.out.kept hW.out.kept).at k hlt2); (have heq := hid (fun h => take_eqZ hlt hlt2 ht.out h)); (have hne := hid (fun h => (cmp_at hlt hlt2 ht.out h))); (generalize xs.getD k 0 = x at c1 hne heq); (generalize ys.getD k 0 = y at c2 hne heq)
        by_cases he : x = y
        · (have hb0 : (x != y) = false := by simpa using he); (have ht' := hid (heq.out he)); (clear he hne heq ht); (go_wp2_with fail); (go_quiet (fail)); (have hW' := hid (hW.out.drewN nq)); (go_wp2); (go_roundw)
          case rel => first | exact ⟨k + 1, by omega, by go_num, ht', hW'⟩ | ((repeat apply Exists.intro); exact ⟨⟨k + 1, by omega, by go_num, ht', hW'⟩, rfl⟩)
          case measure => simp [intOf]; omega
        · have hb0 : (x != y) = true := by simpa using he
          have hv : Hd (decide (xs = ys) = false) := ⟨decide_eq_false fun e => by
            (have := hne.out he); (rw [e, cmp_self] at this)
            split at this <;> omega⟩
          (clear he hne heq ht); (go_wp2_with fail); (go_quiet (fail)); (have hW' := hid (hW.out.drewN nq)); (go_wp2); (go_ret); (exact ⟨by rw [hv.out]; rfl, hW'.out⟩)
      · have hk1 : ¬ (k : Int) < (xs.length : Int) := by omega
        have hv : Hd (decide (xs = ys) = true) := ⟨decide_eq_true (by
          have h1 := ht.out
          rwa [List.take_of_length_le (by omega), List.take_of_length_le (by have := hl.out; omega)] at h1)⟩
        (clear ht); (go_wp2); (go_ret); (exact ⟨by rw [hv.out]; rfl, hW.out⟩)
  · (have hlb : ((xs.length : Int) != (ys.length : Int)) = true := by rw [bne_iff_ne]; omega); (have hv : Hd (decide (xs = ys) = false) := ⟨decide_eq_false fun e => hl (by rw [e])⟩); (clear hl)
    go_enter Tryz.func80, Tryz.ntmps80
    (go_wp2); (go_ret); (exact ⟨by rw [hv.out]; rfl, Qt.refl _⟩)
set_option maxHeartbeats 400000 in
theorem clonez_any (v : Value) (xs : List Int) (w : World) (hl : xs.length ≤ 1099511627776) (hr : RdZ w v xs) :
    Calls Tryz.prog 47 #[v] w fun e w' => ∃ v', e = .returned v' ∧ w'.ownsRow 0 3 1 v' xs.length (xs.map Z) ∧ Kept no w w' ∧ New w v' := by
  (obtain ⟨h1, ao, cap, rfl, h2, h3, hao⟩ := id hr); (have he := fun (w : World) (a : Option Addr) (n c : Nat) => Lib.run_eql_slice_nil (P := Tryz.prog) w 26 3 a n c 0 0 Tryz.underlying26)
  cases ao with
  | none =>
    (have hx : xs = [] := List.eq_nil_of_length_eq_zero (by rcases hao with h | ⟨_, _, h, _⟩; omega; cases h)); (subst hx)
    go_enter Tryz.func47, Tryz.ntmps47
    (go_wp2); (go_ret); (exact ⟨_, rfl, World.ownsRow_nil _ _ _ _, Kept.refl _ _, .inl rfl⟩)
  | some ad =>
    (have hr' : Rd (w.alloc (.cells #[] 3)) 1 _ _ _ := Rd.alloc hr _); (have hown : (w.alloc (.cells #[] 3)).ownsRow 0 3 1 (.slice (some ⟨w.heap.size, 0, none⟩) 0 0) 0 [] := ⟨rfl, .inr ⟨w.heap.size, 0, #[], rfl, Nat.zero_le _, heap_alloc_new w _, Nat.le_refl _, Nat.zero_le _, rfl, rfl⟩⟩)
    go_enter Tryz.func47, Tryz.ntmps47
    go_wp2_with (at_builtin; refine wpList_append _ rfl _ _ 26 rfl 3 1 8 TInts _ _ _ rfl hown _ _ _ rfl hr' (Z_one xs) ?c1 ?c2 ?_)
    case c1 => unfold maxLen; omega
    case c2 => omega
    intro v' w' h4 h5 h6 _
    have hk : Kept no w w' := ((Kept.refl no w).alloc _).trans h5 fun k hk e => by
      simp only [ob, Value.ownBlock, Option.some.injEq] at e; omega
    have hn : New w v' := by
      rcases h6 with h6 | ⟨k, h6, h7⟩
      · exact .inr ⟨w.heap.size, h6, Nat.le_refl _⟩
      · exact .inr ⟨k, h6, by rw [World.size_alloc] at h7; omega⟩
    (have h4' : Hd (w'.ownsRow 0 3 1 v' xs.length (xs.map Z)) := ⟨by simpa using h4⟩); (clear h5 h6 hown hr' hr hao h4); (go_wp2); (go_ret); (exact ⟨_, rfl, h4'.out, hk, hn⟩)
end Go.Proofs.YtaobaaaihgahfaaGreat
