/- Printed by shake.py: what ballots_any, gperm_any, mod_any, RdB.kept, Rd.row, flatAt, flatLen, own_own, own_ne, RdZ.one, OwL.rd need. -/
import Derived.Test.YtggcbjchnefhfaaDoorProg
import Derived.Test.YtggcbjchnefhfaaDoorFlow2
import Derived.BigQuiet
import Derived.Deep.QuietTactic
import Derived.Deep.Cut
namespace Go.Pil
structure Grp where
  p : List Int
  n : Int
deriving DecidableEq
def ballot (n : Int) (p : List Int) : Bool := decide (p.Nodup ∧ ∀ x ∈ p, 0 ≤ x ∧ x < n)
/-- before. -/
def lt : List Int → List Int → Bool
  | _, [] => false
  | [], _ :: _ => true
  | x :: xs, y :: ys => if x = y then lt xs ys else decide (x < y)
/-- The groups beside each other are those of a pile of n candidates. -/
def validA (n : Int) : Int → Option (List Int) → List Grp → Bool
  | _, _, [] => true
  | room, prev, g :: r => ballot n g.p && decide (1 ≤ g.n) && decide (g.n ≤ room) && (match prev with | none => true | some q => lt q g.p) && validA n (room - g.n) (some g.p) r
def isPile (n : Int) (gs : List Grp) : Bool := validA n 100000 none gs
def inB (remain : List Bool) (x : Int) : Bool := decide (0 ≤ x) && remain.getD x.toNat false
def kept (remain : List Bool) (p : List Int) : List Int := p.filter (inB remain)
def hd (remain : List Bool) (p : List Int) : Option Int := (kept remain p).head?
def fstep (remain : List Bool) (s : List Int × Int) (g : Grp) : List Int × Int :=
  match hd remain g.p with
  | none => (s.1, s.2 + g.n)
  | some c => (s.1.set c.toNat (s.1.getD c.toNat 0 + g.n), s.2)
def firstV (gs : List Grp) (remain : List Bool) : List Int × Int := gs.foldl (fstep remain) (List.replicate remain.length 0, 0)
def first (gs : List Grp) (remain : List Bool) : List Int × Int := if isPile 7 gs = true ∧ remain.length ≤ 7 then firstV gs remain else ([], 0)
end Go.Pil
namespace Go.Mk
open Go.RowKit
/-- Nothing but the tape's place has turned. -/
def Qt (w w' : World) : Prop := ∃ q, w' = w.drewN q
theorem Qt.refl (w : World) : Qt w w := ⟨0, rfl⟩
theorem Qt.drewN {w w' : World} (h : Qt w w') (n : Nat) : Qt w (w'.drewN n) := by obtain ⟨q, rfl⟩ := h; exact ⟨q + n, by rw [World.drewN_drewN]⟩
theorem Qt.trans {w w1 w2 : World} (h : Qt w w1) (h' : Qt w1 w2) : Qt w w2 := by obtain ⟨q, rfl⟩ := h'; exact h.drewN q
theorem Qt.kept {w w' : World} (h : Qt w w') : Kept no w w' := by obtain ⟨q, rfl⟩ := h; exact (Kept.refl no w).drewN q
def New (w : World) (v : Value) : Prop := v.ownBlock = none ∨ ∃ k, v.ownBlock = some k ∧ w.heap.size ≤ k
theorem New.step {w w1 : World} {v v' : Value} (h : New w v) (h' : NewOr w1 v v') (hs : w.heap.size ≤ w1.heap.size) : New w v' := by
  rcases h' with h' | ⟨k, h1, h2⟩
  · rcases h with h | ⟨k, h1, h2⟩
    · exact .inl (h'.trans h)
    · exact .inr ⟨k, h'.trans h1, h2⟩
  · exact .inr ⟨k, h1, by omega⟩
theorem New.kept {w w1 w' : World} {v : Value} (h : New w v) (hk : Kept no w w1) (hv : Kept (ob v) w1 w') : Kept no w w' :=
  hk.trans hv fun k hlt e => by
    rcases h with h | ⟨j, h1, h2⟩
    · rw [ob, h] at e; cases e
    · rw [ob, h1, Option.some.injEq] at e; omega
theorem New.fr {w : World} {v : Value} {B : Nat} (h : New w v) (hB : B ≤ w.heap.size) : ∀ k, v.ownBlock = some k → B ≤ k := fun k hk => by
  rcases h with h | ⟨j, h, hl⟩
  · rw [h] at hk; cases hk
  · rw [h] at hk; cases hk; omega
theorem frNew {w : World} {v : Value} (h : ∀ k, v.ownBlock = some k → w.heap.size ≤ k) : New w v := by
  cases hv : v.ownBlock with
  | none => exact .inl hv
  | some k => exact .inr ⟨k, hv, h k hv⟩
theorem New.of {w w1 : World} {v : Value} (h : New w1 v) (hs : w.heap.size ≤ w1.heap.size) : New w v := frNew fun k hk => h.fr hs k hk
theorem own_ne {w : World} {e t : TypeId} {size n : Nat} {v : Value} {xs : List Value} (h : w.ownsRow 0 e size v n xs) {g : Nat} {c : Array Value} {fr : Nat × Nat} (hg : w.heap[g]? = some (.cells c t fr)) (ht : e ≠ t) : ∀ j, v.ownBlock = some j → j ≠ g := fun j hj e => by
  obtain ⟨_, ⟨rfl, _⟩ | ⟨k, _, _, rfl, _, hk, _⟩⟩ := h
  · cases hj
  · have : k = j := by simpa [Value.ownBlock] using hj
    subst this e
    rw [hk] at hg
    simp only [Option.some.injEq, Obj.cells.injEq] at hg
    exact ht hg.2.1
/-- Two rows of different types lie apart. -/
theorem own_own {w : World} {e t : TypeId} {s1 s2 n m : Nat} {v u : Value} {xs ys : List Value} (h : w.ownsRow 0 e s1 v n xs) (h' : w.ownsRow 0 t s2 u m ys) (ht : e ≠ t) : ∀ j, v.ownBlock = some j → u.ownBlock = some j → False := fun j hv hu => by
  obtain ⟨_, ⟨rfl, _⟩ | ⟨k, _, c, rfl, _, hk, _⟩⟩ := h'
  · cases hu
  · have : k = j := by simpa [Value.ownBlock] using hu
    subst this
    exact own_ne h hk ht k hv rfl
section
variable {α : Type} {f : α → List Value} {sz : Nat} {ps : List α} {w : World} {ao : Option Addr} {n cap : Nat}
theorem flatLen (hf : ∀ x ∈ ps, (f x).length = sz) : (ps.flatMap f).length = ps.length * sz := by
  induction ps with
  | nil => simp
  | cons x ps ih => rw [List.flatMap_cons, List.length_append, hf x (by simp), ih fun y hy => hf y (by simp [hy]), List.length_cons, Nat.add_mul]; omega
theorem flatAt (hf : ∀ x ∈ ps, (f x).length = sz) (k j : Nat) (hk : k < ps.length) (hj : j < sz) : (ps.flatMap f)[k * sz + j]? = (f ps[k])[j]? := by
  induction ps generalizing k with
  | nil => simp at hk
  | cons x ps ih =>
    rw [List.flatMap_cons]
    have hl := hf x (by simp)
    match k with
    | 0 => rw [Nat.zero_mul, Nat.zero_add, List.getElem?_append_left (by omega)]; rfl
    | k + 1 =>
      rw [List.getElem?_append_right (by rw [hl, Nat.add_mul]; omega), hl, show (k + 1) * sz + j - sz = k * sz + j by rw [Nat.add_mul]; omega, ih (fun e he => hf e (by simp [he])) k (by simpa using hk)]
      rfl
theorem Rd.row (hf : ∀ x ∈ ps, (f x).length = sz) (h : Rd w sz (.slice ao n cap) ps.length (ps.flatMap f)) (k : Nat) (hk : k < ps.length) : ∃ b o, ao = some ⟨b, o, none⟩ ∧ w.rangeAt b (o + k * sz) (f ps[k]) := by
  obtain ⟨_, _, _, e, h1, _, h | ⟨b, o, rfl, hc⟩⟩ := h
  · cases e; omega
  · cases e
    refine ⟨b, o, rfl, fun j u hu => ?_⟩
    have hj : j < sz := by
      have := (List.getElem?_eq_some_iff.1 hu).1
      rwa [hf _ (List.getElem_mem hk)] at this
    rw [Nat.add_assoc]
    exact hc _ _ (by rw [flatAt hf k j hk hj]; exact hu)
end
theorem Rd.shape2 {w : World} {size n : Nat} {v : Value} {xs : List Value} (h : Rd w size v n xs) : ∃ ao cap, v = .slice ao n cap ∧ n ≤ cap ∧ cap ≤ maxLen := by
  obtain ⟨_, ao, cap, h, h1, h2, _⟩ := h; exact ⟨ao, cap, h, h1, h2⟩
end Go.Mk
namespace Go.Proofs.YtggcbjchnefhfaaDoor.Pl
open Go.RowKit Go.Mk Go.Pil
def Z (z : Int) : Value := .int .i64 z
def RdZ (w : World) (v : Value) (zs : List Int) : Prop := Rd w 1 v zs.length (zs.map Z)
theorem RdZ.kept {w w' : World} {v : Value} {zs : List Int} (h : RdZ w v zs) (hk : Kept no w w') : RdZ w' v zs := Rd.keptNo h hk
theorem Z_one (zs : List Int) : ∀ u ∈ zs.map Z, u.oneCell' = true := fun u hu => by
  obtain ⟨z, _, rfl⟩ := List.mem_map.1 hu; rfl
theorem RdZ.at {w : World} {ao : Option Addr} {n cap : Nat} {zs : List Int} (h : RdZ w (.slice ao n cap) zs) (k : Nat) (hk : k < zs.length) :
    ∃ b o, ao = some ⟨b, o, none⟩ ∧ w.cell? ⟨b, o + k, none⟩ = some (.int .i64 (zs.getD k 0)) := by
  obtain ⟨_, _, _, e, h1, _, h | ⟨b, o, rfl, hc⟩⟩ := h
  · cases e; omega
  · cases e
    exact ⟨b, o, rfl, hc k _ (by simp [hk, Z])⟩
theorem RdZ.take {w : World} {ao : Option Addr} {n cap : Nat} {zs : List Int} (h : RdZ w (.slice ao n cap) zs) (k : Nat) (hk : k ≤ zs.length) : RdZ w (.slice ao k cap) (zs.take k) := by
  obtain ⟨hl, _, _, e, h1, h2, h3⟩ := h
  cases e
  have hlk : (zs.take k).length = k := by rw [List.length_take]; omega
  refine ⟨by simp, ao, cap, by rw [hlk], by omega, h2, h3.imp id fun ⟨b, o, e, hc⟩ => ⟨b, o, e, fun j u hj => hc j u ?_⟩⟩
  rw [List.map_take, List.getElem?_take] at hj
  split at hj
  · exact hj
  · cases hj
theorem own_RdZ {w : World} {v : Value} {zs : List Int} (h : w.ownsRow 0 3 1 v zs.length (zs.map Z)) : RdZ w v zs := Rd.of_own h
/-- Ballots: where each lies. -/
def RdB (w : World) (v : Value) (bs : List (List Int × Value)) : Prop := (∀ x ∈ bs, RdZ w x.2 x.1) ∧ Rd w 1 v bs.length (bs.map (·.2))
theorem RdB.kept {w w' : World} {v : Value} {bs : List (List Int × Value)} (h : RdB w v bs) (k : Kept no w w') : RdB w' v bs := ⟨fun x hx => (h.1 x hx).kept k, h.2.keptNo k⟩
theorem RdB.at {w : World} {ao : Option Addr} {n cap : Nat} {bs : List (List Int × Value)} (h : RdB w (.slice ao n cap) bs) (k : Nat) (hk : k < bs.length) :
    ∃ b o x v, ao = some ⟨b, o, none⟩ ∧ bs[k] = (x, v) ∧ w.cell? ⟨b, o + k, none⟩ = some v ∧ RdZ w v x := by
  obtain ⟨hl, _, _, e, h1, _, h0 | ⟨b, o, rfl, hc⟩⟩ := h.2
  · cases e; omega
  · cases e
    exact ⟨b, o, _, _, rfl, rfl, hc k _ (by simp [hk]), h.1 _ (List.getElem_mem hk)⟩
theorem TInts : ElemT Tryd.prog 28 3 1 8 := .mk' (z := .int .i64 0) (by kernel_rfl) (by kernel_rfl) (by kernel_rfl) (by decide)
theorem TBals : ElemT Tryd.prog 22 28 1 24 := .mk' (z := .slice none 0 0) (by kernel_rfl) (by kernel_rfl) (by kernel_rfl) (by decide)
theorem maxLen_63 : maxLen ≤ 9223372036854775807 := by unfold maxLen; omega
/-- x modulo n, from 0 on. -/
def modI (x n : Int) : Int := (x.tmod n + n).tmod n
theorem modI_lt (x n : Int) (h : 0 < n) : 0 ≤ modI x n ∧ modI x n < n := by
  unfold modI
  have h1 := Int.lt_tmod_of_pos x h
  exact ⟨Int.tmod_nonneg _ (by omega), Int.tmod_lt_of_pos _ h⟩
set_option maxHeartbeats 400000 in
theorem mod_any (x n : Int) (w : World) (h : 0 < n) (hn : n ≤ 1000000) : Calls Tryd.prog 8 #[.int .i64 x, .int .i64 n] w fun e w' => e = .returned (.int .i64 (modI x n)) ∧ w' = w := by
  have h1 := Int.tmod_lt_of_pos x h
  have h2 : -n < x.tmod n := Int.lt_tmod_of_pos x h
  have h3 : 0 ≤ (x.tmod n + n).tmod n := Int.tmod_nonneg _ (by omega)
  have h4 := Int.tmod_lt_of_pos (x.tmod n + n) h
  have e1 : IntKind.i64.wrap (x.tmod n) = x.tmod n := IntWalk.i64_in _ (by omega)
  have e2 : IntKind.i64.wrap (x.tmod n + n) = x.tmod n + n := IntWalk.i64_in _ (by omega)
  have e3 : IntKind.i64.wrap ((x.tmod n + n).tmod n) = (x.tmod n + n).tmod n := IntWalk.i64_in _ (by omega)
  have hz : ¬ n = 0 := by omega
  have hzb : (n == 0) = false := by simpa using hz
  have hm := hid (show modI x n = (x.tmod n + n).tmod n from rfl)
  clear h1 h2 h3 h4
  go_enter Tryd.func8, Tryd.ntmps8
  go_wp2
  go_ret
  exact ⟨by rw [hm.out]; rfl, rfl⟩
theorem mem_take_succ {zs : List Int} {k : Nat} (hk : k < zs.length) (x : Int) : x ∈ zs.take (k + 1) ↔ x ∈ zs.take k ∨ x = zs.getD k 0 := by
  rw [List.take_succ_eq_append_getElem hk, List.mem_append]
  simp [List.getD_eq_getElem?_getD, hk]
set_option maxRecDepth 20000 in
set_option maxHeartbeats 1000000 in
theorem has_any (v : Value) (zs : List Int) (x : Int) (w : World) (hr : RdZ w v zs) : Calls Tryd.prog 37 #[v, .int .i64 x] w fun e w' => e = .returned (.bool (decide (x ∈ zs))) ∧ Qt w w' := by
  obtain ⟨ao, cap, rfl, hcap, hcm⟩ := Rd.shape2 hr
  have hm63 := maxLen_63
  replace hr := hid hr
  go_enter Tryd.func37, Tryd.ntmps37
  go_wp2
  go_loopw [5] (fun i wr => ∃ k : Nat, k ≤ zs.length ∧ i = .int .i64 (k : Int) ∧ Hd (x ∉ zs.take k) ∧ Hd (Qt w wr)) (fun i _ => zs.length - (intOf i).toNat)
  case atStart => exact ⟨0, by omega, rfl, ⟨by simp⟩, ⟨Qt.refl _⟩⟩
  case round =>
    obtain ⟨k, hk, rfl, hx, hW⟩ := hrel
    by_cases hlt : k < zs.length
    · obtain ⟨b, o, rfl, hc⟩ := (hr.out.kept hW.out.kept).at k hlt
      have hk1 : (k : Int) < (zs.length : Int) := by omega
      have hst := hid (mem_take_succ hlt x)
      have hml := hid (fun h => List.mem_of_mem_take (i := k + 1) (show x ∈ zs.take (k + 1) from h))
      generalize zs.getD k 0 = z at hc hst
      by_cases he : z = x
      · have hb : (z == x) = true := by simpa using he
        have hv : Hd (decide (x ∈ zs) = true) := ⟨decide_eq_true (hml.out (hst.out.2 (.inr he.symm)))⟩
        clear he
        go_wp2
        go_ret
        exact ⟨by rw [hv.out]; rfl, hW.out⟩
      · have hb : (z == x) = false := by simpa using he
        have hn : Hd (x ∉ zs.take (k + 1)) := ⟨fun h => (hst.out.1 h).elim hx.out fun e => he e.symm⟩
        clear he hst hml hx
        go_wp2
        go_roundw
        case rel => first | exact ⟨k + 1, by omega, by go_num, hn, hW⟩ | ((repeat apply Exists.intro); exact ⟨⟨k + 1, by omega, by go_num, hn, hW⟩, rfl⟩)
        case measure => simp [intOf]; omega
    · obtain rfl : k = zs.length := by omega
      have hv : Hd (decide (x ∈ zs) = false) := ⟨decide_eq_false (by have := hx.out; rwa [List.take_length] at this)⟩
      clear hx
      go_wp2
      go_ret
      exact ⟨by rw [hv.out]; rfl, hW.out⟩
theorem RdZ.one {w : World} {v : Value} {zs : List Int} (h : RdZ w v zs) : v.oneCell' = true := by
  obtain ⟨_, _, _, rfl, _⟩ := h; rfl
/-- A list of numbers of its own. -/
structure OwZ (w w' : World) (v : Value) (zs : List Int) : Prop where
  own : w'.ownsRow 0 3 1 v zs.length (zs.map Z)
  kept : Kept no w w'
  new : New w v
theorem OwZ.rd {w w' : World} {v : Value} {zs : List Int} (h : OwZ w w' v zs) : RdZ w' v zs := own_RdZ h.own
theorem OwZ.keptNo {w w' w2 : World} {v : Value} {zs : List Int} (h : OwZ w w' v zs) (k : Kept no w' w2) : OwZ w w2 v zs := ⟨k.ownsRow h.own fun _ _ => id, h.kept.trans' k, h.new⟩
theorem OwZ.nil (w : World) : OwZ w w (.slice none 0 0) [] := ⟨World.ownsRow_nil _ _ _ _, Kept.refl _ _, .inl rfl⟩
theorem OwZ.add {w w1 w2 : World} {v v' : Value} {zs : List Int} (h : OwZ w w1 v zs) (x : Int) (ho : w2.ownsRow 0 3 1 v' (zs.length + 1) (zs.map Z ++ [.int .i64 x])) (hk : Kept (ob v) w1 w2) (hn : NewOr w1 v v') : OwZ w w2 v' (zs ++ [x]) :=
  ⟨by rw [List.length_append, List.map_append]; exact ho, h.new.kept h.kept hk, h.new.step hn h.kept.size⟩
end Go.Proofs.YtggcbjchnefhfaaDoor.Pl
namespace Go.Mk
def apart (v u : Value) : Prop := ∀ j, v.ownBlock = some j → u.ownBlock = some j → False
end Go.Mk
namespace Go.Proofs.YtggcbjchnefhfaaDoor.Pl
open Go.RowKit Go.Mk Go.Pil
def lists (bs : List (List Int × Value)) : List (List Int) := bs.map (·.1)
theorem lists_length (bs : List (List Int × Value)) : (lists bs).length = bs.length := by simp [lists]
theorem lists_get {bs : List (List Int × Value)} {k : Nat} (hk : k < bs.length) {p : List Int} {v : Value} (h : bs[k] = (p, v)) : (lists bs)[k]? = some p := by
  unfold lists; rw [List.getElem?_map, List.getElem?_eq_getElem hk, h]; rfl
end Go.Proofs.YtggcbjchnefhfaaDoor.Pl
namespace Go.Pil
/-- The numbers modulo n, each once, at most n of them. -/
def balStep (n : Int) (out : List Int) (y : Int) : List Int := if (out.length : Int) < n ∧ (y.tmod n + n).tmod n ∉ out then out ++ [(y.tmod n + n).tmod n] else out
def bal (n : Int) (l : List Int) : List Int := l.foldl (balStep n) []
theorem bal_take {n : Int} {l : List Int} {k : Nat} (hk : k < l.length) : bal n (l.take (k + 1)) = balStep n (bal n (l.take k)) (l.getD k 0) := by
  have e : l.getD k 0 = l[k] := by simp [List.getD_eq_getElem?_getD, hk]
  unfold bal
  rw [List.take_succ_eq_append_getElem hk, List.foldl_append, e]; rfl
theorem bal_full {n : Int} (l : List Int) : ∀ s : List Int, ¬ (s.length : Int) < n → l.foldl (balStep n) s = s := by
  induction l with
  | nil => intro s _; rfl
  | cons y l ih =>
    intro s hs
    rw [List.foldl_cons]
    have : balStep n s y = s := by unfold balStep; rw [if_neg fun h => hs h.1]
    rw [this]; exact ih s hs
theorem bal_stop {n : Int} {l : List Int} {k : Nat} (h : ¬ ((bal n (l.take k)).length : Int) < n) : bal n l = bal n (l.take k) := by
  have : l = l.take k ++ l.drop k := (List.take_append_drop _ _).symm
  conv => lhs; rw [this]
  unfold bal
  rw [List.foldl_append]
  exact bal_full _ _ h
def bals (n : Int) (ls : List (List Int)) (m : Nat) : List (List Int) := (ls.take m).map fun b => bal n (b.take 12)
end Go.Pil
namespace Go.Proofs.YtggcbjchnefhfaaDoor.Pl
open Go.RowKit Go.Mk Go.Pil
theorem infZ0 : (Tryd.prog.info? 28).map (fun i => (i.zero, i.size)) = some (some (.slice none 0 0), 1) := by kernel_rfl
/-- Ballots of their own, each of its own. -/
structure OwL (w w' : World) (v : Value) (bs : List (List Int × Value)) : Prop where
  own : w'.ownsRow 0 28 1 v bs.length (bs.map (·.2))
  rows : ∀ x ∈ bs, w'.ownsRow 0 3 1 x.2 x.1.length (x.1.map Z)
  kept : Kept no w w'
  new : New w v
theorem int_ne_ints : 3 ≠ 28 := by decide
theorem OwL.nil (w : World) : OwL w w (.slice none 0 0) [] := ⟨World.ownsRow_nil _ _ _ _, (fun x hx => by cases hx), Kept.refl _ _, .inl rfl⟩
theorem OwL.keptNo {w w' w2 : World} {v : Value} {bs : List (List Int × Value)} (h : OwL w w' v bs) (k : Kept no w' w2) : OwL w w2 v bs :=
  ⟨k.ownsRow h.own fun _ _ => id, fun x hx => k.ownsRow (h.rows x hx) fun _ _ => id, h.kept.trans' k, h.new⟩
theorem OwL.rd {w w' : World} {v : Value} {bs : List (List Int × Value)} (h : OwL w w' v bs) : RdB w' v bs := ⟨fun x hx => own_RdZ (h.rows x hx), Rd.of_own h.own⟩
theorem OwL.add {w w0 w1 w2 : World} {v v' u : Value} {bs : List (List Int × Value)} (h : OwL w w0 v bs) (p : List Int) (k1 : Kept no w0 w1) (hu : w1.ownsRow 0 3 1 u p.length (p.map Z))
    (ho : w2.ownsRow 0 28 1 v' (bs.length + 1) (bs.map (·.2) ++ [u])) (hk : Kept (ob v) w1 w2) (hv : NewOr w1 v v') : OwL w w2 v' (bs ++ [(p, u)]) := by
  have h1 := h.keptNo k1
  refine ⟨by rw [List.length_append, List.map_append]; exact ho, fun x hx => ?_, h1.new.kept h1.kept hk, h1.new.step hv h1.kept.size⟩
  rcases List.mem_append.1 hx with hx | hx
  · exact hk.ownsRow (h1.rows x hx) fun j hj hv => own_own (h1.rows x hx) h1.own int_ne_ints j hj hv
  · obtain rfl : x = (p, u) := by simpa using hx
    exact hk.ownsRow hu fun j hj hv => own_own hu h1.own int_ne_ints j hj hv
set_option maxRecDepth 20000 in
set_option maxHeartbeats 1000000 in
theorem genballot_any (n : Int) (v : Value) (zs : List Int) (w : World) (h1 : 1 ≤ n) (h2 : n ≤ 7) (hr : RdZ w v zs) : Calls Tryd.prog 29 #[.int .i64 n, v] w fun e w' => ∃ v', e = .returned v' ∧ OwZ w w' v' (bal n zs) := by
  obtain ⟨ao, cap, rfl, hcap, hcm⟩ := Rd.shape2 hr
  have hm63 := maxLen_63
  replace hr := hid hr
  go_enter Tryd.func29, Tryd.ntmps29
  go_wp2
  go_loopw [5, 6] (fun out i wr => ∃ (k : Nat) (ao' : Option Addr) (cl : Nat), k ≤ zs.length ∧ i = .int .i64 (k : Int) ∧ out = .slice ao' (bal n (zs.take k)).length cl ∧ Hd (OwZ w wr (.slice ao' (bal n (zs.take k)).length cl) (bal n (zs.take k)))) (fun _ i _ => zs.length - (intOf i).toNat)
  case atStart => exact ⟨0, none, 0, by omega, rfl, rfl, ⟨OwZ.nil w⟩⟩
  case round =>
    obtain ⟨k, ao', cl, hk, rfl, rfl, hO⟩ := hrel
    have hstop := hid (fun h => bal_stop (n := n) (l := zs) (k := k) h)
    by_cases hlt : k < zs.length
    · obtain ⟨b, o, rfl, hc⟩ := (hr.out.kept hO.out.kept).at k hlt
      have hk1 : (k : Int) < (zs.length : Int) := by omega
      have hkd : decide ((k : Int) < (zs.length : Int)) = true := decide_eq_true hk1
      have hk0 : (0 : Int) ≤ (k : Int) := by omega
      have hst := hid (bal_take (n := n) hlt)
      generalize zs.getD k 0 = z at hc hst
      generalize bal n (zs.take k) = bk at hO hst hstop ⊢
      by_cases hfl : (bk.length : Int) < n
      · have hfd : decide ((bk.length : Int) < n) = true := decide_eq_true hfl
        have HM := hid (mod_any z n wr (by omega) (by omega))
        have hme := hid (show modI z n = (z.tmod n + n).tmod n from rfl)
        have HH := hid (has_any _ bk (modI z n) wr hO.out.rd)
        generalize modI z n = x at HM HH hme
        clear hstop
        by_cases hx : x ∈ bk
        · rw [decide_eq_true hx] at HH
          have hO' : Hd (OwZ w wr (.slice ao' (bal n (zs.take (k + 1))).length cl) (bal n (zs.take (k + 1)))) := ⟨by
            rw [hst.out]; unfold balStep; rw [if_neg (fun h => h.2 (by rw [← hme.out]; exact hx))]; exact hO.out⟩
          have hlen : Hd (bk.length = (bal n (zs.take (k + 1))).length) := ⟨by rw [hst.out]; unfold balStep; rw [if_neg (fun h => h.2 (by rw [← hme.out]; exact hx))]⟩
          clear hst hO hme hx
          go_wp2_with fail
          refine HM.out.mono ?_
          rintro e w1 ⟨rfl, rfl⟩
          go_wp2_with fail
          refine HH.out.mono ?_
          rintro e w2 ⟨rfl, k2⟩
          have hO2 := hid (hO'.out.keptNo k2.kept)
          rw [← hlen.out] at hO2
          clear k2 HH HM hO'
          go_wp2
          go_roundw
          case rel => first | exact ⟨k + 1, ao', cl, by omega, by go_num, by rw [← hlen.out], by rw [← hlen.out]; exact hO2⟩ | ((repeat apply Exists.intro); exact ⟨⟨k + 1, ao', cl, by omega, by go_num, by rw [← hlen.out], by rw [← hlen.out]; exact hO2⟩, rfl⟩)
          case measure => simp [intOf]; omega
        · rw [decide_eq_false hx] at HH
          have hne : Hd (bal n (zs.take (k + 1)) = bk ++ [x]) := ⟨by rw [hst.out]; unfold balStep; rw [if_pos ⟨hfl, by rw [← hme.out]; exact hx⟩, hme.out]⟩
          have hls : bk.length + 1 ≤ maxLen ∧ (bk.length + 1) * 8 ≤ 140737488355328 := by have hm : maxLen = 9223372036854775807 := rfl; omega
          clear hst hme hx
          go_wp2_with fail
          refine HM.out.mono ?_
          rintro e w1 ⟨rfl, rfl⟩
          go_wp2_with fail
          refine HH.out.mono ?_
          rintro e w2 ⟨rfl, k2⟩
          have hO2 := hid (hO.out.keptNo k2.kept)
          clear k2 HH HM hO hc
          go_wp2_with (at_builtin; refine wpList_append_lit _ rfl _ _ 28 rfl 3 1 8 TInts _ _ _ rfl hO2.out.own 1 [_] rfl rfl ?c1 ?c2 ?c3 ?_)
          case c1 => simp [Value.oneCell']
          case c2 => exact hls.1
          case c3 => exact hls.2
          intro v' w3 h2 h3 h4 _
          have hO3 := hO2.out.add x h2 h3 h4
          rw [← hne.out] at hO3
          obtain ⟨a6, c6, rfl, _, _⟩ := Rd.shape2 hO3.rd
          replace hO3 := hid hO3
          clear h2 h3 h4 hO2 hls
          go_wp2
          go_roundw
          case rel => first | exact ⟨k + 1, a6, c6, by omega, by go_num, rfl, hO3⟩ | ((repeat apply Exists.intro); exact ⟨⟨k + 1, a6, c6, by omega, by go_num, rfl, hO3⟩, rfl⟩)
          case measure => simp [intOf]; omega
      · have hfd : decide ((bk.length : Int) < n) = false := decide_eq_false hfl
        have hv : Hd (bal n zs = bk) := ⟨hstop.out hfl⟩
        clear hstop hst hc
        go_wp2
        go_ret
        exact ⟨_, rfl, by rw [hv.out]; exact hO.out⟩
    · have hkd : decide ((k : Int) < (zs.length : Int)) = false := decide_eq_false (by omega)
      have hk1 : ¬ (k : Int) < (zs.length : Int) := by omega
      have hv : Hd (bal n zs = bal n (zs.take k)) := ⟨by rw [List.take_of_length_le (by omega)]⟩
      generalize bal n (zs.take k) = bk at hO hv
      clear hstop
      go_wp2
      go_ret
      exact ⟨_, rfl, by rw [hv.out]; exact hO.out⟩
theorem RdZ.addr {w : World} {av : Option Addr} {lv cv : Nat} {zs : List Int} (h : RdZ w (.slice av lv cv) zs) : cv = 0 ∨ ∃ b o, av = some ⟨b, o, none⟩ := by
  obtain ⟨_, _, _, e, _, _, h | ⟨b, o, rfl, _⟩⟩ := h
  · cases e; exact .inl h
  · cases e; exact .inr ⟨b, o, rfl⟩
theorem pre_slice (av : Option Addr) (lv cv m : Nat) (hav : cv = 0 ∨ ∃ b o, av = some ⟨b, o, none⟩) (hm : m ≤ cv) (w : World) : (Instr.slice 28 (.slice av lv cv) none (some (.int .i64 (m : Int))) none).run Tryd.prog w = .ok (.slice av m cv) w := by
  have h0 : (0 : Int) ≤ (m : Int) := by omega
  have hc : Tryd.prog.underlying 28 = some (.slice 3) := by kernel_rfl
  rcases hav with rfl | ⟨b, o, rfl⟩
  · obtain rfl : m = 0 := by omega
    simp [Instr.slice, Instr.sliceBounds, Instr.sliceBound, run_underlying hc, asIntOf]
  · simp [Instr.slice, Instr.sliceBounds, Instr.sliceBound, run_underlying hc, asIntOf, h0]
    have e : (⟨b, o, none⟩ : Addr).add 0 = ⟨b, o, none⟩ := by simp [Addr.add]
    rw [if_pos hm, e]; simp
end Go.Proofs.YtggcbjchnefhfaaDoor.Pl
namespace Go.Pil
theorem bals_take {n : Int} {ls : List (List Int)} {k : Nat} {p : List Int} (hp : ls[k]? = some p) : bals n ls (k + 1) = bals n ls k ++ [bal n (p.take 12)] := by
  obtain ⟨hk, hgk⟩ := List.getElem?_eq_some_iff.1 hp
  unfold bals
  rw [List.take_succ_eq_append_getElem hk, hgk]; simp
theorem bals_all_of {n : Int} {ls : List (List Int)} {k : Nat} (h : ls.length ≤ k) (m : Nat) (hm : k ≤ m) : bals n ls m = bals n ls k := by
  unfold bals; rw [List.take_of_length_le (by omega), List.take_of_length_le h]
end Go.Pil
namespace Go.Proofs.YtggcbjchnefhfaaDoor.Pl
open Go.RowKit Go.Mk Go.Pil
theorem lists_append (a b : List (List Int × Value)) : lists (a ++ b) = lists a ++ lists b := by simp [lists]
/-- A row of one's own that is new since w0. -/
def OwNew {Sl : Nat → Nat → Prop} (w0 : World) (zs : List Int) : Pr Sl := soft (fun v w => OwZ w0 w v zs) fun _ _ _ h k => h.keptNo k
/-- A slice of the one element. -/
def One {Sl : Nat → Nat → Prop} (d : Nat) : Pr Sl := rel d (fun u v w => ∃ g, v = .slice (some ⟨g, 0, none⟩) 1 1 ∧ w.cell? ⟨g, 0, none⟩ = some u) fun _ _ _ _ ⟨g, e, h⟩ k => ⟨g, e, k.cell h id⟩
/-- The value of the operation before. -/
def Is2 {Sl : Nat → Nat → Prop} (d : Nat) : Pr Sl := rel d (fun u v _ => v = u) fun _ _ _ _ h _ => h
/-- The list with the ballot more. -/
def More {Sl : Nat → Nat → Prop} (w : World) (bs : List (List Int × Value)) (p : List Int) (d : Nat) : Pr Sl := rel d (fun u v w' => OwL w w' v (bs ++ [(p, u)])) fun _ _ _ _ h k => h.keptNo k
theorem one_rd {w : World} {v u : Value} (h : ∃ g, v = .slice (some ⟨g, 0, none⟩) 1 1 ∧ w.cell? ⟨g, 0, none⟩ = some u) : Rd w 1 v 1 [u] := by
  obtain ⟨g, rfl, h⟩ := h
  refine ⟨rfl, _, 1, rfl, Nat.le_refl _, by decide, .inr ⟨g, 0, rfl, fun j x hj => ?_⟩⟩
  cases j with
  | zero => simp at hj; subst hj; simpa using h
  | succ j => simp at hj
theorem one_fill {w0 w : World} {u : Value} {zs : List Int} (h : OwZ w0 w u zs) : Instr.fill (fun i => some (i * 1, 1)) ((Array.range (1 * 1)).map ((Value.slice none 0 0).cells[· % (Value.slice none 0 0).cells.size]!)) [(0, u)] = some [u].toArray := by
  obtain ⟨a, c, rfl, _, _⟩ := Rd.shape2 h.rd
  exact fill_rows 1 (by decide) (Value.slice none 0 0) [Value.slice a zs.length c] (fun v hv => by obtain rfl := List.mem_singleton.1 hv; rfl)
theorem OwZ.of_kept {w0 w w' : World} {v : Value} {zs : List Int} (h : OwZ w w' v zs) (k : Kept no w0 w) : OwZ w0 w' v zs := ⟨h.own, k.trans' h.kept, h.new.of k.size⟩
theorem min12 (l : Nat) : (if (12 : Int) < (l : Int) then (12 : Int) else (l : Int)) = ((min l 12 : Nat) : Int) := by split <;> omega
set_option maxRecDepth 100000 in
set_option maxHeartbeats 4000000 in
theorem ballots_any (n : Int) (v : Value) (bs : List (List Int × Value)) (m : Nat) (w : World) (h1 : 1 ≤ n) (h2 : n ≤ 7) (hm : m ≤ 1000000) (hr : RdB w v bs) : Calls Tryd.prog 19 #[.int .i64 n, v, .int .i64 (m : Int)] w fun e w' => ∃ v' qs, e = .returned v' ∧ lists qs = bals n (lists bs) m ∧ OwL w w' v' qs := by
  obtain ⟨ao, cap, rfl, hcap, hcm⟩ := Rd.shape2 hr.2
  have hm63 := maxLen_63
  replace hr := hid hr
  obtain ⟨len, hlen⟩ : ∃ len, bs.length = len := ⟨_, rfl⟩
  rw [hlen] at hr hcap ⊢
  replace hlen := hid hlen
  go_enter Tryd.func19, Tryd.ntmps19
  go_wp2
  go_loopw [7, 8] (fun out i wr => ∃ (k : Nat) (qs : List (List Int × Value)), k ≤ len ∧ k ≤ m ∧ i = .int .i64 (k : Int) ∧ Hd (qs.length = k) ∧ Hd (lists qs = bals n (lists bs) k) ∧ Hd (OwL w wr out qs)) (fun _ i _ => len - (intOf i).toNat)
  case atStart => exact ⟨0, [], by omega, by omega, rfl, ⟨rfl⟩, ⟨rfl⟩, ⟨OwL.nil w⟩⟩
  case round =>
    obtain ⟨k, qs, hk, hkm, rfl, hqk, hqs, hO⟩ := hrel
    by_cases hlt : k < len
    · have hk1 : (k : Int) < (len : Int) := by omega
      have hkd : decide ((k : Int) < (len : Int)) = true := decide_eq_true hk1
      have hk0 : (0 : Int) ≤ (k : Int) := by omega
      by_cases hltm : k < m
      · have hmd : decide ((k : Int) < (m : Int)) = true := decide_eq_true (by omega)
        have hk2 : (k : Int) < (m : Int) := by omega
        obtain ⟨b, o, p, vp, rfl, hel, c0, hz⟩ := (hr.out.kept hO.out.kept).at k (by rw [hlen.out]; exact hlt)
        have hbt : Hd (∀ u : Value, lists (qs ++ [(bal n (p.take 12), u)]) = bals n (lists bs) (k + 1)) := ⟨fun u => by rw [lists_append, hqs.out, bals_take (lists_get _ hel)]; rfl⟩
        obtain ⟨av, cv, rfl, hlc, hcv⟩ := Rd.shape2 hz
        have hsl := pre_slice av p.length cv (min p.length 12) hz.addr (by omega)
        have HG := hid (fun W (k : Kept no wr W) => genballot_any n (.slice av (min p.length 12) cv) (p.take 12) W h1 h2 (by
          have := (hz.take (min p.length 12) (by omega)).kept k
          have e : p.take (min p.length 12) = p.take 12 := by rw [Nat.min_comm]; exact List.take_eq_take_min.symm
          rwa [e] at this))
        have hmin := min12 p.length
        have hmin2 : min (p.length : Int) 12 = ((min p.length 12 : Nat) : Int) := by omega
        have hqm : qs.length + 1 ≤ maxLen ∧ (qs.length + 1) * 24 ≤ 140737488355328 := by have := hqk.out; have hm : maxLen = 9223372036854775807 := rfl; omega
        replace hqm := hid hqm
        generalize p.length = lv at c0 hsl HG hmin hmin2
        generalize min lv 12 = mv at hsl HG hmin hmin2
        generalize p.take 12 = p12 at HG hbt
        replace c0 := hid c0
        clear hz hel hlc hcv
        go_upto_region 5 with fail
        refine region_flow (S := (ob u7)) (Sl := (fun _ => (ob u7))) [Is (u7), Is (.int .i64 n), Is (.slice (some ⟨b, o, none⟩) len cap), Is (.int .i64 (k : Int)), Is (.pointer (some ⟨b, o + k, none⟩)), Is (.slice av lv cv), Is (.slice (some ⟨b, o, none⟩) len cap), Is (.int .i64 (k : Int)), Is (.pointer (some ⟨b, o + k, none⟩)), Is (.slice av lv cv), Is (.int .i64 (lv : Int)), Is (.int .i64 (mv : Int)), Is (.slice av mv cv), OwNew wr (bal n p12), One 13, More w qs (bal n p12) 13, Is2 15] [15] (fun _ _ h => h) _ (by kernel_rfl) (by kernel_rfl) (by kernel_rfl) (by kernel_rfl) (fun x => by simp only [puts, Act.put, List.map_cons, List.map_nil, Nat.zero_add, Nat.reduceAdd, List.setIfInBounds_toArray, List.set_cons_zero, List.set_cons_succ]; exact rfl) ?_ ?_
        · skip
          refine Steps.cons (fun x wf Kk hq hdep hold => ?_) ?_
          · try dsimp only
            have h16 : x 16 = (u7) := hold 16 (by kernel_rfl)
            clear hq hdep hold
            simp only [h16]
            clear h16
            rw [if_pos (by rfl)]
            refine OpY.val (v := (u7)) ?_ ⟨Kept.refl _ _, rfl⟩
            first | rfl | go_simp
          refine Steps.cons (fun x wf Kk hq hdep hold => ?_) ?_
          · try dsimp only
            clear hq hdep hold
            rw [if_pos (by rfl)]
            refine OpY.val (v := (.int .i64 n)) ?_ ⟨Kept.refl _ _, rfl⟩
            first | rfl | go_simp
          refine Steps.cons (fun x wf Kk hq hdep hold => ?_) ?_
          · try dsimp only
            clear hq hdep hold
            rw [if_pos (by rfl)]
            refine OpY.val (v := (.slice (some ⟨b, o, none⟩) len cap)) ?_ ⟨Kept.refl _ _, rfl⟩
            first | rfl | go_simp
          refine Steps.cons (fun x wf Kk hq hdep hold => ?_) ?_
          · try dsimp only
            clear hq hdep hold
            rw [if_pos (by rfl)]
            refine OpY.val (v := (.int .i64 (k : Int))) ?_ ⟨Kept.refl _ _, rfl⟩
            first | rfl | go_simp
          refine Steps.cons (fun x wf Kk hq hdep hold => ?_) ?_
          · try dsimp only
            have h2 : x 2 = (.slice (some ⟨b, o, none⟩) len cap) := hdep 2 (by kernel_rfl)
            have h3 : x 3 = (.int .i64 (k : Int)) := hdep 3 (by kernel_rfl)
            clear hq hdep hold
            simp only [h2, h3]
            clear h2 h3
            rw [if_pos (by rfl)]
            refine OpY.val (v := (.pointer (some ⟨b, o + k, none⟩))) ?_ ⟨Kept.refl _ _, rfl⟩
            first | rfl | go_simp
          refine Steps.cons (fun x wf Kk hq hdep hold => ?_) ?_
          · try dsimp only
            have h4 : x 4 = (.pointer (some ⟨b, o + k, none⟩)) := hdep 4 (by kernel_rfl)
            have Kq := hq no (fun j hj => by cases (show j ∈ ([] : List Nat) from by (have e : ∀ l : List Nat, l = [] → j ∈ l → j ∈ ([] : List Nat) := fun l h h2 => h ▸ h2); exact e _ (by kernel_rfl) hj))
            clear hq hdep hold
            simp only [h4]
            clear h4
            have cvf := Kq.undrew.cell c0.out id
            rw [if_pos (by rfl)]
            refine OpY.val (v := (.slice av lv cv)) ?_ ⟨Kept.refl _ _, rfl⟩
            first | rfl | go_simp
          refine Steps.cons (fun x wf Kk hq hdep hold => ?_) ?_
          · try dsimp only
            clear hq hdep hold
            rw [if_pos (by rfl)]
            refine OpY.val (v := (.slice (some ⟨b, o, none⟩) len cap)) ?_ ⟨Kept.refl _ _, rfl⟩
            first | rfl | go_simp
          refine Steps.cons (fun x wf Kk hq hdep hold => ?_) ?_
          · try dsimp only
            clear hq hdep hold
            rw [if_pos (by rfl)]
            refine OpY.val (v := (.int .i64 (k : Int))) ?_ ⟨Kept.refl _ _, rfl⟩
            first | rfl | go_simp
          refine Steps.cons (fun x wf Kk hq hdep hold => ?_) ?_
          · try dsimp only
            have h6 : x 6 = (.slice (some ⟨b, o, none⟩) len cap) := hdep 6 (by kernel_rfl)
            have h7 : x 7 = (.int .i64 (k : Int)) := hdep 7 (by kernel_rfl)
            clear hq hdep hold
            simp only [h6, h7]
            clear h6 h7
            rw [if_pos (by rfl)]
            refine OpY.val (v := (.pointer (some ⟨b, o + k, none⟩))) ?_ ⟨Kept.refl _ _, rfl⟩
            first | rfl | go_simp
          refine Steps.cons (fun x wf Kk hq hdep hold => ?_) ?_
          · try dsimp only
            have h8 : x 8 = (.pointer (some ⟨b, o + k, none⟩)) := hdep 8 (by kernel_rfl)
            have Kq := hq no (fun j hj => by cases (show j ∈ ([] : List Nat) from by (have e : ∀ l : List Nat, l = [] → j ∈ l → j ∈ ([] : List Nat) := fun l h h2 => h ▸ h2); exact e _ (by kernel_rfl) hj))
            clear hq hdep hold
            simp only [h8]
            clear h8
            have cvf := Kq.undrew.cell c0.out id
            rw [if_pos (by rfl)]
            refine OpY.val (v := (.slice av lv cv)) ?_ ⟨Kept.refl _ _, rfl⟩
            first | rfl | go_simp
          refine Steps.cons (fun x wf Kk hq hdep hold => ?_) ?_
          · try dsimp only
            have h9 : x 9 = (.slice av lv cv) := hdep 9 (by kernel_rfl)
            clear hq hdep hold
            simp only [h9]
            clear h9
            rw [if_pos (by rfl)]
            refine OpY.val (v := (.int .i64 (lv : Int))) ?_ ⟨Kept.refl _ _, rfl⟩
            first | rfl | go_simp
          refine Steps.cons (fun x wf Kk hq hdep hold => ?_) ?_
          · try dsimp only
            have h10 : x 10 = (.int .i64 (lv : Int)) := hdep 10 (by kernel_rfl)
            clear hq hdep hold
            simp only [h10]
            clear h10
            rw [if_pos (by rfl)]
            refine OpY.val (v := (.int .i64 (mv : Int))) ?_ ⟨Kept.refl _ _, rfl⟩
            first | rfl | go_simp
          refine Steps.cons (fun x wf Kk hq hdep hold => ?_) ?_
          · try dsimp only
            have h5 : x 5 = (.slice av lv cv) := hdep 5 (by kernel_rfl)
            have h11 : x 11 = (.int .i64 (mv : Int)) := hdep 11 (by kernel_rfl)
            clear hq hdep hold
            simp only [h5, h11]
            clear h5 h11
            rw [if_pos (by rfl)]
            refine OpY.val (v := (.slice av mv cv)) ?_ ⟨Kept.refl _ _, rfl⟩
            first | rfl | go_simp
          refine Steps.cons (fun x wf Kk hq hdep hold => ?_) ?_
          · try dsimp only
            have h1 : x 1 = (.int .i64 n) := hdep 1 (by kernel_rfl)
            have h12 : x 12 = (.slice av mv cv) := hdep 12 (by kernel_rfl)
            have Kq := hq no (fun j hj => by cases (show j ∈ ([] : List Nat) from by (have e : ∀ l : List Nat, l = [] → j ∈ l → j ∈ ([] : List Nat) := fun l h h2 => h ▸ h2); exact e _ (by kernel_rfl) hj))
            clear hq hdep hold
            simp only [h1, h12]
            clear h1 h12
            rw [if_pos (by rfl)]
            refine OpY.call (f := 29) (args := #[(.int .i64 n), (.slice av mv cv)]) (by go_simp) ?_
            refine (HG.out wf Kq.undrew).mono ?_
            rintro e w2 ⟨v2, rfl, o2⟩
            exact ⟨_, rfl, o2.kept, o2.of_kept Kq.undrew⟩
          refine Steps.cons (fun x wf Kk hq hdep hold => ?_) ?_
          · try dsimp only
            have p13 : Pr.p (Sl := (fun _ => (ob u7))) (OwNew wr (bal n p12)) (x 13) wf := hdep 13 (by kernel_rfl)
            clear hq hdep hold
            rw [if_pos (by rfl)]
            refine OpY.build 22 28 1 _ rfl 1 (.slice none 0 0) Tryd.underlying22 infZ0 (by decide) (by decide) [x 13] _ rfl (one_fill p13) rfl (by decide) (fun w' hg k ho => ⟨k, _, rfl, by rw [cell_of_row w' _ 0 _ _ _ hg]; rfl⟩)
          refine Steps.cons (fun x wf Kk hq hdep hold => ?_) ?_
          · try dsimp only
            have h0 : x 0 = (u7) := hdep 0 (by kernel_rfl)
            have p14 : Pr.r (Sl := (fun _ => (ob u7))) (One 13) (x 13) (x 14) wf := hdep 14 (by kernel_rfl)
            have p13 : Pr.p (Sl := (fun _ => (ob u7))) (OwNew wr (bal n p12)) (x 13) wf := hdep 13 (by kernel_rfl)
            have Kq := hq no (fun j hj => by cases (show j ∈ ([] : List Nat) from by (have e : ∀ l : List Nat, l = [] → j ∈ l → j ∈ ([] : List Nat) := fun l h h2 => h ▸ h2); exact e _ (by kernel_rfl) hj))
            clear hq hdep hold
            simp only [h0]
            clear h0
            rw [if_pos (by rfl)]
            have hO2 := hO.out.keptNo Kq.undrew
            refine OpY.append (.tmp 20) (.tmp 34) 22 _ rfl rfl 28 1 24 TBals u7 _ _ rfl hO2.own (x 14) 1 [x 13] rfl (one_rd p14) (fun u hu => by obtain rfl := List.mem_singleton.1 hu; exact p13.rd.one) hqm.out.1 hqm.out.2 ?_
            intro v2 w2 h2 h3 h4 _
            exact ⟨h3, hO.out.add _ Kq.undrew p13.own h2 h3 h4⟩
          refine Steps.cons (fun x wf Kk hq hdep hold => ?_) ?_
          · try dsimp only
            have p15 : Pr.r (Sl := (fun _ => (ob u7))) (More w qs (bal n p12) 13) (x 13) (x 15) wf := hdep 15 (by kernel_rfl)
            clear hq hdep hold
            rw [if_pos (by rfl)]
            refine OpY.val (v := x 15) rfl ⟨Kept.refl _ _, rfl⟩
          exact Steps.nil _
        · intro x wf Kk hv
          try dsimp only
          have h0 : x 0 = (u7) := hv 0 (by kernel_rfl)
          have h1 : x 1 = (.int .i64 n) := hv 1 (by kernel_rfl)
          have h2 : x 2 = (.slice (some ⟨b, o, none⟩) len cap) := hv 2 (by kernel_rfl)
          have h3 : x 3 = (.int .i64 (k : Int)) := hv 3 (by kernel_rfl)
          have h4 : x 4 = (.pointer (some ⟨b, o + k, none⟩)) := hv 4 (by kernel_rfl)
          have h5 : x 5 = (.slice av lv cv) := hv 5 (by kernel_rfl)
          have h6 : x 6 = (.slice (some ⟨b, o, none⟩) len cap) := hv 6 (by kernel_rfl)
          have h7 : x 7 = (.int .i64 (k : Int)) := hv 7 (by kernel_rfl)
          have h8 : x 8 = (.pointer (some ⟨b, o + k, none⟩)) := hv 8 (by kernel_rfl)
          have h9 : x 9 = (.slice av lv cv) := hv 9 (by kernel_rfl)
          have h10 : x 10 = (.int .i64 (lv : Int)) := hv 10 (by kernel_rfl)
          have h11 : x 11 = (.int .i64 (mv : Int)) := hv 11 (by kernel_rfl)
          have h12 : x 12 = (.slice av mv cv) := hv 12 (by kernel_rfl)
          have p15 : Pr.r (Sl := (fun _ => (ob u7))) (More w qs (bal n p12) 13) (x 13) (x 15) wf := hv 15 (by kernel_rfl)
          have p16 : Pr.r (Sl := (fun _ => (ob u7))) (Is2 15) (x 15) (x 16) wf := hv 16 (by kernel_rfl)
          clear hv
          simp only [h0, h1, h2, h3, h4, h5, h6, h7, h8, h9, h10, h11, h12]
          clear h0 h1 h2 h3 h4 h5 h6 h7 h8 h9 h10 h11 h12
          have eA : x 16 = x 15 := p16
          simp only [eA]
          have hO3 := hid (show OwL w wf (x 15) (qs ++ [(bal n p12, x 13)]) from p15)
          have hq3 := hid (hbt.out (x 13))
          generalize x 15 = v' at hO3 ⊢
          generalize x 13 = u at hO3 hq3
          have hqk' : Hd ((qs ++ [(bal n p12, u)]).length = k + 1) := ⟨by rw [List.length_append, hqk.out]; rfl⟩
          clear eA p15 p16 hO hqs hbt HG hsl hmin hmin2 hqm c0 hqk Kk
          go_wp2
          go_roundw
          case rel => first | exact ⟨k + 1, _, by omega, by omega, by go_num, hqk', hq3, hO3⟩ | ((repeat apply Exists.intro); exact ⟨⟨k + 1, _, by omega, by omega, by go_num, hqk', hq3, hO3⟩, rfl⟩)
          case measure => simp [intOf]; omega
      · obtain rfl : k = m := by omega
        have hmd : decide ((k : Int) < (k : Int)) = false := decide_eq_false (by omega)
        clear hqk
        go_wp2
        go_ret
        exact ⟨_, qs, rfl, hqs.out, hO.out⟩
    · obtain rfl : k = len := by omega
      have hv : Hd (lists qs = bals n (lists bs) m) := ⟨by rw [hqs.out]; exact (bals_all_of (by rw [lists_length, hlen.out]; exact Nat.le_refl _) m hkm).symm⟩
      clear hqs hqk
      go_wp2
      go_ret
      exact ⟨_, qs, rfl, hv.out, hO.out⟩
end Go.Proofs.YtggcbjchnefhfaaDoor.Pl
namespace Go.Proofs.YtggcbjchnefhfaaDoor.Pl
open Go.RowKit Go.Mk Go.Pil
theorem own : ownKnob Tryd.prog.godebug = none := by kernel_rfl
end Go.Proofs.YtggcbjchnefhfaaDoor.Pl
namespace Go.Proofs.YtggcbjchnefhfaaDoor.Pl
open Go.RowKit Go.Mk Go.Pil
theorem RdB.addr {w : World} {av : Option Addr} {lv cv : Nat} {bs : List (List Int × Value)} (h : RdB w (.slice av lv cv) bs) : cv = 0 ∨ ∃ b o, av = some ⟨b, o, none⟩ := by
  obtain ⟨_, _, _, _, e, _, _, h | ⟨b, o, rfl, _⟩⟩ := h
  · cases e; exact .inl h
  · cases e; exact .inr ⟨b, o, rfl⟩
theorem RdB.take {w : World} {ao : Option Addr} {n cap : Nat} {bs : List (List Int × Value)} (h : RdB w (.slice ao n cap) bs) (k : Nat) (hk : k ≤ bs.length) : RdB w (.slice ao k cap) (bs.take k) := by
  refine ⟨fun x hx => h.1 x (List.mem_of_mem_take hx), ?_⟩
  obtain ⟨_, hl, _, _, e, h1, h2, h3⟩ := h
  cases e
  have hlk : (bs.take k).length = k := by rw [List.length_take]; omega
  refine ⟨by simp, ao, cap, by rw [hlk], by omega, h2, h3.imp id fun ⟨b, o, e, hc⟩ => ⟨b, o, e, fun j u hj => hc j u ?_⟩⟩
  rw [List.map_take, List.getElem?_take] at hj
  split at hj
  · exact hj
  · cases hj
theorem infZi : (Tryd.prog.info? 3).map (fun i => (i.zero, i.size)) = some (some (.int .i64 0), 1) := by kernel_rfl
theorem newOr_nilE {w : World} {v : Value} (h : NewOr w (.slice none 0 0) v) : New w v := by
  rcases h with h | ⟨j, h1, h2⟩
  · exact .inl h
  · exact .inr ⟨j, h1, h2⟩
/-- A list of numbers of one's own, some list of m numbers. -/
def SomeZ {Sl : Nat → Nat → Prop} (w0 : World) (m : Nat) : Pr Sl := soft (fun v w => ∃ zs : List Int, zs.length = m ∧ OwZ w0 w v zs) fun _ _ _ ⟨zs, e, h⟩ k => ⟨zs, e, h.keptNo k⟩
def OneZ {Sl : Nat → Nat → Prop} (x : Int) : Pr Sl := soft (fun v w => RdZ w v [x]) fun _ _ _ h k => h.kept k
theorem pre_sliceZ (av : Option Addr) (lv cv m : Nat) (hav : cv = 0 ∨ ∃ b o, av = some ⟨b, o, none⟩) (hm : m ≤ cv) (w : World) : (Instr.slice 28 (.slice av lv cv) none (some (.int .i64 (m : Int))) none).run Tryd.prog w = .ok (.slice av m cv) w := pre_slice av lv cv m hav hm w
theorem post_sliceZ (av : Option Addr) (lv cv m : Nat) (_hav : cv = 0 ∨ ∃ b o, av = some ⟨b, o, none⟩) (hm : m ≤ lv) (_hlc : lv ≤ cv) (w : World) : (Instr.slice 28 (.slice av lv cv) (some (.int .i64 (m : Int))) none none).run Tryd.prog w = .ok (.slice (if cv = m then av else av.map (·.add m)) (lv - m) (cv - m)) w := by
  have h0 : (0 : Int) ≤ (m : Int) := by omega
  have hc : Tryd.prog.underlying 28 = some (.slice 3) := by kernel_rfl
  obtain ⟨i, hi, hz, hs, hb⟩ := info_parts (P := Tryd.prog) (e := 3) (z := .int .i64 0) (size := 1) (bytes := 8) (by kernel_rfl)
  have h1 : (m : Int) ≤ (lv : Int) := by omega
  simp [Instr.slice, Instr.sliceBounds, Instr.sliceBound, run_underlying hc, asIntOf, h0, sizeOf, typeInfo, hi, hs, hm]
theorem RdZ.drop {w : World} {ao : Option Addr} {n cap : Nat} {zs : List Int} (h : RdZ w (.slice ao n cap) zs) (m : Nat) (hm : m ≤ zs.length) : RdZ w (.slice (if cap = m then ao else ao.map (·.add m)) (zs.length - m) (cap - m)) (zs.drop m) := by
  obtain ⟨hl, _, _, e, h1, h2, h3⟩ := h
  cases e
  have hd : (zs.drop m).length = zs.length - m := by simp
  refine ⟨by simp, _, _, by rw [hd], by rw [hd]; omega, by omega, ?_⟩
  by_cases hc : cap = m
  · exact .inl (by omega)
  · rcases h3 with h3 | ⟨b, o, rfl, hcc⟩
    · exact .inl (by omega)
    · refine .inr ⟨b, o + m, ?_, fun j u hj => ?_⟩
      · rw [if_neg hc]
        simp only [Option.map_some, Addr.add]
        split
        · rename_i e0; subst e0; simp
        · rfl
      · rw [List.map_drop, List.getElem?_drop] at hj
        have := hcc (m + j) u hj
        rw [Nat.add_assoc]; exact this
/-- Exactly these numbers, in a row of one's own that is new since w0. -/
def ExZ {Sl : Nat → Nat → Prop} (w0 : World) (l : List Int) : Pr Sl := soft (fun v w => OwZ w0 w v l) fun _ _ _ h k => h.keptNo k
theorem perm_ins {zs : List Int} {k : Nat} (h : zs.Perm ((List.range k).map Int.ofNat)) (m : Nat) : (zs.take m ++ [(k : Int)] ++ zs.drop m).Perm ((List.range (k + 1)).map Int.ofNat) := by
  rw [List.range_succ, List.map_append]
  refine List.Perm.trans ?_ (h.append_right _)
  have h1 : (zs.take m ++ [(k : Int)] ++ zs.drop m).Perm (zs.take m ++ zs.drop m ++ [(k : Int)]) := by
    rw [List.append_assoc, List.append_assoc]
    exact List.Perm.append_left _ List.perm_append_comm
  rw [List.take_append_drop] at h1
  exact h1
set_option maxRecDepth 100000 in
set_option maxHeartbeats 4000000 in
theorem gperm_any (n : Nat) (code : Int) (w : World) (hn : n ≤ 12) : Calls Tryd.prog 9 #[.int .i64 (n : Int), .int .i64 code] w fun e w' => ∃ v' zs, e = .returned v' ∧ zs.Perm ((List.range n).map Int.ofNat) ∧ OwZ w w' v' zs := by
  go_enter Tryd.func9, Tryd.ntmps9
  go_wp2
  go_loopw [1, 5, 6] (fun c out i wr => ∃ (k : Nat) (C : Int) (zs : List Int), k ≤ n ∧ i = .int .i64 (k : Int) ∧ c = .int .i64 C ∧ Hd (zs.length = k) ∧ Hd (zs.Perm ((List.range k).map Int.ofNat)) ∧ Hd (OwZ w wr out zs)) (fun _ _ i _ => n - (intOf i).toNat)
  case atStart => exact ⟨0, code, [], by omega, rfl, rfl, ⟨rfl⟩, ⟨List.Perm.refl _⟩, ⟨OwZ.nil w⟩⟩
  case round =>
    obtain ⟨k, C, zs, hk, rfl, rfl, hzl, hzp, hO⟩ := hrel
    by_cases hlt : k < n
    · have hk1 : (k : Int) < (n : Int) := by omega
      have hk0 : (0 : Int) ≤ (k : Int) := by omega
      have hkw : IntKind.i64.wrap ((k : Int) + 1) = (k : Int) + 1 := IntWalk.i64_in _ (by omega)
      have hk1z : ¬ (k : Int) + 1 = 0 := by omega
      obtain ⟨m, hm⟩ : ∃ m : Nat, modI C ((k : Int) + 1) = (m : Int) := ⟨(modI C ((k : Int) + 1)).toNat, by have := modI_lt C ((k : Int) + 1) (by omega); omega⟩
      have hmk : m ≤ k := by have := modI_lt C ((k : Int) + 1) (by omega); omega
      have HM := mod_any C ((k : Int) + 1) wr (by omega) (by omega)
      rw [hm] at HM
      replace HM := hid HM
      obtain ⟨ao, cl, hu, hlc, hcm⟩ := Rd.shape2 hO.out.rd
      rw [hzl.out] at hu hlc
      subst hu
      have haddr := hO.out.rd.addr
      have hsl1 := pre_sliceZ ao k cl m haddr (by omega)
      have hsl2 := post_sliceZ ao k cl m haddr hmk hlc
      have R1 : Hd (RdZ wr (.slice ao m cl) (zs.take m)) := ⟨hO.out.rd.take m (by rw [hzl.out]; exact hmk)⟩
      have R2 := hO.out.rd.drop m (by rw [hzl.out]; exact hmk)
      rw [hzl.out] at R2
      replace R2 := hid R2
      have hpn : Hd ((zs.take m ++ [(k : Int)] ++ zs.drop m).Perm ((List.range (k + 1)).map Int.ofNat)) := ⟨perm_ins hzp.out m⟩
      have hl1 : Hd ((zs.take m).length = m) := ⟨by rw [List.length_take, hzl.out]; omega⟩
      have hl2 : Hd ((zs.drop m).length = k - m) := ⟨by rw [List.length_drop, hzl.out]⟩
      have hls : m + 1 + (k - m) ≤ maxLen ∧ (m + 1 + (k - m)) * 8 ≤ 140737488355328 := by have hmx : maxLen = 9223372036854775807 := rfl; omega
      have hbk : k ≤ 12 := by omega
      replace hm := hid hm
      have KW := hid hO.out.kept
      clear hlc hcm haddr hzp
      go_wp2_with fail
      refine HM.out.mono ?_
      rintro e w1 ⟨rfl, rfl⟩
      generalize zs.take m = z1 at R1 hl1 hpn
      generalize zs.drop m = z2 at R2 hl2 hpn
      generalize (if cl = m then ao else ao.map (·.add m)) = ao2 at hsl2 R2
      obtain ⟨km, hkm⟩ : ∃ km, k - m = km := ⟨_, rfl⟩
      rw [hkm] at hsl2 R2 hl2 hls
      replace hkm : Hd (m + km = k) := ⟨by omega⟩
      generalize cl - m = cl2 at hsl2 R2
      clear HM
      go_upto_region 7 with fail
      refine region_flow (S := (fun j => w1.heap.size ≤ j)) (Sl := (fun _ => (fun j => w1.heap.size ≤ j))) [Is (.slice ao k cl), Is (.int .i64 (m : Int)), Is (.slice ao m cl), ExZ w1 z1, Is (.int .i64 (k : Int)), OneZ (k : Int), ExZ w1 (z1 ++ [(k : Int)]), Is (.slice ao k cl), Is (.int .i64 (m : Int)), Is (.slice ao2 km cl2), ExZ w1 (z1 ++ [(k : Int)] ++ z2), ExZ w1 (z1 ++ [(k : Int)] ++ z2)] [6, 10] (fun _ _ h => h) _ (by kernel_rfl) (by kernel_rfl) (by kernel_rfl) (by kernel_rfl) (fun x => by simp only [puts, Act.put, List.map_cons, List.map_nil, Nat.zero_add, Nat.reduceAdd, List.setIfInBounds_toArray, List.set_cons_zero, List.set_cons_succ]; exact rfl) ?_ ?_
      · skip
        refine Steps.cons (fun x wf Kk hq hdep hold => ?_) ?_
        · try dsimp only
          have h11 : x 11 = (.slice ao k cl) := hold 11 (by kernel_rfl)
          clear hq hdep hold
          simp only [h11]
          clear h11
          rw [if_pos (by rfl)]
          refine OpY.val (v := (.slice ao k cl)) ?_ ⟨Kept.refl _ _, rfl⟩
          first | rfl | go_simp
        refine Steps.cons (fun x wf Kk hq hdep hold => ?_) ?_
        · try dsimp only
          clear hq hdep hold
          rw [if_pos (by rfl)]
          refine OpY.val (v := (.int .i64 (m : Int))) ?_ ⟨Kept.refl _ _, rfl⟩
          first | rfl | go_simp
        refine Steps.cons (fun x wf Kk hq hdep hold => ?_) ?_
        · try dsimp only
          have h0 : x 0 = (.slice ao k cl) := hdep 0 (by kernel_rfl)
          have h1 : x 1 = (.int .i64 (m : Int)) := hdep 1 (by kernel_rfl)
          clear hq hdep hold
          simp only [h0, h1]
          clear h0 h1
          rw [if_pos (by rfl)]
          refine OpY.val (v := (.slice ao m cl)) ?_ ⟨Kept.refl _ _, rfl⟩
          first | rfl | go_simp
        refine Steps.cons (fun x wf Kk hq hdep hold => ?_) ?_
        · try dsimp only
          have h2 : x 2 = (.slice ao m cl) := hdep 2 (by kernel_rfl)
          clear hq hdep hold
          simp only [h2]
          clear h2
          rw [if_pos (by rfl)]
          refine OpY.append (.const (.slice none 0 0)) (.tmp 23) 28 _ rfl rfl 3 1 8 TInts (.slice none 0 0) 0 [] rfl (World.ownsRow_nil _ _ _ _) (.slice ao m cl) m (z1.map Z) rfl (show Rd wf 1 (.slice ao m cl) m (z1.map Z) from by have := R1.out.kept Kk.fresh.undrew; unfold RdZ at this; rwa [hl1.out] at this) (Z_one z1) (by have := hls.1; omega) (by omega) ?_
          intro v2 w2 h2 h3 h4 _
          have hk2 := Kept.ob_nil h3
          exact ⟨hk2, by rw [hl1.out]; simpa using h2, Kk.fresh.undrew.trans' hk2, (newOr_nilE h4).of Kk.fresh.undrew.size⟩
        refine Steps.cons (fun x wf Kk hq hdep hold => ?_) ?_
        · try dsimp only
          clear hq hdep hold
          rw [if_pos (by rfl)]
          refine OpY.val (v := (.int .i64 (k : Int))) ?_ ⟨Kept.refl _ _, rfl⟩
          first | rfl | go_simp
        refine Steps.cons (fun x wf Kk hq hdep hold => ?_) ?_
        · try dsimp only
          have h4 : x 4 = (.int .i64 (k : Int)) := hdep 4 (by kernel_rfl)
          clear hq hdep hold
          simp only [h4]
          clear h4
          rw [if_pos (by rfl)]
          refine OpY.build 28 3 1 _ rfl 1 (.int .i64 0) Tryd.underlying28 infZi (by decide) (by decide) [.int .i64 (k : Int)] [(0, .int .i64 (k : Int))] rfl (fill_rows 1 (by decide) (.int .i64 0) [.int .i64 (k : Int)] (fun v hv => by obtain rfl := List.mem_singleton.1 hv; rfl)) rfl (by decide) (fun w' hg kk ho => ⟨kk, own_RdZ (zs := [(k : Int)]) ho⟩)
        refine Steps.cons (fun x wf Kk hq hdep hold => ?_) ?_
        · try dsimp only
          have p3 : Pr.p (Sl := (fun _ => (fun j => w1.heap.size ≤ j))) (ExZ w1 z1) (x 3) wf := hdep 3 (by kernel_rfl)
          have p5 : Pr.p (Sl := (fun _ => (fun j => w1.heap.size ≤ j))) (OneZ (k : Int)) (x 5) wf := hdep 5 (by kernel_rfl)
          clear hq hdep hold
          rw [if_pos (by rfl)]
          have o1 := p3
          have e1 := hl1.out
          refine OpY.append (.tmp 24) (.tmp 26) 28 _ rfl rfl 3 1 8 TInts (x 3) _ _ rfl o1.own (x 5) 1 [.int .i64 (k : Int)] rfl (show Rd wf 1 (x 5) 1 [.int .i64 (k : Int)] from p5) (Z_one [(k : Int)]) (by rw [e1]; have := hls.1; omega) (by rw [e1]; omega) ?_
          intro v2 w2 h2 h3 h4 _
          exact ⟨h3.mono (fun j _ hj => o1.new.fr (Nat.le_refl _) j hj), o1.add _ h2 h3 h4⟩
        refine Steps.cons (fun x wf Kk hq hdep hold => ?_) ?_
        · try dsimp only
          have h11 : x 11 = (.slice ao k cl) := hold 11 (by kernel_rfl)
          clear hq hdep hold
          simp only [h11]
          clear h11
          rw [if_pos (by rfl)]
          refine OpY.val (v := (.slice ao k cl)) ?_ ⟨Kept.refl _ _, rfl⟩
          first | rfl | go_simp
        refine Steps.cons (fun x wf Kk hq hdep hold => ?_) ?_
        · try dsimp only
          clear hq hdep hold
          rw [if_pos (by rfl)]
          refine OpY.val (v := (.int .i64 (m : Int))) ?_ ⟨Kept.refl _ _, rfl⟩
          first | rfl | go_simp
        refine Steps.cons (fun x wf Kk hq hdep hold => ?_) ?_
        · try dsimp only
          have h7 : x 7 = (.slice ao k cl) := hdep 7 (by kernel_rfl)
          have h8 : x 8 = (.int .i64 (m : Int)) := hdep 8 (by kernel_rfl)
          clear hq hdep hold
          simp only [h7, h8]
          clear h7 h8
          rw [if_pos (by rfl)]
          refine OpY.val (v := (.slice ao2 km cl2)) ?_ ⟨Kept.refl _ _, rfl⟩
          first | rfl | go_simp
        refine Steps.cons (fun x wf Kk hq hdep hold => ?_) ?_
        · try dsimp only
          have p6 : Pr.p (Sl := (fun _ => (fun j => w1.heap.size ≤ j))) (ExZ w1 (z1 ++ [(k : Int)])) (x 6) wf := hdep 6 (by kernel_rfl)
          have h9 : x 9 = (.slice ao2 km cl2) := hdep 9 (by kernel_rfl)
          clear hq hdep hold
          simp only [h9]
          clear h9
          rw [if_pos (by rfl)]
          have o1 := p6
          have e1 : (z1 ++ [(k : Int)]).length = m + 1 := by rw [List.length_append, hl1.out]; rfl
          refine OpY.append (.tmp 27) (.tmp 30) 28 _ rfl rfl 3 1 8 TInts (x 6) _ _ rfl o1.own (.slice ao2 km cl2) km (z2.map Z) rfl (show Rd wf 1 (.slice ao2 km cl2) km (z2.map Z) from by have := R2.out.kept Kk.fresh.undrew; unfold RdZ at this; rwa [hl2.out] at this) (Z_one z2) (by rw [e1]; exact hls.1) (by rw [e1]; exact hls.2) ?_
          intro v2 w2 h2 h3 h4 _
          exact ⟨h3.mono (fun j _ hj => o1.new.fr (Nat.le_refl _) j hj), by rw [List.length_append, List.map_append, hl2.out]; exact h2, o1.new.kept o1.kept h3, o1.new.step h4 o1.kept.size⟩
        refine Steps.cons (fun x wf Kk hq hdep hold => ?_) ?_
        · try dsimp only
          have p10 : Pr.p (Sl := (fun _ => (fun j => w1.heap.size ≤ j))) (ExZ w1 (z1 ++ [(k : Int)] ++ z2)) (x 10) wf := hdep 10 (by kernel_rfl)
          clear hq hdep hold
          rw [if_pos (by rfl)]
          exact OpY.val (v := x 10) rfl ⟨Kept.refl _ _, p10⟩
        exact Steps.nil _
      · intro x wf Kk hv
        try dsimp only
        have h0 : x 0 = (.slice ao k cl) := hv 0 (by kernel_rfl)
        have h1 : x 1 = (.int .i64 (m : Int)) := hv 1 (by kernel_rfl)
        have h2 : x 2 = (.slice ao m cl) := hv 2 (by kernel_rfl)
        have h4 : x 4 = (.int .i64 (k : Int)) := hv 4 (by kernel_rfl)
        have h7 : x 7 = (.slice ao k cl) := hv 7 (by kernel_rfl)
        have h8 : x 8 = (.int .i64 (m : Int)) := hv 8 (by kernel_rfl)
        have h9 : x 9 = (.slice ao2 km cl2) := hv 9 (by kernel_rfl)
        have p11 : Pr.p (Sl := (fun _ => (fun j => w1.heap.size ≤ j))) (ExZ w1 (z1 ++ [(k : Int)] ++ z2)) (x 11) wf := hv 11 (by kernel_rfl)
        clear hv
        simp only [h0, h1, h2, h4, h7, h8, h9]
        clear h0 h1 h2 h4 h7 h8 h9
        obtain ⟨ys, hys⟩ : ∃ ys, z1 ++ [(k : Int)] ++ z2 = ys := ⟨_, rfl⟩
        have oy := p11
        rw [hys] at oy hpn
        have ey : ys.length = m + 1 + km := by rw [← hys, List.length_append, List.length_append, hl1.out, hl2.out]; rfl
        have hzl' : Hd (ys.length = k + 1) := ⟨by rw [ey, ← hkm.out]; omega⟩
        have hO' : Hd (OwZ w wf (x 11) ys) := ⟨oy.of_kept KW.out⟩
        generalize x 11 = v' at hO' ⊢
        clear ey oy hys KW Kk R1 R2 hl1 hl2 hsl1 hsl2 hO hzl hm hkm
        go_wp2
        go_roundw
        case rel => first | exact ⟨k + 1, _, ys, by omega, by go_num, rfl, hzl', hpn, hO'⟩ | ((repeat apply Exists.intro); exact ⟨⟨k + 1, _, ys, by omega, by go_num, rfl, hzl', hpn, hO'⟩, rfl⟩)
        case measure => simp [intOf]; omega
    · obtain rfl : k = n := by omega
      go_wp2
      go_ret
      exact ⟨_, zs, rfl, hzp.out, hO.out⟩
end Go.Proofs.YtggcbjchnefhfaaDoor.Pl
