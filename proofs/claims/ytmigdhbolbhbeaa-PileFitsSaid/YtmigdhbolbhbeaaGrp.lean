/- Lists of numbers, groups, ballots in memory. -/
import Derived.Test.YtmigdhbolbhbeaaProg
import Derived.Test.YtmigdhbolbhbeaaFlow2
import Derived.Test.YtmigdhbolbhbeaaPilN
import Derived.BigQuiet
import Derived.Deep.DeepCutAuto
import Derived.Laws.ResultCell
import Derived.Laws.MakeOwn
import Derived.Deep.MidRow
import Derived.StillTailTactics
import Derived.Deep.QuietTactic
namespace Go.Mk
open Go.RowKit
/-- Nothing but the tape's place has turned. -/
def Qt (w w' : World) : Prop := ∃ q, w' = w.drewN q
theorem Qt.refl (w : World) : Qt w w := ⟨0, rfl⟩
theorem Qt.drewN {w w' : World} (h : Qt w w') (n : Nat) : Qt w (w'.drewN n) := by obtain ⟨q, rfl⟩ := h; exact ⟨q + n, by rw [World.drewN_drewN]⟩
theorem Qt.trans {w w1 w2 : World} (h : Qt w w1) (h' : Qt w1 w2) : Qt w w2 := by obtain ⟨q, rfl⟩ := h'; exact h.drewN q
theorem Qt.kept {w w' : World} (h : Qt w w') : Kept no w w' := by obtain ⟨q, rfl⟩ := h; exact (Kept.refl no w).drewN q
theorem Qt.quiet {P : Program} {f : FuncId} {args : Array Value} {w : World} {v : Value} (h : ∀ W, Qt w W → Calls P f args W fun e w'' => e = .returned v ∧ Qt W w'') : ∀ n, Calls P f args (w.drewN n) fun e w'' => e = .returned v ∧ ∃ m, w'' = w.drewN m := fun n =>
  (h (w.drewN n) ⟨n, rfl⟩).mono fun _ _ ⟨h1, h2⟩ => ⟨h1, (Qt.trans ⟨n, rfl⟩ h2)⟩
def New (w : World) (v : Value) : Prop := v.ownBlock = none ∨ ∃ k, v.ownBlock = some k ∧ w.heap.size ≤ k
theorem New.step {w w1 : World} {v v' : Value} (h : New w v) (h' : NewOr w1 v v') (hs : w.heap.size ≤ w1.heap.size) : New w v' := by
  rcases h' with h' | ⟨k, h1, h2⟩
  · rcases h with h | ⟨k, h1, h2⟩
    · exact .inl (h'.trans h)
    · exact .inr ⟨k, h'.trans h1, h2⟩
  · exact .inr ⟨k, h1, by omega⟩
theorem New.kept {w w1 w' : World} {v : Value} (h : New w v) (hk : Kept no w w1) (hv : Kept (ob v) w1 w') : Kept no w w' :=
  hk.trans hv fun k hlt e => by
    rcases h with h | ⟨j, h1, h2⟩
    · rw [ob, h] at e; cases e
    · rw [ob, h1, Option.some.injEq] at e; omega
theorem New.fr {w : World} {v : Value} {B : Nat} (h : New w v) (hB : B ≤ w.heap.size) : ∀ k, v.ownBlock = some k → B ≤ k := fun k hk => by
  rcases h with h | ⟨j, h, hl⟩
  · rw [h] at hk; cases hk
  · rw [h] at hk; cases hk; omega
theorem frNew {w : World} {v : Value} (h : ∀ k, v.ownBlock = some k → w.heap.size ≤ k) : New w v := by
  cases hv : v.ownBlock with
  | none => exact .inl hv
  | some k => exact .inr ⟨k, hv, h k hv⟩
theorem New.of {w w1 : World} {v : Value} (h : New w1 v) (hs : w.heap.size ≤ w1.heap.size) : New w v := frNew fun k hk => h.fr hs k hk
theorem own_ne {w : World} {e t : TypeId} {size n : Nat} {v : Value} {xs : List Value} (h : w.ownsRow 0 e size v n xs) {g : Nat} {c : Array Value} {fr : Nat × Nat} (hg : w.heap[g]? = some (.cells c t fr)) (ht : e ≠ t) : ∀ j, v.ownBlock = some j → j ≠ g := fun j hj e => by
  obtain ⟨_, ⟨rfl, _⟩ | ⟨k, _, _, rfl, _, hk, _⟩⟩ := h
  · cases hj
  · have : k = j := by simpa [Value.ownBlock] using hj
    subst this e
    rw [hk] at hg
    simp only [Option.some.injEq, Obj.cells.injEq] at hg
    exact ht hg.2.1
theorem own_lt {w : World} {e : TypeId} {size n : Nat} {v : Value} {xs : List Value} (h : w.ownsRow 0 e size v n xs) : ∀ j, v.ownBlock = some j → j < w.heap.size := fun j hj => by
  obtain ⟨_, ⟨rfl, _⟩ | ⟨k, _, _, rfl, _, hk, _⟩⟩ := h
  · cases hj
  · have : k = j := by simpa [Value.ownBlock] using hj
    subst this
    exact (Array.getElem?_eq_some_iff.1 hk).1
/-- Two rows of different types lie apart. -/
theorem own_own {w : World} {e t : TypeId} {s1 s2 n m : Nat} {v u : Value} {xs ys : List Value} (h : w.ownsRow 0 e s1 v n xs) (h' : w.ownsRow 0 t s2 u m ys) (ht : e ≠ t) : ∀ j, v.ownBlock = some j → u.ownBlock = some j → False := fun j hv hu => by
  obtain ⟨_, ⟨rfl, _⟩ | ⟨k, _, c, rfl, _, hk, _⟩⟩ := h'
  · cases hu
  · have : k = j := by simpa [Value.ownBlock] using hu
    subst this
    exact own_ne h hk ht k hv rfl
theorem Kept.blk {w w' : World} (k : Kept no w w') {g : Nat} {o : Obj} (h : w.heap[g]? = some o) : w'.heap[g]? = some o := (k.block _ (Array.getElem?_eq_some_iff.1 h).1 id).trans h
theorem Kept.rng {w w' : World} (k : Kept no w w') {b o : Nat} {cs : List Value} (h : w.rangeAt b o cs) : w'.rangeAt b o cs := fun j u hu => k.cell (h j u hu) id
theorem row_free {w : World} {g : Nat} {c : Array Value} {t : TypeId} (h : w.heap[g]? = some (.cells c t (0, 0))) (j : Nat) : w.frozen? ⟨g, j, none⟩ = false := by
  simp [World.frozen?, h]
theorem lt_of_heap {w : World} {g : Nat} {o : Obj} (h : w.heap[g]? = some o) : g < w.heap.size := (Array.getElem?_eq_some_iff.1 h).1
section
variable {α : Type} {f : α → List Value} {sz : Nat} {ps : List α} {w : World} {ao : Option Addr} {n cap : Nat}
theorem flatLen (hf : ∀ x ∈ ps, (f x).length = sz) : (ps.flatMap f).length = ps.length * sz := by
  induction ps with
  | nil => simp
  | cons x ps ih => rw [List.flatMap_cons, List.length_append, hf x (by simp), ih fun y hy => hf y (by simp [hy]), List.length_cons, Nat.add_mul]; omega
theorem flatAt (hf : ∀ x ∈ ps, (f x).length = sz) (k j : Nat) (hk : k < ps.length) (hj : j < sz) : (ps.flatMap f)[k * sz + j]? = (f ps[k])[j]? := by
  induction ps generalizing k with
  | nil => simp at hk
  | cons x ps ih =>
    rw [List.flatMap_cons]
    have hl := hf x (by simp)
    match k with
    | 0 => rw [Nat.zero_mul, Nat.zero_add, List.getElem?_append_left (by omega)]; rfl
    | k + 1 =>
      rw [List.getElem?_append_right (by rw [hl, Nat.add_mul]; omega), hl, show (k + 1) * sz + j - sz = k * sz + j by rw [Nat.add_mul]; omega, ih (fun e he => hf e (by simp [he])) k (by simpa using hk)]
      rfl
theorem Rd.row (hf : ∀ x ∈ ps, (f x).length = sz) (h : Rd w sz (.slice ao n cap) ps.length (ps.flatMap f)) (k : Nat) (hk : k < ps.length) : ∃ b o, ao = some ⟨b, o, none⟩ ∧ w.rangeAt b (o + k * sz) (f ps[k]) := by
  obtain ⟨_, _, _, e, h1, _, h | ⟨b, o, rfl, hc⟩⟩ := h
  · cases e; omega
  · cases e
    refine ⟨b, o, rfl, fun j u hu => ?_⟩
    have hj : j < sz := by
      have := (List.getElem?_eq_some_iff.1 hu).1
      rwa [hf _ (List.getElem_mem hk)] at this
    rw [Nat.add_assoc]
    exact hc _ _ (by rw [flatAt hf k j hk hj]; exact hu)
theorem Rd.takeRows (hf : ∀ x ∈ ps, (f x).length = sz) (h : Rd w sz (.slice ao n cap) ps.length (ps.flatMap f)) (k : Nat) (hk : k ≤ ps.length) : Rd w sz (.slice ao k cap) (ps.take k).length ((ps.take k).flatMap f) := by
  obtain ⟨_, _, _, e, h1, h2, h3⟩ := h
  cases e
  have hl : (ps.take k).length = k := by rw [List.length_take]; omega
  refine ⟨flatLen fun x hx => hf x (List.mem_of_mem_take hx), ao, cap, by rw [hl], by omega, h2, h3.imp id fun ⟨b, o, e, hc⟩ => ⟨b, o, e, fun j u hj => hc j u ?_⟩⟩
  have hlt := (List.getElem?_eq_some_iff.1 hj).1
  have hs : ps.flatMap f = (ps.take k).flatMap f ++ (ps.drop k).flatMap f := by rw [← List.flatMap_append, List.take_append_drop]
  rw [hs, List.getElem?_append_left hlt]; exact hj
end
theorem Rd.shapeZ {w : World} {size n : Nat} {v : Value} {xs : List Value} (h : Rd w size v n xs) : ∃ ao cap, v = .slice ao n cap := by
  obtain ⟨_, ao, cap, h, _⟩ := h; exact ⟨ao, cap, h⟩
theorem Rd.shape2 {w : World} {size n : Nat} {v : Value} {xs : List Value} (h : Rd w size v n xs) : ∃ ao cap, v = .slice ao n cap ∧ n ≤ cap ∧ cap ≤ maxLen := by
  obtain ⟨_, ao, cap, h, h1, h2, _⟩ := h; exact ⟨ao, cap, h, h1, h2⟩
theorem nil_rd (w : World) (size : Nat) : Rd w size (.slice none 0 0) 0 [] := ⟨by simp, none, 0, rfl, Nat.le_refl _, Nat.zero_le _, .inl rfl⟩
end Go.Mk
namespace Go.Proofs.Ytmigdhbolbhbeaa
open Go.RowKit Go.Mk Go.Pil
def Z (z : Int) : Value := .int .i64 z
def RdZ (w : World) (v : Value) (zs : List Int) : Prop := Rd w 1 v zs.length (zs.map Z)
theorem RdZ.kept {w w' : World} {v : Value} {zs : List Int} (h : RdZ w v zs) (hk : Kept no w w') : RdZ w' v zs := Rd.keptNo h hk
theorem Z_one (zs : List Int) : ∀ u ∈ zs.map Z, u.oneCell' = true := fun u hu => by
  obtain ⟨z, _, rfl⟩ := List.mem_map.1 hu; rfl
theorem RdZ.at {w : World} {ao : Option Addr} {n cap : Nat} {zs : List Int} (h : RdZ w (.slice ao n cap) zs) (k : Nat) (hk : k < zs.length) :
    ∃ b o, ao = some ⟨b, o, none⟩ ∧ w.cell? ⟨b, o + k, none⟩ = some (.int .i64 (zs.getD k 0)) := by
  obtain ⟨_, _, _, e, h1, _, h | ⟨b, o, rfl, hc⟩⟩ := h
  · cases e; omega
  · cases e
    exact ⟨b, o, rfl, hc k _ (by simp [hk, Z])⟩
theorem RdZ.take {w : World} {ao : Option Addr} {n cap : Nat} {zs : List Int} (h : RdZ w (.slice ao n cap) zs) (k : Nat) (hk : k ≤ zs.length) : RdZ w (.slice ao k cap) (zs.take k) := by
  obtain ⟨hl, _, _, e, h1, h2, h3⟩ := h
  cases e
  have hlk : (zs.take k).length = k := by rw [List.length_take]; omega
  refine ⟨by simp, ao, cap, by rw [hlk], by omega, h2, h3.imp id fun ⟨b, o, e, hc⟩ => ⟨b, o, e, fun j u hj => hc j u ?_⟩⟩
  rw [List.map_take, List.getElem?_take] at hj
  split at hj
  · exact hj
  · cases hj
theorem own_RdZ {w : World} {v : Value} {zs : List Int} (h : w.ownsRow 0 3 1 v zs.length (zs.map Z)) : RdZ w v zs := Rd.of_own h
/-- A group: where its preferences lie, and its number. -/
def grpC (x : Grp × Value) : List Value := [x.2, .int .i64 x.1.n]
def flatG (ps : List (Grp × Value)) : List Value := ps.flatMap grpC
def grps (ps : List (Grp × Value)) : List Grp := ps.map (·.1)
theorem grps_length (ps : List (Grp × Value)) : (grps ps).length = ps.length := by simp [grps]
def RdG (w : World) (v : Value) (ps : List (Grp × Value)) : Prop := (∀ x ∈ ps, RdZ w x.2 x.1.p) ∧ Rd w 2 v ps.length (flatG ps)
theorem RdG.kept {w w' : World} {v : Value} {ps : List (Grp × Value)} (h : RdG w v ps) (k : Kept no w w') : RdG w' v ps := ⟨fun x hx => (h.1 x hx).kept k, h.2.keptNo k⟩
theorem RdG.at {w : World} {ao : Option Addr} {n cap : Nat} {ps : List (Grp × Value)} (h : RdG w (.slice ao n cap) ps) (k : Nat) (hk : k < ps.length) :
    ∃ b o g v, ao = some ⟨b, o, none⟩ ∧ ps[k] = (g, v) ∧ w.cell? ⟨b, o + k * 2, none⟩ = some v ∧ w.cell? ⟨b, o + k * 2 + 1, none⟩ = some (.int .i64 g.n) ∧ RdZ w v g.p := by
  obtain ⟨b, o, e, hr⟩ := Rd.row (f := grpC) (sz := 2) (fun _ _ => rfl) h.2 k hk
  exact ⟨b, o, _, _, e, rfl, hr 0 _ rfl, hr 1 _ rfl, h.1 _ (List.getElem_mem hk)⟩
theorem RdG.shape {w : World} {v : Value} {ps : List (Grp × Value)} (h : RdG w v ps) : ∃ ao cap, v = .slice ao ps.length cap ∧ ps.length ≤ cap ∧ cap ≤ maxLen := h.2.shape2
/-- Ballots: where each lies. -/
def RdB (w : World) (v : Value) (bs : List (List Int × Value)) : Prop := (∀ x ∈ bs, RdZ w x.2 x.1) ∧ Rd w 1 v bs.length (bs.map (·.2))
theorem RdB.kept {w w' : World} {v : Value} {bs : List (List Int × Value)} (h : RdB w v bs) (k : Kept no w w') : RdB w' v bs := ⟨fun x hx => (h.1 x hx).kept k, h.2.keptNo k⟩
theorem RdB.at {w : World} {ao : Option Addr} {n cap : Nat} {bs : List (List Int × Value)} (h : RdB w (.slice ao n cap) bs) (k : Nat) (hk : k < bs.length) :
    ∃ b o x v, ao = some ⟨b, o, none⟩ ∧ bs[k] = (x, v) ∧ w.cell? ⟨b, o + k, none⟩ = some v ∧ RdZ w v x := by
  obtain ⟨hl, _, _, e, h1, _, h0 | ⟨b, o, rfl, hc⟩⟩ := h.2
  · cases e; omega
  · cases e
    exact ⟨b, o, _, _, rfl, rfl, hc k _ (by simp [hk]), h.1 _ (List.getElem_mem hk)⟩
theorem TInts : ElemT Try.prog 36 3 1 8 := .mk' (z := .int .i64 0) (by kernel_rfl) (by kernel_rfl) (by kernel_rfl) (by decide)
theorem TGrps : ElemT Try.prog 27 67 2 32 := .mk' (z := .agg #[.slice none 0 0, .int .i64 0]) (by kernel_rfl) (by kernel_rfl) (by kernel_rfl) (by decide)
theorem TBals : ElemT Try.prog 22 36 1 24 := .mk' (z := .slice none 0 0) (by kernel_rfl) (by kernel_rfl) (by kernel_rfl) (by decide)
theorem maxLen_63 : maxLen ≤ 9223372036854775807 := by unfold maxLen; omega
end Go.Proofs.Ytmigdhbolbhbeaa
