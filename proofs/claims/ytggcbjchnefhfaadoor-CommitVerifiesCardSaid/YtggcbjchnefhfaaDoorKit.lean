/- Small words for walks: what a call keeps, slices that can be read, an append whose new place is known. -/
import Derived.WalkKit
import Derived.WalkSpells
import Derived.WalkLawsBesides
namespace Go.Mk
open Go.RowKit

/-- A fact behind a wall: no tactic of the walk looks into it. -/
structure Hd (p : Prop) : Prop where
  out : p
theorem hid {p : Prop} (h : p) : Hd p := ⟨h⟩

/-- Outside the blocks S nothing that was there has turned. -/
structure Kept (S : Nat → Prop) (w w' : World) : Prop where
  os : w'.os = w.os
  tape : w'.tape = w.tape
  output : w'.output = w.output
  size : w.heap.size ≤ w'.heap.size
  block : ∀ k, k < w.heap.size → ¬ S k → w'.heap[k]? = w.heap[k]?

def no : Nat → Prop := fun _ => False
def ob (v : Value) : Nat → Prop := fun k => v.ownBlock = some k

section
variable {S S' : Nat → Prop} {w w1 w' : World}

theorem Kept.refl (S : Nat → Prop) (w : World) : Kept S w w := ⟨rfl, rfl, rfl, Nat.le_refl _, fun _ _ _ => rfl⟩
theorem Kept.mono (h : Kept S w w') (hs : ∀ k, k < w.heap.size → S k → S' k) : Kept S' w w' := ⟨h.os, h.tape, h.output, h.size, fun k hk hn => h.block k hk fun s => hn (hs k hk s)⟩
theorem Kept.of_no (h : Kept no w w') : Kept S w w' := h.mono fun _ _ hf => hf.elim
theorem Kept.trans (h : Kept S w w1) (h' : Kept S' w1 w') (hs : ∀ k, k < w.heap.size → S' k → S k) : Kept S w w' :=
  ⟨h'.os.trans h.os, h'.tape.trans h.tape, h'.output.trans h.output, Nat.le_trans h.size h'.size, fun k hk hn => (h'.block k (Nat.lt_of_lt_of_le hk h.size) fun s => hn (hs k hk s)).trans (h.block k hk hn)⟩
theorem Kept.trans' (h : Kept S w w1) (h' : Kept no w1 w') : Kept S w w' := h.trans h' fun _ _ f => f.elim
theorem Kept.alloc (h : Kept S w w1) (o : Obj) : Kept S w (w1.alloc o) := h.trans' ⟨rfl, rfl, rfl, by show _ ≤ (w1.heap.push o).size; simp, fun k hk _ => Below.heap_alloc w1 o k hk⟩
theorem Kept.drew (h : Kept S w w1) : Kept S w w1.drew := ⟨h.os, h.tape, h.output, h.size, h.block⟩
theorem Kept.drewN (h : Kept S w w1) (n : Nat) : Kept S w (w1.drewN n) := ⟨h.os, h.tape, h.output, h.size, h.block⟩
theorem Kept.setCell (h : Kept S w w1) {a : Addr} (ha : S a.block ∨ w.heap.size ≤ a.block) (u : Value) : Kept S w (w1.setCell a u) :=
  h.trans (S' := fun k => k = a.block) ⟨rfl, rfl, rfl, by simp [World.setCell], fun k _ hne => Below.heap_setCell w1 a u k hne⟩ fun k hk e => by
    subst e; rcases ha with h | h; exact h; omega
theorem Kept.setRow (h : Kept S w w1) {g : Nat} (hg : S g ∨ w.heap.size ≤ g) (c : Array Value) : Kept S w (w1.setRow g c) :=
  h.trans (S' := fun k => k = g) ⟨rfl, rfl, rfl, by simp, fun k _ hne => setRow_other w1 g k c hne⟩ fun k hk e => by
    subst e; rcases hg with h | h; exact h; omega
theorem Kept.of_below (h : Below w.heap.size w w') : Kept no w w' := ⟨h.os, h.tape, h.output, h.size, fun k hk _ => h.block k hk⟩
theorem Kept.below (h : Kept no w w') : Below w.heap.size w w' := ⟨h.os, h.tape, h.output, h.size, fun k hk => h.block k hk id⟩
theorem Kept.belowB (h : Kept S w w') {B : Nat} (hB : B ≤ w.heap.size) (hS : ∀ k, S k → B ≤ k) : Below B w w' :=
  ⟨h.os, h.tape, h.output, h.size, fun k hk => h.block k (by omega) fun s => by have := hS k s; omega⟩
theorem Kept.of_grown {row : Option Nat} (h : w.grownBy w' row) : Kept (fun k => row = some k) w w' := ⟨h.os, h.tape, h.output, h.size, fun k hk hn => h.block k hk fun e => hn e.symm⟩

theorem lt_of_cell {a : Addr} {u : Value} (h : w.cell? a = some u) : a.block < w.heap.size := by
  unfold World.cell? at h
  split at h
  · rename_i e; exact (Array.getElem?_eq_some_iff.1 e).1
  · cases h
theorem Kept.cell (h : Kept S w w') {a : Addr} {u : Value} (hc : w.cell? a = some u) (hn : ¬ S a.block) : w'.cell? a = some u := by
  rw [World.cell?_of_block (h.block a.block (lt_of_cell hc) hn)]; exact hc
theorem Kept.frozen (h : Kept S w w') {a : Addr} (hl : a.block < w.heap.size) (hn : ¬ S a.block) : w'.frozen? a = w.frozen? a :=
  World.frozen?_of_block (h.block a.block hl hn)
theorem Kept.ownsRow (h : Kept S w w') {e : TypeId} {base size n : Nat} {v : Value} {xs : List Value} (ho : w.ownsRow base e size v n xs) (hn : ∀ k, v.ownBlock = some k → ¬ S k) : w'.ownsRow base e size v n xs := by
  obtain ⟨h1, h2 | ⟨g, cap, cur, rfl, hb, hg, r⟩⟩ := ho
  · exact ⟨h1, .inl h2⟩
  · exact ⟨h1, .inr ⟨g, cap, cur, rfl, hb, (h.block g (Array.getElem?_eq_some_iff.1 hg).1 (hn g rfl)).trans hg, r⟩⟩
theorem ownsRow_base {e : TypeId} {base size n : Nat} {v : Value} {xs : List Value} (ho : w.ownsRow base e size v n xs) : w.ownsRow 0 e size v n xs := by
  obtain ⟨h1, h2 | ⟨g, cap, cur, rfl, hb, r⟩⟩ := ho
  · exact ⟨h1, .inl h2⟩
  · exact ⟨h1, .inr ⟨g, cap, cur, rfl, Nat.zero_le _, r⟩⟩
end

/-- The slice lies where v lay, or in new memory, or holds nothing. -/
def NewOr (w : World) (v v' : Value) : Prop := v'.ownBlock = v.ownBlock ∨ ∃ k, v'.ownBlock = some k ∧ w.heap.size ≤ k
theorem NewOr.refl (w : World) (v : Value) : NewOr w v v := .inl rfl
theorem NewOr.trans {w w1 : World} {v v1 v' : Value} (h : NewOr w v v1) (h' : NewOr w1 v1 v') (hs : w.heap.size ≤ w1.heap.size) : NewOr w v v' := by
  rcases h' with h' | ⟨k, hk, hl⟩
  · rcases h with h | ⟨k, hk, hl⟩
    · exact .inl (h'.trans h)
    · exact .inr ⟨k, h'.trans hk, hl⟩
  · exact .inr ⟨k, hk, by omega⟩
/-- One step more of appending to one row. -/
theorem Kept.step {w w1 w' : World} {v v1 : Value} (h : Kept (ob v) w w1) (hn : NewOr w v v1) (h' : Kept (ob v1) w1 w') : Kept (ob v) w w' :=
  h.trans h' fun k hk e => by
    rcases hn with hn | ⟨j, hj, hl⟩
    · exact hn.symm.trans e
    · have : j = k := by have := hj.symm.trans e; simpa using this
      omega

/-- New blocks at a call's head: the world gets a name, and what it holds is handed over. -/
theorem Calls.new1 {P : Program} {f : FuncId} {args : Array Value} {R : Ending → World → Prop} (w : World) (c : Array Value) (t : TypeId)
    (h : ∀ w1, w1.heap[w.heap.size]? = some (.cells c t (0, 0)) → Kept no w w1 → w1.heap.size = w.heap.size + 1 → Calls P f args w1 R) : Calls P f args (w.alloc (.cells c t)) R :=
  h _ (heap_alloc_new w _) ((Kept.refl no w).alloc _) (by simp)
theorem Calls.new2 {P : Program} {f : FuncId} {args : Array Value} {R : Ending → World → Prop} (w : World) (c : Array Value) (t : TypeId) (c' : Array Value) (t' : TypeId)
    (h : ∀ w1, w1.heap[w.heap.size]? = some (.cells c t (0, 0)) → w1.heap[w.heap.size + 1]? = some (.cells c' t' (0, 0)) → Kept no w w1 → w1.heap.size = w.heap.size + 2 → Calls P f args w1 R) :
    Calls P f args ((w.alloc (.cells c t)).alloc (.cells c' t')) R :=
  h _ (by rw [Below.heap_alloc _ _ _ (by simp)]; exact heap_alloc_new w _) (by rw [← World.size_alloc (w := w) (o := .cells c t)]; exact heap_alloc_new _ _) (((Kept.refl no w).alloc _).alloc _) (by simp)
/-- A slice of n elements (size cells each) whose cells read as xs. -/
def Rd (w : World) (size : Nat) (v : Value) (n : Nat) (xs : List Value) : Prop :=
  xs.length = n * size ∧ ∃ ao cap, v = .slice ao n cap ∧ n ≤ cap ∧ cap ≤ maxLen ∧ (cap = 0 ∨ ∃ b o, ao = some ⟨b, o, none⟩ ∧ ∀ j u, xs[j]? = some u → w.cell? ⟨b, o + j, none⟩ = some u)

theorem Rd.of_own {w : World} {base size n : Nat} {e : TypeId} {v : Value} {xs : List Value} (h : w.ownsRow base e size v n xs) : Rd w size v n xs := by
  obtain ⟨h1, ⟨rfl, rfl⟩ | ⟨g, cap, cur, rfl, hb, hg, hnc, hcm, hcs, ht⟩⟩ := h
  · exact ⟨h1, none, 0, rfl, Nat.le_refl _, Nat.zero_le _, .inl rfl⟩
  · refine ⟨h1, some ⟨g, 0, none⟩, cap, rfl, hnc, hcm, .inr ⟨g, 0, rfl, fun j u hu => ?_⟩⟩
    rw [cell_of_row w g (0 + j) cur e (0, 0) hg, Nat.zero_add]
    rw [← ht, List.getElem?_take] at hu
    split at hu
    · simpa using hu
    · cases hu
theorem Rd.kept {S : Nat → Prop} {w w' : World} {size n : Nat} {v : Value} {xs : List Value} (h : Rd w size v n xs) (hk : Kept S w w') (hn : ∀ k, v.ownBlock = some k → ¬ S k) : Rd w' size v n xs := by
  obtain ⟨h1, ao, cap, rfl, h2, h3, h4 | ⟨b, o, rfl, hc⟩⟩ := h
  · exact ⟨h1, ao, cap, rfl, h2, h3, .inl h4⟩
  · exact ⟨h1, _, cap, rfl, h2, h3, .inr ⟨b, o, rfl, fun j u hu => hk.cell (hc j u hu) (hn b rfl)⟩⟩
theorem Rd.keptNo {w w' : World} {size n : Nat} {v : Value} {xs : List Value} (h : Rd w size v n xs) (hk : Kept no w w') : Rd w' size v n xs := h.kept hk fun _ _ => id
theorem Rd.alloc {w : World} {size n : Nat} {v : Value} {xs : List Value} (h : Rd w size v n xs) (o : Obj) : Rd (w.alloc o) size v n xs := h.keptNo ((Kept.refl no w).alloc o)

/-- The slice type t over e, of size cells and bytes bytes an element. -/
structure ElemT (P : Program) (t e : TypeId) (size bytes : Nat) : Prop where
  under : P.underlying t = some (.slice e)
  info : ∃ i z, P.info? e = some i ∧ i.zero = some z ∧ i.size = size ∧ i.bytes = bytes ∧ z.cells.size = size
  pos : 0 < size

theorem ElemT.mk' {P : Program} {t e : TypeId} {z : Value} {size bytes : Nat} (h : P.underlying t = some (.slice e)) (hi : (P.info? e).map (fun i => (i.zero, i.size, i.bytes)) = some (some z, size, bytes))
    (hz : z.cells.size = size) (hp : 0 < size) : ElemT P t e size bytes := by
  obtain ⟨i, h1, h2, h3, h4⟩ := info_parts hi
  exact ⟨h, ⟨i, z, h1, h2, h3, h4, hz⟩, hp⟩

/-- append of m elements whose cells can be read at an address. -/
theorem run_append {P : Program} (w : World) (t ty e : TypeId) (size bytes : Nat) (T : ElemT P t e size bytes) (v : Value) (n : Nat) (xs : List Value) (hown : w.ownsRow 0 e size v n xs)
    (x : Value) (m : Nat) (news : List Value) (hx : Rd w size x m news) (h1 : ∀ u ∈ news, u.oneCell' = true)
    (h63 : n + m ≤ maxLen) (hbytes : (n + m) * bytes ≤ 140737488355328) :
    ∃ v' w', (Builtin.append_ #[t, t] ty #[v, x]).run P w = .ok v' w' ∧ w'.ownsRow 0 e size v' (n + m) (xs ++ news) ∧ Kept (ob v) w w' ∧ NewOr w v v' ∧ (v' = .slice none 0 0 ↔ v = .slice none 0 0 ∧ m = 0) := by
  obtain ⟨ht, ⟨i, z, hi, hz, rfl, rfl, hzs⟩, hpos⟩ := T
  obtain ⟨hl, ao, c, rfl, hmc, hcm, rfl | ⟨b, o, rfl, hc⟩⟩ := hx
  · have hm : m = 0 := by omega
    subst hm
    have hn : news = [] := List.eq_nil_of_length_eq_zero (by simpa using hl)
    subst hn
    obtain ⟨w', hr, ho', hg⟩ : ∃ w', (Builtin.append_ #[t, t] ty #[v, .slice ao 0 0]).run P w = .ok v w' ∧ w'.ownsRow 0 e i.size v n xs ∧ Kept no w w' := by
      obtain ⟨h1, ⟨rfl, rfl⟩ | ⟨g, cap, cur, rfl, hb, hg, hnc, hcm, hcs, htk⟩⟩ := hown
      · refine ⟨w, ?_, ⟨h1, .inl ⟨rfl, rfl⟩⟩, Kept.refl _ _⟩
        cases ao <;> simp [Builtin.append_, run_underlying ht, sizeOf, typeInfo, hi, Builtin.lenOf, Builtin.firstCells, loadCells, loadCellsFrom]
      · refine ⟨w, ?_, ⟨h1, .inr ⟨g, cap, cur, rfl, hb, hg, hnc, hcm, hcs, htk⟩⟩, Kept.refl _ _⟩
        cases ao <;> simp [Builtin.append_, run_underlying ht, sizeOf, typeInfo, hi, Builtin.lenOf, Builtin.firstCells, loadCells, loadCellsFrom, hnc, storeCells]
    exact ⟨v, w', hr, by simpa using ho', hg.of_no, .inl rfl, by simp⟩
  · have hadd : ∀ j u, news[j]? = some u → w.cell? ((⟨b, o, none⟩ : Addr).add j) = some u := fun j u hu => by
      have := hc j u hu
      unfold Addr.add
      split
      · rename_i e0; subst e0; simpa using this
      · exact this
    have hlen : (xs ++ news).length = (n + m) * i.size := by rw [List.length_append, hown.1, hl, Nat.add_mul]
    have hsmall : n + m ≤ 9223372036854775807 := by simp only [maxLen] at h63; omega
    have grown : ∀ (old : Nat),
        (w.drew.alloc (.cells (xs.toArray ++ news.toArray ++ Builtin.zeroCells z.cells (grownCap w (n + m) old e - (n + m))) e)).ownsRow 0 e i.size
          (.slice (some ⟨w.heap.size, 0, none⟩) (n + m) (grownCap w (n + m) old e)) (n + m) (xs ++ news) := by
      intro old
      have hge := grownCap_ge w (n + m) old e
      have hcm : grownCap w (n + m) old e ≤ maxLen := grownCap_le_maxLen w (n + m) old e h63
      refine ⟨hlen, .inr ⟨w.heap.size, _, _, rfl, Nat.zero_le _, heap_alloc_new w.drew _, hge, hcm, ?_, ?_⟩⟩
      · simp only [Array.size_append, List.size_toArray, size_zeroCells, hzs, hown.1, hl, ← Nat.add_mul]
        congr 1
        omega
      · simp only [Array.toList_append, List.append_assoc]
        rw [← List.append_assoc, ← hlen]
        exact List.take_left
    obtain ⟨hxl, ⟨rfl, rfl⟩ | ⟨g, cap, cur, rfl, hb, hg, hnc, hcm', hcs, htk⟩⟩ := id hown
    · have hx0 : xs = [] := List.eq_nil_of_length_eq_zero (by simpa using hxl)
      subst hx0
      by_cases hm : m = 0
      · subst hm
        have hn : news = [] := List.eq_nil_of_length_eq_zero (by simpa using hl)
        subst hn
        refine ⟨.slice none 0 0, w, ?_, by simpa using hown, Kept.refl _ _, .inl rfl, by simp⟩
        simp [Builtin.append_, run_underlying ht, sizeOf, typeInfo, hi, Builtin.lenOf, Builtin.firstCells, loadCells, loadCellsFrom]
      · have hr := run_append_nil (P := P) w t ty e i z ht hi hz ⟨b, o, none⟩ m c news hl hadd (by omega) (by omega) (by have hb := hbytes; simp only [Nat.zero_add] at hb; omega)
        have hgr := grown 0
        simp only [Nat.zero_add, List.nil_append, Array.empty_append] at hgr ⊢
        exact ⟨_, _, hr, hgr, (Kept.refl _ w).drew.alloc _, .inr ⟨_, rfl, Nat.le_refl _⟩, by simp [hm]⟩
    · by_cases hroom : n + m ≤ cap
      · have hfit : n * i.size + news.length ≤ cur.size := by rw [hl, hcs, ← Nat.add_mul]; exact Nat.mul_le_mul_right _ hroom
        have hr := run_append_room (P := P) w t ty e i ht hi g n cap cur hg ⟨b, o, none⟩ m c news hl hadd h1 hroom hfit
        refine ⟨_, _, hr, ⟨hlen, .inr ⟨g, cap, _, rfl, hb, setRow_heap w g cur _ e _ hg, hroom, hcm', ?_, ?_⟩⟩, ⟨rfl, rfl, rfl, by simp [World.setRow], fun k hk hn => setRow_other w g k _ (fun e => hn (by simp [ob, Value.ownBlock, e]))⟩, .inl rfl, by simp⟩
        · simp only [List.size_toArray, List.length_append, List.length_take, List.length_drop, Array.length_toList]
          omega
        · rw [htk, ← hlen]
          exact List.take_left
      · have hr := run_append_grow (P := P) w t ty e i z ht hi hz ⟨g, 0, none⟩ n cap xs hxl (hown.cells (g := g) rfl) ⟨b, o, none⟩ m c news hl hadd (by omega) (by omega) (growslice_fits (by omega) hbytes)
        exact ⟨_, _, hr, grown cap, (Kept.refl _ w).drew.alloc _, .inr ⟨_, rfl, Nat.le_refl _⟩, by simp⟩

theorem wpList_append {P : Program} (w : World) {ops : Array Oper} {rest : List Oper} {o : Oper} {a : Act} {Q : Exit → Act → World → Prop} (hgd : o.guard = none) (s x : Operand) (t : TypeId)
    (ho : o.op = .call { callee := .builtin .append, args := #[s, x], argTypes := #[t, t] }) (e : TypeId) (size bytes : Nat) (T : ElemT P t e size bytes)
    (v : Value) (n : Nat) (xs : List Value) (hs : a.eval s = v) (hown : w.ownsRow 0 e size v n xs)
    (y : Value) (m : Nat) (news : List Value) (hx : a.eval x = y) (hy : Rd w size y m news) (h1 : ∀ u ∈ news, u.oneCell' = true)
    (h63 : n + m ≤ maxLen) (hbytes : (n + m) * bytes ≤ 140737488355328)
    (h : ∀ v' w', w'.ownsRow 0 e size v' (n + m) (xs ++ news) → Kept (ob v) w w' → NewOr w v v' → (v' = .slice none 0 0 ↔ v = .slice none 0 0 ∧ m = 0) → wpList P ops Q rest (a.put o.dst v') w') : wpList P ops Q (o :: rest) a w := by
  obtain ⟨v', w', hr, h2, h3, h4, h5⟩ := run_append (P := P) w t o.type e size bytes T v n xs hown y m news hy h1 h63 hbytes
  refine wpList_plain hgd fun K hK => ?_
  unfold Oper.wp execOp
  simp only [ho, resolve, invoke, builtin, Sem.run_bind, Sem.run_pure, Result.andThen_ok, List.map_toArray, List.map_cons, List.map_nil, hs, hx, hr]
  exact hK _ _ (h v' w' h2 h3 h4 h5)

/-- append(out, a, b ..): the new elements stand in the block that was just laid. -/
theorem wpList_append_lit {P : Program} (w : World) {ops : Array Oper} {rest : List Oper} {o : Oper} {a : Act} {Q : Exit → Act → World → Prop} (hgd : o.guard = none) (s x : Operand) (t : TypeId)
    (ho : o.op = .call { callee := .builtin .append, args := #[s, x], argTypes := #[t, t] }) (e : TypeId) (size bytes : Nat) (T : ElemT P t e size bytes)
    (v : Value) (n : Nat) (xs : List Value) (hs : a.eval s = v) (hown : w.ownsRow 0 e size v n xs)
    (m : Nat) (news : List Value) (hx : a.eval x = .slice (some ⟨w.heap.size, 0, none⟩) m m) (hl : news.length = m * size) (h1 : ∀ u ∈ news, u.oneCell' = true)
    (h63 : n + m ≤ maxLen) (hbytes : (n + m) * bytes ≤ 140737488355328)
    (h : ∀ v' w', w'.ownsRow 0 e size v' (n + m) (xs ++ news) → Kept (ob v) w w' → NewOr w v v' → v' ≠ .slice none 0 0 ∨ m = 0 → wpList P ops Q rest (a.put o.dst v') w') : wpList P ops Q (o :: rest) a (w.alloc (.cells news.toArray e)) := by
  have K0 : Kept no w (w.alloc (.cells news.toArray e)) := (Kept.refl no w).alloc _
  refine wpList_append (w.alloc (.cells news.toArray e)) hgd s x t ho e size bytes T v n xs hs (K0.ownsRow hown fun _ _ => id) _ m news hx ?_ h1 h63 hbytes fun v' w' h2 h3 h4 h5 => ?_
  · refine ⟨hl, _, m, rfl, Nat.le_refl _, by omega, .inr ⟨_, 0, rfl, fun j u hu => ?_⟩⟩
    rw [cell_of_row _ w.heap.size (0 + j) news.toArray e (0, 0) (heap_alloc_new w _)]
    simpa using hu
  · refine h v' w' h2 ?_ ?_ ?_
    · exact (K0.of_no (S := ob v)).trans h3 fun _ _ x => x
    · rcases h4 with h4 | ⟨k, hk, hlt⟩
      · exact .inl h4
      · exact .inr ⟨k, hk, by rw [World.size_alloc] at hlt; omega⟩
    · by_cases hm : m = 0
      · exact .inr hm
      · exact .inl fun e => hm (h5.1 e).2
end Go.Mk
