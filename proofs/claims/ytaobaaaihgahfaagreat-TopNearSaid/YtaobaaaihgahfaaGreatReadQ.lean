/- Rows of any number of arguments: opened and closed (printed by gen_trod.py). -/
import Derived.Carry
import Derived.ChangeShapes
import Derived.WalkKit
import Derived.Test.YtaobaaaihgahfaaGreatGrpQ
import Derived.Test.YtaobaaaihgahfaaGreatAddQ
import Derived.Test.YtaobaaaihgahfaaGreatRows
import Derived.ProofKit
import Derived.OpenShut
import Derived.Deep.DeepHandedRow
import Derived.Deep.Slices
import Derived.ChangeSame
import Derived.ChangeArms
import Derived.Test.YtaobaaaihgahfaaGreatTwoQ
import Derived.Lib.SmallJoins
namespace Go.Mk
open Go.ChangeShapes Go.RowKit
section
variable {H : Type} {enc : TypeId × Value → H} {P : Program} {w : World} {base : Nat} {spare : Nat → Bool} {held : Bool}
theorem trAll1 {t0 : TypeId} {args : Array Value} {ds : List (DataW H)} {ps : List MemPlace} (h : DataW.TrodAll enc P w base spare held [t0] args.toList ds ps) :
    ∃ v0 d0 p0, args = #[v0] ∧ ds = [d0] ∧ ps = p0 ∧ DataW.Trod enc P w base spare held t0 v0 d0 p0 := by
  (obtain ⟨v0, vs0, d0, ds0, p0, q0, hargs, rfl, rfl, h0, hr0⟩ := trodAll_cons h); (obtain ⟨rfl, rfl, rfl⟩ := trodAll_nil hr0); (exact ⟨v0, d0, p0, by rw [← Array.toList_inj, hargs], rfl, by simp, h0⟩)
theorem trMk1 {t0 : TypeId} {v0 : Value} {d0 : DataW H} {p0 : List MemPlace} (h0 : DataW.Trod enc P w base spare held t0 v0 d0 p0) : DataW.TrodAll enc P w base spare held [t0] [v0] [d0] (p0) :=
  trodAll_mk1 h0
end
end Go.Mk

/- What a row's data say of numbers, ballots, groups, flags; the rows' world (no package variables are laid). -/
namespace Go.Proofs.YtaobaaaihgahfaaGreat
open Go.ChangeShapes Go.WideShapes Go.ChangeAt Go.RowKit Go.Mk Go.Deep Go.Pil
theorem own : ownKnob Tryz.prog.godebug = none := by kernel_rfl
theorem maxLen_eq : maxLen = 9223372036854775807 := rfl
noncomputable def laidWorld0 (os : Os) : World := World.holding Tryz.prog os ⟨#[], #[], []⟩
theorem plain_addr {w : World} {a : Addr} {v : Value} (h : w.cell? a = some v) : a = ⟨a.block, a.off, none⟩ := by
  obtain ⟨b, o, sp⟩ := a
  cases sp with
  | none => rfl
  | some s =>
    unfold World.cell? at h
    split at h
    · simp at h
    · cases h
theorem flat_len {f : Nat → List Value} {n sz : Nat} (hf : ∀ i, i < n → (f i).length = sz) : ((List.range n).flatMap f).length = n * sz := by
  induction n with
  | zero => simp
  | succ n ih => rw [List.range_succ, List.flatMap_append, List.length_append, ih fun j hj => hf j (by omega)]; simp [hf n (by omega), Nat.succ_mul]
theorem flat_get {f : Nat → List Value} {n sz : Nat} (hf : ∀ i, i < n → (f i).length = sz) (i r : Nat) (hi : i < n) (hr : r < sz) : ((List.range n).flatMap f)[i * sz + r]? = (f i)[r]? := by
  induction n with
  | zero => omega
  | succ n ih =>
    (have hl : ((List.range n).flatMap f).length = n * sz := flat_len fun j hj => hf j (by omega)); (rw [List.range_succ, List.flatMap_append])
    by_cases h : i < n
    · have : i * sz + r < n * sz := by
        (have : (i + 1) * sz ≤ n * sz := Nat.mul_le_mul_right _ h); (rw [Nat.succ_mul] at this; omega)
      (rw [List.getElem?_append_left (by rw [hl]; exact this)]); (exact ih (fun j hj => hf j (by omega)) h)
    · (obtain rfl : i = n := by omega); (rw [List.getElem?_append_right (by rw [hl]; omega), hl, Nat.add_sub_cancel_left])
      simp
theorem add_add (a : Addr) (h : a = ⟨a.block, a.off, none⟩) (i r : Nat) : (a.add i).add r = ⟨a.block, a.off + (i + r), none⟩ := by
  (obtain ⟨b, o, s⟩ := a); (obtain rfl : s = none := by simpa using h)
  have one : ∀ o i : Nat, (⟨b, o, none⟩ : Addr).add i = ⟨b, o + i, none⟩ := fun o i => by
    unfold Addr.add
    by_cases hi : i = 0
    · subst hi; simp
    · simp [hi]
  rw [one, one, Nat.add_assoc]
theorem flat_congr {α β : Type} {l : List α} {f g : α → List β} (h : ∀ x ∈ l, f x = g x) : l.flatMap f = l.flatMap g := by
  induction l with
  | nil => rfl
  | cons x l ih => rw [List.flatMap_cons, List.flatMap_cons, h x (by simp), ih fun y hy => h y (by simp [hy])]
/-- A slice whose elements have sz cells. -/
theorem rows_read {H : Type} {enc : TypeId × Value → H} {P : Program} {w : World} {base : Nat} {held : Bool} {fuel : Nat} {t e : TypeId} {sz : Nat} {v : Value} {x : DataW H × List MemPlace}
    (ht : P.underlying t = some (.slice e)) (hsz : P.cellsOf e = sz) (hpos : 0 < sz) (h : DataW.trod enc P w base (fun _ => true) held fuel t [v] = some x) :
    ∃ (n : Nat) (f : Nat → List Value), Rd w sz v n ((List.range n).flatMap f) ∧ n ≤ 9223372036854775807 ∧ ∀ i, i < n → (f i).length = sz ∧ ∃ m y, DataW.trod enc P w base (fun _ => true) held m e (f i) = some y := by
  rcases open_slice ht h with ⟨hv, _⟩ | ⟨a, len, cap, m, n, D, Pl, hv, _, hlc, hcm, hm, _, hel⟩
  · (obtain rfl : v = .slice none 0 0 := by simpa using hv); (exact ⟨0, fun _ => [], ⟨by simp, none, 0, rfl, Nat.le_refl _, Nat.zero_le _, .inl rfl⟩, by decide, fun i hi => absurd hi (by omega)⟩)
  · (obtain rfl : v = .slice (some a) len cap := by simpa using hv); (simp only [if_true] at hm); (subst hm); (rw [hsz] at hel)
    obtain ⟨f, hf⟩ : ∃ f : Nat → List Value, ∀ i, i < m → w.cells? base (a.add (i * sz)) sz = some (f i) ∧ DataW.trod enc P w base (fun _ => true) held n e (f i) = some (D i, Pl i) :=
      choose_lt (α := List Value) (p := fun i z => w.cells? base (a.add (i * sz)) sz = some z ∧ DataW.trod enc P w base (fun _ => true) held n e z = some (D i, Pl i)) hel
    (have hfl : ∀ i, i < m → (f i).length = sz := fun i hi => (World.cells?_some (hf i hi).1).2.1); (have hfc : ∀ i, i < m → ∀ r, r < sz → w.cell? ((a.add (i * sz)).add r) = (f i)[r]? := fun i hi r hr => (World.cells?_some (hf i hi).1).2.2 r hr); (rw [maxLen_eq] at hcm); (refine ⟨len, f, ⟨flat_len fun i hi => hfl i (by omega), some a, m, rfl, hlc, by rw [maxLen_eq]; exact hcm, ?_⟩, by omega, fun i hi => ⟨hfl i (by omega), n, _, (hf i (by omega)).2⟩⟩)
    by_cases h0 : m = 0
    · exact .inl h0
    · have hp : a = ⟨a.block, a.off, none⟩ := by
        (have h1 := hfc 0 (by omega) 0 hpos); (obtain ⟨u, hu⟩ : ∃ u, (f 0)[0]? = some u := ⟨_, List.getElem?_eq_getElem (by rw [hfl 0 (by omega)]; exact hpos)⟩); (rw [hu] at h1); (have := plain_addr h1)
        simpa [Addr.add] using this
      refine .inr ⟨a.block, a.off, by rw [← hp], fun j u hu => ?_⟩
      have hj : j < len * sz := by
        have := (List.getElem?_eq_some_iff.1 hu).1
        rwa [flat_len fun i hi => hfl i (by omega)] at this
      (have hq : j / sz < len := by rw [Nat.div_lt_iff_lt_mul hpos]; exact hj); (have hr : j % sz < sz := Nat.mod_lt _ hpos); (have e1 : j = j / sz * sz + j % sz := by rw [Nat.mul_comm]; exact (Nat.div_add_mod j sz).symm); (rw [e1, flat_get (fun i hi => hfl i (by omega)) _ _ hq hr] at hu); (have := hfc (j / sz) (by omega) (j % sz) hr); (rw [add_add a hp, ← e1, hu] at this); (exact this)
theorem one_of {l : List Value} (h : l.length = 1) : ∃ u, l = [u] := by
  match l, h with
  | [u], _ => exact ⟨u, rfl⟩
/-- Elements of one cell. -/
theorem cells1_read {H : Type} {enc : TypeId × Value → H} {P : Program} {w : World} {base : Nat} {held : Bool} {fuel : Nat} {t e : TypeId} {v : Value} {x : DataW H × List MemPlace}
    (ht : P.underlying t = some (.slice e)) (hsz : P.cellsOf e = 1) (h : DataW.trod enc P w base (fun _ => true) held fuel t [v] = some x) :
    ∃ (n : Nat) (f : Nat → Value), Rd w 1 v n ((List.range n).map f) ∧ n ≤ 9223372036854775807 ∧ ∀ i, i < n → ∃ m y, DataW.trod enc P w base (fun _ => true) held m e [f i] = some y := by
  (obtain ⟨n, f, hr, hn, hf⟩ := rows_read ht hsz (by decide) h); (obtain ⟨g, hg⟩ : ∃ g : Nat → Value, ∀ i, i < n → f i = [g i] := choose_lt (p := fun i z => f i = [z]) fun i hi => one_of (hf i hi).1); (refine ⟨n, g, ?_, hn, fun i hi => ?_⟩)
  · have e : (List.range n).flatMap f = (List.range n).map g := by
      rw [List.map_eq_flatMap]
      apply flat_congr
      (intro i hi); (exact hg i (by simpa using hi))
    rw [← e]; exact hr
  · (obtain ⟨m, y, hy⟩ := (hf i hi).2); (rw [hg i hi] at hy); (exact ⟨m, y, hy⟩)
theorem ints_read {H : Type} {enc : TypeId × Value → H} {w : World} {base : Nat} {held : Bool} {fuel : Nat} {v : Value} {x : DataW H × List MemPlace}
    (h : DataW.trod enc Tryz.prog w base (fun _ => true) held fuel 26 [v] = some x) : ∃ zs : List Int, RdZ w v zs ∧ zs.length ≤ 9223372036854775807 := by
  obtain ⟨n, f, hr, hn, hf⟩ := cells1_read Tryz.underlying26 (by kernel_rfl) h
  obtain ⟨g, hg⟩ : ∃ g : Nat → Int, ∀ i, i < n → f i = .int .i64 (g i) := choose_lt (p := fun i z => f i = .int .i64 z) fun i hi => by
    (obtain ⟨m, y, hy⟩ := hf i hi); (obtain ⟨z, hz, _, _⟩ := DataW.trod_int Tryz.underlying3 hy); (exact ⟨z, by simpa using hz⟩)
  refine ⟨(List.range n).map g, ?_, by simpa using hn⟩
  have e : (List.range n).map f = ((List.range n).map g).map Z := by
    (rw [List.map_map]); (exact List.map_congr_left fun i hi => hg i (by simpa using hi))
  (unfold RdZ); (rw [← e])
  simpa using hr
theorem ballots_read {H : Type} {enc : TypeId × Value → H} {w : World} {base : Nat} {held : Bool} {fuel : Nat} {v : Value} {x : DataW H × List MemPlace}
    (h : DataW.trod enc Tryz.prog w base (fun _ => true) held fuel 25 [v] = some x) : ∃ bs : List (List Int × Value), RdB w v bs ∧ bs.length ≤ 9223372036854775807 := by
  obtain ⟨n, f, hr, hn, hf⟩ := cells1_read Tryz.underlying25 (by kernel_rfl) h
  obtain ⟨g, hg⟩ : ∃ g : Nat → List Int, ∀ i, i < n → RdZ w (f i) (g i) := choose_lt (α := List Int) (p := fun i z => RdZ w (f i) z) fun i hi => by
    (obtain ⟨m, y, hy⟩ := hf i hi); (obtain ⟨zs, hz, _⟩ := ints_read hy); (exact ⟨zs, hz⟩)
  refine ⟨(List.range n).map fun i => (g i, f i), ⟨fun y hy => ?_, ?_⟩, by simpa using hn⟩
  · (obtain ⟨i, hi, rfl⟩ := List.mem_map.1 hy); (exact hg i (by simpa using hi))
  · rw [List.map_map, show ((·.2) ∘ fun i => (g i, f i)) = f from rfl]
    simpa using hr
end Go.Proofs.YtaobaaaihgahfaaGreat

/- electiontop.Piles among the arguments (printed by gen_readt.py). -/
namespace Go.Proofs.YtaobaaaihgahfaaGreat
open Go.ChangeShapes Go.WideShapes Go.ChangeAt Go.RowKit Go.Mk Go.Deep Go.Pil Go.Tp
set_option maxRecDepth 100000 in
/-- The cells of a contest. -/
theorem contest_cells {H : Type} {enc : TypeId × Value → H} {w : World} {base : Nat} {held : Bool} {fuel : Nat} {cs : List Value} {x : DataW H × List MemPlace} (hl : cs.length = 9)
    (h : DataW.trod enc Tryz.prog w base (fun _ => true) held fuel 24 cs = some x) :
    ∃ (nm : ByteArray) (ac : Option Addr) (n cc : Nat) (cm s ra d t ov sk : Int), cs = [.string nm, .slice ac n cc, .int .i64 cm, .int .i64 s, .int .i64 ra, .int .i64 d, .int .i64 t, .int .i64 ov, .int .i64 sk] ∧ n ≤ cc ∧ (cc = 0 ∨ ∃ b o, ac = some ⟨b, o, none⟩) := by
  (have e3 : Tryz.prog.cellsOf 3 = 1 := by kernel_rfl); (have e4 : Tryz.prog.cellsOf 9 = 1 := by kernel_rfl); (have e5 : Tryz.prog.cellsOf 22 = 1 := by kernel_rfl); (obtain ⟨xs, n, _, _, _, hlen, hf⟩ := DataW.trod_struct Tryz.underlying24 h)
  match cs, hl with
  | [c0, c1, c2, c3, c4, c5, c6, c7, c8], _ =>
  match xs, hlen with
  | [y0, y1, y2, y3, y4, y5, y6, y7, y8], _ =>
    (have f0 : DataW.trod enc Tryz.prog w base (fun _ => true) held n 9 ((([c0, c1, c2, c3, c4, c5, c6, c7, c8] : List Value).drop 0).take (Tryz.prog.cellsOf 9)) = some y0 := hf 0 _ rfl); (rw [e4] at f0); (replace f0 : DataW.trod enc Tryz.prog w base (fun _ => true) held n 9 [c0] = some y0 := f0); (have f1 : DataW.trod enc Tryz.prog w base (fun _ => true) held n 22 ((([c0, c1, c2, c3, c4, c5, c6, c7, c8] : List Value).drop 1).take (Tryz.prog.cellsOf 22)) = some y1 := hf 1 _ rfl); (rw [e5] at f1); (replace f1 : DataW.trod enc Tryz.prog w base (fun _ => true) held n 22 [c1] = some y1 := f1); (have f2 : DataW.trod enc Tryz.prog w base (fun _ => true) held n 3 ((([c0, c1, c2, c3, c4, c5, c6, c7, c8] : List Value).drop 2).take (Tryz.prog.cellsOf 3)) = some y2 := hf 2 _ rfl); (rw [e3] at f2); (replace f2 : DataW.trod enc Tryz.prog w base (fun _ => true) held n 3 [c2] = some y2 := f2); (have f3 : DataW.trod enc Tryz.prog w base (fun _ => true) held n 3 ((([c0, c1, c2, c3, c4, c5, c6, c7, c8] : List Value).drop 3).take (Tryz.prog.cellsOf 3)) = some y3 := hf 3 _ rfl); (rw [e3] at f3); (replace f3 : DataW.trod enc Tryz.prog w base (fun _ => true) held n 3 [c3] = some y3 := f3); (have f4 : DataW.trod enc Tryz.prog w base (fun _ => true) held n 3 ((([c0, c1, c2, c3, c4, c5, c6, c7, c8] : List Value).drop 4).take (Tryz.prog.cellsOf 3)) = some y4 := hf 4 _ rfl); (rw [e3] at f4); (replace f4 : DataW.trod enc Tryz.prog w base (fun _ => true) held n 3 [c4] = some y4 := f4); (have f5 : DataW.trod enc Tryz.prog w base (fun _ => true) held n 3 ((([c0, c1, c2, c3, c4, c5, c6, c7, c8] : List Value).drop 5).take (Tryz.prog.cellsOf 3)) = some y5 := hf 5 _ rfl); (rw [e3] at f5); (replace f5 : DataW.trod enc Tryz.prog w base (fun _ => true) held n 3 [c5] = some y5 := f5); (have f6 : DataW.trod enc Tryz.prog w base (fun _ => true) held n 3 ((([c0, c1, c2, c3, c4, c5, c6, c7, c8] : List Value).drop 6).take (Tryz.prog.cellsOf 3)) = some y6 := hf 6 _ rfl); (rw [e3] at f6); (replace f6 : DataW.trod enc Tryz.prog w base (fun _ => true) held n 3 [c6] = some y6 := f6); (have f7 : DataW.trod enc Tryz.prog w base (fun _ => true) held n 3 ((([c0, c1, c2, c3, c4, c5, c6, c7, c8] : List Value).drop 7).take (Tryz.prog.cellsOf 3)) = some y7 := hf 7 _ rfl); (rw [e3] at f7); (replace f7 : DataW.trod enc Tryz.prog w base (fun _ => true) held n 3 [c7] = some y7 := f7); (have f8 : DataW.trod enc Tryz.prog w base (fun _ => true) held n 3 ((([c0, c1, c2, c3, c4, c5, c6, c7, c8] : List Value).drop 8).take (Tryz.prog.cellsOf 3)) = some y8 := hf 8 _ rfl); (rw [e3] at f8); (replace f8 : DataW.trod enc Tryz.prog w base (fun _ => true) held n 3 [c8] = some y8 := f8); (obtain ⟨s0, h0, _⟩ := DataW.trod_string Tryz.underlying9 f0); (obtain ⟨nn, f, hr, _, _⟩ := cells1_read Tryz.underlying22 e4 f1); (obtain ⟨_, ac, cc, rfl, hn, _, hca⟩ := hr); (obtain ⟨z2, h2, _⟩ := DataW.trod_int Tryz.underlying3 f2); (obtain ⟨z3, h3, _⟩ := DataW.trod_int Tryz.underlying3 f3); (obtain ⟨z4, h4, _⟩ := DataW.trod_int Tryz.underlying3 f4); (obtain ⟨z5, h5, _⟩ := DataW.trod_int Tryz.underlying3 f5); (obtain ⟨z6, h6, _⟩ := DataW.trod_int Tryz.underlying3 f6); (obtain ⟨z7, h7, _⟩ := DataW.trod_int Tryz.underlying3 f7); (obtain ⟨z8, h8, _⟩ := DataW.trod_int Tryz.underlying3 f8); (have a0 : c0 = _ := (List.cons.inj h0).1); (have a2 : c2 = _ := (List.cons.inj h2).1); (have a3 : c3 = _ := (List.cons.inj h3).1); (have a4 : c4 = _ := (List.cons.inj h4).1); (have a5 : c5 = _ := (List.cons.inj h5).1); (have a6 : c6 = _ := (List.cons.inj h6).1); (have a7 : c7 = _ := (List.cons.inj h7).1); (have a8 : c8 = _ := (List.cons.inj h8).1); (subst a0 a2 a3 a4 a5 a6 a7 a8); (exact ⟨_, _, _, _, _, _, _, _, _, _, _, rfl, hn, hca.imp id fun ⟨b, o, e, _⟩ => ⟨b, o, e⟩⟩)
set_option maxRecDepth 100000 in
theorem piles_read {H : Type} {enc : TypeId × Value → H} {w : World} {base base' : Nat} {held : Bool} {r : Reach} {v : Value} {d : DataW H} {p : List MemPlace}
    (hv : Value.okWide Tryz.prog w r base' 28 v) (h : DataW.Trod enc Tryz.prog w base (fun _ => true) held 28 v d p) :
    ∃ (X : Pls) (bsA bsB : List (List Int × Value)) (lz : List Int), v = .agg #[.string X.nm, .slice X.ac X.nc X.cc, .int .i64 X.cm, .int .i64 X.s, .int .i64 X.ra, .int .i64 X.d, .int .i64 X.t, .int .i64 X.ov, .int .i64 X.sk, X.vA, X.vB, X.vL, .int .i64 X.At, .int .i64 X.V] ∧ X.nc ≤ X.cc ∧ (X.cc = 0 ∨ ∃ b o, X.ac = some ⟨b, o, none⟩) ∧ RdB w X.vA bsA ∧ RdB w X.vB bsB ∧ RdZ w X.vL lz := by
  (have e3 : Tryz.prog.cellsOf 3 = 1 := by kernel_rfl); (have e25 : Tryz.prog.cellsOf 25 = 1 := by kernel_rfl); (have e26 : Tryz.prog.cellsOf 26 = 1 := by kernel_rfl); (have e24 : Tryz.prog.cellsOf 24 = 9 := by kernel_rfl); (have e28 : Tryz.prog.cellsOf 28 = 14 := by kernel_rfl); (unfold Value.okWide at hv); (rw [Tryz.underlying28] at hv); (obtain ⟨cs', rfl, _, _⟩ := hv); (obtain ⟨fuel, h⟩ := h); (have hce : (Value.agg cs').cells.toList = cs'.toList := by simp [Value.cells]); (rw [hce] at h); (obtain ⟨xs, n, _, _, hl, hlen, hf⟩ := DataW.trod_struct Tryz.underlying28 h); (rw [e28] at hl); (obtain ⟨cs⟩ := cs'); (simp only at hl hf)
  match cs, hl with
  | [c0, c1, c2, c3, c4, c5, c6, c7, c8, c9, c10, c11, c12, c13], _ =>
  match xs, hlen with
  | [y0, y1, y2, y3, y4, y5], _ =>
    (have f0 : DataW.trod enc Tryz.prog w base (fun _ => true) held n 24 ((([c0, c1, c2, c3, c4, c5, c6, c7, c8, c9, c10, c11, c12, c13] : List Value).drop 0).take (Tryz.prog.cellsOf 24)) = some y0 := hf 0 _ rfl); (rw [e24] at f0); (obtain ⟨nm, ac, nc, cc, cm, s, ra, dd, t, ov, sk, ec, hn, hca⟩ := contest_cells (by rfl) (show DataW.trod enc Tryz.prog w base (fun _ => true) held n 24 [c0, c1, c2, c3, c4, c5, c6, c7, c8] = some y0 from f0)); (have f1 : DataW.trod enc Tryz.prog w base (fun _ => true) held n 25 ((([c0, c1, c2, c3, c4, c5, c6, c7, c8, c9, c10, c11, c12, c13] : List Value).drop 9).take (Tryz.prog.cellsOf 25)) = some y1 := hf 1 _ rfl); (rw [e25] at f1); (replace f1 : DataW.trod enc Tryz.prog w base (fun _ => true) held n 25 [c9] = some y1 := f1); (have f2 : DataW.trod enc Tryz.prog w base (fun _ => true) held n 25 ((([c0, c1, c2, c3, c4, c5, c6, c7, c8, c9, c10, c11, c12, c13] : List Value).drop 10).take (Tryz.prog.cellsOf 25)) = some y2 := hf 2 _ rfl); (rw [e25] at f2); (replace f2 : DataW.trod enc Tryz.prog w base (fun _ => true) held n 25 [c10] = some y2 := f2); (have f3 : DataW.trod enc Tryz.prog w base (fun _ => true) held n 26 ((([c0, c1, c2, c3, c4, c5, c6, c7, c8, c9, c10, c11, c12, c13] : List Value).drop 11).take (Tryz.prog.cellsOf 26)) = some y3 := hf 3 _ rfl); (rw [e26] at f3); (replace f3 : DataW.trod enc Tryz.prog w base (fun _ => true) held n 26 [c11] = some y3 := f3); (have f4 : DataW.trod enc Tryz.prog w base (fun _ => true) held n 3 ((([c0, c1, c2, c3, c4, c5, c6, c7, c8, c9, c10, c11, c12, c13] : List Value).drop 12).take (Tryz.prog.cellsOf 3)) = some y4 := hf 4 _ rfl); (rw [e3] at f4); (replace f4 : DataW.trod enc Tryz.prog w base (fun _ => true) held n 3 [c12] = some y4 := f4); (have f5 : DataW.trod enc Tryz.prog w base (fun _ => true) held n 3 ((([c0, c1, c2, c3, c4, c5, c6, c7, c8, c9, c10, c11, c12, c13] : List Value).drop 13).take (Tryz.prog.cellsOf 3)) = some y5 := hf 5 _ rfl); (rw [e3] at f5); (replace f5 : DataW.trod enc Tryz.prog w base (fun _ => true) held n 3 [c13] = some y5 := f5); (obtain ⟨bA, hA, _⟩ := ballots_read f1); (obtain ⟨bB, hB, _⟩ := ballots_read f2); (obtain ⟨lz, hL, _⟩ := ints_read f3); (obtain ⟨z4, h4, _⟩ := DataW.trod_int Tryz.underlying3 f4); (obtain ⟨z5, h5, _⟩ := DataW.trod_int Tryz.underlying3 f5); (have a4 : c12 = _ := (List.cons.inj h4).1); (have a5 : c13 = _ := (List.cons.inj h5).1); (simp only [List.cons.injEq, and_true] at ec); (obtain ⟨rfl, rfl, rfl, rfl, rfl, rfl, rfl, rfl, rfl⟩ := ec); (subst a4 a5); (exact ⟨⟨nm, ac, nc, cc, cm, s, ra, dd, t, ov, sk, c9, c10, c11, z4, z5⟩, bA, bB, lz, rfl, hn, hca, hA, hB, hL⟩)
end Go.Proofs.YtaobaaaihgahfaaGreat
