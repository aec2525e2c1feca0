/- Rows of any number of arguments: opened and closed (printed by gen_trod.py). -/
import Derived.Carry
import Derived.ChangeShapes
import Derived.WalkKit
import Derived.Test.YtaobaaaihgahfaaGreatGrpV
import Derived.Test.YtaobaaaihgahfaaGreatAddV
import Derived.Test.YtaobaaaihgahfaaGreatRows
import Derived.ProofKit
import Derived.OpenShut
import Derived.Deep.DeepHandedRow
import Derived.Deep.Slices
import Derived.ChangeSame
import Derived.ChangeArms
namespace Go.Mk
open Go.ChangeShapes Go.RowKit
section
variable {H : Type} {enc : TypeId × Value → H} {P : Program} {w : World} {base : Nat} {spare : Nat → Bool} {held : Bool}
theorem trMk1 {t0 : TypeId} {v0 : Value} {d0 : DataW H} {p0 : List MemPlace} (h0 : DataW.Trod enc P w base spare held t0 v0 d0 p0) : DataW.TrodAll enc P w base spare held [t0] [v0] [d0] (p0) :=
  trodAll_mk1 h0
theorem trMk2 {t0 t1 : TypeId} {v0 v1 : Value} {d0 d1 : DataW H} {p0 p1 : List MemPlace} (h0 : DataW.Trod enc P w base spare held t0 v0 d0 p0) (h1 : DataW.Trod enc P w base spare held t1 v1 d1 p1) : DataW.TrodAll enc P w base spare held [t0, t1] [v0, v1] [d0, d1] (p0 ++ (p1)) :=
  ⟨p0, _, h0, trMk1 h1, rfl⟩
theorem trAll3 {t0 t1 t2 : TypeId} {args : Array Value} {ds : List (DataW H)} {ps : List MemPlace} (h : DataW.TrodAll enc P w base spare held [t0, t1, t2] args.toList ds ps) :
    ∃ v0 v1 v2 d0 d1 d2 p0 p1 p2, args = #[v0, v1, v2] ∧ ds = [d0, d1, d2] ∧ ps = p0 ++ (p1 ++ (p2)) ∧ DataW.Trod enc P w base spare held t0 v0 d0 p0 ∧ DataW.Trod enc P w base spare held t1 v1 d1 p1 ∧ DataW.Trod enc P w base spare held t2 v2 d2 p2 := by
  (obtain ⟨v0, vs0, d0, ds0, p0, q0, hargs, rfl, rfl, h0, hr0⟩ := trodAll_cons h); (obtain ⟨v1, vs1, d1, ds1, p1, q1, rfl, rfl, rfl, h1, hr1⟩ := trodAll_cons hr0); (obtain ⟨v2, vs2, d2, ds2, p2, q2, rfl, rfl, rfl, h2, hr2⟩ := trodAll_cons hr1); (obtain ⟨rfl, rfl, rfl⟩ := trodAll_nil hr2); (exact ⟨v0, v1, v2, d0, d1, d2, p0, p1, p2, by rw [← Array.toList_inj, hargs], rfl, by simp, h0, h1, h2⟩)
theorem trMk3 {t0 t1 t2 : TypeId} {v0 v1 v2 : Value} {d0 d1 d2 : DataW H} {p0 p1 p2 : List MemPlace} (h0 : DataW.Trod enc P w base spare held t0 v0 d0 p0) (h1 : DataW.Trod enc P w base spare held t1 v1 d1 p1) (h2 : DataW.Trod enc P w base spare held t2 v2 d2 p2) : DataW.TrodAll enc P w base spare held [t0, t1, t2] [v0, v1, v2] [d0, d1, d2] (p0 ++ (p1 ++ (p2))) :=
  ⟨p0, _, h0, trMk2 h1 h2, rfl⟩
end
end Go.Mk

/- What a row's data say of numbers, ballots, groups, flags; the rows' world (no package variables are laid). -/
namespace Go.Proofs.YtaobaaaihgahfaaGreat
open Go.ChangeShapes Go.WideShapes Go.ChangeAt Go.RowKit Go.Mk Go.Deep Go.Pil
theorem own : ownKnob Tryz.prog.godebug = none := by kernel_rfl
theorem maxLen_eq : maxLen = 9223372036854775807 := rfl
noncomputable def laidWorld0 (os : Os) : World := World.holding Tryz.prog os ⟨#[], #[], []⟩
theorem plain_addr {w : World} {a : Addr} {v : Value} (h : w.cell? a = some v) : a = ⟨a.block, a.off, none⟩ := by
  obtain ⟨b, o, sp⟩ := a
  cases sp with
  | none => rfl
  | some s =>
    unfold World.cell? at h
    split at h
    · simp at h
    · cases h
theorem flat_len {f : Nat → List Value} {n sz : Nat} (hf : ∀ i, i < n → (f i).length = sz) : ((List.range n).flatMap f).length = n * sz := by
  induction n with
  | zero => simp
  | succ n ih => rw [List.range_succ, List.flatMap_append, List.length_append, ih fun j hj => hf j (by omega)]; simp [hf n (by omega), Nat.succ_mul]
theorem flat_get {f : Nat → List Value} {n sz : Nat} (hf : ∀ i, i < n → (f i).length = sz) (i r : Nat) (hi : i < n) (hr : r < sz) : ((List.range n).flatMap f)[i * sz + r]? = (f i)[r]? := by
  induction n with
  | zero => omega
  | succ n ih =>
    (have hl : ((List.range n).flatMap f).length = n * sz := flat_len fun j hj => hf j (by omega)); (rw [List.range_succ, List.flatMap_append])
    by_cases h : i < n
    · have : i * sz + r < n * sz := by
        (have : (i + 1) * sz ≤ n * sz := Nat.mul_le_mul_right _ h); (rw [Nat.succ_mul] at this; omega)
      (rw [List.getElem?_append_left (by rw [hl]; exact this)]); (exact ih (fun j hj => hf j (by omega)) h)
    · (obtain rfl : i = n := by omega); (rw [List.getElem?_append_right (by rw [hl]; omega), hl, Nat.add_sub_cancel_left])
      simp
theorem add_add (a : Addr) (h : a = ⟨a.block, a.off, none⟩) (i r : Nat) : (a.add i).add r = ⟨a.block, a.off + (i + r), none⟩ := by
  (obtain ⟨b, o, s⟩ := a); (obtain rfl : s = none := by simpa using h)
  have one : ∀ o i : Nat, (⟨b, o, none⟩ : Addr).add i = ⟨b, o + i, none⟩ := fun o i => by
    unfold Addr.add
    by_cases hi : i = 0
    · subst hi; simp
    · simp [hi]
  rw [one, one, Nat.add_assoc]
theorem flat_congr {α β : Type} {l : List α} {f g : α → List β} (h : ∀ x ∈ l, f x = g x) : l.flatMap f = l.flatMap g := by
  induction l with
  | nil => rfl
  | cons x l ih => rw [List.flatMap_cons, List.flatMap_cons, h x (by simp), ih fun y hy => h y (by simp [hy])]
/-- A slice whose elements have sz cells. -/
theorem rows_read {H : Type} {enc : TypeId × Value → H} {P : Program} {w : World} {base : Nat} {held : Bool} {fuel : Nat} {t e : TypeId} {sz : Nat} {v : Value} {x : DataW H × List MemPlace}
    (ht : P.underlying t = some (.slice e)) (hsz : P.cellsOf e = sz) (hpos : 0 < sz) (h : DataW.trod enc P w base (fun _ => true) held fuel t [v] = some x) :
    ∃ (n : Nat) (f : Nat → List Value), Rd w sz v n ((List.range n).flatMap f) ∧ n ≤ 9223372036854775807 ∧ ∀ i, i < n → (f i).length = sz ∧ ∃ m y, DataW.trod enc P w base (fun _ => true) held m e (f i) = some y := by
  rcases open_slice ht h with ⟨hv, _⟩ | ⟨a, len, cap, m, n, D, Pl, hv, _, hlc, hcm, hm, _, hel⟩
  · (obtain rfl : v = .slice none 0 0 := by simpa using hv); (exact ⟨0, fun _ => [], ⟨by simp, none, 0, rfl, Nat.le_refl _, Nat.zero_le _, .inl rfl⟩, by decide, fun i hi => absurd hi (by omega)⟩)
  · (obtain rfl : v = .slice (some a) len cap := by simpa using hv); (simp only [if_true] at hm); (subst hm); (rw [hsz] at hel)
    obtain ⟨f, hf⟩ : ∃ f : Nat → List Value, ∀ i, i < m → w.cells? base (a.add (i * sz)) sz = some (f i) ∧ DataW.trod enc P w base (fun _ => true) held n e (f i) = some (D i, Pl i) :=
      choose_lt (α := List Value) (p := fun i z => w.cells? base (a.add (i * sz)) sz = some z ∧ DataW.trod enc P w base (fun _ => true) held n e z = some (D i, Pl i)) hel
    (have hfl : ∀ i, i < m → (f i).length = sz := fun i hi => (World.cells?_some (hf i hi).1).2.1); (have hfc : ∀ i, i < m → ∀ r, r < sz → w.cell? ((a.add (i * sz)).add r) = (f i)[r]? := fun i hi r hr => (World.cells?_some (hf i hi).1).2.2 r hr); (rw [maxLen_eq] at hcm); (refine ⟨len, f, ⟨flat_len fun i hi => hfl i (by omega), some a, m, rfl, hlc, by rw [maxLen_eq]; exact hcm, ?_⟩, by omega, fun i hi => ⟨hfl i (by omega), n, _, (hf i (by omega)).2⟩⟩)
    by_cases h0 : m = 0
    · exact .inl h0
    · have hp : a = ⟨a.block, a.off, none⟩ := by
        (have h1 := hfc 0 (by omega) 0 hpos); (obtain ⟨u, hu⟩ : ∃ u, (f 0)[0]? = some u := ⟨_, List.getElem?_eq_getElem (by rw [hfl 0 (by omega)]; exact hpos)⟩); (rw [hu] at h1); (have := plain_addr h1)
        simpa [Addr.add] using this
      refine .inr ⟨a.block, a.off, by rw [← hp], fun j u hu => ?_⟩
      have hj : j < len * sz := by
        have := (List.getElem?_eq_some_iff.1 hu).1
        rwa [flat_len fun i hi => hfl i (by omega)] at this
      (have hq : j / sz < len := by rw [Nat.div_lt_iff_lt_mul hpos]; exact hj); (have hr : j % sz < sz := Nat.mod_lt _ hpos); (have e1 : j = j / sz * sz + j % sz := by rw [Nat.mul_comm]; exact (Nat.div_add_mod j sz).symm); (rw [e1, flat_get (fun i hi => hfl i (by omega)) _ _ hq hr] at hu); (have := hfc (j / sz) (by omega) (j % sz) hr); (rw [add_add a hp, ← e1, hu] at this); (exact this)
theorem one_of {l : List Value} (h : l.length = 1) : ∃ u, l = [u] := by
  match l, h with
  | [u], _ => exact ⟨u, rfl⟩
/-- Elements of one cell. -/
theorem cells1_read {H : Type} {enc : TypeId × Value → H} {P : Program} {w : World} {base : Nat} {held : Bool} {fuel : Nat} {t e : TypeId} {v : Value} {x : DataW H × List MemPlace}
    (ht : P.underlying t = some (.slice e)) (hsz : P.cellsOf e = 1) (h : DataW.trod enc P w base (fun _ => true) held fuel t [v] = some x) :
    ∃ (n : Nat) (f : Nat → Value), Rd w 1 v n ((List.range n).map f) ∧ n ≤ 9223372036854775807 ∧ ∀ i, i < n → ∃ m y, DataW.trod enc P w base (fun _ => true) held m e [f i] = some y := by
  (obtain ⟨n, f, hr, hn, hf⟩ := rows_read ht hsz (by decide) h); (obtain ⟨g, hg⟩ : ∃ g : Nat → Value, ∀ i, i < n → f i = [g i] := choose_lt (p := fun i z => f i = [z]) fun i hi => one_of (hf i hi).1); (refine ⟨n, g, ?_, hn, fun i hi => ?_⟩)
  · have e : (List.range n).flatMap f = (List.range n).map g := by
      rw [List.map_eq_flatMap]
      apply flat_congr
      (intro i hi); (exact hg i (by simpa using hi))
    rw [← e]; exact hr
  · (obtain ⟨m, y, hy⟩ := (hf i hi).2); (rw [hg i hi] at hy); (exact ⟨m, y, hy⟩)
theorem ints_read {H : Type} {enc : TypeId × Value → H} {w : World} {base : Nat} {held : Bool} {fuel : Nat} {v : Value} {x : DataW H × List MemPlace}
    (h : DataW.trod enc Tryz.prog w base (fun _ => true) held fuel 26 [v] = some x) : ∃ zs : List Int, RdZ w v zs ∧ zs.length ≤ 9223372036854775807 := by
  obtain ⟨n, f, hr, hn, hf⟩ := cells1_read Tryz.underlying26 (by kernel_rfl) h
  obtain ⟨g, hg⟩ : ∃ g : Nat → Int, ∀ i, i < n → f i = .int .i64 (g i) := choose_lt (p := fun i z => f i = .int .i64 z) fun i hi => by
    (obtain ⟨m, y, hy⟩ := hf i hi); (obtain ⟨z, hz, _, _⟩ := DataW.trod_int Tryz.underlying3 hy); (exact ⟨z, by simpa using hz⟩)
  refine ⟨(List.range n).map g, ?_, by simpa using hn⟩
  have e : (List.range n).map f = ((List.range n).map g).map Z := by
    (rw [List.map_map]); (exact List.map_congr_left fun i hi => hg i (by simpa using hi))
  (unfold RdZ); (rw [← e])
  simpa using hr
theorem ballots_read {H : Type} {enc : TypeId × Value → H} {w : World} {base : Nat} {held : Bool} {fuel : Nat} {v : Value} {x : DataW H × List MemPlace}
    (h : DataW.trod enc Tryz.prog w base (fun _ => true) held fuel 25 [v] = some x) : ∃ bs : List (List Int × Value), RdB w v bs ∧ bs.length ≤ 9223372036854775807 := by
  obtain ⟨n, f, hr, hn, hf⟩ := cells1_read Tryz.underlying25 (by kernel_rfl) h
  obtain ⟨g, hg⟩ : ∃ g : Nat → List Int, ∀ i, i < n → RdZ w (f i) (g i) := choose_lt (α := List Int) (p := fun i z => RdZ w (f i) z) fun i hi => by
    (obtain ⟨m, y, hy⟩ := hf i hi); (obtain ⟨zs, hz, _⟩ := ints_read hy); (exact ⟨zs, hz⟩)
  refine ⟨(List.range n).map fun i => (g i, f i), ⟨fun y hy => ?_, ?_⟩, by simpa using hn⟩
  · (obtain ⟨i, hi, rfl⟩ := List.mem_map.1 hy); (exact hg i (by simpa using hi))
  · rw [List.map_map, show ((·.2) ∘ fun i => (g i, f i)) = f from rfl]
    simpa using hr
set_option maxRecDepth 100000 in
theorem int_read {H : Type} {enc : TypeId × Value → H} {w : World} {base base' : Nat} {sp : Nat → Bool} {held : Bool} {r : Reach} {v : Value} {d : DataW H} {p : List MemPlace}
    (hv : Value.okWide Tryz.prog w r base' 3 v) (h : DataW.Trod enc Tryz.prog w base sp held 3 v d p) : ∃ n : Int, v = .int .i64 n ∧ -9223372036854775808 ≤ n ∧ n ≤ 9223372036854775807 := by
  (obtain ⟨n, rfl, _, _, hw⟩ := open_int Tryz.underlying3 hv h); (refine ⟨n, rfl, ?_⟩)
  simpa [Lit.wf, IntKind.min, IntKind.max, IntKind.bits, IntKind.signed] using hw
end Go.Proofs.YtaobaaaihgahfaaGreat
