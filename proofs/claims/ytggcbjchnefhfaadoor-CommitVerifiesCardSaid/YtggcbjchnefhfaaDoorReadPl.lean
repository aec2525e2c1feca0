/- Printed by shake.py: what flags_read, ballots_read need. -/
import Derived.Test.YtggcbjchnefhfaaDoorItems
import Derived.Test.YtggcbjchnefhfaaDoorReadRows
import Derived.Test.YtggcbjchnefhfaaDoorTrod
import Derived.Test.YtggcbjchnefhfaaDoorRows
import Derived.ProofKit
import Derived.OpenShut
import Derived.Deep.DeepHandedRow
import Derived.Deep.Slices
import Derived.ChangeSame
import Derived.ChangeArms
import Derived.Carry
namespace Go.Proofs.YtggcbjchnefhfaaDoor.Pl
open Go.ChangeShapes Go.WideShapes Go.ChangeAt Go.RowKit Go.Mk Go.Deep Go.Pil
theorem maxLen_eq : maxLen = 9223372036854775807 := rfl
theorem plain_addr {w : World} {a : Addr} {v : Value} (h : w.cell? a = some v) : a = ⟨a.block, a.off, none⟩ := by
  obtain ⟨b, o, sp⟩ := a
  cases sp with
  | none => rfl
  | some s =>
    unfold World.cell? at h
    split at h
    · simp at h
    · cases h
theorem flat_len {f : Nat → List Value} {n sz : Nat} (hf : ∀ i, i < n → (f i).length = sz) : ((List.range n).flatMap f).length = n * sz := by
  induction n with
  | zero => simp
  | succ n ih => rw [List.range_succ, List.flatMap_append, List.length_append, ih fun j hj => hf j (by omega)]; simp [hf n (by omega), Nat.succ_mul]
theorem flat_get {f : Nat → List Value} {n sz : Nat} (hf : ∀ i, i < n → (f i).length = sz) (i r : Nat) (hi : i < n) (hr : r < sz) : ((List.range n).flatMap f)[i * sz + r]? = (f i)[r]? := by
  induction n with
  | zero => omega
  | succ n ih =>
    have hl : ((List.range n).flatMap f).length = n * sz := flat_len fun j hj => hf j (by omega)
    rw [List.range_succ, List.flatMap_append]
    by_cases h : i < n
    · have : i * sz + r < n * sz := by
        have : (i + 1) * sz ≤ n * sz := Nat.mul_le_mul_right _ h
        rw [Nat.succ_mul] at this; omega
      rw [List.getElem?_append_left (by rw [hl]; exact this)]
      exact ih (fun j hj => hf j (by omega)) h
    · obtain rfl : i = n := by omega
      rw [List.getElem?_append_right (by rw [hl]; omega), hl, Nat.add_sub_cancel_left]
      simp
theorem add_add (a : Addr) (h : a = ⟨a.block, a.off, none⟩) (i r : Nat) : (a.add i).add r = ⟨a.block, a.off + (i + r), none⟩ := by
  obtain ⟨b, o, s⟩ := a
  obtain rfl : s = none := by simpa using h
  have one : ∀ o i : Nat, (⟨b, o, none⟩ : Addr).add i = ⟨b, o + i, none⟩ := fun o i => by
    unfold Addr.add
    by_cases hi : i = 0
    · subst hi; simp
    · simp [hi]
  rw [one, one, Nat.add_assoc]
theorem flat_congr {α β : Type} {l : List α} {f g : α → List β} (h : ∀ x ∈ l, f x = g x) : l.flatMap f = l.flatMap g := by
  induction l with
  | nil => rfl
  | cons x l ih => rw [List.flatMap_cons, List.flatMap_cons, h x (by simp), ih fun y hy => h y (by simp [hy])]
/-- A slice whose elements have sz cells. -/
theorem rows_read {H : Type} {enc : TypeId × Value → H} {P : Program} {w : World} {base : Nat} {held : Bool} {fuel : Nat} {t e : TypeId} {sz : Nat} {v : Value} {x : DataW H × List MemPlace}
    (ht : P.underlying t = some (.slice e)) (hsz : P.cellsOf e = sz) (hpos : 0 < sz) (h : DataW.trod enc P w base (fun _ => true) held fuel t [v] = some x) :
    ∃ (n : Nat) (f : Nat → List Value), Rd w sz v n ((List.range n).flatMap f) ∧ n ≤ 9223372036854775807 ∧ ∀ i, i < n → (f i).length = sz ∧ ∃ m y, DataW.trod enc P w base (fun _ => true) held m e (f i) = some y := by
  rcases open_slice ht h with ⟨hv, _⟩ | ⟨a, len, cap, m, n, D, Pl, hv, _, hlc, hcm, hm, _, hel⟩
  · obtain rfl : v = .slice none 0 0 := by simpa using hv
    exact ⟨0, fun _ => [], ⟨by simp, none, 0, rfl, Nat.le_refl _, Nat.zero_le _, .inl rfl⟩, by decide, fun i hi => absurd hi (by omega)⟩
  · obtain rfl : v = .slice (some a) len cap := by simpa using hv
    simp only [if_true] at hm
    subst hm
    rw [hsz] at hel
    obtain ⟨f, hf⟩ : ∃ f : Nat → List Value, ∀ i, i < m → w.cells? base (a.add (i * sz)) sz = some (f i) ∧ DataW.trod enc P w base (fun _ => true) held n e (f i) = some (D i, Pl i) :=
      choose_lt (α := List Value) (p := fun i z => w.cells? base (a.add (i * sz)) sz = some z ∧ DataW.trod enc P w base (fun _ => true) held n e z = some (D i, Pl i)) hel
    have hfl : ∀ i, i < m → (f i).length = sz := fun i hi => (World.cells?_some (hf i hi).1).2.1
    have hfc : ∀ i, i < m → ∀ r, r < sz → w.cell? ((a.add (i * sz)).add r) = (f i)[r]? := fun i hi r hr => (World.cells?_some (hf i hi).1).2.2 r hr
    rw [maxLen_eq] at hcm
    refine ⟨len, f, ⟨flat_len fun i hi => hfl i (by omega), some a, m, rfl, hlc, by rw [maxLen_eq]; exact hcm, ?_⟩, by omega, fun i hi => ⟨hfl i (by omega), n, _, (hf i (by omega)).2⟩⟩
    by_cases h0 : m = 0
    · exact .inl h0
    · have hp : a = ⟨a.block, a.off, none⟩ := by
        have h1 := hfc 0 (by omega) 0 hpos
        obtain ⟨u, hu⟩ : ∃ u, (f 0)[0]? = some u := ⟨_, List.getElem?_eq_getElem (by rw [hfl 0 (by omega)]; exact hpos)⟩
        rw [hu] at h1
        have := plain_addr h1
        simpa [Addr.add] using this
      refine .inr ⟨a.block, a.off, by rw [← hp], fun j u hu => ?_⟩
      have hj : j < len * sz := by
        have := (List.getElem?_eq_some_iff.1 hu).1
        rwa [flat_len fun i hi => hfl i (by omega)] at this
      have hq : j / sz < len := by rw [Nat.div_lt_iff_lt_mul hpos]; exact hj
      have hr : j % sz < sz := Nat.mod_lt _ hpos
      have e1 : j = j / sz * sz + j % sz := by rw [Nat.mul_comm]; exact (Nat.div_add_mod j sz).symm
      rw [e1, flat_get (fun i hi => hfl i (by omega)) _ _ hq hr] at hu
      have := hfc (j / sz) (by omega) (j % sz) hr
      rw [add_add a hp, ← e1, hu] at this
      exact this
theorem one_of {l : List Value} (h : l.length = 1) : ∃ u, l = [u] := by
  match l, h with
  | [u], _ => exact ⟨u, rfl⟩
/-- Elements of one cell. -/
theorem cells1_read {H : Type} {enc : TypeId × Value → H} {P : Program} {w : World} {base : Nat} {held : Bool} {fuel : Nat} {t e : TypeId} {v : Value} {x : DataW H × List MemPlace}
    (ht : P.underlying t = some (.slice e)) (hsz : P.cellsOf e = 1) (h : DataW.trod enc P w base (fun _ => true) held fuel t [v] = some x) :
    ∃ (n : Nat) (f : Nat → Value), Rd w 1 v n ((List.range n).map f) ∧ n ≤ 9223372036854775807 ∧ ∀ i, i < n → ∃ m y, DataW.trod enc P w base (fun _ => true) held m e [f i] = some y := by
  obtain ⟨n, f, hr, hn, hf⟩ := rows_read ht hsz (by decide) h
  obtain ⟨g, hg⟩ : ∃ g : Nat → Value, ∀ i, i < n → f i = [g i] := choose_lt (p := fun i z => f i = [z]) fun i hi => one_of (hf i hi).1
  refine ⟨n, g, ?_, hn, fun i hi => ?_⟩
  · have e : (List.range n).flatMap f = (List.range n).map g := by
      rw [List.map_eq_flatMap]
      apply flat_congr
      intro i hi
      exact hg i (by simpa using hi)
    rw [← e]; exact hr
  · obtain ⟨m, y, hy⟩ := (hf i hi).2
    rw [hg i hi] at hy
    exact ⟨m, y, hy⟩
theorem ints_read {H : Type} {enc : TypeId × Value → H} {w : World} {base : Nat} {held : Bool} {fuel : Nat} {v : Value} {x : DataW H × List MemPlace}
    (h : DataW.trod enc Tryd.prog w base (fun _ => true) held fuel 28 [v] = some x) : ∃ zs : List Int, RdZ w v zs ∧ zs.length ≤ 9223372036854775807 := by
  obtain ⟨n, f, hr, hn, hf⟩ := cells1_read Tryd.underlying28 (by kernel_rfl) h
  obtain ⟨g, hg⟩ : ∃ g : Nat → Int, ∀ i, i < n → f i = .int .i64 (g i) := choose_lt (p := fun i z => f i = .int .i64 z) fun i hi => by
    obtain ⟨m, y, hy⟩ := hf i hi
    obtain ⟨z, hz, _, _⟩ := DataW.trod_int Tryd.underlying3 hy
    exact ⟨z, by simpa using hz⟩
  refine ⟨(List.range n).map g, ?_, by simpa using hn⟩
  have e : (List.range n).map f = ((List.range n).map g).map Z := by
    rw [List.map_map]
    exact List.map_congr_left fun i hi => hg i (by simpa using hi)
  unfold RdZ
  rw [← e]
  simpa using hr
theorem flags_read {H : Type} {enc : TypeId × Value → H} {w : World} {base : Nat} {held : Bool} {fuel : Nat} {v : Value} {x : DataW H × List MemPlace}
    (h : DataW.trod enc Tryd.prog w base (fun _ => true) held fuel 23 [v] = some x) : ∃ zs : List Bool, RdF w v zs ∧ zs.length ≤ 9223372036854775807 := by
  obtain ⟨n, f, hr, hn, hf⟩ := cells1_read Tryd.underlying23 (by kernel_rfl) h
  obtain ⟨g, hg⟩ : ∃ g : Nat → Bool, ∀ i, i < n → f i = .bool (g i) := choose_lt (p := fun i z => f i = .bool z) fun i hi => by
    obtain ⟨m, y, hy⟩ := hf i hi
    obtain ⟨b, hb, _⟩ := DataW.trod_bool Tryd.underlying4 hy
    exact ⟨b, by simpa using hb⟩
  refine ⟨(List.range n).map g, ?_, by simpa using hn⟩
  have e : (List.range n).map f = ((List.range n).map g).map Value.bool := by
    rw [List.map_map]
    exact List.map_congr_left fun i hi => hg i (by simpa using hi)
  unfold RdF
  rw [← e]
  simpa using hr
theorem ballots_read {H : Type} {enc : TypeId × Value → H} {w : World} {base : Nat} {held : Bool} {fuel : Nat} {v : Value} {x : DataW H × List MemPlace}
    (h : DataW.trod enc Tryd.prog w base (fun _ => true) held fuel 22 [v] = some x) : ∃ bs : List (List Int × Value), RdB w v bs ∧ bs.length ≤ 9223372036854775807 := by
  obtain ⟨n, f, hr, hn, hf⟩ := cells1_read Tryd.underlying22 (by kernel_rfl) h
  obtain ⟨g, hg⟩ : ∃ g : Nat → List Int, ∀ i, i < n → RdZ w (f i) (g i) := choose_lt (α := List Int) (p := fun i z => RdZ w (f i) z) fun i hi => by
    obtain ⟨m, y, hy⟩ := hf i hi
    obtain ⟨zs, hz, _⟩ := ints_read hy
    exact ⟨zs, hz⟩
  refine ⟨(List.range n).map fun i => (g i, f i), ⟨fun y hy => ?_, ?_⟩, by simpa using hn⟩
  · obtain ⟨i, hi, rfl⟩ := List.mem_map.1 hy
    exact hg i (by simpa using hi)
  · rw [List.map_map, show ((·.2) ∘ fun i => (g i, f i)) = f from rfl]
    simpa using hr
end Go.Proofs.YtggcbjchnefhfaaDoor.Pl
