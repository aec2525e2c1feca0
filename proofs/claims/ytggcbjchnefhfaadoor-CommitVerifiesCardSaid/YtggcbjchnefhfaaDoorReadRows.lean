/- What a row's data say of slices of structs and of bools. -/
import Derived.Test.YtggcbjchnefhfaaDoorRead2
import Derived.ChangeSame
import Derived.ChangeArms
namespace Go.Proofs.YtggcbjchnefhfaaDoor
open Go.ChangeShapes Go.WideShapes Go.ChangeAt Go.RowKit Go.Mk Go.Sha Go.Deep
theorem flat_get {f : Nat → List Value} {n sz : Nat} (hf : ∀ i, i < n → (f i).length = sz) (i r : Nat) (hi : i < n) (hr : r < sz) : ((List.range n).flatMap f)[i * sz + r]? = (f i)[r]? := by
  induction n with
  | zero => omega
  | succ n ih =>
    have hl : ((List.range n).flatMap f).length = n * sz := by
      have : ∀ m, m ≤ n → ((List.range m).flatMap f).length = m * sz := by
        intro m hm
        induction m with
        | zero => simp
        | succ m ihm => rw [List.range_succ, List.flatMap_append, List.length_append, ihm (by omega)]; simp [hf m (by omega), Nat.succ_mul]
      exact this n (Nat.le_refl _)
    rw [List.range_succ, List.flatMap_append]
    by_cases h : i < n
    · have : i * sz + r < n * sz := by
        have : (i + 1) * sz ≤ n * sz := Nat.mul_le_mul_right _ h
        rw [Nat.succ_mul] at this; omega
      rw [List.getElem?_append_left (by rw [hl]; exact this)]
      exact ih (fun j hj => hf j (by omega)) h
    · obtain rfl : i = n := by omega
      rw [List.getElem?_append_right (by rw [hl]; omega), hl, Nat.add_sub_cancel_left]
      simp
theorem flat_len {f : Nat → List Value} {n sz : Nat} (hf : ∀ i, i < n → (f i).length = sz) : ((List.range n).flatMap f).length = n * sz := by
  induction n with
  | zero => simp
  | succ n ih => rw [List.range_succ, List.flatMap_append, List.length_append, ih fun j hj => hf j (by omega)]; simp [hf n (by omega), Nat.succ_mul]
theorem add_add (a : Addr) (h : a = ⟨a.block, a.off, none⟩) (i r : Nat) : (a.add i).add r = ⟨a.block, a.off + (i + r), none⟩ := by
  obtain ⟨b, o, s⟩ := a
  obtain rfl : s = none := by simpa using h
  have one : ∀ o i : Nat, (⟨b, o, none⟩ : Addr).add i = ⟨b, o + i, none⟩ := fun o i => by
    unfold Addr.add
    by_cases hi : i = 0
    · subst hi; simp
    · simp [hi]
  rw [one, one, Nat.add_assoc]
theorem flat_congr {α β : Type} {l : List α} {f g : α → List β} (h : ∀ x ∈ l, f x = g x) : l.flatMap f = l.flatMap g := by
  induction l with
  | nil => rfl
  | cons x l ih => rw [List.flatMap_cons, List.flatMap_cons, h x (by simp), ih fun y hy => h y (by simp [hy])]
/-- A slice whose elements have sz cells. -/
theorem rows_read {H : Type} {enc : TypeId × Value → H} {P : Program} {w : World} {base : Nat} {held : Bool} {fuel : Nat} {t e : TypeId} {sz : Nat} {v : Value} {x : DataW H × List MemPlace}
    (ht : P.underlying t = some (.slice e)) (hsz : P.cellsOf e = sz) (hpos : 0 < sz) (h : DataW.trod enc P w base (fun _ => true) held fuel t [v] = some x) :
    ∃ (n : Nat) (f : Nat → List Value), Rd w sz v n ((List.range n).flatMap f) ∧ n ≤ 9223372036854775807 ∧ ∀ i, i < n → (f i).length = sz ∧ ∃ m y, DataW.trod enc P w base (fun _ => true) held m e (f i) = some y := by
  rcases open_slice ht h with ⟨hv, _⟩ | ⟨a, len, cap, m, n, D, Pl, hv, _, hlc, hcm, hm, _, hel⟩
  · obtain rfl : v = .slice none 0 0 := by simpa using hv
    exact ⟨0, fun _ => [], ⟨by simp, none, 0, rfl, Nat.le_refl _, Nat.zero_le _, .inl rfl⟩, by decide, fun i hi => absurd hi (by omega)⟩
  · obtain rfl : v = .slice (some a) len cap := by simpa using hv
    simp only [if_true] at hm
    subst hm
    rw [hsz] at hel
    obtain ⟨f, hf⟩ : ∃ f : Nat → List Value, ∀ i, i < m → w.cells? base (a.add (i * sz)) sz = some (f i) ∧ DataW.trod enc P w base (fun _ => true) held n e (f i) = some (D i, Pl i) :=
      choose_lt (α := List Value) (p := fun i z => w.cells? base (a.add (i * sz)) sz = some z ∧ DataW.trod enc P w base (fun _ => true) held n e z = some (D i, Pl i)) hel
    have hfl : ∀ i, i < m → (f i).length = sz := fun i hi => (World.cells?_some (hf i hi).1).2.1
    have hfc : ∀ i, i < m → ∀ r, r < sz → w.cell? ((a.add (i * sz)).add r) = (f i)[r]? := fun i hi r hr => (World.cells?_some (hf i hi).1).2.2 r hr
    rw [maxLen_eq] at hcm
    refine ⟨len, f, ⟨flat_len fun i hi => hfl i (by omega), some a, m, rfl, hlc, by rw [maxLen_eq]; exact hcm, ?_⟩, by omega, fun i hi => ⟨hfl i (by omega), n, _, (hf i (by omega)).2⟩⟩
    by_cases h0 : m = 0
    · exact .inl h0
    · have hp : a = ⟨a.block, a.off, none⟩ := by
        have h1 := hfc 0 (by omega) 0 hpos
        obtain ⟨u, hu⟩ : ∃ u, (f 0)[0]? = some u := ⟨_, List.getElem?_eq_getElem (by rw [hfl 0 (by omega)]; exact hpos)⟩
        rw [hu] at h1
        have := plain_addr h1
        simpa [Addr.add] using this
      refine .inr ⟨a.block, a.off, by rw [← hp], fun j u hu => ?_⟩
      have hj : j < len * sz := by
        have := (List.getElem?_eq_some_iff.1 hu).1
        rwa [flat_len fun i hi => hfl i (by omega)] at this
      have hq : j / sz < len := by rw [Nat.div_lt_iff_lt_mul hpos]; exact hj
      have hr : j % sz < sz := Nat.mod_lt _ hpos
      have e1 : j = j / sz * sz + j % sz := by rw [Nat.mul_comm]; exact (Nat.div_add_mod j sz).symm
      rw [e1, flat_get (fun i hi => hfl i (by omega)) _ _ hq hr] at hu
      have := hfc (j / sz) (by omega) (j % sz) hr
      rw [add_add a hp, ← e1, hu] at this
      exact this
theorem bools_read {H : Type} {enc : TypeId × Value → H} {w : World} {base : Nat} {held : Bool} {fuel : Nat} {v : Value} {x : DataW H × List MemPlace}
    (h : DataW.trod enc Tryd.prog w base (fun _ => true) held fuel 23 [v] = some x) : ∃ xs : List Bool, Rd w 1 v xs.length (xs.map Value.bool) ∧ xs.length ≤ 9223372036854775807 := by
  obtain ⟨n, f, hr, hn, hf⟩ := rows_read Tryd.underlying23 (sz := 1) (by kernel_rfl) (by decide) h
  obtain ⟨g, hg⟩ : ∃ g : Nat → Bool, ∀ i, i < n → f i = [.bool (g i)] := choose_lt (p := fun i z => f i = [.bool z]) fun i hi => by
    obtain ⟨_, m, y, hy⟩ := hf i hi
    obtain ⟨b, hb, _⟩ := DataW.trod_bool Tryd.underlying4 hy
    exact ⟨b, hb⟩
  refine ⟨(List.range n).map g, ?_, by simpa using hn⟩
  have e : (List.range n).flatMap f = ((List.range n).map g).map Value.bool := by
    rw [List.map_map, List.map_eq_flatMap]
    apply flat_congr
    intro i hi
    exact hg i (by simpa using hi)
  rw [← e]
  simpa using hr
end Go.Proofs.YtggcbjchnefhfaaDoor
