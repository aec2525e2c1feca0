/- Renaming the candidates (plain): bounds of tails and upper bounds stay. -/
import Derived.Test.YtkdmlakookgolaaRenPZ
import Derived.Test.YtkdmlakookgolaaMUpLZ
namespace Go.Mg
open Go.Pil
theorem bits_add : ∀ s < 128, ∀ c < 7, s.testBit c = false → ∀ i < 7, (s + 2 ^ c).testBit i = (s.testBit i || decide (i = c)) := by decide +kernel
theorem bits_add_lt : ∀ n ≤ 7, ∀ s < 2 ^ n, ∀ c < n, s.testBit c = false → s + 2 ^ c < 2 ^ n := by decide +kernel
theorem ballot_iffR (n : Int) (p : List Int) : ballot n p = true ↔ p.Nodup ∧ ∀ x ∈ p, 0 ≤ x ∧ x < n := by unfold ballot; exact decide_eq_true_iff
theorem nodup_allR (n : Nat) : (allC n).Nodup := by
  (unfold allC); (exact List.pairwise_map.2 ((List.nodup_range (n := n)).imp fun h e => h (Int.ofNat.inj e)))
/-- Two ways of naming, one the other's inverse. -/
structure Bij (n : Nat) (f g : Nat → Nat) : Prop where
  lf : ∀ i, i < n → f i < n ∧ g (f i) = i
  lg : ∀ i, i < n → g i < n ∧ f (g i) = i
theorem Bij.symm {n : Nat} {f g : Nat → Nat} (h : Bij n f g) : Bij n g f := ⟨h.lg, h.lf⟩
/-- t holds the new names of s. -/
def Rl (n : Nat) (f : Nat → Nat) (s t : Nat) : Prop := ∀ i, i < n → t.testBit (f i) = s.testBit i
section
variable {n : Nat} {f g : Nat → Nat} {s t : Nat}
theorem Rl.symm (hB : Bij n f g) (h : Rl n f s t) : Rl n g t s := fun j hj => by
  (have := h (g j) (hB.lg j hj).1); (rw [(hB.lg j hj).2] at this); (exact this.symm)
theorem Rl.mem (hB : Bij n f g) (h : Rl n f s t) {x : Int} : x ∈ sl n t ↔ ∃ c ∈ sl n s, x = (f c.toNat : Int) := by
  constructor
  · (intro hx); (obtain ⟨hr, hb⟩ := mem_sl.1 hx); (have hg := hB.lg x.toNat (by omega)); (refine ⟨(g x.toNat : Int), mem_sl.2 ⟨⟨by omega, by omega⟩, ?_⟩, ?_⟩)
    · rw [Int.toNat_natCast, Rl.symm hB h x.toNat (by omega)]; exact hb
    · rw [Int.toNat_natCast, hg.2]; omega
  · (rintro ⟨c, hc, rfl⟩); (obtain ⟨hr, hb⟩ := mem_sl.1 hc); (have hf := hB.lf c.toNat (by omega)); (exact mem_sl.2 ⟨⟨by omega, by omega⟩, by rw [Int.toNat_natCast, h c.toNat (by omega)]; exact hb⟩)
theorem Rl.len (hB : Bij n f g) (h : Rl n f s t) : (sl n t).length = (sl n s).length := by
  have hp : (sl n t).Perm ((sl n s).map fun c => (f c.toNat : Int)) := by
    refine (List.perm_ext_iff_of_nodup ((nodup_allR n).sublist List.filter_sublist) ?_).2 fun x => ?_
    · (unfold List.Nodup); (rw [List.pairwise_map]); (refine List.Pairwise.imp_of_mem (fun {a b} ha hb hab e => hab ?_) ((nodup_allR n).sublist List.filter_sublist : (sl n s).Nodup)); (have h1 := (mem_sl.1 ha).1); (have h2 := (mem_sl.1 hb).1); (have e1 := (hB.lf a.toNat (by omega)).2); (have e2 := (hB.lf b.toNat (by omega)).2); (have e3 : f a.toNat = f b.toNat := Int.ofNat.inj e); (rw [e3, e2] at e1)
      omega
    · show x ∈ sl n t ↔ _
      (rw [h.mem hB, List.mem_map]); (exact ⟨fun ⟨c, h1, h2⟩ => ⟨c, h1, h2.symm⟩, fun ⟨c, h1, h2⟩ => ⟨c, h1, h2.symm⟩⟩)
  have := hp.length_eq
  rwa [List.length_map] at this
theorem rc_map (hn : n ≤ 7) (hB : Bij n f g) {a b : List Grp} (hlow : ∀ s t, s < 2 ^ n → t < 2 ^ n → Rl n f s t → ∀ c : Nat, c < n → (c : Int) ∈ lows n a s → (f c : Int) ∈ lows n b t) (h : Rc 2 n a s) : ∀ t, t < 2 ^ n → Rl n f s t → Rc 2 n b t := by
  have h7 := pow7 hn
  induction h with
  | full =>
    intro t ht hr
    have e : t = 2 ^ n - 1 := bits_ext n hn t ht _ (by have := Nat.two_pow_pos n; omega) fun i hi => by
      (have hg := hB.lg i hi); (have := hr (g i) hg.1); (rw [hg.2, bits_full n hn _ (by omega)] at this); (rw [this, bits_full n hn i (by omega)])
      simp [hi, hg.1]
    rw [e]; exact .full
  | step h1 h2 h3 ih =>
    rename_i u c
    (intro t ht hr); (have hl := low_sub hn h1.lt h3); (obtain ⟨k, rfl⟩ : ∃ k : Nat, c = (k : Int) := ⟨c.toNat, by omega⟩); (rw [Int.toNat_natCast] at hl hr); (have hlu := h1.lt); (have hk : k < n := by omega); (have hfk := hB.lf k hk); (have hsb := bits_sub u (by omega) k (by omega) hl.2.2.2); (have hbt : t.testBit (f k) = false := by rw [hr k hk, hsb.2 k (by omega)]; simp); (have hadd := bits_add t (by omega) (f k) (by omega) hbt); (have hlt := bits_add_lt n hn t ht (f k) hfk.1 hbt)
    have hR : Rl n f u (t + 2 ^ f k) := fun i hi => by
      (have hfi := hB.lf i hi); (rw [hadd (f i) (by omega), hr i hi, hsb.2 i (by omega)])
      by_cases hik : i = k
      · subst hik; simp [hl.2.2.2]
      · have hne : f i ≠ f k := fun e => hik (by rw [← hfi.2, e, hfk.2])
        simp [hik, hne]
    (have h4 := ih _ hlt hR); (have h5 := hlow u _ h1.lt hlt hR k hk h3); (have h6 := Rc.step h4 (by rw [Rl.len hB hR]; exact h2) h5)
    rwa [Int.toNat_natCast, Nat.add_sub_cancel] at h6
end
/-! The names of a permutation. -/
section
variable {n : Nat} {p : List Int}
theorem pm_len (h : p.Perm (allC n)) : p.length = n := by rw [h.length_eq]; simp [allC]
theorem pm_mem (h : p.Perm (allC n)) {x : Int} : x ∈ p ↔ 0 ≤ x ∧ x < (n : Int) := by rw [h.mem_iff, mem_allC]
theorem pm_get (h : p.Perm (allC n)) {i : Nat} (hi : i < n) : ren1 p (i : Int) = p[i]'(by rw [pm_len h]; exact hi) := by
  (unfold ren1); (rw [Int.toNat_natCast, List.getD_eq_getElem?_getD, List.getElem?_eq_getElem (by rw [pm_len h]; exact hi)]; rfl)
theorem pm_rng (h : p.Perm (allC n)) {c : Int} (hc : 0 ≤ c ∧ c < (n : Int)) : 0 ≤ ren1 p c ∧ ren1 p c < (n : Int) := by
  (obtain ⟨i, rfl⟩ : ∃ i : Nat, c = (i : Int) := ⟨c.toNat, by omega⟩); (rw [pm_get h (by omega)]); (exact (pm_mem h).1 (List.getElem_mem _))
theorem pm_inj (h : p.Perm (allC n)) {c d : Int} (hc : 0 ≤ c ∧ c < (n : Int)) (hd : 0 ≤ d ∧ d < (n : Int)) (e : ren1 p c = ren1 p d) : c = d := by
  (obtain ⟨i, rfl⟩ : ∃ i : Nat, c = (i : Int) := ⟨c.toNat, by omega⟩); (obtain ⟨j, rfl⟩ : ∃ j : Nat, d = (j : Int) := ⟨d.toNat, by omega⟩); (rw [pm_get h (by omega), pm_get h (by omega)] at e); (have hn : p.Nodup := h.nodup_iff.2 (nodup_allR n)); (have hl := pm_len h); (have hne := List.pairwise_iff_getElem.1 hn)
  rcases Nat.lt_trichotomy i j with hij | hij | hij
  · exact absurd e (hne i j (by omega) (by omega) hij)
  · omega
  · exact absurd e.symm (hne j i (by omega) (by omega) hij)
theorem pm_surj (h : p.Perm (allC n)) {y : Int} (hy : 0 ≤ y ∧ y < (n : Int)) : ∃ c, (0 ≤ c ∧ c < (n : Int)) ∧ ren1 p c = y := by
  (obtain ⟨i, hi, e⟩ := List.getElem_of_mem ((pm_mem h).2 hy)); (have hl := pm_len h); (exact ⟨(i : Int), ⟨by omega, by omega⟩, by rw [pm_get h (by omega)]; exact e⟩)
open Classical in
noncomputable def invN (n : Nat) (p : List Int) (j : Nat) : Nat := if h : ∃ i, i < n ∧ ren1 p (i : Int) = (j : Int) then h.choose else 0
theorem pm_bij (h : p.Perm (allC n)) : Bij n (fun i => (ren1 p (i : Int)).toNat) (invN n p) := by
  have hg : ∀ j, j < n → invN n p j < n ∧ ren1 p (invN n p j : Int) = (j : Int) := fun j hj => by
    have hx : ∃ i, i < n ∧ ren1 p (i : Int) = (j : Int) := by
      (obtain ⟨c, h1, h2⟩ := pm_surj h (y := (j : Int)) ⟨by omega, by omega⟩); (exact ⟨c.toNat, by omega, by rw [Int.toNat_of_nonneg h1.1]; exact h2⟩)
    (unfold invN); (rw [dif_pos hx]); (exact hx.choose_spec)
  refine ⟨fun i hi => ?_, fun j hj => ⟨(hg j hj).1, ?_⟩⟩
  · (have hr := pm_rng h (c := (i : Int)) ⟨by omega, by omega⟩); (have h2 := hg (ren1 p (i : Int)).toNat (by omega)); (refine ⟨by show (ren1 p (i : Int)).toNat < n; omega, ?_⟩); (have := pm_inj h (c := (invN n p (ren1 p (i : Int)).toNat : Int)) (d := (i : Int)) ⟨by omega, by omega⟩ ⟨by omega, by omega⟩ (by rw [h2.2]; omega))
    show invN n p (ren1 p (i : Int)).toNat = i
    omega
  · show (ren1 p (invN n p j : Int)).toNat = j
    rw [(hg j hj).2]; omega
theorem ren_mem (h : p.Perm (allC n)) {l : List Int} (hl : ∀ x ∈ l, 0 ≤ x ∧ x < (n : Int)) {x : Int} (hx : 0 ≤ x ∧ x < (n : Int)) : ren1 p x ∈ ren p l ↔ x ∈ l := by
  (unfold ren); (rw [List.mem_map]); (exact ⟨fun ⟨y, hy, e⟩ => by rw [← pm_inj h (hl y hy) hx e]; exact hy, fun h => ⟨x, h, rfl⟩⟩)
theorem find_congr {f g : Int → Bool} : ∀ {q : List Int}, (∀ x ∈ q, f x = g x) → q.find? f = q.find? g
  | [], _ => rfl
  | x :: q, h => by
    rw [List.find?_cons, List.find?_cons, h x List.mem_cons_self, find_congr fun y hy => h y (List.mem_cons_of_mem _ hy)]
theorem hd_ren (h : p.Perm (allC n)) {l q : List Int} (hl : ∀ x ∈ l, 0 ≤ x ∧ x < (n : Int)) (hq : ∀ x ∈ q, 0 ≤ x ∧ x < (n : Int)) : hd (flags n (ren p l)) (ren p q) = (hd (flags n l) q).map (ren1 p) := by
  (unfold hd kept); (rw [List.head?_filter, List.head?_filter]); (unfold ren); (rw [List.find?_map])
  congr 1
  refine find_congr fun x hx => ?_
  show inB (flags n (ren p l)) (ren1 p x) = inB (flags n l) x
  (rw [flags_in, flags_in]); (have h1 := hq x hx); (have h2 := pm_rng h h1); (have h3 := ren_mem h hl h1); (exact decide_eq_decide.2 ⟨fun ⟨_, _, h'⟩ => ⟨h1.1, h1.2, h3.1 h'⟩, fun ⟨_, _, h'⟩ => ⟨h2.1, h2.2, h3.2 h'⟩⟩)
theorem hd_memR {R : List Bool} {q : List Int} {x : Int} (h : hd R q = some x) : x ∈ q := by
  (unfold hd kept at h); (rw [List.head?_filter] at h); (exact List.mem_of_find?_eq_some h)
theorem ren_sum (Q : List Int → Bool) (gs : List Grp) : sumIf Q (renP p gs) = sumIf (fun q => Q (ren p q)) gs := by
  (unfold renP); (rw [sumIf_pileOf]); (unfold sumIf); (rw [List.map_map]; rfl)
/-- Piles whose ballots name candidates only. -/
def InR (n : Nat) (gs : List Grp) : Prop := ∀ g ∈ gs, ∀ x ∈ g.p, 0 ≤ x ∧ x < (n : Int)
theorem vt_ren (h : p.Perm (allC n)) {gs : List Grp} (hb : InR n gs) {l : List Int} (hl : ∀ x ∈ l, 0 ≤ x ∧ x < (n : Int)) {c : Int} (hc : 0 ≤ c ∧ c < (n : Int)) : vt n (renP p gs) (ren p l) (ren1 p c) = vt n gs l c := by
  (have hr := pm_rng h hc); (rw [vt_eq _ _ hr.1 hr.2, vt_eq _ _ hc.1 hc.2, ren_sum]); (refine sumIf_congr fun g hg => ?_)
  show (hd (flags n (ren p l)) (ren p g.p) == some (ren1 p c)) = (hd (flags n l) g.p == some c)
  rw [hd_ren h hl (hb g hg)]
  cases hx : hd (flags n l) g.p with
  | none => rfl
  | some x =>
    have hxr := hb g hg x (hd_memR hx)
    show (some (ren1 p x) == some (ren1 p c)) = (some x == some c)
    by_cases e : x = c
    · subst e; simp
    · (have e2 : ren1 p x ≠ ren1 p c := fun e' => e (pm_inj h hxr hc e')); (rw [beq_eq_false_iff_ne.2 (fun e' => e (Option.some.inj e')), beq_eq_false_iff_ne.2 (fun e' => e2 (Option.some.inj e'))])
theorem vt_congrR {gs : List Grp} {l m : List Int} (h : ∀ x : Int, 0 ≤ x → x < n → (x ∈ l ↔ x ∈ m)) (c : Int) : vt n gs l c = vt n gs m c := by unfold vt; rw [flags_congr h]
theorem vt_renA (h : p.Perm (allC n)) {gs : List Grp} (hb : InR n gs) {c : Int} (hc : 0 ≤ c ∧ c < (n : Int)) : vt n (renP p gs) (allC n) (ren1 p c) = vt n gs (allC n) c := by
  (have hl : ∀ x ∈ allC n, 0 ≤ x ∧ x < (n : Int) := fun x hx => mem_allC.1 hx); (rw [← vt_ren h hb hl hc]); (refine vt_congrR (fun x h0 hn => ?_) _); (obtain ⟨y, hy, rfl⟩ := pm_surj h (y := x) ⟨h0, hn⟩); (rw [ren_mem h hl hy, mem_allC, mem_allC]); (exact ⟨fun _ => hy, fun _ => pm_rng h hy⟩)
theorem idx_ren (h : p.Perm (allC n)) {a : Int} (ha : 0 ≤ a ∧ a < (n : Int)) : ∀ {q : List Int}, (∀ x ∈ q, 0 ≤ x ∧ x < (n : Int)) → (ren p q).idxOf (ren1 p a) = q.idxOf a
  | [], _ => rfl
  | x :: q, hq => by
    (have ih := idx_ren h ha (q := q) fun y hy => hq y (List.mem_cons_of_mem _ hy)); (have hx := hq x List.mem_cons_self)
    show (ren1 p x :: ren p q).idxOf (ren1 p a) = _
    rw [List.idxOf_cons, List.idxOf_cons, ih]
    by_cases e : x = a
    · subst e; simp
    · (have e2 : ren1 p x ≠ ren1 p a := fun e' => e (pm_inj h hx ha e')); (rw [beq_eq_false_iff_ne.2 e, beq_eq_false_iff_ne.2 e2])
theorem ren_ballot (h : p.Perm (allC n)) {q : List Int} (hq : ballot (n : Int) q = true) : ballot (n : Int) (ren p q) = true := by
  (obtain ⟨h1, h2⟩ := (ballot_iffR _ _).1 hq); (refine (ballot_iffR _ _).2 ⟨?_, fun x hx => ?_⟩)
  · (unfold ren List.Nodup); (rw [List.pairwise_map]); (exact List.Pairwise.imp_of_mem (fun {a b} ha hb hab e => hab (pm_inj h (h2 a ha) (h2 b hb) e)) h1)
  · (unfold ren at hx); (obtain ⟨y, hy, rfl⟩ := List.mem_map.1 hx); (exact pm_rng h (h2 y hy))
theorem ren_pile (h : p.Perm (allC n)) {gs : List Grp} (hp : isPile (n : Int) gs = true) : isPile (n : Int) (renP p gs) = true := by
  (obtain ⟨h1, h2, h3⟩ := (isPile_iff _ _).1 hp); (have hpos : ∀ g ∈ gs.map (renG p), 1 ≤ g.n := renG_pos fun g hg => (h1 g hg).2); (refine (isPile_iff _ _).2 ⟨fun g hg => ⟨?_, pileOf_pos hpos g hg⟩, ?_, pileOf_srt hpos⟩)
  · (obtain ⟨y, hy, e⟩ := pileOf_mem hpos g hg); (rw [← e]); (obtain ⟨z, hz, rfl⟩ := List.mem_map.1 hy); (exact ren_ballot h (h1 z hz).1)
  · show tot (pileOf (gs.map (renG p))) ≤ 100000
    rw [pileOf_tot hpos, renG_tot]; exact h2
theorem pile_inR {gs : List Grp} (hp : isPile (n : Int) gs = true) : InR n gs := fun g hg => ((ballot_iffR _ _).1 (((isPile_iff _ _).1 hp).1 g hg).1).2
theorem ren_prefers (h : p.Perm (allC n)) (h7 : n ≤ 7) {gs : List Grp} (hp : isPile (n : Int) gs = true) {a b : Int} (ha : 0 ≤ a ∧ a < (n : Int)) (hb : 0 ≤ b ∧ b < (n : Int)) : prefers (renP p gs) (ren1 p a) (ren1 p b) = prefers gs a b := by
  (have p1 : isPile 7 gs = true := isPile_mono (by omega) hp); (have p2 : isPile 7 (renP p gs) = true := isPile_mono (by omega) (ren_pile h hp)); (unfold prefers)
  by_cases e : a = b
  · subst e; rw [if_neg (fun h => h.2 rfl), if_neg (fun h => h.2 rfl)]
  · (rw [if_pos ⟨p2, fun e' => e (pm_inj h ha hb e')⟩, if_pos ⟨p1, e⟩, ren_sum]); (refine sumIf_congr fun g hg => ?_)
    show pref (ren p g.p) (ren1 p a) (ren1 p b) = pref g.p a b
    (unfold pref); (rw [idx_ren h ha (pile_inR hp g hg), idx_ren h hb (pile_inR hp g hg)])
theorem ren_drop (l : List Int) (i : Nat) : (ren p l).drop i = ren p (l.drop i) := by unfold ren; rw [List.map_drop]
theorem bd_ren (h : p.Perm (allC n)) (h7 : n ≤ 7) {gs : List Grp} (hp : isPile (n : Int) gs = true) {tail : List Int} (ht : ∀ x ∈ tail, 0 ≤ x ∧ x < (n : Int)) : bd n (renP p gs) (ren p tail) = bd n gs tail := by
  (have hb := pile_inR hp); (have hlen : (ren p tail).length = tail.length := by unfold ren; rw [List.length_map]); (have hdr : ∀ i, ∀ x ∈ tail.drop i, 0 ≤ x ∧ x < (n : Int) := fun i x hx => ht x (List.mem_of_mem_drop hx))
  have e1 : din n (renP p gs) (ren p tail) = din n gs tail := by
    (unfold din); (rw [hlen])
    have : ∀ L : List Nat, (∀ i ∈ L, i < tail.length) → (L.flatMap fun i => ((ren p tail).drop (i + 1)).map fun d => vt n (renP p gs) ((ren p tail).drop i) ((ren p tail).getD i 0) - vt n (renP p gs) ((ren p tail).drop i) d) = L.flatMap fun i => (tail.drop (i + 1)).map fun d => vt n gs (tail.drop i) (tail.getD i 0) - vt n gs (tail.drop i) d := by
      intro L hL
      induction L with
      | nil => rfl
      | cons i L ih =>
        rw [List.flatMap_cons, List.flatMap_cons, ih fun j hj => hL j (List.mem_cons_of_mem _ hj)]
        congr 1
        have hi := hL i List.mem_cons_self
        have hg : (ren p tail).getD i 0 = ren1 p (tail.getD i 0) := by
          (unfold ren); (rw [List.getD_eq_getElem?_getD, List.getD_eq_getElem?_getD, List.getElem?_map, List.getElem?_eq_getElem hi]; rfl)
        (have hgr := ht (tail.getD i 0) (by rw [List.getD_eq_getElem?_getD, List.getElem?_eq_getElem hi]; exact List.getElem_mem hi)); (rw [ren_drop, ren_drop, hg]); (unfold ren); (rw [List.map_map]); (refine List.map_congr_left fun d hd => ?_); (have hdr1 := hdr (i + 1) d hd)
        show vt n (renP p gs) (ren p (tail.drop i)) _ - vt n (renP p gs) (ren p (tail.drop i)) (ren1 p d) = _
        rw [vt_ren h hb (hdr i) hgr, vt_ren h hb (hdr i) hdr1]
    exact this _ fun i hi => List.mem_range.1 hi
  have e2 : ∀ x, x ∈ dout n (renP p gs) (ren p tail) ↔ x ∈ dout n gs tail := fun x => by
    unfold dout
    constructor
    · (intro hx); (obtain ⟨e, he, hx⟩ := List.mem_flatMap.1 hx); (obtain ⟨t, htm, rfl⟩ := List.mem_map.1 hx); (obtain ⟨h1, h2⟩ := List.mem_filter.1 he); (obtain ⟨e', he', rfl⟩ := pm_surj h (mem_allC.1 h1)); (unfold ren at htm); (obtain ⟨t', ht', rfl⟩ := List.mem_map.1 htm); (have h2 := of_decide_eq_true h2); (rw [ren_mem h ht he'] at h2); (refine List.mem_flatMap.2 ⟨e', List.mem_filter.2 ⟨mem_allC.2 he', decide_eq_true h2⟩, List.mem_map.2 ⟨t', ht', ?_⟩⟩); (rw [vt_renA h hb he', ren_prefers h h7 hp (ht t' ht') he'])
    · (intro hx); (obtain ⟨e, he, hx⟩ := List.mem_flatMap.1 hx); (obtain ⟨t, htm, rfl⟩ := List.mem_map.1 hx); (obtain ⟨h1, h2⟩ := List.mem_filter.1 he); (have he' := mem_allC.1 h1); (have h2 := of_decide_eq_true h2); (refine List.mem_flatMap.2 ⟨ren1 p e, List.mem_filter.2 ⟨mem_allC.2 (pm_rng h he'), decide_eq_true (by rw [ren_mem h ht he']; exact h2)⟩, List.mem_map.2 ⟨ren1 p t, ?_, ?_⟩⟩)
      · unfold ren; exact List.mem_map_of_mem htm
      · rw [vt_renA h hb he', ren_prefers h h7 hp (ht t htm) he']
  (unfold bd); (rw [e1])
  congr 1
  exact mx_eq (fun x hx => .inr (by
    rcases List.mem_append.1 hx with hx | hx
    · exact List.mem_append_left _ hx
    · exact List.mem_append_right _ ((e2 x).1 hx))) (fun x hx => .inr (by
    rcases List.mem_append.1 hx with hx | hx
    · exact List.mem_append_left _ hx
    · exact List.mem_append_right _ ((e2 x).2 hx)))
/-- P31: Tail's bound does not depend on the names. -/
theorem tail_ren (h : p.Perm (allC n)) (h1 : 1 ≤ n) (h7 : n ≤ 7) {gs : List Grp} (hp : isPile (n : Int) gs = true) {tail : List Int} (ht : isTail (n : Int) tail = true) : tailB (n : Int) (renP p gs) (ren p tail) = tailB (n : Int) gs tail := by
  have ht2 : isTail (n : Int) (ren p tail) = true := by
    (unfold isTail at ht ⊢); (rw [Bool.and_eq_true] at ht ⊢); (refine ⟨decide_eq_true fun e => of_decide_eq_true ht.1 ?_, ren_ballot h ht.2⟩); (unfold ren at e); (exact List.map_eq_nil_iff.1 e)
  have hr : ∀ x ∈ tail, 0 ≤ x ∧ x < (n : Int) := by
    (unfold isTail at ht); (rw [Bool.and_eq_true] at ht); (exact ((ballot_iffR _ _).1 ht.2).2)
  (unfold tailB); (rw [if_pos ⟨⟨by omega, by omega⟩, ren_pile h hp, ht2⟩, if_pos ⟨⟨by omega, by omega⟩, hp, ht⟩, Int.toNat_natCast, bd_ren h h7 hp hr])
end
end Go.Mg
