/- Sorting groups by their preferences: slices.SortFunc's contract at the closure of merge. -/
import Derived.Test.YtmigdhbolbhbeaaSrt
import Derived.Shelf.SlSortCmp.NoneTotal
namespace Go.Mk
open Go.RowKit Go.Sort
section
variable {α : Type} [Inhabited α] {enc : α → List Value} {k : Nat} {w : World} {blk : Nat}
omit [Inhabited α] in
theorem extract_all (a : Array α) (n : Nat) (h : a.size = n) : a.extract 0 n = a := by subst h; exact Array.extract_size
theorem flatK_get (hk : ∀ x, (enc x).length = k) (d : Array α) (j : Nat) (hj : j < d.size * k) : (d.toList.flatMap enc)[j]? = some (flatK enc k d)[j]! := by
  have hk0 : 0 < k := by rcases Nat.eq_zero_or_pos k with h | h; subst h; simp at hj; exact h
  have hq : j / k < d.size := by rw [Nat.div_lt_iff_lt_mul hk0]; exact hj
  have hr : j % k < k := Nat.mod_lt _ hk0
  rw [get_flatK _ _ _ _ hj]
  have e1 : j = j / k * k + j % k := by rw [Nat.mul_comm]; exact (Nat.div_add_mod j k).symm
  have := flatAt (f := enc) (sz := k) (ps := d.toList) (fun x _ => hk x) (j / k) (j % k) (by simpa using hq) hr
  rw [← e1] at this
  rw [this]
  have hd : d[j / k]! = d.toList[j / k]'(by simpa using hq) := by rw [getElem!_pos d _ hq]; simp
  rw [hd, List.getElem?_eq_getElem (by rw [hk]; exact hr)]
  congr 1
  rw [getElem!_pos _ _ (by rw [hk]; exact hr)]
theorem kept_sortK (off m : Nat) (dk : Array α) (os : Array Obj) : Kept (fun j => j = blk) w (Go.Proofs.sortWorldK enc k w blk off m dk os) := by
  have hs : (putRowK enc k (Go.Sort.ahead w m) blk off dk).heap.size = w.heap.size := by rw [size_putRowK]; rfl
  refine ⟨rfl, rfl, rfl, ?_, fun j hj hne => ?_⟩
  · unfold Go.Proofs.sortWorldK; rw [size_grow, hs]; omega
  · have hne : j ≠ blk := hne
    unfold Go.Proofs.sortWorldK grow
    simp only
    rw [Array.getElem?_append_left (by rw [hs]; exact hj)]
    unfold putRowK putRow mapBlock
    simp only [Array.getElem?_modify]
    rw [if_neg (Ne.symm hne)]; rfl
theorem holds_own {e : TypeId} {n cap : Nat} (hk : ∀ x, (enc x).length = k) (d : Array α) (_ : d.size = n) (ho : w.ownsRow 0 e k (.slice (some ⟨blk, 0, none⟩) n cap) n (d.toList.flatMap enc)) : HoldsK enc k w blk 0 d := by
  intro j hj
  rw [size_flatK] at hj
  have hg := flatK_get hk d j hj
  obtain ⟨_, ⟨h, _⟩ | ⟨g, c, cur, e', _, hgb, hnc, hcm, hcs, ht⟩⟩ := ho
  · cases h
  · cases e'
    refine ⟨?_, row_free hgb _⟩
    rw [cell_of_row w _ _ cur _ (0, 0) hgb, Nat.zero_add]
    rw [← ht, List.getElem?_take] at hg
    split at hg
    · simpa using hg
    · cases hg
theorem own_sortK {e : TypeId} {n cap m : Nat} (hk : ∀ x, (enc x).length = k) (d0 d : Array α) (os : Array Obj) (hn : d0.size = n) (hn' : d.size = n) (ho : w.ownsRow 0 e k (.slice (some ⟨blk, 0, none⟩) n cap) n (d0.toList.flatMap enc)) :
    (Go.Proofs.sortWorldK enc k w blk 0 m d os).ownsRow 0 e k (.slice (some ⟨blk, 0, none⟩) n cap) n (d.toList.flatMap enc) := by
  have hH := holds_own hk d0 hn ho
  have hlen : (d.toList.flatMap enc).length = n * k := by rw [flatLen (sz := k) fun x _ => hk x]; simp [hn']
  obtain ⟨_, ⟨h, _⟩ | ⟨g, c, cur, e', _, hgb, hnc, hcm, hcs, ht⟩⟩ := ho
  · cases h
  · cases e'
    have hb : blk < w.heap.size := lt_of_heap hgb
    have hH' := Go.Proofs.holdsK_sortWorldK_c enc k w blk 0 d0 d m os hH hb (by rw [hn, hn'])
    have hh : (Go.Proofs.sortWorldK enc k w blk 0 m d os).heap[blk]? = some (.cells (putCells id 0 (flatK enc k d) cur) e (0, 0)) := by
      have hs : (putRowK enc k (Go.Sort.ahead w m) blk 0 d).heap.size = w.heap.size := by rw [size_putRowK]; rfl
      unfold Go.Proofs.sortWorldK grow
      simp only
      rw [Array.getElem?_append_left (by rw [hs]; exact hb)]
      unfold putRowK putRow mapBlock
      simp only [Array.getElem?_modify, if_pos]
      show Option.map _ (w.heap[blk]?) = _
      rw [hgb]; rfl
    refine ⟨hlen, .inr ⟨blk, cap, _, rfl, Nat.zero_le _, hh, hnc, hcm, by simp [putCells, hcs], ?_⟩⟩
    have hsz : (putCells id 0 (flatK enc k d) cur).size = cap * k := by simp [putCells, hcs]
    have hle : n * k ≤ cap * k := Nat.mul_le_mul_right _ hnc
    refine List.ext_getElem? fun j => ?_
    rw [List.getElem?_take]
    by_cases hj : j < n * k
    · rw [if_pos hj, flatK_get hk d j (by rw [hn']; exact hj)]
      have := (hH' j (by rw [size_flatK, hn']; exact hj)).1
      rw [cell_of_row _ _ _ _ _ (0, 0) hh, Nat.zero_add] at this
      simpa using this
    · rw [if_neg hj, List.getElem?_eq_none (by omega)]
end
end Go.Mk
namespace Go.Proofs.Ytmigdhbolbhbeaa
open Go.RowKit Go.Mk Go.Pil Go.Sort
set_option maxRecDepth 20000 in
set_option maxHeartbeats 1000000 in
theorem closure_any (x y : Grp × Value) (W : World) (hx : RdZ W x.2 x.1.p) (hy : RdZ W y.2 y.1.p) : Calls Try.prog 74 #[.agg (grpC x).toArray, .agg (grpC y).toArray] W fun e w' => e = .returned (.int .i64 (cmp x.1.p y.1.p)) ∧ ∃ q os', w' = grow (W.drewN q) os' := by
  obtain ⟨⟨xp, xn⟩, xv⟩ := x
  obtain ⟨⟨yp, yn⟩, yv⟩ := y
  simp only at hx hy ⊢
  obtain ⟨ax, cx, rfl, _, _⟩ := Rd.shape2 hx
  obtain ⟨ay, cy, rfl, _, _⟩ := Rd.shape2 hy
  obtain ⟨lx, hlx⟩ : ∃ l, xp.length = l := ⟨_, rfl⟩
  obtain ⟨ly, hly⟩ : ∃ l, yp.length = l := ⟨_, rfl⟩
  rw [hlx] at hx ⊢
  rw [hly] at hy ⊢
  have k1 := ((Kept.refl no W).alloc (.cells #[.slice ax lx cx, .int .i64 xn] 67)).alloc (.cells #[.slice ay ly cy, .int .i64 yn] 67)
  have HC := hid (compare_any (.slice ax lx cx) (.slice ay ly cy) xp yp _ (hx.kept k1) (hy.kept k1))
  replace hx := hid hx
  replace hy := hid hy
  replace hlx := hid hlx
  replace hly := hid hly
  clear k1
  unfold grpC
  go_enter Try.func74, Try.ntmps74
  go_wp2_with fail
  refine HC.out.mono ?_
  rintro e w1 ⟨rfl, rfl⟩
  go_wp2
  go_ret
  exact ⟨rfl, 0, _, by rw [alloc_eq_grow, alloc_eq_grow, grow_grow]; rfl⟩
/-- A group whose preferences can be read in every world that differs from w in v's row alone. -/
structure PG (w : World) (v : Value) where
  x : Grp × Value
  ok : ∀ W, Kept (ob v) w W → RdZ W x.2 x.1.p
def encG {w : World} {v : Value} (x : PG w v) : List Value := grpC x.x
theorem swo_lt {w : World} {v : Value} : SWO (ltOf fun x y : PG w v => cmp x.x.1.p y.x.1.p) := by
  have e : ∀ x y : PG w v, ltOf (fun x y : PG w v => cmp x.x.1.p y.x.1.p) x y = lt x.x.1.p y.x.1.p := fun x y => by
    unfold ltOf
    cases h : lt x.x.1.p y.x.1.p with
    | true => exact decide_eq_true ((cmp_lt _ _).2 h)
    | false => exact decide_eq_false fun hh => by have := (cmp_lt _ _).1 hh; rw [h] at this; cases this
  refine ⟨fun x => by rw [e]; exact lt_irrefl _, fun x y z h1 h2 => by rw [e] at *; exact lt_trans h1 h2, fun x y z h1 h2 => ?_⟩
  rw [e] at *
  cases h3 : lt x.x.1.p z.x.1.p with
  | false => rfl
  | true =>
    rcases lt_tri x.x.1.p y.x.1.p with h | h | h
    · rw [h] at h1; cases h1
    · rw [h] at h3; rw [h3] at h2; cases h2
    · have := lt_trans h h3; rw [this] at h2; cases h2
set_option maxRecDepth 20000 in
set_option maxHeartbeats 1000000 in
theorem sort_any (v : Value) (ps : List (Grp × Value)) (w : World) (ho : w.ownsRow 0 67 2 v ps.length (flatG ps)) (hp : ∀ x ∈ ps, ∀ W, Kept (ob v) w W → RdZ W x.2 x.1.p) (hn : ps.length ≤ 1000000) :
    Calls Try.prog 73 #[v, .func (.func 74) #[] #[]] w fun e w' => e = .returned (.tuple #[]) ∧ ∃ qs, ps.Perm qs ∧ (qs.Pairwise fun a b => lt b.1.p a.1.p = false) ∧ w'.ownsRow 0 67 2 v qs.length (flatG qs) ∧ Kept (ob v) w w' := by
  by_cases h0 : ps = []
  · subst h0
    obtain ⟨a, c, rfl⟩ : ∃ a c, v = .slice a 0 c := by obtain ⟨_, ⟨h, _⟩ | ⟨g, c, cur, h, _⟩⟩ := ho; exact ⟨_, _, h⟩; exact ⟨_, _, h⟩
    refine (AnyF.slices_SortFunc_none sortLays a c (.func (.func 74) #[] #[]) w).mono ?_
    rintro e w' ⟨rfl, rfl⟩
    exact ⟨rfl, [], List.Perm.refl _, List.Pairwise.nil, ho, Kept.refl _ _⟩
  · have ho' := ho
    obtain ⟨_, ⟨_, h⟩ | ⟨g, c, cur, rfl, _, hgb, _⟩⟩ := ho'
    · exact absurd (List.eq_nil_of_length_eq_zero h) h0
    have hb : g < w.heap.size := lt_of_heap hgb
    obtain ⟨d, hd⟩ : ∃ d : List (PG w (.slice (some ⟨g, 0, none⟩) ps.length c)), d.map PG.x = ps := ⟨ps.attach.map fun x => ⟨x.1, hp x.1 x.2⟩, by rw [List.map_map]; exact List.attach_map_subtype_val ps⟩
    have hne : d ≠ [] := fun h => h0 (by rw [← hd, h]; rfl)
    haveI : Inhabited (PG w (.slice (some ⟨g, 0, none⟩) ps.length c)) := ⟨d.head hne⟩
    have hdl : d.toArray.size = ps.length := by have := congrArg List.length hd; simpa using this
    have hfl : flatG ps = d.toArray.toList.flatMap encG := by
      have : flatG (d.map PG.x) = d.flatMap encG := by unfold flatG encG; rw [List.flatMap_map]
      rw [hd] at this
      exact this
    have hk : ∀ x : PG w (.slice (some ⟨g, 0, none⟩) ps.length c), (encG x).length = 2 := fun _ => rfl
    rw [hfl] at ho
    have hH := holds_own hk d.toArray hdl ho
    have eg : ∀ args w, (callFunc 74 args).run Try.prog w = .ok (.enter 74 args) w := enters_of Try.func74 (by kernel_rfl) rfl
    have hobe : ∀ j, j = g → ob (.slice (some ⟨g, 0, none⟩) ps.length c) j := fun j h => by rw [h]; rfl
    have hcmp : CmpLays Try.prog 74 #[] encG 2 (fun x y : PG w (.slice (some ⟨g, 0, none⟩) ps.length c) => cmp x.x.1.p y.x.1.p) g 0 d.toArray.size w := fun m os dk _ x y => by
      have kk : Kept (ob (.slice (some ⟨g, 0, none⟩) ps.length c)) w (sortWorldK encG 2 w g 0 m dk os) := (kept_sortK (w := w) 0 m dk os).mono fun j _ h => hobe j h
      exact closure_any x.x y.x _ (x.ok _ kk) (y.ok _ kk)
    have hcon := AnyQ.slices_SortFunc sortLays 2 (fun _ => by kernel_rfl) (fun _ => by kernel_rfl) encG hk (fun x u hu => by
      simp only [encG, grpC, List.mem_cons, List.not_mem_nil, or_false] at hu
      rcases hu with rfl | rfl
      · exact RdZ.one (x.ok w (Kept.refl _ _))
      · rfl) (fun x y => cmp x.x.1.p y.x.1.p) swo_lt 74 #[] g 0 c d.toArray w eg hcmp hH hb (by rw [hdl]; omega)
    rw [hdl] at hcon
    refine hcon.mono ?_
    rintro e w' ⟨rfl, d', n, os, hperm, hsort, rfl⟩
    obtain ⟨hsz, _, hpm⟩ := hperm
    rw [hdl] at hsz
    have hex : ∀ a : Array (PG w (.slice (some ⟨g, 0, none⟩) ps.length c)), a.size = ps.length → a.extract 0 ps.length = a := fun a h => extract_all a _ h
    rw [hex d' hsz, hex d.toArray hdl] at hpm
    have hpq : ps.Perm (d'.toList.map PG.x) := by
      have := (hpm.symm.map PG.x)
      rwa [show (d.toArray.toList.map PG.x) = ps from by simpa using hd] at this
    have hql : (d'.toList.map PG.x).length = ps.length := by simpa using hsz
    have e2 : flatG (d'.toList.map PG.x) = d'.toList.flatMap encG := by unfold flatG encG; rw [List.flatMap_map]
    refine ⟨rfl, d'.toList.map PG.x, hpq, ?_, ?_, (kept_sortK (w := w) 0 n d' os).mono fun j _ h => hobe j h⟩
    · rw [List.pairwise_map, List.pairwise_iff_getElem]
      intro i j hi hj hij
      have := hsort i j (Nat.zero_le _) hij (by rw [← hsz]; simpa using hj)
      have e3 : ∀ q (hq : q < d'.toList.length), d'[q]! = d'.toList[q] := fun q hq => by rw [getElem!_pos d' q (by simpa using hq)]; simp
      rw [e3 i hi, e3 j hj] at this
      unfold ltOf at this
      cases h : lt (d'.toList[j]).x.1.p (d'.toList[i]).x.1.p with
      | false => rfl
      | true => rw [decide_eq_true ((cmp_lt _ _).2 h)] at this; cases this
    · rw [hql, e2]
      exact own_sortK hk d.toArray d' os hdl hsz ho
end Go.Proofs.Ytmigdhbolbhbeaa
