/- The laying of slices.SortFunc over digests (printed by gen_srt.py). -/
import Derived.Test.YtggcbjchnefhfaaDoorItm
import Derived.Shelf.SlSortCmp.WholeK
import Derived.Shelf.SlSortCmp.NoneTotal
namespace Go.Proofs.YtggcbjchnefhfaaDoor
open Go.Shelf Go.RowKit
def sortRen : Go.Shelf.Ren := ⟨fun | 6 => 20 | 14 => 30 | 15 => 31 | 20 => 38 | 21 => 39 | 22 => 40 | 23 => 41 | 24 => 42 | 25 => 43 | 26 => 44 | 27 => 45 | 28 => 46 | 29 => 47 | 46 => 54 | 47 => 55 | 48 => 56 | 49 => 57 | 50 => 58 | 57 => 64 | n => n, fun | 0 => 0 | 3 => 3 | 4 => 4 | 5 => 5 | 9 => 9 | 22 => 34 | 24 => 43 | 25 => 51 | 39 => 59 | 45 => 69 | 46 => 70 | 50 => 74 | 53 => 77 | 55 => 66 | 66 => 85 | 70 => 89 | 76 => 95 | 77 => 96 | n => n, fun n => n⟩
theorem sortLays : Go.Proofs.SlLaysF0.n6 Tryd.prog sortRen := { mixed := by kernel_rfl, f6 := ⟨Tryd.f20.name, by decide, by kernel_rfl⟩, f14 := ⟨Tryd.f30.name, by decide, by kernel_rfl⟩, f15 := by kernel_rfl, f20 := ⟨Tryd.f38.name, by decide, by kernel_rfl⟩, f21 := ⟨Tryd.f39.name, by decide, by kernel_rfl⟩, f22 := ⟨Tryd.f40.name, by decide, by kernel_rfl⟩, f23 := ⟨Tryd.f41.name, by decide, by kernel_rfl⟩, f24 := ⟨Tryd.f42.name, by decide, by kernel_rfl⟩, f25 := ⟨Tryd.f43.name, by decide, by kernel_rfl⟩, f26 := ⟨Tryd.f44.name, by decide, by kernel_rfl⟩, f27 := ⟨Tryd.f45.name, by decide, by kernel_rfl⟩, f28 := by kernel_rfl, f29 := by kernel_rfl, f46 := ⟨Tryd.f54.name, by decide, by kernel_rfl⟩, f47 := by kernel_rfl, f48 := by kernel_rfl, f49 := ⟨Tryd.f57.name, by decide, by kernel_rfl⟩, f50 := ⟨Tryd.f58.name, by decide, by kernel_rfl⟩, f57 := ⟨Tryd.f64.name, by decide, by kernel_rfl⟩, t0 := by kernel_rfl, a0 := fun _ => by kernel_rfl, z0 := fun _ => by kernel_rfl, v0 := fun _ => by kernel_rfl, t3 := by kernel_rfl, a3 := fun _ => by kernel_rfl, z3 := fun _ => by kernel_rfl, v3 := fun _ => by kernel_rfl, t4 := by kernel_rfl, a4 := fun _ => by kernel_rfl, z4 := fun _ => by kernel_rfl, v4 := fun _ => by kernel_rfl, t5 := by kernel_rfl, a5 := fun _ => by kernel_rfl, z5 := fun _ => by kernel_rfl, v5 := fun _ => by kernel_rfl, t9 := by kernel_rfl, a9 := fun _ => by kernel_rfl, z9 := fun _ => by kernel_rfl, v9 := fun _ => by kernel_rfl, t22 := by kernel_rfl, a22 := fun _ => by kernel_rfl, z22 := fun _ => by kernel_rfl, v22 := fun _ => by kernel_rfl, t25 := by kernel_rfl, a25 := fun _ => by kernel_rfl, z25 := fun _ => by kernel_rfl, v25 := fun _ => by kernel_rfl, t39 := by kernel_rfl, a39 := fun _ => by kernel_rfl, z39 := fun _ => by kernel_rfl, v39 := fun _ => by kernel_rfl, t45 := by kernel_rfl, a45 := fun _ => by kernel_rfl, z45 := fun _ => by kernel_rfl, v45 := fun _ => by kernel_rfl, t46 := by kernel_rfl, a46 := fun _ => by kernel_rfl, z46 := fun _ => by kernel_rfl, v46 := fun _ => by kernel_rfl, t50 := by kernel_rfl, a50 := fun _ => by kernel_rfl, z50 := fun _ => by kernel_rfl, v50 := fun _ => by kernel_rfl, t53 := by kernel_rfl, a53 := fun _ => by kernel_rfl, z53 := fun _ => by kernel_rfl, v53 := fun _ => by kernel_rfl, t55 := by kernel_rfl, a55 := fun _ => by kernel_rfl, z55 := fun _ => by kernel_rfl, v55 := fun _ => by kernel_rfl, t66 := by kernel_rfl, a66 := fun _ => by kernel_rfl, z66 := fun _ => by kernel_rfl, v66 := fun _ => by kernel_rfl, t70 := by kernel_rfl, a70 := fun _ => by kernel_rfl, z70 := fun _ => by kernel_rfl, v70 := fun _ => by kernel_rfl, t76 := by kernel_rfl, a76 := fun _ => by kernel_rfl, z76 := fun _ => by kernel_rfl, v76 := fun _ => by kernel_rfl, t77 := by kernel_rfl, a77 := fun _ => by kernel_rfl, z77 := fun _ => by kernel_rfl, v77 := fun _ => by kernel_rfl }
end Go.Proofs.YtggcbjchnefhfaaDoor

/- Printed by shake.py: what extract_all, flatK_get, kept_sortK, holds_own, own_sortK need. -/
namespace Go.Mk
open Go.RowKit Go.Sort
section
variable {α : Type} [Inhabited α] {enc : α → List Value} {k : Nat} {w : World} {blk : Nat}
omit [Inhabited α] in
theorem extract_all (a : Array α) (n : Nat) (h : a.size = n) : a.extract 0 n = a := by subst h; exact Array.extract_size
theorem flatK_get (hk : ∀ x, (enc x).length = k) (d : Array α) (j : Nat) (hj : j < d.size * k) : (d.toList.flatMap enc)[j]? = some (flatK enc k d)[j]! := by
  have hk0 : 0 < k := by rcases Nat.eq_zero_or_pos k with h | h; subst h; simp at hj; exact h
  have hq : j / k < d.size := by rw [Nat.div_lt_iff_lt_mul hk0]; exact hj
  have hr : j % k < k := Nat.mod_lt _ hk0
  rw [get_flatK _ _ _ _ hj]
  have e1 : j = j / k * k + j % k := by rw [Nat.mul_comm]; exact (Nat.div_add_mod j k).symm
  have := flatAt (f := enc) (sz := k) (ps := d.toList) (fun x _ => hk x) (j / k) (j % k) (by simpa using hq) hr
  rw [← e1] at this
  rw [this]
  have hd : d[j / k]! = d.toList[j / k]'(by simpa using hq) := by rw [getElem!_pos d _ hq]; simp
  rw [hd, List.getElem?_eq_getElem (by rw [hk]; exact hr)]
  congr 1
  rw [getElem!_pos _ _ (by rw [hk]; exact hr)]
theorem kept_sortK (off m : Nat) (dk : Array α) (os : Array Obj) : Kept (fun j => j = blk) w (Go.Proofs.sortWorldK enc k w blk off m dk os) := by
  have hs : (putRowK enc k (Go.Sort.ahead w m) blk off dk).heap.size = w.heap.size := by rw [size_putRowK]; rfl
  refine ⟨rfl, rfl, rfl, ?_, fun j hj hne => ?_⟩
  · unfold Go.Proofs.sortWorldK; rw [size_grow, hs]; omega
  · have hne : j ≠ blk := hne
    unfold Go.Proofs.sortWorldK grow
    simp only
    rw [Array.getElem?_append_left (by rw [hs]; exact hj)]
    unfold putRowK putRow mapBlock
    simp only [Array.getElem?_modify]
    rw [if_neg (Ne.symm hne)]; rfl
theorem holds_own {e : TypeId} {n cap : Nat} (hk : ∀ x, (enc x).length = k) (d : Array α) (_ : d.size = n) (ho : w.ownsRow 0 e k (.slice (some ⟨blk, 0, none⟩) n cap) n (d.toList.flatMap enc)) : HoldsK enc k w blk 0 d := by
  intro j hj
  rw [size_flatK] at hj
  have hg := flatK_get hk d j hj
  obtain ⟨_, ⟨h, _⟩ | ⟨g, c, cur, e', _, hgb, hnc, hcm, hcs, ht⟩⟩ := ho
  · cases h
  · cases e'
    refine ⟨?_, row_free hgb _⟩
    rw [cell_of_row w _ _ cur _ (0, 0) hgb, Nat.zero_add]
    rw [← ht, List.getElem?_take] at hg
    split at hg
    · simpa using hg
    · cases hg
theorem own_sortK {e : TypeId} {n cap m : Nat} (hk : ∀ x, (enc x).length = k) (d0 d : Array α) (os : Array Obj) (hn : d0.size = n) (hn' : d.size = n) (ho : w.ownsRow 0 e k (.slice (some ⟨blk, 0, none⟩) n cap) n (d0.toList.flatMap enc)) :
    (Go.Proofs.sortWorldK enc k w blk 0 m d os).ownsRow 0 e k (.slice (some ⟨blk, 0, none⟩) n cap) n (d.toList.flatMap enc) := by
  have hH := holds_own hk d0 hn ho
  have hlen : (d.toList.flatMap enc).length = n * k := by rw [flatLen (sz := k) fun x _ => hk x]; simp [hn']
  obtain ⟨_, ⟨h, _⟩ | ⟨g, c, cur, e', _, hgb, hnc, hcm, hcs, ht⟩⟩ := ho
  · cases h
  · cases e'
    have hb : blk < w.heap.size := Go.Proofs.YtggcbjchnefhfaaDoor.lt_of_heap hgb
    have hH' := Go.Proofs.holdsK_sortWorldK_c enc k w blk 0 d0 d m os hH hb (by rw [hn, hn'])
    have hh : (Go.Proofs.sortWorldK enc k w blk 0 m d os).heap[blk]? = some (.cells (putCells id 0 (flatK enc k d) cur) e (0, 0)) := by
      have hs : (putRowK enc k (Go.Sort.ahead w m) blk 0 d).heap.size = w.heap.size := by rw [size_putRowK]; rfl
      unfold Go.Proofs.sortWorldK grow
      simp only
      rw [Array.getElem?_append_left (by rw [hs]; exact hb)]
      unfold putRowK putRow mapBlock
      simp only [Array.getElem?_modify, if_pos]
      show Option.map _ (w.heap[blk]?) = _
      rw [hgb]; rfl
    refine ⟨hlen, .inr ⟨blk, cap, _, rfl, Nat.zero_le _, hh, hnc, hcm, by simp [putCells, hcs], ?_⟩⟩
    have hsz : (putCells id 0 (flatK enc k d) cur).size = cap * k := by simp [putCells, hcs]
    have hle : n * k ≤ cap * k := Nat.mul_le_mul_right _ hnc
    refine List.ext_getElem? fun j => ?_
    rw [List.getElem?_take]
    by_cases hj : j < n * k
    · rw [if_pos hj, flatK_get hk d j (by rw [hn']; exact hj)]
      have := (hH' j (by rw [size_flatK, hn']; exact hj)).1
      rw [cell_of_row _ _ _ _ _ (0, 0) hh, Nat.zero_add] at this
      simpa using this
    · rw [if_neg hj, List.getElem?_eq_none (by omega)]
end
end Go.Mk

/- Sorting digests: slices.SortFunc's contract at commit.compare. -/
namespace Go.Proofs.YtggcbjchnefhfaaDoor
open Go.RowKit Go.Mk Go.Sha Go.Cmt Go.Sort
set_option maxRecDepth 100000 in
set_option maxHeartbeats 1000000 in
theorem dclosure_any (xs ys : List UInt8) (w : World) (hx : xs.length = 32) (hy : ys.length = 32) :
    Calls Tryd.prog 21 #[.agg (xs.map B).toArray, .agg (ys.map B).toArray] w fun e w' => e = .returned (.int .i64 (cmpL xs ys)) ∧ ∃ q os', w' = grow (w.drewN q) os' := by
  have HC := hid (fun va vb w ha hb => compare_any va vb xs ys w (by omega) (by omega) ha hb)
  obtain ⟨L, hL⟩ : ∃ L, xs.map B = L := ⟨_, rfl⟩
  obtain ⟨M, hM⟩ : ∃ L, ys.map B = L := ⟨_, rfl⟩
  have lL : Hd (L.length = 32) := ⟨by rw [← hL]; simp [hx]⟩
  have lM : Hd (M.length = 32) := ⟨by rw [← hM]; simp [hy]⟩
  rw [hx, hy, hL, hM] at HC
  rw [hL, hM]
  clear hL hM
  go_enter Tryd.func21, Tryd.ntmps21
  go_upto_region 1 with fail
  have hw0 : Hd (∃ os', (w.alloc (.cells L.toArray 43)).alloc (.cells M.toArray 43) = grow w os') := ⟨_, by rw [alloc_eq_grow, alloc_eq_grow, grow_grow]⟩
  obtain ⟨w1, hw1, g0, g1, k1⟩ := two_rows w L M
  rw [← hw1] at hw0 ⊢
  clear hw1
  have r0 : Hd (Rd w1 1 (.slice (some ⟨w.heap.size, 0, none⟩) 32 32) 32 L) := ⟨Rd.block g0 (by rw [lL.out]) (by decide)⟩
  have r1 : Hd (Rd w1 1 (.slice (some ⟨w.heap.size + 1, 0, none⟩) 32 32) 32 M) := ⟨Rd.block g1 (by rw [lM.out]) (by decide)⟩
  clear g0 g1 k1
  refine wp_region_held_drew (S := fun W => W = w1.drew) (by kernel_rfl) rfl (fun _ => ?_)
  refine take2 0 (some 5) (.slice (some ⟨w.heap.size, 0, none⟩) 32 32) rfl rfl (by kernel_rfl) (by kernel_rfl) (by kernel_rfl) (fun _ _ _ h => h) (Or.inl ⟨by rfl, fun w hSw => ?_⟩) rfl ?_
  · go_simp
  try simp only [Act.put, List.setIfInBounds_toArray, List.set_cons_zero, List.set_cons_succ]
  refine take2 1 (some 6) (.slice (some ⟨w.heap.size + 1, 0, none⟩) 32 32) rfl rfl (by kernel_rfl) (by kernel_rfl) (by kernel_rfl) (fun _ _ _ h => h) (Or.inl ⟨by rfl, fun w hSw => ?_⟩) rfl ?_
  · go_simp
  try simp only [Act.put, List.setIfInBounds_toArray, List.set_cons_zero, List.set_cons_succ]
  refine wpAnyH_ready (rs := [2]) (by kernel_rfl) (by simp) ?_
  refine AllReadyH.cons rfl (fun K hK => ?_) AllReadyH.nil
  go_simp
  refine (HC.out _ _ w1.drew r0.out.drew r1.out.drew).mono ?_
  rintro e w2 ⟨rfl, rfl⟩
  refine hK.out _ _ rfl (fun _ => ?_)
  clear hK K
  try simp only [Act.put, List.setIfInBounds_toArray, List.set_cons_zero, List.set_cons_succ]
  refine take2 3 (some 4) (.int .i64 (cmpL xs ys)) rfl rfl (by kernel_rfl) (by kernel_rfl) (by kernel_rfl) (fun _ _ _ h => h) (Or.inl ⟨by rfl, fun w hSw => ?_⟩) rfl ?_
  · go_simp
  try simp only [Act.put, List.setIfInBounds_toArray, List.set_cons_zero, List.set_cons_succ]
  refine wpAnyH_done (by kernel_rfl) ?_ _
  go_wp2_with fail
  go_ret
  obtain ⟨os', ho⟩ := hw0.out
  exact ⟨rfl, 1, os', by rw [ho]; rfl⟩
/-- A digest of 32 bytes. -/
structure D32 where
  val : List UInt8
  ok : val.length = 32
instance : Inhabited D32 := ⟨⟨List.replicate 32 0, by simp⟩⟩
def encD (x : D32) : List Value := x.1.map B
theorem encD_len (x : D32) : (encD x).length = 32 := by unfold encD; rw [List.length_map]; exact x.2
theorem swo_ltD : SWO (ltOf fun x y : D32 => cmpL x.1 y.1) := by
  have e : ∀ x y : D32, ltOf (fun x y : D32 => cmpL x.1 y.1) x y = lessD x.1 y.1 := fun x y => rfl
  refine ⟨fun x => by rw [e]; exact lessD_irr _, fun x y z h1 h2 => by rw [e] at *; exact lessD_trans h1 h2, fun x y z h1 h2 => ?_⟩
  rw [e] at *
  cases h3 : lessD x.1 z.1 with
  | false => rfl
  | true =>
    rcases lessD_tri x.1 y.1 with h | h | h
    · rw [h] at h1; cases h1
    · rw [h] at h3; rw [h3] at h2; cases h2
    · have := lessD_trans h h3; rw [this] at h2; cases h2
theorem B_oneCell (x : UInt8) : (B x).oneCell' = true := rfl
set_option maxRecDepth 20000 in
set_option maxHeartbeats 1000000 in
theorem dsort_any (v : Value) (ds : List (List UInt8)) (w : World) (ho : w.ownsRow 0 43 32 v ds.length (flatD ds)) (hd : ∀ d ∈ ds, d.length = 32) (hn : ds.length ≤ 1000000) :
    Calls Tryd.prog 20 #[v, .func (.func 21) #[] #[]] w fun e w' => e = .returned (.tuple #[]) ∧ w'.ownsRow 0 43 32 v (sortD ds).length (flatD (sortD ds)) ∧ Kept (ob v) w w' := by
  by_cases h0 : ds = []
  · subst h0
    obtain ⟨a, c, rfl⟩ : ∃ a c, v = .slice a 0 c := by obtain ⟨_, ⟨h, _⟩ | ⟨g, c, cur, h, _⟩⟩ := ho; exact ⟨_, _, h⟩; exact ⟨_, _, h⟩
    refine (AnyF.slices_SortFunc_none sortLays a c (.func (.func 21) #[] #[]) w).mono ?_
    rintro e w' ⟨rfl, rfl⟩
    exact ⟨rfl, ho, Kept.refl _ _⟩
  · have ho' := ho
    obtain ⟨_, ⟨_, h⟩ | ⟨g, c, cur, rfl, _, hgb, _⟩⟩ := ho'
    · exact absurd (List.eq_nil_of_length_eq_zero h) h0
    have hb : g < w.heap.size := lt_of_heap hgb
    obtain ⟨d, hdd⟩ : ∃ d : List D32, d.map D32.val = ds := ⟨ds.attach.map fun x => ⟨x.1, hd x.1 x.2⟩, by rw [List.map_map]; exact List.attach_map_subtype_val ds⟩
    have hdl : d.toArray.size = ds.length := by have := congrArg List.length hdd; simpa using this
    have hfl' : ∀ l : List D32, flatD (l.map D32.val) = l.flatMap encD := fun l => by unfold flatD encD; rw [List.flatMap_map]
    have hfl : flatD ds = d.toArray.toList.flatMap encD := by rw [← hdd]; exact hfl' d
    rw [hfl] at ho
    have hH := holds_own encD_len d.toArray hdl ho
    have eg : ∀ args w, (callFunc 21 args).run Tryd.prog w = .ok (.enter 21 args) w := enters_of Tryd.func21 (by kernel_rfl) rfl
    have hobe : ∀ j, j = g → ob (.slice (some ⟨g, 0, none⟩) ds.length c) j := fun j h => by rw [h]; rfl
    have hcmp : CmpLays Tryd.prog 21 #[] encD 32 (fun x y : D32 => cmpL x.1 y.1) g 0 d.toArray.size w := fun m os dk _ x y => dclosure_any x.1 y.1 _ x.2 y.2
    have hcon := AnyQ.slices_SortFunc sortLays 32 (fun _ => by kernel_rfl) (fun _ => by kernel_rfl) encD encD_len (fun x u hu => by
      obtain ⟨b, _, rfl⟩ := List.mem_map.1 hu
      rfl) (fun x y => cmpL x.1 y.1) swo_ltD 21 #[] g 0 c d.toArray w eg hcmp hH hb (by rw [hdl]; omega)
    rw [hdl] at hcon
    refine hcon.mono ?_
    rintro e w' ⟨rfl, d', n, os, hperm, hsort, rfl⟩
    obtain ⟨hsz, _, hpm⟩ := hperm
    rw [hdl] at hsz
    have hex : ∀ a : Array D32, a.size = ds.length → a.extract 0 ds.length = a := fun a h => extract_all a _ h
    rw [hex d' hsz, hex d.toArray hdl] at hpm
    have hpq : ds.Perm (d'.toList.map D32.val) := by
      have := (hpm.symm.map D32.val)
      rwa [show (d.toArray.toList.map D32.val) = ds from by simpa using hdd] at this
    have hasc : Asc (d'.toList.map D32.val) := by
      unfold Asc
      rw [List.pairwise_map, List.pairwise_iff_getElem]
      intro i j hi hj hij
      have := hsort i j (Nat.zero_le _) hij (by rw [← hsz]; simpa using hj)
      have e3 : ∀ q (hq : q < d'.toList.length), d'[q]! = d'.toList[q] := fun q hq => by rw [getElem!_pos d' q (by simpa using hq)]; simp
      rw [e3 i hi, e3 j hj] at this
      exact this
    have hs := sortD_eq hpq.symm hasc
    rw [← hs]
    have hql : (d'.toList.map D32.val).length = ds.length := by simpa using hsz
    refine ⟨rfl, ?_, (kept_sortK (w := w) 0 n d' os).mono fun j _ h => hobe j h⟩
    rw [hql, hfl']
    exact own_sortK encD_len d.toArray d' os hdl hsz ho
end Go.Proofs.YtggcbjchnefhfaaDoor
