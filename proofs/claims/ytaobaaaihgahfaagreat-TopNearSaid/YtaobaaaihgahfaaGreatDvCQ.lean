/- The laying of slices.SortFunc over assertions (printed by gen_srt.py). -/
import Derived.Test.YtaobaaaihgahfaaGreatDvBQ
import Derived.Test.YtaobaaaihgahfaaGreatAddQ
import Derived.Shelf.SlSortCmp.WholeK
import Derived.Lib.SliceRun
import Derived.BigFrame
namespace Go.Proofs.YtaobaaaihgahfaaGreat
open Go.Shelf Go.RowKit
def sortRenA : Go.Shelf.Ren := ⟨fun | 6 => 64 | 14 => 130 | 15 => 131 | 20 => 181 | 21 => 182 | 22 => 183 | 23 => 184 | 24 => 185 | 25 => 186 | 26 => 187 | 27 => 188 | 28 => 189 | 29 => 190 | 46 => 216 | 47 => 217 | 48 => 218 | 49 => 219 | 50 => 220 | 57 => 246 | n => n, fun | 0 => 0 | 3 => 3 | 4 => 4 | 5 => 5 | 9 => 9 | 22 => 54 | 24 => 59 | 25 => 128 | 39 => 158 | 45 => 229 | 46 => 230 | 50 => 141 | 53 => 202 | 55 => 171 | 66 => 256 | 70 => 260 | 76 => 278 | 77 => 137 | n => n, fun n => n⟩
theorem sortLaysA : Go.Proofs.SlLaysF0.n6 Tryz.prog sortRenA := { mixed := by kernel_rfl, f6 := ⟨Tryz.f64.name, by decide, by kernel_rfl⟩, f14 := ⟨Tryz.f130.name, by decide, by kernel_rfl⟩, f15 := by kernel_rfl, f20 := ⟨Tryz.f181.name, by decide, by kernel_rfl⟩, f21 := ⟨Tryz.f182.name, by decide, by kernel_rfl⟩, f22 := ⟨Tryz.f183.name, by decide, by kernel_rfl⟩, f23 := ⟨Tryz.f184.name, by decide, by kernel_rfl⟩, f24 := ⟨Tryz.f185.name, by decide, by kernel_rfl⟩, f25 := ⟨Tryz.f186.name, by decide, by kernel_rfl⟩, f26 := ⟨Tryz.f187.name, by decide, by kernel_rfl⟩, f27 := ⟨Tryz.f188.name, by decide, by kernel_rfl⟩, f28 := by kernel_rfl, f29 := by kernel_rfl, f46 := ⟨Tryz.f216.name, by decide, by kernel_rfl⟩, f47 := by kernel_rfl, f48 := by kernel_rfl, f49 := ⟨Tryz.f219.name, by decide, by kernel_rfl⟩, f50 := ⟨Tryz.f220.name, by decide, by kernel_rfl⟩, f57 := ⟨Tryz.f246.name, by decide, by kernel_rfl⟩, t0 := by kernel_rfl, a0 := fun _ => by kernel_rfl, z0 := fun _ => by kernel_rfl, v0 := fun _ => by kernel_rfl, t3 := by kernel_rfl, a3 := fun _ => by kernel_rfl, z3 := fun _ => by kernel_rfl, v3 := fun _ => by kernel_rfl, t4 := by kernel_rfl, a4 := fun _ => by kernel_rfl, z4 := fun _ => by kernel_rfl, v4 := fun _ => by kernel_rfl, t5 := by kernel_rfl, a5 := fun _ => by kernel_rfl, z5 := fun _ => by kernel_rfl, v5 := fun _ => by kernel_rfl, t9 := by kernel_rfl, a9 := fun _ => by kernel_rfl, z9 := fun _ => by kernel_rfl, v9 := fun _ => by kernel_rfl, t22 := by kernel_rfl, a22 := fun _ => by kernel_rfl, z22 := fun _ => by kernel_rfl, v22 := fun _ => by kernel_rfl, t25 := by kernel_rfl, a25 := fun _ => by kernel_rfl, z25 := fun _ => by kernel_rfl, v25 := fun _ => by kernel_rfl, t39 := by kernel_rfl, a39 := fun _ => by kernel_rfl, z39 := fun _ => by kernel_rfl, v39 := fun _ => by kernel_rfl, t45 := by kernel_rfl, a45 := fun _ => by kernel_rfl, z45 := fun _ => by kernel_rfl, v45 := fun _ => by kernel_rfl, t46 := by kernel_rfl, a46 := fun _ => by kernel_rfl, z46 := fun _ => by kernel_rfl, v46 := fun _ => by kernel_rfl, t50 := by kernel_rfl, a50 := fun _ => by kernel_rfl, z50 := fun _ => by kernel_rfl, v50 := fun _ => by kernel_rfl, t53 := by kernel_rfl, a53 := fun _ => by kernel_rfl, z53 := fun _ => by kernel_rfl, v53 := fun _ => by kernel_rfl, t55 := by kernel_rfl, a55 := fun _ => by kernel_rfl, z55 := fun _ => by kernel_rfl, v55 := fun _ => by kernel_rfl, t66 := by kernel_rfl, a66 := fun _ => by kernel_rfl, z66 := fun _ => by kernel_rfl, v66 := fun _ => by kernel_rfl, t70 := by kernel_rfl, a70 := fun _ => by kernel_rfl, z70 := fun _ => by kernel_rfl, v70 := fun _ => by kernel_rfl, t76 := by kernel_rfl, a76 := fun _ => by kernel_rfl, z76 := fun _ => by kernel_rfl, v76 := fun _ => by kernel_rfl, t77 := by kernel_rfl, a77 := fun _ => by kernel_rfl, z77 := fun _ => by kernel_rfl, v77 := fun _ => by kernel_rfl }
end Go.Proofs.YtaobaaaihgahfaaGreat

/- Sorting assertions: slices.SortFunc's contract at assertion.Compare. -/
namespace Go.Proofs.YtaobaaaihgahfaaGreat
open Go.RowKit Go.Mk Go.Pil Go.Mg Go.Nr Go.Sort
/-- An assertion as a list of numbers. -/
def keyA (x : As) : List Int := x.k :: x.a :: x.b :: (x.am.length : Int) :: (x.am ++ [x.q])
theorem orZ_step (x y : Int) (l : List Int) (xs ys : List Int) (h : orZ l = cmp xs ys) : orZ (cmpI x y :: l) = cmp (x :: xs) (y :: ys) := by
  unfold cmpI
  show (if (if x < y then (-1 : Int) else if y < x then 1 else 0) = 0 then orZ l else (if x < y then (-1 : Int) else if y < x then 1 else 0)) = (if x = y then cmp xs ys else if x < y then -1 else 1)
  by_cases h1 : x = y
  · subst h1
    simp [h]
  · by_cases h2 : x < y
    · simp [h1, h2]
    · have h3 : y < x := by omega
      simp [h1, h2, h3]
theorem cmp_app : ∀ (xs ys : List Int) (p q : Int), xs.length = ys.length → orZ [cmp xs ys, cmpI p q] = cmp (xs ++ [p]) (ys ++ [q])
  | [], [], p, q, _ => by
    show (if (0 : Int) = 0 then orZ [cmpI p q] else 0) = _
    (rw [if_pos rfl]); (exact orZ_step p q [] [] [] rfl)
  | [], _ :: _, _, _, h => by cases h
  | _ :: _, [], _, _, h => by cases h
  | x :: xs, y :: ys, p, q, h => by
    have ih := cmp_app xs ys p q (by simpa using h)
    show orZ [cmp (x :: xs) (y :: ys), cmpI p q] = cmp (x :: (xs ++ [p])) (y :: (ys ++ [q]))
    by_cases h1 : x = y
    · subst h1
      show orZ [if x = x then cmp xs ys else _, cmpI p q] = if x = x then _ else _
      (rw [if_pos rfl, if_pos rfl]); (exact ih)
    · show orZ [if x = y then cmp xs ys else if x < y then -1 else 1, cmpI p q] = if x = y then _ else if x < y then -1 else 1
      rw [if_neg h1, if_neg h1]
      by_cases h2 : x < y
      · rw [if_pos h2]; rfl
      · rw [if_neg h2]; rfl
theorem cmpA_key (x y : As) : cmpA x y = cmp (keyA x) (keyA y) := by
  (unfold cmpA keyA); (refine orZ_step _ _ _ _ _ (orZ_step _ _ _ _ _ (orZ_step _ _ _ _ _ ?_)))
  by_cases h : x.am.length = y.am.length
  · exact orZ_step _ _ _ _ _ (cmp_app _ _ _ _ h)
  · have h1 : (x.am.length : Int) ≠ (y.am.length : Int) := by omega
    have h3 : ∀ u v : List Int, cmp ((x.am.length : Int) :: u) ((y.am.length : Int) :: v) = if (x.am.length : Int) < (y.am.length : Int) then (-1 : Int) else 1 := fun u v => by
      show (if _ then _ else _) = _
      rw [if_neg h1]
    have h4 : cmpI x.am.length y.am.length = if (x.am.length : Int) < (y.am.length : Int) then (-1 : Int) else 1 := by
      unfold cmpI
      split
      · rfl
      · rw [if_pos (by omega)]
    rw [h3, ← h4]
    show (if cmpI x.am.length y.am.length = 0 then _ else cmpI x.am.length y.am.length) = _
    rw [if_neg (by rw [h4]; split <;> decide)]
theorem keyA_inj {x y : As} (h : keyA x = keyA y) : x = y := by
  (obtain ⟨k, a, b, am, q⟩ := x); (obtain ⟨k', a', b', am', q'⟩ := y); (unfold keyA at h); (simp only [List.cons.injEq] at h); (obtain ⟨rfl, rfl, rfl, h1, h2⟩ := h); (have h3 := List.append_inj h2 (by omega)); (obtain ⟨rfl, h4⟩ := h3)
  cases h4
  rfl
theorem cmpA_eq {x y : As} : cmpA x y = 0 ↔ x = y := by
  (rw [cmpA_key, cmp_eq]); (exact ⟨keyA_inj, fun h => by rw [h]⟩)
/-- An assertion whose list can be read in every world that differs from w in v's row alone. -/
structure PA (w : World) (v : Value) where
  x : As × Value
  ok : ∀ W, Kept (ob v) w W → RdZ W x.2 x.1.am
def encA {w : World} {v : Value} (x : PA w v) : List Value := asC x.x
theorem swo_ltA {w : World} {v : Value} : SWO (ltOf fun x y : PA w v => cmpA x.x.1 y.x.1) := by
  have e : ∀ x y : PA w v, ltOf (fun x y : PA w v => cmpA x.x.1 y.x.1) x y = lt (keyA x.x.1) (keyA y.x.1) := fun x y => by
    unfold ltOf
    show decide (cmpA x.x.1 y.x.1 < 0) = _
    rw [cmpA_key]
    cases h : lt (keyA x.x.1) (keyA y.x.1) with
    | true => exact decide_eq_true ((cmp_lt _ _).2 h)
    | false => exact decide_eq_false fun hh => by have := (cmp_lt _ _).1 hh; rw [h] at this; cases this
  (refine ⟨fun x => by rw [e]; exact lt_irrefl _, fun x y z h1 h2 => by rw [e] at *; exact lt_trans h1 h2, fun x y z h1 h2 => ?_⟩); (rw [e] at *)
  cases h3 : lt (keyA x.x.1) (keyA z.x.1) with
  | false => rfl
  | true =>
    rcases lt_tri (keyA x.x.1) (keyA y.x.1) with h | h | h
    · rw [h] at h1; cases h1
    · rw [h] at h3; rw [h3] at h2; cases h2
    · have := lt_trans h h3; rw [this] at h2; cases h2
set_option maxRecDepth 20000 in
set_option maxHeartbeats 1000000 in
theorem sortA_any (v : Value) (xs : List (As × Value)) (w : World) (ho : w.ownsRow 0 59 5 v xs.length (xs.flatMap asC)) (hp : ∀ x ∈ xs, ∀ W, Kept (ob v) w W → RdZ W x.2 x.1.am) (hn : xs.length ≤ 1000000) :
    Calls Tryz.prog 64 #[v, .func (.func 65) #[] #[]] w fun e w' => e = .returned (.tuple #[]) ∧ ∃ ys, xs.Perm ys ∧ w'.ownsRow 0 59 5 v ys.length (ys.flatMap asC) ∧ Kept (ob v) w w' := by
  by_cases h0 : xs = []
  · (subst h0); (obtain ⟨a, c, rfl⟩ : ∃ a c, v = .slice a 0 c := by obtain ⟨_, ⟨h, _⟩ | ⟨g, c, cur, h, _⟩⟩ := ho; exact ⟨_, _, h⟩; exact ⟨_, _, h⟩); (refine (AnyF.slices_SortFunc_none sortLaysA a c (.func (.func 65) #[] #[]) w).mono ?_); (rintro e w' ⟨rfl, rfl⟩); (exact ⟨rfl, [], List.Perm.refl _, ho, Kept.refl _ _⟩)
  · (have ho' := ho); (obtain ⟨_, ⟨_, h⟩ | ⟨g, c, cur, rfl, _, hgb, _⟩⟩ := ho')
    · exact absurd (List.eq_nil_of_length_eq_zero h) h0
    (have hb : g < w.heap.size := lt_of_heap hgb); (obtain ⟨d, hd⟩ : ∃ d : List (PA w (.slice (some ⟨g, 0, none⟩) xs.length c)), d.map PA.x = xs := ⟨xs.attach.map fun x => ⟨x.1, hp x.1 x.2⟩, by rw [List.map_map]; exact List.attach_map_subtype_val xs⟩); (have hne : d ≠ [] := fun h => h0 (by rw [← hd, h]; rfl))
    haveI : Inhabited (PA w (.slice (some ⟨g, 0, none⟩) xs.length c)) := ⟨d.head hne⟩
    have hdl : d.toArray.size = xs.length := by have := congrArg List.length hd; simpa using this
    have hfl : xs.flatMap asC = d.toArray.toList.flatMap encA := by
      (have : (d.map PA.x).flatMap asC = d.flatMap encA := by unfold encA; rw [List.flatMap_map]); (rw [hd] at this); (exact this)
    (have hk : ∀ x : PA w (.slice (some ⟨g, 0, none⟩) xs.length c), (encA x).length = 5 := fun _ => rfl); (rw [hfl] at ho); (have hH := holds_own hk d.toArray hdl ho); (have eg : ∀ args w, (callFunc 65 args).run Tryz.prog w = .ok (.enter 65 args) w := enters_of Tryz.func65 (by kernel_rfl) rfl); (have hobe : ∀ j, j = g → ob (.slice (some ⟨g, 0, none⟩) xs.length c) j := fun j h => by rw [h]; rfl)
    have hcmp : CmpLays Tryz.prog 65 #[] encA 5 (fun x y : PA w (.slice (some ⟨g, 0, none⟩) xs.length c) => cmpA x.x.1 y.x.1) g 0 d.toArray.size w := fun m os dk _ x y => by
      (have kk : Kept (ob (.slice (some ⟨g, 0, none⟩) xs.length c)) w (sortWorldK encA 5 w g 0 m dk os) := (kept_sortK (w := w) 0 m dk os).mono fun j _ h => hobe j h); (refine (compareN_any x.x.1 y.x.1 x.x.2 y.x.2 _ (x.ok _ kk) (y.ok _ kk)).mono ?_); (rintro e w' ⟨h1, q, os', h2⟩); (exact ⟨h1, q, os', h2⟩)
    have hcon := AnyQ.slices_SortFunc sortLaysA 5 (fun _ => by kernel_rfl) (fun _ => by kernel_rfl) encA hk (fun x u hu => by
      simp only [encA, asC, List.mem_cons, List.not_mem_nil, or_false] at hu
      rcases hu with rfl | rfl | rfl | rfl | rfl
      · rfl
      · rfl
      · rfl
      · exact RdZ.one (x.ok w (Kept.refl _ _))
      · rfl) (fun x y => cmpA x.x.1 y.x.1) swo_ltA 65 #[] g 0 c d.toArray w eg hcmp hH hb (by rw [hdl]; omega)
    (rw [hdl] at hcon); (refine hcon.mono ?_); (rintro e w' ⟨rfl, d', n, os, hperm, hsort, rfl⟩); (obtain ⟨hsz, _, hpm⟩ := hperm); (rw [hdl] at hsz); (have hex : ∀ a : Array (PA w (.slice (some ⟨g, 0, none⟩) xs.length c)), a.size = xs.length → a.extract 0 xs.length = a := fun a h => extract_all a _ h); (rw [hex d' hsz, hex d.toArray hdl] at hpm)
    have hpq : xs.Perm (d'.toList.map PA.x) := by
      have := (hpm.symm.map PA.x)
      rwa [show (d.toArray.toList.map PA.x) = xs from by simpa using hd] at this
    (have hql : (d'.toList.map PA.x).length = xs.length := by simpa using hsz); (have e2 : (d'.toList.map PA.x).flatMap asC = d'.toList.flatMap encA := by unfold encA; rw [List.flatMap_map]); (refine ⟨rfl, d'.toList.map PA.x, hpq, ?_, (kept_sortK (w := w) 0 n d' os).mono fun j _ h => hobe j h⟩); (rw [hql, e2]); (exact own_sortK hk d.toArray d' os hdl hsz ho)
end Go.Proofs.YtaobaaaihgahfaaGreat

/- slices.CompactFunc over assertions (printed by gen_cp.py). -/
namespace Go.Proofs.YtaobaaaihgahfaaGreat
open Go.RowKit Go.Mk Go.Pil Go.Mg Go.Nr Go.Sort
theorem flat_set : ∀ (ys : List (As × Value)) (i : Nat) (_ : i < ys.length) (y : As × Value), (((((ys.flatMap asC).set (i * 5) (.int .i64 y.1.k)).set (i * 5 + 1) (.int .i64 y.1.a)).set (i * 5 + 2) (.int .i64 y.1.b)).set (i * 5 + 3) y.2).set (i * 5 + 4) (.int .i64 y.1.q) = (ys.set i y).flatMap asC
  | [], _, h, _ => absurd h (by simp)
  | z :: ys, 0, _, y => by simp [asC]
  | z :: ys, i + 1, h, y => by
    (have ih := flat_set ys i (by simpa using h) y); (have hl : (asC z).length = 5 := rfl); (rw [List.flatMap_cons, List.set_append_right _ _ (by omega), List.set_append_right _ _ (by omega), List.set_append_right _ _ (by omega), List.set_append_right _ _ (by omega), List.set_append_right _ _ (by omega), List.set_cons_succ, List.flatMap_cons, ← ih, hl]); (rw [show (i + 1) * 5 - 5 = i * 5 by omega, show (i + 1) * 5 + 1 - 5 = i * 5 + 1 by omega, show (i + 1) * 5 + 2 - 5 = i * 5 + 2 by omega, show (i + 1) * 5 + 3 - 5 = i * 5 + 3 by omega, show (i + 1) * 5 + 4 - 5 = i * 5 + 4 by omega])
theorem asC_len (xs : List (As × Value)) : (xs.flatMap asC).length = xs.length * 5 := flatLen (sz := 5) fun _ _ => rfl
theorem own_rngA {w : World} {g n cap : Nat} {ys : List (As × Value)} (h : w.ownsRow 0 59 5 (.slice (some ⟨g, 0, none⟩) n cap) n (ys.flatMap asC)) (hn : ys.length = n) (j : Nat) (hj : j < n) : w.rangeAt g (j * 5) (asC (ys[j]'(by omega))) := by
  (subst hn); (obtain ⟨b, o, e, hr⟩ := Rd.row (f := asC) (sz := 5) (fun _ _ => rfl) (Rd.of_own h) j hj)
  cases e
  (rw [Nat.zero_add] at hr); (exact hr)
theorem own_blkA {w : World} {g n cap : Nat} {L : List Value} (h : w.ownsRow 0 59 5 (.slice (some ⟨g, 0, none⟩) n cap) n L) : ∃ cur, w.heap[g]? = some (.cells cur 59 (0, 0)) := by
  obtain ⟨_, ⟨e, _⟩ | ⟨g', c, cur, e, _, hg, _⟩⟩ := h
  · cases e
  · cases e; exact ⟨cur, hg⟩
theorem post_sliceAs (b lv cv m : Nat) (hm : m < cv) (_hlc : lv ≤ cv) (hml : m ≤ lv) (w : World) : (Instr.slice 54 (.slice (some ⟨b, 0, none⟩) lv cv) (some (.int .i64 (m : Int))) none none).run Tryz.prog w = .ok (.slice (some ⟨b, m * 5, none⟩) (lv - m) (cv - m)) w := by
  (have h0 : (0 : Int) ≤ (m : Int) := by omega); (have hc : Tryz.prog.underlying 54 = some (.slice 59) := by kernel_rfl); (obtain ⟨i, hi, hz, hs, hb⟩ := info_parts (P := Tryz.prog) (e := 59) (z := .agg #[.int .i64 0, .int .i64 0, .int .i64 0, .slice none 0 0, .int .i64 0]) (size := 5) (bytes := 56) (by kernel_rfl)); (have h1 : (m : Int) ≤ (lv : Int) := by omega); (have h2 : ¬ cv = m := by omega)
  have h3 : (⟨b, 0, none⟩ : Addr).add (m * 5) = ⟨b, m * 5, none⟩ := by
    unfold Addr.add
    split
    · rename_i e; rw [e]
    · rw [Nat.zero_add]
  simp [Instr.slice, Instr.sliceBounds, Instr.sliceBound, run_underlying hc, asIntOf, h0, sizeOf, typeInfo, hi, hs, hml, h2, h3]
theorem pre_sliceAs (b lv cv m : Nat) (hm : m ≤ cv) (w : World) : (Instr.slice 54 (.slice (some ⟨b, 0, none⟩) lv cv) none (some (.int .i64 (m : Int))) none).run Tryz.prog w = .ok (.slice (some ⟨b, 0, none⟩) m cv) w := by
  (have h0 : (0 : Int) ≤ (m : Int) := by omega); (have hc : Tryz.prog.underlying 54 = some (.slice 59) := by kernel_rfl)
  by_cases hm0 : m = 0
  · subst hm0
    simp [Instr.slice, Instr.sliceBounds, Instr.sliceBound, run_underlying hc, asIntOf, Addr.add]
  · simp [Instr.slice, Instr.sliceBounds, Instr.sliceBound, run_underlying hc, asIntOf, h0, hm, Addr.add]
theorem own_setCellsA {e : TypeId} {size n cap g : Nat} : ∀ (vs : List Value) (i : Nat) (w : World) (L : List Value), w.ownsRow 0 e size (.slice (some ⟨g, 0, none⟩) n cap) n L → ∃ L', L'.take i = L.take i ∧ (w.setCells g i vs).ownsRow 0 e size (.slice (some ⟨g, 0, none⟩) n cap) n L' := by
  intro vs
  induction vs with
  | nil => intro i w L h; exact ⟨L, rfl, h⟩
  | cons v vs ih =>
    (intro i w L h); (obtain ⟨L', h1, h2⟩ := ih (i + 1) _ _ (own_set h i v)); (refine ⟨L', ?_, h2⟩); (have : (L'.take (i + 1)).take i = ((L.set i v).take (i + 1)).take i := by rw [h1]); (rw [List.take_take, List.take_take, Nat.min_eq_left (Nat.le_succ i), List.take_set_of_le (Nat.le_refl _)] at this); (exact this)
theorem kept_setCellsA {g : Nat} : ∀ (vs : List Value) (i : Nat) (w0 w : World), Kept (fun j => j = g) w0 w → Kept (fun j => j = g) w0 (w.setCells g i vs) := by
  intro vs
  induction vs with
  | nil => intro i w0 w h; exact h
  | cons v vs ih => intro i w0 w h; exact ih (i + 1) w0 _ (h.setCell (a := ⟨g, i, none⟩) (.inl rfl) v)
theorem clearAs (w : World) (ty : TypeId) (b o n c : Nat) (hn : 0 < n)
    (hc : ∀ j, j < n * 5 → (w.cell? ⟨b, o + j, none⟩).isSome = true) (hf : ∀ j, j < n * 5 → w.frozen? ⟨b, o + j, none⟩ = false) :
    ∃ vs, (Builtin.clear_ #[54] ty #[.slice (some ⟨b, o, none⟩) n c]).run Tryz.prog w = .ok (.tuple #[]) (w.setCells b o vs) := by
  (have hu : Tryz.prog.underlying 54 = some (.slice 59) := by kernel_rfl); (have hz : (zeroValue 59).run Tryz.prog w = .ok (.agg #[.int .i64 0, .int .i64 0, .int .i64 0, .slice none 0 0, .int .i64 0]) w := by kernel_rfl); (obtain ⟨z, hzz⟩ : ∃ z, Value.cells (.agg #[.int .i64 0, .int .i64 0, .int .i64 0, .slice none 0 0, .int .i64 0]) = z := ⟨_, rfl⟩); (have hsz : z.size = 5 := by rw [← hzz]; rfl); (have hl : (Builtin.zeroCells z n).toList.length = n * 5 := by simp [Builtin.zeroCells, hsz])
  have h1 : ∀ v ∈ (Builtin.zeroCells z n).toList, v.oneCell' = true := by
    (intro v hv); (unfold Builtin.zeroCells at hv); (simp only [Array.toList_map, Array.toList_range, List.mem_map, List.mem_range] at hv); (obtain ⟨i, _, rfl⟩ := hv); (have hi : i % z.size < 5 := by rw [hsz]; exact Nat.mod_lt _ (by decide)); (rw [← hzz] at hi ⊢); (generalize i % _ = k at hi ⊢)
    rcases (by omega : k = 0 ∨ k = 1 ∨ k = 2 ∨ k = 3 ∨ k = 4) with rfl | rfl | rfl | rfl | rfl <;> rfl
  (have hst := run_storeCells_cells (P := Tryz.prog) b o (Builtin.zeroCells z n).toList 0 w (by rw [hl]; simpa using hc) (by rw [hl]; simpa using hf) h1); (simp only [Nat.add_zero] at hst); (obtain ⟨m, rfl⟩ : ∃ m, n = m + 1 := ⟨n - 1, by omega⟩); (refine ⟨(Builtin.zeroCells z (m + 1)).toList, ?_⟩)
  simp [Builtin.clear_, run_underlying hu, hz, hzz, hst]
set_option maxRecDepth 20000 in
set_option maxHeartbeats 1000000 in
theorem eqA_any (x y : As × Value) (W : World) (hx : RdZ W x.2 x.1.am) (hy : RdZ W y.2 y.1.am) : Calls Tryz.prog 67 #[.agg (asC x).toArray, .agg (asC y).toArray] W fun e w' => e = .returned (.bool (cmpA x.1 y.1 == 0)) ∧ Kept no W w' := by
  (obtain ⟨⟨xk, xa, xb, xm, xq⟩, vx⟩ := x); (obtain ⟨⟨yk, ya, yb, ym, yq⟩, vy⟩ := y)
  dsimp only at hx hy ⊢
  (obtain ⟨ax, cx, rfl, _, _⟩ := Rd.shape2 hx); (obtain ⟨ay, cy, rfl, _, _⟩ := Rd.shape2 hy); (obtain ⟨lx, hlx⟩ : ∃ l, xm.length = l := ⟨_, rfl⟩); (obtain ⟨ly, hly⟩ : ∃ l, ym.length = l := ⟨_, rfl⟩); (rw [hlx] at hx ⊢); (rw [hly] at hy ⊢); (obtain ⟨w1, hw1, g1, k1⟩ := alloc_named W (.cells #[.int .i64 xk, .int .i64 xa, .int .i64 xb, .slice ax lx cx, .int .i64 xq] 59)); (have e1 : w1.heap.size = W.heap.size + 1 := by rw [hw1]; simp); (obtain ⟨w2, hw2, g2, k2⟩ := alloc_named w1 (.cells #[.int .i64 yk, .int .i64 ya, .int .i64 yb, .slice ay ly cy, .int .i64 yq] 59)); (obtain ⟨B0, hB0⟩ : ∃ g, W.heap.size = g := ⟨_, rfl⟩); (have hB1 : w1.heap.size = B0 + 1 := by omega); (rw [hB0] at g1); (rw [hB1] at g2); (have b0 := k2.blk g1); (have hk := hid (k1.trans' k2)); (have HC := compareN_any ⟨xk, xa, xb, xm, xq⟩ ⟨yk, ya, yb, ym, yq⟩ (.slice ax lx cx) (.slice ay ly cy) w2 (RdZ.kept (RdZ.kept hx k1) k2) (RdZ.kept (RdZ.kept hy k1) k2)); (unfold asV at HC); (obtain ⟨c, hc⟩ : ∃ c, cmpA ⟨xk, xa, xb, xm, xq⟩ ⟨yk, ya, yb, ym, yq⟩ = c := ⟨_, rfl⟩); (rw [hc] at HC); (rw [hc]); (replace HC := hid HC); (replace hw1 := hid hw1); (replace hw2 := hid hw2); (replace hB0 := hid hB0); (have hB1' := hid hB1); (have b0' := hid b0); (have b1' := hid g2); (clear hx hy k1 k2 g1 g2 b0 e1 hB1 hlx hly hc); (unfold asC)
  go_enter Tryz.func67, Tryz.ntmps67
  (go_upto_region 1 with fail); (rw [← hw1.out, hB0.out]); (try rw [hB1'.out]); (rw [← hw2.out]); (have a0 : w2.cell? ⟨B0, 0, none⟩ = some (.int .i64 xk) := cell_at b0'.out rfl); (have a1 : w2.cell? ⟨B0, 1, none⟩ = some (.int .i64 xa) := cell_at b0'.out rfl); (have a2 : w2.cell? ⟨B0, 2, none⟩ = some (.int .i64 xb) := cell_at b0'.out rfl); (have a3 : w2.cell? ⟨B0, 3, none⟩ = some (.slice ax lx cx) := cell_at b0'.out rfl); (have a4 : w2.cell? ⟨B0, 4, none⟩ = some (.int .i64 xq) := cell_at b0'.out rfl); (have c0 : w2.cell? ⟨B0 + 1, 0, none⟩ = some (.int .i64 yk) := cell_at b1'.out rfl); (have c1 : w2.cell? ⟨B0 + 1, 1, none⟩ = some (.int .i64 ya) := cell_at b1'.out rfl); (have c2 : w2.cell? ⟨B0 + 1, 2, none⟩ = some (.int .i64 yb) := cell_at b1'.out rfl); (have c3 : w2.cell? ⟨B0 + 1, 3, none⟩ = some (.slice ay ly cy) := cell_at b1'.out rfl); (have c4 : w2.cell? ⟨B0 + 1, 4, none⟩ = some (.int .i64 yq) := cell_at b1'.out rfl); (go_wp2_with fail); (with_reducible refine HC.out.mono ?_); (rintro e w3 ⟨rfl, g3⟩); (have kF := hid (hk.out.trans' g3.kept)); (clear HC g3 a0 a1 a2 a3 a4 c0 c1 c2 c3 c4); (go_wp2); (go_ret); (exact ⟨rfl, kF.out⟩)
/-- What CompactFunc gives. -/
def CpR (v : Value) (xs : List (As × Value)) (w : World) (e : Ending) (w' : World) : Prop := ∃ v' zs, e = .returned v' ∧ RdA w' v' zs ∧ (∀ z ∈ zs, z ∈ xs) ∧ (∀ x ∈ xs, ∃ z ∈ zs, z.1 = x.1) ∧ zs.length ≤ xs.length ∧ Kept (ob v) w w'
set_option maxRecDepth 100000 in
set_option maxHeartbeats 4000000 in
theorem compactA_any (v : Value) (xs : List (As × Value)) (w : World) (ho : w.ownsRow 0 59 5 v xs.length (xs.flatMap asC)) (hp : ∀ x ∈ xs, ∀ W, Kept (ob v) w W → RdZ W x.2 x.1.am) (hn1 : xs.length ≤ 1000000) :
    Calls Tryz.prog 66 #[v, .func (.func 67) #[] #[]] w (CpR v xs w) := by
  obtain ⟨n, hn⟩ : ∃ n, xs.length = n := ⟨_, rfl⟩
  by_cases hsm : n < 2
  · (have hrd := Rd.of_own ho); (rw [hn] at ho hn1); (obtain ⟨av, cv, rfl⟩ := Rd.shapeZ (Rd.of_own ho)); (have hfin : Hd (RdA w (.slice av n cv) xs) := ⟨⟨fun x hx => hp x hx w (Kept.refl _ _), hrd⟩⟩); (have hlt : (n : Int) < 2 := by omega); (clear ho hp hn)
    go_enter Tryz.func66, Tryz.ntmps66
    (go_wp2); (go_ret); (unfold CpR); (exact ⟨_, xs, rfl, hfin.out, fun z hz => hz, fun x hx => ⟨x, hx, rfl⟩, Nat.le_refl _, Kept.refl _ _⟩)
  · rw [hn] at ho hn1
    obtain ⟨g, cap, rfl⟩ : ∃ g c, v = .slice (some ⟨g, 0, none⟩) n c := by
      obtain ⟨_, ⟨_, h⟩ | ⟨g, c, cur, h, _⟩⟩ := ho
      · omega
      · exact ⟨g, c, h⟩
    (have hcap : n ≤ cap ∧ cap ≤ maxLen := by obtain ⟨_, _, e, h1, h2⟩ := Rd.shape2 (Rd.of_own ho); cases e; exact ⟨h1, h2⟩); (have hml : maxLen = 9223372036854775807 := rfl); (have hobe : Hd (∀ j, j = g → ob (.slice (some ⟨g, 0, none⟩) n cap) j) := ⟨fun j h => by rw [h]; rfl⟩); (have hcap1 : n ≤ cap := hcap.1); (have hE := hid (fun (x y : As × Value) (hx : x ∈ xs) (hy : y ∈ xs) (W : World) (k : Kept (fun j => j = g) w W) => eqA_any x y W (hp x hx W (k.mono fun j _ h => hobe.out j h)) (hp y hy W (k.mono fun j _ h => hobe.out j h)))); (have hp' := hid hp); (have ho' := hid ho); (have hn' := hid hn); (have hlt : ¬ (n : Int) < 2 := by omega); (have hn9 : n ≤ 1000000 := hn1); (clear ho hp hn hcap hn1)
    go_enter Tryz.func66, Tryz.ntmps66
    go_upto_region 4 with fail
    go_loopw [5] (fun i wr => ∃ j : Nat, j + 1 ≤ n ∧ i = .int .i64 ((j : Int) + 1) ∧ Hd (Kept no w wr)) (fun i _ => n - (intOf i).toNat)
    case atStart => exact ⟨0, by omega, rfl, ⟨Kept.refl _ _⟩⟩
    case round =>
      obtain ⟨j, hj, rfl, hK⟩ := hrel
      by_cases hlt : j + 1 < n
      · (have hj1 : (j : Int) + 1 < (n : Int) := by omega); (have hj0 : (0 : Int) ≤ (j : Int) + 1 := by omega); (have hj2 : (j : Int) < (n : Int) := by omega); (have hj3 : (0 : Int) ≤ (j : Int) := by omega); (have htn : ((j : Int) + 1).toNat = j + 1 := by omega); (have hwj : IntKind.i64.wrap (j : Int) = (j : Int) := IntWalk.i64_in _ (by omega)); (have hor := hK.out.ownsRow ho'.out fun _ _ => id); (have hr1 := hid (own_rngA hor hn'.out (j + 1) hlt)); (have hr2 := hid (own_rngA hor hn'.out j (by omega))); (have hjx : j < xs.length := by rw [hn'.out]; omega); (have hjx1 : j + 1 < xs.length := by rw [hn'.out]; exact hlt); (obtain ⟨p1, hp1⟩ : ∃ p, xs[j + 1] = p := ⟨_, rfl⟩); (obtain ⟨p2, hp2⟩ : ∃ p, xs[j] = p := ⟨_, rfl⟩); (have m1 : p1 ∈ xs := hp1 ▸ List.getElem_mem hjx1); (have m2 : p2 ∈ xs := hp2 ▸ List.getElem_mem hjx); (have hp1' : Hd (xs[j + 1]? = some p1) := ⟨by rw [List.getElem?_eq_getElem hjx1, hp1]⟩); (have hp2' : Hd (xs[j]? = some p2) := ⟨by rw [List.getElem?_eq_getElem hjx, hp2]⟩); (have HE := hid (fun (W : World) (k : Kept no wr W) => hE.out p1 p2 m1 m2 W (hK.out.of_no.trans k fun _ _ h => h.elim))); (have hr1 : Hd (wr.rangeAt g ((j + 1) * 5) (asC p1)) := ⟨by have := hr1.out; rwa [hp1] at this⟩); (have hr2 : Hd (wr.rangeAt g (j * 5) (asC p2)) := ⟨by have := hr2.out; rwa [hp2] at this⟩); (obtain ⟨q, hq⟩ : ∃ q, (cmpA p1.1 p2.1 == 0) = q := ⟨_, rfl⟩); (rw [hq] at HE); (have inf1 : Hd (∀ p : As × Value, (asC p).length = 5) := ⟨fun _ => rfl⟩); (have hq' := hid hq); (have m1' := hid m1); (clear hor hp1 hp2 m1 m2 hq hjx hjx1); (go_upto_region 6 with fail); (refine region_flow (S := no) (Sl := (fun _ => no)) [Is (.func (.func 67) #[] #[]), Is (.slice (some ⟨g, 0, none⟩) n cap), Is (.int .i64 ((j : Int) + 1)), Is (.pointer (some ⟨g, (j + 1) * 5, none⟩)), Is (.agg (asC p1).toArray), Is (.slice (some ⟨g, 0, none⟩) n cap), Is (.int .i64 ((j : Int) + 1)), Is (.int .i64 (j : Int)), Is (.pointer (some ⟨g, j * 5, none⟩)), Is (.agg (asC p2).toArray), Is (.bool q)] [] (fun _ _ h => h) _ (by kernel_rfl) (by kernel_rfl) (by kernel_rfl) (by kernel_rfl) (fun x => by simp only [puts, Act.put, List.map_cons, List.map_nil, Nat.zero_add, Nat.reduceAdd, List.setIfInBounds_toArray, List.set_cons_zero, List.set_cons_succ]; exact rfl) ?_ ?_)
        · (skip); (refine .cons (fun x wf Kk hq hdep hold => ?_) ?_)
          · (try dsimp only); (clear hq hdep hold); (rw [if_pos (by rfl)]); (refine OpY.val ?_ ⟨Kept.refl _ _, rfl⟩); (first | rfl | go_simp)
          refine .cons (fun x wf Kk hq hdep hold => ?_) ?_
          · (try dsimp only); (clear hq hdep hold); (rw [if_pos (by rfl)]); (refine OpY.val ?_ ⟨Kept.refl _ _, rfl⟩); (first | rfl | go_simp)
          refine .cons (fun x wf Kk hq hdep hold => ?_) ?_
          · (try dsimp only); (clear hq hdep hold); (rw [if_pos (by rfl)]); (refine OpY.val ?_ ⟨Kept.refl _ _, rfl⟩); (first | rfl | go_simp)
          refine .cons (fun x wf Kk hq hdep hold => ?_) ?_
          · (try dsimp only); (have h1 : x 1 = _ := hdep 1 (by kernel_rfl)); (have h2 : x 2 = _ := hdep 2 (by kernel_rfl)); (clear hq hdep hold); (simp only [h1, h2]); (clear h1 h2); (rw [if_pos (by rfl)]); (refine OpY.val ?_ ⟨Kept.refl _ _, rfl⟩); (first | rfl | go_simp)
          refine .cons (fun x wf Kk hq hdep hold => ?_) ?_
          · (try dsimp only); (have h3 : x 3 = _ := hdep 3 (by kernel_rfl)); (have Kq := hq no (fun j hj => by cases (show j ∈ ([] : List Nat) from by (have e : ∀ l : List Nat, l = [] → j ∈ l → j ∈ ([] : List Nat) := fun l h h2 => h ▸ h2); exact e _ (by kernel_rfl) hj))); (clear hq hdep hold); (simp only [h3]); (clear h3); (rw [if_pos (by rfl)]); (exact OpY.row 59 (.tmp 21) rfl g ((j + 1) * 5) rfl (asC p1) _ (fun j u hu => Kq.undrew.cell (hr1.out j u hu) id) Tryz.underlying59 rfl (by rw [inf1.out]; kernel_rfl) ⟨Kept.refl _ _, rfl⟩)
          refine .cons (fun x wf Kk hq hdep hold => ?_) ?_
          · (try dsimp only); (clear hq hdep hold); (rw [if_pos (by rfl)]); (refine OpY.val ?_ ⟨Kept.refl _ _, rfl⟩); (first | rfl | go_simp)
          refine .cons (fun x wf Kk hq hdep hold => ?_) ?_
          · (try dsimp only); (clear hq hdep hold); (rw [if_pos (by rfl)]); (refine OpY.val ?_ ⟨Kept.refl _ _, rfl⟩); (first | rfl | go_simp)
          refine .cons (fun x wf Kk hq hdep hold => ?_) ?_
          · (try dsimp only); (have h6 : x 6 = _ := hdep 6 (by kernel_rfl)); (clear hq hdep hold); (simp only [h6]); (clear h6); (rw [if_pos (by rfl)]); (refine OpY.val ?_ ⟨Kept.refl _ _, rfl⟩); (first | rfl | go_simp)
          refine .cons (fun x wf Kk hq hdep hold => ?_) ?_
          · (try dsimp only); (have h5 : x 5 = _ := hdep 5 (by kernel_rfl)); (have h7 : x 7 = _ := hdep 7 (by kernel_rfl)); (clear hq hdep hold); (simp only [h5, h7]); (clear h5 h7); (rw [if_pos (by rfl)]); (refine OpY.val ?_ ⟨Kept.refl _ _, rfl⟩); (first | rfl | go_simp)
          refine .cons (fun x wf Kk hq hdep hold => ?_) ?_
          · (try dsimp only); (have h8 : x 8 = _ := hdep 8 (by kernel_rfl)); (have Kq := hq no (fun j hj => by cases (show j ∈ ([] : List Nat) from by (have e : ∀ l : List Nat, l = [] → j ∈ l → j ∈ ([] : List Nat) := fun l h h2 => h ▸ h2); exact e _ (by kernel_rfl) hj))); (clear hq hdep hold); (simp only [h8]); (clear h8); (rw [if_pos (by rfl)]); (exact OpY.row 59 (.tmp 26) rfl g (j * 5) rfl (asC p2) _ (fun j u hu => Kq.undrew.cell (hr2.out j u hu) id) Tryz.underlying59 rfl (by rw [inf1.out]; kernel_rfl) ⟨Kept.refl _ _, rfl⟩)
          refine .cons (fun x wf Kk hq hdep hold => ?_) ?_
          · (try dsimp only); (have h0 : x 0 = _ := hdep 0 (by kernel_rfl)); (have h4 : x 4 = _ := hdep 4 (by kernel_rfl)); (have h9 : x 9 = _ := hdep 9 (by kernel_rfl)); (have Kq := hq no (fun j hj => by cases (show j ∈ ([] : List Nat) from by (have e : ∀ l : List Nat, l = [] → j ∈ l → j ∈ ([] : List Nat) := fun l h h2 => h ▸ h2); exact e _ (by kernel_rfl) hj))); (clear hq hdep hold); (simp only [h0, h4, h9]); (clear h0 h4 h9); (rw [if_pos (by rfl)]); (refine OpY.call (f := 67) (args := #[.agg (asC p1).toArray, .agg (asC p2).toArray]) (by go_simp) ?_); (refine (HE.out wf Kq.undrew).mono ?_); (rintro e w2 ⟨rfl, k2⟩); (exact ⟨_, rfl, k2, rfl⟩)
          exact .nil _
        · (intro x wf Kk hv); (try dsimp only); (have h10 : x 10 = _ := hv 10 (by kernel_rfl)); (clear hv); (simp only [h10]); (clear h10); (have kf := hid (hK.out.trans' Kk.undrew)); (clear Kk hr1 hr2 HE hK)
          cases q with
          | false =>
            (go_wp2); (go_roundw)
            case rel => first | exact ⟨j + 1, by omega, by go_num, kf⟩ | ((repeat apply Exists.intro); exact ⟨⟨j + 1, by omega, by go_num, kf⟩, rfl⟩)
            case measure => simp [intOf]; omega
          | true =>
            (have heq : Hd (p1.1 = p2.1) := ⟨cmpA_eq.1 (eq_of_beq hq'.out)⟩); (have hsl := post_sliceAs g n cap (j + 1) (by omega) hcap1 (by omega) wf); (rw [show ((j + 1 : Nat) : Int) = (j : Int) + 1 by omega] at hsl); (obtain ⟨O2, hO2⟩ : ∃ o, (j + 1) * 5 = o := ⟨_, rfl⟩); (obtain ⟨L2, hL2⟩ : ∃ o, n - (j + 1) = o := ⟨_, rfl⟩); (obtain ⟨C2, hC2⟩ : ∃ o, cap - (j + 1) = o := ⟨_, rfl⟩); (rw [hO2, hL2, hC2] at hsl); (have hO2' := hid hO2); (have hL2' := hid hL2); (clear hO2 hL2 hC2); (obtain ⟨wb, hwb⟩ : ∃ W, W = wf := ⟨_, rfl⟩); (subst hwb); (have hob := hid (kf.out.ownsRow ho'.out fun _ _ => id)); (go_upto_region 9 with fail); (clear hsl)
            go_loopw [5, 7] (fun i s wr => ∃ (a c : Nat) (ys : List (As × Value)), a ≤ j + c + 1 ∧ 1 ≤ a ∧ j + c + 2 ≤ n ∧ i = .int .i64 (a : Int) ∧ s = .int .i64 ((c : Int) + 1) ∧ Hd (wr.ownsRow 0 59 5 (.slice (some ⟨g, 0, none⟩) n cap) n (ys.flatMap asC)) ∧ Hd (ys.length = n ∧ ys.drop (j + c + 1) = xs.drop (j + c + 1) ∧ (∀ y ∈ ys.take a, y ∈ xs) ∧ ∀ y ∈ xs.take (j + c + 2), ∃ z ∈ ys.take a, z.1 = y.1) ∧ Hd (Kept (fun j => j = g) wb wr)) (fun _ s _ => n - (intOf s).toNat)
            case atStart =>
              (refine ⟨j + 1, 0, xs, by omega, by omega, by omega, by go_num, rfl, hob, ⟨hn'.out, rfl, fun y hy => List.mem_of_mem_take hy, fun y hy => ?_⟩, ⟨Kept.refl _ _⟩⟩); (rw [show j + 0 + 2 = (j + 1) + 1 by omega, List.take_add_one, List.mem_append, hp1'.out] at hy)
              rcases hy with hy | hy
              · exact ⟨y, hy, rfl⟩
              · (obtain rfl : y = p1 := by simpa using hy); (exact ⟨p2, by rw [List.take_add_one, hp2'.out]; simp, heq.out.symm⟩)
            case round =>
              (clear hob); (obtain ⟨a, c, ys, ha, ha1, hcn, rfl, rfl, hO, hY, hW⟩ := hrel)
              by_cases hlt2 : j + c + 2 < n
              · (have hk1 : (c : Int) + 1 < (L2 : Int) := by have := hL2'.out; omega); (have hk0 : (0 : Int) ≤ (c : Int) + 1 := by omega); (have hk2 : (c : Int) < (L2 : Int) := by omega); (have hk3 : (0 : Int) ≤ (c : Int) := by omega); (have htc : ((c : Int) + 1).toNat = c + 1 := by omega); (have hwc : IntKind.i64.wrap (c : Int) = (c : Int) := IntWalk.i64_in _ (by omega)); (obtain ⟨y1, y2, y3, y4⟩ := hY.out); (have hx1 : j + c + 1 < xs.length := by rw [hn'.out]; omega); (have hx2 : j + c + 2 < xs.length := by rw [hn'.out]; omega); (obtain ⟨q1, hq1⟩ : ∃ p, xs[j + c + 2] = p := ⟨_, rfl⟩); (obtain ⟨q2, hq2⟩ : ∃ p, xs[j + c + 1] = p := ⟨_, rfl⟩); (have hg1 : Hd (xs[j + c + 2]? = some q1) := ⟨by rw [List.getElem?_eq_getElem hx2, hq1]⟩); (have hg2 : Hd (xs[j + c + 1]? = some q2) := ⟨by rw [List.getElem?_eq_getElem hx1, hq2]⟩); (have m1 : q1 ∈ xs := hq1 ▸ List.getElem_mem hx2); (have m2 : q2 ∈ xs := hq2 ▸ List.getElem_mem hx1)
                have e1 : ys[j + c + 2]'(by omega) = q1 := by
                  (have h := congrArg (·[1]?) y2); (simp only [List.getElem?_drop] at h); (rw [show j + c + 1 + 1 = j + c + 2 by omega, hg1.out, List.getElem?_eq_getElem (by omega)] at h); (exact Option.some.inj h)
                have e2 : ys[j + c + 1]'(by omega) = q2 := by
                  (have h := congrArg (·[0]?) y2); (simp only [List.getElem?_drop] at h); (rw [Nat.add_zero, hg2.out, List.getElem?_eq_getElem (by omega)] at h); (exact Option.some.inj h)
                (have r1 := own_rngA hO.out y1 (j + c + 2) (by omega)); (have r2 := own_rngA hO.out y1 (j + c + 1) (by omega)); (rw [e1, show (j + c + 2) * 5 = O2 + (c + 1) * 5 by have := hO2'.out; omega] at r1); (rw [e2, show (j + c + 1) * 5 = O2 + c * 5 by have := hO2'.out; omega] at r2); (have hr1 := hid r1); (have hr2 := hid r2); (have kwr := hid ((kf.out.of_no (S := fun j => j = g)).trans hW.out fun _ _ h => h)); (have HE := hid (fun (W : World) (k : Kept no wr W) => hE.out q1 q2 m1 m2 W (kwr.out.trans k fun _ _ h => h.elim))); (obtain ⟨q, hq⟩ : ∃ q, (cmpA q1.1 q2.1 == 0) = q := ⟨_, rfl⟩); (rw [hq] at HE); (have hq' := hid hq); (have hm1 := hid m1)
                have ed : Hd (ys.drop (j + c + 2) = xs.drop (j + c + 2)) := ⟨by
                  (have h := congrArg (List.drop 1) y2); (rw [List.drop_drop, List.drop_drop] at h)
                  exact h⟩
                have et : Hd (xs.take (j + (c + 1) + 2) = xs.take (j + c + 2) ++ [q1]) := ⟨by
                  rw [show j + (c + 1) + 2 = (j + c + 2) + 1 by omega, List.take_add_one, hg1.out]; rfl⟩
                (have eq2 : Hd (q2 ∈ xs.take (j + c + 2)) := ⟨by rw [show j + c + 2 = (j + c + 1) + 1 by omega, List.take_add_one, hg2.out]; simp⟩); (have hy1 := hid y1); (have hy3 := hid y3); (have hy4 := hid y4); (obtain ⟨cur, hcur⟩ := own_blkA hO.out); (have hcur' := hid hcur); (obtain ⟨av, cv, hsv, _, _⟩ := Rd.shape2 (hp'.out q1 m1 w (Kept.refl _ _))); (have hsv' := hid hsv); (clear hq hq1 hq2 m1 m2 e1 e2 r1 r2 y1 y2 y3 y4 hx1 hx2 hcur hsv); (go_upto_region 11 with fail); (refine region_flow (S := no) (Sl := (fun _ => no)) [Is (.func (.func 67) #[] #[]), Is (.slice (some ⟨g, O2, none⟩) L2 C2), Is (.int .i64 ((c : Int) + 1)), Is (.pointer (some ⟨g, O2 + (c + 1) * 5, none⟩)), Is (.agg (asC q1).toArray), Is (.slice (some ⟨g, O2, none⟩) L2 C2), Is (.int .i64 ((c : Int) + 1)), Is (.int .i64 (c : Int)), Is (.pointer (some ⟨g, O2 + c * 5, none⟩)), Is (.agg (asC q2).toArray), Is (.bool q), Is (.bool (!q))] [] (fun _ _ h => h) _ (by kernel_rfl) (by kernel_rfl) (by kernel_rfl) (by kernel_rfl) (fun x => by simp only [puts, Act.put, List.map_cons, List.map_nil, Nat.zero_add, Nat.reduceAdd, List.setIfInBounds_toArray, List.set_cons_zero, List.set_cons_succ]; exact rfl) ?_ ?_)
                · (skip); (refine .cons (fun x wf Kk hq hdep hold => ?_) ?_)
                  · (try dsimp only); (clear hq hdep hold); (rw [if_pos (by rfl)]); (refine OpY.val ?_ ⟨Kept.refl _ _, rfl⟩); (first | rfl | go_simp)
                  refine .cons (fun x wf Kk hq hdep hold => ?_) ?_
                  · (try dsimp only); (clear hq hdep hold); (rw [if_pos (by rfl)]); (refine OpY.val ?_ ⟨Kept.refl _ _, rfl⟩); (first | rfl | go_simp)
                  refine .cons (fun x wf Kk hq hdep hold => ?_) ?_
                  · (try dsimp only); (clear hq hdep hold); (rw [if_pos (by rfl)]); (refine OpY.val ?_ ⟨Kept.refl _ _, rfl⟩); (first | rfl | go_simp)
                  refine .cons (fun x wf Kk hq hdep hold => ?_) ?_
                  · (try dsimp only); (have h1 : x 1 = _ := hdep 1 (by kernel_rfl)); (have h2 : x 2 = _ := hdep 2 (by kernel_rfl)); (clear hq hdep hold); (simp only [h1, h2]); (clear h1 h2); (rw [if_pos (by rfl)]); (refine OpY.val ?_ ⟨Kept.refl _ _, rfl⟩); (first | rfl | go_simp)
                  refine .cons (fun x wf Kk hq hdep hold => ?_) ?_
                  · (try dsimp only); (have h3 : x 3 = _ := hdep 3 (by kernel_rfl)); (have Kq := hq no (fun j hj => by cases (show j ∈ ([] : List Nat) from by (have e : ∀ l : List Nat, l = [] → j ∈ l → j ∈ ([] : List Nat) := fun l h h2 => h ▸ h2); exact e _ (by kernel_rfl) hj))); (clear hq hdep hold); (simp only [h3]); (clear h3); (rw [if_pos (by rfl)]); (exact OpY.row 59 (.tmp 41) rfl g (O2 + (c + 1) * 5) rfl (asC q1) _ (fun j u hu => Kq.undrew.cell (hr1.out j u hu) id) Tryz.underlying59 rfl (by rw [inf1.out]; kernel_rfl) ⟨Kept.refl _ _, rfl⟩)
                  refine .cons (fun x wf Kk hq hdep hold => ?_) ?_
                  · (try dsimp only); (clear hq hdep hold); (rw [if_pos (by rfl)]); (refine OpY.val ?_ ⟨Kept.refl _ _, rfl⟩); (first | rfl | go_simp)
                  refine .cons (fun x wf Kk hq hdep hold => ?_) ?_
                  · (try dsimp only); (clear hq hdep hold); (rw [if_pos (by rfl)]); (refine OpY.val ?_ ⟨Kept.refl _ _, rfl⟩); (first | rfl | go_simp)
                  refine .cons (fun x wf Kk hq hdep hold => ?_) ?_
                  · (try dsimp only); (have h6 : x 6 = _ := hdep 6 (by kernel_rfl)); (clear hq hdep hold); (simp only [h6]); (clear h6); (rw [if_pos (by rfl)]); (refine OpY.val ?_ ⟨Kept.refl _ _, rfl⟩); (first | rfl | go_simp)
                  refine .cons (fun x wf Kk hq hdep hold => ?_) ?_
                  · (try dsimp only); (have h5 : x 5 = _ := hdep 5 (by kernel_rfl)); (have h7 : x 7 = _ := hdep 7 (by kernel_rfl)); (clear hq hdep hold); (simp only [h5, h7]); (clear h5 h7); (rw [if_pos (by rfl)]); (refine OpY.val ?_ ⟨Kept.refl _ _, rfl⟩); (first | rfl | go_simp)
                  refine .cons (fun x wf Kk hq hdep hold => ?_) ?_
                  · (try dsimp only); (have h8 : x 8 = _ := hdep 8 (by kernel_rfl)); (have Kq := hq no (fun j hj => by cases (show j ∈ ([] : List Nat) from by (have e : ∀ l : List Nat, l = [] → j ∈ l → j ∈ ([] : List Nat) := fun l h h2 => h ▸ h2); exact e _ (by kernel_rfl) hj))); (clear hq hdep hold); (simp only [h8]); (clear h8); (rw [if_pos (by rfl)]); (exact OpY.row 59 (.tmp 46) rfl g (O2 + c * 5) rfl (asC q2) _ (fun j u hu => Kq.undrew.cell (hr2.out j u hu) id) Tryz.underlying59 rfl (by rw [inf1.out]; kernel_rfl) ⟨Kept.refl _ _, rfl⟩)
                  refine .cons (fun x wf Kk hq hdep hold => ?_) ?_
                  · (try dsimp only); (have h0 : x 0 = _ := hdep 0 (by kernel_rfl)); (have h4 : x 4 = _ := hdep 4 (by kernel_rfl)); (have h9 : x 9 = _ := hdep 9 (by kernel_rfl)); (have Kq := hq no (fun j hj => by cases (show j ∈ ([] : List Nat) from by (have e : ∀ l : List Nat, l = [] → j ∈ l → j ∈ ([] : List Nat) := fun l h h2 => h ▸ h2); exact e _ (by kernel_rfl) hj))); (clear hq hdep hold); (simp only [h0, h4, h9]); (clear h0 h4 h9); (rw [if_pos (by rfl)]); (refine OpY.call (f := 67) (args := #[.agg (asC q1).toArray, .agg (asC q2).toArray]) (by go_simp) ?_); (refine (HE.out wf Kq.undrew).mono ?_); (rintro e w2 ⟨rfl, k2⟩); (exact ⟨_, rfl, k2, rfl⟩)
                  refine .cons (fun x wf Kk hq hdep hold => ?_) ?_
                  · (try dsimp only); (have h10 : x 10 = _ := hdep 10 (by kernel_rfl)); (clear hq hdep hold); (simp only [h10]); (clear h10); (rw [if_pos (by rfl)]); (refine OpY.val ?_ ⟨Kept.refl _ _, rfl⟩); (first | rfl | go_simp)
                  exact .nil _
                · (intro x wf Kk hv); (try dsimp only); (have h11 : x 11 = _ := hv 11 (by kernel_rfl)); (clear hv); (simp only [h11]); (clear h11); (have kF := hid (Kk.undrew)); (clear Kk hr2 HE)
                  cases q with
                  | true =>
                    (have heq2 : Hd (q1.1 = q2.1) := ⟨cmpA_eq.1 (eq_of_beq hq'.out)⟩); (have hO3 := hid (kF.out.ownsRow hO.out fun _ _ => id)); (have hW3 := hid (hW.out.trans kF.out fun _ _ h => h.elim))
                    have hY3 : Hd (ys.length = n ∧ ys.drop (j + (c + 1) + 1) = xs.drop (j + (c + 1) + 1) ∧ (∀ y ∈ ys.take a, y ∈ xs) ∧ ∀ y ∈ xs.take (j + (c + 1) + 2), ∃ z ∈ ys.take a, z.1 = y.1) := ⟨hy1.out, ed.out, hy3.out, fun y hy => by
                      rw [et.out, List.mem_append] at hy
                      rcases hy with hy | hy
                      · exact hy4.out y hy
                      · (obtain rfl := List.mem_singleton.1 hy); (obtain ⟨z, hz, hz2⟩ := hy4.out q2 eq2.out)
                        exact ⟨z, hz, hz2.trans heq2.out.symm⟩⟩
                    (clear hO hY hW hr1); (go_wp2); (go_roundw)
                    case rel => first | exact ⟨a, c + 1, ys, by omega, by omega, by omega, rfl, by go_num, hO3, hY3, hW3⟩ | ((repeat apply Exists.intro); exact ⟨⟨a, c + 1, ys, by omega, by omega, by omega, rfl, by go_num, hO3, hY3, hW3⟩, rfl⟩)
                    case measure => simp [intOf]; omega
                  | false =>
                    (obtain ⟨q1x, q1v⟩ := q1); (have hsv2 : q1v = .slice av q1x.am.length cv := hsv'.out); (subst hsv2); (obtain ⟨lq, hlq⟩ : ∃ l, q1x.am.length = l := ⟨_, rfl⟩); (have hrr : ∀ j u, (asC (q1x, (.slice av q1x.am.length cv : Value)))[j]? = some u → wf.cell? ⟨g, O2 + (c + 1) * 5 + j, none⟩ = some u := fun j u hu => kF.out.cell (hr1.out j u hu) id); (have d0 := hrr 0 _ rfl); (have d1 := hrr 1 _ rfl); (have d2 := hrr 2 _ rfl); (have d3 := hrr 3 _ rfl); (have d4 := hrr 4 _ rfl); (rw [hlq] at d3); (rw [Nat.add_zero] at d0)
                    dsimp only at d0 d1 d2 d4
                    (have hO3 := kF.out.ownsRow hO.out fun _ _ => id); (have hb := hid (kF.out.blk hcur'.out)); (have ffz := row_free hb.out); (have han : a < n := by omega); (have hai : (a : Int) < (n : Int) := by omega); (have ha0 : (0 : Int) ≤ (a : Int) := by omega); (have rA := own_rngA hO3 hy1.out a han); (obtain ⟨ya, hya⟩ : ∃ y, ys[a]'(by rw [hy1.out]; exact han) = y := ⟨_, rfl⟩); (rw [hya] at rA); (have g0 := rA 0 _ rfl); (have g1 := rA 1 _ rfl); (have g2 := rA 2 _ rfl); (have g3 := rA 3 _ rfl); (have g4 := rA 4 _ rfl); (rw [Nat.add_zero] at g0); (have hfs := flat_set ys a (by rw [hy1.out]; exact han) (q1x, .slice av q1x.am.length cv))
                    dsimp only at hfs
                    (rw [hlq] at hfs); (obtain ⟨w9, hw9⟩ : ∃ W, ((((wf.setCell ⟨g, a * 5, none⟩ (.int .i64 q1x.k)).setCell ⟨g, a * 5 + 1, none⟩ (.int .i64 q1x.a)).setCell ⟨g, a * 5 + 2, none⟩ (.int .i64 q1x.b)).setCell ⟨g, a * 5 + 3, none⟩ (.slice av lq cv)).setCell ⟨g, a * 5 + 4, none⟩ (.int .i64 q1x.q) = W := ⟨_, rfl⟩)
                    have hO9 : Hd (w9.ownsRow 0 59 5 (.slice (some ⟨g, 0, none⟩) n cap) n ((ys.set a (q1x, (.slice av q1x.am.length cv : Value))).flatMap asC)) := ⟨by
                      rw [← hw9, hlq, ← hfs]
                      exact own_set (own_set (own_set (own_set (own_set hO3 _ _) _ _) _ _) _ _) _ _⟩
                    have hW9 : Hd (Kept (fun j => j = g) wb w9) := ⟨by
                      rw [← hw9]
                      exact (((((hW.out.trans kF.out fun _ _ h => h.elim).setCell (a := ⟨g, a * 5, none⟩) (.inl rfl) _).setCell (a := ⟨g, a * 5 + 1, none⟩) (.inl rfl) _).setCell (a := ⟨g, a * 5 + 2, none⟩) (.inl rfl) _).setCell (a := ⟨g, a * 5 + 3, none⟩) (.inl rfl) _).setCell (a := ⟨g, a * 5 + 4, none⟩) (.inl rfl) _⟩
                    have hY9 : Hd ((ys.set a (q1x, (.slice av q1x.am.length cv : Value))).length = n ∧ (ys.set a (q1x, (.slice av q1x.am.length cv : Value))).drop (j + (c + 1) + 1) = xs.drop (j + (c + 1) + 1) ∧ (∀ y ∈ (ys.set a (q1x, (.slice av q1x.am.length cv : Value))).take (a + 1), y ∈ xs) ∧ ∀ y ∈ xs.take (j + (c + 1) + 2), ∃ z ∈ (ys.set a (q1x, (.slice av q1x.am.length cv : Value))).take (a + 1), z.1 = y.1) := ⟨by
                      have et2 : (ys.set a (q1x, (.slice av q1x.am.length cv : Value))).take (a + 1) = ys.take a ++ [(q1x, (.slice av q1x.am.length cv : Value))] := by
                        rw [List.take_add_one, List.take_set_of_le (Nat.le_refl _), List.getElem?_set_self (by rw [hy1.out]; exact han)]; rfl
                      refine ⟨by rw [List.length_set]; exact hy1.out, ?_, ?_, ?_⟩
                      · rw [List.drop_set_of_lt (by omega)]; exact ed.out
                      · (intro y hy); (rw [et2, List.mem_append] at hy)
                        rcases hy with hy | hy
                        · exact hy3.out y hy
                        · rw [List.mem_singleton.1 hy]; exact hm1.out
                      · (intro y hy); (rw [et2]); (rw [et.out, List.mem_append] at hy)
                        rcases hy with hy | hy
                        · (obtain ⟨z, hz, hz2⟩ := hy4.out y hy); (exact ⟨z, List.mem_append_left _ hz, hz2⟩)
                        · rw [List.mem_singleton.1 hy]
                          exact ⟨_, List.mem_append_right _ (List.mem_singleton.2 rfl), rfl⟩⟩
                    (clear hO3 hO hY hW hr1 hfs hrr rA hya); (go_wp2); (go_roundw)
                    case rel => first | exact ⟨a + 1, c + 1, _, by omega, by omega, by omega, by go_num, by go_num, hO9, hY9, hW9⟩ | ((repeat apply Exists.intro); exact ⟨⟨a + 1, c + 1, _, by omega, by omega, by omega, by go_num, by go_num, hO9, hY9, hW9⟩, rfl⟩)
                    case measure => simp [intOf]; omega
              · (have hcn' : j + c + 2 = n := by omega); (have hk1 : ¬ (c : Int) + 1 < (L2 : Int) := by have := hL2'.out; omega); (have han : a < n := by omega); (obtain ⟨y1, y2, y3, y4⟩ := hY.out); (obtain ⟨cur, hcur⟩ := own_blkA hO.out); (have hsl1 := post_sliceAs g n cap a (by omega) hcap1 (by omega) wr)
                obtain ⟨vs, hvs⟩ : ∃ vs, ∀ ty, (Builtin.clear_ #[54] ty #[.slice (some ⟨g, a * 5, none⟩) (n - a) (cap - a)]).run Tryz.prog wr = .ok (.tuple #[]) (wr.setCells g (a * 5) vs) := by
                  have hx : ∀ ty, _ := fun ty => clearAs wr ty g (a * 5) (n - a) (cap - a) (by omega) (fun q hq => by
                    (have hl : (ys.flatMap asC).length = n * 5 := by rw [asC_len, y1]); (obtain ⟨_, b9, c9, e9, _, _, h | ⟨b, o, e, hc⟩⟩ := Rd.of_own hO.out)
                    · cases e9; omega
                    · cases e9
                      cases e
                      (have h2 := hc (a * 5 + q) _ (List.getElem?_eq_getElem (by rw [hl]; omega))); (rw [Nat.zero_add] at h2)
                      rw [h2]; rfl) fun q hq => row_free hcur _
                  (obtain ⟨vs, h⟩ := hx 0); (exact ⟨vs, fun ty => h⟩)
                (obtain ⟨L', hL1, hL2⟩ := own_setCellsA vs (a * 5) wr _ hO.out); (obtain ⟨w9, hw9⟩ : ∃ W, wr.setCells g (a * 5) vs = W := ⟨_, rfl⟩); (rw [hw9] at hvs hL2)
                have hW9 : Kept (fun j => j = g) w w9 := by
                  (have h := ((kf.out.of_no (S := fun j => j = g)).trans hW.out fun _ _ h => h)); (rw [← hw9]); (exact kept_setCellsA vs (a * 5) w wr h)
                have hfin : Hd (RdA w9 (.slice (some ⟨g, 0, none⟩) a cap) (ys.take a)) := ⟨by
                  (have hal : (ys.take a).length = a := by rw [List.length_take, y1]; omega); (refine ⟨fun x hx => hp'.out x (y3 x hx) w9 (hW9.mono fun j _ h => hobe.out j h), ?_⟩); (rw [hal]); (obtain ⟨h1, ao9, cap9, e9, h2, h3, h4⟩ := Rd.of_own hL2)
                  cases e9
                  refine ⟨by rw [asC_len, hal], _, _, rfl, by omega, h3, .inr ?_⟩
                  rcases h4 with h4 | ⟨b9, o9, e9, h4⟩
                  · omega
                  · (refine ⟨b9, o9, e9, fun q u hu => h4 q u ?_⟩); (have hlq : q < a * 5 := by have := (List.getElem?_eq_some_iff.1 hu).1; rw [asC_len, hal] at this; exact this)
                    have e1 : (ys.take a).flatMap asC = (ys.flatMap asC).take (a * 5) := by
                      (have hs : ys.flatMap asC = (ys.take a).flatMap asC ++ (ys.drop a).flatMap asC := by rw [← List.flatMap_append, List.take_append_drop]); (have hl9 : ((ys.take a).flatMap asC).length = a * 5 := by rw [asC_len, hal]); (rw [hs, ← hl9]); (exact List.take_left.symm)
                    (rw [e1, List.getElem?_take_of_lt hlq] at hu); (have h5 : (L'.take (a * 5))[q]? = ((ys.flatMap asC).take (a * 5))[q]? := by rw [hL1]); (rw [List.getElem?_take_of_lt hlq, List.getElem?_take_of_lt hlq] at h5)
                    rw [h5]; exact hu⟩
                (have hfin2 : Hd ((∀ z ∈ ys.take a, z ∈ xs) ∧ (∀ x ∈ xs, ∃ z ∈ ys.take a, z.1 = x.1) ∧ (ys.take a).length ≤ xs.length ∧ Kept (ob (.slice (some ⟨g, 0, none⟩) n cap)) w w9) := ⟨y3, fun x hx => y4 x (by rw [hcn', List.take_of_length_le (by rw [hn'.out]; exact Nat.le_refl _)]; exact hx), by rw [List.length_take, y1, hn'.out]; omega, hW9.mono fun j _ h => hobe.out j h⟩); (have hsl2 := pre_sliceAs g n cap a (by omega) w9); (clear hL1 hL2 hO hY hW hcur y1 y2 y3 y4 hw9 hW9); (go_wp2_with (simp only [hvs])); (go_ret); (unfold CpR); (exact ⟨_, _, rfl, hfin.out, hfin2.out.1, hfin2.out.2.1, hfin2.out.2.2.1, hfin2.out.2.2.2⟩)
      · (obtain rfl : j + 1 = n := by omega); (have hj1 : ¬ (j : Int) + 1 < ((j + 1 : Nat) : Int) := by omega); (have hfin : Hd (RdA wr (.slice (some ⟨g, 0, none⟩) (j + 1) cap) xs) := ⟨⟨fun x hx => hp'.out x hx wr (hK.out.mono fun j _ h => h.elim), by have := Rd.of_own (hK.out.ownsRow ho'.out fun _ _ => id); rw [hn'.out]; exact this⟩⟩); (have kF : Hd (Kept (ob (.slice (some ⟨g, 0, none⟩) (j + 1) cap)) w wr) := ⟨hK.out.of_no⟩); (go_wp2); (go_ret); (unfold CpR); (exact ⟨_, xs, rfl, hfin.out, fun z hz => hz, fun x hx => ⟨x, hx, rfl⟩, Nat.le_refl _, kF.out⟩)
end Go.Proofs.YtaobaaaihgahfaaGreat

/- Package derive: Best, suitable. -/
namespace Go.Proofs.YtaobaaaihgahfaaGreat
open Go.RowKit Go.Mk Go.Pil Go.Mg Go.Nr Go.Sort
theorem tl_one {n c : Nat} (hc : c < n) : Tl n [(c : Int)] := ⟨by simp, fun x hx => by rw [List.mem_singleton.1 hx]; omega, by simp⟩
def BestR (n : Nat) (gs : List Grp) (wn : Nat) (w : World) (e : Ending) (w' : World) : Prop := ∃ b : Int, e = .returned (.int .i64 b) ∧ (b ≠ 0 → ∀ c : Nat, c < n → c ≠ wn → 0 < val n gs [(c : Int)]) ∧ Kept no w w'
set_option maxRecDepth 100000 in
set_option maxHeartbeats 4000000 in
theorem best_any (n wn : Nat) (vg : Value) (ps : List (Grp × Value)) (w : World) (h2 : 2 ≤ n) (hn : n ≤ 4) (hw : wn < n) (hp : isPile (n : Int) (grps ps) = true) (hg : RdG w vg ps) :
    Calls Tryz.prog 61 #[.int .i64 (n : Int), vg, .int .i64 (wn : Int)] w (BestR n (grps ps) wn w) := by
  (have HP := valid_any (n : Int) vg ps w hg); (rw [show (decide (1 ≤ (n : Int) ∧ (n : Int) ≤ 7) && isPile (n : Int) (grps ps)) = true by rw [hp, Bool.and_true]; exact decide_eq_true ⟨by omega, by omega⟩] at HP); (replace HP := hid HP); (have HS := hid (fun (W : World) (k : Kept no w W) => newSearch_any n vg ps W h2 (by omega) hp (hg.kept k))); (have HVa := hid (fun (gS bV bM : Nat) (c : Nat) (hc : c < n) (v : Value) (N : Nat) (W : World) (r : RdZ W v [(c : Int)]) (h : DS no n (grps ps) gS bV bM N W) (hN : N + 170 ≤ 1000000) => value_any n (grps ps) gS bV bM h2 hn hp 3 [(c : Int)] (tl_one hc) (by simp; omega) v N W r h hN)); (obtain ⟨ag, cg, hvg, _, _⟩ := hg.shape); (subst hvg); (obtain ⟨lg, hlg⟩ : ∃ l, ps.length = l := ⟨_, rfl⟩); (rw [hlg] at HP HS ⊢); (have hw0 : ¬ (wn : Int) < 0 := by omega); (have hw1 : ¬ (n : Int) ≤ (wn : Int) := by omega); (have hw2 : ¬ n ≤ wn := by omega); (clear hg hp hlg)
  go_enter Tryz.func61, Tryz.ntmps61
  (go_upto_region 1 with fail); (go_wp2_with fail); (with_reducible refine HP.out.mono ?_); (rintro e w1 ⟨rfl, k1⟩); (have HS1 := hid (HS.out w1 k1)); (have k01 := hid k1); (clear HP HS k1); (go_upto_region 4 with fail); (go_wp2_with fail); (with_reducible refine HS1.out.mono ?_); (rintro e w2 ⟨gS, bV, bM, rfl, hD, k2, hbV, hbM⟩); (have hD' := hid hD); (have k02 := hid (k01.out.trans' k2)); (have hbb : Hd (∀ j, bm bV bM j → w.heap.size ≤ j) := ⟨fun j hj => by have := k01.out.size; rcases hj with h | h <;> omega⟩); (clear HS1 hD k2 hbV hbM k01); (go_upto_region 6 with fail)
  go_loopw [7, 27] (fun b i wr => ∃ (c : Nat) (z : Int), c ≤ n ∧ i = .int .i64 (c : Int) ∧ b = .int .i64 z ∧ Hd (∀ d : Nat, d < c → d ≠ wn → z ≤ val n (grps ps) [(d : Int)]) ∧ Hd (DS no n (grps ps) gS bV bM (c * 170) wr) ∧ Hd (Kept no w wr)) (fun _ i _ => n - (intOf i).toNat)
  case atStart => exact ⟨0, _, by omega, rfl, rfl, ⟨fun d hd => by omega⟩, ⟨hD'.out.more (by omega)⟩, k02⟩
  case round =>
    obtain ⟨c, z, hc, rfl, rfl, hz, hDr, hK⟩ := hrel
    by_cases hlt : c < n
    · have hc1 : (c : Int) < (n : Int) := by omega
      by_cases hcw : c = wn
      · (have hne : ((c : Int) != (wn : Int)) = false := by rw [hcw]; simp); (have hz2 : Hd (∀ d : Nat, d < c + 1 → d ≠ wn → z ≤ val n (grps ps) [(d : Int)]) := ⟨fun d hd hdw => hz.out d (by omega) hdw⟩); (have hD2 : Hd (DS no n (grps ps) gS bV bM ((c + 1) * 170) wr) := ⟨hDr.out.more (by omega)⟩); (replace hcw := hid hcw); (go_wp2); (go_roundw)
        case rel => first | exact ⟨c + 1, z, by omega, by go_num, rfl, hz2, hD2, hK⟩ | ((repeat apply Exists.intro); exact ⟨⟨c + 1, z, by omega, by go_num, rfl, hz2, hD2, hK⟩, rfl⟩)
        case measure => simp [intOf]; omega
      · (have hne : ((c : Int) != (wn : Int)) = true := bne_iff_ne.2 (by omega)); (obtain ⟨w5, hw5, g5, k5⟩ := alloc_named wr (.cells #[.int .i64 (c : Int)] 3)); (obtain ⟨G, hG⟩ : ∃ g, wr.heap.size = g := ⟨_, rfl⟩); (rw [hG] at g5); (have hrd : RdZ w5 (.slice (some ⟨G, 0, none⟩) 1 1) [(c : Int)] := own_RdZ (own_zsA (l := [(c : Int)]) g5 1 rfl (by decide))); (have HV := hid (HVa.out gS bV bM c hlt _ _ w5 hrd (hDr.out.kept k5) (by omega))); (have hk5 := hid k5); (replace hw5 := hid hw5); (replace hG := hid hG); (replace hcw := hid hcw); (obtain ⟨vz, hvz⟩ : ∃ v, val n (grps ps) [(c : Int)] = v := ⟨_, rfl⟩); (rw [hvz] at HV)
        have hz2 : Hd (∀ d : Nat, d < c + 1 → d ≠ wn → min z vz ≤ val n (grps ps) [(d : Int)]) := ⟨fun d hd hdw => by
          by_cases h : d = c
          · subst h; rw [hvz]; omega
          · have := hz.out d (by omega) hdw; omega⟩
        (clear k5 g5 hrd hvz hz); (go_wp2_with fail); (try rw [hG.out]); (rw [← hw5.out]); (with_reducible refine HV.out.mono ?_); (rintro e w6 ⟨rfl, hD6, k6⟩); (have hD2 : Hd (DS no n (grps ps) gS bV bM ((c + 1) * 170) w6) := ⟨hD6.more (by have : Cv 3 = 170 := rfl; omega)⟩); (have hK2 : Hd (Kept no w w6) := ⟨(hK.out.trans' hk5.out).trans k6 fun j hj e => by have := hbb.out j e; omega⟩); (clear HV hD6 k6 hK hDr); (go_wp2); (go_roundw)
        case rel => first | exact ⟨c + 1, _, by omega, by go_num, rfl, hz2, hD2, hK2⟩ | ((repeat apply Exists.intro); exact ⟨⟨c + 1, _, by omega, by go_num, rfl, hz2, hD2, hK2⟩, rfl⟩)
        case measure => simp [intOf]; omega
    · (obtain rfl : c = n := by omega); (have hc1 : ¬ (c : Int) < (c : Int) := by omega); (go_wp2); (go_ret); (unfold BestR); (exact ⟨max 0 z, rfl, fun h d hd hdw => by have := hz.out d hd hdw; omega, hK.out⟩)
set_option maxRecDepth 100000 in
set_option maxHeartbeats 4000000 in
theorem suitable_any (n cc wn cw bw ow : Nat) (ac : Option Addr) (t : Int) (vg : Value) (ps : List (Grp × Value)) (w : World) (h1 : 1 ≤ n) (h7 : n ≤ 7) (ht : 1 ≤ t ∧ t ≤ 3) (hw : wn < n) (hp : isPile (n : Int) (grps ps) = true) (hg : RdG w vg ps) (hwi : RdZ w (.slice (some ⟨bw, ow, none⟩) 1 cw) [(wn : Int)]) :
    Calls Tryz.prog 60 #[.agg #[.string ⟨#[]⟩, .slice ac n cc, .int .i64 1, .int .i64 1, .int .i64 0, .int .i64 0, .int .i64 t, .int .i64 0, .int .i64 0], vg, .slice (some ⟨bw, ow, none⟩) 1 cw] w fun e w' => e = .returned (.bool true) ∧ Kept no w w' := by
  (obtain ⟨w1, hw1, g1, k1⟩ := alloc_named w (.cells #[.string ⟨#[]⟩, .slice ac n cc, .int .i64 1, .int .i64 1, .int .i64 0, .int .i64 0, .int .i64 t, .int .i64 0, .int .i64 0] 24)); (obtain ⟨B0, hB0⟩ : ∃ g, w.heap.size = g := ⟨_, rfl⟩); (rw [hB0] at g1); (have k01 := hid k1); (have b0 := hid g1); (have n1 : min (n : Int) 7 = (n : Int) := by omega); (have n2 : (if (7 : Int) < (n : Int) then (7 : Int) else (n : Int)) = (n : Int) := by rw [if_neg (by omega)]); (have n3 : (if 7 < n then (7 : Int) else (n : Int)) = (n : Int) := by rw [if_neg (by omega)]); (have n4 : ¬ 7 < n := by omega); (have HFa := hid (fun (v : Value) (W : World) (k : Kept no w W) (r : RdZ W v (allC n)) => fit_any 1 ⟨#[]⟩ ac n cc 1 1 0 0 t 0 0 vg v ps (allC n) W (hg.kept k) r)); (rw [fit_irv h1 h7 ht hp] at HFa); (have HC := hid (fun (W : World) (k : Kept no w W) => containsN_any (.slice (some ⟨bw, ow, none⟩) 0 cw) ([(wn : Int)].take 0) (wn : Int) W (RdZ.take (RdZ.kept hwi k) 0 (by simp)))); (obtain ⟨_, _, ecw, hcw1, _⟩ := Rd.shape2 hwi)
  cases ecw
  obtain ⟨bw', ow', e, cwn⟩ := RdZ.at hwi 0 (by simp)
  cases e
  (have cwn : w.cell? ⟨bw, ow, none⟩ = some (.int .i64 (wn : Int)) := cwn); (have cw1 := hid cwn); (obtain ⟨ag, lg, cg, hvg⟩ : ∃ a l c, vg = .slice a l c := by obtain ⟨a, c, h, _⟩ := hg.shape; exact ⟨_, _, _, h⟩); (subst hvg); (have c3 : ¬ (wn : Int) < 0 := by omega); (have c4 : ¬ (n : Int) ≤ (wn : Int) := by omega); (have c5 : ¬ n ≤ wn := by omega); (have hcw0 : 0 ≤ cw := by omega); (replace hw1 := hid hw1); (replace hB0 := hid hB0); (clear g1 k1 hg hwi hp cwn)
  go_enter Tryz.func60, Tryz.ntmps60
  (go_upto_region 1 with fail); (rw [← hw1.out, hB0.out]); (have a1 : w1.cell? ⟨B0, 1, none⟩ = some (.slice ac n cc) := cell_at b0.out rfl); (go_upto_region 4 with fail); (clear a1)
  go_loopw [8, 17] (fun out i wr => ∃ k : Nat, k ≤ n ∧ i = .int .i64 (k : Int) ∧ Hd (OwZ w1 wr out (allC k))) (fun _ i _ => n - (intOf i).toNat)
  case atStart => exact ⟨0, by omega, rfl, ⟨OwZ.nil w1⟩⟩
  case round =>
    obtain ⟨k, hk, rfl, hO⟩ := hrel
    by_cases hlt : k < n
    · have hk1 : (k : Int) < (n : Int) := by omega
      have hqm : Hd ((allC k).length + 1 ≤ maxLen ∧ ((allC k).length + 1) * 8 ≤ 140737488355328) := ⟨by
        (have hm : maxLen = 9223372036854775807 := rfl); (rw [allC_len])
        omega⟩
      (go_wp2_with (at_builtin; refine wpList_append_lit _ rfl _ _ 26 rfl 3 1 8 TInts _ _ _ rfl hO.out.own 1 [.int .i64 (k : Int)] rfl rfl (fun u hu => by obtain rfl := List.mem_singleton.1 hu; rfl) hqm.out.1 hqm.out.2 ?_)); (intro v' w5 h2 h3 h4 _); (have hO5 : Hd (OwZ w1 w5 v' (allC (k + 1))) := ⟨by rw [allC_succ]; exact hO.out.add (k : Int) h2 h3 h4⟩); (clear h2 h3 h4 hO hqm); (go_wp2); (go_roundw)
      case rel => first | exact ⟨k + 1, by omega, by go_num, hO5⟩ | ((repeat apply Exists.intro); exact ⟨⟨k + 1, by omega, by go_num, hO5⟩, rfl⟩)
      case measure => simp [intOf]; omega
    · (obtain rfl : k = n := by omega); (have hk1 : ¬ (k : Int) < (k : Int) := by omega); (have kr := hid (k01.out.trans' hO.out.kept)); (have br := hid (hO.out.kept.blk b0.out)); (have HF := HFa.out _ wr kr.out hO.out.rd); (obtain ⟨al, cl, hal⟩ := Rd.shapeZ hO.out.rd); (subst hal); (rw [allC_len] at HF ⊢); (replace HF := hid HF); (clear hO); (have a0 : wr.cell? ⟨B0, 0, none⟩ = some (.string ⟨#[]⟩) := cell_at br.out rfl); (have a1 : wr.cell? ⟨B0, 1, none⟩ = some (.slice ac k cc) := cell_at br.out rfl); (have a2 : wr.cell? ⟨B0, 2, none⟩ = some (.int .i64 1) := cell_at br.out rfl); (have a3 : wr.cell? ⟨B0, 3, none⟩ = some (.int .i64 1) := cell_at br.out rfl); (have a4 : wr.cell? ⟨B0, 4, none⟩ = some (.int .i64 0) := cell_at br.out rfl); (have a5 : wr.cell? ⟨B0, 5, none⟩ = some (.int .i64 0) := cell_at br.out rfl); (have a6 : wr.cell? ⟨B0, 6, none⟩ = some (.int .i64 t) := cell_at br.out rfl); (have a7 : wr.cell? ⟨B0, 7, none⟩ = some (.int .i64 0) := cell_at br.out rfl); (have a8 : wr.cell? ⟨B0, 8, none⟩ = some (.int .i64 0) := cell_at br.out rfl); (go_wp2_with fail); (with_reducible refine HF.out.mono ?_); (rintro e w2 ⟨rfl, k2⟩); (have k02 := hid (kr.out.trans' k2)); (clear HF a0 a1 a2 a3 a4 a5 a6 a7 a8 k2); (go_upto_region 11 with fail)
      go_loopw [34] (fun i wr => (i = .int .i64 0 ∧ Hd (Kept no w2 wr)) ∨ (i = .int .i64 1 ∧ Hd (Kept no w2 wr))) (fun i _ => 1 - (intOf i).toNat)
      case atStart => exact .inl ⟨rfl, ⟨Kept.refl _ _⟩⟩
      case round =>
        rcases hrel with ⟨rfl, hK⟩ | ⟨rfl, hK⟩
        · (have cwr : wr.cell? ⟨bw, ow, none⟩ = some (.int .i64 (wn : Int)) := (k02.out.trans' hK.out).cell cw1.out id); (have hsl := pre_slice (some ⟨bw, ow, none⟩) 1 cw 0 (.inr ⟨bw, ow, rfl⟩) (by omega) wr); (have hsl : (Instr.slice 26 (.slice (some ⟨bw, ow, none⟩) 1 cw) none (some (.int .i64 0)) none).run Tryz.prog wr = .ok (.slice (some ⟨bw, ow, none⟩) 0 cw) wr := hsl); (have HC1 := HC.out wr (k02.out.trans' hK.out)); (rw [List.take_zero, show decide ((wn : Int) ∈ ([] : List Int)) = false from rfl] at HC1); (replace HC1 := hid HC1); (go_wp2_with fail); (with_reducible refine HC1.out.mono ?_); (rintro e w3 ⟨rfl, q3⟩); (have hK2 := hid (hK.out.trans' q3.kept)); (clear HC1 hsl q3 cwr); (go_wp2); (go_roundw)
          case rel => first | exact .inr ⟨rfl, hK2⟩ | ((repeat apply Exists.intro); exact ⟨.inr ⟨rfl, hK2⟩, rfl⟩)
          case measure => simp [intOf]
        · (have kF := hid (k02.out.trans' hK.out)); (go_wp2); (go_ret); (exact ⟨rfl, kF.out⟩)
end Go.Proofs.YtaobaaaihgahfaaGreat

/- Package derive: Assertions at an instant-runoff contest of at most 4 candidates. -/
namespace Go.Proofs.YtaobaaaihgahfaaGreat
open Go.RowKit Go.Mk Go.Pil Go.Mg Go.Nr Go.Sort
/-- What Assertions answers. -/
def AsR (n wn : Nat) (gs : List Grp) (w : World) (e : Ending) (w' : World) : Prop := ∃ (v : Value) (zs : List (As × Value)) (is : Bool), e = .returned (.tuple #[v, .bool is]) ∧ RdA w' v zs ∧ zs.length ≤ 1024 ∧ (is = true → (∀ z ∈ zs, Ok n z.1 ∧ 0 < mg n gs z.1) ∧ (2 ≤ n → ∀ c : Nat, c < n → c ≠ wn → Blk n (zs.map (·.1)) [(c : Int)])) ∧ Kept no w w'
theorem RdA.nil (w : World) : RdA w (.slice none 0 0) [] := ⟨(fun x hx => by cases hx), nil_rd _ _⟩
set_option maxRecDepth 100000 in
set_option maxHeartbeats 4000000 in
theorem assertions_any (n cc wn cw bw ow : Nat) (ac : Option Addr) (t : Int) (vg : Value) (ps : List (Grp × Value)) (w : World) (h1 : 1 ≤ n) (h4 : n ≤ 4) (ht : 1 ≤ t ∧ t ≤ 3) (hw : wn < n) (hp : isPile (n : Int) (grps ps) = true) (hg : RdG w vg ps) (hwi : RdZ w (.slice (some ⟨bw, ow, none⟩) 1 cw) [(wn : Int)]) :
    Calls Tryz.prog 21 #[.agg #[.string ⟨#[]⟩, .slice ac n cc, .int .i64 1, .int .i64 1, .int .i64 0, .int .i64 0, .int .i64 t, .int .i64 0, .int .i64 0], vg, .slice (some ⟨bw, ow, none⟩) 1 cw] w (AsR n wn (grps ps) w) := by
  (obtain ⟨w1, hw1, g1, k1⟩ := alloc_named w (.cells #[.string ⟨#[]⟩, .slice ac n cc, .int .i64 1, .int .i64 1, .int .i64 0, .int .i64 0, .int .i64 t, .int .i64 0, .int .i64 0] 24)); (obtain ⟨B0, hB0⟩ : ∃ g, w.heap.size = g := ⟨_, rfl⟩); (rw [hB0] at g1); (have k01 := hid k1); (have b0 := hid g1); (have HU := hid (suitable_any n cc wn cw bw ow ac t vg ps w1 h1 (by omega) ht hw hp (hg.kept k1) (RdZ.kept hwi k1))); (have HB := hid (fun (h2 : 2 ≤ n) (W : World) (k : Kept no w W) => best_any n wn vg ps W h2 h4 hw hp (hg.kept k))); (have HS := hid (fun (h2 : 2 ≤ n) (W : World) (k : Kept no w W) => newSearch_any n vg ps W h2 (by omega) hp (hg.kept k))); (have HL := hid (fun (h2 : 2 ≤ n) (gS bV bM : Nat) (c : Nat) (hc : c < n) (v : Value) (N : Nat) (W : World) (r : RdZ W v [(c : Int)]) (h : DS no n (grps ps) gS bV bM N W) (hN : N + 711 ≤ 1000000) => list_any n (grps ps) gS bV bM h2 h4 hp 3 (by omega) [(c : Int)] (tl_one hc) (by simp; omega) v N W r h hN)); (obtain ⟨_, _, ecw, hcw1, _⟩ := Rd.shape2 hwi)
  cases ecw
  obtain ⟨bw', ow', e, cwn⟩ := RdZ.at hwi 0 (by simp)
  cases e
  (have cwn : w.cell? ⟨bw, ow, none⟩ = some (.int .i64 (wn : Int)) := cwn); (have cw1 := hid cwn); (obtain ⟨ag, lg, cg, hvg⟩ : ∃ a l c, vg = .slice a l c := by obtain ⟨a, c, h, _⟩ := hg.shape; exact ⟨_, _, _, h⟩); (subst hvg); (replace hw1 := hid hw1); (replace hB0 := hid hB0); (clear g1 k1 hg hwi hp cwn)
  go_enter Tryz.func21, Tryz.ntmps21
  (go_upto_region 1 with fail); (rw [← hw1.out, hB0.out]); (have a0 : w1.cell? ⟨B0, 0, none⟩ = some (.string ⟨#[]⟩) := cell_at b0.out rfl); (have a1 : w1.cell? ⟨B0, 1, none⟩ = some (.slice ac n cc) := cell_at b0.out rfl); (have a2 : w1.cell? ⟨B0, 2, none⟩ = some (.int .i64 1) := cell_at b0.out rfl); (have a3 : w1.cell? ⟨B0, 3, none⟩ = some (.int .i64 1) := cell_at b0.out rfl); (have a4 : w1.cell? ⟨B0, 4, none⟩ = some (.int .i64 0) := cell_at b0.out rfl); (have a5 : w1.cell? ⟨B0, 5, none⟩ = some (.int .i64 0) := cell_at b0.out rfl); (have a6 : w1.cell? ⟨B0, 6, none⟩ = some (.int .i64 t) := cell_at b0.out rfl); (have a7 : w1.cell? ⟨B0, 7, none⟩ = some (.int .i64 0) := cell_at b0.out rfl); (have a8 : w1.cell? ⟨B0, 8, none⟩ = some (.int .i64 0) := cell_at b0.out rfl); (go_wp2_with fail); (with_reducible refine HU.out.mono ?_); (rintro e w2 ⟨rfl, k2⟩); (have k02 := hid (k01.out.trans' k2)); (have b2 := hid (k2.blk b0.out)); (clear HU a0 a1 a2 a3 a4 a5 a6 a7 a8 k2 k01); (have a1 : w2.cell? ⟨B0, 1, none⟩ = some (.slice ac n cc) := cell_at b2.out rfl); (have a2 : w2.cell? ⟨B0, 2, none⟩ = some (.int .i64 1) := cell_at b2.out rfl); (have a3 : w2.cell? ⟨B0, 3, none⟩ = some (.int .i64 1) := cell_at b2.out rfl)
  by_cases h2 : 2 ≤ n
  · (have hn1 : ¬ (n : Int) ≤ 1 := by omega); (have hn2 : ¬ n ≤ 1 := by omega); (have cwr : w2.cell? ⟨bw, ow, none⟩ = some (.int .i64 (wn : Int)) := k02.out.cell cw1.out id); (have HB1 := hid (HB.out h2 w2 k02.out)); (go_upto_region 10 with fail); (go_wp2_with fail); (with_reducible refine HB1.out.mono ?_); (rintro e w3 ⟨b, rfl, hb, k3⟩); (have k03 := hid (k02.out.trans' k3)); (have hb' := hid hb); (clear HB HB1 a1 a2 a3 cwr k3 hb)
    by_cases hb0 : b = 0
    · (subst hb0); (go_wp2); (refine bodyPost_ret (v := .tuple #[.slice none 0 0, .bool false]) (results_2 (t := 6) (u := 7) (by rfl) _ _ _) rfl ?_); (exact ⟨_, [], false, rfl, RdA.nil _, by simp, (fun h => by cases h), k03.out⟩)
    · (have hbf : (b == 0) = false := beq_eq_false_iff_ne.2 hb0); (have hpos := hid (hb'.out hb0)); (have HS1 := hid (HS.out h2 w3 k03.out)); (replace hb0 := hid hb0); (clear HS hb'); (go_upto_region 12 with fail); (go_wp2_with fail); (with_reducible refine HS1.out.mono ?_); (rintro e w4 ⟨gS, bV, bM, rfl, hD, k4, hbV, hbM⟩); (have hD' := hid hD); (have k04 := hid (k03.out.trans' k4)); (have hbb : Hd (∀ j, bm bV bM j → w.heap.size ≤ j) := ⟨fun j hj => by have := k03.out.size; rcases hj with h | h <;> omega⟩); (clear HS1 hD k4 hbV hbM k03 hbf); (go_upto_region 14 with fail)
      go_loopw [9, 50] (fun out i wr => ∃ (c : Nat) (xs : List (As × Value)), c ≤ n ∧ i = .int .i64 (c : Int) ∧ Hd (OwAs w4 wr out xs) ∧ Hd (xs.length ≤ c * 256) ∧ Hd (∀ x ∈ xs, Ok n x.1 ∧ 0 < mg n (grps ps) x.1) ∧ Hd (∀ d : Nat, d < c → d ≠ wn → ∀ l : List As, (∀ x ∈ xs.map (·.1), x ∈ l) → Blk n l [(d : Int)]) ∧ Hd (DS no n (grps ps) gS bV bM (c * 711) wr) ∧ Hd (Kept (bm bV bM) w4 wr)) (fun _ i _ => n - (intOf i).toNat)
      case atStart => exact ⟨0, [], by omega, rfl, ⟨OwAs.nil w4 w4⟩, ⟨Nat.zero_le _⟩, ⟨fun x hx => by cases hx⟩, ⟨fun d hd => by omega⟩, ⟨hD'.out.more (by omega)⟩, ⟨Kept.refl _ _⟩⟩
      case round =>
        (obtain ⟨c, xs, hc, rfl, hO, hXl, hA, hB, hDr, hK⟩ := hrel); (have hKw : Hd (Kept no w wr) := ⟨k04.out.trans hK.out fun j hj e => by have := hbb.out j e; omega⟩)
        by_cases hlt : c < n
        · (have hc1 : (c : Int) < (n : Int) := by omega); (have cwr : wr.cell? ⟨bw, ow, none⟩ = some (.int .i64 (wn : Int)) := hKw.out.cell cw1.out id)
          by_cases hcw : c = wn
          · (have hne : ((c : Int) != (wn : Int)) = false := by rw [hcw]; simp); (have hB2 : Hd (∀ d : Nat, d < c + 1 → d ≠ wn → ∀ l : List As, (∀ x ∈ xs.map (·.1), x ∈ l) → Blk n l [(d : Int)]) := ⟨fun d hd hdw l hl => hB.out d (by omega) hdw l hl⟩); (have hD2 : Hd (DS no n (grps ps) gS bV bM ((c + 1) * 711) wr) := ⟨hDr.out.more (by omega)⟩); (have hX2 : Hd (xs.length ≤ (c + 1) * 256) := ⟨by have := hXl.out; omega⟩); (replace hcw := hid hcw); (go_wp2); (go_roundw)
            case rel => first | exact ⟨c + 1, xs, by omega, by go_num, hO, hX2, hA, hB2, hD2, hK⟩ | ((repeat apply Exists.intro); exact ⟨⟨c + 1, xs, by omega, by go_num, hO, hX2, hA, hB2, hD2, hK⟩, rfl⟩)
            case measure => simp [intOf]; omega
          · (have hne : ((c : Int) != (wn : Int)) = true := bne_iff_ne.2 (by omega)); (obtain ⟨w5, hw5, g5, k5⟩ := alloc_named wr (.cells #[.int .i64 (c : Int)] 3)); (obtain ⟨G, hG⟩ : ∃ g, wr.heap.size = g := ⟨_, rfl⟩); (rw [hG] at g5); (have hrd : RdZ w5 (.slice (some ⟨G, 0, none⟩) 1 1) [(c : Int)] := own_RdZ (own_zsA (l := [(c : Int)]) g5 1 rfl (by decide))); (have HV := hid (HL.out h2 gS bV bM c hlt _ _ w5 hrd (hDr.out.kept k5) (by omega))); (have hD5 := hid (hDr.out.kept k5)); (have hk5 := hid k5); (have hO5 := hid (hO.out.kept k5)); (have hps := hid (hpos.out c hlt hcw)); (replace hw5 := hid hw5); (replace hG := hid hG); (replace hcw := hid hcw); (clear k5 g5 hrd hDr hO); (go_wp2_with fail); (try rw [hG.out]); (rw [← hw5.out]); (with_reducible refine HV.out.mono ?_); (rintro e w6 ⟨v6, ys, rfl, oY, hLs, hYl, hD6, k6⟩); (have iV5 := hD5.out.mV.isMp); (have iM5 := hD5.out.mM.isMp); (have hO6 := hid (hO5.out.km iV5 iM5 k6)); (have hD7 : Hd (DS no n (grps ps) gS bV bM ((c + 1) * 711) w6) := ⟨hD6.more (by have : Cl 3 = 711 := rfl; omega)⟩); (have hK7 := hid ((hK.out.trans hk5.out fun _ _ h => h.elim).trans k6 fun _ _ h => h)); (have h05 := hK7.out.size); (have hs6 : Hd (w4.heap.size ≤ w6.heap.size) := ⟨h05⟩); (have hYr := hid oY.rows); (have hYo := hid (Rd.of_own oY.own)); (have hYl2 : ys.length ≤ 256 := hYl)
            have hqm : Hd (xs.length + ys.length ≤ maxLen ∧ (xs.length + ys.length) * 56 ≤ 140737488355328) := ⟨by
              (have : maxLen = 9223372036854775807 := rfl); (have h1 := hXl.out)
              omega⟩
            (have hLs' := hid hLs); (have hYl' := hid hYl2); (obtain ⟨a6, c6, hv6, _, _⟩ := Rd.shape2 hYo.out); (subst hv6); (clear HV hD6 k6 oY hD5 hK hO5 hLs hYl hYl2 h05 iV5 iM5 hk5); (go_wp2_with (at_builtin; refine wpList_append _ rfl _ _ 54 rfl 59 5 56 TAss _ xs.length (xs.flatMap asC) rfl hO6.out.own (.slice a6 ys.length c6) ys.length (ys.flatMap asC) rfl hYo.out (asC_one hYr.out) hqm.out.1 hqm.out.2 ?_)); (intro v7 w7 q2 q3 q4 _); (have hO7 := hid (hO6.out.add hYr.out hs6.out q2 q3 q4)); (have hK8 : Hd (Kept (bm bV bM) w4 w7) := ⟨hK7.out.trans q3 fun j hj e => absurd e (hO6.out.new.notOb hj)⟩); (have hD8 : Hd (DS no n (grps ps) gS bV bM ((c + 1) * 711) w7) := ⟨hD7.out.keptOb hD'.out hK8.out hO6.out.own q3⟩); (clear q2 q3 q4 hO6 hD7 hK7 hs6 hYr hYo hqm); (have hX2 : Hd ((xs ++ ys).length ≤ (c + 1) * 256) := ⟨by have := hXl.out; have := hYl'.out; rw [List.length_append]; omega⟩)
            have hA2 : Hd (∀ x ∈ xs ++ ys, Ok n x.1 ∧ 0 < mg n (grps ps) x.1) := ⟨fun x hx => by
              rcases List.mem_append.1 hx with hx | hx
              · exact hA.out x hx
              · (have := hLs'.out.ok x.1 (List.mem_map_of_mem hx)); (have h9 := hps.out)
                exact ⟨this.1, by omega⟩⟩
            have hB2 : Hd (∀ d : Nat, d < c + 1 → d ≠ wn → ∀ l : List As, (∀ x ∈ (xs ++ ys).map (·.1), x ∈ l) → Blk n l [(d : Int)]) := ⟨fun d hd hdw l hl => by
              rw [List.map_append] at hl
              by_cases h : d = c
              · subst h; exact hLs'.out.blk l fun x hx => hl x (List.mem_append_right _ hx)
              · exact hB.out d (by omega) hdw l fun x hx => hl x (List.mem_append_left _ hx)⟩
            (go_wp2); (go_roundw)
            case rel => first | exact ⟨c + 1, _, by omega, by go_num, hO7, hX2, hA2, hB2, hD8, hK8⟩ | ((repeat apply Exists.intro); exact ⟨⟨c + 1, _, by omega, by go_num, hO7, hX2, hA2, hB2, hD8, hK8⟩, rfl⟩)
            case measure => simp [intOf]; omega
        · (obtain rfl : c = n := by omega); (have hc1 : ¬ (c : Int) < (c : Int) := by omega); (obtain ⟨ao, lo, co, hout⟩ : ∃ a l c, u9 = .slice a l c := by obtain ⟨a, c, h, _⟩ := Rd.shape2 (Rd.of_own hO.out.own); exact ⟨_, _, _, h⟩); (subst hout); (have HSo := hid (sortA_any _ xs wr hO.out.own (fun x hx W k => OZ.rd (k.ownsRow (hO.out.rows x hx) fun j hj hv => own_own (hO.out.rows x hx) hO.out.own int_ne_as j hj hv)) (by have := hXl.out; omega))); (go_wp2_with fail); (with_reducible refine HSo.out.mono ?_); (rintro e w5 ⟨rfl, ys, hperm, hoy, k5⟩); (have hry : ∀ x ∈ ys, OZ w5 x.2 x.1.am := fun x hx => k5.ownsRow (hO.out.rows x (hperm.mem_iff.2 hx)) fun j hj hv => own_own (hO.out.rows x (hperm.mem_iff.2 hx)) hO.out.own int_ne_as j hj hv); (have HCo := hid (compactA_any _ ys w5 hoy (fun x hx W k => OZ.rd (k.ownsRow (hry x hx) fun j hj hv => own_own (hry x hx) hoy int_ne_as j hj hv)) (by rw [← hperm.length_eq]; have := hXl.out; omega))); (have hpm := hid hperm); (have k05 : Hd (Kept no w w5) := ⟨hKw.out.trans k5 fun j hj e => absurd e (hO.out.new.notOb (by have := k04.out.size; omega))⟩); (clear HSo hoy hry k5 hperm); (go_wp2_with fail); (with_reducible refine HCo.out.mono ?_); (rintro e w6 ⟨v6, zs, rfl, hrz, hz1, hz2, hz3, k6⟩); (have kF : Hd (Kept no w w6) := ⟨k05.out.trans k6 fun j hj e => absurd e (hO.out.new.notOb (by have := k04.out.size; omega))⟩); (have hlen := hXl.out); (have hpl := hpm.out.length_eq)
          have hfin : Hd (zs.length ≤ 1024 ∧ (∀ z ∈ zs, Ok c z.1 ∧ 0 < mg c (grps ps) z.1) ∧ (2 ≤ c → ∀ d : Nat, d < c → d ≠ wn → Blk c (zs.map (·.1)) [(d : Int)])) := ⟨by omega, fun z hz => hA.out z (hpm.out.mem_iff.2 (hz1 z hz)), fun _ d hd hdw => hB.out d hd hdw _ fun x hx => by
            (obtain ⟨y, hy, rfl⟩ := List.mem_map.1 hx); (obtain ⟨z, hz, hzz⟩ := hz2 y (hpm.out.mem_iff.1 hy))
            exact List.mem_map.2 ⟨z, hz, hzz⟩⟩
          (have hrz' := hid hrz); (clear HCo hrz hz1 hz2 k6 hlen hpl hz3); (go_wp2); (refine bodyPost_ret (v := .tuple #[v6, .bool true]) (results_2 (t := 6) (u := 7) (by rfl) _ _ _) rfl ?_); (exact ⟨v6, zs, true, rfl, hrz'.out, hfin.out.1, fun _ => hfin.out.2, kF.out⟩)
  · (obtain rfl : n = 1 := by omega); (go_wp2); (refine bodyPost_ret (v := .tuple #[.slice none 0 0, .bool true]) (results_2 (t := 6) (u := 7) (by rfl) _ _ _) rfl ?_); (exact ⟨_, [], true, rfl, RdA.nil _, by simp, fun _ => ⟨(fun z hz => by cases hz), fun h => by omega⟩, k02.out⟩)
end Go.Proofs.YtaobaaaihgahfaaGreat
