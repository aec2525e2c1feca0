/- Items in plain Lean and in memory; lists of digests of one's own. -/
import Derived.Test.YtggcbjchnefhfaaDoorPl
import Derived.Test.YtggcbjchnefhfaaDoorLess2
import Derived.Test.YtggcbjchnefhfaaDoorFind2
namespace Go.Cmt
open Go.Sha
theorem cmpB_lt {x y : UInt8} (h : x.toNat < y.toNat) : cmpB x y = -1 := by unfold cmpB; rw [if_pos (UInt8.lt_iff_toNat_lt.2 h)]
theorem cmpB_gt {x y : UInt8} (h : y.toNat < x.toNat) : cmpB x y = 1 := by
  unfold cmpB
  rw [if_neg (by rw [UInt8.lt_iff_toNat_lt]; omega), if_pos (UInt8.lt_iff_toNat_lt.2 h)]
theorem lessD_cons (x y : UInt8) (xs ys : List UInt8) : lessD (x :: xs) (y :: ys) = true ↔ x.toNat < y.toNat ∨ x = y ∧ lessD xs ys = true := by
  unfold lessD
  simp only [decide_eq_true_iff]
  by_cases h : x = y
  · subst h; simp [cmpL]
  · simp only [cmpL, h, false_and, or_false, if_false]
    have h' : x.toNat ≠ y.toNat := fun e => h (UInt8.toNat_inj.1 e)
    rcases Nat.lt_or_gt_of_ne h' with h1 | h1
    · rw [cmpB_lt h1]; simp [h1]
    · rw [cmpB_gt h1]; simp; omega
theorem lessD_nil_cons (y : UInt8) (ys : List UInt8) : lessD [] (y :: ys) = true := rfl
theorem lessD_cons_nil (y : UInt8) (ys : List UInt8) : lessD (y :: ys) [] = false := rfl
theorem lessD_irr (xs : List UInt8) : lessD xs xs = false := by unfold lessD; rw [cmpL_same]; rfl
theorem lessD_trans : ∀ {xs ys zs : List UInt8}, lessD xs ys = true → lessD ys zs = true → lessD xs zs = true
  | [], [], _, h, _ => by cases h
  | [], _ :: _, [], _, h => by cases h
  | [], _ :: _, _ :: _, _, _ => rfl
  | _ :: _, [], _, h, _ => by cases h
  | _ :: _, _ :: _, [], _, h => by cases h
  | x :: xs, y :: ys, z :: zs, h1, h2 => by
    rw [lessD_cons] at *
    rcases h1 with h1 | ⟨rfl, h1⟩
    · rcases h2 with h2 | ⟨rfl, h2⟩
      · exact .inl (by omega)
      · exact .inl h1
    · rcases h2 with h2 | ⟨rfl, h2⟩
      · exact .inl h2
      · exact .inr ⟨rfl, lessD_trans h1 h2⟩
theorem lessD_tri : ∀ xs ys : List UInt8, lessD xs ys = true ∨ xs = ys ∨ lessD ys xs = true
  | [], [] => .inr (.inl rfl)
  | [], _ :: _ => .inl rfl
  | _ :: _, [] => .inr (.inr rfl)
  | x :: xs, y :: ys => by
    rw [lessD_cons, lessD_cons]
    rcases Nat.lt_trichotomy x.toNat y.toNat with h | h | h
    · exact .inl (.inl h)
    · have h := UInt8.toNat_inj.1 h
      subst h
      rcases lessD_tri xs ys with h | h | h
      · exact .inl (.inr ⟨rfl, h⟩)
      · exact .inr (.inl (by rw [h]))
      · exact .inr (.inr (.inr ⟨rfl, h⟩))
    · exact .inr (.inr (.inl h))
/-- In ascending order. -/
def Asc (l : List (List UInt8)) : Prop := l.Pairwise fun a b => lessD b a = false
theorem asc_unique {l m : List (List UInt8)} (hl : Asc l) (hm : Asc m) (h : l.Perm m) : l = m :=
  List.Perm.eq_of_pairwise (le := fun a b => lessD b a = false) (fun a b _ _ h1 h2 => by
    rcases lessD_tri a b with h | h | h
    · rw [h] at h2; cases h2
    · exact h
    · rw [h] at h1; cases h1) hl hm h
/-- The element in its place. -/
def insD (d : List UInt8) (l : List (List UInt8)) : List (List UInt8) := l.takeWhile (lessD · d) ++ [d] ++ l.dropWhile (lessD · d)
theorem insD_perm (d : List UInt8) (l : List (List UInt8)) : (insD d l).Perm (l ++ [d]) := by
  unfold insD
  have h : (l.takeWhile (lessD · d) ++ [d] ++ l.dropWhile (lessD · d)).Perm (l.takeWhile (lessD · d) ++ l.dropWhile (lessD · d) ++ [d]) := by
    rw [List.append_assoc, List.append_assoc]
    exact List.Perm.append_left _ List.perm_append_comm
  rwa [List.takeWhile_append_dropWhile] at h
theorem insD_asc {d : List UInt8} {l : List (List UInt8)} (h : Asc l) : Asc (insD d l) := by
  induction l with
  | nil => simp [insD, Asc]
  | cons x l ih =>
    have h1 := List.pairwise_cons.1 h
    unfold insD
    by_cases hx : lessD x d = true
    · rw [List.takeWhile_cons_of_pos (p := fun x => lessD x d) hx, List.dropWhile_cons_of_pos (p := fun x => lessD x d) hx]
      have h2 := ih h1.2
      unfold Asc at h2 ⊢
      rw [List.cons_append, List.cons_append]
      refine List.pairwise_cons.2 ⟨fun y hy => ?_, h2⟩
      have hy : y ∈ l ++ [d] := (insD_perm d l).mem_iff.1 hy
      rcases List.mem_append.1 hy with hy | hy
      · exact h1.1 y hy
      · obtain rfl := List.mem_singleton.1 hy
        cases h3 : lessD y x with
        | false => rfl
        | true => have := lessD_trans h3 hx; rw [lessD_irr] at this; cases this
    · have hx : lessD x d = false := by simpa using hx
      rw [List.takeWhile_cons_of_neg (p := fun x => lessD x d) (by rw [hx]; decide), List.dropWhile_cons_of_neg (p := fun x => lessD x d) (by rw [hx]; decide)]
      simp only [List.nil_append, List.cons_append]
      refine List.pairwise_cons.2 ⟨fun y hy => ?_, h⟩
      rcases List.mem_cons.1 hy with rfl | hy
      · exact hx
      · cases h3 : lessD y d with
        | false => rfl
        | true =>
          have h4 := h1.1 y hy
          rcases lessD_tri x y with h5 | h5 | h5
          · rw [lessD_trans h5 h3] at hx; cases hx
          · rw [h5, h3] at hx; cases hx
          · rw [h5] at h4; cases h4
def sortD (l : List (List UInt8)) : List (List UInt8) := l.foldl (fun out d => insD d out) []
theorem sortD_step (l : List (List UInt8)) (d : List UInt8) : sortD (l ++ [d]) = insD d (sortD l) := by unfold sortD; rw [List.foldl_append]; rfl
theorem sortD_spec (l : List (List UInt8)) : (sortD l).Perm l ∧ Asc (sortD l) := by
  suffices h : ∀ (n : Nat) (l : List (List UInt8)), l.length = n → (sortD l).Perm l ∧ Asc (sortD l) from h _ l rfl
  intro n
  induction n with
  | zero => intro l h; rw [List.eq_nil_of_length_eq_zero h]; exact ⟨List.Perm.refl _, List.Pairwise.nil⟩
  | succ n ih =>
    intro l h
    have hne : l ≠ [] := fun e => by rw [e] at h; cases h
    obtain ⟨l0, d, rfl⟩ : ∃ l0 d, l = l0 ++ [d] := ⟨l.dropLast, l.getLast hne, (List.dropLast_concat_getLast hne).symm⟩
    obtain ⟨h1, h2⟩ := ih l0 (by simpa using h)
    rw [sortD_step]
    exact ⟨(insD_perm d _).trans (h1.append_right _), insD_asc h2⟩
theorem sortD_eq {l m : List (List UInt8)} (h : l.Perm m) (hl : Asc l) : l = sortD m := asc_unique hl (sortD_spec m).2 (h.trans (sortD_spec m).1.symm)
theorem sortD_perm {l m : List (List UInt8)} (h : l.Perm m) : sortD l = sortD m := sortD_eq ((sortD_spec l).1.trans h) (sortD_spec l).2
structure Itm where
  s : Int
  b : Int
  p : Int
  ph : Bool
  pr : List Int
instance : Inhabited Itm := ⟨⟨0, 0, 0, false, []⟩⟩
def com (sec : List UInt8) (c : Int) (x : Itm) : List UInt8 := commitD (saltD sec [c, x.s, x.b, x.p]) [c, x.s, x.b, x.p] x.pr
/-- The commitments of the items that are not phantoms, in the items' order. -/
def coms (sec : List UInt8) (c : Int) (l : List Itm) : List (List UInt8) := (l.filter fun x => !x.ph).map (com sec c)
theorem com_length (sec : List UInt8) (c : Int) (x : Itm) : (com sec c x).length = 32 := sum_length _
theorem salt_length (sec : List UInt8) (l : List Int) : (saltD sec l).length = 32 := sum_length _
theorem coms_snoc (sec : List UInt8) (c : Int) (l : List Itm) (x : Itm) : coms sec c (l ++ [x]) = coms sec c l ++ if x.ph then [] else [com sec c x] := by
  unfold coms
  rw [List.filter_append, List.map_append]
  cases h : x.ph <;> simp [h]
theorem coms_le (sec : List UInt8) (c : Int) (l : List Itm) : (coms sec c l).length ≤ l.length := by unfold coms; rw [List.length_map]; exact List.length_filter_le _ _
theorem coms_perm {sec : List UInt8} {c : Int} {l m : List Itm} (h : l.Perm m) : (coms sec c l).Perm (coms sec c m) := (h.filter _).map _
theorem coms_len (sec : List UInt8) (c : Int) (l : List Itm) : ∀ d ∈ coms sec c l, d.length = 32 := fun d hd => by
  unfold coms at hd
  obtain ⟨x, _, rfl⟩ := List.mem_map.1 hd
  exact com_length _ _ _
end Go.Cmt
namespace Go.Proofs.YtggcbjchnefhfaaDoor
open Go.RowKit Go.Mk Go.Sha Go.Cmt
def itmC (x : Itm × Value) : List Value := [.int .i64 x.1.s, .int .i64 x.1.b, .int .i64 x.1.p, .bool x.1.ph, x.2]
def flatI (l : List (Itm × Value)) : List Value := l.flatMap itmC
def itms (l : List (Itm × Value)) : List Itm := l.map (·.1)
theorem itms_length (l : List (Itm × Value)) : (itms l).length = l.length := by simp [itms]
theorem flatI_len (l : List (Itm × Value)) : (flatI l).length = l.length * 5 := flatLen (f := itmC) fun _ _ => rfl
/-- A slice of items. -/
def RdI (w : World) (v : Value) (l : List (Itm × Value)) : Prop := (∀ x ∈ l, RdZ w x.2 x.1.pr) ∧ Rd w 5 v l.length (flatI l)
theorem RdI.kept {w w' : World} {v : Value} {l : List (Itm × Value)} (h : RdI w v l) (k : Kept no w w') : RdI w' v l := ⟨fun x hx => (h.1 x hx).kept k, h.2.keptNo k⟩
theorem RdI.at {w : World} {ao : Option Addr} {n cap : Nat} {l : List (Itm × Value)} (h : RdI w (.slice ao n cap) l) (k : Nat) (hk : k < l.length) :
    ∃ b o x v, ao = some ⟨b, o, none⟩ ∧ l[k] = (x, v) ∧ w.cell? ⟨b, o + k * 5, none⟩ = some (.int .i64 x.s) ∧ w.cell? ⟨b, o + k * 5 + 1, none⟩ = some (.int .i64 x.b) ∧ w.cell? ⟨b, o + k * 5 + 2, none⟩ = some (.int .i64 x.p)
      ∧ w.cell? ⟨b, o + k * 5 + 3, none⟩ = some (.bool x.ph) ∧ w.cell? ⟨b, o + k * 5 + 4, none⟩ = some v ∧ RdZ w v x.pr := by
  obtain ⟨b, o, e, hr⟩ := Rd.row (f := itmC) (sz := 5) (fun _ _ => rfl) h.2 k hk
  exact ⟨b, o, _, _, e, rfl, hr 0 _ rfl, hr 1 _ rfl, hr 2 _ rfl, hr 3 _ rfl, hr 4 _ rfl, h.1 _ (List.getElem_mem hk)⟩
def flatD (ds : List (List UInt8)) : List Value := ds.flatMap (·.map B)
theorem flatD_snoc (ds : List (List UInt8)) (d : List UInt8) : flatD (ds ++ [d]) = flatD ds ++ d.map B := by simp [flatD]
/-- A list of digests of one's own, new since w. -/
structure OwD (w w' : World) (v : Value) (ds : List (List UInt8)) : Prop where
  own : w'.ownsRow 0 43 32 v ds.length (flatD ds)
  len : ∀ d ∈ ds, d.length = 32
  kept : Kept no w w'
  new : New w v
theorem TDigs : ElemT Tryd.prog 34 43 32 32 := .mk' (z := .agg (Array.replicate 32 (B 0))) (by kernel_rfl) (by kernel_rfl) (by kernel_rfl) (by decide)
theorem OwD.nil (w : World) : OwD w w (.slice none 0 0) [] := ⟨World.ownsRow_nil _ _ _ _, (fun x hx => by cases hx), Kept.refl _ _, .inl rfl⟩
theorem OwD.keptNo {w w' w2 : World} {v : Value} {ds : List (List UInt8)} (h : OwD w w' v ds) (k : Kept no w' w2) : OwD w w2 v ds :=
  ⟨k.ownsRow h.own fun _ _ => id, h.len, h.kept.trans' k, h.new⟩
theorem OwD.rd {w w' : World} {v : Value} {ds : List (List UInt8)} (h : OwD w w' v ds) : RdD w' v ds := ⟨h.len, Rd.of_own h.own⟩
theorem RdD.shape {w : World} {v : Value} {ds : List (List UInt8)} (h : RdD w v ds) : ∃ ao cap, v = .slice ao ds.length cap ∧ ds.length ≤ cap ∧ cap ≤ maxLen := by
  obtain ⟨_, ao, cap, e, h1, h2, _⟩ := h.2
  exact ⟨ao, cap, e, h1, h2⟩
end Go.Proofs.YtggcbjchnefhfaaDoor
