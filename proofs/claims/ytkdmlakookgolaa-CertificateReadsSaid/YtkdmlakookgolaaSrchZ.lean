/- The search for a certificate in plain Lean. -/
import Derived.Test.YtkdmlakookgolaaNodeZ
namespace Go.Mg
open Go.Pil
/-- The leaf that is looked at next. -/
def selK (l : List Nd) : Nat := (leastN l l.length).toNat
def selN (l : List Nd) : Nd := l.getD (selK l) default
/-- The children of a node. -/
def kidsE (n : Nat) (gs : List Grp) (k : Nat) (x : Nd) (e : Int) : Nd := ⟨(k : Int), e :: x.tail, max x.bd (bd n gs (e :: x.tail)), true⟩
def kids (n : Nat) (gs : List Grp) (k : Nat) (x : Nd) (m : Nat) : List Nd := ((allC m).filter fun e => decide (e ∉ x.tail)).map (kidsE n gs k x)
def stopS (n : Nat) (up lim : Int) (l : List Nd) : Bool := decide (up ≤ (selN l).bd) || decide ((selN l).tail.length = n) || decide (lim < (l.length : Int) + n - (selN l).tail.length)
def clr (x : Nd) : Nd := ⟨x.par, x.tail, x.bd, false⟩
def stepS (n : Nat) (gs : List Grp) (l : List Nd) : List Nd := l.set (selK l) (clr (selN l)) ++ kids n gs (selK l) (selN l) n
def rootE (n : Nat) (gs : List Grp) (e : Int) : Nd := ⟨-1, [e], bd n gs [e], true⟩
def startS (n : Nat) (gs : List Grp) (w : Int) (m : Nat) : List Nd := ((allC m).filter fun e => decide (e ≠ w)).map (rootE n gs)
def runS (n : Nat) (gs : List Grp) (w : Int) : Nat → List Nd
  | 0 => startS n gs w n
  | i + 1 => stepS n gs (runS n gs w i)
/-- What a search ends with. -/
def IsS (n : Nat) (gs : List Grp) (w up lim : Int) (l : List Nd) : Prop := ∃ i, l = runS n gs w i ∧ stopS n up lim l = true ∧ ∀ j, j < i → stopS n up lim (runS n gs w j) = false
theorem isS_unique {n : Nat} {gs : List Grp} {w up lim : Int} {l m : List Nd} (hl : IsS n gs w up lim l) (hm : IsS n gs w up lim m) : l = m := by
  (obtain ⟨i, rfl, hi, hi'⟩ := hl); (obtain ⟨j, rfl, hj, hj'⟩ := hm)
  rcases Nat.lt_trichotomy i j with h | h | h
  · rw [hj' i h] at hi; cases hi
  · rw [h]
  · rw [hi' j h] at hj; cases hj
theorem leastN_leaf (l : List Nd) : ∀ j, 0 ≤ leastN l j → (l.getD (leastN l j).toNat default).leaf = true ∧ ∀ i, i < j → (l.getD i default).leaf = true → (l.getD (leastN l j).toNat default).bd ≤ (l.getD i default).bd
  | 0, h => by have : leastN l 0 = -1 := rfl; omega
  | j + 1, h => by
    (have ih := leastN_leaf l j); (have hr := leastN_range l j)
    by_cases hc : (l.getD j default).leaf = true ∧ (leastN l j < 0 ∨ (l.getD j default).bd < (l.getD (leastN l j).toNat default).bd)
    · (have e : leastN l (j + 1) = (j : Int) := by show (if _ then _ else _) = _; rw [if_pos hc]); (rw [e, Int.toNat_natCast]); (refine ⟨hc.1, fun i hi hl => ?_⟩)
      by_cases hij : i = j
      · subst hij; exact Int.le_refl _
      · rcases hc.2 with h0 | h0
        · exfalso
          -- no leaf before j
          have : ∀ q, leastN l q < 0 → ∀ i, i < q → (l.getD i default).leaf = false := by
            intro q
            induction q with
            | zero => intro _ i hi; omega
            | succ q ih2 =>
              intro hq i hi
              have hq' : leastN l q < 0 ∧ (l.getD q default).leaf = false := by
                by_cases hcc : (l.getD q default).leaf = true ∧ (leastN l q < 0 ∨ (l.getD q default).bd < (l.getD (leastN l q).toNat default).bd)
                · have : leastN l (q + 1) = (q : Int) := by show (if _ then _ else _) = _; rw [if_pos hcc]
                  omega
                · (have e2 : leastN l (q + 1) = leastN l q := by show (if _ then _ else _) = _; rw [if_neg hcc]); (rw [e2] at hq); (refine ⟨hq, ?_⟩)
                  cases hb : (l.getD q default).leaf with
                  | false => rfl
                  | true => exact absurd ⟨hb, .inl hq⟩ hcc
              by_cases hiq : i = q
              · subst hiq; exact hq'.2
              · exact ih2 hq'.1 i (by omega)
          rw [this j h0 i (by omega)] at hl; cases hl
        · rcases Int.lt_or_le (leastN l j) 0 with h1 | h1
          · rw [show (leastN l j).toNat = 0 by omega] at h0
            have : ∀ q, leastN l q < 0 → ∀ i, i < q → (l.getD i default).leaf = false := by
              intro q
              induction q with
              | zero => intro _ i hi; omega
              | succ q ih2 =>
                intro hq i hi
                have hq' : leastN l q < 0 ∧ (l.getD q default).leaf = false := by
                  by_cases hcc : (l.getD q default).leaf = true ∧ (leastN l q < 0 ∨ (l.getD q default).bd < (l.getD (leastN l q).toNat default).bd)
                  · have : leastN l (q + 1) = (q : Int) := by show (if _ then _ else _) = _; rw [if_pos hcc]
                    omega
                  · (have e2 : leastN l (q + 1) = leastN l q := by show (if _ then _ else _) = _; rw [if_neg hcc]); (rw [e2] at hq); (refine ⟨hq, ?_⟩)
                    cases hb : (l.getD q default).leaf with
                    | false => rfl
                    | true => exact absurd ⟨hb, .inl hq⟩ hcc
                by_cases hiq : i = q
                · subst hiq; exact hq'.2
                · exact ih2 hq'.1 i (by omega)
            rw [this j h1 i (by omega)] at hl; cases hl
          · have := (ih h1).2 i (by omega) hl
            omega
    · (have e : leastN l (j + 1) = leastN l j := by show (if _ then _ else _) = _; rw [if_neg hc]); (rw [e] at h ⊢); (refine ⟨(ih h).1, fun i hi hl => ?_⟩)
      by_cases hij : i = j
      · (subst hij); (have : ¬ ((l.getD i default).bd < (l.getD (leastN l i).toNat default).bd) := fun hh => hc ⟨hl, .inr hh⟩)
        omega
      · exact (ih h).2 i (by omega) hl
end Go.Mg

/- electionref31.front; nodes of one's own. -/
namespace Go.Proofs.Ytkdmlakookgolaa
open Go.RowKit Go.Mk Go.Pil Go.Mg
theorem Z_oneF (l : List Int) : ∀ u ∈ l.map Z, u.oneCell' = true := fun u hu => by
  obtain ⟨z, _, rfl⟩ := List.mem_map.1 hu
  rfl
set_option maxRecDepth 20000 in
set_option maxHeartbeats 1000000 in
theorem front_any (x : Int) (v : Value) (l : List Int) (w : World) (hl : l.length ≤ 1000) (hr : RdZ w v l) : Calls Try.prog 54 #[.int .i64 x, v] w fun e w' => ∃ v', e = .returned v' ∧ OwZ w w' v' (x :: l) := by
  (have k1 : Kept no w (w.alloc (.cells #[.int .i64 x] 3)) := (Kept.refl no w).alloc _); (have ho : Hd ((w.alloc (.cells #[.int .i64 x] 3)).ownsRow 0 3 1 (.slice (some ⟨w.heap.size, 0, none⟩) 1 1) 1 [.int .i64 x]) := ⟨⟨rfl, .inr ⟨w.heap.size, 1, #[.int .i64 x], rfl, Nat.zero_le _, heap_alloc_new _ _, Nat.le_refl _, by decide, rfl, rfl⟩⟩⟩); (have hr1 := hid (show Rd (w.alloc (.cells #[.int .i64 x] 3)) 1 v l.length (l.map Z) from hr.kept k1)); (have hsz : Hd (1 + l.length ≤ maxLen ∧ (1 + l.length) * 8 ≤ 140737488355328) := ⟨by have hm : maxLen = 9223372036854775807 := rfl; omega⟩); (replace k1 := hid k1); (obtain ⟨ao, cap, rfl⟩ := Rd.shapeZ hr); (clear hr)
  go_enter Try.func54, Try.ntmps54
  (go_wp2_with (at_builtin; refine wpList_append _ rfl _ _ 40 rfl 3 1 8 TInts _ 1 [.int .i64 x] rfl ho.out _ l.length (l.map Z) rfl hr1.out (Z_oneF l) hsz.out.1 hsz.out.2 ?_)); (intro v' w2 h2 h3 h4 _)
  have hO : Hd (OwZ w w2 v' (x :: l)) := ⟨by
    refine ⟨by rw [List.length_cons, Nat.add_comm]; exact h2, k1.out.trans h3 (fun k hk e => ?_), ?_⟩
    · have : w.heap.size = k := by simpa [ob, Value.ownBlock] using e
      omega
    · rcases h4 with h | ⟨j, h5, h6⟩
      · exact .inr ⟨w.heap.size, by rw [h]; rfl, Nat.le_refl _⟩
      · exact .inr ⟨j, h5, Nat.le_trans k1.out.size h6⟩⟩
  (clear h2 h3 h4 ho hr1 k1); (go_wp2); (go_ret); (exact ⟨_, rfl, hO.out⟩)
/-- Nodes of one's own, each tail of its own. -/
structure OwNd (w w' : World) (v : Value) (l : List (Nd × Value)) : Prop where
  own : w'.ownsRow 0 76 4 v l.length (flatN l)
  rows : ∀ x ∈ l, w'.ownsRow 0 3 1 x.2 x.1.tail.length (x.1.tail.map Z)
  kept : Kept no w w'
  new : New w v
theorem int_ne_node : 3 ≠ 76 := by decide
theorem TNodes : ElemT Try.prog 23 76 4 48 := .mk' (z := .agg #[.int .i64 0, .slice none 0 0, .int .i64 0, .bool false]) (by kernel_rfl) (by kernel_rfl) (by kernel_rfl) (by decide)
theorem OwNd.nil (w : World) : OwNd w w (.slice none 0 0) [] := ⟨World.ownsRow_nil _ _ _ _, (fun x hx => by cases hx), Kept.refl _ _, .inl rfl⟩
theorem OwNd.keptNo {w w' w2 : World} {v : Value} {l : List (Nd × Value)} (h : OwNd w w' v l) (k : Kept no w' w2) : OwNd w w2 v l :=
  ⟨k.ownsRow h.own fun _ _ => id, fun x hx => k.ownsRow (h.rows x hx) fun _ _ => id, h.kept.trans' k, h.new⟩
theorem OwNd.rd {w w' : World} {v : Value} {l : List (Nd × Value)} (h : OwNd w w' v l) : RdN w' v l := ⟨fun x hx => own_RdZ (h.rows x hx), Rd.of_own h.own⟩
theorem flatN_snoc (l : List (Nd × Value)) (x : Nd × Value) : flatN (l ++ [x]) = flatN l ++ ndC x := by simp [flatN]
theorem OwNd.add {w w0 w1 w2 : World} {v v' : Value} {l : List (Nd × Value)} (h : OwNd w w0 v l) (x : Nd × Value) (k1 : Kept no w0 w1) (hu : w1.ownsRow 0 3 1 x.2 x.1.tail.length (x.1.tail.map Z))
    (ho : w2.ownsRow 0 76 4 v' (l.length + 1) (flatN l ++ ndC x)) (hk : Kept (ob v) w1 w2) (hv : NewOr w1 v v') : OwNd w w2 v' (l ++ [x]) := by
  (have h1 := h.keptNo k1); (refine ⟨by rw [List.length_append, flatN_snoc]; exact ho, fun y hy => ?_, h1.new.kept h1.kept hk, h1.new.step hv h1.kept.size⟩)
  rcases List.mem_append.1 hy with hy | hy
  · exact hk.ownsRow (h1.rows y hy) fun j hj hv => own_own (h1.rows y hy) h1.own int_ne_node j hj hv
  · (obtain rfl := List.mem_singleton.1 hy); (exact hk.ownsRow hu fun j hj hv => own_own hu h1.own int_ne_node j hj hv)
end Go.Proofs.Ytkdmlakookgolaa

/- The search's nodes are in order: tails, bounds, a leaf is left. -/
namespace Go.Mg
open Go.Pil
theorem bd_le {n : Nat} {m : Int} {gs : List Grp} (h : isPile m gs = true) (tail : List Int) : bd n gs tail ≤ 50000 := by
  (unfold bd); (refine half_le (by decide) (mx_le (by decide) fun x hx => ?_))
  rcases List.mem_append.1 hx with hx | hx
  · (unfold din at hx); (obtain ⟨i, _, hx⟩ := List.mem_flatMap.1 hx); (obtain ⟨d, _, rfl⟩ := List.mem_map.1 hx); (have := vt_small (n := n) h (tail.drop i) (tail.getD i 0)); (have := vt_small (n := n) h (tail.drop i) d)
    omega
  · (unfold dout at hx); (obtain ⟨e, _, hx⟩ := List.mem_flatMap.1 hx); (obtain ⟨t, _, rfl⟩ := List.mem_map.1 hx); (have := vt_small (n := n) h (allC n) e); (have := prefers_small h t e)
    omega
def WfN (n : Nat) (l : List Nd) : Prop := ∀ x ∈ l, isTail n x.tail = true ∧ 0 ≤ x.bd ∧ x.bd ≤ 50000
theorem tail_cons {n : Nat} {tail : List Int} {e : Int} (h : isTail n tail = true) (h0 : 0 ≤ e) (hn : e < n) (he : e ∉ tail) : isTail n (e :: tail) = true := by
  (rw [isTail_iff] at h ⊢); (refine ⟨by simp, List.nodup_cons.2 ⟨he, h.2.1⟩, fun x hx => ?_⟩)
  rcases List.mem_cons.1 hx with rfl | hx
  · exact ⟨h0, hn⟩
  · exact h.2.2 x hx
theorem wf_start {n : Nat} {gs : List Grp} {p : Int} (hp : isPile p gs = true) (w : Int) : WfN n (startS n gs w n) := fun x hx => by
  (unfold startS at hx); (obtain ⟨e, he, rfl⟩ := List.mem_map.1 hx); (have h := mem_allC.1 (List.mem_filter.1 he).1); (refine ⟨?_, bd_nonneg _ _ _, bd_le hp _⟩)
  show isTail n [e] = true
  (rw [isTail_iff]); (exact ⟨by simp, by simp, fun x hx => by rw [List.mem_singleton.1 hx]; exact h⟩)
theorem wf_kids {n : Nat} {gs : List Grp} {p : Int} (hp : isPile p gs = true) {x : Nd} (hx : isTail n x.tail = true ∧ 0 ≤ x.bd ∧ x.bd ≤ 50000) (k : Nat) : WfN n (kids n gs k x n) := fun y hy => by
  (unfold kids at hy); (obtain ⟨e, he, rfl⟩ := List.mem_map.1 hy); (have h1 := List.mem_filter.1 he); (have h := mem_allC.1 h1.1); (have h2 : e ∉ x.tail := of_decide_eq_true h1.2); (have h3 := bd_nonneg n gs (e :: x.tail)); (have h4 := bd_le (n := n) hp (e :: x.tail)); (exact ⟨tail_cons hx.1 h.1 h.2 h2, by show 0 ≤ max x.bd _; omega, by show max x.bd _ ≤ 50000; omega⟩)
theorem wf_step {n : Nat} {gs : List Grp} {p : Int} (hp : isPile p gs = true) {l : List Nd} (h : WfN n l) (hk : selK l < l.length) : WfN n (stepS n gs l) := fun y hy => by
  (have hs : selN l ∈ l := by unfold selN; rw [List.getD_eq_getElem?_getD, List.getElem?_eq_getElem hk]; simp); (unfold stepS at hy)
  rcases List.mem_append.1 hy with hy | hy
  · rcases List.mem_or_eq_of_mem_set hy with hy | rfl
    · exact h y hy
    · exact h (selN l) hs
  · exact wf_kids hp (h _ hs) _ y hy
end Go.Mg

/- The search's nodes: how many there are, that a leaf is left. -/
namespace Go.Mg
open Go.Pil
theorem leastN_none (l : List Nd) : ∀ q, leastN l q < 0 → ∀ i, i < q → (l.getD i default).leaf = false := by
  intro q
  induction q with
  | zero => intro _ i hi; omega
  | succ q ih2 =>
    intro hq i hi
    have hq' : leastN l q < 0 ∧ (l.getD q default).leaf = false := by
      by_cases hcc : (l.getD q default).leaf = true ∧ (leastN l q < 0 ∨ (l.getD q default).bd < (l.getD (leastN l q).toNat default).bd)
      · have : leastN l (q + 1) = (q : Int) := by show (if _ then _ else _) = _; rw [if_pos hcc]
        omega
      · (have e2 : leastN l (q + 1) = leastN l q := by show (if _ then _ else _) = _; rw [if_neg hcc]); (rw [e2] at hq); (refine ⟨hq, ?_⟩)
        cases hb : (l.getD q default).leaf with
        | false => rfl
        | true => exact absurd ⟨hb, .inl hq⟩ hcc
    by_cases hiq : i = q
    · subst hiq; exact hq'.2
    · exact ih2 hq'.1 i (by omega)
def HasLeaf (l : List Nd) : Prop := ∃ x ∈ l, x.leaf = true
theorem selK_spec {l : List Nd} (h : HasLeaf l) : selK l < l.length ∧ leastN l l.length = (selK l : Int) ∧ (selN l).leaf = true ∧ selN l ∈ l ∧ ∀ x ∈ l, x.leaf = true → (selN l).bd ≤ x.bd := by
  obtain ⟨x, hx, hl⟩ := h
  have h0 : 0 ≤ leastN l l.length := by
    (refine Int.not_lt.1 fun hn => ?_); (obtain ⟨i, hi, rfl⟩ := List.getElem_of_mem hx); (have := leastN_none l _ hn i hi); (rw [List.getD_eq_getElem?_getD, List.getElem?_eq_getElem hi] at this); (simp only [Option.getD_some] at this); (rw [this] at hl; cases hl)
  (have hr := leastN_range l l.length); (have hk : selK l < l.length := by unfold selK; omega); (have hs := leastN_leaf l l.length h0); (refine ⟨hk, by unfold selK; omega, hs.1, ?_, fun y hy hyl => ?_⟩)
  · (unfold selN); (rw [List.getD_eq_getElem?_getD, List.getElem?_eq_getElem hk]; simp)
  · (obtain ⟨i, hi, rfl⟩ := List.getElem_of_mem hy); (have e : l.getD i default = l[i] := by rw [List.getD_eq_getElem?_getD, List.getElem?_eq_getElem hi]; rfl); (have := hs.2 i hi (by rw [e]; exact hyl)); (rw [e] at this; exact this)
theorem out_len : ∀ (n : Nat) (l : List Int), l.Nodup → (∀ x ∈ l, 0 ≤ x ∧ x < (n : Int)) → ((allC n).filter fun e => decide (e ∉ l)).length + l.length = n := by
  intro n
  induction n with
  | zero =>
    intro l _ hx
    cases l with
    | nil => rfl
    | cons a l => have := hx a List.mem_cons_self; omega
  | succ n ih =>
    (intro l hd hx); (rw [allC_succ, List.filter_append, List.length_append])
    by_cases hm : (n : Int) ∈ l
    · (have hd' : (l.erase (n : Int)).Nodup := hd.erase _); (have hmem : ∀ x : Int, x ∈ l.erase (n : Int) ↔ x ≠ (n : Int) ∧ x ∈ l := fun x => List.Nodup.mem_erase_iff hd)
      have h1 := ih (l.erase (n : Int)) hd' (fun x h => by
        (have h2 := (hmem x).1 h); (have := hx x h2.2); (have := h2.1)
        omega)
      have h3 : (allC n).filter (fun e => decide (e ∉ l)) = (allC n).filter (fun e => decide (e ∉ l.erase (n : Int))) := by
        (refine List.filter_congr fun x h => ?_); (have hxn := mem_allC.1 h)
        have : (x ∉ l) ↔ (x ∉ l.erase (n : Int)) := by
          rw [hmem]
          constructor
          · intro h1 h2; exact h1 h2.2
          · intro h1 h2; exact h1 ⟨by omega, h2⟩
        simp only [this]
      have h4 : (l.erase (n : Int)).length + 1 = l.length := by
        (rw [List.length_erase_of_mem hm]); (have := List.length_pos_of_mem hm)
        omega
      (rw [h3]); (have h5 : ([(n : Int)].filter fun e => decide (e ∉ l)).length = 0 := by simp [hm])
      omega
    · have h1 := ih l hd (fun x h => by
        (have := hx x h); (have hne : x ≠ (n : Int) := fun e => hm (e ▸ h))
        omega)
      have h5 : ([(n : Int)].filter fun e => decide (e ∉ l)).length = 1 := by simp [hm]
      omega
theorem kids_len {n : Nat} (gs : List Grp) (k : Nat) {x : Nd} (h : isTail n x.tail = true) : (kids n gs k x n).length + x.tail.length = n := by
  (rw [isTail_iff] at h); (unfold kids); (rw [List.length_map]); (exact out_len n x.tail h.2.1 h.2.2)
theorem step_len {n : Nat} (gs : List Grp) {l : List Nd} (h : isTail n (selN l).tail = true) : (stepS n gs l).length + (selN l).tail.length = l.length + n := by
  (have := kids_len gs (selK l) h); (unfold stepS); (rw [List.length_append, List.length_set])
  omega
theorem start_len (n : Nat) (gs : List Grp) (w m : Nat) (hw : w < m) : (startS n gs (w : Int) m).length + 1 = m := by
  (unfold startS); (rw [List.length_map]); (have := out_len m [(w : Int)] (by simp) (fun x hx => by rw [List.mem_singleton.1 hx]; omega))
  simpa using this
theorem start_leaf {n : Nat} {gs : List Grp} {w m : Nat} (hw : w < m) (h2 : 2 ≤ m) : HasLeaf (startS n gs (w : Int) m) := by
  have h := start_len n gs w m hw
  cases hl : startS n gs (w : Int) m with
  | nil => rw [hl] at h; simp at h; omega
  | cons x l =>
    (refine ⟨x, List.mem_cons_self, ?_⟩); (have hx : x ∈ startS n gs (w : Int) m := by rw [hl]; exact List.mem_cons_self); (unfold startS at hx); (obtain ⟨e, _, rfl⟩ := List.mem_map.1 hx)
    rfl
theorem kids_leaf {n k : Nat} {gs : List Grp} {x y : Nd} {m : Nat} (h : y ∈ kids n gs k x m) : y.leaf = true := by
  (unfold kids at h); (obtain ⟨e, _, rfl⟩ := List.mem_map.1 h)
  rfl
theorem step_leaf {n : Nat} {gs : List Grp} {l : List Nd} (h : isTail n (selN l).tail = true) (hn : (selN l).tail.length ≠ n) : HasLeaf (stepS n gs l) := by
  have hk := kids_len gs (selK l) h
  cases hl : kids n gs (selK l) (selN l) n with
  | nil => rw [hl] at hk; simp at hk; omega
  | cons x t =>
    (have hx : x ∈ kids n gs (selK l) (selN l) n := by rw [hl]; exact List.mem_cons_self); (exact ⟨x, List.mem_append_right _ hx, kids_leaf hx⟩)
theorem kids_skip {n k : Nat} {gs : List Grp} {x : Nd} {m : Nat} (h : (m : Int) ∈ x.tail) : kids n gs k x (m + 1) = kids n gs k x m := by
  unfold kids; rw [allC_succ, List.filter_append, List.map_append]; simp [h]
theorem kids_more {n k : Nat} {gs : List Grp} {x : Nd} {m : Nat} (h : (m : Int) ∉ x.tail) : kids n gs k x (m + 1) = kids n gs k x m ++ [kidsE n gs k x (m : Int)] := by
  unfold kids; rw [allC_succ, List.filter_append, List.map_append]; simp [h]
theorem start_skip {n : Nat} {gs : List Grp} {w : Int} {m : Nat} (h : (m : Int) = w) : startS n gs w (m + 1) = startS n gs w m := by
  unfold startS; rw [allC_succ, List.filter_append, List.map_append]; simp [h]
theorem start_more {n : Nat} {gs : List Grp} {w : Int} {m : Nat} (h : (m : Int) ≠ w) : startS n gs w (m + 1) = startS n gs w m ++ [rootE n gs (m : Int)] := by
  unfold startS; rw [allC_succ, List.filter_append, List.map_append]; simp [h]
theorem allC_len (m : Nat) : (allC m).length = m := by simp [allC]
theorem kids_le (n k : Nat) (gs : List Grp) (x : Nd) (m : Nat) : (kids n gs k x m).length ≤ m := by
  unfold kids; rw [List.length_map]; exact Nat.le_trans (List.length_filter_le _ _) (by rw [allC_len]; exact Nat.le_refl _)
theorem start_le (n : Nat) (gs : List Grp) (w : Int) (m : Nat) : (startS n gs w m).length ≤ m := by
  unfold startS; rw [List.length_map]; exact Nat.le_trans (List.length_filter_le _ _) (by rw [allC_len]; exact Nat.le_refl _)
end Go.Mg
