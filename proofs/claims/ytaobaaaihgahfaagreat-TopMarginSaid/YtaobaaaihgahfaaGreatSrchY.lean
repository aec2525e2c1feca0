/- The search for a certificate in plain Lean. -/
import Derived.Test.YtaobaaaihgahfaaGreatNodeY
namespace Go.Mg
open Go.Pil
/-- The leaf that is looked at next. -/
def selK (l : List Nd) : Nat := (leastN l l.length).toNat
def selN (l : List Nd) : Nd := l.getD (selK l) default
/-- The children of a node. -/
def kidsE (n : Nat) (gs : List Grp) (k : Nat) (x : Nd) (e : Int) : Nd := ⟨(k : Int), e :: x.tail, max x.bd (bd n gs (e :: x.tail)), true⟩
def kids (n : Nat) (gs : List Grp) (k : Nat) (x : Nd) (m : Nat) : List Nd := ((allC m).filter fun e => decide (e ∉ x.tail)).map (kidsE n gs k x)
def stopS (n : Nat) (up lim : Int) (l : List Nd) : Bool := decide (up ≤ (selN l).bd) || decide ((selN l).tail.length = n) || decide (lim < (l.length : Int) + n - (selN l).tail.length)
def clr (x : Nd) : Nd := ⟨x.par, x.tail, x.bd, false⟩
def stepS (n : Nat) (gs : List Grp) (l : List Nd) : List Nd := l.set (selK l) (clr (selN l)) ++ kids n gs (selK l) (selN l) n
def rootE (n : Nat) (gs : List Grp) (e : Int) : Nd := ⟨-1, [e], bd n gs [e], true⟩
def startS (n : Nat) (gs : List Grp) (w : Int) (m : Nat) : List Nd := ((allC m).filter fun e => decide (e ≠ w)).map (rootE n gs)
def runS (n : Nat) (gs : List Grp) (w : Int) : Nat → List Nd
  | 0 => startS n gs w n
  | i + 1 => stepS n gs (runS n gs w i)
/-- What a search ends with. -/
def IsS (n : Nat) (gs : List Grp) (w up lim : Int) (l : List Nd) : Prop := ∃ i, l = runS n gs w i ∧ stopS n up lim l = true ∧ ∀ j, j < i → stopS n up lim (runS n gs w j) = false
theorem leastN_leaf (l : List Nd) : ∀ j, 0 ≤ leastN l j → (l.getD (leastN l j).toNat default).leaf = true ∧ ∀ i, i < j → (l.getD i default).leaf = true → (l.getD (leastN l j).toNat default).bd ≤ (l.getD i default).bd
  | 0, h => by have : leastN l 0 = -1 := rfl; omega
  | j + 1, h => by
    (have ih := leastN_leaf l j); (have hr := leastN_range l j)
    by_cases hc : (l.getD j default).leaf = true ∧ (leastN l j < 0 ∨ (l.getD j default).bd < (l.getD (leastN l j).toNat default).bd)
    · (have e : leastN l (j + 1) = (j : Int) := by show (if _ then _ else _) = _; rw [if_pos hc]); (rw [e, Int.toNat_natCast]); (refine ⟨hc.1, fun i hi hl => ?_⟩)
      by_cases hij : i = j
      · subst hij; exact Int.le_refl _
      · rcases hc.2 with h0 | h0
        · exfalso
          -- no leaf before j
          have : ∀ q, leastN l q < 0 → ∀ i, i < q → (l.getD i default).leaf = false := by
            intro q
            induction q with
            | zero => intro _ i hi; omega
            | succ q ih2 =>
              intro hq i hi
              have hq' : leastN l q < 0 ∧ (l.getD q default).leaf = false := by
                by_cases hcc : (l.getD q default).leaf = true ∧ (leastN l q < 0 ∨ (l.getD q default).bd < (l.getD (leastN l q).toNat default).bd)
                · have : leastN l (q + 1) = (q : Int) := by show (if _ then _ else _) = _; rw [if_pos hcc]
                  omega
                · (have e2 : leastN l (q + 1) = leastN l q := by show (if _ then _ else _) = _; rw [if_neg hcc]); (rw [e2] at hq); (refine ⟨hq, ?_⟩)
                  cases hb : (l.getD q default).leaf with
                  | false => rfl
                  | true => exact absurd ⟨hb, .inl hq⟩ hcc
              by_cases hiq : i = q
              · subst hiq; exact hq'.2
              · exact ih2 hq'.1 i (by omega)
          rw [this j h0 i (by omega)] at hl; cases hl
        · rcases Int.lt_or_le (leastN l j) 0 with h1 | h1
          · rw [show (leastN l j).toNat = 0 by omega] at h0
            have : ∀ q, leastN l q < 0 → ∀ i, i < q → (l.getD i default).leaf = false := by
              intro q
              induction q with
              | zero => intro _ i hi; omega
              | succ q ih2 =>
                intro hq i hi
                have hq' : leastN l q < 0 ∧ (l.getD q default).leaf = false := by
                  by_cases hcc : (l.getD q default).leaf = true ∧ (leastN l q < 0 ∨ (l.getD q default).bd < (l.getD (leastN l q).toNat default).bd)
                  · have : leastN l (q + 1) = (q : Int) := by show (if _ then _ else _) = _; rw [if_pos hcc]
                    omega
                  · (have e2 : leastN l (q + 1) = leastN l q := by show (if _ then _ else _) = _; rw [if_neg hcc]); (rw [e2] at hq); (refine ⟨hq, ?_⟩)
                    cases hb : (l.getD q default).leaf with
                    | false => rfl
                    | true => exact absurd ⟨hb, .inl hq⟩ hcc
                by_cases hiq : i = q
                · subst hiq; exact hq'.2
                · exact ih2 hq'.1 i (by omega)
            rw [this j h1 i (by omega)] at hl; cases hl
          · have := (ih h1).2 i (by omega) hl
            omega
    · (have e : leastN l (j + 1) = leastN l j := by show (if _ then _ else _) = _; rw [if_neg hc]); (rw [e] at h ⊢); (refine ⟨(ih h).1, fun i hi hl => ?_⟩)
      by_cases hij : i = j
      · (subst hij); (have : ¬ ((l.getD i default).bd < (l.getD (leastN l i).toNat default).bd) := fun hh => hc ⟨hl, .inr hh⟩)
        omega
      · exact (ih h).2 i (by omega) hl
end Go.Mg

/- electionref31.front; nodes of one's own. -/
namespace Go.Proofs.YtaobaaaihgahfaaGreat
open Go.RowKit Go.Mk Go.Pil Go.Mg
theorem Z_oneF (l : List Int) : ∀ u ∈ l.map Z, u.oneCell' = true := fun u hu => by
  obtain ⟨z, _, rfl⟩ := List.mem_map.1 hu
  rfl
/-- Nodes of one's own, each tail of its own. -/
structure OwNd (w w' : World) (v : Value) (l : List (Nd × Value)) : Prop where
  own : w'.ownsRow 0 98 4 v l.length (flatN l)
  rows : ∀ x ∈ l, w'.ownsRow 0 3 1 x.2 x.1.tail.length (x.1.tail.map Z)
  kept : Kept no w w'
  new : New w v
theorem int_ne_node : 3 ≠ 98 := by decide
theorem TNodes : ElemT Tryz.prog 39 98 4 48 := .mk' (z := .agg #[.int .i64 0, .slice none 0 0, .int .i64 0, .bool false]) (by kernel_rfl) (by kernel_rfl) (by kernel_rfl) (by decide)
theorem OwNd.nil (w : World) : OwNd w w (.slice none 0 0) [] := ⟨World.ownsRow_nil _ _ _ _, (fun x hx => by cases hx), Kept.refl _ _, .inl rfl⟩
theorem OwNd.keptNo {w w' w2 : World} {v : Value} {l : List (Nd × Value)} (h : OwNd w w' v l) (k : Kept no w' w2) : OwNd w w2 v l :=
  ⟨k.ownsRow h.own fun _ _ => id, fun x hx => k.ownsRow (h.rows x hx) fun _ _ => id, h.kept.trans' k, h.new⟩
theorem OwNd.rd {w w' : World} {v : Value} {l : List (Nd × Value)} (h : OwNd w w' v l) : RdN w' v l := ⟨fun x hx => own_RdZ (h.rows x hx), Rd.of_own h.own⟩
theorem flatN_snoc (l : List (Nd × Value)) (x : Nd × Value) : flatN (l ++ [x]) = flatN l ++ ndC x := by simp [flatN]
theorem OwNd.add {w w0 w1 w2 : World} {v v' : Value} {l : List (Nd × Value)} (h : OwNd w w0 v l) (x : Nd × Value) (k1 : Kept no w0 w1) (hu : w1.ownsRow 0 3 1 x.2 x.1.tail.length (x.1.tail.map Z))
    (ho : w2.ownsRow 0 98 4 v' (l.length + 1) (flatN l ++ ndC x)) (hk : Kept (ob v) w1 w2) (hv : NewOr w1 v v') : OwNd w w2 v' (l ++ [x]) := by
  (have h1 := h.keptNo k1); (refine ⟨by rw [List.length_append, flatN_snoc]; exact ho, fun y hy => ?_, h1.new.kept h1.kept hk, h1.new.step hv h1.kept.size⟩)
  rcases List.mem_append.1 hy with hy | hy
  · exact hk.ownsRow (h1.rows y hy) fun j hj hv => own_own (h1.rows y hy) h1.own int_ne_node j hj hv
  · (obtain rfl := List.mem_singleton.1 hy); (exact hk.ownsRow hu fun j hj hv => own_own hu h1.own int_ne_node j hj hv)
end Go.Proofs.YtaobaaaihgahfaaGreat

/- The search's nodes are in order: tails, bounds, a leaf is left. -/
namespace Go.Mg
open Go.Pil
theorem bd_le {n : Nat} {m : Int} {gs : List Grp} (h : isPile m gs = true) (tail : List Int) : bd n gs tail ≤ 50000 := by
  (unfold bd); (refine half_le (by decide) (mx_le (by decide) fun x hx => ?_))
  rcases List.mem_append.1 hx with hx | hx
  · (unfold din at hx); (obtain ⟨i, _, hx⟩ := List.mem_flatMap.1 hx); (obtain ⟨d, _, rfl⟩ := List.mem_map.1 hx); (have := vt_small (n := n) h (tail.drop i) (tail.getD i 0)); (have := vt_small (n := n) h (tail.drop i) d)
    omega
  · (unfold dout at hx); (obtain ⟨e, _, hx⟩ := List.mem_flatMap.1 hx); (obtain ⟨t, _, rfl⟩ := List.mem_map.1 hx); (have := vt_small (n := n) h (allC n) e); (have := prefers_small h t e)
    omega
def WfN (n : Nat) (l : List Nd) : Prop := ∀ x ∈ l, isTail n x.tail = true ∧ 0 ≤ x.bd ∧ x.bd ≤ 50000
theorem tail_cons {n : Nat} {tail : List Int} {e : Int} (h : isTail n tail = true) (h0 : 0 ≤ e) (hn : e < n) (he : e ∉ tail) : isTail n (e :: tail) = true := by
  (rw [isTail_iff] at h ⊢); (refine ⟨by simp, List.nodup_cons.2 ⟨he, h.2.1⟩, fun x hx => ?_⟩)
  rcases List.mem_cons.1 hx with rfl | hx
  · exact ⟨h0, hn⟩
  · exact h.2.2 x hx
theorem wf_start {n : Nat} {gs : List Grp} {p : Int} (hp : isPile p gs = true) (w : Int) : WfN n (startS n gs w n) := fun x hx => by
  (unfold startS at hx); (obtain ⟨e, he, rfl⟩ := List.mem_map.1 hx); (have h := mem_allC.1 (List.mem_filter.1 he).1); (refine ⟨?_, bd_nonneg _ _ _, bd_le hp _⟩)
  show isTail n [e] = true
  (rw [isTail_iff]); (exact ⟨by simp, by simp, fun x hx => by rw [List.mem_singleton.1 hx]; exact h⟩)
theorem wf_kids {n : Nat} {gs : List Grp} {p : Int} (hp : isPile p gs = true) {x : Nd} (hx : isTail n x.tail = true ∧ 0 ≤ x.bd ∧ x.bd ≤ 50000) (k : Nat) : WfN n (kids n gs k x n) := fun y hy => by
  (unfold kids at hy); (obtain ⟨e, he, rfl⟩ := List.mem_map.1 hy); (have h1 := List.mem_filter.1 he); (have h := mem_allC.1 h1.1); (have h2 : e ∉ x.tail := of_decide_eq_true h1.2); (have h3 := bd_nonneg n gs (e :: x.tail)); (have h4 := bd_le (n := n) hp (e :: x.tail)); (exact ⟨tail_cons hx.1 h.1 h.2 h2, by show 0 ≤ max x.bd _; omega, by show max x.bd _ ≤ 50000; omega⟩)
theorem wf_step {n : Nat} {gs : List Grp} {p : Int} (hp : isPile p gs = true) {l : List Nd} (h : WfN n l) (hk : selK l < l.length) : WfN n (stepS n gs l) := fun y hy => by
  (have hs : selN l ∈ l := by unfold selN; rw [List.getD_eq_getElem?_getD, List.getElem?_eq_getElem hk]; simp); (unfold stepS at hy)
  rcases List.mem_append.1 hy with hy | hy
  · rcases List.mem_or_eq_of_mem_set hy with hy | rfl
    · exact h y hy
    · exact h (selN l) hs
  · exact wf_kids hp (h _ hs) _ y hy
end Go.Mg

/- The search's nodes: how many there are, that a leaf is left. -/
namespace Go.Mg
open Go.Pil
theorem leastN_none (l : List Nd) : ∀ q, leastN l q < 0 → ∀ i, i < q → (l.getD i default).leaf = false := by
  intro q
  induction q with
  | zero => intro _ i hi; omega
  | succ q ih2 =>
    intro hq i hi
    have hq' : leastN l q < 0 ∧ (l.getD q default).leaf = false := by
      by_cases hcc : (l.getD q default).leaf = true ∧ (leastN l q < 0 ∨ (l.getD q default).bd < (l.getD (leastN l q).toNat default).bd)
      · have : leastN l (q + 1) = (q : Int) := by show (if _ then _ else _) = _; rw [if_pos hcc]
        omega
      · (have e2 : leastN l (q + 1) = leastN l q := by show (if _ then _ else _) = _; rw [if_neg hcc]); (rw [e2] at hq); (refine ⟨hq, ?_⟩)
        cases hb : (l.getD q default).leaf with
        | false => rfl
        | true => exact absurd ⟨hb, .inl hq⟩ hcc
    by_cases hiq : i = q
    · subst hiq; exact hq'.2
    · exact ih2 hq'.1 i (by omega)
def HasLeaf (l : List Nd) : Prop := ∃ x ∈ l, x.leaf = true
theorem selK_spec {l : List Nd} (h : HasLeaf l) : selK l < l.length ∧ leastN l l.length = (selK l : Int) ∧ (selN l).leaf = true ∧ selN l ∈ l ∧ ∀ x ∈ l, x.leaf = true → (selN l).bd ≤ x.bd := by
  obtain ⟨x, hx, hl⟩ := h
  have h0 : 0 ≤ leastN l l.length := by
    (refine Int.not_lt.1 fun hn => ?_); (obtain ⟨i, hi, rfl⟩ := List.getElem_of_mem hx); (have := leastN_none l _ hn i hi); (rw [List.getD_eq_getElem?_getD, List.getElem?_eq_getElem hi] at this); (simp only [Option.getD_some] at this); (rw [this] at hl; cases hl)
  (have hr := leastN_range l l.length); (have hk : selK l < l.length := by unfold selK; omega); (have hs := leastN_leaf l l.length h0); (refine ⟨hk, by unfold selK; omega, hs.1, ?_, fun y hy hyl => ?_⟩)
  · (unfold selN); (rw [List.getD_eq_getElem?_getD, List.getElem?_eq_getElem hk]; simp)
  · (obtain ⟨i, hi, rfl⟩ := List.getElem_of_mem hy); (have e : l.getD i default = l[i] := by rw [List.getD_eq_getElem?_getD, List.getElem?_eq_getElem hi]; rfl); (have := hs.2 i hi (by rw [e]; exact hyl)); (rw [e] at this; exact this)
theorem out_len : ∀ (n : Nat) (l : List Int), l.Nodup → (∀ x ∈ l, 0 ≤ x ∧ x < (n : Int)) → ((allC n).filter fun e => decide (e ∉ l)).length + l.length = n := by
  intro n
  induction n with
  | zero =>
    intro l _ hx
    cases l with
    | nil => rfl
    | cons a l => have := hx a List.mem_cons_self; omega
  | succ n ih =>
    (intro l hd hx); (rw [allC_succ, List.filter_append, List.length_append])
    by_cases hm : (n : Int) ∈ l
    · (have hd' : (l.erase (n : Int)).Nodup := hd.erase _); (have hmem : ∀ x : Int, x ∈ l.erase (n : Int) ↔ x ≠ (n : Int) ∧ x ∈ l := fun x => List.Nodup.mem_erase_iff hd)
      have h1 := ih (l.erase (n : Int)) hd' (fun x h => by
        (have h2 := (hmem x).1 h); (have := hx x h2.2); (have := h2.1)
        omega)
      have h3 : (allC n).filter (fun e => decide (e ∉ l)) = (allC n).filter (fun e => decide (e ∉ l.erase (n : Int))) := by
        (refine List.filter_congr fun x h => ?_); (have hxn := mem_allC.1 h)
        have : (x ∉ l) ↔ (x ∉ l.erase (n : Int)) := by
          rw [hmem]
          constructor
          · intro h1 h2; exact h1 h2.2
          · intro h1 h2; exact h1 ⟨by omega, h2⟩
        simp only [this]
      have h4 : (l.erase (n : Int)).length + 1 = l.length := by
        (rw [List.length_erase_of_mem hm]); (have := List.length_pos_of_mem hm)
        omega
      (rw [h3]); (have h5 : ([(n : Int)].filter fun e => decide (e ∉ l)).length = 0 := by simp [hm])
      omega
    · have h1 := ih l hd (fun x h => by
        (have := hx x h); (have hne : x ≠ (n : Int) := fun e => hm (e ▸ h))
        omega)
      have h5 : ([(n : Int)].filter fun e => decide (e ∉ l)).length = 1 := by simp [hm]
      omega
theorem kids_len {n : Nat} (gs : List Grp) (k : Nat) {x : Nd} (h : isTail n x.tail = true) : (kids n gs k x n).length + x.tail.length = n := by
  (rw [isTail_iff] at h); (unfold kids); (rw [List.length_map]); (exact out_len n x.tail h.2.1 h.2.2)
theorem step_len {n : Nat} (gs : List Grp) {l : List Nd} (h : isTail n (selN l).tail = true) : (stepS n gs l).length + (selN l).tail.length = l.length + n := by
  (have := kids_len gs (selK l) h); (unfold stepS); (rw [List.length_append, List.length_set])
  omega
theorem start_len (n : Nat) (gs : List Grp) (w m : Nat) (hw : w < m) : (startS n gs (w : Int) m).length + 1 = m := by
  (unfold startS); (rw [List.length_map]); (have := out_len m [(w : Int)] (by simp) (fun x hx => by rw [List.mem_singleton.1 hx]; omega))
  simpa using this
theorem start_leaf {n : Nat} {gs : List Grp} {w m : Nat} (hw : w < m) (h2 : 2 ≤ m) : HasLeaf (startS n gs (w : Int) m) := by
  have h := start_len n gs w m hw
  cases hl : startS n gs (w : Int) m with
  | nil => rw [hl] at h; simp at h; omega
  | cons x l =>
    (refine ⟨x, List.mem_cons_self, ?_⟩); (have hx : x ∈ startS n gs (w : Int) m := by rw [hl]; exact List.mem_cons_self); (unfold startS at hx); (obtain ⟨e, _, rfl⟩ := List.mem_map.1 hx)
    rfl
theorem kids_leaf {n k : Nat} {gs : List Grp} {x y : Nd} {m : Nat} (h : y ∈ kids n gs k x m) : y.leaf = true := by
  (unfold kids at h); (obtain ⟨e, _, rfl⟩ := List.mem_map.1 h)
  rfl
theorem step_leaf {n : Nat} {gs : List Grp} {l : List Nd} (h : isTail n (selN l).tail = true) (hn : (selN l).tail.length ≠ n) : HasLeaf (stepS n gs l) := by
  have hk := kids_len gs (selK l) h
  cases hl : kids n gs (selK l) (selN l) n with
  | nil => rw [hl] at hk; simp at hk; omega
  | cons x t =>
    (have hx : x ∈ kids n gs (selK l) (selN l) n := by rw [hl]; exact List.mem_cons_self); (exact ⟨x, List.mem_append_right _ hx, kids_leaf hx⟩)
theorem kids_skip {n k : Nat} {gs : List Grp} {x : Nd} {m : Nat} (h : (m : Int) ∈ x.tail) : kids n gs k x (m + 1) = kids n gs k x m := by
  unfold kids; rw [allC_succ, List.filter_append, List.map_append]; simp [h]
theorem kids_more {n k : Nat} {gs : List Grp} {x : Nd} {m : Nat} (h : (m : Int) ∉ x.tail) : kids n gs k x (m + 1) = kids n gs k x m ++ [kidsE n gs k x (m : Int)] := by
  unfold kids; rw [allC_succ, List.filter_append, List.map_append]; simp [h]
theorem start_skip {n : Nat} {gs : List Grp} {w : Int} {m : Nat} (h : (m : Int) = w) : startS n gs w (m + 1) = startS n gs w m := by
  unfold startS; rw [allC_succ, List.filter_append, List.map_append]; simp [h]
theorem start_more {n : Nat} {gs : List Grp} {w : Int} {m : Nat} (h : (m : Int) ≠ w) : startS n gs w (m + 1) = startS n gs w m ++ [rootE n gs (m : Int)] := by
  unfold startS; rw [allC_succ, List.filter_append, List.map_append]; simp [h]
theorem allC_len (m : Nat) : (allC m).length = m := by simp [allC]
theorem kids_le (n k : Nat) (gs : List Grp) (x : Nd) (m : Nat) : (kids n gs k x m).length ≤ m := by
  unfold kids; rw [List.length_map]; exact Nat.le_trans (List.length_filter_le _ _) (by rw [allC_len]; exact Nat.le_refl _)
theorem start_le (n : Nat) (gs : List Grp) (w : Int) (m : Nat) : (startS n gs w m).length ≤ m := by
  unfold startS; rw [List.length_map]; exact Nat.le_trans (List.length_filter_le _ _) (by rw [allC_len]; exact Nat.le_refl _)
end Go.Mg

/- A heap of leaves in plain Lean. -/
namespace Go.Mg
open Go.Pil
/-- The order of the queue: by the bound, then by the index. -/
def lsN (l : List Nd) (a b : Nat) : Bool := if (l.getD a default).bd = (l.getD b default).bd then decide (a < b) else decide ((l.getD a default).bd < (l.getD b default).bd)
theorem lsN_iff {l : List Nd} {a b : Nat} : lsN l a b = true ↔ (l.getD a default).bd < (l.getD b default).bd ∨ ((l.getD a default).bd = (l.getD b default).bd ∧ a < b) := by
  unfold lsN
  split
  · rw [decide_eq_true_iff]; omega
  · rw [decide_eq_true_iff]; omega
theorem lsN_not {l : List Nd} {a b : Nat} : lsN l a b = false ↔ (l.getD b default).bd < (l.getD a default).bd ∨ ((l.getD b default).bd = (l.getD a default).bd ∧ b ≤ a) := by
  rw [← Bool.not_eq_true, lsN_iff]; omega
theorem le_trans {l : List Nd} {a b c : Nat} (h1 : lsN l b a = false) (h2 : lsN l c b = false) : lsN l c a = false := by
  rw [lsN_not] at *; omega
theorem lt_le {l : List Nd} {a b : Nat} (h : lsN l a b = true) : lsN l b a = false := by
  rw [lsN_not]; rw [lsN_iff] at h; omega
theorem le_refl' (l : List Nd) (a : Nat) : lsN l a a = false := by rw [lsN_not]; omega
def up (h : List Nat) (j : Nat) : Nat := h.getD ((j - 1) / 2) 0
/-- No element is less than the one above it. -/
def IsHeap (l : List Nd) (h : List Nat) : Prop := ∀ j, 0 < j → j < h.length → lsN l (h.getD j 0) (h.getD ((j - 1) / 2) 0) = false
theorem heap_top {l : List Nd} {h : List Nat} (hh : IsHeap l h) : ∀ j, j < h.length → lsN l (h.getD j 0) (h.getD 0 0) = false := by
  intro j
  induction j using Nat.strongRecOn with
  | ind j ih =>
    intro hj
    rcases Nat.eq_zero_or_pos j with h0 | h0
    · subst h0; exact le_refl' _ _
    · exact le_trans (ih ((j - 1) / 2) (by omega) (by omega)) (hh j h0 hj)
theorem heap_min {l : List Nd} {h : List Nat} (hh : IsHeap l h) {k : Nat} (hk : k ∈ h) : lsN l k (h.getD 0 0) = false := by
  (obtain ⟨j, hj, rfl⟩ := List.getElem_of_mem hk); (have := heap_top hh j hj)
  rwa [List.getD_eq_getElem?_getD, List.getElem?_eq_getElem hj] at this
/-- The exchange of two elements. -/
def swp (h : List Nat) (i p : Nat) : List Nat := (h.set i (h.getD p 0)).set p (h.getD i 0)
theorem swp_len (h : List Nat) (i p : Nat) : (swp h i p).length = h.length := by simp [swp]
theorem swp_at {h : List Nat} {i p : Nat} (hi : i < h.length) (hp : p < h.length) (k : Nat) : (swp h i p).getD k 0 = if k = p then h.getD i 0 else if k = i then h.getD p 0 else h.getD k 0 := by
  (unfold swp); (simp only [List.getD_eq_getElem?_getD])
  by_cases h1 : k = p
  · subst h1; simp [hp]
  · rw [if_neg h1, List.getElem?_set_ne (Ne.symm h1)]
    by_cases h2 : k = i
    · subst h2; simp [hi]
    · rw [if_neg h2, List.getElem?_set_ne (Ne.symm h2)]
theorem count_setN {h : List Nat} {i : Nat} (hi : i < h.length) (v x : Nat) : (h.set i v).count x + (if h.getD i 0 = x then 1 else 0) = h.count x + (if v = x then 1 else 0) := by
  induction h generalizing i with
  | nil => simp at hi
  | cons a h ih =>
    cases i with
    | zero => simp only [List.set_cons_zero, List.count_cons, List.getD_cons_zero, beq_iff_eq]; omega
    | succ i =>
      (have := ih (i := i) (by simpa using hi)); (simp only [List.set_cons_succ, List.count_cons, List.getD_cons_succ, beq_iff_eq])
      omega
theorem swp_perm {h : List Nat} {i p : Nat} (hi : i < h.length) (hp : p < h.length) (hne : i ≠ p) : (swp h i p).Perm h := by
  (rw [List.perm_iff_count]); (intro x); (unfold swp); (have h1 := count_setN (h := h.set i (h.getD p 0)) (i := p) (by simpa using hp) (h.getD i 0) x); (have h2 := count_setN (h := h) (i := i) hi (h.getD p 0) x); (have e : (h.set i (h.getD p 0)).getD p 0 = h.getD p 0 := by simp only [List.getD_eq_getElem?_getD]; rw [List.getElem?_set_ne hne]); (rw [e] at h1)
  omega
/-- A heap but for the element i, which may be less than the one above it. -/
def UpI (l : List Nd) (h : List Nat) (i : Nat) : Prop :=
  i < h.length ∧ (∀ j, 0 < j → j < h.length → j ≠ i → lsN l (h.getD j 0) (h.getD ((j - 1) / 2) 0) = false) ∧ ∀ j, 0 < j → j < h.length → (j - 1) / 2 = i → 0 < i → lsN l (h.getD j 0) (h.getD ((i - 1) / 2) 0) = false
theorem upI_start {l : List Nd} {h : List Nat} (hh : IsHeap l h) (x : Nat) : UpI l (h ++ [x]) h.length := by
  (have e : ∀ j, j < h.length → (h ++ [x]).getD j 0 = h.getD j 0 := fun j hj => by simp [List.getD_eq_getElem?_getD, List.getElem?_append, hj]); (refine ⟨by simp, fun j h0 hj hne => ?_, fun j h0 hj hi h1 => ?_⟩)
  · (have hj' : j < h.length := by simp at hj; omega); (rw [e j hj', e _ (by omega)]); (exact hh j h0 hj')
  · simp at hj; omega
theorem upI_end {l : List Nd} {h : List Nat} {i : Nat} (hu : UpI l h i) (he : i = 0 ∨ lsN l (h.getD i 0) (h.getD ((i - 1) / 2) 0) = false) : IsHeap l h := fun j h0 hj => by
  by_cases hji : j = i
  · subst hji
    rcases he with he | he
    · omega
    · exact he
  · exact hu.2.1 j h0 hj hji
theorem upI_step {l : List Nd} {h : List Nat} {i : Nat} (hu : UpI l h i) (h0 : 0 < i) (hl : lsN l (h.getD i 0) (h.getD ((i - 1) / 2) 0) = true) : UpI l (swp h i ((i - 1) / 2)) ((i - 1) / 2) := by
  (obtain ⟨hi, h1, h2⟩ := hu); (obtain ⟨p, hp⟩ : ∃ p, (i - 1) / 2 = p := ⟨_, rfl⟩); (rw [hp] at hl h2 ⊢); (have hpl : p < h.length := by omega); (refine ⟨by rw [swp_len]; exact hpl, fun j j0 hj hne => ?_, fun j j0 hj hjp hp0 => ?_⟩)
  · (rw [swp_len] at hj); (rw [swp_at hi hpl, swp_at hi hpl, if_neg hne])
    by_cases hji : j = i
    · (subst hji); (rw [if_pos rfl, hp, if_pos rfl]); (exact lt_le hl)
    · rw [if_neg hji]
      by_cases hq : (j - 1) / 2 = p
      · (rw [if_pos hq]); (have := h1 j j0 hj hji); (rw [hq] at this); (exact le_trans (lt_le hl) this)
      · rw [if_neg hq]
        by_cases hqi : (j - 1) / 2 = i
        · (rw [if_pos hqi]); (exact h2 j j0 hj hqi h0)
        · (rw [if_neg hqi]); (exact h1 j j0 hj hji)
  · (rw [swp_len] at hj); (rw [swp_at hi hpl, swp_at hi hpl, if_neg (show ¬ j = p by omega), if_neg (show ¬ (p - 1) / 2 = p by omega), if_neg (show ¬ (p - 1) / 2 = i by omega)]); (have hpp := h1 p hp0 hpl (by omega))
    by_cases hji : j = i
    · rw [if_pos hji]; exact hpp
    · (rw [if_neg hji]); (have := h1 j j0 hj hji); (rw [hjp] at this); (exact le_trans hpp this)
/-- A heap but for the element i, which may be greater than those below it. -/
def DnI (l : List Nd) (h : List Nat) (i : Nat) : Prop :=
  (∀ j, 0 < j → j < h.length → (j - 1) / 2 ≠ i → lsN l (h.getD j 0) (h.getD ((j - 1) / 2) 0) = false) ∧ ∀ j, 0 < j → j < h.length → (j - 1) / 2 = i → 0 < i → lsN l (h.getD j 0) (h.getD ((i - 1) / 2) 0) = false
/-- The least of i and the elements below it that come before c. -/
def lstC (l : List Nd) (h : List Nat) (i : Nat) : Nat → Nat
  | 0 => i
  | k + 1 => if 2 * i + 1 + k < h.length ∧ lsN l (h.getD (2 * i + 1 + k) 0) (h.getD (lstC l h i k) 0) = true then 2 * i + 1 + k else lstC l h i k
theorem dnI_end {l : List Nd} {h : List Nat} {i : Nat} (hd : DnI l h i) (he : lstC l h i 2 = i) : IsHeap l h := fun j h0 hj => by
  by_cases hji : (j - 1) / 2 = i
  · have e1 : lstC l h i 1 = i ∧ (2 * i + 1 < h.length → lsN l (h.getD (2 * i + 1) 0) (h.getD i 0) = false) := by
      (have h1 : lstC l h i 2 = if 2 * i + 1 + 1 < h.length ∧ lsN l (h.getD (2 * i + 1 + 1) 0) (h.getD (lstC l h i 1) 0) = true then 2 * i + 1 + 1 else lstC l h i 1 := rfl); (have h2 : lstC l h i 1 = if 2 * i + 1 + 0 < h.length ∧ lsN l (h.getD (2 * i + 1 + 0) 0) (h.getD i 0) = true then 2 * i + 1 + 0 else i := rfl); (rw [h1] at he)
      split at he
      · omega
      · (refine ⟨he, fun hl => ?_⟩); (rw [he] at h2)
        split at h2
        · omega
        · rename_i hn
          cases hb : lsN l (h.getD (2 * i + 1) 0) (h.getD i 0) with
          | false => rfl
          | true => exact absurd ⟨hl, hb⟩ hn
    rw [hji]
    by_cases hj1 : j = 2 * i + 1
    · subst hj1; exact e1.2 hj
    · (have hj2 : j = 2 * i + 1 + 1 := by omega); (subst hj2); (have h1 : lstC l h i 2 = if 2 * i + 1 + 1 < h.length ∧ lsN l (h.getD (2 * i + 1 + 1) 0) (h.getD (lstC l h i 1) 0) = true then 2 * i + 1 + 1 else lstC l h i 1 := rfl); (rw [h1, e1.1] at he)
      split at he
      · omega
      · rename_i hn
        cases hb : lsN l (h.getD (2 * i + 1 + 1) 0) (h.getD i 0) with
        | false => rfl
        | true => exact absurd ⟨hj, hb⟩ hn
  · exact hd.1 j h0 hj hji
/-- What lstC is: i or one below it, in range, not greater than any of the three. -/
theorem lstC_spec (l : List Nd) (h : List Nat) (i : Nat) (hi : i < h.length) : ∀ k, k ≤ 2 → (lstC l h i k = i ∨ (∃ c, c < k ∧ lstC l h i k = 2 * i + 1 + c)) ∧ lstC l h i k < h.length ∧ lsN l (h.getD i 0) (h.getD (lstC l h i k) 0) = false ∧ ∀ c, c < k → 2 * i + 1 + c < h.length → lsN l (h.getD (2 * i + 1 + c) 0) (h.getD (lstC l h i k) 0) = false := by
  intro k
  induction k with
  | zero => intro _; exact ⟨.inl rfl, hi, le_refl' _ _, fun c hc => by omega⟩
  | succ k ih =>
    (intro hk); (obtain ⟨h1, h2, h3, h4⟩ := ih (by omega)); (have e : lstC l h i (k + 1) = if 2 * i + 1 + k < h.length ∧ lsN l (h.getD (2 * i + 1 + k) 0) (h.getD (lstC l h i k) 0) = true then 2 * i + 1 + k else lstC l h i k := rfl)
    by_cases hc : 2 * i + 1 + k < h.length ∧ lsN l (h.getD (2 * i + 1 + k) 0) (h.getD (lstC l h i k) 0) = true
    · (rw [if_pos hc] at e); (rw [e]); (refine ⟨.inr ⟨k, by omega, rfl⟩, hc.1, le_trans (lt_le hc.2) h3, fun c hck hcl => ?_⟩)
      by_cases hck' : c = k
      · subst hck'; exact le_refl' _ _
      · exact le_trans (lt_le hc.2) (h4 c (by omega) hcl)
    · (rw [if_neg hc] at e); (rw [e]); (refine ⟨?_, h2, h3, fun c hck hcl => ?_⟩)
      · rcases h1 with h1 | ⟨c, hc', h1⟩
        · exact .inl h1
        · exact .inr ⟨c, by omega, h1⟩
      · by_cases hck' : c = k
        · subst hck'
          cases hb : lsN l (h.getD (2 * i + 1 + c) 0) (h.getD (lstC l h i c) 0) with
          | false => rfl
          | true => exact absurd ⟨hcl, hb⟩ hc
        · exact h4 c (by omega) hcl
theorem dnI_step {l : List Nd} {h : List Nat} {i : Nat} (hd : DnI l h i) (hi : i < h.length) (hne : lstC l h i 2 ≠ i) : DnI l (swp h i (lstC l h i 2)) (lstC l h i 2) := by
  (obtain ⟨h1, h2⟩ := hd); (obtain ⟨hm, hml, hmi, hmc⟩ := lstC_spec l h i hi 2 (Nat.le_refl 2)); (obtain ⟨m, e⟩ : ∃ m, lstC l h i 2 = m := ⟨_, rfl⟩); (rw [e] at hm hml hmi hmc hne ⊢)
  have hmp : (m - 1) / 2 = i ∧ 0 < m := by
    rcases hm with hm | ⟨c, hc, hm⟩
    · exact absurd hm hne
    · omega
  refine ⟨fun j j0 hj hjm => ?_, fun j j0 hj hjm m0 => ?_⟩
  · (rw [swp_len] at hj); (rw [swp_at hi hml, swp_at hi hml, if_neg hjm])
    by_cases hjm' : j = m
    · (subst hjm'); (rw [if_pos rfl, hmp.1, if_pos rfl]); (exact hmi)
    · rw [if_neg hjm']
      by_cases hji : j = i
      · (subst hji); (rw [if_pos rfl, if_neg (show ¬ (j - 1) / 2 = j by omega)]); (exact h2 m hmp.2 hml hmp.1 j0)
      · rw [if_neg hji]
        by_cases hpi : (j - 1) / 2 = i
        · (rw [if_pos hpi]); (have : j = 2 * i + 1 + (j - (2 * i + 1)) := by omega); (rw [this] at hj ⊢); (exact hmc _ (by omega) hj)
        · (rw [if_neg hpi]); (exact h1 j j0 hj hpi)
  · (rw [swp_len] at hj); (rw [swp_at hi hml, swp_at hi hml, hmp.1, if_neg (show ¬ j = m by omega), if_neg (show ¬ j = i by omega), if_neg (Ne.symm hne), if_pos rfl]); (have := h1 j j0 hj (by omega)); (rw [hjm] at this); (exact this)
theorem dnI_start {l : List Nd} {h : List Nat} (hh : IsHeap l h) {x : Nat} {t : List Nat} (ht : ∀ j, 0 < j → j < t.length → t.getD j 0 = h.getD j 0) (hl : t.length ≤ h.length) (_ : t.getD 0 0 = x) : DnI l t 0 :=
  ⟨fun j h0 hj hne => by rw [ht j h0 hj, ht _ (by omega) (by omega)]; exact hh j h0 (by omega), fun j _ _ _ h => by omega⟩
/-- What is left when the last element takes the first one's place. -/
def popL (h : List Nat) : List Nat := (h.set 0 (h.getD (h.length - 1) 0)).take (h.length - 1)
theorem popL_perm {h : List Nat} (h0 : 0 < h.length) : (h.getD 0 0 :: popL h).Perm h := by
  rcases List.eq_nil_or_concat h with rfl | ⟨t, x, rfl⟩
  · simp at h0
  · rw [List.concat_eq_append] at *
    cases t with
    | nil => simp [popL]
    | cons a t =>
      have e : popL (a :: t ++ [x]) = x :: t := by
        (unfold popL); (have hl : (a :: t ++ [x]).length - 1 = t.length + 1 := by simp); (rw [hl]); (have hg : (a :: t ++ [x]).getD (t.length + 1) 0 = x := by simp [List.getD_eq_getElem?_getD]); (rw [hg])
        simp
      (rw [e]); (simp only [List.cons_append, List.getD_cons_zero]); (refine List.Perm.cons _ ?_); (exact (List.perm_append_comm (l₁ := [x]) (l₂ := t)))
theorem popL_len (h : List Nat) : (popL h).length = h.length - 1 := by simp [popL]
theorem popL_at {h : List Nat} {j : Nat} (h0 : 0 < j) (hj : j < (popL h).length) : (popL h).getD j 0 = h.getD j 0 := by
  (rw [popL_len] at hj); (unfold popL); (simp only [List.getD_eq_getElem?_getD, List.getElem?_take, if_pos hj]); (rw [List.getElem?_set_ne (by omega)])
theorem dnI_pop {l : List Nd} {h : List Nat} (hh : IsHeap l h) : DnI l (popL h) 0 := dnI_start hh (x := (popL h).getD 0 0) (fun _ h0 hj => popL_at h0 hj) (by rw [popL_len]; omega) rfl
theorem heap_more {l : List Nd} {h : List Nat} (hh : IsHeap l h) (hl : ∀ k ∈ h, k < l.length) (x : Nd) : IsHeap (l ++ [x]) h := fun j h0 hj => by
  (have := hh j h0 hj); (have e : ∀ k, k < l.length → ((l ++ [x]).getD k default).bd = (l.getD k default).bd := fun k hk => by simp [List.getD_eq_getElem?_getD, List.getElem?_append, hk]); (have h1 : h.getD j 0 < l.length := hl _ (by rw [List.getD_eq_getElem?_getD, List.getElem?_eq_getElem hj]; simp)); (have h2 : h.getD ((j - 1) / 2) 0 < l.length := hl _ (by rw [List.getD_eq_getElem?_getD, List.getElem?_eq_getElem (by omega)]; simp)); (rw [lsN_not] at this ⊢); (rw [e _ h1, e _ h2]; exact this)
theorem heap_clr {l : List Nd} {h : List Nat} (hh : IsHeap l h) (k : Nat) : IsHeap (l.set k (clr (l.getD k default))) h := fun j h0 hj => by
  have := hh j h0 hj
  have e : ∀ i, ((l.set k (clr (l.getD k default))).getD i default).bd = (l.getD i default).bd := fun i => by
    simp only [List.getD_eq_getElem?_getD, List.getElem?_set]
    split
    · rename_i hki
      subst hki
      split
      · rename_i hk
        simp [List.getElem?_eq_getElem hk, clr]
      · rename_i hk
        simp [List.getElem?_eq_none (Nat.le_of_not_lt hk)]
    · rfl
  (rw [lsN_not] at this ⊢); (rw [e, e]; exact this)
theorem leastN_first (l : List Nd) : ∀ j, 0 ≤ leastN l j → ∀ i, i < (leastN l j).toNat → (l.getD i default).leaf = true → (l.getD (leastN l j).toNat default).bd < (l.getD i default).bd
  | 0, h => by have : leastN l 0 = -1 := rfl; omega
  | j + 1, h => by
    have hr := leastN_range l j
    by_cases hc : (l.getD j default).leaf = true ∧ (leastN l j < 0 ∨ (l.getD j default).bd < (l.getD (leastN l j).toNat default).bd)
    · (have e : leastN l (j + 1) = (j : Int) := by show (if _ then _ else _) = _; rw [if_pos hc]); (rw [e, Int.toNat_natCast]); (intro i hi hl)
      by_cases hn : leastN l j < 0
      · have := leastN_none l j hn i hi; rw [this] at hl; cases hl
      · have := (leastN_leaf l j (by omega)).2 i hi hl
        rcases hc.2 with h1 | h1
        · omega
        · omega
    · (have e : leastN l (j + 1) = leastN l j := by show (if _ then _ else _) = _; rw [if_neg hc]); (rw [e] at h ⊢); (exact leastN_first l j h)
/-- The queue holds the leaves. -/
structure QueueOf (l : List Nd) (h : List Nat) : Prop where
  heap : IsHeap l h
  nodup : h.Nodup
  mem : ∀ k, k ∈ h ↔ k < l.length ∧ (l.getD k default).leaf = true
theorem queue_top {l : List Nd} {h : List Nat} (q : QueueOf l h) (hl : HasLeaf l) : 0 < h.length ∧ h.getD 0 0 = selK l := by
  (obtain ⟨h1, h2, h3, h4, h5⟩ := selK_spec hl); (have hs : selK l ∈ h := (q.mem _).2 ⟨h1, h3⟩); (have h0 : 0 < h.length := List.length_pos_of_mem hs); (refine ⟨h0, ?_⟩); (have ht : h.getD 0 0 ∈ h := by rw [List.getD_eq_getElem?_getD, List.getElem?_eq_getElem h0]; simp); (obtain ⟨t1, t2⟩ := (q.mem _).1 ht); (have m1 := heap_min q.heap hs); (rw [lsN_not] at m1); (have ht' : l.getD (h.getD 0 0) default ∈ l := by rw [List.getD_eq_getElem?_getD, List.getElem?_eq_getElem t1]; simp); (have m2 := h5 _ ht' t2); (unfold selN at m2); (have hge : 0 ≤ leastN l l.length := by omega); (have m3 := leastN_first l l.length hge (h.getD 0 0)); (have es : (leastN l l.length).toNat = selK l := rfl); (rw [es] at m3)
  by_cases hlt : h.getD 0 0 < selK l
  · have := m3 hlt t2; omega
  · omega
theorem queue_push {l : List Nd} {h h' : List Nat} (q : QueueOf l h) {x : Nd} (hx : x.leaf = true) (hp : h'.Perm (h ++ [l.length])) (hh : IsHeap (l ++ [x]) h') : QueueOf (l ++ [x]) h' := by
  refine ⟨hh, ?_, fun k => ?_⟩
  · (rw [hp.nodup_iff, List.nodup_append]); (refine ⟨q.nodup, by simp, fun a ha b hb => ?_⟩); (obtain rfl := List.mem_singleton.1 hb); (have := ((q.mem a).1 ha).1)
    omega
  · (rw [hp.mem_iff, List.mem_append, List.mem_singleton, q.mem, List.length_append]); (have e : ∀ k, k < l.length → (l ++ [x]).getD k default = l.getD k default := fun k hk => by simp [List.getD_eq_getElem?_getD, List.getElem?_append, hk])
    constructor
    · rintro (⟨h1, h2⟩ | rfl)
      · exact ⟨by simp; omega, by rw [e k h1]; exact h2⟩
      · exact ⟨by simp, by simp [List.getD_eq_getElem?_getD, hx]⟩
    · rintro ⟨h1, h2⟩
      by_cases hk : k < l.length
      · exact .inl ⟨hk, by rw [e k hk] at h2; exact h2⟩
      · exact .inr (by simp at h1; omega)
theorem queue_pop {l : List Nd} {h h' : List Nat} (q : QueueOf l h) (h0 : 0 < h.length) (hp : h'.Perm (popL h)) (hh : IsHeap l h') : QueueOf (l.set (h.getD 0 0) (clr (l.getD (h.getD 0 0) default))) h' := by
  (have hpp := popL_perm h0); (have hnd : (h.getD 0 0 :: popL h).Nodup := hpp.nodup_iff.2 q.nodup); (rw [List.nodup_cons] at hnd); (refine ⟨heap_clr hh _, hp.nodup_iff.2 hnd.2, fun k => ?_⟩); (rw [hp.mem_iff, List.length_set]); (have hm : k ∈ h ↔ k = h.getD 0 0 ∨ k ∈ popL h := by rw [← hpp.mem_iff, List.mem_cons])
  by_cases hk : k = h.getD 0 0
  · subst hk
    constructor
    · intro h; exact absurd h hnd.1
    · rintro ⟨h1, h2⟩
      have : (l.set (h.getD 0 0) (clr (l.getD (h.getD 0 0) default))).getD (h.getD 0 0) default = clr (l.getD (h.getD 0 0) default) := by
        simp only [List.getD_eq_getElem?_getD (l := l.set _ _), List.getElem?_set_self h1]; rfl
      rw [this] at h2; cases h2
  · have e : (l.set (h.getD 0 0) (clr (l.getD (h.getD 0 0) default))).getD k default = l.getD k default := by
      (simp only [List.getD_eq_getElem?_getD (l := l.set _ _), List.getElem?_set_ne (Ne.symm hk)]); (rw [List.getD_eq_getElem?_getD])
    (rw [e, ← q.mem, hm]); (exact ⟨.inr, fun h => h.resolve_left hk⟩)
theorem queue_nil : QueueOf [] [] := ⟨fun j _ hj => by simp at hj, by simp, fun k => by simp⟩
end Go.Mg
