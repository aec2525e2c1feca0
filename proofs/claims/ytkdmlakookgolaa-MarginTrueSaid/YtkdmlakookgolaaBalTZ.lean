/- electionlaw31.ballots: every ballot (recursion). -/
import Derived.Test.YtkdmlakookgolaaRPossZ
import Derived.Test.YtkdmlakookgolaaSrchZ
import Derived.Test.YtkdmlakookgolaaGenZ
import Derived.Test.YtkdmlakookgolaaDistZ
namespace Go.Mg
open Go.Pil
/-- Every ballot that begins with p, where m are left. -/
def balR (n : Nat) : Nat → List Int → List (List Int)
  | 0, p => [p]
  | m + 1, p => p :: ((allC n).filter fun c => decide (c ∉ p)).flatMap fun c => balR n m (p ++ [c])
/-- The same, behind the first k candidates. -/
def balK (n m : Nat) (p : List Int) (k : Nat) : List (List Int) := p :: ((allC k).filter fun c => decide (c ∉ p)).flatMap fun c => balR n (m - 1) (p ++ [c])
theorem allC_snoc (k : Nat) : allC (k + 1) = allC k ++ [(k : Int)] := by unfold allC; rw [List.range_succ, List.map_append]; rfl
theorem balK_skip {n m : Nat} {p : List Int} {k : Nat} (h : (k : Int) ∈ p) : balK n m p (k + 1) = balK n m p k := by
  (unfold balK); (rw [allC_snoc, List.filter_append])
  simp [h]
theorem balK_more {n m : Nat} {p : List Int} {k : Nat} (h : (k : Int) ∉ p) : balK n m p (k + 1) = balK n m p k ++ balR n (m - 1) (p ++ [(k : Int)]) := by
  (unfold balK); (rw [allC_snoc, List.filter_append, List.flatMap_append])
  simp [h]
def fc3 : Nat → Nat
  | 0 => 1
  | m + 1 => 1 + 3 * fc3 m
theorem flatMap_len {α β : Type} (f : α → List β) (B : Nat) : ∀ l : List α, (∀ x ∈ l, (f x).length ≤ B) → (l.flatMap f).length ≤ l.length * B
  | [], _ => by simp
  | x :: l, h => by
    (have h1 := h x List.mem_cons_self); (have h2 := flatMap_len f B l fun y hy => h y (List.mem_cons_of_mem _ hy)); (rw [List.flatMap_cons, List.length_append, List.length_cons, Nat.succ_mul])
    omega
theorem balR_len {n : Nat} (hn : n ≤ 3) : ∀ (m : Nat) (p : List Int), (balR n m p).length ≤ fc3 m
  | 0, _ => Nat.le_refl _
  | m + 1, p => by
    (unfold balR fc3); (rw [List.length_cons]); (have h1 := flatMap_len (fun c => balR n m (p ++ [c])) (fc3 m) ((allC n).filter fun c => decide (c ∉ p)) fun c _ => balR_len hn m _); (have h2 : ((allC n).filter fun c => decide (c ∉ p)).length ≤ 3 := Nat.le_trans (List.length_filter_le _ _) (by simp [allC]; exact hn)); (have h3 := Nat.mul_le_mul_right (fc3 m) h2)
    omega
theorem balK_len {n : Nat} (hn : n ≤ 3) {m : Nat} {p : List Int} {k : Nat} (hk : k ≤ n) (hm : m ≤ 3) : (balK n m p k).length ≤ 1000 := by
  (unfold balK); (rw [List.length_cons])
  have h0 : fc3 (m - 1) ≤ 13 := by
    (have : ∀ j ≤ 2, fc3 j ≤ 13 := by decide); (exact this _ (by omega))
  (have h1 := flatMap_len (fun c => balR n (m - 1) (p ++ [c])) (fc3 (m - 1)) ((allC k).filter fun c => decide (c ∉ p)) fun c _ => balR_len hn _ _); (have h2 : ((allC k).filter fun c => decide (c ∉ p)).length ≤ 3 := Nat.le_trans (List.length_filter_le _ _) (by simp [allC]; omega)); (have h3 := Nat.mul_le_mul h2 h0)
  omega
theorem balK_all {n m : Nat} {p : List Int} (hp : ballot (n : Int) p = true) (hl : p.length + m = n) : balK n m p n = balR n m p := by
  cases m with
  | succ m => rfl
  | zero =>
    obtain ⟨h1, h2⟩ : p.Nodup ∧ ∀ x ∈ p, 0 ≤ x ∧ x < (n : Int) := by
      (have := hp); (unfold ballot at this; exact of_decide_eq_true this)
    (have := out_len n p h1 h2); (have e : ((allC n).filter fun e => decide (e ∉ p)) = [] := List.eq_nil_of_length_eq_zero (by omega)); (unfold balK balR); (rw [e]; rfl)
theorem bal_more {n : Nat} {p : List Int} {c : Nat} (hp : ballot (n : Int) p = true) (hc : c < n) (h : (c : Int) ∉ p) : ballot (n : Int) (p ++ [(c : Int)]) = true ∧ p.length < n := by
  obtain ⟨h1, h2⟩ : p.Nodup ∧ ∀ x ∈ p, 0 ≤ x ∧ x < (n : Int) := by
    unfold ballot at hp; exact of_decide_eq_true hp
  refine ⟨?_, ?_⟩
  · (unfold ballot); (refine decide_eq_true ⟨?_, fun x hx => ?_⟩)
    · (rw [List.nodup_append]); (exact ⟨h1, by simp, fun x hx y hy => by rw [List.mem_singleton.1 hy]; intro e; subst e; exact h hx⟩)
    · rcases List.mem_append.1 hx with hx | hx
      · exact h2 x hx
      · rw [List.mem_singleton.1 hx]; omega
  · (have h3 := out_len n p h1 h2); (have h4 : 0 < ((allC n).filter fun e => decide (e ∉ p)).length := List.length_pos_of_mem (List.mem_filter.2 ⟨mem_allC.2 ⟨by omega, by omega⟩, decide_eq_true h⟩))
    omega
end Go.Mg
namespace Go.Proofs.Ytkdmlakookgolaa
open Go.RowKit Go.Mk Go.Pil Go.Mg
/-- More rows at once. -/
theorem OwL.addsB {w w0 w1 w2 : World} {v v' u : Value} {bs cs : List (List Int × Value)} (h : OwL w w0 v bs) (h' : OwL w0 w1 u cs)
    (ho : w2.ownsRow 0 40 1 v' (bs.length + cs.length) (bs.map (·.2) ++ cs.map (·.2))) (hk : Kept (ob v) w1 w2) (hv : NewOr w1 v v') : OwL w w2 v' (bs ++ cs) := by
  (have h1 := h.keptNo h'.kept); (refine ⟨by rw [List.length_append, List.map_append]; exact ho, fun x hx => ?_, h1.new.kept h1.kept hk, h1.new.step hv h1.kept.size⟩)
  rcases List.mem_append.1 hx with hx | hx
  · exact hk.ownsRow (h1.rows x hx) fun j hj hv => own_own (h1.rows x hx) h1.own int_ne_ints j hj hv
  · exact hk.ownsRow (h'.rows x hx) fun j hj hv => own_own (h'.rows x hx) h1.own int_ne_ints j hj hv
theorem Z_oneB (l : List Int) : ∀ u ∈ l.map Z, u.oneCell' = true := fun u hu => by
  obtain ⟨z, _, rfl⟩ := List.mem_map.1 hu
  rfl
/-- What ballots does from p, where m are left. -/
def BalC (n m : Nat) : Prop := ∀ (p : List Int) (vb : Value) (w : World), ballot (n : Int) p = true → p.length + m = n → w.ownsRow 0 3 1 vb p.length (p.map Z) →
    Calls Try.prog 42 #[.int .i64 (n : Int), vb] w fun e w' => ∃ v' qs, e = .returned v' ∧ OwL w w' v' qs ∧ lists qs = balR n m p
set_option maxRecDepth 100000 in
set_option maxHeartbeats 4000000 in
theorem ballots_step (n m : Nat) (hn : n ≤ 3) (IH : ∀ m', m' + 1 = m → BalC n m') : BalC n m := by
  (intro p vb w hP hm hb); (obtain ⟨_, ab, cb, rfl, _⟩ := Rd.of_own hb)
  have hL : Hd (OwL w (w.alloc (.cells #[.slice ab p.length cb] 40)) (.slice (some ⟨w.heap.size, 0, none⟩) 1 1) [(p, .slice ab p.length cb)]) := ⟨by
    (have k := (Kept.refl no w).alloc (.cells #[.slice ab p.length cb] 40)); (refine ⟨⟨rfl, .inr ⟨w.heap.size, 1, #[.slice ab p.length cb], rfl, Nat.zero_le _, heap_alloc_new _ _, Nat.le_refl _, by decide, rfl, rfl⟩⟩, fun x hx => ?_, k, .inr ⟨_, rfl, Nat.le_refl _⟩⟩); (obtain rfl := List.mem_singleton.1 hx)
    exact k.ownsRow hb fun _ _ => id⟩
  (have hpl : p.length ≤ 3 := by omega); (have hlen : Hd (p.length + m = n) := ⟨hm⟩); (have HH := hid (fun (c : Int) (W : World) (k : Kept no w W) => has_any (.slice ab p.length cb) p c W (own_RdZ (k.ownsRow hb fun _ _ => id)))); (obtain ⟨lp, hlp⟩ : ∃ l, p.length = l := ⟨_, rfl⟩); (rw [hlp] at hb hL hpl HH hlen ⊢); (replace hb := hid hb); (replace hP := hid hP); (replace hlp := hid hlp); (clear hm); (have hm3 : m ≤ 3 := by have := hlen.out; omega)
  go_enter Try.func42, Try.ntmps42
  go_wp2
  go_loopw [5, 6] (fun out i wr => ∃ (k : Nat) (qs : List (List Int × Value)), k ≤ n ∧ i = .int .i64 (k : Int) ∧ Hd (lists qs = balK n m p k) ∧ Hd (OwL w wr out qs)) (fun _ i _ => n - (intOf i).toNat)
  case atStart => exact ⟨0, [(p, .slice ab lp cb)], by omega, rfl, ⟨by simp [balK, allC, lists]⟩, hL⟩
  case round =>
    obtain ⟨k, qs, hk, rfl, hqs, hO⟩ := hrel
    by_cases hlt : k < n
    · (have hk1 : (k : Int) < (n : Int) := by omega); (have hk0 : (0 : Int) ≤ (k : Int) := by omega); (have HA := hid (HH.out (k : Int) wr hO.out.kept))
      by_cases hin : (k : Int) ∈ p
      · (rw [decide_eq_true hin] at HA); (have hq2 : Hd (lists qs = balK n m p (k + 1)) := ⟨by rw [balK_skip hin]; exact hqs.out⟩); (clear hqs hin); (go_wp2_with fail); (with_reducible refine HA.out.mono ?_); (rintro e w3 ⟨rfl, q3⟩); (have hO3 := hid (hO.out.keptNo q3.kept)); (clear HA q3 hO); (go_wp2); (go_roundw)
        case rel => first | exact ⟨k + 1, qs, by omega, by go_num, hq2, hO3⟩ | ((repeat apply Exists.intro); exact ⟨⟨k + 1, qs, by omega, by go_num, hq2, hO3⟩, rfl⟩)
        case measure => simp [intOf]; omega
      · (rw [decide_eq_false hin] at HA); (have hmore := bal_more hP.out hlt hin); (have hnx := hid (balK_more (n := n) (m := m) (p := p) hin)); (have hkl := balK_len hn (m := m) (p := p) (Nat.le_of_lt hlt) hm3); (rw [← hqs.out, lists_length] at hkl); (obtain ⟨m', rfl⟩ : ∃ m', m = m' + 1 := ⟨m - 1, by have := hlen.out; have := hmore.2; have := hlp.out; omega⟩); (have hrl := balR_len hn m' (p ++ [(k : Int)]))
        have hf13 : fc3 m' ≤ 13 := by
          (have : ∀ j ≤ 2, fc3 j ≤ 13 := by decide); (exact this _ (by omega))
        (have IH2 := hid (IH m' rfl (p ++ [(k : Int)]))); (have hbp := hid hmore.1); (have hrl2 := hid (show (balR n m' (p ++ [(k : Int)])).length ≤ 13 from by omega)); (clear hmore hin hrl); (go_wp2_with fail); (with_reducible refine HA.out.mono ?_); (rintro e w3 ⟨rfl, q3⟩); (have hO3 := hid (hO.out.keptNo q3.kept)); (have hb3 := hid (Rd.of_own (hO3.out.kept.ownsRow hb.out fun _ _ => id))); (have hsz : Hd (0 + lp ≤ maxLen ∧ (0 + lp) * 8 ≤ 140737488355328 ∧ lp + 1 ≤ maxLen ∧ (lp + 1) * 8 ≤ 140737488355328) := ⟨by have hm : maxLen = 9223372036854775807 := rfl; omega⟩); (clear HA q3 hO); (go_wp2_with (at_builtin; refine wpList_append _ rfl _ _ 40 rfl 3 1 8 TInts (.slice none 0 0) 0 [] rfl (World.ownsRow_nil _ _ _ _) _ lp (p.map Z) rfl hb3.out (Z_oneB p) hsz.out.1 hsz.out.2.1 ?_)); (intro v4 w4 h2 h3 h4 _)
        have o4 : Hd (OwZ w3 w4 v4 p) := ⟨by
          refine ⟨by rw [hlp.out]; simpa using h2, Kept.ob_nil h3, ?_⟩
          rcases h4 with h | ⟨j, h5, h6⟩
          · exact .inl h
          · exact .inr ⟨j, h5, h6⟩⟩
        (have hs2 : Hd (p.length + 1 ≤ maxLen ∧ (p.length + 1) * 8 ≤ 140737488355328) := ⟨by rw [hlp.out]; exact hsz.out.2.2⟩); (clear h2 h3 h4 hb3 hsz); (go_wp2_with (at_builtin; refine wpList_append_lit _ rfl _ _ 40 rfl 3 1 8 TInts _ _ _ rfl o4.out.own 1 [.int .i64 (k : Int)] rfl rfl ?c1 ?c2 ?c3 ?_))
        case c1 => simp [Value.oneCell']
        case c2 => exact hs2.out.1
        case c3 => exact hs2.out.2
        (intro v5 w5 h2 h3 h4 _); (have o5 := hid (o4.out.add (k : Int) h2 h3 h4)); (have hO5 := hid (hO3.out.keptNo o5.out.kept)); (have IH3 := hid (IH2.out v5 w5 hbp.out (by rw [List.length_append, List.length_singleton, hlp.out]; have := hlen.out; omega) o5.out.own)); (clear h2 h3 h4 o4 hs2 o5 hO3 IH2 hbp); (go_wp2_with fail); (with_reducible refine IH3.out.mono ?_); (rintro e w6 ⟨v6, cs, rfl, o6, hcs⟩); (have hcl : cs.length ≤ 13 := by rw [← lists_length, hcs]; exact hrl2.out); (have hO6 := hid (hO5.out.keptNo o6.kept)); (have hcr := hid (Rd.of_own o6.own)); (have hone : Hd (∀ u ∈ cs.map (·.2), u.oneCell' = true) := ⟨bals_one cs w6 fun x hx => own_RdZ (o6.rows x hx)⟩); (have hs3 : Hd (qs.length + cs.length ≤ maxLen ∧ (qs.length + cs.length) * 24 ≤ 140737488355328) := ⟨by have hm : maxLen = 9223372036854775807 := rfl; omega⟩); (have hadd := hid (fun (v' : Value) (w2 : World) (ho : w2.ownsRow 0 40 1 v' (qs.length + cs.length) (qs.map (·.2) ++ cs.map (·.2))) (hk : Kept (ob u5) w6 w2) (hv : NewOr w6 u5 v') => hO5.out.addsB o6 ho hk hv))
        have hl6 : Hd (lists (qs ++ cs) = balK n (m' + 1) p (k + 1)) := ⟨by
          rw [hnx.out, ← hqs.out, show m' + 1 - 1 = m' from rfl, ← hcs]; unfold lists; rw [List.map_append]⟩
        (clear IH3 o6 hcs hO5 hnx hqs hcl hkl hrl2); (go_wp2_with (at_builtin; refine wpList_append _ rfl _ _ 26 rfl 40 1 24 TBals _ _ _ rfl hO6.out.own _ _ _ rfl hcr.out hone.out hs3.out.1 hs3.out.2 ?_)); (intro v7 w7 h2 h3 h4 _); (have hO7 := hid (hadd.out v7 w7 h2 h3 h4)); (clear h2 h3 h4 hadd hO6 hcr hone hs3); (go_wp2); (go_roundw)
        case rel => first | exact ⟨k + 1, _, by omega, by go_num, hl6, hO7⟩ | ((repeat apply Exists.intro); exact ⟨⟨k + 1, _, by omega, by go_num, hl6, hO7⟩, rfl⟩)
        case measure => simp [intOf]; omega
    · (obtain rfl : k = n := by omega); (have hk1 : ¬ (k : Int) < (k : Int) := by omega); (have hend : Hd (lists qs = balR k m p) := ⟨by rw [hqs.out]; exact balK_all hP.out (by rw [hlp.out]; exact hlen.out)⟩); (clear hqs); (go_wp2); (go_ret); (first | exact ⟨_, qs, rfl, hO.out, hend.out⟩ | exact ⟨_, rfl, qs, hO.out, hend.out⟩)
theorem ballots31_any (n : Nat) (hn : n ≤ 3) : ∀ m, BalC n m
  | 0 => ballots_step n 0 hn fun m' h => by omega
  | m + 1 => ballots_step n (m + 1) hn fun m' h => by
    (obtain rfl : m' = m := by omega); (exact ballots31_any n hn m')
end Go.Proofs.Ytkdmlakookgolaa
