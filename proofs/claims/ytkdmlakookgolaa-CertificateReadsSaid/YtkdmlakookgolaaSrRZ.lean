/- What the reference's search ends with is small (plain); electionlaw32.Short. -/
import Derived.Test.YtkdmlakookgolaaRSearchZ
import Derived.Test.YtkdmlakookgolaaCk2Z
namespace Go.Mg
open Go.Pil
theorem run_wfC {n : Nat} {gs : List Grp} {w : Nat} {up lim : Int} (hp : isPile (n : Int) gs = true) (hw : w < n) (h2 : 2 ≤ n) : ∀ i, (∀ j, j < i → stopS n up lim (runS n gs (w : Int) j) = false) → WfN n (runS n gs (w : Int) i) ∧ HasLeaf (runS n gs (w : Int) i)
  | 0, _ => ⟨wf_start hp _, start_leaf hw h2⟩
  | i + 1, h => by
    (obtain ⟨h1, h3⟩ := run_wfC hp hw h2 i fun j hj => h j (by omega)); (obtain ⟨s1, _, _, s4, _⟩ := selK_spec h3); (have hs := h i (by omega)); (unfold stopS at hs); (simp only [Bool.or_eq_false_iff, decide_eq_false_iff_not] at hs); (exact ⟨wf_step hp h1 s1, step_leaf (h1 _ s4).1 hs.1.2⟩)
theorem run_lenC {n : Nat} {gs : List Grp} {w : Nat} {up lim : Int} (hp : isPile (n : Int) gs = true) (hw : w < n) (h2 : 2 ≤ n) (h7 : n ≤ 7) (hl : lim ≤ 4000) : ∀ i, (∀ j, j < i → stopS n up lim (runS n gs (w : Int) j) = false) → (runS n gs (w : Int) i).length ≤ 4000
  | 0, _ => by have := start_len n gs w n hw; show (startS n gs (w : Int) n).length ≤ 4000; omega
  | i + 1, h => by
    (obtain ⟨h1, h3⟩ := run_wfC hp hw h2 i fun j hj => h j (by omega)); (obtain ⟨_, _, _, s4, _⟩ := selK_spec h3); (have hs := h i (by omega)); (unfold stopS at hs); (simp only [Bool.or_eq_false_iff, decide_eq_false_iff_not] at hs); (have := step_len gs (l := runS n gs (w : Int) i) (h1 _ s4).1)
    show (stepS n gs (runS n gs (w : Int) i)).length ≤ 4000
    omega
theorem mn_geC : ∀ l : List Int, (∀ x ∈ l, 0 ≤ x) → -1 ≤ mn l := by
  have : ∀ r : List Int, (∀ x ∈ r, 0 ≤ x) → -1 ≤ mn r.reverse := by
    intro r
    induction r with
    | nil => intro _; show (-1 : Int) ≤ -1; decide
    | cons a r ih =>
      (intro h); (rw [List.reverse_cons, mn_snoc]); (have h1 := ih fun x hx => h x (List.mem_cons_of_mem _ hx)); (have h2 := h a List.mem_cons_self); (unfold mnStep; split <;> omega)
  (intro l h); (have := this l.reverse (by simpa using h))
  rwa [List.reverse_reverse] at this
/-- Small enough to be changed. -/
structure RdyC (mar : Int) (l : List Nd) : Prop where
  pos : 0 < l.length
  len : l.length ≤ 4000
  mlo : -1 ≤ mar
  mhi : mar ≤ 100000
  wf : ∀ x ∈ l, x.tail ≠ [] ∧ x.tail.length ≤ 8 ∧ 0 ≤ x.bd ∧ x.bd ≤ 100000
theorem srch_rdy {n w : Nat} {a : List Grp} {lim win mar err : Int} {l : List Nd} (hp : isPile (n : Int) a = true) (hw : w < n) (h2 : 2 ≤ n) (h7 : n ≤ 7) (hl : 1 ≤ lim ∧ lim ≤ 4000) (h : SrchR (n : Int) a (w : Int) lim win mar err l) : RdyC mar l := by
  have hu : -1 ≤ upperB (n : Int) a (w : Int) := by
    (unfold upperB); (rw [if_pos ⟨by omega, ⟨by omega, hp⟩, by omega, by omega⟩]); (unfold upV)
    split
    · decide
    · (refine mn_geC _ fun x hx => ?_); (unfold upL at hx); (obtain ⟨r, _, rfl⟩ := List.mem_map.1 hx); (exact half_nonneg _)
  (unfold SrchR at h); (rw [if_neg (fun h => h ⟨⟨by omega, by omega⟩, ⟨by omega, by omega⟩, hl⟩), if_neg (by rw [hp]; decide), Int.toNat_natCast] at h); (obtain ⟨_, _, ⟨i, rfl, _, hi⟩, hm⟩ := h); (obtain ⟨hW, hL⟩ := run_wfC hp hw h2 i hi); (have hlen := run_lenC hp hw h2 h7 hl.2 i hi); (obtain ⟨s1, _, _, s4, _⟩ := selK_spec hL); (have hs := hW _ s4); (refine ⟨by omega, hlen, by omega, by omega, fun x hx => ?_⟩); (have h1 := hW x hx); (have h3 := nodup_len n x.tail (isTail_iff.1 h1.1).2.1 (isTail_iff.1 h1.1).2.2); (exact ⟨(isTail_iff.1 h1.1).1, by omega, h1.2.1, by omega⟩)
end Go.Mg
namespace Go.Proofs.Ytkdmlakookgolaa
open Go.RowKit Go.Mk Go.Pil Go.Mg
def RetS (p : Prop) (e : Ending) : Prop := ∃ b : Bool, e = .returned (.bool b) ∧ (b = true → p)
set_option maxRecDepth 20000 in
set_option maxHeartbeats 1000000 in
theorem short32_any (A M : Int) (v : Value) (q : List (Nd × Value)) (w : World) (hq : RdN w v q) : Calls Try.prog 16 #[.agg #[.int .i64 A, .int .i64 M, v]] w fun e w' => RetS (q.length ≤ 60 ∧ ∀ x ∈ nds q, x.tail.length ≤ 9) e ∧ Kept no w w' := by
  (obtain ⟨an, cn, rfl, hlc, hcm⟩ := Rd.shape2 hq.2); (have hm63 := maxLen_63); (obtain ⟨len, hlen⟩ : ∃ n, q.length = n := ⟨_, rfl⟩); (rw [hlen] at hq hlc ⊢); (have hndl : Hd ((nds q).length = len) := ⟨by rw [nds_length]; exact hlen⟩); (replace hlen := hid hlen); (obtain ⟨w1, hw1, g1, k1⟩ := alloc_named w (.cells #[.int .i64 A, .int .i64 M, .slice an len cn] 25)); (have gC := hid g1); (have k01 := hid k1); (replace hq := hid hq)
  go_enter Try.func16, Try.ntmps16
  (go_upto_region 1 with fail); (rw [← hw1]); (generalize w.heap.size = GC at gC); (clear hw1 g1 k1); (go_wp2)
  go_loopw [3] (fun i wr => ∃ k : Nat, k ≤ len ∧ i = .int .i64 (k : Int) ∧ Hd (∀ j, j < k → ((nds q).getD j default).tail.length ≤ 9) ∧ Hd (Kept no w1 wr)) (fun i _ => len - (intOf i).toNat)
  case atStart => exact ⟨0, by omega, rfl, ⟨fun j hj => by omega⟩, ⟨Kept.refl _ _⟩⟩
  case round =>
    (obtain ⟨k, hk, rfl, hok, hW1⟩ := hrel); (have hW := hid (k01.out.trans' hW1.out)); (obtain ⟨c0, c1, c2⟩ := slotC (hW1.out.blk gC.out))
    by_cases hlt : k < len
    · (have hk1 : (k : Int) < (len : Int) := by omega); (have hk0 : (0 : Int) ≤ (k : Int) := by omega); (obtain ⟨b, o, x, tv, rfl, ex, a0, a1, a2, a3, hz⟩ := (hq.out.kept hW.out).at k (by rw [hlen.out]; exact hlt)); (have hxk := nds_at (by rw [hlen.out]; exact hlt) ex); (obtain ⟨av, cv, rfl, _, _⟩ := Rd.shape2 hz); (obtain ⟨lv, hlv⟩ : ∃ l, x.tail.length = l := ⟨_, rfl⟩); (have hxl : Hd (((nds q).getD k default).tail.length = lv) := ⟨by rw [hxk]; exact hlv⟩); (rw [hlv] at a1); (clear ex hz hxk hlv a0 a2 a3)
      by_cases h9 : 9 < lv
      · (have h9i : (9 : Int) < (lv : Int) := by omega); (have h9d : decide ((9 : Int) < (lv : Int)) = true := decide_eq_true h9i); (clear hok hxl); (go_wp2); (go_ret); (exact ⟨⟨false, rfl, fun h => by cases h⟩, hW.out⟩)
      · (have h9i : ¬ (9 : Int) < (lv : Int) := by omega); (have h9d : decide ((9 : Int) < (lv : Int)) = false := decide_eq_false h9i)
        have hok2 : Hd (∀ j, j < k + 1 → ((nds q).getD j default).tail.length ≤ 9) := ⟨fun j hj => by
          by_cases hjk : j = k
          · subst hjk; rw [hxl.out]; omega
          · exact hok.out j (by omega)⟩
        (clear hok hxl); (go_wp2); (go_roundw)
        case rel => first | exact ⟨k + 1, by omega, by go_num, hok2, hW1⟩ | ((repeat apply Exists.intro); exact ⟨⟨k + 1, by omega, by go_num, hok2, hW1⟩, rfl⟩)
        case measure => simp [intOf]; omega
    · obtain rfl : k = len := by omega
      have hall : Hd (∀ x ∈ nds q, x.tail.length ≤ 9) := ⟨fun x hx => by
        obtain ⟨j, hj, rfl⟩ := getD_of_mem hx
        exact hok.out j (by rw [← hndl.out]; exact hj)⟩
      clear hok
      by_cases h60 : k ≤ 60
      · (have h60i : (k : Int) ≤ 60 := by omega); (have h60d : decide ((k : Int) ≤ 60) = true := decide_eq_true h60i); (have hkn := hid h60); (go_wp2); (go_ret); (exact ⟨⟨_, rfl, fun _ => ⟨hkn.out, hall.out⟩⟩, hW.out⟩)
      · (have h60i : ¬ (k : Int) ≤ 60 := by omega); (have h60d : decide ((k : Int) ≤ 60) = false := decide_eq_false h60i); (go_wp2); (go_ret); (exact ⟨⟨false, rfl, fun h => by cases h⟩, hW.out⟩)
end Go.Proofs.Ytkdmlakookgolaa
