/- The law MarginSearches: its walk (printed by gen_mtells.py). -/
import Derived.Test.YtaobaaaihgahfaaGreatMSearchY
import Derived.Test.YtaobaaaihgahfaaGreatNodMY
import Derived.Test.YtaobaaaihgahfaaGreatDistY
import Derived.Test.YtaobaaaihgahfaaGreatKitY
namespace Go.Mg
open Go.Pil
/-- A search is in order as long as it goes on. -/
theorem run_wf {n : Nat} {gs : List Grp} {w : Nat} {up lim : Int} (hp : isPile (n : Int) gs = true) (hw : w < n) (h2 : 2 ≤ n) : ∀ i, (∀ j, j < i → stopS n up lim (runS n gs (w : Int) j) = false) → WfN n (runS n gs (w : Int) i) ∧ HasLeaf (runS n gs (w : Int) i)
  | 0, _ => ⟨wf_start hp _, start_leaf hw h2⟩
  | i + 1, h => by
    (obtain ⟨h1, h3⟩ := run_wf hp hw h2 i fun j hj => h j (by omega)); (obtain ⟨s1, _, _, s4, _⟩ := selK_spec h3); (have hs := h i (by omega)); (unfold stopS at hs); (simp only [Bool.or_eq_false_iff, decide_eq_false_iff_not] at hs); (exact ⟨wf_step hp h1 s1, step_leaf (h1 _ s4).1 hs.1.2⟩)
theorem run_len {n : Nat} {gs : List Grp} {w : Nat} {up lim : Int} (hp : isPile (n : Int) gs = true) (hw : w < n) (h2 : 2 ≤ n) (h7 : n ≤ 7) (hl : lim ≤ 4000) : ∀ i, (∀ j, j < i → stopS n up lim (runS n gs (w : Int) j) = false) → (runS n gs (w : Int) i).length ≤ 4000
  | 0, _ => by have := start_len n gs w n hw; show (startS n gs (w : Int) n).length ≤ 4000; omega
  | i + 1, h => by
    (obtain ⟨h1, h3⟩ := run_wf hp hw h2 i fun j hj => h j (by omega)); (obtain ⟨_, _, _, s4, _⟩ := selK_spec h3); (have hs := h i (by omega)); (unfold stopS at hs); (simp only [Bool.or_eq_false_iff, decide_eq_false_iff_not] at hs); (have := step_len gs (l := runS n gs (w : Int) i) (h1 _ s4).1)
    show (stepS n gs (runS n gs (w : Int) i)).length ≤ 4000
    omega
end Go.Mg
namespace Go.Proofs.YtaobaaaihgahfaaGreat
open Go.RowKit Go.Mk Go.Pil Go.Mg
end Go.Proofs.YtaobaaaihgahfaaGreat
