/- electionref31.Search (printed by gen_rsearch.py). -/
import Derived.Test.YtaobaaaihgahfaaGreatNodMY
import Derived.Test.YtaobaaaihgahfaaGreatRUpperY
import Derived.Test.YtaobaaaihgahfaaGreatRTailY
namespace Go.Mg
open Go.Pil
/-- What Search returns: the winner, the margin, an error, the nodes. -/
def SrchR (n : Int) (gs : List Grp) (wn lim win mar err : Int) (l : List Nd) : Prop :=
  if ¬ ((2 ≤ n ∧ n ≤ 7) ∧ (0 ≤ wn ∧ wn < n) ∧ (1 ≤ lim ∧ lim ≤ 4000)) then win = 0 ∧ mar = 0 ∧ err = 4 ∧ l = []
  else if isPile n gs = false then win = 0 ∧ mar = 0 ∧ err = 8 ∧ l = []
  else win = wn ∧ err = 0 ∧ IsS n.toNat gs wn (upperB n gs wn) lim l ∧ mar = min (upperB n gs wn) (selN l).bd
end Go.Mg
namespace Go.Proofs.YtaobaaaihgahfaaGreat
open Go.RowKit Go.Mk Go.Pil Go.Mg
theorem results_cert {fn : Func} {p q : Tmp} (h : fn.results = #[.cell p 41, .tmp q]) (tmps : Array Value) (w : World) (g : Nat) (C : List Value) (hC : C.length = 3) (v : Value)
    (hp : tmps.getD p undef = .pointer (some ⟨g, 0, none⟩)) (hq : tmps.getD q undef = v) (hg : w.heap[g]? = some (.cells C.toArray 41 (0, 0))) :
    (results fn tmps).run Tryz.prog w = .ok (.tuple #[.agg C.toArray, v]) w := by
  (have hp' : tmps[p]?.getD undef = .pointer (some ⟨g, 0, none⟩) := by simpa using hp); (have hq' : tmps[q]?.getD undef = v := by simpa using hq); (have hi : (Tryz.prog.info? 41).map (·.size) = some C.toArray.size := by rw [List.size_toArray, hC]; kernel_rfl); (have hl := run_loadVar_row w g 41 41 C.toArray (0, 0) _ hg Tryz.underlying41 rfl hi); (simp only [results, h, List.mapM_toArray, List.mapM_cons, List.mapM_nil])
  simp [hp', hq', asAddr, hl]
theorem rdN_nil (w : World) : RdN w (.slice none 0 0) [] := ⟨(fun x hx => by cases hx), ⟨rfl, none, 0, rfl, Nat.le_refl _, Nat.zero_le _, .inl rfl⟩⟩
end Go.Proofs.YtaobaaaihgahfaaGreat
