/- electionlaw31.MarginTrue returns true for every argument that can be read; no condition. -/
import Derived.Test.YtkdmlakookgolaaMTruZ
import Derived.Test.YtkdmlakookgolaaReadZ
import Derived.Carry
import Derived.Deep.DeepLaidRun
namespace Go.Proofs.Ytkdmlakookgolaa.marginTrue
open Go.ChangeShapes Go.WideShapes Go.ChangeAt Go.RowKit Go.Mk Go.Pil
theorem laidOut : laidOutB Try.prog = true := by kernel_rfl
set_option maxRecDepth 100000 in
theorem contract (H : Type) (enc : TypeId × Value → H) (W : World) (base : Nat) (args : Array Value) (ds gs : List (DataW H)) (before : List MemPlace)
    (hval0 : ∀ (j : Nat) t v, Try.f8.params[j]? = some t → args[j]? = some v → Value.okWide Try.prog W .any base t v)
    (hW : DataW.Whole enc Try.prog Try.f8.params.toList Rows.marginTrueSpec.vars false W args.toList ds gs before) (_hL : laidMetH Try.prog Rows.marginTrueRow.laid W) :
    Calls Try.prog 8 args W fun e W' => ∃ v, e = .returned v ∧ Rows.marginTrueSpec.post enc Try.prog Try.f8 false true false false W args v W' := by
  (have hW' := hW); (obtain ⟨p, q, hA0, hV, rfl, hfz, hnd⟩ := hW); (have hA : DataW.TrodAll enc Try.prog W 0 (fun _ => true) true Try.f8.params.toList args.toList ds p := hA0); (rw [Try.params8] at hA); (have hval := hval0); (rw [Try.params8] at hval); (clear hval0); (obtain ⟨v0, v1, v2, v3, d0, d1, d2, d3, p0, p1, p2, p3, rfl, rfl, rfl, h0, h1, h2, h3⟩ := trAll4 hA); (obtain ⟨rfl, rfl⟩ := trodVars_none hV); (clear hA0 hA); (have hlt0 : ∀ x ∈ p0, x.block < W.heap.size := fun x hx => by have := hW'.lt x (by simp [hx]); simpa using this); (have h0k := h0); (obtain ⟨n0, rfl⟩ := flag_read (hval 0 4 v0 rfl rfl) h0); (have hlt1 : ∀ x ∈ p1, x.block < W.heap.size := fun x hx => by have := hW'.lt x (by simp [hx]); simpa using this); (have h1k := h1); (obtain ⟨a1, l1, c1, rfl⟩ := okWide_slice Try.underlying26 (hval 1 26 v1 rfl rfl)); (obtain ⟨f1, h1⟩ := h1); (obtain ⟨xs1, r1, lx1⟩ := ballots_read (v := .slice a1 l1 c1) h1); (have hlt2 : ∀ x ∈ p2, x.block < W.heap.size := fun x hx => by have := hW'.lt x (by simp [hx]); simpa using this); (have h2k := h2); (obtain ⟨n2, rfl, lx2⟩ := int_read (hval 2 3 v2 rfl rfl) h2); (have hlt3 : ∀ x ∈ p3, x.block < W.heap.size := fun x hx => by have := hW'.lt x (by simp [hx]); simpa using this); (have h3k := h3); (obtain ⟨n3, rfl, lx3⟩ := int_read (hval 3 3 v3 rfl rfl) h3); (refine (margintrue_any n0 n2 n3 _ xs1 W r1).mono fun e W' ⟨he, hk⟩ => ?_); (subst he)
  exact ⟨_, rfl, _, _, _, [], _, [], hW', trodAll_cons_mk (shut_bool Try.underlying4 _) trodAll_mk0,
    trMk4 (Below.trod laidOut (by kernel_rfl) (of_decide_eq_true (by kernel_rfl)) h0k hk.below hlt0) (Below.trod laidOut (by kernel_rfl) (of_decide_eq_true (by kernel_rfl)) h1k hk.below hlt1) (Below.trod laidOut (by kernel_rfl) (of_decide_eq_true (by kernel_rfl)) h2k hk.below hlt2) (Below.trod laidOut (by kernel_rfl) (of_decide_eq_true (by kernel_rfl)) h3k hk.below hlt3), rfl, hk.below.frame _, fun h => by cases h⟩
theorem laid_met (os : Os) : laidMet Try.prog Rows.marginTrueRow.laid ((laidWorld0 os).forCall (fun _ _ => 0) ⟨#[], #[], []⟩).memory :=
  laidMet_of_run' 8 (by kernel_rfl) (by kernel_rfl)
theorem reads (os : Os) {H : Type} (enc : TypeId × Value → H) : ∃ places, DataW.whole enc Try.prog ((laidWorld0 os).forCall (fun _ _ => 0) ⟨#[], #[], []⟩).memory Try.f8.params.toList Rows.marginTrueSpec.vars false (#[.bool false, .slice none 0 0, .int .i64 0, .int .i64 0] : Array Value).toList 8 = some ([.lit (.bool false), .nil, .lit (.int .i64 0), .lit (.int .i64 0)], [], places) :=
  ⟨[], by kernel_rfl⟩
set_option maxRecDepth 100000 in
theorem lifted (os : Os) (started : os.Started) (H : Type) (enc : TypeId × Value → H) (F : Stop.Interp) :
    ReturnsInHanded {} Try.checked os 8 .any ((OpenSpec.ofChange Rows.marginTrueSpec).preRow enc Try.prog Try.f8 Rows.marginTrueRow.domain false Rows.marginTrueRow.laid) (((OpenSpec.ofChange Rows.marginTrueSpec).at F).post enc Try.prog Try.f8 false true false false) := by
  obtain ⟨places, hx⟩ := reads os enc
  refine returnsInHanded_of_row (C := Try.checked) (s := OpenSpec.ofChange Rows.marginTrueSpec) own started (by kernel_rfl) Try.func8
    (witness_row_at (enc := enc) (C := Try.checked) false (laidWorld0 os) #[.bool false, .slice none 0 0, .int .i64 0, .int .i64 0] rfl (by kernel_rfl) (by kernel_rfl) (by kernel_rfl)
      (OpenSpec.preRow_of_cond 8 hx (by kernel_rfl) (fun k hk => by cases hk) (by kernel_rfl) (laid_met os))) ?_
  (intro W base args ds gs before hval hW _ _ _ hL _ _); (exact contract H enc W base args ds gs before hval hW hL)
theorem said : Rows.MarginTrueSaid :=
  OpenClaim.holds_of_cond 8 Try.f8 rfl rfl rfl rfl rfl rfl rfl ⟨rfl, rfl, rfl, rfl, rfl⟩ rfl rfl rfl rfl rfl (by kernel_rfl) Try.func8 (by kernel_rfl)
    (of_decide_eq_true (by kernel_rfl)) (by unfold Func.isWrapper; first | (rw [if_pos (by decide +kernel)]; kernel_rfl) | (rw [if_neg (by decide +kernel)]; exact ⟨rfl, rfl⟩))
    (fun os started H enc _ F => by rw [OpenClaim.pre_eq_preRow]; exact lifted os started H enc F)
#print axioms said
end Go.Proofs.Ytkdmlakookgolaa.marginTrue
