/- electionlaw31.MarginRenames returns true for every argument that can be read; no condition. -/
import Derived.Test.YtkdmlakookgolaaMRenZ
import Derived.Test.YtkdmlakookgolaaReadZ
import Derived.Carry
import Derived.Deep.DeepLaidRun
namespace Go.Proofs.Ytkdmlakookgolaa.marginRenames
open Go.ChangeShapes Go.WideShapes Go.ChangeAt Go.RowKit Go.Mk Go.Pil
theorem laidOut : laidOutB Try.prog = true := by kernel_rfl
set_option maxRecDepth 100000 in
theorem contract (H : Type) (enc : TypeId × Value → H) (W : World) (base : Nat) (args : Array Value) (ds gs : List (DataW H)) (before : List MemPlace)
    (hval0 : ∀ (j : Nat) t v, Try.f9.params[j]? = some t → args[j]? = some v → Value.okWide Try.prog W .any base t v)
    (hW : DataW.Whole enc Try.prog Try.f9.params.toList Rows.marginRenamesSpec.vars false W args.toList ds gs before) (_hL : laidMetH Try.prog Rows.marginRenamesRow.laid W) :
    Calls Try.prog 9 args W fun e W' => ∃ v, e = .returned v ∧ Rows.marginRenamesSpec.post enc Try.prog Try.f9 false true false false W args v W' := by
  (have hW' := hW); (obtain ⟨p, q, hA0, hV, rfl, hfz, hnd⟩ := hW); (have hA : DataW.TrodAll enc Try.prog W 0 (fun _ => true) true Try.f9.params.toList args.toList ds p := hA0); (rw [Try.params9] at hA); (have hval := hval0); (rw [Try.params9] at hval); (clear hval0); (obtain ⟨v0, v1, v2, v3, v4, d0, d1, d2, d3, d4, p0, p1, p2, p3, p4, rfl, rfl, rfl, h0, h1, h2, h3, h4⟩ := trAll5 hA); (obtain ⟨rfl, rfl⟩ := trodVars_none hV); (clear hA0 hA); (have hlt0 : ∀ x ∈ p0, x.block < W.heap.size := fun x hx => by have := hW'.lt x (by simp [hx]); simpa using this); (have h0k := h0); (obtain ⟨n0, rfl, lx0⟩ := int_read (hval 0 3 v0 rfl rfl) h0); (have hlt1 : ∀ x ∈ p1, x.block < W.heap.size := fun x hx => by have := hW'.lt x (by simp [hx]); simpa using this); (have h1k := h1); (obtain ⟨a1, l1, c1, rfl⟩ := okWide_slice Try.underlying26 (hval 1 26 v1 rfl rfl)); (obtain ⟨f1, h1⟩ := h1); (obtain ⟨xs1, r1, lx1⟩ := ballots_read (v := .slice a1 l1 c1) h1); (have hlt2 : ∀ x ∈ p2, x.block < W.heap.size := fun x hx => by have := hW'.lt x (by simp [hx]); simpa using this); (have h2k := h2); (obtain ⟨a2, l2, c2, rfl⟩ := okWide_slice Try.underlying40 (hval 2 40 v2 rfl rfl)); (obtain ⟨f2, h2⟩ := h2); (obtain ⟨xs2, r2, lx2⟩ := ints_read (v := .slice a2 l2 c2) h2); (have hlt3 : ∀ x ∈ p3, x.block < W.heap.size := fun x hx => by have := hW'.lt x (by simp [hx]); simpa using this); (have h3k := h3); (obtain ⟨n3, rfl, lx3⟩ := int_read (hval 3 3 v3 rfl rfl) h3); (have hlt4 : ∀ x ∈ p4, x.block < W.heap.size := fun x hx => by have := hW'.lt x (by simp [hx]); simpa using this); (have h4k := h4); (obtain ⟨n4, rfl, lx4⟩ := int_read (hval 4 3 v4 rfl rfl) h4); (refine (marginrenames_any n0 n3 n4 _ _ xs1 xs2 W r1 r2).mono fun e W' ⟨he, hk⟩ => ?_); (subst he)
  exact ⟨_, rfl, _, _, _, [], _, [], hW', trodAll_cons_mk (shut_bool Try.underlying4 _) trodAll_mk0,
    trMk5 (Below.trod laidOut (by kernel_rfl) (of_decide_eq_true (by kernel_rfl)) h0k hk.below hlt0) (Below.trod laidOut (by kernel_rfl) (of_decide_eq_true (by kernel_rfl)) h1k hk.below hlt1) (Below.trod laidOut (by kernel_rfl) (of_decide_eq_true (by kernel_rfl)) h2k hk.below hlt2) (Below.trod laidOut (by kernel_rfl) (of_decide_eq_true (by kernel_rfl)) h3k hk.below hlt3) (Below.trod laidOut (by kernel_rfl) (of_decide_eq_true (by kernel_rfl)) h4k hk.below hlt4), rfl, hk.below.frame _, fun h => by cases h⟩
theorem laid_met (os : Os) : laidMet Try.prog Rows.marginRenamesRow.laid ((laidWorld0 os).forCall (fun _ _ => 0) ⟨#[], #[], []⟩).memory :=
  laidMet_of_run' 8 (by kernel_rfl) (by kernel_rfl)
theorem reads (os : Os) {H : Type} (enc : TypeId × Value → H) : ∃ places, DataW.whole enc Try.prog ((laidWorld0 os).forCall (fun _ _ => 0) ⟨#[], #[], []⟩).memory Try.f9.params.toList Rows.marginRenamesSpec.vars false (#[.int .i64 0, .slice none 0 0, .slice none 0 0, .int .i64 0, .int .i64 0] : Array Value).toList 8 = some ([.lit (.int .i64 0), .nil, .nil, .lit (.int .i64 0), .lit (.int .i64 0)], [], places) :=
  ⟨[], by kernel_rfl⟩
set_option maxRecDepth 100000 in
theorem lifted (os : Os) (started : os.Started) (H : Type) (enc : TypeId × Value → H) (F : Stop.Interp) :
    ReturnsInHanded {} Try.checked os 9 .any ((OpenSpec.ofChange Rows.marginRenamesSpec).preRow enc Try.prog Try.f9 Rows.marginRenamesRow.domain false Rows.marginRenamesRow.laid) (((OpenSpec.ofChange Rows.marginRenamesSpec).at F).post enc Try.prog Try.f9 false true false false) := by
  obtain ⟨places, hx⟩ := reads os enc
  refine returnsInHanded_of_row (C := Try.checked) (s := OpenSpec.ofChange Rows.marginRenamesSpec) own started (by kernel_rfl) Try.func9
    (witness_row_at (enc := enc) (C := Try.checked) false (laidWorld0 os) #[.int .i64 0, .slice none 0 0, .slice none 0 0, .int .i64 0, .int .i64 0] rfl (by kernel_rfl) (by kernel_rfl) (by kernel_rfl)
      (OpenSpec.preRow_of_cond 8 hx (by kernel_rfl) (fun k hk => by cases hk) (by kernel_rfl) (laid_met os))) ?_
  (intro W base args ds gs before hval hW _ _ _ hL _ _); (exact contract H enc W base args ds gs before hval hW hL)
theorem said : Rows.MarginRenamesSaid :=
  OpenClaim.holds_of_cond 9 Try.f9 rfl rfl rfl rfl rfl rfl rfl ⟨rfl, rfl, rfl, rfl, rfl⟩ rfl rfl rfl rfl rfl (by kernel_rfl) Try.func9 (by kernel_rfl)
    (of_decide_eq_true (by kernel_rfl)) (by unfold Func.isWrapper; first | (rw [if_pos (by decide +kernel)]; kernel_rfl) | (rw [if_neg (by decide +kernel)]; exact ⟨rfl, rfl⟩))
    (fun os started H enc _ F => by rw [OpenClaim.pre_eq_preRow]; exact lifted os started H enc F)
#print axioms said
end Go.Proofs.Ytkdmlakookgolaa.marginRenames
