/- TopMethods answers true for every input: with one seat, and if more than half of the ballots that are not blank have the same first preference, instant runoff, Meek and Gregory all elect that candidate; no condition. -/
import Derived.Test.YtaobaaaihgahfaaGreatTMV
import Derived.Test.YtaobaaaihgahfaaGreatReadV
import Derived.Carry
import Derived.Deep.DeepLaidRun
namespace Go.Proofs.YtaobaaaihgahfaaGreat.topMethods
open Go.ChangeShapes Go.WideShapes Go.ChangeAt Go.RowKit Go.Mk Go.Pil
theorem laidOut : laidOutB Tryz.prog = true := by kernel_rfl
set_option maxRecDepth 100000 in
theorem contract (H : Type) (enc : TypeId × Value → H) (W : World) (base : Nat) (args : Array Value) (ds gs : List (DataW H)) (before : List MemPlace)
    (hval0 : ∀ (j : Nat) t v, Tryz.f4.params[j]? = some t → args[j]? = some v → Value.okWide Tryz.prog W .any base t v)
    (hW : DataW.Whole enc Tryz.prog Tryz.f4.params.toList Rows.topMethodsSpec.vars false W args.toList ds gs before) (_hL : laidMetH Tryz.prog Rows.topMethodsRow.laid W) :
    Calls Tryz.prog 4 args W fun e W' => ∃ v, e = .returned v ∧ Rows.topMethodsSpec.post enc Tryz.prog Tryz.f4 false true false false W args v W' := by
  (have hW' := hW); (obtain ⟨p, q, hA0, hV, rfl, hfz, hnd⟩ := hW); (have hA : DataW.TrodAll enc Tryz.prog W 0 (fun _ => true) true Tryz.f4.params.toList args.toList ds p := hA0); (rw [Tryz.params4] at hA); (have hval := hval0); (rw [Tryz.params4] at hval); (clear hval0); (obtain ⟨v0, v1, v2, d0, d1, d2, p0, p1, p2, rfl, rfl, rfl, h0, h1, h2⟩ := trAll3 hA); (obtain ⟨rfl, rfl⟩ := trodVars_none hV); (clear hA0 hA); (have hlt0 : ∀ x ∈ p0, x.block < W.heap.size := fun x hx => by have := hW'.lt x (by simp [hx]); simpa using this); (have h0k := h0); (obtain ⟨a0, l0, c0, rfl⟩ := okWide_slice Tryz.underlying25 (hval 0 25 v0 rfl rfl)); (obtain ⟨f0, h0⟩ := h0); (obtain ⟨xs0, r0, lx0⟩ := ballots_read (v := .slice a0 l0 c0) h0); (have hlt1 : ∀ x ∈ p1, x.block < W.heap.size := fun x hx => by have := hW'.lt x (by simp [hx]); simpa using this); (have h1k := h1); (obtain ⟨n1, rfl, lx1⟩ := int_read (hval 1 3 v1 rfl rfl) h1); (have hlt2 : ∀ x ∈ p2, x.block < W.heap.size := fun x hx => by have := hW'.lt x (by simp [hx]); simpa using this); (have h2k := h2); (obtain ⟨a2, l2, c2, rfl⟩ := okWide_slice Tryz.underlying26 (hval 2 26 v2 rfl rfl)); (obtain ⟨f2, h2⟩ := h2); (obtain ⟨xs2, r2, lx2⟩ := ints_read (v := .slice a2 l2 c2) h2); (refine (topmethods_any n1 (.slice a0 l0 c0) (.slice a2 l2 c2) xs0 xs2 W r0 r2).mono fun e W' ⟨he, hk⟩ => ?_); (subst he)
  exact ⟨_, rfl, _, _, _, [], _, [], hW', trodAll_cons_mk (shut_bool Tryz.underlying4 _) trodAll_mk0,
    trMk3 (Below.trod laidOut (by kernel_rfl) (of_decide_eq_true (by kernel_rfl)) h0k hk.below hlt0) (Below.trod laidOut (by kernel_rfl) (of_decide_eq_true (by kernel_rfl)) h1k hk.below hlt1) (Below.trod laidOut (by kernel_rfl) (of_decide_eq_true (by kernel_rfl)) h2k hk.below hlt2), rfl, hk.below.frame _, fun h => by cases h⟩
theorem laid_met (os : Os) : laidMet Tryz.prog Rows.topMethodsRow.laid ((laidWorld0 os).forCall (fun _ _ => 0) ⟨#[], #[], []⟩).memory :=
  laidMet_of_run' 8 (by kernel_rfl) (by kernel_rfl)
theorem reads (os : Os) {H : Type} (enc : TypeId × Value → H) : ∃ places, DataW.whole enc Tryz.prog ((laidWorld0 os).forCall (fun _ _ => 0) ⟨#[], #[], []⟩).memory Tryz.f4.params.toList Rows.topMethodsSpec.vars false (#[.slice none 0 0, .int .i64 0, .slice none 0 0] : Array Value).toList 8 = some ([.nil, .lit (.int .i64 0), .nil], [], places) :=
  ⟨[], by kernel_rfl⟩
set_option maxRecDepth 100000 in
theorem lifted (os : Os) (started : os.Started) (H : Type) (enc : TypeId × Value → H) (F : Stop.Interp) :
    ReturnsInHanded {} Tryz.checked os 4 .any ((OpenSpec.ofChange Rows.topMethodsSpec).preRow enc Tryz.prog Tryz.f4 Rows.topMethodsRow.domain false Rows.topMethodsRow.laid) (((OpenSpec.ofChange Rows.topMethodsSpec).at F).post enc Tryz.prog Tryz.f4 false true false false) := by
  obtain ⟨places, hx⟩ := reads os enc
  refine returnsInHanded_of_row (C := Tryz.checked) (s := OpenSpec.ofChange Rows.topMethodsSpec) own started (by kernel_rfl) Tryz.func4
    (witness_row_at (enc := enc) (C := Tryz.checked) false (laidWorld0 os) #[.slice none 0 0, .int .i64 0, .slice none 0 0] rfl (by kernel_rfl) (by kernel_rfl) (by kernel_rfl)
      (OpenSpec.preRow_of_cond 8 hx (by kernel_rfl) (fun k hk => by cases hk) (by kernel_rfl) (laid_met os))) ?_
  (intro W base args ds gs before hval hW _ _ _ hL _ _); (exact contract H enc W base args ds gs before hval hW hL)
theorem said : Rows.TopMethodsSaid :=
  OpenClaim.holds_of_cond 4 Tryz.f4 rfl rfl rfl rfl rfl rfl rfl ⟨rfl, rfl, rfl, rfl, rfl⟩ rfl rfl rfl rfl rfl (by kernel_rfl) Tryz.func4 (by kernel_rfl)
    (of_decide_eq_true (by kernel_rfl)) (by unfold Func.isWrapper; first | (rw [if_pos (by decide +kernel)]; kernel_rfl) | (rw [if_neg (by decide +kernel)]; exact ⟨rfl, rfl⟩))
    (fun os started H enc _ F => by rw [OpenClaim.pre_eq_preRow]; exact lifted os started H enc F)
#print axioms said
end Go.Proofs.YtaobaaaihgahfaaGreat.topMethods
