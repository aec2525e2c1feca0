/- TopNear answers true for every input: an assertion that is derived from one pile holds on every other one from which it differs in fewer ballots than half of its margin; if all do, the winner by instant runoff is the same; no condition. -/
import Derived.Test.YtaobaaaihgahfaaGreatNrWQ
import Derived.Test.YtaobaaaihgahfaaGreatReadQ
import Derived.Carry
import Derived.Deep.DeepLaidRun
namespace Go.Proofs.YtaobaaaihgahfaaGreat.topNear
open Go.ChangeShapes Go.WideShapes Go.ChangeAt Go.RowKit Go.Mk Go.Pil Go.Tp
theorem laidOut : laidOutB Tryz.prog = true := by kernel_rfl
set_option maxRecDepth 100000 in
theorem contract (H : Type) (enc : TypeId × Value → H) (W : World) (base : Nat) (args : Array Value) (ds gs : List (DataW H)) (before : List MemPlace)
    (hval0 : ∀ (j : Nat) t v, Tryz.f5.params[j]? = some t → args[j]? = some v → Value.okWide Tryz.prog W .any base t v)
    (hW : DataW.Whole enc Tryz.prog Tryz.f5.params.toList Rows.topNearSpec.vars false W args.toList ds gs before) (_hL : laidMetH Tryz.prog Rows.topNearRow.laid W) :
    Calls Tryz.prog 5 args W fun e W' => ∃ v, e = .returned v ∧ Rows.topNearSpec.post enc Tryz.prog Tryz.f5 false true false false W args v W' := by
  (have hW' := hW); (obtain ⟨p, q, hA0, hV, rfl, hfz, hnd⟩ := hW); (have hA : DataW.TrodAll enc Tryz.prog W 0 (fun _ => true) true Tryz.f5.params.toList args.toList ds p := hA0); (rw [Tryz.params5] at hA); (have hval := hval0); (rw [Tryz.params5] at hval); (clear hval0); (obtain ⟨v0, d0, p0, rfl, rfl, rfl, h0⟩ := trAll1 hA); (obtain ⟨rfl, rfl⟩ := trodVars_none hV); (clear hA0 hA); (have hlt0 : ∀ x ∈ p, x.block < W.heap.size := fun x hx => by have := hW'.lt x (by simp [hx]); simpa using this); (have h0k := h0); (obtain ⟨X0, ba0, bb0, lz0, rfl, hn0, ha0, rA0, rB0, rL0⟩ := piles_read (hval 0 28 v0 rfl rfl) h0); (refine (topnear_any X0 ba0 bb0 lz0 W hn0 ha0 rA0 rB0 rL0).mono fun e W' ⟨he, hk⟩ => ?_); (subst he)
  exact ⟨_, rfl, _, _, _, [], _, [], hW', trodAll_cons_mk (shut_bool Tryz.underlying4 _) trodAll_mk0,
    trMk1 (Below.trod laidOut (by kernel_rfl) (of_decide_eq_true (by kernel_rfl)) h0k hk.below hlt0), rfl, hk.below.frame _, fun h => by cases h⟩
theorem laid_met (os : Os) : laidMet Tryz.prog Rows.topNearRow.laid ((laidWorld0 os).forCall (fun _ _ => 0) ⟨#[], #[], []⟩).memory :=
  laidMet_of_run' 8 (by kernel_rfl) (by kernel_rfl)
theorem reads (os : Os) {H : Type} (enc : TypeId × Value → H) : ∃ places, DataW.whole enc Tryz.prog ((laidWorld0 os).forCall (fun _ _ => 0) ⟨#[], #[], []⟩).memory Tryz.f5.params.toList Rows.topNearSpec.vars false (#[.agg #[.string ⟨#[]⟩, .slice none 0 0, .int .i64 0, .int .i64 0, .int .i64 0, .int .i64 0, .int .i64 0, .int .i64 0, .int .i64 0, .slice none 0 0, .slice none 0 0, .slice none 0 0, .int .i64 0, .int .i64 0]] : Array Value).toList 8 = some ([.agg [.agg [.lit (.string []), .nil, .lit (.int .i64 0), .lit (.int .i64 0), .lit (.int .i64 0), .lit (.int .i64 0), .lit (.int .i64 0), .lit (.int .i64 0), .lit (.int .i64 0)], .nil, .nil, .nil, .lit (.int .i64 0), .lit (.int .i64 0)]], [], places) :=
  ⟨[], by kernel_rfl⟩
set_option maxRecDepth 100000 in
theorem lifted (os : Os) (started : os.Started) (H : Type) (enc : TypeId × Value → H) (F : Stop.Interp) :
    ReturnsInHanded {} Tryz.checked os 5 .any ((OpenSpec.ofChange Rows.topNearSpec).preRow enc Tryz.prog Tryz.f5 Rows.topNearRow.domain false Rows.topNearRow.laid) (((OpenSpec.ofChange Rows.topNearSpec).at F).post enc Tryz.prog Tryz.f5 false true false false) := by
  obtain ⟨places, hx⟩ := reads os enc
  refine returnsInHanded_of_row (C := Tryz.checked) (s := OpenSpec.ofChange Rows.topNearSpec) own started (by kernel_rfl) Tryz.func5
    (witness_row_at (enc := enc) (C := Tryz.checked) false (laidWorld0 os) #[.agg #[.string ⟨#[]⟩, .slice none 0 0, .int .i64 0, .int .i64 0, .int .i64 0, .int .i64 0, .int .i64 0, .int .i64 0, .int .i64 0, .slice none 0 0, .slice none 0 0, .slice none 0 0, .int .i64 0, .int .i64 0]] rfl (by kernel_rfl) (by kernel_rfl) (by kernel_rfl)
      (OpenSpec.preRow_of_cond 8 hx (by kernel_rfl) (fun k hk => by cases hk) (by kernel_rfl) (laid_met os))) ?_
  (intro W base args ds gs before hval hW _ _ _ hL _ _); (exact contract H enc W base args ds gs before hval hW hL)
theorem said : Rows.TopNearSaid :=
  OpenClaim.holds_of_cond 5 Tryz.f5 rfl rfl rfl rfl rfl rfl rfl ⟨rfl, rfl, rfl, rfl, rfl⟩ rfl rfl rfl rfl rfl (by kernel_rfl) Tryz.func5 (by kernel_rfl)
    (of_decide_eq_true (by kernel_rfl)) (by unfold Func.isWrapper; first | (rw [if_pos (by decide +kernel)]; kernel_rfl) | (rw [if_neg (by decide +kernel)]; exact ⟨rfl, rfl⟩))
    (fun os started H enc _ F => by rw [OpenClaim.pre_eq_preRow]; exact lifted os started H enc F)
#print axioms said
end Go.Proofs.YtaobaaaihgahfaaGreat.topNear
