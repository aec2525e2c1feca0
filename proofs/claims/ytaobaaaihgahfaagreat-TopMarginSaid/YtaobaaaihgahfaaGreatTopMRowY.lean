/- TopMargin answers true for every input: if fewer ballots are replaced than a certificate claims, the winner by instant runoff stays the same; no condition. -/
import Derived.Test.YtaobaaaihgahfaaGreatTopMY
import Derived.Test.YtaobaaaihgahfaaGreatReadY
import Derived.Carry
import Derived.Deep.DeepLaidRun
namespace Go.Proofs.YtaobaaaihgahfaaGreat.topMargin
open Go.ChangeShapes Go.WideShapes Go.ChangeAt Go.RowKit Go.Mk Go.Pil Go.Tp
theorem laidOut : laidOutB Tryz.prog = true := by kernel_rfl
set_option maxRecDepth 100000 in
theorem contract (H : Type) (enc : TypeId × Value → H) (W : World) (base : Nat) (args : Array Value) (ds gs : List (DataW H)) (before : List MemPlace)
    (hval0 : ∀ (j : Nat) t v, Tryz.f3.params[j]? = some t → args[j]? = some v → Value.okWide Tryz.prog W .any base t v)
    (hW : DataW.Whole enc Tryz.prog Tryz.f3.params.toList Rows.topMarginSpec.vars false W args.toList ds gs before) (_hL : laidMetH Tryz.prog Rows.topMarginRow.laid W) :
    Calls Tryz.prog 3 args W fun e W' => ∃ v, e = .returned v ∧ Rows.topMarginSpec.post enc Tryz.prog Tryz.f3 false true false false W args v W' := by
  (have hW' := hW); (obtain ⟨p, q, hA0, hV, rfl, hfz, hnd⟩ := hW); (have hA : DataW.TrodAll enc Tryz.prog W 0 (fun _ => true) true Tryz.f3.params.toList args.toList ds p := hA0); (rw [Tryz.params3] at hA); (have hval := hval0); (rw [Tryz.params3] at hval); (clear hval0); (obtain ⟨v0, v1, d0, d1, p0, p1, rfl, rfl, rfl, h0, h1⟩ := trAll2 hA); (obtain ⟨rfl, rfl⟩ := trodVars_none hV); (clear hA0 hA); (have hlt0 : ∀ x ∈ p0, x.block < W.heap.size := fun x hx => by have := hW'.lt x (by simp [hx]); simpa using this); (have h0k := h0); (obtain ⟨X0, ba0, bb0, lz0, rfl, hn0, ha0, rA0, rB0, rL0⟩ := piles_read (hval 0 28 v0 rfl rfl) h0); (have hlt1 : ∀ x ∈ p1, x.block < W.heap.size := fun x hx => by have := hW'.lt x (by simp [hx]); simpa using this); (have h1k := h1); (obtain ⟨n1, rfl, lx1⟩ := int_read (hval 1 3 v1 rfl rfl) h1); (refine (topmargin_any X0 n1 ba0 bb0 lz0 W hn0 ha0 rA0 rB0 rL0).mono fun e W' ⟨he, hk⟩ => ?_); (subst he)
  exact ⟨_, rfl, _, _, _, [], _, [], hW', trodAll_cons_mk (shut_bool Tryz.underlying4 _) trodAll_mk0,
    trMk2 (Below.trod laidOut (by kernel_rfl) (of_decide_eq_true (by kernel_rfl)) h0k hk.below hlt0) (Below.trod laidOut (by kernel_rfl) (of_decide_eq_true (by kernel_rfl)) h1k hk.below hlt1), rfl, hk.below.frame _, fun h => by cases h⟩
theorem laid_met (os : Os) : laidMet Tryz.prog Rows.topMarginRow.laid ((laidWorld0 os).forCall (fun _ _ => 0) ⟨#[], #[], []⟩).memory :=
  laidMet_of_run' 8 (by kernel_rfl) (by kernel_rfl)
theorem reads (os : Os) {H : Type} (enc : TypeId × Value → H) : ∃ places, DataW.whole enc Tryz.prog ((laidWorld0 os).forCall (fun _ _ => 0) ⟨#[], #[], []⟩).memory Tryz.f3.params.toList Rows.topMarginSpec.vars false (#[.agg #[.string ⟨#[]⟩, .slice none 0 0, .int .i64 0, .int .i64 0, .int .i64 0, .int .i64 0, .int .i64 0, .int .i64 0, .int .i64 0, .slice none 0 0, .slice none 0 0, .slice none 0 0, .int .i64 0, .int .i64 0], .int .i64 0] : Array Value).toList 8 = some ([.agg [.agg [.lit (.string []), .nil, .lit (.int .i64 0), .lit (.int .i64 0), .lit (.int .i64 0), .lit (.int .i64 0), .lit (.int .i64 0), .lit (.int .i64 0), .lit (.int .i64 0)], .nil, .nil, .nil, .lit (.int .i64 0), .lit (.int .i64 0)], .lit (.int .i64 0)], [], places) :=
  ⟨[], by kernel_rfl⟩
set_option maxRecDepth 100000 in
theorem lifted (os : Os) (started : os.Started) (H : Type) (enc : TypeId × Value → H) (F : Stop.Interp) :
    ReturnsInHanded {} Tryz.checked os 3 .any ((OpenSpec.ofChange Rows.topMarginSpec).preRow enc Tryz.prog Tryz.f3 Rows.topMarginRow.domain false Rows.topMarginRow.laid) (((OpenSpec.ofChange Rows.topMarginSpec).at F).post enc Tryz.prog Tryz.f3 false true false false) := by
  obtain ⟨places, hx⟩ := reads os enc
  refine returnsInHanded_of_row (C := Tryz.checked) (s := OpenSpec.ofChange Rows.topMarginSpec) own started (by kernel_rfl) Tryz.func3
    (witness_row_at (enc := enc) (C := Tryz.checked) false (laidWorld0 os) #[.agg #[.string ⟨#[]⟩, .slice none 0 0, .int .i64 0, .int .i64 0, .int .i64 0, .int .i64 0, .int .i64 0, .int .i64 0, .int .i64 0, .slice none 0 0, .slice none 0 0, .slice none 0 0, .int .i64 0, .int .i64 0], .int .i64 0] rfl (by kernel_rfl) (by kernel_rfl) (by kernel_rfl)
      (OpenSpec.preRow_of_cond 8 hx (by kernel_rfl) (fun k hk => by cases hk) (by kernel_rfl) (laid_met os))) ?_
  (intro W base args ds gs before hval hW _ _ _ hL _ _); (exact contract H enc W base args ds gs before hval hW hL)
theorem said : Rows.TopMarginSaid :=
  OpenClaim.holds_of_cond 3 Tryz.f3 rfl rfl rfl rfl rfl rfl rfl ⟨rfl, rfl, rfl, rfl, rfl⟩ rfl rfl rfl rfl rfl (by kernel_rfl) Tryz.func3 (by kernel_rfl)
    (of_decide_eq_true (by kernel_rfl)) (by unfold Func.isWrapper; first | (rw [if_pos (by decide +kernel)]; kernel_rfl) | (rw [if_neg (by decide +kernel)]; exact ⟨rfl, rfl⟩))
    (fun os started H enc _ F => by rw [OpenClaim.pre_eq_preRow]; exact lifted os started H enc F)
#print axioms said
end Go.Proofs.YtaobaaaihgahfaaGreat.topMargin
