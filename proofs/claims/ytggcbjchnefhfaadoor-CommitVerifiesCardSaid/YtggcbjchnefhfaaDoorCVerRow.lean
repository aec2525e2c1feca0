/- electionlaw38.CommitVerifies: each item that is not a phantom can be opened, for every input (the row and the card). -/
import Derived.Test.YtggcbjchnefhfaaDoorRow
import Derived.Test.YtggcbjchnefhfaaDoorRow2
import Derived.Test.YtggcbjchnefhfaaDoorCVerL
import Derived.Test.YtggcbjchnefhfaaDoorReadPl
import Derived.Carry
import Derived.Stop.LaidErr
namespace Go.Proofs.YtggcbjchnefhfaaDoor.commitVerifies
open Go.ChangeShapes Go.WideShapes Go.ChangeAt Go.RowKit Go.Mk Go.Sha
theorem laidOut : laidOutB Tryd.prog = true := by kernel_rfl
theorem tableR {W : World} (h : laidMetH Tryd.prog Rows.commitVerifiesRow.laid W) : TabR W :=
  tabR_of (Lib.tabIs_of_head (rest := [("election/digest.constants", Rows.laid_election_digest_constants)]) gTabR gTabRType Tryd.underlying92 Tryd.underlying77 cells32 cellsTab h)
theorem table {W : World} (h : laidMetH Tryd.prog Rows.commitVerifiesRow.laid W) : Tab W :=
  tab_of (Lib.tabIs_of_head (rest := []) gTab gTabType Tryd.underlying92 Tryd.underlying77 cells32 cellsTab (laidMet.tail (x := ("election/electionref04.k", Rows.laid_election_electionref04_k)) h))
set_option maxRecDepth 100000 in
theorem contract (H : Type) (enc : TypeId × Value → H) (W : World) (base : Nat) (args : Array Value) (ds gs : List (DataW H)) (before : List MemPlace)
    (hval0 : ∀ (j : Nat) t v, Tryd.f5.params[j]? = some t → args[j]? = some v → Value.okWide Tryd.prog W .any base t v)
    (hW : DataW.Whole enc Tryd.prog Tryd.f5.params.toList Rows.commitVerifiesSpec.vars false W args.toList ds gs before) (hL : laidMetH Tryd.prog Rows.commitVerifiesRow.laid W) :
    Calls Tryd.prog 5 args W fun e W' => ∃ v, e = .returned v ∧ Rows.commitVerifiesSpec.post enc Tryd.prog Tryd.f5 false true false false W args v W' := by
  have hW' := hW
  obtain ⟨p, q, hA0, hV, rfl, hfz, hnd⟩ := hW
  have hA : DataW.TrodAll enc Tryd.prog W 0 (fun _ => true) true Tryd.f5.params.toList args.toList ds p := hA0
  rw [Tryd.params5] at hA
  have hval := hval0
  rw [Tryd.params5] at hval
  clear hval0
  obtain ⟨v0, v1, v2, v3, v4, d0, d1, d2, d3, d4, p0, p1, p2, p3, p4, rfl, rfl, rfl, h0, h1, h2, h3, h4⟩ := trAll5 hA
  obtain ⟨rfl, rfl⟩ := trodVars_none hV
  clear hA0 hA
  have hlt0 : ∀ x ∈ p0, x.block < W.heap.size := fun x hx => by have := hW'.lt x (by simp [hx]); simpa using this
  have h0k := h0
  obtain ⟨s0, rfl, lx0⟩ := string_read (hval 0 9 v0 rfl rfl) h0
  have hlt1 : ∀ x ∈ p1, x.block < W.heap.size := fun x hx => by have := hW'.lt x (by simp [hx]); simpa using this
  have h1k := h1
  obtain ⟨n1, rfl, lx1⟩ := int_read (hval 1 3 v1 rfl rfl) h1
  have hlt2 : ∀ x ∈ p2, x.block < W.heap.size := fun x hx => by have := hW'.lt x (by simp [hx]); simpa using this
  have h2k := h2
  obtain ⟨n2, rfl, lx2⟩ := int_read (hval 2 3 v2 rfl rfl) h2
  have hlt3 : ∀ x ∈ p3, x.block < W.heap.size := fun x hx => by have := hW'.lt x (by simp [hx]); simpa using this
  have h3k := h3
  obtain ⟨a3, l3, c3, rfl⟩ := okWide_slice Tryd.underlying22 (hval 3 22 v3 rfl rfl)
  obtain ⟨f3, h3⟩ := h3
  obtain ⟨xs3, r3, lx3⟩ := Pl.ballots_read (v := .slice a3 l3 c3) h3
  have hlt4 : ∀ x ∈ p4, x.block < W.heap.size := fun x hx => by have := hW'.lt x (by simp [hx]); simpa using this
  have h4k := h4
  obtain ⟨a4, l4, c4, rfl⟩ := okWide_slice Tryd.underlying23 (hval 4 23 v4 rfl rfl)
  obtain ⟨f4, h4⟩ := h4
  obtain ⟨xs4, r4, lx4⟩ := Pl.flags_read (v := .slice a4 l4 c4) h4
  refine (cver_any s0 n1 n2 (.slice a3 l3 c3) (.slice a4 l4 c4) xs3 xs4 W lx0 r3 r4 (table hL) (tableR hL)).mono fun e W' ⟨he, hk⟩ => ?_
  subst he
  exact ⟨_, rfl, _, _, _, [], _, [], hW', trodAll_cons_mk (shut_bool Tryd.underlying4 _) trodAll_mk0,
    trMk5 (Below.trod laidOut (by kernel_rfl) (of_decide_eq_true (by kernel_rfl)) h0k hk.below hlt0) (Below.trod laidOut (by kernel_rfl) (of_decide_eq_true (by kernel_rfl)) h1k hk.below hlt1) (Below.trod laidOut (by kernel_rfl) (of_decide_eq_true (by kernel_rfl)) h2k hk.below hlt2) (Below.trod laidOut (by kernel_rfl) (of_decide_eq_true (by kernel_rfl)) h3k hk.below hlt3) (Below.trod laidOut (by kernel_rfl) (of_decide_eq_true (by kernel_rfl)) h4k hk.below hlt4), rfl, hk.below.frame _, fun h => by cases h⟩
theorem laid_met (os : Os) : laidMet Tryd.prog Rows.commitVerifiesRow.laid ((laidWorld2 os).forCall (fun _ _ => 0) ⟨#[], #[], []⟩).memory :=
  laidMet_of_run' 8 (by kernel_rfl) (by kernel_rfl)
theorem reads (os : Os) {H : Type} (enc : TypeId × Value → H) : ∃ places, DataW.whole enc Tryd.prog ((laidWorld2 os).forCall (fun _ _ => 0) ⟨#[], #[], []⟩).memory Tryd.f5.params.toList Rows.commitVerifiesSpec.vars false (#[.string ⟨#[]⟩, .int .i64 0, .int .i64 0, .slice none 0 0, .slice none 0 0] : Array Value).toList 8 = some ([.lit (.string []), .lit (.int .i64 0), .lit (.int .i64 0), .nil, .nil], [], places) :=
  ⟨[], by kernel_rfl⟩
set_option maxRecDepth 100000 in
theorem lifted (os : Os) (started : os.Started) (H : Type) (enc : TypeId × Value → H) (F : Stop.Interp) :
    ReturnsInHanded {} Tryd.checked os 5 .any ((OpenSpec.ofChange Rows.commitVerifiesSpec).preRow enc Tryd.prog Tryd.f5 Rows.commitVerifiesRow.domain false Rows.commitVerifiesRow.laid) (((OpenSpec.ofChange Rows.commitVerifiesSpec).at F).post enc Tryd.prog Tryd.f5 false true false false) := by
  obtain ⟨places, hx⟩ := reads os enc
  refine returnsInHanded_of_row (C := Tryd.checked) (s := OpenSpec.ofChange Rows.commitVerifiesSpec) own started (by kernel_rfl) Tryd.func5
    (witness_row_at (enc := enc) (C := Tryd.checked) false (laidWorld2 os) #[.string ⟨#[]⟩, .int .i64 0, .int .i64 0, .slice none 0 0, .slice none 0 0] rfl (by kernel_rfl) (by kernel_rfl) (by kernel_rfl)
      (OpenSpec.preRow_of_cond 8 hx (by kernel_rfl) (fun k hk => by cases hk) (by kernel_rfl) (laid_met os))) ?_
  intro W base args ds gs before hval hW _ _ _ hL _ _
  exact contract H enc W base args ds gs before hval hW hL
theorem said : Rows.CommitVerifiesSaid :=
  OpenClaim.holds_of_cond 5 Tryd.f5 rfl rfl rfl rfl rfl rfl rfl ⟨rfl, rfl, rfl, rfl, rfl⟩ rfl rfl rfl rfl rfl (by kernel_rfl) Tryd.func5 (by kernel_rfl)
    (of_decide_eq_true (by kernel_rfl)) (by unfold Func.isWrapper; first | (rw [if_pos (by decide +kernel)]; kernel_rfl) | (rw [if_neg (by decide +kernel)]; exact ⟨rfl, rfl⟩))
    (fun os started H enc _ F => by rw [OpenClaim.pre_eq_preRow]; exact lifted os started H enc F)
theorem plain (f : FuncId) (fn : Func) (hf : Tryd.pinned.checked.prog.funcNamed "election/electionlaw38.CommitVerifies" = some f) (hfn : Tryd.pinned.checked.prog.funcs[f]? = some fn) :
    false = Tryd.pinned.checked.prog.looks [] ∧ ∀ (j : Nat) t, fn.params[j]? = some t → Tryd.pinned.checked.prog.wantsStandIn t = false := by
  obtain rfl : f = 5 := Option.some.inj ((show Tryd.prog.funcNamed "election/electionlaw38.CommitVerifies" = some 5 by kernel_rfl).symm.trans hf) |>.symm
  obtain rfl : fn = Tryd.f5 := (Option.some.inj (Tryd.func5.symm.trans hfn)).symm
  have st_ballots : Tryd.prog.wantsStandIn 22 = false := by kernel_rfl
  have st_flags : Tryd.prog.wantsStandIn 23 = false := by kernel_rfl
  have st_int : Tryd.prog.wantsStandIn 3 = false := by kernel_rfl
  have st_string : Tryd.prog.wantsStandIn 9 = false := by kernel_rfl
  refine ⟨by kernel_rfl, fun j t ht => ?_⟩
  rw [Tryd.params5] at ht
  match j, ht with
  | 0, ht => exact (Option.some.inj ht) ▸ st_string
  | 1, ht => exact (Option.some.inj ht) ▸ st_int
  | 2, ht => exact (Option.some.inj ht) ▸ st_int
  | 3, ht => exact (Option.some.inj ht) ▸ st_ballots
  | 4, ht => exact (Option.some.inj ht) ▸ st_flags
  | j + 5, ht => simp at ht
theorem card : Rows.CommitVerifiesCardSaid :=
  Claim7.holds_tied_plain_at .later [] _ _ _ _ said (fun _ h => by cases h) (by kernel_rfl) (fun _ h => by cases h) commitVerifies_row_tie rfl ⟨rfl, rfl⟩ (by kernel_rfl) rfl plain (by kernel_rfl)
#print axioms card
end Go.Proofs.YtggcbjchnefhfaaDoor.commitVerifies
