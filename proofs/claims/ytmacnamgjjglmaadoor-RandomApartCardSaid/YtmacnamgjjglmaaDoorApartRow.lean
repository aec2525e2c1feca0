/- RandomApart: for every two seeds (cut to 20 bytes) and every list of turns (the first eight), two sources do not influence each other. The card ties the two tables of round constants to the text of the program. -/
import Derived.Test.YtmacnamgjjglmaaDoorRow
import Derived.Test.YtmacnamgjjglmaaDoorRow2
import Derived.Test.YtmacnamgjjglmaaDoorApart
import Derived.Test.YtmacnamgjjglmaaDoorReadRows
import Derived.Carry
import Derived.Stop.LaidErr
namespace Go.Proofs.YtmacnamgjjglmaaDoor.randomApart
open Go.ChangeShapes Go.WideShapes Go.ChangeAt Go.RowKit Go.Mk Go.Sha
theorem laidOut : laidOutB Tryd.prog = true := by kernel_rfl
theorem tableR {W : World} (h : laidMetH Tryd.prog Rows.randomApartRow.laid W) : TabR W :=
  tabR_of (Lib.tabIs_of_head (rest := [("election/digest.constants", Rows.laid_election_digest_constants)]) gTabR gTabRType Tryd.underlying72 Tryd.underlying62 cells32 cellsTab h)
theorem table {W : World} (h : laidMetH Tryd.prog Rows.randomApartRow.laid W) : Tab W :=
  tab_of (Lib.tabIs_of_head (rest := []) gTab gTabType Tryd.underlying72 Tryd.underlying62 cells32 cellsTab (laidMet.tail (x := ("election/electionref04.k", Rows.laid_election_electionref04_k)) h))
theorem contract (H : Type) (enc : TypeId × Value → H) (W : World) (base : Nat) (args : Array Value) (ds gs : List (DataW H)) (before : List MemPlace)
    (hval0 : ∀ (j : Nat) t v, Tryd.f13.params[j]? = some t → args[j]? = some v → Value.okWide Tryd.prog W .any base t v)
    (hW : DataW.Whole enc Tryd.prog Tryd.f13.params.toList Rows.randomApartSpec.vars false W args.toList ds gs before) (hL : laidMetH Tryd.prog Rows.randomApartRow.laid W) :
    Calls Tryd.prog 13 args W fun e W' => ∃ v, e = .returned v ∧ Rows.randomApartSpec.post enc Tryd.prog Tryd.f13 false true false false W args v W' := by
  have hW' := hW
  obtain ⟨p, q, hA0, hV, rfl, hfz, hnd⟩ := hW
  have hA : DataW.TrodAll enc Tryd.prog W 0 (fun _ => true) true Tryd.f13.params.toList args.toList ds p := hA0
  rw [Tryd.params13] at hA
  have hval := hval0
  rw [Tryd.params13] at hval
  clear hval0
  obtain ⟨v0, v1, v2, d0, d1, d2, p0, p1, p2, rfl, rfl, rfl, h0, h1, h2⟩ := trodAll_three hA
  obtain ⟨rfl, rfl⟩ := trodVars_none hV
  clear hA0 hA
  have hlt0 : ∀ x ∈ p0, x.block < W.heap.size := fun x hx => by have := hW'.lt x (by simp [hx]); simpa using this
  have h0k := h0
  obtain ⟨s0, rfl, lx0⟩ := string_read (hval 0 9 v0 rfl rfl) h0
  have hlt1 : ∀ x ∈ p1, x.block < W.heap.size := fun x hx => by have := hW'.lt x (by simp [hx]); simpa using this
  have h1k := h1
  obtain ⟨s1, rfl, lx1⟩ := string_read (hval 1 9 v1 rfl rfl) h1
  have hlt2 : ∀ x ∈ p2, x.block < W.heap.size := fun x hx => by have := hW'.lt x (by simp [hx]); simpa using this
  have h2k := h2
  obtain ⟨a2, l2, c2, rfl⟩ := okWide_slice Tryd.underlying59 (hval 2 59 v2 rfl rfl)
  obtain ⟨f2, h2⟩ := h2
  obtain ⟨xs2, r2, lx2⟩ := bools_read (v := .slice a2 l2 c2) h2
  refine (apart_any s0 s1 lx0 lx1 _ xs2 W lx2 r2 (table hL) (tableR hL)).mono fun e W' ⟨he, hk⟩ => ?_
  subst he
  exact ⟨_, rfl, _, _, _, [], _, [], hW', trodAll_cons_mk (shut_bool Tryd.underlying4 _) trodAll_mk0,
    trodAll_mk3 (Below.trod laidOut (by kernel_rfl) (of_decide_eq_true (by kernel_rfl)) h0k hk.below hlt0) (Below.trod laidOut (by kernel_rfl) (of_decide_eq_true (by kernel_rfl)) h1k hk.below hlt1) (Below.trod laidOut (by kernel_rfl) (of_decide_eq_true (by kernel_rfl)) h2k hk.below hlt2), rfl, hk.below.frame _, fun h => by cases h⟩
theorem laid_met (os : Os) : laidMet Tryd.prog Rows.randomApartRow.laid ((laidWorld2 os).forCall (fun _ _ => 0) ⟨#[], #[], []⟩).memory :=
  laidMet_of_run' 8 (by kernel_rfl) (by kernel_rfl)
theorem reads (os : Os) {H : Type} (enc : TypeId × Value → H) : ∃ places, DataW.whole enc Tryd.prog ((laidWorld2 os).forCall (fun _ _ => 0) ⟨#[], #[], []⟩).memory Tryd.f13.params.toList Rows.randomApartSpec.vars false (#[.string ⟨#[]⟩, .string ⟨#[]⟩, .slice none 0 0] : Array Value).toList 8 = some ([.lit (.string []), .lit (.string []), .nil], [], places) :=
  ⟨[], by kernel_rfl⟩
set_option maxRecDepth 100000 in
theorem lifted (os : Os) (started : os.Started) (H : Type) (enc : TypeId × Value → H) (F : Stop.Interp) :
    ReturnsInHanded {} Tryd.checked os 13 .any ((OpenSpec.ofChange Rows.randomApartSpec).preRow enc Tryd.prog Tryd.f13 Rows.randomApartRow.domain false Rows.randomApartRow.laid) (((OpenSpec.ofChange Rows.randomApartSpec).at F).post enc Tryd.prog Tryd.f13 false true false false) := by
  obtain ⟨places, hx⟩ := reads os enc
  refine returnsInHanded_of_row (C := Tryd.checked) (s := OpenSpec.ofChange Rows.randomApartSpec) own started (by kernel_rfl) Tryd.func13
    (witness_row_at (enc := enc) (C := Tryd.checked) false (laidWorld2 os) #[.string ⟨#[]⟩, .string ⟨#[]⟩, .slice none 0 0] rfl (by kernel_rfl) (by kernel_rfl) (by kernel_rfl)
      (OpenSpec.preRow_of_cond 8 hx (by kernel_rfl) (fun k hk => by cases hk) (by kernel_rfl) (laid_met os))) ?_
  intro W base args ds gs before hval hW _ _ _ hL _ _
  exact contract H enc W base args ds gs before hval hW hL
theorem said : Rows.RandomApartSaid :=
  OpenClaim.holds_of_cond 13 Tryd.f13 rfl rfl rfl rfl rfl rfl rfl ⟨rfl, rfl, rfl, rfl, rfl⟩ rfl rfl rfl rfl rfl (by kernel_rfl) Tryd.func13 (by kernel_rfl)
    (of_decide_eq_true (by kernel_rfl)) (by unfold Func.isWrapper; first | (rw [if_pos (by decide +kernel)]; kernel_rfl) | (rw [if_neg (by decide +kernel)]; exact ⟨rfl, rfl⟩))
    (fun os started H enc _ F => by rw [OpenClaim.pre_eq_preRow]; exact lifted os started H enc F)
theorem plain (f : FuncId) (fn : Func) (hf : Tryd.pinned.checked.prog.funcNamed "election/electionlaw05.RandomApart" = some f) (hfn : Tryd.pinned.checked.prog.funcs[f]? = some fn) :
    false = Tryd.pinned.checked.prog.looks [] ∧ ∀ (j : Nat) t, fn.params[j]? = some t → Tryd.pinned.checked.prog.wantsStandIn t = false := by
  obtain rfl : f = 13 := Option.some.inj ((show Tryd.prog.funcNamed "election/electionlaw05.RandomApart" = some 13 by kernel_rfl).symm.trans hf) |>.symm
  obtain rfl : fn = Tryd.f13 := (Option.some.inj (Tryd.func13.symm.trans hfn)).symm
  have st_bools : Tryd.prog.wantsStandIn 59 = false := by kernel_rfl
  have st_string : Tryd.prog.wantsStandIn 9 = false := by kernel_rfl
  refine ⟨by kernel_rfl, fun j t ht => ?_⟩
  rw [Tryd.params13] at ht
  match j, ht with
  | 0, ht => exact (Option.some.inj ht) ▸ st_string
  | 1, ht => exact (Option.some.inj ht) ▸ st_string
  | 2, ht => exact (Option.some.inj ht) ▸ st_bools
  | j + 3, ht => simp at ht
theorem card : Rows.RandomApartCardSaid :=
  Claim7.holds_tied_plain_at .later [] _ _ _ _ said (fun _ h => by cases h) (by kernel_rfl) (fun _ h => by cases h) randomApart_row_tie rfl ⟨rfl, rfl⟩ (by kernel_rfl) rfl plain (by kernel_rfl)
#print axioms card
end Go.Proofs.YtmacnamgjjglmaaDoor.randomApart
