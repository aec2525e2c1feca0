/- electionref36.SameDigests of equal lists (printed by gen_samed.py). -/
import Derived.Test.YtggcbjchnefhfaaDoorSliceD
import Derived.Test.YtggcbjchnefhfaaDoorFind2
namespace Go.Proofs.YtggcbjchnefhfaaDoor
open Go.RowKit Go.Mk Go.Sha Go.Cmt
set_option maxRecDepth 100000 in
set_option maxHeartbeats 4000000 in
theorem samed_any (v v' : Value) (ds : List (List UInt8)) (w : World) (hn : ds.length ≤ 1000000) (hr : RdD w v ds) (hr' : RdD w v' ds) :
    Calls Tryd.prog 12 #[v, v'] w fun e w' => e = .returned (.bool true) ∧ Kept no w w' := by
  obtain ⟨ao, cap, rfl⟩ := Rd.shapeZ hr.2
  obtain ⟨ao', cap', rfl⟩ := Rd.shapeZ hr'.2
  obtain ⟨n, hlen⟩ : ∃ n, ds.length = n := ⟨_, rfl⟩
  rw [hlen] at hn hr hr' ⊢
  replace hlen := hid hlen
  replace hr := hid hr
  replace hr' := hid hr'
  have hun := Tryd.underlying43
  go_enter Tryd.func12, Tryd.ntmps12
  go_wp2
  go_loopw [5] (fun i wr => ∃ k : Nat, k ≤ n ∧ i = .int .i64 (k : Int) ∧ Hd (Kept no w wr)) (fun i _ => n - (intOf i).toNat)
  case atStart => exact ⟨0, by omega, rfl, ⟨Kept.refl _ _⟩⟩
  case round =>
    obtain ⟨k, hk, rfl, hK⟩ := hrel
    by_cases hlt : k < n
    · have hk1 : (k : Int) < (n : Int) := by omega
      have hk0 : (0 : Int) ≤ (k : Int) := by omega
      obtain ⟨b, o, rfl, hrg⟩ := RdD.at (hr.out.kept hK.out) k (by rw [hlen.out]; exact hlt)
      obtain ⟨b', o', rfl, hrg'⟩ := RdD.at (hr'.out.kept hK.out) k (by rw [hlen.out]; exact hlt)
      have hX : (ds.getD k []).length = 32 := hr.out.1 _ (by rw [List.getD_eq_getElem?_getD, List.getElem?_eq_getElem (by rw [hlen.out]; exact hlt)]; simp)
      have hne : Hd (∀ w, (binOp .neq 43 (.agg ((ds.getD k []).map B).toArray) (.agg ((ds.getD k []).map B).toArray)).run Tryd.prog w = .ok (.bool false) w) := ⟨fun w => by rw [neq_digest (ds.getD k []) (ds.getD k []) hX hX w]; simp⟩
      generalize ds.getD k [] = X at hrg hrg' hX hne
      obtain ⟨M, hM⟩ : ∃ M, X.map B = M := ⟨_, rfl⟩
      rw [hM] at hrg hrg' hne
      have infM : Hd ((Tryd.prog.info? 43).map (·.size) = some M.length) := ⟨by rw [← hM, List.length_map, hX]; kernel_rfl⟩
      replace hrg := hid hrg
      replace hrg' := hid hrg'
      have hne1 := hne.out
      clear hM hX
      go_upto_region 6 with fail
      refine region_flow (S := no) (Sl := (fun _ => no)) [Is (.slice (some ⟨b, o, none⟩) n cap), Is (.int .i64 (k : Int)), Is (.pointer (some ⟨b, o + k * 32, none⟩)), Is (.agg M.toArray), Is (.slice (some ⟨b', o', none⟩) n cap'), Is (.int .i64 (k : Int)), Is (.pointer (some ⟨b', o' + k * 32, none⟩)), Is (.agg M.toArray), Is (.bool false)] [] (fun _ _ h => h) _ (by kernel_rfl) (by kernel_rfl) (by kernel_rfl) (by kernel_rfl) (fun x => by simp only [puts, Act.put, List.map_cons, List.map_nil, Nat.zero_add, Nat.reduceAdd, List.setIfInBounds_toArray, List.set_cons_zero, List.set_cons_succ]; exact rfl) ?_ ?_
      · skip
        refine Steps.cons (fun x wf Kk hq hdep hold => ?_) ?_
        · try dsimp only
          clear hq hdep hold
          rw [if_pos (by rfl)]
          refine OpY.val (v := (.slice (some ⟨b, o, none⟩) n cap)) ?_ ⟨Kept.refl _ _, rfl⟩
          first | rfl | go_simp
        refine Steps.cons (fun x wf Kk hq hdep hold => ?_) ?_
        · try dsimp only
          clear hq hdep hold
          rw [if_pos (by rfl)]
          refine OpY.val (v := (.int .i64 (k : Int))) ?_ ⟨Kept.refl _ _, rfl⟩
          first | rfl | go_simp
        refine Steps.cons (fun x wf Kk hq hdep hold => ?_) ?_
        · try dsimp only
          have h0 : x 0 = (.slice (some ⟨b, o, none⟩) n cap) := hdep 0 (by kernel_rfl)
          have h1 : x 1 = (.int .i64 (k : Int)) := hdep 1 (by kernel_rfl)
          clear hq hdep hold
          simp only [h0, h1]
          clear h0 h1
          rw [if_pos (by rfl)]
          refine OpY.val (v := (.pointer (some ⟨b, o + k * 32, none⟩))) ?_ ⟨Kept.refl _ _, rfl⟩
          first | rfl | go_simp
        refine Steps.cons (fun x wf Kk hq hdep hold => ?_) ?_
        · try dsimp only
          have h2 : x 2 = (.pointer (some ⟨b, o + k * 32, none⟩)) := hdep 2 (by kernel_rfl)
          clear hq hdep hold
          simp only [h2]
          clear h2
          rw [if_pos (by rfl)]
          exact OpY.row 43 _ rfl b (o + k * 32) rfl M _ (Kk.undrew.rng hrg.out) hun rfl infM.out ⟨Kept.refl _ _, rfl⟩
        refine Steps.cons (fun x wf Kk hq hdep hold => ?_) ?_
        · try dsimp only
          clear hq hdep hold
          rw [if_pos (by rfl)]
          refine OpY.val (v := (.slice (some ⟨b', o', none⟩) n cap')) ?_ ⟨Kept.refl _ _, rfl⟩
          first | rfl | go_simp
        refine Steps.cons (fun x wf Kk hq hdep hold => ?_) ?_
        · try dsimp only
          clear hq hdep hold
          rw [if_pos (by rfl)]
          refine OpY.val (v := (.int .i64 (k : Int))) ?_ ⟨Kept.refl _ _, rfl⟩
          first | rfl | go_simp
        refine Steps.cons (fun x wf Kk hq hdep hold => ?_) ?_
        · try dsimp only
          have h4 : x 4 = (.slice (some ⟨b', o', none⟩) n cap') := hdep 4 (by kernel_rfl)
          have h5 : x 5 = (.int .i64 (k : Int)) := hdep 5 (by kernel_rfl)
          clear hq hdep hold
          simp only [h4, h5]
          clear h4 h5
          rw [if_pos (by rfl)]
          refine OpY.val (v := (.pointer (some ⟨b', o' + k * 32, none⟩))) ?_ ⟨Kept.refl _ _, rfl⟩
          first | rfl | go_simp
        refine Steps.cons (fun x wf Kk hq hdep hold => ?_) ?_
        · try dsimp only
          have h6 : x 6 = (.pointer (some ⟨b', o' + k * 32, none⟩)) := hdep 6 (by kernel_rfl)
          clear hq hdep hold
          simp only [h6]
          clear h6
          rw [if_pos (by rfl)]
          exact OpY.row 43 _ rfl b' (o' + k * 32) rfl M _ (Kk.undrew.rng hrg'.out) hun rfl infM.out ⟨Kept.refl _ _, rfl⟩
        refine Steps.cons (fun x wf Kk hq hdep hold => ?_) ?_
        · try dsimp only
          have h3 : x 3 = (.agg M.toArray) := hdep 3 (by kernel_rfl)
          have h7 : x 7 = (.agg M.toArray) := hdep 7 (by kernel_rfl)
          clear hq hdep hold
          simp only [h3, h7]
          clear h3 h7
          rw [if_pos (by rfl)]
          refine OpY.val (v := .bool false) ?_ ⟨Kept.refl _ _, rfl⟩
          go_simp
        exact Steps.nil _
      · intro x wf Kk hv
        try dsimp only
        have h0 : x 0 = (.slice (some ⟨b, o, none⟩) n cap) := hv 0 (by kernel_rfl)
        have h1 : x 1 = (.int .i64 (k : Int)) := hv 1 (by kernel_rfl)
        have h2 : x 2 = (.pointer (some ⟨b, o + k * 32, none⟩)) := hv 2 (by kernel_rfl)
        have h3 : x 3 = (.agg M.toArray) := hv 3 (by kernel_rfl)
        have h4 : x 4 = (.slice (some ⟨b', o', none⟩) n cap') := hv 4 (by kernel_rfl)
        have h5 : x 5 = (.int .i64 (k : Int)) := hv 5 (by kernel_rfl)
        have h6 : x 6 = (.pointer (some ⟨b', o' + k * 32, none⟩)) := hv 6 (by kernel_rfl)
        have h7 : x 7 = (.agg M.toArray) := hv 7 (by kernel_rfl)
        have h8 : x 8 = (.bool false) := hv 8 (by kernel_rfl)
        clear hv
        simp only [h0, h1, h2, h3, h4, h5, h6, h7, h8]
        clear h0 h1 h2 h3 h4 h5 h6 h7 h8
        have hK2 := hid (hK.out.trans' Kk.undrew)
        clear Kk hK hne hne1 hrg hrg' infM
        go_wp2
        go_roundw
        case rel => first | exact ⟨k + 1, by omega, by go_num, hK2⟩ | ((repeat apply Exists.intro); exact ⟨⟨k + 1, by omega, by go_num, hK2⟩, rfl⟩)
        case measure => simp [intOf]; omega
    · obtain rfl : k = n := by omega
      go_wp2
      go_ret
      exact ⟨rfl, hK.out⟩
end Go.Proofs.YtggcbjchnefhfaaDoor
