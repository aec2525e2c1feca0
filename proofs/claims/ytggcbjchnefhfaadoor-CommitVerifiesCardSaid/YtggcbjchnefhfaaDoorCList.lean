/- commit.List (printed by gen_clist.py). -/
import Derived.Test.YtggcbjchnefhfaaDoorDSort
import Derived.Test.YtggcbjchnefhfaaDoorSliceD
import Derived.Test.YtggcbjchnefhfaaDoorCmtSalt
namespace Go.Proofs.YtggcbjchnefhfaaDoor
open Go.RowKit Go.Mk Go.Sha Go.Cmt
set_option maxRecDepth 100000 in
set_option maxHeartbeats 4000000 in
theorem clist_any (s : ByteArray) (c : Int) (v : Value) (l : List (Itm × Value)) (w : World) (hs : s.size ≤ 1000) (hn : l.length ≤ 1024) (hp : ∀ x ∈ l, x.1.pr.length ≤ 1000) (hr : RdI w v l) (hT : Tab w) :
    Calls Tryd.prog 10 #[.string s, .int .i64 c, v] w fun e w' => ∃ v', e = .returned (.tuple #[v', .int .i64 0]) ∧ OwD w w' v' (sortD (coms s.data.toList c (itms l))) := by
  obtain ⟨ao, cap, rfl⟩ := Rd.shapeZ hr.2
  obtain ⟨n, hlen⟩ : ∃ n, l.length = n := ⟨_, rfl⟩
  rw [hlen] at hn
  have hn1 : ¬ (1024 : Int) < (n : Int) := by omega
  rw [hlen] at hr ⊢
  replace hlen := hid hlen
  replace hr := hid hr
  replace hT := hid hT
  replace hp := hid hp
  go_enter Tryd.func10, Tryd.ntmps10
  go_wp2
  go_loopw [8, 16] (fun out i wr => ∃ (k : Nat) (ds : List (List UInt8)), k ≤ n ∧ i = .int .i64 (k : Int) ∧ Hd (ds.length ≤ k) ∧ Hd (ds = coms s.data.toList c (itms (l.take k))) ∧ Hd (OwD w wr out ds)) (fun _ i _ => n - (intOf i).toNat)
  case atStart => exact ⟨0, [], by omega, rfl, ⟨Nat.le_refl _⟩, ⟨rfl⟩, ⟨OwD.nil w⟩⟩
  case round =>
    obtain ⟨k, ds, hk, rfl, hdk, hds, hO⟩ := hrel
    by_cases hlt : k < n
    · have hk1 : (k : Int) < (n : Int) := by omega
      have hk0 : (0 : Int) ≤ (k : Int) := by omega
      obtain ⟨b, o, it, vx, rfl, hel, c0, c1, c2, c3, c4, hz⟩ := (hr.out.kept hO.out.kept).at k (by rw [hlen.out]; exact hlt)
      have hpx : Hd (it.pr.length ≤ 1000) := ⟨by have := hp.out _ (List.getElem_mem (show k < l.length by rw [hlen.out]; exact hlt)); rwa [hel] at this⟩
      obtain ⟨av, lv, cv, rfl⟩ : ∃ a l c, vx = .slice a l c := by obtain ⟨_, a, c, e, _⟩ := hz; exact ⟨a, _, c, e⟩
      have hnx : Hd (coms s.data.toList c (itms (l.take (k + 1))) = ds ++ if it.ph then [] else [com s.data.toList c it]) := ⟨by
        rw [List.take_succ_eq_append_getElem (by rw [hlen.out]; exact hlt), hel]
        unfold itms; rw [List.map_append, hds.out]; exact coms_snoc _ _ _ it⟩
      replace hz := hid hz
      clear hel
      by_cases hph : it.ph = true
      · rw [hph] at c3
        have hO1 : Hd (OwD w (wr.alloc (.cells #[.int .i64 it.s, .int .i64 it.b, .int .i64 it.p, .bool true, .slice av lv cv] 33)) u8 ds) := ⟨hO.out.keptNo ((Kept.refl no wr).alloc _)⟩
        have hd1 : Hd (ds = coms s.data.toList c (itms (l.take (k + 1)))) := ⟨by rw [hnx.out, hph]; simp⟩
        have hdk1 : Hd (ds.length ≤ k + 1) := ⟨Nat.le_succ_of_le hdk.out⟩
        clear hO hds hdk hnx hph hz
        go_wp2
        refine ⟨?_, by simp [intOf]; omega⟩
        exact ⟨k + 1, ds, by omega, by go_num, hdk1, hd1, hO1⟩
      · have hph : it.ph = false := by simpa using hph
        rw [hph] at c3
        obtain ⟨C, hC⟩ : ∃ C, com s.data.toList c it = C := ⟨_, rfl⟩
        have hC32 : Hd (C.length = 32) := ⟨by rw [← hC]; exact com_length _ _ _⟩
        have hd1 : Hd (ds ++ [C] = coms s.data.toList c (itms (l.take (k + 1)))) := ⟨by rw [hnx.out, hph, hC]; simp⟩
        obtain ⟨S, hS⟩ : ∃ S, saltD s.data.toList [c, it.s, it.b, it.p] = S := ⟨_, rfl⟩
        have hS32 : S.length = 32 := by rw [← hS]; exact salt_length _ _
        obtain ⟨Ls, hLs⟩ : ∃ L, S.map B = L := ⟨_, rfl⟩
        obtain ⟨Lc, hLc⟩ : ∃ L, C.map B = L := ⟨_, rfl⟩
        have HS : Hd (∀ w, Tab w → Calls Tryd.prog 15 #[.string s, .int .i64 c, .agg #[.int .i64 it.s, .int .i64 it.b, .int .i64 it.p]] w fun e w' => e = .returned (.agg Ls.toArray) ∧ Kept no w w') := ⟨fun w h => by rw [← hLs, ← hS]; exact salt_any s c it.s it.b it.p w (by omega) h⟩
        have HO : Hd (∀ w, RdZ w (.slice av lv cv) it.pr → Tab w → Calls Tryd.prog 17 #[.agg Ls.toArray, .int .i64 c, .agg #[.int .i64 it.s, .int .i64 it.b, .int .i64 it.p], .slice av lv cv] w fun e w' => e = .returned (.agg Lc.toArray) ∧ Kept no w w') := ⟨fun w h1 h => by
          have := commit_any (.slice av lv cv) S it.pr c it.s it.b it.p w hS32 hpx.out h1 h
          rw [← hLs, ← hLc, ← hC]; rw [← hS] at this ⊢; exact this⟩
        have lLc : Hd (Lc.length = 32) := ⟨by rw [← hLc, List.length_map, hC32.out]⟩
        have oneLc : Hd (∀ u ∈ Lc, u.oneCell' = true) := ⟨by rw [← hLc]; exact B_one _⟩
        have hfill := hid (fill_one Lc lLc.out)
        have hsz : Hd (ds.length + 1 ≤ maxLen ∧ (ds.length + 1) * 32 ≤ 140737488355328) := ⟨by have := hdk.out; have hm : maxLen = 9223372036854775807 := rfl; omega⟩
        have hdk1 : Hd ((ds ++ [C]).length ≤ k + 1) := ⟨by rw [List.length_append]; exact Nat.succ_le_succ hdk.out⟩
        replace hLc := hid hLc
        clear hC hS hLs hS32 hnx hph hds hdk hpx
        go_upto_region 8 with fail
        have h3 : Hd (S3 wr.heap.size it.s it.b it.p (wr.alloc (.cells #[.int .i64 it.s, .int .i64 it.b, .int .i64 it.p, .bool false, .slice av lv cv] 33))) := ⟨⟨cell_of_row _ _ 0 _ _ _ (heap_alloc_new _ _), cell_of_row _ _ 1 _ _ _ (heap_alloc_new _ _), cell_of_row _ _ 2 _ _ _ (heap_alloc_new _ _)⟩⟩
        have h4 : Hd ((wr.alloc (.cells #[.int .i64 it.s, .int .i64 it.b, .int .i64 it.p, .bool false, .slice av lv cv] 33)).cell? ⟨wr.heap.size, 4, none⟩ = some (.slice av lv cv)) := ⟨cell_of_row _ _ 4 _ _ _ (heap_alloc_new _ _)⟩
        have k1 : Kept no wr (wr.alloc (.cells #[.int .i64 it.s, .int .i64 it.b, .int .i64 it.p, .bool false, .slice av lv cv] 33)) := (Kept.refl no wr).alloc _
        have hO1 := hid (hO.out.keptNo k1)
        have hKW := hid (hO.out.kept.trans' k1)
        replace hz := hid (hz.out.kept k1)
        generalize wr.alloc (.cells #[.int .i64 it.s, .int .i64 it.b, .int .i64 it.p, .bool false, .slice av lv cv] 33) = W1 at h3 h4 hO1 hKW hz k1 ⊢
        clear hO c0 c1 c2 c3 c4 k1

        refine region_flow (S := (ob u8)) (Sl := (fun _ => (ob u8))) [Is (u8), Is (.string s), Is (.int .i64 c), Is (.pointer (some ⟨wr.heap.size, 0, none⟩)), Is (.agg #[.int .i64 it.s, .int .i64 it.b, .int .i64 it.p]), Is (.agg Ls.toArray), Is (.int .i64 c), Is (.pointer (some ⟨wr.heap.size, 0, none⟩)), Is (.agg #[.int .i64 it.s, .int .i64 it.b, .int .i64 it.p]), Is (.pointer (some ⟨wr.heap.size, 4, none⟩)), Is (.slice av lv cv), Is (.agg Lc.toArray), RdIs 32 1 Lc, OwDs w (ds ++ [C]), OwDs w (ds ++ [C])] [13] (fun _ _ h => h) _ (by kernel_rfl) (by kernel_rfl) (by kernel_rfl) (by kernel_rfl) (fun x => by simp only [puts, Act.put, List.map_cons, List.map_nil, Nat.zero_add, Nat.reduceAdd, List.setIfInBounds_toArray, List.set_cons_zero, List.set_cons_succ]; exact rfl) ?_ ?_
        · skip
          refine Steps.cons (fun x wf Kk hq hdep hold => ?_) ?_
          · try dsimp only
            have h14 : x 14 = u8 := hold 14 (by kernel_rfl)
            clear hq hdep hold
            simp only [h14]
            clear h14
            rw [if_pos (by rfl)]
            refine OpY.val (v := (u8)) ?_ ⟨Kept.refl _ _, rfl⟩
            first | rfl | go_simp
          refine Steps.cons (fun x wf Kk hq hdep hold => ?_) ?_
          · try dsimp only
            clear hq hdep hold
            rw [if_pos (by rfl)]
            refine OpY.val (v := (.string s)) ?_ ⟨Kept.refl _ _, rfl⟩
            first | rfl | go_simp
          refine Steps.cons (fun x wf Kk hq hdep hold => ?_) ?_
          · try dsimp only
            clear hq hdep hold
            rw [if_pos (by rfl)]
            refine OpY.val (v := (.int .i64 c)) ?_ ⟨Kept.refl _ _, rfl⟩
            first | rfl | go_simp
          refine Steps.cons (fun x wf Kk hq hdep hold => ?_) ?_
          · try dsimp only
            clear hq hdep hold
            rw [if_pos (by rfl)]
            refine OpY.val (v := (.pointer (some ⟨wr.heap.size, 0, none⟩))) ?_ ⟨Kept.refl _ _, rfl⟩
            first | rfl | go_simp
          refine Steps.cons (fun x wf Kk hq hdep hold => ?_) ?_
          · try dsimp only
            have h3 : x 3 = (.pointer (some ⟨wr.heap.size, 0, none⟩)) := hdep 3 (by kernel_rfl)
            have Kq := hq no (fun j hj => by cases (show j ∈ ([] : List Nat) from by (have e : ∀ l : List Nat, l = [] → j ∈ l → j ∈ ([] : List Nat) := fun l h h2 => h ▸ h2); exact e _ (by kernel_rfl) hj))
            clear hq hdep hold
            simp only [h3]
            clear h3
            obtain ⟨c0, c1, c2⟩ := h3.out.kept Kq.undrew
            rw [if_pos (by rfl)]
            refine OpY.val (v := (.agg #[.int .i64 it.s, .int .i64 it.b, .int .i64 it.p])) ?_ ⟨Kept.refl _ _, rfl⟩
            first | rfl | go_simp
          refine Steps.cons (fun x wf Kk hq hdep hold => ?_) ?_
          · try dsimp only
            have h1 : x 1 = (.string s) := hdep 1 (by kernel_rfl)
            have h2 : x 2 = (.int .i64 c) := hdep 2 (by kernel_rfl)
            have h4 : x 4 = (.agg #[.int .i64 it.s, .int .i64 it.b, .int .i64 it.p]) := hdep 4 (by kernel_rfl)
            have Kq := hq no (fun j hj => by cases (show j ∈ ([] : List Nat) from by (have e : ∀ l : List Nat, l = [] → j ∈ l → j ∈ ([] : List Nat) := fun l h h2 => h ▸ h2); exact e _ (by kernel_rfl) hj))
            clear hq hdep hold
            simp only [h1, h2, h4]
            clear h1 h2 h4
            rw [if_pos (by rfl)]
            refine OpY.call (f := 15) (args := #[(.string s), (.int .i64 c), (.agg #[.int .i64 it.s, .int .i64 it.b, .int .i64 it.p])]) (by go_simp) ?_
            refine (HS.out _ (hT.out.kept (hKW.out.trans' Kq.undrew))).mono ?_
            rintro e w2 ⟨rfl, k2⟩
            exact ⟨_, rfl, k2, rfl⟩
          refine Steps.cons (fun x wf Kk hq hdep hold => ?_) ?_
          · try dsimp only
            clear hq hdep hold
            rw [if_pos (by rfl)]
            refine OpY.val (v := (.int .i64 c)) ?_ ⟨Kept.refl _ _, rfl⟩
            first | rfl | go_simp
          refine Steps.cons (fun x wf Kk hq hdep hold => ?_) ?_
          · try dsimp only
            clear hq hdep hold
            rw [if_pos (by rfl)]
            refine OpY.val (v := (.pointer (some ⟨wr.heap.size, 0, none⟩))) ?_ ⟨Kept.refl _ _, rfl⟩
            first | rfl | go_simp
          refine Steps.cons (fun x wf Kk hq hdep hold => ?_) ?_
          · try dsimp only
            have h7 : x 7 = (.pointer (some ⟨wr.heap.size, 0, none⟩)) := hdep 7 (by kernel_rfl)
            have Kq := hq no (fun j hj => by cases (show j ∈ ([] : List Nat) from by (have e : ∀ l : List Nat, l = [] → j ∈ l → j ∈ ([] : List Nat) := fun l h h2 => h ▸ h2); exact e _ (by kernel_rfl) hj))
            clear hq hdep hold
            simp only [h7]
            clear h7
            obtain ⟨c0, c1, c2⟩ := h3.out.kept Kq.undrew
            rw [if_pos (by rfl)]
            refine OpY.val (v := (.agg #[.int .i64 it.s, .int .i64 it.b, .int .i64 it.p])) ?_ ⟨Kept.refl _ _, rfl⟩
            first | rfl | go_simp
          refine Steps.cons (fun x wf Kk hq hdep hold => ?_) ?_
          · try dsimp only
            clear hq hdep hold
            rw [if_pos (by rfl)]
            refine OpY.val (v := (.pointer (some ⟨wr.heap.size, 4, none⟩))) ?_ ⟨Kept.refl _ _, rfl⟩
            first | rfl | go_simp
          refine Steps.cons (fun x wf Kk hq hdep hold => ?_) ?_
          · try dsimp only
            have h9 : x 9 = (.pointer (some ⟨wr.heap.size, 4, none⟩)) := hdep 9 (by kernel_rfl)
            have Kq := hq no (fun j hj => by cases (show j ∈ ([] : List Nat) from by (have e : ∀ l : List Nat, l = [] → j ∈ l → j ∈ ([] : List Nat) := fun l h h2 => h ▸ h2); exact e _ (by kernel_rfl) hj))
            clear hq hdep hold
            simp only [h9]
            clear h9
            have c4 := Kq.undrew.cell h4.out id
            rw [if_pos (by rfl)]
            refine OpY.val (v := (.slice av lv cv)) ?_ ⟨Kept.refl _ _, rfl⟩
            first | rfl | go_simp
          refine Steps.cons (fun x wf Kk hq hdep hold => ?_) ?_
          · try dsimp only
            have h5 : x 5 = (.agg Ls.toArray) := hdep 5 (by kernel_rfl)
            have h6 : x 6 = (.int .i64 c) := hdep 6 (by kernel_rfl)
            have h8 : x 8 = (.agg #[.int .i64 it.s, .int .i64 it.b, .int .i64 it.p]) := hdep 8 (by kernel_rfl)
            have h10 : x 10 = (.slice av lv cv) := hdep 10 (by kernel_rfl)
            have Kq := hq no (fun j hj => by cases (show j ∈ ([] : List Nat) from by (have e : ∀ l : List Nat, l = [] → j ∈ l → j ∈ ([] : List Nat) := fun l h h2 => h ▸ h2); exact e _ (by kernel_rfl) hj))
            clear hq hdep hold
            simp only [h5, h6, h8, h10]
            clear h5 h6 h8 h10
            rw [if_pos (by rfl)]
            refine OpY.call (f := 17) (args := #[(.agg Ls.toArray), (.int .i64 c), (.agg #[.int .i64 it.s, .int .i64 it.b, .int .i64 it.p]), (.slice av lv cv)]) (by go_simp) ?_
            refine (HO.out _ (hz.out.kept Kq.undrew) (hT.out.kept (hKW.out.trans' Kq.undrew))).mono ?_
            rintro e w2 ⟨rfl, k2⟩
            exact ⟨_, rfl, k2, rfl⟩
          refine Steps.cons (fun x wf Kk hq hdep hold => ?_) ?_
          · try dsimp only
            have h11 : x 11 = (.agg Lc.toArray) := hdep 11 (by kernel_rfl)
            clear hq hdep hold
            simp only [h11]
            clear h11
            rw [if_pos (by rfl)]
            refine OpY.build 34 43 1 _ rfl 32 (.agg Z32) Tryd.underlying34 (by kernel_rfl) (by decide) (by decide) Lc _ rfl hfill.out lLc.out (by decide) (fun w' hg k ho => ⟨k, Rd.of_own ho⟩)
          refine Steps.cons (fun x wf Kk hq hdep hold => ?_) ?_
          · try dsimp only
            have h0 : x 0 = (u8) := hdep 0 (by kernel_rfl)
            have p12 : Pr.p (Sl := (fun _ => (ob u8))) (RdIs 32 1 Lc) (x 12) wf := hdep 12 (by kernel_rfl)
            have Kq := hq no (fun j hj => by cases (show j ∈ ([] : List Nat) from by (have e : ∀ l : List Nat, l = [] → j ∈ l → j ∈ ([] : List Nat) := fun l h h2 => h ▸ h2); exact e _ (by kernel_rfl) hj))
            clear hq hdep hold
            simp only [h0]
            clear h0
            rw [if_pos (by rfl)]
            have hO2 := hO1.out.keptNo Kq.undrew
            refine OpY.append (.tmp 23) (.tmp 35) 34 _ rfl rfl 43 32 32 TDigs u8 ds.length (flatD ds) rfl hO2.own (x 12) 1 Lc rfl p12 oneLc.out hsz.out.1 hsz.out.2 ?_
            rintro v' w' h2 h3 h4 _
            exact ⟨h3, hO2.add hC32.out hLc.out h2 h3 h4⟩
          refine Steps.cons (fun x wf Kk hq hdep hold => ?_) ?_
          · try dsimp only
            have p13 : Pr.p (Sl := (fun _ => (ob u8))) (OwDs w (ds ++ [C])) (x 13) wf := hdep 13 (by kernel_rfl)
            clear hq hdep hold
            rw [if_pos (by rfl)]
            exact OpY.val (v := x 13) rfl ⟨Kept.refl _ _, p13⟩
          exact Steps.nil _
        · intro x wf Kk hv
          try dsimp only
          have h0 : x 0 = (u8) := hv 0 (by kernel_rfl)
          have h1 : x 1 = (.string s) := hv 1 (by kernel_rfl)
          have h2 : x 2 = (.int .i64 c) := hv 2 (by kernel_rfl)
          have h3 : x 3 = (.pointer (some ⟨wr.heap.size, 0, none⟩)) := hv 3 (by kernel_rfl)
          have h4 : x 4 = (.agg #[.int .i64 it.s, .int .i64 it.b, .int .i64 it.p]) := hv 4 (by kernel_rfl)
          have h5 : x 5 = (.agg Ls.toArray) := hv 5 (by kernel_rfl)
          have h6 : x 6 = (.int .i64 c) := hv 6 (by kernel_rfl)
          have h7 : x 7 = (.pointer (some ⟨wr.heap.size, 0, none⟩)) := hv 7 (by kernel_rfl)
          have h8 : x 8 = (.agg #[.int .i64 it.s, .int .i64 it.b, .int .i64 it.p]) := hv 8 (by kernel_rfl)
          have h9 : x 9 = (.pointer (some ⟨wr.heap.size, 4, none⟩)) := hv 9 (by kernel_rfl)
          have h10 : x 10 = (.slice av lv cv) := hv 10 (by kernel_rfl)
          have h11 : x 11 = (.agg Lc.toArray) := hv 11 (by kernel_rfl)
          have p14 : Pr.p (Sl := (fun _ => (ob u8))) (OwDs w (ds ++ [C])) (x 14) wf := hv 14 (by kernel_rfl)
          clear hv
          simp only [h0, h1, h2, h3, h4, h5, h6, h7, h8, h9, h10, h11]
          clear h0 h1 h2 h3 h4 h5 h6 h7 h8 h9 h10 h11
          have hO3 := hid (show OwD w wf (x 14) (ds ++ [C]) from p14)
          generalize x 14 = v' at hO3 ⊢
          clear p14 Kk hO1 hKW h3 h4 hz HS HO hfill oneLc lLc hsz
          go_wp2
          refine ⟨?_, by simp [intOf]; omega⟩
          first | exact ⟨k + 1, _, by omega, by go_num, hdk1, hd1, hO3⟩ | ((repeat apply Exists.intro); exact ⟨⟨k + 1, _, by omega, by go_num, hdk1, hd1, hO3⟩, rfl⟩)
    · obtain rfl : k = n := by omega
      have hfin : Hd (sortD ds = sortD (coms s.data.toList c (itms l))) := ⟨by rw [hds.out, List.take_of_length_le (by rw [hlen.out]; exact Nat.le_refl _)]⟩
      have hdl : Hd (∀ d ∈ sortD ds, d.length = 32) := ⟨fun d hd => hO.out.len d ((sortD_spec ds).1.mem_iff.1 hd)⟩
      have HSo := hid (dsort_any u8 ds wr hO.out.own hO.out.len (by have := hdk.out; omega))
      clear hds hdk
      go_wp2_with fail
      refine HSo.out.mono ?_
      rintro e w2 ⟨rfl, h2, k2⟩
      have hO2 : Hd (OwD w w2 u8 (sortD ds)) := ⟨⟨h2, hdl.out, hO.out.new.keptR hO.out.kept k2, hO.out.new⟩⟩
      clear h2 k2 hO HSo
      go_wp2
      go_ret2
      exact ⟨_, rfl, by rw [← hfin.out]; exact hO2.out⟩
end Go.Proofs.YtggcbjchnefhfaaDoor

