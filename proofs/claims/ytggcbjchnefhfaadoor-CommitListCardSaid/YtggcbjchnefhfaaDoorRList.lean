/- electionref36.List (printed by gen_rlist.py). -/
import Derived.Test.YtggcbjchnefhfaaDoorSliceD
import Derived.Test.YtggcbjchnefhfaaDoorLess2
namespace Go.Proofs.YtggcbjchnefhfaaDoor
open Go.RowKit Go.Mk Go.Sha Go.Cmt
set_option maxRecDepth 100000 in
set_option maxHeartbeats 8000000 in
theorem rlist_any (s : ByteArray) (c : Int) (v : Value) (l : List (Itm × Value)) (w : World) (hs : s.size ≤ 1000) (hn : l.length ≤ 1024) (hp : ∀ x ∈ l, x.1.pr.length ≤ 1000) (hr : RdI w v l) (hT : TabR w) :
    Calls Tryd.prog 13 #[.string s, .int .i64 c, v] w fun e w' => ∃ v', e = .returned (.tuple #[v', .int .i64 0]) ∧ OwD w w' v' (sortD (coms s.data.toList c (itms l))) := by
  obtain ⟨ao, cap, rfl⟩ := Rd.shapeZ hr.2
  obtain ⟨n, hlen⟩ : ∃ n, l.length = n := ⟨_, rfl⟩
  rw [hlen] at hn
  have hn1 : ¬ (1024 : Int) < (n : Int) := by omega
  rw [hlen] at hr ⊢
  replace hlen := hid hlen
  replace hr := hid hr
  replace hT := hid hT
  replace hp := hid hp
  go_enter Tryd.func13, Tryd.ntmps13
  go_wp2
  go_loopw [8, 9] (fun out i wr => ∃ (k : Nat) (ds : List (List UInt8)), k ≤ n ∧ i = .int .i64 (k : Int) ∧ Hd (ds.length ≤ k) ∧ Hd (ds = sortD (coms s.data.toList c (itms (l.take k)))) ∧ Hd (OwD w wr out ds)) (fun _ i _ => n - (intOf i).toNat)
  case atStart => exact ⟨0, [], by omega, rfl, ⟨Nat.le_refl _⟩, ⟨rfl⟩, ⟨OwD.nil w⟩⟩
  case round =>
    obtain ⟨k, ds, hk, rfl, hdk, hds, hO⟩ := hrel
    by_cases hlt : k < n
    · have hk1 : (k : Int) < (n : Int) := by omega
      have hk0 : (0 : Int) ≤ (k : Int) := by omega
      obtain ⟨b, o, it, vx, rfl, hel, c0, c1, c2, c3, c4, hz⟩ := (hr.out.kept hO.out.kept).at k (by rw [hlen.out]; exact hlt)
      have hpx : Hd (it.pr.length ≤ 1000) := ⟨by have := hp.out _ (List.getElem_mem (show k < l.length by rw [hlen.out]; exact hlt)); rwa [hel] at this⟩
      obtain ⟨av, lv, cv, rfl⟩ : ∃ a l c, vx = .slice a l c := by obtain ⟨_, a, c, e, _⟩ := hz; exact ⟨a, _, c, e⟩
      have hnx : Hd (coms s.data.toList c (itms (l.take (k + 1))) = coms s.data.toList c (itms (l.take k)) ++ if it.ph then [] else [com s.data.toList c it]) := ⟨by
        rw [List.take_succ_eq_append_getElem (by rw [hlen.out]; exact hlt), hel]
        unfold itms; rw [List.map_append]; exact coms_snoc _ _ _ it⟩
      replace hz := hid hz
      clear hel
      by_cases hph : it.ph = true
      · rw [hph] at c3
        have hd1 : Hd (ds = sortD (coms s.data.toList c (itms (l.take (k + 1))))) := ⟨by rw [hnx.out, hph, hds.out]; simp⟩
        have hdk1 : Hd (ds.length ≤ k + 1) := ⟨Nat.le_succ_of_le hdk.out⟩
        clear hds hdk hnx hph hz
        go_wp2
        refine ⟨?_, by simp [intOf]; omega⟩
        exact ⟨k + 1, ds, by omega, by go_num, hdk1, hd1, hO⟩
      · have hph : it.ph = false := by simpa using hph
        rw [hph] at c3
        obtain ⟨C, hC⟩ : ∃ C, com s.data.toList c it = C := ⟨_, rfl⟩
        have hC32 : Hd (C.length = 32) := ⟨by rw [← hC]; exact com_length _ _ _⟩
        have hd1 : Hd (insD C ds = sortD (coms s.data.toList c (itms (l.take (k + 1))))) := ⟨by
          rw [hnx.out, hph, hC]; simp only [Bool.false_eq_true, if_false]; rw [sortD_step, ← hds.out]⟩
        obtain ⟨S, hS⟩ : ∃ S, saltD s.data.toList [c, it.s, it.b, it.p] = S := ⟨_, rfl⟩
        have hS32 : S.length = 32 := by rw [← hS]; exact salt_length _ _
        obtain ⟨Ls, hLs⟩ : ∃ L, S.map B = L := ⟨_, rfl⟩
        obtain ⟨Lc, hLc⟩ : ∃ L, C.map B = L := ⟨_, rfl⟩
        have HS : Hd (∀ w, TabR w → Calls Tryd.prog 22 #[.string s, .int .i64 c, .agg #[.int .i64 it.s, .int .i64 it.b, .int .i64 it.p]] w fun e w' => e = .returned (.agg Ls.toArray) ∧ Kept no w w') := ⟨fun w h => by rw [← hLs, ← hS]; exact refsalt_any s c it.s it.b it.p w (by omega) h⟩
        have HO : Hd (∀ w, RdZ w (.slice av lv cv) it.pr → TabR w → Calls Tryd.prog 23 #[.agg Ls.toArray, .int .i64 c, .agg #[.int .i64 it.s, .int .i64 it.b, .int .i64 it.p], .slice av lv cv] w fun e w' => e = .returned (.agg Lc.toArray) ∧ Kept no w w') := ⟨fun w h1 h => by
          have := refcommit_any (.slice av lv cv) S it.pr c it.s it.b it.p w hS32 hpx.out h1 h
          rw [← hLs, ← hLc, ← hC]; rw [← hS] at this ⊢; exact this⟩
        have lLc : Hd (Lc.length = 32) := ⟨by rw [← hLc, List.length_map, hC32.out]⟩
        have oneLc : Hd (∀ u ∈ Lc, u.oneCell' = true) := ⟨by rw [← hLc]; exact B_one _⟩
        have oneLa : Hd (Lc.toArray.all (·.oneCell') = true) := ⟨by rw [← hLc]; exact all_oneCell_toArray (B_one _)⟩
        have infLc : Hd ((Tryd.prog.info? 43).map (·.size) = some Lc.length) := ⟨by rw [lLc.out]; kernel_rfl⟩
        have hfill := hid (fill_one Lc lLc.out)
        have hdk1 : Hd ((insD C ds).length ≤ k + 1) := ⟨by rw [(insD_perm C ds).length_eq, List.length_append]; exact Nat.succ_le_succ hdk.out⟩
        have hHL : Hd (∀ X w, X.length = 32 → Calls Tryd.prog 24 #[.agg (X.map B).toArray, .agg Lc.toArray] w fun e w' => e = .returned (.bool (lessD X C)) ∧ Kept no w w') := ⟨fun X w hX => by rw [← hLc]; exact refless_any X C w hX hC32.out⟩
        have hdl : Hd (ds.length ≤ 1024) := ⟨by have := hdk.out; omega⟩
        replace hLc := hid hLc
        have hKW := hid hO.out.kept
        have hun := Tryd.underlying43
        clear hC hS hLs hS32 hnx hph hds hdk hpx
        go_upto_region 8 with fail
        refine region_flow (S := (fun j => wr.heap.size ≤ j)) (Sl := (fun _ => (fun j => wr.heap.size ≤ j))) [Is (.string s), Is (.int .i64 c), Is (.slice (some ⟨b, o, none⟩) n cap), Is (.int .i64 (k : Int)), Is (.pointer (some ⟨b, o + k * 5, none⟩)), Is (.pointer (some ⟨b, o + k * 5, none⟩)), Is (.agg #[.int .i64 it.s, .int .i64 it.b, .int .i64 it.p]), Is (.agg Ls.toArray), Is (.int .i64 c), Is (.slice (some ⟨b, o, none⟩) n cap), Is (.int .i64 (k : Int)), Is (.pointer (some ⟨b, o + k * 5, none⟩)), Is (.pointer (some ⟨b, o + k * 5, none⟩)), Is (.agg #[.int .i64 it.s, .int .i64 it.b, .int .i64 it.p]), Is (.slice (some ⟨b, o, none⟩) n cap), Is (.int .i64 (k : Int)), Is (.pointer (some ⟨b, o + k * 5, none⟩)), Is (.pointer (some ⟨b, o + k * 5 + 4, none⟩)), Is (.slice av lv cv), Is (.agg Lc.toArray), PAlD wr.heap.size, PStD 20 wr.heap.size Lc] [21] (fun _ _ h => h) _ (by kernel_rfl) (by kernel_rfl) (by kernel_rfl) (by kernel_rfl) (fun x => by simp only [puts, Act.put, List.map_cons, List.map_nil, Nat.zero_add, Nat.reduceAdd, List.setIfInBounds_toArray, List.set_cons_zero, List.set_cons_succ]; exact rfl) ?_ ?_
        · skip
          refine Steps.cons (fun x wf Kk hq hdep hold => ?_) ?_
          · try dsimp only
            clear hq hdep hold
            rw [if_pos (by rfl)]
            refine OpY.val (v := (.string s)) ?_ ⟨Kept.refl _ _, rfl⟩
            first | rfl | go_simp
          refine Steps.cons (fun x wf Kk hq hdep hold => ?_) ?_
          · try dsimp only
            clear hq hdep hold
            rw [if_pos (by rfl)]
            refine OpY.val (v := (.int .i64 c)) ?_ ⟨Kept.refl _ _, rfl⟩
            first | rfl | go_simp
          refine Steps.cons (fun x wf Kk hq hdep hold => ?_) ?_
          · try dsimp only
            clear hq hdep hold
            rw [if_pos (by rfl)]
            refine OpY.val (v := (.slice (some ⟨b, o, none⟩) n cap)) ?_ ⟨Kept.refl _ _, rfl⟩
            first | rfl | go_simp
          refine Steps.cons (fun x wf Kk hq hdep hold => ?_) ?_
          · try dsimp only
            clear hq hdep hold
            rw [if_pos (by rfl)]
            refine OpY.val (v := (.int .i64 (k : Int))) ?_ ⟨Kept.refl _ _, rfl⟩
            first | rfl | go_simp
          refine Steps.cons (fun x wf Kk hq hdep hold => ?_) ?_
          · try dsimp only
            have h2 : x 2 = (.slice (some ⟨b, o, none⟩) n cap) := hdep 2 (by kernel_rfl)
            have h3 : x 3 = (.int .i64 (k : Int)) := hdep 3 (by kernel_rfl)
            clear hq hdep hold
            simp only [h2, h3]
            clear h2 h3
            rw [if_pos (by rfl)]
            refine OpY.val (v := (.pointer (some ⟨b, o + k * 5, none⟩))) ?_ ⟨Kept.refl _ _, rfl⟩
            first | rfl | go_simp
          refine Steps.cons (fun x wf Kk hq hdep hold => ?_) ?_
          · try dsimp only
            have h4 : x 4 = (.pointer (some ⟨b, o + k * 5, none⟩)) := hdep 4 (by kernel_rfl)
            clear hq hdep hold
            simp only [h4]
            clear h4
            rw [if_pos (by rfl)]
            refine OpY.val (v := (.pointer (some ⟨b, o + k * 5, none⟩))) ?_ ⟨Kept.refl _ _, rfl⟩
            first | rfl | go_simp
          refine Steps.cons (fun x wf Kk hq hdep hold => ?_) ?_
          · try dsimp only
            have h5 : x 5 = (.pointer (some ⟨b, o + k * 5, none⟩)) := hdep 5 (by kernel_rfl)
            have Kq := hq no (fun j hj => by cases (show j ∈ ([] : List Nat) from by (have e : ∀ l : List Nat, l = [] → j ∈ l → j ∈ ([] : List Nat) := fun l h h2 => h ▸ h2); exact e _ (by kernel_rfl) hj))
            clear hq hdep hold
            simp only [h5]
            clear h5
            have c0 := Kq.undrew.cell c0 id
            have c1 := Kq.undrew.cell c1 id
            have c2 := Kq.undrew.cell c2 id
            rw [if_pos (by rfl)]
            refine OpY.val (v := (.agg #[.int .i64 it.s, .int .i64 it.b, .int .i64 it.p])) ?_ ⟨Kept.refl _ _, rfl⟩
            first | rfl | go_simp
          refine Steps.cons (fun x wf Kk hq hdep hold => ?_) ?_
          · try dsimp only
            have h0 : x 0 = (.string s) := hdep 0 (by kernel_rfl)
            have h1 : x 1 = (.int .i64 c) := hdep 1 (by kernel_rfl)
            have h6 : x 6 = (.agg #[.int .i64 it.s, .int .i64 it.b, .int .i64 it.p]) := hdep 6 (by kernel_rfl)
            have Kq := hq no (fun j hj => by cases (show j ∈ ([] : List Nat) from by (have e : ∀ l : List Nat, l = [] → j ∈ l → j ∈ ([] : List Nat) := fun l h h2 => h ▸ h2); exact e _ (by kernel_rfl) hj))
            clear hq hdep hold
            simp only [h0, h1, h6]
            clear h0 h1 h6
            rw [if_pos (by rfl)]
            refine OpY.call (f := 22) (args := #[(.string s), (.int .i64 c), (.agg #[.int .i64 it.s, .int .i64 it.b, .int .i64 it.p])]) (by go_simp) ?_
            refine (HS.out _ (hT.out.kept (hKW.out.trans' Kq.undrew))).mono ?_
            rintro e w2 ⟨rfl, k2⟩
            exact ⟨_, rfl, k2, rfl⟩
          refine Steps.cons (fun x wf Kk hq hdep hold => ?_) ?_
          · try dsimp only
            clear hq hdep hold
            rw [if_pos (by rfl)]
            refine OpY.val (v := (.int .i64 c)) ?_ ⟨Kept.refl _ _, rfl⟩
            first | rfl | go_simp
          refine Steps.cons (fun x wf Kk hq hdep hold => ?_) ?_
          · try dsimp only
            clear hq hdep hold
            rw [if_pos (by rfl)]
            refine OpY.val (v := (.slice (some ⟨b, o, none⟩) n cap)) ?_ ⟨Kept.refl _ _, rfl⟩
            first | rfl | go_simp
          refine Steps.cons (fun x wf Kk hq hdep hold => ?_) ?_
          · try dsimp only
            clear hq hdep hold
            rw [if_pos (by rfl)]
            refine OpY.val (v := (.int .i64 (k : Int))) ?_ ⟨Kept.refl _ _, rfl⟩
            first | rfl | go_simp
          refine Steps.cons (fun x wf Kk hq hdep hold => ?_) ?_
          · try dsimp only
            have h9 : x 9 = (.slice (some ⟨b, o, none⟩) n cap) := hdep 9 (by kernel_rfl)
            have h10 : x 10 = (.int .i64 (k : Int)) := hdep 10 (by kernel_rfl)
            clear hq hdep hold
            simp only [h9, h10]
            clear h9 h10
            rw [if_pos (by rfl)]
            refine OpY.val (v := (.pointer (some ⟨b, o + k * 5, none⟩))) ?_ ⟨Kept.refl _ _, rfl⟩
            first | rfl | go_simp
          refine Steps.cons (fun x wf Kk hq hdep hold => ?_) ?_
          · try dsimp only
            have h11 : x 11 = (.pointer (some ⟨b, o + k * 5, none⟩)) := hdep 11 (by kernel_rfl)
            clear hq hdep hold
            simp only [h11]
            clear h11
            rw [if_pos (by rfl)]
            refine OpY.val (v := (.pointer (some ⟨b, o + k * 5, none⟩))) ?_ ⟨Kept.refl _ _, rfl⟩
            first | rfl | go_simp
          refine Steps.cons (fun x wf Kk hq hdep hold => ?_) ?_
          · try dsimp only
            have h12 : x 12 = (.pointer (some ⟨b, o + k * 5, none⟩)) := hdep 12 (by kernel_rfl)
            have Kq := hq no (fun j hj => by cases (show j ∈ ([] : List Nat) from by (have e : ∀ l : List Nat, l = [] → j ∈ l → j ∈ ([] : List Nat) := fun l h h2 => h ▸ h2); exact e _ (by kernel_rfl) hj))
            clear hq hdep hold
            simp only [h12]
            clear h12
            have c0 := Kq.undrew.cell c0 id
            have c1 := Kq.undrew.cell c1 id
            have c2 := Kq.undrew.cell c2 id
            rw [if_pos (by rfl)]
            refine OpY.val (v := (.agg #[.int .i64 it.s, .int .i64 it.b, .int .i64 it.p])) ?_ ⟨Kept.refl _ _, rfl⟩
            first | rfl | go_simp
          refine Steps.cons (fun x wf Kk hq hdep hold => ?_) ?_
          · try dsimp only
            clear hq hdep hold
            rw [if_pos (by rfl)]
            refine OpY.val (v := (.slice (some ⟨b, o, none⟩) n cap)) ?_ ⟨Kept.refl _ _, rfl⟩
            first | rfl | go_simp
          refine Steps.cons (fun x wf Kk hq hdep hold => ?_) ?_
          · try dsimp only
            clear hq hdep hold
            rw [if_pos (by rfl)]
            refine OpY.val (v := (.int .i64 (k : Int))) ?_ ⟨Kept.refl _ _, rfl⟩
            first | rfl | go_simp
          refine Steps.cons (fun x wf Kk hq hdep hold => ?_) ?_
          · try dsimp only
            have h14 : x 14 = (.slice (some ⟨b, o, none⟩) n cap) := hdep 14 (by kernel_rfl)
            have h15 : x 15 = (.int .i64 (k : Int)) := hdep 15 (by kernel_rfl)
            clear hq hdep hold
            simp only [h14, h15]
            clear h14 h15
            rw [if_pos (by rfl)]
            refine OpY.val (v := (.pointer (some ⟨b, o + k * 5, none⟩))) ?_ ⟨Kept.refl _ _, rfl⟩
            first | rfl | go_simp
          refine Steps.cons (fun x wf Kk hq hdep hold => ?_) ?_
          · try dsimp only
            have h16 : x 16 = (.pointer (some ⟨b, o + k * 5, none⟩)) := hdep 16 (by kernel_rfl)
            clear hq hdep hold
            simp only [h16]
            clear h16
            rw [if_pos (by rfl)]
            refine OpY.val (v := (.pointer (some ⟨b, o + k * 5 + 4, none⟩))) ?_ ⟨Kept.refl _ _, rfl⟩
            first | rfl | go_simp
          refine Steps.cons (fun x wf Kk hq hdep hold => ?_) ?_
          · try dsimp only
            have h17 : x 17 = (.pointer (some ⟨b, o + k * 5 + 4, none⟩)) := hdep 17 (by kernel_rfl)
            have Kq := hq no (fun j hj => by cases (show j ∈ ([] : List Nat) from by (have e : ∀ l : List Nat, l = [] → j ∈ l → j ∈ ([] : List Nat) := fun l h h2 => h ▸ h2); exact e _ (by kernel_rfl) hj))
            clear hq hdep hold
            simp only [h17]
            clear h17
            have c4 := Kq.undrew.cell c4 id
            rw [if_pos (by rfl)]
            refine OpY.val (v := (.slice av lv cv)) ?_ ⟨Kept.refl _ _, rfl⟩
            first | rfl | go_simp
          refine Steps.cons (fun x wf Kk hq hdep hold => ?_) ?_
          · try dsimp only
            have h7 : x 7 = (.agg Ls.toArray) := hdep 7 (by kernel_rfl)
            have h8 : x 8 = (.int .i64 c) := hdep 8 (by kernel_rfl)
            have h13 : x 13 = (.agg #[.int .i64 it.s, .int .i64 it.b, .int .i64 it.p]) := hdep 13 (by kernel_rfl)
            have h18 : x 18 = (.slice av lv cv) := hdep 18 (by kernel_rfl)
            have Kq := hq no (fun j hj => by cases (show j ∈ ([] : List Nat) from by (have e : ∀ l : List Nat, l = [] → j ∈ l → j ∈ ([] : List Nat) := fun l h h2 => h ▸ h2); exact e _ (by kernel_rfl) hj))
            clear hq hdep hold
            simp only [h7, h8, h13, h18]
            clear h7 h8 h13 h18
            rw [if_pos (by rfl)]
            refine OpY.call (f := 23) (args := #[(.agg Ls.toArray), (.int .i64 c), (.agg #[.int .i64 it.s, .int .i64 it.b, .int .i64 it.p]), (.slice av lv cv)]) (by go_simp) ?_
            refine (HO.out _ (hz.out.kept Kq.undrew) (hT.out.kept (hKW.out.trans' Kq.undrew))).mono ?_
            rintro e w2 ⟨rfl, k2⟩
            exact ⟨_, rfl, k2, rfl⟩
          refine Steps.cons (fun x wf Kk hq hdep hold => ?_) ?_
          · try dsimp only
            clear hq hdep hold
            rw [if_pos (by rfl)]
            exact OpY.allocD rfl ⟨(Kept.refl _ _).alloc _, _, rfl, Kk.size, heap_alloc_new _ _⟩
          refine Steps.cons (fun x wf Kk hq hdep hold => ?_) ?_
          · try dsimp only
            have p20 : Pr.p (Sl := (fun _ => (fun j => wr.heap.size ≤ j))) (PAlD wr.heap.size) (x 20) wf := hdep 20 (by kernel_rfl)
            have h19 : x 19 = (.agg Lc.toArray) := hdep 19 (by kernel_rfl)
            clear hq hdep hold
            simp only [h19]
            clear h19
            rw [if_pos (by rfl)]
            obtain ⟨g, eg, hg, hgb⟩ := p20
            rw [eg]
            refine OpY.storeRowD 43 (.tmp 10) (.tmp 45) rfl g Lc.toArray rfl rfl 43 _ hgb infLc.out (by rw [show Lc.toArray.size = Lc.length from rfl, lLc.out]; rfl) oneLa.out ?_
            exact ⟨((Kept.refl (fun j => j = g) wf).setRow (g := g) (.inl rfl) Lc.toArray).mono fun j _ h => by (have h : j = g := h); subst h; exact hg, g, eg, hg, setRow_heap _ _ _ _ _ _ hgb⟩
          exact Steps.nil _
        · intro x wf Kk hv
          try dsimp only
          have h0 : x 0 = (.string s) := hv 0 (by kernel_rfl)
          have h1 : x 1 = (.int .i64 c) := hv 1 (by kernel_rfl)
          have h2 : x 2 = (.slice (some ⟨b, o, none⟩) n cap) := hv 2 (by kernel_rfl)
          have h3 : x 3 = (.int .i64 (k : Int)) := hv 3 (by kernel_rfl)
          have h4 : x 4 = (.pointer (some ⟨b, o + k * 5, none⟩)) := hv 4 (by kernel_rfl)
          have h5 : x 5 = (.pointer (some ⟨b, o + k * 5, none⟩)) := hv 5 (by kernel_rfl)
          have h6 : x 6 = (.agg #[.int .i64 it.s, .int .i64 it.b, .int .i64 it.p]) := hv 6 (by kernel_rfl)
          have h7 : x 7 = (.agg Ls.toArray) := hv 7 (by kernel_rfl)
          have h8 : x 8 = (.int .i64 c) := hv 8 (by kernel_rfl)
          have h9 : x 9 = (.slice (some ⟨b, o, none⟩) n cap) := hv 9 (by kernel_rfl)
          have h10 : x 10 = (.int .i64 (k : Int)) := hv 10 (by kernel_rfl)
          have h11 : x 11 = (.pointer (some ⟨b, o + k * 5, none⟩)) := hv 11 (by kernel_rfl)
          have h12 : x 12 = (.pointer (some ⟨b, o + k * 5, none⟩)) := hv 12 (by kernel_rfl)
          have h13 : x 13 = (.agg #[.int .i64 it.s, .int .i64 it.b, .int .i64 it.p]) := hv 13 (by kernel_rfl)
          have h14 : x 14 = (.slice (some ⟨b, o, none⟩) n cap) := hv 14 (by kernel_rfl)
          have h15 : x 15 = (.int .i64 (k : Int)) := hv 15 (by kernel_rfl)
          have h16 : x 16 = (.pointer (some ⟨b, o + k * 5, none⟩)) := hv 16 (by kernel_rfl)
          have h17 : x 17 = (.pointer (some ⟨b, o + k * 5 + 4, none⟩)) := hv 17 (by kernel_rfl)
          have h18 : x 18 = (.slice av lv cv) := hv 18 (by kernel_rfl)
          have h19 : x 19 = (.agg Lc.toArray) := hv 19 (by kernel_rfl)
          have p21 : Pr.r (Sl := (fun _ => (fun j => wr.heap.size ≤ j))) (PStD 20 wr.heap.size Lc) (x 20) (x 21) wf := hv 21 (by kernel_rfl)
          clear hv
          simp only [h0, h1, h2, h3, h4, h5, h6, h7, h8, h9, h10, h11, h12, h13, h14, h15, h16, h17, h18, h19]
          clear h0 h1 h2 h3 h4 h5 h6 h7 h8 h9 h10 h11 h12 h13 h14 h15 h16 h17 h18 h19
          obtain ⟨g, eg, hg, hgb⟩ := p21
          simp only [eg]
          have hK1 : Kept no wr wf := (Kept.refl no wr).trans Kk.undrew fun j h1 h2 => by have h2 : wr.heap.size ≤ j := h2; omega
          have hO1 := hid (hO.out.keptNo hK1)
          obtain ⟨ad, cd, rfl, hcd, hcm⟩ := hO1.out.rd.shape
          have hgb' := hid hgb
          clear eg Kk hO hK1 hgb hz HS HO c0 c1 c2 c3 c4
          obtain ⟨w1, rfl⟩ : ∃ w1 : World, w1 = wf := ⟨_, rfl⟩
          obtain ⟨w9, rfl⟩ : ∃ w9 : World, w9 = wr := ⟨_, rfl⟩
          have hgL : Hd (w1.rangeAt g 0 Lc) := ⟨range_row hgb'.out⟩
          clear hgb' hKW
          go_wp2
          go_loopw [11] (fun j wr => ∃ q : Nat, q ≤ ds.length ∧ j = .int .i64 (q : Int) ∧ Hd (∀ x ∈ ds.take q, lessD x C = true) ∧ Hd (Kept no w1 wr)) (fun j _ => ds.length - (intOf j).toNat)
          case atStart => exact ⟨0, by omega, rfl, ⟨fun x hx => by simp at hx⟩, ⟨Kept.refl _ _⟩⟩
          case round =>
            obtain ⟨q, hq, rfl, hqt, hK2⟩ := hrel
            by_cases hqd : q < ds.length
            · obtain ⟨b2, o2, rfl, hrg⟩ := RdD.at (hO1.out.rd.kept hK2.out) q hqd
              have hq1 : (q : Int) < (ds.length : Int) := by omega
              have hq0 : (0 : Int) ≤ (q : Int) := by omega
              have hq9 : q ≤ 1024 := by have := hdl.out; omega
              have hX : (ds.getD q []).length = 32 := hO1.out.len _ (by rw [List.getD_eq_getElem?_getD, List.getElem?_eq_getElem hqd]; simp)
              have hXe : Hd (ds.getD q [] = ds[q]) := ⟨by rw [List.getD_eq_getElem?_getD, List.getElem?_eq_getElem hqd]; rfl⟩
              have hnext : Hd (lessD (ds.getD q []) C = true → ∀ x ∈ ds.take (q + 1), lessD x C = true) := ⟨fun h x hx => by
                rw [List.take_succ_eq_append_getElem hqd] at hx
                rcases List.mem_append.1 hx with hx | hx
                · exact hqt.out x hx
                · rw [List.mem_singleton.1 hx, ← hXe.out]; exact h⟩
              have hins : Hd (lessD (ds.getD q []) C = false → insD C ds = ds.take q ++ [C] ++ ds.drop q) := ⟨fun h => insD_at hqt.out (.inr ⟨hqd, by rw [← hXe.out]; exact h⟩)⟩
              clear hXe
              generalize ds.getD q [] = X at hrg hX hnext hins
              have HLx := hid (fun w => hHL.out X w hX)
              obtain ⟨M, hM⟩ : ∃ M, X.map B = M := ⟨_, rfl⟩
              rw [hM] at hrg HLx
              have infM : Hd ((Tryd.prog.info? 43).map (·.size) = some M.length) := ⟨by rw [← hM, List.length_map, hX]; kernel_rfl⟩
              replace hrg := hid hrg
              clear hM hX
              obtain ⟨lx, hlx⟩ : ∃ lx, lessD X C = lx := ⟨_, rfl⟩
              rw [hlx] at HLx hnext hins
              clear hlx
              cases lx with
              | true =>
                have hnx := hid (hnext.out rfl)
                clear hnext hins hqt
                go_upto_region 10 with fail
                refine region_flow (S := no) (Sl := (fun _ => no)) [Is (.int .i64 (q : Int)), Is (.slice (some ⟨b2, o2, none⟩) ds.length cd), Is (.int .i64 (ds.length : Int)), Is (.bool true), Is (.bool true), Is (.slice (some ⟨b2, o2, none⟩) ds.length cd), Is (.int .i64 (q : Int)), Is (.pointer (some ⟨b2, o2 + q * 32, none⟩)), Is (.agg M.toArray), Is (.agg Lc.toArray), Is (.bool true), Is (.bool true)] [] (fun _ _ h => h) _ (by kernel_rfl) (by kernel_rfl) (by kernel_rfl) (by kernel_rfl) (fun x => by simp only [puts, Act.put, List.map_cons, List.map_nil, Nat.zero_add, Nat.reduceAdd, List.setIfInBounds_toArray, List.set_cons_zero, List.set_cons_succ]; exact rfl) ?_ ?_
                · skip
                  refine Steps.cons (fun x wf Kk hq hdep hold => ?_) ?_
                  · try dsimp only
                    clear hq hdep hold
                    rw [if_pos (by rfl)]
                    refine OpY.val (v := (.int .i64 (q : Int))) ?_ ⟨Kept.refl _ _, rfl⟩
                    first | rfl | go_simp
                  refine Steps.cons (fun x wf Kk hq hdep hold => ?_) ?_
                  · try dsimp only
                    clear hq hdep hold
                    rw [if_pos (by rfl)]
                    refine OpY.val (v := (.slice (some ⟨b2, o2, none⟩) ds.length cd)) ?_ ⟨Kept.refl _ _, rfl⟩
                    first | rfl | go_simp
                  refine Steps.cons (fun x wf Kk hq hdep hold => ?_) ?_
                  · try dsimp only
                    have h1 : x 1 = (.slice (some ⟨b2, o2, none⟩) ds.length cd) := hdep 1 (by kernel_rfl)
                    clear hq hdep hold
                    simp only [h1]
                    clear h1
                    rw [if_pos (by rfl)]
                    refine OpY.val (v := (.int .i64 (ds.length : Int))) ?_ ⟨Kept.refl _ _, rfl⟩
                    first | rfl | go_simp
                  refine Steps.cons (fun x wf Kk hq hdep hold => ?_) ?_
                  · try dsimp only
                    have h0 : x 0 = (.int .i64 (q : Int)) := hdep 0 (by kernel_rfl)
                    have h2 : x 2 = (.int .i64 (ds.length : Int)) := hdep 2 (by kernel_rfl)
                    clear hq hdep hold
                    simp only [h0, h2]
                    clear h0 h2
                    rw [if_pos (by rfl)]
                    refine OpY.val (v := (.bool true)) ?_ ⟨Kept.refl _ _, rfl⟩
                    first | rfl | go_simp
                  refine Steps.cons (fun x wf Kk hq hdep hold => ?_) ?_
                  · try dsimp only
                    have h3 : x 3 = (.bool true) := hdep 3 (by kernel_rfl)
                    clear hq hdep hold
                    simp only [h3]
                    clear h3
                    rw [if_pos (by rfl)]
                    refine OpY.val (v := (.bool true)) ?_ ⟨Kept.refl _ _, rfl⟩
                    first | rfl | go_simp
                  refine Steps.cons (fun x wf Kk hq hdep hold => ?_) ?_
                  · try dsimp only
                    have h4 : x 4 = (.bool true) := hdep 4 (by kernel_rfl)
                    clear hq hdep hold
                    simp only [h4]
                    clear h4
                    rw [if_pos (by rfl)]
                    refine OpY.val (v := (.slice (some ⟨b2, o2, none⟩) ds.length cd)) ?_ ⟨Kept.refl _ _, rfl⟩
                    first | rfl | go_simp
                  refine Steps.cons (fun x wf Kk hq hdep hold => ?_) ?_
                  · try dsimp only
                    have h4 : x 4 = (.bool true) := hdep 4 (by kernel_rfl)
                    clear hq hdep hold
                    simp only [h4]
                    clear h4
                    rw [if_pos (by rfl)]
                    refine OpY.val (v := (.int .i64 (q : Int))) ?_ ⟨Kept.refl _ _, rfl⟩
                    first | rfl | go_simp
                  refine Steps.cons (fun x wf Kk hq hdep hold => ?_) ?_
                  · try dsimp only
                    have h5 : x 5 = (.slice (some ⟨b2, o2, none⟩) ds.length cd) := hdep 5 (by kernel_rfl)
                    have h6 : x 6 = (.int .i64 (q : Int)) := hdep 6 (by kernel_rfl)
                    have h4 : x 4 = (.bool true) := hdep 4 (by kernel_rfl)
                    clear hq hdep hold
                    simp only [h5, h6, h4]
                    clear h5 h6 h4
                    rw [if_pos (by rfl)]
                    refine OpY.val (v := (.pointer (some ⟨b2, o2 + q * 32, none⟩))) ?_ ⟨Kept.refl _ _, rfl⟩
                    first | rfl | go_simp
                  refine Steps.cons (fun x wf Kk hq hdep hold => ?_) ?_
                  · try dsimp only
                    have h7 : x 7 = (.pointer (some ⟨b2, o2 + q * 32, none⟩)) := hdep 7 (by kernel_rfl)
                    have h4 : x 4 = (.bool true) := hdep 4 (by kernel_rfl)
                    clear hq hdep hold
                    simp only [h7, h4]
                    clear h7 h4
                    rw [if_pos (by rfl)]
                    exact OpY.row 43 _ rfl b2 (o2 + q * 32) rfl M _ (Kk.undrew.rng hrg.out) hun rfl infM.out ⟨Kept.refl _ _, rfl⟩
                  refine Steps.cons (fun x wf Kk hq hdep hold => ?_) ?_
                  · try dsimp only
                    have h4 : x 4 = (.bool true) := hdep 4 (by kernel_rfl)
                    clear hq hdep hold
                    simp only [h4]
                    clear h4
                    rw [if_pos (by rfl)]
                    exact OpY.row 43 _ rfl g 0 rfl Lc _ (Kk.undrew.rng (hK2.out.rng hgL.out)) hun rfl infLc.out ⟨Kept.refl _ _, rfl⟩
                  refine Steps.cons (fun x wf Kk hq hdep hold => ?_) ?_
                  · try dsimp only
                    have h8 : x 8 = (.agg M.toArray) := hdep 8 (by kernel_rfl)
                    have h9 : x 9 = (.agg Lc.toArray) := hdep 9 (by kernel_rfl)
                    have h4 : x 4 = (.bool true) := hdep 4 (by kernel_rfl)
                    clear hq hdep hold
                    simp only [h8, h9, h4]
                    clear h8 h9 h4
                    rw [if_pos (by rfl)]
                    refine OpY.call (f := 24) (args := #[(.agg M.toArray), (.agg Lc.toArray)]) (by go_simp) ?_
                    refine (HLx.out _).mono ?_
                    rintro e w2 ⟨rfl, k2⟩
                    exact ⟨_, rfl, k2, rfl⟩
                  refine Steps.cons (fun x wf Kk hq hdep hold => ?_) ?_
                  · try dsimp only
                    have h4 : x 4 = (.bool true) := hdep 4 (by kernel_rfl)
                    have h10 : x 10 = (.bool true) := hdep 10 (by kernel_rfl)
                    clear hq hdep hold
                    simp only [h4, h10]
                    clear h4 h10
                    rw [if_pos (by rfl)]
                    refine OpY.val (v := (.bool true)) ?_ ⟨Kept.refl _ _, rfl⟩
                    first | rfl | go_simp
                  exact Steps.nil _
                · intro x wf Kk hv
                  try dsimp only
                  have h0 : x 0 = (.int .i64 (q : Int)) := hv 0 (by kernel_rfl)
                  have h1 : x 1 = (.slice (some ⟨b2, o2, none⟩) ds.length cd) := hv 1 (by kernel_rfl)
                  have h2 : x 2 = (.int .i64 (ds.length : Int)) := hv 2 (by kernel_rfl)
                  have h3 : x 3 = (.bool true) := hv 3 (by kernel_rfl)
                  have h4 : x 4 = (.bool true) := hv 4 (by kernel_rfl)
                  have h5 : x 5 = (.slice (some ⟨b2, o2, none⟩) ds.length cd) := hv 5 (by kernel_rfl)
                  have h6 : x 6 = (.int .i64 (q : Int)) := hv 6 (by kernel_rfl)
                  have h7 : x 7 = (.pointer (some ⟨b2, o2 + q * 32, none⟩)) := hv 7 (by kernel_rfl)
                  have h8 : x 8 = (.agg M.toArray) := hv 8 (by kernel_rfl)
                  have h9 : x 9 = (.agg Lc.toArray) := hv 9 (by kernel_rfl)
                  have h10 : x 10 = (.bool true) := hv 10 (by kernel_rfl)
                  have h11 : x 11 = (.bool true) := hv 11 (by kernel_rfl)
                  clear hv
                  simp only [h0, h1, h2, h3, h4, h5, h6, h7, h8, h9, h10, h11]
                  clear h0 h1 h2 h3 h4 h5 h6 h7 h8 h9 h10 h11
                  have hK3 := hid (hK2.out.trans' Kk.undrew)
                  clear Kk hK2 hrg HLx infM
                  go_wp2
                  go_roundw
                  case rel => first | exact ⟨q + 1, by omega, by go_num, hnx, hK3⟩ | ((repeat apply Exists.intro); exact ⟨⟨q + 1, by omega, by go_num, hnx, hK3⟩, rfl⟩)
                  case measure => simp [intOf]; omega
              | false =>
                have hin := hid (hins.out rfl)
                clear hnext hins hqt
                go_upto_region 10 with fail
                refine region_flow (S := no) (Sl := (fun _ => no)) [Is (.int .i64 (q : Int)), Is (.slice (some ⟨b2, o2, none⟩) ds.length cd), Is (.int .i64 (ds.length : Int)), Is (.bool true), Is (.bool true), Is (.slice (some ⟨b2, o2, none⟩) ds.length cd), Is (.int .i64 (q : Int)), Is (.pointer (some ⟨b2, o2 + q * 32, none⟩)), Is (.agg M.toArray), Is (.agg Lc.toArray), Is (.bool false), Is (.bool false)] [] (fun _ _ h => h) _ (by kernel_rfl) (by kernel_rfl) (by kernel_rfl) (by kernel_rfl) (fun x => by simp only [puts, Act.put, List.map_cons, List.map_nil, Nat.zero_add, Nat.reduceAdd, List.setIfInBounds_toArray, List.set_cons_zero, List.set_cons_succ]; exact rfl) ?_ ?_
                · skip
                  refine Steps.cons (fun x wf Kk hq hdep hold => ?_) ?_
                  · try dsimp only
                    clear hq hdep hold
                    rw [if_pos (by rfl)]
                    refine OpY.val (v := (.int .i64 (q : Int))) ?_ ⟨Kept.refl _ _, rfl⟩
                    first | rfl | go_simp
                  refine Steps.cons (fun x wf Kk hq hdep hold => ?_) ?_
                  · try dsimp only
                    clear hq hdep hold
                    rw [if_pos (by rfl)]
                    refine OpY.val (v := (.slice (some ⟨b2, o2, none⟩) ds.length cd)) ?_ ⟨Kept.refl _ _, rfl⟩
                    first | rfl | go_simp
                  refine Steps.cons (fun x wf Kk hq hdep hold => ?_) ?_
                  · try dsimp only
                    have h1 : x 1 = (.slice (some ⟨b2, o2, none⟩) ds.length cd) := hdep 1 (by kernel_rfl)
                    clear hq hdep hold
                    simp only [h1]
                    clear h1
                    rw [if_pos (by rfl)]
                    refine OpY.val (v := (.int .i64 (ds.length : Int))) ?_ ⟨Kept.refl _ _, rfl⟩
                    first | rfl | go_simp
                  refine Steps.cons (fun x wf Kk hq hdep hold => ?_) ?_
                  · try dsimp only
                    have h0 : x 0 = (.int .i64 (q : Int)) := hdep 0 (by kernel_rfl)
                    have h2 : x 2 = (.int .i64 (ds.length : Int)) := hdep 2 (by kernel_rfl)
                    clear hq hdep hold
                    simp only [h0, h2]
                    clear h0 h2
                    rw [if_pos (by rfl)]
                    refine OpY.val (v := (.bool true)) ?_ ⟨Kept.refl _ _, rfl⟩
                    first | rfl | go_simp
                  refine Steps.cons (fun x wf Kk hq hdep hold => ?_) ?_
                  · try dsimp only
                    have h3 : x 3 = (.bool true) := hdep 3 (by kernel_rfl)
                    clear hq hdep hold
                    simp only [h3]
                    clear h3
                    rw [if_pos (by rfl)]
                    refine OpY.val (v := (.bool true)) ?_ ⟨Kept.refl _ _, rfl⟩
                    first | rfl | go_simp
                  refine Steps.cons (fun x wf Kk hq hdep hold => ?_) ?_
                  · try dsimp only
                    have h4 : x 4 = (.bool true) := hdep 4 (by kernel_rfl)
                    clear hq hdep hold
                    simp only [h4]
                    clear h4
                    rw [if_pos (by rfl)]
                    refine OpY.val (v := (.slice (some ⟨b2, o2, none⟩) ds.length cd)) ?_ ⟨Kept.refl _ _, rfl⟩
                    first | rfl | go_simp
                  refine Steps.cons (fun x wf Kk hq hdep hold => ?_) ?_
                  · try dsimp only
                    have h4 : x 4 = (.bool true) := hdep 4 (by kernel_rfl)
                    clear hq hdep hold
                    simp only [h4]
                    clear h4
                    rw [if_pos (by rfl)]
                    refine OpY.val (v := (.int .i64 (q : Int))) ?_ ⟨Kept.refl _ _, rfl⟩
                    first | rfl | go_simp
                  refine Steps.cons (fun x wf Kk hq hdep hold => ?_) ?_
                  · try dsimp only
                    have h5 : x 5 = (.slice (some ⟨b2, o2, none⟩) ds.length cd) := hdep 5 (by kernel_rfl)
                    have h6 : x 6 = (.int .i64 (q : Int)) := hdep 6 (by kernel_rfl)
                    have h4 : x 4 = (.bool true) := hdep 4 (by kernel_rfl)
                    clear hq hdep hold
                    simp only [h5, h6, h4]
                    clear h5 h6 h4
                    rw [if_pos (by rfl)]
                    refine OpY.val (v := (.pointer (some ⟨b2, o2 + q * 32, none⟩))) ?_ ⟨Kept.refl _ _, rfl⟩
                    first | rfl | go_simp
                  refine Steps.cons (fun x wf Kk hq hdep hold => ?_) ?_
                  · try dsimp only
                    have h7 : x 7 = (.pointer (some ⟨b2, o2 + q * 32, none⟩)) := hdep 7 (by kernel_rfl)
                    have h4 : x 4 = (.bool true) := hdep 4 (by kernel_rfl)
                    clear hq hdep hold
                    simp only [h7, h4]
                    clear h7 h4
                    rw [if_pos (by rfl)]
                    exact OpY.row 43 _ rfl b2 (o2 + q * 32) rfl M _ (Kk.undrew.rng hrg.out) hun rfl infM.out ⟨Kept.refl _ _, rfl⟩
                  refine Steps.cons (fun x wf Kk hq hdep hold => ?_) ?_
                  · try dsimp only
                    have h4 : x 4 = (.bool true) := hdep 4 (by kernel_rfl)
                    clear hq hdep hold
                    simp only [h4]
                    clear h4
                    rw [if_pos (by rfl)]
                    exact OpY.row 43 _ rfl g 0 rfl Lc _ (Kk.undrew.rng (hK2.out.rng hgL.out)) hun rfl infLc.out ⟨Kept.refl _ _, rfl⟩
                  refine Steps.cons (fun x wf Kk hq hdep hold => ?_) ?_
                  · try dsimp only
                    have h8 : x 8 = (.agg M.toArray) := hdep 8 (by kernel_rfl)
                    have h9 : x 9 = (.agg Lc.toArray) := hdep 9 (by kernel_rfl)
                    have h4 : x 4 = (.bool true) := hdep 4 (by kernel_rfl)
                    clear hq hdep hold
                    simp only [h8, h9, h4]
                    clear h8 h9 h4
                    rw [if_pos (by rfl)]
                    refine OpY.call (f := 24) (args := #[(.agg M.toArray), (.agg Lc.toArray)]) (by go_simp) ?_
                    refine (HLx.out _).mono ?_
                    rintro e w2 ⟨rfl, k2⟩
                    exact ⟨_, rfl, k2, rfl⟩
                  refine Steps.cons (fun x wf Kk hq hdep hold => ?_) ?_
                  · try dsimp only
                    have h4 : x 4 = (.bool true) := hdep 4 (by kernel_rfl)
                    have h10 : x 10 = (.bool false) := hdep 10 (by kernel_rfl)
                    clear hq hdep hold
                    simp only [h4, h10]
                    clear h4 h10
                    rw [if_pos (by rfl)]
                    refine OpY.val (v := (.bool false)) ?_ ⟨Kept.refl _ _, rfl⟩
                    first | rfl | go_simp
                  exact Steps.nil _
                · intro x wf Kk hv
                  try dsimp only
                  have h0 : x 0 = (.int .i64 (q : Int)) := hv 0 (by kernel_rfl)
                  have h1 : x 1 = (.slice (some ⟨b2, o2, none⟩) ds.length cd) := hv 1 (by kernel_rfl)
                  have h2 : x 2 = (.int .i64 (ds.length : Int)) := hv 2 (by kernel_rfl)
                  have h3 : x 3 = (.bool true) := hv 3 (by kernel_rfl)
                  have h4 : x 4 = (.bool true) := hv 4 (by kernel_rfl)
                  have h5 : x 5 = (.slice (some ⟨b2, o2, none⟩) ds.length cd) := hv 5 (by kernel_rfl)
                  have h6 : x 6 = (.int .i64 (q : Int)) := hv 6 (by kernel_rfl)
                  have h7 : x 7 = (.pointer (some ⟨b2, o2 + q * 32, none⟩)) := hv 7 (by kernel_rfl)
                  have h8 : x 8 = (.agg M.toArray) := hv 8 (by kernel_rfl)
                  have h9 : x 9 = (.agg Lc.toArray) := hv 9 (by kernel_rfl)
                  have h10 : x 10 = (.bool false) := hv 10 (by kernel_rfl)
                  have h11 : x 11 = (.bool false) := hv 11 (by kernel_rfl)
                  clear hv
                  simp only [h0, h1, h2, h3, h4, h5, h6, h7, h8, h9, h10, h11]
                  clear h0 h1 h2 h3 h4 h5 h6 h7 h8 h9 h10 h11
                  have hK3 := hid (hK2.out.trans' Kk.undrew)
                  clear Kk hK2 hrg HLx infM
                  obtain ⟨w2, rfl⟩ : ∃ w2 : World, w2 = wf := ⟨_, rfl⟩
                  have hO2 := hid (hO1.out.keptNo hK3.out)
                  have hgL2 := hid (hK3.out.rng hgL.out)
                  have hds32 := hid hO2.out.len
                  have hT1 := hid (hO2.out.rd.takeR q hq)
                  have hT2 := hid (hO2.out.rd.dropR q hq)
                  have hsl1 := pre_sliceD (some ⟨b2, o2, none⟩) ds.length cd q hO2.out.rd.addr (by omega)
                  have hsl2 := post_sliceD (some ⟨b2, o2, none⟩) ds.length cd q hq
                  have hlt1 : Hd ((ds.take q).length = q) := ⟨by rw [List.length_take, Nat.min_eq_left hq]⟩
                  have hlt2 : Hd ((ds.drop q).length = ds.length - q) := ⟨List.length_drop⟩
                  have hd1' : Hd (∀ d ∈ ds.take q, d.length = 32) := ⟨fun d hd => hds32.out d (List.mem_of_mem_take hd)⟩
                  have hd2' : Hd (∀ d ∈ ds.drop q, d.length = 32) := ⟨fun d hd => hds32.out d (List.mem_of_mem_drop hd)⟩
                  have hls : Hd (q + 1 + (ds.length - q) ≤ maxLen ∧ (q + 1 + (ds.length - q)) * 32 ≤ 140737488355328) := ⟨by have := hdl.out; have hm : maxLen = 9223372036854775807 := rfl; omega⟩
                  generalize ds.take q = d1 at hT1 hlt1 hd1' hin
                  generalize ds.drop q = d2 at hT2 hlt2 hd2' hin
                  generalize (if cd = q then (some ⟨b2, o2, none⟩) else ((some ⟨b2, o2, none⟩) : Option Addr).map (·.add (q * 32))) = ad2 at hsl2 hT2
                  obtain ⟨km, hkm⟩ : ∃ km, ds.length - q = km := ⟨_, rfl⟩
                  rw [hkm] at hsl2 hT2 hlt2 hls
                  generalize cd - q = cd2 at hsl2 hT2
                  replace hkm := hid hkm
                  have hKW2 := hid hO2.out.kept
                  clear hO1 hK3 hO2 hds32
                  go_upto_region 12 with fail
                  refine region_flow (S := (fun j => w2.heap.size ≤ j)) (Sl := (fun _ => (fun j => w2.heap.size ≤ j))) [Is (.slice (some ⟨b2, o2, none⟩) ds.length cd), Is (.int .i64 (q : Int)), Is (.slice (some ⟨b2, o2, none⟩) q cd), OwDs w2 d1, Is (.agg Lc.toArray), RdIs 32 1 Lc, OwDs w2 (d1 ++ [C]), Is (.slice (some ⟨b2, o2, none⟩) ds.length cd), Is (.int .i64 (q : Int)), Is (.slice ad2 km cd2), OwDs w2 (d1 ++ [C] ++ d2), OwDs w2 (d1 ++ [C] ++ d2)] [6, 10] (fun _ _ h => h) _ (by kernel_rfl) (by kernel_rfl) (by kernel_rfl) (by kernel_rfl) (fun x => by simp only [puts, Act.put, List.map_cons, List.map_nil, Nat.zero_add, Nat.reduceAdd, List.setIfInBounds_toArray, List.set_cons_zero, List.set_cons_succ]; exact rfl) ?_ ?_
                  · skip
                    refine Steps.cons (fun x wf Kk hq hdep hold => ?_) ?_
                    · try dsimp only
                      have h11 : x 11 = (.slice (some ⟨b2, o2, none⟩) ds.length cd) := hold 11 (by kernel_rfl)
                      clear hq hdep hold
                      simp only [h11]
                      clear h11
                      rw [if_pos (by rfl)]
                      refine OpY.val (v := (.slice (some ⟨b2, o2, none⟩) ds.length cd)) ?_ ⟨Kept.refl _ _, rfl⟩
                      first | rfl | go_simp
                    refine Steps.cons (fun x wf Kk hq hdep hold => ?_) ?_
                    · try dsimp only
                      clear hq hdep hold
                      rw [if_pos (by rfl)]
                      refine OpY.val (v := (.int .i64 (q : Int))) ?_ ⟨Kept.refl _ _, rfl⟩
                      first | rfl | go_simp
                    refine Steps.cons (fun x wf Kk hq hdep hold => ?_) ?_
                    · try dsimp only
                      have h0 : x 0 = (.slice (some ⟨b2, o2, none⟩) ds.length cd) := hdep 0 (by kernel_rfl)
                      have h1 : x 1 = (.int .i64 (q : Int)) := hdep 1 (by kernel_rfl)
                      clear hq hdep hold
                      simp only [h0, h1]
                      clear h0 h1
                      rw [if_pos (by rfl)]
                      refine OpY.val (v := (.slice (some ⟨b2, o2, none⟩) q cd)) ?_ ⟨Kept.refl _ _, rfl⟩
                      first | rfl | go_simp
                    refine Steps.cons (fun x wf Kk hq hdep hold => ?_) ?_
                    · try dsimp only
                      have h2 : x 2 = (.slice (some ⟨b2, o2, none⟩) q cd) := hdep 2 (by kernel_rfl)
                      clear hq hdep hold
                      simp only [h2]
                      clear h2
                      rw [if_pos (by rfl)]
                      refine OpY.append (.const (.slice none 0 0)) (.tmp 62) 34 _ rfl rfl 43 32 32 TDigs (.slice none 0 0) 0 [] rfl (World.ownsRow_nil _ _ _ _) (.slice (some ⟨b2, o2, none⟩) q cd) q (flatD d1) rfl (hT1.out.keptNo Kk.freshD.undrew) flatD_one (by have := hls.out.1; omega) (by have := hls.out.2; omega) ?_
                      intro v2 w3 h2 h3 h4 _
                      have hk2 := Kept.ob_nil h3
                      exact ⟨hk2, by rw [hlt1.out]; simpa using h2, hd1'.out, Kk.freshD.undrew.trans' hk2, (newOr_nilD h4).imp id fun ⟨j, e, hj⟩ => ⟨j, e, Nat.le_trans Kk.freshD.undrew.size hj⟩⟩
                    refine Steps.cons (fun x wf Kk hq hdep hold => ?_) ?_
                    · try dsimp only
                      clear hq hdep hold
                      rw [if_pos (by rfl)]
                      exact OpY.row 43 _ rfl g 0 rfl Lc _ (Kk.freshD.undrew.rng hgL2.out) hun rfl infLc.out ⟨Kept.refl _ _, rfl⟩
                    refine Steps.cons (fun x wf Kk hq hdep hold => ?_) ?_
                    · try dsimp only
                      have h4 : x 4 = (.agg Lc.toArray) := hdep 4 (by kernel_rfl)
                      clear hq hdep hold
                      simp only [h4]
                      clear h4
                      rw [if_pos (by rfl)]
                      refine OpY.build 34 43 1 _ rfl 32 (.agg Z32) Tryd.underlying34 (by kernel_rfl) (by decide) (by decide) Lc _ rfl hfill.out lLc.out (by decide) (fun w' hg k ho => ⟨k, Rd.of_own ho⟩)
                    refine Steps.cons (fun x wf Kk hq hdep hold => ?_) ?_
                    · try dsimp only
                      have p3 : Pr.p (Sl := (fun _ => (fun j => w2.heap.size ≤ j))) (OwDs w2 d1) (x 3) wf := hdep 3 (by kernel_rfl)
                      have p5 : Pr.p (Sl := (fun _ => (fun j => w2.heap.size ≤ j))) (RdIs 32 1 Lc) (x 5) wf := hdep 5 (by kernel_rfl)
                      clear hq hdep hold
                      rw [if_pos (by rfl)]
                      refine OpY.append (.tmp 63) (.tmp 65) 34 _ rfl rfl 43 32 32 TDigs (x 3) _ _ rfl p3.own (x 5) 1 Lc rfl p5 oneLc.out (by rw [hlt1.out]; have := hls.out.1; omega) (by rw [hlt1.out]; have := hls.out.2; omega) ?_
                      intro v2 w3 h2 h3 h4 _
                      exact ⟨h3.mono fun j _ h => p3.new.frD j h, p3.add hC32.out hLc.out h2 h3 h4⟩
                    refine Steps.cons (fun x wf Kk hq hdep hold => ?_) ?_
                    · try dsimp only
                      have h11 : x 11 = (.slice (some ⟨b2, o2, none⟩) ds.length cd) := hold 11 (by kernel_rfl)
                      clear hq hdep hold
                      simp only [h11]
                      clear h11
                      rw [if_pos (by rfl)]
                      refine OpY.val (v := (.slice (some ⟨b2, o2, none⟩) ds.length cd)) ?_ ⟨Kept.refl _ _, rfl⟩
                      first | rfl | go_simp
                    refine Steps.cons (fun x wf Kk hq hdep hold => ?_) ?_
                    · try dsimp only
                      clear hq hdep hold
                      rw [if_pos (by rfl)]
                      refine OpY.val (v := (.int .i64 (q : Int))) ?_ ⟨Kept.refl _ _, rfl⟩
                      first | rfl | go_simp
                    refine Steps.cons (fun x wf Kk hq hdep hold => ?_) ?_
                    · try dsimp only
                      have h7 : x 7 = (.slice (some ⟨b2, o2, none⟩) ds.length cd) := hdep 7 (by kernel_rfl)
                      have h8 : x 8 = (.int .i64 (q : Int)) := hdep 8 (by kernel_rfl)
                      clear hq hdep hold
                      simp only [h7, h8]
                      clear h7 h8
                      rw [if_pos (by rfl)]
                      refine OpY.val (v := (.slice ad2 km cd2)) ?_ ⟨Kept.refl _ _, rfl⟩
                      first | rfl | go_simp
                    refine Steps.cons (fun x wf Kk hq hdep hold => ?_) ?_
                    · try dsimp only
                      have p6 : Pr.p (Sl := (fun _ => (fun j => w2.heap.size ≤ j))) (OwDs w2 (d1 ++ [C])) (x 6) wf := hdep 6 (by kernel_rfl)
                      have h9 : x 9 = (.slice ad2 km cd2) := hdep 9 (by kernel_rfl)
                      clear hq hdep hold
                      simp only [h9]
                      clear h9
                      rw [if_pos (by rfl)]
                      have e1 : (d1 ++ [C]).length = q + 1 := by rw [List.length_append, hlt1.out]; rfl
                      refine OpY.append (.tmp 66) (.tmp 69) 34 _ rfl rfl 43 32 32 TDigs (x 6) _ _ rfl p6.own (.slice ad2 km cd2) km (flatD d2) rfl (hT2.out.keptNo Kk.freshD.undrew) flatD_one (by rw [e1]; exact hls.out.1) (by rw [e1]; exact hls.out.2) ?_
                      intro v2 w3 h2 h3 h4 _
                      exact ⟨h3.mono fun j _ h => p6.new.frD j h, p6.app hlt2.out hd2'.out h2 h3 h4⟩
                    refine Steps.cons (fun x wf Kk hq hdep hold => ?_) ?_
                    · try dsimp only
                      have p10 : Pr.p (Sl := (fun _ => (fun j => w2.heap.size ≤ j))) (OwDs w2 (d1 ++ [C] ++ d2)) (x 10) wf := hdep 10 (by kernel_rfl)
                      clear hq hdep hold
                      rw [if_pos (by rfl)]
                      exact OpY.val (v := x 10) rfl ⟨Kept.refl _ _, p10⟩
                    exact Steps.nil _
                  · intro x wf Kk hv
                    try dsimp only
                    have h0 : x 0 = (.slice (some ⟨b2, o2, none⟩) ds.length cd) := hv 0 (by kernel_rfl)
                    have h1 : x 1 = (.int .i64 (q : Int)) := hv 1 (by kernel_rfl)
                    have h2 : x 2 = (.slice (some ⟨b2, o2, none⟩) q cd) := hv 2 (by kernel_rfl)
                    have h4 : x 4 = (.agg Lc.toArray) := hv 4 (by kernel_rfl)
                    have h7 : x 7 = (.slice (some ⟨b2, o2, none⟩) ds.length cd) := hv 7 (by kernel_rfl)
                    have h8 : x 8 = (.int .i64 (q : Int)) := hv 8 (by kernel_rfl)
                    have h9 : x 9 = (.slice ad2 km cd2) := hv 9 (by kernel_rfl)
                    have p11 : Pr.p (Sl := (fun _ => (fun j => w2.heap.size ≤ j))) (OwDs w2 (d1 ++ [C] ++ d2)) (x 11) wf := hv 11 (by kernel_rfl)
                    clear hv
                    simp only [h0, h1, h2, h4, h7, h8, h9]
                    clear h0 h1 h2 h4 h7 h8 h9
                    have hO3 : Hd (OwD w wf (x 11) (insD C ds)) := ⟨by rw [hin.out]; exact OwD.from_ p11 hKW2.out⟩
                    generalize x 11 = v' at hO3 ⊢
                    clear p11 Kk hKW2 hgL2 hT1 hT2 hsl1 hsl2 hlt1 hlt2 hd1' hd2' hls hkm hgL hfill oneLc oneLa infLc lLc hHL hin
                    go_wp2
                    refine ⟨?_, by simp [intOf]; omega⟩
                    first | exact ⟨k + 1, _, by omega, by go_num, hdk1, hd1, hO3⟩ | ((repeat apply Exists.intro); exact ⟨⟨k + 1, _, by omega, by go_num, hdk1, hd1, hO3⟩, rfl⟩)
            · obtain rfl : q = ds.length := by omega
              have hq1 : ¬ (ds.length : Int) < (ds.length : Int) := by omega
              have hin := hid (insD_at (C := C) hqt.out (.inl rfl))
              clear hqt
              go_upto_region 10 with fail
              refine region_flow (S := no) (Sl := (fun _ => no)) [Is (.int .i64 (ds.length : Int)), Is (.slice ad ds.length cd), Is (.int .i64 (ds.length : Int)), Is (.bool false), Is (.bool false), Is undef, Is undef, Is undef, Is undef, Is undef, Is undef, Is (.bool false)] [] (fun _ _ h => h) _ (by kernel_rfl) (by kernel_rfl) (by kernel_rfl) (by kernel_rfl) (fun x => by simp only [puts, Act.put, List.map_cons, List.map_nil, Nat.zero_add, Nat.reduceAdd, List.setIfInBounds_toArray, List.set_cons_zero, List.set_cons_succ]; exact rfl) ?_ ?_
              · skip
                refine Steps.cons (fun x wf Kk hq hdep hold => ?_) ?_
                · try dsimp only
                  clear hq hdep hold
                  rw [if_pos (by rfl)]
                  refine OpY.val (v := (.int .i64 (ds.length : Int))) ?_ ⟨Kept.refl _ _, rfl⟩
                  first | rfl | go_simp
                refine Steps.cons (fun x wf Kk hq hdep hold => ?_) ?_
                · try dsimp only
                  clear hq hdep hold
                  rw [if_pos (by rfl)]
                  refine OpY.val (v := (.slice ad ds.length cd)) ?_ ⟨Kept.refl _ _, rfl⟩
                  first | rfl | go_simp
                refine Steps.cons (fun x wf Kk hq hdep hold => ?_) ?_
                · try dsimp only
                  have h1 : x 1 = (.slice ad ds.length cd) := hdep 1 (by kernel_rfl)
                  clear hq hdep hold
                  simp only [h1]
                  clear h1
                  rw [if_pos (by rfl)]
                  refine OpY.val (v := (.int .i64 (ds.length : Int))) ?_ ⟨Kept.refl _ _, rfl⟩
                  first | rfl | go_simp
                refine Steps.cons (fun x wf Kk hq hdep hold => ?_) ?_
                · try dsimp only
                  have h0 : x 0 = (.int .i64 (ds.length : Int)) := hdep 0 (by kernel_rfl)
                  have h2 : x 2 = (.int .i64 (ds.length : Int)) := hdep 2 (by kernel_rfl)
                  clear hq hdep hold
                  simp only [h0, h2]
                  clear h0 h2
                  rw [if_pos (by rfl)]
                  refine OpY.val (v := (.bool false)) ?_ ⟨Kept.refl _ _, rfl⟩
                  first | rfl | go_simp
                refine Steps.cons (fun x wf Kk hq hdep hold => ?_) ?_
                · try dsimp only
                  have h3 : x 3 = (.bool false) := hdep 3 (by kernel_rfl)
                  clear hq hdep hold
                  simp only [h3]
                  clear h3
                  rw [if_pos (by rfl)]
                  refine OpY.val (v := (.bool false)) ?_ ⟨Kept.refl _ _, rfl⟩
                  first | rfl | go_simp
                refine Steps.cons (fun x wf Kk hq hdep hold => ?_) ?_
                · try dsimp only
                  have h4 : x 4 = (.bool false) := hdep 4 (by kernel_rfl)
                  clear hq hdep hold
                  simp only [h4]
                  clear h4
                  first | rw [if_neg (by decide)] | rw [if_neg (by intro h; exact absurd (h.symm.trans (show Region.wanted _ _ = false from rfl)) (by decide))]
                  exact rfl
                refine Steps.cons (fun x wf Kk hq hdep hold => ?_) ?_
                · try dsimp only
                  have h4 : x 4 = (.bool false) := hdep 4 (by kernel_rfl)
                  clear hq hdep hold
                  simp only [h4]
                  clear h4
                  first | rw [if_neg (by decide)] | rw [if_neg (by intro h; exact absurd (h.symm.trans (show Region.wanted _ _ = false from rfl)) (by decide))]
                  exact rfl
                refine Steps.cons (fun x wf Kk hq hdep hold => ?_) ?_
                · try dsimp only
                  have h4 : x 4 = (.bool false) := hdep 4 (by kernel_rfl)
                  clear hq hdep hold
                  simp only [h4]
                  clear h4
                  first | rw [if_neg (by decide)] | rw [if_neg (by intro h; exact absurd (h.symm.trans (show Region.wanted _ _ = false from rfl)) (by decide))]
                  exact rfl
                refine Steps.cons (fun x wf Kk hq hdep hold => ?_) ?_
                · try dsimp only
                  have h4 : x 4 = (.bool false) := hdep 4 (by kernel_rfl)
                  clear hq hdep hold
                  simp only [h4]
                  clear h4
                  first | rw [if_neg (by decide)] | rw [if_neg (by intro h; exact absurd (h.symm.trans (show Region.wanted _ _ = false from rfl)) (by decide))]
                  exact rfl
                refine Steps.cons (fun x wf Kk hq hdep hold => ?_) ?_
                · try dsimp only
                  have h4 : x 4 = (.bool false) := hdep 4 (by kernel_rfl)
                  clear hq hdep hold
                  simp only [h4]
                  clear h4
                  first | rw [if_neg (by decide)] | rw [if_neg (by intro h; exact absurd (h.symm.trans (show Region.wanted _ _ = false from rfl)) (by decide))]
                  exact rfl
                refine Steps.cons (fun x wf Kk hq hdep hold => ?_) ?_
                · try dsimp only
                  have h4 : x 4 = (.bool false) := hdep 4 (by kernel_rfl)
                  clear hq hdep hold
                  simp only [h4]
                  clear h4
                  first | rw [if_neg (by decide)] | rw [if_neg (by intro h; exact absurd (h.symm.trans (show Region.wanted _ _ = false from rfl)) (by decide))]
                  exact rfl
                refine Steps.cons (fun x wf Kk hq hdep hold => ?_) ?_
                · try dsimp only
                  have h4 : x 4 = (.bool false) := hdep 4 (by kernel_rfl)
                  have h10 : x 10 = undef := hdep 10 (by kernel_rfl)
                  clear hq hdep hold
                  simp only [h4, h10]
                  clear h4 h10
                  rw [if_pos (by rfl)]
                  refine OpY.val (v := (.bool false)) ?_ ⟨Kept.refl _ _, rfl⟩
                  first | rfl | go_simp
                exact Steps.nil _
              · intro x wf Kk hv
                try dsimp only
                have h0 : x 0 = (.int .i64 (ds.length : Int)) := hv 0 (by kernel_rfl)
                have h1 : x 1 = (.slice ad ds.length cd) := hv 1 (by kernel_rfl)
                have h2 : x 2 = (.int .i64 (ds.length : Int)) := hv 2 (by kernel_rfl)
                have h3 : x 3 = (.bool false) := hv 3 (by kernel_rfl)
                have h4 : x 4 = (.bool false) := hv 4 (by kernel_rfl)
                have h5 : x 5 = undef := hv 5 (by kernel_rfl)
                have h6 : x 6 = undef := hv 6 (by kernel_rfl)
                have h7 : x 7 = undef := hv 7 (by kernel_rfl)
                have h8 : x 8 = undef := hv 8 (by kernel_rfl)
                have h9 : x 9 = undef := hv 9 (by kernel_rfl)
                have h10 : x 10 = undef := hv 10 (by kernel_rfl)
                have h11 : x 11 = (.bool false) := hv 11 (by kernel_rfl)
                clear hv
                simp only [h0, h1, h2, h3, h4, h5, h6, h7, h8, h9, h10, h11]
                clear h0 h1 h2 h3 h4 h5 h6 h7 h8 h9 h10 h11
                have hK3 := hid (hK2.out.trans' Kk.undrew)
                clear Kk hK2 hq1
                obtain ⟨w2, rfl⟩ : ∃ w2 : World, w2 = wf := ⟨_, rfl⟩
                have hO2 := hid (hO1.out.keptNo hK3.out)
                have hgL2 := hid (hK3.out.rng hgL.out)
                have hds32 := hid hO2.out.len
                have hT1 := hid (hO2.out.rd.takeR ds.length hq)
                have hT2 := hid (hO2.out.rd.dropR ds.length hq)
                have hsl1 := pre_sliceD ad ds.length cd ds.length hO2.out.rd.addr (by omega)
                have hsl2 := post_sliceD ad ds.length cd ds.length hq
                have hlt1 : Hd ((ds.take ds.length).length = ds.length) := ⟨by rw [List.length_take, Nat.min_eq_left hq]⟩
                have hlt2 : Hd ((ds.drop ds.length).length = ds.length - ds.length) := ⟨List.length_drop⟩
                have hd1' : Hd (∀ d ∈ ds.take ds.length, d.length = 32) := ⟨fun d hd => hds32.out d (List.mem_of_mem_take hd)⟩
                have hd2' : Hd (∀ d ∈ ds.drop ds.length, d.length = 32) := ⟨fun d hd => hds32.out d (List.mem_of_mem_drop hd)⟩
                have hls : Hd (ds.length + 1 + (ds.length - ds.length) ≤ maxLen ∧ (ds.length + 1 + (ds.length - ds.length)) * 32 ≤ 140737488355328) := ⟨by have := hdl.out; have hm : maxLen = 9223372036854775807 := rfl; omega⟩
                generalize ds.take ds.length = d1 at hT1 hlt1 hd1' hin
                generalize ds.drop ds.length = d2 at hT2 hlt2 hd2' hin
                generalize (if cd = ds.length then ad else (ad : Option Addr).map (·.add (ds.length * 32))) = ad2 at hsl2 hT2
                obtain ⟨km, hkm⟩ : ∃ km, ds.length - ds.length = km := ⟨_, rfl⟩
                rw [hkm] at hsl2 hT2 hlt2 hls
                generalize cd - ds.length = cd2 at hsl2 hT2
                replace hkm := hid hkm
                have hKW2 := hid hO2.out.kept
                clear hO1 hK3 hO2 hds32
                go_upto_region 12 with fail
                refine region_flow (S := (fun j => w2.heap.size ≤ j)) (Sl := (fun _ => (fun j => w2.heap.size ≤ j))) [Is (.slice ad ds.length cd), Is (.int .i64 (ds.length : Int)), Is (.slice ad ds.length cd), OwDs w2 d1, Is (.agg Lc.toArray), RdIs 32 1 Lc, OwDs w2 (d1 ++ [C]), Is (.slice ad ds.length cd), Is (.int .i64 (ds.length : Int)), Is (.slice ad2 km cd2), OwDs w2 (d1 ++ [C] ++ d2), OwDs w2 (d1 ++ [C] ++ d2)] [6, 10] (fun _ _ h => h) _ (by kernel_rfl) (by kernel_rfl) (by kernel_rfl) (by kernel_rfl) (fun x => by simp only [puts, Act.put, List.map_cons, List.map_nil, Nat.zero_add, Nat.reduceAdd, List.setIfInBounds_toArray, List.set_cons_zero, List.set_cons_succ]; exact rfl) ?_ ?_
                · skip
                  refine Steps.cons (fun x wf Kk hq hdep hold => ?_) ?_
                  · try dsimp only
                    have h11 : x 11 = (.slice ad ds.length cd) := hold 11 (by kernel_rfl)
                    clear hq hdep hold
                    simp only [h11]
                    clear h11
                    rw [if_pos (by rfl)]
                    refine OpY.val (v := (.slice ad ds.length cd)) ?_ ⟨Kept.refl _ _, rfl⟩
                    first | rfl | go_simp
                  refine Steps.cons (fun x wf Kk hq hdep hold => ?_) ?_
                  · try dsimp only
                    clear hq hdep hold
                    rw [if_pos (by rfl)]
                    refine OpY.val (v := (.int .i64 (ds.length : Int))) ?_ ⟨Kept.refl _ _, rfl⟩
                    first | rfl | go_simp
                  refine Steps.cons (fun x wf Kk hq hdep hold => ?_) ?_
                  · try dsimp only
                    have h0 : x 0 = (.slice ad ds.length cd) := hdep 0 (by kernel_rfl)
                    have h1 : x 1 = (.int .i64 (ds.length : Int)) := hdep 1 (by kernel_rfl)
                    clear hq hdep hold
                    simp only [h0, h1]
                    clear h0 h1
                    rw [if_pos (by rfl)]
                    refine OpY.val (v := (.slice ad ds.length cd)) ?_ ⟨Kept.refl _ _, rfl⟩
                    first | rfl | go_simp
                  refine Steps.cons (fun x wf Kk hq hdep hold => ?_) ?_
                  · try dsimp only
                    have h2 : x 2 = (.slice ad ds.length cd) := hdep 2 (by kernel_rfl)
                    clear hq hdep hold
                    simp only [h2]
                    clear h2
                    rw [if_pos (by rfl)]
                    refine OpY.append (.const (.slice none 0 0)) (.tmp 62) 34 _ rfl rfl 43 32 32 TDigs (.slice none 0 0) 0 [] rfl (World.ownsRow_nil _ _ _ _) (.slice ad ds.length cd) ds.length (flatD d1) rfl (hT1.out.keptNo Kk.freshD.undrew) flatD_one (by have := hls.out.1; omega) (by have := hls.out.2; omega) ?_
                    intro v2 w3 h2 h3 h4 _
                    have hk2 := Kept.ob_nil h3
                    exact ⟨hk2, by rw [hlt1.out]; simpa using h2, hd1'.out, Kk.freshD.undrew.trans' hk2, (newOr_nilD h4).imp id fun ⟨j, e, hj⟩ => ⟨j, e, Nat.le_trans Kk.freshD.undrew.size hj⟩⟩
                  refine Steps.cons (fun x wf Kk hq hdep hold => ?_) ?_
                  · try dsimp only
                    clear hq hdep hold
                    rw [if_pos (by rfl)]
                    exact OpY.row 43 _ rfl g 0 rfl Lc _ (Kk.freshD.undrew.rng hgL2.out) hun rfl infLc.out ⟨Kept.refl _ _, rfl⟩
                  refine Steps.cons (fun x wf Kk hq hdep hold => ?_) ?_
                  · try dsimp only
                    have h4 : x 4 = (.agg Lc.toArray) := hdep 4 (by kernel_rfl)
                    clear hq hdep hold
                    simp only [h4]
                    clear h4
                    rw [if_pos (by rfl)]
                    refine OpY.build 34 43 1 _ rfl 32 (.agg Z32) Tryd.underlying34 (by kernel_rfl) (by decide) (by decide) Lc _ rfl hfill.out lLc.out (by decide) (fun w' hg k ho => ⟨k, Rd.of_own ho⟩)
                  refine Steps.cons (fun x wf Kk hq hdep hold => ?_) ?_
                  · try dsimp only
                    have p3 : Pr.p (Sl := (fun _ => (fun j => w2.heap.size ≤ j))) (OwDs w2 d1) (x 3) wf := hdep 3 (by kernel_rfl)
                    have p5 : Pr.p (Sl := (fun _ => (fun j => w2.heap.size ≤ j))) (RdIs 32 1 Lc) (x 5) wf := hdep 5 (by kernel_rfl)
                    clear hq hdep hold
                    rw [if_pos (by rfl)]
                    refine OpY.append (.tmp 63) (.tmp 65) 34 _ rfl rfl 43 32 32 TDigs (x 3) _ _ rfl p3.own (x 5) 1 Lc rfl p5 oneLc.out (by rw [hlt1.out]; have := hls.out.1; omega) (by rw [hlt1.out]; have := hls.out.2; omega) ?_
                    intro v2 w3 h2 h3 h4 _
                    exact ⟨h3.mono fun j _ h => p3.new.frD j h, p3.add hC32.out hLc.out h2 h3 h4⟩
                  refine Steps.cons (fun x wf Kk hq hdep hold => ?_) ?_
                  · try dsimp only
                    have h11 : x 11 = (.slice ad ds.length cd) := hold 11 (by kernel_rfl)
                    clear hq hdep hold
                    simp only [h11]
                    clear h11
                    rw [if_pos (by rfl)]
                    refine OpY.val (v := (.slice ad ds.length cd)) ?_ ⟨Kept.refl _ _, rfl⟩
                    first | rfl | go_simp
                  refine Steps.cons (fun x wf Kk hq hdep hold => ?_) ?_
                  · try dsimp only
                    clear hq hdep hold
                    rw [if_pos (by rfl)]
                    refine OpY.val (v := (.int .i64 (ds.length : Int))) ?_ ⟨Kept.refl _ _, rfl⟩
                    first | rfl | go_simp
                  refine Steps.cons (fun x wf Kk hq hdep hold => ?_) ?_
                  · try dsimp only
                    have h7 : x 7 = (.slice ad ds.length cd) := hdep 7 (by kernel_rfl)
                    have h8 : x 8 = (.int .i64 (ds.length : Int)) := hdep 8 (by kernel_rfl)
                    clear hq hdep hold
                    simp only [h7, h8]
                    clear h7 h8
                    rw [if_pos (by rfl)]
                    refine OpY.val (v := (.slice ad2 km cd2)) ?_ ⟨Kept.refl _ _, rfl⟩
                    first | rfl | go_simp
                  refine Steps.cons (fun x wf Kk hq hdep hold => ?_) ?_
                  · try dsimp only
                    have p6 : Pr.p (Sl := (fun _ => (fun j => w2.heap.size ≤ j))) (OwDs w2 (d1 ++ [C])) (x 6) wf := hdep 6 (by kernel_rfl)
                    have h9 : x 9 = (.slice ad2 km cd2) := hdep 9 (by kernel_rfl)
                    clear hq hdep hold
                    simp only [h9]
                    clear h9
                    rw [if_pos (by rfl)]
                    have e1 : (d1 ++ [C]).length = ds.length + 1 := by rw [List.length_append, hlt1.out]; rfl
                    refine OpY.append (.tmp 66) (.tmp 69) 34 _ rfl rfl 43 32 32 TDigs (x 6) _ _ rfl p6.own (.slice ad2 km cd2) km (flatD d2) rfl (hT2.out.keptNo Kk.freshD.undrew) flatD_one (by rw [e1]; exact hls.out.1) (by rw [e1]; exact hls.out.2) ?_
                    intro v2 w3 h2 h3 h4 _
                    exact ⟨h3.mono fun j _ h => p6.new.frD j h, p6.app hlt2.out hd2'.out h2 h3 h4⟩
                  refine Steps.cons (fun x wf Kk hq hdep hold => ?_) ?_
                  · try dsimp only
                    have p10 : Pr.p (Sl := (fun _ => (fun j => w2.heap.size ≤ j))) (OwDs w2 (d1 ++ [C] ++ d2)) (x 10) wf := hdep 10 (by kernel_rfl)
                    clear hq hdep hold
                    rw [if_pos (by rfl)]
                    exact OpY.val (v := x 10) rfl ⟨Kept.refl _ _, p10⟩
                  exact Steps.nil _
                · intro x wf Kk hv
                  try dsimp only
                  have h0 : x 0 = (.slice ad ds.length cd) := hv 0 (by kernel_rfl)
                  have h1 : x 1 = (.int .i64 (ds.length : Int)) := hv 1 (by kernel_rfl)
                  have h2 : x 2 = (.slice ad ds.length cd) := hv 2 (by kernel_rfl)
                  have h4 : x 4 = (.agg Lc.toArray) := hv 4 (by kernel_rfl)
                  have h7 : x 7 = (.slice ad ds.length cd) := hv 7 (by kernel_rfl)
                  have h8 : x 8 = (.int .i64 (ds.length : Int)) := hv 8 (by kernel_rfl)
                  have h9 : x 9 = (.slice ad2 km cd2) := hv 9 (by kernel_rfl)
                  have p11 : Pr.p (Sl := (fun _ => (fun j => w2.heap.size ≤ j))) (OwDs w2 (d1 ++ [C] ++ d2)) (x 11) wf := hv 11 (by kernel_rfl)
                  clear hv
                  simp only [h0, h1, h2, h4, h7, h8, h9]
                  clear h0 h1 h2 h4 h7 h8 h9
                  have hO3 : Hd (OwD w wf (x 11) (insD C ds)) := ⟨by rw [hin.out]; exact OwD.from_ p11 hKW2.out⟩
                  generalize x 11 = v' at hO3 ⊢
                  clear p11 Kk hKW2 hgL2 hT1 hT2 hsl1 hsl2 hlt1 hlt2 hd1' hd2' hls hkm hgL hfill oneLc oneLa infLc lLc hHL hin
                  go_wp2
                  refine ⟨?_, by simp [intOf]; omega⟩
                  first | exact ⟨k + 1, _, by omega, by go_num, hdk1, hd1, hO3⟩ | ((repeat apply Exists.intro); exact ⟨⟨k + 1, _, by omega, by go_num, hdk1, hd1, hO3⟩, rfl⟩)
    · obtain rfl : k = n := by omega
      have hfin : Hd (ds = sortD (coms s.data.toList c (itms l))) := ⟨by rw [hds.out, List.take_of_length_le (by rw [hlen.out]; exact Nat.le_refl _)]⟩
      clear hds hdk
      go_wp2
      go_ret2
      exact ⟨_, rfl, by rw [← hfin.out]; exact hO.out⟩
end Go.Proofs.YtggcbjchnefhfaaDoor
