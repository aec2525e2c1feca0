/- electionmake.Ballots (printed by gen_gen.py). -/
import Derived.Test.YtmigdhbolbhbeaaGen1
namespace Go.Pil
theorem bals_take {n : Int} {ls : List (List Int)} {k : Nat} {p : List Int} (hp : ls[k]? = some p) : bals n ls (k + 1) = bals n ls k ++ [bal n (p.take 12)] := by
  obtain ⟨hk, hgk⟩ := List.getElem?_eq_some_iff.1 hp
  unfold bals
  rw [List.take_succ_eq_append_getElem hk, hgk]; simp
theorem bals_all_of {n : Int} {ls : List (List Int)} {k : Nat} (h : ls.length ≤ k) (m : Nat) (hm : k ≤ m) : bals n ls m = bals n ls k := by
  unfold bals; rw [List.take_of_length_le (by omega), List.take_of_length_le h]
end Go.Pil
namespace Go.Proofs.Ytmigdhbolbhbeaa
open Go.RowKit Go.Mk Go.Pil
theorem lists_append (a b : List (List Int × Value)) : lists (a ++ b) = lists a ++ lists b := by simp [lists]
/-- A row of one's own that is new since w0. -/
def OwNew {Sl : Nat → Nat → Prop} (w0 : World) (zs : List Int) : Pr Sl := soft (fun v w => OwZ w0 w v zs) fun _ _ _ h k => h.keptNo k
/-- A slice of the one element. -/
def One {Sl : Nat → Nat → Prop} (d : Nat) : Pr Sl := rel d (fun u v w => ∃ g, v = .slice (some ⟨g, 0, none⟩) 1 1 ∧ w.cell? ⟨g, 0, none⟩ = some u) fun _ _ _ _ ⟨g, e, h⟩ k => ⟨g, e, k.cell h id⟩
/-- The value of the operation before. -/
def Is2 {Sl : Nat → Nat → Prop} (d : Nat) : Pr Sl := rel d (fun u v _ => v = u) fun _ _ _ _ h _ => h
/-- The list with the ballot more. -/
def More {Sl : Nat → Nat → Prop} (w : World) (bs : List (List Int × Value)) (p : List Int) (d : Nat) : Pr Sl := rel d (fun u v w' => OwL w w' v (bs ++ [(p, u)])) fun _ _ _ _ h k => h.keptNo k
theorem one_rd {w : World} {v u : Value} (h : ∃ g, v = .slice (some ⟨g, 0, none⟩) 1 1 ∧ w.cell? ⟨g, 0, none⟩ = some u) : Rd w 1 v 1 [u] := by
  obtain ⟨g, rfl, h⟩ := h
  refine ⟨rfl, _, 1, rfl, Nat.le_refl _, by decide, .inr ⟨g, 0, rfl, fun j x hj => ?_⟩⟩
  cases j with
  | zero => simp at hj; subst hj; simpa using h
  | succ j => simp at hj
theorem one_fill {w0 w : World} {u : Value} {zs : List Int} (h : OwZ w0 w u zs) : Instr.fill (fun i => some (i * 1, 1)) ((Array.range (1 * 1)).map ((Value.slice none 0 0).cells[· % (Value.slice none 0 0).cells.size]!)) [(0, u)] = some [u].toArray := by
  obtain ⟨a, c, rfl, _, _⟩ := Rd.shape2 h.rd
  exact fill_rows 1 (by decide) (Value.slice none 0 0) [Value.slice a zs.length c] (fun v hv => by obtain rfl := List.mem_singleton.1 hv; rfl)
theorem OwZ.of_kept {w0 w w' : World} {v : Value} {zs : List Int} (h : OwZ w w' v zs) (k : Kept no w0 w) : OwZ w0 w' v zs := ⟨h.own, k.trans' h.kept, h.new.of k.size⟩
theorem min12 (l : Nat) : (if (12 : Int) < (l : Int) then (12 : Int) else (l : Int)) = ((min l 12 : Nat) : Int) := by split <;> omega
set_option maxRecDepth 100000 in
set_option maxHeartbeats 4000000 in
theorem ballots_any (n : Int) (v : Value) (bs : List (List Int × Value)) (m : Nat) (w : World) (h1 : 1 ≤ n) (h2 : n ≤ 7) (hm : m ≤ 1000000) (hr : RdB w v bs) : Calls Try.prog 15 #[.int .i64 n, v, .int .i64 (m : Int)] w fun e w' => ∃ v' qs, e = .returned v' ∧ lists qs = bals n (lists bs) m ∧ OwL w w' v' qs := by
  obtain ⟨ao, cap, rfl, hcap, hcm⟩ := Rd.shape2 hr.2
  have hm63 := maxLen_63
  replace hr := hid hr
  obtain ⟨len, hlen⟩ : ∃ len, bs.length = len := ⟨_, rfl⟩
  rw [hlen] at hr hcap ⊢
  replace hlen := hid hlen
  go_enter Try.func15, Try.ntmps15
  go_wp2
  go_loopw [7, 8] (fun out i wr => ∃ (k : Nat) (qs : List (List Int × Value)), k ≤ len ∧ k ≤ m ∧ i = .int .i64 (k : Int) ∧ Hd (qs.length = k) ∧ Hd (lists qs = bals n (lists bs) k) ∧ Hd (OwL w wr out qs)) (fun _ i _ => len - (intOf i).toNat)
  case atStart => exact ⟨0, [], by omega, by omega, rfl, ⟨rfl⟩, ⟨rfl⟩, ⟨OwL.nil w⟩⟩
  case round =>
    obtain ⟨k, qs, hk, hkm, rfl, hqk, hqs, hO⟩ := hrel
    by_cases hlt : k < len
    · have hk1 : (k : Int) < (len : Int) := by omega
      have hkd : decide ((k : Int) < (len : Int)) = true := decide_eq_true hk1
      have hk0 : (0 : Int) ≤ (k : Int) := by omega
      by_cases hltm : k < m
      · have hmd : decide ((k : Int) < (m : Int)) = true := decide_eq_true (by omega)
        have hk2 : (k : Int) < (m : Int) := by omega
        obtain ⟨b, o, p, vp, rfl, hel, c0, hz⟩ := (hr.out.kept hO.out.kept).at k (by rw [hlen.out]; exact hlt)
        have hbt : Hd (∀ u : Value, lists (qs ++ [(bal n (p.take 12), u)]) = bals n (lists bs) (k + 1)) := ⟨fun u => by rw [lists_append, hqs.out, bals_take (lists_get _ hel)]; rfl⟩
        obtain ⟨av, cv, rfl, hlc, hcv⟩ := Rd.shape2 hz
        have hsl := pre_slice av p.length cv (min p.length 12) hz.addr (by omega)
        have HG := hid (fun W (k : Kept no wr W) => genballot_any n (.slice av (min p.length 12) cv) (p.take 12) W h1 h2 (by
          have := (hz.take (min p.length 12) (by omega)).kept k
          have e : p.take (min p.length 12) = p.take 12 := by rw [Nat.min_comm]; exact List.take_eq_take_min.symm
          rwa [e] at this))
        have hmin := min12 p.length
        have hmin2 : min (p.length : Int) 12 = ((min p.length 12 : Nat) : Int) := by omega
        have hqm : qs.length + 1 ≤ maxLen ∧ (qs.length + 1) * 24 ≤ 140737488355328 := by have := hqk.out; have hm : maxLen = 9223372036854775807 := rfl; omega
        replace hqm := hid hqm
        generalize p.length = lv at c0 hsl HG hmin hmin2
        generalize min lv 12 = mv at hsl HG hmin hmin2
        generalize p.take 12 = p12 at HG hbt
        replace c0 := hid c0
        clear hz hel hlc hcv
        go_upto_region 5 with fail
        refine region_flow (S := (ob u7)) (Sl := (fun _ => (ob u7))) [Is (u7), Is (.int .i64 n), Is (.slice (some ⟨b, o, none⟩) len cap), Is (.int .i64 (k : Int)), Is (.pointer (some ⟨b, o + k, none⟩)), Is (.slice av lv cv), Is (.slice (some ⟨b, o, none⟩) len cap), Is (.int .i64 (k : Int)), Is (.pointer (some ⟨b, o + k, none⟩)), Is (.slice av lv cv), Is (.int .i64 (lv : Int)), Is (.int .i64 (mv : Int)), Is (.slice av mv cv), OwNew wr (bal n p12), One 13, More w qs (bal n p12) 13, Is2 15] [15] (fun _ _ h => h) _ (by kernel_rfl) (by kernel_rfl) (by kernel_rfl) (by kernel_rfl) (fun x => by simp only [puts, Act.put, List.map_cons, List.map_nil, Nat.zero_add, Nat.reduceAdd, List.setIfInBounds_toArray, List.set_cons_zero, List.set_cons_succ]; exact rfl) ?_ ?_
        · skip
          refine Steps.cons (fun x wf Kk hq hdep hold => ?_) ?_
          · try dsimp only
            have h16 : x 16 = (u7) := hold 16 (by kernel_rfl)
            clear hq hdep hold
            simp only [h16]
            clear h16
            rw [if_pos (by rfl)]
            refine OpY.val (v := (u7)) ?_ ⟨Kept.refl _ _, rfl⟩
            first | rfl | go_simp
          refine Steps.cons (fun x wf Kk hq hdep hold => ?_) ?_
          · try dsimp only
            clear hq hdep hold
            rw [if_pos (by rfl)]
            refine OpY.val (v := (.int .i64 n)) ?_ ⟨Kept.refl _ _, rfl⟩
            first | rfl | go_simp
          refine Steps.cons (fun x wf Kk hq hdep hold => ?_) ?_
          · try dsimp only
            clear hq hdep hold
            rw [if_pos (by rfl)]
            refine OpY.val (v := (.slice (some ⟨b, o, none⟩) len cap)) ?_ ⟨Kept.refl _ _, rfl⟩
            first | rfl | go_simp
          refine Steps.cons (fun x wf Kk hq hdep hold => ?_) ?_
          · try dsimp only
            clear hq hdep hold
            rw [if_pos (by rfl)]
            refine OpY.val (v := (.int .i64 (k : Int))) ?_ ⟨Kept.refl _ _, rfl⟩
            first | rfl | go_simp
          refine Steps.cons (fun x wf Kk hq hdep hold => ?_) ?_
          · try dsimp only
            have h2 : x 2 = (.slice (some ⟨b, o, none⟩) len cap) := hdep 2 (by kernel_rfl)
            have h3 : x 3 = (.int .i64 (k : Int)) := hdep 3 (by kernel_rfl)
            clear hq hdep hold
            simp only [h2, h3]
            clear h2 h3
            rw [if_pos (by rfl)]
            refine OpY.val (v := (.pointer (some ⟨b, o + k, none⟩))) ?_ ⟨Kept.refl _ _, rfl⟩
            first | rfl | go_simp
          refine Steps.cons (fun x wf Kk hq hdep hold => ?_) ?_
          · try dsimp only
            have h4 : x 4 = (.pointer (some ⟨b, o + k, none⟩)) := hdep 4 (by kernel_rfl)
            have Kq := hq no (fun j hj => by cases (show j ∈ ([] : List Nat) from by (have e : ∀ l : List Nat, l = [] → j ∈ l → j ∈ ([] : List Nat) := fun l h h2 => h ▸ h2); exact e _ (by kernel_rfl) hj))
            clear hq hdep hold
            simp only [h4]
            clear h4
            have cvf := Kq.undrew.cell c0.out id
            rw [if_pos (by rfl)]
            refine OpY.val (v := (.slice av lv cv)) ?_ ⟨Kept.refl _ _, rfl⟩
            first | rfl | go_simp
          refine Steps.cons (fun x wf Kk hq hdep hold => ?_) ?_
          · try dsimp only
            clear hq hdep hold
            rw [if_pos (by rfl)]
            refine OpY.val (v := (.slice (some ⟨b, o, none⟩) len cap)) ?_ ⟨Kept.refl _ _, rfl⟩
            first | rfl | go_simp
          refine Steps.cons (fun x wf Kk hq hdep hold => ?_) ?_
          · try dsimp only
            clear hq hdep hold
            rw [if_pos (by rfl)]
            refine OpY.val (v := (.int .i64 (k : Int))) ?_ ⟨Kept.refl _ _, rfl⟩
            first | rfl | go_simp
          refine Steps.cons (fun x wf Kk hq hdep hold => ?_) ?_
          · try dsimp only
            have h6 : x 6 = (.slice (some ⟨b, o, none⟩) len cap) := hdep 6 (by kernel_rfl)
            have h7 : x 7 = (.int .i64 (k : Int)) := hdep 7 (by kernel_rfl)
            clear hq hdep hold
            simp only [h6, h7]
            clear h6 h7
            rw [if_pos (by rfl)]
            refine OpY.val (v := (.pointer (some ⟨b, o + k, none⟩))) ?_ ⟨Kept.refl _ _, rfl⟩
            first | rfl | go_simp
          refine Steps.cons (fun x wf Kk hq hdep hold => ?_) ?_
          · try dsimp only
            have h8 : x 8 = (.pointer (some ⟨b, o + k, none⟩)) := hdep 8 (by kernel_rfl)
            have Kq := hq no (fun j hj => by cases (show j ∈ ([] : List Nat) from by (have e : ∀ l : List Nat, l = [] → j ∈ l → j ∈ ([] : List Nat) := fun l h h2 => h ▸ h2); exact e _ (by kernel_rfl) hj))
            clear hq hdep hold
            simp only [h8]
            clear h8
            have cvf := Kq.undrew.cell c0.out id
            rw [if_pos (by rfl)]
            refine OpY.val (v := (.slice av lv cv)) ?_ ⟨Kept.refl _ _, rfl⟩
            first | rfl | go_simp
          refine Steps.cons (fun x wf Kk hq hdep hold => ?_) ?_
          · try dsimp only
            have h9 : x 9 = (.slice av lv cv) := hdep 9 (by kernel_rfl)
            clear hq hdep hold
            simp only [h9]
            clear h9
            rw [if_pos (by rfl)]
            refine OpY.val (v := (.int .i64 (lv : Int))) ?_ ⟨Kept.refl _ _, rfl⟩
            first | rfl | go_simp
          refine Steps.cons (fun x wf Kk hq hdep hold => ?_) ?_
          · try dsimp only
            have h10 : x 10 = (.int .i64 (lv : Int)) := hdep 10 (by kernel_rfl)
            clear hq hdep hold
            simp only [h10]
            clear h10
            rw [if_pos (by rfl)]
            refine OpY.val (v := (.int .i64 (mv : Int))) ?_ ⟨Kept.refl _ _, rfl⟩
            first | rfl | go_simp
          refine Steps.cons (fun x wf Kk hq hdep hold => ?_) ?_
          · try dsimp only
            have h5 : x 5 = (.slice av lv cv) := hdep 5 (by kernel_rfl)
            have h11 : x 11 = (.int .i64 (mv : Int)) := hdep 11 (by kernel_rfl)
            clear hq hdep hold
            simp only [h5, h11]
            clear h5 h11
            rw [if_pos (by rfl)]
            refine OpY.val (v := (.slice av mv cv)) ?_ ⟨Kept.refl _ _, rfl⟩
            first | rfl | go_simp
          refine Steps.cons (fun x wf Kk hq hdep hold => ?_) ?_
          · try dsimp only
            have h1 : x 1 = (.int .i64 n) := hdep 1 (by kernel_rfl)
            have h12 : x 12 = (.slice av mv cv) := hdep 12 (by kernel_rfl)
            have Kq := hq no (fun j hj => by cases (show j ∈ ([] : List Nat) from by (have e : ∀ l : List Nat, l = [] → j ∈ l → j ∈ ([] : List Nat) := fun l h h2 => h ▸ h2); exact e _ (by kernel_rfl) hj))
            clear hq hdep hold
            simp only [h1, h12]
            clear h1 h12
            rw [if_pos (by rfl)]
            refine OpY.call (f := 46) (args := #[(.int .i64 n), (.slice av mv cv)]) (by go_simp) ?_
            refine (HG.out wf Kq.undrew).mono ?_
            rintro e w2 ⟨v2, rfl, o2⟩
            exact ⟨_, rfl, o2.kept, o2.of_kept Kq.undrew⟩
          refine Steps.cons (fun x wf Kk hq hdep hold => ?_) ?_
          · try dsimp only
            have p13 : Pr.p (Sl := (fun _ => (ob u7))) (OwNew wr (bal n p12)) (x 13) wf := hdep 13 (by kernel_rfl)
            clear hq hdep hold
            rw [if_pos (by rfl)]
            refine OpY.build 22 36 1 _ rfl 1 (.slice none 0 0) Try.underlying22 infZ0 (by decide) (by decide) [x 13] _ rfl (one_fill p13) rfl (by decide) (fun w' hg k ho => ⟨k, _, rfl, by rw [cell_of_row w' _ 0 _ _ _ hg]; rfl⟩)
          refine Steps.cons (fun x wf Kk hq hdep hold => ?_) ?_
          · try dsimp only
            have h0 : x 0 = (u7) := hdep 0 (by kernel_rfl)
            have p14 : Pr.r (Sl := (fun _ => (ob u7))) (One 13) (x 13) (x 14) wf := hdep 14 (by kernel_rfl)
            have p13 : Pr.p (Sl := (fun _ => (ob u7))) (OwNew wr (bal n p12)) (x 13) wf := hdep 13 (by kernel_rfl)
            have Kq := hq no (fun j hj => by cases (show j ∈ ([] : List Nat) from by (have e : ∀ l : List Nat, l = [] → j ∈ l → j ∈ ([] : List Nat) := fun l h h2 => h ▸ h2); exact e _ (by kernel_rfl) hj))
            clear hq hdep hold
            simp only [h0]
            clear h0
            rw [if_pos (by rfl)]
            have hO2 := hO.out.keptNo Kq.undrew
            refine OpY.append (.tmp 20) (.tmp 34) 22 _ rfl rfl 36 1 24 TBals u7 _ _ rfl hO2.own (x 14) 1 [x 13] rfl (one_rd p14) (fun u hu => by obtain rfl := List.mem_singleton.1 hu; exact p13.rd.one) hqm.out.1 hqm.out.2 ?_
            intro v2 w2 h2 h3 h4 _
            exact ⟨h3, hO.out.add _ Kq.undrew p13.own h2 h3 h4⟩
          refine Steps.cons (fun x wf Kk hq hdep hold => ?_) ?_
          · try dsimp only
            have p15 : Pr.r (Sl := (fun _ => (ob u7))) (More w qs (bal n p12) 13) (x 13) (x 15) wf := hdep 15 (by kernel_rfl)
            clear hq hdep hold
            rw [if_pos (by rfl)]
            refine OpY.val (v := x 15) rfl ⟨Kept.refl _ _, rfl⟩
          exact Steps.nil _
        · intro x wf Kk hv
          try dsimp only
          have h0 : x 0 = (u7) := hv 0 (by kernel_rfl)
          have h1 : x 1 = (.int .i64 n) := hv 1 (by kernel_rfl)
          have h2 : x 2 = (.slice (some ⟨b, o, none⟩) len cap) := hv 2 (by kernel_rfl)
          have h3 : x 3 = (.int .i64 (k : Int)) := hv 3 (by kernel_rfl)
          have h4 : x 4 = (.pointer (some ⟨b, o + k, none⟩)) := hv 4 (by kernel_rfl)
          have h5 : x 5 = (.slice av lv cv) := hv 5 (by kernel_rfl)
          have h6 : x 6 = (.slice (some ⟨b, o, none⟩) len cap) := hv 6 (by kernel_rfl)
          have h7 : x 7 = (.int .i64 (k : Int)) := hv 7 (by kernel_rfl)
          have h8 : x 8 = (.pointer (some ⟨b, o + k, none⟩)) := hv 8 (by kernel_rfl)
          have h9 : x 9 = (.slice av lv cv) := hv 9 (by kernel_rfl)
          have h10 : x 10 = (.int .i64 (lv : Int)) := hv 10 (by kernel_rfl)
          have h11 : x 11 = (.int .i64 (mv : Int)) := hv 11 (by kernel_rfl)
          have h12 : x 12 = (.slice av mv cv) := hv 12 (by kernel_rfl)
          have p15 : Pr.r (Sl := (fun _ => (ob u7))) (More w qs (bal n p12) 13) (x 13) (x 15) wf := hv 15 (by kernel_rfl)
          have p16 : Pr.r (Sl := (fun _ => (ob u7))) (Is2 15) (x 15) (x 16) wf := hv 16 (by kernel_rfl)
          clear hv
          simp only [h0, h1, h2, h3, h4, h5, h6, h7, h8, h9, h10, h11, h12]
          clear h0 h1 h2 h3 h4 h5 h6 h7 h8 h9 h10 h11 h12
          have eA : x 16 = x 15 := p16
          simp only [eA]
          have hO3 := hid (show OwL w wf (x 15) (qs ++ [(bal n p12, x 13)]) from p15)
          have hq3 := hid (hbt.out (x 13))
          generalize x 15 = v' at hO3 ⊢
          generalize x 13 = u at hO3 hq3
          have hqk' : Hd ((qs ++ [(bal n p12, u)]).length = k + 1) := ⟨by rw [List.length_append, hqk.out]; rfl⟩
          clear eA p15 p16 hO hqs hbt HG hsl hmin hmin2 hqm c0 hqk Kk
          go_wp2
          go_roundw
          case rel => first | exact ⟨k + 1, _, by omega, by omega, by go_num, hqk', hq3, hO3⟩ | ((repeat apply Exists.intro); exact ⟨⟨k + 1, _, by omega, by omega, by go_num, hqk', hq3, hO3⟩, rfl⟩)
          case measure => simp [intOf]; omega
      · obtain rfl : k = m := by omega
        have hmd : decide ((k : Int) < (k : Int)) = false := decide_eq_false (by omega)
        clear hqk
        go_wp2
        go_ret
        exact ⟨_, qs, rfl, hqs.out, hO.out⟩
    · obtain rfl : k = len := by omega
      have hv : Hd (lists qs = bals n (lists bs) m) := ⟨by rw [hqs.out]; exact (bals_all_of (by rw [lists_length, hlen.out]; exact Nat.le_refl _) m hkm).symm⟩
      clear hqs hqk
      go_wp2
      go_ret
      exact ⟨_, qs, rfl, hv.out, hO.out⟩
end Go.Proofs.Ytmigdhbolbhbeaa
