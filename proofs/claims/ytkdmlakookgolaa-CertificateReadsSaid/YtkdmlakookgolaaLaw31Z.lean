/- Small functions of the laws of layers 31 and 32 (printed by gen_law31.py). -/
import Derived.Test.YtkdmlakookgolaaNodMZ
import Derived.Test.YtkdmlakookgolaaDistZ
import Derived.Test.YtkdmlakookgolaaKitZ
namespace Go.Proofs.Ytkdmlakookgolaa
open Go.RowKit Go.Mk Go.Pil Go.Mg
def RetB (e : Ending) : Prop := ∃ b : Bool, e = .returned (.bool b)
set_option maxRecDepth 20000 in
set_option maxHeartbeats 1000000 in
theorem short_any (v : Value) (ps : List (Grp × Value)) (w : World) (hr : RdG w v ps) : Calls Try.prog 15 #[v] w fun e w' => RetB e ∧ Kept no w w' := by
  (obtain ⟨ag, cg, rfl, hcg, hcm⟩ := hr.shape); (have hm63 := maxLen_63); (obtain ⟨n, hn⟩ : ∃ n, ps.length = n := ⟨_, rfl⟩); (rw [hn] at hcg hr ⊢); (replace hr := hid hr); (replace hn := hid hn)
  go_enter Try.func15, Try.ntmps15
  go_wp2
  go_loopw [3] (fun i wr => ∃ k : Nat, k ≤ n ∧ i = .int .i64 (k : Int) ∧ Hd (Kept no w wr)) (fun i _ => n - (intOf i).toNat)
  case atStart => exact ⟨0, by omega, rfl, ⟨Kept.refl _ _⟩⟩
  case round =>
    obtain ⟨k, hk, rfl, hK⟩ := hrel
    by_cases hlt : k < n
    · (have hk1 : (k : Int) < (n : Int) := by omega); (have hk0 : (0 : Int) ≤ (k : Int) := by omega); (obtain ⟨b, o, g, vg, rfl, hel, c0, c1, hz⟩ := (hr.out.kept hK.out).at k (by rw [hn.out]; exact hlt)); (obtain ⟨av, cv, rfl, hlv, hcv⟩ := Rd.shape2 hz); (obtain ⟨lv, hl⟩ : ∃ l, g.p.length = l := ⟨_, rfl⟩); (rw [hl] at c0); (clear hel hz c1 hl)
      by_cases h12 : 12 < lv
      · (have h12i : (12 : Int) < (lv : Int) := by omega); (have h12d : decide ((12 : Int) < (lv : Int)) = true := decide_eq_true h12i); (go_wp2); (go_ret); (exact ⟨⟨_, rfl⟩, hK.out⟩)
      · (have h12i : ¬ (12 : Int) < (lv : Int) := by omega); (have h12d : decide ((12 : Int) < (lv : Int)) = false := decide_eq_false h12i); (go_wp2); (go_roundw)
        case rel => first | exact ⟨k + 1, by omega, by go_num, hK⟩ | ((repeat apply Exists.intro); exact ⟨⟨k + 1, by omega, by go_num, hK⟩, rfl⟩)
        case measure => simp [intOf]; omega
    · (obtain rfl : n = k := by omega); (have hk1 : ¬ (n : Int) < (n : Int) := by omega); (go_wp2); (go_ret); (exact ⟨⟨_, rfl⟩, hK.out⟩)
theorem min8 (l : Nat) : (if (8 : Int) < (l : Int) then (8 : Int) else (l : Int)) = ((min l 8 : Nat) : Int) := by split <;> omega
def POwS {Sl : Nat → Nat → Prop} (w0 : World) (bs : List (List Int × Value)) : Pr Sl := soft (fun v w => OwS w0 w v bs) fun _ _ _ h k => h.keptNo k
set_option maxRecDepth 100000 in
set_option maxHeartbeats 4000000 in
/-- The rows, cut. -/
theorem cut_any (v : Value) (bs : List (List Int × Value)) (m : Nat) (w : World) (hm : m ≤ 1000000) (hr : RdB w v bs) : Calls Try.prog 20 #[v, .int .i64 (m : Int)] w fun e w' => ∃ v' qs, e = .returned v' ∧ lists qs = ((lists bs).take m).map (·.take 8) ∧ OwS w w' v' qs := by
  (obtain ⟨ao, cap, rfl, hcap, hcm⟩ := Rd.shape2 hr.2); (have hm63 := maxLen_63); (replace hr := hid hr); (obtain ⟨len, hlen⟩ : ∃ len, bs.length = len := ⟨_, rfl⟩); (rw [hlen] at hr hcap ⊢); (replace hlen := hid hlen)
  go_enter Try.func20, Try.ntmps20
  go_wp2
  go_loopw [5, 6] (fun out i wr => ∃ (k : Nat) (qs : List (List Int × Value)), k ≤ len ∧ k ≤ m ∧ i = .int .i64 (k : Int) ∧ Hd (qs.length = k) ∧ Hd (lists qs = ((lists bs).take k).map (·.take 8)) ∧ Hd (OwS w wr out qs)) (fun _ i _ => len - (intOf i).toNat)
  case atStart => exact ⟨0, [], by omega, by omega, rfl, ⟨rfl⟩, ⟨rfl⟩, ⟨⟨World.ownsRow_nil _ _ _ _, (fun x hx => by cases hx), Kept.refl _ _, .inl rfl⟩⟩⟩
  case round =>
    obtain ⟨k, qs, hk, hkm, rfl, hqk, hqs, hO⟩ := hrel
    by_cases hlt : k < len
    · (have hk1 : (k : Int) < (len : Int) := by omega); (have hkd : decide ((k : Int) < (len : Int)) = true := decide_eq_true hk1); (have hk0 : (0 : Int) ≤ (k : Int) := by omega)
      by_cases hltm : k < m
      · (have hmd : decide ((k : Int) < (m : Int)) = true := decide_eq_true (by omega)); (have hk2 : (k : Int) < (m : Int) := by omega); (obtain ⟨b, o, p, vp, rfl, hel, c0, hz⟩ := (hr.out.kept hO.out.kept).at k (by rw [hlen.out]; exact hlt))
        have hbt : Hd (∀ u : Value, lists (qs ++ [(p.take 8, u)]) = ((lists bs).take (k + 1)).map (·.take 8)) := ⟨fun u => by
          obtain ⟨h1, h2⟩ := List.getElem?_eq_some_iff.1 (lists_get _ hel)
          rw [lists_append, hqs.out, List.take_succ_eq_append_getElem h1, h2, List.map_append]; rfl⟩
        (obtain ⟨av, cv, rfl, hlc, hcv⟩ := Rd.shape2 hz); (have hsl := pre_slice av p.length cv (min p.length 8) hz.addr (by omega))
        have hz0 : RdZ w (.slice av p.length cv) p := by
          (have h1 := hr.out.1 _ (List.getElem_mem (show k < bs.length by rw [hlen.out]; exact hlt))); (rw [hel] at h1; exact h1)
        have hz8 : Hd (RdZ w (.slice av (min p.length 8) cv) (p.take 8)) := ⟨by
          (have := hz0.take (min p.length 8) (by omega)); (have e : p.take (min p.length 8) = p.take 8 := by rw [Nat.min_comm]; exact List.take_eq_take_min.symm)
          rwa [e] at this⟩
        (have hmin := min8 p.length); (have hmin2 : min (p.length : Int) 8 = ((min p.length 8 : Nat) : Int) := by omega); (have hqm : qs.length + 1 ≤ maxLen ∧ (qs.length + 1) * 24 ≤ 140737488355328 := by have := hqk.out; have hm : maxLen = 9223372036854775807 := rfl; omega); (replace hqm := hid hqm); (generalize p.length = lv at c0 hsl hmin hmin2 hz8); (generalize min lv 8 = mv at hsl hmin hmin2 hz8); (generalize p.take 8 = p8 at hbt hz8); (have hfill : Hd (Instr.fill (fun i => some (i * 1, 1)) ((Array.range (1 * 1)).map ((Value.slice none 0 0).cells[· % (Value.slice none 0 0).cells.size]!)) [(0, Value.slice av mv cv)] = some [Value.slice av mv cv].toArray) := ⟨fill_rows 1 (by decide) (Value.slice none 0 0) [Value.slice av mv cv] (fun v hv => by obtain rfl := List.mem_singleton.1 hv; rfl)⟩); (replace c0 := hid c0); (clear hz hel hlc hcv hz0); (go_upto_region 5 with fail); (refine region_flow (S := (ob u5)) (Sl := (fun _ => (ob u5))) [Is (u5), Is (.slice (some ⟨b, o, none⟩) len cap), Is (.int .i64 (k : Int)), Is (.pointer (some ⟨b, o + k, none⟩)), Is (.slice av lv cv), Is (.slice (some ⟨b, o, none⟩) len cap), Is (.int .i64 (k : Int)), Is (.pointer (some ⟨b, o + k, none⟩)), Is (.slice av lv cv), Is (.int .i64 (lv : Int)), Is (.int .i64 (mv : Int)), Is (.slice av mv cv), RdIs 1 1 [.slice av mv cv], POwS w (qs ++ [(p8, .slice av mv cv)]), Is2 13] [13] (fun _ _ h => h) _ (by kernel_rfl) (by kernel_rfl) (by kernel_rfl) (by kernel_rfl) (fun x => by simp only [puts, Act.put, List.map_cons, List.map_nil, Nat.zero_add, Nat.reduceAdd, List.setIfInBounds_toArray, List.set_cons_zero, List.set_cons_succ]; exact rfl) ?_ ?_)
        · (skip); (refine .cons (fun x wf Kk hq hdep hold => ?_) ?_)
          · (try dsimp only); (have h14 : x 14 = (u5) := hold 14 (by kernel_rfl)); (clear hq hdep hold); (simp only [h14]); (clear h14); (rw [if_pos (by rfl)]); (refine OpY.val ?_ ⟨Kept.refl _ _, rfl⟩); (first | rfl | go_simp)
          refine .cons (fun x wf Kk hq hdep hold => ?_) ?_
          · (try dsimp only); (clear hq hdep hold); (rw [if_pos (by rfl)]); (refine OpY.val ?_ ⟨Kept.refl _ _, rfl⟩); (first | rfl | go_simp)
          refine .cons (fun x wf Kk hq hdep hold => ?_) ?_
          · (try dsimp only); (clear hq hdep hold); (rw [if_pos (by rfl)]); (refine OpY.val ?_ ⟨Kept.refl _ _, rfl⟩); (first | rfl | go_simp)
          refine .cons (fun x wf Kk hq hdep hold => ?_) ?_
          · (try dsimp only); (have h1 : x 1 = _ := hdep 1 (by kernel_rfl)); (have h2 : x 2 = _ := hdep 2 (by kernel_rfl)); (clear hq hdep hold); (simp only [h1, h2]); (clear h1 h2); (rw [if_pos (by rfl)]); (refine OpY.val ?_ ⟨Kept.refl _ _, rfl⟩); (first | rfl | go_simp)
          refine .cons (fun x wf Kk hq hdep hold => ?_) ?_
          · (try dsimp only); (have h3 : x 3 = _ := hdep 3 (by kernel_rfl)); (have Kq := hq no (fun j hj => by cases (show j ∈ ([] : List Nat) from by (have e : ∀ l : List Nat, l = [] → j ∈ l → j ∈ ([] : List Nat) := fun l h h2 => h ▸ h2); exact e _ (by kernel_rfl) hj))); (clear hq hdep hold); (simp only [h3]); (clear h3); (have cvf := Kq.undrew.cell c0.out id); (rw [if_pos (by rfl)]); (refine OpY.val ?_ ⟨Kept.refl _ _, rfl⟩); (first | rfl | go_simp)
          refine .cons (fun x wf Kk hq hdep hold => ?_) ?_
          · (try dsimp only); (clear hq hdep hold); (rw [if_pos (by rfl)]); (refine OpY.val ?_ ⟨Kept.refl _ _, rfl⟩); (first | rfl | go_simp)
          refine .cons (fun x wf Kk hq hdep hold => ?_) ?_
          · (try dsimp only); (clear hq hdep hold); (rw [if_pos (by rfl)]); (refine OpY.val ?_ ⟨Kept.refl _ _, rfl⟩); (first | rfl | go_simp)
          refine .cons (fun x wf Kk hq hdep hold => ?_) ?_
          · (try dsimp only); (have h5 : x 5 = _ := hdep 5 (by kernel_rfl)); (have h6 : x 6 = _ := hdep 6 (by kernel_rfl)); (clear hq hdep hold); (simp only [h5, h6]); (clear h5 h6); (rw [if_pos (by rfl)]); (refine OpY.val ?_ ⟨Kept.refl _ _, rfl⟩); (first | rfl | go_simp)
          refine .cons (fun x wf Kk hq hdep hold => ?_) ?_
          · (try dsimp only); (have h7 : x 7 = _ := hdep 7 (by kernel_rfl)); (have Kq := hq no (fun j hj => by cases (show j ∈ ([] : List Nat) from by (have e : ∀ l : List Nat, l = [] → j ∈ l → j ∈ ([] : List Nat) := fun l h h2 => h ▸ h2); exact e _ (by kernel_rfl) hj))); (clear hq hdep hold); (simp only [h7]); (clear h7); (have cvf := Kq.undrew.cell c0.out id); (rw [if_pos (by rfl)]); (refine OpY.val ?_ ⟨Kept.refl _ _, rfl⟩); (first | rfl | go_simp)
          refine .cons (fun x wf Kk hq hdep hold => ?_) ?_
          · (try dsimp only); (have h8 : x 8 = _ := hdep 8 (by kernel_rfl)); (clear hq hdep hold); (simp only [h8]); (clear h8); (rw [if_pos (by rfl)]); (refine OpY.val ?_ ⟨Kept.refl _ _, rfl⟩); (first | rfl | go_simp)
          refine .cons (fun x wf Kk hq hdep hold => ?_) ?_
          · (try dsimp only); (have h9 : x 9 = _ := hdep 9 (by kernel_rfl)); (clear hq hdep hold); (simp only [h9]); (clear h9); (rw [if_pos (by rfl)]); (refine OpY.val ?_ ⟨Kept.refl _ _, rfl⟩); (first | rfl | go_simp)
          refine .cons (fun x wf Kk hq hdep hold => ?_) ?_
          · (try dsimp only); (have h4 : x 4 = _ := hdep 4 (by kernel_rfl)); (have h10 : x 10 = _ := hdep 10 (by kernel_rfl)); (clear hq hdep hold); (simp only [h4, h10]); (clear h4 h10); (rw [if_pos (by rfl)]); (refine OpY.val ?_ ⟨Kept.refl _ _, rfl⟩); (first | rfl | go_simp)
          refine .cons (fun x wf Kk hq hdep hold => ?_) ?_
          · (try dsimp only); (have h11 : x 11 = _ := hdep 11 (by kernel_rfl)); (clear hq hdep hold); (simp only [h11]); (clear h11); (rw [if_pos (by rfl)]); (refine OpY.build 26 40 1 _ rfl 1 (.slice none 0 0) Try.underlying26 infZ0 (by decide) (by decide) [.slice av mv cv] [(0, .slice av mv cv)] rfl hfill.out rfl (by decide) (fun w' hg k ho => ⟨k, Rd.of_own ho⟩))
          refine .cons (fun x wf Kk hq hdep hold => ?_) ?_
          · (try dsimp only); (have h0 : x 0 = _ := hdep 0 (by kernel_rfl)); (have p12 : Pr.p (Sl := (fun _ => (ob u5))) (RdIs 1 1 [.slice av mv cv]) (x 12) wf := hdep 12 (by kernel_rfl)); (have Kq := hq no (fun j hj => by cases (show j ∈ ([] : List Nat) from by (have e : ∀ l : List Nat, l = [] → j ∈ l → j ∈ ([] : List Nat) := fun l h h2 => h ▸ h2); exact e _ (by kernel_rfl) hj))); (clear hq hdep hold); (simp only [h0]); (clear h0); (rw [if_pos (by rfl)]); (have hO2 := hO.out.keptNo Kq.undrew); (refine OpY.append (.tmp 18) (.tmp 30) 26 _ rfl rfl 40 1 24 TBals u5 _ _ rfl hO2.own (x 12) 1 [.slice av mv cv] rfl p12 (fun u hu => by obtain rfl := List.mem_singleton.1 hu; rfl) hqm.out.1 hqm.out.2 ?_); (intro v2 w2 h2 h3 h4 _); (exact ⟨h3, hO2.add p8 (.slice av mv cv) hz8.out h2 h3 h4⟩)
          refine .cons (fun x wf Kk hq hdep hold => ?_) ?_
          · (try dsimp only); (have p13 : Pr.p (Sl := (fun _ => (ob u5))) (POwS w (qs ++ [(p8, .slice av mv cv)])) (x 13) wf := hdep 13 (by kernel_rfl)); (clear hq hdep hold); (rw [if_pos (by rfl)]); (refine OpY.val (v := x 13) rfl ⟨Kept.refl _ _, rfl⟩)
          exact .nil _
        · (intro x wf Kk hv); (try dsimp only); (have p13 : Pr.p (Sl := (fun _ => (ob u5))) (POwS w (qs ++ [(p8, .slice av mv cv)])) (x 13) wf := hv 13 (by kernel_rfl)); (have p14 : Pr.r (Sl := (fun _ => (ob u5))) (Is2 13) (x 13) (x 14) wf := hv 14 (by kernel_rfl)); (clear hv); (have hO3 := hid (show OwS w wf (x 13) (qs ++ [(p8, .slice av mv cv)]) from p13)); (have eA : x 14 = x 13 := p14); (simp only [eA]); (have hq3 := hid (hbt.out (.slice av mv cv))); (generalize x 13 = v' at hO3 ⊢); (have hqk' : Hd ((qs ++ [(p8, Value.slice av mv cv)]).length = k + 1) := ⟨by rw [List.length_append, hqk.out]; rfl⟩); (clear eA p13 p14 hO hqs hbt hsl hmin hmin2 hqm c0 hqk Kk hz8 hfill); (go_wp2); (go_roundw)
          case rel => first | exact ⟨k + 1, _, by omega, by omega, by go_num, hqk', hq3, hO3⟩ | ((repeat apply Exists.intro); exact ⟨⟨k + 1, _, by omega, by omega, by go_num, hqk', hq3, hO3⟩, rfl⟩)
          case measure => simp [intOf]; omega
      · (obtain rfl : k = m := by omega); (have hmd : decide ((k : Int) < (k : Int)) = false := decide_eq_false (by omega)); (clear hqk); (go_wp2); (go_ret); (exact ⟨_, qs, rfl, hqs.out, hO.out⟩)
    · obtain rfl : k = len := by omega
      have hv : Hd (lists qs = ((lists bs).take m).map (·.take 8)) := ⟨by
        rw [hqs.out, List.take_of_length_le (by rw [lists_length, hlen.out]; exact Nat.le_refl _), List.take_of_length_le (by rw [lists_length, hlen.out]; exact hkm)]⟩
      (clear hqs hqk); (go_wp2); (go_ret); (exact ⟨_, qs, rfl, hv.out, hO.out⟩)
def zN : List Value := [.int .i64 0, .slice none 0 0, .int .i64 0, .bool false]
theorem slot3 {w : World} {g : Nat} {a b c : Value} {t : TypeId} (h : w.heap[g]? = some (.cells #[a, b, c] t (0, 0))) : w.cell? ⟨g, 0, none⟩ = some a ∧ w.cell? ⟨g, 1, none⟩ = some b ∧ w.cell? ⟨g, 2, none⟩ = some c := by
  refine ⟨?_, ?_, ?_⟩
  · rw [cell_of_row _ _ 0 _ _ _ h]; rfl
  · rw [cell_of_row _ _ 1 _ _ _ h]; rfl
  · rw [cell_of_row _ _ 2 _ _ _ h]; rfl
theorem slot4 {w : World} {g : Nat} {y : Nd × Value} (h : w.heap[g]? = some (.cells (ndC y).toArray 76 (0, 0))) : w.cell? ⟨g, 0, none⟩ = some (.int .i64 y.1.par) ∧ w.cell? ⟨g, 1, none⟩ = some y.2 ∧ w.cell? ⟨g, 2, none⟩ = some (.int .i64 y.1.bd) ∧ w.cell? ⟨g, 3, none⟩ = some (.bool y.1.leaf) := by
  refine ⟨?_, ?_, ?_, ?_⟩
  · rw [cell_of_row _ _ 0 _ _ _ h]; rfl
  · rw [cell_of_row _ _ 1 _ _ _ h]; rfl
  · rw [cell_of_row _ _ 2 _ _ _ h]; rfl
  · rw [cell_of_row _ _ 3 _ _ _ h]; rfl
/-- Block g holds the node x (QF), or nothing yet (QN). -/
def QF (w0 : World) (x : Nd) (w : World) (g : Nat) : Prop := w0.heap.size ≤ g ∧ ∃ t, RdZ w0 t x.tail ∧ w.heap[g]? = some (.cells (ndC (x, t)).toArray 76 (0, 0))
def QN (w0 : World) (_ : Nd) (w : World) (g : Nat) : Prop := w0.heap.size ≤ g ∧ ∃ c : List Value, c.length = 4 ∧ w.heap[g]? = some (.cells c.toArray 76 (0, 0))
theorem QF.qn {w0 w : World} {x : Nd} {g : Nat} (h : QF w0 x w g) : QN w0 x w g := by obtain ⟨h1, t, _, h3⟩ := h; exact ⟨h1, _, rfl, h3⟩
theorem QF.keptNo {w0 w w' : World} {x : Nd} {g : Nat} (h : QF w0 x w g) (k : Kept no w w') : QF w0 x w' g := by obtain ⟨h1, t, h2, h3⟩ := h; exact ⟨h1, t, h2, k.blk h3⟩
theorem QN.keptNo {w0 w w' : World} {x : Nd} {g : Nat} (h : QN w0 x w g) (k : Kept no w w') : QN w0 x w' g := by obtain ⟨h1, c, h2, h3⟩ := h; exact ⟨h1, c, h2, k.blk h3⟩
/-- What a store of the node x does. -/
def EfN (w0 : World) (x : Nd) (_ : Nat) (w w' : World) : Prop := Kept (fun k => w0.heap.size ≤ k) w w' ∧ ∀ g, (QN w0 x w g → QN w0 x w' g) ∧ (QF w0 x w g → QF w0 x w' g)
theorem EfN.refl (w0 : World) (x : Nd) (j : Nat) (w : World) : EfN w0 x j w w := ⟨Kept.refl _ _, fun _ => ⟨id, id⟩⟩
def PBl (w0 : World) (x : Nd) : PrE (EfN w0 x) := ⟨fun _ v w => ∃ g, v = .pointer (some ⟨g, 0, none⟩) ∧ QN w0 x w g, none, fun _ => true, fun _ _ _ _ ⟨g, e, h⟩ k => ⟨g, e, h.keptNo k⟩, fun _ _ _ _ _ _ ⟨g, e, h⟩ k => ⟨g, e, (k.2 g).1 h⟩, fun _ _ _ _ _ h => h⟩
def PSt (w0 : World) (x : Nd) (d : Nat) : PrE (EfN w0 x) := ⟨fun u _ w => ∃ g, u = .pointer (some ⟨g, 0, none⟩) ∧ QF w0 x w g, some d, fun _ => true, fun _ _ _ _ ⟨g, e, h⟩ k => ⟨g, e, h.keptNo k⟩, fun _ _ _ _ _ _ ⟨g, e, h⟩ k => ⟨g, e, (k.2 g).2 h⟩, fun h => by cases h⟩
def PNd2 (w0 : World) (x : Nd) : PrE (EfN w0 x) := ⟨fun _ v _ => ∃ t, v = .agg (ndC (x, t)).toArray ∧ RdZ w0 t x.tail, none, fun _ => true, fun _ _ _ _ h _ => h, fun _ _ _ _ _ _ h _ => h, fun _ _ _ _ _ h => h⟩
theorem st4 {w0 w : World} {x : Nd} {g : Nat} {t : Value} (h : QN w0 x w g) (ht : RdZ w0 t x.tail) : EfN w0 x 0 w ((((w.setCell ⟨g, 0, none⟩ (.int .i64 x.par)).setCell ⟨g, 1, none⟩ t).setCell ⟨g, 2, none⟩ (.int .i64 x.bd)).setCell ⟨g, 3, none⟩ (.bool x.leaf))
    ∧ QF w0 x ((((w.setCell ⟨g, 0, none⟩ (.int .i64 x.par)).setCell ⟨g, 1, none⟩ t).setCell ⟨g, 2, none⟩ (.int .i64 x.bd)).setCell ⟨g, 3, none⟩ (.bool x.leaf)) g := by
  obtain ⟨hg, c, hc, hb⟩ := h
  obtain ⟨a, b, d, e, rfl⟩ : ∃ a b d e, c = [a, b, d, e] := by
    match c, hc with
    | [a, b, d, e], _ => exact ⟨a, b, d, e, rfl⟩
  have hF : QF w0 x ((((w.setCell ⟨g, 0, none⟩ (.int .i64 x.par)).setCell ⟨g, 1, none⟩ t).setCell ⟨g, 2, none⟩ (.int .i64 x.bd)).setCell ⟨g, 3, none⟩ (.bool x.leaf)) g := ⟨hg, t, ht, by
    rw [setCell_row (setCell_row (setCell_row (setCell_row hb 0 _) 1 _) 2 _) 3 _]; simp [ndC]⟩
  have kg : Kept (fun k => k = g) w ((((w.setCell ⟨g, 0, none⟩ (.int .i64 x.par)).setCell ⟨g, 1, none⟩ t).setCell ⟨g, 2, none⟩ (.int .i64 x.bd)).setCell ⟨g, 3, none⟩ (.bool x.leaf)) :=
    ((((Kept.refl (fun k => k = g) w).setCell (a := ⟨g, 0, none⟩) (.inl rfl) _).setCell (a := ⟨g, 1, none⟩) (.inl rfl) _).setCell (a := ⟨g, 2, none⟩) (.inl rfl) _).setCell (a := ⟨g, 3, none⟩) (.inl rfl) _
  refine ⟨⟨kg.mono fun k _ e => e ▸ hg, fun g' => ⟨fun h' => ?_, fun h' => ?_⟩⟩, hF⟩
  · by_cases he : g' = g
    · subst he; exact hF.qn
    · obtain ⟨h1, c, h2, h3⟩ := h'; exact ⟨h1, c, h2, (kg.block _ (lt_of_heap h3) he).trans h3⟩
  · by_cases he : g' = g
    · subst he; exact hF
    · obtain ⟨h1, c, h2, h3⟩ := h'; exact ⟨h1, c, h2, (kg.block _ (lt_of_heap h3) he).trans h3⟩
theorem OpYE.ndrow {o : Oper} {a : Act} {w : World} {R : Value → World → Prop} (x : Operand) (ho : o.op = .load 76 x) (b of : Nat) (hx : a.eval x = .pointer (some ⟨b, of, none⟩)) (y : Nd × Value) (hc : w.rangeAt b of (ndC y)) (h : R (.agg (ndC y).toArray) w) : OpY Try.prog o a w R :=
  OpY.row 76 x ho b of hx (ndC y) _ hc Try.underlying76 rfl (by rw [show (ndC y).length = 4 from rfl]; kernel_rfl) h
theorem RdN.row {w : World} {b o n cap : Nat} {l : List (Nd × Value)} (h : RdN w (.slice (some ⟨b, o, none⟩) n cap) l) (k : Nat) (hk : k < l.length) : w.rangeAt b (o + k * 4) (ndC l[k]) := by
  obtain ⟨b', o', e, hr⟩ := Rd.row (f := ndC) (sz := 4) (fun _ _ => rfl) h.2 k hk
  cases e; exact hr
set_option maxRecDepth 100000 in
set_option maxHeartbeats 4000000 in
theorem samecert_any (A M : Int) (v1 v2 : Value) (q1 q2 : List (Nd × Value)) (w : World) (h1 : RdN w v1 q1) (h2 : RdN w v2 q2) (he : nds q1 = nds q2) (hl : q1.length ≤ 100000) :
    Calls Try.prog 40 #[.agg #[.int .i64 A, .int .i64 M, v1], .agg #[.int .i64 A, .int .i64 M, v2]] w fun e w' => e = .returned (.bool true) ∧ Kept no w w' := by
  (obtain ⟨a1, p1, rfl, _, _⟩ := Rd.shape2 h1.2); (obtain ⟨a2, p2, rfl, _, _⟩ := Rd.shape2 h2.2); (obtain ⟨n, hn⟩ : ∃ n, q1.length = n := ⟨_, rfl⟩); (have hn2 : q2.length = n := by rw [← nds_length, ← he, nds_length]; exact hn); (rw [hn] at h1 hl ⊢); (rw [hn2] at h2 ⊢); (replace hn := hid hn); (replace hn2 := hid hn2); (replace he := hid he); (obtain ⟨w1, hw1, g1, k1⟩ := alloc_named w (.cells #[.int .i64 A, .int .i64 M, .slice a1 n p1] 25)); (have e1 : w1.heap.size = w.heap.size + 1 := by rw [hw1]; simp); (obtain ⟨w2, hw2, g2, k2⟩ := alloc_named w1 (.cells #[.int .i64 A, .int .i64 M, .slice a2 n p2] 25)); (have h1' := hid (h1.kept (k1.trans' k2))); (have h2' := hid (h2.kept (k1.trans' k2))); (have hk02 := hid (k1.trans' k2)); (have g12 := hid (k2.blk g1)); (replace hw1 := hid hw1); (replace hw2 := hid hw2); (replace g2 := hid g2); (replace e1 := hid e1); (clear h1 h2 g1 k1 k2)
  go_enter Try.func40, Try.ntmps40
  (go_upto_region 1 with fail); (rw [← hw1.out, ← e1.out, ← hw2.out]); (have s1 := slot3 g12.out); (have s2 := slot3 g2.out); (obtain ⟨c10, c11, c12⟩ := s1); (obtain ⟨c20, c21, c22⟩ := s2); (generalize w.heap.size = G1 at g12 c10 c11 c12); (generalize w1.heap.size = G2 at g2 c20 c21 c22); (clear hw1 hw2 e1); (go_wp2); (clear c10 c11 c12 c20 c21 c22)
  go_loopw [5] (fun i wr => ∃ k : Nat, k ≤ n ∧ i = .int .i64 (k : Int) ∧ Hd (Kept no w2 wr)) (fun i _ => n - (intOf i).toNat)
  case atStart => exact ⟨0, by omega, rfl, ⟨Kept.refl _ _⟩⟩
  case round =>
    (obtain ⟨k, hk, rfl, hK⟩ := hrel); (have c12 := (slot3 (hK.out.blk g12.out)).2.2); (have c22 := (slot3 (hK.out.blk g2.out)).2.2)
    by_cases hlt : k < n
    · (have hk1 : (k : Int) < (n : Int) := by omega); (have hk0 : (0 : Int) ≤ (k : Int) := by omega); (have hr1 := h1'.out.kept hK.out); (have hr2 := h2'.out.kept hK.out); (obtain ⟨b1, o1, xx, t1, rfl, ex, _, _, _, _, hz1⟩ := hr1.at k (by rw [hn.out]; exact hlt)); (obtain ⟨b2, o2, y, t2, rfl, ey, _, _, _, _, hz2⟩ := hr2.at k (by rw [hn2.out]; exact hlt))
      have hxy : xx = y := by
        (have := nds_at (by rw [hn.out]; exact hlt) ex); (have h2 := nds_at (by rw [hn2.out]; exact hlt) ey); (rw [← this, ← h2, he.out])
      (subst hxy); (have r1 := hid (hr1.row k (by rw [hn.out]; exact hlt))); (have r2 := hid (hr2.row k (by rw [hn2.out]; exact hlt))); (rw [ex] at r1); (rw [ey] at r2); (have hz1' := hid hz1); (have hz2' := hid hz2); (have c12' := hid c12); (have c22' := hid c22); (clear hr1 hr2 ex ey hz1 hz2); (go_upto_region 6 with fail); (refine region_flowE (S := (fun k => wr.drew.heap.size ≤ k)) (Ef := (EfN wr.drew xx)) [IsE (.pointer (some ⟨G1, 2, none⟩)), IsE (.slice (some ⟨b1, o1, none⟩) n p1), IsE (.int .i64 (k : Int)), IsE (.pointer (some ⟨b1, o1 + k * 4, none⟩)), PNd2 wr.drew xx, IsE (.pointer (some ⟨G2, 2, none⟩)), IsE (.slice (some ⟨b2, o2, none⟩) n p2), IsE (.int .i64 (k : Int)), IsE (.pointer (some ⟨b2, o2 + k * 4, none⟩)), PNd2 wr.drew xx, PBl wr.drew xx, PBl wr.drew xx, PSt wr.drew xx 10, PSt wr.drew xx 11] [12, 13] (fun _ _ _ h => h.1) (EfN.refl wr.drew xx) _ (by kernel_rfl) (by kernel_rfl) (by kernel_rfl) (by kernel_rfl) (fun x => by simp only [puts, Act.put, List.map_cons, List.map_nil, Nat.zero_add, Nat.reduceAdd, List.setIfInBounds_toArray, List.set_cons_zero, List.set_cons_succ]; exact rfl) ?_ ?_)
      · (skip); (refine .cons (fun x wf Kk hq hdep hold => ?_) ?_)
        · (try dsimp only); (clear hq hdep hold); (rw [if_pos (by rfl)]); (refine OpY.val ?_ ⟨Kept.refl _ _, rfl⟩); (first | rfl | go_simp)
        refine .cons (fun x wf Kk hq hdep hold => ?_) ?_
        · (try dsimp only); (have h0 : x 0 = _ := hdep 0 (by kernel_rfl)); (clear hq hdep hold); (simp only [h0]); (clear h0); (have m1 := ((Kept.fresh Kk).undrew).cell c12'.out id); (rw [if_pos (by rfl)]); (refine OpY.val ?_ ⟨Kept.refl _ _, rfl⟩); (first | rfl | go_simp)
        refine .cons (fun x wf Kk hq hdep hold => ?_) ?_
        · (try dsimp only); (clear hq hdep hold); (rw [if_pos (by rfl)]); (refine OpY.val ?_ ⟨Kept.refl _ _, rfl⟩); (first | rfl | go_simp)
        refine .cons (fun x wf Kk hq hdep hold => ?_) ?_
        · (try dsimp only); (have h1 : x 1 = _ := hdep 1 (by kernel_rfl)); (have h2 : x 2 = _ := hdep 2 (by kernel_rfl)); (clear hq hdep hold); (simp only [h1, h2]); (clear h1 h2); (rw [if_pos (by rfl)]); (refine OpY.val ?_ ⟨Kept.refl _ _, rfl⟩); (first | rfl | go_simp)
        refine .cons (fun x wf Kk hq hdep hold => ?_) ?_
        · (try dsimp only); (have h3 : x 3 = _ := hdep 3 (by kernel_rfl)); (clear hq hdep hold); (simp only [h3]); (clear h3); (rw [if_pos (by rfl)]); (exact OpYE.ndrow (.tmp 39) rfl b1 (o1 + k * 4) rfl _ (((Kept.fresh Kk).undrew).rng r1.out) ⟨Kept.refl _ _, _, rfl, hz1'.out⟩)
        refine .cons (fun x wf Kk hq hdep hold => ?_) ?_
        · (try dsimp only); (clear hq hdep hold); (rw [if_pos (by rfl)]); (refine OpY.val ?_ ⟨Kept.refl _ _, rfl⟩); (first | rfl | go_simp)
        refine .cons (fun x wf Kk hq hdep hold => ?_) ?_
        · (try dsimp only); (have h5 : x 5 = _ := hdep 5 (by kernel_rfl)); (clear hq hdep hold); (simp only [h5]); (clear h5); (have m1 := ((Kept.fresh Kk).undrew).cell c22'.out id); (rw [if_pos (by rfl)]); (refine OpY.val ?_ ⟨Kept.refl _ _, rfl⟩); (first | rfl | go_simp)
        refine .cons (fun x wf Kk hq hdep hold => ?_) ?_
        · (try dsimp only); (clear hq hdep hold); (rw [if_pos (by rfl)]); (refine OpY.val ?_ ⟨Kept.refl _ _, rfl⟩); (first | rfl | go_simp)
        refine .cons (fun x wf Kk hq hdep hold => ?_) ?_
        · (try dsimp only); (have h6 : x 6 = _ := hdep 6 (by kernel_rfl)); (have h7 : x 7 = _ := hdep 7 (by kernel_rfl)); (clear hq hdep hold); (simp only [h6, h7]); (clear h6 h7); (rw [if_pos (by rfl)]); (refine OpY.val ?_ ⟨Kept.refl _ _, rfl⟩); (first | rfl | go_simp)
        refine .cons (fun x wf Kk hq hdep hold => ?_) ?_
        · (try dsimp only); (have h8 : x 8 = _ := hdep 8 (by kernel_rfl)); (clear hq hdep hold); (simp only [h8]); (clear h8); (rw [if_pos (by rfl)]); (exact OpYE.ndrow (.tmp 44) rfl b2 (o2 + k * 4) rfl _ (((Kept.fresh Kk).undrew).rng r2.out) ⟨Kept.refl _ _, _, rfl, hz2'.out⟩)
        refine .cons (fun x wf Kk hq hdep hold => ?_) ?_
        · (try dsimp only); (clear hq hdep hold); (rw [if_pos (by rfl)]); (refine OpY.val (v := .pointer (some ⟨wf.heap.size, 0, none⟩)) (w' := wf.alloc (.cells zN.toArray 76)) ?_ ⟨(Kept.refl no wf).alloc _, _, rfl, Kk.size, zN, rfl, heap_alloc_new _ _⟩); (unfold zN); (go_simp)
        refine .cons (fun x wf Kk hq hdep hold => ?_) ?_
        · (try dsimp only); (clear hq hdep hold); (rw [if_pos (by rfl)]); (refine OpY.val (v := .pointer (some ⟨wf.heap.size, 0, none⟩)) (w' := wf.alloc (.cells zN.toArray 76)) ?_ ⟨(Kept.refl no wf).alloc _, _, rfl, Kk.size, zN, rfl, heap_alloc_new _ _⟩); (unfold zN); (go_simp)
        refine .cons (fun x wf Kk hq hdep hold => ?_) ?_
        · (try dsimp only); (have p10 : PrE.p (Ef := (EfN wr.drew xx)) (PBl wr.drew xx) (x 10) wf := hdep 10 (by kernel_rfl)); (have p4 : PrE.p (Ef := (EfN wr.drew xx)) (PNd2 wr.drew xx) (x 4) wf := hdep 4 (by kernel_rfl)); (clear hq hdep hold); (rw [if_pos (by rfl)]); (obtain ⟨t, et, zt⟩ := p4); (obtain ⟨g, eg, hq⟩ := p10); (obtain ⟨s1, s2⟩ := st4 hq zt); (obtain ⟨_, c, hc, hb⟩ := hq)
          obtain ⟨ca, cb, cd, ce, rfl⟩ : ∃ a b d e, c = [a, b, d, e] := by
                match c, hc with
                | [a, b, d, e], _ => exact ⟨a, b, d, e, rfl⟩
          (obtain ⟨ta, tc, rfl, _, _⟩ := Rd.shape2 zt); (rw [et, eg]); (have m0 : wf.cell? ⟨g, 0, none⟩ = some ca := by rw [cell_of_row _ _ 0 _ _ _ hb]; rfl); (have m1 : wf.cell? ⟨g, 1, none⟩ = some cb := by rw [cell_of_row _ _ 1 _ _ _ hb]; rfl); (have m2 : wf.cell? ⟨g, 2, none⟩ = some cd := by rw [cell_of_row _ _ 2 _ _ _ hb]; rfl); (have m3 : wf.cell? ⟨g, 3, none⟩ = some ce := by rw [cell_of_row _ _ 3 _ _ _ hb]; rfl); (have q0 := row_free hb 0); (have q1 := row_free hb 1); (have q2 := row_free hb 2); (have q3 := row_free hb 3); (refine OpY.skipZ (w' := _) (by unfold ndC; go_simp) ⟨s1, g, eg, s2⟩)
        refine .cons (fun x wf Kk hq hdep hold => ?_) ?_
        · (try dsimp only); (have p11 : PrE.p (Ef := (EfN wr.drew xx)) (PBl wr.drew xx) (x 11) wf := hdep 11 (by kernel_rfl)); (have p9 : PrE.p (Ef := (EfN wr.drew xx)) (PNd2 wr.drew xx) (x 9) wf := hdep 9 (by kernel_rfl)); (clear hq hdep hold); (rw [if_pos (by rfl)]); (obtain ⟨t, et, zt⟩ := p9); (obtain ⟨g, eg, hq⟩ := p11); (obtain ⟨s1, s2⟩ := st4 hq zt); (obtain ⟨_, c, hc, hb⟩ := hq)
          obtain ⟨ca, cb, cd, ce, rfl⟩ : ∃ a b d e, c = [a, b, d, e] := by
                match c, hc with
                | [a, b, d, e], _ => exact ⟨a, b, d, e, rfl⟩
          (obtain ⟨ta, tc, rfl, _, _⟩ := Rd.shape2 zt); (rw [et, eg]); (have m0 : wf.cell? ⟨g, 0, none⟩ = some ca := by rw [cell_of_row _ _ 0 _ _ _ hb]; rfl); (have m1 : wf.cell? ⟨g, 1, none⟩ = some cb := by rw [cell_of_row _ _ 1 _ _ _ hb]; rfl); (have m2 : wf.cell? ⟨g, 2, none⟩ = some cd := by rw [cell_of_row _ _ 2 _ _ _ hb]; rfl); (have m3 : wf.cell? ⟨g, 3, none⟩ = some ce := by rw [cell_of_row _ _ 3 _ _ _ hb]; rfl); (have q0 := row_free hb 0); (have q1 := row_free hb 1); (have q2 := row_free hb 2); (have q3 := row_free hb 3); (refine OpY.skipZ (w' := _) (by unfold ndC; go_simp) ⟨s1, g, eg, s2⟩)
        exact .nil _
      · (intro x wf Kk hv); (try dsimp only); (have p10 : PrE.p (Ef := (EfN wr.drew xx)) (PBl wr.drew xx) (x 10) wf := hv 10 (by kernel_rfl)); (have p11 : PrE.p (Ef := (EfN wr.drew xx)) (PBl wr.drew xx) (x 11) wf := hv 11 (by kernel_rfl)); (have p12 : PrE.r (Ef := (EfN wr.drew xx)) (PSt wr.drew xx 10) (x 10) (x 12) wf := hv 12 (by kernel_rfl)); (have p13 : PrE.r (Ef := (EfN wr.drew xx)) (PSt wr.drew xx 11) (x 11) (x 13) wf := hv 13 (by kernel_rfl)); (clear hv); (obtain ⟨g6, e6, hq6⟩ := p12); (obtain ⟨g7, e7, hq7⟩ := p13); (rw [e6, e7]); (obtain ⟨hg6, u1, z1, b6⟩ := hq6); (obtain ⟨hg7, u2, z2, b7⟩ := hq7); (have hkr : Hd (Kept no wr wf) := ⟨(Kept.fresh Kk).undrew⟩); (obtain ⟨ua, uc, rfl, _, _⟩ := Rd.shape2 z1); (obtain ⟨va, vc, rfl, _, _⟩ := Rd.shape2 z2); (have HE := hid (eqz_any _ _ xx.tail xx.tail wf (RdZ.kept z1 (Kept.fresh Kk)) (RdZ.kept z2 (Kept.fresh Kk)))); (rw [decide_eq_true (rfl : xx.tail = xx.tail)] at HE); (obtain ⟨xp, xt, xb, xl⟩ := xx); (obtain ⟨d0, d1, d2, d3⟩ := slot4 b6); (obtain ⟨f0, f1, f2, f3⟩ := slot4 b7); (have hK2 := hid (hK.out.trans' hkr.out)); (have hbl : (xl != xl) = false := by cases xl <;> rfl); (clear Kk p10 p11 b6 b7 z1 z2 hkr r1 r2 hz1' hz2' hK c12 c22 c12' c22' e6 e7); (go_wp2_with fail); (refine HE.out.mono ?_); (rintro e w9 ⟨rfl, q9⟩); (have hK3 := hid (hK2.out.trans' q9.kept)); (clear HE hK2 q9 d0 d1 d2 d3 f0 f1 f2 f3); (go_wp2); (go_roundw)
        case rel => first | exact ⟨k + 1, by omega, by go_num, hK3⟩ | ((repeat apply Exists.intro); exact ⟨⟨k + 1, by omega, by go_num, hK3⟩, rfl⟩)
        case measure => simp [intOf]; omega
    · (obtain rfl : n = k := by omega); (have hk1 : ¬ (n : Int) < (n : Int) := by omega); (go_wp2); (go_ret); (exact ⟨rfl, hk02.out.trans' hK.out⟩)
end Go.Proofs.Ytkdmlakookgolaa
