/- electionmake.Perm: some list of n numbers (printed by gen_perm.py). -/
import Derived.Test.YtkdmlakookgolaaGenZ
namespace Go.Proofs.Ytkdmlakookgolaa
open Go.RowKit Go.Mk Go.Pil
theorem infZi : (Try.prog.info? 3).map (fun i => (i.zero, i.size)) = some (some (.int .i64 0), 1) := by kernel_rfl
theorem newOr_nilE {w : World} {v : Value} (h : NewOr w (.slice none 0 0) v) : New w v := by
  rcases h with h | ⟨j, h1, h2⟩
  · exact .inl h
  · exact .inr ⟨j, h1, h2⟩
/-- A list of numbers of one's own, some list of m numbers. -/
def SomeZ {Sl : Nat → Nat → Prop} (w0 : World) (m : Nat) : Pr Sl := soft (fun v w => ∃ zs : List Int, zs.length = m ∧ OwZ w0 w v zs) fun _ _ _ ⟨zs, e, h⟩ k => ⟨zs, e, h.keptNo k⟩
def OneZ {Sl : Nat → Nat → Prop} (x : Int) : Pr Sl := soft (fun v w => RdZ w v [x]) fun _ _ _ h k => h.kept k
theorem pre_sliceZ (av : Option Addr) (lv cv m : Nat) (hav : cv = 0 ∨ ∃ b o, av = some ⟨b, o, none⟩) (hm : m ≤ cv) (w : World) : (Instr.slice 40 (.slice av lv cv) none (some (.int .i64 (m : Int))) none).run Try.prog w = .ok (.slice av m cv) w := pre_slice av lv cv m hav hm w
theorem post_sliceZ (av : Option Addr) (lv cv m : Nat) (_hav : cv = 0 ∨ ∃ b o, av = some ⟨b, o, none⟩) (hm : m ≤ lv) (_hlc : lv ≤ cv) (w : World) : (Instr.slice 40 (.slice av lv cv) (some (.int .i64 (m : Int))) none none).run Try.prog w = .ok (.slice (if cv = m then av else av.map (·.add m)) (lv - m) (cv - m)) w := by
  (have h0 : (0 : Int) ≤ (m : Int) := by omega); (have hc : Try.prog.underlying 40 = some (.slice 3) := by kernel_rfl); (obtain ⟨i, hi, hz, hs, hb⟩ := info_parts (P := Try.prog) (e := 3) (z := .int .i64 0) (size := 1) (bytes := 8) (by kernel_rfl)); (have h1 : (m : Int) ≤ (lv : Int) := by omega)
  simp [Instr.slice, Instr.sliceBounds, Instr.sliceBound, run_underlying hc, asIntOf, h0, sizeOf, typeInfo, hi, hs, hm]
theorem RdZ.drop {w : World} {ao : Option Addr} {n cap : Nat} {zs : List Int} (h : RdZ w (.slice ao n cap) zs) (m : Nat) (hm : m ≤ zs.length) : RdZ w (.slice (if cap = m then ao else ao.map (·.add m)) (zs.length - m) (cap - m)) (zs.drop m) := by
  obtain ⟨hl, _, _, e, h1, h2, h3⟩ := h
  cases e
  (have hd : (zs.drop m).length = zs.length - m := by simp); (refine ⟨by simp, _, _, by rw [hd], by rw [hd]; omega, by omega, ?_⟩)
  by_cases hc : cap = m
  · exact .inl (by omega)
  · rcases h3 with h3 | ⟨b, o, rfl, hcc⟩
    · exact .inl (by omega)
    · refine .inr ⟨b, o + m, ?_, fun j u hj => ?_⟩
      · (rw [if_neg hc]); (simp only [Option.map_some, Addr.add])
        split
        · rename_i e0; subst e0; simp
        · rfl
      · (rw [List.map_drop, List.getElem?_drop] at hj); (have := hcc (m + j) u hj); (rw [Nat.add_assoc]; exact this)
set_option maxRecDepth 100000 in
set_option maxHeartbeats 4000000 in
theorem gperm_any (n : Nat) (code : Int) (w : World) (hn : n ≤ 12) : Calls Try.prog 43 #[.int .i64 (n : Int), .int .i64 code] w fun e w' => ∃ v' zs, e = .returned v' ∧ zs.length = n ∧ OwZ w w' v' zs := by
  go_enter Try.func43, Try.ntmps43
  go_wp2
  go_loopw [1, 5, 6] (fun c out i wr => ∃ (k : Nat) (C : Int) (zs : List Int), k ≤ n ∧ i = .int .i64 (k : Int) ∧ c = .int .i64 C ∧ Hd (zs.length = k) ∧ Hd (OwZ w wr out zs)) (fun _ _ i _ => n - (intOf i).toNat)
  case atStart => exact ⟨0, code, [], by omega, rfl, rfl, ⟨rfl⟩, ⟨OwZ.nil w⟩⟩
  case round =>
    obtain ⟨k, C, zs, hk, rfl, rfl, hzl, hO⟩ := hrel
    by_cases hlt : k < n
    · (have hk1 : (k : Int) < (n : Int) := by omega); (have hk0 : (0 : Int) ≤ (k : Int) := by omega); (have hkw : IntKind.i64.wrap ((k : Int) + 1) = (k : Int) + 1 := IntWalk.i64_in _ (by omega)); (have hk1z : ¬ (k : Int) + 1 = 0 := by omega); (obtain ⟨m, hm⟩ : ∃ m : Nat, modI C ((k : Int) + 1) = (m : Int) := ⟨(modI C ((k : Int) + 1)).toNat, by have := modI_lt C ((k : Int) + 1) (by omega); omega⟩); (have hmk : m ≤ k := by have := modI_lt C ((k : Int) + 1) (by omega); omega); (have HM := mod_any C ((k : Int) + 1) wr (by omega) (by omega)); (rw [hm] at HM); (replace HM := hid HM); (obtain ⟨ao, cl, hu, hlc, hcm⟩ := Rd.shape2 hO.out.rd); (rw [hzl.out] at hu hlc); (subst hu); (have haddr := hO.out.rd.addr); (have hsl1 := pre_sliceZ ao k cl m haddr (by omega)); (have hsl2 := post_sliceZ ao k cl m haddr hmk hlc); (have R1 : Hd (RdZ wr (.slice ao m cl) (zs.take m)) := ⟨hO.out.rd.take m (by rw [hzl.out]; exact hmk)⟩); (have R2 := hO.out.rd.drop m (by rw [hzl.out]; exact hmk)); (rw [hzl.out] at R2); (replace R2 := hid R2); (have hl1 : Hd ((zs.take m).length = m) := ⟨by rw [List.length_take, hzl.out]; omega⟩); (have hl2 : Hd ((zs.drop m).length = k - m) := ⟨by rw [List.length_drop, hzl.out]⟩); (have hls : m + 1 + (k - m) ≤ maxLen ∧ (m + 1 + (k - m)) * 8 ≤ 140737488355328 := by have hmx : maxLen = 9223372036854775807 := rfl; omega); (have hbk : k ≤ 12 := by omega); (replace hm := hid hm); (have KW := hid hO.out.kept); (clear hlc hcm haddr); (go_wp2_with fail); (refine HM.out.mono ?_); (rintro e w1 ⟨rfl, rfl⟩); (generalize zs.take m = z1 at R1 hl1); (generalize zs.drop m = z2 at R2 hl2); (generalize (if cl = m then ao else ao.map (·.add m)) = ao2 at hsl2 R2); (obtain ⟨km, hkm⟩ : ∃ km, k - m = km := ⟨_, rfl⟩); (rw [hkm] at hsl2 R2 hl2 hls); (replace hkm : Hd (m + km = k) := ⟨by omega⟩); (generalize cl - m = cl2 at hsl2 R2); (clear HM); (go_upto_region 7 with fail); (refine region_flow (S := (fun j => w1.heap.size ≤ j)) (Sl := (fun _ => (fun j => w1.heap.size ≤ j))) [Is (.slice ao k cl), Is (.int .i64 (m : Int)), Is (.slice ao m cl), SomeZ w1 m, Is (.int .i64 (k : Int)), OneZ (k : Int), SomeZ w1 (m + 1), Is (.slice ao k cl), Is (.int .i64 (m : Int)), Is (.slice ao2 km cl2), SomeZ w1 (m + 1 + km), SomeZ w1 (m + 1 + km)] [6, 10] (fun _ _ h => h) _ (by kernel_rfl) (by kernel_rfl) (by kernel_rfl) (by kernel_rfl) (fun x => by simp only [puts, Act.put, List.map_cons, List.map_nil, Nat.zero_add, Nat.reduceAdd, List.setIfInBounds_toArray, List.set_cons_zero, List.set_cons_succ]; exact rfl) ?_ ?_)
      · (skip); (refine Steps.cons (fun x wf Kk hq hdep hold => ?_) ?_)
        · (try dsimp only); (have h11 : x 11 = (.slice ao k cl) := hold 11 (by kernel_rfl)); (clear hq hdep hold); (simp only [h11]); (clear h11); (rw [if_pos (by rfl)]); (refine OpY.val (v := (.slice ao k cl)) ?_ ⟨Kept.refl _ _, rfl⟩); (first | rfl | go_simp)
        refine Steps.cons (fun x wf Kk hq hdep hold => ?_) ?_
        · (try dsimp only); (clear hq hdep hold); (rw [if_pos (by rfl)]); (refine OpY.val (v := (.int .i64 (m : Int))) ?_ ⟨Kept.refl _ _, rfl⟩); (first | rfl | go_simp)
        refine Steps.cons (fun x wf Kk hq hdep hold => ?_) ?_
        · (try dsimp only); (have h0 : x 0 = (.slice ao k cl) := hdep 0 (by kernel_rfl)); (have h1 : x 1 = (.int .i64 (m : Int)) := hdep 1 (by kernel_rfl)); (clear hq hdep hold); (simp only [h0, h1]); (clear h0 h1); (rw [if_pos (by rfl)]); (refine OpY.val (v := (.slice ao m cl)) ?_ ⟨Kept.refl _ _, rfl⟩); (first | rfl | go_simp)
        refine Steps.cons (fun x wf Kk hq hdep hold => ?_) ?_
        · (try dsimp only); (have h2 : x 2 = (.slice ao m cl) := hdep 2 (by kernel_rfl)); (clear hq hdep hold); (simp only [h2]); (clear h2); (rw [if_pos (by rfl)]); (refine OpY.append (.const (.slice none 0 0)) (.tmp 23) 40 _ rfl rfl 3 1 8 TInts (.slice none 0 0) 0 [] rfl (World.ownsRow_nil _ _ _ _) (.slice ao m cl) m (z1.map Z) rfl (show Rd wf 1 (.slice ao m cl) m (z1.map Z) from by have := R1.out.kept Kk.fresh.undrew; unfold RdZ at this; rwa [hl1.out] at this) (Z_one z1) (by have := hls.1; omega) (by omega) ?_); (intro v2 w2 h2 h3 h4 _); (have hk2 := Kept.ob_nil h3); (exact ⟨hk2, z1, hl1.out, by rw [hl1.out]; simpa using h2, Kk.fresh.undrew.trans' hk2, (newOr_nilE h4).of Kk.fresh.undrew.size⟩)
        refine Steps.cons (fun x wf Kk hq hdep hold => ?_) ?_
        · (try dsimp only); (clear hq hdep hold); (rw [if_pos (by rfl)]); (refine OpY.val (v := (.int .i64 (k : Int))) ?_ ⟨Kept.refl _ _, rfl⟩); (first | rfl | go_simp)
        refine Steps.cons (fun x wf Kk hq hdep hold => ?_) ?_
        · (try dsimp only); (have h4 : x 4 = (.int .i64 (k : Int)) := hdep 4 (by kernel_rfl)); (clear hq hdep hold); (simp only [h4]); (clear h4); (rw [if_pos (by rfl)]); (refine OpY.build 40 3 1 _ rfl 1 (.int .i64 0) Try.underlying40 infZi (by decide) (by decide) [.int .i64 (k : Int)] [(0, .int .i64 (k : Int))] rfl (fill_rows 1 (by decide) (.int .i64 0) [.int .i64 (k : Int)] (fun v hv => by obtain rfl := List.mem_singleton.1 hv; rfl)) rfl (by decide) (fun w' hg kk ho => ⟨kk, own_RdZ (zs := [(k : Int)]) ho⟩))
        refine Steps.cons (fun x wf Kk hq hdep hold => ?_) ?_
        · (try dsimp only); (have p3 : Pr.p (Sl := (fun _ => (fun j => w1.heap.size ≤ j))) (SomeZ w1 m) (x 3) wf := hdep 3 (by kernel_rfl)); (have p5 : Pr.p (Sl := (fun _ => (fun j => w1.heap.size ≤ j))) (OneZ (k : Int)) (x 5) wf := hdep 5 (by kernel_rfl)); (clear hq hdep hold); (rw [if_pos (by rfl)]); (obtain ⟨y1, e1, o1⟩ := p3); (refine OpY.append (.tmp 24) (.tmp 26) 40 _ rfl rfl 3 1 8 TInts (x 3) _ _ rfl o1.own (x 5) 1 [.int .i64 (k : Int)] rfl (show Rd wf 1 (x 5) 1 [.int .i64 (k : Int)] from p5) (Z_one [(k : Int)]) (by rw [e1]; have := hls.1; omega) (by rw [e1]; omega) ?_); (intro v2 w2 h2 h3 h4 _); (exact ⟨h3.mono (fun j _ hj => o1.new.fr (Nat.le_refl _) j hj), y1 ++ [(k : Int)], by rw [List.length_append, e1]; rfl, o1.add _ h2 h3 h4⟩)
        refine Steps.cons (fun x wf Kk hq hdep hold => ?_) ?_
        · (try dsimp only); (have h11 : x 11 = (.slice ao k cl) := hold 11 (by kernel_rfl)); (clear hq hdep hold); (simp only [h11]); (clear h11); (rw [if_pos (by rfl)]); (refine OpY.val (v := (.slice ao k cl)) ?_ ⟨Kept.refl _ _, rfl⟩); (first | rfl | go_simp)
        refine Steps.cons (fun x wf Kk hq hdep hold => ?_) ?_
        · (try dsimp only); (clear hq hdep hold); (rw [if_pos (by rfl)]); (refine OpY.val (v := (.int .i64 (m : Int))) ?_ ⟨Kept.refl _ _, rfl⟩); (first | rfl | go_simp)
        refine Steps.cons (fun x wf Kk hq hdep hold => ?_) ?_
        · (try dsimp only); (have h7 : x 7 = (.slice ao k cl) := hdep 7 (by kernel_rfl)); (have h8 : x 8 = (.int .i64 (m : Int)) := hdep 8 (by kernel_rfl)); (clear hq hdep hold); (simp only [h7, h8]); (clear h7 h8); (rw [if_pos (by rfl)]); (refine OpY.val (v := (.slice ao2 km cl2)) ?_ ⟨Kept.refl _ _, rfl⟩); (first | rfl | go_simp)
        refine Steps.cons (fun x wf Kk hq hdep hold => ?_) ?_
        · (try dsimp only); (have p6 : Pr.p (Sl := (fun _ => (fun j => w1.heap.size ≤ j))) (SomeZ w1 (m + 1)) (x 6) wf := hdep 6 (by kernel_rfl)); (have h9 : x 9 = (.slice ao2 km cl2) := hdep 9 (by kernel_rfl)); (clear hq hdep hold); (simp only [h9]); (clear h9); (rw [if_pos (by rfl)]); (obtain ⟨y1, e1, o1⟩ := p6); (refine OpY.append (.tmp 27) (.tmp 30) 40 _ rfl rfl 3 1 8 TInts (x 6) _ _ rfl o1.own (.slice ao2 km cl2) km (z2.map Z) rfl (show Rd wf 1 (.slice ao2 km cl2) km (z2.map Z) from by have := R2.out.kept Kk.fresh.undrew; unfold RdZ at this; rwa [hl2.out] at this) (Z_one z2) (by rw [e1]; exact hls.1) (by rw [e1]; exact hls.2) ?_); (intro v2 w2 h2 h3 h4 _); (exact ⟨h3.mono (fun j _ hj => o1.new.fr (Nat.le_refl _) j hj), y1 ++ z2, by rw [List.length_append, e1, hl2.out], by rw [List.length_append, List.map_append, hl2.out]; exact h2, o1.new.kept o1.kept h3, o1.new.step h4 o1.kept.size⟩)
        refine Steps.cons (fun x wf Kk hq hdep hold => ?_) ?_
        · (try dsimp only); (have p10 : Pr.p (Sl := (fun _ => (fun j => w1.heap.size ≤ j))) (SomeZ w1 (m + 1 + km)) (x 10) wf := hdep 10 (by kernel_rfl)); (clear hq hdep hold); (rw [if_pos (by rfl)]); (exact OpY.val (v := x 10) rfl ⟨Kept.refl _ _, p10⟩)
        exact Steps.nil _
      · (intro x wf Kk hv); (try dsimp only); (have h0 : x 0 = (.slice ao k cl) := hv 0 (by kernel_rfl)); (have h1 : x 1 = (.int .i64 (m : Int)) := hv 1 (by kernel_rfl)); (have h2 : x 2 = (.slice ao m cl) := hv 2 (by kernel_rfl)); (have h4 : x 4 = (.int .i64 (k : Int)) := hv 4 (by kernel_rfl)); (have h7 : x 7 = (.slice ao k cl) := hv 7 (by kernel_rfl)); (have h8 : x 8 = (.int .i64 (m : Int)) := hv 8 (by kernel_rfl)); (have h9 : x 9 = (.slice ao2 km cl2) := hv 9 (by kernel_rfl)); (have p11 : Pr.p (Sl := (fun _ => (fun j => w1.heap.size ≤ j))) (SomeZ w1 (m + 1 + km)) (x 11) wf := hv 11 (by kernel_rfl)); (clear hv); (simp only [h0, h1, h2, h4, h7, h8, h9]); (clear h0 h1 h2 h4 h7 h8 h9); (obtain ⟨ys, ey, oy⟩ := p11); (have hzl' : Hd (ys.length = k + 1) := ⟨by rw [ey, ← hkm.out]; omega⟩); (have hO' : Hd (OwZ w wf (x 11) ys) := ⟨oy.of_kept KW.out⟩); (generalize x 11 = v' at hO' ⊢); (clear ey oy KW Kk R1 R2 hl1 hl2 hsl1 hsl2 hO hzl hm hkm); (go_wp2); (go_roundw)
        case rel => first | exact ⟨k + 1, _, ys, by omega, by go_num, rfl, hzl', hO'⟩ | ((repeat apply Exists.intro); exact ⟨⟨k + 1, _, ys, by omega, by go_num, rfl, hzl', hO'⟩, rfl⟩)
        case measure => simp [intOf]; omega
    · (obtain rfl : k = n := by omega); (go_wp2); (go_ret); (exact ⟨_, zs, rfl, hzl.out, hO.out⟩)
end Go.Proofs.Ytkdmlakookgolaa
