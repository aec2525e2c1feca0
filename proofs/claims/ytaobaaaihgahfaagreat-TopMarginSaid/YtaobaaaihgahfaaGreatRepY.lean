/- math/bits.Mul: the kit's contract laid at this program. -/
import Derived.Test.YtaobaaaihgahfaaGreatRTailY
import Derived.Shelf.Bits.Mul64
import Derived.Laws.CopyRow
namespace Go.Proofs.YtaobaaaihgahfaaGreat
open Go.Shelf Go.RowKit
def mulRen : Go.Shelf.Ren := ⟨fun | 212 => 103 | 263 => 154 | 264 => 155 | n => n, fun | 46 => 158 | 51 => 202 | 53 => 171 | 146 => 203 | 148 => 205 | n => n, fun n => n⟩
theorem mulLays : Lays.n212 Tryz.prog mulRen := { mixed := by kernel_rfl, f212 := by kernel_rfl, f263 := by kernel_rfl, f264 := by kernel_rfl, t46 := by kernel_rfl, a46 := fun _ => by kernel_rfl, z46 := fun _ => by kernel_rfl, v46 := fun _ => by kernel_rfl, t51 := by kernel_rfl, a51 := fun _ => by kernel_rfl, z51 := fun _ => by kernel_rfl, v51 := fun _ => by kernel_rfl, t53 := by kernel_rfl, a53 := fun _ => by kernel_rfl, z53 := fun _ => by kernel_rfl, v53 := fun _ => by kernel_rfl, t146 := by kernel_rfl, a146 := fun _ => by kernel_rfl, z146 := fun _ => by kernel_rfl, v146 := fun _ => by kernel_rfl, t148 := by kernel_rfl, a148 := fun _ => by kernel_rfl, z148 := fun _ => by kernel_rfl, v148 := fun _ => by kernel_rfl }
/-- 1 times n. -/
theorem mul1_any (n : Nat) (hn : n < 1000000) (w : World) : Calls Tryz.prog 103 #[.int .u64 1, .int .u64 (n : Int)] w fun e w' => e = .returned (.tuple #[.int .u64 0, .int .u64 (n : Int)]) ∧ w' = w := by
  (have := Any.bits_Mul mulLays 1 n (by decide) (by omega) w); (rw [show 1 * n / 18446744073709551616 = 0 by omega, show 1 * n % 18446744073709551616 = n by omega] at this); (exact this)
end Go.Proofs.YtaobaaaihgahfaaGreat

/- slices.Repeat of one element, margin.all (printed by gen_rep.py). -/
namespace Go.Mk
open Go.RowKit
theorem OpY.copy {P : Program} {o : Oper} {a : Act} {w w' : World} {R : Value → World → Prop} (d s : Operand) (t t' : TypeId) (ho : o.op = .call { callee := .builtin .copy, args := #[d, s], argTypes := #[t, t'] })
    (v u : Value) (hd : a.eval d = v) (hs : a.eval s = u) {v' : Value} (hr : (Builtin.copy_ #[t, t'] o.type #[v, u]).run P w = .ok v' w') (h : R v' w') : OpY P o a w R := by
  (unfold OpY execOp); (simp only [ho, resolve, invoke, builtin, Sem.run_bind, Sem.run_pure, Result.andThen_ok, List.map_toArray, List.map_cons, List.map_nil, hd, hs, hr]); (exact h)
/-- The value and what the block holds. -/
def PCp {Sl : Nat → Nat → Prop} (x : Value) (g : Nat) (cs : Array Value) (t : TypeId) : Pr Sl := soft (fun v w => v = x ∧ w.heap[g]? = some (.cells cs t (0, 0))) fun _ _ _ ⟨h1, h2⟩ k => ⟨h1, (k.block _ (Array.getElem?_eq_some_iff.1 h2).1 id).trans h2⟩
def repC (u z : Value) (n k : Nat) : Array Value := (List.replicate k u ++ List.replicate (n - k) z).toArray
theorem rep_copy (u z : Value) (n k d : Nat) (h : k + d ≤ n) : ((repC u z n k).toList.take k ++ List.replicate d u ++ (repC u z n k).toList.drop (k + (List.replicate d u).length)).toArray = repC u z n (k + d) := by
  unfold repC
  congr 1
  apply List.ext_getElem
  · simp; omega
  · (intro i h1 h2); (simp only [List.getElem_append, List.length_replicate, List.getElem_replicate, List.length_take, List.length_append, List.getElem_take, List.getElem_drop])
    repeat' split
    all_goals first | rfl | (exfalso; omega)
theorem repC_size (u z : Value) (n k : Nat) (h : k ≤ n) : (repC u z n k).size = n := by simp [repC]; omega
theorem repC_at (u z : Value) (n k j : Nat) (h : j < k) : (repC u z n k)[j]? = some u := by simp [repC, List.getElem?_append, h]
end Go.Mk
namespace Go.Proofs.YtaobaaaihgahfaaGreat
open Go.RowKit Go.Mk Go.Pil Go.Mg

theorem post_sliceT (av : Option Addr) (lv cv m : Nat) (hm : m ≤ lv) (w : World) : (Instr.slice 68 (.slice av lv cv) (some (.int .i64 (m : Int))) none none).run Tryz.prog w = .ok (.slice (if cv = m then av else av.map (·.add m)) (lv - m) (cv - m)) w := by
  (have h0 : (0 : Int) ≤ (m : Int) := by omega); (have hc : Tryz.prog.underlying 68 = some (.slice 4) := by kernel_rfl); (obtain ⟨i, hi, hz, hs, hb⟩ := info_parts (P := Tryz.prog) (e := 4) (z := .bool false) (size := 1) (bytes := 1) (by kernel_rfl)); (have h1 : (m : Int) ≤ (lv : Int) := by omega)
  simp [Instr.slice, Instr.sliceBounds, Instr.sliceBound, run_underlying hc, asIntOf, h0, sizeOf, typeInfo, hi, hs, hm]
theorem rept_zero (n : Nat) : zsT (List.replicate n false) = repC (Value.bool true) (Value.bool false) n 0 := by
  unfold repC zsT
  simp
set_option maxRecDepth 100000 in
set_option maxHeartbeats 4000000 in
theorem rept_any (n : Nat) (v : Value) (w : World) (hn : n ≤ 255) (hx : Rd w 1 v 1 [Value.bool true]) :
    Calls Tryz.prog 194 #[v, .int .i64 (n : Int)] w fun e w' => ∃ g, e = .returned (.slice (some ⟨g, 0, none⟩) n n) ∧ w'.heap[g]? = some (.cells (repC (Value.bool true) (Value.bool false) n n) 4 (0, 0)) ∧ w.heap.size ≤ g ∧ Kept no w w' := by
  (obtain ⟨ao, cap, rfl⟩ := Rd.shapeZ hx); (have HM := hid (fun w => mul1_any n (by omega) w)); (have hmk := fun w => makeT n (by omega) w); (have hn0 : ¬ (n : Int) < 0 := by omega); (have hnu : IntKind.u64.wrap (n : Int) = (n : Int) := by rw [IntKind.wrap_u64]; omega); (have hni : IntKind.i64.wrap (n : Int) = (n : Int) := IntWalk.i64_in _ (by omega)); (have hn9 : ¬ (9223372036854775807 : Int) < (n : Int) := by omega); (have hd9 : decide ((9223372036854775807 : Int) < (n : Int)) = false := decide_eq_false hn9)
  obtain ⟨b, o, rfl, hc0⟩ : ∃ b o, ao = some ⟨b, o, none⟩ ∧ w.cell? ⟨b, o, none⟩ = some (Value.bool true) := by
    obtain ⟨_, _, _, e, h1, _, h | ⟨b, o, e2, hc⟩⟩ := hx
    · cases e; omega
    · cases e; exact ⟨b, o, e2, hc 0 _ rfl⟩
  (clear hx); (replace hc0 := hid hc0)
  go_enter Tryz.func194, Tryz.ntmps194
  (go_wp2_with fail); (refine (HM.out _).mono ?_); (rintro e w1 ⟨rfl, rfl⟩); (have hmk := hmk w1); (have g0 : Hd ((w1.alloc (.cells (zsT (List.replicate n false)) 4)).heap[w1.heap.size]? = some (.cells (repC (Value.bool true) (Value.bool false) n 0) 4 (0, 0))) := ⟨by rw [← rept_zero]; exact heap_alloc_new _ _⟩); (have k0 := hid ((Kept.refl no w1).alloc (.cells (zsT (List.replicate n false)) 4))); (obtain ⟨c, hc⟩ : ∃ c, Nat.min 1 n = c := ⟨_, rfl⟩); (have hc1 : c ≤ n ∧ c ≤ 1 ∧ (1 ≤ c ∨ n = 0) := by rw [← hc]; simp only [Nat.min_def]; split <;> omega); (obtain ⟨wa, hwa⟩ : ∃ wa, wa = w1.alloc (.cells (zsT (List.replicate n false)) 4) := ⟨_, rfl⟩)
  have hcp := run_copy_row (P := Tryz.prog) wa 68 68 3 4 w1.heap.size 0 n n ⟨b, o, none⟩ 1 cap (repC (Value.bool true) (Value.bool false) n 0) 4 (List.replicate c (Value.bool true)) Tryz.underlying68 (by kernel_rfl) (by rw [hwa]; exact g0.out) (by rw [List.length_replicate, hc]) (fun j x hj => by
      (obtain ⟨h1, h2⟩ := List.getElem?_eq_some_iff.1 hj); (obtain rfl : j = 0 := by simp at h1; omega); (rw [List.getElem_replicate] at h2); (subst h2); (have : (⟨b, o, none⟩ : Addr).add 0 = ⟨b, o, none⟩ := by simp [Addr.add])
      rw [this, hwa]; exact k0.out.cell hc0.out id) (by rw [List.length_replicate, repC_size _ _ _ _ (by omega)]; omega) (fun x hx => by rw [List.eq_of_mem_replicate hx]; rfl)
  (have hrc := rep_copy (Value.bool true) (Value.bool false) n 0 c (by omega)); (rw [Nat.zero_add, Nat.zero_add] at hrc); (rw [Nat.zero_add, hrc, List.length_replicate] at hcp); (have gb : Hd ((wa.setRow w1.heap.size (repC (Value.bool true) (Value.bool false) n c)).heap[w1.heap.size]? = some (.cells (repC (Value.bool true) (Value.bool false) n c) 4 (0, 0))) := ⟨setRow_heap _ _ _ _ _ _ (by rw [hwa]; exact g0.out)⟩); (have kb : Hd (Kept no w1 (wa.setRow w1.heap.size (repC (Value.bool true) (Value.bool false) n c))) := ⟨by rw [hwa]; exact k0.out.setRow (.inr (Nat.le_refl _)) _⟩); (clear hrc g0 k0); (subst hwa); (replace hc := hid hc); (have hgi : goInt c = .int .i64 (c : Int) := rfl); (rw [hgi] at hcp); (go_wp2); (clear hcp hmk hgi)
  go_loopw [8] (fun i wr => ∃ k : Nat, k ≤ n ∧ (1 ≤ k ∨ n = 0) ∧ i = .int .i64 (k : Int) ∧ Hd (wr.heap[w1.heap.size]? = some (.cells (repC (Value.bool true) (Value.bool false) n k) 4 (0, 0))) ∧ Hd (Kept no w1 wr)) (fun i _ => n - (intOf i).toNat)
  case atStart => exact ⟨c, by omega, by omega, rfl, gb, kb⟩
  case round =>
    (clear gb kb); (obtain ⟨k, hk, hk1, rfl, hg, hK⟩ := hrel)
    by_cases hlt : k < n
    · (have hlt1 : (k : Int) < (n : Int) := by omega); (have hk0 : (0 : Int) ≤ (k : Int) := by omega); (obtain ⟨d, hd⟩ : ∃ d, Nat.min k (n - k) = d := ⟨_, rfl⟩); (have hd1 : 1 ≤ d ∧ d ≤ k ∧ k + d ≤ n := by rw [← hd]; simp only [Nat.min_def]; split <;> omega)
      have hcp : Hd (∀ wf : World, wf.heap[w1.heap.size]? = some (.cells (repC (Value.bool true) (Value.bool false) n k) 4 (0, 0)) → (Builtin.copy_ #[68, 68] 3 #[.slice (some ⟨w1.heap.size, k, none⟩) (n - k) (n - k), .slice (some ⟨w1.heap.size, 0, none⟩) k n]).run Tryz.prog wf = .ok (.int .i64 (d : Int)) (wf.setRow w1.heap.size (repC (Value.bool true) (Value.bool false) n (k + d)))) := ⟨fun wf hgf => by
        have := run_copy_row (P := Tryz.prog) wf 68 68 3 4 w1.heap.size k (n - k) (n - k) ⟨w1.heap.size, 0, none⟩ k n (repC (Value.bool true) (Value.bool false) n k) 4 (List.replicate d (Value.bool true)) Tryz.underlying68 (by kernel_rfl) hgf (by rw [List.length_replicate, hd]) (fun j x hj => by
            (obtain ⟨h1, h2⟩ := List.getElem?_eq_some_iff.1 hj); (rw [List.getElem_replicate] at h2); (rw [List.length_replicate] at h1); (subst h2)
            have e : (⟨w1.heap.size, 0, none⟩ : Addr).add j = ⟨w1.heap.size, 0 + j, none⟩ := by
              unfold Addr.add; split
              · rename_i e0; subst e0; rfl
              · rfl
            rw [e, cell_of_row wf _ _ _ _ _ hgf, Nat.zero_add]
            exact repC_at _ _ _ _ _ (by omega)) (by rw [List.length_replicate, repC_size _ _ _ _ (by omega)]; omega) (fun x hx => by rw [List.eq_of_mem_replicate hx]; rfl)
        rw [rep_copy _ _ _ _ _ (by omega), List.length_replicate] at this
        exact this⟩
      have hsl1 : ∀ w, (Instr.slice 68 (.slice (some ⟨w1.heap.size, 0, none⟩) n n) (some (.int .i64 (k : Int))) none none).run Tryz.prog w = .ok (.slice (some ⟨w1.heap.size, k, none⟩) (n - k) (n - k)) w := fun w => by
        (have := post_sliceT (some ⟨w1.heap.size, 0, none⟩) n n k hk w); (rw [if_neg (by omega)] at this); (rw [this]); (simp only [Option.map_some, Addr.add])
        split
        · rename_i e0; omega
        · simp
      (have hsl2 := pre_sliceT (some ⟨w1.heap.size, 0, none⟩) n n k (.inr ⟨_, _, rfl⟩) hk); (have hwr : IntKind.i64.wrap ((k : Int) + (d : Int)) = ((k + d : Nat) : Int) := by rw [IntWalk.i64_in _ (by omega)]; omega); (replace hd := hid hd); (go_upto_region 9 with fail); (refine region_flow (S := (fun j => j = w1.heap.size)) (Sl := (fun _ => (fun j => j = w1.heap.size))) [Is (.int .i64 (k : Int)), Is (.slice (some ⟨w1.heap.size, 0, none⟩) n n), Is (.int .i64 (k : Int)), Is (.slice (some ⟨w1.heap.size, k, none⟩) (n - k) (n - k)), Is (.slice (some ⟨w1.heap.size, 0, none⟩) n n), Is (.int .i64 (k : Int)), Is (.slice (some ⟨w1.heap.size, 0, none⟩) k n), PCp (.int .i64 (d : Int)) w1.heap.size (repC (Value.bool true) (Value.bool false) n (k + d)) 4, PCp (.int .i64 ((k + d : Nat) : Int)) w1.heap.size (repC (Value.bool true) (Value.bool false) n (k + d)) 4, PCp (.int .i64 ((k + d : Nat) : Int)) w1.heap.size (repC (Value.bool true) (Value.bool false) n (k + d)) 4] [7] (fun _ _ h => h) _ (by kernel_rfl) (by kernel_rfl) (by kernel_rfl) (by kernel_rfl) (fun x => by simp only [puts, Act.put, List.map_cons, List.map_nil, Nat.zero_add, Nat.reduceAdd, List.setIfInBounds_toArray, List.set_cons_zero, List.set_cons_succ]; exact rfl) ?_ ?_)
      · (skip); (refine .cons (fun x wf Kk hq hdep hold => ?_) ?_)
        · (try dsimp only); (have h9 : x 9 = (.int .i64 (k : Int)) := hold 9 (by kernel_rfl)); (clear hq hdep hold); (simp only [h9]); (clear h9); (rw [if_pos (by rfl)]); (refine OpY.val ?_ ⟨Kept.refl _ _, rfl⟩); (first | rfl | go_simp)
        refine .cons (fun x wf Kk hq hdep hold => ?_) ?_
        · (try dsimp only); (clear hq hdep hold); (rw [if_pos (by rfl)]); (refine OpY.val ?_ ⟨Kept.refl _ _, rfl⟩); (first | rfl | go_simp)
        refine .cons (fun x wf Kk hq hdep hold => ?_) ?_
        · (try dsimp only); (have h9 : x 9 = (.int .i64 (k : Int)) := hold 9 (by kernel_rfl)); (clear hq hdep hold); (simp only [h9]); (clear h9); (rw [if_pos (by rfl)]); (refine OpY.val ?_ ⟨Kept.refl _ _, rfl⟩); (first | rfl | go_simp)
        refine .cons (fun x wf Kk hq hdep hold => ?_) ?_
        · (try dsimp only); (have h1 : x 1 = _ := hdep 1 (by kernel_rfl)); (have h2 : x 2 = _ := hdep 2 (by kernel_rfl)); (clear hq hdep hold); (simp only [h1, h2]); (clear h1 h2); (rw [if_pos (by rfl)]); (refine OpY.val ?_ ⟨Kept.refl _ _, rfl⟩); (first | rfl | go_simp)
        refine .cons (fun x wf Kk hq hdep hold => ?_) ?_
        · (try dsimp only); (clear hq hdep hold); (rw [if_pos (by rfl)]); (refine OpY.val ?_ ⟨Kept.refl _ _, rfl⟩); (first | rfl | go_simp)
        refine .cons (fun x wf Kk hq hdep hold => ?_) ?_
        · (try dsimp only); (have h9 : x 9 = (.int .i64 (k : Int)) := hold 9 (by kernel_rfl)); (clear hq hdep hold); (simp only [h9]); (clear h9); (rw [if_pos (by rfl)]); (refine OpY.val ?_ ⟨Kept.refl _ _, rfl⟩); (first | rfl | go_simp)
        refine .cons (fun x wf Kk hq hdep hold => ?_) ?_
        · (try dsimp only); (have h4 : x 4 = _ := hdep 4 (by kernel_rfl)); (have h5 : x 5 = _ := hdep 5 (by kernel_rfl)); (clear hq hdep hold); (simp only [h4, h5]); (clear h4 h5); (rw [if_pos (by rfl)]); (refine OpY.val ?_ ⟨Kept.refl _ _, rfl⟩); (first | rfl | go_simp)
        refine .cons (fun x wf Kk hq hdep hold => ?_) ?_
        · (try dsimp only); (have h3 : x 3 = _ := hdep 3 (by kernel_rfl)); (have h6 : x 6 = _ := hdep 6 (by kernel_rfl)); (have Kq := hq no (fun j hj => by cases (show j ∈ ([] : List Nat) from by (have e : ∀ l : List Nat, l = [] → j ∈ l → j ∈ ([] : List Nat) := fun l h h2 => h ▸ h2); exact e _ (by kernel_rfl) hj))); (clear hq hdep hold); (simp only [h3, h6]); (clear h3 h6); (rw [if_pos (by rfl)]); (have hgf := (Kq.undrew.block _ (Array.getElem?_eq_some_iff.1 hg.out).1 id).trans hg.out); (refine OpY.copy (.tmp 41) (.tmp 44) _ _ rfl _ _ rfl rfl (hcp.out wf hgf) ?_); (exact ⟨(Kept.refl (fun j => j = w1.heap.size) wf).setRow (g := w1.heap.size) (.inl rfl) _, rfl, setRow_heap _ _ _ _ _ _ hgf⟩)
        refine .cons (fun x wf Kk hq hdep hold => ?_) ?_
        · (try dsimp only); (have h0 : x 0 = _ := hdep 0 (by kernel_rfl)); (have p7 : Pr.p (Sl := (fun _ => (fun j => j = w1.heap.size))) (PCp (.int .i64 (d : Int)) w1.heap.size (repC (Value.bool true) (Value.bool false) n (k + d)) 4) (x 7) wf := hdep 7 (by kernel_rfl)); (clear hq hdep hold); (simp only [h0]); (clear h0); (rw [if_pos (by rfl)]); (obtain ⟨e7, h7⟩ := p7); (rw [e7]); (refine OpY.val (v := .int .i64 ((k + d : Nat) : Int)) ?_ ⟨Kept.refl _ _, rfl, h7⟩); (go_simp)
        refine .cons (fun x wf Kk hq hdep hold => ?_) ?_
        · (try dsimp only); (have p8 : Pr.p (Sl := (fun _ => (fun j => j = w1.heap.size))) (PCp (.int .i64 ((k + d : Nat) : Int)) w1.heap.size (repC (Value.bool true) (Value.bool false) n (k + d)) 4) (x 8) wf := hdep 8 (by kernel_rfl)); (clear hq hdep hold); (rw [if_pos (by rfl)]); (exact OpY.val (v := x 8) rfl ⟨Kept.refl _ _, p8⟩)
        exact .nil _
      · (intro x wf Kk hv); (try dsimp only); (have p9 : Pr.p (Sl := (fun _ => (fun j => j = w1.heap.size))) (PCp (.int .i64 ((k + d : Nat) : Int)) w1.heap.size (repC (Value.bool true) (Value.bool false) n (k + d)) 4) (x 9) wf := hv 9 (by kernel_rfl)); (clear hv); (obtain ⟨e9, h9⟩ := p9); (simp only [e9]); (have hg2 := hid h9); (have hK2 := hid (hK.out.trans Kk.undrew fun j h1 h2 => by have h2 : j = w1.heap.size := h2; omega)); (clear e9 h9 Kk hg hK hcp hsl1 hsl2 hwr); (go_wp2); (go_roundw)
        case rel => first | exact ⟨k + d, by omega, by omega, by go_num, hg2, hK2⟩ | ((repeat apply Exists.intro); exact ⟨⟨k + d, by omega, by omega, by go_num, hg2, hK2⟩, rfl⟩)
        case measure => simp [intOf]; omega
    · (obtain rfl : k = n := by omega); (have hlt1 : ¬ (k : Int) < (k : Int) := by omega); (go_wp2); (go_ret); (exact ⟨_, rfl, hg.out, Nat.le_refl _, hK.out⟩)
end Go.Proofs.YtaobaaaihgahfaaGreat
