/- electionlaw23.BoardCheck (printed by gen_bck.py). -/
import Derived.Test.YtknbkhmpnanegaaDoorBO1
import Derived.Test.YtknbkhmpnanegaaDoorBQ
namespace Go.Mk
open Go.RowKit
theorem run_append_cut {P : Program} (w : World) (t ty e : TypeId) (size bytes : Nat) (T : ElemT P t e size bytes) (g n : Nat) (xs : List Value) (hxl : xs.length = n * size) (hrd : w.rangeAt g 0 xs)
    (x : Value) (m : Nat) (news : List Value) (hx : Rd w size x m news) (h63 : n + m ≤ maxLen) (hbytes : (n + m) * bytes ≤ 140737488355328) :
    ∃ v' w', (Builtin.append_ #[t, t] ty #[.slice (some ⟨g, 0, none⟩) n n, x]).run P w = .ok v' w' ∧ Rd w' size v' (n + m) (xs ++ news) ∧ Kept no w w' := by
  obtain ⟨ht, ⟨i, z, hi, hz, rfl, rfl, hzs⟩, hpos⟩ := T
  obtain ⟨hl, ao, c, rfl, hmc, hcm, hh⟩ := hx
  by_cases hm : m = 0
  · subst hm
    have hn : news = [] := List.eq_nil_of_length_eq_zero (by simpa using hl)
    subst hn
    refine ⟨.slice (some ⟨g, 0, none⟩) n n, w, ?_, ⟨by simp [hxl], _, n, rfl, Nat.le_refl _, by omega, .inr ⟨g, 0, rfl, fun j u hu => hrd j u (by simpa using hu)⟩⟩, Kept.refl _ _⟩
    cases ao <;> simp [Builtin.append_, run_underlying ht, sizeOf, typeInfo, hi, Builtin.lenOf, Builtin.firstCells, loadCells, loadCellsFrom, storeCells]
  · rcases hh with h | ⟨b, o, rfl, hc⟩
    · omega
    have hadd : ∀ j u, news[j]? = some u → w.cell? ((⟨b, o, none⟩ : Addr).add j) = some u := fun j u hu => by
      have := hc j u hu
      unfold Addr.add
      split
      · rename_i e0; subst e0; simpa using this
      · exact this
    have hads : ∀ j u, xs[j]? = some u → w.cell? ((⟨g, 0, none⟩ : Addr).add j) = some u := fun j u hu => by
      have := hrd j u hu
      unfold Addr.add
      split
      · rename_i e0; subst e0; simpa using this
      · exact this
    have hsmall : n + m ≤ 9223372036854775807 := by simp only [maxLen] at h63; omega
    have hr := run_append_grow (P := P) w t ty e i z ht hi hz ⟨g, 0, none⟩ n n xs hxl hads ⟨b, o, none⟩ m c news hl hadd (by omega) (by omega) (growslice_fits (by omega) hbytes)
    have hlen : (xs ++ news).length = (n + m) * i.size := by rw [List.length_append, hxl, hl, Nat.add_mul]
    have hge := grownCap_ge w (n + m) n e
    have hcm' : grownCap w (n + m) n e ≤ maxLen := grownCap_le_maxLen w (n + m) n e h63
    refine ⟨_, _, hr, Rd.of_own (e := e) (base := 0) ⟨hlen, .inr ⟨w.heap.size, _, _, rfl, Nat.zero_le _, heap_alloc_new w.drew _, hge, hcm', ?_, ?_⟩⟩, (Kept.refl _ w).drew.alloc _⟩
    · simp only [Array.size_append, List.size_toArray, size_zeroCells, hzs, hxl, hl, ← Nat.add_mul]
      congr 1
      omega
    · simp only [Array.toList_append, List.append_assoc]
      rw [← List.append_assoc, ← hlen]
      exact List.take_left
theorem OpY.appendCut {P : Program} {o : Oper} {a : Act} {w : World} {R : Value → World → Prop} (s x : Operand) (t : TypeId) (ty : TypeId) (hty : o.type = ty)
    (ho : o.op = .call { callee := .builtin .append, args := #[s, x], argTypes := #[t, t] }) (e : TypeId) (size bytes : Nat) (T : ElemT P t e size bytes)
    (g n : Nat) (xs : List Value) (hs : a.eval s = .slice (some ⟨g, 0, none⟩) n n) (hxl : xs.length = n * size) (hrd : w.rangeAt g 0 xs)
    (y : Value) (m : Nat) (news : List Value) (hx : a.eval x = y) (hy : Rd w size y m news)
    (h63 : n + m ≤ maxLen) (hbytes : (n + m) * bytes ≤ 140737488355328)
    (h : ∀ v' w', Rd w' size v' (n + m) (xs ++ news) → Kept no w w' → R v' w') : OpY P o a w R := by
  obtain ⟨v', w', hr, h2, h3⟩ := run_append_cut (P := P) w t ty e size bytes T g n xs hxl hrd y m news hy h63 hbytes
  refine OpY.val (v := v') (w' := w') ?_ (h v' w' h2 h3)
  unfold execOp
  simp only [ho, hty, resolve, invoke, builtin, Sem.run_bind, Sem.run_pure, Result.andThen_ok, List.map_toArray, List.map_cons, List.map_nil, hs, hx, hr]
end Go.Mk
namespace Go.Proofs.YtknbkhmpnanegaaDoor
open Go.RowKit Go.Mk Go.Sha Go.Brd
/-- The list with place k changed, behind the store of some cells of the entry there. -/
theorem RdE.sets {w : World} {g cap : Nat} {e : TypeId} {ps : List (Ent × Value)} {C : List Value} (h : RdE w (.slice (some ⟨g, 0, none⟩) ps.length cap) ps) (hb : w.heap[g]? = some (.cells C.toArray e (0, 0))) (hC : ps.length * 35 ≤ C.length) (k : Nat) (hk : k < ps.length) (x : Ent) (vx : Value) (hx : x.prev.length = 32)
    (f : Nat) (vs : List Value) (hf : f + vs.length ≤ 35) (hE : ∀ j u, (entC x vx)[j]? = some u → if f ≤ j ∧ j < f + vs.length then vs[j - f]? = some u else (entC ps[k].1 ps[k].2)[j]? = some u)
    (hok : OkE (w.setCells g (k * 35 + f) vs) x vx) (hoks : ∀ p ∈ ps, OkE (w.setCells g (k * 35 + f) vs) p.1 p.2) : RdE (w.setCells g (k * 35 + f) vs) (.slice (some ⟨g, 0, none⟩) ps.length cap) (ps.set k (x, vx)) := by
  have ht : w.there g (k * 35 + f) vs.length := there_of hb _ _ (by omega)
  refine ⟨fun p hp => ?_, ?_⟩
  · rcases List.mem_or_eq_of_mem_set hp with hp | rfl
    · exact hoks p hp
    · exact hok
  · obtain ⟨h1, ao, c, he, h2, h3, h4⟩ := h.2
    cases he
    refine ⟨?_, some ⟨g, 0, none⟩, cap, by rw [List.length_set], by rw [List.length_set]; exact h2, h3, .inr ⟨g, 0, rfl, fun j u hu => ?_⟩⟩
    · exact flat35 _ fun p hp => by
        rcases List.mem_or_eq_of_mem_set hp with hp | rfl
        · exact entC_length (h.1 p hp).1
        · exact entC_length hx
    · refine rows_cells (sz := 35) ((ps.set k (x, vx)).map fun p => entC p.1 p.2) 0 (fun l hl => ?_) (fun i hi => ?_) j u (by rw [← List.flatMap_def]; exact hu)
      · obtain ⟨p, hp, rfl⟩ := List.mem_map.1 hl
        rcases List.mem_or_eq_of_mem_set hp with hp | rfl
        · exact entC_length (h.1 p hp).1
        · exact entC_length hx
      · have hi' : i < ps.length := by simpa using hi
        obtain ⟨b, o, e1, hr⟩ := h.at i hi'
        cases e1
        have hl35 := entC_length (e := ps[i].1) (vb := ps[i].2) (h.1 _ (List.getElem_mem hi')).1
        rw [List.getElem_map, List.getElem_set]
        by_cases hki : k = i
        · subst hki
          rw [if_pos rfl]
          simp only
          intro j u hu
          have hE' := hE j u hu
          split at hE'
          · rename_i hj
            have := World.rangeAt_setCells_same w g (k * 35 + f) vs ht (j - f) u hE'
            rwa [show k * 35 + f + (j - f) = 0 + k * 35 + j by omega] at this
          · rename_i hj
            have := hr j u hE'
            rw [World.cell?_setCells_out]
            · exact this
            · intro _; simp only; omega
        · rw [if_neg hki]
          refine World.rangeAt_setCells_apart hr g (k * 35 + f) _ (.inr ?_)
          rw [hl35]
          omega
theorem RdE.cutAt {w : World} {v : Value} {ps : List (Ent × Value)} {k : Nat} (hok : ∀ p ∈ ps, OkE w p.1 p.2) (hk : k < ps.length) (h : Rd w 35 v (k + (ps.length - (k + 1))) (flatE (ps.take k) ++ flatE (ps.drop (k + 1)))) : RdE w v (ps.eraseIdx k) := by
  have e : ps.eraseIdx k = ps.take k ++ ps.drop (k + 1) := List.eraseIdx_eq_take_drop_succ ..
  refine ⟨fun p hp => hok p (List.mem_of_mem_eraseIdx hp), ?_⟩
  rw [e]
  have hl : (ps.take k ++ ps.drop (k + 1)).length = k + (ps.length - (k + 1)) := by rw [List.length_append, List.length_take, List.length_drop]; omega
  rw [hl, List.flatMap_append]
  exact h
end Go.Proofs.YtknbkhmpnanegaaDoor
namespace Go.Proofs.YtknbkhmpnanegaaDoor
open Go.RowKit Go.Mk Go.Sha Go.Brd
theorem get_mid {α : Type} (pre mid post : List α) (k j : Nat) (hk : k = pre.length) (hj : j < mid.length) : (pre ++ (mid ++ post))[k + j]? = mid[j]? := by
  subst hk; rw [List.getElem?_append_right (by omega), Nat.add_sub_cancel_left, List.getElem?_append_left hj]
theorem rng_mid {w : World} {g : Nat} {t : TypeId} (pre mid post cs : List Value) (k : Nat) (h : w.heap[g]? = some (.cells cs.toArray t (0, 0))) (hc : cs = pre ++ (mid ++ post)) (hk : k = pre.length) : w.rangeAt g k mid := fun j u hu => by
  have hj := (List.getElem?_eq_some_iff.1 hu).1
  rw [cell_of_row w g (k + j) _ t (0, 0) h, hc]
  simp only [List.getElem?_toArray]
  rw [get_mid pre mid post k j hk hj]; exact hu
theorem rem_place (i : Int) (q : Nat) (h : 0 < q) (h12 : q ≤ 12) : ∃ k : Nat, k < q ∧ IntKind.i64.wrap (i.tmod q) = i.tmod q ∧ IntKind.i64.wrap (i.tmod q + q) = i.tmod q + q ∧ IntKind.i64.wrap ((i.tmod q + q).tmod q) = (i.tmod q + q).tmod q ∧ (i.tmod q + q).tmod q = (k : Int) := by
  have h1 := Int.tmod_lt_of_pos i (show (0 : Int) < (q : Int) by omega)
  have h2 : -(q : Int) < i.tmod q := Int.lt_tmod_of_pos i (by omega)
  have h3 : 0 ≤ (i.tmod q + q).tmod q := Int.tmod_nonneg _ (by omega)
  have h4 := Int.tmod_lt_of_pos (i.tmod q + q) (show (0 : Int) < (q : Int) by omega)
  refine ⟨((i.tmod q + q).tmod q).toNat, by omega, IntWalk.i64_in _ (by omega), IntWalk.i64_in _ (by omega), IntWalk.i64_in _ (by omega), by omega⟩
/-- The cells of a Change. -/
def chgC (vn : Value) (a : Int) (e : Ent) (vb : Value) (wh : Int) : List Value := vn :: .int .i64 a :: (entC e vb ++ [.int .i64 wh])
theorem chg_e {w : World} {g : Nat} {t : TypeId} {vn : Value} {a : Int} {e : Ent} {vb : Value} {wh : Int} (h : w.heap[g]? = some (.cells (chgC vn a e vb wh).toArray t (0, 0))) : w.rangeAt g 2 (entC e vb) :=
  rng_mid [vn, .int .i64 a] _ [.int .i64 wh] _ 2 h (by simp [chgC]) rfl
theorem chg_w {w : World} {g : Nat} {t : TypeId} {vn : Value} {a : Int} {e : Ent} {vb : Value} {wh : Int} (h : w.heap[g]? = some (.cells (chgC vn a e vb wh).toArray t (0, 0))) (hp : e.prev.length = 32) : w.cell? ⟨g, 37, none⟩ = some (.int .i64 wh) :=
  rng_mid (vn :: .int .i64 a :: entC e vb) [.int .i64 wh] [] _ 37 h (by simp [chgC]) (by simp [entC_length hp]) 0 _ rfl
theorem chg_block (w : World) (L : List Value) : ∃ w1, w1 = w.alloc (.cells L.toArray 58) ∧ w1.heap[w.heap.size]? = some (.cells L.toArray 58 (0, 0)) ∧ Kept no w w1 := ⟨_, rfl, heap_alloc_new _ _, (Kept.refl no w).alloc _⟩
section
variable {Sl : Nat → Nat → Prop}
def PSr (d : Nat) (L : List Value) (B0 : Nat) : Pr Sl := rel d (fun a _ w => ∃ g8, a = .pointer (some ⟨g8, 0, none⟩) ∧ B0 ≤ g8 ∧ w.heap[g8]? = some (.cells L.toArray 47 (0, 0))) (fun _ _ _ _ ⟨g8, h1, h2, h3⟩ k => ⟨g8, h1, h2, k.blk h3⟩)
def PRdE (ps : List (Ent × Value)) : Pr Sl := soft (fun v w => RdE w v ps) fun _ _ _ h k => h.kept k
end
theorem sdm {ops : Array Oper} {rest : List Oper} {o : Oper} {a : Act} {w : World} {Q : Exit → Act → World → Prop} (hgd : o.guard = none) (x y : Operand) (ho : o.op = .store 26 x y) (b of : Nat) (hx : a.eval x = .pointer (some ⟨b, of, none⟩)) (D : List UInt8) (hy : a.eval y = Dg D) (ht : w.there b of 32) (hD : D.length = 32)
    (h : wpList Tryd.prog ops Q rest (a.put o.dst undef) (w.setCells b of (D.map B))) : wpList Tryd.prog ops Q (o :: rest) a w :=
  wpList_store_mid hgd 26 x y ho b of (D.map B).toArray hx hy (by rw [Dg_cells hD]; exact ht) (infD hD) (oneD D) h
set_option maxRecDepth 100000 in
set_option maxHeartbeats 16000000 in
theorem boardcheck_any (vn : Value) (ns : List (Int × List UInt8 × Value)) (a wh : Int) (e : Ent) (vb : Value) (w : World) (hns : ns.length ≤ 9223372036854775807) (hrn : RdN w vn ns) (hp : e.prev.length = 32) (hl : e.body.length ≤ 9223372036854775807) (hr : Rd w 1 vb e.body.length (e.body.map B)) (hT : Tab w) (hR : TabR w) :
    Calls Tryd.prog 7 #[.agg (chgC vn a e vb wh).toArray] w fun ed w' => ed = .returned (.bool true) ∧ Kept no w w' := by
  obtain ⟨ao, cap, rfl⟩ := Rd.shapeZ hr
  obtain ⟨an, cn, rfl⟩ := Rd.shapeZ hrn.2
  have hr20 := Rd.cut hr 20
  have hcap : e.body.length ≤ cap := by obtain ⟨_, _, _, e, h1, _⟩ := hr; cases e; exact h1
  obtain ⟨n, hn⟩ : ∃ n, e.body.length = n := ⟨_, rfl⟩
  obtain ⟨nn, hnn⟩ : ∃ n, ns.length = n := ⟨_, rfl⟩
  rw [hn] at hr20 hl hcap ⊢
  rw [hnn] at hrn ⊢
  have hq : (if 20 < (n : Int) then (20 : Int) else (n : Int)) = ((min n 20 : Nat) : Int) := by split <;> omega
  have hqm : min (n : Int) 20 = ((min n 20 : Nat) : Int) := by omega
  have hqc : ((min n 20 : Nat) : Int) ≤ (cap : Int) := by omega
  have hq0 : (0 : Int) ≤ ((min n 20 : Nat) : Int) := by omega
  have hxl : Hd ((e.body.take 20).length ≤ 20) := ⟨by rw [List.length_take]; omega⟩
  generalize min n 20 = nb at hr20 hq hqm hqc hq0
  generalize e.body.take 20 = xs at hr20 hxl
  replace hr20 := hid hr20
  replace hp := hid hp
  have hpl := hid hp.out
  have HM := hid (fun W (k : Kept no w W) => make_any (.slice an nn cn) ns W hns (hrn.kept k) (hR.kept k))
  replace hT := hid hT
  replace hR := hid hR
  obtain ⟨L, hL⟩ : ∃ L, chgC (.slice an nn cn) a e (.slice ao n cap) wh = L := ⟨_, rfl⟩
  rw [hL]
  replace hL := hid hL
  clear hrn hr hn hnn
  go_enter Tryd.func7, Tryd.ntmps7
  go_upto_region 1 with fail
  obtain ⟨w1, hw1, g0, k1⟩ := chg_block w L
  rw [← hw1]
  clear hw1
  rw [← hL.out] at g0
  have c0 : Hd (w1.cell? ⟨w.heap.size, 0, none⟩ = some (.slice an nn cn)) := ⟨by rw [cell_of_row w1 _ 0 _ _ _ g0]; rfl⟩
  have c1 : Hd (w1.cell? ⟨w.heap.size, 1, none⟩ = some (.int .i64 a)) := ⟨by rw [cell_of_row w1 _ 1 _ _ _ g0]; rfl⟩
  have c2 := hid (chg_e g0)
  have c3 := hid (chg_w g0 hp.out)
  replace k1 := hid k1
  clear g0 hL
  refine region_flow (S := (fun j => w1.heap.size ≤ j)) (Sl := (fun _ => (fun j => w1.heap.size ≤ j))) [Is (.pointer (some ⟨w.heap.size, 0, none⟩)), Is (.slice an nn cn), Is (.pointer (some ⟨w.heap.size, 1, none⟩)), Is (.int .i64 a), Is (.pointer (some ⟨w.heap.size, 2, none⟩)), Is (Ev e (.slice ao n cap)), Is (.pointer (some ⟨w.heap.size, 37, none⟩)), Is (.int .i64 wh), PAl w1.heap.size, Is (.slice an nn cn), Is (.int .i64 a), PSr 8 (entC e (.slice ao n cap)) w1.heap.size, Is (.int .i64 wh)] [11] (fun _ _ h => h) _ (by kernel_rfl) (by kernel_rfl) (by kernel_rfl) (by kernel_rfl) (fun x => by simp only [puts, Act.put, List.map_cons, List.map_nil, Nat.zero_add, Nat.reduceAdd, List.setIfInBounds_toArray, List.set_cons_zero, List.set_cons_succ]; exact rfl) ?_ ?_
  · skip
    refine Steps.cons (fun x wf Kk hq hdep hold => ?_) ?_
    · try dsimp only
      clear hq hdep hold
      rw [if_pos (by rfl)]
      refine OpY.val (v := (.pointer (some ⟨w.heap.size, 0, none⟩))) ?_ ⟨Kept.refl _ _, rfl⟩
      first | rfl | go_simp
    refine Steps.cons (fun x wf Kk hq hdep hold => ?_) ?_
    · try dsimp only
      have h0 : x 0 = (.pointer (some ⟨w.heap.size, 0, none⟩)) := hdep 0 (by kernel_rfl)
      clear hq hdep hold
      simp only [h0]
      clear h0
      have cv := Kk.fresh.undrew.cell c0.out id
      rw [if_pos (by rfl)]
      refine OpY.val (v := (.slice an nn cn)) ?_ ⟨Kept.refl _ _, rfl⟩
      first | rfl | go_simp
    refine Steps.cons (fun x wf Kk hq hdep hold => ?_) ?_
    · try dsimp only
      clear hq hdep hold
      rw [if_pos (by rfl)]
      refine OpY.val (v := (.pointer (some ⟨w.heap.size, 1, none⟩))) ?_ ⟨Kept.refl _ _, rfl⟩
      first | rfl | go_simp
    refine Steps.cons (fun x wf Kk hq hdep hold => ?_) ?_
    · try dsimp only
      have h2 : x 2 = (.pointer (some ⟨w.heap.size, 1, none⟩)) := hdep 2 (by kernel_rfl)
      clear hq hdep hold
      simp only [h2]
      clear h2
      have cv := Kk.fresh.undrew.cell c1.out id
      rw [if_pos (by rfl)]
      refine OpY.val (v := (.int .i64 a)) ?_ ⟨Kept.refl _ _, rfl⟩
      first | rfl | go_simp
    refine Steps.cons (fun x wf Kk hq hdep hold => ?_) ?_
    · try dsimp only
      clear hq hdep hold
      rw [if_pos (by rfl)]
      refine OpY.val (v := (.pointer (some ⟨w.heap.size, 2, none⟩))) ?_ ⟨Kept.refl _ _, rfl⟩
      first | rfl | go_simp
    refine Steps.cons (fun x wf Kk hq hdep hold => ?_) ?_
    · try dsimp only
      have h4 : x 4 = (.pointer (some ⟨w.heap.size, 2, none⟩)) := hdep 4 (by kernel_rfl)
      clear hq hdep hold
      simp only [h4]
      clear h4
      rw [if_pos (by rfl)]
      exact OpY.row 47 (.tmp 12) rfl w.heap.size 2 rfl (entC e (.slice ao n cap)) _ (Kk.fresh.undrew.rng c2.out) Tryd.underlying47 rfl (by rw [entC_length hp.out]; kernel_rfl) ⟨Kept.refl _ _, rfl⟩
    refine Steps.cons (fun x wf Kk hq hdep hold => ?_) ?_
    · try dsimp only
      clear hq hdep hold
      rw [if_pos (by rfl)]
      refine OpY.val (v := (.pointer (some ⟨w.heap.size, 37, none⟩))) ?_ ⟨Kept.refl _ _, rfl⟩
      first | rfl | go_simp
    refine Steps.cons (fun x wf Kk hq hdep hold => ?_) ?_
    · try dsimp only
      have h6 : x 6 = (.pointer (some ⟨w.heap.size, 37, none⟩)) := hdep 6 (by kernel_rfl)
      clear hq hdep hold
      simp only [h6]
      clear h6
      have cv := Kk.fresh.undrew.cell c3.out id
      rw [if_pos (by rfl)]
      refine OpY.val (v := (.int .i64 wh)) ?_ ⟨Kept.refl _ _, rfl⟩
      first | rfl | go_simp
    refine Steps.cons (fun x wf Kk hq hdep hold => ?_) ?_
    · try dsimp only
      clear hq hdep hold
      rw [if_pos (by rfl)]
      exact OpY.val (v := .pointer (some ⟨wf.heap.size, 0, none⟩)) (w' := wf.alloc (.cells ZE 47)) (by kernel_rfl) ⟨(Kept.refl _ _).alloc _, _, rfl, Kk.size, heap_alloc_new _ _⟩
    refine Steps.cons (fun x wf Kk hq hdep hold => ?_) ?_
    · try dsimp only
      have h1 : x 1 = (.slice an nn cn) := hdep 1 (by kernel_rfl)
      clear hq hdep hold
      simp only [h1]
      clear h1
      rw [if_pos (by rfl)]
      refine OpY.val (v := (.slice an nn cn)) ?_ ⟨Kept.refl _ _, rfl⟩
      first | rfl | go_simp
    refine Steps.cons (fun x wf Kk hq hdep hold => ?_) ?_
    · try dsimp only
      have h3 : x 3 = (.int .i64 a) := hdep 3 (by kernel_rfl)
      clear hq hdep hold
      simp only [h3]
      clear h3
      rw [if_pos (by rfl)]
      refine OpY.val (v := (.int .i64 a)) ?_ ⟨Kept.refl _ _, rfl⟩
      first | rfl | go_simp
    refine Steps.cons (fun x wf Kk hq hdep hold => ?_) ?_
    · try dsimp only
      have p8 : Pr.p (Sl := (fun _ => (fun j => w1.heap.size ≤ j))) (PAl w1.heap.size) (x 8) wf := hdep 8 (by kernel_rfl)
      have h5 : x 5 = (Ev e (.slice ao n cap)) := hdep 5 (by kernel_rfl)
      clear hq hdep hold
      simp only [h5]
      clear h5
      rw [if_pos (by rfl)]
      obtain ⟨g8, e9, hg8, hz8⟩ := p8
      rw [e9]
      refine OpY.storeRow 47 (.tmp 5) (.tmp 13) rfl g8 (entC e (.slice ao n cap)).toArray rfl rfl 47 _ hz8 (by rw [List.size_toArray, entC_length hp.out]; kernel_rfl) (by rw [ZE_size, List.size_toArray, entC_length hp.out]) (all_oneCell_toArray (fun u hu => by (rcases List.mem_cons.1 hu with rfl | hu; rfl; rcases List.mem_cons.1 hu with rfl | hu; rfl; rcases List.mem_cons.1 hu with rfl | hu; rfl; exact B_one _ u hu))) ?_
      have ks := (Kept.refl (fun j => j = g8) wf).setRow (g := g8) (.inl rfl) (entC e (.slice ao n cap)).toArray
      exact ⟨ks.mono fun j _ h => by (have h : j = g8 := h); subst h; exact hg8, g8, e9, hg8, setRow_heap _ _ _ _ _ _ hz8⟩
    refine Steps.cons (fun x wf Kk hq hdep hold => ?_) ?_
    · try dsimp only
      have h7 : x 7 = (.int .i64 wh) := hdep 7 (by kernel_rfl)
      clear hq hdep hold
      simp only [h7]
      clear h7
      rw [if_pos (by rfl)]
      refine OpY.val (v := (.int .i64 wh)) ?_ ⟨Kept.refl _ _, rfl⟩
      first | rfl | go_simp
    exact Steps.nil _
  · intro x wf Kk hv
    try dsimp only
    have h0 : x 0 = (.pointer (some ⟨w.heap.size, 0, none⟩)) := hv 0 (by kernel_rfl)
    have h1 : x 1 = (.slice an nn cn) := hv 1 (by kernel_rfl)
    have h2 : x 2 = (.pointer (some ⟨w.heap.size, 1, none⟩)) := hv 2 (by kernel_rfl)
    have h3 : x 3 = (.int .i64 a) := hv 3 (by kernel_rfl)
    have h4 : x 4 = (.pointer (some ⟨w.heap.size, 2, none⟩)) := hv 4 (by kernel_rfl)
    have h5 : x 5 = (Ev e (.slice ao n cap)) := hv 5 (by kernel_rfl)
    have h6 : x 6 = (.pointer (some ⟨w.heap.size, 37, none⟩)) := hv 6 (by kernel_rfl)
    have h7 : x 7 = (.int .i64 wh) := hv 7 (by kernel_rfl)
    have h9 : x 9 = (.slice an nn cn) := hv 9 (by kernel_rfl)
    have h10 : x 10 = (.int .i64 a) := hv 10 (by kernel_rfl)
    have p11 : Pr.r (Sl := (fun _ => (fun j => w1.heap.size ≤ j))) (PSr 8 (entC e (.slice ao n cap)) w1.heap.size) (x 8) (x 11) wf := hv 11 (by kernel_rfl)
    have h12 : x 12 = (.int .i64 wh) := hv 12 (by kernel_rfl)
    clear hv
    simp only [h0, h1, h2, h3, h4, h5, h6, h7, h9, h10, h12]
    clear h0 h1 h2 h3 h4 h5 h6 h7 h9 h10 h12
    obtain ⟨g5, e5, hg5, hz5⟩ := p11
    rw [e5]
    have K2 := hid (k1.out.trans' Kk.fresh.undrew)
    replace hz5 := hid hz5
    obtain ⟨w2, rfl⟩ : ∃ w2 : World, w2 = wf := ⟨_, rfl⟩
    clear Kk hg5 e5 c0 c1 c2 c3 k1
    go_wp2_with fail
    refine (HM.out w2 K2.out).mono ?_
    rintro ed w3 ⟨v3, qs, rfl, hM, k3, hN3⟩
    clear HM
    obtain ⟨al, cl, rfl, hcl⟩ := hM.rd.shape
    obtain ⟨q, hq'⟩ : ∃ q, qs.length = q := ⟨_, rfl⟩
    have h12 := hM.1
    have K3 := hid (K2.out.trans' k3)
    have hz3 := hid (k3.blk hz5.out)
    have hg52 := hid (lt_of_heap hz5.out)
    replace hM := hid hM
    rw [hq'] at h12 hcl ⊢
    replace hq' := hid hq'
    have hNl : Hd (∀ j, (Value.slice al q cl).ownBlock = some j → w2.heap.size ≤ j) := ⟨by have := hN3.fr (Nat.le_refl _); rwa [hq'.out] at this⟩
    have K2s := hid K2.out.size
    clear k3 hz5 K2 hN3
    by_cases hz : q = 0
    · subst hz
      have hck := hid (check_any (.slice al 0 cl) qs)
      have HA := hid (awake23_any w3 (hT.out.kept K3.out))
      go_wp2_with fail
      refine HA.out.mono ?_
      rintro ed w4 ⟨rfl, k4⟩
      have K4 := hid (K3.out.trans' k4)
      have HC := hck.out w4 (by rw [hq'.out]; decide) (by have := (hM.out.keptNo k4).rd; rwa [hq'.out] at this) (hT.out.kept K4.out)
      have hqn : qs = [] := List.eq_nil_of_length_eq_zero hq'.out
      rw [hqn] at HC
      replace HC := hid HC
      clear hqn hck HA K3 k4
      go_wp2_with fail
      refine HC.out.mono ?_
      rintro ed w5 ⟨rfl, k5⟩
      have K5 := hid (K4.out.trans' k5)
      have hz0 : (((chk Z32l 0 (ents []) : Nat) : Int) == 0) = true := rfl
      clear k5 HC K4
      go_wp2_with fail
      go_ret
      exact ⟨rfl, K5.out⟩
    obtain ⟨k, hkq, r1, r2, r3, r4⟩ := rem_place a q (by omega) h12
    have hq1 : ¬ (q : Int) = 0 := by omega
    have hqb : ((q : Int) == 0) = false := by simpa using hz
    go_upto_region 6 with fail
    clear r1 r2 r3 r4
    have hk1 : (k : Int) < (q : Int) := by omega
    have hk0 : (0 : Int) ≤ (k : Int) := by omega
    have hcl1 : (q : Int) ≤ (cl : Int) := by omega
    obtain ⟨_, ⟨_, h0⟩ | ⟨g, c', cur, e', _, hgb, hqc', _, hcs, hct⟩⟩ := hM.out.2.1
    · exact absurd (hq'.out.symm.trans h0) hz
    obtain ⟨rfl, rfl⟩ : al = some ⟨g, 0, none⟩ ∧ cl = c' := by cases e'; exact ⟨rfl, rfl⟩
    clear e'
    have hgb' : Hd (w3.heap[g]? = some (.cells cur.toList.toArray 47 (0, 0))) := ⟨by simpa using hgb⟩
    have hC : Hd (qs.length * 35 ≤ cur.toList.length) := ⟨by
      have h : cur.toList.length = cl * 35 := by simpa using hcs
      rw [h, hq'.out]; omega⟩
    have hg2 : Hd (w2.heap.size ≤ g) := ⟨hNl.out g rfl⟩
    have hgg : Hd (g5 ≠ g) := ⟨by have := hg52.out; have := hg2.out; omega⟩
    have hgw : Hd (w.heap.size ≤ g) := ⟨by have := hg2.out; have := K3.out.size; exact Nat.le_trans K2s.out hg2.out⟩
    have hkl : Hd (k < qs.length) := ⟨by rw [hq'.out]; exact hkq⟩
    have hrd : Hd (RdE w3 (.slice (some ⟨g, 0, none⟩) qs.length cl) qs) := ⟨hM.out.rd⟩
    obtain ⟨oe, ov, hoe⟩ : ∃ oe ov, qs[k]'(hkl.out) = (oe, ov) := ⟨_, _, rfl⟩
    have hoo : Hd (OwE w3 oe ov) := ⟨by have := hM.out.2.2 _ (List.getElem_mem hkl.out); rwa [hoe] at this⟩
    have hor : Hd (w3.rangeAt g (k * 35) (entC oe ov)) := ⟨by
      obtain ⟨b, o, e1, h⟩ := hrd.out.at k hkl.out
      cases e1
      rw [hoe, Nat.zero_add] at h; exact h⟩
    replace hoe := hid hoe
    have e0 : w3.cell? ⟨g5, 0, none⟩ = some (.int .i64 e.number) := by rw [cell_of_row w3 _ 0 _ _ _ hz3.out]; rfl
    have e1 : w3.cell? ⟨g5, 1, none⟩ = some (.int .i64 e.kind) := by rw [cell_of_row w3 _ 1 _ _ _ hz3.out]; rfl
    have e2 : w3.cell? ⟨g5, 2, none⟩ = some (.slice ao n cap) := by rw [cell_of_row w3 _ 2 _ _ _ hz3.out]; rfl
    have e3 : Hd (w3.rangeAt g5 3 (e.prev.map B)) := ⟨fun j u hu => by
      rw [cell_of_row w3 _ (3 + j) _ _ _ hz3.out]
      have : (entC e (.slice ao n cap)).toArray[3 + j]? = (e.prev.map B)[j]? := by simp [entC, Nat.add_comm 3 j]
      rw [this]; exact hu⟩
    have f0 : w3.cell? ⟨g, k * 35, none⟩ = some (.int .i64 oe.number) := hor.out 0 _ rfl
    have f1 : w3.cell? ⟨g, k * 35 + 1, none⟩ = some (.int .i64 oe.kind) := hor.out 1 _ rfl
    have f2 : w3.cell? ⟨g, k * 35 + 2, none⟩ = some ov := hor.out 2 _ rfl
    have z0 : w3.frozen? ⟨g, k * 35, none⟩ = false := row_free hgb _
    have z1 : w3.frozen? ⟨g, k * 35 + 1, none⟩ = false := row_free hgb _
    have z2 : w3.frozen? ⟨g, k * 35 + 2, none⟩ = false := row_free hgb _
    have ht3 := hid (there_of hgb'.out (k * 35 + 3) 32 (by have := hC.out; have := hkl.out; omega))
    have HB : Hd (∀ (f : Nat) (vs : List Value) (x : Ent) (vx : Value), x.prev.length = 32 → f + vs.length ≤ 35 → (∀ j u, (entC x vx)[j]? = some u → if f ≤ j ∧ j < f + vs.length then vs[j - f]? = some u else (entC oe ov)[j]? = some u) → (∀ W, Kept (fun j => j = g) w3 W → OkE W x vx) → RdE (w3.setCells g (k * 35 + f) vs) (.slice (some ⟨g, 0, none⟩) q cl) (qs.set k (x, vx)) ∧ Kept no w (w3.setCells g (k * 35 + f) vs)) := ⟨fun f vs x vx hx hf hE hok => by
      have ks := (Kept.refl (fun j => j = g) w3).setCells (g := g) (.inl rfl) (k * 35 + f) vs
      have := RdE.sets hrd.out hgb'.out hC.out k hkl.out x vx hx f vs hf (by rw [hoe.out]; exact hE) (hok _ ks) (fun p hp => ((hM.out.2.2 p hp).kept ks fun j hj e => (hM.out.2.2 p hp).ne hgb (by decide) j hj e).ok)
      rw [hq'.out] at this
      exact ⟨this, K3.out.trans ks fun j hj e => by have e : j = g := e; have := hgw.out; omega⟩⟩
    have hoO : Hd (∀ W, Kept (fun j => j = g) w3 W → OwE W oe ov) := ⟨fun W k => hoo.out.kept k fun j hj e => hoo.out.ne hgb (by decide) j hj e⟩
    have hbN : Hd (∀ W, Kept (fun j => j = g) w3 W → Rd W 1 (.slice ao nb cap) xs.length (xs.map B)) := ⟨fun W kk => by
      have kw : Kept no w W := K3.out.trans kk fun j hj e => by have e : j = g := e; have := hgw.out; omega
      exact hr20.out.keptNo kw⟩
    have hqlen : Hd (∀ x, (qs.set k x).length ≤ 100) := ⟨fun x => by rw [List.length_set, hq'.out]; omega⟩
    have FIN : Hd (∀ (W : World) (v : Value) (ps : List (Ent × Value)), ps.length ≤ 100 → RdE W v ps → Kept no w W →
        (Calls Tryd.prog 30 #[] W fun ed w' => ed = .returned (.bool true) ∧ Kept no W w') ∧ (∀ W', Kept no W W' → Calls Tryd.prog 32 #[v] W' fun ed w' => ed = .returned (.int .i64 ((chk Z32l 0 (ents ps) : Nat) : Int)) ∧ Kept no W' w') ∧
        (∀ W', Kept no W W' → Calls Tryd.prog 35 #[v] W' fun ed w' => ed = .returned (.int .i64 ((chk Z32l 0 (ents ps) : Nat) : Int)) ∧ Kept no W' w')) := ⟨fun W v ps h1 h2 h3 =>
      ⟨awake23_any W (hT.out.kept h3), fun W' k => check_any v ps W' h1 (h2.kept k) (hT.out.kept (h3.trans' k)), fun W' k => refcheck_any v ps W' h1 (h2.kept k) (hR.out.kept (h3.trans' k))⟩⟩
    have hrdq : Hd (RdE w3 (.slice (some ⟨g, 0, none⟩) q cl) qs) := ⟨by have := hrd.out; rwa [hq'.out] at this⟩
    have hq12 : Hd (q ≤ 12) := ⟨h12⟩
    clear hgb hcs hct hqc' hrd hoo hor hM hNl hg52 hC hgb'
    go_upto_region 7 with fail
    generalize bits BinOp.and IntKind.i64 wh 7 = m
    clear hqb hq1 hcl hz
    by_cases hm0 : m = 0
    · subst hm0
      obtain ⟨hrd5, K5⟩ : RdE (w3.setCell ⟨g, k * 35, none⟩ (.int .i64 e.number)) (.slice (some ⟨g, 0, none⟩) q cl) (qs.set k (⟨e.number, oe.kind, oe.body, oe.prev⟩, ov)) ∧ Kept no w (w3.setCell ⟨g, k * 35, none⟩ (.int .i64 e.number)) := HB.out 0 [.int .i64 e.number] ⟨e.number, oe.kind, oe.body, oe.prev⟩ ov (hoO.out w3 (Kept.refl _ _)).1 (by simp) (fun j u h => by
        match j, h with
        | 0, h => exact h
        | j + 1, h => rw [if_neg (by simp)]; exact h) (fun W kk => (hoO.out W kk).ok)
      replace K5 := hid K5
      have hlen := hqlen.out (⟨e.number, oe.kind, oe.body, oe.prev⟩, ov)
      replace hrd5 := hid hrd5
      replace hlen := hid hlen
      clear HB hoO hbN hqlen hr20 hp hpl hoe ht3 e3
      go_upto_region 17 with fail
      replace hrd5 := hrd5.out
      replace hlen := hlen.out
      generalize w3.setCell ⟨g, k * 35, none⟩ (.int .i64 e.number) = w5 at hrd5 K5 ⊢
      clear f0 f1 f2 z0 z1 z2 e0 e1 e2
      obtain ⟨FA, FC, FR⟩ := FIN.out w5 (.slice (some ⟨g, 0, none⟩) q cl) (qs.set k (⟨e.number, oe.kind, oe.body, oe.prev⟩, ov)) hlen hrd5 K5.out
      replace FA := hid FA
      replace FC := hid FC
      replace FR := hid FR
      clear FIN hrd5 hlen
      go_wp2_with fail
      refine FA.out.mono ?_
      rintro ed wa ⟨rfl, ka⟩
      have HC := hid (FC.out wa ka)
      clear FA FC
      go_wp2_with fail
      refine HC.out.mono ?_
      rintro ed wb ⟨rfl, kb⟩
      have kab := hid (ka.trans' kb)
      have HD := hid (FR.out wb kab.out)
      clear HC FR ka kb
      go_wp2_with fail
      refine HD.out.mono ?_
      rintro ed wc ⟨rfl, kc⟩
      have Kc := hid (K5.out.trans' (kab.out.trans' kc))
      clear HD kab kc K5
      generalize chk Z32l 0 (ents (qs.set k (⟨e.number, oe.kind, oe.body, oe.prev⟩, ov))) = zz
      have hzz : ((zz : Int) == (zz : Int)) = true := by simp
      go_wp2_with fail
      go_ret
      exact ⟨rfl, Kc.out⟩
    by_cases hm1 : m = 1
    · subst hm1
      obtain ⟨hrd5, K5⟩ : RdE (w3.setCell ⟨g, k * 35 + 1, none⟩ (.int .i64 e.kind)) (.slice (some ⟨g, 0, none⟩) q cl) (qs.set k (⟨oe.number, e.kind, oe.body, oe.prev⟩, ov)) ∧ Kept no w (w3.setCell ⟨g, k * 35 + 1, none⟩ (.int .i64 e.kind)) := HB.out 1 [.int .i64 e.kind] ⟨oe.number, e.kind, oe.body, oe.prev⟩ ov (hoO.out w3 (Kept.refl _ _)).1 (by simp) (fun j u h => by
        match j, h with
        | 0, h => exact h
        | 1, h => exact h
        | j + 2, h => rw [if_neg (by simp)]; exact h) (fun W kk => (hoO.out W kk).ok)
      replace K5 := hid K5
      have hlen := hqlen.out (⟨oe.number, e.kind, oe.body, oe.prev⟩, ov)
      replace hrd5 := hid hrd5
      replace hlen := hid hlen
      clear HB hoO hbN hqlen hr20 hp hpl hoe ht3 e3 hm0
      go_upto_region 17 with fail
      replace hrd5 := hrd5.out
      replace hlen := hlen.out
      generalize w3.setCell ⟨g, k * 35 + 1, none⟩ (.int .i64 e.kind) = w5 at hrd5 K5 ⊢
      clear f0 f1 f2 z0 z1 z2 e0 e1 e2
      obtain ⟨FA, FC, FR⟩ := FIN.out w5 (.slice (some ⟨g, 0, none⟩) q cl) (qs.set k (⟨oe.number, e.kind, oe.body, oe.prev⟩, ov)) hlen hrd5 K5.out
      replace FA := hid FA
      replace FC := hid FC
      replace FR := hid FR
      clear FIN hrd5 hlen
      go_wp2_with fail
      refine FA.out.mono ?_
      rintro ed wa ⟨rfl, ka⟩
      have HC := hid (FC.out wa ka)
      clear FA FC
      go_wp2_with fail
      refine HC.out.mono ?_
      rintro ed wb ⟨rfl, kb⟩
      have kab := hid (ka.trans' kb)
      have HD := hid (FR.out wb kab.out)
      clear HC FR ka kb
      go_wp2_with fail
      refine HD.out.mono ?_
      rintro ed wc ⟨rfl, kc⟩
      have Kc := hid (K5.out.trans' (kab.out.trans' kc))
      clear HD kab kc K5
      generalize chk Z32l 0 (ents (qs.set k (⟨oe.number, e.kind, oe.body, oe.prev⟩, ov))) = zz
      have hzz : ((zz : Int) == (zz : Int)) = true := by simp
      go_wp2_with fail
      go_ret
      exact ⟨rfl, Kc.out⟩
    by_cases hm2 : m = 2
    · subst hm2
      obtain ⟨hrd5, K5⟩ : RdE (w3.setCell ⟨g, k * 35 + 2, none⟩ (.slice ao nb cap)) (.slice (some ⟨g, 0, none⟩) q cl) (qs.set k (⟨oe.number, oe.kind, xs, oe.prev⟩, .slice ao nb cap)) ∧ Kept no w (w3.setCell ⟨g, k * 35 + 2, none⟩ (.slice ao nb cap)) := HB.out 2 [.slice ao nb cap] ⟨oe.number, oe.kind, xs, oe.prev⟩ (.slice ao nb cap) (hoO.out w3 (Kept.refl _ _)).1 (by simp) (fun j u h => by
        match j, h with
        | 0, h => exact h
        | 1, h => exact h
        | 2, h => exact h
        | j + 3, h => rw [if_neg (by simp)]; exact h) (fun W kk => ⟨(hoO.out W kk).1, by have := hxl.out; show xs.length ≤ 1000; omega, hbN.out W kk⟩)
      replace K5 := hid K5
      have hlen := hqlen.out (⟨oe.number, oe.kind, xs, oe.prev⟩, .slice ao nb cap)
      replace hrd5 := hid hrd5
      replace hlen := hid hlen
      clear HB hoO hbN hqlen hr20 hp hpl hoe ht3 e3 hm0 hm1
      go_upto_region 17 with fail
      replace hrd5 := hrd5.out
      replace hlen := hlen.out
      generalize w3.setCell ⟨g, k * 35 + 2, none⟩ (.slice ao nb cap) = w5 at hrd5 K5 ⊢
      clear f0 f1 f2 z0 z1 z2 e0 e1 e2
      obtain ⟨FA, FC, FR⟩ := FIN.out w5 (.slice (some ⟨g, 0, none⟩) q cl) (qs.set k (⟨oe.number, oe.kind, xs, oe.prev⟩, .slice ao nb cap)) hlen hrd5 K5.out
      replace FA := hid FA
      replace FC := hid FC
      replace FR := hid FR
      clear FIN hrd5 hlen
      go_wp2_with fail
      refine FA.out.mono ?_
      rintro ed wa ⟨rfl, ka⟩
      have HC := hid (FC.out wa ka)
      clear FA FC
      go_wp2_with fail
      refine HC.out.mono ?_
      rintro ed wb ⟨rfl, kb⟩
      have kab := hid (ka.trans' kb)
      have HD := hid (FR.out wb kab.out)
      clear HC FR ka kb
      go_wp2_with fail
      refine HD.out.mono ?_
      rintro ed wc ⟨rfl, kc⟩
      have Kc := hid (K5.out.trans' (kab.out.trans' kc))
      clear HD kab kc K5
      generalize chk Z32l 0 (ents (qs.set k (⟨oe.number, oe.kind, xs, oe.prev⟩, .slice ao nb cap))) = zz
      have hzz : ((zz : Int) == (zz : Int)) = true := by simp
      go_wp2_with fail
      go_ret
      exact ⟨rfl, Kc.out⟩
    by_cases hm3 : m = 3
    · subst hm3
      obtain ⟨hrd5, K5⟩ : RdE (w3.setCells g (k * 35 + 3) (e.prev.map B)) (.slice (some ⟨g, 0, none⟩) q cl) (qs.set k (⟨oe.number, oe.kind, oe.body, e.prev⟩, ov)) ∧ Kept no w (w3.setCells g (k * 35 + 3) (e.prev.map B)) := HB.out 3 (e.prev.map B) ⟨oe.number, oe.kind, oe.body, e.prev⟩ ov hp.out (by rw [List.length_map, hp.out]; decide) (fun j u h => by
        match j, h with
        | 0, h => exact h
        | 1, h => exact h
        | 2, h => exact h
        | j + 3, h =>
          have hj : j < 32 := by
            have := (List.getElem?_eq_some_iff.1 h).1
            rw [entC_length (e := ⟨oe.number, oe.kind, oe.body, e.prev⟩) hp.out] at this; omega
          rw [if_pos (by rw [List.length_map, hp.out]; omega), Nat.add_sub_cancel]; exact h) (fun W kk => ⟨hp.out, (hoO.out W kk).2.1, (hoO.out W kk).ok.2.2⟩)
      replace K5 := hid K5
      have hlen := hqlen.out (⟨oe.number, oe.kind, oe.body, e.prev⟩, ov)
      replace hrd5 := hid hrd5
      replace hlen := hid hlen
      clear HB hoO hbN hqlen hr20 hoe hm0 hm1 hm2
      go_upto_region 17 with (first | (with_reducible refine ldmw rfl _ rfl g5 3 rfl e.prev e3.out hp.out ?_) | (with_reducible refine sdm rfl _ _ rfl g (k * 35 + 3) rfl e.prev rfl ht3.out hp.out ?_))
      replace hrd5 := hrd5.out
      replace hlen := hlen.out
      generalize w3.setCells g (k * 35 + 3) (e.prev.map B) = w5 at hrd5 K5 ⊢
      clear f0 f1 f2 z0 z1 z2 e0 e1 e2 e3 ht3 hp hpl
      obtain ⟨FA, FC, FR⟩ := FIN.out w5 (.slice (some ⟨g, 0, none⟩) q cl) (qs.set k (⟨oe.number, oe.kind, oe.body, e.prev⟩, ov)) hlen hrd5 K5.out
      replace FA := hid FA
      replace FC := hid FC
      replace FR := hid FR
      clear FIN hrd5 hlen
      go_wp2_with fail
      refine FA.out.mono ?_
      rintro ed wa ⟨rfl, ka⟩
      have HC := hid (FC.out wa ka)
      clear FA FC
      go_wp2_with fail
      refine HC.out.mono ?_
      rintro ed wb ⟨rfl, kb⟩
      have kab := hid (ka.trans' kb)
      have HD := hid (FR.out wb kab.out)
      clear HC FR ka kb
      go_wp2_with fail
      refine HD.out.mono ?_
      rintro ed wc ⟨rfl, kc⟩
      have Kc := hid (K5.out.trans' (kab.out.trans' kc))
      clear HD kab kc K5
      generalize chk Z32l 0 (ents (qs.set k (⟨oe.number, oe.kind, oe.body, e.prev⟩, ov))) = zz
      have hzz : ((zz : Int) == (zz : Int)) = true := by simp
      go_wp2_with fail
      go_ret
      exact ⟨rfl, Kc.out⟩
    by_cases hm4 : m = 4
    · subst hm4
      obtain ⟨k1, hkk⟩ : ∃ k1, k + 1 = k1 := ⟨_, rfl⟩
      have hkw : IntKind.i64.wrap ((k : Int) + 1) = (k1 : Int) := by rw [IntWalk.i64_in _ (by omega)]; omega
      obtain ⟨qr, hqr⟩ : ∃ qr, q - k1 = qr := ⟨_, rfl⟩
      obtain ⟨cr, hcr⟩ : ∃ cr, cl - k1 = cr := ⟨_, rfl⟩
      have hs1 : (0 : Int) ≤ (k1 : Int) := by omega
      have hs2 : (k1 : Int) ≤ (q : Int) := by omega
      have hs3 : (k : Int) ≤ (cl : Int) := by omega
      have hflat : Hd ((flatE qs).length = q * 35 ∧ (flatE (qs.take k)).length = k * 35 ∧ (flatE (qs.drop k1)).length = qr * 35) := ⟨by
        have hl := hrdq.out.len
        refine ⟨by rw [← hq'.out]; exact flat35 _ hl, ?_, ?_⟩
        · have := flat35 (qs.take k) (fun p hp => hl p (List.mem_of_mem_take hp))
          rw [List.length_take, Nat.min_eq_left (by have := hkl.out; omega)] at this; exact this
        · have := flat35 (qs.drop k1) (fun p hp => hl p (List.mem_of_mem_drop hp))
          rw [List.length_drop, hq'.out, hqr] at this; exact this⟩
      have hspl : Hd (flatE qs = flatE (qs.take k) ++ (entC oe ov ++ flatE (qs.drop k1))) := ⟨by
        have h1 := List.take_append_drop k qs
        have h2 := List.drop_eq_getElem_cons hkl.out
        rw [hkk] at h2
        conv => lhs; rw [← h1, h2, hoe.out]
        simp [flatE]⟩
      have hR0 : Hd (w3.rangeAt g 0 (flatE (qs.take k))) := ⟨fun j u hu => by
        obtain ⟨_, _, _, e', _, _, h0 | ⟨b, o, e'', hc⟩⟩ := hrdq.out.2
        · cases e'; omega
        · cases e'; cases e''
          have hj := (List.getElem?_eq_some_iff.1 hu).1
          refine hc j u ?_
          show (flatE qs)[j]? = _
          rw [hspl.out, List.getElem?_append_left hj]; exact hu⟩
      have hRr : ∀ sp, (cr ≠ 0 → sp = some ⟨g, k1 * 35, none⟩) → (∃ b o, sp = some ⟨b, o, none⟩) → Rd w3 35 (.slice sp qr cr) qr (flatE (qs.drop k1)) := fun sp h1 h2 => by
        obtain ⟨_, _, _, e', hm1, hm2, h0 | ⟨b, o, e'', hc⟩⟩ := hrdq.out.2
        · cases e'; omega
        · cases e'; cases e''
          refine ⟨hflat.out.2.2, sp, cr, rfl, by omega, by omega, ?_⟩
          by_cases hc0 : cr = 0
          · exact .inl hc0
          · refine .inr ⟨g, k1 * 35, h1 hc0, fun j u hu => ?_⟩
            have hj := (List.getElem?_eq_some_iff.1 hu).1
            have := hc (k * 35 + (35 + j)) u (by
              show (flatE qs)[_]? = _
              have hl1 := hflat.out.2.1
              have hl2 := entC_length (e := oe) (vb := ov) (hoO.out w3 (Kept.refl _ _)).1
              rw [hspl.out, List.getElem?_append_right (by omega), hl1, Nat.add_sub_cancel_left, List.getElem?_append_right (by omega), hl2, Nat.add_sub_cancel_left]; exact hu)
            rwa [show 0 + (k * 35 + (35 + j)) = k1 * 35 + j by omega] at this
      replace hRr := hid hRr
      have hall : Hd (∀ W, Kept no w3 W → ∀ p ∈ qs, OkE W p.1 p.2) := ⟨fun W kk p hp => (hrdq.out.1 p hp).kept kk⟩
      have hsum : Hd (k + qr = q - 1 ∧ q ≤ 12 ∧ 1 ≤ q) := ⟨by have := hq12.out; omega⟩
      have hkq2 : Hd (k < qs.length ∧ qs.length - (k + 1) = qr ∧ k + 1 = k1 ∧ qs.length ≤ 12) := ⟨by have := hkl.out; have := hq'.out; have := hq12.out; omega⟩
      by_cases hce : cr = 0
      · have hcc : cl = k1 := by omega
        have hqq : q = k1 := by omega
        subst hcc
        subst hqq
        have hqr0 : qr = 0 := by omega
        subst hqr0
        subst hce
        have hR1 := hid (hRr.out (some ⟨g, 0, none⟩) (fun h => absurd rfl h) ⟨g, 0, rfl⟩)
        clear HB hoO hbN hqlen hr20 hp hpl hoe ht3 e3 hm0 hm1 hm2 hm3 f0 f1 f2 z0 z1 z2 e0 e1 e2 hqr hcr hRr hspl
        go_upto_region 16 with fail
        refine region_flow (S := no) (Sl := (fun _ => no)) [Is (.slice (some ⟨g, 0, none⟩) q q), Is (.int .i64 (k : Int)), Is (.int .i64 (k : Int)), Is (.slice (some ⟨g, 0, none⟩) k k), Is (.slice (some ⟨g, 0, none⟩) q q), Is (.int .i64 (k : Int)), Is (.int .i64 (q : Int)), Is (.slice (some ⟨g, 0, none⟩) 0 0), PRdE (qs.eraseIdx k), PRdE (qs.eraseIdx k)] [] (fun _ _ h => h) _ (by kernel_rfl) (by kernel_rfl) (by kernel_rfl) (by kernel_rfl) (fun x => by simp only [puts, Act.put, List.map_cons, List.map_nil, Nat.zero_add, Nat.reduceAdd, List.setIfInBounds_toArray, List.set_cons_zero, List.set_cons_succ]; exact rfl) ?_ ?_
        · skip
          refine Steps.cons (fun x wf Kk hq hdep hold => ?_) ?_
          · try dsimp only
            have h9 : x 9 = (.slice (some ⟨g, 0, none⟩) q q) := hold 9 (by kernel_rfl)
            clear hq hdep hold
            simp only [h9]
            clear h9
            rw [if_pos (by rfl)]
            refine OpY.val (v := (.slice (some ⟨g, 0, none⟩) q q)) ?_ ⟨Kept.refl _ _, rfl⟩
            first | rfl | go_simp
          refine Steps.cons (fun x wf Kk hq hdep hold => ?_) ?_
          · try dsimp only
            clear hq hdep hold
            rw [if_pos (by rfl)]
            refine OpY.val (v := (.int .i64 (k : Int))) ?_ ⟨Kept.refl _ _, rfl⟩
            first | rfl | go_simp
          refine Steps.cons (fun x wf Kk hq hdep hold => ?_) ?_
          · try dsimp only
            clear hq hdep hold
            rw [if_pos (by rfl)]
            refine OpY.val (v := (.int .i64 (k : Int))) ?_ ⟨Kept.refl _ _, rfl⟩
            first | rfl | go_simp
          refine Steps.cons (fun x wf Kk hq hdep hold => ?_) ?_
          · try dsimp only
            have h0 : x 0 = (.slice (some ⟨g, 0, none⟩) q q) := hdep 0 (by kernel_rfl)
            have h1 : x 1 = (.int .i64 (k : Int)) := hdep 1 (by kernel_rfl)
            have h2 : x 2 = (.int .i64 (k : Int)) := hdep 2 (by kernel_rfl)
            clear hq hdep hold
            simp only [h0, h1, h2]
            clear h0 h1 h2
            rw [if_pos (by rfl)]
            refine OpY.val (v := (.slice (some ⟨g, 0, none⟩) k k)) ?_ ⟨Kept.refl _ _, rfl⟩
            first | rfl | go_simp
          refine Steps.cons (fun x wf Kk hq hdep hold => ?_) ?_
          · try dsimp only
            have h9 : x 9 = (.slice (some ⟨g, 0, none⟩) q q) := hold 9 (by kernel_rfl)
            clear hq hdep hold
            simp only [h9]
            clear h9
            rw [if_pos (by rfl)]
            refine OpY.val (v := (.slice (some ⟨g, 0, none⟩) q q)) ?_ ⟨Kept.refl _ _, rfl⟩
            first | rfl | go_simp
          refine Steps.cons (fun x wf Kk hq hdep hold => ?_) ?_
          · try dsimp only
            clear hq hdep hold
            rw [if_pos (by rfl)]
            refine OpY.val (v := (.int .i64 (k : Int))) ?_ ⟨Kept.refl _ _, rfl⟩
            first | rfl | go_simp
          refine Steps.cons (fun x wf Kk hq hdep hold => ?_) ?_
          · try dsimp only
            have h5 : x 5 = (.int .i64 (k : Int)) := hdep 5 (by kernel_rfl)
            clear hq hdep hold
            simp only [h5]
            clear h5
            rw [if_pos (by rfl)]
            refine OpY.val (v := (.int .i64 (q : Int))) ?_ ⟨Kept.refl _ _, rfl⟩
            first | rfl | go_simp
          refine Steps.cons (fun x wf Kk hq hdep hold => ?_) ?_
          · try dsimp only
            have h4 : x 4 = (.slice (some ⟨g, 0, none⟩) q q) := hdep 4 (by kernel_rfl)
            have h6 : x 6 = (.int .i64 (q : Int)) := hdep 6 (by kernel_rfl)
            clear hq hdep hold
            simp only [h4, h6]
            clear h4 h6
            rw [if_pos (by rfl)]
            refine OpY.val (v := (.slice (some ⟨g, 0, none⟩) 0 0)) ?_ ⟨Kept.refl _ _, rfl⟩
            first | rfl | go_simp
          refine Steps.cons (fun x wf Kk hq hdep hold => ?_) ?_
          · try dsimp only
            have h3 : x 3 = (.slice (some ⟨g, 0, none⟩) k k) := hdep 3 (by kernel_rfl)
            have h7 : x 7 = (.slice (some ⟨g, 0, none⟩) 0 0) := hdep 7 (by kernel_rfl)
            clear hq hdep hold
            simp only [h3, h7]
            clear h3 h7
            rw [if_pos (by rfl)]
            refine OpY.appendCut (.tmp 81) (.tmp 85) 42 _ rfl rfl 47 35 72 TEnts g k (flatE (qs.take k)) rfl hflat.out.2.1 (Kk.undrew.rng hR0.out) (.slice (some ⟨g, 0, none⟩) 0 0) 0 (flatE (qs.drop q)) rfl (hR1.out.keptNo Kk.undrew) ?c2 ?c3 ?_
            case c2 => have := hsum.out; unfold maxLen; omega
            case c3 => have := hsum.out; omega
            rintro v' w' h2 h3
            refine ⟨h3, RdE.cutAt (hall.out w' (Kk.undrew.trans' h3)) hkq2.out.1 ?_⟩
            rw [hkq2.out.2.1, hkq2.out.2.2.1]; exact h2
          refine Steps.cons (fun x wf Kk hq hdep hold => ?_) ?_
          · try dsimp only
            have p8 : Pr.p (Sl := (fun _ => no)) (PRdE (qs.eraseIdx k)) (x 8) wf := hdep 8 (by kernel_rfl)
            clear hq hdep hold
            rw [if_pos (by rfl)]
            exact OpY.val (v := x 8) (by go_simp) ⟨Kept.refl _ _, p8⟩
          exact Steps.nil _
        · intro x wf Kk hv
          try dsimp only
          have h0 : x 0 = (.slice (some ⟨g, 0, none⟩) q q) := hv 0 (by kernel_rfl)
          have h1 : x 1 = (.int .i64 (k : Int)) := hv 1 (by kernel_rfl)
          have h2 : x 2 = (.int .i64 (k : Int)) := hv 2 (by kernel_rfl)
          have h3 : x 3 = (.slice (some ⟨g, 0, none⟩) k k) := hv 3 (by kernel_rfl)
          have h4 : x 4 = (.slice (some ⟨g, 0, none⟩) q q) := hv 4 (by kernel_rfl)
          have h5 : x 5 = (.int .i64 (k : Int)) := hv 5 (by kernel_rfl)
          have h6 : x 6 = (.int .i64 (q : Int)) := hv 6 (by kernel_rfl)
          have h7 : x 7 = (.slice (some ⟨g, 0, none⟩) 0 0) := hv 7 (by kernel_rfl)
          have p8 : Pr.p (Sl := (fun _ => no)) (PRdE (qs.eraseIdx k)) (x 8) wf := hv 8 (by kernel_rfl)
          have p9 : Pr.p (Sl := (fun _ => no)) (PRdE (qs.eraseIdx k)) (x 9) wf := hv 9 (by kernel_rfl)
          clear hv
          simp only [h0, h1, h2, h3, h4, h5, h6, h7]
          clear h0 h1 h2 h3 h4 h5 h6 h7
          have K5 := hid (K3.out.trans' Kk.undrew)
          have hlen : Hd ((qs.eraseIdx k).length ≤ 100) := ⟨by have := hkq2.out.2.2.2; have := List.length_eraseIdx_le qs k; omega⟩
          obtain ⟨w5, rfl⟩ : ∃ w5 : World, w5 = wf := ⟨_, rfl⟩
          replace hlen := hlen.out
          have hrd5 : RdE w5 (x 9) (qs.eraseIdx k) := p9
          clear Kk hflat hall hsum hkq2 hR0 hR1 p9
          generalize x 9 = V5 at hrd5 ⊢
          try generalize x 8 = V6
          obtain ⟨FA, FC, FR⟩ := FIN.out w5 V5 (qs.eraseIdx k) hlen hrd5 K5.out
          replace FA := hid FA
          replace FC := hid FC
          replace FR := hid FR
          clear FIN hrd5 hlen
          go_wp2_with fail
          refine FA.out.mono ?_
          rintro ed wa ⟨rfl, ka⟩
          have HC := hid (FC.out wa ka)
          clear FA FC
          go_wp2_with fail
          refine HC.out.mono ?_
          rintro ed wb ⟨rfl, kb⟩
          have kab := hid (ka.trans' kb)
          have HD := hid (FR.out wb kab.out)
          clear HC FR ka kb
          go_wp2_with fail
          refine HD.out.mono ?_
          rintro ed wc ⟨rfl, kc⟩
          have Kc := hid (K5.out.trans' (kab.out.trans' kc))
          clear HD kab kc K5
          generalize chk Z32l 0 (ents (qs.eraseIdx k)) = zz
          have hzz : ((zz : Int) == (zz : Int)) = true := by simp
          go_wp2_with fail
          go_ret
          exact ⟨rfl, Kc.out⟩
      · have hR1 := hid (hRr.out (some ⟨g, k1 * 35, none⟩) (fun _ => rfl) ⟨g, k1 * 35, rfl⟩)
        have hce' : ¬ cl = k1 := by omega
        have hce2 : ¬ (cl : Int) - (k1 : Int) = 0 := by omega
        clear HB hoO hbN hqlen hr20 hp hpl hoe ht3 e3 hm0 hm1 hm2 hm3 f0 f1 f2 z0 z1 z2 e0 e1 e2 hRr hspl
        go_upto_region 16 with fail
        refine region_flow (S := no) (Sl := (fun _ => no)) [Is (.slice (some ⟨g, 0, none⟩) q cl), Is (.int .i64 (k : Int)), Is (.int .i64 (k : Int)), Is (.slice (some ⟨g, 0, none⟩) k k), Is (.slice (some ⟨g, 0, none⟩) q cl), Is (.int .i64 (k : Int)), Is (.int .i64 (k1 : Int)), Is (.slice (some ⟨g, k1 * 35, none⟩) qr cr), PRdE (qs.eraseIdx k), PRdE (qs.eraseIdx k)] [] (fun _ _ h => h) _ (by kernel_rfl) (by kernel_rfl) (by kernel_rfl) (by kernel_rfl) (fun x => by simp only [puts, Act.put, List.map_cons, List.map_nil, Nat.zero_add, Nat.reduceAdd, List.setIfInBounds_toArray, List.set_cons_zero, List.set_cons_succ]; exact rfl) ?_ ?_
        · skip
          refine Steps.cons (fun x wf Kk hq hdep hold => ?_) ?_
          · try dsimp only
            have h9 : x 9 = (.slice (some ⟨g, 0, none⟩) q cl) := hold 9 (by kernel_rfl)
            clear hq hdep hold
            simp only [h9]
            clear h9
            rw [if_pos (by rfl)]
            refine OpY.val (v := (.slice (some ⟨g, 0, none⟩) q cl)) ?_ ⟨Kept.refl _ _, rfl⟩
            first | rfl | go_simp
          refine Steps.cons (fun x wf Kk hq hdep hold => ?_) ?_
          · try dsimp only
            clear hq hdep hold
            rw [if_pos (by rfl)]
            refine OpY.val (v := (.int .i64 (k : Int))) ?_ ⟨Kept.refl _ _, rfl⟩
            first | rfl | go_simp
          refine Steps.cons (fun x wf Kk hq hdep hold => ?_) ?_
          · try dsimp only
            clear hq hdep hold
            rw [if_pos (by rfl)]
            refine OpY.val (v := (.int .i64 (k : Int))) ?_ ⟨Kept.refl _ _, rfl⟩
            first | rfl | go_simp
          refine Steps.cons (fun x wf Kk hq hdep hold => ?_) ?_
          · try dsimp only
            have h0 : x 0 = (.slice (some ⟨g, 0, none⟩) q cl) := hdep 0 (by kernel_rfl)
            have h1 : x 1 = (.int .i64 (k : Int)) := hdep 1 (by kernel_rfl)
            have h2 : x 2 = (.int .i64 (k : Int)) := hdep 2 (by kernel_rfl)
            clear hq hdep hold
            simp only [h0, h1, h2]
            clear h0 h1 h2
            rw [if_pos (by rfl)]
            refine OpY.val (v := (.slice (some ⟨g, 0, none⟩) k k)) ?_ ⟨Kept.refl _ _, rfl⟩
            first | rfl | go_simp
          refine Steps.cons (fun x wf Kk hq hdep hold => ?_) ?_
          · try dsimp only
            have h9 : x 9 = (.slice (some ⟨g, 0, none⟩) q cl) := hold 9 (by kernel_rfl)
            clear hq hdep hold
            simp only [h9]
            clear h9
            rw [if_pos (by rfl)]
            refine OpY.val (v := (.slice (some ⟨g, 0, none⟩) q cl)) ?_ ⟨Kept.refl _ _, rfl⟩
            first | rfl | go_simp
          refine Steps.cons (fun x wf Kk hq hdep hold => ?_) ?_
          · try dsimp only
            clear hq hdep hold
            rw [if_pos (by rfl)]
            refine OpY.val (v := (.int .i64 (k : Int))) ?_ ⟨Kept.refl _ _, rfl⟩
            first | rfl | go_simp
          refine Steps.cons (fun x wf Kk hq hdep hold => ?_) ?_
          · try dsimp only
            have h5 : x 5 = (.int .i64 (k : Int)) := hdep 5 (by kernel_rfl)
            clear hq hdep hold
            simp only [h5]
            clear h5
            rw [if_pos (by rfl)]
            refine OpY.val (v := (.int .i64 (k1 : Int))) ?_ ⟨Kept.refl _ _, rfl⟩
            first | rfl | go_simp
          refine Steps.cons (fun x wf Kk hq hdep hold => ?_) ?_
          · try dsimp only
            have h4 : x 4 = (.slice (some ⟨g, 0, none⟩) q cl) := hdep 4 (by kernel_rfl)
            have h6 : x 6 = (.int .i64 (k1 : Int)) := hdep 6 (by kernel_rfl)
            clear hq hdep hold
            simp only [h4, h6]
            clear h4 h6
            rw [if_pos (by rfl)]
            refine OpY.val (v := (.slice (some ⟨g, k1 * 35, none⟩) qr cr)) ?_ ⟨Kept.refl _ _, rfl⟩
            first | rfl | go_simp
          refine Steps.cons (fun x wf Kk hq hdep hold => ?_) ?_
          · try dsimp only
            have h3 : x 3 = (.slice (some ⟨g, 0, none⟩) k k) := hdep 3 (by kernel_rfl)
            have h7 : x 7 = (.slice (some ⟨g, k1 * 35, none⟩) qr cr) := hdep 7 (by kernel_rfl)
            clear hq hdep hold
            simp only [h3, h7]
            clear h3 h7
            rw [if_pos (by rfl)]
            refine OpY.appendCut (.tmp 81) (.tmp 85) 42 _ rfl rfl 47 35 72 TEnts g k (flatE (qs.take k)) rfl hflat.out.2.1 (Kk.undrew.rng hR0.out) (.slice (some ⟨g, k1 * 35, none⟩) qr cr) qr (flatE (qs.drop k1)) rfl (hR1.out.keptNo Kk.undrew) ?c2 ?c3 ?_
            case c2 => have := hsum.out; unfold maxLen; omega
            case c3 => have := hsum.out; omega
            rintro v' w' h2 h3
            refine ⟨h3, RdE.cutAt (hall.out w' (Kk.undrew.trans' h3)) hkq2.out.1 ?_⟩
            rw [hkq2.out.2.1, hkq2.out.2.2.1]; exact h2
          refine Steps.cons (fun x wf Kk hq hdep hold => ?_) ?_
          · try dsimp only
            have p8 : Pr.p (Sl := (fun _ => no)) (PRdE (qs.eraseIdx k)) (x 8) wf := hdep 8 (by kernel_rfl)
            clear hq hdep hold
            rw [if_pos (by rfl)]
            exact OpY.val (v := x 8) (by go_simp) ⟨Kept.refl _ _, p8⟩
          exact Steps.nil _
        · intro x wf Kk hv
          try dsimp only
          have h0 : x 0 = (.slice (some ⟨g, 0, none⟩) q cl) := hv 0 (by kernel_rfl)
          have h1 : x 1 = (.int .i64 (k : Int)) := hv 1 (by kernel_rfl)
          have h2 : x 2 = (.int .i64 (k : Int)) := hv 2 (by kernel_rfl)
          have h3 : x 3 = (.slice (some ⟨g, 0, none⟩) k k) := hv 3 (by kernel_rfl)
          have h4 : x 4 = (.slice (some ⟨g, 0, none⟩) q cl) := hv 4 (by kernel_rfl)
          have h5 : x 5 = (.int .i64 (k : Int)) := hv 5 (by kernel_rfl)
          have h6 : x 6 = (.int .i64 (k1 : Int)) := hv 6 (by kernel_rfl)
          have h7 : x 7 = (.slice (some ⟨g, k1 * 35, none⟩) qr cr) := hv 7 (by kernel_rfl)
          have p8 : Pr.p (Sl := (fun _ => no)) (PRdE (qs.eraseIdx k)) (x 8) wf := hv 8 (by kernel_rfl)
          have p9 : Pr.p (Sl := (fun _ => no)) (PRdE (qs.eraseIdx k)) (x 9) wf := hv 9 (by kernel_rfl)
          clear hv
          simp only [h0, h1, h2, h3, h4, h5, h6, h7]
          clear h0 h1 h2 h3 h4 h5 h6 h7
          have K5 := hid (K3.out.trans' Kk.undrew)
          have hlen : Hd ((qs.eraseIdx k).length ≤ 100) := ⟨by have := hkq2.out.2.2.2; have := List.length_eraseIdx_le qs k; omega⟩
          obtain ⟨w5, rfl⟩ : ∃ w5 : World, w5 = wf := ⟨_, rfl⟩
          replace hlen := hlen.out
          have hrd5 : RdE w5 (x 9) (qs.eraseIdx k) := p9
          clear Kk hflat hall hsum hkq2 hR0 hR1 p9
          generalize x 9 = V5 at hrd5 ⊢
          try generalize x 8 = V6
          obtain ⟨FA, FC, FR⟩ := FIN.out w5 V5 (qs.eraseIdx k) hlen hrd5 K5.out
          replace FA := hid FA
          replace FC := hid FC
          replace FR := hid FR
          clear FIN hrd5 hlen
          go_wp2_with fail
          refine FA.out.mono ?_
          rintro ed wa ⟨rfl, ka⟩
          have HC := hid (FC.out wa ka)
          clear FA FC
          go_wp2_with fail
          refine HC.out.mono ?_
          rintro ed wb ⟨rfl, kb⟩
          have kab := hid (ka.trans' kb)
          have HD := hid (FR.out wb kab.out)
          clear HC FR ka kb
          go_wp2_with fail
          refine HD.out.mono ?_
          rintro ed wc ⟨rfl, kc⟩
          have Kc := hid (K5.out.trans' (kab.out.trans' kc))
          clear HD kab kc K5
          generalize chk Z32l 0 (ents (qs.eraseIdx k)) = zz
          have hzz : ((zz : Int) == (zz : Int)) = true := by simp
          go_wp2_with fail
          go_ret
          exact ⟨rfl, Kc.out⟩
    have b0 : (m == 0) = false := by simpa using hm0
    have b1 : (m == 1) = false := by simpa using hm1
    have b2 : (m == 2) = false := by simpa using hm2
    have b3 : (m == 3) = false := by simpa using hm3
    have b4 : (m == 4) = false := by simpa using hm4
    have hlen : Hd (qs.length ≤ 100) := ⟨by have := hq12.out; have := hq'.out; omega⟩
    have K5 := hid K3.out
    have hrd5 := hid hrdq.out
    clear HB hoO hbN hqlen hr20 hp hpl hoe ht3 e3 f0 f1 f2 z0 z1 z2 e0 e1 e2
    go_upto_region 17 with fail
    obtain ⟨w5, rfl⟩ : ∃ w5 : World, w5 = w3 := ⟨_, rfl⟩
    replace hlen := hlen.out
    replace hrd5 := hrd5.out
    clear b0 b1 b2 b3 b4
    obtain ⟨FA, FC, FR⟩ := FIN.out w5 (.slice (some ⟨g, 0, none⟩) q cl) qs hlen hrd5 K5.out
    replace FA := hid FA
    replace FC := hid FC
    replace FR := hid FR
    clear FIN hrd5 hlen
    go_wp2_with fail
    refine FA.out.mono ?_
    rintro ed wa ⟨rfl, ka⟩
    have HC := hid (FC.out wa ka)
    clear FA FC
    go_wp2_with fail
    refine HC.out.mono ?_
    rintro ed wb ⟨rfl, kb⟩
    have kab := hid (ka.trans' kb)
    have HD := hid (FR.out wb kab.out)
    clear HC FR ka kb
    go_wp2_with fail
    refine HD.out.mono ?_
    rintro ed wc ⟨rfl, kc⟩
    have Kc := hid (K5.out.trans' (kab.out.trans' kc))
    clear HD kab kc K5
    generalize chk Z32l 0 (ents qs) = zz
    have hzz : ((zz : Int) == (zz : Int)) = true := by simp
    go_wp2_with fail
    go_ret
    exact ⟨rfl, Kc.out⟩
end Go.Proofs.YtknbkhmpnanegaaDoor
