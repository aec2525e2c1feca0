/- electionlaw23.BoardChecks (printed by gen_bc.py). -/
import Derived.Test.YtknbkhmpnanegaaDoorBH
namespace Go.Proofs.YtknbkhmpnanegaaDoor
open Go.RowKit Go.Mk Go.Sha Go.Brd
/-- The cells of a Proof. -/
def prfC (O R : List UInt8) (m n : Int) (e : Ent) (vb vl : Value) : List Value := O.map B ++ (R.map B ++ (.int .i64 m :: .int .i64 n :: (entC e vb ++ [vl])))
theorem set_mid {α : Type} (pre : List α) (x y : α) (post : List α) (k : Nat) (hk : k = pre.length) : (pre ++ x :: post).set k y = pre ++ y :: post := by
  subst hk; rw [List.set_append_right _ _ (Nat.le_refl _)]; simp
theorem get_mid {α : Type} (pre mid post : List α) (k j : Nat) (hk : k = pre.length) (hj : j < mid.length) : (pre ++ (mid ++ post))[k + j]? = mid[j]? := by
  subst hk; rw [List.getElem?_append_right (by omega), Nat.add_sub_cancel_left, List.getElem?_append_left hj]
theorem rng_mid {w : World} {g : Nat} {t : TypeId} (pre mid post cs : List Value) (k : Nat) (h : w.heap[g]? = some (.cells cs.toArray t (0, 0))) (hc : cs = pre ++ (mid ++ post)) (hk : k = pre.length) : w.rangeAt g k mid := fun j u hu => by
  have hj := (List.getElem?_eq_some_iff.1 hu).1
  rw [cell_of_row w g (k + j) _ t (0, 0) h, hc]
  simp only [List.getElem?_toArray]
  rw [get_mid pre mid post k j hk hj]; exact hu
section
variable {O R : List UInt8} {m n : Int} {e : Ent} {vb vl : Value} {w : World} {g : Nat} {t : TypeId}
theorem prf_O (h : w.heap[g]? = some (.cells (prfC O R m n e vb vl).toArray t (0, 0))) : w.rangeAt g 0 (O.map B) := rng_mid [] _ _ _ 0 h (by rw [List.nil_append]; rfl) rfl
theorem prf_R (h : w.heap[g]? = some (.cells (prfC O R m n e vb vl).toArray t (0, 0))) (hO : O.length = 32) : w.rangeAt g 32 (R.map B) := rng_mid (O.map B) _ _ _ 32 h rfl (by simp [hO])
theorem prf_E (h : w.heap[g]? = some (.cells (prfC O R m n e vb vl).toArray t (0, 0))) (hO : O.length = 32) (hR : R.length = 32) : w.rangeAt g 66 (entC e vb) := rng_mid (O.map B ++ (R.map B ++ [.int .i64 m, .int .i64 n])) _ [vl] _ 66 h (by simp [prfC]) (by simp [hO, hR])
theorem prf_m (h : w.heap[g]? = some (.cells (prfC O R m n e vb vl).toArray t (0, 0))) (hO : O.length = 32) (hR : R.length = 32) : w.cell? ⟨g, 64, none⟩ = some (.int .i64 m) :=
  rng_mid (O.map B ++ R.map B) [.int .i64 m] (.int .i64 n :: (entC e vb ++ [vl])) _ 64 h (by simp [prfC]) (by simp [hO, hR]) 0 _ rfl
theorem prf_n (h : w.heap[g]? = some (.cells (prfC O R m n e vb vl).toArray t (0, 0))) (hO : O.length = 32) (hR : R.length = 32) : w.cell? ⟨g, 65, none⟩ = some (.int .i64 n) :=
  rng_mid (O.map B ++ (R.map B ++ [.int .i64 m])) [.int .i64 n] (entC e vb ++ [vl]) _ 65 h (by simp [prfC]) (by simp [hO, hR]) 0 _ rfl
theorem prf_b (h : w.heap[g]? = some (.cells (prfC O R m n e vb vl).toArray t (0, 0))) (hO : O.length = 32) (hR : R.length = 32) : w.cell? ⟨g, 68, none⟩ = some vb :=
  rng_mid (O.map B ++ (R.map B ++ [.int .i64 m, .int .i64 n, .int .i64 e.number, .int .i64 e.kind])) [vb] (e.prev.map B ++ [vl]) _ 68 h (by simp [prfC, entC]) (by simp [hO, hR]) 0 _ rfl
theorem prf_l (h : w.heap[g]? = some (.cells (prfC O R m n e vb vl).toArray t (0, 0))) (hO : O.length = 32) (hR : R.length = 32) (hE : e.prev.length = 32) : w.cell? ⟨g, 101, none⟩ = some vl :=
  rng_mid (O.map B ++ (R.map B ++ (.int .i64 m :: .int .i64 n :: entC e vb))) [vl] [] _ 101 h (by simp [prfC]) (by simp [hO, hR, entC_length hE]) 0 _ rfl
theorem prf_set_l (hO : O.length = 32) (hR : R.length = 32) (hE : e.prev.length = 32) (v : Value) : (prfC O R m n e vb vl).set 101 v = prfC O R m n e vb v := by
  have := set_mid (O.map B ++ (R.map B ++ (.int .i64 m :: .int .i64 n :: entC e vb))) vl v [] 101 (by simp [hO, hR, entC_length hE])
  simpa [prfC] using this
theorem prf_set_b (hO : O.length = 32) (hR : R.length = 32) (v : Value) (xs : List UInt8) : (prfC O R m n e vb vl).set 68 v = prfC O R m n ⟨e.number, e.kind, xs, e.prev⟩ v vl := by
  have := set_mid (O.map B ++ (R.map B ++ [.int .i64 m, .int .i64 n, .int .i64 e.number, .int .i64 e.kind])) vb v (e.prev.map B ++ [vl]) 68 (by simp [hO, hR])
  simpa [prfC, entC] using this
end
theorem RdD.cut {w : World} {ao : Option Addr} {n cap : Nat} {ds : List (List UInt8)} (h : RdD w (.slice ao n cap) ds) (k : Nat) : RdD w (.slice ao (min n k) cap) (ds.take k) := by
  have hn : n = ds.length := by obtain ⟨_, _, _, _, e, _⟩ := h; cases e; rfl
  by_cases hk : k ≤ ds.length
  · have ht := Rd.takeRows (f := fun d : List UInt8 => d.map B) (sz := 32) (fun d hd => by rw [List.length_map]; exact h.1 d hd) h.2 k hk
    rw [hn, Nat.min_eq_right hk]
    exact ⟨fun d hd => h.1 d (List.mem_of_mem_take hd), ht⟩
  · rw [List.take_of_length_le (by omega), hn, Nat.min_eq_left (by omega)]
    rw [hn] at h; exact h
theorem prf_block (w : World) (L : List Value) : ∃ w1, w1 = w.alloc (.cells L.toArray 70) ∧ w1.heap[w.heap.size]? = some (.cells L.toArray 70 (0, 0)) ∧ Kept no w w1 := ⟨_, rfl, heap_alloc_new _ _, (Kept.refl no w).alloc _⟩
set_option maxRecDepth 100000 in
set_option maxHeartbeats 8000000 in
theorem boardchecks_any (O R : List UInt8) (m n : Int) (e : Ent) (vb vl : Value) (ds : List (List UInt8)) (w : World) (hO : O.length = 32) (hR : R.length = 32) (hp : e.prev.length = 32) (hl : e.body.length ≤ 9223372036854775807) (hr : Rd w 1 vb e.body.length (e.body.map B)) (hd : RdD w vl ds) (hdl : ds.length ≤ 9223372036854775807) (hT : Tab w) (hTR : TabR w) :
    Calls Tryd.prog 11 #[.agg (prfC O R m n e vb vl).toArray] w fun ed w' => ed = .returned (.bool true) ∧ Kept no w w' := by
  obtain ⟨ab, cb, rfl⟩ := Rd.shapeZ hr
  obtain ⟨al, cl, rfl⟩ := Rd.shapeZ hd.2
  have hr20 := Rd.cut hr 20
  have hd8 := RdD.cut hd 8
  have hcb : e.body.length ≤ cb := by obtain ⟨_, _, _, e, h1, _⟩ := hr; cases e; exact h1
  have hcl : ds.length ≤ cl := by obtain ⟨_, _, _, _, e, h1, _⟩ := hd; cases e; exact h1
  obtain ⟨nb, hnb⟩ : ∃ n, e.body.length = n := ⟨_, rfl⟩
  obtain ⟨nl, hnl⟩ : ∃ n, ds.length = n := ⟨_, rfl⟩
  rw [hnb] at hr20 hl hcb ⊢
  rw [hnl] at hd8 hdl hcl ⊢
  have qb1 : min (nb : Int) 20 = ((min nb 20 : Nat) : Int) := by omega
  have qb2 : (if 20 < (nb : Int) then (20 : Int) else (nb : Int)) = ((min nb 20 : Nat) : Int) := by split <;> omega
  have qb3 : ((min nb 20 : Nat) : Int) ≤ (cb : Int) := by omega
  have qb4 : (0 : Int) ≤ ((min nb 20 : Nat) : Int) := by omega
  have ql1 : min (nl : Int) 8 = ((min nl 8 : Nat) : Int) := by omega
  have ql2 : (if 8 < (nl : Int) then (8 : Int) else (nl : Int)) = ((min nl 8 : Nat) : Int) := by split <;> omega
  have ql3 : ((min nl 8 : Nat) : Int) ≤ (cl : Int) := by omega
  have ql4 : (0 : Int) ≤ ((min nl 8 : Nat) : Int) := by omega
  obtain ⟨e', he'⟩ : ∃ e' : Ent, (⟨e.number, e.kind, e.body.take 20, e.prev⟩ : Ent) = e' := ⟨_, rfl⟩
  have hE : Hd (OkE w e' (.slice ab (min nb 20) cb)) := ⟨by rw [← he']; exact ⟨hp, by simp; omega, hr20⟩⟩
  have hds : Hd ((ds.take 8).length ≤ 1000) := ⟨by rw [List.length_take]; omega⟩
  have hset1 : Hd ((prfC O R m n e (.slice ab nb cb) (.slice al nl cl)).set 101 (.slice al (min nl 8) cl) = prfC O R m n e (.slice ab nb cb) (.slice al (min nl 8) cl)) := ⟨prf_set_l hO hR hp _⟩
  have hset2 : Hd ((prfC O R m n e (.slice ab nb cb) (.slice al (min nl 8) cl)).set 68 (.slice ab (min nb 20) cb) = prfC O R m n e' (.slice ab (min nb 20) cb) (.slice al (min nl 8) cl)) := ⟨by rw [← he']; exact prf_set_b hO hR _ _⟩
  generalize min nb 20 = qb at hr20 qb1 qb2 qb3 qb4 hE hset2
  generalize min nl 8 = ql at hd8 ql1 ql2 ql3 ql4 hset1 hset2
  generalize ds.take 8 = ds' at hd8 hds
  obtain ⟨L, hL⟩ : ∃ L, prfC O R m n e (.slice ab nb cb) (.slice al nl cl) = L := ⟨_, rfl⟩
  rw [hL]
  replace hL := hid hL
  replace hd8 := hid hd8
  replace hO := hid hO
  replace hR := hid hR
  replace hp := hid hp
  replace hT := hid hT
  replace hTR := hid hTR
  clear hr hr20 hd hnb hnl he'
  go_enter Tryd.func11, Tryd.ntmps11
  go_upto_region 1 with fail
  obtain ⟨w1, hw1, g0, k1⟩ := prf_block w L
  rw [← hw1]
  clear hw1
  rw [← hL.out] at g0
  replace g0 := hid g0
  replace k1 := hid k1
  refine region_flow (S := (fun j => j = w.heap.size)) (Sl := (fun _ => (fun j => j = w.heap.size))) [Is (.pointer (some ⟨w.heap.size, 101, none⟩)), Is (.slice al nl cl), Is (.pointer (some ⟨w.heap.size, 101, none⟩)), Is (.slice al nl cl), Is (.int .i64 (nl : Int)), Is (.int .i64 (ql : Int)), Is (.slice al ql cl), Is (.pointer (some ⟨w.heap.size, 66, none⟩)), Is (.pointer (some ⟨w.heap.size, 68, none⟩)), Is (.slice ab nb cb), Is (.pointer (some ⟨w.heap.size, 66, none⟩)), Is (.pointer (some ⟨w.heap.size, 68, none⟩)), Is (.slice ab nb cb), Is (.int .i64 (nb : Int)), Is (.int .i64 (qb : Int)), Is (.slice ab qb cb), Is (.pointer (some ⟨w.heap.size, 101, none⟩)), Blk w.heap.size (prfC O R m n e (.slice ab nb cb) (.slice al ql cl)).toArray 70, Is (.pointer (some ⟨w.heap.size, 66, none⟩)), Is (.pointer (some ⟨w.heap.size, 68, none⟩)), Blk w.heap.size (prfC O R m n e' (.slice ab qb cb) (.slice al ql cl)).toArray 70] [17, 20] (fun _ _ h => h) _ (by kernel_rfl) (by kernel_rfl) (by kernel_rfl) (by kernel_rfl) (fun x => by simp only [puts, Act.put, List.map_cons, List.map_nil, Nat.zero_add, Nat.reduceAdd, List.setIfInBounds_toArray, List.set_cons_zero, List.set_cons_succ]; exact rfl) ?_ ?_
  · skip
    refine Steps.cons (fun x wf Kk hq hdep hold => ?_) ?_
    · try dsimp only
      clear hq hdep hold
      rw [if_pos (by rfl)]
      refine OpY.val (v := (.pointer (some ⟨w.heap.size, 101, none⟩))) ?_ ⟨Kept.refl _ _, rfl⟩
      first | rfl | go_simp
    refine Steps.cons (fun x wf Kk hq hdep hold => ?_) ?_
    · try dsimp only
      have h0 : x 0 = (.pointer (some ⟨w.heap.size, 101, none⟩)) := hdep 0 (by kernel_rfl)
      have Kq := hq no (fun j hj => by cases (show j ∈ ([] : List Nat) from by (have e : ∀ l : List Nat, l = [] → j ∈ l → j ∈ ([] : List Nat) := fun l h h2 => h ▸ h2); exact e _ (by kernel_rfl) hj))
      clear hq hdep hold
      simp only [h0]
      clear h0
      have cv := prf_l (Kq.undrew.blk g0.out) hO.out hR.out hp.out
      rw [if_pos (by rfl)]
      refine OpY.val (v := (.slice al nl cl)) ?_ ⟨Kept.refl _ _, rfl⟩
      first | rfl | go_simp
    refine Steps.cons (fun x wf Kk hq hdep hold => ?_) ?_
    · try dsimp only
      clear hq hdep hold
      rw [if_pos (by rfl)]
      refine OpY.val (v := (.pointer (some ⟨w.heap.size, 101, none⟩))) ?_ ⟨Kept.refl _ _, rfl⟩
      first | rfl | go_simp
    refine Steps.cons (fun x wf Kk hq hdep hold => ?_) ?_
    · try dsimp only
      have h2 : x 2 = (.pointer (some ⟨w.heap.size, 101, none⟩)) := hdep 2 (by kernel_rfl)
      have Kq := hq no (fun j hj => by cases (show j ∈ ([] : List Nat) from by (have e : ∀ l : List Nat, l = [] → j ∈ l → j ∈ ([] : List Nat) := fun l h h2 => h ▸ h2); exact e _ (by kernel_rfl) hj))
      clear hq hdep hold
      simp only [h2]
      clear h2
      have cv := prf_l (Kq.undrew.blk g0.out) hO.out hR.out hp.out
      rw [if_pos (by rfl)]
      refine OpY.val (v := (.slice al nl cl)) ?_ ⟨Kept.refl _ _, rfl⟩
      first | rfl | go_simp
    refine Steps.cons (fun x wf Kk hq hdep hold => ?_) ?_
    · try dsimp only
      have h3 : x 3 = (.slice al nl cl) := hdep 3 (by kernel_rfl)
      clear hq hdep hold
      simp only [h3]
      clear h3
      rw [if_pos (by rfl)]
      refine OpY.val (v := (.int .i64 (nl : Int))) ?_ ⟨Kept.refl _ _, rfl⟩
      first | rfl | go_simp
    refine Steps.cons (fun x wf Kk hq hdep hold => ?_) ?_
    · try dsimp only
      have h4 : x 4 = (.int .i64 (nl : Int)) := hdep 4 (by kernel_rfl)
      clear hq hdep hold
      simp only [h4]
      clear h4
      rw [if_pos (by rfl)]
      refine OpY.val (v := (.int .i64 (ql : Int))) ?_ ⟨Kept.refl _ _, rfl⟩
      first | rfl | go_simp
    refine Steps.cons (fun x wf Kk hq hdep hold => ?_) ?_
    · try dsimp only
      have h1 : x 1 = (.slice al nl cl) := hdep 1 (by kernel_rfl)
      have h5 : x 5 = (.int .i64 (ql : Int)) := hdep 5 (by kernel_rfl)
      clear hq hdep hold
      simp only [h1, h5]
      clear h1 h5
      rw [if_pos (by rfl)]
      refine OpY.val (v := (.slice al ql cl)) ?_ ⟨Kept.refl _ _, rfl⟩
      first | rfl | go_simp
    refine Steps.cons (fun x wf Kk hq hdep hold => ?_) ?_
    · try dsimp only
      clear hq hdep hold
      rw [if_pos (by rfl)]
      refine OpY.val (v := (.pointer (some ⟨w.heap.size, 66, none⟩))) ?_ ⟨Kept.refl _ _, rfl⟩
      first | rfl | go_simp
    refine Steps.cons (fun x wf Kk hq hdep hold => ?_) ?_
    · try dsimp only
      have h7 : x 7 = (.pointer (some ⟨w.heap.size, 66, none⟩)) := hdep 7 (by kernel_rfl)
      clear hq hdep hold
      simp only [h7]
      clear h7
      rw [if_pos (by rfl)]
      refine OpY.val (v := (.pointer (some ⟨w.heap.size, 68, none⟩))) ?_ ⟨Kept.refl _ _, rfl⟩
      first | rfl | go_simp
    refine Steps.cons (fun x wf Kk hq hdep hold => ?_) ?_
    · try dsimp only
      have h8 : x 8 = (.pointer (some ⟨w.heap.size, 68, none⟩)) := hdep 8 (by kernel_rfl)
      have Kq := hq no (fun j hj => by cases (show j ∈ ([] : List Nat) from by (have e : ∀ l : List Nat, l = [] → j ∈ l → j ∈ ([] : List Nat) := fun l h h2 => h ▸ h2); exact e _ (by kernel_rfl) hj))
      clear hq hdep hold
      simp only [h8]
      clear h8
      have cv := prf_b (Kq.undrew.blk g0.out) hO.out hR.out
      rw [if_pos (by rfl)]
      refine OpY.val (v := (.slice ab nb cb)) ?_ ⟨Kept.refl _ _, rfl⟩
      first | rfl | go_simp
    refine Steps.cons (fun x wf Kk hq hdep hold => ?_) ?_
    · try dsimp only
      clear hq hdep hold
      rw [if_pos (by rfl)]
      refine OpY.val (v := (.pointer (some ⟨w.heap.size, 66, none⟩))) ?_ ⟨Kept.refl _ _, rfl⟩
      first | rfl | go_simp
    refine Steps.cons (fun x wf Kk hq hdep hold => ?_) ?_
    · try dsimp only
      have h10 : x 10 = (.pointer (some ⟨w.heap.size, 66, none⟩)) := hdep 10 (by kernel_rfl)
      clear hq hdep hold
      simp only [h10]
      clear h10
      rw [if_pos (by rfl)]
      refine OpY.val (v := (.pointer (some ⟨w.heap.size, 68, none⟩))) ?_ ⟨Kept.refl _ _, rfl⟩
      first | rfl | go_simp
    refine Steps.cons (fun x wf Kk hq hdep hold => ?_) ?_
    · try dsimp only
      have h11 : x 11 = (.pointer (some ⟨w.heap.size, 68, none⟩)) := hdep 11 (by kernel_rfl)
      have Kq := hq no (fun j hj => by cases (show j ∈ ([] : List Nat) from by (have e : ∀ l : List Nat, l = [] → j ∈ l → j ∈ ([] : List Nat) := fun l h h2 => h ▸ h2); exact e _ (by kernel_rfl) hj))
      clear hq hdep hold
      simp only [h11]
      clear h11
      have cv := prf_b (Kq.undrew.blk g0.out) hO.out hR.out
      rw [if_pos (by rfl)]
      refine OpY.val (v := (.slice ab nb cb)) ?_ ⟨Kept.refl _ _, rfl⟩
      first | rfl | go_simp
    refine Steps.cons (fun x wf Kk hq hdep hold => ?_) ?_
    · try dsimp only
      have h12 : x 12 = (.slice ab nb cb) := hdep 12 (by kernel_rfl)
      clear hq hdep hold
      simp only [h12]
      clear h12
      rw [if_pos (by rfl)]
      refine OpY.val (v := (.int .i64 (nb : Int))) ?_ ⟨Kept.refl _ _, rfl⟩
      first | rfl | go_simp
    refine Steps.cons (fun x wf Kk hq hdep hold => ?_) ?_
    · try dsimp only
      have h13 : x 13 = (.int .i64 (nb : Int)) := hdep 13 (by kernel_rfl)
      clear hq hdep hold
      simp only [h13]
      clear h13
      rw [if_pos (by rfl)]
      refine OpY.val (v := (.int .i64 (qb : Int))) ?_ ⟨Kept.refl _ _, rfl⟩
      first | rfl | go_simp
    refine Steps.cons (fun x wf Kk hq hdep hold => ?_) ?_
    · try dsimp only
      have h9 : x 9 = (.slice ab nb cb) := hdep 9 (by kernel_rfl)
      have h14 : x 14 = (.int .i64 (qb : Int)) := hdep 14 (by kernel_rfl)
      clear hq hdep hold
      simp only [h9, h14]
      clear h9 h14
      rw [if_pos (by rfl)]
      refine OpY.val (v := (.slice ab qb cb)) ?_ ⟨Kept.refl _ _, rfl⟩
      first | rfl | go_simp
    refine Steps.cons (fun x wf Kk hq hdep hold => ?_) ?_
    · try dsimp only
      clear hq hdep hold
      rw [if_pos (by rfl)]
      refine OpY.val (v := (.pointer (some ⟨w.heap.size, 101, none⟩))) ?_ ⟨Kept.refl _ _, rfl⟩
      first | rfl | go_simp
    refine Steps.cons (fun x wf Kk hq hdep hold => ?_) ?_
    · try dsimp only
      have h16 : x 16 = (.pointer (some ⟨w.heap.size, 101, none⟩)) := hdep 16 (by kernel_rfl)
      have h6 : x 6 = (.slice al ql cl) := hdep 6 (by kernel_rfl)
      have Kq := hq no (fun j hj => by cases (show j ∈ ([] : List Nat) from by (have e : ∀ l : List Nat, l = [] → j ∈ l → j ∈ ([] : List Nat) := fun l h h2 => h ▸ h2); exact e _ (by kernel_rfl) hj))
      clear hq hdep hold
      simp only [h16, h6]
      clear h16 h6
      rw [if_pos (by rfl)]
      have gz := Kq.undrew.blk g0.out
      have cz := prf_l gz hO.out hR.out hp.out
      have fz : wf.frozen? ⟨w.heap.size, 101, none⟩ = false := row_free gz 101
      refine OpY.skip (w' := wf.setCell ⟨w.heap.size, 101, none⟩ (.slice al ql cl)) ?_ ⟨(Kept.refl (fun j => j = w.heap.size) wf).setCell (a := ⟨w.heap.size, 101, none⟩) (.inl rfl) _, (by rw [setCell_row gz]; simp only [List.setIfInBounds_toArray, hset1.out] : (wf.setCell ⟨w.heap.size, 101, none⟩ (.slice al ql cl)).heap[w.heap.size]? = some (.cells (prfC O R m n e (.slice ab nb cb) (.slice al ql cl)).toArray 70 (0, 0)))⟩
      go_simp
    refine Steps.cons (fun x wf Kk hq hdep hold => ?_) ?_
    · try dsimp only
      clear hq hdep hold
      rw [if_pos (by rfl)]
      refine OpY.val (v := (.pointer (some ⟨w.heap.size, 66, none⟩))) ?_ ⟨Kept.refl _ _, rfl⟩
      first | rfl | go_simp
    refine Steps.cons (fun x wf Kk hq hdep hold => ?_) ?_
    · try dsimp only
      have h18 : x 18 = (.pointer (some ⟨w.heap.size, 66, none⟩)) := hdep 18 (by kernel_rfl)
      clear hq hdep hold
      simp only [h18]
      clear h18
      rw [if_pos (by rfl)]
      refine OpY.val (v := (.pointer (some ⟨w.heap.size, 68, none⟩))) ?_ ⟨Kept.refl _ _, rfl⟩
      first | rfl | go_simp
    refine Steps.cons (fun x wf Kk hq hdep hold => ?_) ?_
    · try dsimp only
      have h19 : x 19 = (.pointer (some ⟨w.heap.size, 68, none⟩)) := hdep 19 (by kernel_rfl)
      have h15 : x 15 = (.slice ab qb cb) := hdep 15 (by kernel_rfl)
      have p1st : Pr.p (Sl := (fun _ => (fun j => j = w.heap.size))) (Blk w.heap.size (prfC O R m n e (.slice ab nb cb) (.slice al ql cl)).toArray 70) (x 17) wf := hdep 17 (by kernel_rfl)
      clear hq hdep hold
      simp only [h19, h15]
      clear h19 h15
      rw [if_pos (by rfl)]
      have gz := p1st
      have cz := prf_b gz hO.out hR.out
      have fz : wf.frozen? ⟨w.heap.size, 68, none⟩ = false := row_free gz 68
      refine OpY.skip (w' := wf.setCell ⟨w.heap.size, 68, none⟩ (.slice ab qb cb)) ?_ ⟨(Kept.refl (fun j => j = w.heap.size) wf).setCell (a := ⟨w.heap.size, 68, none⟩) (.inl rfl) _, (by rw [setCell_row gz]; simp only [List.setIfInBounds_toArray, hset2.out] : (wf.setCell ⟨w.heap.size, 68, none⟩ (.slice ab qb cb)).heap[w.heap.size]? = some (.cells (prfC O R m n e' (.slice ab qb cb) (.slice al ql cl)).toArray 70 (0, 0)))⟩
      go_simp
    exact Steps.nil _
  · intro x wf Kk hv
    try dsimp only
    have h0 : x 0 = (.pointer (some ⟨w.heap.size, 101, none⟩)) := hv 0 (by kernel_rfl)
    have h1 : x 1 = (.slice al nl cl) := hv 1 (by kernel_rfl)
    have h2 : x 2 = (.pointer (some ⟨w.heap.size, 101, none⟩)) := hv 2 (by kernel_rfl)
    have h3 : x 3 = (.slice al nl cl) := hv 3 (by kernel_rfl)
    have h4 : x 4 = (.int .i64 (nl : Int)) := hv 4 (by kernel_rfl)
    have h5 : x 5 = (.int .i64 (ql : Int)) := hv 5 (by kernel_rfl)
    have h6 : x 6 = (.slice al ql cl) := hv 6 (by kernel_rfl)
    have h7 : x 7 = (.pointer (some ⟨w.heap.size, 66, none⟩)) := hv 7 (by kernel_rfl)
    have h8 : x 8 = (.pointer (some ⟨w.heap.size, 68, none⟩)) := hv 8 (by kernel_rfl)
    have h9 : x 9 = (.slice ab nb cb) := hv 9 (by kernel_rfl)
    have h10 : x 10 = (.pointer (some ⟨w.heap.size, 66, none⟩)) := hv 10 (by kernel_rfl)
    have h11 : x 11 = (.pointer (some ⟨w.heap.size, 68, none⟩)) := hv 11 (by kernel_rfl)
    have h12 : x 12 = (.slice ab nb cb) := hv 12 (by kernel_rfl)
    have h13 : x 13 = (.int .i64 (nb : Int)) := hv 13 (by kernel_rfl)
    have h14 : x 14 = (.int .i64 (qb : Int)) := hv 14 (by kernel_rfl)
    have h15 : x 15 = (.slice ab qb cb) := hv 15 (by kernel_rfl)
    have h16 : x 16 = (.pointer (some ⟨w.heap.size, 101, none⟩)) := hv 16 (by kernel_rfl)
    have h18 : x 18 = (.pointer (some ⟨w.heap.size, 66, none⟩)) := hv 18 (by kernel_rfl)
    have h19 : x 19 = (.pointer (some ⟨w.heap.size, 68, none⟩)) := hv 19 (by kernel_rfl)
    have p20 : Pr.p (Sl := (fun _ => (fun j => j = w.heap.size))) (Blk w.heap.size (prfC O R m n e' (.slice ab qb cb) (.slice al ql cl)).toArray 70) (x 20) wf := hv 20 (by kernel_rfl)
    clear hv
    simp only [h0, h1, h2, h3, h4, h5, h6, h7, h8, h9, h10, h11, h12, h13, h14, h15, h16, h18, h19]
    clear h0 h1 h2 h3 h4 h5 h6 h7 h8 h9 h10 h11 h12 h13 h14 h15 h16 h18 h19
    have K2 := hid (k1.out.trans Kk.undrew fun j hj h => by have h : j = w.heap.size := h; omega)
    have g2 := hid p20
    clear Kk p20 k1 g0
    obtain ⟨w2, rfl⟩ : ∃ w2 : World, w2 = wf := ⟨_, rfl⟩
    have g2 : Hd (w2.heap[w.heap.size]? = some (.cells (prfC O R m n e' (.slice ab qb cb) (.slice al ql cl)).toArray 70 (0, 0))) := g2
    have cn := prf_n g2.out hO.out hR.out
    have HAW := hid (fun W (k : Kept no w2 W) => awake23_any W (hT.out.kept (K2.out.trans' k)))
    by_cases hn40 : 40 < n
    · go_wp2_with fail
      refine (HAW.out w2 (Kept.refl _ _)).mono ?_
      rintro ed w3 ⟨rfl, k3⟩
      have K3 := hid (K2.out.trans' k3)
      clear k3
      go_wp2_with fail
      go_ret
      exact ⟨rfl, K3.out⟩
    have hn63 : n ≤ 63 := by omega
    have HI1 := hid (fun W (k : Kept no w2 W) => included_any R n m e' (.slice ab qb cb) (.slice al ql cl) ds' W hR.out hn63 (hE.out.kept (K2.out.trans' k)) hds.out (hd8.out.kept (K2.out.trans' k)) (hT.out.kept (K2.out.trans' k)))
    have HI2 := hid (fun W (k : Kept no w2 W) => refincluded_any R n m e' (.slice ab qb cb) (.slice al ql cl) ds' W hR.out hn63 (hE.out.kept (K2.out.trans' k)) hds.out (hd8.out.kept (K2.out.trans' k)) (hTR.out.kept (K2.out.trans' k)))
    have HX1 := hid (fun W (k : Kept no w2 W) => extended_any O R m n (.slice al ql cl) ds' W hO.out hR.out hn63 hds.out (hd8.out.kept (K2.out.trans' k)) (hT.out.kept (K2.out.trans' k)))
    have HX2 := hid (fun W (k : Kept no w2 W) => refextended_any O R m n (.slice al ql cl) ds' W hO.out hR.out hn63 hds.out (hd8.out.kept (K2.out.trans' k)) (hTR.out.kept (K2.out.trans' k)))
    generalize incI R n m e' ds' = bi at HI1 HI2
    generalize extI O R m n ds' = bx at HX1 HX2
    go_upto_region 4 with fail
    clear cn hset1 hset2
    refine region_flow (S := no) (Sl := (fun _ => no)) [Is (.bool true), Is (.bool true), Is (.pointer (some ⟨w.heap.size, 32, none⟩)), Is (Dg R), Is (.pointer (some ⟨w.heap.size, 65, none⟩)), Is (.int .i64 n), Is (.pointer (some ⟨w.heap.size, 64, none⟩)), Is (.int .i64 m), Is (.pointer (some ⟨w.heap.size, 66, none⟩)), Is (Ev e' (.slice ab qb cb)), Is (.pointer (some ⟨w.heap.size, 101, none⟩)), Is (.slice al ql cl), Is (.bool bi), Is (.pointer (some ⟨w.heap.size, 32, none⟩)), Is (Dg R), Is (.pointer (some ⟨w.heap.size, 65, none⟩)), Is (.int .i64 n), Is (.pointer (some ⟨w.heap.size, 64, none⟩)), Is (.int .i64 m), Is (.pointer (some ⟨w.heap.size, 66, none⟩)), Is (Ev e' (.slice ab qb cb)), Is (.pointer (some ⟨w.heap.size, 101, none⟩)), Is (.slice al ql cl), Is (.bool bi), Is (.bool true), Is (.bool true), Is (.bool true), Is (.pointer (some ⟨w.heap.size, 0, none⟩)), Is (Dg O), Is (.pointer (some ⟨w.heap.size, 32, none⟩)), Is (Dg R), Is (.pointer (some ⟨w.heap.size, 64, none⟩)), Is (.int .i64 m), Is (.pointer (some ⟨w.heap.size, 65, none⟩)), Is (.int .i64 n), Is (.pointer (some ⟨w.heap.size, 101, none⟩)), Is (.slice al ql cl), Is (.bool bx), Is (.pointer (some ⟨w.heap.size, 0, none⟩)), Is (Dg O), Is (.pointer (some ⟨w.heap.size, 32, none⟩)), Is (Dg R), Is (.pointer (some ⟨w.heap.size, 64, none⟩)), Is (.int .i64 m), Is (.pointer (some ⟨w.heap.size, 65, none⟩)), Is (.int .i64 n), Is (.pointer (some ⟨w.heap.size, 101, none⟩)), Is (.slice al ql cl), Is (.bool bx), Is (.bool true), Is (.bool true), Is (.bool true)] [] (fun _ _ h => h) _ (by kernel_rfl) (by kernel_rfl) (by kernel_rfl) (by kernel_rfl) (fun x => by simp only [puts, Act.put, List.map_cons, List.map_nil, Nat.zero_add, Nat.reduceAdd, List.setIfInBounds_toArray, List.set_cons_zero, List.set_cons_succ]; exact rfl) ?_ ?_
    · skip
      refine Steps.cons (fun x wf Kk hq hdep hold => ?_) ?_
      · try dsimp only
        clear hq hdep hold
        rw [if_pos (by rfl)]
        refine OpY.call (f := 30) (args := #[]) (by go_simp) ?_
        refine (HAW.out wf Kk.undrew).mono ?_
        rintro e w2 ⟨rfl, k2⟩
        exact ⟨_, rfl, k2, rfl⟩
      refine Steps.cons (fun x wf Kk hq hdep hold => ?_) ?_
      · try dsimp only
        have h0 : x 0 = (.bool true) := hdep 0 (by kernel_rfl)
        clear hq hdep hold
        simp only [h0]
        clear h0
        rw [if_pos (by rfl)]
        refine OpY.val (v := (.bool true)) ?_ ⟨Kept.refl _ _, rfl⟩
        first | rfl | go_simp
      refine Steps.cons (fun x wf Kk hq hdep hold => ?_) ?_
      · try dsimp only
        have h1 : x 1 = (.bool true) := hdep 1 (by kernel_rfl)
        clear hq hdep hold
        simp only [h1]
        clear h1
        rw [if_pos (by rfl)]
        refine OpY.val (v := (.pointer (some ⟨w.heap.size, 32, none⟩))) ?_ ⟨Kept.refl _ _, rfl⟩
        first | rfl | go_simp
      refine Steps.cons (fun x wf Kk hq hdep hold => ?_) ?_
      · try dsimp only
        have h2 : x 2 = (.pointer (some ⟨w.heap.size, 32, none⟩)) := hdep 2 (by kernel_rfl)
        have h1 : x 1 = (.bool true) := hdep 1 (by kernel_rfl)
        clear hq hdep hold
        simp only [h2, h1]
        clear h2 h1
        rw [if_pos (by rfl)]
        exact OpY.row 26 (.tmp 28) rfl w.heap.size 32 rfl (R.map B) _ (prf_R (Kk.undrew.blk g2.out) hO.out) Tryd.underlying26 rfl (infDl hR.out) ⟨Kept.refl _ _, rfl⟩
      refine Steps.cons (fun x wf Kk hq hdep hold => ?_) ?_
      · try dsimp only
        have h1 : x 1 = (.bool true) := hdep 1 (by kernel_rfl)
        clear hq hdep hold
        simp only [h1]
        clear h1
        rw [if_pos (by rfl)]
        refine OpY.val (v := (.pointer (some ⟨w.heap.size, 65, none⟩))) ?_ ⟨Kept.refl _ _, rfl⟩
        first | rfl | go_simp
      refine Steps.cons (fun x wf Kk hq hdep hold => ?_) ?_
      · try dsimp only
        have h4 : x 4 = (.pointer (some ⟨w.heap.size, 65, none⟩)) := hdep 4 (by kernel_rfl)
        have h1 : x 1 = (.bool true) := hdep 1 (by kernel_rfl)
        clear hq hdep hold
        simp only [h4, h1]
        clear h4 h1
        have cv := prf_n (Kk.undrew.blk g2.out) hO.out hR.out
        rw [if_pos (by rfl)]
        refine OpY.val (v := (.int .i64 n)) ?_ ⟨Kept.refl _ _, rfl⟩
        first | rfl | go_simp
      refine Steps.cons (fun x wf Kk hq hdep hold => ?_) ?_
      · try dsimp only
        have h1 : x 1 = (.bool true) := hdep 1 (by kernel_rfl)
        clear hq hdep hold
        simp only [h1]
        clear h1
        rw [if_pos (by rfl)]
        refine OpY.val (v := (.pointer (some ⟨w.heap.size, 64, none⟩))) ?_ ⟨Kept.refl _ _, rfl⟩
        first | rfl | go_simp
      refine Steps.cons (fun x wf Kk hq hdep hold => ?_) ?_
      · try dsimp only
        have h6 : x 6 = (.pointer (some ⟨w.heap.size, 64, none⟩)) := hdep 6 (by kernel_rfl)
        have h1 : x 1 = (.bool true) := hdep 1 (by kernel_rfl)
        clear hq hdep hold
        simp only [h6, h1]
        clear h6 h1
        have cv := prf_m (Kk.undrew.blk g2.out) hO.out hR.out
        rw [if_pos (by rfl)]
        refine OpY.val (v := (.int .i64 m)) ?_ ⟨Kept.refl _ _, rfl⟩
        first | rfl | go_simp
      refine Steps.cons (fun x wf Kk hq hdep hold => ?_) ?_
      · try dsimp only
        have h1 : x 1 = (.bool true) := hdep 1 (by kernel_rfl)
        clear hq hdep hold
        simp only [h1]
        clear h1
        rw [if_pos (by rfl)]
        refine OpY.val (v := (.pointer (some ⟨w.heap.size, 66, none⟩))) ?_ ⟨Kept.refl _ _, rfl⟩
        first | rfl | go_simp
      refine Steps.cons (fun x wf Kk hq hdep hold => ?_) ?_
      · try dsimp only
        have h8 : x 8 = (.pointer (some ⟨w.heap.size, 66, none⟩)) := hdep 8 (by kernel_rfl)
        have h1 : x 1 = (.bool true) := hdep 1 (by kernel_rfl)
        clear hq hdep hold
        simp only [h8, h1]
        clear h8 h1
        rw [if_pos (by rfl)]
        exact OpY.row 47 (.tmp 34) rfl w.heap.size 66 rfl (entC e' (.slice ab qb cb)) _ (prf_E (Kk.undrew.blk g2.out) hO.out hR.out) Tryd.underlying47 rfl (infEl hE.out) ⟨Kept.refl _ _, rfl⟩
      refine Steps.cons (fun x wf Kk hq hdep hold => ?_) ?_
      · try dsimp only
        have h1 : x 1 = (.bool true) := hdep 1 (by kernel_rfl)
        clear hq hdep hold
        simp only [h1]
        clear h1
        rw [if_pos (by rfl)]
        refine OpY.val (v := (.pointer (some ⟨w.heap.size, 101, none⟩))) ?_ ⟨Kept.refl _ _, rfl⟩
        first | rfl | go_simp
      refine Steps.cons (fun x wf Kk hq hdep hold => ?_) ?_
      · try dsimp only
        have h10 : x 10 = (.pointer (some ⟨w.heap.size, 101, none⟩)) := hdep 10 (by kernel_rfl)
        have h1 : x 1 = (.bool true) := hdep 1 (by kernel_rfl)
        clear hq hdep hold
        simp only [h10, h1]
        clear h10 h1
        have cv := prf_l (Kk.undrew.blk g2.out) hO.out hR.out hE.out.1
        rw [if_pos (by rfl)]
        refine OpY.val (v := (.slice al ql cl)) ?_ ⟨Kept.refl _ _, rfl⟩
        first | rfl | go_simp
      refine Steps.cons (fun x wf Kk hq hdep hold => ?_) ?_
      · try dsimp only
        have h3 : x 3 = (Dg R) := hdep 3 (by kernel_rfl)
        have h5 : x 5 = (.int .i64 n) := hdep 5 (by kernel_rfl)
        have h7 : x 7 = (.int .i64 m) := hdep 7 (by kernel_rfl)
        have h9 : x 9 = (Ev e' (.slice ab qb cb)) := hdep 9 (by kernel_rfl)
        have h11 : x 11 = (.slice al ql cl) := hdep 11 (by kernel_rfl)
        have h1 : x 1 = (.bool true) := hdep 1 (by kernel_rfl)
        clear hq hdep hold
        simp only [h3, h5, h7, h9, h11, h1]
        clear h3 h5 h7 h9 h11 h1
        rw [if_pos (by rfl)]
        refine OpY.call (f := 37) (args := #[(Dg R), (.int .i64 n), (.int .i64 m), (Ev e' (.slice ab qb cb)), (.slice al ql cl)]) (by go_simp) ?_
        refine (HI1.out wf Kk.undrew).mono ?_
        rintro e w2 ⟨rfl, k2⟩
        exact ⟨_, rfl, k2, rfl⟩
      refine Steps.cons (fun x wf Kk hq hdep hold => ?_) ?_
      · try dsimp only
        have h1 : x 1 = (.bool true) := hdep 1 (by kernel_rfl)
        clear hq hdep hold
        simp only [h1]
        clear h1
        rw [if_pos (by rfl)]
        refine OpY.val (v := (.pointer (some ⟨w.heap.size, 32, none⟩))) ?_ ⟨Kept.refl _ _, rfl⟩
        first | rfl | go_simp
      refine Steps.cons (fun x wf Kk hq hdep hold => ?_) ?_
      · try dsimp only
        have h13 : x 13 = (.pointer (some ⟨w.heap.size, 32, none⟩)) := hdep 13 (by kernel_rfl)
        have h1 : x 1 = (.bool true) := hdep 1 (by kernel_rfl)
        clear hq hdep hold
        simp only [h13, h1]
        clear h13 h1
        rw [if_pos (by rfl)]
        exact OpY.row 26 (.tmp 39) rfl w.heap.size 32 rfl (R.map B) _ (prf_R (Kk.undrew.blk g2.out) hO.out) Tryd.underlying26 rfl (infDl hR.out) ⟨Kept.refl _ _, rfl⟩
      refine Steps.cons (fun x wf Kk hq hdep hold => ?_) ?_
      · try dsimp only
        have h1 : x 1 = (.bool true) := hdep 1 (by kernel_rfl)
        clear hq hdep hold
        simp only [h1]
        clear h1
        rw [if_pos (by rfl)]
        refine OpY.val (v := (.pointer (some ⟨w.heap.size, 65, none⟩))) ?_ ⟨Kept.refl _ _, rfl⟩
        first | rfl | go_simp
      refine Steps.cons (fun x wf Kk hq hdep hold => ?_) ?_
      · try dsimp only
        have h15 : x 15 = (.pointer (some ⟨w.heap.size, 65, none⟩)) := hdep 15 (by kernel_rfl)
        have h1 : x 1 = (.bool true) := hdep 1 (by kernel_rfl)
        clear hq hdep hold
        simp only [h15, h1]
        clear h15 h1
        have cv := prf_n (Kk.undrew.blk g2.out) hO.out hR.out
        rw [if_pos (by rfl)]
        refine OpY.val (v := (.int .i64 n)) ?_ ⟨Kept.refl _ _, rfl⟩
        first | rfl | go_simp
      refine Steps.cons (fun x wf Kk hq hdep hold => ?_) ?_
      · try dsimp only
        have h1 : x 1 = (.bool true) := hdep 1 (by kernel_rfl)
        clear hq hdep hold
        simp only [h1]
        clear h1
        rw [if_pos (by rfl)]
        refine OpY.val (v := (.pointer (some ⟨w.heap.size, 64, none⟩))) ?_ ⟨Kept.refl _ _, rfl⟩
        first | rfl | go_simp
      refine Steps.cons (fun x wf Kk hq hdep hold => ?_) ?_
      · try dsimp only
        have h17 : x 17 = (.pointer (some ⟨w.heap.size, 64, none⟩)) := hdep 17 (by kernel_rfl)
        have h1 : x 1 = (.bool true) := hdep 1 (by kernel_rfl)
        clear hq hdep hold
        simp only [h17, h1]
        clear h17 h1
        have cv := prf_m (Kk.undrew.blk g2.out) hO.out hR.out
        rw [if_pos (by rfl)]
        refine OpY.val (v := (.int .i64 m)) ?_ ⟨Kept.refl _ _, rfl⟩
        first | rfl | go_simp
      refine Steps.cons (fun x wf Kk hq hdep hold => ?_) ?_
      · try dsimp only
        have h1 : x 1 = (.bool true) := hdep 1 (by kernel_rfl)
        clear hq hdep hold
        simp only [h1]
        clear h1
        rw [if_pos (by rfl)]
        refine OpY.val (v := (.pointer (some ⟨w.heap.size, 66, none⟩))) ?_ ⟨Kept.refl _ _, rfl⟩
        first | rfl | go_simp
      refine Steps.cons (fun x wf Kk hq hdep hold => ?_) ?_
      · try dsimp only
        have h19 : x 19 = (.pointer (some ⟨w.heap.size, 66, none⟩)) := hdep 19 (by kernel_rfl)
        have h1 : x 1 = (.bool true) := hdep 1 (by kernel_rfl)
        clear hq hdep hold
        simp only [h19, h1]
        clear h19 h1
        rw [if_pos (by rfl)]
        exact OpY.row 47 (.tmp 45) rfl w.heap.size 66 rfl (entC e' (.slice ab qb cb)) _ (prf_E (Kk.undrew.blk g2.out) hO.out hR.out) Tryd.underlying47 rfl (infEl hE.out) ⟨Kept.refl _ _, rfl⟩
      refine Steps.cons (fun x wf Kk hq hdep hold => ?_) ?_
      · try dsimp only
        have h1 : x 1 = (.bool true) := hdep 1 (by kernel_rfl)
        clear hq hdep hold
        simp only [h1]
        clear h1
        rw [if_pos (by rfl)]
        refine OpY.val (v := (.pointer (some ⟨w.heap.size, 101, none⟩))) ?_ ⟨Kept.refl _ _, rfl⟩
        first | rfl | go_simp
      refine Steps.cons (fun x wf Kk hq hdep hold => ?_) ?_
      · try dsimp only
        have h21 : x 21 = (.pointer (some ⟨w.heap.size, 101, none⟩)) := hdep 21 (by kernel_rfl)
        have h1 : x 1 = (.bool true) := hdep 1 (by kernel_rfl)
        clear hq hdep hold
        simp only [h21, h1]
        clear h21 h1
        have cv := prf_l (Kk.undrew.blk g2.out) hO.out hR.out hE.out.1
        rw [if_pos (by rfl)]
        refine OpY.val (v := (.slice al ql cl)) ?_ ⟨Kept.refl _ _, rfl⟩
        first | rfl | go_simp
      refine Steps.cons (fun x wf Kk hq hdep hold => ?_) ?_
      · try dsimp only
        have h14 : x 14 = (Dg R) := hdep 14 (by kernel_rfl)
        have h16 : x 16 = (.int .i64 n) := hdep 16 (by kernel_rfl)
        have h18 : x 18 = (.int .i64 m) := hdep 18 (by kernel_rfl)
        have h20 : x 20 = (Ev e' (.slice ab qb cb)) := hdep 20 (by kernel_rfl)
        have h22 : x 22 = (.slice al ql cl) := hdep 22 (by kernel_rfl)
        have h1 : x 1 = (.bool true) := hdep 1 (by kernel_rfl)
        clear hq hdep hold
        simp only [h14, h16, h18, h20, h22, h1]
        clear h14 h16 h18 h20 h22 h1
        rw [if_pos (by rfl)]
        refine OpY.call (f := 45) (args := #[(Dg R), (.int .i64 n), (.int .i64 m), (Ev e' (.slice ab qb cb)), (.slice al ql cl)]) (by go_simp) ?_
        refine (HI2.out wf Kk.undrew).mono ?_
        rintro e w2 ⟨rfl, k2⟩
        exact ⟨_, rfl, k2, rfl⟩
      refine Steps.cons (fun x wf Kk hq hdep hold => ?_) ?_
      · try dsimp only
        have h12 : x 12 = (.bool bi) := hdep 12 (by kernel_rfl)
        have h23 : x 23 = (.bool bi) := hdep 23 (by kernel_rfl)
        have h1 : x 1 = (.bool true) := hdep 1 (by kernel_rfl)
        clear hq hdep hold
        simp only [h12, h23, h1]
        clear h12 h23 h1
        rw [if_pos (by rfl)]
        refine OpY.val (v := (.bool true)) ?_ ⟨Kept.refl _ _, rfl⟩
        first | rfl | go_simp
      refine Steps.cons (fun x wf Kk hq hdep hold => ?_) ?_
      · try dsimp only
        have h1 : x 1 = (.bool true) := hdep 1 (by kernel_rfl)
        have h24 : x 24 = (.bool true) := hdep 24 (by kernel_rfl)
        clear hq hdep hold
        simp only [h1, h24]
        clear h1 h24
        rw [if_pos (by rfl)]
        refine OpY.val (v := (.bool true)) ?_ ⟨Kept.refl _ _, rfl⟩
        first | rfl | go_simp
      refine Steps.cons (fun x wf Kk hq hdep hold => ?_) ?_
      · try dsimp only
        have h25 : x 25 = (.bool true) := hdep 25 (by kernel_rfl)
        clear hq hdep hold
        simp only [h25]
        clear h25
        rw [if_pos (by rfl)]
        refine OpY.val (v := (.bool true)) ?_ ⟨Kept.refl _ _, rfl⟩
        first | rfl | go_simp
      refine Steps.cons (fun x wf Kk hq hdep hold => ?_) ?_
      · try dsimp only
        have h26 : x 26 = (.bool true) := hdep 26 (by kernel_rfl)
        clear hq hdep hold
        simp only [h26]
        clear h26
        rw [if_pos (by rfl)]
        refine OpY.val (v := (.pointer (some ⟨w.heap.size, 0, none⟩))) ?_ ⟨Kept.refl _ _, rfl⟩
        first | rfl | go_simp
      refine Steps.cons (fun x wf Kk hq hdep hold => ?_) ?_
      · try dsimp only
        have h27 : x 27 = (.pointer (some ⟨w.heap.size, 0, none⟩)) := hdep 27 (by kernel_rfl)
        have h26 : x 26 = (.bool true) := hdep 26 (by kernel_rfl)
        clear hq hdep hold
        simp only [h27, h26]
        clear h27 h26
        rw [if_pos (by rfl)]
        exact OpY.row 26 (.tmp 53) rfl w.heap.size 0 rfl (O.map B) _ (prf_O (Kk.undrew.blk g2.out)) Tryd.underlying26 rfl (infDl hO.out) ⟨Kept.refl _ _, rfl⟩
      refine Steps.cons (fun x wf Kk hq hdep hold => ?_) ?_
      · try dsimp only
        have h26 : x 26 = (.bool true) := hdep 26 (by kernel_rfl)
        clear hq hdep hold
        simp only [h26]
        clear h26
        rw [if_pos (by rfl)]
        refine OpY.val (v := (.pointer (some ⟨w.heap.size, 32, none⟩))) ?_ ⟨Kept.refl _ _, rfl⟩
        first | rfl | go_simp
      refine Steps.cons (fun x wf Kk hq hdep hold => ?_) ?_
      · try dsimp only
        have h29 : x 29 = (.pointer (some ⟨w.heap.size, 32, none⟩)) := hdep 29 (by kernel_rfl)
        have h26 : x 26 = (.bool true) := hdep 26 (by kernel_rfl)
        clear hq hdep hold
        simp only [h29, h26]
        clear h29 h26
        rw [if_pos (by rfl)]
        exact OpY.row 26 (.tmp 55) rfl w.heap.size 32 rfl (R.map B) _ (prf_R (Kk.undrew.blk g2.out) hO.out) Tryd.underlying26 rfl (infDl hR.out) ⟨Kept.refl _ _, rfl⟩
      refine Steps.cons (fun x wf Kk hq hdep hold => ?_) ?_
      · try dsimp only
        have h26 : x 26 = (.bool true) := hdep 26 (by kernel_rfl)
        clear hq hdep hold
        simp only [h26]
        clear h26
        rw [if_pos (by rfl)]
        refine OpY.val (v := (.pointer (some ⟨w.heap.size, 64, none⟩))) ?_ ⟨Kept.refl _ _, rfl⟩
        first | rfl | go_simp
      refine Steps.cons (fun x wf Kk hq hdep hold => ?_) ?_
      · try dsimp only
        have h31 : x 31 = (.pointer (some ⟨w.heap.size, 64, none⟩)) := hdep 31 (by kernel_rfl)
        have h26 : x 26 = (.bool true) := hdep 26 (by kernel_rfl)
        clear hq hdep hold
        simp only [h31, h26]
        clear h31 h26
        have cv := prf_m (Kk.undrew.blk g2.out) hO.out hR.out
        rw [if_pos (by rfl)]
        refine OpY.val (v := (.int .i64 m)) ?_ ⟨Kept.refl _ _, rfl⟩
        first | rfl | go_simp
      refine Steps.cons (fun x wf Kk hq hdep hold => ?_) ?_
      · try dsimp only
        have h26 : x 26 = (.bool true) := hdep 26 (by kernel_rfl)
        clear hq hdep hold
        simp only [h26]
        clear h26
        rw [if_pos (by rfl)]
        refine OpY.val (v := (.pointer (some ⟨w.heap.size, 65, none⟩))) ?_ ⟨Kept.refl _ _, rfl⟩
        first | rfl | go_simp
      refine Steps.cons (fun x wf Kk hq hdep hold => ?_) ?_
      · try dsimp only
        have h33 : x 33 = (.pointer (some ⟨w.heap.size, 65, none⟩)) := hdep 33 (by kernel_rfl)
        have h26 : x 26 = (.bool true) := hdep 26 (by kernel_rfl)
        clear hq hdep hold
        simp only [h33, h26]
        clear h33 h26
        have cv := prf_n (Kk.undrew.blk g2.out) hO.out hR.out
        rw [if_pos (by rfl)]
        refine OpY.val (v := (.int .i64 n)) ?_ ⟨Kept.refl _ _, rfl⟩
        first | rfl | go_simp
      refine Steps.cons (fun x wf Kk hq hdep hold => ?_) ?_
      · try dsimp only
        have h26 : x 26 = (.bool true) := hdep 26 (by kernel_rfl)
        clear hq hdep hold
        simp only [h26]
        clear h26
        rw [if_pos (by rfl)]
        refine OpY.val (v := (.pointer (some ⟨w.heap.size, 101, none⟩))) ?_ ⟨Kept.refl _ _, rfl⟩
        first | rfl | go_simp
      refine Steps.cons (fun x wf Kk hq hdep hold => ?_) ?_
      · try dsimp only
        have h35 : x 35 = (.pointer (some ⟨w.heap.size, 101, none⟩)) := hdep 35 (by kernel_rfl)
        have h26 : x 26 = (.bool true) := hdep 26 (by kernel_rfl)
        clear hq hdep hold
        simp only [h35, h26]
        clear h35 h26
        have cv := prf_l (Kk.undrew.blk g2.out) hO.out hR.out hE.out.1
        rw [if_pos (by rfl)]
        refine OpY.val (v := (.slice al ql cl)) ?_ ⟨Kept.refl _ _, rfl⟩
        first | rfl | go_simp
      refine Steps.cons (fun x wf Kk hq hdep hold => ?_) ?_
      · try dsimp only
        have h28 : x 28 = (Dg O) := hdep 28 (by kernel_rfl)
        have h30 : x 30 = (Dg R) := hdep 30 (by kernel_rfl)
        have h32 : x 32 = (.int .i64 m) := hdep 32 (by kernel_rfl)
        have h34 : x 34 = (.int .i64 n) := hdep 34 (by kernel_rfl)
        have h36 : x 36 = (.slice al ql cl) := hdep 36 (by kernel_rfl)
        have h26 : x 26 = (.bool true) := hdep 26 (by kernel_rfl)
        clear hq hdep hold
        simp only [h28, h30, h32, h34, h36, h26]
        clear h28 h30 h32 h34 h36 h26
        rw [if_pos (by rfl)]
        refine OpY.call (f := 46) (args := #[(Dg O), (Dg R), (.int .i64 m), (.int .i64 n), (.slice al ql cl)]) (by go_simp) ?_
        refine (HX1.out wf Kk.undrew).mono ?_
        rintro e w2 ⟨rfl, k2⟩
        exact ⟨_, rfl, k2, rfl⟩
      refine Steps.cons (fun x wf Kk hq hdep hold => ?_) ?_
      · try dsimp only
        have h26 : x 26 = (.bool true) := hdep 26 (by kernel_rfl)
        clear hq hdep hold
        simp only [h26]
        clear h26
        rw [if_pos (by rfl)]
        refine OpY.val (v := (.pointer (some ⟨w.heap.size, 0, none⟩))) ?_ ⟨Kept.refl _ _, rfl⟩
        first | rfl | go_simp
      refine Steps.cons (fun x wf Kk hq hdep hold => ?_) ?_
      · try dsimp only
        have h38 : x 38 = (.pointer (some ⟨w.heap.size, 0, none⟩)) := hdep 38 (by kernel_rfl)
        have h26 : x 26 = (.bool true) := hdep 26 (by kernel_rfl)
        clear hq hdep hold
        simp only [h38, h26]
        clear h38 h26
        rw [if_pos (by rfl)]
        exact OpY.row 26 (.tmp 64) rfl w.heap.size 0 rfl (O.map B) _ (prf_O (Kk.undrew.blk g2.out)) Tryd.underlying26 rfl (infDl hO.out) ⟨Kept.refl _ _, rfl⟩
      refine Steps.cons (fun x wf Kk hq hdep hold => ?_) ?_
      · try dsimp only
        have h26 : x 26 = (.bool true) := hdep 26 (by kernel_rfl)
        clear hq hdep hold
        simp only [h26]
        clear h26
        rw [if_pos (by rfl)]
        refine OpY.val (v := (.pointer (some ⟨w.heap.size, 32, none⟩))) ?_ ⟨Kept.refl _ _, rfl⟩
        first | rfl | go_simp
      refine Steps.cons (fun x wf Kk hq hdep hold => ?_) ?_
      · try dsimp only
        have h40 : x 40 = (.pointer (some ⟨w.heap.size, 32, none⟩)) := hdep 40 (by kernel_rfl)
        have h26 : x 26 = (.bool true) := hdep 26 (by kernel_rfl)
        clear hq hdep hold
        simp only [h40, h26]
        clear h40 h26
        rw [if_pos (by rfl)]
        exact OpY.row 26 (.tmp 66) rfl w.heap.size 32 rfl (R.map B) _ (prf_R (Kk.undrew.blk g2.out) hO.out) Tryd.underlying26 rfl (infDl hR.out) ⟨Kept.refl _ _, rfl⟩
      refine Steps.cons (fun x wf Kk hq hdep hold => ?_) ?_
      · try dsimp only
        have h26 : x 26 = (.bool true) := hdep 26 (by kernel_rfl)
        clear hq hdep hold
        simp only [h26]
        clear h26
        rw [if_pos (by rfl)]
        refine OpY.val (v := (.pointer (some ⟨w.heap.size, 64, none⟩))) ?_ ⟨Kept.refl _ _, rfl⟩
        first | rfl | go_simp
      refine Steps.cons (fun x wf Kk hq hdep hold => ?_) ?_
      · try dsimp only
        have h42 : x 42 = (.pointer (some ⟨w.heap.size, 64, none⟩)) := hdep 42 (by kernel_rfl)
        have h26 : x 26 = (.bool true) := hdep 26 (by kernel_rfl)
        clear hq hdep hold
        simp only [h42, h26]
        clear h42 h26
        have cv := prf_m (Kk.undrew.blk g2.out) hO.out hR.out
        rw [if_pos (by rfl)]
        refine OpY.val (v := (.int .i64 m)) ?_ ⟨Kept.refl _ _, rfl⟩
        first | rfl | go_simp
      refine Steps.cons (fun x wf Kk hq hdep hold => ?_) ?_
      · try dsimp only
        have h26 : x 26 = (.bool true) := hdep 26 (by kernel_rfl)
        clear hq hdep hold
        simp only [h26]
        clear h26
        rw [if_pos (by rfl)]
        refine OpY.val (v := (.pointer (some ⟨w.heap.size, 65, none⟩))) ?_ ⟨Kept.refl _ _, rfl⟩
        first | rfl | go_simp
      refine Steps.cons (fun x wf Kk hq hdep hold => ?_) ?_
      · try dsimp only
        have h44 : x 44 = (.pointer (some ⟨w.heap.size, 65, none⟩)) := hdep 44 (by kernel_rfl)
        have h26 : x 26 = (.bool true) := hdep 26 (by kernel_rfl)
        clear hq hdep hold
        simp only [h44, h26]
        clear h44 h26
        have cv := prf_n (Kk.undrew.blk g2.out) hO.out hR.out
        rw [if_pos (by rfl)]
        refine OpY.val (v := (.int .i64 n)) ?_ ⟨Kept.refl _ _, rfl⟩
        first | rfl | go_simp
      refine Steps.cons (fun x wf Kk hq hdep hold => ?_) ?_
      · try dsimp only
        have h26 : x 26 = (.bool true) := hdep 26 (by kernel_rfl)
        clear hq hdep hold
        simp only [h26]
        clear h26
        rw [if_pos (by rfl)]
        refine OpY.val (v := (.pointer (some ⟨w.heap.size, 101, none⟩))) ?_ ⟨Kept.refl _ _, rfl⟩
        first | rfl | go_simp
      refine Steps.cons (fun x wf Kk hq hdep hold => ?_) ?_
      · try dsimp only
        have h46 : x 46 = (.pointer (some ⟨w.heap.size, 101, none⟩)) := hdep 46 (by kernel_rfl)
        have h26 : x 26 = (.bool true) := hdep 26 (by kernel_rfl)
        clear hq hdep hold
        simp only [h46, h26]
        clear h46 h26
        have cv := prf_l (Kk.undrew.blk g2.out) hO.out hR.out hE.out.1
        rw [if_pos (by rfl)]
        refine OpY.val (v := (.slice al ql cl)) ?_ ⟨Kept.refl _ _, rfl⟩
        first | rfl | go_simp
      refine Steps.cons (fun x wf Kk hq hdep hold => ?_) ?_
      · try dsimp only
        have h39 : x 39 = (Dg O) := hdep 39 (by kernel_rfl)
        have h41 : x 41 = (Dg R) := hdep 41 (by kernel_rfl)
        have h43 : x 43 = (.int .i64 m) := hdep 43 (by kernel_rfl)
        have h45 : x 45 = (.int .i64 n) := hdep 45 (by kernel_rfl)
        have h47 : x 47 = (.slice al ql cl) := hdep 47 (by kernel_rfl)
        have h26 : x 26 = (.bool true) := hdep 26 (by kernel_rfl)
        clear hq hdep hold
        simp only [h39, h41, h43, h45, h47, h26]
        clear h39 h41 h43 h45 h47 h26
        rw [if_pos (by rfl)]
        refine OpY.call (f := 47) (args := #[(Dg O), (Dg R), (.int .i64 m), (.int .i64 n), (.slice al ql cl)]) (by go_simp) ?_
        refine (HX2.out wf Kk.undrew).mono ?_
        rintro e w2 ⟨rfl, k2⟩
        exact ⟨_, rfl, k2, rfl⟩
      refine Steps.cons (fun x wf Kk hq hdep hold => ?_) ?_
      · try dsimp only
        have h37 : x 37 = (.bool bx) := hdep 37 (by kernel_rfl)
        have h48 : x 48 = (.bool bx) := hdep 48 (by kernel_rfl)
        have h26 : x 26 = (.bool true) := hdep 26 (by kernel_rfl)
        clear hq hdep hold
        simp only [h37, h48, h26]
        clear h37 h48 h26
        rw [if_pos (by rfl)]
        refine OpY.val (v := (.bool true)) ?_ ⟨Kept.refl _ _, rfl⟩
        first | rfl | go_simp
      refine Steps.cons (fun x wf Kk hq hdep hold => ?_) ?_
      · try dsimp only
        have h26 : x 26 = (.bool true) := hdep 26 (by kernel_rfl)
        have h49 : x 49 = (.bool true) := hdep 49 (by kernel_rfl)
        clear hq hdep hold
        simp only [h26, h49]
        clear h26 h49
        rw [if_pos (by rfl)]
        refine OpY.val (v := (.bool true)) ?_ ⟨Kept.refl _ _, rfl⟩
        first | rfl | go_simp
      refine Steps.cons (fun x wf Kk hq hdep hold => ?_) ?_
      · try dsimp only
        have h50 : x 50 = (.bool true) := hdep 50 (by kernel_rfl)
        clear hq hdep hold
        simp only [h50]
        clear h50
        rw [if_pos (by rfl)]
        refine OpY.val (v := (.bool true)) ?_ ⟨Kept.refl _ _, rfl⟩
        first | rfl | go_simp
      exact Steps.nil _
    · intro x wf Kk hv
      try dsimp only
      have h0 : x 0 = (.bool true) := hv 0 (by kernel_rfl)
      have h1 : x 1 = (.bool true) := hv 1 (by kernel_rfl)
      have h2 : x 2 = (.pointer (some ⟨w.heap.size, 32, none⟩)) := hv 2 (by kernel_rfl)
      have h3 : x 3 = (Dg R) := hv 3 (by kernel_rfl)
      have h4 : x 4 = (.pointer (some ⟨w.heap.size, 65, none⟩)) := hv 4 (by kernel_rfl)
      have h5 : x 5 = (.int .i64 n) := hv 5 (by kernel_rfl)
      have h6 : x 6 = (.pointer (some ⟨w.heap.size, 64, none⟩)) := hv 6 (by kernel_rfl)
      have h7 : x 7 = (.int .i64 m) := hv 7 (by kernel_rfl)
      have h8 : x 8 = (.pointer (some ⟨w.heap.size, 66, none⟩)) := hv 8 (by kernel_rfl)
      have h9 : x 9 = (Ev e' (.slice ab qb cb)) := hv 9 (by kernel_rfl)
      have h10 : x 10 = (.pointer (some ⟨w.heap.size, 101, none⟩)) := hv 10 (by kernel_rfl)
      have h11 : x 11 = (.slice al ql cl) := hv 11 (by kernel_rfl)
      have h12 : x 12 = (.bool bi) := hv 12 (by kernel_rfl)
      have h13 : x 13 = (.pointer (some ⟨w.heap.size, 32, none⟩)) := hv 13 (by kernel_rfl)
      have h14 : x 14 = (Dg R) := hv 14 (by kernel_rfl)
      have h15 : x 15 = (.pointer (some ⟨w.heap.size, 65, none⟩)) := hv 15 (by kernel_rfl)
      have h16 : x 16 = (.int .i64 n) := hv 16 (by kernel_rfl)
      have h17 : x 17 = (.pointer (some ⟨w.heap.size, 64, none⟩)) := hv 17 (by kernel_rfl)
      have h18 : x 18 = (.int .i64 m) := hv 18 (by kernel_rfl)
      have h19 : x 19 = (.pointer (some ⟨w.heap.size, 66, none⟩)) := hv 19 (by kernel_rfl)
      have h20 : x 20 = (Ev e' (.slice ab qb cb)) := hv 20 (by kernel_rfl)
      have h21 : x 21 = (.pointer (some ⟨w.heap.size, 101, none⟩)) := hv 21 (by kernel_rfl)
      have h22 : x 22 = (.slice al ql cl) := hv 22 (by kernel_rfl)
      have h23 : x 23 = (.bool bi) := hv 23 (by kernel_rfl)
      have h24 : x 24 = (.bool true) := hv 24 (by kernel_rfl)
      have h25 : x 25 = (.bool true) := hv 25 (by kernel_rfl)
      have h26 : x 26 = (.bool true) := hv 26 (by kernel_rfl)
      have h27 : x 27 = (.pointer (some ⟨w.heap.size, 0, none⟩)) := hv 27 (by kernel_rfl)
      have h28 : x 28 = (Dg O) := hv 28 (by kernel_rfl)
      have h29 : x 29 = (.pointer (some ⟨w.heap.size, 32, none⟩)) := hv 29 (by kernel_rfl)
      have h30 : x 30 = (Dg R) := hv 30 (by kernel_rfl)
      have h31 : x 31 = (.pointer (some ⟨w.heap.size, 64, none⟩)) := hv 31 (by kernel_rfl)
      have h32 : x 32 = (.int .i64 m) := hv 32 (by kernel_rfl)
      have h33 : x 33 = (.pointer (some ⟨w.heap.size, 65, none⟩)) := hv 33 (by kernel_rfl)
      have h34 : x 34 = (.int .i64 n) := hv 34 (by kernel_rfl)
      have h35 : x 35 = (.pointer (some ⟨w.heap.size, 101, none⟩)) := hv 35 (by kernel_rfl)
      have h36 : x 36 = (.slice al ql cl) := hv 36 (by kernel_rfl)
      have h37 : x 37 = (.bool bx) := hv 37 (by kernel_rfl)
      have h38 : x 38 = (.pointer (some ⟨w.heap.size, 0, none⟩)) := hv 38 (by kernel_rfl)
      have h39 : x 39 = (Dg O) := hv 39 (by kernel_rfl)
      have h40 : x 40 = (.pointer (some ⟨w.heap.size, 32, none⟩)) := hv 40 (by kernel_rfl)
      have h41 : x 41 = (Dg R) := hv 41 (by kernel_rfl)
      have h42 : x 42 = (.pointer (some ⟨w.heap.size, 64, none⟩)) := hv 42 (by kernel_rfl)
      have h43 : x 43 = (.int .i64 m) := hv 43 (by kernel_rfl)
      have h44 : x 44 = (.pointer (some ⟨w.heap.size, 65, none⟩)) := hv 44 (by kernel_rfl)
      have h45 : x 45 = (.int .i64 n) := hv 45 (by kernel_rfl)
      have h46 : x 46 = (.pointer (some ⟨w.heap.size, 101, none⟩)) := hv 46 (by kernel_rfl)
      have h47 : x 47 = (.slice al ql cl) := hv 47 (by kernel_rfl)
      have h48 : x 48 = (.bool bx) := hv 48 (by kernel_rfl)
      have h49 : x 49 = (.bool true) := hv 49 (by kernel_rfl)
      have h50 : x 50 = (.bool true) := hv 50 (by kernel_rfl)
      have h51 : x 51 = (.bool true) := hv 51 (by kernel_rfl)
      clear hv
      simp only [h0, h1, h2, h3, h4, h5, h6, h7, h8, h9, h10, h11, h12, h13, h14, h15, h16, h17, h18, h19, h20, h21, h22, h23, h24, h25, h26, h27, h28, h29, h30, h31, h32, h33, h34, h35, h36, h37, h38, h39, h40, h41, h42, h43, h44, h45, h46, h47, h48, h49, h50, h51]
      clear h0 h1 h2 h3 h4 h5 h6 h7 h8 h9 h10 h11 h12 h13 h14 h15 h16 h17 h18 h19 h20 h21 h22 h23 h24 h25 h26 h27 h28 h29 h30 h31 h32 h33 h34 h35 h36 h37 h38 h39 h40 h41 h42 h43 h44 h45 h46 h47 h48 h49 h50 h51
      have kz := hid (K2.out.trans' Kk.undrew)
      clear Kk
      go_wp2_with fail
      go_ret
      exact ⟨rfl, kz.out⟩
end Go.Proofs.YtknbkhmpnanegaaDoor
