/- electionlaw23.BoardHash (printed by gen_bh.py). -/
import Derived.Test.YtknbkhmpnanegaaDoorBA
namespace Go.Proofs.YtknbkhmpnanegaaDoor
open Go.RowKit Go.Mk Go.Sha Go.Brd
theorem Rd.cut {w : World} {ao : Option Addr} {n cap : Nat} {xs : List UInt8} (h : Rd w 1 (.slice ao n cap) xs.length (xs.map B)) (k : Nat) : Rd w 1 (.slice ao (min n k) cap) (xs.take k).length ((xs.take k).map B) := by
  obtain ⟨_, _, _, e, h1, h2, h3⟩ := h
  cases e
  refine ⟨by simp, ao, cap, by simp [Nat.min_comm], by simp; omega, h2, h3.imp id fun ⟨b, o, e, hc⟩ => ⟨b, o, e, fun j u hj => hc j u ?_⟩⟩
  rw [List.map_take, List.getElem?_take] at hj
  split at hj
  · exact hj
  · cases hj
theorem ent1_block (w : World) (L : List Value) : ∃ w1, w1 = w.alloc (.cells L.toArray 47) ∧ w1.heap[w.heap.size]? = some (.cells L.toArray 47 (0, 0)) ∧ Kept no w w1 := ⟨_, rfl, heap_alloc_new _ _, (Kept.refl no w).alloc _⟩
set_option maxRecDepth 100000 in
set_option maxHeartbeats 2000000 in
theorem boardhash_any (e : Ent) (vb : Value) (w : World) (hp : e.prev.length = 32) (hl : e.body.length ≤ 9223372036854775807) (hr : Rd w 1 vb e.body.length (e.body.map B)) (hT : Tab w) (hR : TabR w) :
    Calls Tryd.prog 6 #[Ev e vb] w fun ed w' => ed = .returned (.bool true) ∧ Kept no w w' := by
  obtain ⟨ao, cap, rfl⟩ := Rd.shapeZ hr
  have hr60 := Rd.cut hr 60
  have hcap : e.body.length ≤ cap := by obtain ⟨_, _, _, e, h1, _⟩ := hr; cases e; exact h1
  obtain ⟨n, hn⟩ : ∃ n, e.body.length = n := ⟨_, rfl⟩
  rw [hn] at hr60 hl hcap
  have hq : (if 60 < (n : Int) then (60 : Int) else (n : Int)) = ((min n 60 : Nat) : Int) := by split <;> omega
  have hqm : min (n : Int) 60 = ((min n 60 : Nat) : Int) := by omega
  have hqc : ((min n 60 : Nat) : Int) ≤ (cap : Int) := by omega
  have hq0 : (0 : Int) ≤ ((min n 60 : Nat) : Int) := by omega
  obtain ⟨e', he'⟩ : ∃ e' : Ent, (⟨e.number, e.kind, e.body.take 60, e.prev⟩ : Ent) = e' := ⟨_, rfl⟩
  have hE : Hd (OkE w e' (.slice ao (min n 60) cap)) := ⟨by rw [← he']; exact ⟨hp, by simp; omega, hr60⟩⟩
  have hcells : Hd ((entC e (.slice ao n cap)).toArray.setIfInBounds 2 (.slice ao (min n 60) cap) = (entC e' (.slice ao (min n 60) cap)).toArray) := ⟨by rw [← he']; rfl⟩
  have hl2 : Hd ((entC e (.slice ao n cap))[2]? = some (.slice ao n cap)) := ⟨rfl⟩
  obtain ⟨L, hL⟩ : ∃ L, entC e (.slice ao n cap) = L := ⟨_, rfl⟩
  rw [hn]
  have hDg : Ev e (.slice ao n cap) = .agg L.toArray := by rw [← hL]; rfl
  rw [hDg]
  clear hDg
  rw [hL] at hcells hl2
  generalize min n 60 = q at hr60 hq hqm hqc hq0 hE hcells
  clear hr hr60 hn he' hp hL
  replace hT := hid hT
  replace hR := hid hR
  go_enter Tryd.func6, Tryd.ntmps6
  go_upto_region 1 with fail
  obtain ⟨w1, hw1, g0, k1⟩ := ent1_block w L
  rw [← hw1]
  clear hw1
  have c2 : w1.cell? ⟨w.heap.size, 2, none⟩ = some (.slice ao n cap) := by rw [cell_of_row w1 _ 2 _ _ _ g0]; simpa using hl2.out
  have f2 : w1.frozen? ⟨w.heap.size, 2, none⟩ = false := row_free g0 2
  have g1 : Hd ((w1.setCell ⟨w.heap.size, 2, none⟩ (.slice ao q cap)).heap[w.heap.size]? = some (.cells (entC e' (.slice ao q cap)).toArray 47 (0, 0))) := ⟨by rw [setCell_row g0, hcells.out]⟩
  have K1 := hid (k1.setCell (a := ⟨w.heap.size, 2, none⟩) (.inr (Nat.le_refl _)) (.slice ao q cap))
  clear g0 k1 hcells hl2
  go_upto_region 2 with fail
  generalize w1.setCell ⟨w.heap.size, 2, none⟩ (.slice ao q cap) = w2 at g1 K1 ⊢
  clear c2 f2
  have HAW := hid (fun W (k : Kept no w2 W) => awake23_any W (hT.out.kept (K1.out.trans' k)))
  have HH := hid (fun W (k : Kept no w2 W) => hash_any e' (.slice ao q cap) W (hE.out.kept (K1.out.trans' k)) (hT.out.kept (K1.out.trans' k)))
  have HR := hid (fun W (k : Kept no w2 W) => refhash_any e' (.slice ao q cap) W (hE.out.kept (K1.out.trans' k)) (hR.out.kept (K1.out.trans' k)))
  have hh32 := hid (hashE_length e')
  generalize hashE e' = HA at HH HR hh32
  have heq := eqlDg HA HA hh32.out hh32.out true (by simp)
  have hgd := guard_digest
  refine region_flow (S := no) (Sl := (fun _ => no)) [Is (.bool true), Is (.bool true), Is (Ev e' (.slice ao q cap)), Is (Dg HA), Is (Ev e' (.slice ao q cap)), Is (Dg HA), Is (.bool true), Is (.bool true), Is (.bool true)] [] (fun _ _ h => h) _ (by kernel_rfl) (by kernel_rfl) (by kernel_rfl) (by kernel_rfl) (fun x => by simp only [puts, Act.put, List.map_cons, List.map_nil, Nat.zero_add, Nat.reduceAdd, List.setIfInBounds_toArray, List.set_cons_zero, List.set_cons_succ]; exact rfl) ?_ ?_
  · skip
    refine Steps.cons (fun x wf Kk hq hdep hold => ?_) ?_
    · try dsimp only
      clear hq hdep hold
      rw [if_pos (by rfl)]
      refine OpY.call (f := 30) (args := #[]) (by go_simp) ?_
      refine (HAW.out wf Kk.undrew).mono ?_
      rintro e w2 ⟨rfl, k2⟩
      exact ⟨_, rfl, k2, rfl⟩
    refine Steps.cons (fun x wf Kk hq hdep hold => ?_) ?_
    · try dsimp only
      have h0 : x 0 = (.bool true) := hdep 0 (by kernel_rfl)
      clear hq hdep hold
      simp only [h0]
      clear h0
      rw [if_pos (by rfl)]
      refine OpY.val (v := (.bool true)) ?_ ⟨Kept.refl _ _, rfl⟩
      first | rfl | go_simp
    refine Steps.cons (fun x wf Kk hq hdep hold => ?_) ?_
    · try dsimp only
      have h1 : x 1 = (.bool true) := hdep 1 (by kernel_rfl)
      clear hq hdep hold
      simp only [h1]
      clear h1
      rw [if_pos (by rfl)]
      exact OpY.row 47 (.tmp 1) rfl w.heap.size 0 rfl (entC e' (.slice ao q cap)) _ (range_row (Kk.undrew.blk g1.out)) Tryd.underlying47 rfl (infEl hE.out) ⟨Kept.refl _ _, rfl⟩
    refine Steps.cons (fun x wf Kk hq hdep hold => ?_) ?_
    · try dsimp only
      have h2 : x 2 = (Ev e' (.slice ao q cap)) := hdep 2 (by kernel_rfl)
      have h1 : x 1 = (.bool true) := hdep 1 (by kernel_rfl)
      clear hq hdep hold
      simp only [h2, h1]
      clear h2 h1
      rw [if_pos (by rfl)]
      refine OpY.call (f := 33) (args := #[(Ev e' (.slice ao q cap))]) (by go_simp) ?_
      refine (HH.out wf Kk.undrew).mono ?_
      rintro e w2 ⟨rfl, k2⟩
      exact ⟨_, rfl, k2, rfl⟩
    refine Steps.cons (fun x wf Kk hq hdep hold => ?_) ?_
    · try dsimp only
      have h1 : x 1 = (.bool true) := hdep 1 (by kernel_rfl)
      clear hq hdep hold
      simp only [h1]
      clear h1
      rw [if_pos (by rfl)]
      exact OpY.row 47 (.tmp 1) rfl w.heap.size 0 rfl (entC e' (.slice ao q cap)) _ (range_row (Kk.undrew.blk g1.out)) Tryd.underlying47 rfl (infEl hE.out) ⟨Kept.refl _ _, rfl⟩
    refine Steps.cons (fun x wf Kk hq hdep hold => ?_) ?_
    · try dsimp only
      have h4 : x 4 = (Ev e' (.slice ao q cap)) := hdep 4 (by kernel_rfl)
      have h1 : x 1 = (.bool true) := hdep 1 (by kernel_rfl)
      clear hq hdep hold
      simp only [h4, h1]
      clear h4 h1
      rw [if_pos (by rfl)]
      refine OpY.call (f := 29) (args := #[(Ev e' (.slice ao q cap))]) (by go_simp) ?_
      refine (HR.out wf Kk.undrew).mono ?_
      rintro e w2 ⟨rfl, k2⟩
      exact ⟨_, rfl, k2, rfl⟩
    refine Steps.cons (fun x wf Kk hq hdep hold => ?_) ?_
    · try dsimp only
      have h3 : x 3 = (Dg HA) := hdep 3 (by kernel_rfl)
      have h5 : x 5 = (Dg HA) := hdep 5 (by kernel_rfl)
      have h1 : x 1 = (.bool true) := hdep 1 (by kernel_rfl)
      clear hq hdep hold
      simp only [h3, h5, h1]
      clear h3 h5 h1
      rw [if_pos (by rfl)]
      refine OpY.val (v := (.bool true)) ?_ ⟨Kept.refl _ _, rfl⟩
      have heq' := heq
      unfold Dg at heq' ⊢
      generalize HA.map B = LL at heq' ⊢
      clear heq
      go_simp
    refine Steps.cons (fun x wf Kk hq hdep hold => ?_) ?_
    · try dsimp only
      have h1 : x 1 = (.bool true) := hdep 1 (by kernel_rfl)
      have h6 : x 6 = (.bool true) := hdep 6 (by kernel_rfl)
      clear hq hdep hold
      simp only [h1, h6]
      clear h1 h6
      rw [if_pos (by rfl)]
      refine OpY.val (v := (.bool true)) ?_ ⟨Kept.refl _ _, rfl⟩
      first | rfl | go_simp
    refine Steps.cons (fun x wf Kk hq hdep hold => ?_) ?_
    · try dsimp only
      have h7 : x 7 = (.bool true) := hdep 7 (by kernel_rfl)
      clear hq hdep hold
      simp only [h7]
      clear h7
      rw [if_pos (by rfl)]
      refine OpY.val (v := (.bool true)) ?_ ⟨Kept.refl _ _, rfl⟩
      first | rfl | go_simp
    exact Steps.nil _
  · intro x wf Kk hv
    try dsimp only
    have h0 : x 0 = (.bool true) := hv 0 (by kernel_rfl)
    have h1 : x 1 = (.bool true) := hv 1 (by kernel_rfl)
    have h2 : x 2 = (Ev e' (.slice ao q cap)) := hv 2 (by kernel_rfl)
    have h3 : x 3 = (Dg HA) := hv 3 (by kernel_rfl)
    have h4 : x 4 = (Ev e' (.slice ao q cap)) := hv 4 (by kernel_rfl)
    have h5 : x 5 = (Dg HA) := hv 5 (by kernel_rfl)
    have h6 : x 6 = (.bool true) := hv 6 (by kernel_rfl)
    have h7 : x 7 = (.bool true) := hv 7 (by kernel_rfl)
    have h8 : x 8 = (.bool true) := hv 8 (by kernel_rfl)
    clear hv
    simp only [h0, h1, h2, h3, h4, h5, h6, h7, h8]
    clear h0 h1 h2 h3 h4 h5 h6 h7 h8
    have kz := hid (K1.out.trans' Kk.undrew)
    clear Kk
    go_wp2_with fail
    go_ret
    exact ⟨rfl, kz.out⟩
end Go.Proofs.YtknbkhmpnanegaaDoor
