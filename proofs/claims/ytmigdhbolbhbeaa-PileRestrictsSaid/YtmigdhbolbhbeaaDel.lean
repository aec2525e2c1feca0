/- slices.DeleteFunc at the closure of Restrict: the shelf's contract at lists of natural numbers. -/
import Derived.Test.YtmigdhbolbhbeaaCnt3
import Derived.Test.YtmigdhbolbhbeaaMerge
import Derived.Shelf.SlicesE.DeleteFunc
namespace Go.Proofs.Ytmigdhbolbhbeaa
open Go.RowKit Go.Mk Go.Pil Go.Shelf Go.Sort Go.Lib
def delRen : Go.Shelf.Ren := ⟨fun | 6 => 54 | 10 => 70 | n => n, fun | 0 => 0 | 3 => 3 | 4 => 4 | 22 => 36 | 23 => 3 | 25 => 72 | n => n, fun n => n⟩
theorem delLays : Go.Proofs.SlLaysH.n10 Try.prog delRen := { mixed := by kernel_rfl, f6 := ⟨Try.f54.name, by decide, by kernel_rfl⟩, f10 := ⟨Try.f70.name, by decide, by kernel_rfl⟩, t0 := by kernel_rfl, a0 := fun _ => by kernel_rfl, z0 := fun _ => by kernel_rfl, v0 := fun _ => by kernel_rfl, t3 := by kernel_rfl, a3 := fun _ => by kernel_rfl, z3 := fun _ => by kernel_rfl, v3 := fun _ => by kernel_rfl, t4 := by kernel_rfl, a4 := fun _ => by kernel_rfl, z4 := fun _ => by kernel_rfl, v4 := fun _ => by kernel_rfl, t22 := by kernel_rfl, a22 := fun _ => by kernel_rfl, z22 := fun _ => by kernel_rfl, v22 := fun _ => by kernel_rfl, a23 := fun _ => by kernel_rfl, z23 := fun _ => by kernel_rfl, t25 := by kernel_rfl, a25 := fun _ => by kernel_rfl, z25 := fun _ => by kernel_rfl, v25 := fun _ => by kernel_rfl }
set_option maxHeartbeats 1000000 in
theorem restrict1_any (v : Value) (bs : List Bool) (c B : Nat) (w : World) (hr : RdT w v bs) (hB : w.cell? ⟨B, 0, none⟩ = some v) : Calls Try.prog 71 #[.int .i64 (c : Int), .pointer (some ⟨B, 0, none⟩)] w fun e w' => e = .returned (.bool (!inB bs (c : Int))) ∧ ∃ q, w' = w.drewN q := by
  have HR := hid (remains_any v bs c w hr)
  obtain ⟨r, hrr⟩ : ∃ r, inB bs (c : Int) = r := ⟨_, rfl⟩
  rw [hrr] at HR ⊢
  clear hr hrr
  cases r with
  | true =>
    go_enter Try.func71, Try.ntmps71
    go_wp2_with fail
    refine HR.out.mono ?_
    rintro e w1 ⟨rfl, rfl⟩
    go_wp2
    go_ret
    exact ⟨rfl, 0, rfl⟩
  | false =>
    go_enter Try.func71, Try.ntmps71
    go_wp2_with fail
    refine HR.out.mono ?_
    rintro e w1 ⟨rfl, rfl⟩
    go_wp2
    go_ret
    exact ⟨rfl, 0, rfl⟩
set_option maxHeartbeats 1000000 in
theorem indexnil_any (fv : Value) (w : World) : Calls Try.prog 54 #[.slice none 0 0, fv] w fun e w' => e = .returned (.int .i64 (-1)) ∧ w' = w := by
  go_enter Try.func54, Try.ntmps54
  go_wp2
  go_loopw [8] (fun i wr => i = .int .i64 0 ∧ Hd (wr = w)) (fun _ _ => 0)
  case atStart => exact ⟨rfl, ⟨rfl⟩⟩
  case round =>
    obtain ⟨rfl, hW⟩ := hrel
    obtain rfl := hW.out
    go_wp2
    go_ret
    exact ⟨rfl, rfl⟩
set_option maxHeartbeats 1000000 in
theorem delnil_any (fv : Value) (w : World) : Calls Try.prog 70 #[.slice none 0 0, fv] w fun e w' => e = .returned (.slice none 0 0) ∧ w' = w := by
  have HI := hid (indexnil_any fv w)
  go_enter Try.func70, Try.ntmps70
  go_wp2_with fail
  refine HI.out.mono ?_
  rintro e w1 ⟨rfl, rfl⟩
  go_wp2
  go_ret
  exact ⟨rfl, rfl⟩
def encN (n : Nat) : Value := .int .i64 (n : Int)
theorem kept_putRow {w : World} {blk off m : Nat} {dk : Array Nat} : Kept (fun j => j = blk) w (putRow encN (Go.Sort.ahead w m) blk off dk) := by
  refine ⟨rfl, rfl, rfl, ?_, fun j hj hne => ?_⟩
  · rw [size_putRow]; exact Nat.le_refl _
  · have hne : j ≠ blk := hne
    unfold putRow mapBlock
    simp only [Array.getElem?_modify]
    rw [if_neg (Ne.symm hne)]; rfl
theorem kept_sortN {w : World} {blk off m : Nat} {dk : Array Nat} {os : Array Obj} : Kept (fun j => j = blk) w (sortWorld encN w blk off m dk os) := by
  have h := kept_putRow (w := w) (blk := blk) (off := off) (m := m) (dk := dk)
  refine ⟨rfl, rfl, rfl, ?_, fun j hj hne => ?_⟩
  · unfold sortWorld; rw [size_grow]; have := h.size; omega
  · unfold sortWorld grow
    simp only
    rw [Array.getElem?_append_left (by have := h.size; omega)]
    exact h.block j hj hne
theorem map_nat {zs : List Int} (h : ∀ x ∈ zs, 0 ≤ x) : (zs.map Int.toNat).map (fun n => ((n : Nat) : Int)) = zs := by
  rw [List.map_map]
  conv => rhs; rw [← List.map_id zs]
  exact List.map_congr_left fun x hx => by have := h x hx; simp; omega
theorem filter_nat (f : Int → Bool) (l : List Nat) : (l.filter fun (n : Nat) => f (n : Int)).map (fun n => ((n : Nat) : Int)) = (l.map fun n => ((n : Nat) : Int)).filter f := by
  rw [List.filter_map]; rfl
set_option maxRecDepth 20000 in
set_option maxHeartbeats 1000000 in
theorem delete_any (wB w : World) (k : Kept no wB w) (v : Value) (zs : List Int) (vr : Value) (bs : List Bool) (B : Nat) (ho : w.ownsRow 0 3 1 v zs.length (zs.map Z)) (hn : New wB v) (h0 : ∀ x ∈ zs, 0 ≤ x) (hr : RdT wB vr bs) (hB : wB.cell? ⟨B, 0, none⟩ = some vr) :
    Calls Try.prog 70 #[v, .func (.func 71) #[] #[.pointer (some ⟨B, 0, none⟩)]] w fun e w' => ∃ v', e = .returned v' ∧ w'.ownsRow 0 3 1 v' (kept bs zs).length ((kept bs zs).map Z) ∧ v'.ownBlock = v.ownBlock ∧ Kept (ob v) w w' := by
  obtain ⟨hl, ⟨rfl, hz⟩ | ⟨blk, cap, cur, rfl, _, hg, hnc, hcm, hcs, ht⟩⟩ := id ho
  · have hz : zs = [] := List.eq_nil_of_length_eq_zero hz
    subst hz
    refine (delnil_any _ w).mono ?_
    rintro e w' ⟨rfl, rfl⟩
    exact ⟨_, rfl, World.ownsRow_nil _ _ _ _, rfl, Kept.refl _ _⟩
  · have hblk : wB.heap.size ≤ blk := hn.fr (Nat.le_refl _) blk rfl
    have hblw : blk < w.heap.size := lt_of_heap hg
    have hzz := map_nat h0
    generalize hd : zs.map Int.toNat = d at hzz
    have hdl : d.length = zs.length := by rw [← hd, List.length_map]
    have hH : Holds encN w blk 0 d.toArray := fun j hj => by
      have hj' : j < d.length := by simpa using hj
      refine ⟨?_, row_free hg _⟩
      rw [cell_of_row w _ _ cur _ (0, 0) hg, Nat.zero_add]
      have hg2 : (zs.map Z)[j]? = some (encN d[j]) := by
        conv => lhs; rw [← hzz]
        simp [hj', encN, Z]
      rw [← ht, List.getElem?_take] at hg2
      split at hg2
      · rw [getElem!_pos d.toArray j hj]; simpa using hg2
      · cases hg2
    have eg : ∀ args w, (callFunc 71 args).run Try.prog w = .ok (.enter 71 args) w := enters_of Try.func71 (by kernel_rfl) rfl
    have keptB : ∀ {S : Nat → Prop} {W : World}, Kept S w W → (∀ j, S j → j = blk) → Kept no wB W := fun hk hS => k.trans hk fun j hj hs => by have := hS j hs; omega
    have hp : PredAt Try.prog 71 #[.pointer (some ⟨B, 0, none⟩)] encN (fun n => !inB bs (n : Int)) w := fun W x hb => by
      have kW : Kept no wB W := keptB (Kept.of_below hb) (fun _ h => h.elim)
      exact restrict1_any vr bs x B W (hr.kept kW) (kW.cell hB id)
    have hpo : PredOver Try.prog 71 #[.pointer (some ⟨B, 0, none⟩)] encN (fun n => !inB bs (n : Int)) blk 0 d.toArray.size w := fun m os dk x _ => by
      have kW : Kept no wB (sortWorld encN w blk 0 m dk os) := keptB kept_sortN (fun _ h => h)
      exact restrict1_any vr bs x B _ (hr.kept kW) (kW.cell hB id)
    have hcon := AnyE.slices_DeleteFunc delLays encN (fun _ => rfl) (fun n => !inB bs (n : Int)) 71 #[.pointer (some ⟨B, 0, none⟩)] eg 0 (fun _ => by kernel_rfl) blk 0 cap d.toArray w hp hpo hH (by simp; have : maxLen = 9223372036854775807 := rfl; omega) (by simp; omega)
    rw [show d.toArray.size = zs.length by simpa using hdl] at hcon
    refine hcon.mono ?_
    rintro e w' ⟨rfl, q, rfl⟩
    have hfe : (d.toArray.toList.filter fun (x : Nat) => !(!inB bs (x : Int))).map (fun n => ((n : Nat) : Int)) = kept bs zs := by
      have : (d.filter fun (n : Nat) => inB bs (n : Int)).map (fun n => ((n : Nat) : Int)) = kept bs zs := by rw [filter_nat (inB bs) d, hzz]; rfl
      simpa using this
    obtain ⟨L, hL⟩ : ∃ L, (d.toArray.toList.filter fun (x : Nat) => !(!inB bs (x : Int))) = L := ⟨_, rfl⟩
    rw [hL] at hfe ⊢
    have hLl : L.length = (kept bs zs).length := by rw [← hfe, List.length_map]
    have hLe : L.map encN = (kept bs zs).map Z := by rw [← hfe, List.map_map]; rfl
    have hLn : L.length ≤ zs.length := by rw [hLl]; exact kept_len bs zs
    refine ⟨_, rfl, ?_, rfl, (kept_putRow).mono fun j _ h => by rw [show j = blk from h]; rfl⟩
    have hh : (putRow encN (Go.Sort.ahead w q) blk 0 (L ++ List.replicate (zs.length - L.length) 0).toArray).heap[blk]? = some (.cells (putCells encN 0 (L ++ List.replicate (zs.length - L.length) 0).toArray cur) 3 (0, 0)) := by
      unfold putRow mapBlock
      simp only [Array.getElem?_modify, if_pos]
      show Option.map _ (w.heap[blk]?) = _
      rw [hg]; rfl
    rw [← hLl, ← hLe]
    refine ⟨by simp, .inr ⟨blk, cap, _, rfl, Nat.zero_le _, hh, by omega, hcm, by simp [putCells, hcs], ?_⟩⟩
    rw [Nat.mul_one]
    refine List.ext_getElem? fun j => ?_
    rw [List.getElem?_take]
    by_cases hj : j < L.length
    · rw [if_pos hj]
      have hjc : j < cur.size := by rw [hcs, Nat.mul_one]; omega
      simp only [putCells, Array.getElem?_toList, Array.getElem?_mapIdx]
      rw [Array.getElem?_eq_getElem hjc]
      simp only [Option.map_some]
      rw [if_pos ⟨Nat.zero_le _, by simp; omega⟩]
      rw [List.getElem?_map, List.getElem?_eq_getElem hj]
      simp only [Option.map_some, Nat.sub_zero]
      rw [getElem!_pos _ j (by simp; omega)]
      simp [List.getElem_append_left hj]
    · rw [if_neg hj, List.getElem?_eq_none (by simp; omega)]
end Go.Proofs.Ytmigdhbolbhbeaa
