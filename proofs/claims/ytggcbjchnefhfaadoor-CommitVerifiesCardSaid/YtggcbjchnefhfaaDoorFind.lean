/- slices.Index over digests, commit.Find. -/
import Derived.Test.YtggcbjchnefhfaaDoorCmtOf
namespace Go.Cmt
/-- The index of the first element that equals d, or -1. -/
def findD (ds : List (List UInt8)) (d : List UInt8) : Int := if d ∈ ds then (ds.idxOf d : Int) else -1
theorem findD_hit (ds : List (List UInt8)) (d : List UInt8) (k : Nat) (hk : k < ds.length) (hn : d ∉ ds.take k) (he : d = ds.getD k []) : findD ds d = (k : Int) := by
  have hm : d = ds[k] := by rw [he, List.getD_eq_getElem?_getD, List.getElem?_eq_getElem hk]; rfl
  have hin : d ∈ ds := by rw [hm]; exact List.getElem_mem hk
  unfold findD
  rw [if_pos hin]
  have h1 : ds.idxOf d = k := by
    have e : ds = ds.take k ++ ds[k] :: ds.drop (k + 1) := by rw [List.getElem_cons_drop]; exact (List.take_append_drop k ds).symm
    rw [e, List.idxOf_append, if_neg hn, ← hm, List.idxOf_cons_self, List.length_take]
    omega
  rw [h1]
theorem find_next (ds : List (List UInt8)) (d : List UInt8) (k : Nat) (hk : k < ds.length) (hn : d ∉ ds.take k) (he : d ≠ ds.getD k []) : d ∉ ds.take (k + 1) := by
  rw [List.take_succ_eq_append_getElem hk]
  intro h
  rcases List.mem_append.1 h with h | h
  · exact hn h
  · apply he
    rw [List.getD_eq_getElem?_getD, List.getElem?_eq_getElem hk]
    simpa using h
end Go.Cmt
namespace Go.Proofs.YtggcbjchnefhfaaDoor
open Go.RowKit Go.Mk Go.Sha Go.Cmt
/-- A slice of digests. -/
def RdD (w : World) (v : Value) (ds : List (List UInt8)) : Prop := (∀ d ∈ ds, d.length = 32) ∧ Rd w 32 v ds.length (ds.flatMap (·.map B))
theorem RdD.kept {w w' : World} {v : Value} {ds : List (List UInt8)} (h : RdD w v ds) (hk : Kept no w w') : RdD w' v ds := ⟨h.1, h.2.keptNo hk⟩
theorem flat32 {ds : List (List UInt8)} (h : ∀ d ∈ ds, d.length = 32) (k j : Nat) (hk : k < ds.length) (hj : j < 32) : (ds.flatMap (·.map B))[k * 32 + j]? = ((ds.getD k []).map B)[j]? := by
  induction ds generalizing k with
  | nil => simp at hk
  | cons d ds ih =>
    rw [List.flatMap_cons]
    have hl : (d.map B).length = 32 := by rw [List.length_map, h d (by simp)]
    match k with
    | 0 => rw [Nat.zero_mul, Nat.zero_add, List.getElem?_append_left (by omega)]; rfl
    | k + 1 =>
      rw [List.getElem?_append_right (by omega), hl, show (k + 1) * 32 + j - 32 = k * 32 + j by omega, ih (fun e he => h e (by simp [he])) k (by simpa using hk)]
      rfl
theorem RdD.at {w : World} {ao : Option Addr} {n cap : Nat} {ds : List (List UInt8)} (h : RdD w (.slice ao n cap) ds) (k : Nat) (hk : k < ds.length) :
    ∃ b o, ao = some ⟨b, o, none⟩ ∧ w.rangeAt b (o + k * 32) ((ds.getD k []).map B) := by
  obtain ⟨hd, hlen, _, _, e, h1, _, h | ⟨b, o, rfl, hc⟩⟩ := h
  · cases e; omega
  · cases e
    refine ⟨b, o, rfl, fun j u hu => ?_⟩
    have hj : j < 32 := by
      have := (List.getElem?_eq_some_iff.1 hu).1
      have hm : (ds.getD k []).length = 32 := hd _ (by rw [List.getD_eq_getElem?_getD, List.getElem?_eq_getElem hk]; simp)
      rwa [List.length_map, hm] at this
    rw [Nat.add_assoc]
    exact hc _ _ (by rw [flat32 hd k j hk hj]; exact hu)
theorem range_row {w : World} {g : Nat} {L : List Value} {t : TypeId} {fr : Nat × Nat} (h : w.heap[g]? = some (.cells L.toArray t fr)) : w.rangeAt g 0 L := fun j u hu => by
  rw [cell_of_row w g (0 + j) _ t fr h]; simpa using hu
set_option maxRecDepth 100000 in
set_option maxHeartbeats 1000000 in
theorem index_any (v : Value) (ds : List (List UInt8)) (D : List UInt8) (w : World) (hD : D.length = 32) (hn : ds.length ≤ 1000000) (hr : RdD w v ds) :
    Calls Tryd.prog 28 #[v, .agg (D.map B).toArray] w fun e w' => e = .returned (.int .i64 (findD ds D)) ∧ Kept no w w' := by
  obtain ⟨ao, cap, rfl⟩ := Rd.shapeZ hr.2
  obtain ⟨L, hL⟩ : ∃ L, D.map B = L := ⟨_, rfl⟩
  have hL' : Hd (L.length = 32) := ⟨by rw [← hL]; simp [hD]⟩
  replace hL := hid hL
  rw [hL.out]
  have hinf : Hd ((Tryd.prog.info? 43).map (·.size) = some L.length) := ⟨by rw [hL'.out]; kernel_rfl⟩
  have hun := Tryd.underlying43
  replace hr := hid hr
  go_enter Tryd.func28, Tryd.ntmps28
  go_wp2
  obtain ⟨w1, hw1, r1, k1⟩ : ∃ w1, w1 = w.alloc (.cells L.toArray 43) ∧ w1.rangeAt w.heap.size 0 L ∧ Kept no w w1 := ⟨_, rfl, range_row (heap_alloc_new _ _), (Kept.refl no w).alloc _⟩
  rw [← hw1]
  clear hw1
  replace hr := hid (hr.out.kept k1)
  replace r1 := hid r1
  replace k1 := hid k1
  go_loopw [8] (fun i wr => ∃ k : Nat, k ≤ ds.length ∧ i = .int .i64 (k : Int) ∧ Hd (D ∉ ds.take k) ∧ Hd (Kept no w1 wr)) (fun i _ => ds.length - (intOf i).toNat)
  case atStart => exact ⟨0, by omega, rfl, ⟨by simp⟩, ⟨Kept.refl _ _⟩⟩
  case round =>
    obtain ⟨k, hk, rfl, hno, hK⟩ := hrel
    by_cases hlt : k < ds.length
    · skip
      obtain ⟨b, o, rfl, hrg⟩ := RdD.at (hr.out.kept hK.out) k hlt
      have hk1 : (k : Int) < (ds.length : Int) := by omega
      have hk0 : (0 : Int) ≤ (k : Int) := by omega
      have hlk : (ds.getD k []).length = 32 := hr.out.1 _ (by rw [List.getD_eq_getElem?_getD, List.getElem?_eq_getElem hlt]; simp)
      have he : Hd (∀ w, (binOp .eql 43 (.agg L.toArray) (.agg ((ds.getD k []).map B).toArray)).run Tryd.prog w = .ok (.bool (D == ds.getD k [])) w) := ⟨fun w => by rw [← hL.out]; exact eql_digest D _ hD hlk w⟩
      have hfd := hid (findD_hit ds D k hlt hno.out)
      have hnx := hid (find_next ds D k hlt hno.out)
      have hinfM : Hd ((Tryd.prog.info? 43).map (·.size) = some ((ds.getD k []).map B).length) := ⟨by rw [List.length_map, hlk]; kernel_rfl⟩
      obtain ⟨M, hM⟩ : ∃ M, (ds.getD k []).map B = M := ⟨_, rfl⟩
      rw [hM] at he hrg hinfM
      generalize ds.getD k [] = X at he hfd hnx
      have s0 := hid (show (fun w' : World => w'.rangeAt w.heap.size 0 L ∧ w'.rangeAt b (o + k * 32) M) wr.drew from ⟨fun j u hu => hK.out.cell (r1.out j u hu) id, hrg⟩)
      have K0 := hid (hK.out.drew)
      clear hM hrg hlk hno hK
      have hg := guard_digest
      go_upto_region 4 with fail
      refine wp_region_held_drew (S := fun w' => w'.rangeAt w.heap.size 0 L ∧ w'.rangeAt b (o + k * 32) M) (by kernel_rfl) s0.out (fun _ => ?_)
      generalize wr.drew = wd at s0 K0 ⊢
      refine takeRow 0 (some 11) 43 (.tmp 3) (w.heap.size) (0) L rfl rfl rfl (by kernel_rfl) (by kernel_rfl) (by kernel_rfl) (fun _ _ _ h => h) (by rfl) rfl (fun w h => h.1) hun rfl (hinf.out) s0.out ?_
      try simp only [Act.put, List.setIfInBounds_toArray, List.set_cons_zero, List.set_cons_succ]
      refine take2 1 (some 12) (.slice (some ⟨b, o, none⟩) ds.length cap) rfl rfl (by kernel_rfl) (by kernel_rfl) (by kernel_rfl) (fun _ _ _ h => h) (Or.inl ⟨by rfl, fun w hSw => ?_⟩) s0.out ?_
      · go_simp
      try simp only [Act.put, List.setIfInBounds_toArray, List.set_cons_zero, List.set_cons_succ]
      refine take2 2 (some 13) (.int .i64 (k : Int)) rfl rfl (by kernel_rfl) (by kernel_rfl) (by kernel_rfl) (fun _ _ _ h => h) (Or.inl ⟨by rfl, fun w hSw => ?_⟩) s0.out ?_
      · go_simp
      try simp only [Act.put, List.setIfInBounds_toArray, List.set_cons_zero, List.set_cons_succ]
      refine take2 3 (some 14) (.pointer (some ⟨b, o + k * 32, none⟩)) rfl rfl (by kernel_rfl) (by kernel_rfl) (by kernel_rfl) (fun _ _ _ h => h) (Or.inl ⟨by rfl, fun w hSw => ?_⟩) s0.out ?_
      · go_simp
      try simp only [Act.put, List.setIfInBounds_toArray, List.set_cons_zero, List.set_cons_succ]
      refine takeRow 4 (some 15) 43 (.tmp 14) (b) (o + k * 32) M rfl rfl rfl (by kernel_rfl) (by kernel_rfl) (by kernel_rfl) (fun _ _ _ h => h) (by rfl) rfl (fun w h => h.2) hun rfl (hinfM.out) s0.out ?_
      try simp only [Act.put, List.setIfInBounds_toArray, List.set_cons_zero, List.set_cons_succ]
      by_cases hq : D = X
      · subst hq
        have he1 := he.out
        simp only [beq_self_eq_true] at he1
        refine take2 5 (some 16) (.bool true) rfl rfl (by kernel_rfl) (by kernel_rfl) (by kernel_rfl) (fun _ _ _ h => h) (Or.inl ⟨by rfl, fun w hSw => ?_⟩) s0.out ?_
        · go_simp
        try simp only [Act.put, List.setIfInBounds_toArray, List.set_cons_zero, List.set_cons_succ]
        refine wpAnyH_done (by kernel_rfl) ?_ _
        have hv := (hfd.out rfl)
        replace k1 := hid (k1.out.trans' K0.out)
        clear he1 he hnx s0 hfd
        go_wp2
        go_ret
        exact ⟨by rw [hv]; rfl, k1.out⟩
      · have he1 := he.out
        rw [beq_eq_false_iff_ne.2 hq] at he1
        refine take2 5 (some 16) (.bool false) rfl rfl (by kernel_rfl) (by kernel_rfl) (by kernel_rfl) (fun _ _ _ h => h) (Or.inl ⟨by rfl, fun w hSw => ?_⟩) s0.out ?_
        · go_simp
        try simp only [Act.put, List.setIfInBounds_toArray, List.set_cons_zero, List.set_cons_succ]
        refine wpAnyH_done (by kernel_rfl) ?_ _
        have hno := hid (hnx.out hq)
        clear he1 he hnx s0 hfd
        go_wp2
        go_roundw
        case rel => first | exact ⟨k + 1, by omega, by go_num, hno, K0⟩ | ((repeat apply Exists.intro); exact ⟨⟨k + 1, by omega, by go_num, hno, K0⟩, rfl⟩)
        case measure => simp [intOf]; omega
    · obtain rfl : k = ds.length := by omega
      have hv : findD ds D = -1 := by
        unfold findD
        rw [if_neg]
        have := hno.out
        rwa [List.take_length] at this
      have KK := hid (k1.out.trans' hK.out)
      clear hno hK
      go_wp2
      go_ret
      exact ⟨by rw [hv]; rfl, KK.out⟩
end Go.Proofs.YtggcbjchnefhfaaDoor
