/- electionlaw38.Awake. -/
import Derived.Test.YtggcbjchnefhfaaDoorLaw38
import Derived.Great.BuildSlice
namespace Go.Proofs.YtggcbjchnefhfaaDoor
open Go.RowKit Go.Mk Go.Sha Go.Cmt

def secretS : ByteArray := ⟨#[115, 101, 99, 114, 101, 116]⟩
def sA : List UInt8 := saltD secretS.data.toList [0, 1, 2, 3]
def dA : List UInt8 := commitD sA [0, 1, 2, 3] [1, 0]
theorem sA_zero : sA ≠ List.replicate 32 0 := by decide +kernel
theorem sA_dA : sA ≠ dA := by decide +kernel
theorem sA_len : sA.length = 32 := sum_length _
theorem dA_len : dA.length = 32 := sum_length _
theorem findD_two : findD [sA, dA] dA = 1 := by
  have h := findD_hit [sA, dA] dA 1 (by simp) (by simpa using fun h => sA_dA h.symm) rfl
  simpa using h
theorem findD_nil (d : List UInt8) : findD [] d = -1 := by simp [findD]
theorem Z32_rep' : Z32 = ((List.replicate 32 0).map B).toArray := by kernel_rfl
theorem two_parts {α β : Type} (f : α → β) (a b : α) : (Array.map f #[a, b]).toList = [f a, f b] := by simp
set_option maxRecDepth 100000 in
set_option maxHeartbeats 4000000 in
theorem awake38_any (w : World) (hT : Tab w) (hR : TabR w) : Calls Tryd.prog 11 #[] w fun e w' => e = .returned (.bool true) ∧ Kept no w w' := by
  obtain ⟨Ls, hLs⟩ : ∃ L, sA.map B = L := ⟨_, rfl⟩
  obtain ⟨Ld, hLd⟩ : ∃ L, dA.map B = L := ⟨_, rfl⟩
  have lS : Hd (Ls.length = 32) := ⟨by rw [← hLs, List.length_map, sA_len]⟩
  have lD : Hd (Ld.length = 32) := ⟨by rw [← hLd, List.length_map, dA_len]⟩
  have infS : Hd ((Tryd.prog.info? 43).map (·.size) = some Ls.length) := ⟨by rw [lS.out]; kernel_rfl⟩
  have infD : Hd ((Tryd.prog.info? 43).map (·.size) = some Ld.length) := ⟨by rw [lD.out]; kernel_rfl⟩
  have infS' : Hd ((Tryd.prog.info? 43).map (·.size) = some Ls.toArray.size) := ⟨infS.out⟩
  have infD' : Hd ((Tryd.prog.info? 43).map (·.size) = some Ld.toArray.size) := ⟨infD.out⟩
  have oneS : Hd (Ls.toArray.all (·.oneCell') = true) := ⟨by rw [← hLs]; exact all_oneCell_toArray (B_one _)⟩
  have oneD : Hd (Ld.toArray.all (·.oneCell') = true) := ⟨by rw [← hLd]; exact all_oneCell_toArray (B_one _)⟩
  have oldS : Hd (Z32.size = Ls.toArray.size) := ⟨by show Z32.size = Ls.length; rw [lS.out]; rfl⟩
  have oldD : Hd (Z32.size = Ld.toArray.size) := ⟨by show Z32.size = Ld.length; rw [lD.out]; rfl⟩
  have HS : Hd (∀ w, Tab w → Calls Tryd.prog 15 #[.string secretS, .int .i64 0, .agg #[.int .i64 1, .int .i64 2, .int .i64 3]] w fun e w' => e = .returned (.agg Ls.toArray) ∧ Kept no w w') := ⟨fun w h => by rw [← hLs]; exact salt_any secretS 0 1 2 3 w (by decide) h⟩
  have HR : Hd (∀ w, TabR w → Calls Tryd.prog 22 #[.string secretS, .int .i64 0, .agg #[.int .i64 1, .int .i64 2, .int .i64 3]] w fun e w' => e = .returned (.agg Ls.toArray) ∧ Kept no w w') := ⟨fun w h => by rw [← hLs]; exact refsalt_any secretS 0 1 2 3 w (by decide) h⟩
  have HO : Hd (∀ v w, RdZ w v [1, 0] → Tab w → Calls Tryd.prog 17 #[.agg Ls.toArray, .int .i64 0, .agg #[.int .i64 1, .int .i64 2, .int .i64 3], v] w fun e w' => e = .returned (.agg Ld.toArray) ∧ Kept no w w') := ⟨fun v w hr h => by rw [← hLs, ← hLd]; exact commit_any v sA [1, 0] 0 1 2 3 w sA_len (by decide) hr h⟩
  have HF : Hd (∀ v w, RdD w v [sA, dA] → Calls Tryd.prog 18 #[v, .agg Ld.toArray] w fun e w' => e = .returned (.int .i64 1) ∧ Kept no w w') := ⟨fun v w hr => by rw [← hLd, ← findD_two]; exact find_any v [sA, dA] dA w dA_len (by simp) hr⟩
  have HN : Hd (∀ w, Calls Tryd.prog 18 #[.slice none 0 0, .agg Ld.toArray] w fun e w' => e = .returned (.int .i64 (-1)) ∧ Kept no w w') := ⟨fun w => by rw [← hLd, ← findD_nil dA]; exact find_any (.slice none 0 0) [] dA w dA_len (by simp) ⟨by simp, by simp, none, 0, rfl, Nat.le_refl _, Nat.zero_le _, .inl rfl⟩⟩
  have heq : ∀ w, (binOp .eql 43 (.agg Ls.toArray) (.agg Ls.toArray)).run Tryd.prog w = .ok (.bool true) w := fun w => by
    rw [← hLs, eql_digest sA sA sA_len sA_len w]; simp
  have hne : ∀ w, (binOp .neq 43 (.agg Ls.toArray) (.agg Z32)).run Tryd.prog w = .ok (.bool true) w := fun w => by
    rw [← hLs, Z32_rep', neq_digest sA (List.replicate 32 0) sA_len (by simp) w, bne_iff_ne.2 sA_zero]
  have hRd : Hd (∀ (W : World) (g : Nat) (fr : Nat × Nat), W.heap[g]? = some (.cells (Ls ++ Ld).toArray 43 fr) → RdD W (.slice (some ⟨g, 0, none⟩) 2 2) [sA, dA]) := ⟨fun W g fr hg => ⟨fun d hd => by
      simp only [List.mem_cons, List.not_mem_nil, or_false] at hd
      rcases hd with rfl | rfl
      · exact sA_len
      · exact dA_len, by
      have e : ([sA, dA] : List (List UInt8)).flatMap (·.map B) = Ls ++ Ld := by simp [hLs, hLd]
      rw [e]
      exact Rd.block (size := 32) (n := 2) hg (by simp [lS.out, lD.out]) (by decide)⟩⟩
  have hun := Tryd.underlying43
  obtain ⟨ie, hInfo, hzero, hsize⟩ : ∃ ie, Hd (Tryd.prog.info? 43 = some ie) ∧ ie.zero = some (.agg Z32) ∧ ie.size = 32 := by
    have h : (Tryd.prog.info? 43).bind (fun ie => ie.zero) = some (.agg Z32) := by kernel_rfl
    have h2 : (Tryd.prog.info? 43).map (·.size) = some 32 := by kernel_rfl
    cases hi : Tryd.prog.info? 43 with
    | none => rw [hi] at h2; cases h2
    | some ie => rw [hi] at h h2; exact ⟨ie, ⟨rfl⟩, h, by simpa using h2⟩
  have hgd := guard_digest
  clear hLs hLd
  have hfill : Hd (Instr.fill (fun i => some (i * 32, 32)) ((Array.range (2 * 32)).map ((Value.agg Z32).cells[· % (Value.agg Z32).cells.size]!)) [(0, .agg Ls.toArray), (1, .agg Ld.toArray)] = some (Ls ++ Ld).toArray) := ⟨by
    have := Great.fill_whole (s := 32) (by decide) [.agg Ls.toArray, .agg Ld.toArray] ((Array.range (2 * 32)).map ((Value.agg Z32).cells[· % (Value.agg Z32).cells.size]!)) (by
      intro v hv
      simp only [List.mem_cons, List.not_mem_nil, or_false] at hv
      rcases hv with rfl | rfl
      · exact lS.out
      · exact lD.out) (by simp)
    simpa [Value.cells] using this⟩
  replace hT := hid hT
  replace hR := hid hR
  unfold secretS at HS HR
  go_enter Tryd.func11, Tryd.ntmps11
  go_upto_region 2 with fail
  obtain ⟨w1, hw1, e1, k1⟩ : ∃ w1, w1 = w.alloc (.cells #[.int .i64 1, .int .i64 2, .int .i64 3] 31) ∧ S3 w.heap.size 1 2 3 w1 ∧ Kept no w w1 := ⟨_, rfl, ⟨cell_of_row _ _ 0 _ _ _ (heap_alloc_new _ _), cell_of_row _ _ 1 _ _ _ (heap_alloc_new _ _), cell_of_row _ _ 2 _ _ _ (heap_alloc_new _ _)⟩, (Kept.refl no w).alloc _⟩
  rw [← hw1]
  clear hw1
  generalize w.heap.size = g1 at e1 ⊢
  obtain ⟨c0, c1, c2⟩ := e1
  go_wp2_with fail
  refine (HS.out w1 (hT.out.kept k1)).mono ?_
  rintro e w2 ⟨rfl, k2⟩
  have E2 := hid (show S3 g1 1 2 3 w2 from ⟨k2.cell c0 id, k2.cell c1 id, k2.cell c2 id⟩)
  have K2 := hid (k1.trans' k2)
  clear c0 c1 c2 k1 k2
  have hN := hid (heap_alloc_new w2 (.cells Z32 43))
  obtain ⟨w3, gs, hg, hw3, r3, K3, E3⟩ : ∃ w3 gs, gs = w2.heap.size ∧ w3 = (w2.alloc (.cells Z32 43)).setRow w2.heap.size Ls.toArray ∧ w3.heap[gs]? = some (.cells Ls.toArray 43 (0, 0)) ∧ Kept no w w3 ∧ S3 g1 1 2 3 w3 := by
    refine ⟨_, _, rfl, rfl, setRow_heap _ _ _ _ _ _ hN.out, (K2.out.alloc _).setRow (.inr K2.out.size) _, S3.setRow (E2.out.reads ((Kept.refl no _).alloc _).reads) _ _ ?_⟩
    have := lt_of_cell E2.out.1
    exact Nat.ne_of_lt this
  unfold Z32 at hN oldS hw3
  replace hw3 := hid hw3
  replace r3 := hid r3
  go_upto_region 3 with (with_reducible refine wpList_store_row rfl 43 _ _ rfl w2.heap.size Ls.toArray rfl rfl 43 _ hN.out infS'.out oldS.out oneS.out ?_; rw [← hw3.out, ← hg])
  clear hN hw3 hg K2 E2 oldS
  obtain ⟨c0, c1, c2⟩ := E3
  replace K3 := hid K3
  go_wp2_with (with_reducible refine wpList_load_row rfl 43 _ rfl gs rfl 43 _ _ _ r3.out Tryd.underlying43 rfl infS'.out ?_)
  refine Calls.new1 _ _ _ ?_
  intro w4 e4 k4 _
  refine (HO.out _ w4 (Rd.block e4 rfl (by decide)) (hT.out.kept (K3.out.trans' k4))).mono ?_
  rintro e w5 ⟨rfl, k5⟩
  have k35 := k4.trans' k5
  have E5 := hid (show S3 g1 1 2 3 w5 from ⟨k35.cell c0 id, k35.cell c1 id, k35.cell c2 id⟩)
  have r5 := hid ((k35.block _ (lt_of_heap r3.out) id).trans r3.out)
  have K5 := hid (K3.out.trans' k35)
  clear c0 c1 c2 k35 k4 k5 e4 K3 r3
  have hN := hid (heap_alloc_new w5 (.cells Z32 43))
  obtain ⟨w6, gd, hg, hw6, r6, q6, K6, E6⟩ : ∃ w6 gd, gd = w5.heap.size ∧ w6 = (w5.alloc (.cells Z32 43)).setRow w5.heap.size Ld.toArray ∧ w6.heap[gs]? = some (.cells Ls.toArray 43 (0, 0)) ∧ w6.heap[gd]? = some (.cells Ld.toArray 43 (0, 0)) ∧ Kept no w w6 ∧ S3 g1 1 2 3 w6 := by
    have l1 := lt_of_heap r5.out
    refine ⟨_, _, rfl, rfl, ?_, setRow_heap _ _ _ _ _ _ hN.out, (K5.out.alloc _).setRow (.inr K5.out.size) _, S3.setRow (E5.out.reads ((Kept.refl no _).alloc _).reads) _ _ ?_⟩
    · rw [setRow_other _ _ _ _ (by omega), heap_alloc_old _ _ l1]; exact r5.out
    · have := lt_of_cell E5.out.1
      exact Nat.ne_of_lt this
  unfold Z32 at hN oldD hw6
  replace hw6 := hid hw6
  go_upto_region 4 with (with_reducible refine wpList_store_row rfl 43 _ _ rfl w5.heap.size Ld.toArray rfl rfl 43 _ hN.out infD'.out oldD.out oneD.out ?_; rw [← hw6.out, ← hg])
  clear hN hw6 hg K5 E5 r5 oldD oneS oneD
  have s0 := hid (show (fun w' : World => w'.rangeAt gs 0 Ls ∧ w'.rangeAt gd 0 Ld ∧ S3 g1 1 2 3 w') w6.drew from ⟨range_row r6, range_row q6, E6⟩)
  replace K6 := hid K6.drew
  clear r6 q6 E6
  have step : Hd (∀ {w w' : World}, (w.rangeAt gs 0 Ls ∧ w.rangeAt gd 0 Ld ∧ S3 g1 1 2 3 w) → Kept no w w' → (w'.rangeAt gs 0 Ls ∧ w'.rangeAt gd 0 Ld ∧ S3 g1 1 2 3 w')) := ⟨fun h k => ⟨fun j u hu => k.cell (h.1 j u hu) id, fun j u hu => k.cell (h.2.1 j u hu) id, h.2.2.reads k.reads⟩⟩
  refine wp_region_held_drew (S := fun w' => w'.rangeAt gs 0 Ls ∧ w'.rangeAt gd 0 Ld ∧ S3 g1 1 2 3 w') (by kernel_rfl) s0.out (fun _ => ?_)
  generalize w6.drew = W0 at s0 K6 ⊢
  unfold Z32 at hne
  refine takeRow 0 (some 11) 43 (.tmp 2) (gs) 0 Ls rfl rfl rfl (by kernel_rfl) (by kernel_rfl) (by kernel_rfl) (fun _ _ _ h => h) (by rfl) rfl (fun w h => h.1) hun rfl infS.out s0.out ?_
  try simp only [Act.put, List.setIfInBounds_toArray, List.set_cons_zero, List.set_cons_succ]
  refine take2 1 (some 12) (.agg #[.int .i64 1, .int .i64 2, .int .i64 3]) rfl rfl (by kernel_rfl) (by kernel_rfl) (by kernel_rfl) (fun _ _ _ h => h) (Or.inl ⟨by rfl, fun w hSw => ?_⟩) s0.out ?_
  · obtain ⟨_, _, h0, h1, h2⟩ := hSw
    go_simp
  try simp only [Act.put, List.setIfInBounds_toArray, List.set_cons_zero, List.set_cons_succ]
  refine wpAnyH_ready (rs := [2]) (by kernel_rfl) (by simp) ?_
  refine AllReadyH.cons rfl (fun K hK => ?_) AllReadyH.nil
  go_simp
  refine (HR.out _ (hR.out.kept K6.out)).mono ?_
  rintro e W1 ⟨rfl, k1⟩
  refine hK.out _ _ (step.out s0.out k1) (fun _ => ?_)
  clear hK K
  try simp only [Act.put, List.setIfInBounds_toArray, List.set_cons_zero, List.set_cons_succ]
  have s1 := hid (step.out s0.out k1)
  have K1x := hid (K6.out.trans' k1)
  clear k1
  refine take2 3 (some 14) (.bool true) rfl rfl (by kernel_rfl) (by kernel_rfl) (by kernel_rfl) (fun _ _ _ h => h) (Or.inl ⟨by rfl, fun w hSw => ?_⟩) s1.out ?_
  · go_simp
  try simp only [Act.put, List.setIfInBounds_toArray, List.set_cons_zero, List.set_cons_succ]
  refine take2 4 (some 15) (.bool true) rfl rfl (by kernel_rfl) (by kernel_rfl) (by kernel_rfl) (fun _ _ _ h => h) (Or.inl ⟨by rfl, fun w hSw => ?_⟩) s1.out ?_
  · go_simp
  try simp only [Act.put, List.setIfInBounds_toArray, List.set_cons_zero, List.set_cons_succ]
  refine takeRow 5 (some 16) 43 (.tmp 2) (gs) 0 Ls rfl rfl rfl (by kernel_rfl) (by kernel_rfl) (by kernel_rfl) (fun _ _ _ h => h) (by rfl) rfl (fun w h => h.1) hun rfl infS.out s1.out ?_
  try simp only [Act.put, List.setIfInBounds_toArray, List.set_cons_zero, List.set_cons_succ]
  refine take2 6 (some 17) (.agg #[.int .u8 0, .int .u8 0, .int .u8 0, .int .u8 0, .int .u8 0, .int .u8 0, .int .u8 0, .int .u8 0, .int .u8 0, .int .u8 0, .int .u8 0, .int .u8 0, .int .u8 0, .int .u8 0, .int .u8 0, .int .u8 0, .int .u8 0, .int .u8 0, .int .u8 0, .int .u8 0, .int .u8 0, .int .u8 0, .int .u8 0, .int .u8 0, .int .u8 0, .int .u8 0, .int .u8 0, .int .u8 0, .int .u8 0, .int .u8 0, .int .u8 0, .int .u8 0]) rfl rfl (by kernel_rfl) (by kernel_rfl) (by kernel_rfl) (fun _ _ _ h => h) (Or.inl ⟨by rfl, fun w hSw => ?_⟩) s1.out ?_
  · go_simp
  try simp only [Act.put, List.setIfInBounds_toArray, List.set_cons_zero, List.set_cons_succ]
  refine take2 7 (some 18) (.bool true) rfl rfl (by kernel_rfl) (by kernel_rfl) (by kernel_rfl) (fun _ _ _ h => h) (Or.inl ⟨by rfl, fun w hSw => ?_⟩) s1.out ?_
  · go_simp
  try simp only [Act.put, List.setIfInBounds_toArray, List.set_cons_zero, List.set_cons_succ]
  refine take2 8 (some 19) (.bool true) rfl rfl (by kernel_rfl) (by kernel_rfl) (by kernel_rfl) (fun _ _ _ h => h) (Or.inl ⟨by rfl, fun w hSw => ?_⟩) s1.out ?_
  · go_simp
  try simp only [Act.put, List.setIfInBounds_toArray, List.set_cons_zero, List.set_cons_succ]
  refine take2 9 (some 20) (.bool true) rfl rfl (by kernel_rfl) (by kernel_rfl) (by kernel_rfl) (fun _ _ _ h => h) (Or.inl ⟨by rfl, fun w hSw => ?_⟩) s1.out ?_
  · go_simp
  try simp only [Act.put, List.setIfInBounds_toArray, List.set_cons_zero, List.set_cons_succ]
  refine takeRow 10 (some 21) 43 (.tmp 2) (gs) 0 Ls rfl rfl rfl (by kernel_rfl) (by kernel_rfl) (by kernel_rfl) (fun _ _ _ h => h) (by rfl) rfl (fun w h => h.1) hun rfl infS.out s1.out ?_
  try simp only [Act.put, List.setIfInBounds_toArray, List.set_cons_zero, List.set_cons_succ]
  refine takeRow 11 (some 22) 43 (.tmp 3) (gd) 0 Ld rfl rfl rfl (by kernel_rfl) (by kernel_rfl) (by kernel_rfl) (fun _ _ _ h => h) (by rfl) rfl (fun w h => h.2.1) hun rfl infD.out s1.out ?_
  try simp only [Act.put, List.setIfInBounds_toArray, List.set_cons_zero, List.set_cons_succ]
  refine takeRow 13 (some 24) 43 (.tmp 3) (gd) 0 Ld rfl rfl rfl (by kernel_rfl) (by kernel_rfl) (by kernel_rfl) (fun _ _ _ h => h) (by rfl) rfl (fun w h => h.2.1) hun rfl infD.out s1.out ?_
  try simp only [Act.put, List.setIfInBounds_toArray, List.set_cons_zero, List.set_cons_succ]
  refine wpAnyH_ready (rs := [12]) (by kernel_rfl) (by simp) ?_
  refine AllReadyH.cons rfl (fun K hK => ?_) AllReadyH.nil
  rw [if_pos (by rfl)]
  refine wp_buildSlice 34 43 2 _ rfl (Ls ++ Ld).toArray ie (.agg Z32) Tryd.underlying34 hInfo.out hzero (by rw [hsize]; decide) (by rw [hsize]; decide) (by rw [hsize, two_parts]; exact hfill.out) ?_
  refine hK.out _ _ (step.out s1.out ((Kept.refl no _).alloc _)) (fun _ => ?_)
  clear hK K
  try simp only [Act.put, List.setIfInBounds_toArray]
  refine lay_any _ _ ?_
  intro W2 e2 k2 _
  have s2 := hid (step.out s1.out k2)
  have K2x := hid (K1x.out.trans' k2)
  have hL2 := hid (hRd.out _ _ _ e2)
  refine wpAnyH_ready (rs := [14]) (by kernel_rfl) (by simp) ?_
  refine AllReadyH.cons rfl (fun K hK => ?_) AllReadyH.nil
  go_simp
  refine (HF.out _ _ hL2.out).mono ?_
  rintro e W3 ⟨rfl, k3⟩
  refine hK.out _ _ (step.out s2.out k3) (fun _ => ?_)
  clear hK K
  try simp only [Act.put, List.setIfInBounds_toArray, List.set_cons_zero, List.set_cons_succ]
  have s3 := hid (step.out s2.out k3)
  have K3x := hid (K2x.out.trans' k3)
  clear k3
  refine take2 15 (some 26) (.bool true) rfl rfl (by kernel_rfl) (by kernel_rfl) (by kernel_rfl) (fun _ _ _ h => h) (Or.inl ⟨by rfl, fun w hSw => ?_⟩) s3.out ?_
  · go_simp
  try simp only [Act.put, List.setIfInBounds_toArray, List.set_cons_zero, List.set_cons_succ]
  refine take2 16 (some 27) (.bool true) rfl rfl (by kernel_rfl) (by kernel_rfl) (by kernel_rfl) (fun _ _ _ h => h) (Or.inl ⟨by rfl, fun w hSw => ?_⟩) s3.out ?_
  · go_simp
  try simp only [Act.put, List.setIfInBounds_toArray, List.set_cons_zero, List.set_cons_succ]
  refine take2 17 (some 28) (.bool true) rfl rfl (by kernel_rfl) (by kernel_rfl) (by kernel_rfl) (fun _ _ _ h => h) (Or.inl ⟨by rfl, fun w hSw => ?_⟩) s3.out ?_
  · go_simp
  try simp only [Act.put, List.setIfInBounds_toArray, List.set_cons_zero, List.set_cons_succ]
  refine takeRow 18 (some 29) 43 (.tmp 3) (gd) 0 Ld rfl rfl rfl (by kernel_rfl) (by kernel_rfl) (by kernel_rfl) (fun _ _ _ h => h) (by rfl) rfl (fun w h => h.2.1) hun rfl infD.out s3.out ?_
  try simp only [Act.put, List.setIfInBounds_toArray, List.set_cons_zero, List.set_cons_succ]
  refine wpAnyH_ready (rs := [19]) (by kernel_rfl) (by simp) ?_
  refine AllReadyH.cons rfl (fun K hK => ?_) AllReadyH.nil
  go_simp
  refine (HN.out _).mono ?_
  rintro e W4 ⟨rfl, k4⟩
  refine hK.out _ _ (step.out s3.out k4) (fun _ => ?_)
  clear hK K
  try simp only [Act.put, List.setIfInBounds_toArray, List.set_cons_zero, List.set_cons_succ]
  have s4 := hid (step.out s3.out k4)
  have K4x := hid (K3x.out.trans' k4)
  clear k4
  refine take2 20 (some 31) (.bool true) rfl rfl (by kernel_rfl) (by kernel_rfl) (by kernel_rfl) (fun _ _ _ h => h) (Or.inl ⟨by rfl, fun w hSw => ?_⟩) s4.out ?_
  · go_simp
  try simp only [Act.put, List.setIfInBounds_toArray, List.set_cons_zero, List.set_cons_succ]
  refine take2 21 (some 32) (.bool true) rfl rfl (by kernel_rfl) (by kernel_rfl) (by kernel_rfl) (fun _ _ _ h => h) (Or.inl ⟨by rfl, fun w hSw => ?_⟩) s4.out ?_
  · go_simp
  try simp only [Act.put, List.setIfInBounds_toArray, List.set_cons_zero, List.set_cons_succ]
  refine take2 22 (some 0) (.bool true) rfl rfl (by kernel_rfl) (by kernel_rfl) (by kernel_rfl) (fun _ _ _ h => h) (Or.inl ⟨by rfl, fun w hSw => ?_⟩) s4.out ?_
  · go_simp
  try simp only [Act.put, List.setIfInBounds_toArray, List.set_cons_zero]
  refine wpAnyH_done (by kernel_rfl) ?_ _
  go_wp2_with fail
  go_ret
  exact ⟨rfl, K4x.out⟩
end Go.Proofs.YtggcbjchnefhfaaDoor
