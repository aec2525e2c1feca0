/- The fixed pile of law 24. -/
import Derived.Test.YtmigdhbolbhbeaaGen3
import Derived.Test.YtmigdhbolbhbeaaCnt5
import Derived.Test.YtmigdhbolbhbeaaCnt6
namespace Go.Proofs.Ytmigdhbolbhbeaa
open Go.RowKit Go.Mk Go.Pil
theorem blk_RdZ {w : World} {g : Nat} {e : TypeId} {fr : Nat × Nat} (zs : List Int) (n : Nat) (hn : zs.length = n) (hm : n ≤ maxLen) {c : Array Value} (hc : c = (zs.map Z).toArray) (h : w.heap[g]? = some (.cells c e fr)) : RdZ w (.slice (some ⟨g, 0, none⟩) n n) zs := by
  subst hn hc
  exact ⟨by simp, _, _, rfl, Nat.le_refl _, hm, .inr ⟨g, 0, rfl, fun j u hu => by rw [cell_of_row w _ _ _ _ _ h, Nat.zero_add]; simpa using hu⟩⟩
theorem blk_RdT {w : World} {g : Nat} {e : TypeId} {fr : Nat × Nat} (zs : List Bool) (n : Nat) (hn : zs.length = n) (hm : n ≤ maxLen) {c : Array Value} (hc : c = (zs.map Value.bool).toArray) (h : w.heap[g]? = some (.cells c e fr)) : RdT w (.slice (some ⟨g, 0, none⟩) n n) zs := by
  subst hn hc
  exact ⟨by simp, _, _, rfl, Nat.le_refl _, hm, .inr ⟨g, 0, rfl, fun j u hu => by rw [cell_of_row w _ _ _ _ _ h, Nat.zero_add]; simpa using hu⟩⟩
def awB : List (List Int) := [[0, 1], [0], [0, 1]]
def awP : List Grp := [⟨[0], 1⟩, ⟨[0, 1], 2⟩]
theorem aw_mk : mk 3 awB = (awP, 0) := by decide +kernel
theorem aw_valid : (decide ((1 : Int) ≤ 3 ∧ (3 : Int) ≤ 7) && isPile 3 awP) = true := by decide +kernel
theorem aw_total : total awP = 3 := by decide +kernel
theorem aw_first : first awP [false, true, true] = ([0, 2, 0], 1) := by decide +kernel
theorem aw_prefers : prefers awP 0 1 = 3 := by decide +kernel
theorem aw_lit (w : World) : ∃ bs, lists bs = awB ∧ RdB (w.alloc (.cells #[.int .i64 0, .int .i64 1] 3) |>.alloc (.cells #[.int .i64 0] 3) |>.alloc (.cells #[.int .i64 0, .int .i64 1] 3) |>.alloc (.cells #[.slice (some ⟨w.heap.size, 0, none⟩) 2 2, .slice (some ⟨w.heap.size + 1, 0, none⟩) 1 1, .slice (some ⟨w.heap.size + 1 + 1, 0, none⟩) 2 2] 36)) (.slice (some ⟨w.heap.size + 1 + 1 + 1, 0, none⟩) 3 3) bs := by
  refine ⟨[([0, 1], .slice (some ⟨w.heap.size, 0, none⟩) 2 2), ([0], .slice (some ⟨w.heap.size + 1, 0, none⟩) 1 1), ([0, 1], .slice (some ⟨w.heap.size + 1 + 1, 0, none⟩) 2 2)], rfl, ?_⟩
  obtain ⟨w1, hw1, g1, k1⟩ := alloc_named w (.cells #[.int .i64 0, .int .i64 1] 3)
  have s1 : w1.heap.size = w.heap.size + 1 := by rw [hw1]; exact World.size_alloc _ _
  rw [← hw1]
  obtain ⟨w2, hw2, g2, k2⟩ := alloc_named w1 (.cells #[.int .i64 0] 3)
  have s2 : w2.heap.size = w.heap.size + 1 + 1 := by rw [hw2, World.size_alloc, s1]
  rw [← hw2]
  obtain ⟨w3, hw3, g3, k3⟩ := alloc_named w2 (.cells #[.int .i64 0, .int .i64 1] 3)
  have s3 : w3.heap.size = w.heap.size + 1 + 1 + 1 := by rw [hw3, World.size_alloc, s2]
  rw [← hw3]
  obtain ⟨w4, hw4, g4, k4⟩ := alloc_named w3 (.cells #[.slice (some ⟨w.heap.size, 0, none⟩) 2 2, .slice (some ⟨w.heap.size + 1, 0, none⟩) 1 1, .slice (some ⟨w.heap.size + 1 + 1, 0, none⟩) 2 2] 36)
  rw [← hw4]
  rw [s1] at g2
  rw [s2] at g3
  rw [s3] at g4
  have h1 := k4.blk (k3.blk (k2.blk g1))
  have h2 := k4.blk (k3.blk g2)
  have h3 := k4.blk g3
  refine ⟨fun x hx => ?_, rfl, _, _, rfl, Nat.le_refl _, by decide, .inr ⟨_, 0, rfl, fun j u hu => by rw [cell_of_row w4 _ _ _ _ _ g4, Nat.zero_add]; simpa using hu⟩⟩
  simp only [List.mem_cons, List.not_mem_nil, or_false] at hx
  rcases hx with rfl | rfl | rfl
  · exact blk_RdZ [0, 1] 2 rfl (by decide) rfl h1
  · exact blk_RdZ [0] 1 rfl (by decide) rfl h2
  · exact blk_RdZ [0, 1] 2 rfl (by decide) rfl h3
theorem grps_two {ps : List (Grp × Value)} (h : grps ps = awP) : ps.length = 2 := by rw [← grps_length, h]; rfl
set_option maxRecDepth 20000 in
set_option maxHeartbeats 1000000 in
theorem awake_any (w : World) : Calls Try.prog 13 #[] w fun e w' => e = .returned (.bool true) ∧ Kept no w w' := by
  obtain ⟨bs, hbs, hlit⟩ := aw_lit w
  obtain ⟨W, hW⟩ : ∃ W, W = (w.alloc (.cells #[.int .i64 0, .int .i64 1] 3) |>.alloc (.cells #[.int .i64 0] 3) |>.alloc (.cells #[.int .i64 0, .int .i64 1] 3) |>.alloc (.cells #[.slice (some ⟨w.heap.size, 0, none⟩) 2 2, .slice (some ⟨w.heap.size + 1, 0, none⟩) 1 1, .slice (some ⟨w.heap.size + 1 + 1, 0, none⟩) 2 2] 36)) := ⟨_, rfl⟩
  have kW : Hd (Kept no w W) := ⟨by rw [hW]; exact ((((Kept.refl no w).alloc _).alloc _).alloc _).alloc _⟩
  rw [← hW] at hlit
  have HM := hid (make_any 3 _ bs W hlit)
  rw [hbs, aw_mk] at HM
  replace hW := hid hW
  clear hbs hlit
  go_enter Try.func13, Try.ntmps13
  go_wp2_with fail
  rw [← hW.out]
  refine HM.out.mono ?_
  rintro e w1 ⟨v1, rfl, ps, hps, hrd, k1⟩
  have hl2 := grps_two hps
  obtain ⟨a1, c1, rfl, _, _⟩ := hrd.shape
  rw [hl2] at hrd ⊢
  have k1' := hid (kW.out.trans' k1)
  have HV := hid (valid_any 3 _ ps w1 hrd)
  rw [hps, aw_valid] at HV
  replace hrd := hid hrd
  replace hps := hid hps
  clear k1 kW hW HM hl2
  go_wp2_with fail
  refine HV.out.mono ?_
  rintro e w2 ⟨rfl, k2⟩
  have k2' := hid (k1'.out.trans' k2)
  have hrd2 := hid (hrd.out.kept k2)
  have HT := hid (total_any _ ps w2 hrd2.out)
  rw [hps.out, aw_total] at HT
  clear k2 k1' hrd HV
  go_wp2_with fail
  refine HT.out.mono ?_
  rintro e w3 ⟨rfl, k3⟩
  have k3' := hid (k2'.out.trans' k3)
  have hrd3 := hid (hrd2.out.kept k3)
  clear k3 k2' hrd2 HT
  obtain ⟨w4, hw4, g4, k4⟩ := alloc_named w3 (.cells #[.bool false, .bool true, .bool true] 4)
  have hrd4 := hid (hrd3.out.kept k4)
  have HF := hid (first_any _ _ ps [false, true, true] w4 hrd4.out (blk_RdT [false, true, true] 3 rfl (by decide) rfl g4))
  rw [hps.out, aw_first] at HF
  have k4' := hid (k3'.out.trans' k4)
  replace hw4 := hid hw4
  clear k4 k3' hrd3 g4
  go_wp2_with fail
  rw [← hw4.out]
  refine HF.out.mono ?_
  rintro e w5 ⟨v5, rfl, hO⟩
  obtain ⟨a5, c5, rfl, _, _⟩ := Rd.shape2 hO.rd
  have k5' := hid (k4'.out.trans' hO.kept)
  have hrd5 := hid (hrd4.out.kept hO.kept)
  obtain ⟨b5, o5, rfl, hc⟩ := hO.rd.at 1 (by decide)
  have HP := hid (prefers_any _ ps 0 1 w5 hrd5.out)
  rw [hps.out, aw_prefers] at HP
  have hc' : w5.cell? ⟨b5, o5 + 1, none⟩ = some (.int .i64 2) := hc
  clear hc hO hrd4 k4' HF hw4 hrd5 hps
  go_wp2_with fail
  refine HP.out.mono ?_
  rintro e w6 ⟨rfl, k6⟩
  have k6' := hid (k5'.out.trans' k6)
  clear k6 HP k5' hc'
  go_wp2
  go_ret
  exact ⟨rfl, k6'.out⟩
end Go.Proofs.Ytmigdhbolbhbeaa
