/- electionref36.Salt. -/
import Derived.Test.YtggcbjchnefhfaaDoorCmt
import Derived.Test.YtggcbjchnefhfaaDoorRefJoin
namespace Go.Mk
open Go.RowKit
theorem Calls.lit3g {P : Program} {f : FuncId} {args : Array Value} {R : Ending → World → Prop} (w : World) (o1 o2 o3 : Obj)
    (h : ∀ w1, w1.heap[w.heap.size]? = some o1 → w1.heap[w.heap.size + 1]? = some o2 → w1.heap[w.heap.size + 1 + 1]? = some o3 → Kept no w w1 → Calls P f args w1 R) :
    Calls P f args (((w.alloc o1).alloc o2).alloc o3).drew R := by
  have z1 := World.size_alloc (w := w) (o := o1)
  have z2 := World.size_alloc (w := w.alloc o1) (o := o2)
  refine h _ ?_ ?_ ?_ ((((Kept.refl no w).alloc _).alloc _).alloc _).drew
  · show (((w.alloc o1).alloc o2).alloc o3).heap[_]? = _
    rw [heap_alloc_old _ _ (by omega), heap_alloc_old _ _ (by omega), heap_alloc_new]
  · show (((w.alloc o1).alloc o2).alloc o3).heap[_]? = _
    rw [heap_alloc_old _ _ (by omega), ← z1, heap_alloc_new]
  · show (((w.alloc o1).alloc o2).alloc o3).heap[_]? = _
    rw [← z1, ← z2, heap_alloc_new]
end Go.Mk
namespace Go.Proofs.YtggcbjchnefhfaaDoor
open Go.RowKit Go.Mk Go.Sha Go.Cmt
set_option maxRecDepth 100000 in
set_option maxHeartbeats 1000000 in
theorem refsalt_any (s : ByteArray) (c a b d : Int) (w : World) (hs : s.size ≤ 1000000) (hT : TabR w) : Calls Tryd.prog 22 #[.string s, .int .i64 c, .agg #[.int .i64 a, .int .i64 b, .int .i64 d]] w fun e w' => e = .returned (Dg (saltD s.data.toList [c, a, b, d])) ∧ Kept no w w' := by
  have hcv := fun w s => run_bytes_of_string (P := Tryd.prog) w 9 53 5 s Tryd.underlying9 Tryd.underlying53 Tryd.underlying5
  have kc := fun (w : World) (C : Array Value) (n c : Nat) => Lib.run_convert_bytes_const (P := Tryd.prog) w 53 5 C n c Tryd.underlying53 Tryd.underlying5
  replace hT := hid hT
  go_enter Tryd.func22, Tryd.ntmps22
  go_upto_region 1 with fail
  obtain ⟨w1, hw1, e0, e1, k1⟩ := imprint_block w a b d
  unfold Z32 at hw1
  rw [← hw1]
  clear hw1
  have c0 : w1.cell? ⟨w.heap.size, 0, none⟩ = some (.int .i64 a) := cell_of_row w1 _ 0 _ _ _ e0
  have c1 : w1.cell? ⟨w.heap.size, 1, none⟩ = some (.int .i64 b) := cell_of_row w1 _ 1 _ _ _ e0
  have c2 : w1.cell? ⟨w.heap.size, 2, none⟩ = some (.int .i64 d) := cell_of_row w1 _ 2 _ _ _ e0
  have hlt1 : w.heap.size + 1 < w1.heap.size := (Array.getElem?_eq_some_iff.mp e1).1
  have hlt0 : w.heap.size < w1.heap.size := by omega
  have up := fun (j : Nat) (o1 o2 : Obj) => show ((w1.alloc o1).alloc o2).cell? ⟨w.heap.size, j, none⟩ = w1.cell? ⟨w.heap.size, j, none⟩ by
    rw [World.cell?_alloc_past _ _ _ (by rw [World.size_alloc]; omega), World.cell?_alloc_past _ _ _ hlt0]
  replace hlt1 := hid hlt1
  replace e0 := hid e0
  replace e1 := hid e1
  replace k1 := hid k1
  go_wp2_with fail
  have hcap1 := grownCap_ge (w1.alloc (.cells #[.int .u8 115, .int .u8 97, .int .u8 108, .int .u8 116] 5 (4, 5))) s.size 0 5
  have hcap2 := grownCap_le_maxLen (w1.alloc (.cells #[.int .u8 115, .int .u8 97, .int .u8 108, .int .u8 116] 5 (4, 5))) s.size 0 5 (by unfold maxLen; omega)
  generalize grownCap (w1.alloc (.cells #[.int .u8 115, .int .u8 97, .int .u8 108, .int .u8 116] 5 (4, 5))) s.size 0 5 = cap at hcap1 hcap2 ⊢
  refine Calls.lit3g w1 _ _ _ ?_
  intro w2 e2 e3 e4 k2
  have r2 : Rd w2 1 (.slice (some ⟨w1.heap.size, 0, none⟩) 4 4) 4 (([115, 97, 108, 116] : List UInt8).map B) := Rd.block e2 rfl (by decide)
  have r3 := sbytes_row e3 hcap1 hcap2
  have rq : RdZ w2 (.slice (some ⟨w1.heap.size + 1 + 1, 0, none⟩) 4 4) [c, a, b, d] := Rd.block e4 rfl (by decide)
  refine (refnumbers_any _ [c, a, b, d] w2 (by simp) rq).mono ?_
  rintro e w3 ⟨v3, rfl, o3, k3, n3⟩
  replace r2 := hid (r2.keptNo k3)
  replace r3 := hid (r3.keptNo k3)
  have K3 := hid ((k1.out.trans' k2).trans' k3)
  have e13 := hid ((k2.trans' k3).block _ hlt1.out id ▸ e1.out)
  obtain ⟨a3, c3, rfl⟩ : ∃ a c', v3 = .slice a 32 c' := by
    have := own_shape o3 (by simp [numsB_length])
    rwa [numsB_length] at this
  replace o3 := hid o3
  have hlt3 : Hd (w.heap.size + 1 < w3.heap.size) := ⟨by have := (k2.trans' k3).size; have := hlt1.out; omega⟩
  clear k1 k2 k3 e0 e1 e2 e3 e4 rq n3 c0 c1 c2 up hlt1 hcv kc hcap1 hcap2
  go_wp2_with fail
  refine Calls.new1 _ _ _ ?_
  intro w4 e4 k4 z4
  have hr : RdP w4 (.slice (some ⟨w3.heap.size, 0, none⟩) 3 3) (saltP s.data.toList [c, a, b, d]) := ⟨[.slice (some ⟨w1.heap.size, 0, none⟩) 4 4, .slice (some ⟨w1.heap.size + 1, 0, none⟩) s.size cap, .slice a3 32 c3], Rd.block e4 rfl (by decide), fun j hj => by
    match j, hj with
    | 0, _ => exact r2.out.keptNo k4
    | 1, _ => exact r3.out.keptNo k4
    | 2, _ => exact Rd.of_own (k4.ownsRow o3.out fun _ _ => id)⟩
  have hjl : (join (saltP s.data.toList [c, a, b, d])).length ≤ 1099511000000 := by
    have := string_len s
    simp only [saltP, join, List.flatMap_cons, List.flatMap_nil, List.length_append, be_length, List.length_nil, numsB_length, List.length_cons]; omega
  have h32 : ∀ p ∈ saltP s.data.toList [c, a, b, d], p.length < 4294967296 := by
    intro p hp
    have := string_len s
    simp only [saltP, List.mem_cons, List.not_mem_nil, or_false] at hp
    rcases hp with rfl | rfl | rfl
    · simp
    · omega
    · rw [numsB_length]; simp
  refine (refof_any _ _ w4 hjl (by simp [saltP]) h32 hr ((hT.out.kept K3.out).kept k4)).mono ?_
  rintro e w5 ⟨rfl, k5⟩
  have K5 := hid ((K3.out.trans' k4).trans' k5)
  have e15 := hid (((k4.trans' k5).block _ hlt3.out id) ▸ e13.out)
  clear hr hjl k4 k5 e4 z4 e13 K3 r2 r3 o3
  have hold : Hd (Z32.size = ((sum (join (saltP s.data.toList [c, a, b, d]))).map B).toArray.size) := ⟨by rw [Dg_size]; rfl⟩
  unfold Dg
  have g2 := hid (setRow_heap w5 (w.heap.size + 1) _ ((sum (join (saltP s.data.toList [c, a, b, d]))).map B).toArray _ _ e15.out)
  go_wp2_with (with_reducible refine wpList_store_row rfl 43 _ _ rfl (w.heap.size + 1) ((sum (join (saltP s.data.toList [c, a, b, d]))).map B).toArray rfl rfl 43 _ e15.out (Dg_inf _) hold.out (Dg_one _) ?_)
  refine bodyPost_ret (v := Dg (sum (join (saltP s.data.toList [c, a, b, d])))) ?_ rfl ?_
  · exact results_cell_row rfl _ _ (w.heap.size + 1) 43 ((sum (join (saltP s.data.toList [c, a, b, d]))).map B).toArray (0, 0) _ rfl g2.out Tryd.underlying43 rfl (Dg_inf _)
  · exact ⟨rfl, K5.out.setRow (.inr (Nat.le_succ _)) _⟩
end Go.Proofs.YtggcbjchnefhfaaDoor
