/- Layer 38: Find, short, Ints. -/
import Derived.Test.YtggcbjchnefhfaaDoorFind
import Derived.Test.YtggcbjchnefhfaaDoorCmtRef
import Derived.Test.YtggcbjchnefhfaaDoorCmtSalt
namespace Go.Proofs.YtggcbjchnefhfaaDoor
open Go.RowKit Go.Mk Go.Sha Go.Cmt
set_option maxRecDepth 100000 in
set_option maxHeartbeats 1000000 in
theorem find_any (v : Value) (ds : List (List UInt8)) (D : List UInt8) (w : World) (hD : D.length = 32) (hn : ds.length ≤ 1000000) (hr : RdD w v ds) :
    Calls Tryd.prog 18 #[v, .agg (D.map B).toArray] w fun e w' => e = .returned (.int .i64 (findD ds D)) ∧ Kept no w w' := by
  have hinf : Hd ((Tryd.prog.info? 43).map (·.size) = some (D.map B).toArray.size) := ⟨by rw [List.size_toArray, List.length_map, hD]; kernel_rfl⟩
  replace hr := hid hr
  have HI := hid (fun w (hr : RdD w v ds) => index_any v ds D w hD hn hr)
  obtain ⟨L, hL⟩ : ∃ L, D.map B = L := ⟨_, rfl⟩
  rw [hL] at hinf HI
  rw [hL]
  clear hL
  go_enter Tryd.func18, Tryd.ntmps18
  go_upto_region 1 with fail
  obtain ⟨w1, hw1, g1, k1⟩ : ∃ w1, w1 = w.alloc (.cells L.toArray 43) ∧ w1.heap[w.heap.size]? = some (.cells L.toArray 43 (0,0)) ∧ Kept no w w1 := ⟨_, rfl, heap_alloc_new _ _, (Kept.refl no w).alloc _⟩
  rw [← hw1]
  clear hw1
  replace g1 := hid g1
  replace k1 := hid k1
  go_wp2_with (with_reducible refine wpList_load_row rfl 43 _ rfl w.heap.size rfl 43 _ _ _ g1.out Tryd.underlying43 rfl hinf.out ?_)
  refine (HI.out w1 (hr.out.kept k1.out)).mono ?_
  rintro e w2 ⟨rfl, k2⟩
  have K2 := hid (k1.out.trans' k2)
  clear k1 k2 g1
  go_wp2
  go_ret
  exact ⟨rfl, K2.out⟩
def shortS (s : ByteArray) : ByteArray := s.extract 0 (min s.size 20)
theorem shortS_size (s : ByteArray) : (shortS s).size ≤ 20 := by unfold shortS; rw [ByteArray.size_extract]; omega
set_option maxHeartbeats 400000 in
theorem short_any (s : ByteArray) (hs : s.size ≤ 9223372036854775807) (w : World) :
    Calls Tryd.prog 6 #[.string s] w fun e w' => e = .returned (.string (shortS s)) ∧ w = w' := by
  have hq : (if 20 < (s.size : Int) then (20 : Int) else (s.size : Int)) = ((min s.size 20 : Nat) : Int) := by split <;> omega
  have hqc : ((min s.size 20 : Nat) : Int) ≤ (s.size : Int) := by omega
  have hq0 : (0 : Int) ≤ ((min s.size 20 : Nat) : Int) := by omega
  have hsh := hid (show shortS s = s.extract 0 (min s.size 20) from rfl)
  generalize min s.size 20 = q at hq hqc hq0 hsh
  go_enter Tryd.func6, Tryd.ntmps6
  go_wp2
  go_ret
  exact ⟨by rw [hsh.out]; rfl, rfl⟩
end Go.Proofs.YtggcbjchnefhfaaDoor
