/- The reference's numbers in binary: Sub, Div. -/
import Derived.Test.YtobihnkmmlkccaaDoorBit2
import Derived.Deep.DeepCutAuto
namespace Go.Proofs.YtobihnkmmlkccaaDoor
open Go.RowKit Go.Mk Go.Bit
set_option maxHeartbeats 4000000 in
theorem sub_any (va vb : Value) (a b : List Bool) (w : World) (hla : a.length ≤ 1000000) (ha : RdT w va a) (hb : RdT w vb b) : Calls Tryd.prog 26 #[va, vb] w fun e w' => ∃ v', e = .returned v' ∧ OwT w w' v' (subB a b) := by
  obtain ⟨aa, ca, rfl, hca, hcam⟩ := ha.shape
  obtain ⟨ab, cb, rfl, hcb, hcbm⟩ := hb.shape
  obtain ⟨res, hres⟩ : ∃ res, subB a b = res := ⟨_, rfl⟩
  rw [hres]
  unfold subB at hres
  obtain ⟨la, hla'⟩ : ∃ l, a.length = l := ⟨_, rfl⟩
  obtain ⟨lb, hlb'⟩ : ∃ l, b.length = l := ⟨_, rfl⟩
  rw [hla'] at ha hca hla hres ⊢
  rw [hlb'] at hb hcb ⊢
  have HA := hid (fun (W : World) (k : Kept no w W) (i : Nat) => at_any _ a i W (ha.kept k))
  have HB := hid (fun (W : World) (k : Kept no w W) (i : Nat) => at_any _ b i W (hb.kept k))
  replace hres := hid hres
  clear ha hb hla' hlb'
  go_enter Tryd.func26, Tryd.ntmps26
  go_wp2
  go_loopw [5, 6, 7] (fun out c i wr => ∃ (k : Nat) (q : Bool), k ≤ la ∧ i = .int .i64 (k : Int) ∧ c = .bool q ∧ Hd (q = (subN a b k).2) ∧ Hd (OwT w wr out (subN a b k).1)) (fun _ _ i _ => la - (intOf i).toNat)
  case atStart => exact ⟨0, false, by omega, rfl, rfl, ⟨rfl⟩, ⟨OwT.nil w⟩⟩
  case round =>
    obtain ⟨k, q, hk, rfl, rfl, hq, hO⟩ := hrel
    have hkk : (0 : Int) ≤ (k : Int) := by omega
    by_cases hlt : k < la
    · have hk1 : (k : Int) < (la : Int) := by omega
      have hkh : Hd (IntKind.i64.wrap ((k : Int) + 1) = (k : Int) + 1) := ⟨IntWalk.i64_in _ (by omega)⟩
      have H1 := HA.out wr hO.out.kept k
      have H2 := HB.out wr hO.out.kept k
      have hn1 : Hd ((subN a b (k + 1)).1 = (subN a b k).1 ++ [xor (xor (at_ a k) (at_ b k)) q]) := ⟨by rw [hq.out]; rfl⟩
      have hn2 : Hd ((subN a b (k + 1)).2 = ((!at_ a k && at_ b k) || (!at_ a k && q) || (at_ b k && q))) := ⟨by rw [hq.out]; rfl⟩
      have hlo : Hd ((subN a b k).1.length = k) := ⟨subN_length a b k⟩
      have hb1 : Hd ((subN a b k).1.length + 1 ≤ maxLen ∧ ((subN a b k).1.length + 1) * 1 ≤ 140737488355328) := ⟨by have := hlo.out; have hm : maxLen = 9223372036854775807 := rfl; omega⟩
      obtain ⟨nx, hnx⟩ : ∃ nx, subN a b (k + 1) = nx := ⟨_, rfl⟩
      rw [hnx] at hn1 hn2
      replace hnx := hid hnx
      generalize (subN a b k).1 = l at hO hn1 hlo hb1
      generalize at_ a k = x at H1 hn1 hn2
      generalize at_ b k = y at H2 hn1 hn2
      replace H1 := hid H1
      replace H2 := hid H2
      clear hq hres
      go_wp2_with fail
      refine H1.out.mono ?_
      rintro e z1 ⟨rfl, rfl⟩
      go_wp2_with fail
      refine H2.out.mono ?_
      rintro e z2 ⟨rfl, rfl⟩
      clear H1 H2
      go_upto_region 8 with (at_builtin; refine wpList_append_lit _ rfl _ _ 35 rfl 4 1 1 TBits _ _ _ rfl hO.out.own 1 [_] rfl rfl ?c1 ?c2 ?c3 ?_)
      case c1 => simp [Value.oneCell']
      case c2 => exact hb1.out.1
      case c3 => exact hb1.out.2
      intro v' w2 h2 h3 h4 _
      have hO2 : Hd (OwT w w2 v' nx.1) := ⟨by rw [hn1.out]; exact hO.out.add _ h2 h3 h4⟩
      clear h2 h3 h4 hO hb1 hlo hn1
      go_upto_region 8 with fail
      cases x <;> cases y <;> cases q
      all_goals (have hn3 := hid hn2.out; clear hn2)
      all_goals go_wp2
      all_goals go_roundw
      all_goals first | (case rel => exact ⟨k + 1, _, by omega, by first | go_num | rfl | (rw [hkh.out]; rfl), rfl, ⟨by rw [hnx.out]; exact hn3.out.symm⟩, ⟨by rw [hnx.out]; exact hO2.out⟩⟩) | skip
      all_goals (simp [intOf]; omega)
    · obtain rfl : k = la := by omega
      have hn : ¬ (k : Int) < (k : Int) := by omega
      replace hres : Hd (trimB (subN a b k).1 = res) := hres
      have hll : (subN a b k).1.length ≤ 1000000 := by rw [subN_length]; exact hla
      have HT := hid (trim_any u5 _ wr hll hO.out.rd)
      rw [hres.out] at HT
      clear hq HA HB
      go_wp2_with fail
      refine HT.out.mono ?_
      rintro e w2 ⟨v', rfl, o2⟩
      have hv := hid (o2.from_ hO.out.kept)
      clear o2 HT hO
      go_wp2
      go_ret
      exact ⟨_, rfl, hv.out⟩
theorem TBits_mk (n : Nat) (h : n ≤ 1000000) (w : World) : (Instr.makeSlice 35 (.int .i64 (n : Int)) (.int .i64 (n : Int))).run Tryd.prog w = .ok (.slice (some ⟨w.heap.size, 0, none⟩) n n) (w.alloc (.cells (Array.replicate n (Value.bool false)) 4)) := by
  obtain ⟨i, hi, hz, hs, hb⟩ := info_parts (P := Tryd.prog) (e := 4) (z := .bool false) (size := 1) (bytes := 1) (by kernel_rfl)
  have := run_make (P := Tryd.prog) w 35 4 i _ Tryd.underlying35 hi hz .i64 .i64 n n (by omega) (by omega) (by rw [hb]; omega) (by omega)
  rw [this, hs, Nat.mul_one, Int.toNat_natCast]
  rw [show (Value.bool false).cells = #[Value.bool false] from rfl]
  have e : madeCells #[Value.bool false] n = Array.replicate n (Value.bool false) := by
    apply Array.ext
    · simp [madeCells]
    · intro i h1 h2
      simp [madeCells, Nat.mod_one]
  rw [e]
end Go.Proofs.YtobihnkmmlkccaaDoor
