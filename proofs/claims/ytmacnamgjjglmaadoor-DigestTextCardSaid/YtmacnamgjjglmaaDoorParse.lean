/- digest.Parse returns the digest that 64 hexadecimal digits say; and no digest for any other string. -/
import Derived.Test.YtmacnamgjjglmaaDoorHexL
import Derived.Test.YtmacnamgjjglmaaDoorDig
import Derived.Laws.ResultCell
namespace Go.Mk
theorem results_row_tmp {P : Program} {fn : Func} {p u : Tmp} {ty : TypeId} (h : fn.results = #[.cell p ty, .tmp u]) (tmps : Array Value) (w : World) (g : Nat) (t : TypeId) (cs : Array Value) (fr : Nat × Nat) (d : TypeDesc) (r : Value)
    (hp : tmps.getD p undef = .pointer (some ⟨g, 0, none⟩)) (hr : tmps.getD u undef = r) (hg : w.heap[g]? = some (.cells cs t fr))
    (hu : P.underlying ty = some d) (hd : (match d with | .struct _ | .array _ _ => true | _ => false) = true) (hi : (P.info? ty).map (·.size) = some cs.size) :
    (results fn tmps).run P w = .ok (.tuple #[.agg cs, r]) w := by
  rw [results_cell_tmp h, hp, hr]
  simp [asAddr, run_loadVar_row w g t ty cs fr d hg hu hd hi]
theorem b_shl4 (x : UInt8) : (x.toNat : Int) * 16 % 256 = ((x <<< 4).toNat : Int) := by
  have h : (x <<< 4).toNat = x.toNat * 16 % 256 := by rw [UInt8.toNat_shiftLeft]; simp [Nat.shiftLeft_eq]
  rw [h]; omega
theorem b_or (x y : UInt8) : bits .or .u8 (x.toNat : Int) (y.toNat : Int) = ((x ||| y).toNat : Int) := by
  rw [u8_or_nat _ _ x.toNat_lt y.toNat_lt]; rfl
theorem b_of (n : Nat) (_ : n < 256) : IntKind.u8.wrap (n : Int) = ((UInt8.ofNat n).toNat : Int) := by
  rw [UInt8.toNat_ofNat']
  simp only [IntKind.wrap, IntKind.bits, IntKind.signed]
  simp
end Go.Mk
namespace Go.Proofs.YtmacnamgjjglmaaDoor
open Go.RowKit Go.Mk Go.Sha
def goodD (b : List UInt8) : Bool := decide (b.length = 64) && b.all isHex
def readD (b : List UInt8) : List UInt8 := if goodD b then unhex b else List.replicate 32 0
theorem readD_length (b : List UInt8) : (readD b).length = 32 := by unfold readD; split <;> simp [unhex_length]
def ParsePost (b : List UInt8) (w : World) (e : Ending) (w' : World) : Prop := e = .returned (.tuple #[.agg ((readD b).map B).toArray, .bool (goodD b)]) ∧ Kept no w w'
theorem Z32_inf : (Tryd.prog.info? 25).map (·.size) = some Z32.size := by kernel_rfl
theorem Z32_one : Z32.all (·.oneCell') = true := by kernel_rfl
theorem Z32_rep : Z32 = ((List.replicate 32 0).map B).toArray := by kernel_rfl
theorem take_all (b : List UInt8) (k : Nat) (hk : k < b.length) (h : (b.take k).all isHex = true) (hx : isHex b[k] = true) : (b.take (k + 1)).all isHex = true := by
  rw [List.take_succ_eq_append_getElem hk, List.all_append, h]; simp [hx]
set_option maxRecDepth 100000 in
set_option maxHeartbeats 1000000 in
theorem parse_any (s : ByteArray) (w : World) (hs : s.size ≤ 9223372036854775807) :
    Calls Tryd.prog 25 #[.string s] w (ParsePost s.data.toList w) := by
  have hsl : s.size = s.data.toList.length := (Array.length_toList (xs := s.data)).symm
  replace hsl := hid hsl
  by_cases h64 : s.size = 64
  · have hne : ((s.size : Int) != 64) = false := by rw [bne_eq_false_iff_eq]; omega
    have h64' : s.size ≤ 64 ∧ 64 ≤ s.size := by omega
    obtain ⟨h64a, h64b⟩ := h64'
    clear h64
    go_enter Tryd.func25, Tryd.ntmps25
    go_upto_region 2 with fail
    obtain ⟨w1, hw1, g0, g1, k1⟩ : ∃ w1, w1 = (w.alloc (.cells Z32 25)).alloc (.cells Z32 25) ∧ w1.heap[w.heap.size]? = some (.cells Z32 25 (0,0)) ∧ w1.heap[w.heap.size + 1]? = some (.cells Z32 25 (0,0)) ∧ Kept no w w1 := by
      refine ⟨_, rfl, ?_, ?_, ((Kept.refl no w).alloc _).alloc _⟩
      · rw [heap_alloc_old _ _ (by simp), heap_alloc_new]
      · rw [← World.size_alloc (w := w) (o := .cells Z32 25), heap_alloc_new]
    unfold Z32 at hw1
    rw [← hw1]
    clear hw1
    have g1 : Hd (w1.heap[w.heap.size + 1]? = some (.cells (arrB (dc s.data.toList 0) 32) 25 (0,0))) := ⟨by
      rw [g1, Z32_arr, show arrB (dc s.data.toList 0) 32 = arrB (fun _ => 0) 32 from by unfold arrB; simp only [dc_zero]]⟩
    replace g0 := hid g0
    replace k1 := hid k1
    go_wp2
    go_loopw [5, 6, 13] (fun _ _ i wr => ∃ k : Nat, k ≤ s.size ∧ i = .int .i64 (k : Int) ∧ Hd ((s.data.toList.take k).all isHex = true) ∧ Hd (wr.heap[w.heap.size + 1]? = some (.cells (arrB (dc s.data.toList k) 32) 25 (0,0))) ∧ Hd (wr.heap[w.heap.size]? = some (.cells Z32 25 (0,0))) ∧ Hd (Kept no w wr)) (fun _ _ i _ => s.size - (intOf i).toNat)
    case atStart => exact ⟨0, by omega, rfl, ⟨rfl⟩, g1, g0, k1⟩
    case round =>
      clear g1 g0 k1
      obtain ⟨k, hk, rfl, ha, g1, g0, hK⟩ := hrel
      by_cases hlt : k < s.size
      · have hkb : k < s.data.toList.length := by rw [← hsl.out]; exact hlt
        have hcb : s[k] = s.data.toList[k] := rfl
        have hix := hid (index_digit s[k])
        generalize hc : s[k] = c at hix
        have hit := hid (dc_hit s.data.toList k hkb)
        rw [← hcb, hc] at hit
        have hta := hid (take_all s.data.toList k hkb ha.out)
        rw [← hcb, hc] at hta
        have hcn : Hd (isHex c = false → goodD s.data.toList = false) := ⟨fun h => by
          unfold goodD
          rw [Bool.and_eq_false_iff]
          refine .inr ?_
          rw [List.all_eq_false]
          exact ⟨s.data.toList[k], List.getElem_mem _, by rw [← hcb, hc, h]; simp⟩⟩
        by_cases hx : isHex c = true
        · have hl16 := hexn_lt c hx
          replace hta := hid (hta.out hx)
          have hif : (if isHex c = true then (hexn c : Int) else -1) = (hexn c : Int) := if_pos hx
          rw [hif] at hix
          clear hif hcn hcb
          replace hx := hid hx
          have cd := arrB_cell g1.out (k / 2) (by omega)
          have fd := row_free g1.out (k / 2)
          generalize dc s.data.toList k (k / 2) = y at cd hit
          have hn0 : (0 : Int) ≤ (hexn c : Int) := by omega
          have hnw := b_of (hexn c) (by omega)
          rw [show UInt8.ofNat (hexn c) = nib c from rfl] at hnw
          have j1 : (k : Int) / 2 < 32 := by omega
          have j2 : IntKind.i64.wrap ((k : Int) / 2) = (k : Int) / 2 := wrap64_small _ (by omega) (by omega)
          have j3 : (0 : Int) ≤ (k : Int) / 2 := by omega
          have j4 : ((k : Int) / 2).toNat = k / 2 := by omega
          have hset := hid (row_set (w := wr) g1.out (k / 2) (B (y <<< 4 ||| nib c)))
          go_wp2_with fail
          refine (hix.out wr).mono ?_
          rintro e w' ⟨rfl, rfl⟩
          clear hix
          go_wp2
          have hqq := b_shl4 y
          generalize (y.toNat : Int) * 16 % 256 = q at hqq ⊢
          rw [hqq, b_or]
          clear hqq
          have R' := hset.out
          rw [arrB_set (f' := dc s.data.toList (k + 1)) hit.out (fun i _ hne => dc_miss _ _ _ hne)] at R'
          have g0' : Hd ((wr.setCell ⟨w.heap.size + 1, k / 2, none⟩ (B (y <<< 4 ||| nib c))).heap[w.heap.size]? = some (.cells Z32 25 (0,0))) := ⟨by rw [Below.heap_setCell _ _ _ _ (by simp)]; exact g0.out⟩
          have K' : Hd (Kept no w (wr.setCell ⟨w.heap.size + 1, k / 2, none⟩ (B (y <<< 4 ||| nib c)))) := ⟨hK.out.setCell (.inr (by simp)) _⟩
          replace R' := hid R'
          unfold B at R' g0' K'
          clear hset hit g0 g1 hK cd fd
          generalize y <<< 4 ||| nib c = z at R' g0' K' ⊢
          go_roundw
          case rel => first | exact ⟨k + 1, by omega, by go_num, hta, R', g0', K'⟩ | ((repeat apply Exists.intro); exact ⟨⟨k + 1, by omega, by go_num, hta, R', g0', K'⟩, rfl⟩)
          case measure => simp [intOf]; omega
        · have hxf : isHex c = false := by simpa using hx
          have hif : (if isHex c = true then (hexn c : Int) else -1) = -1 := if_neg hx
          rw [hif] at hix
          have hbad := hid (hcn.out hxf)
          have h2 := hid (setRow_heap wr w.heap.size _ Z32 _ _ g0.out)
          clear hif hcn hx hxf hta hit g1 hcb
          go_wp2_with fail
          refine (hix.out wr).mono ?_
          rintro e w' ⟨rfl, rfl⟩
          clear hix
          go_wp2_with (with_reducible refine wpList_store_row rfl 25 _ _ rfl w.heap.size Z32 rfl rfl 25 _ g0.out Z32_inf rfl Z32_one ?_)
          refine bodyPost_ret (v := .tuple #[.agg Z32, .bool false]) ?_ rfl ?_
          · exact results_row_tmp rfl _ _ w.heap.size 25 Z32 (0, 0) _ _ rfl rfl h2.out Tryd.underlying25 rfl Z32_inf
          · exact ⟨by unfold readD; rw [hbad.out, Z32_rep]; rfl, hK.out.setRow (.inr (Nat.le_refl _)) _⟩
      · obtain rfl : k = s.size := by omega
        have hgood : Hd (goodD s.data.toList = true) := ⟨by
          have := ha.out
          rw [List.take_of_length_le (by rw [hsl.out]; exact Nat.le_refl _)] at this
          unfold goodD
          rw [this, ← hsl.out, decide_eq_true (by omega)]; rfl⟩
        have hr : Hd (readD s.data.toList = unhex s.data.toList) := ⟨by unfold readD; rw [hgood.out]; rfl⟩
        have e32 : Hd (arrB (dc s.data.toList s.size) 32 = ((readD s.data.toList).map B).toArray) := ⟨by
          rw [hr.out, show s.size = 64 by omega]
          exact arrB_list (unhex_length _) (fun i hi => by simp [unhex, hi])⟩
        have g1' := g1.out
        rw [e32.out] at g1'
        replace g1' := hid g1'
        have hsz : ((readD s.data.toList).map B).toArray.size = 32 := by simp [readD_length]
        have hinf : Hd ((Tryd.prog.info? 25).map (·.size) = some ((readD s.data.toList).map B).toArray.size) := ⟨by rw [hsz]; kernel_rfl⟩
        have hone : Hd (((readD s.data.toList).map B).toArray.all (·.oneCell') = true) := ⟨all_oneCell_toArray (B_one _)⟩
        have hold : Hd (Z32.size = ((readD s.data.toList).map B).toArray.size) := ⟨by rw [hsz]; rfl⟩
        have h2 := hid (setRow_heap wr w.heap.size _ ((readD s.data.toList).map B).toArray _ _ g0.out)
        clear g1 e32 hr ha hlt hk hsz
        go_wp2_with (first | (with_reducible refine wpList_load_row rfl 25 _ rfl (w.heap.size + 1) rfl 25 _ _ _ g1'.out Tryd.underlying25 rfl hinf.out ?_) | (with_reducible refine wpList_store_row rfl 25 _ _ rfl w.heap.size ((readD s.data.toList).map B).toArray rfl rfl 25 _ g0.out hinf.out hold.out hone.out ?_))
        refine bodyPost_ret (v := .tuple #[.agg ((readD s.data.toList).map B).toArray, .bool true]) ?_ rfl ?_
        · exact results_row_tmp rfl _ _ w.heap.size 25 ((readD s.data.toList).map B).toArray (0, 0) _ _ rfl rfl h2.out Tryd.underlying25 rfl hinf.out
        · exact ⟨by rw [hgood.out], hK.out.setRow (.inr (Nat.le_refl _)) _⟩
  · have hne : ((s.size : Int) != 64) = true := by rw [bne_iff_ne]; omega
    have hbad : Hd (goodD s.data.toList = false) := ⟨by unfold goodD; rw [← hsl.out, decide_eq_false h64]; rfl⟩
    clear h64
    go_enter Tryd.func25, Tryd.ntmps25
    go_upto_region 2 with fail
    obtain ⟨w1, hw1, g0, g1, k1⟩ : ∃ w1, w1 = (w.alloc (.cells Z32 25)).alloc (.cells Z32 25) ∧ w1.heap[w.heap.size]? = some (.cells Z32 25 (0,0)) ∧ w1.heap[w.heap.size + 1]? = some (.cells Z32 25 (0,0)) ∧ Kept no w w1 := by
      refine ⟨_, rfl, ?_, ?_, ((Kept.refl no w).alloc _).alloc _⟩
      · rw [heap_alloc_old _ _ (by simp), heap_alloc_new]
      · rw [← World.size_alloc (w := w) (o := .cells Z32 25), heap_alloc_new]
    unfold Z32 at hw1
    rw [← hw1]
    clear hw1
    have h2 := hid (setRow_heap w1 w.heap.size _ Z32 _ _ g0)
    replace g0 := hid g0
    replace g1 := hid g1
    replace k1 := hid k1
    go_wp2_with (first | (with_reducible refine wpList_load_row rfl 25 _ rfl (w.heap.size + 1) rfl 25 _ _ _ g1.out Tryd.underlying25 rfl Z32_inf ?_) | (with_reducible refine wpList_store_row rfl 25 _ _ rfl w.heap.size Z32 rfl rfl 25 _ g0.out Z32_inf rfl Z32_one ?_))
    refine bodyPost_ret (v := .tuple #[.agg Z32, .bool false]) ?_ rfl ?_
    · exact results_row_tmp rfl _ _ w.heap.size 25 Z32 (0, 0) _ _ rfl rfl h2.out Tryd.underlying25 rfl Z32_inf
    · exact ⟨by unfold readD; rw [hbad.out, Z32_rep]; rfl, k1.out.setRow (.inr (Nat.le_refl _)) _⟩
end Go.Proofs.YtmacnamgjjglmaaDoor
