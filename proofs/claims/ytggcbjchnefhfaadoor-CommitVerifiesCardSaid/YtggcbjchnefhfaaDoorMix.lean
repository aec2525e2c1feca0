import Derived.Test.YtggcbjchnefhfaaDoorSched
import Derived.StillTailTactics
import Derived.Deep.QuietTactic
import Derived.BigQuiet
namespace Go.Proofs.YtggcbjchnefhfaaDoor
open Go.RowKit Go.Mk Go.Sha
def cells8 (s : St) : Array Value := #[.int .u32 s.a.toNat, .int .u32 s.b.toNat, .int .u32 s.c.toNat, .int .u32 s.d.toNat, .int .u32 s.e.toNat, .int .u32 s.f.toNat, .int .u32 s.g.toNat, .int .u32 s.h.toNat]
def Tab (w : World) : Prop := ∀ i, i < 64 → w.cell? ⟨0, i, none⟩ = some (.int .u32 ((K.getD i 0).toNat : Int))
def MF (gs gw : Nat) (s : St) (kk ww : UInt32) (k : Nat) (w : World) : Prop :=
  w.cell? ⟨gs, 0, none⟩ = some (.int .u32 s.a.toNat) ∧ w.cell? ⟨gs, 1, none⟩ = some (.int .u32 s.b.toNat) ∧ w.cell? ⟨gs, 2, none⟩ = some (.int .u32 s.c.toNat) ∧ w.cell? ⟨gs, 3, none⟩ = some (.int .u32 s.d.toNat) ∧
  w.cell? ⟨gs, 4, none⟩ = some (.int .u32 s.e.toNat) ∧ w.cell? ⟨gs, 5, none⟩ = some (.int .u32 s.f.toNat) ∧ w.cell? ⟨gs, 6, none⟩ = some (.int .u32 s.g.toNat) ∧ w.cell? ⟨gs, 7, none⟩ = some (.int .u32 s.h.toNat) ∧
  w.cell? ⟨0, k, none⟩ = some (.int .u32 kk.toNat) ∧ w.cell? ⟨gw, k, none⟩ = some (.int .u32 ww.toNat)
/-- What the loop's rounds leave alone. -/
structure MR (w0 : World) (gh gr gw gs : Nat) (sh ss : St) (A : Array Value) (w : World) : Prop where
  fh : w.heap[gh]? = some (.cells (cells8 sh) 81 (0,0))
  fr : w.heap[gr]? = some (.cells #[.int .u32 0, .int .u32 0, .int .u32 0, .int .u32 0, .int .u32 0, .int .u32 0, .int .u32 0, .int .u32 0] 81 (0,0))
  fw : w.heap[gw]? = some (.cells A 92 (0,0))
  fs : w.heap[gs]? = some (.cells (cells8 ss) 81 (0,0))
  kept : Kept no w0 w
theorem MR.drewN {w0 : World} {gh gr gw gs : Nat} {h s : St} {A : Array Value} {w : World} (R : MR w0 gh gr gw gs h s A w) (n : Nat) : MR w0 gh gr gw gs h s A (w.drewN n) := ⟨R.fh, R.fr, R.fw, R.fs, R.kept.drewN n⟩
theorem MF.of {gs gw : Nat} {s : St} {kk ww : UInt32} {k : Nat} {w : World} (R : w.heap[gs]? = some (.cells (cells8 s) 81 (0,0))) (h1 : w.cell? ⟨0, k, none⟩ = some (.int .u32 kk.toNat)) (h2 : w.cell? ⟨gw, k, none⟩ = some (.int .u32 ww.toNat)) : MF gs gw s kk ww k w :=
  ⟨cell_of_row w _ 0 _ 81 (0,0) R, cell_of_row w _ 1 _ 81 (0,0) R, cell_of_row w _ 2 _ 81 (0,0) R, cell_of_row w _ 3 _ 81 (0,0) R, cell_of_row w _ 4 _ 81 (0,0) R, cell_of_row w _ 5 _ 81 (0,0) R, cell_of_row w _ 6 _ 81 (0,0) R, cell_of_row w _ 7 _ 81 (0,0) R, h1, h2⟩
theorem cells8_arr (s : St) : cells8 s = arr (fun j => s.list.getD j 0) 8 := by
  cases s; rfl
theorem mix_eq {st s : St} {b : List UInt8} (h : rounds (sched b) 64 st = s) : mix st b = st.add s := by subst h; unfold mix; rfl
theorem cells8_one (s : St) : (cells8 s).all (·.oneCell') = true := by simp [cells8, Value.oneCell']
theorem cells8_size (s : St) : (cells8 s).size = 8 := rfl
theorem inf8 : (Tryd.prog.info? 81).map (·.size) = some 8 := by kernel_rfl
def addK (s t : St) (k j : Nat) : UInt32 := if j < k then s.list.getD j 0 + t.list.getD j 0 else s.list.getD j 0
theorem addK_all (s t : St) : arr (addK s t 8) 8 = cells8 (s.add t) := by
  cases s; cases t; rfl
/-- The last loop: k of the eight words are added. -/
structure MA (w0 : World) (gh gr gs : Nat) (sh ss : St) (k : Nat) (w : World) : Prop where
  fh : w.heap[gh]? = some (.cells (arr (addK sh ss k) 8) 81 (0,0))
  fr : w.heap[gr]? = some (.cells #[.int .u32 0, .int .u32 0, .int .u32 0, .int .u32 0, .int .u32 0, .int .u32 0, .int .u32 0, .int .u32 0] 81 (0,0))
  fs : w.heap[gs]? = some (.cells (arr (fun j => ss.list.getD j 0) 8) 81 (0,0))
  kept : Kept no w0 w
theorem MF.drewN {gs gw : Nat} {s : St} {kk ww : UInt32} {k : Nat} {w : World} (F : MF gs gw s kk ww k w) (n : Nat) : MF gs gw s kk ww k (w.drewN n) := F
set_option maxRecDepth 100000 in
set_option maxHeartbeats 1000000 in
theorem mix_any (st : St) (bb o cap : Nat) (b : List UInt8) (w : World) (h64 : 64 ≤ b.length) (hnm : b.length ≤ 1099511627776)
  (hc : ∀ j u, (b.map B)[j]? = some u → w.cell? ⟨bb, o + j, none⟩ = some u) (hT : Tab w) :
   Calls Tryd.prog 52 #[.agg (cells8 st), .slice (some ⟨bb, o, none⟩) b.length cap] w fun e w' => e = .returned (.agg (cells8 (mix st b))) ∧ Kept no w w' := by
  have K0 : Kept no w ((w.alloc (.cells (cells8 st) 81)).alloc (.cells #[.int .u32 0, .int .u32 0, .int .u32 0, .int .u32 0, .int .u32 0, .int .u32 0, .int .u32 0, .int .u32 0] 81)) := ((Kept.refl no w).alloc _).alloc _
  have H0 : ((w.alloc (.cells (cells8 st) 81)).alloc (.cells #[.int .u32 0, .int .u32 0, .int .u32 0, .int .u32 0, .int .u32 0, .int .u32 0, .int .u32 0, .int .u32 0] 81)).heap[w.heap.size]? = some (.cells (cells8 st) 81 (0,0)) := by rw [heap_alloc_old _ _ (by simp), heap_alloc_new]
  have H1 : ((w.alloc (.cells (cells8 st) 81)).alloc (.cells #[.int .u32 0, .int .u32 0, .int .u32 0, .int .u32 0, .int .u32 0, .int .u32 0, .int .u32 0, .int .u32 0] 81)).heap[w.heap.size + 1]? = some (.cells #[.int .u32 0, .int .u32 0, .int .u32 0, .int .u32 0, .int .u32 0, .int .u32 0, .int .u32 0, .int .u32 0] 81 (0,0)) := by rw [← World.size_alloc (w := w), heap_alloc_new]
  have HS := sched_any bb o cap b ((w.alloc (.cells (cells8 st) 81)).alloc (.cells #[.int .u32 0, .int .u32 0, .int .u32 0, .int .u32 0, .int .u32 0, .int .u32 0, .int .u32 0, .int .u32 0] 81)) h64 hnm (fun j u hu => K0.cell (hc j u hu) id)
  have hT' : Hd (∀ w', Kept no w w' → Tab w') := ⟨fun w' hk i hi => hk.cell (hT i hi) id⟩
  replace HS := hid HS
  clear hT hc
  replace H0 := hid H0
  replace H1 := hid H1
  replace K0 := hid K0
  go_enter Tryd.func52, Tryd.ntmps52
  go_wp2_with fail
  refine HS.out.mono ?_
  rintro e w2 ⟨rfl, hk2⟩
  have K2 := K0.out.trans' hk2
  have H0' := (hk2.block w.heap.size (by simp; omega) id).trans H0.out
  have H1' := (hk2.block (w.heap.size+1) (by simp) id).trans H1.out
  clear H0 H1 K0 HS hk2
  have hsz : Hd (((sched b).map U).toArray.size = 64) := ⟨by simp [sched_length b h64]⟩
  have hinf : Hd ((Tryd.prog.info? 92).map (·.size) = some ((sched b).map U).toArray.size) := ⟨by rw [hsz.out]; kernel_rfl⟩
  have hone : Hd (((sched b).map U).toArray.all (·.oneCell') = true) := ⟨by simp [U, Value.oneCell']⟩
  have hold : Hd ((arr (fun _ => 0) 64).size = ((sched b).map U).toArray.size) := ⟨by rw [hsz.out]; simp [arr]⟩
  generalize hA : ((sched b).map U).toArray = A at hsz hinf hone hold ⊢
  have HA := hid hA
  clear hA
  have A0 := arr0
  have hN := hid (show (w2.alloc (.cells (arr (fun _ => 0) 64) 92)).heap[w2.heap.size]? = _ from heap_alloc_new w2 _)
  have hone8 : Hd ((cells8 st).all (·.oneCell') = true) := ⟨cells8_one _⟩
  have hinf8 : Hd ((Tryd.prog.info? 81).map (·.size) = some (cells8 st).size) := ⟨by rw [cells8_size]; exact inf8⟩
  have hold8 : Hd ((#[.int .u32 0, .int .u32 0, .int .u32 0, .int .u32 0, .int .u32 0, .int .u32 0, .int .u32 0, .int .u32 0] : Array Value).size = (cells8 st).size) := ⟨by rw [cells8_size]; rfl⟩
  obtain ⟨w3, hw3, P1, P2, P3, P4, P5, P6⟩ : ∃ w3, w3 = (w2.alloc (.cells (arr (fun _ => 0) 64) 92)).setRow w2.heap.size A ∧ w3.heap[w.heap.size]? = some (.cells (cells8 st) 81 (0,0)) ∧ w3.heap[w.heap.size + 1]? = some (.cells #[.int .u32 0, .int .u32 0, .int .u32 0, .int .u32 0, .int .u32 0, .int .u32 0, .int .u32 0, .int .u32 0] 81 (0,0)) ∧ w3.heap[w2.heap.size]? = some (.cells A 92 (0,0)) ∧ Kept no w w3 ∧ w.heap.size + 1 < w2.heap.size ∧ w3.heap.size = w2.heap.size + 1 := by
    have l1 : w.heap.size + 1 < w2.heap.size := (Array.getElem?_eq_some_iff.1 H1').1
    refine ⟨_, rfl, ?_, ?_, setRow_heap _ _ _ _ _ _ hN.out, (K2.alloc _).setRow (.inr (Nat.le_of_lt (Nat.lt_of_succ_lt l1))) _, l1, by simp⟩
    · rw [setRow_other _ _ _ _ (by omega), heap_alloc_old _ _ (by omega)]; exact H0'
    · rw [setRow_other _ _ _ _ (by omega), heap_alloc_old _ _ (by omega)]; exact H1'
  have hN8 := hid (heap_alloc_new w3 (.cells #[.int .u32 0, .int .u32 0, .int .u32 0, .int .u32 0, .int .u32 0, .int .u32 0, .int .u32 0, .int .u32 0] 81))
  replace hw3 := hid hw3
  replace P6 := hid P6
  clear H0' H1' K2
  go_wp2_with (first | (with_reducible refine wpList_store_row rfl 92 _ _ rfl w2.heap.size A rfl rfl 92 _ hN.out hinf.out hold.out hone.out ?_; rw [← hw3.out]) | (with_reducible refine wpList_load_row rfl 81 _ rfl w.heap.size rfl 81 _ _ _ P1 Tryd.underlying81 rfl hinf8.out ?_) | (with_reducible refine wpList_store_row rfl 81 _ _ rfl w3.heap.size (cells8 st) rfl rfl 81 _ hN8.out hinf8.out hold8.out hone8.out ?_))
  obtain ⟨w4, hw4, R1, R2, R3, R4, R5⟩ : ∃ w4, w4 = (w3.alloc (.cells #[.int .u32 0, .int .u32 0, .int .u32 0, .int .u32 0, .int .u32 0, .int .u32 0, .int .u32 0, .int .u32 0] 81)).setRow w3.heap.size (cells8 st) ∧ w4.heap[w.heap.size]? = some (.cells (cells8 st) 81 (0,0)) ∧ w4.heap[w.heap.size + 1]? = some (.cells #[.int .u32 0, .int .u32 0, .int .u32 0, .int .u32 0, .int .u32 0, .int .u32 0, .int .u32 0, .int .u32 0] 81 (0,0)) ∧ w4.heap[w2.heap.size]? = some (.cells A 92 (0,0)) ∧ w4.heap[w3.heap.size]? = some (.cells (cells8 st) 81 (0,0)) ∧ Kept no w w4 := by
    have l6 := P6.out
    refine ⟨_, rfl, ?_, ?_, ?_, setRow_heap _ _ _ _ _ _ hN8.out, (P4.alloc _).setRow (.inr (by omega)) _⟩
    · rw [setRow_other _ _ _ _ (by omega), heap_alloc_old _ _ (by omega)]; exact P1
    · rw [setRow_other _ _ _ _ (by omega), heap_alloc_old _ _ (by omega)]; exact P2
    · rw [setRow_other _ _ _ _ (by omega), heap_alloc_old _ _ (by omega)]; exact P3
  rw [← hw4]
  clear P1 P2 P3 P4 hN8 hN hw3 hw4 A0 hold8
  have hAc : Hd (∀ (wr : World), wr.heap[w2.heap.size]? = some (.cells A 92 (0,0)) → ∀ k, k < 64 → wr.cell? ⟨w2.heap.size, k, none⟩ = some (.int .u32 (((sched b).getD k 0).toNat : Int))) := ⟨fun wr h k hk => by
    rw [cell_of_row wr _ k A 92 (0,0) h, ← HA.out]
    have := sched_length b h64
    simp [U, hk, this]⟩
  go_loopw [7, 17] (fun _ i wr => ∃ k : Nat, k ≤ 64 ∧ i = .int .i64 k ∧ MR w w.heap.size (w.heap.size + 1) w2.heap.size w3.heap.size st (rounds (sched b) k st) A wr)
    (fun _ i _ => 64 - (intOf i).toNat)
  case atStart => exact ⟨0, by omega, rfl, R1, R2, R3, R4, R5⟩
  case round =>
    clear R1 R2 R3 R4 R5 w4
    obtain ⟨k, hk, rfl, R⟩ := hrel
    by_cases hlt : k < 64
    · have Hnext := hid (show rounds (sched b) (k+1) st = (rounds (sched b) k st).round (K.getD k 0) ((sched b).getD k 0) from rfl)
      have F := MF.of R.fs (hT'.out wr R.kept k hlt) (hAc.out wr R.fw k hlt)
      generalize rounds (sched b) k st = s at Hnext R F
      obtain ⟨xa, xb, xc, xd, xe, xf, xg, xh⟩ := s
      generalize K.getD k 0 = kk at Hnext F
      generalize (sched b).getD k 0 = ww at Hnext F
      have hkk : (k : Int) < 64 := by omega
      replace R := hid R
      obtain ⟨c0, c1, c2, c3, c4, c5, c6, c7, ck, cw⟩ := id F
      replace F := hid F
      simp only at c0 c1 c2 c3 c4 c5 c6 c7
      go_wp2_with fail
      go_quiet ((go_at_call 63; first | (with_reducible exact rot6q _ _ _) | (with_reducible exact rot11q _ _ _) | (with_reducible exact rot25q _ _ _)))
      clear c0 c1 c2 c3 c4 c5 c6 c7 ck cw
      replace R := R.out.drewN nq
      replace F := F.out.drewN nq
      generalize wr.drewN nq = wa at F R ⊢
      clear wr
      replace R := hid R
      obtain ⟨c0, c1, c2, c3, c4, c5, c6, c7, ck, cw⟩ := id F
      replace F := hid F
      simp only at c0 c1 c2 c3 c4 c5 c6 c7
      simp only [u_xor]
      generalize hS1 : rotr xe 6 ^^^ rotr xe 11 ^^^ rotr xe 25 = vS1
      replace hS1 := hid hS1
      go_wp2_with fail
      simp only [u_and, u_notx]
      simp only [u_xor]
      generalize hch : xe &&& xf ^^^ ~~~xe &&& xg = vch
      replace hch := hid hch
      go_quiet (fail)
      clear c0 c1 c2 c3 c4 c5 c6 c7 ck cw
      replace R := R.out.drewN nq
      replace F := F.out.drewN nq
      generalize wa.drewN nq = wb at F R ⊢
      clear wa
      replace R := hid R
      obtain ⟨c0, c1, c2, c3, c4, c5, c6, c7, ck, cw⟩ := id F
      replace F := hid F
      simp only at c0 c1 c2 c3 c4 c5 c6 c7
      simp only [u_sum4, u_sum3, u_sum2]
      generalize ht1 : xh + vS1 + vch + kk + ww = vt1
      replace ht1 := hid ht1
      go_wp2_with fail
      go_quiet ((go_at_call 63; first | (with_reducible exact rot2q _ _ _) | (with_reducible exact rot13q _ _ _) | (with_reducible exact rot22q _ _ _)))
      clear c0 c1 c2 c3 c4 c5 c6 c7 ck cw
      replace R := R.out.drewN nq
      replace F := F.out.drewN nq
      generalize wb.drewN nq = wc at F R ⊢
      clear wb
      have R4 := hid R.fs
      replace R := hid R
      obtain ⟨c0, c1, c2, c3, c4, c5, c6, c7, ck, cw⟩ := id F
      replace F := hid F
      simp only at c0 c1 c2 c3 c4 c5 c6 c7
      simp only [u_xor]
      generalize hS0 : rotr xa 2 ^^^ rotr xa 13 ^^^ rotr xa 22 = vS0
      replace hS0 := hid hS0
      go_wp2_with (with_reducible refine wpList_store_row rfl 81 _ _ rfl w3.heap.size _ rfl rfl 81 _ R4.out ?_ ?_ ?_ ?_)
      case refine_1 => kernel_rfl
      case refine_2 => rfl
      case refine_3 => simp [Value.oneCell']
      simp only [u_and]
      simp only [u_xor]
      simp only [u_sumr, u_sum2]
      go_roundw
      case rel =>
        refine ⟨k + 1, by omega, by go_num, ?_⟩
        have e : cells8 ((⟨xa, xb, xc, xd, xe, xf, xg, xh⟩ : St).round kk ww) = cells8 ⟨vt1 + (vS0 + (xa &&& xb ^^^ xa &&& xc ^^^ xb &&& xc)), xa, xb, xc, xd + vt1, xe, xf, xg⟩ := by
          rw [← ht1.out, ← hS0.out, ← hS1.out, ← hch.out]; rfl
        rw [Hnext.out]
        obtain ⟨g1, g2, g3, g4, g5⟩ := R.out
        have l5 := P5
        have l6 := P6.out
        refine ⟨?_, ?_, ?_, ?_, g5.setRow (.inr (by omega)) _⟩
        · rw [setRow_other _ _ _ _ (by omega)]; exact g1
        · rw [setRow_other _ _ _ _ (by omega)]; exact g2
        · rw [setRow_other _ _ _ _ (by omega)]; exact g3
        · rw [e]; exact setRow_heap _ _ _ _ _ _ g4
      case measure => simp [intOf]; omega
    · obtain rfl : k = 64 := by omega
      simp only [show ((64 : Nat) : Int) = 64 from rfl]
      generalize hs : rounds (sched b) 64 st = s at R
      replace hs := hid hs
      obtain ⟨g1, g2, _, g4, g5⟩ := R
      have M0 : MA w w.heap.size (w.heap.size + 1) w3.heap.size st s 0 wr := ⟨by rw [g1, cells8_arr]; rfl, g2, by rw [g4, cells8_arr], g5⟩
      clear g1 g2 g4 g5
      replace M0 := hid M0
      clear hsz hinf hone hold HA hAc hT'
      go_wp2
      go_loopw [13, 108] (fun _ i wr => ∃ k : Nat, k ≤ 8 ∧ i = .int .i64 k ∧ MA w w.heap.size (w.heap.size + 1) w3.heap.size st s k wr)
        (fun _ i _ => 8 - (intOf i).toNat)
      case atStart => exact ⟨0, by omega, rfl, M0.out⟩
      case round =>
        clear M0
        obtain ⟨k, hk, rfl, R⟩ := hrel
        have l5 := P5
        have l6 := P6.out
        by_cases hlt : k < 8
        · have c1 := arr_cell R.fh k (by omega)
          have c2 := arr_cell R.fs k (by omega)
          have f1 := row_free R.fh k
          have hset := hid (row_set (w := wr.drew) R.fh k (U (st.list.getD k 0 + s.list.getD k 0)))
          replace R := hid R
          simp only [addK, Nat.lt_irrefl, if_false] at c1
          generalize hx : st.list.getD k 0 = x at c1 hset
          generalize hy : s.list.getD k 0 = y at c2 hset
          replace hx := hid hx
          replace hy := hid hy
          have hkk : (k : Int) < 8 := by omega
          clear l6
          go_wp2_with fail
          go_still_tail 8, (by kernel_rfl)
          change wpList _ _ _ _ _ (World.drew _)
          rw [u_add]
          have R' : MA w w.heap.size (w.heap.size + 1) w3.heap.size st s (k + 1) (wr.drew.setCell ⟨w.heap.size, k, none⟩ (U (x + y))) := by
            have l6 := P6.out
            obtain ⟨g1, g2, g3, g4⟩ := R.out
            refine ⟨?_, ?_, ?_, g4.drew.setCell (.inr (Nat.le_refl _)) _⟩
            · rw [hset.out, arr_set (f' := addK st s (k + 1)) (by simp only [addK, Nat.lt_succ_self, if_true]; rw [hx.out, hy.out]) (fun i _ hne => by
                simp only [addK]
                by_cases hi : i < k
                · rw [if_pos hi, if_pos (by omega)]
                · rw [if_neg hi, if_neg (by omega)])]
            · rw [Below.heap_setCell _ _ _ _ (by simp)]; exact g2
            · rw [Below.heap_setCell _ _ _ _ (by simp; omega)]; exact g3
          replace R' := hid R'
          clear R hset hx hy
          generalize x + y = z at R' ⊢
          go_wp2
          go_roundw
          case rel => exact ⟨k + 1, by omega, by go_num, R'.out⟩
          case measure => simp [intOf]; omega
        · obtain rfl : k = 8 := by omega
          obtain ⟨g1, g2, g3, g4⟩ := R
          rw [addK_all] at g1
          have hm : Hd (mix st b = st.add s) := ⟨mix_eq hs.out⟩
          have hone8 : Hd ((cells8 (st.add s)).all (·.oneCell') = true) := ⟨cells8_one _⟩
          have hinf8 : Hd ((Tryd.prog.info? 81).map (·.size) = some (cells8 (st.add s)).size) := ⟨by rw [cells8_size]; exact inf8⟩
          have hold8 : Hd ((#[.int .u32 0, .int .u32 0, .int .u32 0, .int .u32 0, .int .u32 0, .int .u32 0, .int .u32 0, .int .u32 0] : Array Value).size = (cells8 (st.add s)).size) := ⟨by rw [cells8_size]; rfl⟩
          have h2 := hid (setRow_heap wr (w.heap.size + 1) _ (cells8 (st.add s)) _ _ g2)
          replace g4 := hid g4
          clear l6 hs g3
          generalize st.add s = z at g1 hone8 hinf8 hold8 h2 hm
          go_wp2_with (first | (with_reducible refine wpList_load_row rfl 81 _ rfl w.heap.size rfl 81 _ _ _ g1 Tryd.underlying81 rfl hinf8.out ?_) | (with_reducible refine wpList_store_row rfl 81 _ _ rfl (w.heap.size + 1) (cells8 z) rfl rfl 81 _ g2 hinf8.out hold8.out hone8.out ?_))
          refine bodyPost_ret (v := .agg (cells8 z)) ?_ rfl ?_
          · exact results_cell_row rfl _ _ (w.heap.size + 1) 81 (cells8 z) (0, 0) _ rfl h2.out Tryd.underlying81 rfl hinf8.out
          · exact ⟨by rw [hm.out], g4.out.setRow (.inr (by omega)) _⟩
end Go.Proofs.YtggcbjchnefhfaaDoor
