/- slices.Sort of at most one integer (the prints of bits.Len as in folder 23). -/
import Derived.Test.YtaobaaaihgahfaaGreatNatV
import Derived.Test.YtaobaaaihgahfaaGreatKitV
import Derived.Test.YtaobaaaihgahfaaGreatGrAV
import Derived.Test.YtaobaaaihgahfaaGreatIrvCV
import Derived.Test.YtaobaaaihgahfaaGreatTwoV
namespace Go.Proofs.YtaobaaaihgahfaaGreat
open Go.Shelf Go.RowKit Go.Mk Go.Pil Go.Nt
def lenRen64 : Go.Shelf.Ren := ⟨fun | 129 => 190 | n => n, fun | 3 => 3 | 4 => 4 | 5 => 5 | 9 => 9 | 46 => 158 | 53 => 171 | n => n, fun n => n⟩
theorem lenLays64 : Go.Proofs.Lays.n129 Tryz.prog lenRen64 := { mixed := by kernel_rfl, f129 := by kernel_rfl, t3 := by kernel_rfl, a3 := fun _ => by kernel_rfl, z3 := fun _ => by kernel_rfl, v3 := fun _ => by kernel_rfl, t4 := by kernel_rfl, a4 := fun _ => by kernel_rfl, z4 := fun _ => by kernel_rfl, v4 := fun _ => by kernel_rfl, t5 := by kernel_rfl, a5 := fun _ => by kernel_rfl, z5 := fun _ => by kernel_rfl, v5 := fun _ => by kernel_rfl, t9 := by kernel_rfl, a9 := fun _ => by kernel_rfl, z9 := fun _ => by kernel_rfl, v9 := fun _ => by kernel_rfl, t46 := by kernel_rfl, a46 := fun _ => by kernel_rfl, z46 := fun _ => by kernel_rfl, v46 := fun _ => by kernel_rfl, t53 := by kernel_rfl, a53 := fun _ => by kernel_rfl, z53 := fun _ => by kernel_rfl, v53 := fun _ => by kernel_rfl }
theorem len64_any (x : Nat) (w : World) (h : x < 64) : Calls Tryz.prog 190 #[.int .u64 (x : Int)] w fun e w' => e = .returned (.int .i64 (Lib.bitLen x : Int)) ∧ w = w' :=
  (Go.Proofs.Any.bits_Len64 lenLays64 (x : Int) w (by omega) (by omega)).mono fun _ _ ⟨h1, h2⟩ => ⟨by rw [h1, Int.toNat_natCast], h2.symm⟩
set_option maxRecDepth 100000 in
set_option maxHeartbeats 1000000 in
theorem len_any (x : Nat) (w : World) (h : x < 64) : Calls Tryz.prog 131 #[.int .u64 (x : Int)] w fun e w' => e = .returned (.int .i64 (Lib.bitLen x : Int)) ∧ w = w' := by
  (have HL := hid (len64_any x w h)); (have h1 : (x : Int) < 64 := by omega)
  go_enter Tryz.func131, Tryz.ntmps131
  (go_wp2_with (refine HL.out.mono ?_; rintro e w' ⟨rfl, rfl⟩)); (go_ret); (exact ⟨rfl, rfl⟩)
set_option maxRecDepth 20000 in
set_option maxHeartbeats 2000000 in
theorem inso_any (v : Value) (n : Nat) (w : World) (hn : n ≤ 1) : Calls Tryz.prog 226 #[v, .int .i64 0, .int .i64 (n : Int)] w fun e w' => e = .returned (.tuple #[]) ∧ w' = w := by
  (have h1 : ¬ (1 : Int) < (n : Int) := by omega); (have h2 : (decide ((1 : Int) < (n : Int))) = false := by simp; omega)
  go_enter Tryz.func226, Tryz.ntmps226
  go_wp2
  go_loopw [6] (fun i wr => i = .int .i64 1 ∧ wr = w) (fun _ _ => 0)
  case atStart => exact ⟨rfl, rfl⟩
  case round =>
    (obtain ⟨rfl, rfl⟩ := hrel); (go_wp2)
    go_end0
    exact ⟨rfl, rfl⟩
set_option maxRecDepth 20000 in
set_option maxHeartbeats 2000000 in
theorem pdqo_any (v : Value) (n : Nat) (l : Int) (w : World) (hn : n ≤ 1) : Calls Tryz.prog 203 #[v, .int .i64 0, .int .i64 (n : Int), .int .i64 l] w fun e w' => e = .returned (.tuple #[]) ∧ w' = w := by
  (have H := hid (inso_any v n w hn)); (have h1 : (n : Int) ≤ 12 := by omega); (have h0 : n ≤ 12 := by omega)
  go_enter Tryz.func203, Tryz.ntmps203
  go_wp2
  go_loopw [1, 2] (fun a b wr => a = .int .i64 0 ∧ b = .int .i64 (n : Int) ∧ wr = w) (fun _ _ _ => 0)
  case atStart => exact ⟨rfl, rfl, rfl⟩
  case round =>
    (obtain ⟨rfl, rfl, rfl⟩ := hrel); (go_wp2_with fail); (with_reducible refine H.out.mono ?_); (rintro e w2 ⟨rfl, rfl⟩); (go_wp2); (refine bodyPost_ret (v := .tuple #[]) (results_none rfl _ _ _) rfl ?_); (exact ⟨rfl, rfl⟩)
set_option maxRecDepth 20000 in
set_option maxHeartbeats 2000000 in
theorem isort_any (ao : Option Addr) (n cap : Nat) (w : World) (hn : n ≤ 1) : Calls Tryz.prog 157 #[.slice ao n cap] w fun e w' => e = .returned (.tuple #[]) ∧ w' = w := by
  (have HL := hid (len_any n w (by omega))); (have H := hid (fun l => pdqo_any (.slice ao n cap) n l w hn)); (have h0 : (n : Int) ≤ 1 := by omega)
  go_enter Tryz.func157, Tryz.ntmps157
  (go_wp2_with fail); (with_reducible refine HL.out.mono ?_); (rintro e w2 ⟨rfl, rfl⟩); (go_wp2_with fail); (with_reducible refine (H.out _).mono ?_); (rintro e w3 ⟨rfl, rfl⟩); (go_wp2)
  go_end0
  exact ⟨rfl, rfl⟩
end Go.Proofs.YtaobaaaihgahfaaGreat

/- gregory.elect, meek.elect of at most one candidate (printed by gen_elec.py). -/
namespace Go.Gg
open Go.RowKit
def zI (l : List Int) : Array Value := (l.map fun z => Value.int .i64 z).toArray
theorem zI_set (l : List Int) (c : Nat) (x : Int) : (zI l).setIfInBounds c (.int .i64 x) = zI (l.set c x) := by
  (unfold zI); (rw [List.setIfInBounds_toArray, List.map_set])
theorem zI_at {l : List Int} {c : Nat} (h : c < l.length) : (zI l)[c]? = some (.int .i64 (l.getD c 0)) := by
  (unfold zI); (rw [List.getElem?_toArray, List.getElem?_map, List.getElem?_eq_getElem h, List.getD_eq_getElem?_getD, List.getElem?_eq_getElem h]; rfl)
end Go.Gg
namespace Go.Proofs.YtaobaaaihgahfaaGreat
open Go.RowKit Go.Mk Go.Pil Go.Nt Go.Gg
theorem zI_rd {w : World} {g : Nat} {l : List Int} (h : w.heap[g]? = some (.cells (zI l) 3 (0, 0))) (n : Nat) (hn : l.length = n) (hm : n ≤ maxLen) : RdZ w (.slice (some ⟨g, 0, none⟩) n n) l :=
  blk_RdZ l n hn hm rfl h
/-- Three blocks turn. -/
def Sg (gk gs gR : Nat) (j : Nat) : Prop := j = gk ∨ j = gs ∨ j = gR
/-- What electing one candidate leaves. -/
structure ElR (gk gs gR : Nat) (OF : Nat) (tk : TypeId) (C D : Array Value) (st : List Int) (c : Nat) (f : Int) (w w' : World) (v : Value) : Prop where
  kb : w'.heap[gk]? = some (.cells (C.setIfInBounds OF (.int .i64 (f + 1))) tk (0, 0))
  sb : w'.heap[gs]? = some (.cells (zI (st.set c 1)) 3 (0, 0))
  ro : w'.heap[gR]? = some (.cells (D.setIfInBounds 11 v) 78 (0, 0))
  ow : w'.ownsRow 0 3 1 v 1 [.int .i64 (c : Int)]
  new : New w v
  kept : Kept (Sg gk gs gR) w w'
set_option maxRecDepth 20000 in
set_option maxHeartbeats 2000000 in
/-- No candidates: nothing turns. -/
theorem elg0_any (gk gR m : Nat) (ae : Option Addr) (ce cc : Nat) (ao : Option Addr) (w : World) (hm : m ≤ 1) (c11 : w.cell? ⟨gR, 11, none⟩ = some (.slice ae m ce)) :
    Calls Tryz.prog 119 #[.pointer (some ⟨gk, 0, none⟩), .pointer (some ⟨gR, 0, none⟩), .slice ao 0 cc] w fun e w' => e = .returned (.tuple #[]) ∧ w' = w := by
  have HS := hid (isort_any ae m ce w hm)
  go_enter Tryz.func119, Tryz.ntmps119
  go_wp2
  go_loopw [10] (fun i wr => i = .int .i64 0 ∧ wr = w) (fun _ _ => 0)
  case atStart => exact ⟨rfl, rfl⟩
  case round =>
    (obtain ⟨rfl, rfl⟩ := hrel); (go_wp2_with fail); (with_reducible refine HS.out.mono ?_); (rintro e w2 ⟨rfl, rfl⟩); (go_wp2)
    go_end0
    exact ⟨rfl, rfl⟩
set_option maxRecDepth 20000 in
set_option maxHeartbeats 4000000 in
/-- One candidate, the first that this round elects. -/
theorem elg1_any (gk gs gR n c cc : Nat) (f : Int) (ao : Option Addr) (C D : Array Value) (st : List Int) (w : World) (hks : gk ≠ gs) (hkR : gk ≠ gR) (hsR : gs ≠ gR) (hcn : c < n) (_hn : n ≤ 1000) (hf : 0 ≤ f ∧ f ≤ 1000) (hst : st.length = n)
    (kb : w.heap[gk]? = some (.cells C 119 (0, 0))) (sb : w.heap[gs]? = some (.cells (zI st) 3 (0, 0))) (rb : w.heap[gR]? = some (.cells D 78 (0, 0)))
    (h13 : C[13]? = some (.slice (some ⟨gs, 0, none⟩) n n)) (h15 : C[15]? = some (.int .i64 f)) (h11 : D[11]? = some (.slice none 0 0)) (rc : RdZ w (.slice ao 1 cc) [(c : Int)]) :
    Calls Tryz.prog 119 #[.pointer (some ⟨gk, 0, none⟩), .pointer (some ⟨gR, 0, none⟩), .slice ao 1 cc] w fun e w' => e = .returned (.tuple #[]) ∧ ∃ v, ElR gk gs gR 15 119 C D st c f w w' v := by
  (obtain ⟨b, o, rfl, hc⟩ := RdZ.at rc 0 (by simp)); (have hc0 : Hd (w.cell? ⟨b, o, none⟩ = some (.int .i64 (c : Int))) := ⟨hc⟩); (have HS := hid (fun (ae : Option Addr) (ce : Nat) (W : World) => isort_any ae 1 ce W (by omega))); (have hkb := hid kb); (have hsb := hid sb); (have hrb := hid rb); (have hh13 := hid h13); (have hh15 := hid h15); (have hh11 := hid h11); (have hcn1 : (c : Int) < (n : Int) := by omega); (have hcn0 : (0 : Int) ≤ (c : Int) := by omega); (have hst' := hid hst); (have hwf : IntKind.i64.wrap (f + 1) = f + 1 := IntWalk.i64_in _ (by omega)); (clear kb sb rb h13 h15 h11 rc hc hst)
  go_enter Tryz.func119, Tryz.ntmps119
  go_wp2
  go_loopw [10] (fun i wr => (i = .int .i64 0 ∧ wr = w) ∨ (i = .int .i64 1 ∧ ∃ v, ElR gk gs gR 15 119 C D st c f w wr v)) (fun i _ => 1 - (intOf i).toNat)
  case atStart => exact .inl ⟨rfl, rfl⟩
  case round =>
    rcases hrel with ⟨rfl, rfl⟩ | ⟨rfl, v, hE⟩
    · (have a0 : wr.cell? ⟨b, o, none⟩ = some (.int .i64 (c : Int)) := hc0.out); (have a1 : wr.cell? ⟨gk, 13, none⟩ = some (.slice (some ⟨gs, 0, none⟩) n n) := cell_at hkb.out hh13.out); (have a2 : wr.cell? ⟨gs, c, none⟩ = some (.int .i64 (st.getD c 0)) := cell_at hsb.out (zI_at (by rw [hst'.out]; exact hcn))); (have a3 := row_free hsb.out c); (have K1 := hid ((Kept.refl (Sg gk gs gR) wr).setCell (a := ⟨gs, c, none⟩) (.inl (.inr (.inl rfl))) (.int .i64 1))); (have k1 := (Kept.refl (fun j => j = gs) wr).setCell (a := ⟨gs, c, none⟩) (.inl rfl) (.int .i64 1)); (have s1 : Hd ((wr.setCell ⟨gs, c, none⟩ (.int .i64 1)).heap[gs]? = some (.cells (zI (st.set c 1)) 3 (0, 0))) := ⟨by rw [setCell_row hsb.out, zI_set]⟩); (have kk1 := hid ((k1.block gk (lt_of_heap hkb.out) hks).trans hkb.out)); (have rr1 := hid ((k1.block gR (lt_of_heap hrb.out) (Ne.symm hsR)).trans hrb.out)); (clear k1); (go_upto_region 4 with fail); (clear a0 a1 a2 a3); (obtain ⟨w1, hw1⟩ : ∃ W, wr.setCell ⟨gs, c, none⟩ (.int .i64 1) = W := ⟨_, rfl⟩); (rw [hw1] at K1 s1 kk1 rr1); (rw [hw1]); (clear hw1); (have a1 : w1.cell? ⟨gk, 15, none⟩ = some (.int .i64 f) := cell_at kk1.out hh15.out); (have a3 := row_free kk1.out 15); (have K2 := hid (K1.out.setCell (a := ⟨gk, 15, none⟩) (.inl (.inl rfl)) (.int .i64 (f + 1)))); (have k2 := (Kept.refl (fun j => j = gk) w1).setCell (a := ⟨gk, 15, none⟩) (.inl rfl) (.int .i64 (f + 1))); (have kk2 : Hd ((w1.setCell ⟨gk, 15, none⟩ (.int .i64 (f + 1))).heap[gk]? = some (.cells (C.setIfInBounds 15 (.int .i64 (f + 1))) 119 (0, 0))) := ⟨setCell_row kk1.out _ _⟩); (have s2 := hid ((k2.block gs (lt_of_heap s1.out) (Ne.symm hks)).trans s1.out)); (have rr2 := hid ((k2.block gR (lt_of_heap rr1.out) (Ne.symm hkR)).trans rr1.out)); (clear k2); (go_upto_region 5 with fail); (clear a1 a3); (obtain ⟨w2, hw2⟩ : ∃ W, w1.setCell ⟨gk, 15, none⟩ (.int .i64 (f + 1)) = W := ⟨_, rfl⟩); (rw [hw2] at K2 s2 kk2 rr2); (rw [hw2]); (clear hw2 K1 s1 kk1 rr1); (have a1 : w2.cell? ⟨gR, 11, none⟩ = some (.slice none 0 0) := cell_at rr2.out hh11.out); (have hnil : Hd (w2.ownsRow 0 3 1 (.slice none 0 0) 0 []) := ⟨World.ownsRow_nil _ _ _ _⟩); (go_wp2_with (at_builtin; refine wpList_append_lit _ rfl _ _ 26 rfl 3 1 8 TInts _ _ _ rfl hnil.out 1 [.int .i64 (c : Int)] rfl rfl (by simp [Value.oneCell']) (by decide) (by decide) ?_)); (intro v' w3 h2 h3 h4 _); (obtain ⟨_, a3_, c3_, rfl, _⟩ := Rd.of_own h2); (have k3 : Kept no w2 w3 := h3.mono fun k _ (e : ob (.slice none 0 0) k) => by cases e); (have hnew3 : New w2 (.slice a3_ 1 c3_) := h4.elim (fun h => .inl h) fun h => .inr h); (have rr3 := k3.blk rr2.out); (have a3 := row_free rr3 11); (have a1 : w3.cell? ⟨gR, 11, none⟩ = some (.slice none 0 0) := cell_at rr3 hh11.out); (have kR := (Kept.refl (fun j => j = gR) w3).setCell (a := ⟨gR, 11, none⟩) (.inl rfl) (.slice a3_ 1 c3_)); (have hE : Hd (ElR gk gs gR 15 119 C D st c f wr (w3.setCell ⟨gR, 11, none⟩ (.slice a3_ 1 c3_)) (.slice a3_ 1 c3_)) := ⟨⟨(kR.block gk (lt_of_heap (k3.blk kk2.out)) hkR).trans (k3.blk kk2.out), (kR.block gs (lt_of_heap (k3.blk s2.out)) hsR).trans (k3.blk s2.out), setCell_row rr3 _ _, kR.ownsRow h2 fun j hj (e : j = gR) => own_ne h2 rr3 (by decide) j hj e, hnew3.of K2.out.size, (K2.out.trans' k3).setCell (.inl (.inr (.inr rfl))) _⟩⟩); (clear kR rr3 h2 h3 h4 hnew3 K2 k3 rr2 hnil kk2 s2); (go_upto_region 6 with fail); (obtain ⟨w4, hw4⟩ : ∃ W, w3.setCell ⟨gR, 11, none⟩ (.slice a3_ 1 c3_) = W := ⟨_, rfl⟩); (rw [hw4] at hE); (rw [hw4]); (clear hw4 a1 a3); (go_wp2); (go_roundw)
      case rel => first | exact .inr ⟨rfl, _, hE.out⟩ | ((repeat apply Exists.intro); exact ⟨.inr ⟨rfl, _, hE.out⟩, rfl⟩)
      case measure => simp [intOf]
    · (have hE' := hid hE); (obtain ⟨_, ae, ce, rfl, _⟩ := Rd.of_own hE.ow)
      have hD : (D.setIfInBounds 11 (.slice ae 1 ce))[11]? = some (.slice ae 1 ce) := by
        (obtain ⟨hz, _⟩ := Array.getElem?_eq_some_iff.1 hh11.out); (rw [Array.getElem?_setIfInBounds]; simp [hz])
      (have a1 : wr.cell? ⟨gR, 11, none⟩ = some (.slice ae 1 ce) := cell_at hE.ro hD); (clear hE hD); (go_wp2_with fail); (with_reducible refine (HS.out _ _ _).mono ?_); (rintro e w5 ⟨rfl, rfl⟩); (go_wp2)
      go_end0
      exact ⟨rfl, _, hE'.out⟩
set_option maxRecDepth 20000 in
set_option maxHeartbeats 4000000 in
/-- One candidate, the first that this round elects. -/
theorem elm1_any (gk gs gR n c cc : Nat) (f : Int) (ao : Option Addr) (C D : Array Value) (st : List Int) (w : World) (hks : gk ≠ gs) (hkR : gk ≠ gR) (hsR : gs ≠ gR) (hcn : c < n) (_hn : n ≤ 1000) (hf : 0 ≤ f ∧ f ≤ 1000) (hst : st.length = n)
    (kb : w.heap[gk]? = some (.cells C 113 (0, 0))) (sb : w.heap[gs]? = some (.cells (zI st) 3 (0, 0))) (rb : w.heap[gR]? = some (.cells D 78 (0, 0)))
    (h13 : C[12]? = some (.slice (some ⟨gs, 0, none⟩) n n)) (h15 : C[14]? = some (.int .i64 f)) (h11 : D[11]? = some (.slice none 0 0)) (rc : RdZ w (.slice ao 1 cc) [(c : Int)]) :
    Calls Tryz.prog 107 #[.pointer (some ⟨gk, 0, none⟩), .pointer (some ⟨gR, 0, none⟩), .slice ao 1 cc] w fun e w' => e = .returned (.tuple #[]) ∧ ∃ v, ElR gk gs gR 14 113 C D st c f w w' v := by
  (obtain ⟨b, o, rfl, hc⟩ := RdZ.at rc 0 (by simp)); (have hc0 : Hd (w.cell? ⟨b, o, none⟩ = some (.int .i64 (c : Int))) := ⟨hc⟩); (have HS := hid (fun (ae : Option Addr) (ce : Nat) (W : World) => isort_any ae 1 ce W (by omega))); (have hkb := hid kb); (have hsb := hid sb); (have hrb := hid rb); (have hh13 := hid h13); (have hh15 := hid h15); (have hh11 := hid h11); (have hcn1 : (c : Int) < (n : Int) := by omega); (have hcn0 : (0 : Int) ≤ (c : Int) := by omega); (have hst' := hid hst); (have hwf : IntKind.i64.wrap (f + 1) = f + 1 := IntWalk.i64_in _ (by omega)); (clear kb sb rb h13 h15 h11 rc hc hst)
  go_enter Tryz.func107, Tryz.ntmps107
  go_wp2
  go_loopw [10] (fun i wr => (i = .int .i64 0 ∧ wr = w) ∨ (i = .int .i64 1 ∧ ∃ v, ElR gk gs gR 14 113 C D st c f w wr v)) (fun i _ => 1 - (intOf i).toNat)
  case atStart => exact .inl ⟨rfl, rfl⟩
  case round =>
    rcases hrel with ⟨rfl, rfl⟩ | ⟨rfl, v, hE⟩
    · (have a0 : wr.cell? ⟨b, o, none⟩ = some (.int .i64 (c : Int)) := hc0.out); (have a1 : wr.cell? ⟨gk, 12, none⟩ = some (.slice (some ⟨gs, 0, none⟩) n n) := cell_at hkb.out hh13.out); (have a2 : wr.cell? ⟨gs, c, none⟩ = some (.int .i64 (st.getD c 0)) := cell_at hsb.out (zI_at (by rw [hst'.out]; exact hcn))); (have a3 := row_free hsb.out c); (have K1 := hid ((Kept.refl (Sg gk gs gR) wr).setCell (a := ⟨gs, c, none⟩) (.inl (.inr (.inl rfl))) (.int .i64 1))); (have k1 := (Kept.refl (fun j => j = gs) wr).setCell (a := ⟨gs, c, none⟩) (.inl rfl) (.int .i64 1)); (have s1 : Hd ((wr.setCell ⟨gs, c, none⟩ (.int .i64 1)).heap[gs]? = some (.cells (zI (st.set c 1)) 3 (0, 0))) := ⟨by rw [setCell_row hsb.out, zI_set]⟩); (have kk1 := hid ((k1.block gk (lt_of_heap hkb.out) hks).trans hkb.out)); (have rr1 := hid ((k1.block gR (lt_of_heap hrb.out) (Ne.symm hsR)).trans hrb.out)); (clear k1); (go_upto_region 4 with fail); (clear a0 a1 a2 a3); (obtain ⟨w1, hw1⟩ : ∃ W, wr.setCell ⟨gs, c, none⟩ (.int .i64 1) = W := ⟨_, rfl⟩); (rw [hw1] at K1 s1 kk1 rr1); (rw [hw1]); (clear hw1); (have a1 : w1.cell? ⟨gk, 14, none⟩ = some (.int .i64 f) := cell_at kk1.out hh15.out); (have a3 := row_free kk1.out 14); (have K2 := hid (K1.out.setCell (a := ⟨gk, 14, none⟩) (.inl (.inl rfl)) (.int .i64 (f + 1)))); (have k2 := (Kept.refl (fun j => j = gk) w1).setCell (a := ⟨gk, 14, none⟩) (.inl rfl) (.int .i64 (f + 1))); (have kk2 : Hd ((w1.setCell ⟨gk, 14, none⟩ (.int .i64 (f + 1))).heap[gk]? = some (.cells (C.setIfInBounds 14 (.int .i64 (f + 1))) 113 (0, 0))) := ⟨setCell_row kk1.out _ _⟩); (have s2 := hid ((k2.block gs (lt_of_heap s1.out) (Ne.symm hks)).trans s1.out)); (have rr2 := hid ((k2.block gR (lt_of_heap rr1.out) (Ne.symm hkR)).trans rr1.out)); (clear k2); (go_upto_region 5 with fail); (clear a1 a3); (obtain ⟨w2, hw2⟩ : ∃ W, w1.setCell ⟨gk, 14, none⟩ (.int .i64 (f + 1)) = W := ⟨_, rfl⟩); (rw [hw2] at K2 s2 kk2 rr2); (rw [hw2]); (clear hw2 K1 s1 kk1 rr1); (have a1 : w2.cell? ⟨gR, 11, none⟩ = some (.slice none 0 0) := cell_at rr2.out hh11.out); (have hnil : Hd (w2.ownsRow 0 3 1 (.slice none 0 0) 0 []) := ⟨World.ownsRow_nil _ _ _ _⟩); (go_wp2_with (at_builtin; refine wpList_append_lit _ rfl _ _ 26 rfl 3 1 8 TInts _ _ _ rfl hnil.out 1 [.int .i64 (c : Int)] rfl rfl (by simp [Value.oneCell']) (by decide) (by decide) ?_)); (intro v' w3 h2 h3 h4 _); (obtain ⟨_, a3_, c3_, rfl, _⟩ := Rd.of_own h2); (have k3 : Kept no w2 w3 := h3.mono fun k _ (e : ob (.slice none 0 0) k) => by cases e); (have hnew3 : New w2 (.slice a3_ 1 c3_) := h4.elim (fun h => .inl h) fun h => .inr h); (have rr3 := k3.blk rr2.out); (have a3 := row_free rr3 11); (have a1 : w3.cell? ⟨gR, 11, none⟩ = some (.slice none 0 0) := cell_at rr3 hh11.out); (have kR := (Kept.refl (fun j => j = gR) w3).setCell (a := ⟨gR, 11, none⟩) (.inl rfl) (.slice a3_ 1 c3_)); (have hE : Hd (ElR gk gs gR 14 113 C D st c f wr (w3.setCell ⟨gR, 11, none⟩ (.slice a3_ 1 c3_)) (.slice a3_ 1 c3_)) := ⟨⟨(kR.block gk (lt_of_heap (k3.blk kk2.out)) hkR).trans (k3.blk kk2.out), (kR.block gs (lt_of_heap (k3.blk s2.out)) hsR).trans (k3.blk s2.out), setCell_row rr3 _ _, kR.ownsRow h2 fun j hj (e : j = gR) => own_ne h2 rr3 (by decide) j hj e, hnew3.of K2.out.size, (K2.out.trans' k3).setCell (.inl (.inr (.inr rfl))) _⟩⟩); (clear kR rr3 h2 h3 h4 hnew3 K2 k3 rr2 hnil kk2 s2); (go_upto_region 6 with fail); (obtain ⟨w4, hw4⟩ : ∃ W, w3.setCell ⟨gR, 11, none⟩ (.slice a3_ 1 c3_) = W := ⟨_, rfl⟩); (rw [hw4] at hE); (rw [hw4]); (clear hw4 a1 a3); (go_wp2); (go_roundw)
      case rel => first | exact .inr ⟨rfl, _, hE.out⟩ | ((repeat apply Exists.intro); exact ⟨.inr ⟨rfl, _, hE.out⟩, rfl⟩)
      case measure => simp [intOf]
    · (have hE' := hid hE); (obtain ⟨_, ae, ce, rfl, _⟩ := Rd.of_own hE.ow)
      have hD : (D.setIfInBounds 11 (.slice ae 1 ce))[11]? = some (.slice ae 1 ce) := by
        (obtain ⟨hz, _⟩ := Array.getElem?_eq_some_iff.1 hh11.out); (rw [Array.getElem?_setIfInBounds]; simp [hz])
      (have a1 : wr.cell? ⟨gR, 11, none⟩ = some (.slice ae 1 ce) := cell_at hE.ro hD); (clear hE hD); (go_wp2_with fail); (with_reducible refine (HS.out _ _ _).mono ?_); (rintro e w5 ⟨rfl, rfl⟩); (go_wp2)
      go_end0
      exact ⟨rfl, _, hE'.out⟩
end Go.Proofs.YtaobaaaihgahfaaGreat

/- gregory.move (printed by gen_move.py). -/
namespace Go.Gg
/-- A parcel as it is told. -/
structure Pl where
  prefs : List Int
  pv : Value
  n : Nat
  at_ : Nat
  p : Nat
  q : Nat
def Pc.pl (x : Pc) : Pl := ⟨x.prefs, x.pv, x.n, x.at_, x.w.p, x.w.q⟩
def nextAt (st prefs : List Int) : Nat → Nat → Nat
  | 0, a => a
  | f + 1, a => if st.getD (prefs.getD a 0).toNat 0 = 0 then a else nextAt st prefs f (a + 1)
/-- The next hopeful candidate's place. -/
def nextA (st prefs : List Int) (a : Nat) : Nat := nextAt st prefs (prefs.length - a) a
theorem nextA_end {st prefs : List Int} {a : Nat} (h : prefs.length ≤ a) : nextA st prefs a = a := by
  (unfold nextA); (rw [show prefs.length - a = 0 by omega]; rfl)
theorem nextA_stop {st prefs : List Int} {a : Nat} (h : a < prefs.length) (h0 : st.getD (prefs.getD a 0).toNat 0 = 0) : nextA st prefs a = a := by
  (unfold nextA); (rw [show prefs.length - a = (prefs.length - a - 1) + 1 by omega, nextAt, if_pos h0])
theorem nextA_step {st prefs : List Int} {a : Nat} (h : a < prefs.length) (h0 : st.getD (prefs.getD a 0).toNat 0 ≠ 0) : nextA st prefs a = nextA st prefs (a + 1) := by
  (unfold nextA); (rw [show prefs.length - a = (prefs.length - (a + 1)) + 1 by omega, nextAt, if_neg h0])
theorem flat_setk {α β : Type} (f : α → List β) (sz : Nat) (hf : ∀ x, (f x).length = sz) : ∀ (l : List α) (i j : Nat) (y : α) (v : β) (hi : i < l.length), j < sz → f y = (f l[i]).set j v → (l.flatMap f).set (i * sz + j) v = (l.set i y).flatMap f := by
  intro l
  induction l with
  | nil => intro i j y v h; simp at h
  | cons x l ih =>
    intro i j y v hi hj hy
    cases i with
    | zero =>
      (simp only [List.getElem_cons_zero] at hy); (rw [List.flatMap_cons, List.set_cons_zero, List.flatMap_cons, hy, Nat.zero_mul, Nat.zero_add, List.set_append_left _ _ (by rw [hf]; exact hj)])
    | succ i =>
      (simp only [List.getElem_cons_succ] at hy); (have := ih i j y v (by simpa using hi) hj hy); (rw [List.set_cons_succ, List.flatMap_cons, List.flatMap_cons, ← this, List.set_append_right _ _ (by rw [hf, Nat.succ_mul]; omega), hf])
      congr 2
      rw [Nat.succ_mul]; omega
/-- The list with its first k elements turned. -/
def stage {α : Type} (f : α → α) (L : List α) (k : Nat) : List α := (L.take k).map f ++ L.drop k
theorem stage_zero {α : Type} (f : α → α) (L : List α) : stage f L 0 = L := by simp [stage]
theorem stage_all {α : Type} (f : α → α) (L : List α) (k : Nat) (h : L.length ≤ k) : stage f L k = L.map f := by
  (unfold stage); (rw [List.take_of_length_le h, List.drop_eq_nil_of_le h, List.append_nil])
theorem stage_len {α : Type} (f : α → α) (L : List α) (k : Nat) : (stage f L k).length = L.length := by
  (unfold stage); (rw [List.length_append, List.length_map, List.length_take, List.length_drop]; omega)
theorem stage_at {α : Type} (f : α → α) (L : List α) (k : Nat) (h : k < L.length) (h2 : k < (stage f L k).length) : (stage f L k)[k] = L[k] := by
  have e : (stage f L k)[k]? = some L[k] := by
    (unfold stage); (rw [List.getElem?_append_right (by rw [List.length_map, List.length_take]; omega), List.length_map, List.length_take, List.getElem?_drop, show k + (k - min k L.length) = k by omega, List.getElem?_eq_getElem h])
  (rw [List.getElem?_eq_getElem h2] at e); (exact Option.some.inj e)
theorem stage_step {α : Type} (f : α → α) (L : List α) (k : Nat) (h : k < L.length) : (stage f L k).set k (f L[k]) = stage f L (k + 1) := by
  (unfold stage); (rw [List.set_append_right _ _ (by rw [List.length_map, List.length_take]; omega), List.length_map, List.length_take, show k - min k L.length = 0 by omega, List.drop_eq_getElem_cons h, List.set_cons_zero, List.take_succ_eq_append_getElem h, List.map_append, List.append_assoc])
  rfl
theorem stage_same {α : Type} (f : α → α) (L : List α) (k : Nat) (h : k < L.length) (he : f L[k] = L[k]) : stage f L (k + 1) = stage f L k := by
  (rw [← stage_step f L k h, he]); (have h2 : k < (stage f L k).length := by rw [stage_len]; exact h); (have := List.set_getElem_self h2); (rw [stage_at f L k h h2] at this); (exact this)
end Go.Gg
namespace Go.Proofs.YtaobaaaihgahfaaGreat
open Go.RowKit Go.Mk Go.Pil Go.Nt Go.Gg
def mvPl (st : List Int) (cand : Int) (P Q : Nat) (x : Pl) : Pl :=
  if x.at_ < x.prefs.length ∧ x.prefs.getD x.at_ 0 = cand then ⟨x.prefs, x.pv, x.n, nextA st x.prefs (x.at_ + 1), mkP (x.p * P) (x.q * Q), mkQ (x.p * P) (x.q * Q)⟩ else x
/-- A parcel that may be moved. -/
structure MvOk (w : World) (gp n : Nat) (x : Pl) : Prop where
  an : x.at_ ≤ 1000
  ln : x.prefs.length ≤ 1000
  on : ∀ z ∈ x.prefs, 0 ≤ z ∧ z < n
  ps : x.p < 10000
  qs : x.q < 10000
  rd : ∀ W, Kept (fun j => j = gp) w W → RdZ W x.pv x.prefs
/-- Parcels of one's own. -/
structure InP (w : World) (gp m cap : Nat) (pc : List Pc) : Prop where
  own : w.ownsRow 0 122 6 (.slice (some ⟨gp, 0, none⟩) m cap) m (pc.flatMap cP)
  len : pc.length = m
  one : ∀ x ∈ pc, Limbs w x.w.a x.w.p ∧ Limbs w x.w.b x.w.q
theorem parcel_ne : 202 ≠ 122 := by decide
theorem InP.blk {w : World} {gp m cap : Nat} {pc : List Pc} (h : InP w gp m cap pc) : ∃ cur, w.heap[gp]? = some (.cells cur 122 (0, 0)) := by
  obtain ⟨_, ⟨e, _⟩ | ⟨g', c, cur, e, _, hg, _⟩⟩ := h.own
  · cases e
  · cases e; exact ⟨cur, hg⟩
theorem InP.keptS {w w' : World} {gp m cap : Nat} {pc : List Pc} {S : Nat → Prop} (h : InP w gp m cap pc) (k : Kept S w w') (h1 : ¬ S gp) (h2 : ∀ j, S j → ∃ c t fr, w.heap[j]? = some (.cells c t fr) ∧ t ≠ 202) : InP w' gp m cap pc := by
  refine ⟨k.ownsRow h.own fun j hj hs => ?_, h.len, fun x hx => ⟨k.ownsRow (h.one x hx).1 fun j hj hs => ?_, k.ownsRow (h.one x hx).2 fun j hj hs => ?_⟩⟩
  · (have : gp = j := by simpa [ob, Value.ownBlock] using hj); (subst this; exact h1 hs)
  · (obtain ⟨c, t, fr, hg, h2⟩ := h2 j hs); (exact own_ne (h.one x hx).1 hg (Ne.symm h2) j hj rfl)
  · (obtain ⟨c, t, fr, hg, h2⟩ := h2 j hs); (exact own_ne (h.one x hx).2 hg (Ne.symm h2) j hj rfl)
theorem InP.keptNo {w w' : World} {gp m cap : Nat} {pc : List Pc} (h : InP w gp m cap pc) (k : Kept no w w') : InP w' gp m cap pc := h.keptS k id fun _ f => f.elim
theorem InP.rng {w : World} {gp m cap : Nat} {pc : List Pc} (h : InP w gp m cap pc) (i : Nat) (hi : i < pc.length) : w.rangeAt gp (i * 6) (cP pc[i]) := by
  obtain ⟨b, o, e, hr⟩ := Rd.row (f := cP) (sz := 6) (fun _ _ => rfl) (Rd.of_own (show w.ownsRow 0 122 6 (.slice (some ⟨gp, 0, none⟩) m cap) pc.length (pc.flatMap cP) by rw [h.len]; exact h.own)) i hi
  cases e
  (rw [Nat.zero_add] at hr); (exact hr)
theorem limb_keep {w w' : World} {gp : Nat} {cur : Array Value} (hb : w.heap[gp]? = some (.cells cur 122 (0, 0))) (k : Kept (fun j => j = gp) w w') {v : Value} {p : Nat} (h : Limbs w v p) : Limbs w' v p :=
  k.ownsRow h fun j hj (e : j = gp) => own_ne h hb parcel_ne j hj e
theorem InP.setAt {w : World} {gp m cap : Nat} {pc : List Pc} (h : InP w gp m cap pc) (i : Nat) (hi : i < pc.length) (a : Nat) :
    InP (w.setCell ⟨gp, i * 6 + 2, none⟩ (.int .i64 (a : Int))) gp m cap (pc.set i ⟨pc[i].prefs, pc[i].pv, pc[i].n, a, pc[i].w⟩) ∧ Kept (fun j => j = gp) w (w.setCell ⟨gp, i * 6 + 2, none⟩ (.int .i64 (a : Int))) := by
  (obtain ⟨cur, hb⟩ := h.blk); (have k := (Kept.refl (fun j => j = gp) w).setCell (a := ⟨gp, i * 6 + 2, none⟩) (.inl rfl) (.int .i64 (a : Int))); (refine ⟨⟨?_, by rw [List.length_set]; exact h.len, fun y hy => ?_⟩, k⟩)
  · have := own_set h.own (i * 6 + 2) (.int .i64 (a : Int))
    rwa [flat_setk cP 6 (fun _ => rfl) pc i 2 ⟨pc[i].prefs, pc[i].pv, pc[i].n, a, pc[i].w⟩ _ hi (by decide) rfl] at this
  · rcases List.mem_or_eq_of_mem_set hy with hy | rfl
    · exact ⟨limb_keep hb k (h.one y hy).1, limb_keep hb k (h.one y hy).2⟩
    · exact ⟨limb_keep hb k (h.one _ (List.getElem_mem hi)).1, limb_keep hb k (h.one _ (List.getElem_mem hi)).2⟩
theorem InP.setW {w : World} {gp m cap : Nat} {pc : List Pc} (h : InP w gp m cap pc) (i : Nat) (hi : i < pc.length) {y : RQ} (hy : Limbs w y.a y.p ∧ Limbs w y.b y.q) :
    InP (w.setCells gp (i * 6 + 3) (cQ y)) gp m cap (pc.set i ⟨pc[i].prefs, pc[i].pv, pc[i].n, pc[i].at_, y⟩) ∧ Kept (fun j => j = gp) w (w.setCells gp (i * 6 + 3) (cQ y)) := by
  (obtain ⟨cur, hb⟩ := h.blk); (have k : Kept (fun j => j = gp) w (w.setCells gp (i * 6 + 3) (cQ y)) := (((Kept.refl (fun j => j = gp) w).setCell (a := ⟨gp, i * 6 + 3, none⟩) (.inl rfl) (.bool false)).setCell (a := ⟨gp, i * 6 + 3 + 1, none⟩) (.inl rfl) y.a).setCell (a := ⟨gp, i * 6 + 3 + 2, none⟩) (.inl rfl) y.b); (refine ⟨⟨?_, by rw [List.length_set]; exact h.len, fun z hz => ?_⟩, k⟩)
  · (have := own_set (own_set (own_set h.own (i * 6 + 3) (.bool false)) (i * 6 + 4) y.a) (i * 6 + 5) y.b); (rw [flat_setk cP 6 (fun _ => rfl) pc i 3 pc[i] _ hi (by decide) rfl, List.set_getElem_self] at this); (rw [flat_setk cP 6 (fun _ => rfl) pc i 4 ⟨pc[i].prefs, pc[i].pv, pc[i].n, pc[i].at_, ⟨pc[i].w.p, pc[i].w.q, y.a, pc[i].w.b⟩⟩ _ hi (by decide) rfl] at this); (rw [flat_setk cP 6 (fun _ => rfl) _ i 5 ⟨pc[i].prefs, pc[i].pv, pc[i].n, pc[i].at_, y⟩ _ (by rw [List.length_set]; exact hi) (by decide) (by rw [List.getElem_set_self]; rfl), List.set_set] at this); (exact this)
  · rcases List.mem_or_eq_of_mem_set hz with hz | rfl
    · exact ⟨limb_keep hb k (h.one z hz).1, limb_keep hb k (h.one z hz).2⟩
    · exact ⟨limb_keep hb k hy.1, limb_keep hb k hy.2⟩
theorem InP.there {w : World} {gp m cap : Nat} {pc : List Pc} (h : InP w gp m cap pc) (i : Nat) (hi : i < pc.length) : w.there gp (i * 6 + 3) 3 := fun j hj => by
  (obtain ⟨cur, hb⟩ := h.blk); (refine ⟨?_, row_free hb _⟩); (have := h.rng i hi (3 + j) ((cP pc[i])[3 + j]'(by show 3 + j < 6; omega)) (List.getElem?_eq_getElem _)); (rw [show i * 6 + (3 + j) = i * 6 + 3 + j by omega] at this); (rw [this]; rfl)
theorem InP.setAt2 {w : World} {gp m cap : Nat} {pc : List Pc} {i a0 N : Nat} {Ps : List Int} {V : Value} {y : RQ} (h : InP w gp m cap (pc.set i ⟨Ps, V, N, a0, y⟩)) (hi : i < pc.length) (a : Nat) :
    InP (w.setCell ⟨gp, i * 6 + 2, none⟩ (.int .i64 (a : Int))) gp m cap (pc.set i ⟨Ps, V, N, a, y⟩) ∧ Kept (fun j => j = gp) w (w.setCell ⟨gp, i * 6 + 2, none⟩ (.int .i64 (a : Int))) := by
  (have := h.setAt i (by rw [List.length_set]; exact hi) a); (rw [List.getElem_set_self, List.set_set] at this); (exact this)
theorem InP.rng2 {w : World} {gp m cap : Nat} {pc : List Pc} {i : Nat} {x : Pc} (h : InP w gp m cap (pc.set i x)) (hi : i < pc.length) : w.rangeAt gp (i * 6) (cP x) := by
  have := h.rng i (by rw [List.length_set]; exact hi)
  rwa [List.getElem_set_self] at this
/-- How far the parcel has moved: the measure. -/
def atW (w : World) (g o : Nat) : Nat := match w.cell? ⟨g, o, none⟩ with | some (.int _ a) => a.toNat | _ => 0
def PMv {Sl : Nat → Nat → Prop} (gp m cap k : Nat) (pc : List Pc) (x : Pc) (p q : Nat) : Pr Sl := soft (fun _ w => ∃ y : RQ, y.p = p ∧ y.q = q ∧ InP w gp m cap (pc.set k ⟨x.prefs, x.pv, x.n, x.at_, y⟩)) fun _ _ _ ⟨y, e, h1, h2⟩ k => ⟨y, e, h1, h2.keptNo k⟩
set_option maxRecDepth 100000 in
set_option maxHeartbeats 8000000 in
theorem move_any (gk gp gs n m cap cand P Q : Nat) (va vb : Value) (C : Array Value) (st : List Int) (pc : List Pc) (w : World) (hgp : gk ≠ gp) (hm : m ≤ 100000) (_hn : n ≤ 1000) (hst : st.length = n) (kb : w.heap[gk]? = some (.cells C 119 (0, 0))) (sb : w.heap[gs]? = some (.cells (zI st) 3 (0, 0)))
    (h12 : C[12]? = some (.slice (some ⟨gp, 0, none⟩) m cap)) (h13 : C[13]? = some (.slice (some ⟨gs, 0, none⟩) n n)) (hI : InP w gp m cap pc) (hok : ∀ x ∈ pc.map Pc.pl, MvOk w gp n x) (hP : P < 10000) (hQ : Q < 10000) (hv : Limbs w va P ∧ Limbs w vb Q) :
    Calls Tryz.prog 175 #[.pointer (some ⟨gk, 0, none⟩), .int .i64 (cand : Int), .agg #[.bool false, va, vb]] w fun e w' => e = .returned (.tuple #[]) ∧ ∃ pc', pc'.map Pc.pl = (pc.map Pc.pl).map (mvPl st (cand : Int) P Q) ∧ InP w' gp m cap pc' ∧ Kept (fun j => j = gp) w w' := by
  (obtain ⟨⟨xa, xc, exa⟩, ⟨xb, xd, exb⟩⟩ := RQ.shape (x := ⟨P, Q, va, vb⟩) hv); (simp only at exa exb); (subst exa exb); (obtain ⟨wal, hwal⟩ : ∃ l, (nl P).length = l := ⟨_, rfl⟩); (obtain ⟨wbl, hwbl⟩ : ∃ l, (nl Q).length = l := ⟨_, rfl⟩); (rw [hwal, hwbl] at hv ⊢); (obtain ⟨w1, hw1, gB, k1⟩ := alloc_named w (.cells #[.bool false, .slice xa wal xc, .slice xb wbl xd] 76)); (obtain ⟨B, hB⟩ : ∃ g, w.heap.size = g := ⟨_, rfl⟩); (rw [hB] at gB)
  have hsp : gs ≠ gp := fun e => by
    (obtain ⟨cur, hb⟩ := hI.blk); (rw [← e, sb] at hb)
    injection hb with hb
    injection hb with _ ht _
    exact absurd ht (by decide)
  have hBp : B ≠ gp := fun e => by
    (obtain ⟨cur, hb⟩ := hI.blk); (have := lt_of_heap hb)
    omega
  (obtain ⟨L, hL⟩ : ∃ L, pc.map Pc.pl = L := ⟨_, rfl⟩); (have hLl : L.length = m := by rw [← hL, List.length_map, hI.len]); (rw [hL] at hok); (have hok1 : Hd (∀ x ∈ L, MvOk w1 gp n x) := ⟨fun x hx => ⟨(hok x hx).an, (hok x hx).ln, (hok x hx).on, (hok x hx).ps, (hok x hx).qs, fun W k => (hok x hx).rd W ((k1.of_no (S := fun j => j = gp)).trans k fun _ _ h => h)⟩⟩); (have hI1 := hid (hI.keptNo k1)); (have kb1 := hid (k1.blk kb)); (have sb1 := hid (k1.blk sb)); (have hv1 : Hd (Limbs w1 (.slice xa wal xc) P ∧ Limbs w1 (.slice xb wbl xd) Q) := ⟨k1.ownsRow hv.1 fun _ _ => id, k1.ownsRow hv.2 fun _ _ => id⟩); (have gB1 := hid gB); (have hk01 := hid k1); (have hh12 := hid h12); (have hh13 := hid h13); (replace hst := hid hst); (replace hL := hid hL); (replace hLl := hid hLl); (replace hB := hid hB); (have hw1' := hid hw1); (have hPl := hid hwal); (have hQl := hid hwbl); (clear hok hI kb sb hv gB k1 h12 h13 hw1 hwal hwbl)
  go_enter Tryz.func175, Tryz.ntmps175
  (go_upto_region 1 with fail); (rw [← hw1'.out, hB.out]); (have c12 : w1.cell? ⟨gk, 12, none⟩ = some (.slice (some ⟨gp, 0, none⟩) m cap) := cell_at kb1.out hh12.out); (clear hw1'); (go_upto_region 2 with fail); (clear c12)
  go_loopw [13] (fun i wr => ∃ (k : Nat) (pcs : List Pc), k ≤ m ∧ i = .int .i64 (k : Int) ∧ Hd (pcs.map Pc.pl = stage (mvPl st (cand : Int) P Q) L k) ∧ Hd (InP wr gp m cap pcs) ∧ Hd (Kept (fun j => j = gp) w1 wr)) (fun i _ => m - (intOf i).toNat)
  case atStart => exact ⟨0, pc, by omega, rfl, ⟨by rw [stage_zero]; exact hL.out⟩, hI1, ⟨Kept.refl _ _⟩⟩
  case round =>
    obtain ⟨k, pcs, hk, rfl, hS, hI, hK⟩ := hrel
    by_cases hlt : k < m
    · (have hk1 : (k : Int) < (m : Int) := by omega); (have hk0 : (0 : Int) ≤ (k : Int) := by omega); (have hkL : k < L.length := by rw [hLl.out]; exact hlt); (have hkp : k < pcs.length := by rw [hI.out.len]; exact hlt); (obtain ⟨x, hx⟩ : ∃ x, pcs[k] = x := ⟨_, rfl⟩)
      have hxl : x.pl = L[k] := by
        (have h2 : k < (stage (mvPl st (cand : Int) P Q) L k).length := by rw [stage_len]; exact hkL); (have := stage_at (mvPl st (cand : Int) P Q) L k hkL h2); (rw [← this, ← hx]); (have e : (pcs.map Pc.pl)[k]? = (stage (mvPl st (cand : Int) P Q) L k)[k]? := by rw [hS.out]); (rw [List.getElem?_map, List.getElem?_eq_getElem hkp, List.getElem?_eq_getElem h2] at e); (exact Option.some.inj e)
      (have hokx := hok1.out _ (List.getElem_mem hkL)); (rw [← hxl] at hokx)
      have hsame : Hd (mvPl st (cand : Int) P Q x.pl = x.pl → pcs.map Pc.pl = stage (mvPl st (cand : Int) P Q) L (k + 1)) := ⟨fun h => by
        rw [hxl] at h
        rw [stage_same _ _ _ hkL h]; exact hS.out⟩
      have hmore : Hd (∀ y : Pc, y.pl = mvPl st (cand : Int) P Q x.pl → (pcs.set k y).map Pc.pl = stage (mvPl st (cand : Int) P Q) L (k + 1)) := ⟨fun y h => by
        rw [List.map_set, h, hS.out, hxl]
        exact stage_step _ _ _ hkL⟩
      (have hrng := hI.out.rng k hkp); (rw [hx] at hrng); (have r0 := hrng 0 x.pv rfl); (have r2 := hrng 2 (.int .i64 (x.at_ : Int)) rfl); (rw [Nat.add_zero] at r0); (have hlim := hI.out.one _ (List.getElem_mem hkp)); (rw [hx] at hlim); (obtain ⟨xp, xpv, xn, xt, ⟨wp, wq, wa, wb⟩⟩ := x); (simp only [Pc.pl] at hokx hrng r0 r2 hlim hsame hmore hxl); (obtain ⟨⟨ya, yc, eya⟩, ⟨yb, yd, eyb⟩⟩ := RQ.shape (x := ⟨wp, wq, wa, wb⟩) hlim); (simp only at eya eyb); (subst eya eyb); (have hrz : RdZ wr xpv xp := hokx.rd wr hK.out); (obtain ⟨za, zc, rfl, hzc, hzm⟩ := Rd.shape2 hrz); (obtain ⟨pl, hpl⟩ : ∃ l, xp.length = l := ⟨_, rfl⟩); (rw [hpl] at r0 hrz); (have hxt := hokx.an); (have hpl1 := hokx.ln); (simp only at hxt hpl1); (rw [hpl] at hpl1)
      have hSW := hid (fun (W : World) (h : InP W gp m cap pcs) (y : RQ) (hy : Limbs W y.a y.p ∧ Limbs W y.b y.q) => (show InP (W.setCells gp (k * 6 + 3) (cQ y)) gp m cap (pcs.set k ⟨xp, .slice za pl zc, xn, xt, y⟩) ∧ Kept (fun j => j = gp) W (W.setCells gp (k * 6 + 3) (cQ y)) by
        (have := h.setW k hkp hy); (rw [hx, hpl] at this)
        exact this))
      (have hth := hid (fun (W : World) (h : InP W gp m cap pcs) => h.there k hkp)); (have hrz' := hid hrz); (have hlim' := hid hlim); (have hpl' := hid hpl); (have hkp' := hid hkp); (rw [hpl] at hsame hmore hokx hrng); (have hok' := hid hokx); (have hrng' := hid hrng); (clear hx hrz hokx hlim hrng hpl hkp hkL hxl); (have c12 : wr.cell? ⟨gk, 12, none⟩ = some (.slice (some ⟨gp, 0, none⟩) m cap) := hK.out.cell (cell_at kb1.out hh12.out) hgp); (go_upto_region 5 with fail); (clear c12)
      by_cases hat : xt < pl
      · (have hat1 : (xt : Int) < (pl : Int) := by omega); (have hat0 : (0 : Int) ≤ (xt : Int) := by omega); (have hat2 : ¬ (pl : Int) ≤ (xt : Int) := by omega); (have hat3 : ¬ pl ≤ xt := by omega); (have hd1 : decide ((pl : Int) ≤ (xt : Int)) = false := by simp; omega); (have hd2 : decide (pl ≤ xt) = false := by simp; omega); (obtain ⟨bz, oz, hza, hcz⟩ := RdZ.at hrz'.out xt (by rw [hpl'.out]; exact hat)); (subst hza); (obtain ⟨cz, hce⟩ : ∃ z, xp.getD xt 0 = z := ⟨_, rfl⟩); (rw [hce] at hcz)
        by_cases heq : cz = (cand : Int)
        · (subst heq); (have hne : ((cand : Int) != (cand : Int)) = false := by simp); (obtain ⟨MP, hMP⟩ : ∃ M, mkP (wp * P) (wq * Q) = M := ⟨_, rfl⟩); (obtain ⟨MQ, hMQ⟩ : ∃ M, mkQ (wp * P) (wq * Q) = M := ⟨_, rfl⟩)
          have hmore2 : Hd (∀ (a : Nat) (y : RQ), nextA st xp (xt + 1) = a → y.p = MP → y.q = MQ → (pcs.set k ⟨xp, .slice (some ⟨bz, oz, none⟩) pl zc, xn, a, y⟩).map Pc.pl = stage (mvPl st (cand : Int) P Q) L (k + 1)) := ⟨fun a y h1 h2 h3 => hmore.out _ (by
            unfold mvPl
            rw [if_pos ⟨by rw [hpl'.out]; exact hat, hce⟩, h1, hMP, hMQ, ← h2, ← h3])⟩
          (have hon := hid hok'.out.on); (have hr1 : Hd (∀ W, Kept (fun j => j = gp) w1 W → RdZ W (.slice (some ⟨bz, oz, none⟩) pl zc) xp) := ⟨hok'.out.rd⟩); (have hps := hok'.out.ps); (have hqs := hok'.out.qs); (simp only at hps hqs); (clear hsame hmore hS hok'); (go_wp2_with fail); (go_quiet (fail)); (have k2 := (Kept.refl no wr).drewN nq); (have hI2 := hid (hI.out.keptNo k2)); (have hK2 := hid (hK.out.trans' k2)); (have hr2 := hid (Rd.keptNo hrz'.out k2)); (have hlim2 : Hd (Limbs (wr.drewN nq) (.slice ya (nl wp).length yc) wp ∧ Limbs (wr.drewN nq) (.slice yb (nl wq).length yd) wq) := ⟨k2.ownsRow hlim'.out.1 fun _ _ => id, k2.ownsRow hlim'.out.2 fun _ _ => id⟩); (have hrow2 := hid (fun j u h => k2.cell (hrng'.out j u h) id)); (obtain ⟨w2, hw2⟩ : ∃ W, wr.drewN nq = W := ⟨_, rfl⟩); (rw [hw2] at hI2 hK2 hr2 hlim2 hrow2); (rw [hw2]); (obtain ⟨yl, hyl⟩ : ∃ l, (nl wp).length = l := ⟨_, rfl⟩); (obtain ⟨yl2, hyl2⟩ : ∃ l, (nl wq).length = l := ⟨_, rfl⟩); (rw [hyl, hyl2] at hlim2)
          have hrowW : Hd (w2.rangeAt gp (k * 6 + 3) [.bool false, .slice ya yl yc, .slice yb yl2 yd]) := ⟨fun j u hu => by
            (rw [Nat.add_assoc]); (refine hrow2.out (3 + j) u ?_); (rw [← hyl, ← hyl2] at hu); (rw [Nat.add_comm])
            exact hu⟩
          have hrowB : Hd (w2.rangeAt B 0 [.bool false, .slice xa wal xc, .slice xb wbl xd]) := ⟨fun j u hu => by
            (have hb : w2.heap[B]? = _ := (hK2.out.block B (lt_of_heap gB1.out) hBp).trans gB1.out); (rw [cell_of_row w2 B (0 + j) _ _ _ hb, Nat.zero_add])
            match j, hu with
            | 0, hu => exact hu
            | 1, hu => exact hu
            | 2, hu => exact hu
            | j + 3, hu => simp at hu⟩
          have hv2 : Hd (Limbs w2 (.slice xa wal xc) P ∧ Limbs w2 (.slice xb wbl xd) Q) := by
            (obtain ⟨cur, hb⟩ := hI1.out.blk); (exact ⟨limb_keep hb hK2.out hv1.out.1, limb_keep hb hK2.out hv1.out.2⟩)
          (have hpp : wp * P < 4294967296 := Nat.lt_of_le_of_lt (Nat.mul_le_mul (Nat.le_of_lt hps) (Nat.le_of_lt hP)) (by decide)); (have hqq : wq * Q < 4294967296 := Nat.lt_of_le_of_lt (Nat.mul_le_mul (Nat.le_of_lt hqs) (Nat.le_of_lt hQ)) (by decide)); (have HM := hid (fun (W : World) (kW : Kept no w2 W) => ratmul_any (.agg #[.bool false, .slice ya yl yc, .slice yb yl2 yd]) (.agg #[.bool false, .slice xa wal xc, .slice xb wbl xd]) wp wq P Q W (by omega) (by omega) (by omega) (by omega) hpp hqq ⟨_, _, rfl, Rd.keptNo (Rd.of_own hlim2.out.1) kW, Rd.keptNo (Rd.of_own hlim2.out.2) kW⟩ ⟨_, _, rfl, Rd.keptNo (Rd.of_own hv2.out.1) kW, Rd.keptNo (Rd.of_own hv2.out.2) kW⟩)); (rw [hMP, hMQ] at HM); (clear k2 hw2 hI hK hrz' hlim' hrng' hrow2 hyl hyl2 hMP hMQ hce hcz hpp hqq hlim2 hv2 r0 r2 hd1 hd2 hat2 hat3 hne); (go_upto_region 6 with fail); (refine region_flow (S := (fun j => j = gp)) (Sl := (fun _ => (fun j => j = gp))) [Is (.pointer (some ⟨gp, k * 6, none⟩)), Is (.pointer (some ⟨gp, k * 6, none⟩)), Is (.pointer (some ⟨gp, k * 6, none⟩)), Is (.pointer (some ⟨gp, k * 6 + 3, none⟩)), Is (.agg #[.bool false, .slice ya yl yc, .slice yb yl2 yd]), Is (.agg #[.bool false, .slice xa wal xc, .slice xb wbl xd]), PRQ MP MQ, Is (.pointer (some ⟨gp, k * 6, none⟩)), Is (.pointer (some ⟨gp, k * 6 + 3, none⟩)), PMv gp m cap k pcs ⟨xp, .slice (some ⟨bz, oz, none⟩) pl zc, xn, xt, ⟨0, 0, undef, undef⟩⟩ MP MQ] [9] (fun _ _ h => h) _ (by kernel_rfl) (by kernel_rfl) (by kernel_rfl) (by kernel_rfl) (fun x => by simp only [puts, Act.put, List.map_cons, List.map_nil, Nat.zero_add, Nat.reduceAdd, List.setIfInBounds_toArray, List.set_cons_zero, List.set_cons_succ]; exact rfl) ?_ ?_)
          · (skip); (refine .cons (fun x wf Kk hq hdep hold => ?_) ?_)
            · (try dsimp only); (clear hq hdep hold); (refine opv rfl ?_); (first | rfl | go_simp)
            refine .cons (fun x wf Kk hq hdep hold => ?_) ?_
            · (try dsimp only); (clear hq hdep hold); (refine opv rfl ?_); (first | rfl | go_simp)
            refine .cons (fun x wf Kk hq hdep hold => ?_) ?_
            · (try dsimp only); (have h1 : x 1 = _ := hdep 1 (by kernel_rfl)); (clear hq hdep hold); (simp only [h1]); (clear h1); (refine opv rfl ?_); (first | rfl | go_simp)
            refine .cons (fun x wf Kk hq hdep hold => ?_) ?_
            · (try dsimp only); (have h2 : x 2 = _ := hdep 2 (by kernel_rfl)); (clear hq hdep hold); (simp only [h2]); (clear h2); (refine opv rfl ?_); (first | rfl | go_simp)
            refine .cons (fun x wf Kk hq hdep hold => ?_) ?_
            · (try dsimp only); (have h3 : x 3 = _ := hdep 3 (by kernel_rfl)); (have Kq := hq no (fun _ hj => (noMem (by kernel_rfl) hj).elim)); (clear hq hdep hold); (simp only [h3]); (clear h3); (rw [if_pos (by rfl)]); (exact OpY.row 76 (.tmp 49) rfl gp (k * 6 + 3) rfl [.bool false, .slice ya yl yc, .slice yb yl2 yd] _ (Kq.undrew.rng hrowW.out) Tryz.underlying76 rfl (by kernel_rfl) ⟨Kept.refl _ _, rfl⟩)
            refine .cons (fun x wf Kk hq hdep hold => ?_) ?_
            · (try dsimp only); (have Kq := hq no (fun _ hj => (noMem (by kernel_rfl) hj).elim)); (clear hq hdep hold); (rw [if_pos (by rfl)]); (exact OpY.row 76 (.tmp 5) rfl B (0) rfl [.bool false, .slice xa wal xc, .slice xb wbl xd] _ (Kq.undrew.rng hrowB.out) Tryz.underlying76 rfl (by kernel_rfl) ⟨Kept.refl _ _, rfl⟩)
            refine .cons (fun x wf Kk hq hdep hold => ?_) ?_
            · (try dsimp only); (have h4 : x 4 = _ := hdep 4 (by kernel_rfl)); (have h5 : x 5 = _ := hdep 5 (by kernel_rfl)); (have Kq := hq no (fun _ hj => (noMem (by kernel_rfl) hj).elim)); (clear hq hdep hold); (simp only [h4, h5]); (clear h4 h5); (rw [if_pos (by rfl)]); (refine OpY.call (f := 168) (args := #[(.agg #[.bool false, .slice ya yl yc, .slice yb yl2 yd]), (.agg #[.bool false, .slice xa wal xc, .slice xb wbl xd])]) (by go_simp) ?_); (refine (HM.out wf Kq.undrew).mono ?_); (rintro e w7 ⟨v, rfl, o⟩); (have ok := o.kept); (exact ⟨_, rfl, ok, o.limbs⟩)
            refine .cons (fun x wf Kk hq hdep hold => ?_) ?_
            · (try dsimp only); (have h0 : x 0 = _ := hdep 0 (by kernel_rfl)); (clear hq hdep hold); (simp only [h0]); (clear h0); (refine opv rfl ?_); (first | rfl | go_simp)
            refine .cons (fun x wf Kk hq hdep hold => ?_) ?_
            · (try dsimp only); (have h7 : x 7 = _ := hdep 7 (by kernel_rfl)); (clear hq hdep hold); (simp only [h7]); (clear h7); (refine opv rfl ?_); (first | rfl | go_simp)
            refine .cons (fun x wf Kk hq hdep hold => ?_) ?_
            · (try dsimp only); (have h8 : x 8 = _ := hdep 8 (by kernel_rfl)); (have p6 : Pr.p (Sl := (fun _ => (fun j => j = gp))) (PRQ MP MQ) (x 6) wf := hdep 6 (by kernel_rfl)); (have Kq := hq no (fun _ hj => (noMem (by kernel_rfl) hj).elim)); (clear hq hdep hold); (simp only [h8]); (clear h8); (rw [if_pos (by rfl)]); (obtain ⟨y6, e6, hp6, hq6, hl6, hm6⟩ := p6); (have hI5 := hI2.out.keptNo Kq.undrew); (obtain ⟨hI6, hK6⟩ := hSW.out wf hI5 y6 ⟨hl6, hm6⟩); (rw [e6]); (refine OpY.storeMid 76 (.tmp 54) (.tmp 52) rfl gp (k * 6 + 3) (cQ y6).toArray rfl rfl (hth.out wf hI5) (by kernel_rfl) (all_oneCell_toArray (cQ_one ⟨hl6, hm6⟩)) ?_); (exact ⟨hK6, y6, hp6, hq6, hI6⟩)
            exact .nil _
          · (intro x wf Kk hv); (try dsimp only); (have p9 : Pr.p (Sl := (fun _ => (fun j => j = gp))) (PMv gp m cap k pcs ⟨xp, .slice (some ⟨bz, oz, none⟩) pl zc, xn, xt, ⟨0, 0, undef, undef⟩⟩ MP MQ) (x 9) wf := hv 9 (by kernel_rfl)); (clear hv); (obtain ⟨y, hy1, hy2, hI6⟩ := p9); (have hI6' := hid hI6); (have hK6 := hid (hK2.out.trans Kk.undrew fun _ _ h => h)); (have r2 := hI6.rng2 hkp'.out 2 (.int .i64 (xt : Int)) rfl); (obtain ⟨cur6, hb6⟩ := hI6.blk); (have rf := row_free hb6 (k * 6 + 2)); (obtain ⟨hI7, hK7⟩ := hI6.setAt2 hkp'.out (xt + 1)); (have e1 : ((xt + 1 : Nat) : Int) = (xt : Int) + 1 := by omega); (have hwr : IntKind.i64.wrap ((xt : Int) + 1) = (xt : Int) + 1 := IntWalk.i64_in _ (by omega)); (rw [e1] at hI7 hK7); (have hI7' := hid hI7); (have hK7' := hid (hK6.out.trans hK7 fun _ _ h => h)); (have hm7 := hid (fun a h => hmore2.out a y h hy1 hy2)); (clear hI6 hI6' hK6 Kk hI7 hK7 hmore2 hb6 HM hrowW hrowB hSW hth hI2 hK2 hy1 hy2 e1); (go_upto_region 8 with fail); (obtain ⟨w7, hw7⟩ : ∃ W, wf.setCell ⟨gp, k * 6 + 2, none⟩ (.int .i64 ((xt : Int) + 1)) = W := ⟨_, rfl⟩); (rw [hw7] at hI7' hK7'); (rw [hw7]); (clear hw7 r2 rf hwr)
            go_loopw [] (fun wq => ∃ a : Nat, a ≤ pl ∧ Hd (nextA st xp (xt + 1) = nextA st xp a) ∧ Hd (InP wq gp m cap (pcs.set k ⟨xp, .slice (some ⟨bz, oz, none⟩) pl zc, xn, a, y⟩)) ∧ Hd (Kept (fun j => j = gp) w1 wq)) (fun wq => pl - atW wq gp (k * 6 + 2))
            case atStart => exact ⟨xt + 1, by omega, ⟨rfl⟩, hI7', hK7'⟩
            case round =>
              (clear hI7' hK7'); (obtain ⟨a, ha, hnx, hIa, hKa⟩ := hrel); (have r0 := hIa.out.rng2 hkp'.out 0 (.slice (some ⟨bz, oz, none⟩) pl zc) rfl); (have r2 := hIa.out.rng2 hkp'.out 2 (.int .i64 (a : Int)) rfl); (rw [Nat.add_zero] at r0); (have hat : Hd (atW wr gp (k * 6 + 2) = a) := ⟨by unfold atW; rw [r2]; rfl⟩)
              by_cases hal : a < pl
              · (have hal1 : (a : Int) < (pl : Int) := by omega); (have hal0 : (0 : Int) ≤ (a : Int) := by omega); (have hd1 : decide ((a : Int) < (pl : Int)) = true := by simp; omega); (have hrza := hr1.out wr hKa.out); (obtain ⟨_, _, hza, hcz⟩ := RdZ.at hrza a (by rw [hpl'.out]; exact hal))
                cases hza
                (have hzon := hon.out _ (getD_memZ (l := xp) (i := a) (by rw [hpl'.out]; exact hal))); (obtain ⟨c, hce⟩ : ∃ c : Nat, xp.getD a 0 = (c : Int) := ⟨(xp.getD a 0).toNat, by omega⟩); (rw [hce] at hcz hzon); (have hcn1 : (c : Int) < (n : Int) := hzon.2); (have hcn0 : (0 : Int) ≤ (c : Int) := by omega); (have c13 : wr.cell? ⟨gk, 13, none⟩ = some (.slice (some ⟨gs, 0, none⟩) n n) := hKa.out.cell (cell_at kb1.out hh13.out) hgp); (have cs := hKa.out.cell (cell_at sb1.out (zI_at (l := st) (c := c) (by rw [hst.out]; omega))) hsp); (obtain ⟨sv, hsv⟩ : ∃ v, st.getD c 0 = v := ⟨_, rfl⟩); (rw [hsv] at cs); (clear hzon hrza)
                by_cases hs0 : sv = 0
                · (have hne : (sv != (0 : Int)) = false := by simpa using hs0); (have hS7 := hid (hm7.out a (by rw [hnx.out]; exact nextA_stop (by rw [hpl'.out]; exact hal) (by rw [hce, Int.toNat_natCast, hsv, hs0])))); (clear hce hsv hs0); (go_wp2_with fail); (go_quiet (fail)); (have hI8 := hid (hIa.out.keptNo ((Kept.refl no wr).drewN nq))); (have hK8 := hid (hKa.out.trans' ((Kept.refl no wr).drewN nq))); (obtain ⟨w8, hw8⟩ : ∃ W, wr.drewN nq = W := ⟨_, rfl⟩); (rw [hw8] at hI8 hK8); (rw [hw8]); (clear hw8 hIa hKa hm7 hnx r0 r2 hcz c13 cs hd1 hne); (go_wp2); (go_roundw)
                  case rel => first | exact ⟨k + 1, _, by omega, by go_num, hS7, hI8, hK8⟩ | ((repeat apply Exists.intro); exact ⟨⟨k + 1, _, by omega, by go_num, hS7, hI8, hK8⟩, rfl⟩)
                  case measure => simp [intOf]; omega
                · (have hne : (sv != (0 : Int)) = true := by simpa using hs0); (have hnx2 := hid (hnx.out.trans (nextA_step (by rw [hpl'.out]; exact hal) (by rw [hce, Int.toNat_natCast, hsv]; exact hs0)))); (clear hce hsv hs0); (go_wp2_with fail); (go_quiet (fail)); (have k8 := (Kept.refl no wr).drewN nq); (have hI8 := hid (hIa.out.keptNo k8)); (have hK8 := hid (hKa.out.trans' k8)); (obtain ⟨w8, hw8⟩ : ∃ W, wr.drewN nq = W := ⟨_, rfl⟩); (rw [hw8] at hI8 hK8); (rw [hw8]); (clear hw8 hIa hKa hnx r0 r2 hcz c13 cs hd1 hne k8); (have r2 := hI8.out.rng2 hkp'.out 2 (.int .i64 (a : Int)) rfl); (obtain ⟨cur6, hb6⟩ := hI8.out.blk); (have rf := row_free hb6 (k * 6 + 2)); (obtain ⟨hI9, hK9⟩ := hI8.out.setAt2 hkp'.out (a + 1)); (have e1 : ((a + 1 : Nat) : Int) = (a : Int) + 1 := by omega); (have hwr : IntKind.i64.wrap ((a : Int) + 1) = (a : Int) + 1 := IntWalk.i64_in _ (by omega)); (rw [e1] at hI9 hK9); (have hI9' := hid hI9); (have hK9' := hid (hK8.out.trans hK9 fun _ _ h => h))
                  have hat9 : Hd (atW (w8.setCell ⟨gp, k * 6 + 2, none⟩ (.int .i64 ((a : Int) + 1))) gp (k * 6 + 2) = a + 1) := ⟨by
                    (have := hI9.rng2 hkp'.out 2 (.int .i64 ((a + 1 : Nat) : Int)) rfl); (rw [e1] at this); (unfold atW); (rw [this])
                    show ((a : Int) + 1).toNat = a + 1
                    omega⟩
                  (clear hI9 hK9 hb6 hI8 hK8 e1); (go_wp2); (obtain ⟨w9, hw9⟩ : ∃ W, w8.setCell ⟨gp, k * 6 + 2, none⟩ (.int .i64 ((a : Int) + 1)) = W := ⟨_, rfl⟩); (rw [hw9] at hI9' hK9' hat9); (rw [hw9]); (clear hw9 r2 rf hwr); (go_roundw)
                  case rel => first | exact ⟨a + 1, by omega, hnx2, hI9', hK9'⟩ | ((repeat apply Exists.intro); exact ⟨⟨a + 1, by omega, hnx2, hI9', hK9'⟩, rfl⟩)
                  case measure => rw [hat9.out, hat.out]; omega
              · (obtain rfl : a = pl := by omega); (have hal1 : ¬ (a : Int) < (a : Int) := by omega); (have hd1 : decide ((a : Int) < (a : Int)) = false := by simp); (have hS7 := hid (hm7.out a (by rw [hnx.out]; exact nextA_end (by rw [hpl'.out]; exact Nat.le_refl _)))); (go_wp2_with fail); (go_quiet (fail)); (have hI8 := hid (hIa.out.keptNo ((Kept.refl no wr).drewN nq))); (have hK8 := hid (hKa.out.trans' ((Kept.refl no wr).drewN nq))); (obtain ⟨w8, hw8⟩ : ∃ W, wr.drewN nq = W := ⟨_, rfl⟩); (rw [hw8] at hI8 hK8); (rw [hw8]); (clear hw8 hIa hKa hm7 hnx r0 r2 hd1); (go_wp2); (go_roundw)
                case rel => first | exact ⟨k + 1, _, by omega, by go_num, hS7, hI8, hK8⟩ | ((repeat apply Exists.intro); exact ⟨⟨k + 1, _, by omega, by go_num, hS7, hI8, hK8⟩, rfl⟩)
                case measure => simp [intOf]; omega
        · have hne : (cz != (cand : Int)) = true := by simpa using heq
          have hS2 := hid (hsame.out (by
            (unfold mvPl); (rw [if_neg]); (rintro ⟨_, h⟩)
            exact heq (hce.symm.trans h)))
          (clear hrz' hok' hlim' hrng' hsame hmore hS hSW hth); (go_wp2_with fail); (go_quiet (fail)); (have hI2 := hid (hI.out.keptNo ((Kept.refl no wr).drewN nq))); (have hK2 := hid (hK.out.trans' ((Kept.refl no wr).drewN nq))); (obtain ⟨w2, hw2⟩ : ∃ W, wr.drewN nq = W := ⟨_, rfl⟩); (rw [hw2] at hI2 hK2); (rw [hw2]); (clear hw2 hI hK); (go_wp2); (go_roundw)
          case rel => first | exact ⟨k + 1, pcs, by omega, by go_num, hS2, hI2, hK2⟩ | ((repeat apply Exists.intro); exact ⟨⟨k + 1, pcs, by omega, by go_num, hS2, hI2, hK2⟩, rfl⟩)
          case measure => simp [intOf]; omega
      · (have hat1 : ¬ (xt : Int) < (pl : Int) := by omega); (have hd1 : decide ((pl : Int) ≤ (xt : Int)) = true := by simp; omega)
        have hS2 := hid (hsame.out (by
          (unfold mvPl); (rw [if_neg]); (rintro ⟨h, _⟩)
          exact hat (by rw [← hpl'.out]; exact h)))
        (clear hrz' hok' hlim' hrng' hsame hmore hS hSW hth); (go_wp2_with fail); (go_quiet (fail)); (have hI2 := hid (hI.out.keptNo ((Kept.refl no wr).drewN nq))); (have hK2 := hid (hK.out.trans' ((Kept.refl no wr).drewN nq))); (obtain ⟨w2, hw2⟩ : ∃ W, wr.drewN nq = W := ⟨_, rfl⟩); (rw [hw2] at hI2 hK2); (rw [hw2]); (clear hw2 hI hK); (go_wp2); (go_roundw)
        case rel => first | exact ⟨k + 1, pcs, by omega, by go_num, hS2, hI2, hK2⟩ | ((repeat apply Exists.intro); exact ⟨⟨k + 1, pcs, by omega, by go_num, hS2, hI2, hK2⟩, rfl⟩)
        case measure => simp [intOf]; omega
    · (obtain rfl : k = m := by omega); (have hk1 : ¬ (k : Int) < (k : Int) := by omega); (have hfin : Hd (pcs.map Pc.pl = L.map (mvPl st (cand : Int) P Q)) := ⟨by rw [hS.out, stage_all _ _ _ (by rw [hLl.out]; exact Nat.le_refl _)]⟩); (clear hS); (go_wp2)
      go_end0
      refine ⟨rfl, pcs, ?_, hI.out, ?_⟩
      · rw [hfin.out, ← hL.out, List.map_map]
      · exact (hk01.out.of_no (S := fun j => j = gp)).trans hK.out fun _ _ h => h
end Go.Proofs.YtaobaaaihgahfaaGreat

/- gregory.choose where one candidate alone has the least votes, or is alone (printed by gen_choose.py). -/
namespace Go.Gg
open Go.Nt
def zsV (V : List Nat) : List Int := V.map fun v : Nat => (v : Int)
theorem zsV_at (V : List Nat) (c : Nat) : (zsV V).getD c 0 = ((V.getD c 0 : Nat) : Int) := by
  (unfold zsV); (rw [List.getD_eq_getElem?_getD, List.getD_eq_getElem?_getD, List.getElem?_map])
  cases V[c]? <;> rfl
end Go.Gg
namespace Go.Proofs.YtaobaaaihgahfaaGreat
open Go.RowKit Go.Mk Go.Pil Go.Nt Go.Gg
theorem cmp3v (m n : Nat) : (m < n ∧ cmpN m n = -1) ∨ (m = n ∧ cmpN m n = 0) ∨ (n < m ∧ cmpN m n = 1) := by
  unfold cmpN
  rcases Nat.lt_trichotomy m n with h | h | h
  · exact .inl ⟨h, if_pos h⟩
  · exact .inr (.inl ⟨h, by rw [if_neg (by omega), if_neg (by omega)]⟩)
  · exact .inr (.inr ⟨h, by rw [if_neg (by omega), if_pos h]⟩)
set_option maxRecDepth 100000 in
set_option maxHeartbeats 4000000 in
theorem choose_any (gk gR n c0 : Nat) (cv vv : Value) (cs : List Int) (least : Bool) (V : List Nat) (qs : List RQ) (w : World) (hn : n ≤ 1000) (hV : V.length = n) (hqs : ints qs V) (hVb : ∀ c, V.getD c 0 < 2147483648) (hcs : ∀ x ∈ cs, ∃ i : Nat, i < n ∧ x = (i : Int)) (hcl : cs.length ≤ n)
    (hls : least = true ∨ cs.length ≤ 1) (huni : ∀ T, MinT (zsV V) cs T → T = [(c0 : Int)]) (rq : InQ w vv qs) (c0R : w.cell? ⟨gR, 0, none⟩ = some vv) (rc : RdZ w cv cs) :
    Calls Tryz.prog 173 #[.pointer (some ⟨gk, 0, none⟩), .pointer (some ⟨gR, 0, none⟩), cv, .bool least] w fun e w' => e = .returned (.int .i64 (c0 : Int)) ∧ Kept no w w' := by
  (obtain ⟨a1, c1, rfl, hc1, _⟩ := Rd.shape2 rc); (obtain ⟨av, cvv, rfl⟩ := rq.shape); (have hql : qs.length = n := by rw [ints_len hqs, hV]); (obtain ⟨ln, hln⟩ : ∃ l, cs.length = l := ⟨_, rfl⟩); (rw [hln] at rc hc1 hls hcl ⊢); (rw [hql] at rq c0R); (replace hln := hid hln); (have r1 := hid rc); (have hq := hid rq); (have hI := hid hqs); (have hVb' := hid hVb); (have hcs' := hid hcs); (have huni' := hid huni); (have hls' := hid hls); (have hql' := hid hql); (have hR0 := hid c0R); (replace hV := hid hV); (clear rc rq hqs hVb hcs huni hls hql c0R)
  go_enter Tryz.func173, Tryz.ntmps173
  go_wp2
  go_loopw [9, 17] (fun td i wr => ∃ (k : Nat) (T : List Int), k ≤ ln ∧ i = .int .i64 (k : Int) ∧ Hd (MinT (zsV V) (cs.take k) T) ∧ Hd (OwZ w wr td T)) (fun _ i _ => ln - (intOf i).toNat)
  case atStart => exact ⟨0, [], by omega, rfl, ⟨MinT.nil _⟩, ⟨OwZ.nil w⟩⟩
  case round =>
    (obtain ⟨k, T, hk, rfl, hM, hO⟩ := hrel); (have kO := hid hO.out.kept); (have hTl : T.length ≤ 1000 := by have := hM.out.sub.length_le; rw [List.length_take] at this; omega)
    by_cases hlt : k < ln
    · (have hk1 : (k : Int) < (ln : Int) := by omega); (have hk0 : (0 : Int) ≤ (k : Int) := by omega); (have hkl : k < cs.length := by rw [hln.out]; exact hlt); (obtain ⟨b, o, rfl, hc⟩ := RdZ.at (r1.out.kept kO.out) k hkl); (have htk : cs.take (k + 1) = cs.take k ++ [cs.getD k 0] := by rw [List.take_succ_eq_append_getElem hkl]; simp [List.getD_eq_getElem?_getD, hkl]); (obtain ⟨c, hcn, hce⟩ := hcs'.out _ (getD_memZ hkl)); (rw [hce] at hc htk); (have hcn1 : (c : Int) < (n : Int) := by omega); (have hcn0 : (0 : Int) ≤ (c : Int) := by omega); (replace htk := hid htk); (clear hce)
      by_cases hT : T = []
      · (subst hT); (obtain ⟨ta, tc, rfl, _, _⟩ := Rd.shape2 hO.out.rd); (have hM' : Hd (MinT (zsV V) (cs.take (k + 1)) [(c : Int)]) := ⟨by rw [htk.out]; exact hM.out.one (.inl rfl)⟩); (rw [show ([] : List Int).length = 0 from rfl]); (clear hM hO); (go_upto_region 11 with fail); (have hO5 := hid (OwZ.lit (kO.out) (c : Int))); (go_wp2); (go_roundw)
        case rel => first | exact ⟨k + 1, [(c : Int)], by omega, by go_num, hM', hO5⟩ | ((repeat apply Exists.intro); exact ⟨⟨k + 1, [(c : Int)], by omega, by go_num, hM', hO5⟩, rfl⟩)
        case measure => simp [intOf]; omega
      · (have hTp : 0 < T.length := List.length_pos_iff.2 hT); (have hk2 : k ≠ 0 := fun e => by subst e; have := hM.out.sub.length_le; simp at this; exact hT this); (obtain rfl : least = true := hls'.out.resolve_right (by omega)); (obtain ⟨g, ct, rfl, hcu⟩ := hO.out.own_shape hTp); (obtain ⟨_, _, e', ht0⟩ := RdZ.at hO.out.rd 0 hTp)
        cases e'
        (have ht0' : wr.cell? ⟨g, 0, none⟩ = some (.int .i64 (T.getD 0 0)) := ht0); (clear ht0); (have hTm := List.take_subset k cs (hM.out.sub.subset (getD_memZ (l := T) (i := 0) hTp))); (obtain ⟨d, hdn, hde⟩ := hcs'.out _ hTm); (have h1 := hid (hM.out.one (c := (c : Int)))); (have h2 := hid (hM.out.more (c := (c : Int)) hT)); (have h3 := hid (hM.out.skip (c := (c : Int)) hT)); (rw [hde, Int.toNat_natCast, Int.toNat_natCast, zsV_at, zsV_at] at h1 h2 h3); (rw [hde] at ht0'); (obtain ⟨gv, y, hgv, hy, _, _, _, hRy⟩ := (hq.out.keptNo kO.out).at c (by rw [hql'.out]; exact hcn)); (obtain ⟨_, z, hgz, hz, _, _, _, hRz⟩ := (hq.out.keptNo kO.out).at d (by rw [hql'.out]; exact hdn)); (subst hgv)
        cases hgz
        (have hyI := ints_at hI.out c (by rw [hql'.out]; exact hcn)); (have hzI := ints_at hI.out d (by rw [hql'.out]; exact hdn)); (rw [hy] at hyI); (rw [hz] at hzI); (have hrowY := hid ((hq.out.keptNo kO.out).rng c (by rw [hql'.out]; exact hcn))); (have hrowZ := hid ((hq.out.keptNo kO.out).rng d (by rw [hql'.out]; exact hdn))); (rw [hy] at hrowY); (rw [hz] at hrowZ); (obtain ⟨⟨ya, yc, eya⟩, ⟨yb, yd, eyb⟩⟩ := RQ.shape ((hq.out.keptNo kO.out).one _ (List.getElem_mem (show c < qs.length by rw [hql'.out]; exact hcn)))); (obtain ⟨⟨za, zc, eza⟩, ⟨zb, zd, ezb⟩⟩ := RQ.shape ((hq.out.keptNo kO.out).one _ (List.getElem_mem (show d < qs.length by rw [hql'.out]; exact hdn)))); (rw [hy] at eya eyb); (rw [hz] at eza ezb); (have eYC : cQ y = [.bool false, .slice ya (nl y.p).length yc, .slice yb (nl y.q).length yd] := by unfold cQ; rw [eya, eyb]); (have eZC : cQ z = [.bool false, .slice za (nl z.p).length zc, .slice zb (nl z.q).length zd] := by unfold cQ; rw [eza, ezb]); (rw [eYC] at hrowY); (rw [eZC] at hrowZ); (rw [eya, eyb, hyI.1, hyI.2] at hRy); (rw [eza, ezb, hzI.1, hzI.2] at hRz); (rw [hyI.1, hyI.2] at hrowY); (rw [hzI.1, hzI.2] at hrowZ); (obtain ⟨yl, hyl⟩ : ∃ l, (nl (V.getD c 0)).length = l := ⟨_, rfl⟩); (obtain ⟨zl, hzl⟩ : ∃ l, (nl (V.getD d 0)).length = l := ⟨_, rfl⟩); (obtain ⟨ol, hol⟩ : ∃ l, (nl 1).length = l := ⟨_, rfl⟩); (rw [hyl, hol] at hRy hrowY); (rw [hzl, hol] at hRz hrowZ); (have HC := hid (fun (W : World) (kW : Kept no wr W) => ratcmp_any _ _ (V.getD c 0) (V.getD d 0) W (hVb'.out c) (hVb'.out d) (hRy.kept kW) (hRz.kept kW))); (have hdn1 : (d : Int) < (n : Int) := by omega); (have hdn0 : (0 : Int) ≤ (d : Int) := by omega); (obtain ⟨vc, hvc⟩ : ∃ v, V.getD c 0 = v := ⟨_, rfl⟩); (obtain ⟨vd, hvd⟩ : ∃ v, V.getD d 0 = v := ⟨_, rfl⟩); (rw [hvc, hvd] at HC h1 h2 h3); (have hR0' := hid (kO.out.cell hR0.out id)); (obtain ⟨tl, htl⟩ : ∃ l, T.length = l := ⟨_, rfl⟩); (have hO' := hid hO.out); (rw [htl] at hO' hTp hTl ⊢); (replace htl := hid htl); (have hTp' : (0 : Int) < (tl : Int) := by omega); (have ht0'' := hid ht0'); (clear hRy hRz eya eyb eza ezb eYC eZC hyI hzI hy hz hM hTm hde hyl hzl hol hvc hvd ht0' hO hkl); (go_upto_region 7 with fail); (refine region_flow (S := no) (Sl := (fun _ => no)) [Is (.pointer (some ⟨gR, 0, none⟩)), Is (.pointer (some ⟨gR, 0, none⟩)), Is (.pointer (some ⟨gR, 0, none⟩)), Is (.slice (some ⟨gv, 0, none⟩) n cvv), Is (.int .i64 (c : Int)), Is (.pointer (some ⟨gv, c * 3, none⟩)), Is (.agg #[.bool false, .slice ya yl yc, .slice yb ol yd]), Is (.pointer (some ⟨gR, 0, none⟩)), Is (.pointer (some ⟨gR, 0, none⟩)), Is (.pointer (some ⟨gR, 0, none⟩)), Is (.slice (some ⟨gv, 0, none⟩) n cvv), Is (.slice (some ⟨g, 0, none⟩) tl ct), Is (.pointer (some ⟨g, 0, none⟩)), Is (.int .i64 (d : Int)), Is (.pointer (some ⟨gv, d * 3, none⟩)), Is (.agg #[.bool false, .slice za zl zc, .slice zb ol zd]), Is (.int .i64 (cmpN vc vd)), Is (.int .i64 (cmpN vc vd))] [] (fun _ _ h => h) _ (by kernel_rfl) (by kernel_rfl) (by kernel_rfl) (by kernel_rfl) (fun x => by simp only [puts, Act.put, List.map_cons, List.map_nil, Nat.zero_add, Nat.reduceAdd, List.setIfInBounds_toArray, List.set_cons_zero, List.set_cons_succ]; exact rfl) ?_ ?_)
        · (skip); (refine .cons (fun x wf Kk hq hdep hold => ?_) ?_)
          · (try dsimp only); (clear hq hdep hold); (refine opv rfl ?_); (first | rfl | go_simp)
          refine .cons (fun x wf Kk hq hdep hold => ?_) ?_
          · (try dsimp only); (have h0 : x 0 = _ := hdep 0 (by kernel_rfl)); (clear hq hdep hold); (simp only [h0]); (clear h0); (refine opv rfl ?_); (first | rfl | go_simp)
          refine .cons (fun x wf Kk hq hdep hold => ?_) ?_
          · (try dsimp only); (have h1 : x 1 = _ := hdep 1 (by kernel_rfl)); (clear hq hdep hold); (simp only [h1]); (clear h1); (refine opv rfl ?_); (first | rfl | go_simp)
          refine .cons (fun x wf Kk hq hdep hold => ?_) ?_
          · (try dsimp only); (have h2 : x 2 = _ := hdep 2 (by kernel_rfl)); (clear hq hdep hold); (simp only [h2]); (clear h2); (have m1 := Kk.undrew.cell hR0'.out id); (refine opv rfl ?_); (first | rfl | go_simp)
          refine .cons (fun x wf Kk hq hdep hold => ?_) ?_
          · (try dsimp only); (clear hq hdep hold); (refine opv rfl ?_); (first | rfl | go_simp)
          refine .cons (fun x wf Kk hq hdep hold => ?_) ?_
          · (try dsimp only); (have h3 : x 3 = _ := hdep 3 (by kernel_rfl)); (have h4 : x 4 = _ := hdep 4 (by kernel_rfl)); (clear hq hdep hold); (simp only [h3, h4]); (clear h3 h4); (refine opv rfl ?_); (first | rfl | go_simp)
          refine .cons (fun x wf Kk hq hdep hold => ?_) ?_
          · (try dsimp only); (have h5 : x 5 = _ := hdep 5 (by kernel_rfl)); (clear hq hdep hold); (simp only [h5]); (clear h5); (rw [if_pos (by rfl)]); (exact OpY.row 76 (.tmp 29) rfl gv (c * 3) rfl [.bool false, .slice ya yl yc, .slice yb ol yd] _ (Kk.undrew.rng hrowY.out) Tryz.underlying76 rfl (by kernel_rfl) ⟨Kept.refl _ _, rfl⟩)
          refine .cons (fun x wf Kk hq hdep hold => ?_) ?_
          · (try dsimp only); (clear hq hdep hold); (refine opv rfl ?_); (first | rfl | go_simp)
          refine .cons (fun x wf Kk hq hdep hold => ?_) ?_
          · (try dsimp only); (have h7 : x 7 = _ := hdep 7 (by kernel_rfl)); (clear hq hdep hold); (simp only [h7]); (clear h7); (refine opv rfl ?_); (first | rfl | go_simp)
          refine .cons (fun x wf Kk hq hdep hold => ?_) ?_
          · (try dsimp only); (have h8 : x 8 = _ := hdep 8 (by kernel_rfl)); (clear hq hdep hold); (simp only [h8]); (clear h8); (refine opv rfl ?_); (first | rfl | go_simp)
          refine .cons (fun x wf Kk hq hdep hold => ?_) ?_
          · (try dsimp only); (have h9 : x 9 = _ := hdep 9 (by kernel_rfl)); (clear hq hdep hold); (simp only [h9]); (clear h9); (have m1 := Kk.undrew.cell hR0'.out id); (refine opv rfl ?_); (first | rfl | go_simp)
          refine .cons (fun x wf Kk hq hdep hold => ?_) ?_
          · (try dsimp only); (clear hq hdep hold); (refine opv rfl ?_); (first | rfl | go_simp)
          refine .cons (fun x wf Kk hq hdep hold => ?_) ?_
          · (try dsimp only); (have h11 : x 11 = _ := hdep 11 (by kernel_rfl)); (clear hq hdep hold); (simp only [h11]); (clear h11); (refine opv rfl ?_); (first | rfl | go_simp)
          refine .cons (fun x wf Kk hq hdep hold => ?_) ?_
          · (try dsimp only); (have h12 : x 12 = _ := hdep 12 (by kernel_rfl)); (clear hq hdep hold); (simp only [h12]); (clear h12); (have m1 := Kk.undrew.cell ht0''.out id); (refine opv rfl ?_); (first | rfl | go_simp)
          refine .cons (fun x wf Kk hq hdep hold => ?_) ?_
          · (try dsimp only); (have h10 : x 10 = _ := hdep 10 (by kernel_rfl)); (have h13 : x 13 = _ := hdep 13 (by kernel_rfl)); (clear hq hdep hold); (simp only [h10, h13]); (clear h10 h13); (refine opv rfl ?_); (first | rfl | go_simp)
          refine .cons (fun x wf Kk hq hdep hold => ?_) ?_
          · (try dsimp only); (have h14 : x 14 = _ := hdep 14 (by kernel_rfl)); (clear hq hdep hold); (simp only [h14]); (clear h14); (rw [if_pos (by rfl)]); (exact OpY.row 76 (.tmp 38) rfl gv (d * 3) rfl [.bool false, .slice za zl zc, .slice zb ol zd] _ (Kk.undrew.rng hrowZ.out) Tryz.underlying76 rfl (by kernel_rfl) ⟨Kept.refl _ _, rfl⟩)
          refine .cons (fun x wf Kk hq hdep hold => ?_) ?_
          · (try dsimp only); (have h6 : x 6 = _ := hdep 6 (by kernel_rfl)); (have h15 : x 15 = _ := hdep 15 (by kernel_rfl)); (clear hq hdep hold); (simp only [h6, h15]); (clear h6 h15); (rw [if_pos (by rfl)]); (refine OpY.call (f := 123) (args := #[(.agg #[.bool false, .slice ya yl yc, .slice yb ol yd]), (.agg #[.bool false, .slice za zl zc, .slice zb ol zd])]) (by go_simp) ?_); (refine (HC.out wf Kk.undrew).mono ?_); (rintro e w2 ⟨rfl, h3⟩); (exact ⟨_, rfl, h3, rfl⟩)
          refine .cons (fun x wf Kk hq hdep hold => ?_) ?_
          · (try dsimp only); (have h16 : x 16 = _ := hdep 16 (by kernel_rfl)); (clear hq hdep hold); (simp only [h16]); (clear h16); (refine opv rfl ?_); (first | rfl | go_simp)
          exact .nil _
        · (intro x wf Kk hv); (try dsimp only); (have h17 : x 17 = _ := hv 17 (by kernel_rfl)); (clear hv); (simp only [h17]); (clear h17); (have kk := hid Kk.undrew); (clear Kk HC hrowY hrowZ hR0' ht0'')
          rcases cmp3v vc vd with ⟨hlt', e⟩ | ⟨heq, e⟩ | ⟨hgt, e⟩
          · (rw [e]); (have hM' : Hd (MinT (zsV V) (cs.take (k + 1)) [(c : Int)]) := ⟨by rw [htk.out]; exact h1.out (.inr (by omega))⟩); (clear h1 h2 h3 e); (go_upto_region 11 with fail); (have hO5 := hid (OwZ.lit (kO.out.trans' kk.out) (c : Int))); (clear hO' kk); (go_wp2); (go_roundw)
            case rel => first | exact ⟨k + 1, [(c : Int)], by omega, by go_num, hM', hO5⟩ | ((repeat apply Exists.intro); exact ⟨⟨k + 1, [(c : Int)], by omega, by go_num, hM', hO5⟩, rfl⟩)
            case measure => simp [intOf]; omega
          · (rw [e]); (have hM' : Hd (MinT (zsV V) (cs.take (k + 1)) (T ++ [(c : Int)])) := ⟨by rw [htk.out]; exact h2.out (by omega)⟩); (have hO2 : Hd (OwZ w wf (.slice (some ⟨g, 0, none⟩) tl ct) T) := ⟨hO'.out.keptNo kk.out⟩); (have hqm : Hd (T.length + 1 ≤ maxLen ∧ (T.length + 1) * 8 ≤ 140737488355328) := ⟨by have hm : maxLen = 9223372036854775807 := rfl; have := htl.out; omega⟩); (have hoT : Hd (wf.ownsRow 0 3 1 (.slice (some ⟨g, 0, none⟩) tl ct) T.length (T.map Z)) := ⟨hO2.out.own⟩); (clear h1 h2 h3 e hO' kk); (go_wp2_with (at_builtin; refine wpList_append_lit _ rfl _ _ 26 rfl 3 1 8 TInts _ _ _ rfl hoT.out 1 [.int .i64 (c : Int)] rfl rfl (by simp [Value.oneCell']) hqm.out.1 hqm.out.2 ?_)); (intro v' w5 h5 h6 h7 _); (have hO6 := hid (hO2.out.add (c : Int) h5 h6 h7)); (obtain ⟨_, a5, c5, rfl, _⟩ := Rd.of_own h5); (clear h5 h6 h7 hoT hO2); (go_wp2); (go_roundw)
            case rel => first | exact ⟨k + 1, T ++ [(c : Int)], by omega, by go_num, hM', hO6⟩ | ((repeat apply Exists.intro); exact ⟨⟨k + 1, T ++ [(c : Int)], by omega, by go_num, hM', hO6⟩, rfl⟩)
            case measure => simp [intOf]; omega
          · (rw [e]); (have hM' : Hd (MinT (zsV V) (cs.take (k + 1)) T) := ⟨by rw [htk.out]; exact h3.out (by omega)⟩); (have hO2 : Hd (OwZ w wf (.slice (some ⟨g, 0, none⟩) tl ct) T) := ⟨hO'.out.keptNo kk.out⟩); (clear h1 h2 h3 e hO' kk); (go_wp2); (go_roundw)
            case rel => first | exact ⟨k + 1, T, by omega, by go_num, hM', hO2⟩ | ((repeat apply Exists.intro); exact ⟨⟨k + 1, T, by omega, by go_num, hM', hO2⟩, rfl⟩)
            case measure => simp [intOf]; omega
    · (obtain rfl : k = ln := by omega); (have hk1 : ¬ (k : Int) < (k : Int) := by omega); (have hT := huni'.out T (by have := hM.out; rwa [List.take_of_length_le (by rw [hln.out]; exact Nat.le_refl _)] at this)); (subst hT); (obtain ⟨g, ct, rfl, hcu⟩ := hO.out.own_shape (by simp)); (obtain ⟨_, _, e', ht0⟩ := RdZ.at hO.out.rd 0 (by simp))
      cases e'
      (have ht0' : wr.cell? ⟨g, 0, none⟩ = some (.int .i64 (c0 : Int)) := ht0); (rw [show [(c0 : Int)].length = 1 from rfl]); (clear ht0 hM); (go_wp2); (go_ret); (exact ⟨rfl, kO.out⟩)
end Go.Proofs.YtaobaaaihgahfaaGreat

/- gregory.transfer (printed by gen_trans.py). -/
namespace Go.Proofs.YtaobaaaihgahfaaGreat
open Go.RowKit Go.Mk Go.Pil Go.Nt Go.Gg
def Z3 : Array Value := #[.bool false, .slice none 0 0, .slice none 0 0]
theorem OpY.allocR {o : Oper} {a : Act} {w : World} {R : Value → World → Prop} (ho : o.op = .alloc 76) (h : R (.pointer (some ⟨w.heap.size, 0, none⟩)) (w.alloc (.cells Z3 76))) : OpY Tryz.prog o a w R := by
  (refine OpY.val (v := .pointer (some ⟨w.heap.size, 0, none⟩)) (w' := w.alloc (.cells Z3 76)) ?_ h); (unfold execOp); (rw [ho]); (kernel_rfl)
def PAlR {Sl : Nat → Nat → Prop} (n0 : Nat) : Pr Sl := soft (fun v w => ∃ g, v = .pointer (some ⟨g, 0, none⟩) ∧ n0 ≤ g ∧ w.heap[g]? = some (.cells Z3 76 (0, 0))) fun _ _ _ ⟨g, h1, h2, h3⟩ k => ⟨g, h1, h2, (k.block _ (lt_of_heap h3) id).trans h3⟩
def PStR {Sl : Nat → Nat → Prop} (d n0 p q : Nat) : Pr Sl := rel d (fun u _ w => ∃ (g : Nat) (y : RQ), u = .pointer (some ⟨g, 0, none⟩) ∧ n0 ≤ g ∧ y.p = p ∧ y.q = q ∧ w.heap[g]? = some (.cells (cQ y).toArray 76 (0, 0)) ∧ Limbs w y.a y.p ∧ Limbs w y.b y.q) fun _ _ _ _ ⟨g, y, h1, h2, h3, h4, h5, h6, h7⟩ k => ⟨g, y, h1, h2, h3, h4, (k.block _ (lt_of_heap h5) id).trans h5, k.ownsRow h6 fun _ _ => id, k.ownsRow h7 fun _ _ => id⟩
def PDv {Sl : Nat → Nat → Prop} (p q : Nat) : Pr Sl := soft (fun v w => ∃ x : RQ, v = .tuple #[.agg #[.bool false, x.a, x.b], .bool true] ∧ x.p = p ∧ x.q = q ∧ Limbs w x.a x.p ∧ Limbs w x.b x.q) fun _ _ _ ⟨x, e, h1, h2, h3, h4⟩ k => ⟨x, e, h1, h2, k.ownsRow h3 fun _ _ => id, k.ownsRow h4 fun _ _ => id⟩
def PSk {Sl : Nat → Nat → Prop} (kv : Value) (ks : List RQ) (c p q : Nat) : Pr Sl := soft (fun _ w => ∃ y : RQ, y.p = p ∧ y.q = q ∧ InQ w kv (ks.set c y)) fun _ _ _ ⟨x, e, h1, h2⟩ k => ⟨x, e, h1, h2.keptNo k⟩
/-- What a store into a new block of a ratio does. -/
def EfR (n0 : Nat) : Nat → World → World → Prop := fun _ w w' => Kept (fun k => n0 ≤ k) w w' ∧ ∀ v p, Limbs w v p → Limbs w' v p
theorem EfR.refl (n0 : Nat) : ∀ j w, EfR n0 j w w := fun _ _ => ⟨Kept.refl _ _, fun _ _ h => h⟩
def PRQE {n0 : Nat} (p q : Nat) : PrE (EfR n0) := ⟨fun _ v w => ∃ x : RQ, v = .agg #[.bool false, x.a, x.b] ∧ x.p = p ∧ x.q = q ∧ Limbs w x.a x.p ∧ Limbs w x.b x.q, none, fun _ => true, fun _ _ _ _ ⟨x, e, h1, h2, h3, h4⟩ k => ⟨x, e, h1, h2, k.ownsRow h3 fun _ _ => id, k.ownsRow h4 fun _ _ => id⟩, fun _ _ _ _ _ _ ⟨x, e, h1, h2, h3, h4⟩ k => ⟨x, e, h1, h2, k.2 _ _ h3, k.2 _ _ h4⟩, fun _ _ _ _ _ h => h⟩
def PDvE {n0 : Nat} (p q : Nat) : PrE (EfR n0) := ⟨fun _ v w => ∃ x : RQ, v = .tuple #[.agg #[.bool false, x.a, x.b], .bool true] ∧ x.p = p ∧ x.q = q ∧ Limbs w x.a x.p ∧ Limbs w x.b x.q, none, fun _ => true, fun _ _ _ _ ⟨x, e, h1, h2, h3, h4⟩ k => ⟨x, e, h1, h2, k.ownsRow h3 fun _ _ => id, k.ownsRow h4 fun _ _ => id⟩, fun _ _ _ _ _ _ ⟨x, e, h1, h2, h3, h4⟩ k => ⟨x, e, h1, h2, k.2 _ _ h3, k.2 _ _ h4⟩, fun _ _ _ _ _ h => h⟩
def PAlRE {n0 : Nat} : PrE (EfR n0) := softE (fun v w => ∃ g, v = .pointer (some ⟨g, 0, none⟩) ∧ n0 ≤ g ∧ w.heap[g]? = some (.cells Z3 76 (0, 0))) fun _ _ _ ⟨g, h1, h2, h3⟩ k => ⟨g, h1, h2, (k.block _ (lt_of_heap h3) id).trans h3⟩
def PStRE {n0 : Nat} (d p q : Nat) : PrE (EfR n0) := relE d (fun u _ w => ∃ (g : Nat) (y : RQ), u = .pointer (some ⟨g, 0, none⟩) ∧ n0 ≤ g ∧ y.p = p ∧ y.q = q ∧ w.heap[g]? = some (.cells (cQ y).toArray 76 (0, 0)) ∧ Limbs w y.a y.p ∧ Limbs w y.b y.q) fun _ _ _ _ ⟨g, y, h1, h2, h3, h4, h5, h6, h7⟩ k => ⟨g, y, h1, h2, h3, h4, (k.block _ (lt_of_heap h5) id).trans h5, k.ownsRow h6 fun _ _ => id, k.ownsRow h7 fun _ _ => id⟩
theorem sub_ge {a b : Nat} (h : b ≤ a) : addS false a (!false) b = false ∧ addN false a (!false) b = a - b := by
  unfold addS addN sumN sumS z1
  by_cases hb : b = 0
  · subst hb; simp
  · by_cases ha : a = 0
    · omega
    · simp [hb, ha]; omega
theorem mkP_le (a b : Nat) : mkP a b ≤ a := by unfold mkP; split; omega; exact Nat.div_le_self _ _
theorem one_min {zs : List Int} {c : Int} (T : List Int) (h : MinT zs [c] T) : T = [c] := by
  (have h1 := h.sub.length_le); (have h2 := h.ne (by simp))
  cases T with
  | nil => exact absurd rfl h2
  | cons a T =>
    (have : T = [] := by cases T with | nil => rfl | cons b T => simp at h1); (subst this); (rw [List.mem_singleton.1 (h.sub.subset (List.mem_singleton.2 rfl))])
theorem setRow_limb {w : World} {g : Nat} {old : Array Value} (hg : w.heap[g]? = some (.cells old 76 (0, 0))) {S : Nat → Prop} (hS : ∀ j, S j → j = g) {w' : World} (k : Kept S w w') {v : Value} {p : Nat} (h : Limbs w v p) : Limbs w' v p :=
  k.ownsRow h fun j hj e => own_ne h hg uint_ne_ratio' j hj (hS j e)
theorem row3 {w : World} {g : Nat} {y : RQ} {ya yb : Option Addr} {yl yc yl2 yd : Nat} (ea : y.a = .slice ya yl yc) (eb : y.b = .slice yb yl2 yd) (h : w.heap[g]? = some (.cells (cQ y).toArray 76 (0, 0))) : w.rangeAt g 0 [.bool false, .slice ya yl yc, .slice yb yl2 yd] := by
  (have := rng_row h); (unfold cQ at this); (rw [ea, eb] at this); (exact this)
theorem ne_blk {w : World} {g h : Nat} {c d : Array Value} {t u : TypeId} (hg : w.heap[g]? = some (.cells c t (0, 0))) (hh : w.heap[h]? = some (.cells d u (0, 0))) (e : t ≠ u) : g ≠ h := fun eq => by
  rw [← eq, hg] at hh
  injection hh with hh
  injection hh with _ ht _
  exact e ht
theorem InQ.blk {w : World} {g n cap : Nat} {qs : List RQ} (h : InQ w (.slice (some ⟨g, 0, none⟩) n cap) qs) : ∃ cur, w.heap[g]? = some (.cells cur 76 (0, 0)) := by
  obtain ⟨_, ⟨e, _⟩ | ⟨g', c, cur, e, _, hg, _⟩⟩ := h.own
  · cases e
  · cases e; exact ⟨cur, hg⟩
/-- What transfer and exclude leave. -/
structure TrR (gk gs gp ge gR m cap : Nat) (C D : Array Value) (st : List Int) (pls : List Pl) (kv : Value) (kpq : List (Nat × Nat)) (w w' : World) : Prop where
  kb : w'.heap[gk]? = some (.cells C 119 (0, 0))
  sb : w'.heap[gs]? = some (.cells (zI st) 3 (0, 0))
  rb : w'.heap[gR]? = some (.cells D 78 (0, 0))
  ip : ∃ pc', pc'.map Pc.pl = pls ∧ InP w' gp m cap pc'
  iq : ∃ ks', pq ks' = kpq ∧ InQ w' kv ks'
  kept : Kept (fun j => j = gs ∨ j = gp ∨ j = ge ∨ j = gR) w w'
theorem pq_set (ks : List RQ) (c : Nat) (y : RQ) : pq (ks.set c y) = (pq ks).set c (y.p, y.q) := by unfold pq; rw [List.map_set]
set_option maxRecDepth 100000 in
set_option maxHeartbeats 8000000 in
theorem transfer_any (gk gs gp ge gR n m cap kc c quo vc : Nat) (C D : Array Value) (vv : Value) (st : List Int) (pc : List Pc) (V : List Nat) (qs ks : List RQ) (w : World) (hn : n ≤ 1000) (hm : m ≤ 100000) (hst : st.length = n) (hV : V.length = n) (hks : ks.length = n)
    (kb : w.heap[gk]? = some (.cells C 119 (0, 0))) (sb : w.heap[gs]? = some (.cells (zI st) 3 (0, 0))) (rb : w.heap[gR]? = some (.cells D 78 (0, 0)))
    (h11 : C[11]? = some (.int .i64 (quo : Int))) (h12 : C[12]? = some (.slice (some ⟨gp, 0, none⟩) m cap)) (h13 : C[13]? = some (.slice (some ⟨gs, 0, none⟩) n n)) (h14 : C[14]? = some (.slice (some ⟨ge, 0, none⟩) n kc)) (hD0 : D[0]? = some vv)
    (hI : InP w gp m cap pc) (hok : ∀ x ∈ pc.map Pc.pl, MvOk w gp n x) (hqs : ints qs V) (hVb : ∀ i, V.getD i 0 < 10000) (rq : InQ w vv qs) (rk : InQ w (.slice (some ⟨ge, 0, none⟩) n kc) ks) (hve : ∀ j, ob vv j → j ≠ ge)
    (hpend : allS st 1 = [(c : Int)]) (hcn : c < n) (hvc : V.getD c 0 = vc) (hq1 : quo ≤ vc) (hv0 : vc ≠ 0) :
    Calls Tryz.prog 125 #[.pointer (some ⟨gk, 0, none⟩), .pointer (some ⟨gR, 0, none⟩)] w fun e w' => e = .returned (.tuple #[]) ∧ TrR gk gs gp ge gR m cap C D (st.set c 2) ((pc.map Pc.pl).map (mvPl st (c : Int) (mkP (vc - quo) vc) (mkQ (vc - quo) vc))) (.slice (some ⟨ge, 0, none⟩) n kc) ((pq ks).set c (mkP (vc - quo) vc, mkQ (vc - quo) vc)) w w' := by
  (obtain ⟨av, cvv, rfl⟩ := rq.shape); (have hql : qs.length = n := by rw [ints_len hqs, hV]); (rw [hql] at rq hD0 hve); (have hvcb : vc < 10000 := by rw [← hvc]; exact hVb c); (have nks := ne_blk kb sb (by decide)); (have nsR := ne_blk sb rb (by decide)); (have nkR := ne_blk kb rb (by decide)); (obtain ⟨curp, hbp⟩ := hI.blk); (obtain ⟨cure, hbe⟩ := rk.blk); (have nkp := ne_blk kb hbp (by decide)); (have nsp := ne_blk sb hbp (by decide)); (have nRp := ne_blk rb hbp (by decide)); (have nke := ne_blk kb hbe (by decide)); (have nse := ne_blk sb hbe (by decide)); (have nRe := ne_blk rb hbe (by decide)); (have npe := ne_blk hbp hbe (by decide)); (have HA := hid (fun (W : World) (k : Kept no w W) => allg_any gk _ st 1 W (by omega) (k.cell (cell_at kb h13) id) (RdZ.kept (zI_rd sb n hst (by have : maxLen = 9223372036854775807 := rfl; omega)) k))); (rw [hpend] at HA); (have HCh := hid (fun (W : World) (k : Kept no w W) (cv : Value) (rc : RdZ W cv [(c : Int)]) => choose_any gk gR n c cv _ [(c : Int)] false V qs W hn hV hqs (fun i => by have := hVb i; omega) (fun x hx => ⟨c, hcn, List.mem_singleton.1 hx⟩) (by simp; omega) (.inr (by simp)) one_min (rq.keptNo k) (k.cell (cell_at rb hD0) id) rc)); (have hcn1 : (c : Int) < (n : Int) := by omega); (have hcn0 : (0 : Int) ≤ (c : Int) := by omega); (obtain ⟨gv, y0, hgv, hy0, _, _, _, hRy⟩ := rq.at c (by rw [hql]; exact hcn)); (subst hgv); (have hyI := ints_at hqs c (by rw [hql]; exact hcn)); (rw [hy0, hvc] at hyI); (have hrowY := rq.rng c (by rw [hql]; exact hcn)); (rw [hy0] at hrowY); (obtain ⟨⟨ya, yc, eya⟩, ⟨yb, yd, eyb⟩⟩ := RQ.shape (rq.one _ (List.getElem_mem (show c < qs.length by rw [hql]; exact hcn)))); (rw [hy0] at eya eyb); (have eYC : cQ y0 = [.bool false, .slice ya (nl y0.p).length yc, .slice yb (nl y0.q).length yd] := by unfold cQ; rw [eya, eyb]); (rw [eYC, hyI.1, hyI.2] at hrowY); (rw [eya, eyb, hyI.1, hyI.2] at hRy); (obtain ⟨yl, hyl⟩ : ∃ l, (nl vc).length = l := ⟨_, rfl⟩); (obtain ⟨ol, hol⟩ : ∃ l, (nl 1).length = l := ⟨_, rfl⟩); (rw [hyl, hol] at hRy hrowY); (have HOf := hid (fun (W : World) => ratof_any quo W (by omega)))
  have HSu := hid (fun (W : World) (k : Kept no w W) (v : Value) (rv : RdR W v false quo 1) => by
    (have := ratsub_any (.agg #[.bool false, .slice ya yl yc, .slice yb ol yd]) v false false vc quo W (by omega) (by omega) (hRy.kept k) rv); (rw [(sub_ge hq1).1, (sub_ge hq1).2] at this)
    exact this)
  (have HDi := hid (fun (W : World) (k : Kept no w W) (v : Value) (rv : RdR W v false (vc - quo) 1) => ratdiv_any v (.agg #[.bool false, .slice ya yl yc, .slice yb ol yd]) (vc - quo) vc W (by omega) (by omega) hv0 rv (hRy.kept k))); (have hPb : mkP (vc - quo) vc < 10000 := Nat.lt_of_le_of_lt (mkP_le _ _) (by omega))
  have hQb : mkQ (vc - quo) vc < 10000 := by
    unfold mkQ
    split
    · omega
    · exact Nat.lt_of_le_of_lt (Nat.div_le_self _ _) (by omega)
  (obtain ⟨MP, hMP⟩ : ∃ M, mkP (vc - quo) vc = M := ⟨_, rfl⟩); (obtain ⟨MQ, hMQ⟩ : ∃ M, mkQ (vc - quo) vc = M := ⟨_, rfl⟩); (rw [hMP, hMQ] at HDi ⊢); (rw [hMP] at hPb); (rw [hMQ] at hQb); (have HMv := hid (fun (W : World) (k : Kept no w W) (va vb : Value) (hv : Limbs W va MP ∧ Limbs W vb MQ) => move_any gk gp gs n m cap c MP MQ va vb C st pc W nkp hm hn hst (k.blk kb) (k.blk sb) h12 h13 (hI.keptNo k) (fun x hx => ⟨(hok x hx).an, (hok x hx).ln, (hok x hx).on, (hok x hx).ps, (hok x hx).qs, fun W' k' => (hok x hx).rd W' ((k.of_no (S := fun j => j = gp)).trans k' fun _ _ h => h)⟩) hPb hQb hv)); (have k_b := hid kb); (have s_b := hid sb); (have r_b := hid rb); (have hh11 := hid h11); (have hh13 := hid h13); (have hh14 := hid h14); (have hD0' := hid hD0); (have rk' := hid rk); (have hrowY' := hid hrowY); (have hst' := hid hst); (have hks' := hid hks); (have hbp' := hid hbp); (clear kb sb rb h11 h12 h13 h14 hD0 hI hok hqs hVb rq rk hve hpend hvc hq1 hv0 hvcb hst hks hV hql hy0 hRy hyI hrowY eya eyb eYC hyl hol hPb hQb hMP hMQ hbp hbe)
  go_enter Tryz.func125, Tryz.ntmps125
  (go_wp2_with fail); (with_reducible refine (HA.out w (Kept.refl _ _)).mono ?_); (rintro e w1 ⟨v1, rfl, o1⟩); (go_wp2_with fail); (with_reducible refine (HCh.out w1 o1.kept v1 o1.rd).mono ?_); (rintro e w2 ⟨rfl, k2⟩); (have k02 := hid (o1.kept.trans' k2)); (clear HA HCh o1 k2); (have b0 := hid (k02.out.cell (cell_at r_b.out hD0'.out) id)); (have b11 := hid (k02.out.cell (cell_at k_b.out hh11.out) id)); (have hrow2 := hid (fun j u h => k02.out.cell (hrowY'.out j u h) id)); (have hrow2' : Hd (w2.rangeAt gv (c * 3) [.bool false, .slice ya yl yc, .slice yb ol yd]) := ⟨hrow2.out⟩); (clear hrow2); (go_upto_region 1 with fail); (refine region_flow (S := (fun j => w2.drew.heap.size ≤ j)) (Sl := (fun _ => (fun j => w2.drew.heap.size ≤ j))) [Is (.pointer (some ⟨gR, 0, none⟩)), Is (.pointer (some ⟨gR, 0, none⟩)), Is (.pointer (some ⟨gR, 0, none⟩)), Is (.slice (some ⟨gv, 0, none⟩) n cvv), Is (.int .i64 (c : Int)), Is (.pointer (some ⟨gv, c * 3, none⟩)), Is (.agg #[.bool false, .slice ya yl yc, .slice yb ol yd]), Is (.pointer (some ⟨gk, 0, none⟩)), Is (.pointer (some ⟨gk, 0, none⟩)), Is (.pointer (some ⟨gk, 11, none⟩)), Is (.int .i64 (quo : Int)), PRQ quo 1, PRQ (vc - quo) 1, PAlR w2.drew.heap.size, PStR 13 w2.drew.heap.size (vc - quo) 1] [14] (fun _ _ h => h) _ (by kernel_rfl) (by kernel_rfl) (by kernel_rfl) (by kernel_rfl) (fun x => by simp only [puts, Act.put, List.map_cons, List.map_nil, Nat.zero_add, Nat.reduceAdd, List.setIfInBounds_toArray, List.set_cons_zero, List.set_cons_succ]; exact rfl) ?_ ?_)
  · (skip); (refine .cons (fun x wf Kk hq hdep hold => ?_) ?_)
    · (try dsimp only); (clear hq hdep hold); (refine opv rfl ?_); (first | rfl | go_simp)
    refine .cons (fun x wf Kk hq hdep hold => ?_) ?_
    · (try dsimp only); (have h0 : x 0 = _ := hdep 0 (by kernel_rfl)); (clear hq hdep hold); (simp only [h0]); (clear h0); (refine opv rfl ?_); (first | rfl | go_simp)
    refine .cons (fun x wf Kk hq hdep hold => ?_) ?_
    · (try dsimp only); (have h1 : x 1 = _ := hdep 1 (by kernel_rfl)); (clear hq hdep hold); (simp only [h1]); (clear h1); (refine opv rfl ?_); (first | rfl | go_simp)
    refine .cons (fun x wf Kk hq hdep hold => ?_) ?_
    · (try dsimp only); (have h2 : x 2 = _ := hdep 2 (by kernel_rfl)); (have Kq := hq no (fun _ hj => (noMem (by kernel_rfl) hj).elim)); (clear hq hdep hold); (simp only [h2]); (clear h2); (have m1 := Kq.undrew.cell b0.out id); (refine opv rfl ?_); (first | rfl | go_simp)
    refine .cons (fun x wf Kk hq hdep hold => ?_) ?_
    · (try dsimp only); (clear hq hdep hold); (refine opv rfl ?_); (first | rfl | go_simp)
    refine .cons (fun x wf Kk hq hdep hold => ?_) ?_
    · (try dsimp only); (have h3 : x 3 = _ := hdep 3 (by kernel_rfl)); (have h4 : x 4 = _ := hdep 4 (by kernel_rfl)); (clear hq hdep hold); (simp only [h3, h4]); (clear h3 h4); (refine opv rfl ?_); (first | rfl | go_simp)
    refine .cons (fun x wf Kk hq hdep hold => ?_) ?_
    · (try dsimp only); (have h5 : x 5 = _ := hdep 5 (by kernel_rfl)); (have Kq := hq no (fun _ hj => (noMem (by kernel_rfl) hj).elim)); (clear hq hdep hold); (simp only [h5]); (clear h5); (rw [if_pos (by rfl)]); (exact OpY.row 76 (.tmp 18) rfl gv (c * 3) rfl [.bool false, .slice ya yl yc, .slice yb ol yd] _ (Kq.undrew.rng hrow2'.out) Tryz.underlying76 rfl (by kernel_rfl) ⟨Kept.refl _ _, rfl⟩)
    refine .cons (fun x wf Kk hq hdep hold => ?_) ?_
    · (try dsimp only); (clear hq hdep hold); (refine opv rfl ?_); (first | rfl | go_simp)
    refine .cons (fun x wf Kk hq hdep hold => ?_) ?_
    · (try dsimp only); (have h7 : x 7 = _ := hdep 7 (by kernel_rfl)); (clear hq hdep hold); (simp only [h7]); (clear h7); (refine opv rfl ?_); (first | rfl | go_simp)
    refine .cons (fun x wf Kk hq hdep hold => ?_) ?_
    · (try dsimp only); (have h8 : x 8 = _ := hdep 8 (by kernel_rfl)); (clear hq hdep hold); (simp only [h8]); (clear h8); (refine opv rfl ?_); (first | rfl | go_simp)
    refine .cons (fun x wf Kk hq hdep hold => ?_) ?_
    · (try dsimp only); (have h9 : x 9 = _ := hdep 9 (by kernel_rfl)); (have Kq := hq no (fun _ hj => (noMem (by kernel_rfl) hj).elim)); (clear hq hdep hold); (simp only [h9]); (clear h9); (have m1 := Kq.undrew.cell b11.out id); (refine opv rfl ?_); (first | rfl | go_simp)
    refine .cons (fun x wf Kk hq hdep hold => ?_) ?_
    · (try dsimp only); (have h10 : x 10 = _ := hdep 10 (by kernel_rfl)); (have Kq := hq no (fun _ hj => (noMem (by kernel_rfl) hj).elim)); (clear hq hdep hold); (simp only [h10]); (clear h10); (rw [if_pos (by rfl)]); (refine OpY.call (f := 57) (args := #[(.int .i64 (quo : Int))]) (by go_simp) ?_); (refine (HOf.out wf).mono ?_); (rintro e w7 ⟨v, rfl, o⟩); (have ok := o.kept); (exact ⟨_, rfl, ok, o.limbs⟩)
    refine .cons (fun x wf Kk hq hdep hold => ?_) ?_
    · (try dsimp only); (have h6 : x 6 = _ := hdep 6 (by kernel_rfl)); (have p11 : Pr.p (Sl := (fun _ => (fun j => w2.drew.heap.size ≤ j))) (PRQ quo 1) (x 11) wf := hdep 11 (by kernel_rfl)); (have Kq := hq no (fun _ hj => (noMem (by kernel_rfl) hj).elim)); (clear hq hdep hold); (simp only [h6]); (clear h6); (rw [if_pos (by rfl)]); (obtain ⟨y11, e11, hp11, hq11, hl11, hm11⟩ := p11); (have hr11 : RdR wf (x 11) false y11.p y11.q := by rw [e11]; exact ⟨_, _, rfl, Rd.of_own hl11, Rd.of_own hm11⟩); (rw [hp11, hq11] at hr11); (refine OpY.call (f := 118) (args := #[(.agg #[.bool false, .slice ya yl yc, .slice yb ol yd]), x 11]) (by go_simp) ?_); (refine (HSu.out wf (k02.out.trans' Kq.undrew) (x 11) hr11).mono ?_); (rintro e w7 ⟨v, rfl, o⟩); (have ok := o.kept); (exact ⟨_, rfl, ok, o.limbs⟩)
    refine .cons (fun x wf Kk hq hdep hold => ?_) ?_
    · (try dsimp only); (clear hq hdep hold); (rw [if_pos (by rfl)]); (exact OpY.allocR rfl ⟨(Kept.refl _ _).alloc _, _, rfl, Kk.size, heap_alloc_new _ _⟩)
    refine .cons (fun x wf Kk hq hdep hold => ?_) ?_
    · (try dsimp only); (have p13 : Pr.p (Sl := (fun _ => (fun j => w2.drew.heap.size ≤ j))) (PAlR w2.drew.heap.size) (x 13) wf := hdep 13 (by kernel_rfl)); (have p12 : Pr.p (Sl := (fun _ => (fun j => w2.drew.heap.size ≤ j))) (PRQ (vc - quo) 1) (x 12) wf := hdep 12 (by kernel_rfl)); (clear hq hdep hold); (rw [if_pos (by rfl)]); (obtain ⟨y12, e12, hp12, hq12, hl12, hm12⟩ := p12); (obtain ⟨g, eg, hg, hgb⟩ := p13); (rw [eg, e12]); (have kS := ((Kept.refl (fun j => j = g) wf).setRow (g := g) (.inl rfl) (cQ y12).toArray)); (refine OpY.storeRowT 76 (.tmp 5) (.tmp 25) rfl g (cQ y12).toArray rfl rfl 76 _ hgb (by kernel_rfl) rfl (all_oneCell_toArray (cQ_one ⟨hl12, hm12⟩)) ?_); (exact ⟨kS.mono fun j _ h => by (have h : j = g := h); subst h; exact hg, g, y12, eg, hg, hp12, hq12, setRow_heap _ _ _ _ _ _ hgb, setRow_limb hgb (fun _ h => h) kS hl12, setRow_limb hgb (fun _ h => h) kS hm12⟩)
    exact .nil _
  · (intro x wf Kk hv); (try dsimp only); (have p14 : Pr.r (Sl := (fun _ => (fun j => w2.drew.heap.size ≤ j))) (PStR 13 w2.drew.heap.size (vc - quo) 1) (x 13) (x 14) wf := hv 14 (by kernel_rfl)); (clear hv); (obtain ⟨g5, y5, e5, hg5, hp5, hq5, hb5, hl5, hm5⟩ := p14); (simp only [e5]); (have kw := hid (Kept.fresh Kk).undrew); (have k03 := hid (k02.out.trans' kw.out)); (have b5 := hid hb5); (have hR5 : Hd (RdR wf (.agg #[.bool false, y5.a, y5.b]) false (vc - quo) 1) := ⟨⟨_, _, rfl, by rw [← hp5]; exact Rd.of_own hl5, by rw [← hq5]; exact Rd.of_own hm5⟩⟩); (obtain ⟨⟨sa, sc, esa⟩, ⟨sb, sd, esb⟩⟩ := RQ.shape ⟨hl5, hm5⟩); (obtain ⟨w3, hw3⟩ : ∃ W, wf = W := ⟨_, rfl⟩); (rw [hw3] at kw k03 b5 hR5 ⊢); (rw [esa, esb] at hR5); (have hrow5 : Hd (w3.rangeAt g5 0 [.bool false, .slice sa (nl y5.p).length sc, .slice sb (nl y5.q).length sd]) := ⟨row3 esa esb b5.out⟩); (obtain ⟨sl, hsl⟩ : ∃ l, (nl y5.p).length = l := ⟨_, rfl⟩); (obtain ⟨sl2, hsl2⟩ : ∃ l, (nl y5.q).length = l := ⟨_, rfl⟩); (rw [hsl, hsl2] at hR5 hrow5); (have c0 := hid (kw.out.cell b0.out id)); (have hrow3 : Hd (w3.rangeAt gv (c * 3) [.bool false, .slice ya yl yc, .slice yb ol yd]) := ⟨fun j u h => kw.out.cell (hrow2'.out j u h) id⟩); (clear Kk e5 hg5 hp5 hq5 hb5 hl5 hm5 esa esb hsl hsl2 hw3 b0 b11 hrow2' b5 HSu HOf); (go_upto_region 2 with fail); (refine region_flowE (S := (fun j => w3.drew.heap.size ≤ j)) (Ef := (EfR w3.drew.heap.size)) [IsE (.agg #[.bool false, .slice sa sl sc, .slice sb sl2 sd]), IsE (.pointer (some ⟨gR, 0, none⟩)), IsE (.pointer (some ⟨gR, 0, none⟩)), IsE (.pointer (some ⟨gR, 0, none⟩)), IsE (.slice (some ⟨gv, 0, none⟩) n cvv), IsE (.int .i64 (c : Int)), IsE (.pointer (some ⟨gv, c * 3, none⟩)), IsE (.agg #[.bool false, .slice ya yl yc, .slice yb ol yd]), PDvE MP MQ, PDvE MP MQ, PRQE MP MQ, AnyE, PAlRE, PStRE 12 MP MQ, AnyE] [13] (fun _ _ _ h => h.1) (EfR.refl w3.drew.heap.size) _ (by kernel_rfl) (by kernel_rfl) (by kernel_rfl) (by kernel_rfl) (fun x => by simp only [puts, Act.put, List.map_cons, List.map_nil, Nat.zero_add, Nat.reduceAdd, List.setIfInBounds_toArray, List.set_cons_zero, List.set_cons_succ]; exact rfl) ?_ ?_)
    · (skip); (refine .cons (fun x wf Kk hq hdep hold => ?_) ?_)
      · (try dsimp only); (have Kq := hq no (fun _ hj => (noMem (by kernel_rfl) hj).elim)); (clear hq hdep hold); (rw [if_pos (by rfl)]); (exact OpY.row 76 (.tmp 5) rfl g5 (0) rfl [.bool false, .slice sa sl sc, .slice sb sl2 sd] _ (Kq.undrew.rng hrow5.out) Tryz.underlying76 rfl (by kernel_rfl) ⟨Kept.refl _ _, rfl⟩)
      refine .cons (fun x wf Kk hq hdep hold => ?_) ?_
      · (try dsimp only); (clear hq hdep hold); (refine opv rfl ?_); (first | rfl | go_simp)
      refine .cons (fun x wf Kk hq hdep hold => ?_) ?_
      · (try dsimp only); (have h1 : x 1 = _ := hdep 1 (by kernel_rfl)); (clear hq hdep hold); (simp only [h1]); (clear h1); (refine opv rfl ?_); (first | rfl | go_simp)
      refine .cons (fun x wf Kk hq hdep hold => ?_) ?_
      · (try dsimp only); (have h2 : x 2 = _ := hdep 2 (by kernel_rfl)); (clear hq hdep hold); (simp only [h2]); (clear h2); (refine opv rfl ?_); (first | rfl | go_simp)
      refine .cons (fun x wf Kk hq hdep hold => ?_) ?_
      · (try dsimp only); (have h3 : x 3 = _ := hdep 3 (by kernel_rfl)); (have Kq := hq no (fun _ hj => (noMem (by kernel_rfl) hj).elim)); (clear hq hdep hold); (simp only [h3]); (clear h3); (have m1 := Kq.undrew.cell c0.out id); (refine opv rfl ?_); (first | rfl | go_simp)
      refine .cons (fun x wf Kk hq hdep hold => ?_) ?_
      · (try dsimp only); (clear hq hdep hold); (refine opv rfl ?_); (first | rfl | go_simp)
      refine .cons (fun x wf Kk hq hdep hold => ?_) ?_
      · (try dsimp only); (have h4 : x 4 = _ := hdep 4 (by kernel_rfl)); (have h5 : x 5 = _ := hdep 5 (by kernel_rfl)); (clear hq hdep hold); (simp only [h4, h5]); (clear h4 h5); (refine opv rfl ?_); (first | rfl | go_simp)
      refine .cons (fun x wf Kk hq hdep hold => ?_) ?_
      · (try dsimp only); (have h6 : x 6 = _ := hdep 6 (by kernel_rfl)); (have Kq := hq no (fun _ hj => (noMem (by kernel_rfl) hj).elim)); (clear hq hdep hold); (simp only [h6]); (clear h6); (rw [if_pos (by rfl)]); (exact OpY.row 76 (.tmp 33) rfl gv (c * 3) rfl [.bool false, .slice ya yl yc, .slice yb ol yd] _ (Kq.undrew.rng hrow3.out) Tryz.underlying76 rfl (by kernel_rfl) ⟨Kept.refl _ _, rfl⟩)
      refine .cons (fun x wf Kk hq hdep hold => ?_) ?_
      · (try dsimp only); (have h0 : x 0 = _ := hdep 0 (by kernel_rfl)); (have h7 : x 7 = _ := hdep 7 (by kernel_rfl)); (have Kq := hq no (fun _ hj => (noMem (by kernel_rfl) hj).elim)); (clear hq hdep hold); (simp only [h0, h7]); (clear h0 h7); (rw [if_pos (by rfl)]); (refine OpY.call (f := 174) (args := #[(.agg #[.bool false, .slice sa sl sc, .slice sb sl2 sd]), (.agg #[.bool false, .slice ya yl yc, .slice yb ol yd])]) (by go_simp) ?_); (refine (HDi.out wf (k03.out.trans' Kq.undrew) _ (hR5.out.kept Kq.undrew)).mono ?_); (rintro e w7 ⟨v, rfl, o⟩); (have ok := o.kept); (obtain ⟨y, e, h1, h2, h3, h4⟩ := o.limbs); (exact ⟨_, rfl, ok, y, by rw [e], h1, h2, h3, h4⟩)
      refine .cons (fun x wf Kk hq hdep hold => ?_) ?_
      · (try dsimp only); (have p8 : PrE.p (Ef := (EfR w3.drew.heap.size)) (PDvE MP MQ) (x 8) wf := hdep 8 (by kernel_rfl)); (clear hq hdep hold); (rw [if_pos (by rfl)]); (refine OpY.val (v := x 8) (by go_simp) ⟨Kept.refl _ _, p8⟩)
      refine .cons (fun x wf Kk hq hdep hold => ?_) ?_
      · (try dsimp only); (have p9 : PrE.p (Ef := (EfR w3.drew.heap.size)) (PDvE MP MQ) (x 9) wf := hdep 9 (by kernel_rfl)); (clear hq hdep hold); (rw [if_pos (by rfl)]); (obtain ⟨y9, e9, h1, h2, h3, h4⟩ := p9); (rw [e9]); (refine OpY.val (v := .agg #[.bool false, y9.a, y9.b]) (by go_simp) ⟨Kept.refl _ _, y9, rfl, h1, h2, h3, h4⟩)
      refine .cons (fun x wf Kk hq hdep hold => ?_) ?_
      · (try dsimp only); (have p9 : PrE.p (Ef := (EfR w3.drew.heap.size)) (PDvE MP MQ) (x 9) wf := hdep 9 (by kernel_rfl)); (clear hq hdep hold); (rw [if_pos (by rfl)]); (obtain ⟨y9, e9, h1, h2, h3, h4⟩ := p9); (rw [e9]); (refine OpY.val (v := .bool true) (by go_simp) ⟨Kept.refl _ _, trivial⟩)
      refine .cons (fun x wf Kk hq hdep hold => ?_) ?_
      · (try dsimp only); (clear hq hdep hold); (rw [if_pos (by rfl)]); (exact OpY.allocR rfl ⟨(Kept.refl _ _).alloc _, _, rfl, Kk.size, heap_alloc_new _ _⟩)
      refine .cons (fun x wf Kk hq hdep hold => ?_) ?_
      · (try dsimp only); (have p12 : PrE.p (Ef := (EfR w3.drew.heap.size)) (PAlRE) (x 12) wf := hdep 12 (by kernel_rfl)); (have p10 : PrE.p (Ef := (EfR w3.drew.heap.size)) (PRQE MP MQ) (x 10) wf := hdep 10 (by kernel_rfl)); (clear hq hdep hold); (rw [if_pos (by rfl)]); (obtain ⟨y10, e10, hp10, hq10, hl10, hm10⟩ := p10); (obtain ⟨g, eg, hg, hgb⟩ := p12); (rw [eg, e10]); (have kS := ((Kept.refl (fun j => j = g) wf).setRow (g := g) (.inl rfl) (cQ y10).toArray)); (refine OpY.storeRowT 76 (.tmp 6) (.tmp 36) rfl g (cQ y10).toArray rfl rfl 76 _ hgb (by kernel_rfl) rfl (all_oneCell_toArray (cQ_one ⟨hl10, hm10⟩)) ?_); (exact ⟨⟨kS.mono fun j _ h => by (have h : j = g := h); subst h; exact hg, fun v p h => setRow_limb hgb (fun _ h => h) kS h⟩, g, y10, eg, hg, hp10, hq10, setRow_heap _ _ _ _ _ _ hgb, setRow_limb hgb (fun _ h => h) kS hl10, setRow_limb hgb (fun _ h => h) kS hm10⟩)
      refine .cons (fun x wf Kk hq hdep hold => ?_) ?_
      · (try dsimp only); (have p11 : PrE.p (Ef := (EfR w3.drew.heap.size)) (AnyE) (x 11) wf := hdep 11 (by kernel_rfl)); (clear hq hdep hold); (rw [if_pos (by rfl)]); (refine OpY.val (v := x 11) (by go_simp) ⟨Kept.refl _ _, trivial⟩)
      exact .nil _
    · (intro x wf Kk hv); (try dsimp only); (have p13 : PrE.r (Ef := (EfR w3.drew.heap.size)) (PStRE 12 MP MQ) (x 12) (x 13) wf := hv 13 (by kernel_rfl)); (clear hv); (obtain ⟨g6, y6, e6, hg6, hp6, hq6, hb6, hl6, hm6⟩ := p13); (simp only [e6]); (have kw6 := hid (k03.out.trans' (Kept.fresh Kk).undrew)); (have hlim6 : Hd (Limbs wf y6.a MP ∧ Limbs wf y6.b MQ) := ⟨by rw [← hp6]; exact hl6, by rw [← hq6]; exact hm6⟩); (have b6 := hid hb6); (obtain ⟨⟨sa6, sc6, esa⟩, ⟨sb6, sd6, esb⟩⟩ := RQ.shape ⟨hl6, hm6⟩); (rw [esa, esb] at hlim6); (have hgk6 : Hd (w.heap.size ≤ g6) := ⟨by have := k03.out.size; have : w3.drew.heap.size = w3.heap.size := rfl; omega⟩); (rw [show (cQ y6).toArray = #[.bool false, .slice sa6 (nl y6.p).length sc6, .slice sb6 (nl y6.q).length sd6] by unfold cQ; rw [esa, esb]] at b6); (obtain ⟨tl, htl⟩ : ∃ l, (nl y6.p).length = l := ⟨_, rfl⟩); (obtain ⟨tl2, htl2⟩ : ∃ l, (nl y6.q).length = l := ⟨_, rfl⟩); (rw [htl, htl2] at b6 hlim6); (obtain ⟨w4, hw4⟩ : ∃ W, wf = W := ⟨_, rfl⟩); (rw [hw4] at kw6 b6 hlim6 ⊢); (clear Kk e6 hg6 hp6 hq6 hb6 hl6 hm6 esa esb htl htl2 hw4 hR5 hrow5 c0 hrow3 HDi k03 kw k02); (obtain ⟨s0, s1, s2⟩ := slotR b6.out); (have HM2 := hid (HMv.out w4 kw6.out _ _ hlim6.out)); (clear HMv); (go_wp2_with fail); (with_reducible refine HM2.out.mono ?_); (rintro e w5 ⟨rfl, pc', hpl', hI5, k5⟩); (have hI5' := hid hI5); (have hpl5 := hid hpl'); (have k05 := hid (kw6.out.of_no (S := fun j => j = gs ∨ j = gp ∨ j = ge ∨ j = gR) |>.trans k5 fun j _ e => .inr (.inl e))); (have kb5 := hid ((k5.block gk (lt_of_heap (kw6.out.blk k_b.out)) nkp).trans (kw6.out.blk k_b.out))); (have sb5 := hid ((k5.block gs (lt_of_heap (kw6.out.blk s_b.out)) nsp).trans (kw6.out.blk s_b.out))); (have rb5 := hid ((k5.block gR (lt_of_heap (kw6.out.blk r_b.out)) nRp).trans (kw6.out.blk r_b.out)))
      have rk5 := hid ((rk'.out.keptNo kw6.out).keptS k5 (fun j hj (e : j = gp) => by have : ge = j := by simpa [ob, Value.ownBlock] using hj
                                                                                      exact npe (by rw [← e, this])) fun j (e : j = gp) => by subst e; exact ⟨curp, _, _, kw6.out.blk hbp'.out, by decide⟩)
      (have g6p : g6 ≠ gp := fun e => by have := lt_of_heap hbp'.out; have := hgk6.out; omega); (have b65 := hid ((k5.block g6 (lt_of_heap b6.out) g6p).trans b6.out)); (have hlim65 : Hd (Limbs w5 (.slice sa6 tl sc6) MP ∧ Limbs w5 (.slice sb6 tl2 sd6) MQ) := ⟨limb_keep (kw6.out.blk hbp'.out) k5 hlim6.out.1, limb_keep (kw6.out.blk hbp'.out) k5 hlim6.out.2⟩); (clear HM2 s0 s1 s2 hpl' hI5 k5 b6 hlim6 kw6); (have a13 : w5.cell? ⟨gk, 13, none⟩ = some (.slice (some ⟨gs, 0, none⟩) n n) := cell_at kb5.out hh13.out); (have as_ : w5.cell? ⟨gs, c, none⟩ = some (.int .i64 (st.getD c 0)) := cell_at sb5.out (zI_at (by rw [hst'.out]; exact hcn))); (have af := row_free sb5.out c); (have kS := (Kept.refl (fun j => j = gs) w5).setCell (a := ⟨gs, c, none⟩) (.inl rfl) (.int .i64 2)); (have k06 := hid (k05.out.trans kS fun j _ e => .inl e)); (have kb6 := hid ((kS.block gk (lt_of_heap kb5.out) nks).trans kb5.out)); (have rb6 := hid ((kS.block gR (lt_of_heap rb5.out) (Ne.symm nsR)).trans rb5.out)); (have stb6 : Hd ((w5.setCell ⟨gs, c, none⟩ (.int .i64 2)).heap[gs]? = some (.cells (zI (st.set c 2)) 3 (0, 0))) := ⟨by rw [setCell_row sb5.out, zI_set]⟩); (have g6s : g6 ≠ gs := fun e => by have := lt_of_heap s_b.out; have := hgk6.out; omega); (have b66 := hid ((kS.block g6 (lt_of_heap b65.out) g6s).trans b65.out)); (have hI6' := hid (hI5'.out.keptS kS (fun e => nsp e.symm) fun j (e : j = gs) => by subst e; exact ⟨_, _, _, sb5.out, by decide⟩))
      have rk6 := hid (rk5.out.keptS kS (fun j hj (e : j = gs) => by have : ge = j := by simpa [ob, Value.ownBlock] using hj
                                                                     exact nse (by rw [← e, this])) fun j (e : j = gs) => by subst e; exact ⟨_, _, _, sb5.out, by decide⟩)
      (have hlim66 : Hd (Limbs (w5.setCell ⟨gs, c, none⟩ (.int .i64 2)) (.slice sa6 tl sc6) MP ∧ Limbs (w5.setCell ⟨gs, c, none⟩ (.int .i64 2)) (.slice sb6 tl2 sd6) MQ) := ⟨kS.ownsRow hlim65.out.1 fun j hj (e : j = gs) => own_ne hlim65.out.1 sb5.out (by decide) j hj e, kS.ownsRow hlim65.out.2 fun j hj (e : j = gs) => own_ne hlim65.out.2 sb5.out (by decide) j hj e⟩); (clear kS); (go_upto_region 5 with fail); (obtain ⟨w6, hw6⟩ : ∃ W, w5.setCell ⟨gs, c, none⟩ (.int .i64 2) = W := ⟨_, rfl⟩); (rw [hw6] at k06 kb6 rb6 stb6 b66 hI6' rk6 hlim66); (rw [hw6]); (clear hw6 a13 as_ af k05 kb5 sb5 rb5 rk5 b65 hI5' hlim65); (have hrow6 : Hd (w6.rangeAt g6 0 [.bool false, .slice sa6 tl sc6, .slice sb6 tl2 sd6]) := ⟨rng_row (L := [.bool false, .slice sa6 tl sc6, .slice sb6 tl2 sd6]) b66.out⟩); (have a14 := hid (cell_at kb6.out hh14.out)); (have hcl : Hd (c < ks.length) := ⟨by rw [hks'.out]; exact hcn⟩); (have hput : Hd (∀ W : World, Kept no w6 W → InQ W (.slice (some ⟨ge, 0, none⟩) n kc) (ks.set c ⟨MP, MQ, .slice sa6 tl sc6, .slice sb6 tl2 sd6⟩) ∨ True) := ⟨fun _ _ => .inr trivial⟩); (clear hput); (refine region_flow (S := (fun j => j = ge)) (Sl := (fun _ => (fun j => j = ge))) [Is (.pointer (some ⟨gk, 0, none⟩)), Is (.pointer (some ⟨gk, 0, none⟩)), Is (.pointer (some ⟨gk, 14, none⟩)), Is (.slice (some ⟨ge, 0, none⟩) n kc), Is (.int .i64 (c : Int)), Is (.agg #[.bool false, .slice sa6 tl sc6, .slice sb6 tl2 sd6]), Is (.pointer (some ⟨ge, c * 3, none⟩)), PSk (.slice (some ⟨ge, 0, none⟩) n kc) ks c MP MQ] [7] (fun _ _ h => h) _ (by kernel_rfl) (by kernel_rfl) (by kernel_rfl) (by kernel_rfl) (fun x => by simp only [puts, Act.put, List.map_cons, List.map_nil, Nat.zero_add, Nat.reduceAdd, List.setIfInBounds_toArray, List.set_cons_zero, List.set_cons_succ]; exact rfl) ?_ ?_)
      · (skip); (refine .cons (fun x wf Kk hq hdep hold => ?_) ?_)
        · (try dsimp only); (clear hq hdep hold); (refine opv rfl ?_); (first | rfl | go_simp)
        refine .cons (fun x wf Kk hq hdep hold => ?_) ?_
        · (try dsimp only); (have h0 : x 0 = _ := hdep 0 (by kernel_rfl)); (clear hq hdep hold); (simp only [h0]); (clear h0); (refine opv rfl ?_); (first | rfl | go_simp)
        refine .cons (fun x wf Kk hq hdep hold => ?_) ?_
        · (try dsimp only); (have h1 : x 1 = _ := hdep 1 (by kernel_rfl)); (clear hq hdep hold); (simp only [h1]); (clear h1); (refine opv rfl ?_); (first | rfl | go_simp)
        refine .cons (fun x wf Kk hq hdep hold => ?_) ?_
        · (try dsimp only); (have h2 : x 2 = _ := hdep 2 (by kernel_rfl)); (have Kq := hq no (fun _ hj => (noMem (by kernel_rfl) hj).elim)); (clear hq hdep hold); (simp only [h2]); (clear h2); (have m1 := Kq.undrew.cell a14.out id); (refine opv rfl ?_); (first | rfl | go_simp)
        refine .cons (fun x wf Kk hq hdep hold => ?_) ?_
        · (try dsimp only); (clear hq hdep hold); (refine opv rfl ?_); (first | rfl | go_simp)
        refine .cons (fun x wf Kk hq hdep hold => ?_) ?_
        · (try dsimp only); (have Kq := hq no (fun _ hj => (noMem (by kernel_rfl) hj).elim)); (clear hq hdep hold); (rw [if_pos (by rfl)]); (exact OpY.row 76 (.tmp 6) rfl g6 (0) rfl [.bool false, .slice sa6 tl sc6, .slice sb6 tl2 sd6] _ (Kq.undrew.rng hrow6.out) Tryz.underlying76 rfl (by kernel_rfl) ⟨Kept.refl _ _, rfl⟩)
        refine .cons (fun x wf Kk hq hdep hold => ?_) ?_
        · (try dsimp only); (have h3 : x 3 = _ := hdep 3 (by kernel_rfl)); (have h4 : x 4 = _ := hdep 4 (by kernel_rfl)); (clear hq hdep hold); (simp only [h3, h4]); (clear h3 h4); (refine opv rfl ?_); (first | rfl | go_simp)
        refine .cons (fun x wf Kk hq hdep hold => ?_) ?_
        · (try dsimp only); (have h6 : x 6 = _ := hdep 6 (by kernel_rfl)); (have h5 : x 5 = _ := hdep 5 (by kernel_rfl)); (have Kq := hq no (fun _ hj => (noMem (by kernel_rfl) hj).elim)); (clear hq hdep hold); (simp only [h6, h5]); (clear h6 h5); (rw [if_pos (by rfl)]); (have hQ := rk6.out.keptNo Kq.undrew); (have hl : Limbs wf (.slice sa6 tl sc6) MP ∧ Limbs wf (.slice sb6 tl2 sd6) MQ := ⟨Kq.undrew.ownsRow hlim66.out.1 fun _ _ => id, Kq.undrew.ownsRow hlim66.out.2 fun _ _ => id⟩); (have hone := cQ_one (x := ⟨MP, MQ, .slice sa6 tl sc6, .slice sb6 tl2 sd6⟩) hl); (refine OpY.storeMid 76 (.tmp 54) (.tmp 53) rfl ge (c * 3) (cQ ⟨MP, MQ, .slice sa6 tl sc6, .slice sb6 tl2 sd6⟩).toArray rfl rfl (hQ.there c hcl.out) (by kernel_rfl) (all_oneCell_toArray hone) ?_); (exact ⟨(((Kept.refl (fun j => j = ge) wf).setCell (a := ⟨ge, c * 3, none⟩) (.inl rfl) (.bool false)).setCell (a := ⟨ge, c * 3 + 1, none⟩) (.inl rfl) (.slice sa6 tl sc6)).setCell (a := ⟨ge, c * 3 + 2, none⟩) (.inl rfl) (.slice sb6 tl2 sd6), ⟨MP, MQ, .slice sa6 tl sc6, .slice sb6 tl2 sd6⟩, rfl, rfl, hQ.set c hcl.out hl⟩)
        exact .nil _
      · (intro x wf Kk hv); (try dsimp only); (have p7 : Pr.p (Sl := (fun _ => (fun j => j = ge))) (PSk (.slice (some ⟨ge, 0, none⟩) n kc) ks c MP MQ) (x 7) wf := hv 7 (by kernel_rfl)); (clear hv); (obtain ⟨y, hy1, hy2, hQ7⟩ := p7); (have k5 := Kk.undrew); (have hre : ∀ {g : Nat} {c : Array Value} {t : TypeId}, w6.heap[g]? = some (.cells c t (0, 0)) → g ≠ ge → wf.heap[g]? = some (.cells c t (0, 0)) := fun h ne => (k5.block _ (lt_of_heap h) ne).trans h)
        have hI7 := hI6'.out.keptS k5 npe fun j (e : j = ge) => by
          (obtain ⟨cur, hb⟩ := rk6.out.blk); (subst e); (exact ⟨cur, _, _, hb, by decide⟩)
        (have hfin : Hd (TrR gk gs gp ge gR m cap C D (st.set c 2) ((pc.map Pc.pl).map (mvPl st (c : Int) MP MQ)) (.slice (some ⟨ge, 0, none⟩) n kc) ((pq ks).set c (MP, MQ)) w wf) := ⟨⟨hre kb6.out nke, hre stb6.out nse, hre rb6.out nRe, ⟨pc', hpl5.out, hI7⟩, ⟨_, by rw [pq_set, hy1, hy2], hQ7⟩, k06.out.trans k5 fun j _ e => .inr (.inr (.inl e))⟩⟩); (clear hre hI7 k5 hQ7 hy1 hy2 Kk); (go_wp2)
        go_end0
        exact ⟨rfl, by simpa using hfin.out⟩
end Go.Proofs.YtaobaaaihgahfaaGreat
