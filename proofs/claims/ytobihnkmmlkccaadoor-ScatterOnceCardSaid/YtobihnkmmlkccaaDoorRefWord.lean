/- electionref05.Source.Word. -/
import Derived.Test.YtobihnkmmlkccaaDoorWord
import Derived.Test.YtobihnkmmlkccaaDoorRefJoin
namespace Go.Proofs.YtobihnkmmlkccaaDoor
open Go.RowKit Go.Mk Go.Sha Go.Rnd
set_option maxRecDepth 100000 in
set_option maxHeartbeats 1000000 in
theorem refword_any (g : Nat) (s : ByteArray) (c : Nat) (w : World) (hc : c < 4611686018427387904) (hs : s.size ≤ 1000000) (hS : Src 43 g s c w) (hT : TabR w) :
    Calls Tryd.prog 32 #[.pointer (some ⟨g, 0, none⟩)] w fun e w' => e = .returned (.int .u64 (word s.data.toList c : Int)) ∧ Src 43 g s (c + 1) w' ∧ Kept (at1 g) w w' := by
  have hcv := fun w s => run_bytes_of_string (P := Tryd.prog) w 9 46 5 s Tryd.underlying9 Tryd.underlying46 Tryd.underlying5
  replace hT := hid hT
  replace hS := hid hS
  go_enter Tryd.func32, Tryd.ntmps32
  go_wp2
  go_loopw [3, 4] (fun v i wr => ∃ (j : Nat) (acc : List UInt8), j ≤ 8 ∧ i = .int .i64 ((j : Int) - 1) ∧ Hd (acc ++ be c j = be c 8) ∧ acc.length + j = 8 ∧ Hd (wr.ownsRow 0 5 1 v acc.length (acc.map B)) ∧ Hd (Kept no w wr) ∧ Hd (New w v))
    (fun _ i _ => (intOf i + 1).toNat)
  case atStart => exact ⟨8, [], by omega, rfl, ⟨rfl⟩, rfl, ⟨World.ownsRow_nil _ _ _ _⟩, ⟨Kept.refl _ _⟩, ⟨.inl rfl⟩⟩
  case round =>
    obtain ⟨j, acc, hj, rfl, Hacc, hal, ho, hK, hN⟩ := hrel
    have hS1 := hid (hS.out.kept hK.out id)
    have c1 : wr.cell? ⟨g, 1, none⟩ = some (.int .u64 (c : Int)) := cell_of_row wr g 1 _ _ (0, 0) hS1.out
    by_cases hj0 : j = 0
    · subst hj0
      have h1 : acc = be c 8 := by have := Hacc.out; rwa [show be c 0 = [] from rfl, List.append_nil] at this
      subst h1
      have f1 : wr.frozen? ⟨g, 1, none⟩ = false := row_free hS1.out 1
      have c0 : wr.cell? ⟨g, 0, none⟩ = some (.string s) := cell_of_row wr g 0 _ _ (0, 0) hS1.out
      have hl8 := hid (be_length c 8)
      obtain ⟨a3, c3, rfl⟩ : ∃ a c', u3 = .slice a 8 c' := by
        obtain ⟨_, ⟨_, h⟩ | ⟨g', c', _, h, _⟩⟩ := ho.out
        · rw [hl8.out] at h; cases h
        · exact ⟨_, _, by rw [h, hl8.out]⟩
      clear Hacc hal
      have hgl := lt_of_heap hS.out
      obtain ⟨wS, hwS, hzS, sS, kS⟩ : ∃ wS, wS = wr.setCell ⟨g, 1, none⟩ (.int .u64 ((c : Int) + 1)) ∧ wS.heap.size = wr.heap.size ∧ Src 43 g s (c + 1) wS ∧ Kept (at1 g) wr wS :=
        ⟨_, rfl, by simp [World.setCell], hS1.out.bump, (Kept.refl (at1 g) wr).setCell (a := ⟨g, 1, none⟩) (.inl rfl) _⟩
      have hcap1 := grownCap_ge wS s.size 0 5
      have hcap2 := grownCap_le_maxLen wS s.size 0 5 (by unfold maxLen; omega)
      have hoS : wS.ownsRow 0 5 1 (.slice a3 8 c3) (be c 8).length ((be c 8).map B) := kS.ownsRow ho.out fun k hk e => by
        rcases hN.out with h | ⟨j, h, hl⟩
        · rw [h] at hk; cases hk
        · rw [h] at hk; cases hk; cases e; omega
      have KS : Kept (at1 g) w wS := (hK.out.of_no (S := at1 g)).trans kS fun _ _ h => h
      replace hwS := hid hwS
      replace hzS := hid hzS
      replace sS := hid sS
      replace hoS := hid hoS
      replace KS := hid KS
      clear kS hS1 ho hN
      go_wp2_with fail
      rw [← hwS.out]
      generalize grownCap wS s.size 0 5 = cap at hcap1 hcap2 ⊢
      rw [← hzS.out]
      refine Calls.lit2d wS _ _ _ ?_
      intro w1 e1 e2 k1
      have hr : RdP w1 (.slice (some ⟨wS.heap.size + 1, 0, none⟩) 2 2) [s.data.toList, be c 8] := ⟨[.slice (some ⟨wS.heap.size, 0, none⟩) s.size cap, .slice a3 8 c3], Rd.block e2 rfl (by decide), fun j hj => by
        match j, hj with
        | 0, _ => exact bytes_row e1 hcap1 hcap2
        | 1, _ => exact Rd.of_own (k1.ownsRow hoS.out fun _ _ => id)⟩
      have hsl : s.data.toList.length = s.size := Array.length_toList (xs := s.data)
      have hjl : (join [s.data.toList, be c 8]).length ≤ 1099511000000 := by
        simp only [join, List.flatMap_cons, List.flatMap_nil, List.length_append, be_length, List.length_nil]; omega
      have h32 : ∀ p ∈ [s.data.toList, be c 8], p.length < 4294967296 := by
        intro p hp
        simp only [List.mem_cons, List.not_mem_nil, or_false] at hp
        rcases hp with rfl | rfl
        · omega
        · rw [be_length]; omega
      have T1 : TabR w1 := fun i hi => by
        have h0 := hT.out i hi
        have hne : 4 ≠ g := by
          rintro rfl
          have h1 := hS.out
          unfold Src at h1
          have := cell_of_row w 4 i _ _ (0, 0) h1
          rw [h0] at this
          match i, hi with
          | 0, _ => cases this
          | 1, _ => cases this
          | i + 2, _ => simp at this
        exact k1.cell (KS.out.cell h0 hne) id
      refine (refof_any _ _ w1 hjl (by simp) h32 hr T1).mono ?_
      rintro e w2 ⟨rfl, k2⟩
      have s2 := hid (((sS.out.kept k1 id).kept k2 id))
      have K2 := hid ((KS.out.trans' k1).trans' k2)
      have hw := hid (show word s.data.toList c = num ((sum (join [s.data.toList, be c 8])).take 8) from rfl)
      have hDl := sum_length (join [s.data.toList, be c 8])
      generalize sum (join [s.data.toList, be c 8]) = D at hw hDl ⊢
      clear hr hjl T1 e1 e2 k1 k2 hcap1 hcap2 hoS sS KS hwS c1 f1 c0 h32 hsl
      unfold Dg
      have hsz : (D.map B).toArray.size = 32 := by simp [hDl]
      have hinf : Hd ((Tryd.prog.info? 63).map (·.size) = some (D.map B).toArray.size) := ⟨by rw [hsz]; kernel_rfl⟩
      have hone : Hd ((D.map B).toArray.all (·.oneCell') = true) := ⟨all_oneCell_toArray (B_one _)⟩
      have hold : Hd (Z32.size = (D.map B).toArray.size) := ⟨by rw [hsz]; rfl⟩
      clear hsz
      replace hDl := hid hDl
      have hN2 := hid (heap_alloc_new w2 (.cells Z32 63))
      obtain ⟨w4, hw4, r4, s4, K4⟩ : ∃ w4, w4 = (w2.alloc (.cells Z32 63)).setRow w2.heap.size (D.map B).toArray ∧ w4.heap[w2.heap.size]? = some (.cells (D.map B).toArray 63 (0, 0)) ∧ Src 43 g s (c + 1) w4 ∧ Kept (at1 g) w w4 := by
        have l2 := lt_of_heap s2.out
        refine ⟨_, rfl, setRow_heap _ _ _ _ _ _ hN2.out, ?_, (K2.out.alloc _).setRow (.inr K2.out.size) _⟩
        unfold Src
        rw [setRow_other _ _ _ _ (by omega), heap_alloc_old _ _ l2]; exact s2.out
      unfold Z32 at hN2 hold hw4
      replace hw4 := hid hw4
      replace r4 := hid r4
      replace s4 := hid s4
      replace K4 := hid K4
      go_wp2_with (with_reducible refine wpList_store_row rfl 63 _ _ rfl w2.heap.size (D.map B).toArray rfl rfl 63 _ hN2.out hinf.out hold.out hone.out ?_; rw [← hw4.out])
      clear hw4 hN2 s2 K2 hinf hone hold
      generalize w2.heap.size = gd at r4 ⊢
      clear w2
      go_loopw [6, 7] (fun n i wr => ∃ k : Nat, k ≤ 8 ∧ i = .int .i64 k ∧ n = .int .u64 (num (D.take k) : Int) ∧ Hd (wr.heap[gd]? = some (.cells (D.map B).toArray 63 (0, 0))) ∧ Hd (Src 43 g s (c + 1) wr) ∧ Hd (Kept (at1 g) w wr)) (fun _ i _ => 8 - (intOf i).toNat)
      case atStart => exact ⟨0, by omega, rfl, rfl, r4, s4, K4⟩
      case round =>
        clear K4 s4 r4
        obtain ⟨k, hk, rfl, rfl, r4, s4, K4⟩ := hrel
        by_cases hlt : k < 8
        · have hcd : wr.cell? ⟨gd, k, none⟩ = some (.int .u8 ((D.getD k 0).toNat : Int)) := by
            rw [cell_of_row wr _ k _ _ _ r4.out]; simp [B, hDl.out, show k < 32 by omega]
          have hs := hid (num_take D k (by have := hDl.out; omega))
          have hb := num_bd D k hlt
          have hp := hid (u64_push (num (D.take k)) (D.getD k 0) hb)
          generalize D.getD k 0 = x at hcd hs hp
          generalize num (D.take k) = m at hs hb hp ⊢
          have hx := x.toNat_lt
          go_wp2
          go_roundw
          case rel => first | exact ⟨k + 1, by omega, by go_num, by rw [hp.out, hs.out], r4, s4, K4⟩ | ((repeat apply Exists.intro); exact ⟨⟨k + 1, by omega, by go_num, by rw [hp.out, hs.out], r4, s4, K4⟩, rfl⟩)
          case measure => simp [intOf]; omega
        · obtain rfl : k = 8 := by omega
          go_wp2
          go_ret
          exact ⟨by rw [hw.out]; rfl, s4.out, K4.out⟩
    · obtain ⟨m, rfl⟩ : ∃ m, j = m + 1 := ⟨j - 1, by omega⟩
      have hcast : (((m + 1 : Nat)) : Int) - 1 = (m : Int) := by omega
      simp only [hcast]
      clear hcast
      have hsh : (8 * (m : Int)).toNat = 8 * m := by omega
      go_wp2_with (at_builtin; refine wpList_append_lit _ rfl _ _ 46 rfl 5 1 1 TBytes _ _ _ rfl ho.out 1 [_] rfl rfl ?c1 ?c2 ?c3 ?_)
      case c1 => simp [Value.oneCell']
      case c2 => unfold maxLen; omega
      case c3 => omega
      intro v' w' h2 h3 h4 _
      have h7 : Hd (w'.ownsRow 0 5 1 v' (acc ++ [UInt8.ofNat (c / 2 ^ (8 * m))]).length ((acc ++ [UInt8.ofNat (c / 2 ^ (8 * m))]).map B)) := ⟨by
        have e : Value.int IntKind.u8 ((c : Int) / 2 ^ (8 * m) % 256) = B (UInt8.ofNat (c / 2 ^ (8 * m))) := by rw [← B_of]; norm_cast
        rw [e] at h2
        simpa using h2⟩
      have h5 := hid (hN.out.kept hK.out h3)
      have h6 := hid (hN.out.step h4 hK.out.size)
      clear h2 h3 h4 hK hN ho hsh c1 hS1
      go_wp2
      go_roundw
      case rel => first | exact ⟨m, _, by omega, rfl, ⟨by rw [← Hacc.out, be_succ]; simp⟩, by simp; omega, h7, h5, h6⟩ | ((repeat apply Exists.intro); exact ⟨⟨m, _, by omega, rfl, ⟨by rw [← Hacc.out, be_succ]; simp⟩, by simp; omega, h7, h5, h6⟩, rfl⟩)
      case measure => simp [intOf]
end Go.Proofs.YtobihnkmmlkccaaDoor
