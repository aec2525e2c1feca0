/- random.first and Source.Word. -/
import Derived.Test.YtobihnkmmlkccaaDoorRnd
import Derived.Test.YtobihnkmmlkccaaDoorKit2
import Derived.Test.YtobihnkmmlkccaaDoorHeld
import Derived.Laws.IdiomStrings
namespace Go.Mk
open Go.RowKit
theorem u64_push (n : Nat) (x : UInt8) (h : n < 72057594037927936) : bits .or .u64 ((n : Int) * 256) (x.toNat : Int) = ((n * 256 + x.toNat : Nat) : Int) := by
  have hx := x.toNat_lt
  rw [show (n : Int) * 256 = ((n * 256 : Nat) : Int) by omega, u64_or_nat _ _ (by omega) (by omega)]
  congr 1
  rw [show n * 256 = n <<< 8 by rw [Nat.shiftLeft_eq]]
  exact (Nat.shiftLeft_add_eq_or_of_lt (by omega) n).symm
theorem Calls.lit2d {P : Program} {f : FuncId} {args : Array Value} {R : Ending → World → Prop} (w : World) (o1 : Obj) (c2 : Array Value) (t2 : TypeId)
    (h : ∀ w1, w1.heap[w.heap.size]? = some o1 → w1.heap[w.heap.size + 1]? = some (.cells c2 t2 (0, 0)) → Kept no w w1 → Calls P f args w1 R) :
    Calls P f args ((w.alloc o1).alloc (.cells c2 t2)).drew R :=
  h _ (by
    show ((w.alloc o1).alloc (.cells c2 t2)).heap[w.heap.size]? = _
    rw [Below.heap_alloc _ _ _ (by simp)]; exact heap_alloc_new w _) (by
    show ((w.alloc o1).alloc (.cells c2 t2)).heap[w.heap.size + 1]? = _
    rw [← World.size_alloc (w := w) (o := o1)]; exact heap_alloc_new _ _) (((Kept.refl no w).alloc _).alloc _).drew
end Go.Mk
namespace Go.Proofs.YtobihnkmmlkccaaDoor
open Go.RowKit Go.Mk Go.Sha Go.Rnd
theorem num_take (l : List UInt8) (k : Nat) (h : k < l.length) : num (l.take (k + 1)) = num (l.take k) * 256 + (l.getD k 0).toNat := by
  rw [List.take_succ_eq_append_getElem h, num_snoc, List.getD_eq_getElem?_getD, List.getElem?_eq_getElem h]; rfl
theorem num_bd (l : List UInt8) (k : Nat) (h : k < 8) : num (l.take k) < 72057594037927936 := by
  have h1 := num_lt (l.take k)
  have h2 : (l.take k).length ≤ 7 := by rw [List.length_take]; omega
  have h3 : 256 ^ (l.take k).length ≤ 256 ^ 7 := Nat.pow_le_pow_right (by decide) h2
  omega
set_option maxRecDepth 100000 in
set_option maxHeartbeats 400000 in
theorem first_any (l : List UInt8) (hl : l.length = 32) (w : World) :
    Calls Tryd.prog 34 #[.agg (l.map B).toArray] w fun e w' => e = .returned (.int .u64 (num (l.take 8) : Int)) ∧ Kept no w w' := by
  have hnew := hid (heap_alloc_new w (.cells (l.map B).toArray 63))
  have K0 := hid (((Kept.refl no w).alloc (.cells (l.map B).toArray 63)))
  go_enter Tryd.func34, Tryd.ntmps34
  go_wp2
  go_loopw [3, 5, 8] (fun n _ i wr => ∃ k : Nat, k ≤ 8 ∧ i = .int .i64 k ∧ n = .int .u64 (num (l.take k) : Int) ∧ Hd (wr.heap[w.heap.size]? = some (.cells (l.map B).toArray 63 (0, 0))) ∧ Hd (Kept no w wr)) (fun _ _ i _ => 8 - (intOf i).toNat)
  case atStart => exact ⟨0, by omega, rfl, rfl, hnew, K0⟩
  case round =>
    clear K0 hnew
    obtain ⟨k, hk, rfl, rfl, hB, hK⟩ := hrel
    by_cases hlt : k < 8
    · have hc : wr.cell? ⟨w.heap.size, k, none⟩ = some (.int .u8 ((l.getD k 0).toNat : Int)) := by
        rw [cell_of_row wr _ k _ _ _ hB.out]; simp [B, hl, show k < 32 by omega]
      have hs := hid (num_take l k (by omega))
      have hb := num_bd l k hlt
      have hp := hid (u64_push (num (l.take k)) (l.getD k 0) hb)
      generalize l.getD k 0 = x at hc hs hp
      generalize num (l.take k) = m at hs hb hp ⊢
      have hx := x.toNat_lt
      go_wp2
      go_roundw
      case rel => exact ⟨k + 1, by omega, by go_num, by rw [hp.out, hs.out], hB, hK⟩
      case measure => simp [intOf]; omega
    · obtain rfl : k = 8 := by omega
      go_wp2
      go_ret
      exact ⟨rfl, hK.out⟩
/-- A source in block g: its seed, and how many words were drawn. -/
def Src (t : TypeId) (g : Nat) (s : ByteArray) (c : Nat) (w : World) : Prop := w.heap[g]? = some (.cells #[.string s, .int .u64 (c : Int)] t (0, 0))
def at1 (g : Nat) : Nat → Prop := fun k => k = g
theorem Src.kept {S : Nat → Prop} {t : TypeId} {g : Nat} {s : ByteArray} {c : Nat} {w w' : World} (h : Src t g s c w) (hk : Kept S w w') (hn : ¬ S g) : Src t g s c w' := (hk.block _ (lt_of_heap h) hn).trans h
theorem Src.bump {t : TypeId} {g : Nat} {s : ByteArray} {c : Nat} {w : World} (h : Src t g s c w) : Src t g s (c + 1) (w.setCell ⟨g, 1, none⟩ (.int .u64 ((c : Int) + 1))) := by
  unfold Src at *
  rw [row_set h 1]
  simp
theorem bytes_row {w : World} {g : Nat} {e : TypeId} {fr : Nat × Nat} {s : ByteArray} {cap : Nat} (h : w.heap[g]? = some (.cells (bytesRow s cap) e fr)) (hc : s.size ≤ cap) (hm : cap ≤ maxLen) :
    Rd w 1 (.slice (some ⟨g, 0, none⟩) s.size cap) s.data.toList.length (s.data.toList.map B) := by
  have hl : s.data.toList.length = s.size := Array.length_toList (xs := s.data)
  refine ⟨by simp, some ⟨g, 0, none⟩, cap, by rw [hl], by omega, hm, .inr ⟨g, 0, rfl, fun j u hu => ?_⟩⟩
  rw [cell_of_row w g (0 + j) _ e fr h]
  have hj : j < s.data.size := by
    have := (List.getElem?_eq_some_iff.1 hu).1
    simpa using this
  rw [bytesRow, Array.getElem?_append_left (by simpa using hj)]
  simp only [List.getElem?_map, Array.getElem?_toList] at hu
  simpa [B, Function.comp_def] using hu
set_option maxRecDepth 100000 in
set_option maxHeartbeats 1000000 in
theorem word_any (g : Nat) (s : ByteArray) (c : Nat) (w : World) (hc : c < 4611686018427387904) (hs : s.size ≤ 1000000) (hS : Src 48 g s c w) (hT : Tab w) :
    Calls Tryd.prog 27 #[.pointer (some ⟨g, 0, none⟩)] w fun e w' => e = .returned (.int .u64 (word s.data.toList c : Int)) ∧ Src 48 g s (c + 1) w' ∧ Kept (at1 g) w w' := by
  have hcv := fun w s => run_bytes_of_string (P := Tryd.prog) w 9 46 5 s Tryd.underlying9 Tryd.underlying46 Tryd.underlying5
  replace hT := hid hT
  replace hS := hid hS
  go_enter Tryd.func27, Tryd.ntmps27
  go_wp2
  go_loopw [3, 4] (fun v i wr => ∃ (j : Nat) (acc : List UInt8), j ≤ 8 ∧ i = .int .i64 (8 * (j : Int) - 8) ∧ Hd (acc ++ be c j = be c 8) ∧ acc.length + j = 8 ∧ Hd (wr.ownsRow 0 5 1 v acc.length (acc.map B)) ∧ Hd (Kept no w wr) ∧ Hd (New w v))
    (fun _ i _ => (intOf i + 8).toNat)
  case atStart => exact ⟨8, [], by omega, rfl, ⟨rfl⟩, rfl, ⟨World.ownsRow_nil _ _ _ _⟩, ⟨Kept.refl _ _⟩, ⟨.inl rfl⟩⟩
  case round =>
    obtain ⟨j, acc, hj, rfl, Hacc, hal, ho, hK, hN⟩ := hrel
    have hS1 := hid (hS.out.kept hK.out id)
    have c1 : wr.cell? ⟨g, 1, none⟩ = some (.int .u64 (c : Int)) := cell_of_row wr g 1 _ _ (0, 0) hS1.out
    by_cases hj0 : j = 0
    · subst hj0
      have h1 : acc = be c 8 := by have := Hacc.out; rwa [show be c 0 = [] from rfl, List.append_nil] at this
      subst h1
      have f1 : wr.frozen? ⟨g, 1, none⟩ = false := row_free hS1.out 1
      have c0 : wr.cell? ⟨g, 0, none⟩ = some (.string s) := cell_of_row wr g 0 _ _ (0, 0) hS1.out
      have hl8 := hid (be_length c 8)
      obtain ⟨a3, c3, rfl⟩ : ∃ a c', u3 = .slice a 8 c' := by
        obtain ⟨_, ⟨_, h⟩ | ⟨g', c', _, h, _⟩⟩ := ho.out
        · rw [hl8.out] at h; cases h
        · exact ⟨_, _, by rw [h, hl8.out]⟩
      clear Hacc hal
      have hgl := lt_of_heap hS.out
      obtain ⟨wS, hwS, hzS, sS, kS⟩ : ∃ wS, wS = wr.setCell ⟨g, 1, none⟩ (.int .u64 ((c : Int) + 1)) ∧ wS.heap.size = wr.heap.size ∧ Src 48 g s (c + 1) wS ∧ Kept (at1 g) wr wS :=
        ⟨_, rfl, by simp [World.setCell], hS1.out.bump, (Kept.refl (at1 g) wr).setCell (a := ⟨g, 1, none⟩) (.inl rfl) _⟩
      have hcap1 := grownCap_ge wS s.size 0 5
      have hcap2 := grownCap_le_maxLen wS s.size 0 5 (by unfold maxLen; omega)
      have hoS : wS.ownsRow 0 5 1 (.slice a3 8 c3) (be c 8).length ((be c 8).map B) := kS.ownsRow ho.out fun k hk e => by
        rcases hN.out with h | ⟨j, h, hl⟩
        · rw [h] at hk; cases hk
        · rw [h] at hk; cases hk; cases e; omega
      have KS : Kept (at1 g) w wS := (hK.out.of_no (S := at1 g)).trans kS fun _ _ h => h
      replace hwS := hid hwS
      replace hzS := hid hzS
      replace sS := hid sS
      replace hoS := hid hoS
      replace KS := hid KS
      clear kS hS1 ho hN
      go_wp2_with fail
      rw [← hwS.out]
      generalize grownCap wS s.size 0 5 = cap at hcap1 hcap2 ⊢
      rw [← hzS.out]
      refine Calls.lit2d wS _ _ _ ?_
      intro w1 e1 e2 k1
      have hr : RdP w1 (.slice (some ⟨wS.heap.size + 1, 0, none⟩) 2 2) [s.data.toList, be c 8] := ⟨[.slice (some ⟨wS.heap.size, 0, none⟩) s.size cap, .slice a3 8 c3], Rd.block e2 rfl (by decide), fun j hj => by
        match j, hj with
        | 0, _ => exact bytes_row e1 hcap1 hcap2
        | 1, _ => exact Rd.of_own (k1.ownsRow hoS.out fun _ _ => id)⟩
      have hjl : (join [s.data.toList, be c 8]).length ≤ 1099511000000 := by
        have : s.data.toList.length = s.size := Array.length_toList (xs := s.data)
        simp only [join, List.flatMap_cons, List.flatMap_nil, List.length_append, be_length, List.length_nil]; omega
      have T1 : Tab w1 := fun i hi => by
        have h0 := hT.out i hi
        have hne : 3 ≠ g := by
          rintro rfl
          have h1 := hS.out
          unfold Src at h1
          have := cell_of_row w 3 i _ _ (0, 0) h1
          rw [h0] at this
          match i, hi with
          | 0, _ => cases this
          | 1, _ => cases this
          | i + 2, _ => simp at this
        exact k1.cell (KS.out.cell h0 hne) id
      refine (of_any _ _ w1 hjl (by simp) hr T1).mono ?_
      rintro e w2 ⟨rfl, k2⟩
      have s2 := hid (((sS.out.kept k1 id).kept k2 id))
      have K2 := hid ((KS.out.trans' k1).trans' k2)
      have hw := hid (show word s.data.toList c = num ((sum (join [s.data.toList, be c 8])).take 8) from rfl)
      have HF := hid (fun w => first_any (sum (join [s.data.toList, be c 8])) (sum_length _) w)
      generalize sum (join [s.data.toList, be c 8]) = D at hw HF ⊢
      clear hr hjl T1 e1 e2 k1 k2 hcap1 hcap2 hoS sS KS hwS c1 f1 c0
      unfold Dg
      go_wp2_with fail
      refine (HF.out w2).mono ?_
      rintro e w3 ⟨rfl, k3⟩
      have s3 := hid (s2.out.kept k3 id)
      have K3 := hid (K2.out.trans' k3)
      clear k3 s2 K2 HF
      go_wp2
      go_ret
      exact ⟨by rw [hw.out]; rfl, s3.out, K3.out⟩
    · obtain ⟨m, rfl⟩ : ∃ m, j = m + 1 := ⟨j - 1, by omega⟩
      have hcast : 8 * (((m + 1 : Nat)) : Int) - 8 = 8 * (m : Int) := by omega
      simp only [hcast]
      clear hcast
      have hsh : (8 * (m : Int)).toNat = 8 * m := by omega
      go_wp2_with (at_builtin; refine wpList_append_lit _ rfl _ _ 46 rfl 5 1 1 TBytes _ _ _ rfl ho.out 1 [_] rfl rfl ?c1 ?c2 ?c3 ?_)
      case c1 => simp [Value.oneCell']
      case c2 => unfold maxLen; omega
      case c3 => omega
      intro v' w' h2 h3 h4 _
      have h7 : Hd (w'.ownsRow 0 5 1 v' (acc ++ [UInt8.ofNat (c / 2 ^ (8 * m))]).length ((acc ++ [UInt8.ofNat (c / 2 ^ (8 * m))]).map B)) := ⟨by
        have e : Value.int IntKind.u8 ((c : Int) / 2 ^ (8 * m) % 256) = B (UInt8.ofNat (c / 2 ^ (8 * m))) := by rw [← B_of]; norm_cast
        rw [e] at h2
        simpa using h2⟩
      have h5 := hid (hN.out.kept hK.out h3)
      have h6 := hid (hN.out.step h4 hK.out.size)
      clear h2 h3 h4 hK hN ho hsh c1 hS1
      go_wp2
      go_roundw
      case rel => first | exact ⟨m, _, by omega, congrArg (Value.int .i64) (by omega), ⟨by rw [← Hacc.out, be_succ]; simp⟩, by simp; omega, h7, h5, h6⟩ | ((repeat apply Exists.intro); exact ⟨⟨m, _, by omega, congrArg (Value.int .i64) (by omega), ⟨by rw [← Hacc.out, be_succ]; simp⟩, by simp; omega, h7, h5, h6⟩, rfl⟩)
      case measure => simp [intOf]; omega
end Go.Proofs.YtobihnkmmlkccaaDoor
