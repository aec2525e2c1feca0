/- electionref04.block adds a block to the state. -/
import Derived.Test.YtggcbjchnefhfaaDoorRefWords
import Derived.Test.YtggcbjchnefhfaaDoorSum
import Derived.Deep.RegionHeld3
import Derived.Deep.DeepCutAuto
namespace Go.Mk
theorem step_store_row {P : Program} {w : World} {ops : Array Oper} {o : Oper} {a : Act} {K : Act → World → Prop} {Q : Exit → Act → World → Prop} {E : Prop} (hgd : o.guard = none) (ty : TypeId) (x y : Operand) (ho : o.op = .store ty x y)
    (g : Nat) (cells : Array Value) (hx : a.eval x = .pointer (some ⟨g, 0, none⟩)) (hy : a.eval y = .agg cells) (t : TypeId) (old : Array Value) (hg : w.heap[g]? = some (.cells old t (0, 0)))
    (hi : (P.info? ty).map (·.size) = some cells.size) (hold : old.size = cells.size) (h1 : cells.all (·.oneCell') = true) (h : K (a.put o.dst undef) (w.setRow g cells)) :
    if Region.wanted o (yielded ops a.tmps) = true then Oper.wp P o a w K Q else E := by
  rw [if_pos (by simp [Region.wanted, hgd])]
  exact wp_store_row ty x y ho g cells hx hy t old hg hi hold h1 h
end Go.Mk
namespace Go.Proofs.YtggcbjchnefhfaaDoor
open Go.RowKit Go.Mk Go.Sha
def Z8 : Array Value := #[.int .u32 0, .int .u32 0, .int .u32 0, .int .u32 0, .int .u32 0, .int .u32 0, .int .u32 0, .int .u32 0]
def Z64 : Array Value := #[.int .u32 0, .int .u32 0, .int .u32 0, .int .u32 0, .int .u32 0, .int .u32 0, .int .u32 0, .int .u32 0, .int .u32 0, .int .u32 0, .int .u32 0, .int .u32 0, .int .u32 0, .int .u32 0, .int .u32 0, .int .u32 0, .int .u32 0, .int .u32 0, .int .u32 0, .int .u32 0, .int .u32 0, .int .u32 0, .int .u32 0, .int .u32 0, .int .u32 0, .int .u32 0, .int .u32 0, .int .u32 0, .int .u32 0, .int .u32 0, .int .u32 0, .int .u32 0, .int .u32 0, .int .u32 0, .int .u32 0, .int .u32 0, .int .u32 0, .int .u32 0, .int .u32 0, .int .u32 0, .int .u32 0, .int .u32 0, .int .u32 0, .int .u32 0, .int .u32 0, .int .u32 0, .int .u32 0, .int .u32 0, .int .u32 0, .int .u32 0, .int .u32 0, .int .u32 0, .int .u32 0, .int .u32 0, .int .u32 0, .int .u32 0, .int .u32 0, .int .u32 0, .int .u32 0, .int .u32 0, .int .u32 0, .int .u32 0, .int .u32 0, .int .u32 0]
theorem Z64_arr : Z64 = arr (fun _ => 0) 64 := arr0
abbrev C8 (g : Nat) (s : St) (w : World) : Prop :=
  w.cell? ⟨g, 0, none⟩ = some (.int .u32 s.a.toNat) ∧ w.cell? ⟨g, 1, none⟩ = some (.int .u32 s.b.toNat) ∧ w.cell? ⟨g, 2, none⟩ = some (.int .u32 s.c.toNat) ∧ w.cell? ⟨g, 3, none⟩ = some (.int .u32 s.d.toNat) ∧
  w.cell? ⟨g, 4, none⟩ = some (.int .u32 s.e.toNat) ∧ w.cell? ⟨g, 5, none⟩ = some (.int .u32 s.f.toNat) ∧ w.cell? ⟨g, 6, none⟩ = some (.int .u32 s.g.toNat) ∧ w.cell? ⟨g, 7, none⟩ = some (.int .u32 s.h.toNat)
theorem C8.of {g : Nat} {s : St} {w : World} (R : w.heap[g]? = some (.cells (cells8 s) 81 (0,0))) : C8 g s w :=
  ⟨cell_of_row w _ 0 _ 81 (0,0) R, cell_of_row w _ 1 _ 81 (0,0) R, cell_of_row w _ 2 _ 81 (0,0) R, cell_of_row w _ 3 _ 81 (0,0) R, cell_of_row w _ 4 _ 81 (0,0) R, cell_of_row w _ 5 _ 81 (0,0) R, cell_of_row w _ 6 _ 81 (0,0) R, cell_of_row w _ 7 _ 81 (0,0) R⟩
theorem C8.kept {S : Nat → Prop} {g : Nat} {s : St} {w w' : World} (h : C8 g s w) (hk : Kept S w w') (hn : ¬ S g) : C8 g s w' := by
  obtain ⟨h0, h1, h2, h3, h4, h5, h6, h7⟩ := h
  exact ⟨hk.cell h0 hn, hk.cell h1 hn, hk.cell h2 hn, hk.cell h3 hn, hk.cell h4 hn, hk.cell h5 hn, hk.cell h6 hn, hk.cell h7 hn⟩
/-- What the two variables of block hold at the loop's head. -/
structure BH (w0 : World) (gh g5 g6 : Nat) (st ss : St) (A : Array Value) (w : World) : Prop where
  fh : w.heap[gh]? = some (.cells (cells8 st) 81 (0,0))
  fr : w.heap[gh + 1]? = some (.cells Z8 81 (0,0))
  fw : w.heap[g5]? = some (.cells A 92 (0,0))
  fs : w.heap[g6]? = some (.cells (cells8 ss) 81 (0,0))
  kept : Kept no w0 w
  l6 : gh + 1 < g6
  lh : gh = w0.heap.size
def MG (gs gw : Nat) (s : St) (kk ww : UInt32) (k : Nat) (w : World) : Prop :=
  w.cell? ⟨gs, 0, none⟩ = some (.int .u32 s.a.toNat) ∧ w.cell? ⟨gs, 1, none⟩ = some (.int .u32 s.b.toNat) ∧ w.cell? ⟨gs, 2, none⟩ = some (.int .u32 s.c.toNat) ∧ w.cell? ⟨gs, 3, none⟩ = some (.int .u32 s.d.toNat) ∧
  w.cell? ⟨gs, 4, none⟩ = some (.int .u32 s.e.toNat) ∧ w.cell? ⟨gs, 5, none⟩ = some (.int .u32 s.f.toNat) ∧ w.cell? ⟨gs, 6, none⟩ = some (.int .u32 s.g.toNat) ∧ w.cell? ⟨gs, 7, none⟩ = some (.int .u32 s.h.toNat) ∧
  w.cell? ⟨1, k, none⟩ = some (.int .u32 kk.toNat) ∧ w.cell? ⟨gw, k, none⟩ = some (.int .u32 ww.toNat)
theorem MG.of {gs gw : Nat} {s : St} {kk ww : UInt32} {k : Nat} {w : World} (R : w.heap[gs]? = some (.cells (cells8 s) 81 (0,0))) (h1 : w.cell? ⟨1, k, none⟩ = some (.int .u32 kk.toNat)) (h2 : w.cell? ⟨gw, k, none⟩ = some (.int .u32 ww.toNat)) : MG gs gw s kk ww k w := by
  obtain ⟨h0, h1', h2', h3, h4, h5, h6, h7⟩ := C8.of R
  exact ⟨h0, h1', h2', h3, h4, h5, h6, h7, h1, h2⟩
theorem MG.drewN {gs gw : Nat} {s : St} {kk ww : UInt32} {k : Nat} {w : World} (F : MG gs gw s kk ww k w) (n : Nat) : MG gs gw s kk ww k (w.drewN n) := F
theorem BH.drewN {w0 : World} {gh g5 g6 : Nat} {st ss : St} {A : Array Value} {w : World} (R : BH w0 gh g5 g6 st ss A w) (n : Nat) : BH w0 gh g5 g6 st ss A (w.drewN n) := ⟨R.fh, R.fr, R.fw, R.fs, R.kept.drewN n, R.l6, R.lh⟩
/-- What holds at every point of block's first statement. -/
structure BS (w0 : World) (st : St) (w : World) : Prop where
  fh : w.heap[w0.heap.size]? = some (.cells (cells8 st) 81 (0,0))
  fr : w.heap[w0.heap.size + 1]? = some (.cells Z8 81 (0,0))
  kept : Kept no w0 w
  lt : w0.heap.size + 2 ≤ w.heap.size
theorem BS.trans {w0 w w' : World} {st : St} (h : BS w0 st w) (hk : Kept no w w') : BS w0 st w' :=
  ⟨(hk.block _ (lt_of_heap h.fh) id).trans h.fh, (hk.block _ (lt_of_heap h.fr) id).trans h.fr, h.kept.trans' hk, Nat.le_trans h.lt hk.size⟩
theorem BS.set {w0 w : World} {st : St} (h : BS w0 st w) {g : Nat} (hg : w0.heap.size + 2 ≤ g) (c : Array Value) : BS w0 st (w.setRow g c) :=
  ⟨by rw [setRow_other _ _ _ _ (by omega)]; exact h.fh, by rw [setRow_other _ _ _ _ (by omega)]; exact h.fr, h.kept.setRow (.inr (by omega)) c, by have := h.lt; simpa using this⟩
theorem BS.range {w0 w : World} {st : St} (h : BS w0 st w) : w.rangeAt w0.heap.size 0 (cells8 st).toList := fun j v hj => by
  rw [cell_of_row w _ (0 + j) _ _ _ h.fh]; simpa using hj
theorem BS.fin {w0 w : World} {st : St} {g5 g6 : Nat} {A : Array Value} (h : BS w0 st w) (h5 : w.heap[g5]? = some (.cells A 92 (0,0))) (h6 : w.heap[g6]? = some (.cells (cells8 st) 81 (0,0))) (hg : w0.heap.size + 2 ≤ g6) : BH w0 w0.heap.size g5 g6 st st A w :=
  ⟨h.fh, h.fr, h5, h6, h.kept, by omega, rfl⟩
theorem add_comm8 (s t : St) : s.add t = t.add s := by
  simp only [St.add, St.mk.injEq]
  exact ⟨UInt32.add_comm _ _, UInt32.add_comm _ _, UInt32.add_comm _ _, UInt32.add_comm _ _, UInt32.add_comm _ _, UInt32.add_comm _ _, UInt32.add_comm _ _, UInt32.add_comm _ _⟩
theorem blocks_ne {w : World} {g g' : Nat} {c c' : Array Value} {t t' : TypeId} (h : w.heap[g]? = some (.cells c t (0,0))) (h' : w.heap[g']? = some (.cells c' t' (0,0))) (ht : t ≠ t') : g ≠ g' := by
  rintro rfl
  rw [h] at h'
  simp at h'
  exact ht h'.2
set_option maxRecDepth 100000 in
set_option maxHeartbeats 1000000 in
theorem block_any (st : St) (bb o cap : Nat) (b : List UInt8) (w : World) (h64 : 64 ≤ b.length) (hnm : b.length ≤ 1099511627776)
  (hc : ∀ j u, (b.map B)[j]? = some u → w.cell? ⟨bb, o + j, none⟩ = some u) (hT : ∀ i, i < 64 → w.cell? ⟨1, i, none⟩ = some (.int .u32 ((K.getD i 0).toNat : Int))) :
   Calls Tryd.prog 60 #[.agg (cells8 st), .slice (some ⟨bb, o, none⟩) b.length cap] w fun e w' => e = .returned (.agg (cells8 (mix st b))) ∧ Kept no w w' := by
  have HW := hid fun (w1 : World) (hk : Kept no w w1) => words_any bb o cap b w1 h64 hnm (fun j u hu => hk.cell (hc j u hu) id)
  have hT' : Hd (∀ w', Kept no w w' → ∀ i, i < 64 → w'.cell? ⟨1, i, none⟩ = some (.int .u32 ((K.getD i 0).toNat : Int))) := ⟨fun w' hk i hi => hk.cell (hT i hi) id⟩
  clear hT hc
  go_enter Tryd.func60, Tryd.ntmps60
  go_upto_region 1 with fail
  obtain ⟨w1, hw1, g0, g1, k1, z1⟩ : ∃ w1, w1 = (w.alloc (.cells (cells8 st) 81)).alloc (.cells Z8 81) ∧ w1.heap[w.heap.size]? = some (.cells (cells8 st) 81 (0,0)) ∧ w1.heap[w.heap.size + 1]? = some (.cells Z8 81 (0,0)) ∧ Kept no w w1 ∧ w1.heap.size = w.heap.size + 2 := by
    refine ⟨_, rfl, ?_, ?_, ((Kept.refl no w).alloc _).alloc _, by simp⟩
    · rw [heap_alloc_old _ _ (by simp), heap_alloc_new]
    · rw [← World.size_alloc (w := w) (o := .cells (cells8 st) 81), heap_alloc_new]
  unfold Z8 at hw1
  rw [← hw1]
  clear hw1
  have hsz : Hd (((sched b).map U).toArray.size = 64) := ⟨by simp [sched_length b h64]⟩
  have hinf : Hd ((Tryd.prog.info? 92).map (·.size) = some ((sched b).map U).toArray.size) := ⟨by rw [hsz.out]; kernel_rfl⟩
  have hone : Hd (((sched b).map U).toArray.all (·.oneCell') = true) := ⟨by simp [U, Value.oneCell']⟩
  have hold : Hd (Z64.size = ((sched b).map U).toArray.size) := ⟨by rw [hsz.out]; rfl⟩
  have hinf8 : Hd ((Tryd.prog.info? 81).map (·.size) = some (cells8 st).size) := ⟨by rw [cells8_size]; exact inf8⟩
  have hinf8' : Hd ((Tryd.prog.info? 81).map (·.size) = some (cells8 st).toList.length) := ⟨by rw [Array.length_toList, cells8_size]; exact inf8⟩
  generalize hA : ((sched b).map U).toArray = A at hsz hinf hone hold HW
  have HA := hid hA
  clear hA
  have s0 : BS w st w1.drew := ⟨g0, g1, k1.drew, by show _ ≤ w1.heap.size; omega⟩
  clear g0 g1 k1 z1
  go_cut [5, 6] (fun v5 v6 wx => ∃ g5 g6, v5 = .pointer (some ⟨g5, 0, none⟩) ∧ v6 = .pointer (some ⟨g6, 0, none⟩) ∧ Hd (BH w w.heap.size g5 g6 st st A wx))
  case first =>
    refine wp_region_held_drew (S := BS w st) (by kernel_rfl) s0 (fun _ => ?_)
    generalize w1.drew = wd at s0 ⊢
    refine wpAnyH_take (i := 0) (v := .slice (some ⟨bb, o, none⟩) b.length cap) rfl (by kernel_rfl) (by kernel_rfl) (by kernel_rfl) (fun _ _ _ h => h) (Or.inl ⟨by rfl, fun w hSw => ?_⟩) s0 ?_
    · go_simp
    try simp only [Act.put]; try simp only [List.setIfInBounds_toArray]; try simp only [List.set_cons_succ]; try simp only [List.set_cons_zero]
    refine wpAnyH_take (i := 2) (v := .agg (cells8 st).toList.toArray) rfl (by kernel_rfl) (by kernel_rfl) (by kernel_rfl) (fun _ _ _ h => h) (yieldsIf_load_mid (by rfl) 81 (.tmp 2) rfl w.heap.size 0 rfl (cells8 st).toList _ (fun w h => h.range) Tryd.underlying81 rfl hinf8'.out) s0 ?_
    simp only [Array.toArray_toList]
    try simp only [Act.put]; try simp only [List.setIfInBounds_toArray]; try simp only [List.set_cons_succ]; try simp only [List.set_cons_zero]
    refine wpAnyH_ready (rs := [1, 3, 4]) (by kernel_rfl) (by simp) ?_
    refine AllReadyH.cons rfl (fun K hK => ?_) ?_
    · go_simp
      refine (HW.out _ s0.kept).mono ?_
      rintro e v1 ⟨rfl, hk1⟩
      refine hK.out _ _ ?_ (fun _ => ?_)
      · exact s0.trans hk1
      clear hK K
      try simp only [Act.put]; try simp only [List.setIfInBounds_toArray]; try simp only [List.set_cons_succ]; try simp only [List.set_cons_zero]
      have s1 := s0.trans hk1
      refine wpAnyH_ready (rs := [3, 4]) (by kernel_rfl) (by simp) ?_
      refine AllReadyH.cons rfl (fun K hK => ?_) ?_
      · go_simp
        obtain ⟨v2, hv2, a5, hk2, q5⟩ : ∃ v, v = v1.alloc (.cells Z64 92) ∧ v.heap[v1.heap.size]? = some (.cells Z64 92 (0, 0)) ∧ Kept no v1 v ∧ w.heap.size + 2 ≤ v1.heap.size := ⟨_, rfl, heap_alloc_new _ _, (Kept.refl no _).alloc _, s1.lt⟩
        unfold Z64 at hv2
        rw [← hv2]
        clear hv2
        refine hK.out _ _ ?_ (fun _ => ?_)
        · exact s1.trans hk2
        clear hK K
        try simp only [Act.put]; try simp only [List.setIfInBounds_toArray]; try simp only [List.set_cons_succ]; try simp only [List.set_cons_zero]
        have s2 := s1.trans hk2
        refine wpAnyH_ready (rs := [4]) (by kernel_rfl) (by simp) ?_
        refine AllReadyH.cons rfl (fun K hK => ?_) ?_
        · go_simp
          obtain ⟨v3, hv3, a6, hk3, q6⟩ : ∃ v, v = v2.alloc (.cells Z8 81) ∧ v.heap[v2.heap.size]? = some (.cells Z8 81 (0, 0)) ∧ Kept no v2 v ∧ w.heap.size + 2 ≤ v2.heap.size := ⟨_, rfl, heap_alloc_new _ _, (Kept.refl no _).alloc _, s2.lt⟩
          unfold Z8 at hv3
          rw [← hv3]
          clear hv3
          refine hK.out _ _ ?_ (fun _ => ?_)
          · exact s2.trans hk3
          clear hK K
          try simp only [Act.put]; try simp only [List.setIfInBounds_toArray]; try simp only [List.set_cons_succ]; try simp only [List.set_cons_zero]
          have s3 := s2.trans hk3
          replace a5 := (hk3.block _ (lt_of_heap a5) id).trans a5
          refine wpAnyH_ready (rs := [5]) (by kernel_rfl) (by simp) ?_
          refine AllReadyH.cons rfl (fun K hK => ?_) ?_
          · refine step_store_row rfl 92 (.tmp 5) (.tmp 14) rfl _ A rfl rfl 92 _ a5 hinf.out hold.out hone.out ?_
            refine hK.out _ _ ?_ (fun _ => ?_)
            · exact s3.set q5 _
            clear hK K
            try simp only [Act.put]; try simp only [List.setIfInBounds_toArray]; try simp only [List.set_cons_succ]; try simp only [List.set_cons_zero]
            have s4 := s3.set q5 A
            have hne4 := blocks_ne a5 a6 (by decide)
            replace a5 := setRow_heap _ _ _ A _ _ a5
            replace a6 := (setRow_other _ _ _ A (Ne.symm hne4)).trans a6
            refine wpAnyH_ready (rs := [6]) (by kernel_rfl) (by simp) ?_
            refine AllReadyH.cons rfl (fun K hK => ?_) ?_
            · refine step_store_row rfl 81 (.tmp 6) (.tmp 15) rfl _ (cells8 st) rfl rfl 81 _ a6 hinf8.out rfl (cells8_one _) ?_
              refine hK.out _ _ ?_ (fun _ => ?_)
              · exact s4.set q6 _
              clear hK K
              try simp only [Act.put]; try simp only [List.setIfInBounds_toArray]; try simp only [List.set_cons_succ]; try simp only [List.set_cons_zero]
              have s5 := s4.set q6 (cells8 st)
              have hne5 := blocks_ne a5 a6 (by decide)
              replace a6 := setRow_heap _ _ _ (cells8 st) _ _ a6
              replace a5 := (setRow_other _ _ _ (cells8 st) hne5).trans a5
              refine wpAnyH_done (by kernel_rfl) ?_ _
              go_wp2_with fail
              go_meet
              case rel => exact ⟨_, _, rfl, rfl, ⟨s5.fin a5 a6 q6⟩⟩
            exact AllReadyH.nil
          exact AllReadyH.nil
        exact AllReadyH.nil
      refine AllReadyH.cons rfl (fun K hK => ?_) ?_
      · go_simp
        obtain ⟨v6, hv6, a6, hk6, q6⟩ : ∃ v, v = v1.alloc (.cells Z8 81) ∧ v.heap[v1.heap.size]? = some (.cells Z8 81 (0, 0)) ∧ Kept no v1 v ∧ w.heap.size + 2 ≤ v1.heap.size := ⟨_, rfl, heap_alloc_new _ _, (Kept.refl no _).alloc _, s1.lt⟩
        unfold Z8 at hv6
        rw [← hv6]
        clear hv6
        refine hK.out _ _ ?_ (fun _ => ?_)
        · exact s1.trans hk6
        clear hK K
        try simp only [Act.put]; try simp only [List.setIfInBounds_toArray]; try simp only [List.set_cons_succ]; try simp only [List.set_cons_zero]
        have s6 := s1.trans hk6
        refine wpAnyH_ready (rs := [3]) (by kernel_rfl) (by simp) ?_
        refine AllReadyH.cons rfl (fun K hK => ?_) ?_
        · go_simp
          obtain ⟨v7, hv7, a5, hk7, q5⟩ : ∃ v, v = v6.alloc (.cells Z64 92) ∧ v.heap[v6.heap.size]? = some (.cells Z64 92 (0, 0)) ∧ Kept no v6 v ∧ w.heap.size + 2 ≤ v6.heap.size := ⟨_, rfl, heap_alloc_new _ _, (Kept.refl no _).alloc _, s6.lt⟩
          unfold Z64 at hv7
          rw [← hv7]
          clear hv7
          refine hK.out _ _ ?_ (fun _ => ?_)
          · exact s6.trans hk7
          clear hK K
          try simp only [Act.put]; try simp only [List.setIfInBounds_toArray]; try simp only [List.set_cons_succ]; try simp only [List.set_cons_zero]
          have s7 := s6.trans hk7
          replace a6 := (hk7.block _ (lt_of_heap a6) id).trans a6
          refine wpAnyH_ready (rs := [5]) (by kernel_rfl) (by simp) ?_
          refine AllReadyH.cons rfl (fun K hK => ?_) ?_
          · refine step_store_row rfl 92 (.tmp 5) (.tmp 14) rfl _ A rfl rfl 92 _ a5 hinf.out hold.out hone.out ?_
            refine hK.out _ _ ?_ (fun _ => ?_)
            · exact s7.set q5 _
            clear hK K
            try simp only [Act.put]; try simp only [List.setIfInBounds_toArray]; try simp only [List.set_cons_succ]; try simp only [List.set_cons_zero]
            have s8 := s7.set q5 A
            have hne8 := blocks_ne a5 a6 (by decide)
            replace a5 := setRow_heap _ _ _ A _ _ a5
            replace a6 := (setRow_other _ _ _ A (Ne.symm hne8)).trans a6
            refine wpAnyH_ready (rs := [6]) (by kernel_rfl) (by simp) ?_
            refine AllReadyH.cons rfl (fun K hK => ?_) ?_
            · refine step_store_row rfl 81 (.tmp 6) (.tmp 15) rfl _ (cells8 st) rfl rfl 81 _ a6 hinf8.out rfl (cells8_one _) ?_
              refine hK.out _ _ ?_ (fun _ => ?_)
              · exact s8.set q6 _
              clear hK K
              try simp only [Act.put]; try simp only [List.setIfInBounds_toArray]; try simp only [List.set_cons_succ]; try simp only [List.set_cons_zero]
              have s9 := s8.set q6 (cells8 st)
              have hne9 := blocks_ne a5 a6 (by decide)
              replace a6 := setRow_heap _ _ _ (cells8 st) _ _ a6
              replace a5 := (setRow_other _ _ _ (cells8 st) hne9).trans a5
              refine wpAnyH_done (by kernel_rfl) ?_ _
              go_wp2_with fail
              go_meet
              case rel => exact ⟨_, _, rfl, rfl, ⟨s9.fin a5 a6 q6⟩⟩
            exact AllReadyH.nil
          exact AllReadyH.nil
        exact AllReadyH.nil
      exact AllReadyH.nil
    refine AllReadyH.cons rfl (fun K hK => ?_) ?_
    · go_simp
      obtain ⟨v10, hv10, a5, hk10, q5⟩ : ∃ v, v = wd.alloc (.cells Z64 92) ∧ v.heap[wd.heap.size]? = some (.cells Z64 92 (0, 0)) ∧ Kept no wd v ∧ w.heap.size + 2 ≤ wd.heap.size := ⟨_, rfl, heap_alloc_new _ _, (Kept.refl no _).alloc _, s0.lt⟩
      unfold Z64 at hv10
      rw [← hv10]
      clear hv10
      refine hK.out _ _ ?_ (fun _ => ?_)
      · exact s0.trans hk10
      clear hK K
      try simp only [Act.put]; try simp only [List.setIfInBounds_toArray]; try simp only [List.set_cons_succ]; try simp only [List.set_cons_zero]
      have s10 := s0.trans hk10
      refine wpAnyH_ready (rs := [1, 4]) (by kernel_rfl) (by simp) ?_
      refine AllReadyH.cons rfl (fun K hK => ?_) ?_
      · go_simp
        refine (HW.out _ s10.kept).mono ?_
        rintro e v11 ⟨rfl, hk11⟩
        refine hK.out _ _ ?_ (fun _ => ?_)
        · exact s10.trans hk11
        clear hK K
        try simp only [Act.put]; try simp only [List.setIfInBounds_toArray]; try simp only [List.set_cons_succ]; try simp only [List.set_cons_zero]
        have s11 := s10.trans hk11
        replace a5 := (hk11.block _ (lt_of_heap a5) id).trans a5
        refine wpAnyH_ready (rs := [4]) (by kernel_rfl) (by simp) ?_
        refine AllReadyH.cons rfl (fun K hK => ?_) ?_
        · go_simp
          obtain ⟨v12, hv12, a6, hk12, q6⟩ : ∃ v, v = v11.alloc (.cells Z8 81) ∧ v.heap[v11.heap.size]? = some (.cells Z8 81 (0, 0)) ∧ Kept no v11 v ∧ w.heap.size + 2 ≤ v11.heap.size := ⟨_, rfl, heap_alloc_new _ _, (Kept.refl no _).alloc _, s11.lt⟩
          unfold Z8 at hv12
          rw [← hv12]
          clear hv12
          refine hK.out _ _ ?_ (fun _ => ?_)
          · exact s11.trans hk12
          clear hK K
          try simp only [Act.put]; try simp only [List.setIfInBounds_toArray]; try simp only [List.set_cons_succ]; try simp only [List.set_cons_zero]
          have s12 := s11.trans hk12
          replace a5 := (hk12.block _ (lt_of_heap a5) id).trans a5
          refine wpAnyH_ready (rs := [5]) (by kernel_rfl) (by simp) ?_
          refine AllReadyH.cons rfl (fun K hK => ?_) ?_
          · refine step_store_row rfl 92 (.tmp 5) (.tmp 14) rfl _ A rfl rfl 92 _ a5 hinf.out hold.out hone.out ?_
            refine hK.out _ _ ?_ (fun _ => ?_)
            · exact s12.set q5 _
            clear hK K
            try simp only [Act.put]; try simp only [List.setIfInBounds_toArray]; try simp only [List.set_cons_succ]; try simp only [List.set_cons_zero]
            have s13 := s12.set q5 A
            have hne13 := blocks_ne a5 a6 (by decide)
            replace a5 := setRow_heap _ _ _ A _ _ a5
            replace a6 := (setRow_other _ _ _ A (Ne.symm hne13)).trans a6
            refine wpAnyH_ready (rs := [6]) (by kernel_rfl) (by simp) ?_
            refine AllReadyH.cons rfl (fun K hK => ?_) ?_
            · refine step_store_row rfl 81 (.tmp 6) (.tmp 15) rfl _ (cells8 st) rfl rfl 81 _ a6 hinf8.out rfl (cells8_one _) ?_
              refine hK.out _ _ ?_ (fun _ => ?_)
              · exact s13.set q6 _
              clear hK K
              try simp only [Act.put]; try simp only [List.setIfInBounds_toArray]; try simp only [List.set_cons_succ]; try simp only [List.set_cons_zero]
              have s14 := s13.set q6 (cells8 st)
              have hne14 := blocks_ne a5 a6 (by decide)
              replace a6 := setRow_heap _ _ _ (cells8 st) _ _ a6
              replace a5 := (setRow_other _ _ _ (cells8 st) hne14).trans a5
              refine wpAnyH_done (by kernel_rfl) ?_ _
              go_wp2_with fail
              go_meet
              case rel => exact ⟨_, _, rfl, rfl, ⟨s14.fin a5 a6 q6⟩⟩
            exact AllReadyH.nil
          exact AllReadyH.nil
        exact AllReadyH.nil
      refine AllReadyH.cons rfl (fun K hK => ?_) ?_
      · go_simp
        obtain ⟨v15, hv15, a6, hk15, q6⟩ : ∃ v, v = v10.alloc (.cells Z8 81) ∧ v.heap[v10.heap.size]? = some (.cells Z8 81 (0, 0)) ∧ Kept no v10 v ∧ w.heap.size + 2 ≤ v10.heap.size := ⟨_, rfl, heap_alloc_new _ _, (Kept.refl no _).alloc _, s10.lt⟩
        unfold Z8 at hv15
        rw [← hv15]
        clear hv15
        refine hK.out _ _ ?_ (fun _ => ?_)
        · exact s10.trans hk15
        clear hK K
        try simp only [Act.put]; try simp only [List.setIfInBounds_toArray]; try simp only [List.set_cons_succ]; try simp only [List.set_cons_zero]
        have s15 := s10.trans hk15
        replace a5 := (hk15.block _ (lt_of_heap a5) id).trans a5
        refine wpAnyH_ready (rs := [1]) (by kernel_rfl) (by simp) ?_
        refine AllReadyH.cons rfl (fun K hK => ?_) ?_
        · go_simp
          refine (HW.out _ s15.kept).mono ?_
          rintro e v16 ⟨rfl, hk16⟩
          refine hK.out _ _ ?_ (fun _ => ?_)
          · exact s15.trans hk16
          clear hK K
          try simp only [Act.put]; try simp only [List.setIfInBounds_toArray]; try simp only [List.set_cons_succ]; try simp only [List.set_cons_zero]
          have s16 := s15.trans hk16
          replace a5 := (hk16.block _ (lt_of_heap a5) id).trans a5
          replace a6 := (hk16.block _ (lt_of_heap a6) id).trans a6
          refine wpAnyH_ready (rs := [5]) (by kernel_rfl) (by simp) ?_
          refine AllReadyH.cons rfl (fun K hK => ?_) ?_
          · refine step_store_row rfl 92 (.tmp 5) (.tmp 14) rfl _ A rfl rfl 92 _ a5 hinf.out hold.out hone.out ?_
            refine hK.out _ _ ?_ (fun _ => ?_)
            · exact s16.set q5 _
            clear hK K
            try simp only [Act.put]; try simp only [List.setIfInBounds_toArray]; try simp only [List.set_cons_succ]; try simp only [List.set_cons_zero]
            have s17 := s16.set q5 A
            have hne17 := blocks_ne a5 a6 (by decide)
            replace a5 := setRow_heap _ _ _ A _ _ a5
            replace a6 := (setRow_other _ _ _ A (Ne.symm hne17)).trans a6
            refine wpAnyH_ready (rs := [6]) (by kernel_rfl) (by simp) ?_
            refine AllReadyH.cons rfl (fun K hK => ?_) ?_
            · refine step_store_row rfl 81 (.tmp 6) (.tmp 15) rfl _ (cells8 st) rfl rfl 81 _ a6 hinf8.out rfl (cells8_one _) ?_
              refine hK.out _ _ ?_ (fun _ => ?_)
              · exact s17.set q6 _
              clear hK K
              try simp only [Act.put]; try simp only [List.setIfInBounds_toArray]; try simp only [List.set_cons_succ]; try simp only [List.set_cons_zero]
              have s18 := s17.set q6 (cells8 st)
              have hne18 := blocks_ne a5 a6 (by decide)
              replace a6 := setRow_heap _ _ _ (cells8 st) _ _ a6
              replace a5 := (setRow_other _ _ _ (cells8 st) hne18).trans a5
              refine wpAnyH_done (by kernel_rfl) ?_ _
              go_wp2_with fail
              go_meet
              case rel => exact ⟨_, _, rfl, rfl, ⟨s18.fin a5 a6 q6⟩⟩
            exact AllReadyH.nil
          exact AllReadyH.nil
        exact AllReadyH.nil
      exact AllReadyH.nil
    refine AllReadyH.cons rfl (fun K hK => ?_) ?_
    · go_simp
      obtain ⟨v19, hv19, a6, hk19, q6⟩ : ∃ v, v = wd.alloc (.cells Z8 81) ∧ v.heap[wd.heap.size]? = some (.cells Z8 81 (0, 0)) ∧ Kept no wd v ∧ w.heap.size + 2 ≤ wd.heap.size := ⟨_, rfl, heap_alloc_new _ _, (Kept.refl no _).alloc _, s0.lt⟩
      unfold Z8 at hv19
      rw [← hv19]
      clear hv19
      refine hK.out _ _ ?_ (fun _ => ?_)
      · exact s0.trans hk19
      clear hK K
      try simp only [Act.put]; try simp only [List.setIfInBounds_toArray]; try simp only [List.set_cons_succ]; try simp only [List.set_cons_zero]
      have s19 := s0.trans hk19
      refine wpAnyH_ready (rs := [1, 3]) (by kernel_rfl) (by simp) ?_
      refine AllReadyH.cons rfl (fun K hK => ?_) ?_
      · go_simp
        refine (HW.out _ s19.kept).mono ?_
        rintro e v20 ⟨rfl, hk20⟩
        refine hK.out _ _ ?_ (fun _ => ?_)
        · exact s19.trans hk20
        clear hK K
        try simp only [Act.put]; try simp only [List.setIfInBounds_toArray]; try simp only [List.set_cons_succ]; try simp only [List.set_cons_zero]
        have s20 := s19.trans hk20
        replace a6 := (hk20.block _ (lt_of_heap a6) id).trans a6
        refine wpAnyH_ready (rs := [3]) (by kernel_rfl) (by simp) ?_
        refine AllReadyH.cons rfl (fun K hK => ?_) ?_
        · go_simp
          obtain ⟨v21, hv21, a5, hk21, q5⟩ : ∃ v, v = v20.alloc (.cells Z64 92) ∧ v.heap[v20.heap.size]? = some (.cells Z64 92 (0, 0)) ∧ Kept no v20 v ∧ w.heap.size + 2 ≤ v20.heap.size := ⟨_, rfl, heap_alloc_new _ _, (Kept.refl no _).alloc _, s20.lt⟩
          unfold Z64 at hv21
          rw [← hv21]
          clear hv21
          refine hK.out _ _ ?_ (fun _ => ?_)
          · exact s20.trans hk21
          clear hK K
          try simp only [Act.put]; try simp only [List.setIfInBounds_toArray]; try simp only [List.set_cons_succ]; try simp only [List.set_cons_zero]
          have s21 := s20.trans hk21
          replace a6 := (hk21.block _ (lt_of_heap a6) id).trans a6
          refine wpAnyH_ready (rs := [5]) (by kernel_rfl) (by simp) ?_
          refine AllReadyH.cons rfl (fun K hK => ?_) ?_
          · refine step_store_row rfl 92 (.tmp 5) (.tmp 14) rfl _ A rfl rfl 92 _ a5 hinf.out hold.out hone.out ?_
            refine hK.out _ _ ?_ (fun _ => ?_)
            · exact s21.set q5 _
            clear hK K
            try simp only [Act.put]; try simp only [List.setIfInBounds_toArray]; try simp only [List.set_cons_succ]; try simp only [List.set_cons_zero]
            have s22 := s21.set q5 A
            have hne22 := blocks_ne a5 a6 (by decide)
            replace a5 := setRow_heap _ _ _ A _ _ a5
            replace a6 := (setRow_other _ _ _ A (Ne.symm hne22)).trans a6
            refine wpAnyH_ready (rs := [6]) (by kernel_rfl) (by simp) ?_
            refine AllReadyH.cons rfl (fun K hK => ?_) ?_
            · refine step_store_row rfl 81 (.tmp 6) (.tmp 15) rfl _ (cells8 st) rfl rfl 81 _ a6 hinf8.out rfl (cells8_one _) ?_
              refine hK.out _ _ ?_ (fun _ => ?_)
              · exact s22.set q6 _
              clear hK K
              try simp only [Act.put]; try simp only [List.setIfInBounds_toArray]; try simp only [List.set_cons_succ]; try simp only [List.set_cons_zero]
              have s23 := s22.set q6 (cells8 st)
              have hne23 := blocks_ne a5 a6 (by decide)
              replace a6 := setRow_heap _ _ _ (cells8 st) _ _ a6
              replace a5 := (setRow_other _ _ _ (cells8 st) hne23).trans a5
              refine wpAnyH_done (by kernel_rfl) ?_ _
              go_wp2_with fail
              go_meet
              case rel => exact ⟨_, _, rfl, rfl, ⟨s23.fin a5 a6 q6⟩⟩
            exact AllReadyH.nil
          exact AllReadyH.nil
        exact AllReadyH.nil
      refine AllReadyH.cons rfl (fun K hK => ?_) ?_
      · go_simp
        obtain ⟨v24, hv24, a5, hk24, q5⟩ : ∃ v, v = v19.alloc (.cells Z64 92) ∧ v.heap[v19.heap.size]? = some (.cells Z64 92 (0, 0)) ∧ Kept no v19 v ∧ w.heap.size + 2 ≤ v19.heap.size := ⟨_, rfl, heap_alloc_new _ _, (Kept.refl no _).alloc _, s19.lt⟩
        unfold Z64 at hv24
        rw [← hv24]
        clear hv24
        refine hK.out _ _ ?_ (fun _ => ?_)
        · exact s19.trans hk24
        clear hK K
        try simp only [Act.put]; try simp only [List.setIfInBounds_toArray]; try simp only [List.set_cons_succ]; try simp only [List.set_cons_zero]
        have s24 := s19.trans hk24
        replace a6 := (hk24.block _ (lt_of_heap a6) id).trans a6
        refine wpAnyH_ready (rs := [1]) (by kernel_rfl) (by simp) ?_
        refine AllReadyH.cons rfl (fun K hK => ?_) ?_
        · go_simp
          refine (HW.out _ s24.kept).mono ?_
          rintro e v25 ⟨rfl, hk25⟩
          refine hK.out _ _ ?_ (fun _ => ?_)
          · exact s24.trans hk25
          clear hK K
          try simp only [Act.put]; try simp only [List.setIfInBounds_toArray]; try simp only [List.set_cons_succ]; try simp only [List.set_cons_zero]
          have s25 := s24.trans hk25
          replace a6 := (hk25.block _ (lt_of_heap a6) id).trans a6
          replace a5 := (hk25.block _ (lt_of_heap a5) id).trans a5
          refine wpAnyH_ready (rs := [5]) (by kernel_rfl) (by simp) ?_
          refine AllReadyH.cons rfl (fun K hK => ?_) ?_
          · refine step_store_row rfl 92 (.tmp 5) (.tmp 14) rfl _ A rfl rfl 92 _ a5 hinf.out hold.out hone.out ?_
            refine hK.out _ _ ?_ (fun _ => ?_)
            · exact s25.set q5 _
            clear hK K
            try simp only [Act.put]; try simp only [List.setIfInBounds_toArray]; try simp only [List.set_cons_succ]; try simp only [List.set_cons_zero]
            have s26 := s25.set q5 A
            have hne26 := blocks_ne a5 a6 (by decide)
            replace a5 := setRow_heap _ _ _ A _ _ a5
            replace a6 := (setRow_other _ _ _ A (Ne.symm hne26)).trans a6
            refine wpAnyH_ready (rs := [6]) (by kernel_rfl) (by simp) ?_
            refine AllReadyH.cons rfl (fun K hK => ?_) ?_
            · refine step_store_row rfl 81 (.tmp 6) (.tmp 15) rfl _ (cells8 st) rfl rfl 81 _ a6 hinf8.out rfl (cells8_one _) ?_
              refine hK.out _ _ ?_ (fun _ => ?_)
              · exact s26.set q6 _
              clear hK K
              try simp only [Act.put]; try simp only [List.setIfInBounds_toArray]; try simp only [List.set_cons_succ]; try simp only [List.set_cons_zero]
              have s27 := s26.set q6 (cells8 st)
              have hne27 := blocks_ne a5 a6 (by decide)
              replace a6 := setRow_heap _ _ _ (cells8 st) _ _ a6
              replace a5 := (setRow_other _ _ _ (cells8 st) hne27).trans a5
              refine wpAnyH_done (by kernel_rfl) ?_ _
              go_wp2_with fail
              go_meet
              case rel => exact ⟨_, _, rfl, rfl, ⟨s27.fin a5 a6 q6⟩⟩
            exact AllReadyH.nil
          exact AllReadyH.nil
        exact AllReadyH.nil
      exact AllReadyH.nil
    exact AllReadyH.nil

  case rest =>
    obtain ⟨g5, g6, rfl, rfl, R0⟩ := hcut
    have hAc : Hd (∀ (wr : World), wr.heap[g5]? = some (.cells A 92 (0,0)) → ∀ k, k < 64 → wr.cell? ⟨g5, k, none⟩ = some (.int .u32 (((sched b).getD k 0).toNat : Int))) := ⟨fun wr h k hk => by
      rw [cell_of_row wr _ k A 92 (0,0) h, ← HA.out]
      have := sched_length b h64
      simp [U, hk, this]⟩
    clear HA HW hsz hinf hone hold s0
    go_wp2
    go_loopw [7, 8, 9, 10, 11] (fun t _ _ _ _ wr => ∃ k : Nat, k ≤ 64 ∧ t = .int .i64 k ∧ BH w w.heap.size g5 g6 st (rounds (sched b) k st) A wr)
      (fun t _ _ _ _ _ => 64 - (intOf t).toNat)
    case atStart => exact ⟨0, by omega, rfl, R0.out⟩
    case round =>
      clear R0
      obtain ⟨k, hk, rfl, R⟩ := hrel
      by_cases hlt : k < 64
      · have Hnext := hid (show rounds (sched b) (k+1) st = (rounds (sched b) k st).round (K.getD k 0) ((sched b).getD k 0) from rfl)
        have F := MG.of R.fs (hT'.out wr R.kept k hlt) (hAc.out wr R.fw k hlt)
        generalize rounds (sched b) k st = s at Hnext R F
        obtain ⟨xa, xb, xc, xd, xe, xf, xg, xh⟩ := s
        generalize K.getD k 0 = kk at Hnext F
        generalize (sched b).getD k 0 = ww at Hnext F
        have hkk : (k : Int) < 64 := by omega
        replace R := hid R
        obtain ⟨c0, c1, c2, c3, c4, c5, c6, c7, ck, cw⟩ := id F
        replace F := hid F
        simp only at c0 c1 c2 c3 c4 c5 c6 c7
        go_wp2_with fail
        go_quiet (fail)
        clear c0 c1 c2 c3 c4 c5 c6 c7 ck cw
        replace R := R.out.drewN nq
        replace F := F.out.drewN nq
        generalize wr.drewN nq = wa at F R ⊢
        clear wr
        replace R := hid R
        obtain ⟨c0, c1, c2, c3, c4, c5, c6, c7, ck, cw⟩ := id F
        replace F := hid F
        simp only at c0 c1 c2 c3 c4 c5 c6 c7
        go_wp2_with fail
        go_quiet ((go_at_call 66; first | (with_reducible exact rotR6q _ _ _) | (with_reducible exact rotR11q _ _ _) | (with_reducible exact rotR25q _ _ _)))
        clear c0 c1 c2 c3 c4 c5 c6 c7 ck cw
        replace R := R.out.drewN nq
        replace F := F.out.drewN nq
        generalize wa.drewN nq = wb at F R ⊢
        clear wa
        replace R := hid R
        obtain ⟨c0, c1, c2, c3, c4, c5, c6, c7, ck, cw⟩ := id F
        replace F := hid F
        simp only at c0 c1 c2 c3 c4 c5 c6 c7
        simp only [show (if IntKind.u32.signed = true then (-1 : Int) else IntKind.u32.max) = IntKind.u32.max from rfl, u_notx]
        simp only [u_and]
        simp only [u_xor]
        simp only [u_sum4, u_sum3, u_sum2]
        generalize ht1 : xh + (rotr xe 6 ^^^ rotr xe 11 ^^^ rotr xe 25) + (xe &&& xf ^^^ ~~~xe &&& xg) + kk + ww = vt1
        replace ht1 := hid ht1
        go_wp2_with fail
        go_quiet ((go_at_call 66; first | (with_reducible exact rotR2q _ _ _) | (with_reducible exact rotR13q _ _ _) | (with_reducible exact rotR22q _ _ _)))
        clear c0 c1 c2 c3 c4 c5 c6 c7 ck cw
        replace R := R.out.drewN nq
        replace F := F.out.drewN nq
        generalize wb.drewN nq = wd at F R ⊢
        clear wb
        have R4 := hid R.fs
        replace R := hid R
        obtain ⟨c0, c1, c2, c3, c4, c5, c6, c7, ck, cw⟩ := id F
        replace F := hid F
        simp only at c0 c1 c2 c3 c4 c5 c6 c7
        simp only [u_and]
        simp only [u_xor]
        simp only [u_sum2]
        generalize ht2 : (rotr xa 2 ^^^ rotr xa 13 ^^^ rotr xa 22) + (xa &&& xb ^^^ xa &&& xc ^^^ xb &&& xc) = vt2
        replace ht2 := hid ht2
        go_wp2_with (with_reducible refine wpList_store_row rfl 81 _ _ rfl g6 _ rfl rfl 81 _ R4.out ?_ ?_ ?_ ?_)
        case refine_1 => kernel_rfl
        case refine_2 => rfl
        case refine_3 => simp [Value.oneCell']
        simp only [u_sum2]
        go_roundw
        case rel =>
          refine ⟨k + 1, by omega, by go_num, ?_⟩
          have e : cells8 ((⟨xa, xb, xc, xd, xe, xf, xg, xh⟩ : St).round kk ww) = cells8 ⟨vt1 + vt2, xa, xb, xc, xd + vt1, xe, xf, xg⟩ := by
            rw [← ht1.out, ← ht2.out]; rfl
          rw [Hnext.out]
          have hne := blocks_ne R.out.fw R.out.fs (by decide)
          obtain ⟨q1, q2, q3, q4, q5, q6, q7⟩ := R.out
          refine ⟨?_, ?_, ?_, ?_, q5.setRow (.inr (by omega)) _, q6, q7⟩
          · rw [setRow_other _ _ _ _ (by omega)]; exact q1
          · rw [setRow_other _ _ _ _ (by omega)]; exact q2
          · rw [setRow_other _ _ _ _ hne]; exact q3
          · rw [e]; exact setRow_heap _ _ _ _ _ _ q4
        case measure => simp [intOf]; omega
      · obtain rfl : k = 64 := by omega
        simp only [show ((64:Nat):Int) = 64 from rfl]
        generalize hs : rounds (sched b) 64 st = s at R
        replace hs := hid hs
        obtain ⟨q1, q2, _, q4, q5, q6, q7⟩ := R
        have M0 : MA w g6 (w.heap.size + 1) w.heap.size s st 0 wr := ⟨by rw [q4, cells8_arr]; rfl, q2, by rw [q1, cells8_arr], q5⟩
        clear q1 q2 q4 q5 q7
        replace M0 := hid M0
        replace q6 := hid q6
        clear hT' hAc
        go_wp2
        go_loopw [12] (fun i wr => ∃ k : Nat, k ≤ 8 ∧ i = .int .i64 k ∧ MA w g6 (w.heap.size + 1) w.heap.size s st k wr)
          (fun i _ => 8 - (intOf i).toNat)
        case atStart => exact ⟨0, by omega, rfl, M0.out⟩
        case round =>
          clear M0
          obtain ⟨k, hk, rfl, R⟩ := hrel
          by_cases hlt : k < 8
          · have c1 := arr_cell R.fh k (by omega)
            have c2 := arr_cell R.fs k (by omega)
            have f1 := row_free R.fh k
            have hset := hid (row_set (w := wr.drew) R.fh k (U (s.list.getD k 0 + st.list.getD k 0)))
            replace R := hid R
            simp only [addK, Nat.lt_irrefl, if_false] at c1
            generalize hx : s.list.getD k 0 = x at c1 hset
            generalize hy : st.list.getD k 0 = y at c2 hset
            replace hx := hid hx
            replace hy := hid hy
            have hkk : (k : Int) < 8 := by omega
            go_wp2_with fail
            go_still_tail 8, (by kernel_rfl)
            change wpList _ _ _ _ _ (World.drew _)
            rw [u_add]
            have R' : MA w g6 (w.heap.size + 1) w.heap.size s st (k + 1) (wr.drew.setCell ⟨g6, k, none⟩ (U (x + y))) := by
              have l6 := q6.out
              obtain ⟨g1, g2, g3, g4⟩ := R.out
              refine ⟨?_, ?_, ?_, g4.drew.setCell (.inr (by simp only; omega)) _⟩
              · rw [hset.out, arr_set (f' := addK s st (k + 1)) (by simp only [addK, Nat.lt_succ_self, if_true]; rw [hx.out, hy.out]) (fun i _ hne => by
                  simp only [addK]
                  by_cases hi : i < k
                  · rw [if_pos hi, if_pos (by omega)]
                  · rw [if_neg hi, if_neg (by omega)])]
              · rw [Below.heap_setCell _ _ _ _ (by simp; omega)]; exact g2
              · rw [Below.heap_setCell _ _ _ _ (by simp; omega)]; exact g3
            replace R' := hid R'
            clear R hset hx hy
            generalize x + y = z at R' ⊢
            go_wp2
            go_roundw
            case rel => exact ⟨k + 1, by omega, by go_num, R'.out⟩
            case measure => simp [intOf]; omega
          · obtain rfl : k = 8 := by omega
            obtain ⟨g1, g2, g3, g4⟩ := R
            rw [addK_all] at g1
            have hm : Hd (mix st b = s.add st) := ⟨(mix_eq hs.out).trans (add_comm8 _ _)⟩
            have hone8 : Hd ((cells8 (s.add st)).all (·.oneCell') = true) := ⟨cells8_one _⟩
            have hinf8z : Hd ((Tryd.prog.info? 81).map (·.size) = some (cells8 (s.add st)).size) := ⟨by rw [cells8_size]; exact inf8⟩
            have hold8 : Hd ((#[.int .u32 0, .int .u32 0, .int .u32 0, .int .u32 0, .int .u32 0, .int .u32 0, .int .u32 0, .int .u32 0] : Array Value).size = (cells8 (s.add st)).size) := ⟨by rw [cells8_size]; rfl⟩
            have h2 := hid (setRow_heap wr (w.heap.size + 1) _ (cells8 (s.add st)) _ _ g2)
            replace g4 := hid g4
            clear hs g3
            generalize s.add st = z at g1 hone8 hinf8z hold8 h2 hm
            go_wp2_with (first | (with_reducible refine wpList_load_row rfl 81 _ rfl g6 rfl 81 _ _ _ g1 Tryd.underlying81 rfl hinf8z.out ?_) | (with_reducible refine wpList_store_row rfl 81 _ _ rfl (w.heap.size + 1) (cells8 z) rfl rfl 81 _ g2 hinf8z.out hold8.out hone8.out ?_))
            refine bodyPost_ret (v := .agg (cells8 z)) ?_ rfl ?_
            · exact results_cell_row rfl _ _ (w.heap.size + 1) 81 (cells8 z) (0, 0) _ rfl h2.out Tryd.underlying81 rfl hinf8z.out
            · exact ⟨by rw [hm.out], g4.out.setRow (.inr (by omega)) _⟩
end Go.Proofs.YtggcbjchnefhfaaDoor
