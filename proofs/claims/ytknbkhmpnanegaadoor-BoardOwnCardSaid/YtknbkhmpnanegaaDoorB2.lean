/- board.Hash and electionref23.Hash (printed by gen_hash.py). -/
import Derived.Test.YtknbkhmpnanegaaDoorB1
namespace Go.Proofs.YtknbkhmpnanegaaDoor
open Go.RowKit Go.Mk Go.Sha Go.Brd
def hashP (e : Ent) : List (List UInt8) := [be (e.number % 4294967296).toNat 4, [UInt8.ofNat (e.kind % 256).toNat], e.body, e.prev]
theorem fill4 {w : World} {v0 v1 vb : Value} {g : Nat} {n m : Nat} {xs ys : List Value} (h0 : Rd w 1 v0 n xs) (h1 : Rd w 1 v1 m ys) (hb : ∃ a n c, vb = .slice a n c) : Instr.fill (fun i => some (i * 1, 1)) ((Array.range (4 * 1)).map ((Value.slice none 0 0).cells[· % (Value.slice none 0 0).cells.size]!)) [(0, v0), (1, v1), (2, vb), (3, .slice (some ⟨g, 3, none⟩) 32 32)] = some [v0, v1, vb, .slice (some ⟨g, 3, none⟩) 32 32].toArray := by
  obtain ⟨_, a0, c0, rfl, _⟩ := h0
  obtain ⟨_, a1, c1, rfl, _⟩ := h1
  obtain ⟨a2, n2, c2, rfl⟩ := hb
  exact fill_rows 1 (by decide) (.slice none 0 0) [.slice a0 n c0, .slice a1 m c1, .slice a2 n2 c2, .slice (some ⟨g, 3, none⟩) 32 32] (by intro v hv; simp at hv; rcases hv with rfl | rfl | rfl | rfl <;> rfl)
theorem OkE.sl {w : World} {e : Ent} {vb : Value} (h : OkE w e vb) : ∃ a n c, vb = .slice a n c := by obtain ⟨_, _, _, a, c, e, _⟩ := h; exact ⟨a, _, c, e⟩
def RdPIs {S : Nat → Nat → Prop} (ps : List (List UInt8)) : Pr S := soft (fun v w => RdP w v ps) fun _ _ _ h k => h.kept k
theorem kindB (k : Int) : B (UInt8.ofNat (k % 256).toNat) = .int .u8 (k % 256) := by
  rw [← B_of]; congr 1; omega
theorem wrap_u32 (z : Int) : IntKind.u32.wrap z = ((z % 4294967296).toNat : Int) := by
  simp only [IntKind.wrap, IntKind.bits, IntKind.signed]; simp; omega
theorem wrap_u8 (z : Int) : IntKind.u8.wrap z = z % 256 := by
  simp only [IntKind.wrap, IntKind.bits, IntKind.signed]; simp
theorem infU8 : (Tryd.prog.info? 5).map (fun i => (i.zero, i.size)) = some (some (.int .u8 0), 1) := by kernel_rfl
theorem infBs : (Tryd.prog.info? 43).map (fun i => (i.zero, i.size)) = some (some (.slice none 0 0), 1) := by kernel_rfl
theorem ent_blocks (w : World) (L : List Value) : ∃ w1, w1 = (w.alloc (.cells L.toArray 47)).alloc (.cells Z32 26) ∧ w1.heap[w.heap.size]? = some (.cells L.toArray 47 (0, 0)) ∧ w1.heap[w.heap.size + 1]? = some (.cells Z32 26 (0, 0)) ∧ Kept no w w1 := by
  have e1 := World.size_alloc (w := w) (o := .cells L.toArray 47)
  refine ⟨_, rfl, ?_, ?_, ((Kept.refl no w).alloc _).alloc _⟩
  · rw [heap_alloc_old _ _ (by omega), heap_alloc_new]
  · rw [← e1, heap_alloc_new]

set_option maxRecDepth 100000 in
set_option maxHeartbeats 4000000 in
theorem hash_any (e : Ent) (vb : Value) (w : World) (h : OkE w e vb) (hT : Tab w) : Calls Tryd.prog 33 #[Ev e vb] w fun ed w' => ed = .returned (Dg (hashE e)) ∧ Kept no w w' := by
  have hPl : (join (hashP e)).length ≤ 1099511000000 := by
    have h1 := h.1; have h2 := h.2.1
    simp only [hashP, join, List.flatMap_cons, List.flatMap_nil, List.length_append, be_length, List.length_nil, List.length_cons]; omega
  have h32 : ∀ p ∈ hashP e, p.length < 4294967296 := fun p hp => by
    have h1 := h.1; have h2 := h.2.1
    simp only [hashP, List.mem_cons, List.not_mem_nil, or_false] at hp
    rcases hp with rfl | rfl | rfl | rfl <;> simp [be_length] <;> omega
  have HOF := hid (fun v W (hr : RdP W v (hashP e)) (hT : Tab W) => of_any v (hashP e) W hPl (by simp [hashP]) hr hT)
  have hres : Hd (sum (join (hashP e)) = hashE e) := ⟨rfl⟩
  obtain ⟨L, hL⟩ : ∃ L, entC e vb = L := ⟨_, rfl⟩
  unfold Ev
  rw [hL]
  replace hL := hid hL
  have hw := wrap_u32 e.number
  obtain ⟨N, hN⟩ : ∃ N, (e.number % 4294967296).toNat = N := ⟨_, rfl⟩
  rw [hN] at hw
  have hN32 : N < 4294967296 := by omega
  replace hN := hid hN
  have hk8 := wrap_u8 e.kind
  replace hT := hid hT
  clear hPl h32
  go_enter Tryd.func33, Tryd.ntmps33
  go_upto_region 1 with fail
  obtain ⟨w1, hw1, g0, g1, k1⟩ := ent_blocks w L
  unfold Z32 at hw1
  rw [← hw1]
  clear hw1
  have c0 : w1.cell? ⟨w.heap.size, 0, none⟩ = some (.int .i64 e.number) := by rw [cell_of_row w1 _ 0 _ _ _ g0, ← hL.out]; rfl
  replace k1 := hid k1
  have hlt1 : Hd (w.heap.size + 1 < w1.heap.size) := ⟨lt_of_heap g1⟩
  replace g0 := hid g0
  replace g1 := hid g1
  go_upto_region 2 with fail
  clear c0
  have blkE : ∀ {W : World}, Kept (frm (w.heap.size + 1)) w1.drew W → W.heap[w.heap.size]? = some (.cells (entC e vb).toArray 47 (0, 0)) := fun k => by
    rw [hL.out]; exact (k.block _ (by have := hlt1.out; show w.heap.size < w1.heap.size; omega) (by unfold frm; omega)).trans g0.out
  have prevR : ∀ {W : World}, Kept (frm (w.heap.size + 1)) w1.drew W → Rd W 1 (.slice (some ⟨w.heap.size, 3, none⟩) 32 32) e.prev.length (e.prev.map B) := fun k => by
    refine ⟨by simp, _, 32, by rw [h.1], by rw [h.1]; exact Nat.le_refl _, by decide, .inr ⟨_, 3, rfl, fun j u hu => ?_⟩⟩
    rw [cell_of_row _ _ (3 + j) _ _ _ (blkE k)]
    have : (entC e vb).toArray[3 + j]? = (e.prev.map B)[j]? := by simp [entC, Nat.add_comm 3 j]
    rw [this]; exact hu
  replace prevR := hid @prevR
  replace blkE := hid @blkE

  refine region_flow (S := (frm (w.heap.size + 1))) (Sl := (fun _ => (frm (w.heap.size + 1)))) [Is (.int .u32 (N : Int)), Is (.int .u32 ((N : Int) / 16777216)), Is (.int .u8 ((N : Int) / 16777216 % 256)), Is (.int .u32 (N : Int)), Is (.int .u32 ((N : Int) / 65536)), Is (.int .u8 ((N : Int) / 65536 % 256)), Is (.int .u32 (N : Int)), Is (.int .u32 ((N : Int) / 256)), Is (.int .u8 ((N : Int) / 256 % 256)), Is (.int .u32 (N : Int)), Is (.int .u8 ((N : Int) % 256)), RdIs 1 4 ((be N 4).map B), Is (.pointer (some ⟨w.heap.size, 1, none⟩)), Is (.int .i64 e.kind), Is (.int .u8 (e.kind % 256)), RdIs 1 1 [.int .u8 (e.kind % 256)], Is (.pointer (some ⟨w.heap.size, 2, none⟩)), Is (vb), Is (.pointer (some ⟨w.heap.size, 3, none⟩)), Is (.slice (some ⟨w.heap.size, 3, none⟩) 32 32), RdPIs (hashP e), Is (Dg (sum (join (hashP e)))), Blk (w.heap.size + 1) ((sum (join (hashP e))).map B).toArray 26] [22] (fun _ _ h => h) _ (by kernel_rfl) (by kernel_rfl) (by kernel_rfl) (by kernel_rfl) (fun x => by simp only [puts, Act.put, List.map_cons, List.map_nil, Nat.zero_add, Nat.reduceAdd, List.setIfInBounds_toArray, List.set_cons_zero, List.set_cons_succ]; exact rfl) ?_ ?_
  · skip
    refine Steps.cons (fun x wf Kk hq hdep hold => ?_) ?_
    · try dsimp only
      clear hq hdep hold
      rw [if_pos (by rfl)]
      refine OpY.val (v := (.int .u32 (N : Int))) ?_ ⟨Kept.refl _ _, rfl⟩
      first | rfl | go_simp
    refine Steps.cons (fun x wf Kk hq hdep hold => ?_) ?_
    · try dsimp only
      have h0 : x 0 = (.int .u32 (N : Int)) := hdep 0 (by kernel_rfl)
      clear hq hdep hold
      simp only [h0]
      clear h0
      rw [if_pos (by rfl)]
      refine OpY.val (v := (.int .u32 ((N : Int) / 16777216))) ?_ ⟨Kept.refl _ _, rfl⟩
      first | rfl | go_simp
    refine Steps.cons (fun x wf Kk hq hdep hold => ?_) ?_
    · try dsimp only
      have h1 : x 1 = (.int .u32 ((N : Int) / 16777216)) := hdep 1 (by kernel_rfl)
      clear hq hdep hold
      simp only [h1]
      clear h1
      rw [if_pos (by rfl)]
      refine OpY.val (v := (.int .u8 ((N : Int) / 16777216 % 256))) ?_ ⟨Kept.refl _ _, rfl⟩
      first | rfl | go_simp
    refine Steps.cons (fun x wf Kk hq hdep hold => ?_) ?_
    · try dsimp only
      clear hq hdep hold
      rw [if_pos (by rfl)]
      refine OpY.val (v := (.int .u32 (N : Int))) ?_ ⟨Kept.refl _ _, rfl⟩
      first | rfl | go_simp
    refine Steps.cons (fun x wf Kk hq hdep hold => ?_) ?_
    · try dsimp only
      have h3 : x 3 = (.int .u32 (N : Int)) := hdep 3 (by kernel_rfl)
      clear hq hdep hold
      simp only [h3]
      clear h3
      rw [if_pos (by rfl)]
      refine OpY.val (v := (.int .u32 ((N : Int) / 65536))) ?_ ⟨Kept.refl _ _, rfl⟩
      first | rfl | go_simp
    refine Steps.cons (fun x wf Kk hq hdep hold => ?_) ?_
    · try dsimp only
      have h4 : x 4 = (.int .u32 ((N : Int) / 65536)) := hdep 4 (by kernel_rfl)
      clear hq hdep hold
      simp only [h4]
      clear h4
      rw [if_pos (by rfl)]
      refine OpY.val (v := (.int .u8 ((N : Int) / 65536 % 256))) ?_ ⟨Kept.refl _ _, rfl⟩
      first | rfl | go_simp
    refine Steps.cons (fun x wf Kk hq hdep hold => ?_) ?_
    · try dsimp only
      clear hq hdep hold
      rw [if_pos (by rfl)]
      refine OpY.val (v := (.int .u32 (N : Int))) ?_ ⟨Kept.refl _ _, rfl⟩
      first | rfl | go_simp
    refine Steps.cons (fun x wf Kk hq hdep hold => ?_) ?_
    · try dsimp only
      have h6 : x 6 = (.int .u32 (N : Int)) := hdep 6 (by kernel_rfl)
      clear hq hdep hold
      simp only [h6]
      clear h6
      rw [if_pos (by rfl)]
      refine OpY.val (v := (.int .u32 ((N : Int) / 256))) ?_ ⟨Kept.refl _ _, rfl⟩
      first | rfl | go_simp
    refine Steps.cons (fun x wf Kk hq hdep hold => ?_) ?_
    · try dsimp only
      have h7 : x 7 = (.int .u32 ((N : Int) / 256)) := hdep 7 (by kernel_rfl)
      clear hq hdep hold
      simp only [h7]
      clear h7
      rw [if_pos (by rfl)]
      refine OpY.val (v := (.int .u8 ((N : Int) / 256 % 256))) ?_ ⟨Kept.refl _ _, rfl⟩
      first | rfl | go_simp
    refine Steps.cons (fun x wf Kk hq hdep hold => ?_) ?_
    · try dsimp only
      clear hq hdep hold
      rw [if_pos (by rfl)]
      refine OpY.val (v := (.int .u32 (N : Int))) ?_ ⟨Kept.refl _ _, rfl⟩
      first | rfl | go_simp
    refine Steps.cons (fun x wf Kk hq hdep hold => ?_) ?_
    · try dsimp only
      have h9 : x 9 = (.int .u32 (N : Int)) := hdep 9 (by kernel_rfl)
      clear hq hdep hold
      simp only [h9]
      clear h9
      rw [if_pos (by rfl)]
      refine OpY.val (v := (.int .u8 ((N : Int) % 256))) ?_ ⟨Kept.refl _ _, rfl⟩
      first | rfl | go_simp
    refine Steps.cons (fun x wf Kk hq hdep hold => ?_) ?_
    · try dsimp only
      have h2 : x 2 = (.int .u8 ((N : Int) / 16777216 % 256)) := hdep 2 (by kernel_rfl)
      have h5 : x 5 = (.int .u8 ((N : Int) / 65536 % 256)) := hdep 5 (by kernel_rfl)
      have h8 : x 8 = (.int .u8 ((N : Int) / 256 % 256)) := hdep 8 (by kernel_rfl)
      have h10 : x 10 = (.int .u8 ((N : Int) % 256)) := hdep 10 (by kernel_rfl)
      clear hq hdep hold
      simp only [h2, h5, h8, h10]
      clear h2 h5 h8 h10
      rw [if_pos (by rfl)]
      refine OpY.build 43 5 4 _ rfl 1 (.int .u8 0) Tryd.underlying43 infU8 (by decide) (by decide) ((be N 4).map B) _ rfl ?_ (by simp [be_length]) (by decide) (fun w' hg k ho => ⟨k, Rd.of_own ho⟩)
      rw [be4_vals]; exact fill_rows 1 (by decide) (.int .u8 0) [.int .u8 ((N : Int) / 16777216 % 256), .int .u8 ((N : Int) / 65536 % 256), .int .u8 ((N : Int) / 256 % 256), .int .u8 ((N : Int) % 256)] (by intro v hv; simp at hv; rcases hv with rfl | rfl | rfl | rfl <;> rfl)
    refine Steps.cons (fun x wf Kk hq hdep hold => ?_) ?_
    · try dsimp only
      clear hq hdep hold
      rw [if_pos (by rfl)]
      refine OpY.val (v := (.pointer (some ⟨w.heap.size, 1, none⟩))) ?_ ⟨Kept.refl _ _, rfl⟩
      first | rfl | go_simp
    refine Steps.cons (fun x wf Kk hq hdep hold => ?_) ?_
    · try dsimp only
      have h12 : x 12 = (.pointer (some ⟨w.heap.size, 1, none⟩)) := hdep 12 (by kernel_rfl)
      clear hq hdep hold
      simp only [h12]
      clear h12
      have c1 : wf.cell? ⟨w.heap.size, 1, none⟩ = some (.int .i64 e.kind) := cell_of_row wf _ 1 _ _ _ (blkE.out Kk)
      rw [if_pos (by rfl)]
      refine OpY.val (v := (.int .i64 e.kind)) ?_ ⟨Kept.refl _ _, rfl⟩
      first | rfl | go_simp
    refine Steps.cons (fun x wf Kk hq hdep hold => ?_) ?_
    · try dsimp only
      have h13 : x 13 = (.int .i64 e.kind) := hdep 13 (by kernel_rfl)
      clear hq hdep hold
      simp only [h13]
      clear h13
      rw [if_pos (by rfl)]
      refine OpY.val (v := (.int .u8 (e.kind % 256))) ?_ ⟨Kept.refl _ _, rfl⟩
      first | rfl | go_simp
    refine Steps.cons (fun x wf Kk hq hdep hold => ?_) ?_
    · try dsimp only
      have h14 : x 14 = (.int .u8 (e.kind % 256)) := hdep 14 (by kernel_rfl)
      clear hq hdep hold
      simp only [h14]
      clear h14
      rw [if_pos (by rfl)]
      refine OpY.build 43 5 1 _ rfl 1 (.int .u8 0) Tryd.underlying43 infU8 (by decide) (by decide) [.int .u8 (e.kind % 256)] _ rfl ?_ (by simp) (by decide) (fun w' hg k ho => ⟨k, Rd.of_own ho⟩)
      exact fill_rows 1 (by decide) (.int .u8 0) [.int .u8 (e.kind % 256)] (fun v hv => by (obtain rfl : v = .int .u8 (e.kind % 256) := (by simpa using hv)); rfl)
    refine Steps.cons (fun x wf Kk hq hdep hold => ?_) ?_
    · try dsimp only
      clear hq hdep hold
      rw [if_pos (by rfl)]
      refine OpY.val (v := (.pointer (some ⟨w.heap.size, 2, none⟩))) ?_ ⟨Kept.refl _ _, rfl⟩
      first | rfl | go_simp
    refine Steps.cons (fun x wf Kk hq hdep hold => ?_) ?_
    · try dsimp only
      have h16 : x 16 = (.pointer (some ⟨w.heap.size, 2, none⟩)) := hdep 16 (by kernel_rfl)
      clear hq hdep hold
      simp only [h16]
      clear h16
      have c1 : wf.cell? ⟨w.heap.size, 2, none⟩ = some vb := cell_of_row wf _ 2 _ _ _ (blkE.out Kk)
      rw [if_pos (by rfl)]
      refine OpY.val (v := (vb)) ?_ ⟨Kept.refl _ _, rfl⟩
      first | rfl | go_simp
    refine Steps.cons (fun x wf Kk hq hdep hold => ?_) ?_
    · try dsimp only
      clear hq hdep hold
      rw [if_pos (by rfl)]
      refine OpY.val (v := (.pointer (some ⟨w.heap.size, 3, none⟩))) ?_ ⟨Kept.refl _ _, rfl⟩
      first | rfl | go_simp
    refine Steps.cons (fun x wf Kk hq hdep hold => ?_) ?_
    · try dsimp only
      have h18 : x 18 = (.pointer (some ⟨w.heap.size, 3, none⟩)) := hdep 18 (by kernel_rfl)
      clear hq hdep hold
      simp only [h18]
      clear h18
      rw [if_pos (by rfl)]
      refine OpY.val (v := (.slice (some ⟨w.heap.size, 3, none⟩) 32 32)) ?_ ⟨Kept.refl _ _, rfl⟩
      first | rfl | go_simp
    refine Steps.cons (fun x wf Kk hq hdep hold => ?_) ?_
    · try dsimp only
      have p11 : Pr.p (Sl := (fun _ => (frm (w.heap.size + 1)))) (RdIs 1 4 ((be N 4).map B)) (x 11) wf := hdep 11 (by kernel_rfl)
      have p15 : Pr.p (Sl := (fun _ => (frm (w.heap.size + 1)))) (RdIs 1 1 [.int .u8 (e.kind % 256)]) (x 15) wf := hdep 15 (by kernel_rfl)
      have h17 : x 17 = (vb) := hdep 17 (by kernel_rfl)
      have h19 : x 19 = (.slice (some ⟨w.heap.size, 3, none⟩) 32 32) := hdep 19 (by kernel_rfl)
      clear hq hdep hold
      simp only [h17, h19]
      clear h17 h19
      rw [if_pos (by rfl)]
      refine OpY.build 77 43 4 _ rfl 1 (.slice none 0 0) Tryd.underlying77 infBs (by decide) (by decide) [x 11, x 15, vb, .slice (some ⟨w.heap.size, 3, none⟩) 32 32] _ rfl (fill4 p11 p15 h.sl) rfl (by decide) (fun w' hg k ho => ⟨k, _, Rd.of_own ho, fun j hj => ?_⟩)
      match j, hj with
      | 0, _ => have := p11.keptNo k; rw [← hN.out] at this; simpa [hashP, be_length] using this
      | 1, _ => have := p15.keptNo k; rw [← kindB] at this; simpa [hashP] using this
      | 2, _ => exact (h.2.2.keptNo (k1.out.frmB Kk.undrew (Nat.le_succ _))).keptNo k
      | 3, _ => exact (prevR.out Kk).keptNo k
    refine Steps.cons (fun x wf Kk hq hdep hold => ?_) ?_
    · try dsimp only
      have p20 : Pr.p (Sl := (fun _ => (frm (w.heap.size + 1)))) (RdPIs (hashP e)) (x 20) wf := hdep 20 (by kernel_rfl)
      clear hq hdep hold
      rw [if_pos (by rfl)]
      refine OpY.call (f := 48) (args := #[x 20]) (by go_simp) ?_
      refine (HOF.out _ wf p20 (hT.out.kept (k1.out.frmB Kk.undrew (Nat.le_succ _)))).mono ?_
      rintro e w2 ⟨rfl, k2⟩
      exact ⟨_, rfl, k2, rfl⟩
    refine Steps.cons (fun x wf Kk hq hdep hold => ?_) ?_
    · try dsimp only
      have h21 : x 21 = (Dg (sum (join (hashP e)))) := hdep 21 (by kernel_rfl)
      have Kq := hq no (fun j hj => by cases (show j ∈ ([] : List Nat) from by (have e : ∀ l : List Nat, l = [] → j ∈ l → j ∈ ([] : List Nat) := fun l h h2 => h ▸ h2); exact e _ (by kernel_rfl) hj))
      clear hq hdep hold
      simp only [h21]
      clear h21
      rw [if_pos (by rfl)]
      have gz := Kq.undrew.blk g1.out
      refine ysd (.tmp 2) (.tmp 28) rfl (w.heap.size + 1) rfl _ rfl _ gz Z32_size (sum_length _) ⟨?_, setRow_heap _ _ _ _ _ _ gz⟩
      exact (Kept.refl _ _).setRow (.inl (Nat.le_refl _)) _
    exact Steps.nil _
  · intro x wf Kk hv
    try dsimp only
    have h0 : x 0 = (.int .u32 (N : Int)) := hv 0 (by kernel_rfl)
    have h1 : x 1 = (.int .u32 ((N : Int) / 16777216)) := hv 1 (by kernel_rfl)
    have h2 : x 2 = (.int .u8 ((N : Int) / 16777216 % 256)) := hv 2 (by kernel_rfl)
    have h3 : x 3 = (.int .u32 (N : Int)) := hv 3 (by kernel_rfl)
    have h4 : x 4 = (.int .u32 ((N : Int) / 65536)) := hv 4 (by kernel_rfl)
    have h5 : x 5 = (.int .u8 ((N : Int) / 65536 % 256)) := hv 5 (by kernel_rfl)
    have h6 : x 6 = (.int .u32 (N : Int)) := hv 6 (by kernel_rfl)
    have h7 : x 7 = (.int .u32 ((N : Int) / 256)) := hv 7 (by kernel_rfl)
    have h8 : x 8 = (.int .u8 ((N : Int) / 256 % 256)) := hv 8 (by kernel_rfl)
    have h9 : x 9 = (.int .u32 (N : Int)) := hv 9 (by kernel_rfl)
    have h10 : x 10 = (.int .u8 ((N : Int) % 256)) := hv 10 (by kernel_rfl)
    have h12 : x 12 = (.pointer (some ⟨w.heap.size, 1, none⟩)) := hv 12 (by kernel_rfl)
    have h13 : x 13 = (.int .i64 e.kind) := hv 13 (by kernel_rfl)
    have h14 : x 14 = (.int .u8 (e.kind % 256)) := hv 14 (by kernel_rfl)
    have h16 : x 16 = (.pointer (some ⟨w.heap.size, 2, none⟩)) := hv 16 (by kernel_rfl)
    have h17 : x 17 = (vb) := hv 17 (by kernel_rfl)
    have h18 : x 18 = (.pointer (some ⟨w.heap.size, 3, none⟩)) := hv 18 (by kernel_rfl)
    have h19 : x 19 = (.slice (some ⟨w.heap.size, 3, none⟩) 32 32) := hv 19 (by kernel_rfl)
    have h21 : x 21 = (Dg (sum (join (hashP e)))) := hv 21 (by kernel_rfl)
    have p22 : Pr.p (Sl := (fun _ => (frm (w.heap.size + 1)))) (Blk (w.heap.size + 1) ((sum (join (hashP e))).map B).toArray 26) (x 22) wf := hv 22 (by kernel_rfl)
    clear hv
    simp only [h0, h1, h2, h3, h4, h5, h6, h7, h8, h9, h10, h12, h13, h14, h16, h17, h18, h19, h21]
    clear h0 h1 h2 h3 h4 h5 h6 h7 h8 h9 h10 h12 h13 h14 h16 h17 h18 h19 h21
    rw [hres.out] at p22
    have kz := hid (k1.out.frmB Kk.undrew (Nat.le_succ _))
    have hb := hid p22
    clear p22 Kk
    go_wp2_with fail
    refine bodyPost_ret (v := Dg (hashE e)) ?_ rfl ?_
    · exact ret_dg rfl (w.heap.size + 1) rfl (hashE e) hb.out (hashE_length e)
    · exact ⟨rfl, kz.out⟩
set_option maxRecDepth 100000 in
set_option maxHeartbeats 4000000 in
theorem refhash_any (e : Ent) (vb : Value) (w : World) (h : OkE w e vb) (hT : TabR w) : Calls Tryd.prog 29 #[Ev e vb] w fun ed w' => ed = .returned (Dg (hashE e)) ∧ Kept no w w' := by
  have hPl : (join (hashP e)).length ≤ 1099511000000 := by
    have h1 := h.1; have h2 := h.2.1
    simp only [hashP, join, List.flatMap_cons, List.flatMap_nil, List.length_append, be_length, List.length_nil, List.length_cons]; omega
  have h32 : ∀ p ∈ hashP e, p.length < 4294967296 := fun p hp => by
    have h1 := h.1; have h2 := h.2.1
    simp only [hashP, List.mem_cons, List.not_mem_nil, or_false] at hp
    rcases hp with rfl | rfl | rfl | rfl <;> simp [be_length] <;> omega
  have HOF := hid (fun v W (hr : RdP W v (hashP e)) (hT : TabR W) => refof_any v (hashP e) W hPl (by simp [hashP]) h32 hr hT)
  have hres : Hd (sum (join (hashP e)) = hashE e) := ⟨rfl⟩
  obtain ⟨L, hL⟩ : ∃ L, entC e vb = L := ⟨_, rfl⟩
  unfold Ev
  rw [hL]
  replace hL := hid hL
  have hw := wrap_u32 e.number
  obtain ⟨N, hN⟩ : ∃ N, (e.number % 4294967296).toNat = N := ⟨_, rfl⟩
  rw [hN] at hw
  have hN32 : N < 4294967296 := by omega
  replace hN := hid hN
  have hk8 := wrap_u8 e.kind
  replace hT := hid hT
  clear hPl h32
  go_enter Tryd.func29, Tryd.ntmps29
  go_upto_region 1 with fail
  obtain ⟨w1, hw1, g0, g1, k1⟩ := ent_blocks w L
  unfold Z32 at hw1
  rw [← hw1]
  clear hw1
  have c0 : w1.cell? ⟨w.heap.size, 0, none⟩ = some (.int .i64 e.number) := by rw [cell_of_row w1 _ 0 _ _ _ g0, ← hL.out]; rfl
  replace k1 := hid k1
  have hlt1 : Hd (w.heap.size + 1 < w1.heap.size) := ⟨lt_of_heap g1⟩
  replace g0 := hid g0
  replace g1 := hid g1
  go_upto_region 2 with fail
  clear c0
  have blkE : ∀ {W : World}, Kept (frm (w.heap.size + 1)) w1.drew W → W.heap[w.heap.size]? = some (.cells (entC e vb).toArray 47 (0, 0)) := fun k => by
    rw [hL.out]; exact (k.block _ (by have := hlt1.out; show w.heap.size < w1.heap.size; omega) (by unfold frm; omega)).trans g0.out
  have prevR : ∀ {W : World}, Kept (frm (w.heap.size + 1)) w1.drew W → Rd W 1 (.slice (some ⟨w.heap.size, 3, none⟩) 32 32) e.prev.length (e.prev.map B) := fun k => by
    refine ⟨by simp, _, 32, by rw [h.1], by rw [h.1]; exact Nat.le_refl _, by decide, .inr ⟨_, 3, rfl, fun j u hu => ?_⟩⟩
    rw [cell_of_row _ _ (3 + j) _ _ _ (blkE k)]
    have : (entC e vb).toArray[3 + j]? = (e.prev.map B)[j]? := by simp [entC, Nat.add_comm 3 j]
    rw [this]; exact hu
  replace prevR := hid @prevR
  replace blkE := hid @blkE

  refine region_flow (S := (frm (w.heap.size + 1))) (Sl := (fun _ => (frm (w.heap.size + 1)))) [Is (.int .u32 (N : Int)), Is (.int .u32 ((N : Int) / 16777216)), Is (.int .u8 ((N : Int) / 16777216 % 256)), Is (.int .u32 (N : Int)), Is (.int .u32 ((N : Int) / 65536)), Is (.int .u8 ((N : Int) / 65536 % 256)), Is (.int .u32 (N : Int)), Is (.int .u32 ((N : Int) / 256)), Is (.int .u8 ((N : Int) / 256 % 256)), Is (.int .u32 (N : Int)), Is (.int .u8 ((N : Int) % 256)), RdIs 1 4 ((be N 4).map B), Is (.pointer (some ⟨w.heap.size, 1, none⟩)), Is (.int .i64 e.kind), Is (.int .u8 (e.kind % 256)), RdIs 1 1 [.int .u8 (e.kind % 256)], Is (.pointer (some ⟨w.heap.size, 2, none⟩)), Is (vb), Is (.pointer (some ⟨w.heap.size, 3, none⟩)), Is (.slice (some ⟨w.heap.size, 3, none⟩) 32 32), RdPIs (hashP e), Is (Dg (sum (join (hashP e)))), Blk (w.heap.size + 1) ((sum (join (hashP e))).map B).toArray 26] [22] (fun _ _ h => h) _ (by kernel_rfl) (by kernel_rfl) (by kernel_rfl) (by kernel_rfl) (fun x => by simp only [puts, Act.put, List.map_cons, List.map_nil, Nat.zero_add, Nat.reduceAdd, List.setIfInBounds_toArray, List.set_cons_zero, List.set_cons_succ]; exact rfl) ?_ ?_
  · skip
    refine Steps.cons (fun x wf Kk hq hdep hold => ?_) ?_
    · try dsimp only
      clear hq hdep hold
      rw [if_pos (by rfl)]
      refine OpY.val (v := (.int .u32 (N : Int))) ?_ ⟨Kept.refl _ _, rfl⟩
      first | rfl | go_simp
    refine Steps.cons (fun x wf Kk hq hdep hold => ?_) ?_
    · try dsimp only
      have h0 : x 0 = (.int .u32 (N : Int)) := hdep 0 (by kernel_rfl)
      clear hq hdep hold
      simp only [h0]
      clear h0
      rw [if_pos (by rfl)]
      refine OpY.val (v := (.int .u32 ((N : Int) / 16777216))) ?_ ⟨Kept.refl _ _, rfl⟩
      first | rfl | go_simp
    refine Steps.cons (fun x wf Kk hq hdep hold => ?_) ?_
    · try dsimp only
      have h1 : x 1 = (.int .u32 ((N : Int) / 16777216)) := hdep 1 (by kernel_rfl)
      clear hq hdep hold
      simp only [h1]
      clear h1
      rw [if_pos (by rfl)]
      refine OpY.val (v := (.int .u8 ((N : Int) / 16777216 % 256))) ?_ ⟨Kept.refl _ _, rfl⟩
      first | rfl | go_simp
    refine Steps.cons (fun x wf Kk hq hdep hold => ?_) ?_
    · try dsimp only
      clear hq hdep hold
      rw [if_pos (by rfl)]
      refine OpY.val (v := (.int .u32 (N : Int))) ?_ ⟨Kept.refl _ _, rfl⟩
      first | rfl | go_simp
    refine Steps.cons (fun x wf Kk hq hdep hold => ?_) ?_
    · try dsimp only
      have h3 : x 3 = (.int .u32 (N : Int)) := hdep 3 (by kernel_rfl)
      clear hq hdep hold
      simp only [h3]
      clear h3
      rw [if_pos (by rfl)]
      refine OpY.val (v := (.int .u32 ((N : Int) / 65536))) ?_ ⟨Kept.refl _ _, rfl⟩
      first | rfl | go_simp
    refine Steps.cons (fun x wf Kk hq hdep hold => ?_) ?_
    · try dsimp only
      have h4 : x 4 = (.int .u32 ((N : Int) / 65536)) := hdep 4 (by kernel_rfl)
      clear hq hdep hold
      simp only [h4]
      clear h4
      rw [if_pos (by rfl)]
      refine OpY.val (v := (.int .u8 ((N : Int) / 65536 % 256))) ?_ ⟨Kept.refl _ _, rfl⟩
      first | rfl | go_simp
    refine Steps.cons (fun x wf Kk hq hdep hold => ?_) ?_
    · try dsimp only
      clear hq hdep hold
      rw [if_pos (by rfl)]
      refine OpY.val (v := (.int .u32 (N : Int))) ?_ ⟨Kept.refl _ _, rfl⟩
      first | rfl | go_simp
    refine Steps.cons (fun x wf Kk hq hdep hold => ?_) ?_
    · try dsimp only
      have h6 : x 6 = (.int .u32 (N : Int)) := hdep 6 (by kernel_rfl)
      clear hq hdep hold
      simp only [h6]
      clear h6
      rw [if_pos (by rfl)]
      refine OpY.val (v := (.int .u32 ((N : Int) / 256))) ?_ ⟨Kept.refl _ _, rfl⟩
      first | rfl | go_simp
    refine Steps.cons (fun x wf Kk hq hdep hold => ?_) ?_
    · try dsimp only
      have h7 : x 7 = (.int .u32 ((N : Int) / 256)) := hdep 7 (by kernel_rfl)
      clear hq hdep hold
      simp only [h7]
      clear h7
      rw [if_pos (by rfl)]
      refine OpY.val (v := (.int .u8 ((N : Int) / 256 % 256))) ?_ ⟨Kept.refl _ _, rfl⟩
      first | rfl | go_simp
    refine Steps.cons (fun x wf Kk hq hdep hold => ?_) ?_
    · try dsimp only
      clear hq hdep hold
      rw [if_pos (by rfl)]
      refine OpY.val (v := (.int .u32 (N : Int))) ?_ ⟨Kept.refl _ _, rfl⟩
      first | rfl | go_simp
    refine Steps.cons (fun x wf Kk hq hdep hold => ?_) ?_
    · try dsimp only
      have h9 : x 9 = (.int .u32 (N : Int)) := hdep 9 (by kernel_rfl)
      clear hq hdep hold
      simp only [h9]
      clear h9
      rw [if_pos (by rfl)]
      refine OpY.val (v := (.int .u8 ((N : Int) % 256))) ?_ ⟨Kept.refl _ _, rfl⟩
      first | rfl | go_simp
    refine Steps.cons (fun x wf Kk hq hdep hold => ?_) ?_
    · try dsimp only
      have h2 : x 2 = (.int .u8 ((N : Int) / 16777216 % 256)) := hdep 2 (by kernel_rfl)
      have h5 : x 5 = (.int .u8 ((N : Int) / 65536 % 256)) := hdep 5 (by kernel_rfl)
      have h8 : x 8 = (.int .u8 ((N : Int) / 256 % 256)) := hdep 8 (by kernel_rfl)
      have h10 : x 10 = (.int .u8 ((N : Int) % 256)) := hdep 10 (by kernel_rfl)
      clear hq hdep hold
      simp only [h2, h5, h8, h10]
      clear h2 h5 h8 h10
      rw [if_pos (by rfl)]
      refine OpY.build 43 5 4 _ rfl 1 (.int .u8 0) Tryd.underlying43 infU8 (by decide) (by decide) ((be N 4).map B) _ rfl ?_ (by simp [be_length]) (by decide) (fun w' hg k ho => ⟨k, Rd.of_own ho⟩)
      rw [be4_vals]; exact fill_rows 1 (by decide) (.int .u8 0) [.int .u8 ((N : Int) / 16777216 % 256), .int .u8 ((N : Int) / 65536 % 256), .int .u8 ((N : Int) / 256 % 256), .int .u8 ((N : Int) % 256)] (by intro v hv; simp at hv; rcases hv with rfl | rfl | rfl | rfl <;> rfl)
    refine Steps.cons (fun x wf Kk hq hdep hold => ?_) ?_
    · try dsimp only
      clear hq hdep hold
      rw [if_pos (by rfl)]
      refine OpY.val (v := (.pointer (some ⟨w.heap.size, 1, none⟩))) ?_ ⟨Kept.refl _ _, rfl⟩
      first | rfl | go_simp
    refine Steps.cons (fun x wf Kk hq hdep hold => ?_) ?_
    · try dsimp only
      have h12 : x 12 = (.pointer (some ⟨w.heap.size, 1, none⟩)) := hdep 12 (by kernel_rfl)
      clear hq hdep hold
      simp only [h12]
      clear h12
      have c1 : wf.cell? ⟨w.heap.size, 1, none⟩ = some (.int .i64 e.kind) := cell_of_row wf _ 1 _ _ _ (blkE.out Kk)
      rw [if_pos (by rfl)]
      refine OpY.val (v := (.int .i64 e.kind)) ?_ ⟨Kept.refl _ _, rfl⟩
      first | rfl | go_simp
    refine Steps.cons (fun x wf Kk hq hdep hold => ?_) ?_
    · try dsimp only
      have h13 : x 13 = (.int .i64 e.kind) := hdep 13 (by kernel_rfl)
      clear hq hdep hold
      simp only [h13]
      clear h13
      rw [if_pos (by rfl)]
      refine OpY.val (v := (.int .u8 (e.kind % 256))) ?_ ⟨Kept.refl _ _, rfl⟩
      first | rfl | go_simp
    refine Steps.cons (fun x wf Kk hq hdep hold => ?_) ?_
    · try dsimp only
      have h14 : x 14 = (.int .u8 (e.kind % 256)) := hdep 14 (by kernel_rfl)
      clear hq hdep hold
      simp only [h14]
      clear h14
      rw [if_pos (by rfl)]
      refine OpY.build 43 5 1 _ rfl 1 (.int .u8 0) Tryd.underlying43 infU8 (by decide) (by decide) [.int .u8 (e.kind % 256)] _ rfl ?_ (by simp) (by decide) (fun w' hg k ho => ⟨k, Rd.of_own ho⟩)
      exact fill_rows 1 (by decide) (.int .u8 0) [.int .u8 (e.kind % 256)] (fun v hv => by (obtain rfl : v = .int .u8 (e.kind % 256) := (by simpa using hv)); rfl)
    refine Steps.cons (fun x wf Kk hq hdep hold => ?_) ?_
    · try dsimp only
      clear hq hdep hold
      rw [if_pos (by rfl)]
      refine OpY.val (v := (.pointer (some ⟨w.heap.size, 2, none⟩))) ?_ ⟨Kept.refl _ _, rfl⟩
      first | rfl | go_simp
    refine Steps.cons (fun x wf Kk hq hdep hold => ?_) ?_
    · try dsimp only
      have h16 : x 16 = (.pointer (some ⟨w.heap.size, 2, none⟩)) := hdep 16 (by kernel_rfl)
      clear hq hdep hold
      simp only [h16]
      clear h16
      have c1 : wf.cell? ⟨w.heap.size, 2, none⟩ = some vb := cell_of_row wf _ 2 _ _ _ (blkE.out Kk)
      rw [if_pos (by rfl)]
      refine OpY.val (v := (vb)) ?_ ⟨Kept.refl _ _, rfl⟩
      first | rfl | go_simp
    refine Steps.cons (fun x wf Kk hq hdep hold => ?_) ?_
    · try dsimp only
      clear hq hdep hold
      rw [if_pos (by rfl)]
      refine OpY.val (v := (.pointer (some ⟨w.heap.size, 3, none⟩))) ?_ ⟨Kept.refl _ _, rfl⟩
      first | rfl | go_simp
    refine Steps.cons (fun x wf Kk hq hdep hold => ?_) ?_
    · try dsimp only
      have h18 : x 18 = (.pointer (some ⟨w.heap.size, 3, none⟩)) := hdep 18 (by kernel_rfl)
      clear hq hdep hold
      simp only [h18]
      clear h18
      rw [if_pos (by rfl)]
      refine OpY.val (v := (.slice (some ⟨w.heap.size, 3, none⟩) 32 32)) ?_ ⟨Kept.refl _ _, rfl⟩
      first | rfl | go_simp
    refine Steps.cons (fun x wf Kk hq hdep hold => ?_) ?_
    · try dsimp only
      have p11 : Pr.p (Sl := (fun _ => (frm (w.heap.size + 1)))) (RdIs 1 4 ((be N 4).map B)) (x 11) wf := hdep 11 (by kernel_rfl)
      have p15 : Pr.p (Sl := (fun _ => (frm (w.heap.size + 1)))) (RdIs 1 1 [.int .u8 (e.kind % 256)]) (x 15) wf := hdep 15 (by kernel_rfl)
      have h17 : x 17 = (vb) := hdep 17 (by kernel_rfl)
      have h19 : x 19 = (.slice (some ⟨w.heap.size, 3, none⟩) 32 32) := hdep 19 (by kernel_rfl)
      clear hq hdep hold
      simp only [h17, h19]
      clear h17 h19
      rw [if_pos (by rfl)]
      refine OpY.build 77 43 4 _ rfl 1 (.slice none 0 0) Tryd.underlying77 infBs (by decide) (by decide) [x 11, x 15, vb, .slice (some ⟨w.heap.size, 3, none⟩) 32 32] _ rfl (fill4 p11 p15 h.sl) rfl (by decide) (fun w' hg k ho => ⟨k, _, Rd.of_own ho, fun j hj => ?_⟩)
      match j, hj with
      | 0, _ => have := p11.keptNo k; rw [← hN.out] at this; simpa [hashP, be_length] using this
      | 1, _ => have := p15.keptNo k; rw [← kindB] at this; simpa [hashP] using this
      | 2, _ => exact (h.2.2.keptNo (k1.out.frmB Kk.undrew (Nat.le_succ _))).keptNo k
      | 3, _ => exact (prevR.out Kk).keptNo k
    refine Steps.cons (fun x wf Kk hq hdep hold => ?_) ?_
    · try dsimp only
      have p20 : Pr.p (Sl := (fun _ => (frm (w.heap.size + 1)))) (RdPIs (hashP e)) (x 20) wf := hdep 20 (by kernel_rfl)
      clear hq hdep hold
      rw [if_pos (by rfl)]
      refine OpY.call (f := 50) (args := #[x 20]) (by go_simp) ?_
      refine (HOF.out _ wf p20 (hT.out.kept (k1.out.frmB Kk.undrew (Nat.le_succ _)))).mono ?_
      rintro e w2 ⟨rfl, k2⟩
      exact ⟨_, rfl, k2, rfl⟩
    refine Steps.cons (fun x wf Kk hq hdep hold => ?_) ?_
    · try dsimp only
      have h21 : x 21 = (Dg (sum (join (hashP e)))) := hdep 21 (by kernel_rfl)
      have Kq := hq no (fun j hj => by cases (show j ∈ ([] : List Nat) from by (have e : ∀ l : List Nat, l = [] → j ∈ l → j ∈ ([] : List Nat) := fun l h h2 => h ▸ h2); exact e _ (by kernel_rfl) hj))
      clear hq hdep hold
      simp only [h21]
      clear h21
      rw [if_pos (by rfl)]
      have gz := Kq.undrew.blk g1.out
      refine ysd (.tmp 2) (.tmp 28) rfl (w.heap.size + 1) rfl _ rfl _ gz Z32_size (sum_length _) ⟨?_, setRow_heap _ _ _ _ _ _ gz⟩
      exact (Kept.refl _ _).setRow (.inl (Nat.le_refl _)) _
    exact Steps.nil _
  · intro x wf Kk hv
    try dsimp only
    have h0 : x 0 = (.int .u32 (N : Int)) := hv 0 (by kernel_rfl)
    have h1 : x 1 = (.int .u32 ((N : Int) / 16777216)) := hv 1 (by kernel_rfl)
    have h2 : x 2 = (.int .u8 ((N : Int) / 16777216 % 256)) := hv 2 (by kernel_rfl)
    have h3 : x 3 = (.int .u32 (N : Int)) := hv 3 (by kernel_rfl)
    have h4 : x 4 = (.int .u32 ((N : Int) / 65536)) := hv 4 (by kernel_rfl)
    have h5 : x 5 = (.int .u8 ((N : Int) / 65536 % 256)) := hv 5 (by kernel_rfl)
    have h6 : x 6 = (.int .u32 (N : Int)) := hv 6 (by kernel_rfl)
    have h7 : x 7 = (.int .u32 ((N : Int) / 256)) := hv 7 (by kernel_rfl)
    have h8 : x 8 = (.int .u8 ((N : Int) / 256 % 256)) := hv 8 (by kernel_rfl)
    have h9 : x 9 = (.int .u32 (N : Int)) := hv 9 (by kernel_rfl)
    have h10 : x 10 = (.int .u8 ((N : Int) % 256)) := hv 10 (by kernel_rfl)
    have h12 : x 12 = (.pointer (some ⟨w.heap.size, 1, none⟩)) := hv 12 (by kernel_rfl)
    have h13 : x 13 = (.int .i64 e.kind) := hv 13 (by kernel_rfl)
    have h14 : x 14 = (.int .u8 (e.kind % 256)) := hv 14 (by kernel_rfl)
    have h16 : x 16 = (.pointer (some ⟨w.heap.size, 2, none⟩)) := hv 16 (by kernel_rfl)
    have h17 : x 17 = (vb) := hv 17 (by kernel_rfl)
    have h18 : x 18 = (.pointer (some ⟨w.heap.size, 3, none⟩)) := hv 18 (by kernel_rfl)
    have h19 : x 19 = (.slice (some ⟨w.heap.size, 3, none⟩) 32 32) := hv 19 (by kernel_rfl)
    have h21 : x 21 = (Dg (sum (join (hashP e)))) := hv 21 (by kernel_rfl)
    have p22 : Pr.p (Sl := (fun _ => (frm (w.heap.size + 1)))) (Blk (w.heap.size + 1) ((sum (join (hashP e))).map B).toArray 26) (x 22) wf := hv 22 (by kernel_rfl)
    clear hv
    simp only [h0, h1, h2, h3, h4, h5, h6, h7, h8, h9, h10, h12, h13, h14, h16, h17, h18, h19, h21]
    clear h0 h1 h2 h3 h4 h5 h6 h7 h8 h9 h10 h12 h13 h14 h16 h17 h18 h19 h21
    rw [hres.out] at p22
    have kz := hid (k1.out.frmB Kk.undrew (Nat.le_succ _))
    have hb := hid p22
    clear p22 Kk
    go_wp2_with fail
    refine bodyPost_ret (v := Dg (hashE e)) ?_ rfl ?_
    · exact ret_dg rfl (w.heap.size + 1) rfl (hashE e) hb.out (hashE_length e)
    · exact ⟨rfl, kz.out⟩
end Go.Proofs.YtknbkhmpnanegaaDoor
