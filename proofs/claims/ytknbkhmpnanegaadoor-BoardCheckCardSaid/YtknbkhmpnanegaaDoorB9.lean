/- board.Entries, board.Check. -/
import Derived.Test.YtknbkhmpnanegaaDoorB8
import Derived.Test.YtknbkhmpnanegaaDoorB7
namespace Go.Proofs.YtknbkhmpnanegaaDoor
open Go.RowKit Go.Mk Go.Sha Go.Brd
/-- How many entries from the beginning could be those of a board. -/
def chk (prev : List UInt8) (i : Nat) : List Ent → Nat
  | [] => i
  | e :: es => if e.number = (i : Int) ∧ poss e.kind = true ∧ e.prev = prev then chk (hashE e) (i + 1) es else i
theorem ldmw {ops : Array Oper} {rest : List Oper} {o : Oper} {a : Act} {w : World} {Q : Exit → Act → World → Prop} (hw : Region.wanted o (yielded ops a.tmps) = true) (x : Operand) (ho : o.op = .load 26 x) (b of : Nat) (hx : a.eval x = .pointer (some ⟨b, of, none⟩)) (D : List UInt8) (hb : w.rangeAt b of (D.map B)) (hD : D.length = 32)
    (h : wpList Tryd.prog ops Q rest (a.put o.dst (Dg D)) w) : wpList Tryd.prog ops Q (o :: rest) a w :=
  BigFrame.wpList_want hw fun _ hK => wp_load_mid 26 x ho b of hx _ _ hb Tryd.underlying26 rfl (infDl hD) (hK _ _ h)
theorem neqDg (D E : List UInt8) (hD : D.length = 32) (hE : E.length = 32) (b : Bool) (hb : (D != E) = b) (w : World) : (binOp .neq 26 (Dg D) (Dg E)).run Tryd.prog w = .ok (.bool b) w := by
  rw [← hb]; exact neq_digest D E hD hE w
theorem ev_block (w : World) (L : List Value) : ∃ w3, w3 = (w.alloc (.cells ZE 47)).setRow w.heap.size L.toArray ∧ w3.heap[w.heap.size]? = some (.cells L.toArray 47 (0, 0)) ∧ Kept no w w3 :=
  ⟨_, rfl, setRow_heap _ _ _ _ _ _ (heap_alloc_new _ _), ((Kept.refl no w).alloc _).setRow (.inr (Nat.le_refl _)) _⟩
set_option maxRecDepth 100000 in
theorem bdz {ops : Array Oper} {rest : List Oper} {o : Oper} {a : Act} {w : World} {Q : Exit → Act → World → Prop} (hgd : o.guard = none) (ho : o.op = .build 26 #[])
    (h : wpList Tryd.prog ops Q rest (a.put o.dst (Dg Z32l)) w) : wpList Tryd.prog ops Q (o :: rest) a w := by
  have e : (Tryd.prog.built 26 []).getD #[] = (Z32l.map B).toArray := by kernel_rfl
  refine wpList_build hgd 26 #[] ho (by kernel_rfl) ?_
  simp only [List.map_toArray, List.map_nil] at *
  rw [show (Tryd.prog.built 26 [].toArray.toList).getD #[] = (Z32l.map B).toArray from e]
  exact h
/-- []api.Entry{x}. -/
theorem be1 {ops : Array Oper} {rest : List Oper} {oo : Oper} {a : Act} {w : World} {Q : Exit → Act → World → Prop} (hgd : oo.guard = none) (x : Operand) (ho : oo.op = .buildSlice 42 1 #[(0, x)]) (e : Ent) (vb : Value) (hx : a.eval x = Ev e vb) {w0 : World} (hE : OkE w0 e vb)
    (h : ∀ w', Kept no w w' → Rd w' 35 (.slice (some ⟨w.heap.size, 0, none⟩) 1 1) 1 (entC e vb) → wpList Tryd.prog ops Q rest (a.put oo.dst (.slice (some ⟨w.heap.size, 0, none⟩) 1 1)) w') : wpList Tryd.prog ops Q (oo :: rest) a w := by
  obtain ⟨ie, hi, hz, hs⟩ : ∃ ie, Tryd.prog.info? 47 = some ie ∧ ie.zero = some (.agg ZE) ∧ ie.size = 35 := by
    have h := infEz
    cases hi : Tryd.prog.info? 47 with
    | none => rw [hi] at h; cases h
    | some ie => rw [hi] at h; simp at h; exact ⟨ie, rfl, h.1, h.2⟩
  refine wpList_buildSlice hgd 42 47 1 _ ho (entC e vb).toArray ie (.agg ZE) Tryd.underlying42 hi hz (by rw [hs]; decide) (by rw [hs]; decide) (by rw [hs, two_parts1]; show Instr.fill _ _ [(0, a.eval x)] = _; rw [hx]; exact fillE hE) (h _ ((Kept.refl no w).alloc _) (Rd.block (heap_alloc_new _ _) (by rw [entC_length hE.1]) (by decide)))
set_option maxRecDepth 100000 in
set_option maxHeartbeats 2000000 in
theorem check_any (v : Value) (ps : List (Ent × Value)) (w : World) (hn : ps.length ≤ 100) (hr : RdE w v ps) (hT : Tab w) :
    Calls Tryd.prog 32 #[v] w fun ed w' => ed = .returned (.int .i64 ((chk Z32l 0 (ents ps) : Nat) : Int)) ∧ Kept no w w' := by
  obtain ⟨ao, cap, rfl, hcap⟩ := hr.shape
  obtain ⟨n, hn'⟩ : ∃ n, ps.length = n := ⟨_, rfl⟩
  rw [hn'] at hr hcap hn ⊢
  replace hr := hid hr
  replace hT := hid hT
  replace hn' := hid hn'
  have hgd := guard_digest
  go_enter Tryd.func32, Tryd.ntmps32
  have hN0 := hid (heap_alloc_new w (.cells Z32 26))
  obtain ⟨w1, hw1, g3, k1⟩ := dg_block w Z32l
  have hZ := hid Z32_size
  have hz32 : Hd (Z32l.length = 32) := ⟨rfl⟩
  unfold Z32 at hN0 hw1 hZ
  replace hw1 := hid hw1
  go_upto_region 2 with (first | (refine bdz rfl rfl ?_) | (with_reducible refine sd rfl _ _ rfl w.heap.size rfl Z32l rfl _ hN0.out hZ.out hz32.out ?_; rw [← hw1.out]))
  clear hN0 hw1 hZ
  replace g3 := hid g3
  replace k1 := hid k1
  go_wp2_with fail
  go_loopw [4, 5, 9] (fun _ _ i wr => ∃ (k : Nat) (prev : List UInt8), k ≤ n ∧ i = .int .i64 (k : Int) ∧ Hd (prev.length = 32) ∧ Hd (wr.heap[w.heap.size]? = some (.cells (prev.map B).toArray 26 (0, 0))) ∧ Hd (chk Z32l 0 (ents ps) = chk prev k ((ents ps).drop k)) ∧ Hd (Kept no w wr)) (fun _ _ i _ => n - (intOf i).toNat)
  case atStart => exact ⟨0, Z32l, by omega, rfl, hz32, g3, ⟨rfl⟩, k1⟩
  case round =>
    clear g3 k1
    obtain ⟨k, prev, hk, rfl, hpl, gp, hch, hK⟩ := hrel
    by_cases hlt : k < n
    · obtain ⟨b, o, rfl, hrg⟩ := (hr.out.kept hK.out).at k (by rw [hn'.out]; exact hlt)
      obtain ⟨e, vb, hel⟩ : ∃ e vb, ps[k]'(by rw [hn'.out]; exact hlt) = (e, vb) := ⟨_, _, rfl⟩
      rw [hel] at hrg
      have hok : Hd (OkE w e vb) := ⟨by have := hr.out.1 (e, vb) (by rw [← hel]; exact List.getElem_mem _); exact this⟩
      have hdr : (ents ps).drop k = e :: (ents ps).drop (k + 1) := by
        rw [List.drop_eq_getElem_cons (by rw [ents_length, hn'.out]; exact hlt)]
        congr 1
        simp [ents, hel]
      have hch' : Hd (chk Z32l 0 (ents ps) = if e.number = (k : Int) ∧ poss e.kind = true ∧ e.prev = prev then chk (hashE e) (k + 1) ((ents ps).drop (k + 1)) else k) := ⟨by rw [hch.out, hdr]; rfl⟩
      have hk1 : (k : Int) < (n : Int) := by omega
      have hk0 : (0 : Int) ≤ (k : Int) := by omega
      have hk5 : ¬ (k : Int) = 5000 := by omega
      have hk5' : ((k : Int) == 5000) = false := by simpa using hk5
      clear hel hdr hch
      replace hrg := hid hrg
      have hN5 := hid (heap_alloc_new wr (.cells ZE 47))
      obtain ⟨w3, hw3, g5, k3⟩ := ev_block wr (entC e vb)
      have hZs := hid ZE_size
      unfold ZE at hN5 hw3 hZs
      rw [show (entC ⟨0, 0, [], Z32l⟩ (.slice none 0 0)).toArray = _ from ZE_eq.symm] at hN5 hw3 hZs
      have K3 := hid (hK.out.trans' k3)
      have gp3 := hid (k3.blk gp.out)
      have hPb : Hd (w.heap.size < wr.heap.size) := ⟨lt_of_heap gp.out⟩
      replace hw3 := hid hw3
      generalize hg5 : wr.heap.size = q5 at hN5 hw3 g5 hPb
      have c0 : w3.cell? ⟨q5, 0, none⟩ = some (.int .i64 e.number) := by rw [cell_of_row w3 _ 0 _ _ _ g5]; rfl
      have c1 : w3.cell? ⟨q5, 1, none⟩ = some (.int .i64 e.kind) := by rw [cell_of_row w3 _ 1 _ _ _ g5]; rfl
      have c3 : Hd (w3.rangeAt q5 3 (e.prev.map B)) := ⟨fun j u hu => by
        rw [cell_of_row w3 _ (3 + j) _ _ _ g5]
        have : (entC e vb).toArray[3 + j]? = (e.prev.map B)[j]? := by simp [entC, Nat.add_comm 3 j]
        rw [this]; exact hu⟩
      replace hg5 := hid hg5
      replace g5 := hid g5
      clear k3 gp
      have HP := hid (fun W => possible_any e.kind W)
      go_upto_region 5 with (first | (with_reducible refine lem rfl _ rfl b (o + k * 35) rfl e vb hrg.out hok.out ?_) | (with_reducible refine se rfl _ _ rfl wr.heap.size rfl e vb rfl _ (by rw [hg5.out]; exact hN5.out) hZs.out hok.out ?_; rw [hg5.out, ← hw3.out]))
      clear hN5 hw3 hZs hrg hK hg5
      by_cases hnum : e.number = (k : Int)
      · have hnb : (e.number != (k : Int)) = false := by simpa using hnum
        cases hps : poss e.kind with
        | false =>
          rw [hps] at HP
          have hv : Hd (chk Z32l 0 (ents ps) = k) := ⟨by rw [hch'.out, if_neg (by rw [hps]; simp)]⟩
          clear hch' hps hnum
          go_wp2_with (refine (HP.out _).mono ?_; rintro ed w' ⟨rfl, rfl⟩)
          go_ret
          exact ⟨by rw [hv.out]; rfl, K3.out⟩
        | true =>
          rw [hps] at HP
          by_cases hpe : e.prev = prev
          · have hne := neqDg e.prev prev hok.out.1 hpl.out false (by simpa using hpe)
            have hv : Hd (chk Z32l 0 (ents ps) = chk (hashE e) (k + 1) ((ents ps).drop (k + 1))) := ⟨by rw [hch'.out, if_pos ⟨hnum, hps, hpe⟩]⟩
            clear hch' hps hnum hpe
            unfold Dg at hne
            have hep : Hd (e.prev.length = 32) := ⟨hok.out.1⟩
            go_upto_region 7 with (first | (refine (HP.out _).mono ?_; rintro ed w' ⟨rfl, rfl⟩) | (with_reducible refine ldmw rfl _ rfl q5 3 rfl e.prev c3.out hep.out ?_; unfold Dg) | (with_reducible refine ldw rfl _ rfl w.heap.size rfl prev gp3.out hpl.out ?_; unfold Dg))
            clear c0 c1 c3 hne
            go_wp2_with (with_reducible refine le rfl _ rfl q5 rfl e vb g5.out hok.out ?_)
            refine (hash_any e vb w3 (hok.out.kept K3.out) (hT.out.kept K3.out)).mono ?_
            rintro ed w4 ⟨rfl, k4⟩
            have gp4 := hid (k4.blk gp3.out)
            have hps4 : Hd ((prev.map B).toArray.size = 32) := ⟨Dg_cells hpl.out⟩
            have hh := hid (hashE_length e)
            have gp5 := hid (setRow_heap w4 w.heap.size _ ((hashE e).map B).toArray _ _ gp4.out)
            have K5 := hid ((K3.out.trans' k4).setRow (g := w.heap.size) (.inr (Nat.le_refl _)) ((hashE e).map B).toArray)
            clear k4 K3 gp3 g5 hok
            go_wp2_with (with_reducible refine sd rfl _ _ rfl w.heap.size rfl (hashE e) rfl _ gp4.out hps4.out hh.out ?_)
            go_roundw
            case rel => first | exact ⟨k + 1, hashE e, by omega, by go_num, hh, gp5, hv, K5⟩ | ((repeat apply Exists.intro); exact ⟨⟨k + 1, hashE e, by omega, by go_num, hh, gp5, hv, K5⟩, rfl⟩)
            case measure => simp [intOf]; omega
          · have hne := neqDg e.prev prev hok.out.1 hpl.out true (by simpa using hpe)
            have hv : Hd (chk Z32l 0 (ents ps) = k) := ⟨by rw [hch'.out, if_neg (fun h => hpe h.2.2)]⟩
            clear hch' hps hnum hpe
            unfold Dg at hne
            have hep : Hd (e.prev.length = 32) := ⟨hok.out.1⟩
            go_wp2_with (first | (refine (HP.out _).mono ?_; rintro ed w' ⟨rfl, rfl⟩) | (with_reducible refine ldmw rfl _ rfl q5 3 rfl e.prev c3.out hep.out ?_; unfold Dg) | (with_reducible refine ldw rfl _ rfl w.heap.size rfl prev gp3.out hpl.out ?_; unfold Dg))
            go_ret
            exact ⟨by rw [hv.out]; rfl, K3.out⟩
      · have hnb : (e.number != (k : Int)) = true := by simpa using hnum
        have hv : Hd (chk Z32l 0 (ents ps) = k) := ⟨by rw [hch'.out, if_neg (fun h => hnum h.1)]⟩
        clear hch'
        go_wp2_with fail
        go_ret
        exact ⟨by rw [hv.out]; rfl, K3.out⟩
    · obtain rfl : k = n := by omega
      have hv : Hd (chk Z32l 0 (ents ps) = k) := ⟨by
        rw [hch.out, List.drop_of_length_le (by rw [ents_length, hn'.out]; exact Nat.le_refl _)]; rfl⟩
      clear hlt hk hch gp
      go_wp2_with fail
      go_ret
      exact ⟨by rw [hv.out]; rfl, hK.out⟩
set_option maxRecDepth 100000 in
set_option maxHeartbeats 2000000 in
theorem entries_any (g : Nat) (v : Value) (ps : List (Ent × Value)) (w : World) (hb : Bd w g v ps) (hn : ps.length ≤ 100) :
    Calls Tryd.prog 31 #[.pointer (some ⟨g, 0, none⟩)] w fun ed w' => ∃ v' qs, ed = .returned v' ∧ ents qs = ents ps ∧ w'.ownsRow 0 47 35 v' qs.length (flatE qs) ∧ (∀ q ∈ qs, OwE w' q.1 q.2) ∧ Kept no w w' ∧ New w v' ∧ ∀ q ∈ qs, New w q.2 := by
  have hr := hb.rd
  obtain ⟨ao, cap, rfl, hcap⟩ := hr.shape
  obtain ⟨n, hn'⟩ : ∃ n, ps.length = n := ⟨_, rfl⟩
  rw [hn'] at hr hcap hn hb
  have cv : w.cell? ⟨g, 0, none⟩ = some (.slice ao n cap) := by rw [cell_of_row w _ 0 _ _ _ hb.at_]; rfl
  replace hr := hid hr
  replace hn' := hid hn'
  clear hb
  go_enter Tryd.func31, Tryd.ntmps31
  go_wp2_with fail
  clear cv
  go_loopw [3, 13] (fun out i wr => ∃ (k : Nat) (qs : List (Ent × Value)), k ≤ n ∧ i = .int .i64 (k : Int) ∧ Hd (qs.length = k) ∧ Hd (ents qs = (ents ps).take k) ∧ Hd (wr.ownsRow 0 47 35 out k (flatE qs)) ∧ Hd (∀ q ∈ qs, OwE wr q.1 q.2) ∧ Hd (Kept no w wr) ∧ Hd (New w out) ∧ Hd (∀ q ∈ qs, New w q.2)) (fun _ i _ => n - (intOf i).toNat)
  case atStart => exact ⟨0, [], by omega, rfl, ⟨rfl⟩, ⟨by simp [ents]⟩, ⟨World.ownsRow_nil _ _ _ _⟩, ⟨fun q hq => by cases hq⟩, ⟨Kept.refl _ _⟩, ⟨.inl rfl⟩, ⟨fun q hq => by cases hq⟩⟩
  case round =>
    obtain ⟨k, qs, hk, rfl, hql, hqe, ho, hq, hK, hN, hNq⟩ := hrel
    by_cases hlt : k < n
    · obtain ⟨b, o, rfl, hrg⟩ := (hr.out.kept hK.out).at k (by rw [hn'.out]; exact hlt)
      obtain ⟨e, vb, hel⟩ : ∃ e vb, ps[k]'(by rw [hn'.out]; exact hlt) = (e, vb) := ⟨_, _, rfl⟩
      rw [hel] at hrg
      have hok : Hd (OkE w e vb) := ⟨by have := hr.out.1 (e, vb) (by rw [← hel]; exact List.getElem_mem _); exact this⟩
      have hsn : Hd ((ents ps).take (k + 1) = (ents ps).take k ++ [e]) := ⟨by
        rw [List.take_succ_eq_append_getElem (by rw [ents_length, hn'.out]; exact hlt)]
        congr 2
        simp [ents, hel]⟩
      have hk1 : (k : Int) < (n : Int) := by omega
      have hk0 : (0 : Int) ≤ (k : Int) := by omega
      clear hel
      replace hrg := hid hrg
      have hN5 := hid (heap_alloc_new wr (.cells ZE 47))
      obtain ⟨w3, hw3, g3, k3⟩ := ev_block wr (entC e vb)
      have hZs := hid ZE_size
      unfold ZE at hN5 hw3 hZs
      rw [show (entC ⟨0, 0, [], Z32l⟩ (.slice none 0 0)).toArray = _ from ZE_eq.symm] at hN5 hw3 hZs
      have K3 := hid (hK.out.trans' k3)
      have ho3 := hid (k3.ownsRow ho.out fun _ _ => id)
      have hq3 : Hd (∀ q ∈ qs, OwE w3 q.1 q.2) := ⟨fun q h => (hq.out q h).keptNo k3⟩
      have hs3 := hid k3.size
      replace hw3 := hid hw3
      replace g3 := hid g3
      generalize hg5 : wr.heap.size = g5 at hN5 hw3 g3 hs3
      replace hg5 := hid hg5
      clear k3 ho hq
      go_upto_region 7 with (first | (with_reducible refine lem rfl _ rfl b (o + k * 35) rfl e vb hrg.out hok.out ?_) | (with_reducible refine se rfl _ _ rfl wr.heap.size rfl e vb rfl _ (by rw [hg5.out]; exact hN5.out) hZs.out hok.out ?_; rw [hg5.out, ← hw3.out]))
      clear hN5 hw3 hZs hrg hK
      go_wp2_with (with_reducible refine le rfl _ rfl g5 rfl e vb g3.out hok.out ?_)
      refine (copied_any e vb w3 (hok.out.kept K3.out)).mono ?_
      rintro ed w4 ⟨vr, rfl, or4, k4, nr4⟩
      have K4 := hid (K3.out.trans' k4)
      have ho4 := hid (k4.ownsRow ho3.out fun _ _ => id)
      have hq4 : Hd (∀ q ∈ qs, OwE w4 q.1 q.2) := ⟨fun q h => (hq3.out q h).keptNo k4⟩
      replace or4 := hid or4
      have hokr := hid or4.out.ok
      have hk100 : Hd (k ≤ 100) := ⟨by omega⟩
      have hNq' : Hd (∀ q ∈ qs ++ [(e, vr)], New w q.2) := ⟨fun q h => by
        rcases List.mem_append.1 h with h | h
        · exact hNq.out q h
        · obtain rfl : q = (e, vr) := by simpa using h
          exact frNew fun j hj => Nat.le_trans K3.out.size (nr4.fr (Nat.le_refl _) j hj)⟩
      clear k4 nr4 hNq ho3 hq3 K3 g3 hs3 hg5 hok
      go_wp2_with (refine be1 rfl _ rfl e vr rfl hokr.out ?_)
      intro w5 k5 r5
      have K5 := hid (K4.out.trans' k5)
      have ho5 := hid (k5.ownsRow ho4.out fun _ _ => id)
      have hq5 : Hd (∀ q ∈ qs ++ [(e, vr)], OwE w5 q.1 q.2) := ⟨fun q h => by
        rcases List.mem_append.1 h with h | h
        · exact (hq4.out q h).keptNo k5
        · obtain rfl : q = (e, vr) := by simpa using h
          exact or4.out.keptNo k5⟩
      replace r5 := hid r5
      have hone := hid hokr.out.one
      clear k5 ho4 hq4 or4 K4
      go_wp2_with (at_builtin; refine wpList_append _ rfl _ _ 42 rfl 47 35 72 TEnts _ _ _ rfl ho5.out _ _ _ rfl r5.out hone.out ?c1 ?c2 ?_)
      case c1 => have := hk100.out; unfold maxLen; omega
      case c2 => have := hk100.out; omega
      intro v6 w6 ho6 hk6 hn6 _
      have hN6 := hid (hN.out.step hn6 K5.out.size)
      have hK6 := hid (hN.out.kept K5.out hk6)
      have hq6 : Hd (∀ q ∈ qs ++ [(e, vr)], OwE w6 q.1 q.2) := ⟨fun q h => (hq5.out q h).kept hk6 fun j hj e => by
        obtain ⟨_, ⟨h0, _⟩ | ⟨p, _, _, h0, _, hp, _⟩⟩ := ho5.out
        · rw [h0] at e; cases e
        · rw [h0] at e
          have : p = j := by simpa [ob, Value.ownBlock] using e
          subst this
          exact (hq5.out q h).ne hp (by decide) p hj rfl⟩
      have ho6' : Hd (w6.ownsRow 0 47 35 v6 (k + 1) (flatE (qs ++ [(e, vr)]))) := ⟨by simpa [flatE] using ho6⟩
      have hql' : Hd ((qs ++ [(e, vr)]).length = k + 1) := ⟨by rw [List.length_append, hql.out]; rfl⟩
      have hqe' : Hd (ents (qs ++ [(e, vr)]) = (ents ps).take (k + 1)) := ⟨by rw [hsn.out, ← hqe.out]; simp [ents]⟩
      clear hk6 hn6 ho6 ho5 hq5 r5 hone hN K5 hql hqe hsn
      go_wp2_with fail
      go_roundw
      case rel => first | exact ⟨k + 1, qs ++ [(e, vr)], by omega, by go_num, hql', hqe', ho6', hq6, hK6, hN6, hNq'⟩ | ((repeat apply Exists.intro); exact ⟨⟨k + 1, qs ++ [(e, vr)], by omega, by go_num, hql', hqe', ho6', hq6, hK6, hN6, hNq'⟩, rfl⟩)
      case measure => simp [intOf]; omega
    · obtain rfl : k = n := by omega
      have hfin : Hd (ents qs = ents ps) := ⟨by rw [hqe.out, List.take_of_length_le (by rw [ents_length, hn'.out]; exact Nat.le_refl _)]⟩
      have hoF : Hd (wr.ownsRow 0 47 35 u3 qs.length (flatE qs)) := ⟨by rw [hql.out]; exact ho.out⟩
      clear hlt hk ho hqe
      go_wp2_with fail
      go_ret
      exact ⟨_, qs, rfl, hfin.out, hoF.out, hq.out, hK.out, hN.out, hNq.out⟩
end Go.Proofs.YtknbkhmpnanegaaDoor
