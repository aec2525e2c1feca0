/- electionlaw23.BoardPost (printed by gen_bpost.py). -/
import Derived.Test.YtknbkhmpnanegaaDoorBE
import Derived.Test.YtknbkhmpnanegaaDoorBM
import Derived.Test.YtknbkhmpnanegaaDoorBA
namespace Go.Proofs.YtknbkhmpnanegaaDoor
open Go.RowKit Go.Mk Go.Sha Go.Brd
def lastE (es : List Ent) : List UInt8 := match es.getLast? with | none => Z32l | some e => hashE e
theorem lastE_snoc (es : List Ent) (e : Ent) : lastE (es ++ [e]) = hashE e := by simp [lastE]
theorem prevOf_eq (ps : List (Ent × Value)) : prevOf ps = lastE (ents ps) := by
  unfold prevOf lastE ents
  rw [List.getLast?_map]
  cases ps.getLast? <;> rfl
theorem nxt_eq (ps : List (Ent × Value)) (k : Int) (xs : List UInt8) : nxt ps k xs = ⟨((ents ps).length : Int), k, xs, lastE (ents ps)⟩ := by
  unfold nxt; rw [prevOf_eq, ents_length]
theorem chk_snoc (es : List Ent) : ∀ (p : List UInt8) (i : Nat) (e : Ent), chk p i es = i + es.length → e.number = ((i + es.length : Nat) : Int) → poss e.kind = true → e.prev = (match es.getLast? with | none => p | some x => hashE x) → chk p i (es ++ [e]) = i + es.length + 1 := by
  induction es with
  | nil => intro p i e _ h1 h2 h3; simp only [List.nil_append, chk]; rw [if_pos ⟨by simpa using h1, h2, by simpa using h3⟩]; simp
  | cons x es ih =>
    intro p i e h0 h1 h2 h3
    have hle : ∀ (l : List Ent) (q : List UInt8) (j : Nat), chk q j l ≤ j + l.length := by
      intro l
      induction l with
      | nil => intro q j; simp [chk]
      | cons y l ihl =>
        intro q j
        simp only [chk]
        split
        · have := ihl (hashE y) (j + 1); simp only [List.length_cons]; omega
        · simp
    simp only [chk] at h0
    split at h0
    · rename_i hx
      rw [List.cons_append]
      simp only [chk]
      rw [if_pos hx]
      have h0' : chk (hashE x) (i + 1) es = i + 1 + es.length := by rw [h0, List.length_cons]; omega
      have := ih (hashE x) (i + 1) e h0' (by rw [h1, List.length_cons]; congr 1; omega) h2 (by
        rw [h3]
        cases es with
        | nil => rfl
        | cons y es =>
          obtain ⟨z, hz⟩ : ∃ z, (y :: es).getLast? = some z := ⟨_, List.getLast?_eq_some_getLast (by simp)⟩
          rw [List.getLast?_cons_cons, hz])
      rw [this, List.length_cons]; omega
    · simp only [List.length_cons] at h0; omega
theorem chk_add (es : List Ent) (k : Int) (xs : List UInt8) (h : chk Z32l 0 es = es.length) (hp : poss k = true) : chk Z32l 0 (es ++ [(⟨(es.length : Int), k, xs, lastE es⟩ : Ent)]) = (es ++ [(⟨(es.length : Int), k, xs, lastE es⟩ : Ent)]).length := by
  have := chk_snoc es Z32l 0 ⟨(es.length : Int), k, xs, lastE es⟩ (by rw [h]; omega) (by simp) hp rfl
  rw [this]; simp
set_option maxRecDepth 100000 in
theorem lew {ops : Array Oper} {rest : List Oper} {o : Oper} {a : Act} {w : World} {Q : Exit → Act → World → Prop} (hw : Region.wanted o (yielded ops a.tmps) = true) (x : Operand) (ho : o.op = .load 47 x) (g : Nat) (hx : a.eval x = .pointer (some ⟨g, 0, none⟩)) (e : Ent) (vb : Value) (hb : w.heap[g]? = some (.cells (entC e vb).toArray 47 (0, 0))) {w0 : World} (hE : OkE w0 e vb)
    (h : wpList Tryd.prog ops Q rest (a.put o.dst (Ev e vb)) w) : wpList Tryd.prog ops Q (o :: rest) a w :=
  wpList_load_row_want hw 47 x ho g hx 47 _ _ _ hb Tryd.underlying47 rfl (infE hE) h
set_option maxRecDepth 100000 in
theorem bzw {ops : Array Oper} {rest : List Oper} {o : Oper} {a : Act} {w : World} {Q : Exit → Act → World → Prop} (hw : Region.wanted o (yielded ops a.tmps) = true) (ho : o.op = .build 47 #[])
    (h : wpList Tryd.prog ops Q rest (a.put o.dst (Ev EZ (.slice none 0 0))) w) : wpList Tryd.prog ops Q (o :: rest) a w := by
  have e : (Tryd.prog.built 47 []).getD #[] = ZE := by kernel_rfl
  refine BigFrame.wpList_want hw fun _ hK => wp_build 47 #[] ho (by kernel_rfl) (hK _ _ ?_)
  simp only [List.map_toArray, List.map_nil] at *
  rw [show (Tryd.prog.built 47 [].toArray.toList).getD #[] = ZE from e]
  exact h
theorem be1w {ops : Array Oper} {rest : List Oper} {oo : Oper} {a : Act} {w : World} {Q : Exit → Act → World → Prop} (hw : Region.wanted oo (yielded ops a.tmps) = true) (x : Operand) (ho : oo.op = .buildSlice 42 1 #[(0, x)]) (e : Ent) (vb : Value) (hx : a.eval x = Ev e vb) {w0 : World} (hE : OkE w0 e vb)
    (h : ∀ w', Kept no w w' → Rd w' 35 (.slice (some ⟨w.heap.size, 0, none⟩) 1 1) 1 (entC e vb) → wpList Tryd.prog ops Q rest (a.put oo.dst (.slice (some ⟨w.heap.size, 0, none⟩) 1 1)) w') : wpList Tryd.prog ops Q (oo :: rest) a w := by
  obtain ⟨ie, hi, hz, hs⟩ : ∃ ie, Tryd.prog.info? 47 = some ie ∧ ie.zero = some (.agg ZE) ∧ ie.size = 35 := by
    have h := infEz
    cases hi : Tryd.prog.info? 47 with
    | none => rw [hi] at h; cases h
    | some ie => rw [hi] at h; simp at h; exact ⟨ie, rfl, h.1, h.2⟩
  refine BigFrame.wpList_want hw fun _ hK => wp_buildSlice 42 47 1 _ ho (entC e vb).toArray ie (.agg ZE) Tryd.underlying42 hi hz (by rw [hs]; decide) (by rw [hs]; decide) (by rw [hs, two_parts1]; show Instr.fill _ _ [(0, a.eval x)] = _; rw [hx]; exact fillE hE) (hK _ _ (h _ ((Kept.refl no w).alloc _) (Rd.block (heap_alloc_new _ _) (entC_length hE.1) (by decide))))
theorem RdE.one1 {w : World} {v : Value} {e : Ent} {vb : Value} (h : OkE w e vb) (hr : Rd w 35 v 1 (entC e vb)) : RdE w v [(e, vb)] :=
  ⟨fun p hp => by obtain rfl : p = (e, vb) := by simpa using hp
                  exact h, by simpa using hr⟩
theorem Mkd.rdq {w : World} {v : Value} {qs : List (Ent × Value)} (h : Mkd w v qs) : RdE w v qs := h.rd
/-- A block of entries and the board's block, its row and its bodies lie apart. -/
theorem Bd.keptL {w w' : World} {g : Nat} {v l : Value} {ps : List (Ent × Value)} {n : Nat} {L : List Value} (h : Bd w g v ps) (ho : w.ownsRow 0 47 35 l n L) (hd : ∀ j, l.ownBlock = some j → v.ownBlock = some j → False) (k : Kept (ob l) w w') : Bd w' g v ps := by
  have hl : ∀ j, l.ownBlock = some j → ∃ c, w.heap[j]? = some (.cells c 47 (0, 0)) := fun j hj => by
    obtain ⟨_, ⟨rfl, _⟩ | ⟨q, _, cur, rfl, _, hq, _⟩⟩ := ho
    · cases hj
    · have : q = j := by simpa [Value.ownBlock] using hj
      subst this; exact ⟨_, hq⟩
  refine ⟨(k.block g (lt_of_heap h.at_) fun e => ?_).trans h.at_, k.ownsRow h.own fun j hj e => hd j e hj, fun p hp => (h.all p hp).kept k fun j hj e => ?_⟩
  · obtain ⟨c, hc⟩ := hl g e
    rw [h.at_] at hc
    simp only [Option.some.injEq, Obj.cells.injEq] at hc
    exact absurd hc.2.1 (by decide)
  · obtain ⟨c, hc⟩ := hl j e
    exact (h.all p hp).ne hc (by decide) j hj rfl
set_option maxRecDepth 100000 in
set_option maxHeartbeats 16000000 in
theorem boardpost_any (v : Value) (ns : List (Int × List UInt8 × Value)) (w : World) (hn : ns.length ≤ 9223372036854775807) (hr : RdN w v ns) (hT : Tab w) (hTR : TabR w) :
    Calls Tryd.prog 5 #[v] w fun ed w' => ed = .returned (.bool true) ∧ Kept no w w' := by
  obtain ⟨ao, cap, rfl⟩ := Rd.shapeZ hr.2
  obtain ⟨n, hn'⟩ : ∃ n, ns.length = n := ⟨_, rfl⟩
  rw [hn'] at hr hn ⊢
  replace hr := hid hr
  replace hn' := hid hn'
  replace hT := hid hT
  replace hTR := hid hTR
  obtain ⟨g, hgw, HNW⟩ : ∃ g, w.heap.size ≤ g ∧ Calls Tryd.prog 26 #[] w fun ed w' => ed = .returned (.pointer (some ⟨g, 0, none⟩)) ∧ Bd w' g (.slice none 0 0) [] ∧ Kept no w w' := ⟨_, Nat.le_refl _, new_any w⟩
  replace hgw := hid hgw
  replace HNW := hid HNW
  go_enter Tryd.func5, Tryd.ntmps5
  go_wp2_with fail
  refine HNW.out.mono ?_
  rintro ed w1 ⟨rfl, hB, k1⟩
  clear HNW
  replace hB := hid hB
  replace k1 := hid k1
  go_wp2_with fail
  go_loopw [4, 5] (fun l i wr => ∃ (k q : Nat) (al : Option Addr) (cl : Nat) (vb : Value) (qs ps : List (Ent × Value)), k ≤ n ∧ k ≤ 12 ∧ q ≤ k ∧ i = .int .i64 (k : Int) ∧ l = .slice al q cl ∧ Hd (q = qs.length) ∧ Hd (ents ps = ents qs) ∧ Hd (chk Z32l 0 (ents qs) = (ents qs).length) ∧ Hd (Mkd wr (.slice al q cl) qs) ∧ Hd (Bd wr g vb ps) ∧ Hd (∀ j, (Value.slice al q cl).ownBlock = some j → vb.ownBlock = some j → False) ∧ Hd (Kept no w wr) ∧ Hd (New w (.slice al q cl)) ∧ Hd (New w vb)) (fun _ i _ => n - (intOf i).toNat)
  case atStart => exact ⟨0, 0, none, 0, .slice none 0 0, [], [], by omega, by omega, by omega, rfl, rfl, ⟨rfl⟩, ⟨rfl⟩, ⟨rfl⟩, ⟨by decide, World.ownsRow_nil _ _ _ _, fun q hq => by cases hq⟩, hB, ⟨fun j h => by cases h⟩, k1, ⟨.inl rfl⟩, ⟨.inl rfl⟩⟩
  case round =>
    clear hB k1
    obtain ⟨k, q, al, cl, vB, qs, ps, hk, hk12, hqk, rfl, rfl, hql, hpq, hch, hM, hB, hdis, hK, hN, hNB⟩ := hrel
    by_cases hlt : k < n
    · have hk1 : (k : Int) < (n : Int) := by omega
      have hk0 : (0 : Int) ≤ (k : Int) := by omega
      have hkw : IntKind.i64.wrap ((k : Int) + 1) = (k : Int) + 1 := IntWalk.i64_in _ (by omega)
      by_cases hkl : k < 12
      · have hkl1 : (k : Int) < 12 := by omega
        obtain ⟨b, o, rfl, c0, c1⟩ := hr.out.at k (by rw [hn'.out]; exact hlt)
        have hnb := hr.out.1 (ns[k]'(by rw [hn'.out]; exact hlt)) (List.getElem_mem _)
        generalize (ns[k]'(by rw [hn'.out]; exact hlt)) = nt at c0 c1 hnb
        obtain ⟨K, body, vb⟩ := nt
        simp only at c0 c1 hnb
        obtain ⟨hbl, hbr⟩ := hnb
        obtain ⟨ab, cb, rfl⟩ := Rd.shapeZ hbr
        have hr20 := Rd.cut hbr 20
        have hcb : body.length ≤ cb := by obtain ⟨_, _, _, e, h1, _⟩ := hbr; cases e; exact h1
        obtain ⟨nb, hnb'⟩ : ∃ z, body.length = z := ⟨_, rfl⟩
        rw [hnb'] at hr20 hbl hcb c1
        have qb1 : min (nb : Int) 20 = ((min nb 20 : Nat) : Int) := by omega
        have qb2 : (if 20 < (nb : Int) then (20 : Int) else (nb : Int)) = ((min nb 20 : Nat) : Int) := by split <;> omega
        have qb3 : ((min nb 20 : Nat) : Int) ≤ (cb : Int) := by omega
        have qb4 : (0 : Int) ≤ ((min nb 20 : Nat) : Int) := by omega
        have hxl : Hd ((body.take 20).length ≤ 1000) := ⟨by rw [List.length_take]; omega⟩
        generalize min nb 20 = qb at hr20 qb1 qb2 qb3 qb4
        generalize body.take 20 = xs at hr20 hxl
        replace hr20 := hid hr20
        replace c0 := hid c0
        replace c1 := hid c1
        clear hbr hbl hnb' hcb
        go_upto_region 6 with fail
        refine region_flow (S := no) (Sl := (fun _ => no)) [Is (.slice (some ⟨b, o, none⟩) n cap), Is (.int .i64 (k : Int)), Is (.pointer (some ⟨b, o + k * 2, none⟩)), Is (.pointer (some ⟨b, o + k * 2 + 1, none⟩)), Is (.slice ab nb cb), Is (.slice (some ⟨b, o, none⟩) n cap), Is (.int .i64 (k : Int)), Is (.pointer (some ⟨b, o + k * 2, none⟩)), Is (.pointer (some ⟨b, o + k * 2 + 1, none⟩)), Is (.slice ab nb cb), Is (.int .i64 (nb : Int)), Is (.int .i64 (qb : Int)), Is (.slice ab qb cb), Is (.slice ab qb cb)] [] (fun _ _ h => h) _ (by kernel_rfl) (by kernel_rfl) (by kernel_rfl) (by kernel_rfl) (fun x => by simp only [puts, Act.put, List.map_cons, List.map_nil, Nat.zero_add, Nat.reduceAdd, List.setIfInBounds_toArray, List.set_cons_zero, List.set_cons_succ]; exact rfl) ?_ ?_
        · skip
          refine Steps.cons (fun x wf Kk hq hdep hold => ?_) ?_
          · try dsimp only
            clear hq hdep hold
            rw [if_pos (by rfl)]
            refine OpY.val (v := (.slice (some ⟨b, o, none⟩) n cap)) ?_ ⟨Kept.refl _ _, rfl⟩
            first | rfl | go_simp
          refine Steps.cons (fun x wf Kk hq hdep hold => ?_) ?_
          · try dsimp only
            clear hq hdep hold
            rw [if_pos (by rfl)]
            refine OpY.val (v := (.int .i64 (k : Int))) ?_ ⟨Kept.refl _ _, rfl⟩
            first | rfl | go_simp
          refine Steps.cons (fun x wf Kk hq hdep hold => ?_) ?_
          · try dsimp only
            have h0 : x 0 = (.slice (some ⟨b, o, none⟩) n cap) := hdep 0 (by kernel_rfl)
            have h1 : x 1 = (.int .i64 (k : Int)) := hdep 1 (by kernel_rfl)
            clear hq hdep hold
            simp only [h0, h1]
            clear h0 h1
            rw [if_pos (by rfl)]
            refine OpY.val (v := (.pointer (some ⟨b, o + k * 2, none⟩))) ?_ ⟨Kept.refl _ _, rfl⟩
            first | rfl | go_simp
          refine Steps.cons (fun x wf Kk hq hdep hold => ?_) ?_
          · try dsimp only
            have h2 : x 2 = (.pointer (some ⟨b, o + k * 2, none⟩)) := hdep 2 (by kernel_rfl)
            clear hq hdep hold
            simp only [h2]
            clear h2
            rw [if_pos (by rfl)]
            refine OpY.val (v := (.pointer (some ⟨b, o + k * 2 + 1, none⟩))) ?_ ⟨Kept.refl _ _, rfl⟩
            first | rfl | go_simp
          refine Steps.cons (fun x wf Kk hq hdep hold => ?_) ?_
          · try dsimp only
            have h3 : x 3 = (.pointer (some ⟨b, o + k * 2 + 1, none⟩)) := hdep 3 (by kernel_rfl)
            clear hq hdep hold
            simp only [h3]
            clear h3
            have cv := (hK.out.trans' Kk.undrew).cell c1.out id
            rw [if_pos (by rfl)]
            refine OpY.val (v := (.slice ab nb cb)) ?_ ⟨Kept.refl _ _, rfl⟩
            first | rfl | go_simp
          refine Steps.cons (fun x wf Kk hq hdep hold => ?_) ?_
          · try dsimp only
            clear hq hdep hold
            rw [if_pos (by rfl)]
            refine OpY.val (v := (.slice (some ⟨b, o, none⟩) n cap)) ?_ ⟨Kept.refl _ _, rfl⟩
            first | rfl | go_simp
          refine Steps.cons (fun x wf Kk hq hdep hold => ?_) ?_
          · try dsimp only
            clear hq hdep hold
            rw [if_pos (by rfl)]
            refine OpY.val (v := (.int .i64 (k : Int))) ?_ ⟨Kept.refl _ _, rfl⟩
            first | rfl | go_simp
          refine Steps.cons (fun x wf Kk hq hdep hold => ?_) ?_
          · try dsimp only
            have h5 : x 5 = (.slice (some ⟨b, o, none⟩) n cap) := hdep 5 (by kernel_rfl)
            have h6 : x 6 = (.int .i64 (k : Int)) := hdep 6 (by kernel_rfl)
            clear hq hdep hold
            simp only [h5, h6]
            clear h5 h6
            rw [if_pos (by rfl)]
            refine OpY.val (v := (.pointer (some ⟨b, o + k * 2, none⟩))) ?_ ⟨Kept.refl _ _, rfl⟩
            first | rfl | go_simp
          refine Steps.cons (fun x wf Kk hq hdep hold => ?_) ?_
          · try dsimp only
            have h7 : x 7 = (.pointer (some ⟨b, o + k * 2, none⟩)) := hdep 7 (by kernel_rfl)
            clear hq hdep hold
            simp only [h7]
            clear h7
            rw [if_pos (by rfl)]
            refine OpY.val (v := (.pointer (some ⟨b, o + k * 2 + 1, none⟩))) ?_ ⟨Kept.refl _ _, rfl⟩
            first | rfl | go_simp
          refine Steps.cons (fun x wf Kk hq hdep hold => ?_) ?_
          · try dsimp only
            have h8 : x 8 = (.pointer (some ⟨b, o + k * 2 + 1, none⟩)) := hdep 8 (by kernel_rfl)
            clear hq hdep hold
            simp only [h8]
            clear h8
            have cv := (hK.out.trans' Kk.undrew).cell c1.out id
            rw [if_pos (by rfl)]
            refine OpY.val (v := (.slice ab nb cb)) ?_ ⟨Kept.refl _ _, rfl⟩
            first | rfl | go_simp
          refine Steps.cons (fun x wf Kk hq hdep hold => ?_) ?_
          · try dsimp only
            have h9 : x 9 = (.slice ab nb cb) := hdep 9 (by kernel_rfl)
            clear hq hdep hold
            simp only [h9]
            clear h9
            rw [if_pos (by rfl)]
            refine OpY.val (v := (.int .i64 (nb : Int))) ?_ ⟨Kept.refl _ _, rfl⟩
            first | rfl | go_simp
          refine Steps.cons (fun x wf Kk hq hdep hold => ?_) ?_
          · try dsimp only
            have h10 : x 10 = (.int .i64 (nb : Int)) := hdep 10 (by kernel_rfl)
            clear hq hdep hold
            simp only [h10]
            clear h10
            rw [if_pos (by rfl)]
            refine OpY.val (v := (.int .i64 (qb : Int))) ?_ ⟨Kept.refl _ _, rfl⟩
            first | rfl | go_simp
          refine Steps.cons (fun x wf Kk hq hdep hold => ?_) ?_
          · try dsimp only
            have h4 : x 4 = (.slice ab nb cb) := hdep 4 (by kernel_rfl)
            have h11 : x 11 = (.int .i64 (qb : Int)) := hdep 11 (by kernel_rfl)
            clear hq hdep hold
            simp only [h4, h11]
            clear h4 h11
            rw [if_pos (by rfl)]
            refine OpY.val (v := (.slice ab qb cb)) ?_ ⟨Kept.refl _ _, rfl⟩
            first | rfl | go_simp
          refine Steps.cons (fun x wf Kk hq hdep hold => ?_) ?_
          · try dsimp only
            have h12 : x 12 = (.slice ab qb cb) := hdep 12 (by kernel_rfl)
            clear hq hdep hold
            simp only [h12]
            clear h12
            rw [if_pos (by rfl)]
            refine OpY.val (v := (.slice ab qb cb)) ?_ ⟨Kept.refl _ _, rfl⟩
            first | rfl | go_simp
          exact Steps.nil _
        · intro x wf Kk hv
          try dsimp only
          have h0 : x 0 = (.slice (some ⟨b, o, none⟩) n cap) := hv 0 (by kernel_rfl)
          have h1 : x 1 = (.int .i64 (k : Int)) := hv 1 (by kernel_rfl)
          have h2 : x 2 = (.pointer (some ⟨b, o + k * 2, none⟩)) := hv 2 (by kernel_rfl)
          have h3 : x 3 = (.pointer (some ⟨b, o + k * 2 + 1, none⟩)) := hv 3 (by kernel_rfl)
          have h4 : x 4 = (.slice ab nb cb) := hv 4 (by kernel_rfl)
          have h5 : x 5 = (.slice (some ⟨b, o, none⟩) n cap) := hv 5 (by kernel_rfl)
          have h6 : x 6 = (.int .i64 (k : Int)) := hv 6 (by kernel_rfl)
          have h7 : x 7 = (.pointer (some ⟨b, o + k * 2, none⟩)) := hv 7 (by kernel_rfl)
          have h8 : x 8 = (.pointer (some ⟨b, o + k * 2 + 1, none⟩)) := hv 8 (by kernel_rfl)
          have h9 : x 9 = (.slice ab nb cb) := hv 9 (by kernel_rfl)
          have h10 : x 10 = (.int .i64 (nb : Int)) := hv 10 (by kernel_rfl)
          have h11 : x 11 = (.int .i64 (qb : Int)) := hv 11 (by kernel_rfl)
          have h12 : x 12 = (.slice ab qb cb) := hv 12 (by kernel_rfl)
          have h13 : x 13 = (.slice ab qb cb) := hv 13 (by kernel_rfl)
          clear hv
          simp only [h0, h1, h2, h3, h4, h5, h6, h7, h8, h9, h10, h11, h12, h13]
          clear h0 h1 h2 h3 h4 h5 h6 h7 h8 h9 h10 h11 h12 h13
          have K6 := hid Kk.undrew
          have KK6 := hid (hK.out.trans' K6.out)
          have hB6 := hid (hB.out.kept K6.out)
          have hM6 := hid (hM.out.keptNo K6.out)
          have c06 := KK6.out.cell c0.out id
          have hr6 := hid (hr20.out.keptNo KK6.out)
          have hsz6 := hid (Nat.le_trans hK.out.size K6.out.size)
          obtain ⟨w6, rfl⟩ : ∃ w6 : World, w6 = wf := ⟨_, rfl⟩
          clear Kk K6 hB hM c1
          have hqx : qb = xs.length := by obtain ⟨_, _, _, e, _⟩ := hr6.out; cases e; rfl
          replace hqx := hid hqx
          clear qb1 qb2 qb3 qb4
          have hok : Hd (∀ p : Bool, poss K = p → (p = true ↔ 1 ≤ K ∧ K ≤ 10)) := ⟨fun p h => by rw [← h]; simp [poss]⟩
          cases hps : poss K with
          | false =>
            have hrg : K < 1 ∨ 10 < K := by
              have := (hok.out _ hps)
              simp at this; omega
            have HP := hid (post_no g K (.slice ab qb cb) w6 hps)
            clear hps hok
            go_wp2_with fail
            refine HP.out.mono ?_
            rintro ed w7 ⟨rfl, k7⟩
            have hok7 := hid (EZ_ok w)
            have hN5 := hid (heap_alloc_new w7 (.cells ZE 47))
            obtain ⟨w8, hw8, g8, k8⟩ := ev_block w7 (entC EZ (.slice none 0 0))
            have hZs := hid ZE_size
            unfold ZE at hN5 hw8 hZs
            rw [show (entC ⟨0, 0, [], Z32l⟩ (.slice none 0 0)).toArray = _ from ZE_eq.symm] at hN5 hw8 hZs
            have K8 := hid (k7.trans' k8)
            replace hw8 := hid hw8
            replace g8 := hid g8
            have c08 := K8.out.cell c06 id
            clear HP c06 k8
            go_upto_region 8 with (with_reducible refine se rfl _ _ rfl w7.heap.size rfl EZ (.slice none 0 0) rfl _ hN5.out hZs.out hok7.out ?_; rw [← hw8.out])
            clear hN5 hw8 hZs
            obtain ⟨KK8, hKK8⟩ : ∃ p : Prop, p = Kept no w w8 := ⟨_, rfl⟩
            have KW := hid (KK6.out.trans' K8.out)
            have hB8 := hid (hB6.out.kept K8.out)
            have hM8 := hid (hM6.out.keptNo K8.out)
            clear hKK8 KK8 hB6 hM6 KK6
            replace k7 := hid k7
            have FIN : ∀ (W1 : World), Kept no w8 W1 → True := fun _ _ => trivial
            rcases hrg with hrg | hrg
            · go_upto_region 9 with fail
              clear c08
              go_wp2_with (first | (with_reducible refine lew rfl _ rfl w7.heap.size rfl EZ (.slice none 0 0) g8.out hok7.out ?_) | (refine be1w rfl _ rfl EZ (.slice none 0 0) rfl hok7.out ?_))
              intro wa ka ra
              replace ra := hid ra
              replace ka := hid ka
              go_wp2_with (first | (refine bzw rfl rfl ?_) | (refine be1w rfl _ rfl EZ (.slice none 0 0) rfl hok7.out ?_))
              intro wb kb rb
              have HEQ := hid (refeq_any _ _ [(EZ, .slice none 0 0)] [(EZ, .slice none 0 0)] wb (by decide) (RdE.one1 (EZ_ok wb) (ra.out.keptNo kb)) (RdE.one1 (EZ_ok wb) rb) rfl)
              have Kb := hid (ka.out.trans' kb)
              clear ra rb kb ka
              go_wp2_with fail
              refine HEQ.out.mono ?_
              rintro ed wc ⟨rfl, kc⟩
              have KF := hid (KW.out.trans' (Kb.out.trans' kc))
              have hBF := hid (hB8.out.kept (Kb.out.trans' kc))
              have hMF := hid (hM8.out.keptNo (Kb.out.trans' kc))
              clear kc HEQ Kb hB8 hM8 KW
              go_wp2_with fail
              go_roundw
              case rel => first | exact ⟨k + 1, q, al, cl, vB, qs, ps, by omega, by omega, by omega, by go_num, rfl, hql, hpq, hch, hMF, hBF, hdis, KF, hN, hNB⟩ | ((repeat apply Exists.intro); exact ⟨⟨k + 1, q, al, cl, vB, qs, ps, by omega, by omega, by omega, by go_num, rfl, hql, hpq, hch, hMF, hBF, hdis, KF, hN, hNB⟩, rfl⟩)
              case measure => simp [intOf]; omega
            · have hrg1 : ¬ K < 1 := by omega
              go_upto_region 9 with fail
              clear c08
              go_wp2_with (first | (with_reducible refine lew rfl _ rfl w7.heap.size rfl EZ (.slice none 0 0) g8.out hok7.out ?_) | (refine be1w rfl _ rfl EZ (.slice none 0 0) rfl hok7.out ?_))
              intro wa ka ra
              replace ra := hid ra
              replace ka := hid ka
              go_wp2_with (first | (refine bzw rfl rfl ?_) | (refine be1w rfl _ rfl EZ (.slice none 0 0) rfl hok7.out ?_))
              intro wb kb rb
              have HEQ := hid (refeq_any _ _ [(EZ, .slice none 0 0)] [(EZ, .slice none 0 0)] wb (by decide) (RdE.one1 (EZ_ok wb) (ra.out.keptNo kb)) (RdE.one1 (EZ_ok wb) rb) rfl)
              have Kb := hid (ka.out.trans' kb)
              clear ra rb kb ka
              go_wp2_with fail
              refine HEQ.out.mono ?_
              rintro ed wc ⟨rfl, kc⟩
              have KF := hid (KW.out.trans' (Kb.out.trans' kc))
              have hBF := hid (hB8.out.kept (Kb.out.trans' kc))
              have hMF := hid (hM8.out.keptNo (Kb.out.trans' kc))
              clear kc HEQ Kb hB8 hM8 KW
              go_wp2_with fail
              go_roundw
              case rel => first | exact ⟨k + 1, q, al, cl, vB, qs, ps, by omega, by omega, by omega, by go_num, rfl, hql, hpq, hch, hMF, hBF, hdis, KF, hN, hNB⟩ | ((repeat apply Exists.intro); exact ⟨⟨k + 1, q, al, cl, vB, qs, ps, by omega, by omega, by omega, by go_num, rfl, hql, hpq, hch, hMF, hBF, hdis, KF, hN, hNB⟩, rfl⟩)
              case measure => simp [intOf]; omega
          | true =>
            obtain ⟨hp1, hp2⟩ : 1 ≤ K ∧ K ≤ 10 := (hok.out _ hps).1 rfl
            have hlen : Hd (ps.length ≤ 100 ∧ (ents ps).length = q) := ⟨by have h := congrArg List.length hpq.out; rw [ents_length, ents_length] at h; rw [ents_length, h, ← hql.out]; omega⟩
            have HP := hid (post_any g vB ps K (.slice ab qb cb) xs w6 hB6.out hps hlen.out.1 hxl.out hr6.out (hT.out.kept KK6.out))
            have hnx : Hd (nxt ps K xs = ⟨(q : Int), K, xs, lastE (ents qs)⟩) := ⟨by rw [nxt_eq, hlen.out.2, hpq.out]⟩
            have hchn : Hd (chk Z32l 0 (ents qs ++ [(⟨(q : Int), K, xs, lastE (ents qs)⟩ : Ent)]) = (ents qs ++ [(⟨(q : Int), K, xs, lastE (ents qs)⟩ : Ent)]).length) := ⟨by have h := chk_add (ents qs) K xs hch.out hps; rw [show (ents qs).length = q from by rw [← hpq.out]; exact hlen.out.2] at h; exact h⟩
            clear hps hok
            go_wp2_with fail
            refine HP.out.mono ?_
            rintro ed w7 ⟨vB7, vc, vr, rfl, hB7, hE7, k7, hn7, hr7, _, hvc7⟩
            rw [hnx.out] at hB7 hE7 ⊢
            obtain ⟨EF, hEF⟩ : ∃ EF : Ent, (⟨(q : Int), K, xs, lastE (ents qs)⟩ : Ent) = EF := ⟨_, rfl⟩
            rw [hEF] at hB7 hE7 hchn ⊢
            have hM7 : Hd (Mkd w7 (.slice al q cl) qs) := ⟨hM6.out.1, k7.ownsRow hM6.out.2.1 (fun j hj h => by
              rcases h with h | h
              · obtain ⟨_, ⟨h0, _⟩ | ⟨p, _, _, h0, _, hp, _⟩⟩ := hM6.out.2.1
                · rw [h0] at hj; cases hj
                · rw [h0] at hj
                  have : p = j := by simpa [Value.ownBlock] using hj
                  subst this
                  have ha := hB6.out.at_
                  rw [← h, hp] at ha
                  simp only [Option.some.injEq, Obj.cells.injEq] at ha
                  exact absurd ha.2.1 (by decide)
              · exact hdis.out j hj h), fun p hp => (hM6.out.2.2 p hp).kept k7 fun j hj h => by
              rcases h with h | h
              · exact (hM6.out.2.2 p hp).ne hB6.out.at_ (by decide) j hj h
              · obtain ⟨_, ⟨h0, _⟩ | ⟨y, _, _, h0, _, hy, _⟩⟩ := hB6.out.own
                · rw [h0] at h; cases h
                · rw [h0] at h
                  have : y = j := by simpa [Value.ownBlock] using h
                  subst this
                  exact (hM6.out.2.2 p hp).ne hy (by decide) y hj rfl⟩
            have KK7 : Hd (Kept no w w7) := ⟨KK6.out.trans k7 fun j hj h => by
              rcases h with h | h
              · have := hgw.out; omega
              · have := hNB.out.fr (Nat.le_refl _) j h; omega⟩
            have hlt6 : Hd (∀ j, (Value.slice al q cl).ownBlock = some j → j < w6.heap.size) := ⟨fun j hj => by
              obtain ⟨_, ⟨h0, _⟩ | ⟨p, _, _, h0, _, hp, _⟩⟩ := hM6.out.2.1
              · rw [h0] at hj; cases hj
              · rw [h0] at hj
                have : p = j := by simpa [Value.ownBlock] using hj
                subst this
                exact lt_of_heap hp⟩
            have hdis7 : Hd (∀ j, (Value.slice al q cl).ownBlock = some j → vB7.ownBlock = some j → False) := ⟨fun j h1 h2 => by
              rcases hn7 with h | ⟨p, h, hp⟩
              · exact hdis.out j h1 (h.symm.trans h2)
              · have e : p = j := by have := h.symm.trans h2; simpa using this
                have := hlt6.out j h1; omega⟩
            have hNB7 := hid (hNB.out.step hn7 hsz6.out)
            have c07 := KK7.out.cell c0.out id
            have hx7 := hid (hr20.out.keptNo KK7.out)
            have hok7 := hid hE7.ok
            have hN5 := hid (heap_alloc_new w7 (.cells ZE 47))
            obtain ⟨w8, hw8, g8, k8⟩ := ev_block w7 (entC EF vr)
            have hZs := hid ZE_size
            unfold ZE at hN5 hw8 hZs
            rw [show (entC ⟨0, 0, [], Z32l⟩ (.slice none 0 0)).toArray = _ from ZE_eq.symm] at hN5 hw8 hZs
            replace hw8 := hid hw8
            replace g8 := hid g8
            have c08 := k8.cell c07 id
            have hB8 := hid (hB7.kept k8)
            have hM8 := hid (hM7.out.keptNo k8)
            have KK8 := hid (KK7.out.trans' k8)
            have hE8 := hid (hE7.keptNo k8)
            have hx8 := hid (hx7.out.keptNo k8)
            have hlt8 : Hd (∀ j, (Value.slice al q cl).ownBlock = some j → j < w7.heap.size) := ⟨fun j hj => Nat.lt_of_lt_of_le (hlt6.out j hj) k7.size⟩
            replace k8 := hid k8
            clear HP c06 hB7 hE7 hM7 k7 hn7 hr7 c07 KK7 hB6 hM6 KK6 hr6 hsz6 hdis hNB hlt6 hx7
            go_upto_region 8 with (with_reducible refine se rfl _ _ rfl w7.heap.size rfl EF vr rfl _ hN5.out hZs.out hok7.out ?_; rw [← hw8.out])
            clear hN5 hw8 hZs
            have hrg1 : ¬ K < 1 := by omega
            have hrg2 : ¬ 10 < K := by omega
            go_upto_region 11 with fail
            obtain ⟨wr2, rfl⟩ : ∃ wr2 : World, wr2 = w8 := ⟨_, rfl⟩
            replace c08 := hid c08
            refine region_flow (S := (fun j => wr2.heap.size ≤ j)) (Sl := (fun _ => (fun j => wr2.heap.size ≤ j))) [Is (.slice al q cl), Is (.int .i64 (q : Int)), Is (.slice (some ⟨b, o, none⟩) n cap), Is (.int .i64 (k : Int)), Is (.pointer (some ⟨b, o + k * 2, none⟩)), Is (.pointer (some ⟨b, o + k * 2, none⟩)), Is (.int .i64 K), Is (.slice ab qb cb), POwn xs wr2.heap.size, PEv 8 (⟨(q : Int), K, xs, Z32l⟩ : Ent) wr2.heap.size, PAl wr2.heap.size, PSx 10 (⟨(q : Int), K, xs, Z32l⟩ : Ent) wr2.heap.size] [11] (fun _ _ h => h) _ (by kernel_rfl) (by kernel_rfl) (by kernel_rfl) (by kernel_rfl) (fun x => by simp only [puts, Act.put, List.map_cons, List.map_nil, Nat.zero_add, Nat.reduceAdd, List.setIfInBounds_toArray, List.set_cons_zero, List.set_cons_succ]; exact rfl) ?_ ?_
            · skip
              refine Steps.cons (fun x wf Kk hq hdep hold => ?_) ?_
              · try dsimp only
                clear hq hdep hold
                rw [if_pos (by rfl)]
                refine OpY.val (v := (.slice al q cl)) ?_ ⟨Kept.refl _ _, rfl⟩
                first | rfl | go_simp
              refine Steps.cons (fun x wf Kk hq hdep hold => ?_) ?_
              · try dsimp only
                have h0 : x 0 = (.slice al q cl) := hdep 0 (by kernel_rfl)
                clear hq hdep hold
                simp only [h0]
                clear h0
                rw [if_pos (by rfl)]
                refine OpY.val (v := (.int .i64 (q : Int))) ?_ ⟨Kept.refl _ _, rfl⟩
                first | rfl | go_simp
              refine Steps.cons (fun x wf Kk hq hdep hold => ?_) ?_
              · try dsimp only
                clear hq hdep hold
                rw [if_pos (by rfl)]
                refine OpY.val (v := (.slice (some ⟨b, o, none⟩) n cap)) ?_ ⟨Kept.refl _ _, rfl⟩
                first | rfl | go_simp
              refine Steps.cons (fun x wf Kk hq hdep hold => ?_) ?_
              · try dsimp only
                clear hq hdep hold
                rw [if_pos (by rfl)]
                refine OpY.val (v := (.int .i64 (k : Int))) ?_ ⟨Kept.refl _ _, rfl⟩
                first | rfl | go_simp
              refine Steps.cons (fun x wf Kk hq hdep hold => ?_) ?_
              · try dsimp only
                have h2 : x 2 = (.slice (some ⟨b, o, none⟩) n cap) := hdep 2 (by kernel_rfl)
                have h3 : x 3 = (.int .i64 (k : Int)) := hdep 3 (by kernel_rfl)
                clear hq hdep hold
                simp only [h2, h3]
                clear h2 h3
                rw [if_pos (by rfl)]
                refine OpY.val (v := (.pointer (some ⟨b, o + k * 2, none⟩))) ?_ ⟨Kept.refl _ _, rfl⟩
                first | rfl | go_simp
              refine Steps.cons (fun x wf Kk hq hdep hold => ?_) ?_
              · try dsimp only
                have h4 : x 4 = (.pointer (some ⟨b, o + k * 2, none⟩)) := hdep 4 (by kernel_rfl)
                clear hq hdep hold
                simp only [h4]
                clear h4
                rw [if_pos (by rfl)]
                refine OpY.val (v := (.pointer (some ⟨b, o + k * 2, none⟩))) ?_ ⟨Kept.refl _ _, rfl⟩
                first | rfl | go_simp
              refine Steps.cons (fun x wf Kk hq hdep hold => ?_) ?_
              · try dsimp only
                have h5 : x 5 = (.pointer (some ⟨b, o + k * 2, none⟩)) := hdep 5 (by kernel_rfl)
                clear hq hdep hold
                simp only [h5]
                clear h5
                have cv := Kk.fresh.undrew.cell c08.out id
                rw [if_pos (by rfl)]
                refine OpY.val (v := (.int .i64 K)) ?_ ⟨Kept.refl _ _, rfl⟩
                first | rfl | go_simp
              refine Steps.cons (fun x wf Kk hq hdep hold => ?_) ?_
              · try dsimp only
                clear hq hdep hold
                rw [if_pos (by rfl)]
                refine OpY.val (v := (.slice ab qb cb)) ?_ ⟨Kept.refl _ _, rfl⟩
                first | rfl | go_simp
              refine Steps.cons (fun x wf Kk hq hdep hold => ?_) ?_
              · try dsimp only
                have h7 : x 7 = (.slice ab qb cb) := hdep 7 (by kernel_rfl)
                clear hq hdep hold
                simp only [h7]
                clear h7
                rw [if_pos (by rfl)]
                have hxr := hx8.out.keptNo Kk.fresh.undrew
                obtain ⟨hxn, _⟩ := id hxr
                refine OpY.append (.const (.slice none 0 0)) (.tmp 76) 43 _ rfl rfl 5 1 1 TBytes (.slice none 0 0) 0 [] rfl (World.ownsRow_nil _ _ _ _) (.slice ab qb cb) xs.length (xs.map B) rfl hxr (B_one _) ?c2 ?c3 ?_
                case c2 => have := hxl.out; unfold maxLen; omega
                case c3 => have := hxl.out; omega
                rintro v' w' h2 h3 h4 _
                exact ⟨h3.ob_nil, by simpa using h2, h4.fr (fun k h => by simp [Value.ownBlock] at h) Kk.size⟩
              refine Steps.cons (fun x wf Kk hq hdep hold => ?_) ?_
              · try dsimp only
                have h1 : x 1 = (.int .i64 (q : Int)) := hdep 1 (by kernel_rfl)
                have h6 : x 6 = (.int .i64 K) := hdep 6 (by kernel_rfl)
                have p8 : Pr.p (Sl := (fun _ => (fun j => wr2.heap.size ≤ j))) (POwn xs wr2.heap.size) (x 8) wf := hdep 8 (by kernel_rfl)
                clear hq hdep hold
                simp only [h1, h6]
                clear h1 h6
                rw [if_pos (by rfl)]
                have q7 := p8
                obtain ⟨_, a7, c7, e7, _⟩ := Rd.of_own p8.1
                rw [e7]
                refine OpY.val (v := Ev (⟨(q : Int), K, xs, Z32l⟩ : Ent) (.slice a7 xs.length c7)) (by kernel_rfl) ⟨Kept.refl _ _, (show Pr.r (PEv (Sl := (fun _ => (fun j => wr2.heap.size ≤ j))) 8 (⟨(q : Int), K, xs, Z32l⟩ : Ent) wr2.heap.size) (x 8) _ wf from ⟨by rw [e7], q7.1, q7.2⟩)⟩
              refine Steps.cons (fun x wf Kk hq hdep hold => ?_) ?_
              · try dsimp only
                clear hq hdep hold
                rw [if_pos (by rfl)]
                exact OpY.val (v := .pointer (some ⟨wf.heap.size, 0, none⟩)) (w' := wf.alloc (.cells ZE 47)) (by kernel_rfl) ⟨(Kept.refl _ _).alloc _, _, rfl, Kk.size, heap_alloc_new _ _⟩
              refine Steps.cons (fun x wf Kk hq hdep hold => ?_) ?_
              · try dsimp only
                have p10 : Pr.p (Sl := (fun _ => (fun j => wr2.heap.size ≤ j))) (PAl wr2.heap.size) (x 10) wf := hdep 10 (by kernel_rfl)
                have p9 : Pr.r (Sl := (fun _ => (fun j => wr2.heap.size ≤ j))) (PEv 8 (⟨(q : Int), K, xs, Z32l⟩ : Ent) wr2.heap.size) (x 8) (x 9) wf := hdep 9 (by kernel_rfl)
                clear hq hdep hold
                rw [if_pos (by rfl)]
                obtain ⟨g8, e9, hg8, hz8⟩ := p10
                obtain ⟨e8, o7, f7⟩ := p9
                have hE : OwE wf (⟨(q : Int), K, xs, Z32l⟩ : Ent) (x 8) := ⟨rfl, hxl.out, o7⟩
                rw [e9, e8]
                have hne := hE.ne hz8 (by decide)
                refine OpY.storeRow 47 (.tmp 9) (.tmp 78) rfl g8 (entC (⟨(q : Int), K, xs, Z32l⟩ : Ent) (x 8)).toArray rfl rfl 47 _ hz8 (infE hE.ok) (by rw [ZE_size, List.size_toArray, entC_length hE.1]) (all_oneCell_toArray hE.ok.one) ?_
                have ks := (Kept.refl (fun j => j = g8) wf).setRow (g := g8) (.inl rfl) (entC (⟨(q : Int), K, xs, Z32l⟩ : Ent) (x 8)).toArray
                refine ⟨ks.mono fun j _ h => by (have h : j = g8 := h); subst h; exact hg8, g8, x 8, e9, hg8, setRow_heap _ _ _ _ _ _ hz8, ks.ownsRow o7 hne, f7⟩
              exact Steps.nil _
            · intro x wf Kk hv
              try dsimp only
              have h0 : x 0 = (.slice al q cl) := hv 0 (by kernel_rfl)
              have h1 : x 1 = (.int .i64 (q : Int)) := hv 1 (by kernel_rfl)
              have h2 : x 2 = (.slice (some ⟨b, o, none⟩) n cap) := hv 2 (by kernel_rfl)
              have h3 : x 3 = (.int .i64 (k : Int)) := hv 3 (by kernel_rfl)
              have h4 : x 4 = (.pointer (some ⟨b, o + k * 2, none⟩)) := hv 4 (by kernel_rfl)
              have h5 : x 5 = (.pointer (some ⟨b, o + k * 2, none⟩)) := hv 5 (by kernel_rfl)
              have h6 : x 6 = (.int .i64 K) := hv 6 (by kernel_rfl)
              have h7 : x 7 = (.slice ab qb cb) := hv 7 (by kernel_rfl)
              have p11 : Pr.r (Sl := (fun _ => (fun j => wr2.heap.size ≤ j))) (PSx 10 (⟨(q : Int), K, xs, Z32l⟩ : Ent) wr2.heap.size) (x 10) (x 11) wf := hv 11 (by kernel_rfl)
              clear hv
              simp only [h0, h1, h2, h3, h4, h5, h6, h7]
              clear h0 h1 h2 h3 h4 h5 h6 h7
              obtain ⟨gy, u, e9, hgy, hz8, hu, hfu⟩ := p11
              rw [e9]
              have K3 := hid Kk.fresh.undrew
              replace hz8 := hid hz8
              replace hu := hid hu
              obtain ⟨w3, rfl⟩ : ∃ w3 : World, w3 = wf := ⟨_, rfl⟩
              replace hgy := hid hgy
              clear Kk hfu e9 c08
              generalize x 8 = x7
              generalize x 9 = x8
              have hqI : Hd ((q : Int) ≤ 12) := ⟨by omega⟩
              by_cases h0 : q = 0
              · subst h0
                have hEFe : Hd (EF = ⟨((0 : Nat) : Int), K, xs, Z32l⟩) := ⟨by
                  have hz : qs = [] := List.eq_nil_of_length_eq_zero hql.out.symm
                  rw [← hEF, hz]; rfl⟩
                go_upto_region 14 with fail
                have hE10 := hid (show OwE w3 (⟨((0 : Nat) : Int), K, xs, Z32l⟩ : Ent) u from ⟨rfl, hxl.out, hu.out⟩)
                have hok10 := hid hE10.out.ok
                have hone := hid hok10.out.one
                have hM3 := hM8.out.keptNo K3.out
                have hB3 := hid (hB8.out.kept K3.out)
                have hq3 := hid hM3.2.2
                have ho3 : Hd (w3.ownsRow 0 47 35 (.slice al 0 cl) 0 (flatE qs)) := ⟨by have := hM3.2.1; rw [← hql.out] at this; exact this⟩
                have Kw3 := hid (KK8.out.trans' K3.out)
                have g83 := hid (K3.out.blk g8.out)
                have hE83 := hid (hE8.out.keptNo K3.out)
                clear hM3 hu
                go_wp2_with (first | (with_reducible refine Go.Proofs.YtknbkhmpnanegaaDoor.le rfl _ rfl gy rfl (⟨((0 : Nat) : Int), K, xs, Z32l⟩ : Ent) u hz8.out hok10.out ?_) | (refine be1 rfl _ rfl (⟨((0 : Nat) : Int), K, xs, Z32l⟩ : Ent) u rfl hok10.out ?_))
                intro w5 k5 r5
                have K5 := hid (Kw3.out.trans' k5)
                have ho5 := hid (k5.ownsRow ho3.out fun _ _ => id)
                have hB5 := hid (hB3.out.kept k5)
                have g85 := hid (k5.blk g83.out)
                have hE85 := hid (hE83.out.keptNo k5)
                have hz5 := hid (k5.blk hz8.out)
                have hE105 := hid (hE10.out.keptNo k5)
                have hq5 : Hd (∀ p ∈ qs ++ [((⟨((0 : Nat) : Int), K, xs, Z32l⟩ : Ent), u)], OwE w5 p.1 p.2) := ⟨fun p h => by
                  rcases List.mem_append.1 h with h | h
                  · exact (hq3.out p h).keptNo k5
                  · obtain rfl : p = ((⟨((0 : Nat) : Int), K, xs, Z32l⟩ : Ent), u) := by simpa using h
                    exact hE10.out.keptNo k5⟩
                replace r5 := hid r5
                clear k5 ho3 hq3 Kw3 hz8 hB3 g83 hE83
                go_wp2_with (at_builtin; refine wpList_append _ rfl _ _ 42 rfl 47 35 72 TEnts _ _ _ rfl ho5.out _ _ _ rfl r5.out hone.out ?a1 ?a2 ?_)
                case a1 => have := hqI.out; unfold maxLen; omega
                case a2 => have := hqI.out; omega
                intro v6 w6 ho6 hk6 hn6 _
                have hlb : ∀ j, ob (.slice al 0 cl) j → j < w7.heap.size := fun j hj => hlt8.out j hj
                have hg8n : ¬ ob (.slice al 0 cl) w7.heap.size := fun h => by have := hlb _ h; omega
                have hlt7 := lt_of_heap g8.out
                have hgyn : ¬ ob (.slice al 0 cl) gy := fun h => by have := hlb _ h; have := hgy.out; omega
                have hN6 := hid (hN.out.step hn6 K5.out.size)
                have hK6 := hid (hN.out.kept K5.out hk6)
                have hB6 := hid (hB5.out.keptL ho5.out hdis7.out hk6)
                have hEnt : ∀ j, ob (.slice al 0 cl) j → ∃ c, w5.heap[j]? = some (.cells c 47 (0, 0)) := fun j e => by
                  obtain ⟨_, ⟨h0, _⟩ | ⟨z, _, cz, h0, _, hz, _⟩⟩ := ho5.out
                  · rw [h0] at e; cases e
                  · rw [h0] at e
                    have : z = j := by simpa [ob, Value.ownBlock] using e
                    subst this
                    exact ⟨_, hz⟩
                have hq6 : Hd (∀ p ∈ qs ++ [((⟨((0 : Nat) : Int), K, xs, Z32l⟩ : Ent), u)], OwE w6 p.1 p.2) := ⟨fun p h => (hq5.out p h).kept hk6 fun j hj e => by
                  obtain ⟨c, hc⟩ := hEnt j e
                  exact (hq5.out p h).ne hc (by decide) j hj rfl⟩
                have g86 := hid ((hk6.block _ (lt_of_heap g85.out) hg8n).trans g85.out)
                have hz6 := hid ((hk6.block _ (lt_of_heap hz5.out) hgyn).trans hz5.out)
                have hE86 : Hd (OwE w6 EF vr) := ⟨hE85.out.kept hk6 fun j hj e => by
                  obtain ⟨c, hc⟩ := hEnt j e
                  exact hE85.out.ne hc (by decide) j hj rfl⟩
                have hE106 : Hd (OwE w6 (⟨((0 : Nat) : Int), K, xs, Z32l⟩ : Ent) u) := ⟨hE105.out.kept hk6 fun j hj e => by
                  obtain ⟨c, hc⟩ := hEnt j e
                  exact hE105.out.ne hc (by decide) j hj rfl⟩
                have hdis6 : Hd (∀ j, v6.ownBlock = some j → vB7.ownBlock = some j → False) := ⟨fun j h1 h2 => by
                  rcases hn6 with h | ⟨p, h, hp⟩
                  · exact hdis7.out j (h.symm.trans h1) h2
                  · have e : p = j := by have := h.symm.trans h1; simpa using this
                    obtain ⟨_, ⟨h0, _⟩ | ⟨z, _, cz, h0, _, hz, _⟩⟩ := hB5.out.own
                    · rw [h0] at h2; cases h2
                    · rw [h0] at h2
                      have : z = j := by simpa [Value.ownBlock] using h2
                      subst this
                      have := lt_of_heap hz; omega⟩
                have hql' : Hd (0 + 1 = (qs ++ [((⟨((0 : Nat) : Int), K, xs, Z32l⟩ : Ent), u)]).length) := ⟨by rw [List.length_append, ← hql.out]; rfl⟩
                have hM6 : Hd (Mkd w6 v6 (qs ++ [((⟨((0 : Nat) : Int), K, xs, Z32l⟩ : Ent), u)])) := ⟨by rw [← hql'.out]; have := hqI.out; omega, by rw [← hql'.out]; simpa [flatE] using ho6, hq6.out⟩
                obtain ⟨a6, c6, rfl⟩ : ∃ a c, v6 = .slice a (0 + 1) c := by obtain ⟨_, a, c, e, _⟩ := Rd.of_own ho6; exact ⟨a, c, e⟩
                have hpq' : Hd (ents (ps ++ [(EF, vc)]) = ents (qs ++ [((⟨((0 : Nat) : Int), K, xs, Z32l⟩ : Ent), u)])) := ⟨by
                  have h := hpq.out
                  simp only [ents, List.map_append, List.map_cons, List.map_nil] at h ⊢
                  rw [h, hEFe.out]⟩
                have hch' : Hd (chk Z32l 0 (ents (qs ++ [((⟨((0 : Nat) : Int), K, xs, Z32l⟩ : Ent), u)])) = (ents (qs ++ [((⟨((0 : Nat) : Int), K, xs, Z32l⟩ : Ent), u)])).length) := ⟨by
                  have h := hchn.out
                  rw [hEFe.out] at h
                  simpa [ents] using h⟩
                have hok86 := hid hE86.out.ok
                have hok106 := hid hE106.out.ok
                clear hk6 hn6 ho6 ho5 hq5 hq6 r5 hone hN K5 hql hM8 hE10 hok10 hB5 g85 hE85 hz5 hE105 hpq hch hchn hnx hlb hg8n hgyn hEnt hdis7
                go_wp2_with (first | (with_reducible refine lew rfl _ rfl w7.heap.size rfl EF vr g86.out hok86.out ?_) | (refine be1w rfl _ rfl EF vr rfl hok86.out ?_))
                intro wa ka ra
                have hza := hid (ka.blk hz6.out)
                replace ra := hid ra
                replace ka := hid ka
                go_wp2_with (first | (with_reducible refine lew rfl _ rfl gy rfl (⟨((0 : Nat) : Int), K, xs, Z32l⟩ : Ent) u hza.out hok106.out ?_) | (refine be1w rfl _ rfl (⟨((0 : Nat) : Int), K, xs, Z32l⟩ : Ent) u rfl hok106.out ?_))
                intro wb kb rb
                have HEQ := hid (refeq_any _ _ [(EF, vr)] [((⟨((0 : Nat) : Int), K, xs, Z32l⟩ : Ent), u)] wb (by simp) (RdE.one1 (hok86.out.kept (ka.out.trans' kb)) (ra.out.keptNo kb)) (RdE.one1 (hok106.out.kept (ka.out.trans' kb)) rb) (by simp only [ents, List.map_cons, List.map_nil]; rw [hEFe.out]))
                have Kb := hid (ka.out.trans' kb)
                clear ra rb kb ka
                go_wp2_with fail
                refine HEQ.out.mono ?_
                rintro ed wc ⟨rfl, kc⟩
                have KF := hid (hK6.out.trans' (Kb.out.trans' kc))
                have hBF := hid (hB6.out.kept (Kb.out.trans' kc))
                have hMF := hid (hM6.out.keptNo (Kb.out.trans' kc))
                clear kc HEQ Kb hB6 hM6 hK6 hE86 hE106 hza hz6 g86 hok86 hok106
                go_wp2_with fail
                go_roundw
                case rel => first | exact ⟨k + 1, 0 + 1, a6, c6, vB7, _, _, by omega, by omega, by omega, by go_num, rfl, hql', hpq', hch', hMF, hBF, hdis6, KF, hN6, hNB7⟩ | ((repeat apply Exists.intro); exact ⟨⟨k + 1, 0 + 1, a6, c6, vB7, _, _, by omega, by omega, by omega, by go_num, rfl, hql', hpq', hch', hMF, hBF, hdis6, KF, hN6, hNB7⟩, rfl⟩)
                case measure => simp [intOf]; omega
              · obtain ⟨q1, rfl⟩ : ∃ q1, q = q1 + 1 := ⟨q - 1, by omega⟩
                have z1 : ((q1 + 1 : Nat) : Int) - 1 = (q1 : Int) := by omega
                have z2 : (0 : Int) < ((q1 + 1 : Nat) : Int) := by omega
                have z3 : (q1 : Int) < ((q1 + 1 : Nat) : Int) := by omega
                have z4 : (0 : Int) ≤ (q1 : Int) := by omega
                obtain ⟨bl, ol, rfl, hlr⟩ := (hM8.out.keptNo K3.out).rd.at q1 (by rw [← hql.out]; omega)
                obtain ⟨lE, lv, hlast⟩ : ∃ lE lv, qs[q1]'(by rw [← hql.out]; omega) = (lE, lv) := ⟨_, _, rfl⟩
                rw [hlast] at hlr
                have hlo := hid ((hM8.out.keptNo K3.out).2.2 (lE, lv) (by rw [← hlast]; exact List.getElem_mem _)).ok
                have hEFe : Hd (EF = ⟨((q1 + 1 : Nat) : Int), K, xs, hashE lE⟩) := ⟨by
                  have h : (ents qs).getLast? = some lE := by
                    rw [ents, List.getLast?_map, List.getLast?_eq_getElem?, ← hql.out, Nat.add_sub_cancel, List.getElem?_eq_getElem (by rw [← hql.out]; omega), hlast]; rfl
                  rw [← hEF]; unfold lastE; rw [h]⟩
                replace hlr := hid hlr
                clear hlast
                go_upto_region 13 with fail
                go_wp2_with (with_reducible refine lem rfl _ rfl bl (ol + q1 * 35) rfl lE lv hlr.out hlo.out ?_)
                refine (refhash_any lE lv w3 hlo.out (hTR.out.kept (KK8.out.trans' K3.out))).mono ?_
                rintro ed w4 ⟨rfl, k4⟩
                have hh32 := hid (hashE_length lE)
                have hz4 := hid (k4.blk hz8.out)
                have hz32 : Hd ((⟨((q1 + 1 : Nat) : Int), K, xs, Z32l⟩ : Ent).prev.length = 32) := ⟨rfl⟩
                have hE4 : Hd (OwE w4 ⟨((q1 + 1 : Nat) : Int), K, xs, Z32l⟩ u) := ⟨OwE.keptNo ⟨rfl, hxl.out, hu.out⟩ k4⟩
                have K4 := hid (K3.out.trans' k4)
                clear k4 hz8 hu K3 hlr hlo
                go_wp2_with (refine spd rfl _ _ rfl gy rfl (hashE lE) rfl ⟨((q1 + 1 : Nat) : Int), K, xs, Z32l⟩ u hz4.out hz32.out hh32.out ?_)
                intro w5 hz5 k5
                have K3 : Hd (Kept no wr2 w5) := ⟨K4.out.trans k5 fun j hj h => by have h : j = gy := h; have := hgy.out; omega⟩
                have hu : Hd (w5.ownsRow 0 5 1 u xs.length (xs.map B)) := ⟨(hE4.out.kept k5 fun j hj e => hE4.out.ne hz4.out (by decide) j hj e).2.2⟩
                have hz8 := hid hz5
                clear k5 hz5 hE4 hz4 K4
                obtain ⟨w3, rfl⟩ : ∃ w3 : World, w3 = w5 := ⟨_, rfl⟩
                go_upto_region 14 with fail
                replace hz8 : Hd (w3.heap[gy]? = some (.cells (entC (⟨((q1 + 1 : Nat) : Int), K, xs, hashE lE⟩ : Ent) u).toArray 47 (0, 0))) := ⟨by have := hz8.out; first | exact this | (rw [show ((q1 + 1 : Nat) : Int) = (q1 : Int) + 1 by omega]; exact this)⟩
                have hE10 := hid (show OwE w3 (⟨((q1 + 1 : Nat) : Int), K, xs, hashE lE⟩ : Ent) u from ⟨hh32.out, hxl.out, hu.out⟩)
                have hok10 := hid hE10.out.ok
                have hone := hid hok10.out.one
                have hM3 := hM8.out.keptNo K3.out
                have hB3 := hid (hB8.out.kept K3.out)
                have hq3 := hid hM3.2.2
                have ho3 : Hd (w3.ownsRow 0 47 35 (.slice (some ⟨bl, ol, none⟩) (q1 + 1) cl) (q1 + 1) (flatE qs)) := ⟨by have := hM3.2.1; rw [← hql.out] at this; exact this⟩
                have Kw3 := hid (KK8.out.trans' K3.out)
                have g83 := hid (K3.out.blk g8.out)
                have hE83 := hid (hE8.out.keptNo K3.out)
                clear hM3 hu
                go_wp2_with (first | (with_reducible refine Go.Proofs.YtknbkhmpnanegaaDoor.le rfl _ rfl gy rfl (⟨((q1 + 1 : Nat) : Int), K, xs, hashE lE⟩ : Ent) u hz8.out hok10.out ?_) | (refine be1 rfl _ rfl (⟨((q1 + 1 : Nat) : Int), K, xs, hashE lE⟩ : Ent) u rfl hok10.out ?_))
                intro w5 k5 r5
                have K5 := hid (Kw3.out.trans' k5)
                have ho5 := hid (k5.ownsRow ho3.out fun _ _ => id)
                have hB5 := hid (hB3.out.kept k5)
                have g85 := hid (k5.blk g83.out)
                have hE85 := hid (hE83.out.keptNo k5)
                have hz5 := hid (k5.blk hz8.out)
                have hE105 := hid (hE10.out.keptNo k5)
                have hq5 : Hd (∀ p ∈ qs ++ [((⟨((q1 + 1 : Nat) : Int), K, xs, hashE lE⟩ : Ent), u)], OwE w5 p.1 p.2) := ⟨fun p h => by
                  rcases List.mem_append.1 h with h | h
                  · exact (hq3.out p h).keptNo k5
                  · obtain rfl : p = ((⟨((q1 + 1 : Nat) : Int), K, xs, hashE lE⟩ : Ent), u) := by simpa using h
                    exact hE10.out.keptNo k5⟩
                replace r5 := hid r5
                clear k5 ho3 hq3 Kw3 hz8 hB3 g83 hE83
                go_wp2_with (at_builtin; refine wpList_append _ rfl _ _ 42 rfl 47 35 72 TEnts _ _ _ rfl ho5.out _ _ _ rfl r5.out hone.out ?a1 ?a2 ?_)
                case a1 => have := hqI.out; unfold maxLen; omega
                case a2 => have := hqI.out; omega
                intro v6 w6 ho6 hk6 hn6 _
                have hlb : ∀ j, ob (.slice (some ⟨bl, ol, none⟩) (q1 + 1) cl) j → j < w7.heap.size := fun j hj => hlt8.out j hj
                have hg8n : ¬ ob (.slice (some ⟨bl, ol, none⟩) (q1 + 1) cl) w7.heap.size := fun h => by have := hlb _ h; omega
                have hlt7 := lt_of_heap g8.out
                have hgyn : ¬ ob (.slice (some ⟨bl, ol, none⟩) (q1 + 1) cl) gy := fun h => by have := hlb _ h; have := hgy.out; omega
                have hN6 := hid (hN.out.step hn6 K5.out.size)
                have hK6 := hid (hN.out.kept K5.out hk6)
                have hB6 := hid (hB5.out.keptL ho5.out hdis7.out hk6)
                have hEnt : ∀ j, ob (.slice (some ⟨bl, ol, none⟩) (q1 + 1) cl) j → ∃ c, w5.heap[j]? = some (.cells c 47 (0, 0)) := fun j e => by
                  obtain ⟨_, ⟨h0, _⟩ | ⟨z, _, cz, h0, _, hz, _⟩⟩ := ho5.out
                  · rw [h0] at e; cases e
                  · rw [h0] at e
                    have : z = j := by simpa [ob, Value.ownBlock] using e
                    subst this
                    exact ⟨_, hz⟩
                have hq6 : Hd (∀ p ∈ qs ++ [((⟨((q1 + 1 : Nat) : Int), K, xs, hashE lE⟩ : Ent), u)], OwE w6 p.1 p.2) := ⟨fun p h => (hq5.out p h).kept hk6 fun j hj e => by
                  obtain ⟨c, hc⟩ := hEnt j e
                  exact (hq5.out p h).ne hc (by decide) j hj rfl⟩
                have g86 := hid ((hk6.block _ (lt_of_heap g85.out) hg8n).trans g85.out)
                have hz6 := hid ((hk6.block _ (lt_of_heap hz5.out) hgyn).trans hz5.out)
                have hE86 : Hd (OwE w6 EF vr) := ⟨hE85.out.kept hk6 fun j hj e => by
                  obtain ⟨c, hc⟩ := hEnt j e
                  exact hE85.out.ne hc (by decide) j hj rfl⟩
                have hE106 : Hd (OwE w6 (⟨((q1 + 1 : Nat) : Int), K, xs, hashE lE⟩ : Ent) u) := ⟨hE105.out.kept hk6 fun j hj e => by
                  obtain ⟨c, hc⟩ := hEnt j e
                  exact hE105.out.ne hc (by decide) j hj rfl⟩
                have hdis6 : Hd (∀ j, v6.ownBlock = some j → vB7.ownBlock = some j → False) := ⟨fun j h1 h2 => by
                  rcases hn6 with h | ⟨p, h, hp⟩
                  · exact hdis7.out j (h.symm.trans h1) h2
                  · have e : p = j := by have := h.symm.trans h1; simpa using this
                    obtain ⟨_, ⟨h0, _⟩ | ⟨z, _, cz, h0, _, hz, _⟩⟩ := hB5.out.own
                    · rw [h0] at h2; cases h2
                    · rw [h0] at h2
                      have : z = j := by simpa [Value.ownBlock] using h2
                      subst this
                      have := lt_of_heap hz; omega⟩
                have hql' : Hd ((q1 + 1) + 1 = (qs ++ [((⟨((q1 + 1 : Nat) : Int), K, xs, hashE lE⟩ : Ent), u)]).length) := ⟨by rw [List.length_append, ← hql.out]; rfl⟩
                have hM6 : Hd (Mkd w6 v6 (qs ++ [((⟨((q1 + 1 : Nat) : Int), K, xs, hashE lE⟩ : Ent), u)])) := ⟨by rw [← hql'.out]; have := hqI.out; omega, by rw [← hql'.out]; simpa [flatE] using ho6, hq6.out⟩
                obtain ⟨a6, c6, rfl⟩ : ∃ a c, v6 = .slice a ((q1 + 1) + 1) c := by obtain ⟨_, a, c, e, _⟩ := Rd.of_own ho6; exact ⟨a, c, e⟩
                have hpq' : Hd (ents (ps ++ [(EF, vc)]) = ents (qs ++ [((⟨((q1 + 1 : Nat) : Int), K, xs, hashE lE⟩ : Ent), u)])) := ⟨by
                  have h := hpq.out
                  simp only [ents, List.map_append, List.map_cons, List.map_nil] at h ⊢
                  rw [h, hEFe.out]⟩
                have hch' : Hd (chk Z32l 0 (ents (qs ++ [((⟨((q1 + 1 : Nat) : Int), K, xs, hashE lE⟩ : Ent), u)])) = (ents (qs ++ [((⟨((q1 + 1 : Nat) : Int), K, xs, hashE lE⟩ : Ent), u)])).length) := ⟨by
                  have h := hchn.out
                  rw [hEFe.out] at h
                  simpa [ents] using h⟩
                have hok86 := hid hE86.out.ok
                have hok106 := hid hE106.out.ok
                clear hk6 hn6 ho6 ho5 hq5 hq6 r5 hone hN K5 hql hM8 hE10 hok10 hB5 g85 hE85 hz5 hE105 hpq hch hchn hnx hlb hg8n hgyn hEnt hdis7
                go_wp2_with (first | (with_reducible refine lew rfl _ rfl w7.heap.size rfl EF vr g86.out hok86.out ?_) | (refine be1w rfl _ rfl EF vr rfl hok86.out ?_))
                intro wa ka ra
                have hza := hid (ka.blk hz6.out)
                replace ra := hid ra
                replace ka := hid ka
                go_wp2_with (first | (with_reducible refine lew rfl _ rfl gy rfl (⟨((q1 + 1 : Nat) : Int), K, xs, hashE lE⟩ : Ent) u hza.out hok106.out ?_) | (refine be1w rfl _ rfl (⟨((q1 + 1 : Nat) : Int), K, xs, hashE lE⟩ : Ent) u rfl hok106.out ?_))
                intro wb kb rb
                have HEQ := hid (refeq_any _ _ [(EF, vr)] [((⟨((q1 + 1 : Nat) : Int), K, xs, hashE lE⟩ : Ent), u)] wb (by simp) (RdE.one1 (hok86.out.kept (ka.out.trans' kb)) (ra.out.keptNo kb)) (RdE.one1 (hok106.out.kept (ka.out.trans' kb)) rb) (by simp only [ents, List.map_cons, List.map_nil]; rw [hEFe.out]))
                have Kb := hid (ka.out.trans' kb)
                clear ra rb kb ka
                go_wp2_with fail
                refine HEQ.out.mono ?_
                rintro ed wc ⟨rfl, kc⟩
                have KF := hid (hK6.out.trans' (Kb.out.trans' kc))
                have hBF := hid (hB6.out.kept (Kb.out.trans' kc))
                have hMF := hid (hM6.out.keptNo (Kb.out.trans' kc))
                clear kc HEQ Kb hB6 hM6 hK6 hE86 hE106 hza hz6 g86 hok86 hok106
                go_wp2_with fail
                go_roundw
                case rel => first | exact ⟨k + 1, (q1 + 1) + 1, a6, c6, vB7, _, _, by omega, by omega, by omega, by go_num, rfl, hql', hpq', hch', hMF, hBF, hdis6, KF, hN6, hNB7⟩ | ((repeat apply Exists.intro); exact ⟨⟨k + 1, (q1 + 1) + 1, a6, c6, vB7, _, _, by omega, by omega, by omega, by go_num, rfl, hql', hpq', hch', hMF, hBF, hdis6, KF, hN6, hNB7⟩, rfl⟩)
                case measure => simp [intOf]; omega
      · have hkl1 : ¬ (k : Int) < 12 := by omega
        have hB' := hid hB.out
        have hlq : Hd (ps.length ≤ 100 ∧ qs.length ≤ 100 ∧ (ents qs).length = q) := ⟨by have h := congrArg List.length hpq.out; have h2 := hM.out.1; rw [ents_length, ents_length] at h; rw [ents_length]; have := hql.out; omega⟩
        have HAW := hid (awake23_any wr (hT.out.kept hK.out))
        go_wp2_with fail
        refine HAW.out.mono ?_
        rintro ed wa ⟨rfl, ka⟩
        have hBa := hid (hB.out.kept ka)
        have hMa := hid (hM.out.keptNo ka)
        have Ka := hid (hK.out.trans' ka)
        have HEN := hid (entries_any g vB ps wa hBa.out hlq.out.1)
        clear ka HAW hB' hB hM hK
        go_wp2_with fail
        refine HEN.out.mono ?_
        rintro ed wb ⟨ve, es, rfl, he1, he2, he3, kb, _⟩
        have hBb := hid (hBa.out.kept kb)
        have hMb := hid (hMa.out.keptNo kb)
        have Kb := hid (Ka.out.trans' kb)
        have hel : Hd (es.length ≤ 100) := ⟨by have h := congrArg List.length he1; rw [ents_length, ents_length] at h; have := hlq.out.1; omega⟩
        have HEQ := hid (refeq_any ve (.slice al q cl) es qs wb hel.out ⟨fun p hp => (he3 p hp).ok, Rd.of_own he2⟩ hMb.out.rd (he1.trans hpq.out))
        clear kb HEN hBa hMa Ka he1 he2 he3 hel
        go_wp2_with fail
        refine HEQ.out.mono ?_
        rintro ed wc ⟨rfl, kc⟩
        have hBc := hid (hBb.out.kept kc)
        have Kc := hid (Kb.out.trans' kc)
        have HEN := hid (entries_any g vB ps wc hBc.out hlq.out.1)
        clear kc HEQ hBb hMb Kb
        go_wp2_with fail
        refine HEN.out.mono ?_
        rintro ed wd ⟨vd, ds, rfl, hd1, hd2, hd3, kd, _⟩
        have Kd := hid (Kc.out.trans' kd)
        have hdl : Hd (ds.length ≤ 100) := ⟨by have h := congrArg List.length hd1; rw [ents_length, ents_length] at h; have := hlq.out.1; omega⟩
        have HCK := hid (check_any vd ds wd hdl.out ⟨fun p hp => (hd3 p hp).ok, Rd.of_own hd2⟩ (hT.out.kept Kd.out))
        have hcq : chk Z32l 0 (ents ds) = q := by rw [hd1, hpq.out, hch.out, hlq.out.2.2]
        rw [hcq] at HCK
        clear kd HEN hBc Kc hd1 hd2 hd3 hcq hdl
        go_wp2_with fail
        refine HCK.out.mono ?_
        rintro ed we ⟨rfl, ke⟩
        have Ke := hid (Kd.out.trans' ke)
        clear ke HCK Kd
        have hqq : ((q : Int) == (q : Int)) = true := by simp
        go_wp2_with fail
        go_ret
        exact ⟨rfl, Ke.out⟩
    · have hk1 : ¬ (k : Int) < (n : Int) := by omega
      have hB' := hid hB.out
      have hlq : Hd (ps.length ≤ 100 ∧ qs.length ≤ 100 ∧ (ents qs).length = q) := ⟨by have h := congrArg List.length hpq.out; have h2 := hM.out.1; rw [ents_length, ents_length] at h; rw [ents_length]; have := hql.out; omega⟩
      have HAW := hid (awake23_any wr (hT.out.kept hK.out))
      go_wp2_with fail
      refine HAW.out.mono ?_
      rintro ed wa ⟨rfl, ka⟩
      have hBa := hid (hB.out.kept ka)
      have hMa := hid (hM.out.keptNo ka)
      have Ka := hid (hK.out.trans' ka)
      have HEN := hid (entries_any g vB ps wa hBa.out hlq.out.1)
      clear ka HAW hB' hB hM hK
      go_wp2_with fail
      refine HEN.out.mono ?_
      rintro ed wb ⟨ve, es, rfl, he1, he2, he3, kb, _⟩
      have hBb := hid (hBa.out.kept kb)
      have hMb := hid (hMa.out.keptNo kb)
      have Kb := hid (Ka.out.trans' kb)
      have hel : Hd (es.length ≤ 100) := ⟨by have h := congrArg List.length he1; rw [ents_length, ents_length] at h; have := hlq.out.1; omega⟩
      have HEQ := hid (refeq_any ve (.slice al q cl) es qs wb hel.out ⟨fun p hp => (he3 p hp).ok, Rd.of_own he2⟩ hMb.out.rd (he1.trans hpq.out))
      clear kb HEN hBa hMa Ka he1 he2 he3 hel
      go_wp2_with fail
      refine HEQ.out.mono ?_
      rintro ed wc ⟨rfl, kc⟩
      have hBc := hid (hBb.out.kept kc)
      have Kc := hid (Kb.out.trans' kc)
      have HEN := hid (entries_any g vB ps wc hBc.out hlq.out.1)
      clear kc HEQ hBb hMb Kb
      go_wp2_with fail
      refine HEN.out.mono ?_
      rintro ed wd ⟨vd, ds, rfl, hd1, hd2, hd3, kd, _⟩
      have Kd := hid (Kc.out.trans' kd)
      have hdl : Hd (ds.length ≤ 100) := ⟨by have h := congrArg List.length hd1; rw [ents_length, ents_length] at h; have := hlq.out.1; omega⟩
      have HCK := hid (check_any vd ds wd hdl.out ⟨fun p hp => (hd3 p hp).ok, Rd.of_own hd2⟩ (hT.out.kept Kd.out))
      have hcq : chk Z32l 0 (ents ds) = q := by rw [hd1, hpq.out, hch.out, hlq.out.2.2]
      rw [hcq] at HCK
      clear kd HEN hBc Kc hd1 hd2 hd3 hcq hdl
      go_wp2_with fail
      refine HCK.out.mono ?_
      rintro ed we ⟨rfl, ke⟩
      have Ke := hid (Kd.out.trans' ke)
      clear ke HCK Kd
      have hqq : ((q : Int) == (q : Int)) = true := by simp
      go_wp2_with fail
      go_ret
      exact ⟨rfl, Ke.out⟩
end Go.Proofs.YtknbkhmpnanegaaDoor
