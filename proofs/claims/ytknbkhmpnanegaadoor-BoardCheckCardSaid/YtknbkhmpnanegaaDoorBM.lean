/- electionlaw23.Make: a list of at most twelve entries (printed by gen_bm.py). -/
import Derived.Test.YtknbkhmpnanegaaDoorBH
namespace Go.Proofs.YtknbkhmpnanegaaDoor
open Go.RowKit Go.Mk Go.Sha Go.Brd
/-- A note: its kind, its body's bytes, its body. -/
def noteC (x : Int × List UInt8 × Value) : List Value := [.int .i64 x.1, x.2.2]
def RdN (w : World) (v : Value) (ns : List (Int × List UInt8 × Value)) : Prop := (∀ x ∈ ns, x.2.1.length ≤ 9223372036854775807 ∧ Rd w 1 x.2.2 x.2.1.length (x.2.1.map B)) ∧ Rd w 2 v ns.length (ns.flatMap noteC)
theorem RdN.kept {w w' : World} {v : Value} {ns : List (Int × List UInt8 × Value)} (h : RdN w v ns) (k : Kept no w w') : RdN w' v ns := ⟨fun x hx => ⟨(h.1 x hx).1, (h.1 x hx).2.keptNo k⟩, h.2.keptNo k⟩
theorem RdN.at {w : World} {ao : Option Addr} {n cap : Nat} {ns : List (Int × List UInt8 × Value)} (h : RdN w (.slice ao n cap) ns) (k : Nat) (hk : k < ns.length) : ∃ b o, ao = some ⟨b, o, none⟩ ∧ w.cell? ⟨b, o + k * 2, none⟩ = some (.int .i64 ns[k].1) ∧ w.cell? ⟨b, o + k * 2 + 1, none⟩ = some ns[k].2.2 := by
  obtain ⟨b, o, e, hr⟩ := Rd.row (f := noteC) (sz := 2) (fun _ _ => rfl) h.2 k hk
  exact ⟨b, o, e, hr 0 _ rfl, hr 1 _ rfl⟩
/-- What Make hands back. -/
def Mkd (w' : World) (v' : Value) (qs : List (Ent × Value)) : Prop := qs.length ≤ 12 ∧ w'.ownsRow 0 47 35 v' qs.length (flatE qs) ∧ ∀ q ∈ qs, OwE w' q.1 q.2
theorem Mkd.rd {w : World} {v : Value} {qs : List (Ent × Value)} (h : Mkd w v qs) : RdE w v qs := ⟨fun q hq => (h.2.2 q hq).ok, Rd.of_own h.2.1⟩
theorem Mkd.keptNo {w w' : World} {v : Value} {qs : List (Ent × Value)} (h : Mkd w v qs) (k : Kept no w w') : Mkd w' v qs := ⟨h.1, k.ownsRow h.2.1 fun _ _ => id, fun q hq => (h.2.2 q hq).keptNo k⟩
/-- The store of a digest into an entry's last field. -/
theorem spd {ops : Array Oper} {rest : List Oper} {o : Oper} {a : Act} {w : World} {Q : Exit → Act → World → Prop} (hgd : o.guard = none) (x y : Operand) (ho : o.op = .store 26 x y) (g : Nat) (hx : a.eval x = .pointer (some ⟨g, 3, none⟩)) (D : List UInt8) (hy : a.eval y = Dg D) (e : Ent) (vb : Value) (hb : w.heap[g]? = some (.cells (entC e vb).toArray 47 (0, 0))) (hp : e.prev.length = 32) (hD : D.length = 32)
    (h : ∀ w', w'.heap[g]? = some (.cells (entC ⟨e.number, e.kind, e.body, D⟩ vb).toArray 47 (0, 0)) → Kept (fun j => j = g) w w' → wpList Tryd.prog ops Q rest (a.put o.dst undef) w') : wpList Tryd.prog ops Q (o :: rest) a w := by
  refine wpList_store_mid hgd 26 x y ho g 3 (D.map B).toArray hx hy (by rw [Dg_cells hD]; exact there_of hb 3 32 (by rw [entC_length hp]; decide)) (infD hD) (oneD D) (h _ ?_ (((Kept.refl (fun j => j = g) w).setCells (.inl rfl) _ _)))
  have := setCells_tail (pre := [.int .i64 e.number, .int .i64 e.kind, vb]) (mid := e.prev.map B) (vs := D.map B) hb (by simp [hp, hD])
  simpa [entC] using this
set_option maxRecDepth 100000 in
set_option maxHeartbeats 4000000 in
theorem make_any (v : Value) (ns : List (Int × List UInt8 × Value)) (w : World) (hn : ns.length ≤ 9223372036854775807) (hr : RdN w v ns) (hT : TabR w) :
    Calls Tryd.prog 34 #[v] w fun ed w' => ∃ v' qs, ed = .returned v' ∧ Mkd w' v' qs ∧ Kept no w w' ∧ New w v' := by
  obtain ⟨ao, cap, rfl⟩ := Rd.shapeZ hr.2
  obtain ⟨n, hn'⟩ : ∃ n, ns.length = n := ⟨_, rfl⟩
  rw [hn'] at hr hn ⊢
  replace hr := hid hr
  replace hn' := hid hn'
  replace hT := hid hT
  go_enter Tryd.func34, Tryd.ntmps34
  go_wp2_with fail
  go_loopw [3, 4] (fun l i wr => ∃ (k q : Nat) (al : Option Addr) (cl : Nat) (qs : List (Ent × Value)), k ≤ n ∧ i = .int .i64 (k : Int) ∧ l = .slice al q cl ∧ Hd (q = qs.length) ∧ Hd (Mkd wr (.slice al q cl) qs) ∧ Hd (Kept no w wr) ∧ Hd (New w (.slice al q cl))) (fun _ i _ => n - (intOf i).toNat)
  case atStart => exact ⟨0, 0, none, 0, [], by omega, rfl, rfl, ⟨rfl⟩, ⟨by decide, World.ownsRow_nil _ _ _ _, fun q hq => by cases hq⟩, ⟨Kept.refl _ _⟩, ⟨.inl rfl⟩⟩
  case round =>
    obtain ⟨k, q, al, cl, qs, hk, rfl, rfl, hql, hM, hK, hN⟩ := hrel
    by_cases hlt : k < n
    · have hk1 : (k : Int) < (n : Int) := by omega
      have hk0 : (0 : Int) ≤ (k : Int) := by omega
      have hkw : IntKind.i64.wrap ((k : Int) + 1) = (k : Int) + 1 := IntWalk.i64_in _ (by omega)
      by_cases hq12 : q < 12
      · have hq1 : (q : Int) < 12 := by omega
        obtain ⟨b, o, rfl, c0, c1⟩ := (hr.out.kept hK.out).at k (by rw [hn'.out]; exact hlt)
        have hnb := (hr.out.kept hK.out).1 (ns[k]'(by rw [hn'.out]; exact hlt)) (List.getElem_mem _)
        generalize (ns[k]'(by rw [hn'.out]; exact hlt)) = nt at c0 c1 hnb
        obtain ⟨K, body, vb⟩ := nt
        simp only at c0 c1 hnb
        obtain ⟨hbl, hbr⟩ := hnb
        by_cases hp1 : 1 ≤ K
        · by_cases hp2 : K ≤ 10
          · obtain ⟨ab, cb, rfl⟩ := Rd.shapeZ hbr
            have hr20 := Rd.cut hbr 20
            have hcb : body.length ≤ cb := by obtain ⟨_, _, _, e, h1, _⟩ := hbr; cases e; exact h1
            obtain ⟨nb, hnb'⟩ : ∃ z, body.length = z := ⟨_, rfl⟩
            rw [hnb'] at hr20 hbl hcb c1
            have qb1 : min (nb : Int) 20 = ((min nb 20 : Nat) : Int) := by omega
            have qb2 : (if 20 < (nb : Int) then (20 : Int) else (nb : Int)) = ((min nb 20 : Nat) : Int) := by split <;> omega
            have qb3 : ((min nb 20 : Nat) : Int) ≤ (cb : Int) := by omega
            have qb4 : (0 : Int) ≤ ((min nb 20 : Nat) : Int) := by omega
            have hxl : Hd ((body.take 20).length ≤ 1000) := ⟨by rw [List.length_take]; omega⟩
            generalize min nb 20 = qb at hr20 qb1 qb2 qb3 qb4
            generalize body.take 20 = xs at hr20 hxl
            replace hr20 := hid hr20
            replace c0 := hid c0
            replace c1 := hid c1
            clear hbr hbl hnb' hcb
            have c0' := c0.out
            go_upto_region 6 with fail
            clear c0'

            refine region_flow (S := (fun j => wr.heap.size ≤ j)) (Sl := (fun _ => (fun j => wr.heap.size ≤ j))) [Is (.slice al q cl), Is (.int .i64 (q : Int)), Is (.slice (some ⟨b, o, none⟩) n cap), Is (.int .i64 (k : Int)), Is (.pointer (some ⟨b, o + k * 2, none⟩)), Is (.pointer (some ⟨b, o + k * 2, none⟩)), Is (.int .i64 K), Is (.slice (some ⟨b, o, none⟩) n cap), Is (.int .i64 (k : Int)), Is (.pointer (some ⟨b, o + k * 2, none⟩)), Is (.pointer (some ⟨b, o + k * 2 + 1, none⟩)), Is (.slice ab nb cb), Is (.slice (some ⟨b, o, none⟩) n cap), Is (.int .i64 (k : Int)), Is (.pointer (some ⟨b, o + k * 2, none⟩)), Is (.pointer (some ⟨b, o + k * 2 + 1, none⟩)), Is (.slice ab nb cb), Is (.int .i64 (nb : Int)), Is (.int .i64 (qb : Int)), Is (.slice ab qb cb), POwn xs wr.heap.size, PEv 20 (⟨(q : Int), K, xs, Z32l⟩ : Ent) wr.heap.size, PAl wr.heap.size, PSx 22 (⟨(q : Int), K, xs, Z32l⟩ : Ent) wr.heap.size] [23] (fun _ _ h => h) _ (by kernel_rfl) (by kernel_rfl) (by kernel_rfl) (by kernel_rfl) (fun x => by simp only [puts, Act.put, List.map_cons, List.map_nil, Nat.zero_add, Nat.reduceAdd, List.setIfInBounds_toArray, List.set_cons_zero, List.set_cons_succ]; exact rfl) ?_ ?_
            · skip
              refine Steps.cons (fun x wf Kk hq hdep hold => ?_) ?_
              · try dsimp only
                clear hq hdep hold
                rw [if_pos (by rfl)]
                refine OpY.val (v := (.slice al q cl)) ?_ ⟨Kept.refl _ _, rfl⟩
                first | rfl | go_simp
              refine Steps.cons (fun x wf Kk hq hdep hold => ?_) ?_
              · try dsimp only
                have h0 : x 0 = (.slice al q cl) := hdep 0 (by kernel_rfl)
                clear hq hdep hold
                simp only [h0]
                clear h0
                rw [if_pos (by rfl)]
                refine OpY.val (v := (.int .i64 (q : Int))) ?_ ⟨Kept.refl _ _, rfl⟩
                first | rfl | go_simp
              refine Steps.cons (fun x wf Kk hq hdep hold => ?_) ?_
              · try dsimp only
                clear hq hdep hold
                rw [if_pos (by rfl)]
                refine OpY.val (v := (.slice (some ⟨b, o, none⟩) n cap)) ?_ ⟨Kept.refl _ _, rfl⟩
                first | rfl | go_simp
              refine Steps.cons (fun x wf Kk hq hdep hold => ?_) ?_
              · try dsimp only
                clear hq hdep hold
                rw [if_pos (by rfl)]
                refine OpY.val (v := (.int .i64 (k : Int))) ?_ ⟨Kept.refl _ _, rfl⟩
                first | rfl | go_simp
              refine Steps.cons (fun x wf Kk hq hdep hold => ?_) ?_
              · try dsimp only
                have h2 : x 2 = (.slice (some ⟨b, o, none⟩) n cap) := hdep 2 (by kernel_rfl)
                have h3 : x 3 = (.int .i64 (k : Int)) := hdep 3 (by kernel_rfl)
                clear hq hdep hold
                simp only [h2, h3]
                clear h2 h3
                rw [if_pos (by rfl)]
                refine OpY.val (v := (.pointer (some ⟨b, o + k * 2, none⟩))) ?_ ⟨Kept.refl _ _, rfl⟩
                first | rfl | go_simp
              refine Steps.cons (fun x wf Kk hq hdep hold => ?_) ?_
              · try dsimp only
                have h4 : x 4 = (.pointer (some ⟨b, o + k * 2, none⟩)) := hdep 4 (by kernel_rfl)
                clear hq hdep hold
                simp only [h4]
                clear h4
                rw [if_pos (by rfl)]
                refine OpY.val (v := (.pointer (some ⟨b, o + k * 2, none⟩))) ?_ ⟨Kept.refl _ _, rfl⟩
                first | rfl | go_simp
              refine Steps.cons (fun x wf Kk hq hdep hold => ?_) ?_
              · try dsimp only
                have h5 : x 5 = (.pointer (some ⟨b, o + k * 2, none⟩)) := hdep 5 (by kernel_rfl)
                clear hq hdep hold
                simp only [h5]
                clear h5
                have cv := Kk.fresh.undrew.cell c0.out id
                rw [if_pos (by rfl)]
                refine OpY.val (v := (.int .i64 K)) ?_ ⟨Kept.refl _ _, rfl⟩
                first | rfl | go_simp
              refine Steps.cons (fun x wf Kk hq hdep hold => ?_) ?_
              · try dsimp only
                clear hq hdep hold
                rw [if_pos (by rfl)]
                refine OpY.val (v := (.slice (some ⟨b, o, none⟩) n cap)) ?_ ⟨Kept.refl _ _, rfl⟩
                first | rfl | go_simp
              refine Steps.cons (fun x wf Kk hq hdep hold => ?_) ?_
              · try dsimp only
                clear hq hdep hold
                rw [if_pos (by rfl)]
                refine OpY.val (v := (.int .i64 (k : Int))) ?_ ⟨Kept.refl _ _, rfl⟩
                first | rfl | go_simp
              refine Steps.cons (fun x wf Kk hq hdep hold => ?_) ?_
              · try dsimp only
                have h7 : x 7 = (.slice (some ⟨b, o, none⟩) n cap) := hdep 7 (by kernel_rfl)
                have h8 : x 8 = (.int .i64 (k : Int)) := hdep 8 (by kernel_rfl)
                clear hq hdep hold
                simp only [h7, h8]
                clear h7 h8
                rw [if_pos (by rfl)]
                refine OpY.val (v := (.pointer (some ⟨b, o + k * 2, none⟩))) ?_ ⟨Kept.refl _ _, rfl⟩
                first | rfl | go_simp
              refine Steps.cons (fun x wf Kk hq hdep hold => ?_) ?_
              · try dsimp only
                have h9 : x 9 = (.pointer (some ⟨b, o + k * 2, none⟩)) := hdep 9 (by kernel_rfl)
                clear hq hdep hold
                simp only [h9]
                clear h9
                rw [if_pos (by rfl)]
                refine OpY.val (v := (.pointer (some ⟨b, o + k * 2 + 1, none⟩))) ?_ ⟨Kept.refl _ _, rfl⟩
                first | rfl | go_simp
              refine Steps.cons (fun x wf Kk hq hdep hold => ?_) ?_
              · try dsimp only
                have h10 : x 10 = (.pointer (some ⟨b, o + k * 2 + 1, none⟩)) := hdep 10 (by kernel_rfl)
                clear hq hdep hold
                simp only [h10]
                clear h10
                have cv := Kk.fresh.undrew.cell c1.out id
                rw [if_pos (by rfl)]
                refine OpY.val (v := (.slice ab nb cb)) ?_ ⟨Kept.refl _ _, rfl⟩
                first | rfl | go_simp
              refine Steps.cons (fun x wf Kk hq hdep hold => ?_) ?_
              · try dsimp only
                clear hq hdep hold
                rw [if_pos (by rfl)]
                refine OpY.val (v := (.slice (some ⟨b, o, none⟩) n cap)) ?_ ⟨Kept.refl _ _, rfl⟩
                first | rfl | go_simp
              refine Steps.cons (fun x wf Kk hq hdep hold => ?_) ?_
              · try dsimp only
                clear hq hdep hold
                rw [if_pos (by rfl)]
                refine OpY.val (v := (.int .i64 (k : Int))) ?_ ⟨Kept.refl _ _, rfl⟩
                first | rfl | go_simp
              refine Steps.cons (fun x wf Kk hq hdep hold => ?_) ?_
              · try dsimp only
                have h12 : x 12 = (.slice (some ⟨b, o, none⟩) n cap) := hdep 12 (by kernel_rfl)
                have h13 : x 13 = (.int .i64 (k : Int)) := hdep 13 (by kernel_rfl)
                clear hq hdep hold
                simp only [h12, h13]
                clear h12 h13
                rw [if_pos (by rfl)]
                refine OpY.val (v := (.pointer (some ⟨b, o + k * 2, none⟩))) ?_ ⟨Kept.refl _ _, rfl⟩
                first | rfl | go_simp
              refine Steps.cons (fun x wf Kk hq hdep hold => ?_) ?_
              · try dsimp only
                have h14 : x 14 = (.pointer (some ⟨b, o + k * 2, none⟩)) := hdep 14 (by kernel_rfl)
                clear hq hdep hold
                simp only [h14]
                clear h14
                rw [if_pos (by rfl)]
                refine OpY.val (v := (.pointer (some ⟨b, o + k * 2 + 1, none⟩))) ?_ ⟨Kept.refl _ _, rfl⟩
                first | rfl | go_simp
              refine Steps.cons (fun x wf Kk hq hdep hold => ?_) ?_
              · try dsimp only
                have h15 : x 15 = (.pointer (some ⟨b, o + k * 2 + 1, none⟩)) := hdep 15 (by kernel_rfl)
                clear hq hdep hold
                simp only [h15]
                clear h15
                have cv := Kk.fresh.undrew.cell c1.out id
                rw [if_pos (by rfl)]
                refine OpY.val (v := (.slice ab nb cb)) ?_ ⟨Kept.refl _ _, rfl⟩
                first | rfl | go_simp
              refine Steps.cons (fun x wf Kk hq hdep hold => ?_) ?_
              · try dsimp only
                have h16 : x 16 = (.slice ab nb cb) := hdep 16 (by kernel_rfl)
                clear hq hdep hold
                simp only [h16]
                clear h16
                rw [if_pos (by rfl)]
                refine OpY.val (v := (.int .i64 (nb : Int))) ?_ ⟨Kept.refl _ _, rfl⟩
                first | rfl | go_simp
              refine Steps.cons (fun x wf Kk hq hdep hold => ?_) ?_
              · try dsimp only
                have h17 : x 17 = (.int .i64 (nb : Int)) := hdep 17 (by kernel_rfl)
                clear hq hdep hold
                simp only [h17]
                clear h17
                rw [if_pos (by rfl)]
                refine OpY.val (v := (.int .i64 (qb : Int))) ?_ ⟨Kept.refl _ _, rfl⟩
                first | rfl | go_simp
              refine Steps.cons (fun x wf Kk hq hdep hold => ?_) ?_
              · try dsimp only
                have h11 : x 11 = (.slice ab nb cb) := hdep 11 (by kernel_rfl)
                have h18 : x 18 = (.int .i64 (qb : Int)) := hdep 18 (by kernel_rfl)
                clear hq hdep hold
                simp only [h11, h18]
                clear h11 h18
                rw [if_pos (by rfl)]
                refine OpY.val (v := (.slice ab qb cb)) ?_ ⟨Kept.refl _ _, rfl⟩
                first | rfl | go_simp
              refine Steps.cons (fun x wf Kk hq hdep hold => ?_) ?_
              · try dsimp only
                have h19 : x 19 = (.slice ab qb cb) := hdep 19 (by kernel_rfl)
                clear hq hdep hold
                simp only [h19]
                clear h19
                rw [if_pos (by rfl)]
                have hxr := hr20.out.keptNo Kk.fresh.undrew
                obtain ⟨hxn, _⟩ := id hxr
                have hqx : qb = xs.length := by obtain ⟨_, _, _, e, _⟩ := hxr; cases e; rfl
                refine OpY.append (.const (.slice none 0 0)) (.tmp 50) 43 _ rfl rfl 5 1 1 TBytes (.slice none 0 0) 0 [] rfl (World.ownsRow_nil _ _ _ _) (.slice ab qb cb) xs.length (xs.map B) rfl hxr (B_one _) ?c2 ?c3 ?_
                case c2 => have := hxl.out; unfold maxLen; omega
                case c3 => have := hxl.out; omega
                rintro v' w' h2 h3 h4 _
                exact ⟨h3.ob_nil, by simpa using h2, h4.fr (fun k h => by simp [Value.ownBlock] at h) Kk.size⟩
              refine Steps.cons (fun x wf Kk hq hdep hold => ?_) ?_
              · try dsimp only
                have h1 : x 1 = (.int .i64 (q : Int)) := hdep 1 (by kernel_rfl)
                have h6 : x 6 = (.int .i64 K) := hdep 6 (by kernel_rfl)
                have p20 : Pr.p (Sl := (fun _ => (fun j => wr.heap.size ≤ j))) (POwn xs wr.heap.size) (x 20) wf := hdep 20 (by kernel_rfl)
                clear hq hdep hold
                simp only [h1, h6]
                clear h1 h6
                rw [if_pos (by rfl)]
                have q7 := p20
                obtain ⟨_, a7, c7, e7, _⟩ := Rd.of_own p20.1
                rw [e7]
                refine OpY.val (v := Ev (⟨(q : Int), K, xs, Z32l⟩ : Ent) (.slice a7 xs.length c7)) (by kernel_rfl) ⟨Kept.refl _ _, (show Pr.r (PEv (Sl := (fun _ => (fun j => wr.heap.size ≤ j))) 20 (⟨(q : Int), K, xs, Z32l⟩ : Ent) wr.heap.size) (x 20) _ wf from ⟨by rw [e7], q7.1, q7.2⟩)⟩
              refine Steps.cons (fun x wf Kk hq hdep hold => ?_) ?_
              · try dsimp only
                clear hq hdep hold
                rw [if_pos (by rfl)]
                exact OpY.val (v := .pointer (some ⟨wf.heap.size, 0, none⟩)) (w' := wf.alloc (.cells ZE 47)) (by kernel_rfl) ⟨(Kept.refl _ _).alloc _, _, rfl, Kk.size, heap_alloc_new _ _⟩
              refine Steps.cons (fun x wf Kk hq hdep hold => ?_) ?_
              · try dsimp only
                have p22 : Pr.p (Sl := (fun _ => (fun j => wr.heap.size ≤ j))) (PAl wr.heap.size) (x 22) wf := hdep 22 (by kernel_rfl)
                have p21 : Pr.r (Sl := (fun _ => (fun j => wr.heap.size ≤ j))) (PEv 20 (⟨(q : Int), K, xs, Z32l⟩ : Ent) wr.heap.size) (x 20) (x 21) wf := hdep 21 (by kernel_rfl)
                clear hq hdep hold
                rw [if_pos (by rfl)]
                obtain ⟨g8, e9, hg8, hz8⟩ := p22
                obtain ⟨e8, o7, f7⟩ := p21
                have hE : OwE wf (⟨(q : Int), K, xs, Z32l⟩ : Ent) (x 20) := ⟨rfl, hxl.out, o7⟩
                rw [e9, e8]
                have hne := hE.ne hz8 (by decide)
                refine OpY.storeRow 47 (.tmp 5) (.tmp 52) rfl g8 (entC (⟨(q : Int), K, xs, Z32l⟩ : Ent) (x 20)).toArray rfl rfl 47 _ hz8 (infE hE.ok) (by rw [ZE_size, List.size_toArray, entC_length hE.1]) (all_oneCell_toArray hE.ok.one) ?_
                have ks := (Kept.refl (fun j => j = g8) wf).setRow (g := g8) (.inl rfl) (entC (⟨(q : Int), K, xs, Z32l⟩ : Ent) (x 20)).toArray
                refine ⟨ks.mono fun j _ h => by (have h : j = g8 := h); subst h; exact hg8, g8, x 20, e9, hg8, setRow_heap _ _ _ _ _ _ hz8, ks.ownsRow o7 hne, f7⟩
              exact Steps.nil _
            · intro x wf Kk hv
              try dsimp only
              have h0 : x 0 = (.slice al q cl) := hv 0 (by kernel_rfl)
              have h1 : x 1 = (.int .i64 (q : Int)) := hv 1 (by kernel_rfl)
              have h2 : x 2 = (.slice (some ⟨b, o, none⟩) n cap) := hv 2 (by kernel_rfl)
              have h3 : x 3 = (.int .i64 (k : Int)) := hv 3 (by kernel_rfl)
              have h4 : x 4 = (.pointer (some ⟨b, o + k * 2, none⟩)) := hv 4 (by kernel_rfl)
              have h5 : x 5 = (.pointer (some ⟨b, o + k * 2, none⟩)) := hv 5 (by kernel_rfl)
              have h6 : x 6 = (.int .i64 K) := hv 6 (by kernel_rfl)
              have h7 : x 7 = (.slice (some ⟨b, o, none⟩) n cap) := hv 7 (by kernel_rfl)
              have h8 : x 8 = (.int .i64 (k : Int)) := hv 8 (by kernel_rfl)
              have h9 : x 9 = (.pointer (some ⟨b, o + k * 2, none⟩)) := hv 9 (by kernel_rfl)
              have h10 : x 10 = (.pointer (some ⟨b, o + k * 2 + 1, none⟩)) := hv 10 (by kernel_rfl)
              have h11 : x 11 = (.slice ab nb cb) := hv 11 (by kernel_rfl)
              have h12 : x 12 = (.slice (some ⟨b, o, none⟩) n cap) := hv 12 (by kernel_rfl)
              have h13 : x 13 = (.int .i64 (k : Int)) := hv 13 (by kernel_rfl)
              have h14 : x 14 = (.pointer (some ⟨b, o + k * 2, none⟩)) := hv 14 (by kernel_rfl)
              have h15 : x 15 = (.pointer (some ⟨b, o + k * 2 + 1, none⟩)) := hv 15 (by kernel_rfl)
              have h16 : x 16 = (.slice ab nb cb) := hv 16 (by kernel_rfl)
              have h17 : x 17 = (.int .i64 (nb : Int)) := hv 17 (by kernel_rfl)
              have h18 : x 18 = (.int .i64 (qb : Int)) := hv 18 (by kernel_rfl)
              have h19 : x 19 = (.slice ab qb cb) := hv 19 (by kernel_rfl)
              have p23 : Pr.r (Sl := (fun _ => (fun j => wr.heap.size ≤ j))) (PSx 22 (⟨(q : Int), K, xs, Z32l⟩ : Ent) wr.heap.size) (x 22) (x 23) wf := hv 23 (by kernel_rfl)
              clear hv
              simp only [h0, h1, h2, h3, h4, h5, h6, h7, h8, h9, h10, h11, h12, h13, h14, h15, h16, h17, h18, h19]
              clear h0 h1 h2 h3 h4 h5 h6 h7 h8 h9 h10 h11 h12 h13 h14 h15 h16 h17 h18 h19
              obtain ⟨g8, u, e9, hg8, hz8, hu, hfu⟩ := p23
              rw [e9]
              have K3 := hid Kk.fresh.undrew
              replace hz8 := hid hz8
              replace hu := hid hu
              obtain ⟨w3, rfl⟩ : ∃ w3 : World, w3 = wf := ⟨_, rfl⟩
              replace hg8 := hid hg8
              clear Kk hfu e9
              generalize x 20 = x7
              generalize x 21 = x8
              by_cases h0 : q = 0
              · subst h0
                go_upto_region 9 with fail
                have hE10 := hid (show OwE w3 (⟨((0 : Nat) : Int), K, xs, Z32l⟩ : Ent) u from ⟨rfl, hxl.out, hu.out⟩)
                have hok10 := hid hE10.out.ok
                have hone := hid hok10.out.one
                have hM3 := hM.out.keptNo K3.out
                have hq3 := hid hM3.2.2
                have ho3 : Hd (w3.ownsRow 0 47 35 (.slice al 0 cl) 0 (flatE qs)) := ⟨by rw [hql.out]; have := hM3.2.1; rwa [hql.out] at this⟩
                have Kw3 := hid (hK.out.trans' K3.out)
                clear hM3 hu
                go_wp2_with (first | (with_reducible refine le rfl _ rfl g8 rfl (⟨((0 : Nat) : Int), K, xs, Z32l⟩ : Ent) u hz8.out hok10.out ?_) | (refine be1 rfl _ rfl (⟨((0 : Nat) : Int), K, xs, Z32l⟩ : Ent) u rfl hok10.out ?_))
                intro w5 k5 r5
                have K5 := hid (Kw3.out.trans' k5)
                have ho5 := hid (k5.ownsRow ho3.out fun _ _ => id)
                have hq5 : Hd (∀ p ∈ qs ++ [((⟨((0 : Nat) : Int), K, xs, Z32l⟩ : Ent), u)], OwE w5 p.1 p.2) := ⟨fun p h => by
                  rcases List.mem_append.1 h with h | h
                  · exact (hq3.out p h).keptNo k5
                  · obtain rfl : p = ((⟨((0 : Nat) : Int), K, xs, Z32l⟩ : Ent), u) := by simpa using h
                    exact hE10.out.keptNo k5⟩
                replace r5 := hid r5
                clear k5 ho3 hq3 Kw3 hz8
                go_wp2_with (at_builtin; refine wpList_append _ rfl _ _ 42 rfl 47 35 72 TEnts _ _ _ rfl ho5.out _ _ _ rfl r5.out hone.out ?a1 ?a2 ?_)
                case a1 => unfold maxLen; omega
                case a2 => omega
                intro v6 w6 ho6 hk6 hn6 _
                have hN6 := hid (hN.out.step hn6 K5.out.size)
                have hK6 := hid (hN.out.kept K5.out hk6)
                have hq6 : Hd (∀ p ∈ qs ++ [((⟨((0 : Nat) : Int), K, xs, Z32l⟩ : Ent), u)], OwE w6 p.1 p.2) := ⟨fun p h => (hq5.out p h).kept hk6 fun j hj e => by
                  obtain ⟨_, ⟨h0, _⟩ | ⟨z, _, _, h0, _, hz, _⟩⟩ := ho5.out
                  · rw [h0] at e; cases e
                  · rw [h0] at e
                    have : z = j := by simpa [ob, Value.ownBlock] using e
                    subst this
                    exact (hq5.out p h).ne hz (by decide) z hj rfl⟩
                have hql' : Hd (0 + 1 = (qs ++ [((⟨((0 : Nat) : Int), K, xs, Z32l⟩ : Ent), u)]).length) := ⟨by rw [List.length_append, ← hql.out]; rfl⟩
                have hM6 : Hd (Mkd w6 v6 (qs ++ [((⟨((0 : Nat) : Int), K, xs, Z32l⟩ : Ent), u)])) := ⟨by rw [← hql'.out]; omega, by rw [← hql'.out]; simpa [flatE] using ho6, hq6.out⟩
                obtain ⟨a6, c6, rfl⟩ : ∃ a c, v6 = .slice a (0 + 1) c := by obtain ⟨_, a, c, e, _⟩ := Rd.of_own ho6; exact ⟨a, c, e⟩
                clear hk6 hn6 ho6 ho5 hq5 hq6 r5 hone hN K5 hql hM hE10 hok10 c0 c1 hr20 hxl
                go_wp2_with fail
                go_roundw
                case rel => first | exact ⟨k + 1, 0 + 1, a6, c6, _, by omega, by go_num, rfl, hql', hM6, hK6, hN6⟩ | ((repeat apply Exists.intro); exact ⟨⟨k + 1, 0 + 1, a6, c6, _, by omega, by go_num, rfl, hql', hM6, hK6, hN6⟩, rfl⟩)
                case measure => simp [intOf]; omega
              · obtain ⟨q1, rfl⟩ : ∃ q1, q = q1 + 1 := ⟨q - 1, by omega⟩
                have z1 : ((q1 + 1 : Nat) : Int) - 1 = (q1 : Int) := by omega
                have z2 : (0 : Int) < ((q1 + 1 : Nat) : Int) := by omega
                have z3 : (q1 : Int) < ((q1 + 1 : Nat) : Int) := by omega
                have z4 : (0 : Int) ≤ (q1 : Int) := by omega
                obtain ⟨bl, ol, rfl, hlr⟩ := (hM.out.keptNo K3.out).rd.at q1 (by rw [← hql.out]; omega)
                obtain ⟨lE, lv, hlast⟩ : ∃ lE lv, qs[q1]'(by rw [← hql.out]; omega) = (lE, lv) := ⟨_, _, rfl⟩
                rw [hlast] at hlr
                have hlo := hid ((hM.out.keptNo K3.out).2.2 (lE, lv) (by rw [← hlast]; exact List.getElem_mem _)).ok
                replace hlr := hid hlr
                clear hlast
                go_upto_region 8 with fail
                go_wp2_with (with_reducible refine lem rfl _ rfl bl (ol + q1 * 35) rfl lE lv hlr.out hlo.out ?_)
                refine (refhash_any lE lv w3 hlo.out (hT.out.kept (hK.out.trans' K3.out))).mono ?_
                rintro ed w4 ⟨rfl, k4⟩
                have hh32 := hid (hashE_length lE)
                have hz4 := hid (k4.blk hz8.out)
                have hz32 : Hd ((⟨((q1 + 1 : Nat) : Int), K, xs, Z32l⟩ : Ent).prev.length = 32) := ⟨rfl⟩
                have hE4 : Hd (OwE w4 ⟨((q1 + 1 : Nat) : Int), K, xs, Z32l⟩ u) := ⟨OwE.keptNo ⟨rfl, hxl.out, hu.out⟩ k4⟩
                have K4 := hid (K3.out.trans' k4)
                clear k4 hz8 hu K3 hlr hlo
                go_wp2_with (refine spd rfl _ _ rfl g8 rfl (hashE lE) rfl ⟨((q1 + 1 : Nat) : Int), K, xs, Z32l⟩ u hz4.out hz32.out hh32.out ?_)
                intro w5 hz5 k5
                have K3 : Hd (Kept no wr w5) := ⟨K4.out.trans k5 fun j hj h => by have h : j = g8 := h; have := hg8.out; omega⟩
                have hu : Hd (w5.ownsRow 0 5 1 u xs.length (xs.map B)) := ⟨(hE4.out.kept k5 fun j hj e => hE4.out.ne hz4.out (by decide) j hj e).2.2⟩
                have hz8 := hid hz5
                clear k5 hz5 hE4 hz4 K4
                obtain ⟨w3, rfl⟩ : ∃ w3 : World, w3 = w5 := ⟨_, rfl⟩
                go_upto_region 9 with fail
                replace hz8 : Hd (w3.heap[g8]? = some (.cells (entC (⟨((q1 + 1 : Nat) : Int), K, xs, hashE lE⟩ : Ent) u).toArray 47 (0, 0))) := ⟨by have := hz8.out; first | exact this | (rw [show ((q1 + 1 : Nat) : Int) = (q1 : Int) + 1 by omega]; exact this)⟩
                have hE10 := hid (show OwE w3 (⟨((q1 + 1 : Nat) : Int), K, xs, hashE lE⟩ : Ent) u from ⟨hh32.out, hxl.out, hu.out⟩)
                have hok10 := hid hE10.out.ok
                have hone := hid hok10.out.one
                have hM3 := hM.out.keptNo K3.out
                have hq3 := hid hM3.2.2
                have ho3 : Hd (w3.ownsRow 0 47 35 (.slice (some ⟨bl, ol, none⟩) (q1 + 1) cl) (q1 + 1) (flatE qs)) := ⟨by rw [hql.out]; have := hM3.2.1; rwa [hql.out] at this⟩
                have Kw3 := hid (hK.out.trans' K3.out)
                clear hM3 hu
                go_wp2_with (first | (with_reducible refine le rfl _ rfl g8 rfl (⟨((q1 + 1 : Nat) : Int), K, xs, hashE lE⟩ : Ent) u hz8.out hok10.out ?_) | (refine be1 rfl _ rfl (⟨((q1 + 1 : Nat) : Int), K, xs, hashE lE⟩ : Ent) u rfl hok10.out ?_))
                intro w5 k5 r5
                have K5 := hid (Kw3.out.trans' k5)
                have ho5 := hid (k5.ownsRow ho3.out fun _ _ => id)
                have hq5 : Hd (∀ p ∈ qs ++ [((⟨((q1 + 1 : Nat) : Int), K, xs, hashE lE⟩ : Ent), u)], OwE w5 p.1 p.2) := ⟨fun p h => by
                  rcases List.mem_append.1 h with h | h
                  · exact (hq3.out p h).keptNo k5
                  · obtain rfl : p = ((⟨((q1 + 1 : Nat) : Int), K, xs, hashE lE⟩ : Ent), u) := by simpa using h
                    exact hE10.out.keptNo k5⟩
                replace r5 := hid r5
                clear k5 ho3 hq3 Kw3 hz8
                go_wp2_with (at_builtin; refine wpList_append _ rfl _ _ 42 rfl 47 35 72 TEnts _ _ _ rfl ho5.out _ _ _ rfl r5.out hone.out ?a1 ?a2 ?_)
                case a1 => unfold maxLen; omega
                case a2 => omega
                intro v6 w6 ho6 hk6 hn6 _
                have hN6 := hid (hN.out.step hn6 K5.out.size)
                have hK6 := hid (hN.out.kept K5.out hk6)
                have hq6 : Hd (∀ p ∈ qs ++ [((⟨((q1 + 1 : Nat) : Int), K, xs, hashE lE⟩ : Ent), u)], OwE w6 p.1 p.2) := ⟨fun p h => (hq5.out p h).kept hk6 fun j hj e => by
                  obtain ⟨_, ⟨h0, _⟩ | ⟨z, _, _, h0, _, hz, _⟩⟩ := ho5.out
                  · rw [h0] at e; cases e
                  · rw [h0] at e
                    have : z = j := by simpa [ob, Value.ownBlock] using e
                    subst this
                    exact (hq5.out p h).ne hz (by decide) z hj rfl⟩
                have hql' : Hd (q1 + 1 + 1 = (qs ++ [((⟨((q1 + 1 : Nat) : Int), K, xs, hashE lE⟩ : Ent), u)]).length) := ⟨by rw [List.length_append, ← hql.out]; rfl⟩
                have hM6 : Hd (Mkd w6 v6 (qs ++ [((⟨((q1 + 1 : Nat) : Int), K, xs, hashE lE⟩ : Ent), u)])) := ⟨by rw [← hql'.out]; omega, by rw [← hql'.out]; simpa [flatE] using ho6, hq6.out⟩
                obtain ⟨a6, c6, rfl⟩ : ∃ a c, v6 = .slice a (q1 + 1 + 1) c := by obtain ⟨_, a, c, e, _⟩ := Rd.of_own ho6; exact ⟨a, c, e⟩
                clear hk6 hn6 ho6 ho5 hq5 hq6 r5 hone hN K5 hql hM hE10 hok10 c0 c1 hr20 hxl
                go_wp2_with fail
                go_roundw
                case rel => first | exact ⟨k + 1, q1 + 1 + 1, a6, c6, _, by omega, by go_num, rfl, hql', hM6, hK6, hN6⟩ | ((repeat apply Exists.intro); exact ⟨⟨k + 1, q1 + 1 + 1, a6, c6, _, by omega, by go_num, rfl, hql', hM6, hK6, hN6⟩, rfl⟩)
                case measure => simp [intOf]; omega
          · have hp2' : 10 < K := by omega
            clear hbl hbr c1
            go_wp2_with fail
            go_roundw
            case rel => first | exact ⟨k + 1, q, al, cl, qs, by omega, by go_num, rfl, hql, hM, hK, hN⟩ | ((repeat apply Exists.intro); exact ⟨⟨k + 1, q, al, cl, qs, by omega, by go_num, rfl, hql, hM, hK, hN⟩, rfl⟩)
            case measure => simp [intOf]; omega
        · have hp1' : K < 1 := by omega
          clear hbl hbr c1
          go_wp2_with fail
          go_roundw
          case rel => first | exact ⟨k + 1, q, al, cl, qs, by omega, by go_num, rfl, hql, hM, hK, hN⟩ | ((repeat apply Exists.intro); exact ⟨⟨k + 1, q, al, cl, qs, by omega, by go_num, rfl, hql, hM, hK, hN⟩, rfl⟩)
          case measure => simp [intOf]; omega
      · have hq1 : ¬ (q : Int) < 12 := by omega
        go_wp2_with fail
        go_ret
        first | exact ⟨_, rfl, ⟨qs, hM.out⟩, hK.out, hN.out⟩ | exact ⟨_, qs, rfl, hM.out, hK.out, hN.out⟩
    · have hk1 : ¬ (k : Int) < (n : Int) := by omega
      go_wp2_with fail
      go_ret
      first | exact ⟨_, rfl, ⟨qs, hM.out⟩, hK.out, hN.out⟩ | exact ⟨_, qs, rfl, hM.out, hK.out, hN.out⟩
end Go.Proofs.YtknbkhmpnanegaaDoor
