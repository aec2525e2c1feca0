/- electionlaw23.BoardOwn. -/
import Derived.Test.YtknbkhmpnanegaaDoorBE
import Derived.Test.YtknbkhmpnanegaaDoorBH
namespace Go.Proofs.YtknbkhmpnanegaaDoor
open Go.RowKit Go.Mk Go.Sha Go.Brd
set_option maxRecDepth 100000 in
set_option maxHeartbeats 2000000 in
theorem post_down (k : Int) (vb : Value) (w : World) :
    Calls Tryd.prog 27 #[.pointer none, .int .i64 k, vb] w fun ed w' => ed = .returned (.tuple #[Ev EZ (.slice none 0 0), .int .i64 12]) ∧ Kept no w w' := by
  have hok := hid (EZ_ok w)
  have hzs := hid ZE_size
  go_enter Tryd.func27, Tryd.ntmps27
  go_upto_region 1 with fail
  obtain ⟨w1, hw1, g6, k1⟩ := ze_block w
  unfold ZE at hw1
  rw [show (entC ⟨0, 0, [], Z32l⟩ (.slice none 0 0)).toArray = _ from ZE_eq.symm] at hw1
  rw [← hw1]
  clear hw1
  replace g6 := hid g6
  replace k1 := hid k1
  have g7 := hid (setRow_heap w1 w.heap.size _ (entC EZ (.slice none 0 0)).toArray _ _ g6.out)
  have K7 := hid (k1.out.setRow (g := w.heap.size) (.inr (Nat.le_refl _)) (entC EZ (.slice none 0 0)).toArray)
  go_wp2_with (first | (refine bz rfl rfl ?_) | (with_reducible refine se rfl _ _ rfl w.heap.size rfl EZ (.slice none 0 0) rfl _ g6.out hzs.out hok.out ?_))
  refine bodyPost_ret (v := .tuple #[Ev EZ (.slice none 0 0), .int .i64 12]) ?_ rfl ?_
  · exact results_ev_tmp rfl _ _ w.heap.size EZ (.slice none 0 0) _ rfl rfl g7.out hok.out
  · exact ⟨rfl, K7.out⟩
set_option maxRecDepth 100000 in
set_option maxHeartbeats 1000000 in
theorem entries_nil (w : World) : Calls Tryd.prog 31 #[.pointer none] w fun ed w' => ed = .returned (.slice none 0 0) ∧ Kept no w w' := by
  go_enter Tryd.func31, Tryd.ntmps31
  go_wp2_with fail
  go_ret
  exact ⟨rfl, Kept.refl _ _⟩
theorem Bd.keptS {S : Nat → Prop} {w w' : World} {g : Nat} {v : Value} {ps : List (Ent × Value)} (h : Bd w g v ps) (k : Kept S w w') (h1 : ¬ S g) (h2 : ∀ j, v.ownBlock = some j → ¬ S j) (h3 : ∀ p ∈ ps, ∀ j, p.2.ownBlock = some j → ¬ S j) : Bd w' g v ps :=
  ⟨(k.block g (lt_of_heap h.at_) h1).trans h.at_, k.ownsRow h.own h2, fun p hp => (h.all p hp).kept k (h3 p hp)⟩
/-- The first byte of a row of bytes. -/
theorem own_first {w : World} {v : Value} {x : UInt8} {xs : List UInt8} (h : w.ownsRow 0 5 1 v (x :: xs).length ((x :: xs).map B)) :
    ∃ g c, v = .slice (some ⟨g, 0, none⟩) (x :: xs).length c ∧ v.ownBlock = some g ∧ w.cell? ⟨g, 0, none⟩ = some (.int .u8 (x.toNat : Int)) ∧ w.frozen? ⟨g, 0, none⟩ = false ∧ ∃ cur, w.heap[g]? = some (.cells cur 5 (0, 0)) := by
  obtain ⟨_, ⟨_, h0⟩ | ⟨g, c, cur, rfl, _, hg, hn, _, hcs, ht⟩⟩ := h
  · simp at h0
  · refine ⟨g, c, rfl, rfl, ?_, row_free hg 0, cur, hg⟩
    rw [cell_of_row w g 0 cur _ (0, 0) hg]
    have : (cur.toList.take ((x :: xs).length * 1))[0]? = ((x :: xs).map B)[0]? := by rw [ht]
    rw [List.getElem?_take] at this
    simp at this
    have hB : B x = .int .u8 (x.toNat : Int) := rfl
    rw [← hB]
    simpa using this
theorem own_ne {w : World} {e t : TypeId} {size n : Nat} {v : Value} {xs : List Value} (h : w.ownsRow 0 e size v n xs) {g : Nat} {c : Array Value} {fr : Nat × Nat} (hg : w.heap[g]? = some (.cells c t fr)) (ht : e ≠ t) : ∀ j, v.ownBlock = some j → j ≠ g := fun j hj e => by
  obtain ⟨_, ⟨rfl, _⟩ | ⟨k, _, _, rfl, _, hk, _⟩⟩ := h
  · cases hj
  · have : k = j := by simpa [Value.ownBlock] using hj
    subst this e
    rw [hk] at hg
    simp only [Option.some.injEq, Obj.cells.injEq] at hg
    exact ht hg.2.1
theorem own_lt {w : World} {e : TypeId} {size n : Nat} {v : Value} {xs : List Value} (h : w.ownsRow 0 e size v n xs) : ∀ j, v.ownBlock = some j → j < w.heap.size := fun j hj => by
  obtain ⟨_, ⟨rfl, _⟩ | ⟨k, _, _, rfl, _, hk, _⟩⟩ := h
  · cases hj
  · have : k = j := by simpa [Value.ownBlock] using hj
    subst this
    exact lt_of_heap hk
theorem frU {w : World} {g : Nat} {c : Array Value} {t : TypeId} (h : w.heap[g]? = some (.cells c t (0, 0))) : w.frozen? ⟨g, 0, none⟩ = false := row_free h 0
set_option maxRecDepth 100000 in
set_option maxHeartbeats 16000000 in
theorem boardown_any (v : Value) (body : List UInt8) (w : World) (hl : body.length ≤ 9223372036854775807) (hr : Rd w 1 v body.length (body.map B)) (hT : Tab w) :
    Calls Tryd.prog 9 #[v] w fun ed w' => ed = .returned (.bool true) ∧ Kept no w w' := by
  obtain ⟨ao, cap, rfl⟩ := Rd.shapeZ hr
  have hr20 := Rd.cut hr 20
  have hcap : body.length ≤ cap := by obtain ⟨_, _, _, e, h1, _⟩ := hr; cases e; exact h1
  obtain ⟨n, hn⟩ : ∃ n, body.length = n := ⟨_, rfl⟩
  rw [hn] at hr20 hl hcap
  have hq : (if 20 < (n : Int) then (20 : Int) else (n : Int)) = ((min n 20 : Nat) : Int) := by split <;> omega
  have hqm : min (n : Int) 20 = ((min n 20 : Nat) : Int) := by omega
  have hqc : ((min n 20 : Nat) : Int) ≤ (cap : Int) := by omega
  have hq0 : (0 : Int) ≤ ((min n 20 : Nat) : Int) := by omega
  have hxl : Hd ((body.take 20).length ≤ 20) := ⟨by rw [List.length_take]; omega⟩
  rw [hn]
  generalize min n 20 = nb at hr20 hq hqm hqc hq0
  generalize body.take 20 = xs at hr20 hxl
  have hnb : nb = xs.length := by obtain ⟨h0, _, _, e, _⟩ := hr20; cases e; rfl
  subst hnb
  clear hr hn
  replace hr20 := hid hr20
  replace hT := hid hT
  have hl1 := hid (heap_alloc_new w (.cells #[.int .u8 3] 5))
  have hlr : Hd ((w.alloc (.cells #[.int .u8 3] 5)).ownsRow 0 5 1 (.slice (some ⟨w.heap.size, 0, none⟩) 1 1) 1 [B 3]) := ⟨rfl, .inr ⟨_, 1, _, rfl, Nat.zero_le _, hl1.out, Nat.le_refl _, by decide, rfl, rfl⟩⟩
  have K0 := hid ((Kept.refl no w).alloc (.cells #[.int .u8 3] 5))
  have hr20' := hid (hr20.out.keptNo K0.out)
  go_enter Tryd.func9, Tryd.ntmps9
  go_wp2_with (at_builtin; refine wpList_append _ rfl _ _ 43 rfl 5 1 1 TBytes _ _ _ rfl hlr.out _ _ _ rfl hr20'.out (B_one _) ?c1 ?c2 ?_)
  case c1 => have := hxl.out; unfold maxLen; omega
  case c2 => have := hxl.out; omega
  intro v1 w1 ho1 hk1 hn1 _
  have K1 : Hd (Kept no w w1) := ⟨K0.out.trans hk1 fun j hj h => by have : w.heap.size = j := by simpa [ob, Value.ownBlock] using h
                                                                    omega⟩
  have o1 : Hd (w1.ownsRow 0 5 1 v1 (3 :: xs).length ((3 :: xs).map B)) := ⟨by rw [List.length_cons, Nat.add_comm]; simpa using ho1⟩
  clear ho1 hk1 hl1 hlr hr20 hr20' hq hqm hqc hq0 hcap hl
  have hg1w : Hd (∀ j, v1.ownBlock = some j → w.heap.size ≤ j) := ⟨fun j hj => by
    rcases hn1 with h | ⟨p, h, hp⟩
    · have e : w.heap.size = j := by have := h.symm.trans hj; simpa [Value.ownBlock] using this
      omega
    · have e : p = j := by have := h.symm.trans hj; simpa using this
      have := K0.out.size; omega⟩
  obtain ⟨X, hX⟩ : ∃ X : List UInt8, X = 3 :: xs := ⟨_, rfl⟩
  obtain ⟨g1, c1, e1, eb1, cc1, ff1, cu1, hg1⟩ := own_first o1.out
  have hgw1 : Hd (w.heap.size ≤ g1) := ⟨hg1w.out g1 eb1⟩
  rw [← hX] at o1 e1
  have hXl : Hd (X.length ≤ 1000) := ⟨by rw [hX]; have := hxl.out; simp; omega⟩
  replace hX := hid hX
  clear hn1 K0 hg1w
  replace cc1 := hid cc1
  replace eb1 := hid eb1
  replace hg1 := hid hg1
  have r1 := hid (Rd.of_own o1.out)
  subst e1
  clear ff1
  obtain ⟨m, hm⟩ : ∃ m, X.length = m := ⟨_, rfl⟩
  rw [hm] at o1 r1 hXl ⊢
  replace hm := hid hm
  go_wp2_with (at_builtin; refine wpList_append _ rfl _ _ 43 rfl 5 1 1 TBytes _ _ _ rfl (World.ownsRow_nil _ _ _ _) _ _ _ rfl r1.out (B_one _) ?c1 ?c2 ?_)
  case c1 => have := hXl.out; unfold maxLen; omega
  case c2 => have := hXl.out; omega
  intro v2 w2 ho2 hk2 hn2 _
  have k2 := hid hk2.ob_nil
  have o2 : Hd (w2.ownsRow 0 5 1 v2 m (X.map B)) := ⟨by simpa using ho2⟩
  have n2 : Hd (New w1 v2) := ⟨by rcases hn2 with h | ⟨j, h, hl⟩
                                  · exact .inl h
                                  · exact .inr ⟨j, h, hl⟩⟩
  have o12 := hid (k2.out.ownsRow o1.out fun _ _ => id)
  have K2 := hid (K1.out.trans' k2.out)
  obtain ⟨g, hgw, HNW⟩ : ∃ g, w2.heap.size ≤ g ∧ Calls Tryd.prog 26 #[] w2 fun ed w' => ed = .returned (.pointer (some ⟨g, 0, none⟩)) ∧ Bd w' g (.slice none 0 0) [] ∧ Kept no w2 w' := ⟨_, Nat.le_refl _, new_any w2⟩
  replace HNW := hid HNW
  replace hgw := hid hgw
  have hs12 := hid k2.out.size
  clear ho2 hk2 hn2 k2 r1 o1 K1
  go_wp2_with fail
  refine HNW.out.mono ?_
  rintro ed w3 ⟨rfl, hB3, k3⟩
  have o13 := k3.ownsRow o12.out fun _ _ => id
  have o23 := hid (k3.ownsRow o2.out fun _ _ => id)
  have K3 := hid (K2.out.trans' k3)
  have HP := hid (post_any g (.slice none 0 0) [] 2 (.slice (some ⟨g1, 0, none⟩) m c1) X w3 hB3 (by decide) (by simp) (by rw [hm.out]; exact hXl.out) (by rw [hm.out]; exact Rd.of_own o13) (hT.out.kept K3.out))
  have hg13 : Hd (g1 < w2.heap.size) := ⟨Nat.lt_of_lt_of_le (lt_of_heap hg1.out) hs12.out⟩
  have hs23 := hid k3.size
  have hw2 := hid K2.out.size
  have hb3 := hid hB3.at_
  replace o13 := hid o13
  clear k3 hB3 HNW o12 o2 K2
  go_wp2_with fail
  refine HP.out.mono ?_
  rintro ed w4 ⟨v4, vc, vr, rfl, hB4, hE4, k4, hn4, hr4, hd4, hc4⟩
  obtain ⟨EF, hEF⟩ : ∃ EF : Ent, nxt [] 2 X = EF := ⟨_, rfl⟩
  have hbd : Hd (EF.body = X) := ⟨by rw [← hEF]; rfl⟩
  rw [hEF] at hB4 hE4 ⊢
  rw [List.nil_append] at hB4
  clear hEF
  have K4 : Hd (Kept no w w4) := ⟨K3.out.trans k4 fun j hj h => by
    rcases h with h | h
    · have := hgw.out; have := hw2.out; omega
    · cases h⟩
  have o14 := hid (k4.ownsRow o13.out (fun j hj h => by
    rcases h with h | h
    · exact own_ne o13.out hb3.out (by decide) j hj h
    · cases h))
  have o24 := hid (k4.ownsRow o23.out (fun j hj h => by
    rcases h with h | h
    · exact own_ne o23.out hb3.out (by decide) j hj h
    · cases h))
  have hg3 : Hd (g < w3.heap.size) := ⟨lt_of_heap hb3.out⟩
  have hE4' := hid (show w4.ownsRow 0 5 1 vr (3 :: xs).length ((3 :: xs).map B) by have := hE4.2.2; rw [hbd.out, hX.out] at this; exact this)
  obtain ⟨gr, cr, er, ebr, ccr, ffr, cur, hgr⟩ := own_first hE4'.out
  replace ccr := hid ccr
  replace ebr := hid ebr
  clear ffr
  have hml : Hd ((3 :: xs).length = m) := ⟨by rw [← hX.out, hm.out]⟩
  rw [hml.out] at er
  subst er
  have n2lt := hid (n2.out.fr (Nat.le_refl _))
  have l2 := hid (own_lt o23.out)
  have hgr3 : Hd (w3.heap.size ≤ gr) := ⟨hr4.fr (Nat.le_refl _) gr ebr.out⟩
  have hdc : Hd (∀ j, vc.ownBlock = some j → j ≠ gr) := ⟨fun j h e => hd4 gr ebr.out (by rw [← e]; exact h)⟩
  replace hc4 := hid hc4
  have hcl : Hd (∀ j, vc.ownBlock = some j → j < w4.heap.size) := ⟨(hB4.all (EF, vc) (by simp)).lt⟩
  replace hE4 := hid hE4
  replace hB4 := hid hB4
  replace hgr := hid hgr
  have hok4 := hid hE4.out.ok
  have hN5 := hid (heap_alloc_new w4 (.cells ZE 47))
  obtain ⟨w5, hw5, g5, k5⟩ := ev_block w4 (entC EF (.slice (some ⟨gr, 0, none⟩) m cr))
  have hZs := hid ZE_size
  unfold ZE at hN5 hw5 hZs
  rw [show (entC ⟨0, 0, [], Z32l⟩ (.slice none 0 0)).toArray = _ from ZE_eq.symm] at hN5 hw5 hZs
  replace hw5 := hid hw5
  have K5 := hid (K4.out.trans' k5)
  have hB5 := hid (hB4.out.kept k5)
  have o15 := hid (k5.ownsRow o14.out fun _ _ => id)
  have o25 := hid (k5.ownsRow o24.out fun _ _ => id)
  have oR5 := hid (k5.ownsRow hE4'.out fun _ _ => id)
  have c5 : w5.cell? ⟨w4.heap.size, 2, none⟩ = some (.slice (some ⟨gr, 0, none⟩) m cr) := by rw [cell_of_row w5 _ 2 _ _ _ g5]; rfl
  have hlg5 := hid (lt_of_heap g5)
  have hgr4 : Hd (gr < w4.heap.size) := ⟨lt_of_heap hgr.out⟩
  have hs34 := hid k4.size
  have hs45 := hid k5.size
  clear hn4 hr4 hd4 k4 k5 o13 o23 K3 HP hB4 K4 o14 o24 hE4' hgr
  go_upto_region 5 with (with_reducible refine se rfl _ _ rfl w4.heap.size rfl EF (.slice (some ⟨gr, 0, none⟩) m cr) rfl _ hN5.out hZs.out hok4.out ?_; rw [← hw5.out])
  clear hN5 hw5 hZs g5
  have HE := eq_any (.slice (some ⟨gr, 0, none⟩) m cr) v2 X X w5 (by rw [hm.out]; have := hXl.out; omega) (by rw [hm.out]; have := hXl.out; omega) (by have := Rd.of_own oR5.out; rw [← hX.out] at this; exact this) (by rw [hm.out]; exact Rd.of_own o25.out)
  rw [decide_eq_true rfl] at HE
  replace HE := hid HE
  go_wp2_with fail
  refine HE.out.mono ?_
  rintro ed w6 ⟨rfl, qq, hw6⟩
  have k6 : Kept no w5 w6 := by rw [hw6]; exact (Kept.refl no w5).drewN qq
  clear hw6 HE
  have K6 := hid (K5.out.trans' k6)
  have hB6 := hid (hB5.out.kept k6)
  have o16 := k6.ownsRow o15.out fun _ _ => id
  have o26 := hid (k6.ownsRow o25.out fun _ _ => id)
  have oR6 := hid (k6.ownsRow oR5.out fun _ _ => id)
  have c6 := hid (k6.cell c5 id)
  obtain ⟨g1', c1', e1', eb1', cc1', ff1', cu1', hg1'⟩ := own_first (x := 3) (xs := xs) (by rw [← hX.out, hm.out]; exact o16)
  cases e1'
  have cc := cc1'
  have hg1r := hid hg1'
  have hs56 := hid k6.size
  clear c5 k6 o15 o25 oR5 hB5 K5 o16 eb1'
  go_upto_region 8 with fail
  clear cc cc1' ff1' hg1'
  obtain ⟨w7, hw7, k7⟩ : ∃ w7, w7 = w6.setCell ⟨g1, 0, none⟩ (.int .u8 4) ∧ Kept (fun j => j = g1) w6 w7 := ⟨_, rfl, (Kept.refl (fun j => j = g1) w6).setCell (a := ⟨g1, 0, none⟩) (.inl rfl) _⟩
  rw [← hw7]
  have a1 : Hd (g1 < w2.heap.size ∧ w2.heap.size ≤ g ∧ g < w3.heap.size ∧ w3.heap.size ≤ w4.heap.size ∧ w4.heap.size ≤ w5.heap.size ∧ w5.heap.size ≤ w6.heap.size) := ⟨hg13.out, hgw.out, hg3.out, hs34.out, hs45.out, hs56.out⟩
  have K7 : Hd (Kept no w w7) := ⟨K6.out.trans k7 fun j hj e => by
    have e : j = g1 := e
    subst e
    have := hgw1.out; omega⟩
  have a2 : Hd (w3.heap.size ≤ gr ∧ gr < w4.heap.size) := ⟨hgr3.out, hgr4.out⟩
  have a3 : Hd (∀ j, v2.ownBlock = some j → w1.heap.size ≤ j ∧ j < w3.heap.size) := ⟨fun j h => ⟨n2lt.out j h, l2.out j h⟩⟩
  have hg1l := hid (lt_of_heap hg1.out)
  have hB7 := hid (hB6.out.keptS k7 (by have := a1.out; omega) (fun j h => own_ne hB6.out.own hg1r.out (by decide) j h) (fun p hp j h e => by
    obtain rfl : p = (EF, vc) := by simpa using hp
    have e : j = g1 := e
    have := hc4.out j h; have := a1.out; omega))
  have o27 := hid (k7.ownsRow o26.out (fun j h e => by
    have e : j = g1 := e
    have := a3.out j h; have := hg1l.out; omega))
  have oR7 := hid (k7.ownsRow oR6.out (fun j h e => by
    have e : j = g1 := e
    have e2 : gr = j := by simpa [Value.ownBlock] using h
    have := a1.out; have := a2.out; omega))
  have c7 := k7.cell c6.out (fun e => by have e : w4.heap.size = g1 := e; have := a1.out; omega)
  obtain ⟨gr', cr', er', ebr', cc, ff, cur', hgr'⟩ := own_first oR7.out
  rw [← hX.out, hm.out] at er'
  cases er'
  have hs67 := hid k7.size
  replace hgr' := hid hgr'
  clear k7 hB6 o26 oR6 c6 K6 hw7 hg1r ebr' oR7
  go_upto_region 9 with fail
  clear cc ff c7
  obtain ⟨w8, hw8, k8⟩ : ∃ w8, w8 = w7.setCell ⟨gr, 0, none⟩ (.int .u8 4) ∧ Kept (fun j => j = gr) w7 w8 := ⟨_, rfl, (Kept.refl (fun j => j = gr) w7).setCell (a := ⟨gr, 0, none⟩) (.inl rfl) _⟩
  rw [← hw8]
  have K8 : Hd (Kept no w w8) := ⟨K7.out.trans k8 fun j hj e => by
    have e : j = gr := e
    have := a1.out; have := a2.out; have := hw2.out; omega⟩
  have hB8 := hid (hB7.out.keptS k8 (by have := a1.out; have := a2.out; omega) (fun j h => own_ne hB7.out.own hgr'.out (by decide) j h) (fun p hp j h e => by
    obtain rfl : p = (EF, vc) := by simpa using hp
    exact hdc.out j h e))
  have o28 := hid (k8.ownsRow o27.out (fun j h e => by
    have e : j = gr := e
    have := a3.out j h; have := a2.out; omega))
  have hs78 := hid k8.size
  clear k8 hw8 hB7 o27 K7 hgr'
  have HN := hid (entries_any g v4 [(EF, vc)] w8 hB8.out (by simp))
  go_wp2_with fail
  refine HN.out.mono ?_
  rintro ed w9 ⟨ve, es, rfl, he1, he2, he3, k9, he4, he5⟩
  obtain ⟨vx, rfl⟩ : ∃ vx, es = [(EF, vx)] := by
    match es, he1 with
    | [(e, vx)], he1 => exact ⟨vx, by have : e = EF := by simpa [ents] using he1
                                      rw [this]⟩
    | [], he1 => simp [ents] at he1
    | _ :: _ :: _, he1 => simp [ents] at he1
  have hEx := hid (he3 (EF, vx) (by simp))
  have hnx := hid (he5 (EF, vx) (by simp))
  have he2' := he2
  obtain ⟨_, ⟨_, h0⟩ | ⟨gl, cl, cur9, rfl, _, hgl, hn9, _, hcs9, ht9⟩⟩ := he2'
  · exact absurd h0 (by simp)
  have hgl2 : Hd (w9.cell? ⟨gl, 2, none⟩ = some vx) := ⟨by
    rw [cell_of_row w9 gl 2 cur9 _ (0, 0) hgl]
    have h : (cur9.toList.take (1 * 35))[2]? = (flatE [(EF, vx)])[2]? := by rw [← ht9]; rfl
    rw [List.getElem?_take] at h
    simpa [flatE, entC] using h⟩
  have K9 := hid (K8.out.trans' k9)
  have hB9 := hid (hB8.out.kept k9)
  have o29 := hid (k9.ownsRow o28.out fun _ _ => id)
  have hs89 := hid k9.size
  have HE := eq_any vx v2 X X w9 (by rw [hm.out]; have := hXl.out; omega) (by rw [hm.out]; have := hXl.out; omega) (by have := hEx.out.ok.2.2; rwa [hbd.out] at this) (by rw [hm.out]; exact Rd.of_own o29.out)
  rw [decide_eq_true rfl] at HE
  replace HE := hid HE
  have c9 := hgl2.out
  clear HN he1 he2 he3 he4 he5 k9 K8 hB8 o28 hgl hn9 hcs9 ht9
  go_wp2_with fail
  refine HE.out.mono ?_
  rintro ed wa ⟨rfl, qa, hwa⟩
  have ka : Kept no w9 wa := by rw [hwa]; exact (Kept.refl no w9).drewN qa
  clear hwa HE c9
  have Ka := hid (K9.out.trans' ka)
  have hBa := hid (hB9.out.kept ka)
  have o2a := hid (ka.ownsRow o29.out fun _ _ => id)
  have hEa := hid (hEx.out.keptNo ka)
  have ca := ka.cell hgl2.out id
  have oXa : wa.ownsRow 0 5 1 vx (3 :: xs).length ((3 :: xs).map B) := by have := hEa.out.2.2; rwa [hbd.out, hX.out] at this
  obtain ⟨gx, cx, ex, ebx, cc, ff, cux, hgx⟩ := own_first oXa
  rw [← hX.out, hm.out] at ex
  subst ex
  have hgx8 := hid (hnx.out.fr (Nat.le_refl _) gx ebx)
  have hgx1 := hid hgx
  have hs9a := hid ka.size
  clear ka K9 hB9 o29 hEx hnx hgl2 oXa ebx hgx
  go_upto_region 13 with fail
  clear cc ff ca
  obtain ⟨wb, hwb, kb⟩ : ∃ wb, wb = wa.setCell ⟨gx, 0, none⟩ (.int .u8 4) ∧ Kept (fun j => j = gx) wa wb := ⟨_, rfl, (Kept.refl (fun j => j = gx) wa).setCell (a := ⟨gx, 0, none⟩) (.inl rfl) _⟩
  rw [← hwb]
  have hs38 : Hd (w3.heap.size ≤ w8.heap.size ∧ w.heap.size ≤ w3.heap.size ∧ g < w8.heap.size) := ⟨by have := a1.out; have := hs67.out; have := hs78.out; have := hw2.out; omega⟩
  have hv8 : Hd (∀ p ∈ [(EF, vc)], ∀ j, p.2.ownBlock = some j → j ≠ gx) := ⟨fun p hp j h e => by
    obtain rfl : p = (EF, vc) := by simpa using hp
    have := hcl.out j h; have := hgx8.out; have := hs34.out; have := hs38.out; have := a1.out; have := hs67.out; have := hs78.out; omega⟩
  have Kb : Hd (Kept no w wb) := ⟨Ka.out.trans kb fun j hj e => by
    have e : j = gx := e
    have := hgx8.out; have := hs38.out; omega⟩
  have hBb := hid (hBa.out.keptS kb (by have := hgx8.out; have := hs38.out; omega) (fun j h => own_ne hBa.out.own hgx1.out (by decide) j h) (fun p hp j h e => hv8.out p hp j h e))
  have o2b := hid (kb.ownsRow o2a.out (fun j h e => by
    have e : j = gx := e
    have := a3.out j h; have := hgx8.out; have := hs38.out; omega))
  clear kb hwb hBa o2a Ka hgx1 hv8 hEa
  have HD := hid (post_down 1 (.slice none 0 0) wb)
  go_wp2_with fail
  refine HD.out.mono ?_
  rintro ed wc ⟨rfl, kc⟩
  have hokZ := hid (EZ_ok w)
  have hN5 := hid (heap_alloc_new wc (.cells ZE 47))
  obtain ⟨wd, hwd, gd, kd⟩ := ev_block wc (entC EZ (.slice none 0 0))
  have hZs := hid ZE_size
  unfold ZE at hN5 hwd hZs
  rw [show (entC ⟨0, 0, [], Z32l⟩ (.slice none 0 0)).toArray = _ from ZE_eq.symm] at hN5 hwd hZs
  replace hwd := hid hwd
  have kcd := kc.trans' kd
  have Kd := hid (Kb.out.trans' kcd)
  have hBd := hid (hBb.out.kept kcd)
  have o2d := hid (kcd.ownsRow o2b.out fun _ _ => id)
  have HN := hid (entries_any g v4 [(EF, vc)] wd hBd.out (by simp))
  clear kc kd kcd gd HD hBb o2b Kb
  go_wp2_with (with_reducible refine se rfl _ _ rfl wc.heap.size rfl EZ (.slice none 0 0) rfl _ hN5.out hZs.out hokZ.out ?_; rw [← hwd.out])
  clear hN5 hwd hZs
  refine HN.out.mono ?_
  rintro ed we ⟨ve, es, rfl, he1, he2, he3, ke, he4, he5⟩
  obtain ⟨vx, rfl⟩ : ∃ vx, es = [(EF, vx)] := by
    match es, he1 with
    | [(e, vx)], he1 => exact ⟨vx, by have : e = EF := by simpa [ents] using he1
                                      rw [this]⟩
    | [], he1 => simp [ents] at he1
    | _ :: _ :: _, he1 => simp [ents] at he1
  have hEx := hid (he3 (EF, vx) (by simp))
  obtain ⟨_, ⟨_, h0⟩ | ⟨gm, cm, cur9, rfl, _, hgl, hn9, _, hcs9, ht9⟩⟩ := he2
  · exact absurd h0 (by simp)
  have hgl2 : Hd (we.cell? ⟨gm, 2, none⟩ = some vx) := ⟨by
    rw [cell_of_row we gm 2 cur9 _ (0, 0) hgl]
    have h : (cur9.toList.take (1 * 35))[2]? = (flatE [(EF, vx)])[2]? := by rw [← ht9]; rfl
    rw [List.getElem?_take] at h
    simpa [flatE, entC] using h⟩
  have Ke := hid (Kd.out.trans' ke)
  have o2e := hid (ke.ownsRow o2d.out fun _ _ => id)
  have HA := hid (awake23_any we (hT.out.kept Ke.out))
  clear HN he1 he3 he4 he5 ke hgl hn9 hcs9 ht9 hBd o2d Kd
  go_wp2_with fail
  refine HA.out.mono ?_
  rintro ed wf ⟨rfl, kf⟩
  have Kf := hid (Ke.out.trans' kf)
  have hEf := hid (hEx.out.keptNo kf)
  have o2f := hid (kf.ownsRow o2e.out fun _ _ => id)
  have cf := kf.cell hgl2.out id
  have HE := eq_any vx v2 X X wf (by rw [hm.out]; have := hXl.out; omega) (by rw [hm.out]; have := hXl.out; omega) (by have := hEf.out.ok.2.2; rwa [hbd.out] at this) (by rw [hm.out]; exact Rd.of_own o2f.out)
  rw [decide_eq_true rfl] at HE
  replace HE := hid HE
  clear kf HA Ke o2e hEx hgl2
  go_wp2_with fail
  refine HE.out.mono ?_
  rintro ed wg ⟨rfl, qg, hwg⟩
  have kg : Kept no wf wg := by rw [hwg]; exact (Kept.refl no wf).drewN qg
  clear hwg HE cf
  have Kg := hid (Kf.out.trans' kg)
  have HZ := hid (entries_nil wg)
  clear kg Kf
  go_wp2_with fail
  refine HZ.out.mono ?_
  rintro ed wh ⟨rfl, kh⟩
  have Kh := hid (Kg.out.trans' kh)
  clear kh Kg
  go_wp2_with fail
  go_ret
  exact ⟨rfl, Kh.out⟩
end Go.Proofs.YtknbkhmpnanegaaDoor
