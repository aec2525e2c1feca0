/- PileFits: the walk (printed by gen_lfits.py). -/
import Derived.Test.YtmigdhbolbhbeaaFit
import Derived.Test.YtmigdhbolbhbeaaCont
import Derived.Test.YtmigdhbolbhbeaaPermE
import Derived.Test.YtmigdhbolbhbeaaGen4
import Derived.Test.YtmigdhbolbhbeaaLCounts
namespace Go.Proofs.Ytmigdhbolbhbeaa
open Go.RowKit Go.Mk Go.Pil
/-- Some well-shaped data. -/
def FitR (w : World) (g : Nat) (s0 s2 s3 : Value) (wx : World) : Prop := ∃ (m : Int) (nm : ByteArray) (ac : Option Addr) (n cc : Nat) (cm s ra d t ov sk : Int) (ps : List (Grp × Value)) (zs : List Int), s0 = .int .i64 m ∧ wx.heap[g]? = some (.cells (conC nm ac n cc cm s ra d t ov sk).toArray 55 (0, 0)) ∧ RdG wx s2 ps ∧ RdZ wx s3 zs ∧ Kept no w wx
theorem conC_inf (nm : ByteArray) (ac : Option Addr) (n cc : Nat) (cm s ra d t ov sk : Int) : (Try.prog.info? 55).map (·.size) = some (conC nm ac n cc cm s ra d t ov sk).length := by kernel_rfl
theorem con_set {w : World} {g : Nat} {nm : ByteArray} {ac : Option Addr} {n cc : Nat} {cm s ra d t ov sk : Int} (h : w.heap[g]? = some (.cells (conC nm ac n cc cm s ra d t ov sk).toArray 55 (0, 0))) :
    (∀ x : Int, (w.setCell ⟨g, 3, none⟩ (.int .i64 x)).heap[g]? = some (.cells (conC nm ac n cc cm x ra d t ov sk).toArray 55 (0, 0)))
    ∧ (∀ x : Int, (w.setCell ⟨g, 5, none⟩ (.int .i64 x)).heap[g]? = some (.cells (conC nm ac n cc cm s ra x t ov sk).toArray 55 (0, 0)))
    ∧ (∀ x : Int, (w.setCell ⟨g, 6, none⟩ (.int .i64 x)).heap[g]? = some (.cells (conC nm ac n cc cm s ra d x ov sk).toArray 55 (0, 0)))
    ∧ (∀ (a2 : Option Addr) (n2 c2 : Nat), (w.setCell ⟨g, 1, none⟩ (.slice a2 n2 c2)).heap[g]? = some (.cells (conC nm a2 n2 c2 cm s ra d t ov sk).toArray 55 (0, 0))) :=
  ⟨fun _ => setCell_row h 3 _, fun _ => setCell_row h 5 _, fun _ => setCell_row h 6 _, fun _ _ _ => setCell_row h 1 _⟩
theorem fitR_set {w w4 w5 W W' : World} {g : Nat} {vA vz : Value} {qA : List (Grp × Value)} {zz : List Int} (hS : Kept (fun j => j = g) W W') (h4 : g < w4.heap.size) (h5 : g < w5.heap.size) (oA : OwN w4 W vA qA) (oz : OwZ w5 W vz zz) (hgw : w.heap.size ≤ g) (kw : Kept no w W) {nm : ByteArray} {ac : Option Addr} {n cc : Nat} {cm s ra d t ov sk : Int} (b : W'.heap[g]? = some (.cells (conC nm ac n cc cm s ra d t ov sk).toArray 55 (0, 0))) (m : Int) : FitR w g (.int .i64 m) vA vz W' :=
  ⟨m, nm, ac, n, cc, cm, s, ra, d, t, ov, sk, qA, zz, rfl, b, oA.rdS hS (fun j e => by have e : j = g := e; omega), oz.rdS hS (fun j e => by have e : j = g := e; omega), kw.trans hS fun k hk e => by have e : k = g := e; omega⟩
theorem own_first {W : World} {v : Value} {N : Nat} {L : List Value} (h : W.ownsRow 0 3 1 v N L) (hN : 1 ≤ N) : ∃ q cz cur, v = .slice (some ⟨q, 0, none⟩) N cz ∧ W.heap[q]? = some (.cells cur 3 (0, 0)) ∧ (∃ u, W.cell? ⟨q, 0, none⟩ = some u) := by
  have hr := Rd.of_own h
  obtain ⟨h1, ⟨h, h0⟩ | ⟨g', c, cur, e', _, hg, hn, hcm, hcs, ht⟩⟩ := h
  · omega
  · refine ⟨g', c, cur, e', hg, ?_⟩
    rw [cell_of_row W _ 0 _ _ _ hg]
    exact ⟨_, Array.getElem?_eq_getElem (by omega)⟩
theorem setZ {W : World} {q N c : Nat} {zz : List Int} (h : W.ownsRow 0 3 1 (.slice (some ⟨q, 0, none⟩) N c) zz.length (zz.map Z)) (hl : zz.length = N) (x : Int) : RdZ (W.setCell ⟨q, 0, none⟩ (.int .i64 x)) (.slice (some ⟨q, 0, none⟩) N c) (zz.set 0 x) := by
  rw [hl] at h
  have := own_set h 0 (.int .i64 x)
  have e : (zz.map Z).set 0 (.int .i64 x) = (zz.set 0 x).map Z := by rw [List.map_set]; rfl
  rw [e] at this
  have h2 := Rd.of_own this
  unfold RdZ
  rw [List.length_set, hl]
  exact h2
theorem range_row {w : World} {g : Nat} {L : List Value} {t : TypeId} {fr : Nat × Nat} (h : w.heap[g]? = some (.cells L.toArray t fr)) : w.rangeAt g 0 L := fun j u hu => by
  rw [Nat.zero_add, cell_of_row w g j _ _ _ h]; simpa using hu
theorem names_int (x : Int) (w : World) (h0 : 0 ≤ x) (h1 : x ≤ 100) : Calls Try.prog 41 #[.int .i64 x] w fun e w' => ∃ a n c, e = .returned (.slice a n c) ∧ Kept no w w' := by
  obtain ⟨q, rfl⟩ : ∃ q : Nat, x = (q : Int) := ⟨x.toNat, by omega⟩
  exact (names_any q w (by omega)).mono fun e w' ⟨a, c, e1, k⟩ => ⟨a, q, c, e1, k⟩
set_option maxRecDepth 20000 in
set_option maxHeartbeats 8000000 in
theorem pilefits_any (m : Int) (nm : ByteArray) (ac : Option Addr) (nc cc : Nat) (cm s ra d t ov sk : Int) (v : Value) (ps : List (Grp × Value)) (vl : Value) (zs : List Int) (raw : Bool) (n code spoil : Int) (vb : Value) (bs : List (List Int × Value)) (w : World) (hg : RdG w v ps) (hz : RdZ w vl zs) (hr : RdB w vb bs) :
    Calls Try.prog 10 #[.int .i64 m, .agg #[.string nm, .slice ac nc cc, .int .i64 cm, .int .i64 s, .int .i64 ra, .int .i64 d, .int .i64 t, .int .i64 ov, .int .i64 sk], v, vl, .bool raw, .int .i64 n, .int .i64 code, .int .i64 spoil, vb] w fun e w' => e = .returned (.bool true) ∧ Kept no w w' := by
  obtain ⟨al, cl, rfl, hcl, hclm⟩ := Rd.shape2 hz
  obtain ⟨lz, hlz⟩ : ∃ l, zs.length = l := ⟨_, rfl⟩
  rw [hlz] at hz hcl ⊢
  replace hlz := hid hlz
  obtain ⟨w0, hw0, g0, k0⟩ := alloc_named w (.cells #[.string nm, .slice ac nc cc, .int .i64 cm, .int .i64 s, .int .i64 ra, .int .i64 d, .int .i64 t, .int .i64 ov, .int .i64 sk] 55)
  obtain ⟨g, hgg⟩ : ∃ g, w.heap.size = g := ⟨_, rfl⟩
  rw [hgg] at g0
  have hglt : Hd (g < w0.heap.size) := ⟨lt_of_heap g0⟩
  replace g0 : Hd (w0.heap[g]? = some (.cells (conC nm ac nc cc cm s ra d t ov sk).toArray 55 (0, 0))) := ⟨g0⟩
  have hr0 := hid hr
  replace hg := hid (hg.kept k0)
  replace hz := hid (hz.kept k0)
  replace hr := hid (hr.kept k0)
  replace hw0 := hid hw0
  replace hgg := hid hgg
  replace k0 := hid k0
  have K := hid (Kept.refl no w0)
  clear hcl hclm
  cases hs : shortG (grps ps) with
  | false =>
    replace hs := hid hs
    go_enter Try.func10, Try.ntmps10
    have H1 := short_any v ps w0 (hg.out.kept K.out)
    rw [hs.out] at H1
    replace H1 := hid H1
    go_wp2_with fail
    rw [← hw0.out, hgg.out]
    with_reducible refine H1.out.mono ?_
    rintro e x1 ⟨rfl, kq⟩
    replace K := hid (K.out.trans' kq.kept)
    clear H1 kq
    have H2 := awake_any x1
    replace H2 := hid H2
    go_wp2_with fail
    with_reducible refine H2.out.mono ?_
    rintro e x2 ⟨rfl, kq⟩
    replace K := hid (K.out.trans' kq)
    clear H2 kq
    go_wp2
    go_ret
    exact ⟨rfl, k0.out.trans' K.out⟩
  | true =>
    replace hs := hid hs
    cases hf : few (lists bs) with
    | false =>
      replace hf := hid hf
      go_enter Try.func10, Try.ntmps10
      have H1 := short_any v ps w0 (hg.out.kept K.out)
      rw [hs.out] at H1
      replace H1 := hid H1
      go_wp2_with fail
      rw [← hw0.out, hgg.out]
      with_reducible refine H1.out.mono ?_
      rintro e x1 ⟨rfl, kq⟩
      replace K := hid (K.out.trans' kq.kept)
      clear H1 kq
      have H2 := lawsmall_any vb bs x1 (hr.out.kept K.out)
      rw [hf.out] at H2
      replace H2 := hid H2
      go_wp2_with fail
      with_reducible refine H2.out.mono ?_
      rintro e x2 ⟨rfl, kq⟩
      replace K := hid (K.out.trans' kq.kept)
      clear H2 kq
      have H3 := awake_any x2
      replace H3 := hid H3
      go_wp2_with fail
      with_reducible refine H3.out.mono ?_
      rintro e x3 ⟨rfl, kq⟩
      replace K := hid (K.out.trans' kq)
      clear H3 kq
      go_wp2
      go_ret
      exact ⟨rfl, k0.out.trans' K.out⟩
    | true =>
      replace hf := hid hf
      by_cases h12 : 12 < lz
      · have h12' : (12 : Int) < (lz : Int) := by omega
        clear h12
        go_enter Try.func10, Try.ntmps10
        have H1 := short_any v ps w0 (hg.out.kept K.out)
        rw [hs.out] at H1
        replace H1 := hid H1
        go_wp2_with fail
        rw [← hw0.out, hgg.out]
        with_reducible refine H1.out.mono ?_
        rintro e x1 ⟨rfl, kq⟩
        replace K := hid (K.out.trans' kq.kept)
        clear H1 kq
        have H2 := lawsmall_any vb bs x1 (hr.out.kept K.out)
        rw [hf.out] at H2
        replace H2 := hid H2
        go_wp2_with fail
        with_reducible refine H2.out.mono ?_
        rintro e x2 ⟨rfl, kq⟩
        replace K := hid (K.out.trans' kq.kept)
        clear H2 kq
        have H3 := awake_any x2
        replace H3 := hid H3
        go_wp2_with fail
        with_reducible refine H3.out.mono ?_
        rintro e x3 ⟨rfl, kq⟩
        replace K := hid (K.out.trans' kq)
        clear H3 kq
        go_wp2
        go_ret
        exact ⟨rfl, k0.out.trans' K.out⟩
      have h12' : ¬ (12 : Int) < (lz : Int) := by omega
      by_cases hc12 : 12 < nc
      · have hc12' : (12 : Int) < (nc : Int) := by omega
        clear h12 hc12
        go_enter Try.func10, Try.ntmps10
        have H1 := short_any v ps w0 (hg.out.kept K.out)
        rw [hs.out] at H1
        replace H1 := hid H1
        go_wp2_with fail
        rw [← hw0.out, hgg.out]
        with_reducible refine H1.out.mono ?_
        rintro e x1 ⟨rfl, kq⟩
        replace K := hid (K.out.trans' kq.kept)
        clear H1 kq
        have H2 := lawsmall_any vb bs x1 (hr.out.kept K.out)
        rw [hf.out] at H2
        replace H2 := hid H2
        go_wp2_with fail
        with_reducible refine H2.out.mono ?_
        rintro e x2 ⟨rfl, kq⟩
        replace K := hid (K.out.trans' kq.kept)
        clear H2 kq
        have c1 : x2.cell? ⟨g, 1, none⟩ = some (.slice ac nc cc) := by rw [cell_of_row x2 _ 1 _ _ _ (K.out.blk g0.out)]; rfl
        have H3 := awake_any x2
        replace H3 := hid H3
        go_wp2_with fail
        with_reducible refine H3.out.mono ?_
        rintro e x3 ⟨rfl, kq⟩
        replace K := hid (K.out.trans' kq)
        clear H3 kq
        go_wp2
        go_ret
        exact ⟨rfl, k0.out.trans' K.out⟩
      have hc12' : ¬ (12 : Int) < (nc : Int) := by omega
      go_enter Try.func10, Try.ntmps10
      have H1 := short_any v ps w0 (hg.out.kept K.out)
      rw [hs.out] at H1
      replace H1 := hid H1
      go_wp2_with fail
      rw [← hw0.out, hgg.out]
      with_reducible refine H1.out.mono ?_
      rintro e x1 ⟨rfl, kq⟩
      replace K := hid (K.out.trans' kq.kept)
      clear H1 kq
      have H2 := lawsmall_any vb bs x1 (hr.out.kept K.out)
      rw [hf.out] at H2
      replace H2 := hid H2
      go_wp2_with fail
      with_reducible refine H2.out.mono ?_
      rintro e x2 ⟨rfl, kq⟩
      replace K := hid (K.out.trans' kq.kept)
      clear H2 kq
      have c1 : x2.cell? ⟨g, 1, none⟩ = some (.slice ac nc cc) := by rw [cell_of_row x2 _ 1 _ _ _ (K.out.blk g0.out)]; rfl
      go_upto_if 40 with fail
      have KA := hid (k0.out.trans' K.out)
      go_cut [0, 2, 3] (fun s0 s2 s3 wx => Hd (FitR w g s0 s2 s3 wx))
      case first =>
        cases raw with
        | true =>
          have hR : Hd (FitR w g (.int .i64 m) v (.slice al lz cl) x2) := ⟨m, nm, ac, nc, cc, cm, s, ra, d, t, ov, sk, ps, zs, rfl, K.out.blk g0.out, hg.out.kept K.out, hz.out.kept K.out, KA.out⟩
          go_wp2
          go_meet
          case rel => exact hR
        | false =>
          obtain ⟨hm0, hm1⟩ := modI_lt n 7 (by decide)
          obtain ⟨N, hN⟩ : ∃ N : Nat, 1 + modI n 7 = (N : Int) := ⟨(1 + modI n 7).toNat, by omega⟩
          generalize hmod : modI n 7 = mq at hm0 hm1 hN
          have hw1 : IntKind.i64.wrap (1 + mq) = (N : Int) := by rw [IntWalk.i64_in _ (by omega), hN]
          have hN1 : 1 ≤ N := by omega
          have hN7 : N ≤ 7 := by omega
          clear hN hm0 hm1
          replace hmod := hid hmod
          have HQ : Hd (∀ (k x : Int) (W : World), 0 < k → k ≤ 1000000 → Calls Try.prog 14 #[.int .i64 x, .int .i64 k] W fun e w' => e = .returned (.int .i64 (modI x k)) ∧ w' = W) := ⟨fun k x W h1 h2 => mod_any x k W h1 h2⟩
          have HN := hid names_int
          have bx := K.out.blk g0.out
          have c3 : x2.cell? ⟨g, 3, none⟩ = some (.int .i64 s) := by rw [cell_of_row x2 _ 3 _ _ _ bx]; rfl
          have c5 : x2.cell? ⟨g, 5, none⟩ = some (.int .i64 d) := by rw [cell_of_row x2 _ 5 _ _ _ bx]; rfl
          have c6 : x2.cell? ⟨g, 6, none⟩ = some (.int .i64 t) := by rw [cell_of_row x2 _ 6 _ _ _ bx]; rfl
          clear c1 bx hg hz hr
          go_wp2_with fail
          with_reducible refine (HQ.out 7 n _ (by decide) (by decide)).mono ?_
          rintro e x3 ⟨rfl, rfl⟩
          rw [hmod.out]
          have H4 := hid (gcontest_any m s d t N x3 (by omega))
          go_wp2_with fail
          with_reducible refine H4.out.mono ?_
          rintro e x4 ⟨nm2, ac2, m2, cc2, cm2, s2, ra2, d2, t2, ov2, sk2, rfl, kq⟩
          replace K := hid (K.out.trans' kq)
          replace KA := hid (KA.out.trans' kq)
          clear H4 kq
          clear c3 c5 c6
          have bx := K.out.blk g0.out
          have hinf : Hd ((Try.prog.info? 55).map (·.size) = some (conC nm2 ac2 m2 cc2 cm2 s2 ra2 d2 t2 ov2 sk2).toArray.size) := ⟨by kernel_rfl⟩
          have hold : Hd ((conC nm ac nc cc cm s ra d t ov sk).toArray.size = (conC nm2 ac2 m2 cc2 cm2 s2 ra2 d2 t2 ov2 sk2).toArray.size) := ⟨rfl⟩
          have hone : Hd ((conC nm2 ac2 m2 cc2 cm2 s2 ra2 d2 t2 ov2 sk2).toArray.all (·.oneCell') = true) := ⟨by simp [conC, Value.oneCell']⟩
          obtain ⟨w4, hw4⟩ : ∃ w4, w4 = x4.setRow g (conC nm2 ac2 m2 cc2 cm2 s2 ra2 d2 t2 ov2 sk2).toArray := ⟨_, rfl⟩
          have b4 : w4.heap[g]? = some (.cells (conC nm2 ac2 m2 cc2 cm2 s2 ra2 d2 t2 ov2 sk2).toArray 55 (0, 0)) := by rw [hw4]; exact setRow_heap x4 g _ _ _ _ bx
          have hgw : Hd (w.heap.size ≤ g) := ⟨by rw [hgg.out]; exact Nat.le_refl _⟩
          have KW : Kept no w w4 := by rw [hw4]; exact KA.out.setRow (.inr hgw.out) _
          have hlt4 : g < w4.heap.size := lt_of_heap b4
          have cm4 : w4.cell? ⟨g, 2, none⟩ = some (.int .i64 cm2) := by rw [cell_of_row w4 _ 2 _ _ _ b4]; rfl
          replace bx := hid bx
          replace b4 := hid b4
          replace KW := hid KW
          replace hlt4 := hid hlt4
          replace hw4 := hid hw4
          have K4 := hid (Kept.refl no w4)
          clear K KA hw0
          have H5 := genpileO_any (N : Int) vb bs 60 w4 (by omega) (by omega) (by decide) (hr0.out.kept KW.out)
          rw [show ((60 : Nat) : Int) = 60 from rfl] at H5
          replace H5 := hid H5
          go_wp2_with (with_reducible refine wpList_store_row rfl 55 _ _ rfl g (conC nm2 ac2 m2 cc2 cm2 s2 ra2 d2 t2 ov2 sk2).toArray rfl rfl 55 _ bx.out hinf.out hold.out hone.out ?_; rw [← hw4.out])
          with_reducible refine H5.out.mono ?_
          rintro e x5 ⟨vA, rfl, qA, _, oA⟩
          replace KW := hid (KW.out.trans' oA.kept)
          replace K4 := hid (K4.out.trans' oA.kept)
          replace oA := hid oA
          clear cm4
          clear H5
          have K5 := hid (Kept.refl no x5)
          have hlt5 : Hd (g < x5.heap.size) := ⟨Nat.lt_of_lt_of_le hlt4.out K4.out.size⟩
          have H6 := gperm_any N code x5 (by omega)
          replace H6 := hid H6
          go_wp2_with fail
          with_reducible refine H6.out.mono ?_
          rintro e x6 ⟨vz, zz, rfl, hzl, oz⟩
          replace KW := hid (KW.out.trans' oz.kept)
          replace K4 := hid (K4.out.trans' oz.kept)
          replace K5 := hid (K5.out.trans' oz.kept)
          obtain ⟨az, cz, rfl, hNc, _⟩ := Rd.shape2 oz.rd
          rw [hzl] at oz hNc ⊢
          replace oz := hid oz
          replace hzl := hid hzl
          clear H6
          have K6 := hid (Kept.refl no x6)
          go_wp2_with fail
          with_reducible refine (HQ.out 12 spoil _ (by decide) (by decide)).mono ?_
          rintro e x7 ⟨rfl, rfl⟩
          obtain ⟨hs0, hs1⟩ := modI_lt spoil 12 (by decide)
          generalize modI spoil 12 = sp at hs0 hs1 ⊢
          have oAW := hid (oA.out.keptNo K5.out)
          have bW := hid (K4.out.blk b4.out)
          rcases (show sp = 0 ∨ sp = 1 ∨ sp = 2 ∨ sp = 3 ∨ sp = 4 ∨ sp = 5 ∨ sp = 6 ∨ sp = 7 ∨ sp = 8 ∨ sp = 9 ∨ sp = 10 ∨ sp = 11 by omega) with rfl | rfl | rfl | rfl | rfl | rfl | rfl | rfl | rfl | rfl | rfl | rfl
          · skip
            go_wp2_with fail
            with_reducible refine (HQ.out 5 _ _ (by decide) (by decide)).mono ?_
            rintro e y1 ⟨rfl, rfl⟩
            go_wp2
            go_meet
            case rel => exact ⟨_, nm2, ac2, m2, cc2, cm2, s2, ra2, d2, t2, ov2, sk2, qA, zz, rfl, bW.out, oAW.out.rd, oz.out.rd, KW.out⟩
          · skip
            go_wp2_with fail
            with_reducible refine (HQ.out 8 _ _ (by decide) (by decide)).mono ?_
            rintro e y1 ⟨rfl, rfl⟩
            have cf : y1.cell? ⟨g, 3, none⟩ = some (.int .i64 s2) := by rw [cell_of_row y1 _ 3 _ _ _ bW.out]; rfl
            have ff : y1.frozen? ⟨g, 3, none⟩ = false := row_free bW.out 3
            go_wp2
            go_meet
            case rel => exact ⟨fitR_set ((Kept.refl (fun j => j = g) y1).setCell (.inl rfl) _) hlt4.out hlt5.out oAW.out oz.out hgw.out KW.out ((con_set bW.out).1 _) _⟩
          · skip
            go_wp2_with fail
            with_reducible refine (HQ.out 9 _ _ (by decide) (by decide)).mono ?_
            rintro e y1 ⟨rfl, rfl⟩
            have cf : y1.cell? ⟨g, 5, none⟩ = some (.int .i64 d2) := by rw [cell_of_row y1 _ 5 _ _ _ bW.out]; rfl
            have ff : y1.frozen? ⟨g, 5, none⟩ = false := row_free bW.out 5
            go_wp2
            go_meet
            case rel => exact ⟨fitR_set ((Kept.refl (fun j => j = g) y1).setCell (.inl rfl) _) hlt4.out hlt5.out oAW.out oz.out hgw.out KW.out ((con_set bW.out).2.1 _) _⟩
          · skip
            go_wp2_with fail
            with_reducible refine (HQ.out 5 _ _ (by decide) (by decide)).mono ?_
            rintro e y1 ⟨rfl, rfl⟩
            have cf : y1.cell? ⟨g, 6, none⟩ = some (.int .i64 t2) := by rw [cell_of_row y1 _ 6 _ _ _ bW.out]; rfl
            have ff : y1.frozen? ⟨g, 6, none⟩ = false := row_free bW.out 6
            go_wp2
            go_meet
            case rel => exact ⟨fitR_set ((Kept.refl (fun j => j = g) y1).setCell (.inl rfl) _) hlt4.out hlt5.out oAW.out oz.out hgw.out KW.out ((con_set bW.out).2.2.1 _) _⟩
          · skip
            go_wp2_with fail
            with_reducible refine (HQ.out 9 _ _ (by decide) (by decide)).mono ?_
            rintro e y1 ⟨rfl, rfl⟩
            go_wp2_with fail
            obtain ⟨hq0, hq1⟩ := modI_lt (wrap64 (spoil.tdiv 12)) 9 (by decide)
            with_reducible refine (HN.out _ _ hq0 (by omega)).mono ?_
            rintro e y2 ⟨an, ln, cn, rfl, kn⟩
            replace bW := hid (kn.blk bW.out)
            replace oAW := hid (oAW.out.keptNo kn)
            replace oz := hid (oz.out.keptNo kn)
            replace KW := hid (KW.out.trans' kn)
            clear kn
            have cf : y2.cell? ⟨g, 1, none⟩ = some (.slice ac2 m2 cc2) := by rw [cell_of_row y2 _ 1 _ _ _ bW.out]; rfl
            have ff : y2.frozen? ⟨g, 1, none⟩ = false := row_free bW.out 1
            go_wp2
            go_meet
            case rel => exact ⟨fitR_set ((Kept.refl (fun j => j = g) y2).setCell (.inl rfl) _) hlt4.out hlt5.out oAW.out oz.out hgw.out KW.out ((con_set bW.out).2.2.2 _ _ _) _⟩
          · have hsl := post_sliceZ az N cz 1 oz.out.rd.addr (by omega) hNc
            have hdr := oz.out.rd.drop 1 (by rw [hzl.out]; omega)
            rw [hzl.out] at hdr
            rw [show ((1 : Nat) : Int) = 1 from rfl] at hsl
            generalize (if cz = 1 then az else az.map (·.add 1)) = az2 at hsl hdr
            generalize cz - 1 = cz2 at hsl hdr
            generalize N - 1 = N2 at hsl hdr
            replace hdr := hid hdr
            go_wp2
            go_meet
            case rel => exact ⟨_, nm2, ac2, m2, cc2, cm2, s2, ra2, d2, t2, ov2, sk2, qA, zz.drop 1, rfl, bW.out, oAW.out.rd, hdr.out, KW.out⟩
          · obtain ⟨q, cz', cur, e, hq, u, hu⟩ := own_first oz.out.own (by rw [hzl.out]; omega)
            cases e
            have hq5 : Hd (x5.heap.size ≤ q) := ⟨oz.out.new.fr (Nat.le_refl _) q rfl⟩
            go_wp2_with fail
            with_reducible refine (HQ.out 8 _ _ (by decide) (by decide)).mono ?_
            rintro e y1 ⟨rfl, rfl⟩
            have ff : y1.frozen? ⟨q, 0, none⟩ = false := row_free hq 0
            go_wp2
            go_meet
            case rel => exact ⟨_, nm2, ac2, m2, cc2, cm2, s2, ra2, d2, t2, ov2, sk2, qA, zz.set 0 _, rfl, (heap_setCell_other y1 ⟨q, 0, none⟩ g _ (by show g ≠ q; have := hq5.out; have := hlt5.out; omega)).trans bW.out, (oA.out.keptNo (K5.out.setCell (.inr hq5.out) _)).rd, setZ oz.out.own rfl _, KW.out.setCell (.inr (by show w.heap.size ≤ q; have := hq5.out; have := hlt5.out; have := hgw.out; omega)) _⟩
          · go_wp2
            go_meet
            case rel => exact ⟨_, nm2, ac2, m2, cc2, cm2, s2, ra2, d2, t2, ov2, sk2, qA, zz, rfl, bW.out, oAW.out.rd, oz.out.rd, KW.out⟩
          · go_wp2
            go_meet
            case rel => exact ⟨_, nm2, ac2, m2, cc2, cm2, s2, ra2, d2, t2, ov2, sk2, qA, zz, rfl, bW.out, oAW.out.rd, oz.out.rd, KW.out⟩
          · go_wp2
            go_meet
            case rel => exact ⟨_, nm2, ac2, m2, cc2, cm2, s2, ra2, d2, t2, ov2, sk2, qA, zz, rfl, bW.out, oAW.out.rd, oz.out.rd, KW.out⟩
          · go_wp2
            go_meet
            case rel => exact ⟨_, nm2, ac2, m2, cc2, cm2, s2, ra2, d2, t2, ov2, sk2, qA, zz, rfl, bW.out, oAW.out.rd, oz.out.rd, KW.out⟩
          · go_wp2
            go_meet
            case rel => exact ⟨_, nm2, ac2, m2, cc2, cm2, s2, ra2, d2, t2, ov2, sk2, qA, zz, rfl, bW.out, oAW.out.rd, oz.out.rd, KW.out⟩
      case rest =>
        obtain ⟨m', nm', ac', n', cc', cm', s', ra', d', t', ov', sk', ps', zs', rfl, hb, hg', hz', KX⟩ := hcut.out
        clear hcut
        replace hb := hid hb
        replace hg' := hid hg'
        replace hz' := hid hz'
        replace KX := hid KX
        go_upto_region 23 with fail
        refine region_flow (S := no) (Sl := (fun _ => no)) [Is (.bool true), Is (.bool true), Is (.int .i64 m'), Is (.agg #[.string nm', .slice ac' n' cc', .int .i64 cm', .int .i64 s', .int .i64 ra', .int .i64 d', .int .i64 t', .int .i64 ov', .int .i64 sk']), Is (u2), Is (u3), Is (.int .i64 (fitP m' n' cm' s' d' t' (grps ps') zs')), Is (.int .i64 m'), Is (.agg #[.string nm', .slice ac' n' cc', .int .i64 cm', .int .i64 s', .int .i64 ra', .int .i64 d', .int .i64 t', .int .i64 ov', .int .i64 sk']), Is (u2), Is (u3), Is (.int .i64 (fitP m' n' cm' s' d' t' (grps ps') zs')), Is (.bool true), Is (.bool true), Is (.bool true)] [] (fun _ _ h => h) _ (by kernel_rfl) (by kernel_rfl) (by kernel_rfl) (by kernel_rfl) (fun x => by simp only [puts, Act.put, List.map_cons, List.map_nil, Nat.zero_add, Nat.reduceAdd, List.setIfInBounds_toArray, List.set_cons_zero, List.set_cons_succ]; exact rfl) ?_ ?_
        · skip
          refine Steps.cons (fun x wf Kk hq hdep hold => ?_) ?_
          · try dsimp only
            clear hq hdep hold
            rw [if_pos (by rfl)]
            refine OpY.call (f := 13) (args := #[]) (by go_simp) ?_
            refine (awake_any wf).mono ?_
            rintro e w2 ⟨rfl, k2⟩
            exact ⟨_, rfl, k2, rfl⟩
          refine Steps.cons (fun x wf Kk hq hdep hold => ?_) ?_
          · try dsimp only
            have h0 : x 0 = (.bool true) := hdep 0 (by kernel_rfl)
            clear hq hdep hold
            simp only [h0]
            clear h0
            rw [if_pos (by rfl)]
            refine OpY.val (v := (.bool true)) ?_ ⟨Kept.refl _ _, rfl⟩
            first | rfl | go_simp
          refine Steps.cons (fun x wf Kk hq hdep hold => ?_) ?_
          · try dsimp only
            have h1 : x 1 = (.bool true) := hdep 1 (by kernel_rfl)
            clear hq hdep hold
            simp only [h1]
            clear h1
            rw [if_pos (by rfl)]
            refine OpY.val (v := (.int .i64 m')) ?_ ⟨Kept.refl _ _, rfl⟩
            first | rfl | go_simp
          refine Steps.cons (fun x wf Kk hq hdep hold => ?_) ?_
          · try dsimp only
            have h1 : x 1 = (.bool true) := hdep 1 (by kernel_rfl)
            clear hq hdep hold
            simp only [h1]
            clear h1
            rw [if_pos (by rfl)]
            exact OpY.row 55 (.tmp 10) rfl g 0 rfl (conC nm' ac' n' cc' cm' s' ra' d' t' ov' sk') _ (range_row (Kk.undrew.blk hb.out)) Try.underlying55 rfl (conC_inf _ _ _ _ _ _ _ _ _ _ _) ⟨Kept.refl _ _, rfl⟩
          refine Steps.cons (fun x wf Kk hq hdep hold => ?_) ?_
          · try dsimp only
            have h1 : x 1 = (.bool true) := hdep 1 (by kernel_rfl)
            clear hq hdep hold
            simp only [h1]
            clear h1
            rw [if_pos (by rfl)]
            refine OpY.val (v := (u2)) ?_ ⟨Kept.refl _ _, rfl⟩
            first | rfl | go_simp
          refine Steps.cons (fun x wf Kk hq hdep hold => ?_) ?_
          · try dsimp only
            have h1 : x 1 = (.bool true) := hdep 1 (by kernel_rfl)
            clear hq hdep hold
            simp only [h1]
            clear h1
            rw [if_pos (by rfl)]
            refine OpY.val (v := (u3)) ?_ ⟨Kept.refl _ _, rfl⟩
            first | rfl | go_simp
          refine Steps.cons (fun x wf Kk hq hdep hold => ?_) ?_
          · try dsimp only
            have h2 : x 2 = (.int .i64 m') := hdep 2 (by kernel_rfl)
            have h3 : x 3 = (.agg #[.string nm', .slice ac' n' cc', .int .i64 cm', .int .i64 s', .int .i64 ra', .int .i64 d', .int .i64 t', .int .i64 ov', .int .i64 sk']) := hdep 3 (by kernel_rfl)
            have h4 : x 4 = (u2) := hdep 4 (by kernel_rfl)
            have h5 : x 5 = (u3) := hdep 5 (by kernel_rfl)
            have h1 : x 1 = (.bool true) := hdep 1 (by kernel_rfl)
            clear hq hdep hold
            simp only [h2, h3, h4, h5, h1]
            clear h2 h3 h4 h5 h1
            rw [if_pos (by rfl)]
            refine OpY.call (f := 42) (args := #[(.int .i64 m'), (.agg #[.string nm', .slice ac' n' cc', .int .i64 cm', .int .i64 s', .int .i64 ra', .int .i64 d', .int .i64 t', .int .i64 ov', .int .i64 sk']), (u2), (u3)]) (by go_simp) ?_
            refine (fit_any m' nm' ac' n' cc' cm' s' ra' d' t' ov' sk' u2 u3 ps' zs' wf (hg'.out.kept Kk.undrew) (hz'.out.kept Kk.undrew)).mono ?_
            rintro e w2 ⟨rfl, k2⟩
            exact ⟨_, rfl, k2, rfl⟩
          refine Steps.cons (fun x wf Kk hq hdep hold => ?_) ?_
          · try dsimp only
            have h1 : x 1 = (.bool true) := hdep 1 (by kernel_rfl)
            clear hq hdep hold
            simp only [h1]
            clear h1
            rw [if_pos (by rfl)]
            refine OpY.val (v := (.int .i64 m')) ?_ ⟨Kept.refl _ _, rfl⟩
            first | rfl | go_simp
          refine Steps.cons (fun x wf Kk hq hdep hold => ?_) ?_
          · try dsimp only
            have h1 : x 1 = (.bool true) := hdep 1 (by kernel_rfl)
            clear hq hdep hold
            simp only [h1]
            clear h1
            rw [if_pos (by rfl)]
            exact OpY.row 55 (.tmp 10) rfl g 0 rfl (conC nm' ac' n' cc' cm' s' ra' d' t' ov' sk') _ (range_row (Kk.undrew.blk hb.out)) Try.underlying55 rfl (conC_inf _ _ _ _ _ _ _ _ _ _ _) ⟨Kept.refl _ _, rfl⟩
          refine Steps.cons (fun x wf Kk hq hdep hold => ?_) ?_
          · try dsimp only
            have h1 : x 1 = (.bool true) := hdep 1 (by kernel_rfl)
            clear hq hdep hold
            simp only [h1]
            clear h1
            rw [if_pos (by rfl)]
            refine OpY.val (v := (u2)) ?_ ⟨Kept.refl _ _, rfl⟩
            first | rfl | go_simp
          refine Steps.cons (fun x wf Kk hq hdep hold => ?_) ?_
          · try dsimp only
            have h1 : x 1 = (.bool true) := hdep 1 (by kernel_rfl)
            clear hq hdep hold
            simp only [h1]
            clear h1
            rw [if_pos (by rfl)]
            refine OpY.val (v := (u3)) ?_ ⟨Kept.refl _ _, rfl⟩
            first | rfl | go_simp
          refine Steps.cons (fun x wf Kk hq hdep hold => ?_) ?_
          · try dsimp only
            have h7 : x 7 = (.int .i64 m') := hdep 7 (by kernel_rfl)
            have h8 : x 8 = (.agg #[.string nm', .slice ac' n' cc', .int .i64 cm', .int .i64 s', .int .i64 ra', .int .i64 d', .int .i64 t', .int .i64 ov', .int .i64 sk']) := hdep 8 (by kernel_rfl)
            have h9 : x 9 = (u2) := hdep 9 (by kernel_rfl)
            have h10 : x 10 = (u3) := hdep 10 (by kernel_rfl)
            have h1 : x 1 = (.bool true) := hdep 1 (by kernel_rfl)
            clear hq hdep hold
            simp only [h7, h8, h9, h10, h1]
            clear h7 h8 h9 h10 h1
            rw [if_pos (by rfl)]
            refine OpY.call (f := 43) (args := #[(.int .i64 m'), (.agg #[.string nm', .slice ac' n' cc', .int .i64 cm', .int .i64 s', .int .i64 ra', .int .i64 d', .int .i64 t', .int .i64 ov', .int .i64 sk']), (u2), (u3)]) (by go_simp) ?_
            refine (reffit_any m' nm' ac' n' cc' cm' s' ra' d' t' ov' sk' u2 u3 ps' zs' wf (hg'.out.kept Kk.undrew) (hz'.out.kept Kk.undrew)).mono ?_
            rintro e w2 ⟨rfl, k2⟩
            exact ⟨_, rfl, k2, rfl⟩
          refine Steps.cons (fun x wf Kk hq hdep hold => ?_) ?_
          · try dsimp only
            have h6 : x 6 = (.int .i64 (fitP m' n' cm' s' d' t' (grps ps') zs')) := hdep 6 (by kernel_rfl)
            have h11 : x 11 = (.int .i64 (fitP m' n' cm' s' d' t' (grps ps') zs')) := hdep 11 (by kernel_rfl)
            have h1 : x 1 = (.bool true) := hdep 1 (by kernel_rfl)
            clear hq hdep hold
            simp only [h6, h11, h1]
            clear h6 h11 h1
            rw [if_pos (by rfl)]
            refine OpY.val (v := (.bool true)) ?_ ⟨Kept.refl _ _, rfl⟩
            first | rfl | go_simp
          refine Steps.cons (fun x wf Kk hq hdep hold => ?_) ?_
          · try dsimp only
            have h1 : x 1 = (.bool true) := hdep 1 (by kernel_rfl)
            have h12 : x 12 = (.bool true) := hdep 12 (by kernel_rfl)
            clear hq hdep hold
            simp only [h1, h12]
            clear h1 h12
            rw [if_pos (by rfl)]
            refine OpY.val (v := (.bool true)) ?_ ⟨Kept.refl _ _, rfl⟩
            first | rfl | go_simp
          refine Steps.cons (fun x wf Kk hq hdep hold => ?_) ?_
          · try dsimp only
            have h13 : x 13 = (.bool true) := hdep 13 (by kernel_rfl)
            clear hq hdep hold
            simp only [h13]
            clear h13
            rw [if_pos (by rfl)]
            refine OpY.val (v := (.bool true)) ?_ ⟨Kept.refl _ _, rfl⟩
            first | rfl | go_simp
          exact Steps.nil _
        · intro x wf Kk hv
          try dsimp only
          have h0 : x 0 = (.bool true) := hv 0 (by kernel_rfl)
          have h1 : x 1 = (.bool true) := hv 1 (by kernel_rfl)
          have h2 : x 2 = (.int .i64 m') := hv 2 (by kernel_rfl)
          have h3 : x 3 = (.agg #[.string nm', .slice ac' n' cc', .int .i64 cm', .int .i64 s', .int .i64 ra', .int .i64 d', .int .i64 t', .int .i64 ov', .int .i64 sk']) := hv 3 (by kernel_rfl)
          have h4 : x 4 = (u2) := hv 4 (by kernel_rfl)
          have h5 : x 5 = (u3) := hv 5 (by kernel_rfl)
          have h6 : x 6 = (.int .i64 (fitP m' n' cm' s' d' t' (grps ps') zs')) := hv 6 (by kernel_rfl)
          have h7 : x 7 = (.int .i64 m') := hv 7 (by kernel_rfl)
          have h8 : x 8 = (.agg #[.string nm', .slice ac' n' cc', .int .i64 cm', .int .i64 s', .int .i64 ra', .int .i64 d', .int .i64 t', .int .i64 ov', .int .i64 sk']) := hv 8 (by kernel_rfl)
          have h9 : x 9 = (u2) := hv 9 (by kernel_rfl)
          have h10 : x 10 = (u3) := hv 10 (by kernel_rfl)
          have h11 : x 11 = (.int .i64 (fitP m' n' cm' s' d' t' (grps ps') zs')) := hv 11 (by kernel_rfl)
          have h12 : x 12 = (.bool true) := hv 12 (by kernel_rfl)
          have h13 : x 13 = (.bool true) := hv 13 (by kernel_rfl)
          have h14 : x 14 = (.bool true) := hv 14 (by kernel_rfl)
          clear hv
          simp only [h0, h1, h2, h3, h4, h5, h6, h7, h8, h9, h10, h11, h12, h13, h14]
          clear h0 h1 h2 h3 h4 h5 h6 h7 h8 h9 h10 h11 h12 h13 h14
          replace KX := hid (KX.out.trans' Kk.undrew)
          clear Kk
          go_wp2
          go_ret
          exact ⟨rfl, KX.out⟩
end Go.Proofs.Ytmigdhbolbhbeaa
