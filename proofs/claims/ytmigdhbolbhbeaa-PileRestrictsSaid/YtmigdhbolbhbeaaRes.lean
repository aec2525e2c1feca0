/- pile.Restrict. -/
import Derived.Test.YtmigdhbolbhbeaaDel
import Derived.Test.YtmigdhbolbhbeaaJoin24
namespace Go.Pil
/-- The first k groups restricted. -/
def resK (gs : List Grp) (remain : List Bool) (k : Nat) : List Grp := (gs.take k).map (fun g => ⟨kept remain g.p, g.n⟩) ++ gs.drop k
theorem resK_zero (gs : List Grp) (remain : List Bool) : resK gs remain 0 = gs := by simp [resK]
theorem resK_all {gs : List Grp} {remain : List Bool} {k : Nat} (h : gs.length ≤ k) : resK gs remain k = gs.map fun g => ⟨kept remain g.p, g.n⟩ := by
  unfold resK; rw [List.take_of_length_le h, List.drop_of_length_le h, List.append_nil]
theorem resK_get {gs : List Grp} {remain : List Bool} {k : Nat} : (resK gs remain k)[k]? = gs[k]? := by
  unfold resK
  by_cases h : k ≤ gs.length
  · rw [List.getElem?_append_right (by simp; omega)]
    simp [Nat.min_eq_left h]
  · rw [List.getElem?_eq_none (by simp; omega), List.getElem?_eq_none (by omega)]
theorem resK_step {gs : List Grp} {remain : List Bool} {k : Nat} {g : Grp} (hg : gs[k]? = some g) : (resK gs remain k).set k ⟨kept remain g.p, g.n⟩ = resK gs remain (k + 1) := by
  obtain ⟨hk, hgk⟩ := List.getElem?_eq_some_iff.1 hg
  unfold resK
  have hl : ((gs.take k).map fun g => (⟨kept remain g.p, g.n⟩ : Grp)).length = k := by simp; omega
  rw [List.set_append_right _ _ (by omega), hl, Nat.sub_self, List.drop_eq_getElem_cons hk, List.set_cons_zero, List.take_succ_eq_append_getElem hk, hgk]
  simp
theorem resK_len (gs : List Grp) (remain : List Bool) (k : Nat) : (resK gs remain k).length = gs.length := by
  unfold resK; rw [List.length_append, List.length_map, List.length_take, List.length_drop]; omega
end Go.Pil
namespace Go.Proofs.Ytmigdhbolbhbeaa
open Go.RowKit Go.Mk Go.Pil
theorem OwC.from_ {w0 w w' : World} {v : Value} {qs : List (Grp × Value)} (h : OwC w w' v qs) (k : Kept no w0 w) : OwC w0 w' v qs := ⟨h.own, h.rows, k.trans' h.kept, h.new.of k.size, fun x hx => (h.newr x hx).of k.size, h.dist⟩
theorem flatG_setp (qs : List (Grp × Value)) (k : Nat) (hk : k < qs.length) (p : List Int) (u : Value) : (flatG qs).set (k * 2) u = flatG (qs.set k (⟨p, qs[k].1.n⟩, u)) := by
  induction qs generalizing k with
  | nil => simp at hk
  | cons x qs ih =>
    cases k with
    | zero => simp [flatG, grpC]
    | succ k =>
      have hk' : k < qs.length := by simpa using hk
      have e : (k + 1) * 2 = k * 2 + 2 := by omega
      have e1 : flatG (x :: qs) = grpC x ++ flatG qs := by simp [flatG]
      have e2 : ∀ y, flatG (x :: qs.set k y) = grpC x ++ flatG (qs.set k y) := fun y => by simp [flatG]
      rw [List.set_cons_succ, e1, e2, e, List.set_append_right _ _ (by simp [grpC])]
      simp only [grpC, List.length_cons, List.length_nil, Nat.zero_add, Nat.reduceAdd, Nat.add_sub_cancel, List.getElem_cons_succ]
      rw [ih k hk']
theorem apart_congr {a b a' b' : Value} (h : apart a b) (h1 : a'.ownBlock = a.ownBlock) (h2 : b'.ownBlock = b.ownBlock) : apart a' b' := by
  unfold apart at *; rw [h1, h2]; exact h
theorem OwC.setP {w w1 w2 : World} {g n cap : Nat} {qs : List (Grp × Value)} (h : OwC w w1 (.slice (some ⟨g, 0, none⟩) n cap) qs) (hl : qs.length = n) (k : Nat) (hk : k < qs.length) (p : List Int) (u : Value)
    (hu : w2.ownsRow 0 3 1 u p.length (p.map Z)) (hob : u.ownBlock = (qs[k]).2.ownBlock) (k2 : Kept (ob (qs[k]).2) w1 w2) :
    OwC w (w2.setCell ⟨g, k * 2, none⟩ u) (.slice (some ⟨g, 0, none⟩) n cap) (qs.set k (⟨p, qs[k].1.n⟩, u)) := by
  have hx := List.getElem_mem hk
  have hrow := h.rows _ hx
  have hgr : w2.ownsRow 0 67 2 (.slice (some ⟨g, 0, none⟩) n cap) n (flatG qs) := by
    have h1 := h.own
    rw [hl] at h1
    exact k2.ownsRow h1 fun j hj hv => own_own hrow h.own int_ne_group j hv hj
  have hug : ∀ j, u.ownBlock = some j → j ≠ g := fun j hj e => own_own hu hgr int_ne_group j hj (by rw [e]; rfl)
  have kset : Kept (fun j => j = g) w2 (w2.setCell ⟨g, k * 2, none⟩ u) := (Kept.refl (fun j => j = g) w2).setCell (a := ⟨g, k * 2, none⟩) (.inl rfl) u
  have hap : ∀ i (hi : i < qs.length), ((qs.set k (⟨p, qs[k].1.n⟩, u))[i]'(by simpa using hi)).2.ownBlock = (qs[i]).2.ownBlock := fun i hi => by
    rw [List.getElem_set]
    by_cases e : k = i
    · subst e; rw [if_pos rfl]; exact hob
    · rw [if_neg e]
  have hd := List.pairwise_iff_getElem.1 h.dist
  refine ⟨?_, fun x hx' => ?_, ?_, h.new, fun x hx' => ?_, ?_⟩
  · rw [List.length_set, hl, ← flatG_setp qs k hk p u]
    exact own_set hgr (k * 2) u
  · obtain ⟨i, hi, rfl⟩ := List.getElem_of_mem hx'
    have hi' : i < qs.length := by simpa using hi
    rw [List.getElem_set]
    by_cases e : k = i
    · subst e
      rw [if_pos rfl]
      exact kset.ownsRow hu fun j hj hv => hug j hj hv
    · rw [if_neg e]
      have hr1 := h.rows _ (List.getElem_mem hi')
      have hr2 : w2.ownsRow 0 3 1 (qs[i]).2 (qs[i]).1.p.length ((qs[i]).1.p.map Z) := k2.ownsRow hr1 fun j hj hv => by
        rcases Nat.lt_or_gt_of_ne e with hlt | hgt
        · exact hd k i hk hi' hlt j hv hj
        · exact hd i k hi' hk hgt j hj hv
      exact kset.ownsRow hr2 fun j hj hv => own_own hr2 hgr int_ne_group j hj (by rw [show j = g from hv]; rfl)
  · have h1 := (h.newr _ hx).kept h.kept k2
    have h2 := h.new.fr (Nat.le_refl _) g rfl
    exact h1.setCell (.inr h2) u
  · obtain ⟨i, hi, rfl⟩ := List.getElem_of_mem hx'
    have hi' : i < qs.length := by simpa using hi
    have := h.newr _ (List.getElem_mem hi')
    unfold New at this ⊢
    rw [hap i hi']; exact this
  · rw [List.pairwise_iff_getElem]
    intro i j hi hj hij
    exact apart_congr (hd i j (by simpa using hi) (by simpa using hj) hij) (hap i (by simpa using hi)) (hap j (by simpa using hj))
theorem grps_set (qs : List (Grp × Value)) (k : Nat) (g : Grp) (u : Value) : grps (qs.set k (g, u)) = (grps qs).set k g := by simp [grps, List.map_set]
theorem own_addr2 {w : World} {e : TypeId} {n size : Nat} {v : Value} {xs : List Value} (h : w.ownsRow 0 e size v n xs) (hn : 0 < n) : ∃ g cap, v = .slice (some ⟨g, 0, none⟩) n cap := by
  obtain ⟨hl, ⟨_, h⟩ | ⟨g', c, cur, e', _⟩⟩ := h
  · omega
  · exact ⟨g', c, e'⟩
theorem own_heap {w : World} {e : TypeId} {size n cap g : Nat} {xs : List Value} (h : w.ownsRow 0 e size (.slice (some ⟨g, 0, none⟩) n cap) n xs) : ∃ cur, w.heap[g]? = some (.cells cur e (0, 0)) := by
  obtain ⟨hl, ⟨h, _⟩ | ⟨g', c, cur, e', _, hg, _⟩⟩ := h
  · cases h
  · cases e'; exact ⟨cur, hg⟩
set_option maxRecDepth 100000 in
set_option maxHeartbeats 4000000 in
theorem restrict_any (v vr : Value) (ps : List (Grp × Value)) (bs : List Bool) (w : World) (hr : RdG w v ps) (hb : RdT w vr bs) : Calls Try.prog 44 #[v, vr] w fun e w' => ∃ v', e = .returned v' ∧ GR w w' v' (restr (grps ps) bs) := by
  obtain ⟨ao, cap, rfl, hcap, hcm⟩ := hr.shape
  obtain ⟨ab, cb, rfl, hcb, hcbm⟩ := Rd.shape2 hb
  have hm63 := maxLen_63
  obtain ⟨w0, hw0, g0, k0⟩ := alloc_named w (.cells #[.slice ab bs.length cb] 33)
  have c0 : w0.cell? ⟨w.heap.size, 0, none⟩ = some (.slice ab bs.length cb) := by rw [cell_of_row w0 _ 0 _ _ _ g0]; rfl
  have HI := isany_any _ ps w0 (hr.kept k0)
  have hb0 := hid (hb.kept k0)
  have hr0 := hid (hr.kept k0)
  replace hw0 := hid hw0
  replace k0 := hid k0
  cases hP : isPile 7 (grps ps) with
  | false =>
    have hv : Hd (restr (grps ps) bs = []) := ⟨by unfold restr; rw [if_neg (by rw [hP]; simp)]⟩
    rw [hP] at HI
    replace HI := hid HI
    clear hP hr hb g0 c0
    go_enter Try.func44, Try.ntmps44
    go_wp2_with fail
    rw [← hw0.out]
    refine HI.out.mono ?_
    rintro e w1 ⟨rfl, k1⟩
    have k2 := hid (k0.out.trans' k1)
    clear k1 HI
    go_wp2
    go_ret
    exact ⟨_, rfl, by rw [hv.out]; exact nilGR k2.out⟩
  | true =>
    have hv : Hd (restr (grps ps) bs = pileOf ((grps ps).map fun g => ⟨kept bs g.p, g.n⟩)) := ⟨by unfold restr; rw [if_pos hP]⟩
    rw [hP] at HI
    replace HI := hid HI
    have hpp := hid ((isPile_iff 7 _).1 hP)
    have hsh := hid (pile_short hP)
    obtain ⟨q, hq⟩ : ∃ q, w.heap.size = q := ⟨_, rfl⟩
    rw [hq] at c0
    replace c0 := hid c0
    clear hP g0 hr hb
    go_enter Try.func44, Try.ntmps44
    go_wp2_with fail
    rw [← hw0.out]
    refine HI.out.mono ?_
    rintro e w1 ⟨rfl, k1⟩
    have HC := hid (pclone_any _ ps w1 (hr0.out.kept k1) hsh.out)
    replace k1 := hid k1
    clear HI
    go_wp2_with fail
    refine HC.out.mono ?_
    rintro e w2 ⟨v2, qs, rfl, hqs, hO⟩
    have hO0 := hid (hO.from_ k1.out)
    have hql : qs.length = ps.length := by have := congrArg List.length hqs; rwa [grps_length, grps_length] at this
    obtain ⟨a2, c2, rfl, _, _⟩ := Rd.shape2 (Rd.of_own hO.own)
    obtain ⟨len, hlen⟩ : ∃ len, qs.length = len := ⟨_, rfl⟩
    rw [hlen] at hO0 ⊢
    have hlp : Hd (ps.length = len) := ⟨by omega⟩
    have hl5 : len ≤ 100000 := by have := hsh.out.1; have := hlp.out; omega
    have hqs0 : Hd (grps qs = resK (grps ps) bs 0) := ⟨by rw [resK_zero, hqs]⟩
    replace hlen := hid hlen
    clear HC hO hql hqs k1
    go_wp2
    go_loopw [14] (fun i wr => ∃ (k : Nat) (rs : List (Grp × Value)), k ≤ len ∧ i = .int .i64 (k : Int) ∧ Hd (rs.length = len) ∧ Hd (grps rs = resK (grps ps) bs k) ∧ Hd (OwC w0 wr (.slice a2 len c2) rs)) (fun i _ => len - (intOf i).toNat)
    case atStart => exact ⟨0, qs, by omega, rfl, hlen, hqs0, hO0⟩
    case round =>
      clear hO0 hqs0
      obtain ⟨k, rs, hk, rfl, hrl, hrs, hO⟩ := hrel
      by_cases hlt : k < len
      · have hk1 : (k : Int) < (len : Int) := by omega
        have hk0 : (0 : Int) ≤ (k : Int) := by omega
        have hkr : k < rs.length := by rw [hrl.out]; exact hlt
        have hown : wr.ownsRow 0 67 2 (.slice a2 len c2) len (flatG rs) := by have := hO.out.own; rwa [hrl.out] at this
        obtain ⟨g2, c2', e2⟩ := own_addr2 hown (by omega)
        cases e2
        obtain ⟨cur, hcur⟩ := own_heap hown
        obtain ⟨b, o, g, vg, e, hel, d0, d1, hz⟩ := (hO.out.rd).at k hkr
        obtain ⟨rfl, rfl⟩ : b = g2 ∧ o = 0 := by cases e; exact ⟨rfl, rfl⟩
        have hrow := hO.out.rows _ (List.getElem_mem hkr)
        have hnw := hO.out.newr _ (List.getElem_mem hkr)
        rw [hel] at hrow hnw
        have hgk : (grps ps)[k]? = some g := by rw [← resK_get (remain := bs), ← hrs.out]; exact grps_get _ hel
        have hpos : ∀ x ∈ g.p, 0 ≤ x := fun x hx => (((ballot_iff _ _).1 (hpp.out.1 g (List.mem_of_getElem? hgk)).1).2 x hx).1
        have HD := hid (delete_any w0 wr hO.out.kept vg g.p (.slice ab bs.length cb) bs q hrow hnw hpos hb0.out c0.out)
        have hst : Hd (resK (grps ps) bs (k + 1) = (grps rs).set k ⟨kept bs g.p, g.n⟩) := ⟨by rw [hrs.out, resK_step hgk]⟩
        have hset : Hd (∀ (w2 : World) (u : Value), w2.ownsRow 0 3 1 u (kept bs g.p).length ((kept bs g.p).map Z) → u.ownBlock = vg.ownBlock → Kept (ob vg) wr w2 → OwC w0 (w2.setCell ⟨b, k * 2, none⟩ u) (.slice (some ⟨b, 0, none⟩) len c2) (rs.set k (⟨kept bs g.p, g.n⟩, u))) := ⟨fun w2 u h1 h2 h3 => by
          have := hO.out.setP hrl.out k hkr (kept bs g.p) u h1 (by rw [hel]; exact h2) (by rw [hel]; exact h3)
          rw [hel] at this; exact this⟩
        have hgrow : Hd (∀ w2, Kept (ob vg) wr w2 → w2.heap[b]? = some (.cells cur 67 (0, 0)) ∧ w2.cell? ⟨b, k * 2, none⟩ = some vg) := ⟨fun w2 h => by
          have hne : ¬ ob vg b := fun hv => own_own hrow hown int_ne_group b hv rfl
          refine ⟨(h.block b (lt_of_heap hcur) hne).trans hcur, h.cell (by simpa using d0) hne⟩⟩
        obtain ⟨av, cv, rfl, _, _⟩ := Rd.shape2 hz
        generalize g.p.length = lv at d0 HD hset hgrow
        have d0' : wr.cell? ⟨b, k * 2, none⟩ = some (.slice av lv cv) := by simpa using d0
        clear hel hrow hnw hpos hz d1 d0 hown hcur e hgk
        go_wp2_with fail
        refine HD.out.mono ?_
        rintro e w3 ⟨u, rfl, hu, hob, k3⟩
        obtain ⟨hg3, hc3⟩ := hgrow.out w3 k3
        have hfr : w3.frozen? ⟨b, k * 2, none⟩ = false := row_free hg3 _
        have hO3 := hid (hset.out w3 u hu hob k3)
        obtain ⟨au, cu, rfl, _, _⟩ := Rd.shape2 (own_RdZ hu)
        have hrs' : Hd (grps (rs.set k (⟨kept bs g.p, g.n⟩, Value.slice au (kept bs g.p).length cu)) = resK (grps ps) bs (k + 1)) := ⟨by rw [grps_set, hst.out]⟩
        have hrl' : Hd ((rs.set k (⟨kept bs g.p, g.n⟩, Value.slice au (kept bs g.p).length cu)).length = len) := ⟨by rw [List.length_set]; exact hrl.out⟩
        generalize hqq : rs.set k (⟨kept bs g.p, g.n⟩, Value.slice au (kept bs g.p).length cu) = rs' at hO3 hrs' hrl'
        generalize (kept bs g.p).length = lk at hO3 hqq ⊢
        clear hqq hu hob k3 hg3 hset hgrow HD hO hst hrs hrl d0'
        go_wp2
        go_roundw
        case rel => first | exact ⟨k + 1, rs', by omega, by go_num, hrl', hrs', hO3⟩ | ((repeat apply Exists.intro); exact ⟨⟨k + 1, rs', by omega, by go_num, hrl', hrs', hO3⟩, rfl⟩)
        case measure => simp [intOf]; omega
      · obtain rfl : k = len := by omega
        have hfin : Hd (grps rs = (grps ps).map fun g => ⟨kept bs g.p, g.n⟩) := ⟨by rw [hrs.out, resK_all (by rw [grps_length, hlp.out]; exact Nat.le_refl _)]⟩
        have hn : ∀ x ∈ rs, 0 ≤ x.1.n ∧ x.1.n ≤ 100000 := fun x hx => by
          have hm : x.1 ∈ grps rs := List.mem_map_of_mem hx
          rw [hfin.out] at hm
          obtain ⟨g, hg, he⟩ := List.mem_map.1 hm
          rw [← he]
          have h1 := (hpp.out.1 g hg).2
          have h2 := n_le_tot (fun y hy => (hpp.out.1 y hy).2) g hg
          have h3 := hpp.out.2.1
          simp only; omega
        have HM := hid (merge_any _ rs wr hO.out.own hO.out.rdAll (by rw [hrl.out, ← hlp.out]; exact hsh.out.1) hn)
        rw [hfin.out] at HM
        clear hn hrs
        go_wp2_with fail
        refine HM.out.mono ?_
        rintro e w3 ⟨v4, ts, rfl, hts, o4, z4, k4, n4⟩
        have hG : Hd (GR w w3 v4 (restr (grps ps) bs)) := ⟨ts, by rw [hts, hv.out], own_RdG o4 z4, k0.out.trans' (hO.out.new.kept hO.out.kept k4)⟩
        clear hts o4 z4 k4 n4 HM hO
        go_wp2
        go_ret
        exact ⟨_, rfl, hG.out⟩
end Go.Proofs.Ytmigdhbolbhbeaa
