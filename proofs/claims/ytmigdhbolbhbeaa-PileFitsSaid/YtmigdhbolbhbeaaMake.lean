/- pile.Make: groups with preferences of their own; the pile of any ballots. -/
import Derived.Test.YtmigdhbolbhbeaaMerge
import Derived.Test.YtmigdhbolbhbeaaCnt3
namespace Go.Mk
def apart (v u : Value) : Prop := ∀ j, v.ownBlock = some j → u.ownBlock = some j → False
end Go.Mk
namespace Go.Pil
def allB (n : Int) (ls : List (List Int)) : Bool := ls.all (ballot n)
/-- What Make answers. -/
def mk (n : Int) (ls : List (List Int)) : List Grp × Int := if n < 1 ∨ 7 < n then ([], 4) else if 100000 < ls.length then ([], 7) else if allB n ls = true then (pileOf (ones ls), 0) else ([], 8)
theorem allB_take {n : Int} {ls : List (List Int)} {k : Nat} {p : List Int} (hp : ls[k]? = some p) (h : allB n (ls.take k) = true) (hb : ballot n p = true) : allB n (ls.take (k + 1)) = true := by
  obtain ⟨hk, hgk⟩ := List.getElem?_eq_some_iff.1 hp
  unfold allB at *
  rw [List.take_succ_eq_append_getElem hk, List.all_append, h, hgk]
  simp [hb]
theorem allB_fail {n : Int} {ls : List (List Int)} {k : Nat} {p : List Int} (hp : ls[k]? = some p) (hb : ballot n p = false) : allB n ls = false := by
  unfold allB
  cases h : ls.all (ballot n) with
  | false => rfl
  | true => have := List.all_eq_true.1 h p (List.mem_of_getElem? hp); rw [hb] at this; cases this
theorem ones_take {ls : List (List Int)} {k : Nat} {p : List Int} (hp : ls[k]? = some p) : ones (ls.take (k + 1)) = ones (ls.take k) ++ [⟨p, 1⟩] := by
  obtain ⟨hk, hgk⟩ := List.getElem?_eq_some_iff.1 hp
  rw [List.take_succ_eq_append_getElem hk, hgk]; simp [ones]
end Go.Pil
namespace Go.Proofs.Ytmigdhbolbhbeaa
open Go.RowKit Go.Mk Go.Pil
def lists (bs : List (List Int × Value)) : List (List Int) := bs.map (·.1)
theorem lists_length (bs : List (List Int × Value)) : (lists bs).length = bs.length := by simp [lists]
theorem lists_get {bs : List (List Int × Value)} {k : Nat} (hk : k < bs.length) {p : List Int} {v : Value} (h : bs[k] = (p, v)) : (lists bs)[k]? = some p := by
  unfold lists; rw [List.getElem?_map, List.getElem?_eq_getElem hk, h]; rfl
/-- Groups that can be read behind a call. -/
def GR (w w' : World) (v : Value) (gs : List Grp) : Prop := ∃ qs, grps qs = gs ∧ RdG w' v qs ∧ Kept no w w'
/-- Groups of their own, each with preferences of its own. -/
structure OwC (w w' : World) (v : Value) (qs : List (Grp × Value)) : Prop where
  own : w'.ownsRow 0 67 2 v qs.length (flatG qs)
  rows : ∀ x ∈ qs, w'.ownsRow 0 3 1 x.2 x.1.p.length (x.1.p.map Z)
  kept : Kept no w w'
  new : New w v
  newr : ∀ x ∈ qs, New w x.2
  dist : qs.Pairwise fun x y => apart x.2 y.2
theorem int_ne_group : 3 ≠ 67 := by decide
theorem OwC.nil (w : World) : OwC w w (.slice none 0 0) [] := ⟨World.ownsRow_nil _ _ _ _, (fun x hx => by cases hx), Kept.refl _ _, .inl rfl, (fun x hx => by cases hx), List.Pairwise.nil⟩
theorem OwC.keptNo {w w' w2 : World} {v : Value} {qs : List (Grp × Value)} (h : OwC w w' v qs) (k : Kept no w' w2) : OwC w w2 v qs :=
  ⟨k.ownsRow h.own fun _ _ => id, fun x hx => k.ownsRow (h.rows x hx) fun _ _ => id, h.kept.trans' k, h.new, h.newr, h.dist⟩
theorem OwC.rows_kept {w w' W : World} {v : Value} {qs : List (Grp × Value)} (h : OwC w w' v qs) (k : Kept (ob v) w' W) : ∀ x ∈ qs, W.ownsRow 0 3 1 x.2 x.1.p.length (x.1.p.map Z) := fun x hx =>
  k.ownsRow (h.rows x hx) fun j hj hv => own_own (h.rows x hx) h.own int_ne_group j hj hv
theorem OwC.rdAll {w w' : World} {v : Value} {qs : List (Grp × Value)} (h : OwC w w' v qs) : ∀ x ∈ qs, ∀ W, Kept (ob v) w' W → RdZ W x.2 x.1.p := fun x hx _ k => own_RdZ (h.rows_kept k x hx)
theorem OwC.rd {w w' : World} {v : Value} {qs : List (Grp × Value)} (h : OwC w w' v qs) : RdG w' v qs := own_RdG h.own fun x hx => own_RdZ (h.rows x hx)
/-- One group more: w1 the world behind the new preferences u, w2 behind the append. -/
theorem OwC.add {w w0 w1 w2 : World} {v v' u : Value} {qs : List (Grp × Value)} (h : OwC w w0 v qs) (g : Grp) (k1 : Kept no w0 w1) (hu : w1.ownsRow 0 3 1 u g.p.length (g.p.map Z)) (hn : New w0 u)
    (ho : w2.ownsRow 0 67 2 v' (qs.length + 1) (flatG qs ++ [u, .int .i64 g.n])) (hk : Kept (ob v) w1 w2) (hv : NewOr w1 v v') : OwC w w2 v' (qs ++ [(g, u)]) := by
  have h1 := h.keptNo k1
  refine ⟨by rw [List.length_append, flatG_append, flatG_one]; exact ho, fun x hx => ?_, h1.new.kept h1.kept hk, h1.new.step hv h1.kept.size, fun x hx => ?_, ?_⟩
  · rcases List.mem_append.1 hx with hx | hx
    · exact h1.rows_kept hk x hx
    · obtain rfl : x = (g, u) := by simpa using hx
      exact hk.ownsRow hu fun j hj hv => own_own hu h1.own int_ne_group j hj hv
  · rcases List.mem_append.1 hx with hx | hx
    · exact h.newr x hx
    · obtain rfl : x = (g, u) := by simpa using hx
      exact hn.of h.kept.size
  · rw [List.pairwise_append]
    refine ⟨h.dist, by simp, fun x hx y hy => ?_⟩
    obtain rfl : y = (g, u) := by simpa using hy
    intro j hj hj'
    have h3 := own_lt (h.rows x hx) j hj
    have h4 := hn.fr (Nat.le_refl _) j hj'
    omega
set_option maxRecDepth 100000 in
set_option maxHeartbeats 2000000 in
theorem make_any (n : Int) (v : Value) (bs : List (List Int × Value)) (w : World) (hr : RdB w v bs) : Calls Try.prog 16 #[.int .i64 n, v] w fun e w' => ∃ v', e = .returned (.tuple #[v', .int .i64 (mk n (lists bs)).2]) ∧ GR w w' v' (mk n (lists bs)).1 := by
  obtain ⟨ao, cap, rfl, hcap, hcm⟩ := Rd.shape2 hr.2
  have hm63 := maxLen_63
  have nilGR : ∀ W, Kept no w W → GR w W (.slice none 0 0) [] := fun W k => ⟨[], rfl, ⟨(fun x hx => by cases hx), nil_rd _ _⟩, k⟩
  by_cases hn : n < 1 ∨ 7 < n
  · have hv : Hd (mk n (lists bs) = ([], 4)) := ⟨by unfold mk; rw [if_pos hn]⟩
    rw [hv.out]
    by_cases h1 : n < 1
    · have hd1 : decide (n < 1) = true := decide_eq_true h1
      clear hr hn hv
      go_enter Try.func16, Try.ntmps16
      go_wp2
      go_ret2
      exact ⟨_, rfl, nilGR _ (Kept.refl _ _)⟩
    · have hd1 : decide (n < 1) = false := decide_eq_false h1
      have h7 : 7 < n := by omega
      have hd7 : decide (7 < n) = true := decide_eq_true h7
      clear hr hn hv
      go_enter Try.func16, Try.ntmps16
      go_wp2
      go_ret2
      exact ⟨_, rfl, nilGR _ (Kept.refl _ _)⟩
  have hd1 : decide (n < 1) = false := decide_eq_false (by omega)
  have hd7 : decide (7 < n) = false := decide_eq_false (by omega)
  have hn1 : ¬ n < 1 := by omega
  have hn7 : ¬ 7 < n := by omega
  by_cases hl : 100000 < bs.length
  · have hv : Hd (mk n (lists bs) = ([], 7)) := ⟨by unfold mk; rw [if_neg hn, if_pos (by rw [lists_length]; exact hl)]⟩
    rw [hv.out]
    have hl' : (100000 : Int) < (bs.length : Int) := by omega
    clear hr hn hv
    go_enter Try.func16, Try.ntmps16
    go_wp2
    go_ret2
    exact ⟨_, rfl, nilGR _ (Kept.refl _ _)⟩
  have hl' : ¬ (100000 : Int) < (bs.length : Int) := by omega
  have hmk : Hd (mk n (lists bs) = if allB n (lists bs) = true then (pileOf (ones (lists bs)), 0) else ([], 8)) := ⟨by unfold mk; rw [if_neg hn, if_neg (by rw [lists_length]; exact hl)]⟩
  replace hr := hid hr
  clear hn
  obtain ⟨len, hlen⟩ : ∃ len, bs.length = len := ⟨_, rfl⟩
  rw [hlen] at hr hcap hl hl' ⊢
  replace hlen := hid hlen
  go_enter Try.func16, Try.ntmps16
  go_wp2
  go_loopw [6, 20] (fun out i wr => ∃ (k : Nat) (qs : List (Grp × Value)), k ≤ len ∧ i = .int .i64 (k : Int) ∧ Hd (qs.length = k) ∧ Hd (grps qs = ones ((lists bs).take k)) ∧ Hd (allB n ((lists bs).take k) = true) ∧ Hd (OwC w wr out qs)) (fun _ i _ => len - (intOf i).toNat)
  case atStart => exact ⟨0, [], by omega, rfl, ⟨rfl⟩, ⟨rfl⟩, ⟨rfl⟩, ⟨OwC.nil w⟩⟩
  case round =>
    obtain ⟨k, qs, hk, rfl, hqk, hqs, hA, hO⟩ := hrel
    by_cases hlt : k < len
    · have hk1 : (k : Int) < (len : Int) := by omega
      have hk0 : (0 : Int) ≤ (k : Int) := by omega
      obtain ⟨b, o, p, vp, rfl, hel, c0, hz⟩ := (hr.out.kept hO.out.kept).at k (by rw [hlen.out]; exact hlt)
      have hpk := hid (lists_get _ hel)
      have HB := hid (isballot_any n vp p wr (by omega) hz)
      replace hz := hid hz
      clear hel
      cases hb : ballot n p with
      | false =>
        have hv : Hd (mk n (lists bs) = ([], 8)) := ⟨by rw [hmk.out, allB_fail hpk.out hb, if_neg (by decide)]⟩
        rw [hb] at HB
        have hkp := hid hO.out.kept
        clear hb hmk hA hqs hqk hO hpk hz
        go_wp2_with fail
        refine HB.out.mono ?_
        rintro e w1 ⟨rfl, k1⟩
        have hk2 := hid (hkp.out.trans' k1)
        clear k1 HB hkp c0
        go_wp2
        go_ret2
        exact ⟨_, by rw [hv.out] <;> rfl, by rw [hv.out]; exact nilGR _ hk2.out⟩
      | true =>
        have hA' := hid (allB_take hpk.out hA.out hb)
        have hq' : Hd (∀ u : Value, grps (qs ++ [((⟨p, 1⟩ : Grp), u)]) = ones ((lists bs).take (k + 1))) := ⟨fun u => by rw [grps_append, hqs.out, ones_take hpk.out]; rfl⟩
        have hpl := ballot_len hb (by omega)
        rw [hb] at HB
        clear hb hA hqs hpk
        go_wp2_with fail
        refine HB.out.mono ?_
        rintro e w1 ⟨rfl, k1⟩
        have HC := hid (clonez_any vp p w1 (by omega) (hz.out.kept k1))
        have hO1 := hid (hO.out.keptNo k1)
        clear HB k1 hO c0
        go_wp2_with fail
        refine HC.out.mono ?_
        rintro e w2 ⟨u, rfl, hu, k2, nu⟩
        obtain ⟨au, cu, rfl, _, _⟩ := Rd.shape2 (own_RdZ hu)
        have hO2 := hid (hO1.out.keptNo k2)
        have hls : qs.length + 1 ≤ maxLen ∧ (qs.length + 1) * 32 ≤ 140737488355328 := by have := hqk.out; have hm : maxLen = 9223372036854775807 := rfl; omega
        replace hu := hid hu
        replace nu := hid nu
        replace k2 := hid k2
        clear HC hz
        go_wp2_with (at_builtin; refine wpList_append_lit _ rfl _ _ 27 rfl 67 2 32 TGrps _ _ _ rfl hO2.out.own 1 [_, _] rfl rfl ?c1 ?c2 ?c3 ?_)
        case c1 =>
          intro y hy
          simp only [List.mem_cons, List.not_mem_nil, or_false] at hy
          rcases hy with rfl | rfl
          · exact RdZ.one (own_RdZ hu.out)
          · rfl
        case c2 => exact hls.1
        case c3 => exact hls.2
        intro v' w3 h2 h3 h4 _
        have hO3 := hid (hO1.out.add ⟨p, 1⟩ k2.out hu.out nu.out h2 h3 h4)
        have hq2 := hid (hq'.out (.slice au p.length cu))
        have hqk' : Hd ((qs ++ [((⟨p, 1⟩ : Grp), Value.slice au p.length cu)]).length = k + 1) := ⟨by rw [List.length_append, hqk.out]; rfl⟩
        clear h2 h3 h4 hO1 hO2 hq' hqk hu nu k2 hls hpl
        go_wp2
        go_roundw
        case rel => first | exact ⟨k + 1, _, by omega, by go_num, hqk', hq2, hA', hO3⟩ | ((repeat apply Exists.intro); exact ⟨⟨k + 1, _, by omega, by go_num, hqk', hq2, hA', hO3⟩, rfl⟩)
        case measure => simp [intOf]; omega
    · obtain rfl : k = len := by omega
      have hall : (lists bs).take k = lists bs := List.take_of_length_le (by rw [lists_length, hlen.out]; exact Nat.le_refl _)
      have hv : Hd (mk n (lists bs) = (pileOf (grps qs), 0)) := ⟨by
        have h1 := hA.out
        have h2 := hqs.out
        rw [hall] at h1 h2
        rw [hmk.out, h1, if_pos rfl, h2]⟩
      have hqn : Hd (∀ x ∈ qs, 0 ≤ x.1.n ∧ x.1.n ≤ 100000) := ⟨fun x hx => by
        have : x.1 ∈ grps qs := List.mem_map_of_mem hx
        rw [hqs.out] at this
        obtain ⟨b, _, he⟩ := List.mem_map.1 this
        rw [← he]; simp⟩
      have HM := hid (merge_any u6 qs wr hO.out.own hO.out.rdAll (by rw [hqk.out]; omega) hqn.out)
      clear hA hqs hmk hall hqn
      go_wp2_with fail
      refine HM.out.mono ?_
      rintro e w1 ⟨v', rs, rfl, hrs, ho1, hz1, k1, n1⟩
      have hG : Hd (GR w w1 v' (pileOf (grps qs))) := ⟨rs, hrs, own_RdG ho1 hz1, hO.out.new.kept hO.out.kept k1⟩
      clear hrs ho1 hz1 k1 n1 HM
      go_wp2
      go_ret2
      exact ⟨_, by rw [hv.out] <;> rfl, by rw [hv.out]; exact hG.out⟩
end Go.Proofs.Ytmigdhbolbhbeaa
