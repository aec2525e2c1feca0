/- Places of numbers in lists, which candidates remain, sums over groups: Place, slices.Index, in, remains, Total and Marked of both packages. -/
import Derived.Test.YtmigdhbolbhbeaaAdd
namespace Go.Pil
theorem tot_pre {n : Int} {l : List Grp} (h : isPile n l = true) (k : Nat) : 0 ≤ tot (l.take k) ∧ tot (l.take k) ≤ 100000 := pile_tot (pile_pre h k)
theorem idxOf_at {p : List Int} {k : Nat} {x : Int} (hk : k < p.length) (hn : x ∉ p.take k) (he : p.getD k 0 = x) : p.idxOf x = k := by
  have h1 : p = p.take k ++ x :: p.drop (k + 1) := by
    rw [← he]
    have : p.getD k 0 = p[k] := by simp [List.getD_eq_getElem?_getD, hk]
    rw [this, ← List.drop_eq_getElem_cons hk, List.take_append_drop]
  rw [h1, List.idxOf_append, if_neg hn]
  simp; omega
def idxI (p : List Int) (x : Int) : Int := if x ∈ p then (p.idxOf x : Int) else -1
theorem pref_idx (p : List Int) (a b : Int) : pref p a b = true ↔ 0 ≤ idxI p a ∧ (idxI p b < 0 ∨ idxI p a < idxI p b) := by
  unfold pref idxI
  rw [decide_eq_true_iff]
  by_cases ha : a ∈ p
  · have := List.idxOf_lt_length_of_mem ha
    rw [if_pos ha]
    by_cases hb : b ∈ p
    · rw [if_pos hb]; omega
    · rw [if_neg hb, List.idxOf_eq_length hb]; omega
  · rw [if_neg ha, List.idxOf_eq_length ha]
    have : p.idxOf b ≤ p.length := List.idxOf_le_length
    omega
theorem sumIf_take {Q : List Int → Bool} {l : List Grp} {k : Nat} {g : Grp} (hg : l[k]? = some g) : sumIf Q (l.take (k + 1)) = sumIf Q (l.take k) + if Q g.p = true then g.n else 0 := by
  obtain ⟨hk, hgk⟩ := List.getElem?_eq_some_iff.1 hg
  rw [List.take_succ_eq_append_getElem hk, hgk]
  simp [sumIf]
theorem sumIf_le {Q : List Int → Bool} {l : List Grp} (h : ∀ g ∈ l, 1 ≤ g.n) : 0 ≤ sumIf Q l ∧ sumIf Q l ≤ tot l := by
  induction l with
  | nil => simp [sumIf, tot]
  | cons g l ih =>
    have := ih fun x hx => h x (by simp [hx])
    have := h g (by simp)
    rw [sumIf_cons, tot_cons]
    split <;> omega
theorem sumIf_pre {n : Int} {Q : List Int → Bool} {l : List Grp} (h : isPile n l = true) (k : Nat) : 0 ≤ sumIf Q (l.take k) ∧ sumIf Q (l.take k) ≤ 100000 := by
  have h1 := tot_pre h k
  have h2 := sumIf_le (Q := Q) (l := l.take k) fun g hg => (((isPile_iff n l).1 h).1 g (List.mem_of_mem_take hg)).2
  omega
theorem marked_ref (gs : List Grp) : marked gs = match gs with | [] => total gs | g :: _ => if 0 < total gs ∧ g.p = [] then total gs - g.n else total gs := by
  unfold marked total
  cases h : isPile 7 gs with
  | false => cases gs <;> simp
  | true =>
    cases gs with
    | nil => simp [sumIf, tot]
    | cons g r =>
      have hp := (isPile_iff 7 _).1 h
      simp only [if_true]
      have hr : sumIf (fun p => !p.isEmpty) r = tot r := by
        rw [← sumIf_all]
        refine sumIf_congr fun x hx => ?_
        have hlt := (List.pairwise_cons.1 hp.2.2).1 x hx
        cases hxp : x.p with
        | nil => rw [hxp] at hlt; simp [lt] at hlt
        | cons a b => rfl
      have hn := hp.1 g (by simp)
      have ht := tot_nonneg (l := r) fun x hx => (hp.1 x (by simp [hx])).2
      have hc := tot_cons g r
      rw [sumIf_cons, hr]
      cases hg : g.p with
      | nil =>
        have e : (0 < tot (g :: r) ∧ ([] : List Int) = []) := ⟨by omega, rfl⟩
        simp only [e, and_self, if_true, List.isEmpty_nil, Bool.not_true]
        simp; omega
      | cons a b => simp; omega
end Go.Pil
namespace Go.Proofs.Ytmigdhbolbhbeaa
open Go.RowKit Go.Mk Go.Pil
/-- A slice of flags. -/
def RdT (w : World) (v : Value) (bs : List Bool) : Prop := Rd w 1 v bs.length (bs.map Value.bool)
theorem RdT.kept {w w' : World} {v : Value} {bs : List Bool} (h : RdT w v bs) (hk : Kept no w w') : RdT w' v bs := Rd.keptNo h hk
theorem RdT.at {w : World} {ao : Option Addr} {n cap : Nat} {bs : List Bool} (h : RdT w (.slice ao n cap) bs) (k : Nat) (hk : k < bs.length) :
    ∃ b o, ao = some ⟨b, o, none⟩ ∧ w.cell? ⟨b, o + k, none⟩ = some (.bool (bs.getD k false)) := by
  obtain ⟨_, _, _, e, h1, _, h | ⟨b, o, rfl, hc⟩⟩ := h
  · cases e; omega
  · cases e
    exact ⟨b, o, rfl, hc k _ (by simp [hk])⟩
set_option maxRecDepth 20000 in
set_option maxHeartbeats 1000000 in
theorem place_any (v : Value) (zs : List Int) (x : Int) (w : World) (hr : RdZ w v zs) : Calls Try.prog 64 #[v, .int .i64 x] w fun e w' => e = .returned (.int .i64 (zs.idxOf x : Int)) ∧ Qt w w' := by
  obtain ⟨ao, cap, rfl, hcap, hcm⟩ := Rd.shape2 hr
  have hm63 := maxLen_63
  replace hr := hid hr
  go_enter Try.func64, Try.ntmps64
  go_wp2
  go_loopw [5] (fun i wr => ∃ k : Nat, k ≤ zs.length ∧ i = .int .i64 (k : Int) ∧ Hd (x ∉ zs.take k) ∧ Hd (Qt w wr)) (fun i _ => zs.length - (intOf i).toNat)
  case atStart => exact ⟨0, by omega, rfl, ⟨by simp⟩, ⟨Qt.refl _⟩⟩
  case round =>
    obtain ⟨k, hk, rfl, hx, hW⟩ := hrel
    by_cases hlt : k < zs.length
    · obtain ⟨b, o, rfl, hc⟩ := (hr.out.kept hW.out.kept).at k hlt
      have hk1 : (k : Int) < (zs.length : Int) := by omega
      have hst := hid (mem_take_succ hlt x)
      have hat := hid (fun h => idxOf_at hlt hx.out h)
      generalize zs.getD k 0 = z at hc hst hat
      by_cases he : z = x
      · have hb : (z == x) = true := by simpa using he
        have hv := hid (hat.out he)
        clear he hat hst
        go_wp2
        go_ret
        exact ⟨by rw [hv.out] <;> rfl, hW.out⟩
      · have hb : (z == x) = false := by simpa using he
        have hn : Hd (x ∉ zs.take (k + 1)) := ⟨fun h => (hst.out.1 h).elim hx.out fun e => he e.symm⟩
        clear he hst hat hx
        go_wp2
        go_roundw
        case rel => first | exact ⟨k + 1, by omega, by go_num, hn, hW⟩ | ((repeat apply Exists.intro); exact ⟨⟨k + 1, by omega, by go_num, hn, hW⟩, rfl⟩)
        case measure => simp [intOf]; omega
    · obtain rfl : k = zs.length := by omega
      have hv : Hd (zs.idxOf x = zs.length) := ⟨List.idxOf_eq_length (by have := hx.out; rwa [List.take_length] at this)⟩
      clear hx
      go_wp2
      go_ret
      exact ⟨by rw [hv.out] <;> rfl, hW.out⟩
set_option maxRecDepth 20000 in
set_option maxHeartbeats 1000000 in
theorem index_any (v : Value) (zs : List Int) (x : Int) (w : World) (hr : RdZ w v zs) : Calls Try.prog 57 #[v, .int .i64 x] w fun e w' => e = .returned (.int .i64 (idxI zs x)) ∧ Qt w w' := by
  obtain ⟨ao, cap, rfl, hcap, hcm⟩ := Rd.shape2 hr
  have hm63 := maxLen_63
  replace hr := hid hr
  go_enter Try.func57, Try.ntmps57
  go_wp2
  go_loopw [8] (fun i wr => ∃ k : Nat, k ≤ zs.length ∧ i = .int .i64 (k : Int) ∧ Hd (x ∉ zs.take k) ∧ Hd (Qt w wr)) (fun i _ => zs.length - (intOf i).toNat)
  case atStart => exact ⟨0, by omega, rfl, ⟨by simp⟩, ⟨Qt.refl _⟩⟩
  case round =>
    obtain ⟨k, hk, rfl, hx, hW⟩ := hrel
    by_cases hlt : k < zs.length
    · obtain ⟨b, o, rfl, hc⟩ := (hr.out.kept hW.out.kept).at k hlt
      have hk1 : (k : Int) < (zs.length : Int) := by omega
      have hst := hid (mem_take_succ hlt x)
      have hat := hid (fun h => idxOf_at hlt hx.out h)
      have hml := hid (fun h => List.mem_of_mem_take (i := k + 1) (show x ∈ zs.take (k + 1) from h))
      generalize zs.getD k 0 = z at hc hst hat
      by_cases he : x = z
      · have hb : (x == z) = true := by simpa using he
        have hv : Hd (idxI zs x = (k : Int)) := ⟨by unfold idxI; rw [if_pos (hml.out (hst.out.2 (.inr he))), hat.out he.symm]⟩
        clear he hat hst hml
        go_wp2
        go_ret
        exact ⟨by rw [hv.out] <;> rfl, hW.out⟩
      · have hb : (x == z) = false := by simpa using he
        have hn : Hd (x ∉ zs.take (k + 1)) := ⟨fun h => (hst.out.1 h).elim hx.out fun e => he e⟩
        clear he hst hat hx hml
        go_wp2
        go_roundw
        case rel => first | exact ⟨k + 1, by omega, by go_num, hn, hW⟩ | ((repeat apply Exists.intro); exact ⟨⟨k + 1, by omega, by go_num, hn, hW⟩, rfl⟩)
        case measure => simp [intOf]; omega
    · obtain rfl : k = zs.length := by omega
      have hv : Hd (idxI zs x = -1) := ⟨by unfold idxI; rw [if_neg (by have := hx.out; rwa [List.take_length] at this)]⟩
      clear hx
      go_wp2
      go_ret
      exact ⟨by rw [hv.out] <;> rfl, hW.out⟩
set_option maxHeartbeats 1000000 in
theorem in_any (v : Value) (bs : List Bool) (x : Int) (w : World) (hr : RdT w v bs) : Calls Try.prog 76 #[v, .int .i64 x] w fun e w' => e = .returned (.bool (inB bs x)) ∧ w' = w := by
  obtain ⟨ao, cap, rfl, hcap, hcm⟩ := Rd.shape2 hr
  have hm63 := maxLen_63
  by_cases h0 : 0 ≤ x
  · obtain ⟨c, rfl⟩ : ∃ c : Nat, x = (c : Int) := ⟨x.toNat, by omega⟩
    have hd0 : decide ((0 : Int) ≤ (c : Int)) = true := decide_eq_true h0
    by_cases h1 : c < bs.length
    · obtain ⟨b, o, rfl, hc⟩ := RdT.at hr c h1
      have hv : Hd (inB bs (c : Int) = bs.getD c false) := ⟨by simp [inB]⟩
      have h1' : (c : Int) < (bs.length : Int) := by omega
      have hd1 : decide ((c : Int) < (bs.length : Int)) = true := decide_eq_true h1'
      generalize bs.getD c false = r at hc hv
      clear hr
      go_enter Try.func76, Try.ntmps76
      go_wp2
      go_ret
      exact ⟨by rw [hv.out]; rfl, rfl⟩
    · have hv : Hd (inB bs (c : Int) = false) := ⟨by simp [inB, List.getD_eq_getElem?_getD, List.getElem?_eq_none (Nat.not_lt.1 h1)]⟩
      have h1' : ¬ (c : Int) < (bs.length : Int) := by omega
      have hd1 : decide ((c : Int) < (bs.length : Int)) = false := decide_eq_false h1'
      clear hr
      go_enter Try.func76, Try.ntmps76
      go_wp2
      go_ret
      exact ⟨by rw [hv.out]; rfl, rfl⟩
  · have hv : Hd (inB bs x = false) := ⟨by simp [inB, h0]⟩
    have hd0 : decide ((0 : Int) ≤ x) = false := decide_eq_false h0
    clear hr
    go_enter Try.func76, Try.ntmps76
    go_wp2
    go_ret
    exact ⟨by rw [hv.out]; rfl, rfl⟩
set_option maxHeartbeats 1000000 in
theorem remains_any (v : Value) (bs : List Bool) (c : Nat) (w : World) (hr : RdT w v bs) : Calls Try.prog 56 #[v, .int .i64 (c : Int)] w fun e w' => e = .returned (.bool (inB bs (c : Int))) ∧ w' = w := by
  obtain ⟨ao, cap, rfl, hcap, hcm⟩ := Rd.shape2 hr
  have hm63 := maxLen_63
  have h0 : (0 : Int) ≤ (c : Int) := by omega
  by_cases h1 : c < bs.length
  · obtain ⟨b, o, rfl, hc⟩ := RdT.at hr c h1
    have hv : Hd (inB bs (c : Int) = bs.getD c false) := ⟨by simp [inB]⟩
    have h1' : (c : Int) < (bs.length : Int) := by omega
    have hd1 : decide ((c : Int) < (bs.length : Int)) = true := decide_eq_true h1'
    generalize bs.getD c false = r at hc hv
    clear hr
    go_enter Try.func56, Try.ntmps56
    go_wp2
    go_ret
    exact ⟨by rw [hv.out]; rfl, rfl⟩
  · have hv : Hd (inB bs (c : Int) = false) := ⟨by simp [inB, List.getD_eq_getElem?_getD, List.getElem?_eq_none (Nat.not_lt.1 h1)]⟩
    have h1' : ¬ (c : Int) < (bs.length : Int) := by omega
    have hd1 : decide ((c : Int) < (bs.length : Int)) = false := decide_eq_false h1'
    clear hr
    go_enter Try.func56, Try.ntmps56
    go_wp2
    go_ret
    exact ⟨by rw [hv.out]; rfl, rfl⟩
set_option maxRecDepth 20000 in
set_option maxHeartbeats 1000000 in
theorem reftotal_any (v : Value) (ps : List (Grp × Value)) (w : World) (hr : RdG w v ps) : Calls Try.prog 28 #[v] w fun e w' => e = .returned (.int .i64 (total (grps ps))) ∧ Qt w w' := by
  obtain ⟨ao, cap, rfl, hcap, hcm⟩ := hr.shape
  have hm63 := maxLen_63
  obtain ⟨P, hP⟩ : ∃ P, isPile 7 (grps ps) = P := ⟨_, rfl⟩
  have htot : Hd (total (grps ps) = if P = true then tot (grps ps) else 0) := ⟨by unfold total; rw [hP]⟩
  have hb : Hd (∀ k, P = true → 0 ≤ tot ((grps ps).take k) ∧ tot ((grps ps).take k) ≤ 100000) := ⟨fun k h => tot_pre (n := 7) (by rw [hP, h]) k⟩
  have HP : Hd (∀ W, Qt w W → Calls Try.prog 58 #[.slice ao ps.length cap] W fun e w' => e = .returned (.bool P) ∧ Qt W w') := ⟨fun W k => by have := refpile_any _ ps W (hr.kept k.kept); rwa [hP] at this⟩
  clear hP
  replace hr := hid hr
  obtain ⟨len, hlen⟩ : ∃ len, ps.length = len := ⟨_, rfl⟩
  rw [hlen] at hr hcap HP ⊢
  replace hlen := hid hlen
  go_enter Try.func28, Try.ntmps28
  go_wp2
  go_loopw [3, 4] (fun s i wr => ∃ (k : Nat) (T : Int), k ≤ len ∧ i = .int .i64 (k : Int) ∧ s = .int .i64 T ∧ Hd (T = tot ((grps ps).take k)) ∧ Hd (P = false → k = 0) ∧ Hd (Qt w wr)) (fun _ i _ => len - (intOf i).toNat)
  case atStart => exact ⟨0, 0, by omega, rfl, rfl, ⟨by simp [tot]⟩, ⟨fun _ => rfl⟩, ⟨Qt.refl _⟩⟩
  case round =>
    obtain ⟨k, T, hk, rfl, rfl, hT, hQ, hW⟩ := hrel
    by_cases hlt : k < len
    · have hk1 : (k : Int) < (len : Int) := by omega
      have hk0 : (0 : Int) ≤ (k : Int) := by omega
      obtain ⟨b, o, g, vg, rfl, hel, c0, c1, hz⟩ := (hr.out.kept hW.out.kept).at k (by rw [hlen.out]; exact hlt)
      have hts := hid (tot_step (grps_get _ hel))
      clear hel hz
      cases P with
      | false =>
        have hv : Hd (T = total (grps ps)) := ⟨by rw [hT.out, hQ.out rfl, htot.out]; simp [tot]⟩
        have HP' := hid (HP.out _ hW.out)
        clear hT hQ HP hts htot hb
        go_wp2_with fail
        refine HP'.out.mono ?_
        rintro e w1 ⟨rfl, k1⟩
        have hW' := hid (hW.out.trans k1)
        clear k1 HP'
        go_wp2
        go_ret
        exact ⟨by rw [hv.out] <;> rfl, hW'.out⟩
      | true =>
        obtain ⟨N, hN⟩ : ∃ N, g.n = N := ⟨_, rfl⟩
        rw [hN] at c1 hts
        have hb1 := hb.out k rfl
        have hb2 := hb.out (k + 1) rfl
        rw [hts.out, ← hT.out] at hb2
        rw [← hT.out] at hb1
        have hw1 : IntKind.i64.wrap (T + N) = T + N := IntWalk.i64_in _ (by omega)
        have hT' : Hd (T + N = tot ((grps ps).take (k + 1))) := ⟨by rw [hts.out, hT.out]⟩
        have hQ' : Hd ((true : Bool) = false → k + 1 = 0) := ⟨fun h => by cases h⟩
        have HP' := hid (HP.out _ hW.out)
        clear hT hQ hts hb1 hb2 hN
        go_wp2_with fail
        refine HP'.out.mono ?_
        rintro e w1 ⟨rfl, k1⟩
        have hW' := hid (hW.out.trans k1)
        have c1' := k1.kept.cell c1 id
        clear k1 HP' hW c0 c1
        go_wp2
        go_roundw
        case rel => first | exact ⟨k + 1, T + N, by omega, by go_num, rfl, hT', hQ', hW'⟩ | ((repeat apply Exists.intro); exact ⟨⟨k + 1, T + N, by omega, by go_num, rfl, hT', hQ', hW'⟩, rfl⟩)
        case measure => simp [intOf]; omega
    · obtain rfl : k = len := by omega
      have hv : Hd (T = total (grps ps)) := ⟨by
        rw [hT.out, htot.out]
        cases P with
        | false => rw [hQ.out rfl]; simp [tot]
        | true => rw [List.take_of_length_le (by rw [grps_length, hlen.out]; exact Nat.le_refl _), if_pos rfl]⟩
      clear hT hQ htot HP hb
      go_wp2
      go_ret
      exact ⟨by rw [hv.out] <;> rfl, hW.out⟩
theorem total_range (gs : List Grp) : 0 ≤ total gs ∧ total gs ≤ 100000 := by
  unfold total
  split
  · rename_i h; exact pile_tot h
  · omega
set_option maxRecDepth 20000 in
set_option maxHeartbeats 1000000 in
theorem refmarked_any (v : Value) (ps : List (Grp × Value)) (w : World) (hr : RdG w v ps) : Calls Try.prog 30 #[v] w fun e w' => e = .returned (.int .i64 (marked (grps ps))) ∧ Qt w w' := by
  have HT := hid (reftotal_any v ps w hr)
  have hm := hid (marked_ref (grps ps))
  obtain ⟨ht0, ht1⟩ := total_range (grps ps)
  have htz : Hd (ps = [] → total (grps ps) = 0) := ⟨fun h => by subst h; simp [grps, total, tot]⟩
  obtain ⟨T, hT⟩ : ∃ T, total (grps ps) = T := ⟨_, rfl⟩
  rw [hT] at HT ht0 ht1 htz
  replace hT := hid hT
  obtain ⟨ao, cap, rfl, hcap, hcm⟩ := hr.shape
  have hm63 := maxLen_63
  by_cases h0 : 0 < T
  · obtain ⟨⟨g, u⟩, r, rfl⟩ : ∃ x r, ps = x :: r := by
      cases ps with
      | nil => have := htz.out rfl; omega
      | cons x r => exact ⟨x, r, rfl⟩
    have hlp : (0 : Int) < ((((g, u) :: r : List (Grp × Value)).length : Nat) : Int) := by simp only [List.length_cons]; omega
    obtain ⟨b, o, g', vg, rfl, hel, c0, c1, hz⟩ := hr.at 0 (by simp)
    obtain ⟨rfl, rfl⟩ : g = g' ∧ u = vg := by simpa using hel
    obtain ⟨au, cu, rfl, hcu, hcu2⟩ := Rd.shape2 hz
    have hd0 : decide ((0 : Int) < T) = true := decide_eq_true h0
    have hme : Hd (marked (grps ((g, .slice au g.p.length cu) :: r)) = if g.p.length = 0 then T - g.n else T) := ⟨by
      have := hm.out
      simp only [grps, List.map_cons] at this
      rw [show grps ((g, Value.slice au g.p.length cu) :: r) = g :: r.map (·.1) from rfl, this]
      have hT' : total (g :: r.map (·.1)) = T := hT.out
      rw [hT']
      by_cases hg : g.p = []
      · rw [if_pos ⟨h0, hg⟩, if_pos (by rw [hg]; rfl)]
      · rw [if_neg (fun h => hg h.2), if_neg (fun h => hg (List.eq_nil_of_length_eq_zero h))]⟩
    have hgn : g.p.length = 0 → 0 ≤ T - g.n ∧ g.n ≤ 100000 ∧ 1 ≤ g.n := fun _ => by
      have := hT.out
      have hnn := htz.out
      unfold total at this
      split at this
      · rename_i hp
        have hp' := (isPile_iff 7 _).1 hp
        have h1 := hp'.1 g (by simp [grps])
        have h2 := tot_nonneg (l := r.map (·.1)) fun x hx => (hp'.1 x (by simp only [grps, List.map_cons, List.mem_cons]; exact .inr hx)).2
        rw [show grps ((g, Value.slice au g.p.length cu) :: r) = g :: r.map (·.1) from rfl, tot_cons] at this
        omega
      · omega
    obtain ⟨N, hN⟩ : ∃ N, g.n = N := ⟨_, rfl⟩
    obtain ⟨lg, hlg⟩ : ∃ lg, g.p.length = lg := ⟨_, rfl⟩
    rw [hN, hlg] at hgn
    rw [hN, hlg] at hme
    rw [hN] at c1
    rw [hlg] at c0 hz HT
    simp only [hlg] at hlp
    rw [hlg]
    obtain ⟨LL, hLL⟩ : ∃ LL, (((g, Value.slice au lg cu) :: r : List (Grp × Value)).length) = LL := ⟨_, rfl⟩
    rw [hLL] at HT hlp ⊢
    clear hcap
    have c0' : w.cell? ⟨b, o, none⟩ = some (.slice au lg cu) := by simpa using c0
    have c1' : w.cell? ⟨b, o + 1, none⟩ = some (.int .i64 N) := by simpa using c1
    clear hr hel hm hT htz hz c0 c1 hN hlg hLL
    by_cases hg0 : lg = 0
    · have hdg : ((lg : Int) == 0) = true := by subst hg0; rfl
      have hdg' : decide ((lg : Int) = 0) = true := by subst hg0; rfl
      obtain ⟨h1, h2, h3⟩ := hgn hg0
      have hw1 : IntKind.i64.wrap (T - N) = T - N := IntWalk.i64_in _ (by omega)
      have hv : Hd (marked (grps ((g, .slice au lg cu) :: r)) = T - N) := ⟨by rw [hme.out, if_pos hg0]⟩
      clear hgn hme
      subst hg0
      go_enter Try.func30, Try.ntmps30
      go_wp2_with fail
      refine HT.out.mono ?_
      rintro e w1 ⟨rfl, k1⟩
      have d0 := k1.kept.cell c0' id
      have d1 := k1.kept.cell c1' id
      replace k1 := hid k1
      clear c0' c1' HT
      go_wp2
      go_ret
      exact ⟨by rw [hv.out] <;> rfl, k1.out⟩
    · have hdg : ((lg : Int) == 0) = false := by simp; omega
      have hdg' : decide ((lg : Int) = 0) = false := decide_eq_false (by omega)
      have hv : Hd (marked (grps ((g, .slice au lg cu) :: r)) = T) := ⟨by rw [hme.out, if_neg hg0]⟩
      clear hgn hme
      go_enter Try.func30, Try.ntmps30
      go_wp2_with fail
      refine HT.out.mono ?_
      rintro e w1 ⟨rfl, k1⟩
      have d0 := k1.kept.cell c0' id
      have d1 := k1.kept.cell c1' id
      replace k1 := hid k1
      clear c0' c1' HT
      go_wp2
      go_ret
      exact ⟨by rw [hv.out] <;> rfl, k1.out⟩
  · obtain rfl : T = 0 := by omega
    have hv : Hd (marked (grps ps) = 0) := ⟨by
      rw [hm.out]
      split
      · exact hT.out
      · rw [if_neg (by rw [hT.out]; omega)]; exact hT.out⟩
    clear hm hT htz hr
    go_enter Try.func30, Try.ntmps30
    go_wp2_with fail
    refine HT.out.mono ?_
    rintro e w1 ⟨rfl, k1⟩
    replace k1 := hid k1
    clear HT
    go_wp2
    go_ret
    exact ⟨by rw [hv.out] <;> rfl, k1.out⟩
end Go.Proofs.Ytmigdhbolbhbeaa
