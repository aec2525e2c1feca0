/- pile.Make: groups with preferences of their own; the pile of any ballots. -/
import Derived.Test.YtkdmlakookgolaaAddZ
import Derived.Test.YtkdmlakookgolaaCntZ
import Derived.Test.YtkdmlakookgolaaPilZ
namespace Go.Mk
def apart (v u : Value) : Prop := ∀ j, v.ownBlock = some j → u.ownBlock = some j → False
end Go.Mk
namespace Go.Pil
def allB (n : Int) (ls : List (List Int)) : Bool := ls.all (ballot n)
/-- What Make answers. -/
def mk (n : Int) (ls : List (List Int)) : List Grp × Int := if n < 1 ∨ 7 < n then ([], 4) else if 100000 < ls.length then ([], 7) else if allB n ls = true then (pileOf (ones ls), 0) else ([], 8)
theorem allB_take {n : Int} {ls : List (List Int)} {k : Nat} {p : List Int} (hp : ls[k]? = some p) (h : allB n (ls.take k) = true) (hb : ballot n p = true) : allB n (ls.take (k + 1)) = true := by
  (obtain ⟨hk, hgk⟩ := List.getElem?_eq_some_iff.1 hp); (unfold allB at *); (rw [List.take_succ_eq_append_getElem hk, List.all_append, h, hgk])
  simp [hb]
theorem allB_fail {n : Int} {ls : List (List Int)} {k : Nat} {p : List Int} (hp : ls[k]? = some p) (hb : ballot n p = false) : allB n ls = false := by
  unfold allB
  cases h : ls.all (ballot n) with
  | false => rfl
  | true => have := List.all_eq_true.1 h p (List.mem_of_getElem? hp); rw [hb] at this; cases this
theorem ones_take {ls : List (List Int)} {k : Nat} {p : List Int} (hp : ls[k]? = some p) : ones (ls.take (k + 1)) = ones (ls.take k) ++ [⟨p, 1⟩] := by
  (obtain ⟨hk, hgk⟩ := List.getElem?_eq_some_iff.1 hp); (rw [List.take_succ_eq_append_getElem hk, hgk]; simp [ones])
end Go.Pil
namespace Go.Proofs.Ytkdmlakookgolaa
open Go.RowKit Go.Mk Go.Pil
def lists (bs : List (List Int × Value)) : List (List Int) := bs.map (·.1)
theorem lists_length (bs : List (List Int × Value)) : (lists bs).length = bs.length := by simp [lists]
theorem lists_get {bs : List (List Int × Value)} {k : Nat} (hk : k < bs.length) {p : List Int} {v : Value} (h : bs[k] = (p, v)) : (lists bs)[k]? = some p := by
  unfold lists; rw [List.getElem?_map, List.getElem?_eq_getElem hk, h]; rfl
/-- Groups that can be read behind a call. -/
def GR (w w' : World) (v : Value) (gs : List Grp) : Prop := ∃ qs, grps qs = gs ∧ RdG w' v qs ∧ Kept no w w'
/-- Groups of their own, each with preferences of its own. -/
structure OwC (w w' : World) (v : Value) (qs : List (Grp × Value)) : Prop where
  own : w'.ownsRow 0 74 2 v qs.length (flatG qs)
  rows : ∀ x ∈ qs, w'.ownsRow 0 3 1 x.2 x.1.p.length (x.1.p.map Z)
  kept : Kept no w w'
  new : New w v
  newr : ∀ x ∈ qs, New w x.2
  dist : qs.Pairwise fun x y => apart x.2 y.2
theorem int_ne_group : 3 ≠ 74 := by decide
theorem OwC.nil (w : World) : OwC w w (.slice none 0 0) [] := ⟨World.ownsRow_nil _ _ _ _, (fun x hx => by cases hx), Kept.refl _ _, .inl rfl, (fun x hx => by cases hx), List.Pairwise.nil⟩
theorem OwC.keptNo {w w' w2 : World} {v : Value} {qs : List (Grp × Value)} (h : OwC w w' v qs) (k : Kept no w' w2) : OwC w w2 v qs :=
  ⟨k.ownsRow h.own fun _ _ => id, fun x hx => k.ownsRow (h.rows x hx) fun _ _ => id, h.kept.trans' k, h.new, h.newr, h.dist⟩
theorem OwC.rows_kept {w w' W : World} {v : Value} {qs : List (Grp × Value)} (h : OwC w w' v qs) (k : Kept (ob v) w' W) : ∀ x ∈ qs, W.ownsRow 0 3 1 x.2 x.1.p.length (x.1.p.map Z) := fun x hx =>
  k.ownsRow (h.rows x hx) fun j hj hv => own_own (h.rows x hx) h.own int_ne_group j hj hv
theorem OwC.rdAll {w w' : World} {v : Value} {qs : List (Grp × Value)} (h : OwC w w' v qs) : ∀ x ∈ qs, ∀ W, Kept (ob v) w' W → RdZ W x.2 x.1.p := fun x hx _ k => own_RdZ (h.rows_kept k x hx)
theorem OwC.rd {w w' : World} {v : Value} {qs : List (Grp × Value)} (h : OwC w w' v qs) : RdG w' v qs := own_RdG h.own fun x hx => own_RdZ (h.rows x hx)
/-- One group more: w1 the world behind the new preferences u, w2 behind the append. -/
theorem OwC.add {w w0 w1 w2 : World} {v v' u : Value} {qs : List (Grp × Value)} (h : OwC w w0 v qs) (g : Grp) (k1 : Kept no w0 w1) (hu : w1.ownsRow 0 3 1 u g.p.length (g.p.map Z)) (hn : New w0 u)
    (ho : w2.ownsRow 0 74 2 v' (qs.length + 1) (flatG qs ++ [u, .int .i64 g.n])) (hk : Kept (ob v) w1 w2) (hv : NewOr w1 v v') : OwC w w2 v' (qs ++ [(g, u)]) := by
  (have h1 := h.keptNo k1); (refine ⟨by rw [List.length_append, flatG_append, flatG_one]; exact ho, fun x hx => ?_, h1.new.kept h1.kept hk, h1.new.step hv h1.kept.size, fun x hx => ?_, ?_⟩)
  · rcases List.mem_append.1 hx with hx | hx
    · exact h1.rows_kept hk x hx
    · (obtain rfl : x = (g, u) := by simpa using hx); (exact hk.ownsRow hu fun j hj hv => own_own hu h1.own int_ne_group j hj hv)
  · rcases List.mem_append.1 hx with hx | hx
    · exact h.newr x hx
    · (obtain rfl : x = (g, u) := by simpa using hx); (exact hn.of h.kept.size)
  · (rw [List.pairwise_append]); (refine ⟨h.dist, by simp, fun x hx y hy => ?_⟩); (obtain rfl : y = (g, u) := by simpa using hy); (intro j hj hj'); (have h3 := own_lt (h.rows x hx) j hj); (have h4 := hn.fr (Nat.le_refl _) j hj')
    omega
end Go.Proofs.Ytkdmlakookgolaa

/- Made ballots: electionmake.Ballot; lists of ballots of their own. -/
namespace Go.Pil
/-- The numbers modulo n, each once, at most n of them. -/
def balStep (n : Int) (out : List Int) (y : Int) : List Int := if (out.length : Int) < n ∧ (y.tmod n + n).tmod n ∉ out then out ++ [(y.tmod n + n).tmod n] else out
def bal (n : Int) (l : List Int) : List Int := l.foldl (balStep n) []
theorem bal_take {n : Int} {l : List Int} {k : Nat} (hk : k < l.length) : bal n (l.take (k + 1)) = balStep n (bal n (l.take k)) (l.getD k 0) := by
  (have e : l.getD k 0 = l[k] := by simp [List.getD_eq_getElem?_getD, hk]); (unfold bal); (rw [List.take_succ_eq_append_getElem hk, List.foldl_append, e]; rfl)
theorem bal_full {n : Int} (l : List Int) : ∀ s : List Int, ¬ (s.length : Int) < n → l.foldl (balStep n) s = s := by
  induction l with
  | nil => intro s _; rfl
  | cons y l ih =>
    (intro s hs); (rw [List.foldl_cons]); (have : balStep n s y = s := by unfold balStep; rw [if_neg fun h => hs h.1]); (rw [this]; exact ih s hs)
theorem bal_stop {n : Int} {l : List Int} {k : Nat} (h : ¬ ((bal n (l.take k)).length : Int) < n) : bal n l = bal n (l.take k) := by
  have : l = l.take k ++ l.drop k := (List.take_append_drop _ _).symm
  conv => lhs; rw [this]
  (unfold bal); (rw [List.foldl_append]); (exact bal_full _ _ h)
theorem bal_ballot {n : Int} (hn : 0 < n) (l : List Int) : ballot n (bal n l) = true := by
  have : ∀ (l s : List Int), ballot n s = true → ballot n (l.foldl (balStep n) s) = true := by
    intro l
    induction l with
    | nil => intro s h; exact h
    | cons y l ih =>
      (intro s h); (rw [List.foldl_cons]); (refine ih _ ?_); (unfold balStep)
      split
      · rename_i hc
        (unfold ballot at h ⊢); (have h := of_decide_eq_true h); (refine decide_eq_true ⟨?_, fun x hx => ?_⟩)
        · rw [List.nodup_append]
          exact ⟨h.1, by simp, fun a ha b hb e => hc.2 (by have : b = (y.tmod n + n).tmod n := by simpa using hb
                                                           rw [← this, ← e]; exact ha)⟩
        · rcases List.mem_append.1 hx with hx | hx
          · exact h.2 x hx
          · (have : x = (y.tmod n + n).tmod n := by simpa using hx); (have h1 := Int.lt_tmod_of_pos y hn); (have h2 := Int.tmod_nonneg (y.tmod n + n |> fun z => n) (show 0 ≤ y.tmod n + n by omega)); (have h3 := Int.tmod_lt_of_pos (y.tmod n + n) hn); (rw [this]; exact ⟨Int.tmod_nonneg _ (by omega), h3⟩)
      · exact h
  exact this l [] (by simp [ballot])
def bals (n : Int) (ls : List (List Int)) (m : Nat) : List (List Int) := (ls.take m).map fun b => bal n (b.take 12)
theorem bals_len (n : Int) (ls : List (List Int)) (m : Nat) : (bals n ls m).length = min m ls.length := by simp [bals]
theorem bals_all {n : Int} (hn : 0 < n) (ls : List (List Int)) (m : Nat) : ∀ b ∈ bals n ls m, ballot n b = true := fun b hb => by
  (obtain ⟨x, _, rfl⟩ := List.mem_map.1 hb); (exact bal_ballot hn _)
end Go.Pil
namespace Go.Proofs.Ytkdmlakookgolaa
open Go.RowKit Go.Mk Go.Pil
theorem infZ0 : (Try.prog.info? 40).map (fun i => (i.zero, i.size)) = some (some (.slice none 0 0), 1) := by kernel_rfl
/-- Ballots of their own, each of its own. -/
structure OwL (w w' : World) (v : Value) (bs : List (List Int × Value)) : Prop where
  own : w'.ownsRow 0 40 1 v bs.length (bs.map (·.2))
  rows : ∀ x ∈ bs, w'.ownsRow 0 3 1 x.2 x.1.length (x.1.map Z)
  kept : Kept no w w'
  new : New w v
theorem int_ne_ints : 3 ≠ 40 := by decide
theorem OwL.nil (w : World) : OwL w w (.slice none 0 0) [] := ⟨World.ownsRow_nil _ _ _ _, (fun x hx => by cases hx), Kept.refl _ _, .inl rfl⟩
theorem OwL.keptNo {w w' w2 : World} {v : Value} {bs : List (List Int × Value)} (h : OwL w w' v bs) (k : Kept no w' w2) : OwL w w2 v bs :=
  ⟨k.ownsRow h.own fun _ _ => id, fun x hx => k.ownsRow (h.rows x hx) fun _ _ => id, h.kept.trans' k, h.new⟩
theorem OwL.rd {w w' : World} {v : Value} {bs : List (List Int × Value)} (h : OwL w w' v bs) : RdB w' v bs := ⟨fun x hx => own_RdZ (h.rows x hx), Rd.of_own h.own⟩
theorem OwL.add {w w0 w1 w2 : World} {v v' u : Value} {bs : List (List Int × Value)} (h : OwL w w0 v bs) (p : List Int) (k1 : Kept no w0 w1) (hu : w1.ownsRow 0 3 1 u p.length (p.map Z))
    (ho : w2.ownsRow 0 40 1 v' (bs.length + 1) (bs.map (·.2) ++ [u])) (hk : Kept (ob v) w1 w2) (hv : NewOr w1 v v') : OwL w w2 v' (bs ++ [(p, u)]) := by
  (have h1 := h.keptNo k1); (refine ⟨by rw [List.length_append, List.map_append]; exact ho, fun x hx => ?_, h1.new.kept h1.kept hk, h1.new.step hv h1.kept.size⟩)
  rcases List.mem_append.1 hx with hx | hx
  · exact hk.ownsRow (h1.rows x hx) fun j hj hv => own_own (h1.rows x hx) h1.own int_ne_ints j hj hv
  · (obtain rfl : x = (p, u) := by simpa using hx); (exact hk.ownsRow hu fun j hj hv => own_own hu h1.own int_ne_ints j hj hv)
set_option maxRecDepth 20000 in
set_option maxHeartbeats 1000000 in
theorem genballot_any (n : Int) (v : Value) (zs : List Int) (w : World) (h1 : 1 ≤ n) (h2 : n ≤ 7) (hr : RdZ w v zs) : Calls Try.prog 33 #[.int .i64 n, v] w fun e w' => ∃ v', e = .returned v' ∧ OwZ w w' v' (bal n zs) := by
  (obtain ⟨ao, cap, rfl, hcap, hcm⟩ := Rd.shape2 hr); (have hm63 := maxLen_63); (replace hr := hid hr)
  go_enter Try.func33, Try.ntmps33
  go_wp2
  go_loopw [5, 6] (fun out i wr => ∃ (k : Nat) (ao' : Option Addr) (cl : Nat), k ≤ zs.length ∧ i = .int .i64 (k : Int) ∧ out = .slice ao' (bal n (zs.take k)).length cl ∧ Hd (OwZ w wr (.slice ao' (bal n (zs.take k)).length cl) (bal n (zs.take k)))) (fun _ i _ => zs.length - (intOf i).toNat)
  case atStart => exact ⟨0, none, 0, by omega, rfl, rfl, ⟨OwZ.nil w⟩⟩
  case round =>
    (obtain ⟨k, ao', cl, hk, rfl, rfl, hO⟩ := hrel); (have hstop := hid (fun h => bal_stop (n := n) (l := zs) (k := k) h))
    by_cases hlt : k < zs.length
    · (obtain ⟨b, o, rfl, hc⟩ := (hr.out.kept hO.out.kept).at k hlt); (have hk1 : (k : Int) < (zs.length : Int) := by omega); (have hkd : decide ((k : Int) < (zs.length : Int)) = true := decide_eq_true hk1); (have hk0 : (0 : Int) ≤ (k : Int) := by omega); (have hst := hid (bal_take (n := n) hlt)); (generalize zs.getD k 0 = z at hc hst); (generalize bal n (zs.take k) = bk at hO hst hstop ⊢)
      by_cases hfl : (bk.length : Int) < n
      · (have hfd : decide ((bk.length : Int) < n) = true := decide_eq_true hfl); (have HM := hid (mod_any z n wr (by omega) (by omega))); (have hme := hid (show modI z n = (z.tmod n + n).tmod n from rfl)); (have HH := hid (has_any _ bk (modI z n) wr hO.out.rd)); (generalize modI z n = x at HM HH hme); (clear hstop)
        by_cases hx : x ∈ bk
        · rw [decide_eq_true hx] at HH
          have hO' : Hd (OwZ w wr (.slice ao' (bal n (zs.take (k + 1))).length cl) (bal n (zs.take (k + 1)))) := ⟨by
            rw [hst.out]; unfold balStep; rw [if_neg (fun h => h.2 (by rw [← hme.out]; exact hx))]; exact hO.out⟩
          (have hlen : Hd (bk.length = (bal n (zs.take (k + 1))).length) := ⟨by rw [hst.out]; unfold balStep; rw [if_neg (fun h => h.2 (by rw [← hme.out]; exact hx))]⟩); (clear hst hO hme hx); (go_wp2_with fail); (refine HM.out.mono ?_); (rintro e w1 ⟨rfl, rfl⟩); (go_wp2_with fail); (refine HH.out.mono ?_); (rintro e w2 ⟨rfl, k2⟩); (have hO2 := hid (hO'.out.keptNo k2.kept)); (rw [← hlen.out] at hO2); (clear k2 HH HM hO'); (go_wp2); (go_roundw)
          case rel => first | exact ⟨k + 1, ao', cl, by omega, by go_num, by rw [← hlen.out], by rw [← hlen.out]; exact hO2⟩ | ((repeat apply Exists.intro); exact ⟨⟨k + 1, ao', cl, by omega, by go_num, by rw [← hlen.out], by rw [← hlen.out]; exact hO2⟩, rfl⟩)
          case measure => simp [intOf]; omega
        · (rw [decide_eq_false hx] at HH); (have hne : Hd (bal n (zs.take (k + 1)) = bk ++ [x]) := ⟨by rw [hst.out]; unfold balStep; rw [if_pos ⟨hfl, by rw [← hme.out]; exact hx⟩, hme.out]⟩); (have hls : bk.length + 1 ≤ maxLen ∧ (bk.length + 1) * 8 ≤ 140737488355328 := by have hm : maxLen = 9223372036854775807 := rfl; omega); (clear hst hme hx); (go_wp2_with fail); (refine HM.out.mono ?_); (rintro e w1 ⟨rfl, rfl⟩); (go_wp2_with fail); (refine HH.out.mono ?_); (rintro e w2 ⟨rfl, k2⟩); (have hO2 := hid (hO.out.keptNo k2.kept)); (clear k2 HH HM hO hc); (go_wp2_with (at_builtin; refine wpList_append_lit _ rfl _ _ 40 rfl 3 1 8 TInts _ _ _ rfl hO2.out.own 1 [_] rfl rfl ?c1 ?c2 ?c3 ?_))
          case c1 => simp [Value.oneCell']
          case c2 => exact hls.1
          case c3 => exact hls.2
          (intro v' w3 h2 h3 h4 _); (have hO3 := hO2.out.add x h2 h3 h4); (rw [← hne.out] at hO3); (obtain ⟨a6, c6, rfl, _, _⟩ := Rd.shape2 hO3.rd); (replace hO3 := hid hO3); (clear h2 h3 h4 hO2 hls); (go_wp2); (go_roundw)
          case rel => first | exact ⟨k + 1, a6, c6, by omega, by go_num, rfl, hO3⟩ | ((repeat apply Exists.intro); exact ⟨⟨k + 1, a6, c6, by omega, by go_num, rfl, hO3⟩, rfl⟩)
          case measure => simp [intOf]; omega
      · (have hfd : decide ((bk.length : Int) < n) = false := decide_eq_false hfl); (have hv : Hd (bal n zs = bk) := ⟨hstop.out hfl⟩); (clear hstop hst hc); (go_wp2); (go_ret); (exact ⟨_, rfl, by rw [hv.out]; exact hO.out⟩)
    · (have hkd : decide ((k : Int) < (zs.length : Int)) = false := decide_eq_false (by omega)); (have hk1 : ¬ (k : Int) < (zs.length : Int) := by omega); (have hv : Hd (bal n zs = bal n (zs.take k)) := ⟨by rw [List.take_of_length_le (by omega)]⟩); (generalize bal n (zs.take k) = bk at hO hv); (clear hstop); (go_wp2); (go_ret); (exact ⟨_, rfl, by rw [hv.out]; exact hO.out⟩)
theorem RdZ.addr {w : World} {av : Option Addr} {lv cv : Nat} {zs : List Int} (h : RdZ w (.slice av lv cv) zs) : cv = 0 ∨ ∃ b o, av = some ⟨b, o, none⟩ := by
  obtain ⟨_, _, _, e, _, _, h | ⟨b, o, rfl, _⟩⟩ := h
  · cases e; exact .inl h
  · cases e; exact .inr ⟨b, o, rfl⟩
theorem pre_slice (av : Option Addr) (lv cv m : Nat) (hav : cv = 0 ∨ ∃ b o, av = some ⟨b, o, none⟩) (hm : m ≤ cv) (w : World) : (Instr.slice 40 (.slice av lv cv) none (some (.int .i64 (m : Int))) none).run Try.prog w = .ok (.slice av m cv) w := by
  (have h0 : (0 : Int) ≤ (m : Int) := by omega); (have hc : Try.prog.underlying 40 = some (.slice 3) := by kernel_rfl)
  rcases hav with rfl | ⟨b, o, rfl⟩
  · obtain rfl : m = 0 := by omega
    simp [Instr.slice, Instr.sliceBounds, Instr.sliceBound, run_underlying hc, asIntOf]
  · simp [Instr.slice, Instr.sliceBounds, Instr.sliceBound, run_underlying hc, asIntOf, h0]
    (have e : (⟨b, o, none⟩ : Addr).add 0 = ⟨b, o, none⟩ := by simp [Addr.add]); (rw [if_pos hm, e]; simp)
end Go.Proofs.Ytkdmlakookgolaa

/- electionmake.Ballots (printed by gen_gen.py). -/
namespace Go.Pil
theorem bals_take {n : Int} {ls : List (List Int)} {k : Nat} {p : List Int} (hp : ls[k]? = some p) : bals n ls (k + 1) = bals n ls k ++ [bal n (p.take 12)] := by
  (obtain ⟨hk, hgk⟩ := List.getElem?_eq_some_iff.1 hp); (unfold bals); (rw [List.take_succ_eq_append_getElem hk, hgk]; simp)
theorem bals_all_of {n : Int} {ls : List (List Int)} {k : Nat} (h : ls.length ≤ k) (m : Nat) (hm : k ≤ m) : bals n ls m = bals n ls k := by
  unfold bals; rw [List.take_of_length_le (by omega), List.take_of_length_le h]
end Go.Pil
namespace Go.Proofs.Ytkdmlakookgolaa
open Go.RowKit Go.Mk Go.Pil
theorem lists_append (a b : List (List Int × Value)) : lists (a ++ b) = lists a ++ lists b := by simp [lists]
/-- A row of one's own that is new since w0. -/
def OwNew {Sl : Nat → Nat → Prop} (w0 : World) (zs : List Int) : Pr Sl := soft (fun v w => OwZ w0 w v zs) fun _ _ _ h k => h.keptNo k
/-- A slice of the one element. -/
def One {Sl : Nat → Nat → Prop} (d : Nat) : Pr Sl := rel d (fun u v w => ∃ g, v = .slice (some ⟨g, 0, none⟩) 1 1 ∧ w.cell? ⟨g, 0, none⟩ = some u) fun _ _ _ _ ⟨g, e, h⟩ k => ⟨g, e, k.cell h id⟩
/-- The value of the operation before. -/
def Is2 {Sl : Nat → Nat → Prop} (d : Nat) : Pr Sl := rel d (fun u v _ => v = u) fun _ _ _ _ h _ => h
/-- The list with the ballot more. -/
def More {Sl : Nat → Nat → Prop} (w : World) (bs : List (List Int × Value)) (p : List Int) (d : Nat) : Pr Sl := rel d (fun u v w' => OwL w w' v (bs ++ [(p, u)])) fun _ _ _ _ h k => h.keptNo k
theorem one_rd {w : World} {v u : Value} (h : ∃ g, v = .slice (some ⟨g, 0, none⟩) 1 1 ∧ w.cell? ⟨g, 0, none⟩ = some u) : Rd w 1 v 1 [u] := by
  (obtain ⟨g, rfl, h⟩ := h); (refine ⟨rfl, _, 1, rfl, Nat.le_refl _, by decide, .inr ⟨g, 0, rfl, fun j x hj => ?_⟩⟩)
  cases j with
  | zero => simp at hj; subst hj; simpa using h
  | succ j => simp at hj
theorem one_fill {w0 w : World} {u : Value} {zs : List Int} (h : OwZ w0 w u zs) : Instr.fill (fun i => some (i * 1, 1)) ((Array.range (1 * 1)).map ((Value.slice none 0 0).cells[· % (Value.slice none 0 0).cells.size]!)) [(0, u)] = some [u].toArray := by
  (obtain ⟨a, c, rfl, _, _⟩ := Rd.shape2 h.rd); (exact fill_rows 1 (by decide) (Value.slice none 0 0) [Value.slice a zs.length c] (fun v hv => by obtain rfl := List.mem_singleton.1 hv; rfl))
theorem OwZ.of_kept {w0 w w' : World} {v : Value} {zs : List Int} (h : OwZ w w' v zs) (k : Kept no w0 w) : OwZ w0 w' v zs := ⟨h.own, k.trans' h.kept, h.new.of k.size⟩
theorem min12 (l : Nat) : (if (12 : Int) < (l : Int) then (12 : Int) else (l : Int)) = ((min l 12 : Nat) : Int) := by split <;> omega
set_option maxRecDepth 100000 in
set_option maxHeartbeats 4000000 in
theorem ballots_any (n : Int) (v : Value) (bs : List (List Int × Value)) (m : Nat) (w : World) (h1 : 1 ≤ n) (h2 : n ≤ 7) (hm : m ≤ 1000000) (hr : RdB w v bs) : Calls Try.prog 51 #[.int .i64 n, v, .int .i64 (m : Int)] w fun e w' => ∃ v' qs, e = .returned v' ∧ lists qs = bals n (lists bs) m ∧ OwL w w' v' qs := by
  (obtain ⟨ao, cap, rfl, hcap, hcm⟩ := Rd.shape2 hr.2); (have hm63 := maxLen_63); (replace hr := hid hr); (obtain ⟨len, hlen⟩ : ∃ len, bs.length = len := ⟨_, rfl⟩); (rw [hlen] at hr hcap ⊢); (replace hlen := hid hlen)
  go_enter Try.func51, Try.ntmps51
  go_wp2
  go_loopw [7, 8] (fun out i wr => ∃ (k : Nat) (qs : List (List Int × Value)), k ≤ len ∧ k ≤ m ∧ i = .int .i64 (k : Int) ∧ Hd (qs.length = k) ∧ Hd (lists qs = bals n (lists bs) k) ∧ Hd (OwL w wr out qs)) (fun _ i _ => len - (intOf i).toNat)
  case atStart => exact ⟨0, [], by omega, by omega, rfl, ⟨rfl⟩, ⟨rfl⟩, ⟨OwL.nil w⟩⟩
  case round =>
    obtain ⟨k, qs, hk, hkm, rfl, hqk, hqs, hO⟩ := hrel
    by_cases hlt : k < len
    · (have hk1 : (k : Int) < (len : Int) := by omega); (have hkd : decide ((k : Int) < (len : Int)) = true := decide_eq_true hk1); (have hk0 : (0 : Int) ≤ (k : Int) := by omega)
      by_cases hltm : k < m
      · (have hmd : decide ((k : Int) < (m : Int)) = true := decide_eq_true (by omega)); (have hk2 : (k : Int) < (m : Int) := by omega); (obtain ⟨b, o, p, vp, rfl, hel, c0, hz⟩ := (hr.out.kept hO.out.kept).at k (by rw [hlen.out]; exact hlt)); (have hbt : Hd (∀ u : Value, lists (qs ++ [(bal n (p.take 12), u)]) = bals n (lists bs) (k + 1)) := ⟨fun u => by rw [lists_append, hqs.out, bals_take (lists_get _ hel)]; rfl⟩); (obtain ⟨av, cv, rfl, hlc, hcv⟩ := Rd.shape2 hz); (have hsl := pre_slice av p.length cv (min p.length 12) hz.addr (by omega))
        have HG := hid (fun W (k : Kept no wr W) => genballot_any n (.slice av (min p.length 12) cv) (p.take 12) W h1 h2 (by
          (have := (hz.take (min p.length 12) (by omega)).kept k); (have e : p.take (min p.length 12) = p.take 12 := by rw [Nat.min_comm]; exact List.take_eq_take_min.symm)
          rwa [e] at this))
        (have hmin := min12 p.length); (have hmin2 : min (p.length : Int) 12 = ((min p.length 12 : Nat) : Int) := by omega); (have hqm : qs.length + 1 ≤ maxLen ∧ (qs.length + 1) * 24 ≤ 140737488355328 := by have := hqk.out; have hm : maxLen = 9223372036854775807 := rfl; omega); (replace hqm := hid hqm); (generalize p.length = lv at c0 hsl HG hmin hmin2); (generalize min lv 12 = mv at hsl HG hmin hmin2); (generalize p.take 12 = p12 at HG hbt); (replace c0 := hid c0); (clear hz hel hlc hcv); (go_upto_region 5 with fail); (refine region_flow (S := (ob u7)) (Sl := (fun _ => (ob u7))) [Is (u7), Is (.int .i64 n), Is (.slice (some ⟨b, o, none⟩) len cap), Is (.int .i64 (k : Int)), Is (.pointer (some ⟨b, o + k, none⟩)), Is (.slice av lv cv), Is (.slice (some ⟨b, o, none⟩) len cap), Is (.int .i64 (k : Int)), Is (.pointer (some ⟨b, o + k, none⟩)), Is (.slice av lv cv), Is (.int .i64 (lv : Int)), Is (.int .i64 (mv : Int)), Is (.slice av mv cv), OwNew wr (bal n p12), One 13, More w qs (bal n p12) 13, Is2 15] [15] (fun _ _ h => h) _ (by kernel_rfl) (by kernel_rfl) (by kernel_rfl) (by kernel_rfl) (fun x => by simp only [puts, Act.put, List.map_cons, List.map_nil, Nat.zero_add, Nat.reduceAdd, List.setIfInBounds_toArray, List.set_cons_zero, List.set_cons_succ]; exact rfl) ?_ ?_)
        · (skip); (refine Steps.cons (fun x wf Kk hq hdep hold => ?_) ?_)
          · (try dsimp only); (have h16 : x 16 = (u7) := hold 16 (by kernel_rfl)); (clear hq hdep hold); (simp only [h16]); (clear h16); (rw [if_pos (by rfl)]); (refine OpY.val (v := (u7)) ?_ ⟨Kept.refl _ _, rfl⟩); (first | rfl | go_simp)
          refine Steps.cons (fun x wf Kk hq hdep hold => ?_) ?_
          · (try dsimp only); (clear hq hdep hold); (rw [if_pos (by rfl)]); (refine OpY.val (v := (.int .i64 n)) ?_ ⟨Kept.refl _ _, rfl⟩); (first | rfl | go_simp)
          refine Steps.cons (fun x wf Kk hq hdep hold => ?_) ?_
          · (try dsimp only); (clear hq hdep hold); (rw [if_pos (by rfl)]); (refine OpY.val (v := (.slice (some ⟨b, o, none⟩) len cap)) ?_ ⟨Kept.refl _ _, rfl⟩); (first | rfl | go_simp)
          refine Steps.cons (fun x wf Kk hq hdep hold => ?_) ?_
          · (try dsimp only); (clear hq hdep hold); (rw [if_pos (by rfl)]); (refine OpY.val (v := (.int .i64 (k : Int))) ?_ ⟨Kept.refl _ _, rfl⟩); (first | rfl | go_simp)
          refine Steps.cons (fun x wf Kk hq hdep hold => ?_) ?_
          · (try dsimp only); (have h2 : x 2 = (.slice (some ⟨b, o, none⟩) len cap) := hdep 2 (by kernel_rfl)); (have h3 : x 3 = (.int .i64 (k : Int)) := hdep 3 (by kernel_rfl)); (clear hq hdep hold); (simp only [h2, h3]); (clear h2 h3); (rw [if_pos (by rfl)]); (refine OpY.val (v := (.pointer (some ⟨b, o + k, none⟩))) ?_ ⟨Kept.refl _ _, rfl⟩); (first | rfl | go_simp)
          refine Steps.cons (fun x wf Kk hq hdep hold => ?_) ?_
          · (try dsimp only); (have h4 : x 4 = (.pointer (some ⟨b, o + k, none⟩)) := hdep 4 (by kernel_rfl)); (have Kq := hq no (fun j hj => by cases (show j ∈ ([] : List Nat) from by (have e : ∀ l : List Nat, l = [] → j ∈ l → j ∈ ([] : List Nat) := fun l h h2 => h ▸ h2); exact e _ (by kernel_rfl) hj))); (clear hq hdep hold); (simp only [h4]); (clear h4); (have cvf := Kq.undrew.cell c0.out id); (rw [if_pos (by rfl)]); (refine OpY.val (v := (.slice av lv cv)) ?_ ⟨Kept.refl _ _, rfl⟩); (first | rfl | go_simp)
          refine Steps.cons (fun x wf Kk hq hdep hold => ?_) ?_
          · (try dsimp only); (clear hq hdep hold); (rw [if_pos (by rfl)]); (refine OpY.val (v := (.slice (some ⟨b, o, none⟩) len cap)) ?_ ⟨Kept.refl _ _, rfl⟩); (first | rfl | go_simp)
          refine Steps.cons (fun x wf Kk hq hdep hold => ?_) ?_
          · (try dsimp only); (clear hq hdep hold); (rw [if_pos (by rfl)]); (refine OpY.val (v := (.int .i64 (k : Int))) ?_ ⟨Kept.refl _ _, rfl⟩); (first | rfl | go_simp)
          refine Steps.cons (fun x wf Kk hq hdep hold => ?_) ?_
          · (try dsimp only); (have h6 : x 6 = (.slice (some ⟨b, o, none⟩) len cap) := hdep 6 (by kernel_rfl)); (have h7 : x 7 = (.int .i64 (k : Int)) := hdep 7 (by kernel_rfl)); (clear hq hdep hold); (simp only [h6, h7]); (clear h6 h7); (rw [if_pos (by rfl)]); (refine OpY.val (v := (.pointer (some ⟨b, o + k, none⟩))) ?_ ⟨Kept.refl _ _, rfl⟩); (first | rfl | go_simp)
          refine Steps.cons (fun x wf Kk hq hdep hold => ?_) ?_
          · (try dsimp only); (have h8 : x 8 = (.pointer (some ⟨b, o + k, none⟩)) := hdep 8 (by kernel_rfl)); (have Kq := hq no (fun j hj => by cases (show j ∈ ([] : List Nat) from by (have e : ∀ l : List Nat, l = [] → j ∈ l → j ∈ ([] : List Nat) := fun l h h2 => h ▸ h2); exact e _ (by kernel_rfl) hj))); (clear hq hdep hold); (simp only [h8]); (clear h8); (have cvf := Kq.undrew.cell c0.out id); (rw [if_pos (by rfl)]); (refine OpY.val (v := (.slice av lv cv)) ?_ ⟨Kept.refl _ _, rfl⟩); (first | rfl | go_simp)
          refine Steps.cons (fun x wf Kk hq hdep hold => ?_) ?_
          · (try dsimp only); (have h9 : x 9 = (.slice av lv cv) := hdep 9 (by kernel_rfl)); (clear hq hdep hold); (simp only [h9]); (clear h9); (rw [if_pos (by rfl)]); (refine OpY.val (v := (.int .i64 (lv : Int))) ?_ ⟨Kept.refl _ _, rfl⟩); (first | rfl | go_simp)
          refine Steps.cons (fun x wf Kk hq hdep hold => ?_) ?_
          · (try dsimp only); (have h10 : x 10 = (.int .i64 (lv : Int)) := hdep 10 (by kernel_rfl)); (clear hq hdep hold); (simp only [h10]); (clear h10); (rw [if_pos (by rfl)]); (refine OpY.val (v := (.int .i64 (mv : Int))) ?_ ⟨Kept.refl _ _, rfl⟩); (first | rfl | go_simp)
          refine Steps.cons (fun x wf Kk hq hdep hold => ?_) ?_
          · (try dsimp only); (have h5 : x 5 = (.slice av lv cv) := hdep 5 (by kernel_rfl)); (have h11 : x 11 = (.int .i64 (mv : Int)) := hdep 11 (by kernel_rfl)); (clear hq hdep hold); (simp only [h5, h11]); (clear h5 h11); (rw [if_pos (by rfl)]); (refine OpY.val (v := (.slice av mv cv)) ?_ ⟨Kept.refl _ _, rfl⟩); (first | rfl | go_simp)
          refine Steps.cons (fun x wf Kk hq hdep hold => ?_) ?_
          · (try dsimp only); (have h1 : x 1 = (.int .i64 n) := hdep 1 (by kernel_rfl)); (have h12 : x 12 = (.slice av mv cv) := hdep 12 (by kernel_rfl)); (have Kq := hq no (fun j hj => by cases (show j ∈ ([] : List Nat) from by (have e : ∀ l : List Nat, l = [] → j ∈ l → j ∈ ([] : List Nat) := fun l h h2 => h ▸ h2); exact e _ (by kernel_rfl) hj))); (clear hq hdep hold); (simp only [h1, h12]); (clear h1 h12); (rw [if_pos (by rfl)]); (refine OpY.call (f := 33) (args := #[(.int .i64 n), (.slice av mv cv)]) (by go_simp) ?_); (refine (HG.out wf Kq.undrew).mono ?_); (rintro e w2 ⟨v2, rfl, o2⟩); (exact ⟨_, rfl, o2.kept, o2.of_kept Kq.undrew⟩)
          refine Steps.cons (fun x wf Kk hq hdep hold => ?_) ?_
          · (try dsimp only); (have p13 : Pr.p (Sl := (fun _ => (ob u7))) (OwNew wr (bal n p12)) (x 13) wf := hdep 13 (by kernel_rfl)); (clear hq hdep hold); (rw [if_pos (by rfl)]); (refine OpY.build 26 40 1 _ rfl 1 (.slice none 0 0) Try.underlying26 infZ0 (by decide) (by decide) [x 13] _ rfl (one_fill p13) rfl (by decide) (fun w' hg k ho => ⟨k, _, rfl, by rw [cell_of_row w' _ 0 _ _ _ hg]; rfl⟩))
          refine Steps.cons (fun x wf Kk hq hdep hold => ?_) ?_
          · (try dsimp only); (have h0 : x 0 = (u7) := hdep 0 (by kernel_rfl)); (have p14 : Pr.r (Sl := (fun _ => (ob u7))) (One 13) (x 13) (x 14) wf := hdep 14 (by kernel_rfl)); (have p13 : Pr.p (Sl := (fun _ => (ob u7))) (OwNew wr (bal n p12)) (x 13) wf := hdep 13 (by kernel_rfl)); (have Kq := hq no (fun j hj => by cases (show j ∈ ([] : List Nat) from by (have e : ∀ l : List Nat, l = [] → j ∈ l → j ∈ ([] : List Nat) := fun l h h2 => h ▸ h2); exact e _ (by kernel_rfl) hj))); (clear hq hdep hold); (simp only [h0]); (clear h0); (rw [if_pos (by rfl)]); (have hO2 := hO.out.keptNo Kq.undrew); (refine OpY.append (.tmp 20) (.tmp 34) 26 _ rfl rfl 40 1 24 TBals u7 _ _ rfl hO2.own (x 14) 1 [x 13] rfl (one_rd p14) (fun u hu => by obtain rfl := List.mem_singleton.1 hu; exact p13.rd.one) hqm.out.1 hqm.out.2 ?_); (intro v2 w2 h2 h3 h4 _); (exact ⟨h3, hO.out.add _ Kq.undrew p13.own h2 h3 h4⟩)
          refine Steps.cons (fun x wf Kk hq hdep hold => ?_) ?_
          · (try dsimp only); (have p15 : Pr.r (Sl := (fun _ => (ob u7))) (More w qs (bal n p12) 13) (x 13) (x 15) wf := hdep 15 (by kernel_rfl)); (clear hq hdep hold); (rw [if_pos (by rfl)]); (refine OpY.val (v := x 15) rfl ⟨Kept.refl _ _, rfl⟩)
          exact Steps.nil _
        · (intro x wf Kk hv); (try dsimp only); (have h0 : x 0 = (u7) := hv 0 (by kernel_rfl)); (have h1 : x 1 = (.int .i64 n) := hv 1 (by kernel_rfl)); (have h2 : x 2 = (.slice (some ⟨b, o, none⟩) len cap) := hv 2 (by kernel_rfl)); (have h3 : x 3 = (.int .i64 (k : Int)) := hv 3 (by kernel_rfl)); (have h4 : x 4 = (.pointer (some ⟨b, o + k, none⟩)) := hv 4 (by kernel_rfl)); (have h5 : x 5 = (.slice av lv cv) := hv 5 (by kernel_rfl)); (have h6 : x 6 = (.slice (some ⟨b, o, none⟩) len cap) := hv 6 (by kernel_rfl)); (have h7 : x 7 = (.int .i64 (k : Int)) := hv 7 (by kernel_rfl)); (have h8 : x 8 = (.pointer (some ⟨b, o + k, none⟩)) := hv 8 (by kernel_rfl)); (have h9 : x 9 = (.slice av lv cv) := hv 9 (by kernel_rfl)); (have h10 : x 10 = (.int .i64 (lv : Int)) := hv 10 (by kernel_rfl)); (have h11 : x 11 = (.int .i64 (mv : Int)) := hv 11 (by kernel_rfl)); (have h12 : x 12 = (.slice av mv cv) := hv 12 (by kernel_rfl)); (have p15 : Pr.r (Sl := (fun _ => (ob u7))) (More w qs (bal n p12) 13) (x 13) (x 15) wf := hv 15 (by kernel_rfl)); (have p16 : Pr.r (Sl := (fun _ => (ob u7))) (Is2 15) (x 15) (x 16) wf := hv 16 (by kernel_rfl)); (clear hv); (simp only [h0, h1, h2, h3, h4, h5, h6, h7, h8, h9, h10, h11, h12]); (clear h0 h1 h2 h3 h4 h5 h6 h7 h8 h9 h10 h11 h12); (have eA : x 16 = x 15 := p16); (simp only [eA]); (have hO3 := hid (show OwL w wf (x 15) (qs ++ [(bal n p12, x 13)]) from p15)); (have hq3 := hid (hbt.out (x 13))); (generalize x 15 = v' at hO3 ⊢); (generalize x 13 = u at hO3 hq3); (have hqk' : Hd ((qs ++ [(bal n p12, u)]).length = k + 1) := ⟨by rw [List.length_append, hqk.out]; rfl⟩); (clear eA p15 p16 hO hqs hbt HG hsl hmin hmin2 hqm c0 hqk Kk); (go_wp2); (go_roundw)
          case rel => first | exact ⟨k + 1, _, by omega, by omega, by go_num, hqk', hq3, hO3⟩ | ((repeat apply Exists.intro); exact ⟨⟨k + 1, _, by omega, by omega, by go_num, hqk', hq3, hO3⟩, rfl⟩)
          case measure => simp [intOf]; omega
      · (obtain rfl : k = m := by omega); (have hmd : decide ((k : Int) < (k : Int)) = false := decide_eq_false (by omega)); (clear hqk); (go_wp2); (go_ret); (exact ⟨_, qs, rfl, hqs.out, hO.out⟩)
    · (obtain rfl : k = len := by omega); (have hv : Hd (lists qs = bals n (lists bs) m) := ⟨by rw [hqs.out]; exact (bals_all_of (by rw [lists_length, hlen.out]; exact Nat.le_refl _) m hkm).symm⟩); (clear hqs hqk); (go_wp2); (go_ret); (exact ⟨_, qs, rfl, hv.out, hO.out⟩)
end Go.Proofs.Ytkdmlakookgolaa

/- The reference's Make, made piles, SamePile, the statements' small, same, Short. -/
namespace Go.Pil
theorem pileOf_snoc (l : List Grp) (g : Grp) : pileOf (l ++ [g]) = addG (pileOf l) g.p g.n := by unfold pileOf; rw [List.foldl_append]; rfl
theorem len_tot : ∀ {l : List Grp}, (∀ g ∈ l, 1 ≤ g.n) → (l.length : Int) ≤ tot l
  | [], _ => by simp [tot]
  | g :: l, h => by
    (have := len_tot (l := l) fun x hx => h x (by simp [hx])); (have := h g (by simp)); (rw [tot_cons]; simp only [List.length_cons]; omega)
theorem n_le_tot : ∀ {l : List Grp}, (∀ g ∈ l, 1 ≤ g.n) → ∀ g ∈ l, g.n ≤ tot l
  | [], _ => fun g hg => by cases hg
  | x :: l, h => fun g hg => by
    (have h1 := tot_nonneg (l := l) fun x hx => h x (by simp [hx])); (have h2 := h x (by simp)); (rw [tot_cons])
    rcases List.mem_cons.1 hg with rfl | hg
    · omega
    · have := n_le_tot (l := l) (fun x hx => h x (by simp [hx])) g hg; omega
/-- Few and short lists. -/
def few (ls : List (List Int)) : Bool := decide ((∀ b ∈ ls, b.length ≤ 12) ∧ ls.length ≤ 60)
end Go.Pil
namespace Go.Proofs.Ytkdmlakookgolaa
open Go.RowKit Go.Mk Go.Pil
theorem small_of {ps : List (Grp × Value)} (h : ∀ g ∈ grps ps, 1 ≤ g.n) (ht : tot (grps ps) ≤ 100000) : small ps := by
  (have h1 := len_tot h); (rw [grps_length] at h1); (refine ⟨by omega, fun x hx => ?_⟩); (have hm : x.1 ∈ grps ps := List.mem_map_of_mem hx); (have := h _ hm); (have := n_le_tot h _ hm)
  omega
theorem small_pile {n : Int} {ps : List (Grp × Value)} (h : isPile n (grps ps) = true) : small ps := by
  (have := (isPile_iff n _).1 h); (exact small_of (fun g hg => (this.1 g hg).2) this.2.1)
set_option maxRecDepth 100000 in
set_option maxHeartbeats 2000000 in
theorem refmake_any (n : Int) (v : Value) (bs : List (List Int × Value)) (w : World) (hr : RdB w v bs) : Calls Try.prog 50 #[.int .i64 n, v] w fun e w' => ∃ v', e = .returned (.tuple #[v', .int .i64 (mk n (lists bs)).2]) ∧ GR w w' v' (mk n (lists bs)).1 := by
  (obtain ⟨ao, cap, rfl, hcap, hcm⟩ := Rd.shape2 hr.2); (have hm63 := maxLen_63); (have nilGR : ∀ W, Kept no w W → GR w W (.slice none 0 0) [] := fun W k => ⟨[], rfl, ⟨(fun x hx => by cases hx), nil_rd _ _⟩, k⟩)
  by_cases hn : n < 1 ∨ 7 < n
  · (have hv : Hd (mk n (lists bs) = ([], 4)) := ⟨by unfold mk; rw [if_pos hn]⟩); (rw [hv.out])
    by_cases h1 : n < 1
    · (have hd1 : decide (n < 1) = true := decide_eq_true h1); (clear hr hn hv)
      go_enter Try.func50, Try.ntmps50
      (go_wp2); (go_ret2); (exact ⟨_, rfl, nilGR _ (Kept.refl _ _)⟩)
    · (have hd1 : decide (n < 1) = false := decide_eq_false h1); (have h7 : 7 < n := by omega); (have hd7 : decide (7 < n) = true := decide_eq_true h7); (clear hr hn hv)
      go_enter Try.func50, Try.ntmps50
      (go_wp2); (go_ret2); (exact ⟨_, rfl, nilGR _ (Kept.refl _ _)⟩)
  (have hd1 : decide (n < 1) = false := decide_eq_false (by omega)); (have hd7 : decide (7 < n) = false := decide_eq_false (by omega)); (have hn1 : ¬ n < 1 := by omega); (have hn7 : ¬ 7 < n := by omega)
  by_cases hl : 100000 < bs.length
  · (have hv : Hd (mk n (lists bs) = ([], 7)) := ⟨by unfold mk; rw [if_neg hn, if_pos (by rw [lists_length]; exact hl)]⟩); (rw [hv.out]); (have hl' : (100000 : Int) < (bs.length : Int) := by omega); (clear hr hn hv)
    go_enter Try.func50, Try.ntmps50
    (go_wp2); (go_ret2); (exact ⟨_, rfl, nilGR _ (Kept.refl _ _)⟩)
  (have hl' : ¬ (100000 : Int) < (bs.length : Int) := by omega); (have hmk : Hd (mk n (lists bs) = if allB n (lists bs) = true then (pileOf (ones (lists bs)), 0) else ([], 8)) := ⟨by unfold mk; rw [if_neg hn, if_neg (by rw [lists_length]; exact hl)]⟩); (replace hr := hid hr); (clear hn); (obtain ⟨len, hlen⟩ : ∃ len, bs.length = len := ⟨_, rfl⟩); (rw [hlen] at hr hcap hl hl' ⊢); (replace hlen := hid hlen)
  go_enter Try.func50, Try.ntmps50
  go_wp2
  go_loopw [6, 7] (fun out i wr => ∃ (k : Nat) (qs : List (Grp × Value)), k ≤ len ∧ i = .int .i64 (k : Int) ∧ Hd (grps qs = pileOf (ones ((lists bs).take k))) ∧ Hd (allB n ((lists bs).take k) = true) ∧ Hd (RdG wr out qs) ∧ Hd (Kept no w wr)) (fun _ i _ => len - (intOf i).toNat)
  case atStart => exact ⟨0, [], by omega, rfl, ⟨rfl⟩, ⟨rfl⟩, ⟨(fun x hx => by cases hx), nil_rd _ _⟩, ⟨Kept.refl _ _⟩⟩
  case round =>
    obtain ⟨k, qs, hk, rfl, hqs, hA, hO, hW⟩ := hrel
    by_cases hlt : k < len
    · (have hk1 : (k : Int) < (len : Int) := by omega); (have hk0 : (0 : Int) ≤ (k : Int) := by omega); (obtain ⟨b, o, p, vp, rfl, hel, c0, hz⟩ := (hr.out.kept hW.out).at k (by rw [hlen.out]; exact hlt)); (have hpk := hid (lists_get _ hel)); (have HB := hid (refballot_any n vp p wr hz)); (replace hz := hid hz); (clear hel)
      cases hb : ballot n p with
      | false =>
        (have hv : Hd (mk n (lists bs) = ([], 8)) := ⟨by rw [hmk.out, allB_fail hpk.out hb, if_neg (by decide)]⟩); (rw [hb] at HB); (clear hb hmk hA hqs hO hpk hz); (go_wp2_with fail); (refine HB.out.mono ?_); (rintro e w1 ⟨rfl, k1⟩); (have hk2 := hid (hW.out.trans' k1.kept)); (clear k1 HB hW c0); (go_wp2); (go_ret2); (exact ⟨_, by rw [hv.out] <;> rfl, by rw [hv.out]; exact nilGR _ hk2.out⟩)
      | true =>
        (have hA' := hid (allB_take hpk.out hA.out hb)); (have hq' : Hd (addG (grps qs) p 1 = pileOf (ones ((lists bs).take (k + 1)))) := ⟨by rw [hqs.out, ones_take hpk.out, pileOf_snoc]⟩); (have hpl := ballot_len hb (by omega)); (have hsm : Hd (small qs) := ⟨small_of (by rw [hqs.out]; exact pileOf_pos (ones_pos _)) (by rw [hqs.out, pileOf_tot (ones_pos _), ones_tot, List.length_take]; omega)⟩); (rw [hb] at HB); (clear hb hA hqs hpk); (go_wp2_with fail); (refine HB.out.mono ?_); (rintro e w1 ⟨rfl, k1⟩); (have d0 := k1.kept.cell c0 id); (have hz1 := hid (hz.out.kept k1.kept)); (have hO1 := hid (hO.out.kept k1.kept)); (have hW1 := hid (hW.out.trans' k1.kept)); (have hls : p.length ≤ maxLen ∧ p.length * 8 ≤ 140737488355328 := by have hm : maxLen = 9223372036854775807 := rfl; omega); (replace hls := hid hls); (have hnil : Hd (w1.ownsRow 0 3 1 (.slice none 0 0) 0 []) := ⟨World.ownsRow_nil _ _ _ _⟩); (clear HB k1 hO hW hz c0 hpl); (go_wp2_with (at_builtin; refine wpList_append _ rfl _ _ 40 rfl 3 1 8 TInts _ _ _ rfl hnil.out _ _ _ rfl hz1.out (Z_one p) ?c1 ?c2 ?_))
        case c1 => rw [Nat.zero_add]; exact hls.out.1
        case c2 => rw [Nat.zero_add]; exact hls.out.2
        (intro v' w2 h4 h5 _ _); (try rw [Nat.zero_add, List.nil_append] at h4); (have k2 := Kept.ob_nil h5); (have HA := hid (refadd_any _ v' qs p 1 w2 (hO1.out.kept k2) (own_RdZ h4) hsm.out ⟨by omega, by omega⟩)); (have hW2 := hid (hW1.out.trans' k2)); (clear h4 h5 k2 hO1 hz1 hnil d0 hW1); (go_wp2_with fail); (refine HA.out.mono ?_); (rintro e w3 ⟨v3, rs, rfl, hO3, hrs⟩); (have hq3 : Hd (grps rs = pileOf (ones ((lists bs).take (k + 1)))) := ⟨by rw [hrs]; exact hq'.out⟩); (have hO4 := hid hO3.rd); (have hW3 := hid (hW2.out.trans' hO3.kept)); (clear hO3 hrs HA hq' hW2 hsm hls); (go_wp2); (go_roundw)
        case rel => first | exact ⟨k + 1, rs, by omega, by go_num, hq3, hA', hO4, hW3⟩ | ((repeat apply Exists.intro); exact ⟨⟨k + 1, rs, by omega, by go_num, hq3, hA', hO4, hW3⟩, rfl⟩)
        case measure => simp [intOf]; omega
    · (obtain rfl : k = len := by omega); (have hall : (lists bs).take k = lists bs := List.take_of_length_le (by rw [lists_length, hlen.out]; exact Nat.le_refl _))
      have hv : Hd (mk n (lists bs) = (grps qs, 0)) := ⟨by
        (have h1 := hA.out); (have h2 := hqs.out); (rw [hall] at h1 h2)
        rw [hmk.out, h1, if_pos rfl, h2]⟩
      (clear hA hqs hmk hall); (go_wp2); (go_ret2); (exact ⟨_, by rw [hv.out] <;> rfl, by rw [hv.out]; exact ⟨qs, rfl, hO.out, hW.out⟩⟩)
/-- What Pile makes. -/
def genP (n : Int) (ls : List (List Int)) (m : Nat) : List Grp := pileOf (ones (bals n ls m))
theorem genP_pile {n : Int} (h : 0 < n) (ls : List (List Int)) (m : Nat) (hm : m ≤ 100000) : isPile n (genP n ls m) = true :=
  pile_of_ballots (bals_all h ls m) (by rw [bals_len]; omega)
theorem genP_tot (n : Int) (ls : List (List Int)) (m : Nat) : tot (genP n ls m) = (min m ls.length : Nat) := by
  unfold genP; rw [pileOf_tot (ones_pos _), ones_tot, bals_len]
theorem mk_bals {n : Int} (h1 : 1 ≤ n) (h2 : n ≤ 7) (ls : List (List Int)) (m : Nat) (hm : m ≤ 100000) : mk n (bals n ls m) = (genP n ls m, 0) := by
  (unfold mk); (rw [if_neg (by omega), if_neg (by rw [bals_len]; omega), if_pos (by unfold allB; rw [List.all_eq_true]; exact bals_all (by omega) ls m)]; rfl)
set_option maxHeartbeats 400000 in
theorem genpile_any (n : Int) (v : Value) (bs : List (List Int × Value)) (m : Nat) (w : World) (h1 : 1 ≤ n) (h2 : n ≤ 7) (hm : m ≤ 100000) (hr : RdB w v bs) : Calls Try.prog 19 #[.int .i64 n, v, .int .i64 (m : Int)] w fun e w' => ∃ v', e = .returned v' ∧ GR w w' v' (genP n (lists bs) m) := by
  (have HB := hid (ballots_any n v bs m w h1 h2 (by omega) hr)); (have hmk := hid (mk_bals h1 h2 (lists bs) m hm)); (clear hr)
  go_enter Try.func19, Try.ntmps19
  (go_wp2_with fail); (refine HB.out.mono ?_); (rintro e w1 ⟨v1, qs, rfl, hqs, hO⟩); (have HM := hid (refmake_any n v1 qs w1 hO.rd)); (rw [hqs, hmk.out] at HM); (have k1 := hid hO.kept); (clear hO hqs HB); (go_wp2_with fail); (refine HM.out.mono ?_); (rintro e w2 ⟨v2, rfl, ps, hps, hrd, k2⟩); (have hG : Hd (GR w w2 v2 (genP n (lists bs) m)) := ⟨ps, hps, hrd, k1.out.trans' k2⟩); (clear hps hrd k2 HM); (go_wp2); (go_ret); (exact ⟨_, rfl, hG.out⟩)
theorem grps_take_step {ps qs : List Grp} {k : Nat} {g h : Grp} (hg : ps[k]? = some g) (hh : qs[k]? = some h) (ht : ps.take k = qs.take k) (e : g = h) : ps.take (k + 1) = qs.take (k + 1) := by
  (obtain ⟨h1, h2⟩ := List.getElem?_eq_some_iff.1 hg); (obtain ⟨h3, h4⟩ := List.getElem?_eq_some_iff.1 hh); (rw [List.take_succ_eq_append_getElem h1, List.take_succ_eq_append_getElem h3, ht, h2, h4, e])
end Go.Proofs.Ytkdmlakookgolaa

/- The fixed pile of law 24. -/
namespace Go.Proofs.Ytkdmlakookgolaa
open Go.RowKit Go.Mk Go.Pil
theorem blk_RdZ {w : World} {g : Nat} {e : TypeId} {fr : Nat × Nat} (zs : List Int) (n : Nat) (hn : zs.length = n) (hm : n ≤ maxLen) {c : Array Value} (hc : c = (zs.map Z).toArray) (h : w.heap[g]? = some (.cells c e fr)) : RdZ w (.slice (some ⟨g, 0, none⟩) n n) zs := by
  (subst hn hc); (exact ⟨by simp, _, _, rfl, Nat.le_refl _, hm, .inr ⟨g, 0, rfl, fun j u hu => by rw [cell_of_row w _ _ _ _ _ h, Nat.zero_add]; simpa using hu⟩⟩)
theorem blk_RdT {w : World} {g : Nat} {e : TypeId} {fr : Nat × Nat} (zs : List Bool) (n : Nat) (hn : zs.length = n) (hm : n ≤ maxLen) {c : Array Value} (hc : c = (zs.map Value.bool).toArray) (h : w.heap[g]? = some (.cells c e fr)) : RdT w (.slice (some ⟨g, 0, none⟩) n n) zs := by
  (subst hn hc); (exact ⟨by simp, _, _, rfl, Nat.le_refl _, hm, .inr ⟨g, 0, rfl, fun j u hu => by rw [cell_of_row w _ _ _ _ _ h, Nat.zero_add]; simpa using hu⟩⟩)
def awB : List (List Int) := [[0, 1], [0], [0, 1]]
def awP : List Grp := [⟨[0], 1⟩, ⟨[0, 1], 2⟩]
theorem aw_mk : mk 3 awB = (awP, 0) := by decide +kernel
theorem aw_valid : (decide ((1 : Int) ≤ 3 ∧ (3 : Int) ≤ 7) && isPile 3 awP) = true := by decide +kernel
theorem aw_total : total awP = 3 := by decide +kernel
theorem aw_first : first awP [false, true, true] = ([0, 2, 0], 1) := by decide +kernel
theorem aw_prefers : prefers awP 0 1 = 3 := by decide +kernel
theorem aw_lit (w : World) : ∃ bs, lists bs = awB ∧ RdB (w.alloc (.cells #[.int .i64 0, .int .i64 1] 3) |>.alloc (.cells #[.int .i64 0] 3) |>.alloc (.cells #[.int .i64 0, .int .i64 1] 3) |>.alloc (.cells #[.slice (some ⟨w.heap.size, 0, none⟩) 2 2, .slice (some ⟨w.heap.size + 1, 0, none⟩) 1 1, .slice (some ⟨w.heap.size + 1 + 1, 0, none⟩) 2 2] 40)) (.slice (some ⟨w.heap.size + 1 + 1 + 1, 0, none⟩) 3 3) bs := by
  (refine ⟨[([0, 1], .slice (some ⟨w.heap.size, 0, none⟩) 2 2), ([0], .slice (some ⟨w.heap.size + 1, 0, none⟩) 1 1), ([0, 1], .slice (some ⟨w.heap.size + 1 + 1, 0, none⟩) 2 2)], rfl, ?_⟩); (obtain ⟨w1, hw1, g1, k1⟩ := alloc_named w (.cells #[.int .i64 0, .int .i64 1] 3)); (have s1 : w1.heap.size = w.heap.size + 1 := by rw [hw1]; exact World.size_alloc _ _); (rw [← hw1]); (obtain ⟨w2, hw2, g2, k2⟩ := alloc_named w1 (.cells #[.int .i64 0] 3)); (have s2 : w2.heap.size = w.heap.size + 1 + 1 := by rw [hw2, World.size_alloc, s1]); (rw [← hw2]); (obtain ⟨w3, hw3, g3, k3⟩ := alloc_named w2 (.cells #[.int .i64 0, .int .i64 1] 3)); (have s3 : w3.heap.size = w.heap.size + 1 + 1 + 1 := by rw [hw3, World.size_alloc, s2]); (rw [← hw3]); (obtain ⟨w4, hw4, g4, k4⟩ := alloc_named w3 (.cells #[.slice (some ⟨w.heap.size, 0, none⟩) 2 2, .slice (some ⟨w.heap.size + 1, 0, none⟩) 1 1, .slice (some ⟨w.heap.size + 1 + 1, 0, none⟩) 2 2] 40)); (rw [← hw4]); (rw [s1] at g2); (rw [s2] at g3); (rw [s3] at g4); (have h1 := k4.blk (k3.blk (k2.blk g1))); (have h2 := k4.blk (k3.blk g2)); (have h3 := k4.blk g3); (refine ⟨fun x hx => ?_, rfl, _, _, rfl, Nat.le_refl _, by decide, .inr ⟨_, 0, rfl, fun j u hu => by rw [cell_of_row w4 _ _ _ _ _ g4, Nat.zero_add]; simpa using hu⟩⟩); (simp only [List.mem_cons, List.not_mem_nil, or_false] at hx)
  rcases hx with rfl | rfl | rfl
  · exact blk_RdZ [0, 1] 2 rfl (by decide) rfl h1
  · exact blk_RdZ [0] 1 rfl (by decide) rfl h2
  · exact blk_RdZ [0, 1] 2 rfl (by decide) rfl h3
theorem grps_two {ps : List (Grp × Value)} (h : grps ps = awP) : ps.length = 2 := by rw [← grps_length, h]; rfl
end Go.Proofs.Ytkdmlakookgolaa

/- Flags, cuts of flags, two remaining candidates. -/
namespace Go.Pil
theorem sum_take_le : ∀ (l : List Int), (∀ x ∈ l, 0 ≤ x) → ∀ k, 0 ≤ (l.take k).sum ∧ (l.take k).sum ≤ l.sum
  | [], _, k => by simp
  | x :: l, h, k => by
    have h0 := h x (by simp)
    cases k with
    | zero =>
      (have := sum_take_le l (fun y hy => h y (by simp [hy])) 0); (simp only [List.take_zero, List.sum_nil, List.sum_cons] at *; omega)
    | succ k =>
      (have := sum_take_le l (fun y hy => h y (by simp [hy])) k); (simp only [List.take_succ_cons, List.sum_cons]; omega)
theorem sum_take_succ {l : List Int} {k : Nat} (hk : k < l.length) : (l.take (k + 1)).sum = (l.take k).sum + l.getD k 0 := by
  (have e : l.getD k 0 = l[k] := by simp [List.getD_eq_getElem?_getD, hk]); (rw [List.take_succ_eq_append_getElem hk, List.sum_append, e]; simp)
theorem first_nonneg {gs : List Grp} (remain : List Bool) (h : isPile 7 gs = true) : ∀ x ∈ (firstV gs remain).1, 0 ≤ x := fun x hx => by
  (obtain ⟨i, hi, rfl⟩ := List.getElem_of_mem hx); (have := (firstK_facts remain h gs.length).2.1 i); (rw [firstK_all (Nat.le_refl _)] at this)
  simpa [List.getD_eq_getElem?_getD, hi] using this.1
theorem first_two {gs : List Grp} (h : isPile 7 gs = true) {n a b : Nat} (hn : n ≤ 7) (ha : a < n) (hb : b < n) (hab : a ≠ b) :
    (first gs (two n a b)).1.length = n ∧ (first gs (two n a b)).1.getD a 0 = prefers gs a b ∧ (first gs (two n a b)).1.getD b 0 = prefers gs b a ∧ (first gs (two n a b)).2 = tot gs - prefers gs a b - prefers gs b a := by
  (have hf : first gs (two n a b) = firstV gs (two n a b) := by unfold first; rw [if_pos ⟨h, by rw [two_len]; exact hn⟩]); (have hz : ((a : Int) : Int) ≠ (b : Int) := by omega); (have p1 : prefers gs a b = sumIf (fun p => pref p a b) gs := by unfold prefers; rw [if_pos ⟨h, hz⟩]); (have p2 : prefers gs b a = sumIf (fun p => pref p b a) gs := by unfold prefers; rw [if_pos ⟨h, Ne.symm hz⟩])
  have a1 : (firstV gs (two n a b)).1.getD a 0 = sumIf (fun p => pref p a b) gs := by
    (rw [first_at gs _ a (by rw [two_len]; exact ha)]); (exact sumIf_congr fun g _ => (hd_two ha hb hab g.p).1)
  have b1 : (firstV gs (two n a b)).1.getD b 0 = sumIf (fun p => pref p b a) gs := by
    (rw [first_at gs _ b (by rw [two_len]; exact hb)]); (exact sumIf_congr fun g _ => (hd_two ha hb hab g.p).2)
  (rw [hf, p1, p2]); (refine ⟨by rw [first_len, two_len], a1, b1, ?_⟩); (rw [first_rest])
  have e : tot gs = sumIf (fun p => (pref p a b || pref p b a) || hd (two n a b) p == none) gs := by
    (rw [← sumIf_all]); (refine sumIf_congr fun g _ => ?_); (rw [← (hd_two ha hb hab g.p).1, ← (hd_two ha hb hab g.p).2])
    cases hh : hd (two n a b) g.p with
    | none => simp
    | some c =>
      (have := (hd_in hh).2.2.2); (rw [inB_two ha hb] at this); (have := of_decide_eq_true this)
      rcases this with rfl | rfl <;> simp
  rw [e, sumIf_or, sumIf_or]
  · omega
  · (rintro g _ ⟨h1, h2⟩); (unfold pref at h1 h2); (have := of_decide_eq_true h1); (have := of_decide_eq_true h2)
    omega
  · (rintro g _ ⟨h1, h2⟩); (rw [← (hd_two ha hb hab g.p).1, ← (hd_two ha hb hab g.p).2] at h1); (have h2 : hd (two n a b) g.p = none := by simpa using h2); (rw [h2] at h1)
    simp at h1
end Go.Pil
namespace Go.Proofs.Ytkdmlakookgolaa
open Go.RowKit Go.Mk Go.Pil
theorem RdZ.base {w : World} {ao : Option Addr} {n cap : Nat} {zs : List Int} (h : RdZ w (.slice ao n cap) zs) (hz : 0 < zs.length) :
    ∃ b o, ao = some ⟨b, o, none⟩ ∧ ∀ k, k < zs.length → w.cell? ⟨b, o + k, none⟩ = some (.int .i64 (zs.getD k 0)) := by
  obtain ⟨_, _, _, e, h1, _, h | ⟨b, o, rfl, hc⟩⟩ := h
  · cases e; omega
  · cases e
    exact ⟨b, o, rfl, fun k hk => hc k _ (by simp [hk, Z])⟩
theorem RdT.addr {w : World} {av : Option Addr} {lv cv : Nat} {zs : List Bool} (h : RdT w (.slice av lv cv) zs) : cv = 0 ∨ ∃ b o, av = some ⟨b, o, none⟩ := by
  obtain ⟨_, _, _, e, _, _, h | ⟨b, o, rfl, _⟩⟩ := h
  · cases e; exact .inl h
  · cases e; exact .inr ⟨b, o, rfl⟩
theorem pre_sliceT (av : Option Addr) (lv cv m : Nat) (hav : cv = 0 ∨ ∃ b o, av = some ⟨b, o, none⟩) (hm : m ≤ cv) (w : World) : (Instr.slice 83 (.slice av lv cv) none (some (.int .i64 (m : Int))) none).run Try.prog w = .ok (.slice av m cv) w := by
  (have h0 : (0 : Int) ≤ (m : Int) := by omega); (have hc : Try.prog.underlying 83 = some (.slice 4) := by kernel_rfl)
  rcases hav with rfl | ⟨b, o, rfl⟩
  · obtain rfl : m = 0 := by omega
    simp [Instr.slice, Instr.sliceBounds, Instr.sliceBound, run_underlying hc, asIntOf]
  · simp [Instr.slice, Instr.sliceBounds, Instr.sliceBound, run_underlying hc, asIntOf, h0]
    (have e : (⟨b, o, none⟩ : Addr).add 0 = ⟨b, o, none⟩ := by simp [Addr.add]); (rw [if_pos hm, e]; simp)
theorem RdT.take {w : World} {ao : Option Addr} {n cap : Nat} {zs : List Bool} (h : RdT w (.slice ao n cap) zs) (k : Nat) (hk : k ≤ zs.length) : RdT w (.slice ao k cap) (zs.take k) := by
  obtain ⟨hl, _, _, e, h1, h2, h3⟩ := h
  cases e
  (have hlk : (zs.take k).length = k := by rw [List.length_take]; omega); (refine ⟨by simp, ao, cap, by rw [hlk], by omega, h2, h3.imp id fun ⟨b, o, e, hc⟩ => ⟨b, o, e, fun j u hj => hc j u ?_⟩⟩); (rw [List.map_take, List.getElem?_take] at hj)
  split at hj
  · exact hj
  · cases hj
theorem RdT.cut {w : World} {ao : Option Addr} {n cap : Nat} {zs : List Bool} (h : RdT w (.slice ao n cap) zs) (k : Nat) : RdT w (.slice ao (min zs.length k) cap) (zs.take k) := by
  have := h.take (min zs.length k) (by omega)
  rwa [show zs.take (min zs.length k) = zs.take k by rw [Nat.min_comm]; exact List.take_eq_take_min.symm] at this
theorem minNat (l k : Nat) : min (l : Int) (k : Int) = ((min l k : Nat) : Int) ∧ (if (k : Int) < (l : Int) then (k : Int) else (l : Int)) = ((min l k : Nat) : Int) := by
  refine ⟨by omega, ?_⟩
  split <;> omega
def zsT (l : List Bool) : Array Value := (l.map Value.bool).toArray
theorem zsT_set (l : List Bool) (c : Nat) (x : Bool) : (zsT l).setIfInBounds c (.bool x) = zsT (l.set c x) := by
  unfold zsT; rw [List.map_set]; simp
theorem zsT_made (n : Nat) : madeCells #[Value.bool false] n = zsT (List.replicate n false) := by
  unfold zsT
  apply Array.ext
  · simp [madeCells]
  · intro i h1 h2
    simp [madeCells, Nat.mod_one]
theorem makeT (n : Nat) (h : n ≤ 1000000) (w : World) : (Instr.makeSlice 83 (.int .i64 (n : Int)) (.int .i64 (n : Int))).run Try.prog w = .ok (.slice (some ⟨w.heap.size, 0, none⟩) n n) (w.alloc (.cells (zsT (List.replicate n false)) 4)) := by
  (obtain ⟨i, hi, hz, hs, hb⟩ := info_parts (P := Try.prog) (e := 4) (z := .bool false) (size := 1) (bytes := 1) (by kernel_rfl)); (have := run_make (P := Try.prog) w 83 4 i _ Try.underlying83 hi hz .i64 .i64 n n (by omega) (by omega) (by rw [hb]; omega) (by omega)); (rw [this, hs, Nat.mul_one, Int.toNat_natCast]); (rw [show (Value.bool false).cells = #[Value.bool false] from rfl, zsT_made])
theorem zsT_rd {w : World} {q : Nat} {l : List Bool} (h : w.heap[q]? = some (.cells (zsT l) 4 (0, 0))) (n : Nat) (hn : l.length = n) (hm : n ≤ maxLen) : RdT w (.slice (some ⟨q, 0, none⟩) n n) l := blk_RdT l n hn hm rfl h
end Go.Proofs.Ytkdmlakookgolaa

/- Small functions of folders 31 and 32: Half, half, Flags, All, IsTail, isTail. -/
namespace Go.Mg
open Go.Pil
theorem isTail_no {n : Int} {p : List Int} (h : ballot n p = false) : isTail n p = false := by simp [isTail, h]
theorem isTail_nil (n : Int) {p : List Int} (h : p = []) : isTail n p = false := by simp [isTail, h]
theorem isTail_yes {n : Int} {p : List Int} (h : ballot n p = true) (hne : p ≠ []) : isTail n p = true := by simp [isTail, h, hne]
theorem flags_set {n : Nat} (l : List Int) (c : Nat) (_ : c < n) : (flags n l).set c true = flags n (l ++ [(c : Int)]) := by
  apply List.ext_getElem
  · simp [flags]
  · (intro i h1 h2); (have hi : i < n := by simpa [flags] using h2); (rw [List.getElem_set])
    by_cases he : c = i
    · subst he; simp [flags]
    · rw [if_neg he]; simp [flags]; omega
theorem flags_nil (n : Nat) : flags n [] = List.replicate n false := by
  apply List.ext_getElem
  · simp [flags]
  · intro i h1 h2; simp [flags]
theorem isTail_iff {n : Int} {p : List Int} : isTail n p = true ↔ p ≠ [] ∧ p.Nodup ∧ ∀ x ∈ p, 0 ≤ x ∧ x < n := by simp [isTail, ballot]
end Go.Mg
namespace Go.Proofs.Ytkdmlakookgolaa
open Go.RowKit Go.Mk Go.Pil Go.Mg
set_option maxRecDepth 20000 in
set_option maxHeartbeats 1000000 in
theorem mistail_any (n : Int) (v : Value) (p : List Int) (w : World) (hn : n ≤ 7) (hr : RdZ w v p) : Calls Try.prog 68 #[.int .i64 n, v] w fun e w' => e = .returned (.bool (isTail n p)) ∧ Kept no w w' := by
  (obtain ⟨ao, cap, rfl, hcap, hcm⟩ := Rd.shape2 hr); (have hm63 := maxLen_63); (replace hr := hid hr); (have g0 : Hd ((w.alloc (.cells #[.bool false, .bool false, .bool false, .bool false, .bool false, .bool false, .bool false] 124)).heap[w.heap.size]? = some (.cells (seenC []) 124 (0, 0))) := ⟨heap_alloc_new _ _⟩); (have k0 := hid ((Kept.refl no w).alloc (.cells #[.bool false, .bool false, .bool false, .bool false, .bool false, .bool false, .bool false] 124)))
  go_enter Try.func68, Try.ntmps68
  go_wp2
  go_loopw [10] (fun i wr => ∃ k : Nat, k ≤ p.length ∧ i = .int .i64 (k : Int) ∧ Hd (ballot n (p.take k) = true) ∧ Hd (wr.heap[w.heap.size]? = some (.cells (seenC (p.take k)) 124 (0, 0))) ∧ Hd (Kept no w wr)) (fun i _ => p.length - (intOf i).toNat)
  case atStart => exact ⟨0, by omega, rfl, ⟨by rw [ballot_iff]; simp⟩, g0, k0⟩
  case round =>
    (clear g0 k0); (obtain ⟨k, hk, rfl, hb, hg, hW⟩ := hrel)
    by_cases hlt : k < p.length
    · (have hk1 : (k : Int) < (p.length : Int) := by omega); (have hk0 : (0 : Int) ≤ (k : Int) := by omega); (obtain ⟨b, o, rfl, hc⟩ := (hr.out.kept hW.out).at k hlt); (have HS := hid (ballot_step hlt hb.out)); (have HF := hid (ballot_fail hlt hb.out)); (have HT : Hd (p.take (k + 1) = p.take k ++ [p.getD k 0]) := ⟨by rw [List.take_succ_eq_append_getElem hlt]; simp [List.getD_eq_getElem?_getD, hlt]⟩); (generalize p.getD k 0 = z at hc HS HF HT)
      by_cases h0 : z < 0
      · (have hd : decide (z < 0) = true := decide_eq_true h0); (have hv := hid (HF.out (by omega))); (clear HS HF HT hb); (go_wp2); (go_ret); (exact ⟨by rw [isTail_no hv.out]; rfl, hW.out⟩)
      · have hd : decide (z < 0) = false := decide_eq_false h0
        by_cases h1 : n ≤ z
        · (have hd1 : decide (n ≤ z) = true := decide_eq_true h1); (have hv := hid (HF.out (by omega))); (clear HS HF HT hb); (go_wp2); (go_ret); (exact ⟨by rw [isTail_no hv.out]; rfl, hW.out⟩)
        · (obtain ⟨c, rfl⟩ : ∃ c : Nat, z = (c : Int) := ⟨z.toNat, by omega⟩); (have hd1 : decide (n ≤ (c : Int)) = false := decide_eq_false h1); (have hc7 : (c : Int) < 7 := by omega); (have hc0 : (0 : Int) ≤ (c : Int) := by omega); (have cs : wr.cell? ⟨w.heap.size, c, none⟩ = some (.bool (decide ((c : Int) ∈ p.take k))) := by rw [cell_of_row wr _ c _ _ _ hg.out]; exact seen_at _ _ (by omega)); (have fs : wr.frozen? ⟨w.heap.size, c, none⟩ = false := row_free hg.out c)
          by_cases h2 : (c : Int) ∈ p.take k
          · (have hv := hid (HF.out (fun h => h.2.2 h2))); (rw [decide_eq_true h2] at cs); (clear HS HF HT hb h2 fs); (go_wp2); (go_ret); (exact ⟨by rw [isTail_no hv.out]; rfl, hW.out⟩)
          · (have hb' := hid (HS.out.2 ⟨by omega, by omega, h2⟩)); (rw [decide_eq_false h2] at cs); (have hg' : Hd ((wr.setCell ⟨w.heap.size, c, none⟩ (.bool true)).heap[w.heap.size]? = some (.cells (seenC (p.take (k + 1))) 124 (0, 0))) := ⟨by rw [setCell_row hg.out, seen_set _ _ (by omega), HT.out]⟩); (have hW' := hid (hW.out.setCell (a := ⟨w.heap.size, c, none⟩) (.inr (Nat.le_refl _)) (.bool true))); (clear HS HF HT hb h2 hg hW); (go_wp2); (go_roundw)
            case rel => first | exact ⟨k + 1, by omega, by go_num, hb', hg', hW'⟩ | ((repeat apply Exists.intro); exact ⟨⟨k + 1, by omega, by go_num, hb', hg', hW'⟩, rfl⟩)
            case measure => simp [intOf]; omega
    · (obtain rfl : k = p.length := by omega); (have hv : Hd (ballot n p = true) := ⟨by have := hb.out; rwa [List.take_length] at this⟩); (clear hb)
      by_cases h0 : p.length = 0
      · (have h1 : ¬ (0 : Int) < (p.length : Int) := by omega); (have hd : decide ((0 : Int) < (p.length : Int)) = false := decide_eq_false h1); (have ht : Hd (isTail n p = false) := ⟨isTail_nil n (List.eq_nil_of_length_eq_zero h0)⟩); (go_wp2); (go_ret); (exact ⟨by rw [ht.out]; rfl, hW.out⟩)
      · (have h1 : (0 : Int) < (p.length : Int) := by omega); (have hd : decide ((0 : Int) < (p.length : Int)) = true := decide_eq_true h1); (have ht : Hd (isTail n p = decide (0 < p.length)) := ⟨by rw [isTail_yes hv.out (fun e => h0 (by rw [e]; rfl)), decide_eq_true (by omega)]⟩); (go_wp2); (go_ret); (exact ⟨by rw [ht.out]; rfl, hW.out⟩)
set_option maxHeartbeats 400000 in
theorem refhalf_any (d : Int) (w : World) (hd : -1000000 ≤ d ∧ d ≤ 1000000) : Calls Try.prog 75 #[.int .i64 d] w fun e w' => e = .returned (.int .i64 (half d)) ∧ w' = w := by
  have hh := hid (show half d = if d ≤ 0 then 0 else (d + 1) / 2 from rfl)
  by_cases h : d ≤ 0
  · rw [if_pos h] at hh
    go_enter Try.func75, Try.ntmps75
    (go_wp2); (go_ret); (exact ⟨by rw [hh.out]; rfl, rfl⟩)
  · (rw [if_neg h] at hh); (have hw : IntKind.i64.wrap (d + 1) = d + 1 := IntWalk.i64_in _ (by omega)); (have hq : (d + 1).tdiv 2 = (d + 1) / 2 := Int.tdiv_eq_ediv_of_nonneg (by omega)); (have hw2 : IntKind.i64.wrap ((d + 1) / 2) = (d + 1) / 2 := IntWalk.i64_in _ (by omega)); (generalize (d + 1) / 2 = q at hh hq hw2)
    go_enter Try.func75, Try.ntmps75
    (go_wp2); (go_ret); (exact ⟨by rw [hh.out]; rfl, rfl⟩)
set_option maxHeartbeats 400000 in
theorem mhalf_any (d : Int) (w : World) (hd : -1000000 ≤ d ∧ d ≤ 1000000) : Calls Try.prog 71 #[.int .i64 d] w fun e w' => e = .returned (.int .i64 (half d)) ∧ w' = w := by
  (have hw : IntKind.i64.wrap (d + 1) = d + 1 := IntWalk.i64_in _ (by omega)); (have hh : Hd (half d = (max 0 (d + 1)) / 2) := ⟨by unfold half; split <;> omega⟩); (have hm : (if (0 : Int) < d + 1 then d + 1 else 0) = max 0 (d + 1) := by split <;> omega); (have hq : (max 0 (d + 1)).tdiv 2 = max 0 (d + 1) / 2 := Int.tdiv_eq_ediv_of_nonneg (by omega)); (have hw2 : IntKind.i64.wrap (max 0 (d + 1) / 2) = max 0 (d + 1) / 2 := IntWalk.i64_in _ (by omega))
  go_enter Try.func71, Try.ntmps71
  (go_wp2); (go_ret); (exact ⟨by rw [hh.out]; rfl, rfl⟩)
set_option maxRecDepth 20000 in
set_option maxHeartbeats 1000000 in
theorem refflags_any (n : Nat) (v : Value) (l : List Int) (w : World) (hn : n ≤ 7) (hl : ∀ x ∈ l, 0 ≤ x ∧ x < (n : Int)) (hr : RdZ w v l) : Calls Try.prog 74 #[.int .i64 (n : Int), v] w fun e w' => ∃ v', e = .returned v' ∧ RdT w' v' (flags n l) ∧ Kept no w w' := by
  (obtain ⟨ao, cap, rfl, hcap, hcm⟩ := Rd.shape2 hr); (have hm63 := maxLen_63); (have hmk := makeT n (by omega) w); (have g0 : Hd ((w.alloc (.cells (zsT (List.replicate n false)) 4)).heap[w.heap.size]? = some (.cells (zsT (flags n (l.take 0))) 4 (0, 0))) := ⟨by rw [List.take_zero, flags_nil]; exact heap_alloc_new _ _⟩); (have k0 := hid ((Kept.refl no w).alloc (.cells (zsT (List.replicate n false)) 4))); (replace hr := hid hr); (replace hl := hid hl)
  go_enter Try.func74, Try.ntmps74
  go_wp2
  go_loopw [6] (fun i wr => ∃ k : Nat, k ≤ l.length ∧ i = .int .i64 (k : Int) ∧ Hd (wr.heap[w.heap.size]? = some (.cells (zsT (flags n (l.take k))) 4 (0, 0))) ∧ Hd (Kept no w wr)) (fun i _ => l.length - (intOf i).toNat)
  case atStart => exact ⟨0, by omega, rfl, g0, k0⟩
  case round =>
    (clear g0 k0); (obtain ⟨k, hk, rfl, hg, hW⟩ := hrel)
    by_cases hlt : k < l.length
    · (have hk1 : (k : Int) < (l.length : Int) := by omega); (have hk0 : (0 : Int) ≤ (k : Int) := by omega); (obtain ⟨b, o, rfl, hc⟩ := (hr.out.kept hW.out).at k hlt); (have HT : Hd (l.take (k + 1) = l.take k ++ [l.getD k 0]) := ⟨by rw [List.take_succ_eq_append_getElem hlt]; simp [List.getD_eq_getElem?_getD, hlt]⟩); (have hz := hl.out (l.getD k 0) (by rw [List.getD_eq_getElem?_getD, List.getElem?_eq_getElem hlt]; simp)); (generalize l.getD k 0 = z at hc HT hz); (obtain ⟨c, rfl⟩ : ∃ c : Nat, z = (c : Int) := ⟨z.toNat, by omega⟩); (have hc1 : (c : Int) < (n : Int) := hz.2); (have hc0 : (0 : Int) ≤ (c : Int) := by omega); (have fs : wr.frozen? ⟨w.heap.size, c, none⟩ = false := row_free hg.out c)
      have cs : wr.cell? ⟨w.heap.size, c, none⟩ = some (.bool ((flags n (l.take k)).getD c false)) := by
        (rw [cell_of_row wr _ c _ _ _ hg.out]); (have : c < (flags n (l.take k)).length := by rw [flags_len]; omega)
        simp [zsT, this]
      (have hg' : Hd ((wr.setCell ⟨w.heap.size, c, none⟩ (.bool true)).heap[w.heap.size]? = some (.cells (zsT (flags n (l.take (k + 1)))) 4 (0, 0))) := ⟨by rw [setCell_row hg.out, zsT_set, flags_set _ _ (by omega), HT.out]⟩); (have hW' := hid (hW.out.setCell (a := ⟨w.heap.size, c, none⟩) (.inr (Nat.le_refl _)) (.bool true))); (clear HT hg hW hz); (go_wp2); (go_roundw)
      case rel => first | exact ⟨k + 1, by omega, by go_num, hg', hW'⟩ | ((repeat apply Exists.intro); exact ⟨⟨k + 1, by omega, by go_num, hg', hW'⟩, rfl⟩)
      case measure => simp [intOf]; omega
    · (obtain rfl : k = l.length := by omega); (have hrd : Hd (RdT wr (.slice (some ⟨w.heap.size, 0, none⟩) n n) (flags n l)) := ⟨zsT_rd (by have := hg.out; rwa [List.take_length] at this) n (flags_len _ _) (by have : maxLen = 9223372036854775807 := rfl; omega)⟩); (clear hg); (go_wp2); (go_ret); (exact ⟨_, rfl, hrd.out, hW.out⟩)
theorem flags_all (n : Nat) : flags n (allC n) = List.replicate n true := by
  apply List.ext_getElem
  · simp [flags]
  · (intro i h1 h2); (have hi : i < n := by simpa [flags] using h1)
    simp [flags, mem_allC, hi]
theorem rep_set (n k : Nat) (h : k < n) : (List.replicate k true ++ List.replicate (n - k) false).set k true = List.replicate (k + 1) true ++ List.replicate (n - (k + 1)) false := by
  apply List.ext_getElem
  · simp; omega
  · (intro i h1 h2); (rw [List.getElem_set])
    by_cases he : k = i
    · subst he; simp
    · (rw [if_neg he]); (simp only [List.getElem_append, List.length_replicate, List.getElem_replicate])
      split <;> split <;> first | rfl | omega
set_option maxRecDepth 20000 in
set_option maxHeartbeats 1000000 in
theorem all24_any (n : Nat) (w : World) (hn : n ≤ 7) : Calls Try.prog 76 #[.int .i64 (n : Int)] w fun e w' => ∃ v', e = .returned v' ∧ RdT w' v' (flags n (allC n)) ∧ Kept no w w' := by
  (have hmk := makeT n (by omega) w); (have g0 : Hd ((w.alloc (.cells (zsT (List.replicate n false)) 4)).heap[w.heap.size]? = some (.cells (zsT (List.replicate 0 true ++ List.replicate (n - 0) false)) 4 (0, 0))) := ⟨heap_alloc_new _ _⟩); (have k0 := hid ((Kept.refl no w).alloc (.cells (zsT (List.replicate n false)) 4)))
  go_enter Try.func76, Try.ntmps76
  go_wp2
  go_loopw [4] (fun i wr => ∃ k : Nat, k ≤ n ∧ i = .int .i64 (k : Int) ∧ Hd (wr.heap[w.heap.size]? = some (.cells (zsT (List.replicate k true ++ List.replicate (n - k) false)) 4 (0, 0))) ∧ Hd (Kept no w wr)) (fun i _ => n - (intOf i).toNat)
  case atStart => exact ⟨0, by omega, rfl, g0, k0⟩
  case round =>
    (clear g0 k0); (obtain ⟨k, hk, rfl, hg, hW⟩ := hrel)
    by_cases hlt : k < n
    · (have hk1 : (k : Int) < (n : Int) := by omega); (have hk0 : (0 : Int) ≤ (k : Int) := by omega); (have fs : wr.frozen? ⟨w.heap.size, k, none⟩ = false := row_free hg.out k)
      have cs : wr.cell? ⟨w.heap.size, k, none⟩ = some (.bool false) := by
        rw [cell_of_row wr _ k _ _ _ hg.out]
        simp [zsT, List.getElem?_append, List.getElem?_replicate]; omega
      (have hg' : Hd ((wr.setCell ⟨w.heap.size, k, none⟩ (.bool true)).heap[w.heap.size]? = some (.cells (zsT (List.replicate (k + 1) true ++ List.replicate (n - (k + 1)) false)) 4 (0, 0))) := ⟨by rw [setCell_row hg.out, zsT_set, rep_set n k hlt]⟩); (have hW' := hid (hW.out.setCell (a := ⟨w.heap.size, k, none⟩) (.inr (Nat.le_refl _)) (.bool true))); (clear hg hW); (go_wp2); (go_roundw)
      case rel => first | exact ⟨k + 1, by omega, by go_num, hg', hW'⟩ | ((repeat apply Exists.intro); exact ⟨⟨k + 1, by omega, by go_num, hg', hW'⟩, rfl⟩)
      case measure => simp [intOf]; omega
    · obtain rfl : k = n := by omega
      have hrd : Hd (RdT wr (.slice (some ⟨w.heap.size, 0, none⟩) k k) (flags k (allC k))) := ⟨by
        (rw [flags_all]); (refine zsT_rd ?_ k (by simp) (by have : maxLen = 9223372036854775807 := rfl; omega)); (have := hg.out); (rw [Nat.sub_self] at this)
        simpa using this⟩
      (clear hg); (go_wp2); (go_ret); (exact ⟨_, rfl, hrd.out, hW.out⟩)
set_option maxHeartbeats 400000 in
theorem refistail_any (n : Int) (v : Value) (p : List Int) (w : World) (hr : RdZ w v p) : Calls Try.prog 72 #[.int .i64 n, v] w fun e w' => e = .returned (.bool (isTail n p)) ∧ Qt w w' := by
  (obtain ⟨ao, cap, rfl, hcap, hcm⟩ := Rd.shape2 hr); (have hm63 := maxLen_63); (have HB := hid (refballot_any n _ p w hr))
  by_cases h0 : p.length = 0
  · (have h1 : ¬ (0 : Int) < (p.length : Int) := by omega); (have hd : decide ((0 : Int) < (p.length : Int)) = false := decide_eq_false h1); (have ht : Hd (isTail n p = false) := ⟨isTail_nil n (List.eq_nil_of_length_eq_zero h0)⟩); (clear HB hr)
    go_enter Try.func72, Try.ntmps72
    (go_wp2); (go_ret); (exact ⟨by rw [ht.out]; rfl, Qt.refl _⟩)
  · (have h1 : (0 : Int) < (p.length : Int) := by omega); (have hd : decide ((0 : Int) < (p.length : Int)) = true := decide_eq_true h1); (have ht : Hd (isTail n p = ballot n p) := ⟨by unfold isTail; rw [decide_eq_true (show p ≠ [] from fun e => h0 (by rw [e]; rfl))]; rfl⟩); (clear hr)
    go_enter Try.func72, Try.ntmps72
    (go_wp2_with fail); (refine HB.out.mono ?_); (rintro e w1 ⟨rfl, q1⟩); (replace q1 := hid q1); (go_wp2); (go_ret); (exact ⟨by rw [ht.out]; rfl, q1.out⟩)
end Go.Proofs.Ytkdmlakookgolaa

/- What the loops over tails run through; numbers of votes are small. -/
namespace Go.Mg
open Go.Pil
def rowI (n : Nat) (gs : List Grp) (tail : List Int) (i : Nat) : List Int := (tail.drop (i + 1)).map fun d => vt n gs (tail.drop i) (tail.getD i 0) - vt n gs (tail.drop i) d
def colE (n : Nat) (gs : List Grp) (tail : List Int) (e : Int) : List Int := tail.map fun t => vt n gs (allC n) e - prefers gs t e
def dinK (n : Nat) (gs : List Grp) (tail : List Int) (k : Nat) : List Int := (List.range k).flatMap (rowI n gs tail)
def doutK (n : Nat) (gs : List Grp) (tail : List Int) (k : Nat) : List Int := ((allC k).filter fun e => decide (e ∉ tail)).flatMap (colE n gs tail)
theorem dinK_all (n : Nat) (gs : List Grp) (tail : List Int) : dinK n gs tail tail.length = din n gs tail := rfl
theorem doutK_all (n : Nat) (gs : List Grp) (tail : List Int) : doutK n gs tail n = dout n gs tail := rfl
theorem dinK_succ (n : Nat) (gs : List Grp) (tail : List Int) (k : Nat) : dinK n gs tail (k + 1) = dinK n gs tail k ++ rowI n gs tail k := by simp [dinK, List.range_succ]
theorem allC_succ (k : Nat) : allC (k + 1) = allC k ++ [(k : Int)] := by simp [allC, List.range_succ]
theorem doutK_succ (n : Nat) (gs : List Grp) (tail : List Int) (k : Nat) : doutK n gs tail (k + 1) = doutK n gs tail k ++ if (k : Int) ∈ tail then [] else colE n gs tail k := by
  (unfold doutK); (rw [allC_succ, List.filter_append, List.flatMap_append])
  by_cases h : (k : Int) ∈ tail <;> simp [h]
/-- One more of the row. -/
theorem mx_take (L R : List Int) (k : Nat) (h : k < R.length) : mx (L ++ R.take (k + 1)) = max (mx (L ++ R.take k)) (R.getD k 0) := by
  rw [List.take_succ_eq_append_getElem h, ← List.append_assoc, mx_snoc, List.getD_eq_getElem?_getD, List.getElem?_eq_getElem h]; rfl
theorem rowI_len (n : Nat) (gs : List Grp) (tail : List Int) (i : Nat) : (rowI n gs tail i).length = tail.length - (i + 1) := by simp [rowI]
theorem rowI_at {n : Nat} {gs : List Grp} {tail : List Int} {i k : Nat} (h : i + 1 + k < tail.length) : (rowI n gs tail i).getD k 0 = vt n gs (tail.drop i) (tail.getD i 0) - vt n gs (tail.drop i) (tail.getD (i + 1 + k) 0) := by
  (unfold rowI); (rw [List.getD_eq_getElem?_getD, List.getElem?_map, List.getElem?_drop, List.getElem?_eq_getElem h, List.getD_eq_getElem?_getD (i := i + 1 + k), List.getElem?_eq_getElem h]; rfl)
theorem colE_len (n : Nat) (gs : List Grp) (tail : List Int) (e : Int) : (colE n gs tail e).length = tail.length := by simp [colE]
theorem colE_at {n : Nat} {gs : List Grp} {tail : List Int} {e : Int} {k : Nat} (h : k < tail.length) : (colE n gs tail e).getD k 0 = vt n gs (allC n) e - prefers gs (tail.getD k 0) e := by
  (unfold colE); (rw [List.getD_eq_getElem?_getD, List.getElem?_map, List.getElem?_eq_getElem h, List.getD_eq_getElem?_getD (i := k), List.getElem?_eq_getElem h]; rfl)
theorem pile_pos {n : Int} {gs : List Grp} (h : isPile n gs = true) : ∀ g ∈ gs, 1 ≤ g.n := fun g hg => (((isPile_iff n gs).1 h).1 g hg).2
theorem vt_small {n : Nat} {m : Int} {gs : List Grp} (h : isPile m gs = true) (l : List Int) (c : Int) : 0 ≤ vt n gs l c ∧ vt n gs l c ≤ 100000 := by
  (have ht := ((isPile_iff m gs).1 h).2.1); (have hp := pile_pos h); (unfold vt)
  by_cases hc : c.toNat < n
  · (rw [first_at gs (flags n l) c.toNat (by rw [flags_len]; exact hc)]); (have := sumIf_bnd (Q := fun p => hd (flags n l) p == some (c.toNat : Int)) hp)
    omega
  · rw [List.getD_eq_getElem?_getD, List.getElem?_eq_none (by rw [first_len, flags_len]; omega)]
    simp
theorem prefers_small {m : Int} {gs : List Grp} (h : isPile m gs = true) (a b : Int) : 0 ≤ prefers gs a b ∧ prefers gs a b ≤ 100000 := by
  (have ht := ((isPile_iff m gs).1 h).2.1); (unfold prefers)
  split
  · have := sumIf_bnd (Q := fun p => pref p a b) (pile_pos h); omega
  · omega
theorem prefers_ref {gs : List Grp} {a b : Int} : (if isPile 7 gs = true then sumIf (fun p => pref p a b) gs else 0) = prefers gs a b := by
  unfold prefers
  by_cases h : isPile 7 gs = true
  · by_cases hab : a = b
    · (subst hab); (rw [if_pos h, if_neg (by simp)])
      have : ∀ l : List Grp, sumIf (fun p => pref p a a) l = 0 := fun l => by
        induction l with
        | nil => rfl
        | cons g l ih => rw [sumIf_cons, ih]; simp [pref]
      exact this gs
    · rw [if_pos h, if_pos ⟨h, hab⟩]
  · rw [if_neg h, if_neg (fun hh => h hh.1)]
theorem first_firstV {n : Nat} {gs : List Grp} (h : isPile 7 gs = true) (hn : n ≤ 7) (l : List Int) : first gs (flags n l) = firstV gs (flags n l) := by
  unfold first; rw [if_pos ⟨h, by rw [flags_len]; exact hn⟩]
theorem mx_small {l : List Int} {b : Int} (hb : 0 ≤ b) (h : ∀ x ∈ l, x ≤ b) : 0 ≤ mx l ∧ mx l ≤ b := ⟨(mx_spec l).1, mx_le hb h⟩
end Go.Mg
