/- Made ballots: electionmake.Ballot; lists of ballots of their own. -/
import Derived.Test.YtmigdhbolbhbeaaMake
namespace Go.Pil
/-- The numbers modulo n, each once, at most n of them. -/
def balStep (n : Int) (out : List Int) (y : Int) : List Int := if (out.length : Int) < n ∧ (y.tmod n + n).tmod n ∉ out then out ++ [(y.tmod n + n).tmod n] else out
def bal (n : Int) (l : List Int) : List Int := l.foldl (balStep n) []
theorem bal_take {n : Int} {l : List Int} {k : Nat} (hk : k < l.length) : bal n (l.take (k + 1)) = balStep n (bal n (l.take k)) (l.getD k 0) := by
  have e : l.getD k 0 = l[k] := by simp [List.getD_eq_getElem?_getD, hk]
  unfold bal
  rw [List.take_succ_eq_append_getElem hk, List.foldl_append, e]; rfl
theorem bal_full {n : Int} (l : List Int) : ∀ s : List Int, ¬ (s.length : Int) < n → l.foldl (balStep n) s = s := by
  induction l with
  | nil => intro s _; rfl
  | cons y l ih =>
    intro s hs
    rw [List.foldl_cons]
    have : balStep n s y = s := by unfold balStep; rw [if_neg fun h => hs h.1]
    rw [this]; exact ih s hs
theorem bal_stop {n : Int} {l : List Int} {k : Nat} (h : ¬ ((bal n (l.take k)).length : Int) < n) : bal n l = bal n (l.take k) := by
  have : l = l.take k ++ l.drop k := (List.take_append_drop _ _).symm
  conv => lhs; rw [this]
  unfold bal
  rw [List.foldl_append]
  exact bal_full _ _ h
theorem bal_ballot {n : Int} (hn : 0 < n) (l : List Int) : ballot n (bal n l) = true := by
  have : ∀ (l s : List Int), ballot n s = true → ballot n (l.foldl (balStep n) s) = true := by
    intro l
    induction l with
    | nil => intro s h; exact h
    | cons y l ih =>
      intro s h
      rw [List.foldl_cons]
      refine ih _ ?_
      unfold balStep
      split
      · rename_i hc
        unfold ballot at h ⊢
        have h := of_decide_eq_true h
        refine decide_eq_true ⟨?_, fun x hx => ?_⟩
        · rw [List.nodup_append]
          exact ⟨h.1, by simp, fun a ha b hb e => hc.2 (by have : b = (y.tmod n + n).tmod n := by simpa using hb
                                                           rw [← this, ← e]; exact ha)⟩
        · rcases List.mem_append.1 hx with hx | hx
          · exact h.2 x hx
          · have : x = (y.tmod n + n).tmod n := by simpa using hx
            have h1 := Int.lt_tmod_of_pos y hn
            have h2 := Int.tmod_nonneg (y.tmod n + n |> fun z => n) (show 0 ≤ y.tmod n + n by omega)
            have h3 := Int.tmod_lt_of_pos (y.tmod n + n) hn
            rw [this]; exact ⟨Int.tmod_nonneg _ (by omega), h3⟩
      · exact h
  exact this l [] (by simp [ballot])
def bals (n : Int) (ls : List (List Int)) (m : Nat) : List (List Int) := (ls.take m).map fun b => bal n (b.take 12)
theorem bals_len (n : Int) (ls : List (List Int)) (m : Nat) : (bals n ls m).length = min m ls.length := by simp [bals]
theorem bals_all {n : Int} (hn : 0 < n) (ls : List (List Int)) (m : Nat) : ∀ b ∈ bals n ls m, ballot n b = true := fun b hb => by
  obtain ⟨x, _, rfl⟩ := List.mem_map.1 hb
  exact bal_ballot hn _
end Go.Pil
namespace Go.Proofs.Ytmigdhbolbhbeaa
open Go.RowKit Go.Mk Go.Pil
theorem infZ0 : (Try.prog.info? 36).map (fun i => (i.zero, i.size)) = some (some (.slice none 0 0), 1) := by kernel_rfl
/-- Ballots of their own, each of its own. -/
structure OwL (w w' : World) (v : Value) (bs : List (List Int × Value)) : Prop where
  own : w'.ownsRow 0 36 1 v bs.length (bs.map (·.2))
  rows : ∀ x ∈ bs, w'.ownsRow 0 3 1 x.2 x.1.length (x.1.map Z)
  kept : Kept no w w'
  new : New w v
theorem int_ne_ints : 3 ≠ 36 := by decide
theorem OwL.nil (w : World) : OwL w w (.slice none 0 0) [] := ⟨World.ownsRow_nil _ _ _ _, (fun x hx => by cases hx), Kept.refl _ _, .inl rfl⟩
theorem OwL.keptNo {w w' w2 : World} {v : Value} {bs : List (List Int × Value)} (h : OwL w w' v bs) (k : Kept no w' w2) : OwL w w2 v bs :=
  ⟨k.ownsRow h.own fun _ _ => id, fun x hx => k.ownsRow (h.rows x hx) fun _ _ => id, h.kept.trans' k, h.new⟩
theorem OwL.rd {w w' : World} {v : Value} {bs : List (List Int × Value)} (h : OwL w w' v bs) : RdB w' v bs := ⟨fun x hx => own_RdZ (h.rows x hx), Rd.of_own h.own⟩
theorem OwL.add {w w0 w1 w2 : World} {v v' u : Value} {bs : List (List Int × Value)} (h : OwL w w0 v bs) (p : List Int) (k1 : Kept no w0 w1) (hu : w1.ownsRow 0 3 1 u p.length (p.map Z))
    (ho : w2.ownsRow 0 36 1 v' (bs.length + 1) (bs.map (·.2) ++ [u])) (hk : Kept (ob v) w1 w2) (hv : NewOr w1 v v') : OwL w w2 v' (bs ++ [(p, u)]) := by
  have h1 := h.keptNo k1
  refine ⟨by rw [List.length_append, List.map_append]; exact ho, fun x hx => ?_, h1.new.kept h1.kept hk, h1.new.step hv h1.kept.size⟩
  rcases List.mem_append.1 hx with hx | hx
  · exact hk.ownsRow (h1.rows x hx) fun j hj hv => own_own (h1.rows x hx) h1.own int_ne_ints j hj hv
  · obtain rfl : x = (p, u) := by simpa using hx
    exact hk.ownsRow hu fun j hj hv => own_own hu h1.own int_ne_ints j hj hv
set_option maxRecDepth 20000 in
set_option maxHeartbeats 1000000 in
theorem genballot_any (n : Int) (v : Value) (zs : List Int) (w : World) (h1 : 1 ≤ n) (h2 : n ≤ 7) (hr : RdZ w v zs) : Calls Try.prog 46 #[.int .i64 n, v] w fun e w' => ∃ v', e = .returned v' ∧ OwZ w w' v' (bal n zs) := by
  obtain ⟨ao, cap, rfl, hcap, hcm⟩ := Rd.shape2 hr
  have hm63 := maxLen_63
  replace hr := hid hr
  go_enter Try.func46, Try.ntmps46
  go_wp2
  go_loopw [5, 6] (fun out i wr => ∃ (k : Nat) (ao' : Option Addr) (cl : Nat), k ≤ zs.length ∧ i = .int .i64 (k : Int) ∧ out = .slice ao' (bal n (zs.take k)).length cl ∧ Hd (OwZ w wr (.slice ao' (bal n (zs.take k)).length cl) (bal n (zs.take k)))) (fun _ i _ => zs.length - (intOf i).toNat)
  case atStart => exact ⟨0, none, 0, by omega, rfl, rfl, ⟨OwZ.nil w⟩⟩
  case round =>
    obtain ⟨k, ao', cl, hk, rfl, rfl, hO⟩ := hrel
    have hstop := hid (fun h => bal_stop (n := n) (l := zs) (k := k) h)
    by_cases hlt : k < zs.length
    · obtain ⟨b, o, rfl, hc⟩ := (hr.out.kept hO.out.kept).at k hlt
      have hk1 : (k : Int) < (zs.length : Int) := by omega
      have hkd : decide ((k : Int) < (zs.length : Int)) = true := decide_eq_true hk1
      have hk0 : (0 : Int) ≤ (k : Int) := by omega
      have hst := hid (bal_take (n := n) hlt)
      generalize zs.getD k 0 = z at hc hst
      generalize bal n (zs.take k) = bk at hO hst hstop ⊢
      by_cases hfl : (bk.length : Int) < n
      · have hfd : decide ((bk.length : Int) < n) = true := decide_eq_true hfl
        have HM := hid (mod_any z n wr (by omega) (by omega))
        have hme := hid (show modI z n = (z.tmod n + n).tmod n from rfl)
        have HH := hid (has_any _ bk (modI z n) wr hO.out.rd)
        generalize modI z n = x at HM HH hme
        clear hstop
        by_cases hx : x ∈ bk
        · rw [decide_eq_true hx] at HH
          have hO' : Hd (OwZ w wr (.slice ao' (bal n (zs.take (k + 1))).length cl) (bal n (zs.take (k + 1)))) := ⟨by
            rw [hst.out]; unfold balStep; rw [if_neg (fun h => h.2 (by rw [← hme.out]; exact hx))]; exact hO.out⟩
          have hlen : Hd (bk.length = (bal n (zs.take (k + 1))).length) := ⟨by rw [hst.out]; unfold balStep; rw [if_neg (fun h => h.2 (by rw [← hme.out]; exact hx))]⟩
          clear hst hO hme hx
          go_wp2_with fail
          refine HM.out.mono ?_
          rintro e w1 ⟨rfl, rfl⟩
          go_wp2_with fail
          refine HH.out.mono ?_
          rintro e w2 ⟨rfl, k2⟩
          have hO2 := hid (hO'.out.keptNo k2.kept)
          rw [← hlen.out] at hO2
          clear k2 HH HM hO'
          go_wp2
          go_roundw
          case rel => first | exact ⟨k + 1, ao', cl, by omega, by go_num, by rw [← hlen.out], by rw [← hlen.out]; exact hO2⟩ | ((repeat apply Exists.intro); exact ⟨⟨k + 1, ao', cl, by omega, by go_num, by rw [← hlen.out], by rw [← hlen.out]; exact hO2⟩, rfl⟩)
          case measure => simp [intOf]; omega
        · rw [decide_eq_false hx] at HH
          have hne : Hd (bal n (zs.take (k + 1)) = bk ++ [x]) := ⟨by rw [hst.out]; unfold balStep; rw [if_pos ⟨hfl, by rw [← hme.out]; exact hx⟩, hme.out]⟩
          have hls : bk.length + 1 ≤ maxLen ∧ (bk.length + 1) * 8 ≤ 140737488355328 := by have hm : maxLen = 9223372036854775807 := rfl; omega
          clear hst hme hx
          go_wp2_with fail
          refine HM.out.mono ?_
          rintro e w1 ⟨rfl, rfl⟩
          go_wp2_with fail
          refine HH.out.mono ?_
          rintro e w2 ⟨rfl, k2⟩
          have hO2 := hid (hO.out.keptNo k2.kept)
          clear k2 HH HM hO hc
          go_wp2_with (at_builtin; refine wpList_append_lit _ rfl _ _ 36 rfl 3 1 8 TInts _ _ _ rfl hO2.out.own 1 [_] rfl rfl ?c1 ?c2 ?c3 ?_)
          case c1 => simp [Value.oneCell']
          case c2 => exact hls.1
          case c3 => exact hls.2
          intro v' w3 h2 h3 h4 _
          have hO3 := hO2.out.add x h2 h3 h4
          rw [← hne.out] at hO3
          obtain ⟨a6, c6, rfl, _, _⟩ := Rd.shape2 hO3.rd
          replace hO3 := hid hO3
          clear h2 h3 h4 hO2 hls
          go_wp2
          go_roundw
          case rel => first | exact ⟨k + 1, a6, c6, by omega, by go_num, rfl, hO3⟩ | ((repeat apply Exists.intro); exact ⟨⟨k + 1, a6, c6, by omega, by go_num, rfl, hO3⟩, rfl⟩)
          case measure => simp [intOf]; omega
      · have hfd : decide ((bk.length : Int) < n) = false := decide_eq_false hfl
        have hv : Hd (bal n zs = bk) := ⟨hstop.out hfl⟩
        clear hstop hst hc
        go_wp2
        go_ret
        exact ⟨_, rfl, by rw [hv.out]; exact hO.out⟩
    · have hkd : decide ((k : Int) < (zs.length : Int)) = false := decide_eq_false (by omega)
      have hk1 : ¬ (k : Int) < (zs.length : Int) := by omega
      have hv : Hd (bal n zs = bal n (zs.take k)) := ⟨by rw [List.take_of_length_le (by omega)]⟩
      generalize bal n (zs.take k) = bk at hO hv
      clear hstop
      go_wp2
      go_ret
      exact ⟨_, rfl, by rw [hv.out]; exact hO.out⟩
theorem RdZ.addr {w : World} {av : Option Addr} {lv cv : Nat} {zs : List Int} (h : RdZ w (.slice av lv cv) zs) : cv = 0 ∨ ∃ b o, av = some ⟨b, o, none⟩ := by
  obtain ⟨_, _, _, e, _, _, h | ⟨b, o, rfl, _⟩⟩ := h
  · cases e; exact .inl h
  · cases e; exact .inr ⟨b, o, rfl⟩
theorem pre_slice (av : Option Addr) (lv cv m : Nat) (hav : cv = 0 ∨ ∃ b o, av = some ⟨b, o, none⟩) (hm : m ≤ cv) (w : World) : (Instr.slice 36 (.slice av lv cv) none (some (.int .i64 (m : Int))) none).run Try.prog w = .ok (.slice av m cv) w := by
  have h0 : (0 : Int) ≤ (m : Int) := by omega
  have hc : Try.prog.underlying 36 = some (.slice 3) := by kernel_rfl
  rcases hav with rfl | ⟨b, o, rfl⟩
  · obtain rfl : m = 0 := by omega
    simp [Instr.slice, Instr.sliceBounds, Instr.sliceBound, run_underlying hc, asIntOf]
  · simp [Instr.slice, Instr.sliceBounds, Instr.sliceBound, run_underlying hc, asIntOf, h0]
    have e : (⟨b, o, none⟩ : Addr).add 0 = ⟨b, o, none⟩ := by simp [Addr.add]
    rw [if_pos hm, e]; simp
end Go.Proofs.Ytmigdhbolbhbeaa
