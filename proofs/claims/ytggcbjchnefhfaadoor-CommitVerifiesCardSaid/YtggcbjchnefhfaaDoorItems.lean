/- electionlaw36.Items: some items (at most m, with ballots of at most 7 candidates). -/
import Derived.Test.YtggcbjchnefhfaaDoorSliceD
import Derived.Test.YtggcbjchnefhfaaDoorLaw38
import Derived.Test.YtggcbjchnefhfaaDoorReadRows
namespace Go.Proofs.YtggcbjchnefhfaaDoor
open Go.RowKit Go.Mk Go.Sha Go.Cmt
/-- Items of one's own, whose preferences lie in the memory of w. -/
structure OwI (w w' : World) (v : Value) (l : List (Itm × Value)) : Prop where
  own : w'.ownsRow 0 33 5 v l.length (flatI l)
  old : ∀ x ∈ l, RdZ w x.2 x.1.pr
  kept : Kept no w w'
  new : New w v
theorem TItems : ElemT Tryd.prog 25 33 5 56 := .mk' (z := .agg #[.int .i64 0, .int .i64 0, .int .i64 0, .bool false, .slice none 0 0]) (by kernel_rfl) (by kernel_rfl) (by kernel_rfl) (by decide)
theorem OwI.nil (w : World) : OwI w w (.slice none 0 0) [] := ⟨World.ownsRow_nil _ _ _ _, (fun x hx => by cases hx), Kept.refl _ _, .inl rfl⟩
theorem OwI.keptNo {w w' w2 : World} {v : Value} {l : List (Itm × Value)} (h : OwI w w' v l) (k : Kept no w' w2) : OwI w w2 v l :=
  ⟨k.ownsRow h.own fun _ _ => id, h.old, h.kept.trans' k, h.new⟩
theorem OwI.rd {w w' : World} {v : Value} {l : List (Itm × Value)} (h : OwI w w' v l) : RdI w' v l := ⟨fun x hx => (h.old x hx).kept h.kept, Rd.of_own h.own⟩
theorem flatI_snoc (l : List (Itm × Value)) (x : Itm × Value) : flatI (l ++ [x]) = flatI l ++ itmC x := by simp [flatI]
theorem OwI.add {w w1 w2 : World} {v v' : Value} {l : List (Itm × Value)} (h : OwI w w1 v l) (x : Itm × Value) (hx : RdZ w x.2 x.1.pr)
    (ho : w2.ownsRow 0 33 5 v' (l.length + 1) (flatI l ++ itmC x)) (hk : Kept (ob v) w1 w2) (hn : NewOr w1 v v') : OwI w w2 v' (l ++ [x]) :=
  ⟨by rw [List.length_append, flatI_snoc]; exact ho, (fun y hy => by
    rcases List.mem_append.1 hy with hy | hy
    · exact h.old y hy
    · obtain rfl := List.mem_singleton.1 hy; exact hx), h.new.keptR h.kept hk, h.new.stepR hn h.kept.size⟩
theorem RdI.shape {w : World} {v : Value} {l : List (Itm × Value)} (h : RdI w v l) : ∃ ao cap, v = .slice ao l.length cap ∧ l.length ≤ cap ∧ cap ≤ maxLen := by
  obtain ⟨_, ao, cap, e, h1, h2, _⟩ := h.2
  exact ⟨ao, cap, e, h1, h2⟩
theorem rdZ_nil (w : World) : RdZ w (.slice none 0 0) [] := ⟨rfl, none, 0, rfl, Nat.le_refl _, Nat.zero_le _, .inl rfl⟩
/-- A slice of flags. -/
def RdF (w : World) (v : Value) (fs : List Bool) : Prop := Rd w 1 v fs.length (fs.map Value.bool)
theorem RdF.kept {w w' : World} {v : Value} {fs : List Bool} (h : RdF w v fs) (k : Kept no w w') : RdF w' v fs := Rd.keptNo h k
theorem RdF.at {w : World} {ao : Option Addr} {n cap : Nat} {fs : List Bool} (h : RdF w (.slice ao n cap) fs) (k : Nat) (hk : k < fs.length) :
    ∃ b o f, ao = some ⟨b, o, none⟩ ∧ w.cell? ⟨b, o + k, none⟩ = some (.bool f) := by
  obtain ⟨_, _, _, e, h1, _, h | ⟨b, o, rfl, hc⟩⟩ := h
  · cases e; omega
  · cases e
    exact ⟨b, o, fs[k], rfl, hc k _ (by rw [List.getElem?_map, List.getElem?_eq_getElem hk]; rfl)⟩
theorem RdZ_of {w : World} {v : Value} {zs : List Int} (h : Pl.RdZ w v zs) : RdZ w v zs := h
theorem bal_length (n : Int) (hn : 0 ≤ n) (l : List Int) : ((Go.Pil.bal n l).length : Int) ≤ n := by
  unfold Go.Pil.bal
  suffices h : ∀ s : List Int, (s.length : Int) ≤ n → ((l.foldl (Go.Pil.balStep n) s).length : Int) ≤ n from h [] (by simpa using hn)
  induction l with
  | nil => intro s hs; exact hs
  | cons y l ih =>
    intro s hs
    rw [List.foldl_cons]
    refine ih _ ?_
    unfold Go.Pil.balStep
    split
    · rename_i h; rw [List.length_append]; simp; omega
    · exact hs
set_option maxRecDepth 100000 in
set_option maxHeartbeats 4000000 in
theorem items_any (n : Int) (v1 v2 : Value) (bs : List (List Int × Value)) (fs : List Bool) (m : Nat) (w : World) (h1 : 1 ≤ n) (h2 : n ≤ 7) (hm : m ≤ 10) (hr : Pl.RdB w v1 bs) (hf : RdF w v2 fs) :
    Calls Tryd.prog 7 #[.int .i64 n, v1, v2, .int .i64 (m : Int)] w fun e w' => ∃ v' l, e = .returned v' ∧ l.length ≤ m ∧ (∀ x ∈ l, x.1.pr.length ≤ 1000) ∧ RdI w' v' l ∧ Kept no w w' := by
  have HB := hid (Pl.ballots_any n v1 bs m w h1 h2 (by omega) hr)
  obtain ⟨av, cv, rfl⟩ := Rd.shapeZ hr.2
  obtain ⟨af, cf, rfl⟩ := Rd.shapeZ hf
  have hbl : Hd (∀ qs : List (List Int × Value), Go.Proofs.YtggcbjchnefhfaaDoor.Pl.lists qs = Go.Pil.bals n (Go.Proofs.YtggcbjchnefhfaaDoor.Pl.lists bs) m → qs.length ≤ m ∧ ∀ x ∈ qs, x.1.length ≤ 1000) := ⟨fun qs hq => by
    refine ⟨?_, fun x hx => ?_⟩
    · have := congrArg List.length hq
      rw [Pl.lists_length] at this
      unfold Go.Pil.bals at this
      rw [List.length_map, List.length_take] at this
      omega
    · have hx : x.1 ∈ Go.Proofs.YtggcbjchnefhfaaDoor.Pl.lists qs := List.mem_map.2 ⟨x, hx, rfl⟩
      rw [hq] at hx
      unfold Go.Pil.bals at hx
      obtain ⟨b, _, e⟩ := List.mem_map.1 hx
      have := bal_length n (by omega) (b.take 12)
      rw [e] at this
      omega⟩
  replace hr := hid hr
  replace hf := hid hf
  go_enter Tryd.func7, Tryd.ntmps7
  go_wp2_with fail
  refine HB.out.mono ?_
  rintro e w1 ⟨vb, qs, rfl, hqs, ho⟩
  obtain ⟨hql, hqp⟩ := hbl.out qs hqs
  have hrd := hid ho.rd
  have hk1 := hid ho.kept
  obtain ⟨ab, cb, rfl⟩ := Rd.shapeZ hrd.out.2
  obtain ⟨q, hq⟩ : ∃ q, qs.length = q := ⟨_, rfl⟩
  rw [hq] at hql hrd ⊢
  replace hq := hid hq
  replace hqp := hid hqp
  replace hf := hid (hf.out.kept hk1.out)
  clear ho hqs hbl HB hr
  go_wp2
  go_loopw [9, 11] (fun out i wr => ∃ (k : Nat) (l : List (Itm × Value)), k ≤ q ∧ i = .int .i64 (k : Int) ∧ Hd (l.length = k) ∧ Hd (∀ x ∈ l, x.1.pr.length ≤ 1000) ∧ Hd (OwI w1 wr out l)) (fun _ i _ => q - (intOf i).toNat)
  case atStart => exact ⟨0, [], by omega, rfl, ⟨rfl⟩, ⟨fun x hx => by cases hx⟩, ⟨OwI.nil w1⟩⟩
  case round =>
    obtain ⟨k, l, hk, rfl, hlk, hlp, hO⟩ := hrel
    by_cases hlt : k < q
    · have hk1' : (k : Int) < (q : Int) := by omega
      have hk0 : (0 : Int) ≤ (k : Int) := by omega
      have hk9 : k ≤ 9 := by omega
      have hls : Hd (l.length + 1 ≤ maxLen ∧ (l.length + 1) * 56 ≤ 140737488355328) := ⟨by rw [hlk.out]; have hmx : maxLen = 9223372036854775807 := rfl; omega⟩
      have hlk2 : Hd (∀ y : Itm × Value, (l ++ [y]).length = k + 1) := ⟨fun y => by rw [List.length_append, hlk.out]; rfl⟩
      have hlp2 : Hd (∀ y : Itm × Value, y.1.pr.length ≤ 1000 → ∀ x ∈ l ++ [y], x.1.pr.length ≤ 1000) := ⟨fun y hy x hx => by
        rcases List.mem_append.1 hx with hx | hx
        · exact hlp.out x hx
        · rw [List.mem_singleton.1 hx]; exact hy⟩
      have hdv : (k : Int).tdiv 16 = 0 := Int.tdiv_eq_zero_of_lt (by omega) (by omega)
      have hmd : (k : Int).tmod 16 = (k : Int) := Int.tmod_eq_of_lt (by omega) (by omega)
      obtain ⟨b, o, pq, vp, rfl, hel, c0, hz⟩ := hrd.out.at k (by rw [hq.out]; exact hlt)
      have hpl : Hd (pq.length ≤ 1000) := ⟨by have := hqp.out _ (List.getElem_mem (show k < qs.length by rw [hq.out]; exact hlt)); rwa [hel] at this⟩
      obtain ⟨ap, lp, cp, rfl⟩ : ∃ a l c, vp = .slice a l c := by obtain ⟨_, a, c, e, _⟩ := hz; exact ⟨a, _, c, e⟩
      have hz' : Hd (RdZ w1 (.slice ap lp cp) pq) := ⟨hz⟩
      have c0' := hO.out.kept.cell c0 id
      clear hel c0 hz
      by_cases hkf : k < fs.length
      · have hkf1 : (k : Int) < (fs.length : Int) := by omega
        have hkd : decide ((k : Int) < (fs.length : Int)) = true := decide_eq_true hkf1
        obtain ⟨bf, of, f, rfl, cf0⟩ := (hf.out.kept hO.out.kept).at k hkf
        cases f with
        | true =>
          clear hdv hmd c0'
          go_wp2_with (at_builtin; refine wpList_append_lit _ rfl _ _ 25 rfl 33 5 56 TItems _ _ _ rfl hO.out.own 1 (itmC (⟨0, 0, 0, true, []⟩, .slice none 0 0)) rfl rfl ?c1 ?c2 ?c3 ?_)
          case c1 => simp [itmC, Value.oneCell']
          case c2 => exact hls.out.1
          case c3 => exact hls.out.2
          intro v' w3 h2 h3 h4 _
          have hO3 := hid (hO.out.add (⟨0, 0, 0, true, []⟩, .slice none 0 0) (rdZ_nil _) h2 h3 h4)
          have hlk3 := hid (hlk2.out (⟨0, 0, 0, true, []⟩, .slice none 0 0))
          have hlp3 := hid (hlp2.out (⟨0, 0, 0, true, []⟩, .slice none 0 0) (Nat.zero_le _))
          clear h2 h3 h4 hO hlk2 hlp2 hls hlk hlp
          go_wp2
          go_roundw
          case rel => first | exact ⟨k + 1, _, by omega, by go_num, hlk3, hlp3, hO3⟩ | ((repeat apply Exists.intro); exact ⟨⟨k + 1, _, by omega, by go_num, hlk3, hlp3, hO3⟩, rfl⟩)
          case measure => simp [intOf]; omega
        | false =>
          have hcl : Hd (itmC (⟨1, 1, (k : Int), false, pq⟩, .slice ap lp cp) = [.int .i64 1, .int .i64 1, .int .i64 (k : Int), .bool false, .slice ap lp cp]) := ⟨rfl⟩
          go_wp2_with (at_builtin; refine wpList_append_lit _ rfl _ _ 25 rfl 33 5 56 TItems _ _ _ rfl hO.out.own 1 (itmC (⟨1, 1, (k : Int), false, pq⟩, .slice ap lp cp)) rfl rfl ?c1 ?c2 ?c3 ?_)
          case c1 => simp [itmC, Value.oneCell']
          case c2 => exact hls.out.1
          case c3 => exact hls.out.2
          intro v' w3 h2 h3 h4 _
          have hO3 := hid (hO.out.add (⟨1, 1, (k : Int), false, pq⟩, .slice ap lp cp) hz'.out h2 h3 h4)
          have hlk3 := hid (hlk2.out (⟨1, 1, (k : Int), false, pq⟩, .slice ap lp cp))
          have hlp3 := hid (hlp2.out (⟨1, 1, (k : Int), false, pq⟩, .slice ap lp cp) hpl.out)
          clear h2 h3 h4 hO hlk2 hlp2 hls hlk hlp c0' hdv hmd hcl
          go_wp2
          go_roundw
          case rel => first | exact ⟨k + 1, _, by omega, by go_num, hlk3, hlp3, hO3⟩ | ((repeat apply Exists.intro); exact ⟨⟨k + 1, _, by omega, by go_num, hlk3, hlp3, hO3⟩, rfl⟩)
          case measure => simp [intOf]; omega
      · have hkf1 : ¬ (k : Int) < (fs.length : Int) := by omega
        have hkd : decide ((k : Int) < (fs.length : Int)) = false := decide_eq_false hkf1
        have hcl : Hd (itmC (⟨1, 1, (k : Int), false, pq⟩, .slice ap lp cp) = [.int .i64 1, .int .i64 1, .int .i64 (k : Int), .bool false, .slice ap lp cp]) := ⟨rfl⟩
        go_wp2_with (at_builtin; refine wpList_append_lit _ rfl _ _ 25 rfl 33 5 56 TItems _ _ _ rfl hO.out.own 1 (itmC (⟨1, 1, (k : Int), false, pq⟩, .slice ap lp cp)) rfl rfl ?c1 ?c2 ?c3 ?_)
        case c1 => simp [itmC, Value.oneCell']
        case c2 => exact hls.out.1
        case c3 => exact hls.out.2
        intro v' w3 h2 h3 h4 _
        have hO3 := hid (hO.out.add (⟨1, 1, (k : Int), false, pq⟩, .slice ap lp cp) hz'.out h2 h3 h4)
        have hlk3 := hid (hlk2.out (⟨1, 1, (k : Int), false, pq⟩, .slice ap lp cp))
        have hlp3 := hid (hlp2.out (⟨1, 1, (k : Int), false, pq⟩, .slice ap lp cp) hpl.out)
        clear h2 h3 h4 hO hlk2 hlp2 hls hlk hlp c0' hdv hmd hcl
        go_wp2
        go_roundw
        case rel => first | exact ⟨k + 1, _, by omega, by go_num, hlk3, hlp3, hO3⟩ | ((repeat apply Exists.intro); exact ⟨⟨k + 1, _, by omega, by go_num, hlk3, hlp3, hO3⟩, rfl⟩)
        case measure => simp [intOf]; omega
    · obtain rfl : k = q := by omega
      have hK := hid (hk1.out.trans' hO.out.kept)
      have hR := hid hO.out.rd
      have hll : Hd (l.length ≤ m) := ⟨by rw [hlk.out]; omega⟩
      clear hO hlk
      go_wp2
      go_ret
      exact ⟨_, l, rfl, hll.out, hlp.out, hR.out, hK.out⟩
end Go.Proofs.YtggcbjchnefhfaaDoor
