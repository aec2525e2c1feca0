/- electionmake.Rename and Ints. -/
import Derived.Test.YtkdmlakookgolaaGenZ
namespace Go.Pil
/-- The names p gives. -/
def ren1 (p : List Int) (c : Int) : Int := p.getD c.toNat 0
def ren (p l : List Int) : List Int := l.map (ren1 p)
theorem ren_take {p l : List Int} {j : Nat} (hj : j < l.length) : ren p (l.take (j + 1)) = ren p (l.take j) ++ [ren1 p (l.getD j 0)] := by
  (unfold ren); (rw [List.take_succ_eq_append_getElem hj, List.map_append, List.getD_eq_getElem?_getD, List.getElem?_eq_getElem hj]; rfl)
end Go.Pil
namespace Go.Proofs.Ytkdmlakookgolaa
open Go.RowKit Go.Mk Go.Pil
set_option maxRecDepth 100000 in
set_option maxHeartbeats 2000000 in
theorem rename_any (v vp : Value) (zs p : List Int) (w : World) (hz : RdZ w v zs) (hp : RdZ w vp p) (hb : ∀ x ∈ zs, 0 ≤ x ∧ x < (p.length : Int)) (hl : zs.length ≤ 1000) :
    Calls Try.prog 46 #[v, vp] w fun e w' => ∃ v', e = .returned v' ∧ OwZ w w' v' (ren p zs) := by
  (obtain ⟨az, cz, rfl, _, _⟩ := Rd.shape2 hz); (obtain ⟨ap, cp, rfl, _, _⟩ := Rd.shape2 hp); (obtain ⟨len, hlen⟩ : ∃ n, zs.length = n := ⟨_, rfl⟩); (obtain ⟨lp, hlp⟩ : ∃ n, p.length = n := ⟨_, rfl⟩); (rw [hlen] at hz hl ⊢); (rw [hlp] at hp hb ⊢); (replace hlen := hid hlen); (replace hlp := hid hlp); (replace hz := hid hz); (replace hp := hid hp); (replace hb := hid hb)
  go_enter Try.func46, Try.ntmps46
  go_wp2
  go_loopw [5, 6] (fun out i wr => ∃ j : Nat, j ≤ len ∧ i = .int .i64 (j : Int) ∧ Hd (OwZ w wr out (ren p (zs.take j)))) (fun _ i _ => len - (intOf i).toNat)
  case atStart => exact ⟨0, by omega, rfl, ⟨by rw [List.take_zero]; exact OwZ.nil w⟩⟩
  case round =>
    obtain ⟨j, hj, rfl, hO⟩ := hrel
    by_cases hlt : j < len
    · (have hj1 : (j : Int) < (len : Int) := by omega); (have hj0 : (0 : Int) ≤ (j : Int) := by omega); (obtain ⟨b1, o1, rfl, c1⟩ := RdZ.at (show RdZ wr (.slice az len cz) zs from hz.out.kept hO.out.kept) j (by rw [hlen.out]; exact hlt)); (have hnx := hid (ren_take (p := p) (show j < zs.length by rw [hlen.out]; exact hlt))); (have hm := hb.out (zs.getD j 0) (by rw [List.getD_eq_getElem?_getD, List.getElem?_eq_getElem (by rw [hlen.out]; exact hlt)]; exact List.getElem_mem _)); (generalize zs.getD j 0 = z at c1 hnx hm); (obtain ⟨k, rfl⟩ : ∃ k : Nat, z = (k : Int) := ⟨z.toNat, by omega⟩); (have hk0 : (0 : Int) ≤ (k : Int) := by omega); (have hk1 : k < lp := by omega); (have hk2 : (k : Int) < (lp : Int) := by omega); (obtain ⟨b2, o2, rfl, c2⟩ := RdZ.at (show RdZ wr (.slice ap lp cp) p from hp.out.kept hO.out.kept) k (by rw [hlp.out]; exact hk1)); (have hr1 : ren1 p (k : Int) = p.getD k 0 := rfl); (rw [hr1] at hnx); (generalize p.getD k 0 = y at c2 hnx)
      have hl1 : Hd ((ren p (zs.take j)).length + 1 ≤ maxLen ∧ ((ren p (zs.take j)).length + 1) * 8 ≤ 140737488355328) := ⟨by
        (have : (ren p (zs.take j)).length ≤ j := by unfold ren; rw [List.length_map, List.length_take]; omega); (have hmx : maxLen = 9223372036854775807 := rfl)
        omega⟩
      (clear hm hr1); (go_wp2_with (at_builtin; refine wpList_append_lit _ rfl _ _ 40 rfl 3 1 8 TInts _ _ _ rfl hO.out.own 1 [_] rfl rfl ?c1 ?c2 ?c3 ?_))
      case c1 => simp [Value.oneCell']
      case c2 => exact hl1.out.1
      case c3 => exact hl1.out.2
      (intro v' w5 h2 h3 h4 _); (have hO' : Hd (OwZ w w5 v' (ren p (zs.take (j + 1)))) := ⟨by rw [hnx.out]; exact hO.out.add _ h2 h3 h4⟩); (clear h2 h3 h4 hO hnx hl1 c1 c2); (go_wp2); (go_roundw)
      case rel => first | exact ⟨j + 1, by omega, by go_num, hO'⟩ | ((repeat apply Exists.intro); exact ⟨⟨j + 1, by omega, by go_num, hO'⟩, rfl⟩)
      case measure => simp [intOf]; omega
    · (obtain rfl : j = len := by omega); (have hO' : Hd (OwZ w wr u5 (ren p zs)) := ⟨by have := hO.out; rwa [← hlen.out, List.take_length] at this⟩); (clear hO); (go_wp2); (go_ret); (exact ⟨_, rfl, hO'.out⟩)
set_option maxHeartbeats 400000 in
theorem ints_any (v : Value) (zs : List Int) (k : Nat) (w : World) (hz : RdZ w v zs) : Calls Try.prog 45 #[v, .int .i64 (k : Int)] w fun e w' => (∃ v', e = .returned v' ∧ RdZ w v' (zs.take k)) ∧ w' = w := by
  (obtain ⟨ao, cap, rfl, hcap, hcm⟩ := Rd.shape2 hz); (have hsl := pre_slice ao zs.length cap (min zs.length k) hz.addr (by omega)); (obtain ⟨q1, q2⟩ := minNat zs.length k)
  have hv := hid (show RdZ w (.slice ao (min zs.length k) cap) (zs.take k) from by
    have := hz.take (min zs.length k) (by omega)
    rwa [show zs.take (min zs.length k) = zs.take k by rw [Nat.min_comm]; exact List.take_eq_take_min.symm] at this)
  (have q3 : (if k < zs.length then (k : Int) else (zs.length : Int)) = ((min zs.length k : Nat) : Int) := by split <;> omega); (generalize min zs.length k = m at hsl q1 q2 q3 hv); (clear hz)
  go_enter Try.func45, Try.ntmps45
  (go_wp2); (go_ret); (exact ⟨⟨_, rfl, hv.out⟩, rfl⟩)
end Go.Proofs.Ytkdmlakookgolaa
