/- The reference's numbers in binary: Small, Cmp, Sub. -/
import Derived.Test.YtobihnkmmlkccaaDoorBit
namespace Go.Proofs.YtobihnkmmlkccaaDoor
open Go.RowKit Go.Mk Go.Bit
set_option maxHeartbeats 1000000 in
theorem small_any (n : Nat) (w : World) (hn : n ≤ 1000000) : Calls Tryd.prog 15 #[.int .i64 (n : Int)] w fun e w' => ∃ v', e = .returned v' ∧ OwT w w' v' (smallF 64 n) := by
  obtain ⟨res, hres⟩ : ∃ res, smallF 64 n = res := ⟨_, rfl⟩
  rw [hres]
  replace hres := hid hres
  go_enter Tryd.func15, Tryd.ntmps15
  go_wp2
  go_loopw [0, 3] (fun i out wr => ∃ (m f : Nat) (l : List Bool), m ≤ 1000000 ∧ i = .int .i64 (m : Int) ∧ Hd (l ++ smallF f m = res) ∧ Hd (m < 2 ^ f) ∧ Hd (l.length + f ≤ 64) ∧ Hd (OwT w wr out l)) (fun i _ _ => (intOf i).toNat)
  case atStart => exact ⟨n, 64, [], hn, rfl, ⟨by rw [List.nil_append]; exact hres.out⟩, ⟨by omega⟩, ⟨by simp⟩, ⟨OwT.nil w⟩⟩
  case round =>
    obtain ⟨m, f, l, hm, rfl, hr, hf, hl, hO⟩ := hrel
    have hm00 : (0 : Int) ≤ (m : Int) := by omega
    by_cases h0 : m = 0
    · subst h0
      have hv : Hd (OwT w wr u3 res) := ⟨by
        have h1 := hr.out
        have h2 : smallF f 0 = [] := by cases f <;> simp [smallF]
        rw [h2, List.append_nil] at h1
        rw [← h1]; exact hO.out⟩
      clear hr hf hl hO hres
      go_wp2
      go_ret
      exact ⟨_, rfl, hv.out⟩
    · obtain ⟨f, rfl⟩ : ∃ g, f = g + 1 := by
        cases f with
        | zero => have := hf.out; simp at this; omega
        | succ g => exact ⟨g, rfl⟩
      have hpos : (0 : Int) < (m : Int) := by omega
      have hbit : Hd (((m : Int) % 2 == 1) = (m % 2 == 1)) := ⟨by rw [show ((m : Int) % 2) = ((m % 2 : Nat) : Int) by omega]; rcases Nat.mod_two_eq_zero_or_one m with h | h <;> rw [h] <;> rfl⟩
      have hdiv : Hd (((m : Int) / 2) = ((m / 2 : Nat) : Int)) := ⟨by omega⟩
      have hr2 : Hd ((l ++ [m % 2 == 1]) ++ smallF f (m / 2) = res) := ⟨by have := hr.out; unfold smallF at this; rw [if_neg h0] at this; simpa using this⟩
      have hf2 : Hd (m / 2 < 2 ^ f) := ⟨by have := hf.out; rw [Nat.pow_succ] at this; omega⟩
      have hl2 : Hd ((l ++ [m % 2 == 1]).length + f ≤ 64) := ⟨by have := hl.out; rw [List.length_append, List.length_singleton]; omega⟩
      have hb1 : Hd (l.length + 1 ≤ maxLen ∧ (l.length + 1) * 1 ≤ 140737488355328) := ⟨by have := hl.out; have hm : maxLen = 9223372036854775807 := rfl; omega⟩
      have hm2 : m / 2 ≤ 1000000 := by omega
      have hlt : m / 2 < m := by omega
      generalize (m % 2 == 1) = x at hbit hr2 hl2
      generalize m / 2 = m2 at hdiv hr2 hf2 hm2 hlt
      clear hr hf hl h0
      go_wp2_with (at_builtin; refine wpList_append_lit _ rfl _ _ 35 rfl 4 1 1 TBits _ _ _ rfl hO.out.own 1 [_] rfl rfl ?c1 ?c2 ?c3 ?_)
      case c1 => simp [Value.oneCell']
      case c2 => exact hb1.out.1
      case c3 => exact hb1.out.2
      intro v' w2 h2 h3 h4 _
      rw [hbit.out] at h2
      have hO2 := hid (hO.out.add x h2 h3 h4)
      clear h2 h3 h4 hO hb1
      go_wp2
      go_roundw
      case rel => first | exact ⟨m2, f, _, hm2, congrArg (Value.int .i64) hdiv.out, hr2, hf2, hl2, hO2⟩ | ((repeat apply Exists.intro); exact ⟨⟨m2, f, _, hm2, congrArg (Value.int .i64) hdiv.out, hr2, hf2, hl2, hO2⟩, rfl⟩)
      case measure => simp [intOf]; omega
set_option maxHeartbeats 2000000 in
theorem cmp_any (va vb : Value) (a b : List Bool) (w : World) (hla : a.length ≤ 1000000) (hlb : b.length ≤ 1000000) (ha : RdT w va a) (hb : RdT w vb b) : Calls Tryd.prog 25 #[va, vb] w fun e w' => e = .returned (.int .i64 (cmpB a b)) ∧ w' = w := by
  obtain ⟨aa, ca, rfl, hca, hcam⟩ := ha.shape
  obtain ⟨ab, cb, rfl, hcb, hcbm⟩ := hb.shape
  obtain ⟨res, hres⟩ : ∃ res, cmpB a b = res := ⟨_, rfl⟩
  rw [hres]
  unfold cmpB at hres
  obtain ⟨la, hla'⟩ : ∃ l, a.length = l := ⟨_, rfl⟩
  obtain ⟨lb, hlb'⟩ : ∃ l, b.length = l := ⟨_, rfl⟩
  rw [hla'] at ha hca hla hres ⊢
  rw [hlb'] at hb hcb hlb hres ⊢
  obtain ⟨M, hM⟩ : ∃ M, max la lb = M := ⟨_, rfl⟩
  rw [hM] at hres
  have hmax1 : max (la : Int) (lb : Int) = (M : Int) := by omega
  have hmax2 : (if (la : Int) < (lb : Int) then (lb : Int) else (la : Int)) = (M : Int) := by split <;> omega
  have hmax3 : (if la < lb then (lb : Int) else (la : Int)) = (M : Int) := by split <;> omega
  have hM1 : M ≤ 1000000 := by omega
  have hMw : IntKind.i64.wrap ((M : Int) - 1) = (M : Int) - 1 := IntWalk.i64_in _ (by omega)
  have HA := hid (fun (i : Nat) => at_any _ a i w ha)
  have HB := hid (fun (i : Nat) => at_any _ b i w hb)
  replace hres := hid hres
  clear ha hb hla' hlb' hM
  go_enter Tryd.func25, Tryd.ntmps25
  go_wp2
  go_loopw [5] (fun i wr => ∃ (k : Nat), k ≤ M ∧ i = .int .i64 ((k : Int) - 1) ∧ Hd (cmpN a b k = res) ∧ wr = w) (fun i _ => (intOf i + 1).toNat)
  case atStart => exact ⟨M, by omega, rfl, hres, rfl⟩
  case round =>
    obtain ⟨k, hk, rfl, ht, rfl⟩ := hrel
    cases k with
    | zero =>
      have hv : res = 0 := by have := ht.out; unfold cmpN at this; exact this.symm
      subst hv
      clear ht hres HA HB
      go_wp2
      go_ret
      exact ⟨rfl, rfl⟩
    | succ k =>
      have e1 : ((k + 1 : Nat) : Int) - 1 = (k : Int) := by omega
      have hk0 : (0 : Int) ≤ (k : Int) := by omega
      have hkM : k ≤ 1000000 := by omega
      have hwk : IntKind.i64.wrap ((k : Int) - 1) = (k : Int) - 1 := IntWalk.i64_in _ (by omega)
      rw [e1]
      have H1 := HA.out k
      have H2 := HB.out k
      have hs : cmpN a b (k + 1) = (if at_ a k = at_ b k then cmpN a b k else if at_ a k = true then 1 else -1) := rfl
      have hr := ht.out
      rw [hs] at hr
      clear ht hs hres
      cases hx : at_ a k <;> cases hy : at_ b k <;> rw [hx] at H1 <;> rw [hy] at H2 <;> rw [hx, hy] at hr
      all_goals replace H1 := hid H1
      all_goals replace H2 := hid H2
      all_goals clear hx hy
      case false.false =>
        have hr2 : Hd (cmpN a b k = res) := ⟨by rw [if_pos rfl] at hr; exact hr⟩
        clear hr
        go_wp2_with fail
        refine H1.out.mono ?_
        rintro e y ⟨rfl, rfl⟩
        go_wp2_with fail
        refine H2.out.mono ?_
        rintro e y ⟨rfl, rfl⟩
        go_wp2
        go_roundw
        case rel => exact ⟨k, by omega, rfl, hr2, trivial⟩
        case measure => simp [intOf]
      case true.true =>
        have hr2 : Hd (cmpN a b k = res) := ⟨by rw [if_pos rfl] at hr; exact hr⟩
        clear hr
        go_wp2_with fail
        refine H1.out.mono ?_
        rintro e y ⟨rfl, rfl⟩
        go_wp2_with fail
        refine H2.out.mono ?_
        rintro e y ⟨rfl, rfl⟩
        go_wp2
        go_roundw
        case rel => exact ⟨k, by omega, rfl, hr2, trivial⟩
        case measure => simp [intOf]
      case true.false =>
        obtain rfl : res = 1 := by rw [if_neg (by decide), if_pos rfl] at hr; exact hr.symm
        clear hr
        go_wp2_with fail
        refine H1.out.mono ?_
        rintro e y ⟨rfl, rfl⟩
        go_wp2_with fail
        refine H2.out.mono ?_
        rintro e y ⟨rfl, rfl⟩
        go_wp2_with fail
        refine H1.out.mono ?_
        rintro e y ⟨rfl, rfl⟩
        go_wp2
        go_ret
        exact ⟨rfl, rfl⟩
      case false.true =>
        obtain rfl : res = -1 := by rw [if_neg (by decide), if_neg (by decide)] at hr; exact hr.symm
        clear hr
        go_wp2_with fail
        refine H1.out.mono ?_
        rintro e y ⟨rfl, rfl⟩
        go_wp2_with fail
        refine H2.out.mono ?_
        rintro e y ⟨rfl, rfl⟩
        go_wp2_with fail
        refine H1.out.mono ?_
        rintro e y ⟨rfl, rfl⟩
        go_wp2
        go_ret
        exact ⟨rfl, rfl⟩
end Go.Proofs.YtobihnkmmlkccaaDoor
