/- The reference's First (printed by gen_cnt3.py), Kept, Prefers of both packages, Total and Marked. -/
import Derived.Test.YtmigdhbolbhbeaaCnt2
namespace Go.Pil
theorem nodup_len : ∀ (m : Nat) (p : List Int), p.Nodup → (∀ x ∈ p, 0 ≤ x ∧ x < (m : Int)) → p.length ≤ m := by
  intro m
  induction m with
  | zero => intro p _ h; cases p with | nil => simp | cons x l => have := h x (by simp); omega
  | succ m ih =>
    intro p hp h
    have h1 := ih (p.erase (m : Int)) (hp.erase _) fun x hx => by
      have := h x (List.mem_of_mem_erase hx)
      have hne : x ≠ (m : Int) := fun e => by subst e; exact (List.Nodup.not_mem_erase hp) hx
      omega
    have h2 := List.length_erase_le (a := (m : Int)) (l := p)
    by_cases hm : (m : Int) ∈ p
    · have := List.length_erase_of_mem hm; omega
    · rw [List.erase_of_not_mem hm] at h1; omega
theorem ballot_len {n : Int} {p : List Int} (h : ballot n p = true) (hn : n ≤ 7) : p.length ≤ 7 := by
  unfold ballot at h
  have h := of_decide_eq_true h
  exact nodup_len 7 p h.1 fun x hx => by have := h.2 x hx; omega
end Go.Pil
namespace Go.Proofs.Ytmigdhbolbhbeaa
open Go.RowKit Go.Mk Go.Pil
set_option maxRecDepth 20000 in
set_option maxHeartbeats 1000000 in
theorem kept_any (vz : Value) (zs : List Int) (v : Value) (bs : List Bool) (w : World) (hz : RdZ w vz zs) (hr : RdT w v bs) (hl : zs.length ≤ 1000000) : Calls Try.prog 59 #[vz, v] w fun e w' => ∃ v', e = .returned v' ∧ OwZ w w' v' (kept bs zs) := by
  obtain ⟨ao, cap, rfl, hcap, hcm⟩ := Rd.shape2 hz
  obtain ⟨ab, cb, rfl, hcb, hcbm⟩ := Rd.shape2 hr
  have hm63 := maxLen_63
  replace hz := hid hz
  replace hr := hid hr
  go_enter Try.func59, Try.ntmps59
  go_wp2
  go_loopw [5, 6] (fun out i wr => ∃ (k : Nat), k ≤ zs.length ∧ i = .int .i64 (k : Int) ∧ Hd (OwZ w wr out (kept bs (zs.take k)))) (fun _ i _ => zs.length - (intOf i).toNat)
  case atStart => exact ⟨0, by omega, rfl, ⟨OwZ.nil w⟩⟩
  case round =>
    obtain ⟨k, hk, rfl, hO⟩ := hrel
    by_cases hlt : k < zs.length
    · obtain ⟨b, o, rfl, hc⟩ := (hz.out.kept hO.out.kept).at k hlt
      have hk1 : (k : Int) < (zs.length : Int) := by omega
      have hk0 : (0 : Int) ≤ (k : Int) := by omega
      have hkt := hid (kept_take (remain := bs) hlt)
      have hkl := hid (kept_len bs (zs.take k))
      generalize zs.getD k 0 = z at hc hkt
      have HI := hid (in_any (.slice ab bs.length cb) bs z wr (hr.out.kept hO.out.kept))
      cases he : inB bs z with
      | false =>
        rw [he] at HI hkt
        have hO' : Hd (OwZ w wr u5 (kept bs (zs.take (k + 1)))) := ⟨by rw [hkt.out, if_neg (by decide), List.append_nil]; exact hO.out⟩
        clear he hO hkt hkl
        go_wp2_with fail
        refine HI.out.mono ?_
        rintro e w1 ⟨rfl, rfl⟩
        clear HI
        go_wp2
        go_roundw
        case rel => first | exact ⟨k + 1, by omega, by go_num, hO'⟩ | ((repeat apply Exists.intro); exact ⟨⟨k + 1, by omega, by go_num, hO'⟩, rfl⟩)
        case measure => simp [intOf]; omega
      | true =>
        rw [he] at HI hkt
        have hl1 : Hd ((kept bs (zs.take k)).length + 1 ≤ maxLen ∧ ((kept bs (zs.take k)).length + 1) * 8 ≤ 140737488355328) := ⟨by
          have := hkl.out; rw [List.length_take] at this; have hm : maxLen = 9223372036854775807 := rfl; omega⟩
        clear he hkl
        go_wp2_with fail
        refine HI.out.mono ?_
        rintro e w1 ⟨rfl, rfl⟩
        clear HI
        go_wp2_with (at_builtin; refine wpList_append_lit _ rfl _ _ 36 rfl 3 1 8 TInts _ _ _ rfl hO.out.own 1 [_] rfl rfl ?c1 ?c2 ?c3 ?_)
        case c1 => simp [Value.oneCell']
        case c2 => exact hl1.out.1
        case c3 => exact hl1.out.2
        intro v' w2 h2 h3 h4 _
        have hO' : Hd (OwZ w w2 v' (kept bs (zs.take (k + 1)))) := ⟨by rw [hkt.out]; simp only [if_true]; exact hO.out.add z h2 h3 h4⟩
        clear h2 h3 h4 hO hkt hl1 hc
        go_wp2
        go_roundw
        case rel => first | exact ⟨k + 1, by omega, by go_num, hO'⟩ | ((repeat apply Exists.intro); exact ⟨⟨k + 1, by omega, by go_num, hO'⟩, rfl⟩)
        case measure => simp [intOf]; omega
    · obtain rfl : k = zs.length := by omega
      have hO' : Hd (OwZ w wr u5 (kept bs zs)) := ⟨by have := hO.out; rwa [List.take_length] at this⟩
      clear hO
      go_wp2
      go_ret
      exact ⟨_, rfl, hO'.out⟩
end Go.Proofs.Ytmigdhbolbhbeaa
