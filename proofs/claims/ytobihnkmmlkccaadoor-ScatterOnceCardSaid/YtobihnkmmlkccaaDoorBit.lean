/- The reference's numbers in binary: at, trim, Small, Cmp. -/
import Derived.Test.YtobihnkmmlkccaaDoorBitL
import Derived.Test.YtobihnkmmlkccaaDoorNum
import Derived.Laws.MakeOwn
namespace Go.Proofs.YtobihnkmmlkccaaDoor
open Go.RowKit Go.Mk Go.Bit
theorem TBits : ElemT Tryd.prog 35 4 1 1 := .mk' (z := .bool false) (by kernel_rfl) (by kernel_rfl) (by kernel_rfl) (by decide)
def RdT (w : World) (v : Value) (bs : List Bool) : Prop := Rd w 1 v bs.length (bs.map Value.bool)
theorem RdT.kept {w w' : World} {v : Value} {bs : List Bool} (h : RdT w v bs) (hk : Kept no w w') : RdT w' v bs := Rd.keptNo h hk
theorem RdT.shape {w : World} {v : Value} {bs : List Bool} (h : RdT w v bs) : ∃ ao cap, v = .slice ao bs.length cap ∧ bs.length ≤ cap ∧ cap ≤ maxLen := by
  obtain ⟨_, a, c, e, h1, h2, _⟩ := h; exact ⟨a, c, e, h1, h2⟩
theorem RdT.at {w : World} {ao : Option Addr} {n cap : Nat} {bs : List Bool} (h : RdT w (.slice ao n cap) bs) (k : Nat) (hk : k < bs.length) :
    ∃ b o, ao = some ⟨b, o, none⟩ ∧ w.cell? ⟨b, o + k, none⟩ = some (.bool (at_ bs k)) := by
  obtain ⟨_, _, _, e, h1, _, h | ⟨b, o, rfl, hc⟩⟩ := h
  · cases e; omega
  · cases e
    exact ⟨b, o, rfl, hc k _ (by simp [hk, at_])⟩
theorem T_one (bs : List Bool) : ∀ u ∈ bs.map Value.bool, u.oneCell' = true := fun u hu => by
  obtain ⟨z, _, rfl⟩ := List.mem_map.1 hu; rfl
theorem RdT.take {w : World} {ao : Option Addr} {n cap : Nat} {bs : List Bool} (h : RdT w (.slice ao n cap) bs) (k : Nat) (hk : k ≤ bs.length) : RdT w (.slice ao k cap) (bs.take k) := by
  obtain ⟨hl, _, _, e, h1, h2, h3⟩ := h
  cases e
  have hlk : (bs.take k).length = k := by rw [List.length_take]; omega
  refine ⟨by simp, _, _, by rw [hlk], by omega, by omega, ?_⟩
  rcases h3 with h3 | ⟨b, o, rfl, hc⟩
  · exact .inl h3
  · refine .inr ⟨b, o, rfl, fun j u hj => hc j u ?_⟩
    rw [List.map_take] at hj
    have := List.getElem?_take (l := bs.map Value.bool) (i := k) (j := j)
    rw [this] at hj
    split at hj
    · exact hj
    · cases hj
theorem RdT.nil (w : World) : RdT w (.slice none 0 0) [] := Rd.of_own (World.ownsRow_nil w 0 4 1)
/-- A list of bits of one's own. -/
structure OwT (w w' : World) (v : Value) (bs : List Bool) : Prop where
  own : w'.ownsRow 0 4 1 v bs.length (bs.map Value.bool)
  kept : Kept no w w'
  new : New w v
theorem OwT.rd {w w' : World} {v : Value} {bs : List Bool} (h : OwT w w' v bs) : RdT w' v bs := Rd.of_own h.own
theorem OwT.keptNo {w w' w2 : World} {v : Value} {bs : List Bool} (h : OwT w w' v bs) (k : Kept no w' w2) : OwT w w2 v bs := ⟨k.ownsRow h.own fun _ _ => id, h.kept.trans' k, h.new⟩
theorem OwT.nil (w : World) : OwT w w (.slice none 0 0) [] := ⟨World.ownsRow_nil _ _ _ _, Kept.refl _ _, .inl rfl⟩
theorem newOrNil {w : World} {v : Value} (h : NewOr w (.slice none 0 0) v) : New w v := by
  rcases h with h | ⟨j, h1, h2⟩
  · exact .inl h
  · exact .inr ⟨j, h1, h2⟩
theorem New.older {w w1 : World} {v : Value} (h : New w1 v) (hs : w.heap.size ≤ w1.heap.size) : New w v := by
  rcases h with h | ⟨j, h1, h2⟩
  · exact .inl h
  · exact .inr ⟨j, h1, by omega⟩
theorem OwT.from_ {w0 w w' : World} {v : Value} {bs : List Bool} (h : OwT w w' v bs) (k : Kept no w0 w) : OwT w0 w' v bs := ⟨h.own, k.trans' h.kept, h.new.older k.size⟩
/-- One bit more. -/
theorem OwT.add {w w1 w2 : World} {v v' : Value} {bs : List Bool} (h : OwT w w1 v bs) (x : Bool) (ho : w2.ownsRow 0 4 1 v' (bs.length + 1) (bs.map Value.bool ++ [.bool x])) (hk : Kept (ob v) w1 w2) (hn : NewOr w1 v v') : OwT w w2 v' (bs ++ [x]) :=
  ⟨by rw [List.length_append, List.map_append]; exact ho, h.new.kept h.kept hk, h.new.step hn h.kept.size⟩
theorem RdT.addr {w : World} {av : Option Addr} {lv cv : Nat} {zs : List Bool} (h : RdT w (.slice av lv cv) zs) : cv = 0 ∨ ∃ b o, av = some ⟨b, o, none⟩ := by
  obtain ⟨_, _, _, e, _, _, h | ⟨b, o, rfl, _⟩⟩ := h
  · cases e; exact .inl h
  · cases e; exact .inr ⟨b, o, rfl⟩
theorem pre_sliceT (av : Option Addr) (lv cv m : Nat) (hav : cv = 0 ∨ ∃ b o, av = some ⟨b, o, none⟩) (hm : m ≤ cv) (w : World) : (Instr.slice 35 (.slice av lv cv) none (some (.int .i64 (m : Int))) none).run Tryd.prog w = .ok (.slice av m cv) w := by
  have h0 : (0 : Int) ≤ (m : Int) := by omega
  have hc : Tryd.prog.underlying 35 = some (.slice 4) := by kernel_rfl
  rcases hav with rfl | ⟨b, o, rfl⟩
  · obtain rfl : m = 0 := by omega
    simp [Instr.slice, Instr.sliceBounds, Instr.sliceBound, run_underlying hc, asIntOf]
  · simp [Instr.slice, Instr.sliceBounds, Instr.sliceBound, run_underlying hc, asIntOf, h0]
    have e : (⟨b, o, none⟩ : Addr).add 0 = ⟨b, o, none⟩ := by simp [Addr.add]
    rw [if_pos hm, e]; simp
theorem Kept.ob_nil' {w w' : World} (h : Kept (ob (.slice none 0 0)) w w') : Kept no w w' := h.mono fun _ _ e => by simp [ob, Value.ownBlock] at e
set_option maxHeartbeats 1000000 in
theorem at_any (v : Value) (bs : List Bool) (i : Nat) (w : World) (hr : RdT w v bs) : Calls Tryd.prog 33 #[v, .int .i64 (i : Int)] w fun e w' => e = .returned (.bool (at_ bs i)) ∧ w' = w := by
  obtain ⟨ao, cap, rfl, hcap, hcm⟩ := hr.shape
  have hi0 : (0 : Int) ≤ (i : Int) := by omega
  by_cases hlt : i < bs.length
  · obtain ⟨b, o, rfl, c0⟩ := hr.at i hlt
    have hi1 : (i : Int) < (bs.length : Int) := by omega
    generalize at_ bs i = x at c0 ⊢
    generalize bs.length = l at hi1 hcap ⊢
    clear hr hlt
    go_enter Tryd.func33, Tryd.ntmps33
    go_wp2
    go_ret
    exact ⟨rfl, rfl⟩
  · have hv : at_ bs i = false := by unfold at_; rw [List.getD_eq_getElem?_getD, List.getElem?_eq_none (by omega)]; rfl
    have hi1 : ¬ (i : Int) < (bs.length : Int) := by omega
    rw [hv]
    generalize bs.length = l at hi1 hcap ⊢
    clear hr hlt hv
    go_enter Tryd.func33, Tryd.ntmps33
    go_wp2
    go_ret
    exact ⟨rfl, rfl⟩
set_option maxHeartbeats 1000000 in
theorem trim_any (v : Value) (bs : List Bool) (w : World) (hl : bs.length ≤ 1000000) (hr : RdT w v bs) : Calls Tryd.prog 24 #[v] w fun e w' => ∃ v', e = .returned v' ∧ OwT w w' v' (trimB bs) := by
  obtain ⟨ao, cap, rfl, hcap, hcm⟩ := hr.shape
  have hm63 : maxLen = 9223372036854775807 := rfl
  obtain ⟨res, hres⟩ : ∃ res, trimB bs = res := ⟨_, rfl⟩
  rw [hres]
  unfold trimB at hres
  obtain ⟨len, hlen⟩ : ∃ len, bs.length = len := ⟨_, rfl⟩
  rw [hlen] at hr hcap hl hres ⊢
  replace hres := hid hres
  replace hr := hid hr
  replace hlen := hid hlen
  go_enter Tryd.func24, Tryd.ntmps24
  go_wp2
  go_loopw [3] (fun i wr => ∃ (k : Nat), k ≤ len ∧ i = .int .i64 (k : Int) ∧ Hd (bs.take (trimN bs k) = res) ∧ wr = w) (fun i _ => (intOf i).toNat)
  case atStart => exact ⟨len, by omega, rfl, hres, rfl⟩
  case round =>
    obtain ⟨k, hk, rfl, ht, rfl⟩ := hrel
    have haddr := hr.out.addr
    have hb1 : Hd (k ≤ maxLen ∧ k * 1 ≤ 140737488355328) := ⟨by rw [hm63]; omega⟩
    cases k with
    | zero =>
      have ht' : Hd (bs.take 0 = res) := ⟨by have := ht.out; unfold trimN at this; exact this⟩
      have hsl := pre_sliceT ao len cap 0 haddr (by omega)
      rw [show ((0 : Nat) : Int) = 0 from rfl] at hsl
      have hrk := hid (hr.out.take 0 (by omega))
      have htl : Hd ((bs.take 0).length = 0) := ⟨by simp⟩
      generalize bs.take 0 = tk at hrk htl ht'
      clear ht
      have hown : Hd (∀ W : World, W.ownsRow 0 4 1 (.slice none 0 0) 0 []) := ⟨fun W => World.ownsRow_nil _ _ _ _⟩
      go_wp2_with (at_builtin; refine wpList_append _ rfl _ _ 35 rfl 4 1 1 TBits _ _ _ rfl (hown.out _) _ _ _ rfl hrk.out (T_one _) ?c1 ?c2 ?_)
      case c1 => rw [Nat.zero_add, htl.out]; exact hb1.out.1
      case c2 => rw [Nat.zero_add, htl.out]; exact hb1.out.2
      intro v' w2 h2 h3 h4 _
      try rw [Nat.zero_add, List.nil_append] at h2
      have hO : Hd (OwT wr w2 v' res) := ⟨by rw [← ht'.out]; exact ⟨h2, Kept.ob_nil' h3, newOrNil h4⟩⟩
      clear h2 h3 h4 hown hrk htl
      go_wp2
      go_ret
      exact ⟨_, rfl, hO.out⟩
    | succ k =>
      have hkl : k < len := by omega
      obtain ⟨b, o, rfl, c0⟩ := hr.out.at k (by rw [hlen.out]; omega)
      have e1 : ((k + 1 : Nat) : Int) = (k : Int) + 1 := by omega
      have hwk : IntKind.i64.wrap ((k : Int) + 1 - 1) = (k : Int) := by rw [IntWalk.i64_in _ (by omega)]; omega
      have hk0 : (0 : Int) < (k : Int) + 1 := by omega
      have hk1 : (k : Int) < (len : Int) := by omega
      have hk00 : (0 : Int) ≤ (k : Int) := by omega
      rw [e1]
      cases hb : at_ bs k with
      | true =>
        rw [hb] at c0
        have ht' : Hd (bs.take (k + 1) = res) := ⟨by have := ht.out; unfold trimN at this; rw [if_pos hb] at this; exact this⟩
        have hsl := pre_sliceT (some ⟨b, o, none⟩) len cap (k + 1) haddr (by omega)
        rw [e1] at hsl
        have hrk := hid (hr.out.take (k + 1) (by rw [hlen.out]; omega))
        have htl : Hd ((bs.take (k + 1)).length = k + 1) := ⟨by rw [List.length_take, hlen.out]; omega⟩
        generalize bs.take (k + 1) = tk at hrk htl ht'
        clear ht hb haddr
        have hown : Hd (∀ W : World, W.ownsRow 0 4 1 (.slice none 0 0) 0 []) := ⟨fun W => World.ownsRow_nil _ _ _ _⟩
        go_wp2_with (at_builtin; refine wpList_append _ rfl _ _ 35 rfl 4 1 1 TBits _ _ _ rfl (hown.out _) _ _ _ rfl hrk.out (T_one _) ?c1 ?c2 ?_)
        case c1 => rw [Nat.zero_add, htl.out]; exact hb1.out.1
        case c2 => rw [Nat.zero_add, htl.out]; exact hb1.out.2
        intro v' w2 h2 h3 h4 _
        try rw [Nat.zero_add, List.nil_append] at h2
        have hO : Hd (OwT wr w2 v' res) := ⟨by rw [← ht'.out]; exact ⟨h2, Kept.ob_nil' h3, newOrNil h4⟩⟩
        clear h2 h3 h4 hown hrk htl
        go_wp2
        go_ret
        exact ⟨_, rfl, hO.out⟩
      | false =>
        rw [hb] at c0
        have ht' : Hd (bs.take (trimN bs k) = res) := ⟨by have := ht.out; unfold trimN at this; rw [if_neg (by rw [hb]; decide)] at this; exact this⟩
        clear ht hb haddr
        go_wp2
        go_roundw
        case rel => exact ⟨k, by omega, rfl, ht', trivial⟩
        case measure => simp [intOf]
end Go.Proofs.YtobihnkmmlkccaaDoor
