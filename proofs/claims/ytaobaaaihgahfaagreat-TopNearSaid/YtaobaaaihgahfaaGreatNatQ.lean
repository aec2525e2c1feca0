/- Natural numbers of one limb: lists of limbs in memory; nat.trim, slices.Clone, nat.Norm, nat.Of. -/
import Derived.Test.YtaobaaaihgahfaaGreatGrpQ
import Derived.Test.YtaobaaaihgahfaaGreatCntQ
import Derived.Lib.BitFns
import Derived.Shelf.Small.Bits
namespace Go.Nt
/-- A limb. -/
def N32 (x : Nat) : Value := .int .u32 (x : Int)
theorem N32_one (l : List Nat) : ∀ u ∈ l.map N32, u.oneCell' = true := fun u hu => by
  obtain ⟨z, _, rfl⟩ := List.mem_map.1 hu
  rfl
/-- The limbs of a number of one limb. -/
def nl (x : Nat) : List Nat := if x = 0 then [] else [x]
theorem nl_pos {x : Nat} (h : x ≠ 0) : nl x = [x] := if_neg h
/-- How many limbs are left without the zeros at the end of the first k. -/
def trK (l : List Nat) : Nat → Nat
  | 0 => 0
  | k + 1 => if l.getD k 0 = 0 then trK l k else k + 1
def trimN (l : List Nat) : List Nat := l.take (trK l l.length)
theorem trim_nl (x : Nat) : trimN (nl x) = nl x := by
  unfold nl
  split
  · rfl
  · rename_i h
    unfold trimN
    simp [trK, h]
theorem trim_one (x : Nat) : trimN [x] = nl x := by
  unfold nl trimN
  by_cases h : x = 0 <;> simp [trK, h]
theorem trim_two (x : Nat) : trimN [x, 0] = nl x := by
  unfold nl trimN
  by_cases h : x = 0 <;> simp [trK, h]
end Go.Nt
namespace Go.Proofs.YtaobaaaihgahfaaGreat
open Go.RowKit Go.Mk Go.Pil Go.Nt
theorem TNat : ElemT Tryz.prog 74 202 1 4 := .mk' (z := .int .u32 0) (by kernel_rfl) (by kernel_rfl) (by kernel_rfl) (by decide)
def RdU (w : World) (v : Value) (l : List Nat) : Prop := Rd w 1 v l.length (l.map N32)
theorem RdU.nil (w : World) : RdU w (.slice none 0 0) [] := ⟨rfl, none, 0, rfl, Nat.le_refl _, Nat.zero_le _, .inl rfl⟩
theorem RdU.kept {w w' : World} {v : Value} {l : List Nat} (h : RdU w v l) (k : Kept no w w') : RdU w' v l := Rd.keptNo h k
theorem RdU.shape {w : World} {v : Value} {l : List Nat} (h : RdU w v l) : ∃ a c, v = .slice a l.length c := by
  (obtain ⟨_, a, c, e, _⟩ := h); (exact ⟨a, c, e⟩)
theorem RdU.take {w : World} {ao : Option Addr} {n cap : Nat} {zs : List Nat} (h : RdU w (.slice ao n cap) zs) (k : Nat) (hk : k ≤ zs.length) : RdU w (.slice ao k cap) (zs.take k) := by
  obtain ⟨hl, _, _, e, h1, h2, h3⟩ := h
  cases e
  (have hlk : (zs.take k).length = k := by rw [List.length_take]; omega); (refine ⟨by simp, ao, cap, by rw [hlk], by omega, h2, h3.imp id fun ⟨b, o, e, hc⟩ => ⟨b, o, e, fun j u hj => hc j u ?_⟩⟩); (rw [List.map_take, List.getElem?_take] at hj)
  split at hj
  · exact hj
  · cases hj
theorem RdU.at {w : World} {ao : Option Addr} {n cap : Nat} {zs : List Nat} (h : RdU w (.slice ao n cap) zs) (k : Nat) (hk : k < zs.length) :
    ∃ b o, ao = some ⟨b, o, none⟩ ∧ w.cell? ⟨b, o + k, none⟩ = some (.int .u32 (zs.getD k 0 : Int)) := by
  obtain ⟨_, _, _, e, h1, _, h | ⟨b, o, rfl, hc⟩⟩ := h
  · cases e; omega
  · cases e
    (refine ⟨b, o, rfl, hc k _ ?_⟩); (rw [List.getElem?_map, List.getElem?_eq_getElem hk, List.getD_eq_getElem?_getD, List.getElem?_eq_getElem hk]; rfl)
theorem RdU.addr {w : World} {ao : Option Addr} {n cap : Nat} {zs : List Nat} (h : RdU w (.slice ao n cap) zs) : cap = 0 ∨ ∃ b o, ao = some ⟨b, o, none⟩ := by
  obtain ⟨_, _, _, e, _, _, h | ⟨b, o, rfl, _⟩⟩ := h
  · cases e; exact .inl h
  · cases e; exact .inr ⟨b, o, rfl⟩
/-- A number of one limb that can be read. -/
def RdX (w : World) (v : Value) (x : Nat) : Prop := RdU w v (nl x)
/-- Limbs of one's own. -/
structure OwU (w w' : World) (v : Value) (l : List Nat) : Prop where
  own : w'.ownsRow 0 202 1 v l.length (l.map N32)
  kept : Kept no w w'
  new : New w v
theorem OwU.rd {w w' : World} {v : Value} {l : List Nat} (h : OwU w w' v l) : RdU w' v l := Rd.of_own h.own
theorem OwU.keptNo {w w' w2 : World} {v : Value} {l : List Nat} (h : OwU w w' v l) (k : Kept no w' w2) : OwU w w2 v l := ⟨k.ownsRow h.own fun _ _ => id, h.kept.trans' k, h.new⟩
theorem OwU.nil (w : World) : OwU w w (.slice none 0 0) [] := ⟨World.ownsRow_nil _ _ _ _, Kept.refl _ _, .inl rfl⟩
theorem OwU.from_ {w0 w w' : World} {v : Value} {l : List Nat} (h : OwU w w' v l) (k : Kept no w0 w) : OwU w0 w' v l := ⟨h.own, k.trans' h.kept, h.new.of k.size⟩
theorem pre_sliceU (av : Option Addr) (lv cv m : Nat) (hav : cv = 0 ∨ ∃ b o, av = some ⟨b, o, none⟩) (hm : m ≤ cv) (w : World) : (Instr.slice 74 (.slice av lv cv) none (some (.int .i64 (m : Int))) none).run Tryz.prog w = .ok (.slice av m cv) w := by
  (have h0 : (0 : Int) ≤ (m : Int) := by omega); (have hc : Tryz.prog.underlying 74 = some (.slice 202) := by kernel_rfl)
  rcases hav with rfl | ⟨b, o, rfl⟩
  · obtain rfl : m = 0 := by omega
    simp [Instr.slice, Instr.sliceBounds, Instr.sliceBound, run_underlying hc, asIntOf]
  · simp [Instr.slice, Instr.sliceBounds, Instr.sliceBound, run_underlying hc, asIntOf, h0]
    (have e : (⟨b, o, none⟩ : Addr).add 0 = ⟨b, o, none⟩ := by simp [Addr.add]); (rw [if_pos hm, e]; simp)
set_option maxRecDepth 20000 in
set_option maxHeartbeats 1000000 in
theorem trim_any (v : Value) (l : List Nat) (w : World) (hr : RdU w v l) : Calls Tryz.prog 205 #[v] w fun e w' => ∃ v', e = .returned v' ∧ RdU w' v' (trimN l) ∧ Kept no w w' := by
  (obtain ⟨ao, cap, rfl⟩ := hr.shape); (have hcap : l.length ≤ cap := by obtain ⟨_, _, _, e, h1, _⟩ := hr; cases e; exact h1)
  have hm63 : l.length < 9223372036854775807 + 1 := by
    obtain ⟨_, _, _, e, h1, h2, _⟩ := hr
    cases e
    have : maxLen = 9223372036854775807 := rfl
    omega
  (have hav := hid hr.addr); (obtain ⟨n, hn⟩ : ∃ n, l.length = n := ⟨_, rfl⟩); (have hrn : Hd (RdU w (.slice ao n cap) l) := ⟨by rw [← hn]; exact hr⟩); (rw [hn] at hcap hm63 ⊢); (replace hn := hid hn); (clear hr)
  go_enter Tryz.func205, Tryz.ntmps205
  go_wp2
  go_loopw [3] (fun i wr => ∃ k : Nat, k ≤ n ∧ i = .int .i64 (k : Int) ∧ Hd (trK l k = trK l n) ∧ Hd (Kept no w wr)) (fun i _ => (intOf i).toNat)
  case atStart => exact ⟨n, by omega, rfl, ⟨rfl⟩, ⟨Kept.refl _ _⟩⟩
  case round =>
    obtain ⟨k, hk, rfl, ht, hW⟩ := hrel
    cases k with
    | zero =>
      (have hv : Hd (trimN l = []) := ⟨by unfold trimN; rw [hn.out, ← ht.out]; rfl⟩); (have e0 : ((0 : Nat) : Int) = 0 := rfl); (rw [e0]); (clear ht); (go_wp2); (go_ret); (exact ⟨_, rfl, by rw [hv.out]; exact RdU.nil _, hW.out⟩)
    | succ k =>
      (have hkl : k < l.length := by rw [hn.out]; omega); (obtain ⟨b, o, rfl, hc⟩ := (hrn.out.kept hW.out).at k hkl); (have e1 : ((k + 1 : Nat) : Int) = (k : Int) + 1 := by omega); (have hw1 : IntKind.i64.wrap ((k : Int) + 1 - 1) = (k : Int) := by rw [show (k : Int) + 1 - 1 = (k : Int) by omega]; exact IntWalk.i64_in _ (by omega)); (have h0 : (0 : Int) < (k : Int) + 1 := by omega); (have h00 : (0 : Int) ≤ (k : Int) := by omega); (have hk1 : (k : Int) < (n : Int) := by omega); (rw [e1]); (have hkt : Hd (l.getD k 0 = 0 → trK l k = trK l n) := ⟨fun hz => by rw [← ht.out, trK, if_pos hz]⟩); (have hks : Hd (l.getD k 0 ≠ 0 → trimN l = l.take (k + 1)) := ⟨fun hz => by unfold trimN; rw [hn.out, ← ht.out, trK, if_neg hz]⟩); (have hR := hid ((hrn.out.kept hW.out).take (k + 1) (by rw [hn.out]; omega))); (have hsl := pre_sliceU (some ⟨b, o, none⟩) n cap (k + 1) (.inr ⟨b, o, rfl⟩) (by omega)); (rw [e1] at hsl); (obtain ⟨z, hz⟩ : ∃ z, l.getD k 0 = z := ⟨_, rfl⟩); (rw [hz] at hkt hks hc); (clear ht hz hav)
      by_cases hz : z = 0
      · (subst hz); (have ht2 := hid (hkt.out rfl)); (have hc : wr.cell? ⟨b, o + k, none⟩ = some (.int .u32 0) := hc); (clear hkt hks hR hsl); (go_wp2); (go_roundw)
        case rel => first | exact ⟨k, by omega, by go_num, ht2, hW⟩ | ((repeat apply Exists.intro); exact ⟨⟨k, by omega, by go_num, ht2, hW⟩, rfl⟩)
        case measure => simp [intOf]
      · (have hzi : ¬ (z : Int) = 0 := by omega); (have hv := hid (hks.out hz)); (have hk3 : ¬ (k : Int) + 1 = 0 := by omega); (clear hkt hks); (go_wp2); (go_ret); (exact ⟨_, rfl, by rw [hv.out]; exact hR.out, hW.out⟩)
end Go.Proofs.YtaobaaaihgahfaaGreat

/- slices.Clone of numbers, nat.Norm, nat.Of, nat.limb, bits.Len32, nat.Bits. -/
namespace Go.Proofs.YtaobaaaihgahfaaGreat
open Go.RowKit Go.Mk Go.Pil Go.Nt
set_option maxHeartbeats 400000 in
theorem cloneu_any (v : Value) (l : List Nat) (w : World) (hl : l.length ≤ 1000000) (hr : RdU w v l) :
    Calls Tryz.prog 169 #[v] w fun e w' => ∃ v', e = .returned v' ∧ OwU w w' v' l := by
  (obtain ⟨h1, ao, cap, rfl, h2, h3, hao⟩ := id hr); (have he := fun (w : World) (a : Option Addr) (n c : Nat) => Lib.run_eql_slice_nil (P := Tryz.prog) w 74 202 a n c 0 0 Tryz.underlying74)
  cases ao with
  | none =>
    (have hx : l = [] := List.eq_nil_of_length_eq_zero (by rcases hao with h | ⟨_, _, h, _⟩; omega; cases h)); (subst hx)
    go_enter Tryz.func169, Tryz.ntmps169
    (go_wp2); (go_ret); (exact ⟨_, rfl, OwU.nil w⟩)
  | some ad =>
    (have hr' : Rd (w.alloc (.cells #[] 202)) 1 _ _ _ := Rd.alloc hr _); (have hown : (w.alloc (.cells #[] 202)).ownsRow 0 202 1 (.slice (some ⟨w.heap.size, 0, none⟩) 0 0) 0 [] := ⟨rfl, .inr ⟨w.heap.size, 0, #[], rfl, Nat.zero_le _, heap_alloc_new w _, Nat.le_refl _, Nat.zero_le _, rfl, rfl⟩⟩)
    go_enter Tryz.func169, Tryz.ntmps169
    go_wp2_with (at_builtin; refine wpList_append _ rfl _ _ 74 rfl 202 1 4 TNat _ _ _ rfl hown _ _ _ rfl hr' (N32_one l) ?c1 ?c2 ?_)
    case c1 => unfold maxLen; omega
    case c2 => omega
    intro v' w' h4 h5 h6 _
    have hk : Kept no w w' := ((Kept.refl no w).alloc _).trans h5 fun k hk e => by
      simp only [ob, Value.ownBlock, Option.some.injEq] at e; omega
    have hn : New w v' := by
      rcases h6 with h6 | ⟨k, h6, h7⟩
      · exact .inr ⟨w.heap.size, h6, Nat.le_refl _⟩
      · exact .inr ⟨k, h6, by rw [World.size_alloc] at h7; omega⟩
    (have h4' : Hd (w'.ownsRow 0 202 1 v' l.length (l.map N32)) := ⟨by simpa using h4⟩); (clear h5 h6 hown hr' hr hao h4); (go_wp2); (go_ret); (exact ⟨_, rfl, h4'.out, hk, hn⟩)
theorem trim_len (l : List Nat) : (trimN l).length ≤ l.length := by unfold trimN; rw [List.length_take]; omega
set_option maxHeartbeats 400000 in
theorem norm_any (v : Value) (l : List Nat) (w : World) (hl : l.length ≤ 1000000) (hr : RdU w v l) :
    Calls Tryz.prog 167 #[v] w fun e w' => ∃ v', e = .returned v' ∧ OwU w w' v' (trimN l) := by
  have HT := hid (trim_any v l w hr)
  go_enter Tryz.func167, Tryz.ntmps167
  (go_wp2_with fail); (with_reducible refine HT.out.mono ?_); (rintro e w1 ⟨v1, rfl, r1, k1⟩); (have HC := hid (cloneu_any v1 (trimN l) w1 (by have := trim_len l; omega) r1)); (have hk1 := hid k1); (clear HT r1 k1); (go_wp2_with fail); (with_reducible refine HC.out.mono ?_); (rintro e w2 ⟨v2, rfl, o2⟩); (have o3 := hid (o2.from_ hk1.out)); (clear o2 HC); (go_wp2); (go_ret); (exact ⟨_, rfl, o3.out⟩)
set_option maxHeartbeats 400000 in
theorem natof_any (x : Nat) (w : World) (hx : x < 4294967296) :
    Calls Tryz.prog 115 #[.int .u64 (x : Int)] w fun e w' => ∃ v', e = .returned v' ∧ OwU w w' v' (nl x) := by
  (have h1 : (x : Int) % 4294967296 = (x : Int) := by omega); (have h2 : (x : Int) / 4294967296 = 0 := by omega); (have h3 : IntKind.u32.wrap (x : Int) = (x : Int) := by rw [IntKind.wrap_u32]; omega); (obtain ⟨w1, hw1, g1, k1⟩ := alloc_named w (.cells #[.int .u32 (x : Int), .int .u32 0] 202)); (have HN := norm_any (.slice (some ⟨w.heap.size, 0, none⟩) 2 2) [x, 0] w1 (by simp) (Rd.block (us := [.int .u32 (x : Int), .int .u32 0]) g1 rfl (by decide))); (rw [trim_two] at HN); (replace HN := hid HN); (have hk1 := hid k1)
  go_enter Tryz.func115, Tryz.ntmps115
  (clear k1 g1); (go_wp2_with fail); (try rw [← hw1]); (with_reducible refine HN.out.mono ?_); (rintro e w2 ⟨v2, rfl, o2⟩); (have o3 := hid (o2.from_ hk1.out)); (clear o2 HN); (go_wp2); (go_ret); (exact ⟨_, rfl, o3.out⟩)
set_option maxHeartbeats 400000 in
theorem limb_any (v : Value) (l : List Nat) (i : Nat) (w : World) (hl : ∀ x ∈ l, x < 4294967296) (hr : RdU w v l) :
    Calls Tryz.prog 244 #[v, .int .i64 (i : Int)] w fun e w' => e = .returned (.int .u64 (l.getD i 0 : Int)) ∧ w' = w := by
  obtain ⟨ao, cap, rfl⟩ := hr.shape
  by_cases hi : i < l.length
  · (have hi1 : (i : Int) < (l.length : Int) := by omega); (have hi0 : (0 : Int) ≤ (i : Int) := by omega); (obtain ⟨b, o, rfl, hc⟩ := hr.at i hi); (have hx : l.getD i 0 < 4294967296 := hl _ (by rw [List.getD_eq_getElem?_getD, List.getElem?_eq_getElem hi]; exact List.getElem_mem _)); (generalize l.getD i 0 = x at hc hx); (have h3 : IntKind.u64.wrap (x : Int) = (x : Int) := by rw [IntKind.wrap_u64]; omega); (have h4 : (x : Int) % 18446744073709551616 = (x : Int) := by omega); (clear hr hl)
    go_enter Tryz.func244, Tryz.ntmps244
    (go_wp2); (go_ret); (exact ⟨rfl, rfl⟩)
  · (have hi1 : ¬ (i : Int) < (l.length : Int) := by omega); (have hv : l.getD i 0 = 0 := by rw [List.getD_eq_getElem?_getD, List.getElem?_eq_none (by omega)]; rfl); (rw [hv]); (clear hr hl)
    go_enter Tryz.func244, Tryz.ntmps244
    (go_wp2); (go_ret); (exact ⟨rfl, rfl⟩)
end Go.Proofs.YtaobaaaihgahfaaGreat

/- bits.Len32 (the shelf's contract, laid here), nat.Bits, nat.Cmp at numbers of one limb. -/
namespace Go.Proofs.YtaobaaaihgahfaaGreat
open Go.Shelf Go.RowKit Go.Mk Go.Pil Go.Nt
def lenRen : Go.Shelf.Ren := ⟨fun | 128 => 189 | n => n, fun | 3 => 3 | 4 => 4 | 5 => 5 | 9 => 9 | 46 => 158 | 51 => 202 | n => n, fun n => n⟩
theorem lenLays : Lays.n128 Tryz.prog lenRen := { mixed := by kernel_rfl, f128 := by kernel_rfl, t3 := by kernel_rfl, a3 := fun _ => by kernel_rfl, z3 := fun _ => by kernel_rfl, v3 := fun _ => by kernel_rfl, t4 := by kernel_rfl, a4 := fun _ => by kernel_rfl, z4 := fun _ => by kernel_rfl, v4 := fun _ => by kernel_rfl, t5 := by kernel_rfl, a5 := fun _ => by kernel_rfl, z5 := fun _ => by kernel_rfl, v5 := fun _ => by kernel_rfl, t9 := by kernel_rfl, a9 := fun _ => by kernel_rfl, z9 := fun _ => by kernel_rfl, v9 := fun _ => by kernel_rfl, t46 := by kernel_rfl, a46 := fun _ => by kernel_rfl, z46 := fun _ => by kernel_rfl, v46 := fun _ => by kernel_rfl, t51 := by kernel_rfl, a51 := fun _ => by kernel_rfl, z51 := fun _ => by kernel_rfl, v51 := fun _ => by kernel_rfl }
theorem len32_any (x : Int) (w : World) (h0 : 0 ≤ x) (h1 : x ≤ 4294967295) :
    Calls Tryz.prog 189 #[.int .u32 x] w fun e w' => e = .returned (.int .i64 (Lib.bitLen x.toNat)) ∧ w' = w := Any.bits_Len32 lenLays x w h0 h1
theorem bitLen_pos {x : Nat} (h : x ≠ 0) : (Lib.bitLen x : Int) ≠ 0 := by
  (unfold Lib.bitLen); (rw [Lib.bitLenAux, if_neg h])
  omega
theorem bitLen_le (f : Nat) : ∀ x, Lib.bitLenAux f x ≤ f := by
  induction f with
  | zero => intro x; exact Nat.le_refl _
  | succ f ih =>
    (intro x); (rw [Lib.bitLenAux])
    split
    · omega
    · have := ih (x / 2); omega
/-- What Bits answers. -/
def bitsN (x : Nat) : Int := if x = 0 then 0 else (Lib.bitLen x : Int)
theorem bitsN_zero (x : Nat) : bitsN x = 0 ↔ x = 0 := by
  unfold bitsN
  split
  · rename_i h; simp [h]
  · rename_i h
    constructor
    · intro e; exact absurd e (bitLen_pos h)
    · intro e; exact absurd e h
set_option maxHeartbeats 400000 in
theorem natbits_any (v : Value) (x : Nat) (w : World) (hx : x < 4294967296) (hr : RdX w v x) :
    Calls Tryz.prog 163 #[v] w fun e w' => e = .returned (.int .i64 (bitsN x)) ∧ Kept no w w' := by
  (have HT := trim_any v (nl x) w hr); (rw [trim_nl] at HT); (replace HT := hid HT)
  by_cases h0 : x = 0
  · (subst h0); (clear hr hx)
    go_enter Tryz.func163, Tryz.ntmps163
    (go_wp2_with fail); (with_reducible refine HT.out.mono ?_); (rintro e w1 ⟨v1, rfl, r1, k1⟩); (obtain ⟨a1, c1, rfl⟩ := r1.shape); (have hk1 := hid k1); (clear HT r1 k1); (rw [show (nl 0).length = 0 from rfl]); (go_wp2); (go_ret); (exact ⟨rfl, hk1.out⟩)
  · (have hv : Hd (bitsN x = (Lib.bitLen x : Int)) := ⟨if_neg h0⟩); (have HL := hid (fun w => len32_any (x : Int) w (by omega) (by omega))); (rw [Int.toNat_natCast] at HL); (have hble : Lib.bitLen x ≤ 64 := bitLen_le 64 x); (obtain ⟨B, hB⟩ : ∃ B, Lib.bitLen x = B := ⟨_, rfl⟩); (rw [hB] at HL hv hble); (have hw : IntKind.i64.wrap (B : Int) = (B : Int) := IntWalk.i64_in _ (by omega)); (rw [nl_pos h0] at HT); (clear hr hx hB)
    go_enter Tryz.func163, Tryz.ntmps163
    (go_wp2_with fail); (with_reducible refine HT.out.mono ?_); (rintro e w1 ⟨v1, rfl, r1, k1⟩); (obtain ⟨a1, c1, rfl⟩ := r1.shape); (obtain ⟨b, o, rfl, hc⟩ := r1.at 0 (by simp)); (have hc : w1.cell? ⟨b, o, none⟩ = some (.int .u32 (x : Int)) := hc); (have hk1 := hid k1); (clear HT r1 k1); (rw [show ([x] : List Nat).length = 1 from rfl]); (go_wp2_with fail); (with_reducible refine (HL.out _).mono ?_); (rintro e w2 ⟨rfl, rfl⟩); (clear HL); (go_wp2); (go_ret); (exact ⟨by rw [hv.out]; rfl, hk1.out⟩)
/-- What Cmp answers. -/
def cmpN (x y : Nat) : Int := if x < y then -1 else if y < x then 1 else 0
set_option maxHeartbeats 1000000 in
theorem natcmp_any (va vb : Value) (x y : Nat) (w : World) (ha : RdX w va x) (hb : RdX w vb y) :
    Calls Tryz.prog 206 #[va, vb] w fun e w' => e = .returned (.int .i64 (cmpN x y)) ∧ Kept no w w' := by
  (have HT := trim_any va (nl x) w ha); (rw [trim_nl] at HT); (replace HT := hid HT)
  have HT2 : Hd (∀ W, Kept no w W → Calls Tryz.prog 205 #[vb] W fun e w' => ∃ v', e = .returned v' ∧ RdU w' v' (nl y) ∧ Kept no W w') := ⟨fun W k => by
    have := trim_any vb (nl y) W (RdU.kept hb k)
    rwa [trim_nl] at this⟩
  clear ha hb
  go_enter Tryz.func206, Tryz.ntmps206
  (go_wp2_with fail); (with_reducible refine HT.out.mono ?_); (rintro e w1 ⟨v1, rfl, r1, k1⟩); (go_wp2_with fail); (with_reducible refine (HT2.out w1 k1).mono ?_); (rintro e w2 ⟨v2, rfl, r2, k2⟩); (replace r1 := r1.kept k2); (have hk2 := hid (k1.trans' k2)); (obtain ⟨a1, c1, rfl⟩ := r1.shape); (obtain ⟨a2, c2, rfl⟩ := r2.shape); (clear HT HT2 k1 k2)
  by_cases hx : x = 0
  · subst hx
    by_cases hy : y = 0
    · (subst hy); (clear r1 r2); (rw [show (nl 0).length = 0 from rfl]); (go_wp2)
      go_loopw [5] (fun i wr => i = .int .i64 (-1) ∧ Hd (Kept no w wr)) (fun _ _ => 0)
      case atStart => exact ⟨rfl, hk2⟩
      case round =>
        (obtain ⟨rfl, hW⟩ := hrel); (go_wp2); (go_ret); (exact ⟨rfl, hW.out⟩)
    · (have hv : Hd (cmpN 0 y = -1) := ⟨by unfold cmpN; rw [if_pos (by omega)]⟩); (clear r1 r2); (rw [show (nl 0).length = 0 from rfl, nl_pos hy, show ([y] : List Nat).length = 1 from rfl]); (go_wp2); (go_ret); (exact ⟨by rw [hv.out]; rfl, hk2.out⟩)
  · by_cases hy : y = 0
    · (subst hy); (have hv : Hd (cmpN x 0 = 1) := ⟨by unfold cmpN; rw [if_neg (by omega), if_pos (by omega)]⟩); (clear r1 r2); (rw [show (nl 0).length = 0 from rfl, nl_pos hx, show ([x] : List Nat).length = 1 from rfl]); (go_wp2); (go_ret); (exact ⟨by rw [hv.out]; rfl, hk2.out⟩)
    · (rw [nl_pos hx] at r1); (rw [nl_pos hy] at r2); (obtain ⟨b1, o1, rfl, q1⟩ := r1.at 0 (by simp)); (obtain ⟨b2, o2, rfl, q2⟩ := r2.at 0 (by simp)); (have q1 : w2.cell? ⟨b1, o1, none⟩ = some (.int .u32 (x : Int)) := q1); (have q2 : w2.cell? ⟨b2, o2, none⟩ = some (.int .u32 (y : Int)) := q2); (replace q1 := hid q1); (replace q2 := hid q2); (rw [nl_pos hx, nl_pos hy, show ([x] : List Nat).length = 1 from rfl, show ([y] : List Nat).length = 1 from rfl]); (clear r1 r2); (go_wp2)
      go_loopw [5] (fun i wr => ∃ j : Int, (j = 0 ∨ (j = -1 ∧ x = y)) ∧ i = .int .i64 j ∧ Hd (Kept no w2 wr)) (fun i _ => (intOf i + 1).toNat)
      case atStart => exact ⟨0, .inl rfl, rfl, ⟨Kept.refl _ _⟩⟩
      case round =>
        (obtain ⟨j, hj, rfl, hW⟩ := hrel); (have hW2 := hid (hk2.out.trans' hW.out))
        rcases hj with rfl | ⟨rfl, hxy⟩
        · (have m1 := hW.out.cell q1.out id); (have m2 := hW.out.cell q2.out id)
          by_cases hlt : x < y
          · (have hi : (x : Int) < (y : Int) := by omega); (have hd : decide ((x : Int) < (y : Int)) = true := decide_eq_true hi); (have hv : Hd (cmpN x y = -1) := ⟨by unfold cmpN; rw [if_pos hlt]⟩); (clear hlt); (go_wp2_with fail); (go_quiet (fail)); (have hW' := hid (hW2.out.drewN nq)); (go_wp2); (go_ret); (exact ⟨by rw [hv.out]; rfl, hW'.out⟩)
          · (have hi : ¬ (x : Int) < (y : Int) := by omega); (have hd : decide ((x : Int) < (y : Int)) = false := decide_eq_false hi)
            by_cases hgt : y < x
            · (have hi2 : (y : Int) < (x : Int) := by omega); (have hd2 : decide ((y : Int) < (x : Int)) = true := decide_eq_true hi2); (have hv : Hd (cmpN x y = 1) := ⟨by unfold cmpN; rw [if_neg hlt, if_pos hgt]⟩); (clear hlt hgt); (go_wp2_with fail); (go_quiet (fail)); (obtain ⟨w4, hw4⟩ : ∃ w4, wr.drewN nq = w4 := ⟨_, rfl⟩); (have hW' := hid (hW2.out.drewN nq)); (have m1 := (hW.out.drewN nq).cell q1.out id); (have m2 := (hW.out.drewN nq).cell q2.out id); (rw [hw4] at hW' m1 m2 ⊢); (clear hw4); (go_wp2_with fail); (go_quiet (fail)); (have hW'' := hid (hW'.out.drewN nq)); (go_wp2); (go_ret); (exact ⟨by rw [hv.out]; rfl, hW''.out⟩)
            · (have hi2 : ¬ (y : Int) < (x : Int) := by omega); (have hd2 : decide ((y : Int) < (x : Int)) = false := decide_eq_false hi2); (have hxy : x = y := by omega); (clear hlt hgt); (go_wp2_with fail); (go_quiet (fail)); (obtain ⟨w4, hw4⟩ : ∃ w4, wr.drewN nq = w4 := ⟨_, rfl⟩); (have hW' := hid (hW.out.drewN nq)); (have m1 := (hW.out.drewN nq).cell q1.out id); (have m2 := (hW.out.drewN nq).cell q2.out id); (rw [hw4] at hW' m1 m2 ⊢); (clear hw4); (go_wp2_with fail); (go_quiet (fail)); (have hW'' := hid (hW'.out.drewN nq)); (go_wp2); (go_roundw)
              case rel => first | exact ⟨-1, .inr ⟨rfl, hxy⟩, by go_num, hW''⟩ | ((repeat apply Exists.intro); exact ⟨⟨-1, .inr ⟨rfl, hxy⟩, by go_num, hW''⟩, rfl⟩)
              case measure => simp [intOf]
        · (have hv : Hd (cmpN x y = 0) := ⟨by unfold cmpN; rw [if_neg (by omega), if_neg (by omega)]⟩); (go_wp2); (go_ret); (exact ⟨by rw [hv.out]; rfl, hW2.out⟩)
end Go.Proofs.YtaobaaaihgahfaaGreat

/- nat.short at numbers of one limb. -/
namespace Go.Proofs.YtaobaaaihgahfaaGreat
open Go.RowKit Go.Mk Go.Pil Go.Nt
theorem makeU (n : Nat) (h : n ≤ 1000000) (w : World) : (Instr.makeSlice 74 (.int .i64 (n : Int)) (.int .i64 (n : Int))).run Tryz.prog w = .ok (.slice (some ⟨w.heap.size, 0, none⟩) n n) (w.alloc (.cells (List.replicate n (Value.int .u32 0)).toArray 202)) := by
  (obtain ⟨i, hi, hz, hs, hb⟩ := info_parts (P := Tryz.prog) (e := 202) (z := .int .u32 0) (size := 1) (bytes := 4) (by kernel_rfl)); (have := run_make (P := Tryz.prog) w 74 202 i _ Tryz.underlying74 hi hz .i64 .i64 n n (by omega) (by omega) (by rw [hb]; omega) (by omega)); (rw [this, hs, Nat.mul_one, Int.toNat_natCast])
  have e : madeCells (Value.int .u32 0).cells n = (List.replicate n (Value.int .u32 0)).toArray := by
    apply Array.ext
    · simp [madeCells, Value.cells]
    · intro i h1 h2
      simp [madeCells, Nat.mod_one, Value.cells]
  rw [e]
theorem or0 (x : Nat) (h : x < 18446744073709551616) : bits .or .u64 0 (x : Int) = (x : Int) := by
  show IntKind.u64.wrap ((BitVec.ofInt 64 0 ||| BitVec.ofInt 64 (x : Int)).toNat : Int) = _
  have e1 : (BitVec.ofInt 64 (x : Int)).toNat = x := by
    rw [BitVec.ofInt_natCast, BitVec.toNat_ofNat]; exact Nat.mod_eq_of_lt (by omega)
  (rw [BitVec.toNat_or, e1]); (have e2 : (BitVec.ofInt 64 0).toNat = 0 := by decide); (rw [e2, Nat.zero_or, IntKind.wrap_u64])
  omega
set_option maxHeartbeats 1000000 in
theorem short_any (v : Value) (x y : Nat) (w : World) (h0 : x ≠ 0) (hx : x < 4294967296) (hy0 : y ≠ 0) (hr : RdX w v x) :
    Calls Tryz.prog 207 #[v, .int .u64 (y : Int)] w fun e w' => ∃ v', e = .returned (.tuple #[v', .int .u64 ((x % y : Nat) : Int)]) ∧ OwU w w' v' [x / y] := by
  (have hr : RdU w v [x] := by have := hr; unfold RdX at this; rwa [nl_pos h0] at this); (obtain ⟨a, c, rfl⟩ := hr.shape); (obtain ⟨b, o, rfl, hc⟩ := hr.at 0 (by simp)); (have hc : w.cell? ⟨b, o, none⟩ = some (.int .u32 (x : Int)) := hc); (rw [show ([x] : List Nat).length = 1 from rfl]); (have hmk := makeU 1 (by decide) w); (rw [show ((1 : Nat) : Int) = 1 from rfl] at hmk); (obtain ⟨w1, hw1, g1, k1⟩ := alloc_named w (.cells #[.int .u32 0] 202)); (have hc1 := hid (k1.cell hc id)); (have hg1 := hid g1); (have hk1 := hid k1); (have hyi : ¬ (y : Int) = 0 := by omega); (have hor := or0 x (by omega)); (have e1 : (x : Int) / (y : Int) = ((x / y : Nat) : Int) := by simp); (have e2 : (x : Int) % (y : Int) = ((x % y : Nat) : Int) := by simp); (have e3 : (x : Int).tdiv (y : Int) = ((x / y : Nat) : Int) := by rw [Int.tdiv_eq_ediv_of_nonneg (by omega)]; simp); (have e4 : (x : Int).tmod (y : Int) = ((x % y : Nat) : Int) := by rw [Int.tmod_eq_emod_of_nonneg (by omega)]; simp); (have hq : x / y < 4294967296 := Nat.lt_of_le_of_lt (Nat.div_le_self _ _) hx); (have hm : x % y < 4294967296 := Nat.lt_of_le_of_lt (Nat.mod_le _ _) hx); (obtain ⟨Q, hQ⟩ : ∃ q, x / y = q := ⟨_, rfl⟩); (obtain ⟨M, hM⟩ : ∃ q, x % y = q := ⟨_, rfl⟩); (rw [hQ] at e1 e3 hq ⊢); (rw [hM] at e2 e4 hm ⊢); (have f1 : IntKind.u64.wrap (x : Int) = (x : Int) := by rw [IntKind.wrap_u64]; omega); (have f2 : IntKind.u64.wrap (Q : Int) = (Q : Int) := by rw [IntKind.wrap_u64]; omega); (have f3 : IntKind.u32.wrap (Q : Int) = (Q : Int) := by rw [IntKind.wrap_u32]; omega); (have f4 : IntKind.u64.wrap (M : Int) = (M : Int) := by rw [IntKind.wrap_u64]; omega); (have f5 : (Q : Int) % 4294967296 = (Q : Int) := by omega); (have f6 : (x : Int) % 18446744073709551616 = (x : Int) := by omega); (clear hQ hM hr g1 k1)
  go_enter Tryz.func207, Tryz.ntmps207
  (go_wp2); (try rw [← hw1]); (obtain ⟨g, hg⟩ : ∃ g, w.heap.size = g := ⟨_, rfl⟩); (have hgl : Hd (w.heap.size ≤ g) := ⟨Nat.le_of_eq hg⟩); (rw [hg] at hg1 ⊢); (have hg1 : Hd (w1.heap[g]? = some (.cells #[.int .u32 0] 202 (0, 0))) := hg1); (clear hw1 hg hmk)
  go_loopw [7, 8] (fun r i wr => (i = .int .i64 0 ∧ r = .int .u64 0 ∧ wr = w1) ∨ (i = .int .i64 (-1) ∧ r = .int .u64 (M : Int) ∧ Hd (OwU w wr (.slice (some ⟨g, 0, none⟩) 1 1) [Q]))) (fun _ i _ => (intOf i + 1).toNat)
  case atStart => exact .inl ⟨rfl, rfl, rfl⟩
  case round =>
    rcases hrel with ⟨rfl, rfl, rfl⟩ | ⟨rfl, rfl, hO⟩
    · (have m1 := hc1.out); (have z1 : wr.cell? ⟨g, 0, none⟩ = some (.int .u32 0) := by rw [cell_of_row _ _ 0 _ _ _ hg1.out]; rfl); (have z2 := row_free hg1.out 0)
      have hO : Hd (OwU w (wr.setCell ⟨g, 0, none⟩ (.int .u32 (Q : Int))) (.slice (some ⟨g, 0, none⟩) 1 1) [Q]) := ⟨by
        have hs := setCell_row hg1.out 0 (.int .u32 (Q : Int))
        refine ⟨⟨rfl, .inr ⟨g, 1, #[.int .u32 (Q : Int)], rfl, Nat.zero_le _, hs, Nat.le_refl _, by decide, rfl, rfl⟩⟩, hk1.out.setCell (.inr hgl.out) _, .inr ⟨g, rfl, hgl.out⟩⟩⟩
      (go_wp2); (go_roundw)
      case rel => first | exact .inr ⟨rfl, rfl, hO⟩ | ((repeat apply Exists.intro); exact ⟨.inr ⟨rfl, rfl, hO⟩, rfl⟩)
      case measure => simp [intOf]
    · (go_wp2); (go_ret2); (exact ⟨_, rfl, hO.out⟩)
end Go.Proofs.YtaobaaaihgahfaaGreat

/- nat.Div, Gcd at numbers of one limb. -/
namespace Go.Proofs.YtaobaaaihgahfaaGreat
open Go.RowKit Go.Mk Go.Pil Go.Nt
theorem RdX.kept {w w' : World} {v : Value} {x : Nat} (h : RdX w v x) (k : Kept no w w') : RdX w' v x := RdU.kept h k
theorem trimx_any (v : Value) (x : Nat) (w : World) (hr : RdX w v x) : Calls Tryz.prog 205 #[v] w fun e w' => ∃ v', e = .returned v' ∧ RdX w' v' x ∧ Kept no w w' := by
  have := trim_any v (nl x) w hr
  rwa [trim_nl] at this
theorem normx_any (v : Value) (x : Nat) (w : World) (hr : RdX w v x) : Calls Tryz.prog 167 #[v] w fun e w' => ∃ v', e = .returned v' ∧ OwU w w' v' (nl x) := by
  have := norm_any v (nl x) w (by unfold nl; split <;> simp) hr
  rwa [trim_nl] at this
set_option maxHeartbeats 1000000 in
theorem natdiv_any (va vb : Value) (x y : Nat) (w : World) (hx : x < 4294967296) (hy : y < 4294967296) (hy0 : y ≠ 0) (ha : RdX w va x) (hb : RdX w vb y) :
    Calls Tryz.prog 166 #[va, vb] w fun e w' => ∃ vq vr, e = .returned (.tuple #[vq, vr, .bool true]) ∧ OwU w w' vq (nl (x / y)) ∧ OwU w w' vr (nl (x % y)) := by
  (have HT := hid (trimx_any va x w ha)); (have HT2 := hid (fun W (k : Kept no w W) => trimx_any vb y W (hb.kept k))); (obtain ⟨Q, hQ⟩ : ∃ q, x / y = q := ⟨_, rfl⟩); (obtain ⟨M, hM⟩ : ∃ q, x % y = q := ⟨_, rfl⟩); (rw [hQ, hM]); (replace hQ := hid hQ); (replace hM := hid hM); (clear ha hb)
  go_enter Tryz.func166, Tryz.ntmps166
  (go_wp2_with fail); (with_reducible refine HT.out.mono ?_); (rintro e w1 ⟨v1, rfl, r1, k1⟩); (go_wp2_with fail); (with_reducible refine (HT2.out w1 k1).mono ?_); (rintro e w2 ⟨v2, rfl, r2, k2⟩); (replace r1 := r1.kept k2); (have hk2 := hid (k1.trans' k2)); (obtain ⟨a1, c1, rfl⟩ := RdU.shape r1); (obtain ⟨a2, c2, rfl⟩ := RdU.shape r2); (have HC := hid (natcmp_any _ _ x y w2 r1 r2)); (have r1' := hid r1); (rw [nl_pos hy0] at r2 HC ⊢); (obtain ⟨b2, o2, rfl, q2⟩ := RdU.at (zs := [y]) (by have := r2; unfold RdX at this; rw [nl_pos hy0] at this; exact this) 0 (by simp)); (have q2 : w2.cell? ⟨b2, o2, none⟩ = some (.int .u32 (y : Int)) := q2); (rw [show ([y] : List Nat).length = 1 from rfl] at HC ⊢); (clear HT HT2 k1 k2 r1 r2)
  by_cases hlt : x < y
  · (have hcv : cmpN x y = -1 := by unfold cmpN; rw [if_pos hlt]); (rw [hcv] at HC); (obtain rfl : Q = 0 := by rw [← hQ.out]; exact Nat.div_eq_of_lt hlt); (obtain rfl : M = x := by rw [← hM.out]; exact Nat.mod_eq_of_lt hlt); (have HK := hid (fun W (k : Kept no w2 W) => cloneu_any (.slice a1 (nl M).length c1) (nl M) W (by unfold nl; split <;> simp) (RdU.kept r1'.out k))); (clear hcv q2 hQ hM); (go_wp2_with fail); (with_reducible refine HC.out.mono ?_); (rintro e w3 ⟨rfl, k3⟩); (have HK3 := hid (HK.out w3 k3)); (have hk3 := hid (hk2.out.trans' k3)); (clear HK HC k3); (go_wp2_with fail); (with_reducible refine HK3.out.mono ?_); (rintro e w4 ⟨v4, rfl, o4⟩); (have o5 := hid (o4.from_ hk3.out)); (clear HK3 o4); (go_wp2); (go_ret3); (first | exact ⟨.slice none 0 0, v4, rfl, ⟨World.ownsRow_nil _ _ _ _, o5.out.kept, .inl rfl⟩, o5.out⟩ | exact ⟨_, _, rfl, ⟨World.ownsRow_nil _ _ _ _, o5.out.kept, .inl rfl⟩, o5.out⟩)
  · (have hx0 : x ≠ 0 := by omega); (have hcn : ¬ cmpN x y < 0 := by unfold cmpN; rw [if_neg hlt]; split <;> decide); (have hcd : decide (cmpN x y < 0) = false := decide_eq_false hcn); (obtain ⟨C, hC⟩ : ∃ C, cmpN x y = C := ⟨_, rfl⟩); (rw [hC] at HC hcn hcd); (have hq : x / y < 4294967296 := Nat.lt_of_le_of_lt (Nat.div_le_self _ _) hx); (have hm : x % y < 4294967296 := Nat.lt_of_le_of_lt (Nat.mod_le _ _) hx); (have HS := hid (fun W (k : Kept no w2 W) => short_any (.slice a1 (nl x).length c1) x y W hx0 hx hy0 (r1'.out.kept k))); (rw [hQ.out] at hq HS); (rw [hM.out] at hm HS); (have f6 : (y : Int) % 18446744073709551616 = (y : Int) := by omega); (have f7 : IntKind.u64.wrap (y : Int) = (y : Int) := by rw [IntKind.wrap_u64]; omega); (rw [nl_pos hx0] at HC HS ⊢); (rw [show ([x] : List Nat).length = 1 from rfl] at HC HS ⊢); (replace q2 := hid q2); (clear hC hQ hM hlt r1'); (go_wp2_with fail); (with_reducible refine HC.out.mono ?_); (rintro e w3 ⟨rfl, k3⟩); (have HS3 := hid (HS.out w3 k3)); (have hk3 := hid (hk2.out.trans' k3)); (have q3 := k3.cell q2.out id); (clear HS HC k3 q2); (go_wp2_with fail); (with_reducible refine HS3.out.mono ?_); (rintro e w4 ⟨v4, rfl, o4⟩); (have HN := norm_any v4 [Q] w4 (by simp) o4.rd); (rw [trim_one] at HN); (replace HN := hid HN); (have hk4 := hid (hk3.out.trans' o4.kept)); (clear HS3 o4 q3); (go_wp2_with fail); (with_reducible refine HN.out.mono ?_); (rintro e w5 ⟨v5, rfl, o5⟩); (have HO := hid (natof_any M w5 hm)); (have hk5 := hid (hk4.out.trans' o5.kept)); (have p5 := hid (o5.from_ hk4.out)); (clear HN o5); (go_wp2_with fail); (with_reducible refine HO.out.mono ?_); (rintro e w6 ⟨v6, rfl, o6⟩); (have p6 := hid (o6.from_ hk5.out)); (have p5' := hid (p5.out.keptNo o6.kept)); (clear HO o6 p5); (go_wp2); (go_ret3); (exact ⟨_, _, rfl, p5'.out, p6.out⟩)
/-- The number that a slice of at most one limb holds. -/
def valU (w : World) (v : Value) : Nat := match v with
  | .slice (some a) n _ => if n = 0 then 0 else match w.cell? a with | some (.int _ z) => z.toNat | _ => 0
  | _ => 0
theorem valU_eq {w : World} {v : Value} {x : Nat} (h : RdX w v x) : valU w v = x := by
  obtain ⟨a, c, rfl⟩ := RdU.shape h
  by_cases h0 : x = 0
  · (subst h0); (rw [show (nl 0).length = 0 from rfl]); (unfold valU)
    cases a <;> simp
  · (unfold RdX at h); (rw [nl_pos h0] at h ⊢); (obtain ⟨b, o, rfl, hc⟩ := RdU.at h 0 (by simp)); (have hc : w.cell? ⟨b, o, none⟩ = some (.int .u32 (x : Int)) := hc); (unfold valU)
    simp [hc]
set_option maxHeartbeats 1000000 in
theorem natgcd_any (va vb : Value) (x y : Nat) (w : World) (hx : x < 4294967296) (hy : y < 4294967296) (ha : RdX w va x) (hb : RdX w vb y) :
    Calls Tryz.prog 165 #[va, vb] w fun e w' => ∃ v', e = .returned v' ∧ OwU w w' v' (nl (Nat.gcd x y)) := by
  (have HT := hid (normx_any va x w ha)); (have HT2 := hid (fun W (k : Kept no w W) => normx_any vb y W (hb.kept k))); (clear ha hb)
  go_enter Tryz.func165, Tryz.ntmps165
  (go_wp2_with fail); (with_reducible refine HT.out.mono ?_); (rintro e w1 ⟨v1, rfl, o1⟩); (go_wp2_with fail); (with_reducible refine (HT2.out w1 o1.kept).mono ?_); (rintro e w2 ⟨v2, rfl, o2⟩); (have p1 := hid (o1.keptNo o2.kept)); (have p2 := hid (o2.from_ o1.kept)); (clear HT HT2 o1 o2); (go_wp2)
  go_loopw [0, 1] (fun a b wr => ∃ X Y : Nat, X < 4294967296 ∧ Y < 4294967296 ∧ Hd (Nat.gcd X Y = Nat.gcd x y) ∧ Hd (OwU w wr a (nl X)) ∧ Hd (OwU w wr b (nl Y))) (fun _ b wr => valU wr b)
  case atStart => exact ⟨x, y, hx, hy, ⟨rfl⟩, p1, p2⟩
  case round =>
    (obtain ⟨X, Y, hX, hY, hg, oa, ob⟩ := hrel); (obtain ⟨a1, c1, rfl⟩ := oa.out.rd.shape); (obtain ⟨a2, c2, rfl⟩ := ob.out.rd.shape); (have hval : Hd (valU wr (.slice a2 (nl Y).length c2) = Y) := ⟨valU_eq ob.out.rd⟩)
    by_cases h0 : Y = 0
    · (subst h0); (have hv : Hd (X = Nat.gcd x y) := ⟨by rw [← hg.out, Nat.gcd_zero_right]⟩); (have l0 : (nl 0).length = 0 := rfl); (rw [l0]); (clear hg hval); (go_wp2); (go_ret); (exact ⟨_, rfl, by rw [← hv.out]; exact oa.out⟩)
    · (have HD := hid (natdiv_any _ _ X Y wr hX hY h0 oa.out.rd ob.out.rd)); (have hm : X % Y < Y := Nat.mod_lt _ (by omega)); (have hg2 : Hd (Nat.gcd Y (X % Y) = Nat.gcd x y) := ⟨by rw [← hg.out, Nat.gcd_comm X Y, Nat.gcd_rec Y X, Nat.gcd_comm]⟩); (obtain ⟨M, hM⟩ : ∃ m, X % Y = m := ⟨_, rfl⟩); (rw [hM] at HD hm hg2); (have l1 : (nl Y).length = 1 := by rw [nl_pos h0]; rfl); (have hw := hid ob.out.kept); (rw [l1] at hval HD ob ⊢); (clear hM hg); (go_wp2_with fail); (with_reducible refine HD.out.mono ?_); (rintro e w3 ⟨vq, vr, rfl, -, o3⟩); (have ob2 := hid (ob.out.keptNo o3.kept)); (have or2 := hid (o3.from_ hw.out)); (have hval2 : Hd (valU w3 vr = M) := ⟨valU_eq o3.rd⟩); (clear HD o3 ob oa hw); (go_wp2); (go_roundw)
      case rel => first | exact ⟨Y, M, hY, by omega, hg2, ob2, or2⟩ | ((repeat apply Exists.intro); exact ⟨⟨Y, M, hY, by omega, hg2, ob2, or2⟩, rfl⟩)
      case measure => rw [hval.out, hval2.out]; exact hm
end Go.Proofs.YtaobaaaihgahfaaGreat

/- nat.Add, Sub, Mul at numbers of one limb (printed by gen_nat5.py). -/
namespace Go.Proofs.YtaobaaaihgahfaaGreat
open Go.RowKit Go.Mk Go.Pil Go.Nt
theorem nl_get (x : Nat) : (nl x).getD 0 0 = x := by
  unfold nl
  split
  · rename_i h; rw [h]; rfl
  · rfl
theorem nl_lt {x : Nat} (h : x < 4294967296) : ∀ y ∈ nl x, y < 4294967296 := fun y hy => by
  unfold nl at hy
  split at hy
  · cases hy
  · rw [List.mem_singleton.1 hy]; exact h
theorem limbx_any (v : Value) (x : Nat) (w : World) (hx : x < 4294967296) (hr : RdX w v x) : Calls Tryz.prog 244 #[v, .int .i64 0] w fun e w' => e = .returned (.int .u64 (x : Int)) ∧ w' = w := by
  have := limb_any v (nl x) 0 w (nl_lt hx) hr
  rwa [nl_get] at this
theorem nl_len (x : Nat) : (nl x).length = if x = 0 then 0 else 1 := by unfold nl; split <;> rfl
/-- A block of two limbs. -/
theorem row2 {w : World} {g : Nat} {a b : Nat} (h : w.heap[g]? = some (.cells #[.int .u32 (a : Int), .int .u32 (b : Int)] 202 (0, 0))) : RdU w (.slice (some ⟨g, 0, none⟩) 2 2) [a, b] := Rd.block (us := [.int .u32 (a : Int), .int .u32 (b : Int)]) h rfl (by decide)
theorem row1 {w : World} {g : Nat} {a : Nat} (h : w.heap[g]? = some (.cells #[.int .u32 (a : Int)] 202 (0, 0))) : RdU w (.slice (some ⟨g, 0, none⟩) 1 1) [a] := Rd.block (us := [.int .u32 (a : Int)]) h rfl (by decide)
theorem row0 {w : World} {g : Nat} (h : w.heap[g]? = some (.cells #[] 202 (0, 0))) : RdU w (.slice (some ⟨g, 0, none⟩) 0 0) [] := Rd.block (us := []) h rfl (by decide)
set_option maxRecDepth 20000 in
set_option maxHeartbeats 2000000 in
theorem natadd_any (va vb : Value) (x y : Nat) (w : World) (hx : x < 4294967296) (hy : y < 4294967296) (hxy : x + y < 4294967296) (ha : RdX w va x) (hb : RdX w vb y) :
    Calls Tryz.prog 212 #[va, vb] w fun e w' => ∃ v', e = .returned v' ∧ OwU w w' v' (nl (x + y)) := by
  (have HT := hid (trimx_any va x w ha)); (have HT2 := hid (fun W (k : Kept no w W) => trimx_any vb y W (hb.kept k))); (obtain ⟨Z, hZ⟩ : ∃ z, x + y = z := ⟨_, rfl⟩); (rw [hZ] at hxy ⊢); (have hz1 : (x : Int) + (y : Int) = (Z : Int) := by omega); (have hz2 : (Z : Int) % 18446744073709551616 = (Z : Int) := by omega); (have hz3 : (Z : Int) % 4294967296 = (Z : Int) := by omega); (have hz4 : (Z : Int) / 4294967296 = 0 := by omega); (have hz5 : IntKind.u64.wrap (Z : Int) = (Z : Int) := by rw [IntKind.wrap_u64]; omega); (have hz6 : IntKind.u32.wrap (Z : Int) = (Z : Int) := by rw [IntKind.wrap_u32]; omega); (have mx1 : max (0 : Int) 1 = 1 := by decide); (have mx2 : max (1 : Int) 0 = 1 := by decide); (have mx3 : max (1 : Int) 1 = 1 := by decide); (replace hZ := hid hZ); (clear ha hb)
  go_enter Tryz.func212, Tryz.ntmps212
  (go_wp2_with fail); (with_reducible refine HT.out.mono ?_); (rintro e w1 ⟨v1, rfl, r1, k1⟩); (go_wp2_with fail); (with_reducible refine (HT2.out w1 k1).mono ?_); (rintro e w2 ⟨v2, rfl, r2, k2⟩); (replace r1 := hid (r1.kept k2)); (have hk2 := hid (k1.trans' k2)); (obtain ⟨a1, c1, rfl⟩ := RdU.shape r1.out); (obtain ⟨a2, c2, rfl⟩ := RdU.shape r2); (replace r2 := hid r2); (clear HT HT2 k1 k2)
  by_cases hb0 : x = 0 ∧ y = 0
  · (obtain ⟨rfl, rfl⟩ := hb0); (obtain rfl : Z = 0 := by rw [← hZ.out]); (rw [show (nl 0).length = 0 from rfl] at r1 r2 ⊢); (have hmk := makeU 1 (by decide) w2); (rw [show ((1 : Nat) : Int) = 1 from rfl] at hmk); (obtain ⟨w3, hw3, g3, k3⟩ := alloc_named w2 (.cells #[.int .u32 0] 202)); (obtain ⟨g, hg⟩ : ∃ g, w2.heap.size = g := ⟨_, rfl⟩); (rw [hg] at g3); (have hgl : Hd (w.heap.size ≤ g) := ⟨by have := hk2.out.size; omega⟩); (have g3' := hid g3); (have hk3 := hid (hk2.out.trans' k3)); (have z1 : w3.cell? ⟨g, 0, none⟩ = some (.int .u32 0) := by rw [cell_of_row _ _ 0 _ _ _ g3]; rfl); (have z2 := row_free g3 0); (have gS := hid (setCell_row g3 0 (.int .u32 0))); (have kS := hid (hk3.out.setCell (a := ⟨g, 0, none⟩) (.inr hgl.out) (.int .u32 0))); (have HN := norm_any (.slice (some ⟨g, 0, none⟩) 1 1) [0] (w3.setCell ⟨g, 0, none⟩ (.int .u32 0)) (by simp) (row1 gS.out)); (rw [trim_one] at HN); (replace HN := hid HN); (replace hw3 := hid hw3); (clear k3 g3 r1 r2); (go_wp2); (rw [← hw3.out]); (try rw [hg])
    go_loopw [7, 23] (fun c i wr => i = .int .i64 0 ∧ c = .int .u64 0 ∧ wr = w3) (fun _ _ _ => 0)
    case atStart => first | exact ⟨rfl, rfl, rfl⟩ | exact ⟨rfl, rfl, trivial⟩
    case round =>
      (obtain ⟨rfl, rfl, rfl⟩ := hrel); (try rw [hg]); (go_wp2_with fail); (with_reducible refine HN.out.mono ?_); (rintro e w5 ⟨v5, rfl, o5⟩); (have o6 := hid (o5.from_ kS.out)); (clear HN o5); (go_wp2); (go_ret); (exact ⟨_, rfl, o6.out⟩)
  · by_cases hx0 : x = 0
    · (have hy0 : y ≠ 0 := by omega); (subst hx0); (obtain rfl : Z = y := by have := hZ.out; omega); (have lx : (nl 0).length = 0 := by rw [nl_len, if_pos rfl]); (have ly : (nl Z).length = 1 := by rw [nl_len, if_neg hy0]); (rw [lx] at r1 ⊢); (rw [ly] at r2 ⊢); (have hmk := makeU 2 (by decide) w2); (rw [show ((2 : Nat) : Int) = 2 from rfl] at hmk); (obtain ⟨w3, hw3, g3, k3⟩ := alloc_named w2 (.cells #[.int .u32 0, .int .u32 0] 202)); (obtain ⟨g, hg⟩ : ∃ g, w2.heap.size = g := ⟨_, rfl⟩); (rw [hg] at g3); (have hgl : Hd (w.heap.size ≤ g) := ⟨by have := hk2.out.size; omega⟩); (have g3' := hid g3); (have hk3 := hid (hk2.out.trans' k3)); (have HL1 := hid (limbx_any _ 0 w3 hx (r1.out.kept k3))); (have HL2 := hid (limbx_any _ Z w3 hy (r2.out.kept k3))); (replace hw3 := hid hw3); (clear k3 g3 r1 r2 lx ly hx hy); (go_wp2); (rw [← hw3.out]); (try rw [hg])
      go_loopw [7, 23] (fun c i wr => (i = .int .i64 0 ∧ c = .int .u64 0 ∧ wr = w3) ∨ (i = .int .i64 1 ∧ c = .int .u64 0 ∧ Hd (wr.heap[g]? = some (.cells #[.int .u32 (Z : Int), .int .u32 0] 202 (0, 0))) ∧ Hd (Kept no w wr))) (fun _ i _ => 1 - (intOf i).toNat)
      case atStart => first | exact .inl ⟨rfl, rfl, rfl⟩ | exact .inl ⟨rfl, rfl, trivial⟩
      case round =>
        rcases hrel with ⟨rfl, rfl, rfl⟩ | ⟨rfl, rfl, gZ, kZ⟩
        · (have z1 : wr.cell? ⟨g, 0, none⟩ = some (.int .u32 0) := by rw [cell_of_row _ _ 0 _ _ _ g3'.out]; rfl); (have z2 := row_free g3'.out 0); (have gS := hid (setCell_row g3'.out 0 (.int .u32 (Z : Int)))); (have kS := hid (hk3.out.setCell (a := ⟨g, 0, none⟩) (.inr hgl.out) (.int .u32 (Z : Int)))); (try rw [hg]); (go_wp2_with fail); (with_reducible refine HL1.out.mono ?_); (rintro e w4 ⟨rfl, h4⟩); (obtain rfl := h4.symm); (go_wp2_with fail); (with_reducible refine HL2.out.mono ?_); (rintro e w5 ⟨rfl, h5⟩); (obtain rfl := h5.symm); (go_wp2); (go_roundw)
          case rel => first | exact .inr ⟨rfl, rfl, gS, kS⟩ | ((repeat apply Exists.intro); exact ⟨.inr ⟨rfl, rfl, gS, kS⟩, rfl⟩)
          case measure => simp [intOf]
        · (have z1 : wr.cell? ⟨g, 1, none⟩ = some (.int .u32 0) := by rw [cell_of_row _ _ 1 _ _ _ gZ.out]; rfl); (have z2 := row_free gZ.out 1); (have gS := hid (setCell_row gZ.out 1 (.int .u32 0))); (have kS := hid (kZ.out.setCell (a := ⟨g, 1, none⟩) (.inr hgl.out) (.int .u32 0))); (have HN := norm_any (.slice (some ⟨g, 0, none⟩) 2 2) [Z, 0] (wr.setCell ⟨g, 1, none⟩ (.int .u32 0)) (by simp) (row2 gS.out)); (rw [trim_two] at HN); (replace HN := hid HN); (try rw [hg]); (go_wp2_with fail); (with_reducible refine HN.out.mono ?_); (rintro e w5 ⟨v5, rfl, o5⟩); (have o6 := hid (o5.from_ kS.out)); (clear HN o5); (go_wp2); (go_ret); (exact ⟨_, rfl, o6.out⟩)
    by_cases hy0 : y = 0
    · (subst hy0); (obtain rfl : Z = x := by have := hZ.out; omega); (have lx : (nl Z).length = 1 := by rw [nl_len, if_neg hx0]); (have ly : (nl 0).length = 0 := by rw [nl_len, if_pos rfl]); (rw [lx] at r1 ⊢); (rw [ly] at r2 ⊢); (have hmk := makeU 2 (by decide) w2); (rw [show ((2 : Nat) : Int) = 2 from rfl] at hmk); (obtain ⟨w3, hw3, g3, k3⟩ := alloc_named w2 (.cells #[.int .u32 0, .int .u32 0] 202)); (obtain ⟨g, hg⟩ : ∃ g, w2.heap.size = g := ⟨_, rfl⟩); (rw [hg] at g3); (have hgl : Hd (w.heap.size ≤ g) := ⟨by have := hk2.out.size; omega⟩); (have g3' := hid g3); (have hk3 := hid (hk2.out.trans' k3)); (have HL1 := hid (limbx_any _ Z w3 hx (r1.out.kept k3))); (have HL2 := hid (limbx_any _ 0 w3 hy (r2.out.kept k3))); (replace hw3 := hid hw3); (clear k3 g3 r1 r2 lx ly hx hy); (go_wp2); (rw [← hw3.out]); (try rw [hg])
      go_loopw [7, 23] (fun c i wr => (i = .int .i64 0 ∧ c = .int .u64 0 ∧ wr = w3) ∨ (i = .int .i64 1 ∧ c = .int .u64 0 ∧ Hd (wr.heap[g]? = some (.cells #[.int .u32 (Z : Int), .int .u32 0] 202 (0, 0))) ∧ Hd (Kept no w wr))) (fun _ i _ => 1 - (intOf i).toNat)
      case atStart => first | exact .inl ⟨rfl, rfl, rfl⟩ | exact .inl ⟨rfl, rfl, trivial⟩
      case round =>
        rcases hrel with ⟨rfl, rfl, rfl⟩ | ⟨rfl, rfl, gZ, kZ⟩
        · (have z1 : wr.cell? ⟨g, 0, none⟩ = some (.int .u32 0) := by rw [cell_of_row _ _ 0 _ _ _ g3'.out]; rfl); (have z2 := row_free g3'.out 0); (have gS := hid (setCell_row g3'.out 0 (.int .u32 (Z : Int)))); (have kS := hid (hk3.out.setCell (a := ⟨g, 0, none⟩) (.inr hgl.out) (.int .u32 (Z : Int)))); (try rw [hg]); (go_wp2_with fail); (with_reducible refine HL1.out.mono ?_); (rintro e w4 ⟨rfl, h4⟩); (obtain rfl := h4.symm); (go_wp2_with fail); (with_reducible refine HL2.out.mono ?_); (rintro e w5 ⟨rfl, h5⟩); (obtain rfl := h5.symm); (go_wp2); (go_roundw)
          case rel => first | exact .inr ⟨rfl, rfl, gS, kS⟩ | ((repeat apply Exists.intro); exact ⟨.inr ⟨rfl, rfl, gS, kS⟩, rfl⟩)
          case measure => simp [intOf]
        · (have z1 : wr.cell? ⟨g, 1, none⟩ = some (.int .u32 0) := by rw [cell_of_row _ _ 1 _ _ _ gZ.out]; rfl); (have z2 := row_free gZ.out 1); (have gS := hid (setCell_row gZ.out 1 (.int .u32 0))); (have kS := hid (kZ.out.setCell (a := ⟨g, 1, none⟩) (.inr hgl.out) (.int .u32 0))); (have HN := norm_any (.slice (some ⟨g, 0, none⟩) 2 2) [Z, 0] (wr.setCell ⟨g, 1, none⟩ (.int .u32 0)) (by simp) (row2 gS.out)); (rw [trim_two] at HN); (replace HN := hid HN); (try rw [hg]); (go_wp2_with fail); (with_reducible refine HN.out.mono ?_); (rintro e w5 ⟨v5, rfl, o5⟩); (have o6 := hid (o5.from_ kS.out)); (clear HN o5); (go_wp2); (go_ret); (exact ⟨_, rfl, o6.out⟩)
    (have lx : (nl x).length = 1 := by rw [nl_len, if_neg hx0]); (have ly : (nl y).length = 1 := by rw [nl_len, if_neg hy0]); (rw [lx] at r1 ⊢); (rw [ly] at r2 ⊢); (have hmk := makeU 2 (by decide) w2); (rw [show ((2 : Nat) : Int) = 2 from rfl] at hmk); (obtain ⟨w3, hw3, g3, k3⟩ := alloc_named w2 (.cells #[.int .u32 0, .int .u32 0] 202)); (obtain ⟨g, hg⟩ : ∃ g, w2.heap.size = g := ⟨_, rfl⟩); (rw [hg] at g3); (have hgl : Hd (w.heap.size ≤ g) := ⟨by have := hk2.out.size; omega⟩); (have g3' := hid g3); (have hk3 := hid (hk2.out.trans' k3)); (have HL1 := hid (limbx_any _ x w3 hx (r1.out.kept k3))); (have HL2 := hid (limbx_any _ y w3 hy (r2.out.kept k3))); (replace hw3 := hid hw3); (clear k3 g3 r1 r2 lx ly hx hy); (go_wp2); (rw [← hw3.out]); (try rw [hg])
    go_loopw [7, 23] (fun c i wr => (i = .int .i64 0 ∧ c = .int .u64 0 ∧ wr = w3) ∨ (i = .int .i64 1 ∧ c = .int .u64 0 ∧ Hd (wr.heap[g]? = some (.cells #[.int .u32 (Z : Int), .int .u32 0] 202 (0, 0))) ∧ Hd (Kept no w wr))) (fun _ i _ => 1 - (intOf i).toNat)
    case atStart => first | exact .inl ⟨rfl, rfl, rfl⟩ | exact .inl ⟨rfl, rfl, trivial⟩
    case round =>
      rcases hrel with ⟨rfl, rfl, rfl⟩ | ⟨rfl, rfl, gZ, kZ⟩
      · (have z1 : wr.cell? ⟨g, 0, none⟩ = some (.int .u32 0) := by rw [cell_of_row _ _ 0 _ _ _ g3'.out]; rfl); (have z2 := row_free g3'.out 0); (have gS := hid (setCell_row g3'.out 0 (.int .u32 (Z : Int)))); (have kS := hid (hk3.out.setCell (a := ⟨g, 0, none⟩) (.inr hgl.out) (.int .u32 (Z : Int)))); (try rw [hg]); (go_wp2_with fail); (with_reducible refine HL1.out.mono ?_); (rintro e w4 ⟨rfl, h4⟩); (obtain rfl := h4.symm); (go_wp2_with fail); (with_reducible refine HL2.out.mono ?_); (rintro e w5 ⟨rfl, h5⟩); (obtain rfl := h5.symm); (go_wp2); (go_roundw)
        case rel => first | exact .inr ⟨rfl, rfl, gS, kS⟩ | ((repeat apply Exists.intro); exact ⟨.inr ⟨rfl, rfl, gS, kS⟩, rfl⟩)
        case measure => simp [intOf]
      · (have z1 : wr.cell? ⟨g, 1, none⟩ = some (.int .u32 0) := by rw [cell_of_row _ _ 1 _ _ _ gZ.out]; rfl); (have z2 := row_free gZ.out 1); (have gS := hid (setCell_row gZ.out 1 (.int .u32 0))); (have kS := hid (kZ.out.setCell (a := ⟨g, 1, none⟩) (.inr hgl.out) (.int .u32 0))); (have HN := norm_any (.slice (some ⟨g, 0, none⟩) 2 2) [Z, 0] (wr.setCell ⟨g, 1, none⟩ (.int .u32 0)) (by simp) (row2 gS.out)); (rw [trim_two] at HN); (replace HN := hid HN); (try rw [hg]); (go_wp2_with fail); (with_reducible refine HN.out.mono ?_); (rintro e w5 ⟨v5, rfl, o5⟩); (have o6 := hid (o5.from_ kS.out)); (clear HN o5); (go_wp2); (go_ret); (exact ⟨_, rfl, o6.out⟩)
end Go.Proofs.YtaobaaaihgahfaaGreat

/- nat.Sub, Mul at numbers of one limb (printed by gen_nat6.py). -/
namespace Go.Proofs.YtaobaaaihgahfaaGreat
open Go.RowKit Go.Mk Go.Pil Go.Nt
set_option maxRecDepth 20000 in
set_option maxHeartbeats 2000000 in
theorem natsub_any (va vb : Value) (x y : Nat) (w : World) (hx : x < 4294967296) (hy : y < 4294967296) (ha : RdX w va x) (hb : RdX w vb y) :
    Calls Tryz.prog 213 #[va, vb] w fun e w' => (x < y ∧ e = .returned (.tuple #[.slice none 0 0, .bool false]) ∧ Kept no w w') ∨ (y ≤ x ∧ ∃ v', e = .returned (.tuple #[v', .bool true]) ∧ OwU w w' v' (nl (x - y))) := by
  (have HT := hid (trimx_any va x w ha)); (have HT2 := hid (fun W (k : Kept no w W) => trimx_any vb y W (hb.kept k))); (clear ha hb)
  go_enter Tryz.func213, Tryz.ntmps213
  (go_wp2_with fail); (with_reducible refine HT.out.mono ?_); (rintro e w1 ⟨v1, rfl, r1, k1⟩); (go_wp2_with fail); (with_reducible refine (HT2.out w1 k1).mono ?_); (rintro e w2 ⟨v2, rfl, r2, k2⟩); (have HC := hid (natcmp_any v1 v2 x y w2 (r1.kept k2) r2)); (replace r1 := hid (r1.kept k2)); (have hk2 := hid (k1.trans' k2)); (replace r2 := hid r2); (clear HT HT2 k1 k2); (go_wp2_with fail); (with_reducible refine HC.out.mono ?_); (rintro e w3 ⟨rfl, k3⟩); (have hk3 := hid (hk2.out.trans' k3)); (replace r1 := hid (r1.out.kept k3)); (replace r2 := hid (r2.out.kept k3)); (obtain ⟨a1, c1, rfl⟩ := RdU.shape r1.out); (obtain ⟨a2, c2, rfl⟩ := RdU.shape r2.out); (clear HC k3 hk2)
  by_cases hlt : x < y
  · (have hcv : cmpN x y = -1 := by unfold cmpN; rw [if_pos hlt]); (rw [hcv]); (have hlt' := hid hlt); (clear hcv hlt r1 r2); (go_wp2); (go_ret2); (exact .inl ⟨hlt'.out, rfl, hk3.out⟩)
  · (have hcn : ¬ cmpN x y < 0 := by unfold cmpN; rw [if_neg hlt]; split <;> decide); (have hcd : decide (cmpN x y < 0) = false := decide_eq_false hcn); (obtain ⟨C, hC⟩ : ∃ C, cmpN x y = C := ⟨_, rfl⟩); (rw [hC] at hcn hcd ⊢); (have hle : Hd (y ≤ x) := ⟨by omega⟩); (obtain ⟨Z, hZ⟩ : ∃ z, x - y = z := ⟨_, rfl⟩)
    by_cases hx0 : x = 0
    · (subst hx0); (obtain rfl : y = 0 := by omega); (have l0 : (nl 0).length = 0 := rfl); (rw [l0] at r1 r2 ⊢); (have hmk := makeU 0 (by decide) w3); (rw [show ((0 : Nat) : Int) = 0 from rfl] at hmk); (obtain ⟨w4, hw4, g4, k4⟩ := alloc_named w3 (.cells #[] 202)); (obtain ⟨g, hg⟩ : ∃ g, w3.heap.size = g := ⟨_, rfl⟩); (rw [hg] at g4); (have HN := norm_any (.slice (some ⟨g, 0, none⟩) 0 0) [] w4 (by simp) (row0 g4)); (rw [show trimN [] = nl 0 from rfl] at HN); (replace HN := hid HN); (have hk4 := hid (hk3.out.trans' k4)); (replace hw4 := hid hw4); (clear k4 g4 hC hlt r1 r2 hZ); (go_wp2); (rw [← hw4.out]); (try rw [hg])
      go_loopw [7, 23] (fun c i wr => i = .int .i64 0 ∧ c = .int .u64 0 ∧ wr = w4) (fun _ _ _ => 0)
      case atStart => first | exact ⟨rfl, rfl, rfl⟩ | exact ⟨rfl, rfl, trivial⟩
      case round =>
        (obtain ⟨rfl, rfl, rfl⟩ := hrel); (go_wp2_with fail); (with_reducible refine HN.out.mono ?_); (rintro e w5 ⟨v5, rfl, o5⟩); (have o6 := hid (o5.from_ hk4.out)); (clear HN o5); (go_wp2); (go_ret2); (exact .inr ⟨hle.out, _, rfl, o6.out⟩)
    · (obtain ⟨A, hA⟩ : ∃ A : Nat, A = 4294967296 + x := ⟨_, rfl⟩); (obtain ⟨B, hB⟩ : ∃ B : Nat, B = 4294967296 + Z := ⟨_, rfl⟩); (have f1 : (4294967296 : Int) + (x : Int) = (A : Int) := by omega); (have f2 : (A : Int) % 18446744073709551616 = (A : Int) := by omega); (have f3 : (A : Int) - (y : Int) = (B : Int) := by omega); (have f4 : (B : Int) % 18446744073709551616 = (B : Int) := by omega); (have f5 : (B : Int) % 4294967296 = (Z : Int) := by omega); (have f6 : (B : Int) / 4294967296 = 1 := by omega); (have lx : (nl x).length = 1 := by rw [nl_len, if_neg hx0]); (rw [lx] at r1 ⊢); (obtain ⟨ly, hly⟩ : ∃ l, (nl y).length = l := ⟨_, rfl⟩); (rw [hly] at r2 ⊢); (have hmk := makeU 1 (by decide) w3); (rw [show ((1 : Nat) : Int) = 1 from rfl] at hmk); (obtain ⟨w4, hw4, g4, k4⟩ := alloc_named w3 (.cells #[.int .u32 0] 202)); (obtain ⟨g, hg⟩ : ∃ g, w3.heap.size = g := ⟨_, rfl⟩); (rw [hg] at g4); (have hgl : Hd (w.heap.size ≤ g) := ⟨by have := hk3.out.size; omega⟩); (have HL1 := hid (limbx_any _ x w4 hx (r1.out.kept k4))); (have HL2 := hid (limbx_any _ y w4 hy (r2.out.kept k4))); (have hk4 := hid (hk3.out.trans' k4)); (have g4' := hid g4); (replace hw4 := hid hw4); (replace hZ := hid hZ); (clear k4 g4 hC hlt r1 r2 lx hly hx hy hA hB); (go_wp2); (rw [← hw4.out]); (try rw [hg])
      go_loopw [7, 23] (fun c i wr => (i = .int .i64 0 ∧ c = .int .u64 0 ∧ wr = w4) ∨ (i = .int .i64 1 ∧ c = .int .u64 0 ∧ Hd (wr.heap[g]? = some (.cells #[.int .u32 (Z : Int)] 202 (0, 0))) ∧ Hd (Kept no w wr))) (fun _ i _ => 1 - (intOf i).toNat)
      case atStart => first | exact .inl ⟨rfl, rfl, rfl⟩ | exact .inl ⟨rfl, rfl, trivial⟩
      case round =>
        rcases hrel with ⟨rfl, rfl, rfl⟩ | ⟨rfl, rfl, gZ, kZ⟩
        · (have z1 : wr.cell? ⟨g, 0, none⟩ = some (.int .u32 0) := by rw [cell_of_row _ _ 0 _ _ _ g4'.out]; rfl); (have z2 := row_free g4'.out 0); (have gS := hid (setCell_row g4'.out 0 (.int .u32 (Z : Int)))); (have kS := hid (hk4.out.setCell (a := ⟨g, 0, none⟩) (.inr hgl.out) (.int .u32 (Z : Int)))); (go_wp2_with fail); (with_reducible refine HL1.out.mono ?_); (rintro e w5 ⟨rfl, h5⟩); (obtain rfl := h5.symm); (go_wp2_with fail); (with_reducible refine HL2.out.mono ?_); (rintro e w6 ⟨rfl, h6⟩); (obtain rfl := h6.symm); (go_wp2); (go_roundw)
          case rel => first | exact .inr ⟨rfl, rfl, gS, kS⟩ | ((repeat apply Exists.intro); exact ⟨.inr ⟨rfl, rfl, gS, kS⟩, rfl⟩)
          case measure => simp [intOf]
        · (have HN := norm_any (.slice (some ⟨g, 0, none⟩) 1 1) [Z] wr (by simp) (row1 gZ.out)); (rw [trim_one] at HN); (replace HN := hid HN); (go_wp2_with fail); (with_reducible refine HN.out.mono ?_); (rintro e w5 ⟨v5, rfl, o5⟩); (have o6 := hid (o5.from_ kZ.out)); (clear HN o5); (go_wp2); (go_ret2); (exact .inr ⟨hle.out, _, rfl, by rw [hZ.out]; exact o6.out⟩)
set_option maxRecDepth 20000 in
set_option maxHeartbeats 2000000 in
theorem natmul_any (va vb : Value) (x y : Nat) (w : World) (hx : x < 4294967296) (hy : y < 4294967296) (hxy : x * y < 4294967296) (ha : RdX w va x) (hb : RdX w vb y) :
    Calls Tryz.prog 172 #[va, vb] w fun e w' => ∃ v', e = .returned v' ∧ OwU w w' v' (nl (x * y)) := by
  (have HT := hid (trimx_any va x w ha)); (have HT2 := hid (fun W (k : Kept no w W) => trimx_any vb y W (hb.kept k))); (obtain ⟨Z, hZ⟩ : ∃ z, x * y = z := ⟨_, rfl⟩); (rw [hZ] at hxy ⊢); (have hz0 : ((x * y : Nat) : Int) = (Z : Int) := by rw [hZ]); (have hz1 : (x : Int) * (y : Int) = (Z : Int) := by rw [← hz0]; simp); (have hz2 : (Z : Int) % 18446744073709551616 = (Z : Int) := by omega); (have hz3 : (Z : Int) % 4294967296 = (Z : Int) := by omega); (have hz4 : (Z : Int) / 4294967296 = 0 := by omega); (have hz5 : (x : Int) % 18446744073709551616 = (x : Int) := by omega); (have hz6 : (y : Int) % 18446744073709551616 = (y : Int) := by omega); (replace hZ := hid hZ); (clear ha hb hz0)
  go_enter Tryz.func172, Tryz.ntmps172
  (go_wp2_with fail); (with_reducible refine HT.out.mono ?_); (rintro e w1 ⟨v1, rfl, r1, k1⟩); (go_wp2_with fail); (with_reducible refine (HT2.out w1 k1).mono ?_); (rintro e w2 ⟨v2, rfl, r2, k2⟩); (replace r1 := hid (r1.kept k2)); (have hk2 := hid (k1.trans' k2)); (obtain ⟨a1, c1, rfl⟩ := RdU.shape r1.out); (obtain ⟨a2, c2, rfl⟩ := RdU.shape r2); (replace r2 := hid r2); (clear HT HT2 k1 k2)
  by_cases hx0 : x = 0
  · (subst hx0); (obtain rfl : Z = 0 := by rw [← hZ.out, Nat.zero_mul]); (have l0 : (nl 0).length = 0 := rfl); (rw [l0] at r1 ⊢)
    by_cases hy0 : y = 0
    · (subst hy0); (rw [l0] at r2 ⊢); (have hmk := makeU 0 (by decide) w2); (rw [show ((0 : Nat) : Int) = 0 from rfl] at hmk); (obtain ⟨w3, hw3, g3, k3⟩ := alloc_named w2 (.cells #[] 202)); (obtain ⟨g, hg⟩ : ∃ g, w2.heap.size = g := ⟨_, rfl⟩); (rw [hg] at g3); (have hgl : Hd (w.heap.size ≤ g) := ⟨by have := hk2.out.size; omega⟩); (have hk3 := hid (hk2.out.trans' k3)); (have g3' := hid g3); (have ka := hid k3); (replace hw3 := hid hw3); (clear k3 g3); (go_wp2); (rw [← hw3.out]); (try rw [hg]); (have HN := norm_any (.slice (some ⟨g, 0, none⟩) 0 0) [] w3 (by simp) (row0 g3'.out)); (rw [show trimN [] = nl 0 from rfl] at HN); (replace HN := hid HN)
      go_loopw [24] (fun i wr => i = .int .i64 0 ∧ wr = w3) (fun _ _ => 0)
      case atStart => first | exact ⟨rfl, rfl⟩ | exact ⟨rfl, trivial⟩
      case round =>
        (obtain ⟨rfl, rfl⟩ := hrel); (go_wp2_with fail); (with_reducible refine HN.out.mono ?_); (rintro e w5 ⟨v5, rfl, o5⟩); (have o6 := hid (o5.from_ hk3.out)); (clear HN o5); (go_wp2); (go_ret); (exact ⟨_, rfl, o6.out⟩)
    · (have ly : (nl y).length = 1 := by rw [nl_len, if_neg hy0]); (rw [ly] at r2 ⊢); (have hmk := makeU 1 (by decide) w2); (rw [show ((1 : Nat) : Int) = 1 from rfl] at hmk); (obtain ⟨w3, hw3, g3, k3⟩ := alloc_named w2 (.cells #[.int .u32 0] 202)); (obtain ⟨g, hg⟩ : ∃ g, w2.heap.size = g := ⟨_, rfl⟩); (rw [hg] at g3); (have hgl : Hd (w.heap.size ≤ g) := ⟨by have := hk2.out.size; omega⟩); (have hk3 := hid (hk2.out.trans' k3)); (have g3' := hid g3); (have ka := hid k3); (replace hw3 := hid hw3); (clear k3 g3); (go_wp2); (rw [← hw3.out]); (try rw [hg]); (have HN := norm_any (.slice (some ⟨g, 0, none⟩) 1 1) [0] w3 (by simp) (row1 g3'.out)); (rw [trim_one] at HN); (replace HN := hid HN)
      go_loopw [24] (fun i wr => i = .int .i64 0 ∧ wr = w3) (fun _ _ => 0)
      case atStart => first | exact ⟨rfl, rfl⟩ | exact ⟨rfl, trivial⟩
      case round =>
        (obtain ⟨rfl, rfl⟩ := hrel); (go_wp2_with fail); (with_reducible refine HN.out.mono ?_); (rintro e w5 ⟨v5, rfl, o5⟩); (have o6 := hid (o5.from_ hk3.out)); (clear HN o5); (go_wp2); (go_ret); (exact ⟨_, rfl, o6.out⟩)
  · (have lx : (nl x).length = 1 := by rw [nl_len, if_neg hx0]); (obtain ⟨b1, o1, rfl, q1⟩ := RdU.at (zs := [x]) (by have := r1.out; unfold RdX at this; rw [nl_pos hx0] at this; exact this) 0 (by simp)); (have q1 : w2.cell? ⟨b1, o1, none⟩ = some (.int .u32 (x : Int)) := q1); (replace q1 := hid q1); (rw [lx] at r1 ⊢)
    by_cases hy0 : y = 0
    · (subst hy0); (obtain rfl : Z = 0 := by rw [← hZ.out, Nat.mul_zero]); (have l0 : (nl 0).length = 0 := rfl); (rw [l0] at r2 ⊢); (have hmk := makeU 1 (by decide) w2); (rw [show ((1 : Nat) : Int) = 1 from rfl] at hmk); (obtain ⟨w3, hw3, g3, k3⟩ := alloc_named w2 (.cells #[.int .u32 0] 202)); (obtain ⟨g, hg⟩ : ∃ g, w2.heap.size = g := ⟨_, rfl⟩); (rw [hg] at g3); (have hgl : Hd (w.heap.size ≤ g) := ⟨by have := hk2.out.size; omega⟩); (have hk3 := hid (hk2.out.trans' k3)); (have g3' := hid g3); (have ka := hid k3); (replace hw3 := hid hw3); (clear k3 g3); (go_wp2); (rw [← hw3.out]); (try rw [hg])
      go_loopw [24] (fun i wr => (i = .int .i64 0 ∧ wr = w3) ∨ (i = .int .i64 1 ∧ Hd (wr.heap[g]? = some (.cells #[.int .u32 0] 202 (0, 0))) ∧ Hd (Kept no w wr))) (fun i _ => 1 - (intOf i).toNat)
      case atStart => first | exact .inl ⟨rfl, rfl⟩ | exact .inl ⟨rfl, trivial⟩
      case round =>
        rcases hrel with ⟨rfl, rfl⟩ | ⟨rfl, gZ, kZ⟩
        · (obtain ⟨W, hW⟩ : ∃ W, W = wr := ⟨_, rfl⟩); (subst hW); (have m1 := ka.out.cell q1.out id); (go_wp2)
          go_loopw [8, 31] (fun c i wz => i = .int .i64 0 ∧ c = .int .u64 0 ∧ wz = W) (fun _ _ _ => 0)
          case atStart => first | exact ⟨rfl, rfl, rfl⟩ | exact ⟨rfl, rfl, trivial⟩
          case round =>
            (obtain ⟨rfl, rfl, hwz⟩ := hrel); (obtain rfl := hwz.symm); (have z1 := (by rw [cell_of_row _ _ 0 _ _ _ g3'.out]; rfl : W.cell? ⟨g, 0, none⟩ = some (.int .u32 0))); (have z2 := row_free g3'.out 0); (have gS := hid (setCell_row g3'.out 0 (.int .u32 0))); (have kS := hid (hk3.out.setCell (a := ⟨g, 0, none⟩) (.inr hgl.out) (.int .u32 0))); (go_wp2); (go_roundw)
            case rel => first | exact .inr ⟨rfl, gS, kS⟩ | ((repeat apply Exists.intro); exact ⟨.inr ⟨rfl, gS, kS⟩, rfl⟩)
            case measure => simp [intOf]
        · (have HN := norm_any (.slice (some ⟨g, 0, none⟩) 1 1) [0] wr (by simp) (row1 gZ.out)); (rw [trim_one] at HN); (replace HN := hid HN); (go_wp2_with fail); (with_reducible refine HN.out.mono ?_); (rintro e w5 ⟨v5, rfl, o5⟩); (have o6 := hid (o5.from_ kZ.out)); (clear HN o5); (go_wp2); (go_ret); (exact ⟨_, rfl, o6.out⟩)
    · (have ly : (nl y).length = 1 := by rw [nl_len, if_neg hy0]); (obtain ⟨b2, o2, rfl, q2⟩ := RdU.at (zs := [y]) (by have := r2.out; unfold RdX at this; rw [nl_pos hy0] at this; exact this) 0 (by simp)); (have q2 : w2.cell? ⟨b2, o2, none⟩ = some (.int .u32 (y : Int)) := q2); (replace q2 := hid q2); (rw [ly] at r2 ⊢); (have hmk := makeU 2 (by decide) w2); (rw [show ((2 : Nat) : Int) = 2 from rfl] at hmk); (obtain ⟨w3, hw3, g3, k3⟩ := alloc_named w2 (.cells #[.int .u32 0, .int .u32 0] 202)); (obtain ⟨g, hg⟩ : ∃ g, w2.heap.size = g := ⟨_, rfl⟩); (rw [hg] at g3); (have hgl : Hd (w.heap.size ≤ g) := ⟨by have := hk2.out.size; omega⟩); (have hk3 := hid (hk2.out.trans' k3)); (have g3' := hid g3); (have ka := hid k3); (replace hw3 := hid hw3); (clear k3 g3); (go_wp2); (rw [← hw3.out]); (try rw [hg])
      go_loopw [24] (fun i wr => (i = .int .i64 0 ∧ wr = w3) ∨ (i = .int .i64 1 ∧ Hd (wr.heap[g]? = some (.cells #[.int .u32 (Z : Int), .int .u32 0] 202 (0, 0))) ∧ Hd (Kept no w wr))) (fun i _ => 1 - (intOf i).toNat)
      case atStart => first | exact .inl ⟨rfl, rfl⟩ | exact .inl ⟨rfl, trivial⟩
      case round =>
        rcases hrel with ⟨rfl, rfl⟩ | ⟨rfl, gZ, kZ⟩
        · (obtain ⟨W, hW⟩ : ∃ W, W = wr := ⟨_, rfl⟩); (subst hW); (have m1 := ka.out.cell q1.out id); (go_wp2)
          go_loopw [8, 31] (fun c i wz => (i = .int .i64 0 ∧ c = .int .u64 0 ∧ wz = W) ∨ (i = .int .i64 1 ∧ c = .int .u64 0 ∧ Hd (wz.heap[g]? = some (.cells #[.int .u32 (Z : Int), .int .u32 0] 202 (0, 0))) ∧ Hd (Kept no w wz))) (fun _ i _ => 1 - (intOf i).toNat)
          case atStart => first | exact .inl ⟨rfl, rfl, rfl⟩ | exact .inl ⟨rfl, rfl, trivial⟩
          case round =>
            rcases hrel with ⟨rfl, rfl, hwz⟩ | ⟨rfl, rfl, gY, kY⟩
            · (obtain rfl := hwz.symm); (have m2 := ka.out.cell q2.out id); (have z1 := (by rw [cell_of_row _ _ 0 _ _ _ g3'.out]; rfl : W.cell? ⟨g, 0, none⟩ = some (.int .u32 0))); (have z2 := row_free g3'.out 0); (have gS := hid (setCell_row g3'.out 0 (.int .u32 (Z : Int)))); (have kS := hid (hk3.out.setCell (a := ⟨g, 0, none⟩) (.inr hgl.out) (.int .u32 (Z : Int)))); (go_wp2); (go_roundw)
              case rel => first | exact .inr ⟨rfl, rfl, gS, kS⟩ | ((repeat apply Exists.intro); exact ⟨.inr ⟨rfl, rfl, gS, kS⟩, rfl⟩)
              case measure => simp [intOf]
            · (have z1 := (by rw [cell_of_row _ _ 1 _ _ _ gY.out]; rfl : wr.cell? ⟨g, 1, none⟩ = some (.int .u32 0))); (have z2 := row_free gY.out 1); (have gS := hid (setCell_row gY.out 1 (.int .u32 0))); (have kS := hid (kY.out.setCell (a := ⟨g, 1, none⟩) (.inr hgl.out) (.int .u32 0))); (go_wp2); (go_roundw)
              case rel => first | exact .inr ⟨rfl, gS, kS⟩ | ((repeat apply Exists.intro); exact ⟨.inr ⟨rfl, gS, kS⟩, rfl⟩)
              case measure => simp [intOf]
        · (have HN := norm_any (.slice (some ⟨g, 0, none⟩) 2 2) [Z, 0] wr (by simp) (row2 gZ.out)); (rw [trim_two] at HN); (replace HN := hid HN); (go_wp2_with fail); (with_reducible refine HN.out.mono ?_); (rintro e w5 ⟨v5, rfl, o5⟩); (have o6 := hid (o5.from_ kZ.out)); (clear HN o5); (go_wp2); (go_ret); (exact ⟨_, rfl, o6.out⟩)
end Go.Proofs.YtaobaaaihgahfaaGreat
