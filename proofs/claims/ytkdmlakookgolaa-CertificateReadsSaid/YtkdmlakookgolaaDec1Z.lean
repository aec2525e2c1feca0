/- Reading numbers: certificate.number, numbers. -/
import Derived.Test.YtkdmlakookgolaaEncLZ
namespace Go.Proofs.Ytkdmlakookgolaa
open Go.RowKit Go.Mk Go.Pil Go.Mg
theorem pre_slice8 (av : Option Addr) (lv cv m : Nat) (hav : cv = 0 ∨ ∃ b o, av = some ⟨b, o, none⟩) (hm : m ≤ cv) (w : World) : (Instr.slice 45 (.slice av lv cv) none (some (.int .i64 (m : Int))) none).run Try.prog w = .ok (.slice av m cv) w := by
  (have h0 : (0 : Int) ≤ (m : Int) := by omega); (have hc : Try.prog.underlying 45 = some (.slice 5) := by kernel_rfl)
  rcases hav with rfl | ⟨b, o, rfl⟩
  · obtain rfl : m = 0 := by omega
    simp [Instr.slice, Instr.sliceBounds, Instr.sliceBound, run_underlying hc, asIntOf]
  · simp [Instr.slice, Instr.sliceBounds, Instr.sliceBound, run_underlying hc, asIntOf, h0]
    (have e : (⟨b, o, none⟩ : Addr).add 0 = ⟨b, o, none⟩ := by simp [Addr.add]); (rw [if_pos hm, e]; simp)
theorem post_slice8 (av : Option Addr) (lv cv m : Nat) (hm : m ≤ lv) (w : World) : (Instr.slice 45 (.slice av lv cv) (some (.int .i64 (m : Int))) none none).run Try.prog w = .ok (.slice (if cv = m then av else av.map (·.add m)) (lv - m) (cv - m)) w := by
  (have h0 : (0 : Int) ≤ (m : Int) := by omega); (have hc : Try.prog.underlying 45 = some (.slice 5) := by kernel_rfl); (obtain ⟨i, hi, hz, hs, hb⟩ := info_parts (P := Try.prog) (e := 5) (z := .int .u8 0) (size := 1) (bytes := 1) (by kernel_rfl)); (have h1 : (m : Int) ≤ (lv : Int) := by omega)
  simp [Instr.slice, Instr.sliceBounds, Instr.sliceBound, run_underlying hc, asIntOf, h0, sizeOf, typeInfo, hi, hs, hm]
/-- A slice that reads as bytes. -/
def Rd8 (w : World) (v : Value) (xs : List UInt8) : Prop := Rd w 1 v xs.length (xs.map B8)
theorem Rd8.take {w : World} {ao : Option Addr} {n cap : Nat} {zs : List UInt8} (h : Rd8 w (.slice ao n cap) zs) (k : Nat) (hk : k ≤ zs.length) : Rd8 w (.slice ao k cap) (zs.take k) := by
  obtain ⟨hl, _, _, e, h1, h2, h3⟩ := h
  cases e
  (have hlk : (zs.take k).length = k := by rw [List.length_take]; omega); (refine ⟨by simp, ao, cap, by rw [hlk], by omega, h2, h3.imp id fun ⟨b, o, e, hc⟩ => ⟨b, o, e, fun j u hj => hc j u ?_⟩⟩); (rw [List.map_take, List.getElem?_take] at hj)
  split at hj
  · exact hj
  · cases hj
theorem Rd8.drop {w : World} {ao : Option Addr} {n cap : Nat} {zs : List UInt8} (h : Rd8 w (.slice ao n cap) zs) (m : Nat) (hm : m ≤ zs.length) : Rd8 w (.slice (if cap = m then ao else ao.map (·.add m)) (zs.length - m) (cap - m)) (zs.drop m) := by
  obtain ⟨hl, _, _, e, h1, h2, h3⟩ := h
  cases e
  (have hd : (zs.drop m).length = zs.length - m := by simp); (refine ⟨by simp, _, _, by rw [hd], by rw [hd]; omega, by omega, ?_⟩)
  by_cases hc : cap = m
  · exact .inl (by omega)
  · rcases h3 with h3 | ⟨b, o, rfl, hcc⟩
    · exact .inl (by omega)
    · refine .inr ⟨b, o + m, ?_, fun j u hj => ?_⟩
      · (rw [if_neg hc]); (simp only [Option.map_some, Addr.add])
        split
        · rename_i e0; subst e0; simp
        · rfl
      · (rw [List.map_drop, List.getElem?_drop] at hj); (have := hcc (m + j) u hj); (rw [Nat.add_assoc]; exact this)
theorem Rd8.at {w : World} {ao : Option Addr} {n cap : Nat} {zs : List UInt8} (h : Rd8 w (.slice ao n cap) zs) (k : Nat) (hk : k < zs.length) :
    ∃ b o, ao = some ⟨b, o, none⟩ ∧ w.cell? ⟨b, o + k, none⟩ = some (.int .u8 ((zs.getD k 0).toNat : Int)) := by
  obtain ⟨_, _, _, e, h1, _, h | ⟨b, o, rfl, hc⟩⟩ := h
  · cases e; omega
  · cases e
    (refine ⟨b, o, rfl, hc k _ ?_⟩); (rw [List.getElem?_map, List.getElem?_eq_getElem hk, List.getD_eq_getElem?_getD, List.getElem?_eq_getElem hk]; rfl)
theorem Rd8.addr {w : World} {ao : Option Addr} {n cap : Nat} {zs : List UInt8} (h : Rd8 w (.slice ao n cap) zs) : cap = 0 ∨ ∃ b o, ao = some ⟨b, o, none⟩ := by
  obtain ⟨_, _, _, e, _, _, h | ⟨b, o, rfl, _⟩⟩ := h
  · cases e; exact .inl h
  · cases e; exact .inr ⟨b, o, rfl⟩
theorem valB_take {xs : List UInt8} {i : Nat} (h : i < xs.length) : valB (xs.take (i + 1)) = valB (xs.take i) * 256 + (xs.getD i 0).toNat := by
  rw [List.take_succ_eq_append_getElem h, valB_snoc, List.getD_eq_getElem?_getD, List.getElem?_eq_getElem h]; rfl
theorem valB_lt (xs : List UInt8) : valB xs < 256 ^ xs.length := (enc_val' xs).2
theorem i64_push (n : Nat) (x : UInt8) (h : n < 72057594037927) : bits .or .i64 (wrap64 ((n : Int) * 256)) (wrap64 (x.toNat : Int)) = ((n * 256 + x.toNat : Nat) : Int) := by
  (have hx := x.toNat_lt); (have e1 : wrap64 ((n : Int) * 256) = ((n * 256 : Nat) : Int) := by rw [show wrap64 ((n : Int) * 256) = (n : Int) * 256 from IntWalk.wrap64_in _ (by omega)]; omega); (have e2 : wrap64 (x.toNat : Int) = ((x.toNat : Nat) : Int) := IntWalk.wrap64_in _ (by omega)); (rw [e1, e2])
  have o1 : ∀ a : Nat, a < 18446744073709551616 → (BitVec.ofInt 64 (a : Int)).toNat = a := fun a ha => by
    rw [BitVec.ofInt_natCast, BitVec.toNat_ofNat]; exact Nat.mod_eq_of_lt (by omega)
  show IntKind.i64.wrap ((BitVec.ofInt 64 ((n * 256 : Nat) : Int) ||| BitVec.ofInt 64 ((x.toNat : Nat) : Int)).toNat : Int) = _
  have e3 : n * 256 ||| x.toNat = n * 256 + x.toNat := by
    (rw [show n * 256 = n <<< 8 by rw [Nat.shiftLeft_eq]]); (exact (Nat.shiftLeft_add_eq_or_of_lt (by omega) n).symm)
  (rw [BitVec.toNat_or, o1 _ (by omega), o1 _ (by omega), e3]); (exact IntWalk.i64_in _ (by omega))
theorem Rd8.keptC {S : Nat → Prop} {w w' : World} {a : Option Addr} {n c : Nat} {xs : List UInt8} (h : Rd8 w (.slice a n c) xs) (hk : Kept S w w') (hc : xs = [] ∨ ∀ q, a = some q → ¬ S q.block) : Rd8 w' (.slice a n c) xs := by
  rcases hc with rfl | hc
  · obtain ⟨h1, a', cap, e, h2, h3, h4 | ⟨b, o, e2, _⟩⟩ := h
    · exact ⟨h1, _, _, e, h2, h3, .inl h4⟩
    · exact ⟨h1, _, _, e, h2, h3, .inr ⟨b, o, e2, fun j u hu => by simp at hu⟩⟩
  · refine Rd.kept h hk fun k hk' => ?_
    cases a with
    | none => cases hk'
    | some q => exact (Option.some.inj hk') ▸ hc q rfl
/-- A block that holds a slice which reads as xs. -/
def InB (w : World) (GB : Nat) (xs : List UInt8) : Prop := ∃ a c, w.heap[GB]? = some (.cells #[.slice a xs.length c] 45 (0, 0)) ∧ Rd8 w (.slice a xs.length c) xs ∧ (xs = [] ∨ ∀ q, a = some q → q.block < GB)
/-- What number and numbers do: what is left behind. -/
def Left (w w' : World) (GB : Nat) (ys : List UInt8) : Prop := InB w' GB ys ∧ Kept (fun j => j = GB) w w'
set_option maxRecDepth 100000 in
set_option maxHeartbeats 2000000 in
theorem cnumber_any (GB : Nat) (xs : List UInt8) (k : Nat) (w : World) (hI : InB w GB xs) (hk : k ≤ 4) (hl : xs.length ≤ 100000000) :
    Calls Try.prog 104 #[.pointer (some ⟨GB, 0, none⟩), .int .i64 (k : Int)] w fun e w' => ∃ ys, Left w w' GB ys ∧ ((rdN k xs = none ∧ e = .returned (.tuple #[.int .i64 0, .bool false])) ∨ ∃ v : Nat, rdN k xs = some (v, ys) ∧ e = .returned (.tuple #[.int .i64 (v : Int), .bool true])) := by
  (have hI0 := hid hI); (obtain ⟨a, c, hg, hx, hne⟩ := hI); (have d0 : w.cell? ⟨GB, 0, none⟩ = some (.slice a xs.length c) := by rw [cell_of_row w _ 0 _ _ _ hg]; rfl)
  by_cases hkx : xs.length < k
  · (have hki : (xs.length : Int) < (k : Int) := by omega); (have hv : Hd (rdN k xs = none) := ⟨by unfold rdN; rw [if_pos hkx]⟩); (clear hg hx hne)
    go_enter Try.func104, Try.ntmps104
    (go_wp2); (go_ret2); (exact ⟨xs, ⟨hI0.out, Kept.refl _ _⟩, .inl ⟨hv.out, rfl⟩⟩)
  (have hcap : xs.length ≤ c := by obtain ⟨_, _, _, e, h1, _⟩ := hx; cases e; exact h1); (have hsl := pre_slice8 a xs.length c k hx.addr (by omega)); (have hsl2 := post_slice8 a xs.length c k (by omega)); (have hf := row_free hg 0); (have hkn : ¬ (xs.length : Int) < (k : Int) := by omega); (have hR := hid (hx.take k (by omega))); (have hD := hid (hx.drop k (by omega))); (have hlt : Hd ((xs.take k).length = k) := ⟨by rw [List.length_take]; omega⟩); (have hv : Hd (rdN k xs = some (valB (xs.take k), xs.drop k)) := ⟨by unfold rdN; rw [if_neg hkx]⟩); (have hld : Hd ((xs.drop k).length = xs.length - k) := ⟨by rw [List.length_drop]⟩); (obtain ⟨a2, ha2⟩ : ∃ a2, (if c = k then a else a.map (·.add k)) = a2 := ⟨_, rfl⟩); (obtain ⟨c2, hc2⟩ : ∃ c2, c - k = c2 := ⟨_, rfl⟩); (obtain ⟨l2, hl2⟩ : ∃ l2, xs.length - k = l2 := ⟨_, rfl⟩)
  have hne2 : Hd (xs.drop k = [] ∨ ∀ q, a2 = some q → q.block < GB) := ⟨by
    rcases hne with rfl | hne
    · exact .inl List.drop_nil
    · (refine .inr fun q h => ?_); (rw [← ha2] at h)
      split at h
      · exact hne q h
      · cases a with
        | none => cases h
        | some q0 =>
          have h1 := Option.some.inj h
          have h2 : q.block = q0.block := by
            (rw [← h1]); (simp only [Addr.add])
            split <;> rfl
          rw [h2]
          exact hne _ rfl⟩
  (rw [ha2, hc2, hl2] at hsl2 hD); (rw [hl2] at hld)
  have hlt' : Hd (∀ j, j < k → valB ((xs.take k).take j) < 72057594037927) := ⟨fun j hj => by
    (have h1 := valB_lt ((xs.take k).take j)); (have h2 : ((xs.take k).take j).length ≤ 3 := by rw [List.length_take, List.length_take]; omega); (have h3 : 256 ^ ((xs.take k).take j).length ≤ 256 ^ 3 := Nat.pow_le_pow_right (by decide) h2)
    omega⟩
  (replace hg := hid hg); (clear hI0 hx hne ha2 hc2 hl2)
  go_enter Try.func104, Try.ntmps104
  go_wp2
  go_loopw [6, 21] (fun n i wr => ∃ j : Nat, j ≤ k ∧ i = .int .i64 (j : Int) ∧ n = .int .i64 (valB ((xs.take k).take j) : Int) ∧ wr = w) (fun _ i _ => k - (intOf i).toNat)
  case atStart => exact ⟨0, by omega, rfl, rfl, rfl⟩
  case round =>
    obtain ⟨j, hj, rfl, rfl, rfl⟩ := hrel
    by_cases hjl : j < k
    · (have hj1 : (j : Int) < (k : Int) := by omega); (have hj0 : (0 : Int) ≤ (j : Int) := by omega); (obtain ⟨b, o, rfl, hc⟩ := hR.out.at j (by rw [hlt.out]; exact hjl)); (have hnx := valB_take (xs := xs.take k) (i := j) (by rw [hlt.out]; exact hjl)); (have hpu := i64_push (valB ((xs.take k).take j)) ((xs.take k).getD j 0) (hlt'.out j hjl)); (rw [← hnx] at hpu); (obtain ⟨n0, hn0⟩ : ∃ n0, valB ((xs.take k).take j) = n0 := ⟨_, rfl⟩); (obtain ⟨n1, hn1⟩ : ∃ n1, valB ((xs.take k).take (j + 1)) = n1 := ⟨_, rfl⟩); (obtain ⟨b0, hb0⟩ : ∃ b0, ((xs.take k).getD j 0).toNat = b0 := ⟨_, rfl⟩); (rw [hn0, hn1, hb0] at hpu); (rw [hb0] at hc); (rw [hn0]); (replace hn1 := hid hn1); (clear hnx hn0 hb0); (go_wp2); (go_roundw)
      case rel => first | exact ⟨j + 1, by omega, by go_num, by rw [hn1.out], trivial⟩ | exact ⟨j + 1, by omega, by go_num, by rw [hn1.out], rfl⟩ | ((repeat apply Exists.intro); exact ⟨⟨j + 1, by omega, by go_num, by rw [hn1.out], rfl⟩, rfl⟩)
      case measure => simp [intOf]; omega
    · (obtain rfl : j = k := by omega); (have ht : (xs.take j).take j = xs.take j := by rw [List.take_take, Nat.min_self]); (rw [ht])
      have hL : Hd (Left wr (wr.setCell ⟨GB, 0, none⟩ (.slice a2 l2 c2)) GB (xs.drop j)) := ⟨by
        (have kS := (Kept.refl (fun j => j = GB) wr).setCell (a := ⟨GB, 0, none⟩) (.inl rfl) (.slice a2 l2 c2)); (refine ⟨⟨a2, c2, ?_, ?_, hne2.out⟩, kS⟩)
        · (rw [hld.out]); (exact setCell_row hg.out 0 _)
        · (have h := hD.out); (rw [← hld.out] at h)
          exact h.keptC kS (hne2.out.imp id fun h q hq e => by have := h q hq; have e' : q.block = GB := e; omega)⟩
      (go_wp2); (go_ret2); (exact ⟨_, hL.out, .inr ⟨_, hv.out, rfl⟩⟩)
theorem InB.kept {S : Nat → Prop} {w w' : World} {GB : Nat} {ys : List UInt8} (h : InB w GB ys) (hk : Kept S w w') (hG : ¬ S GB) (hS : ∀ j, j < GB → ¬ S j) : InB w' GB ys := by
  (obtain ⟨a, c, h1, h2, h3⟩ := h); (exact ⟨a, c, (hk.block _ (lt_of_heap h1) hG).trans h1, h2.keptC hk (h3.imp id fun h q hq => hS _ (h q hq)), h3⟩)
theorem InB.lt {w : World} {GB : Nat} {ys : List UInt8} (h : InB w GB ys) : GB < w.heap.size := by
  (obtain ⟨a, c, h1, _⟩ := h); (exact lt_of_heap h1)
end Go.Proofs.Ytkdmlakookgolaa
namespace Go.Mg
theorem rdNs_app : ∀ (a b : List Nat) (xs : List UInt8), rdNs (a ++ b) xs = match rdNs a xs with
    | none => none
    | some (vs, ys) => match rdNs b ys with
      | none => none
      | some (us, zs) => some (vs ++ us, zs)
  | [], b, xs => by
    show rdNs b xs = match rdNs b xs with | none => none | some (us, zs) => some ([] ++ us, zs)
    cases rdNs b xs with
    | none => rfl
    | some p => rfl
  | k :: a, b, xs => by
    show rdNs (k :: (a ++ b)) xs = _
    rw [rdNs, rdNs]
    cases rdN k xs with
    | none => rfl
    | some p =>
      (obtain ⟨v, ys⟩ := p); (simp only); (rw [rdNs_app a b ys])
      cases rdNs a ys with
      | none => rfl
      | some p =>
        (obtain ⟨vs, zs⟩ := p); (simp only)
        cases rdNs b zs with
        | none => rfl
        | some p => rfl
theorem rdNs_none {ks : List Nat} {xs : List UInt8} {vs : List Nat} {ys : List UInt8} {j : Nat} (hj : j < ks.length) (h : rdNs (ks.take j) xs = some (vs, ys)) (hn : rdN (ks.getD j 0) ys = none) : rdNs ks xs = none := by
  have e : ks = ks.take j ++ (ks.getD j 0 :: ks.drop (j + 1)) := by
    rw [List.getD_eq_getElem?_getD, List.getElem?_eq_getElem hj]
    show ks = ks.take j ++ (ks[j] :: ks.drop (j + 1))
    rw [← List.drop_eq_getElem_cons hj, List.take_append_drop]
  (rw [e, rdNs_app, h]); (simp only); (rw [rdNs, hn])
theorem rdNs_next {ks : List Nat} {xs : List UInt8} {vs : List Nat} {ys zs : List UInt8} {v j : Nat} (hj : j < ks.length) (h : rdNs (ks.take j) xs = some (vs, ys)) (hn : rdN (ks.getD j 0) ys = some (v, zs)) : rdNs (ks.take (j + 1)) xs = some (vs ++ [v], zs) := by
  (rw [List.take_succ_eq_append_getElem hj, rdNs_app, h]); (simp only); (rw [List.getD_eq_getElem?_getD, List.getElem?_eq_getElem hj] at hn); (have hn' : rdN ks[j] ys = some (v, zs) := hn); (rw [rdNs, hn'])
  rfl
end Go.Mg
namespace Go.Proofs.Ytkdmlakookgolaa
open Go.RowKit Go.Mk Go.Pil Go.Mg
def Zn (l : List Nat) : List Int := l.map fun n : Nat => (n : Int)
theorem Zn_len (l : List Nat) : (Zn l).length = l.length := by unfold Zn; rw [List.length_map]
/-- Numbers of one's own, beside a block that changed. -/
structure OwK (w w' : World) (v : Value) (vs : List Nat) : Prop where
  own : w'.ownsRow 0 3 1 v (Zn vs).length ((Zn vs).map Z)
  new : New w v
theorem rdN_short {k v : Nat} {xs ys : List UInt8} (h : rdN k xs = some (v, ys)) : ys.length ≤ xs.length := by
  unfold rdN at h
  split at h
  · cases h
  · (obtain ⟨_, rfl⟩ := Prod.mk.inj (Option.some.inj h)); (rw [List.length_drop]; omega)
theorem rdNs_short : ∀ {ks vs : List Nat} {xs ys : List UInt8}, rdNs ks xs = some (vs, ys) → ys.length ≤ xs.length ∧ vs.length = ks.length
  | ks, vs, xs, ys, h => by
    (obtain ⟨e, f⟩ := rdNs_inv _ _ _ _ h); (exact ⟨by rw [e, List.length_append]; omega, fitNs_len _ _ f⟩)
set_option maxRecDepth 100000 in
set_option maxHeartbeats 2000000 in
theorem numbers_any (GB : Nat) (xs : List UInt8) (vk : Value) (ks : List Nat) (w : World) (hI : InB w GB xs) (hk : ∀ k ∈ ks, k ≤ 4) (hkl : ks.length ≤ 300) (hl : xs.length ≤ 100000000) (hvk : RdZ w vk (Zn ks)) (hvo : ∀ j, ob vk j → j ≠ GB) :
    Calls Try.prog 65 #[.pointer (some ⟨GB, 0, none⟩), vk] w fun e w' => ∃ ys, Left w w' GB ys ∧ ((rdNs ks xs = none ∧ e = .returned (.tuple #[.slice none 0 0, .bool false])) ∨ ∃ vs v', rdNs ks xs = some (vs, ys) ∧ e = .returned (.tuple #[v', .bool true]) ∧ OwK w w' v' vs) := by
  (obtain ⟨ak, ck, rfl, _, _⟩ := Rd.shape2 hvk); (obtain ⟨n, hn⟩ : ∃ n, ks.length = n := ⟨_, rfl⟩); (rw [show (Zn ks).length = n by rw [Zn_len, hn]] at hvk hvo ⊢); (have hGw := hI.lt); (replace hn := hid hn); (replace hI := hid hI); (replace hvk := hid hvk); (replace hvo := hid hvo); (have hkn : n ≤ 300 := by rw [← hn.out]; exact hkl); (replace hk := hid hk); (clear hkl)
  go_enter Try.func65, Try.ntmps65
  go_wp2
  go_loopw [6, 13] (fun out i wr => ∃ (j : Nat) (vs : List Nat) (ys : List UInt8), j ≤ n ∧ i = .int .i64 (j : Int) ∧ Hd (rdNs (ks.take j) xs = some (vs, ys)) ∧ Hd (Left w wr GB ys) ∧ Hd (OwK w wr out vs)) (fun _ i _ => n - (intOf i).toNat)
  case atStart => exact ⟨0, [], xs, by omega, rfl, ⟨rfl⟩, ⟨⟨hI.out, Kept.refl _ _⟩⟩, ⟨⟨World.ownsRow_nil _ _ _ _, .inl rfl⟩⟩⟩
  case round =>
    obtain ⟨j, vs, ys, hj, rfl, hrd, hL, hO⟩ := hrel
    by_cases hjl : j < n
    · (have hj1 : (j : Int) < (n : Int) := by omega); (have hj0 : (0 : Int) ≤ (j : Int) := by omega); (have hvr : RdZ wr (.slice ak n ck) (Zn ks) := Rd.kept hvk.out hL.out.2 fun q hq e => hvo.out q hq e); (obtain ⟨b, o, rfl, hc⟩ := RdZ.at hvr j (by rw [Zn_len, hn.out]; exact hjl))
      have hkj : (Zn ks).getD j 0 = ((ks.getD j 0 : Nat) : Int) := by
        (unfold Zn); (rw [List.getD_eq_getElem?_getD, List.getD_eq_getElem?_getD, List.getElem?_map, List.getElem?_eq_getElem (by rw [hn.out]; exact hjl)]; rfl)
      (rw [hkj] at hc); (have hk4 := hk.out (ks.getD j 0) (by rw [List.getD_eq_getElem?_getD, List.getElem?_eq_getElem (by rw [hn.out]; exact hjl)]; exact List.getElem_mem _)); (have hnone := hid (fun h => rdNs_none (ks := ks) (j := j) (by rw [hn.out]; exact hjl) hrd.out h)); (have hnext := hid (fun v zs (h : rdN (ks.getD j 0) ys = some (v, zs)) => rdNs_next (ks := ks) (j := j) (by rw [hn.out]; exact hjl) hrd.out h)); (have hsh := rdNs_short hrd.out); (have hvl : vs.length = j := by rw [hsh.2, List.length_take, hn.out]; omega); (generalize ks.getD j 0 = k at hc hk4 hnone hnext); (have HN := hid (cnumber_any GB ys k wr hL.out.1 hk4 (by omega))); (clear hrd hvr hkj hsh); (go_wp2_with fail); (with_reducible refine HN.out.mono ?_); (rintro e w2 ⟨zs, hL2, hres⟩); (have hLw : Hd (Left w w2 GB zs) := ⟨⟨hL2.1, hL.out.2.trans hL2.2 fun _ _ h => h⟩⟩)
      rcases hres with ⟨hno, rfl⟩ | ⟨v, hyes, rfl⟩
      · (have hv := hid (hnone.out hno)); (clear hnone hnext HN hL2 hno hc hL); (go_wp2); (go_ret2); (exact ⟨zs, hLw.out, .inl ⟨hv.out, rfl⟩⟩)
      · have hv := hid (hnext.out v zs hyes)
        have hO2 : Hd (w2.ownsRow 0 3 1 u6 (Zn vs).length ((Zn vs).map Z)) := ⟨hL2.2.ownsRow hO.out.own fun q hq e => by
          (have := hO.out.new.fr (Nat.le_refl _) q hq); (have e' : q = GB := e)
          omega⟩
        have hs : Hd ((Zn vs).length + 1 ≤ maxLen ∧ ((Zn vs).length + 1) * 8 ≤ 140737488355328) := ⟨by
          (rw [Zn_len]); (have hm : maxLen = 9223372036854775807 := rfl)
          omega⟩
        (clear hnone hnext HN hL2 hyes hc hL); (go_wp2_with (at_builtin; refine wpList_append_lit _ rfl _ _ 40 rfl 3 1 8 TInts _ _ _ rfl hO2.out 1 [_] rfl rfl ?c1 ?c2 ?c3 ?_))
        case c1 => simp [Value.oneCell']
        case c2 => exact hs.out.1
        case c3 => exact hs.out.2
        (intro v' w5 h2 h3 h4 _); (have hsz : w.heap.size ≤ w2.heap.size := hLw.out.2.size)
        have hL5 : Hd (Left w w5 GB zs) := ⟨by
          (have hG : ¬ ob u6 GB := fun e => by have := hO.out.new.fr (Nat.le_refl _) GB e; omega); (have hS : ∀ q, q < GB → ¬ ob u6 q := fun q hq e => by have := hO.out.new.fr (Nat.le_refl _) q e; omega); (refine ⟨hLw.out.1.kept h3 hG hS, hLw.out.2.trans h3 fun q hq e => ?_⟩); (have := hO.out.new.fr (Nat.le_refl _) q e)
          omega⟩
        have hO5 : Hd (OwK w w5 v' (vs ++ [v])) := ⟨by
          refine ⟨?_, ?_⟩
          · (rw [Zn_len, List.length_append]); (rw [Zn_len] at h2); (unfold Zn at h2 ⊢); (rw [List.map_append, List.map_append]; exact h2)
          · rcases h4 with h4 | ⟨q, h5, h6⟩
            · rcases hO.out.new with h5 | ⟨q, h5, h6⟩
              · exact .inl (h4.trans h5)
              · exact .inr ⟨q, h4.trans h5, h6⟩
            · exact .inr ⟨q, h5, by omega⟩⟩
        (clear h2 h3 h4 hO2 hs hLw hO); (go_wp2); (go_roundw)
        case rel => first | exact ⟨j + 1, _, zs, by omega, by go_num, hv, hL5, hO5⟩ | ((repeat apply Exists.intro); exact ⟨⟨j + 1, _, zs, by omega, by go_num, hv, hL5, hO5⟩, rfl⟩)
        case measure => simp [intOf]; omega
    · (obtain rfl : j = n := by omega); (have hj1 : ¬ (j : Int) < (j : Int) := by omega); (have hv : Hd (rdNs ks xs = some (vs, ys)) := ⟨by have := hrd.out; rwa [List.take_of_length_le (by rw [hn.out]; exact Nat.le_refl _)] at this⟩); (clear hrd); (go_wp2); (go_ret2); (first | exact ⟨ys, hL.out, .inr ⟨vs, _, hv.out, rfl, hO.out⟩⟩ | exact ⟨ys, hL.out, .inr ⟨vs, hv.out, hO.out⟩⟩ | exact ⟨ys, hL.out, .inr ⟨vs, hv.out, _, rfl, hO.out⟩⟩ | exact ⟨ys, hL.out, vs, hv.out, hO.out⟩)
end Go.Proofs.Ytkdmlakookgolaa
