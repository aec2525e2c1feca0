/- electionref04.Sum returns the SHA-256 digest of its message (up to 2^40 bytes). -/
import Derived.Test.YtggcbjchnefhfaaDoorRefBlock
import Derived.Test.YtggcbjchnefhfaaDoorJoin
namespace Go.Mk
theorem wpStill_load_row {P : Program} {ops : Array Oper} {rest : List Oper} {o : Oper} {a : Act} {w : World} {Q : Act → Prop} (hgd : o.guard = none) (ty : TypeId) (x : Operand) (ho : o.op = .load ty x)
    (g : Nat) (hx : a.eval x = .pointer (some ⟨g, 0, none⟩)) (t : TypeId) (cs : Array Value) (fr : Nat × Nat) (d : TypeDesc) (hg : w.heap[g]? = some (.cells cs t fr))
    (hu : P.underlying ty = some d) (hd : (match d with | .struct _ | .array _ _ => true | _ => false) = true) (hi : (P.info? ty).map (·.size) = some cs.size)
    (h : wpStill P ops w Q rest (a.put o.dst (.agg cs))) : wpStill P ops w Q (o :: rest) a := by
  unfold wpStill
  rw [if_pos (by simp [Region.wanted, hgd])]
  unfold Oper.still execOp
  simp only [ho, hx, Instr.loadAt, Instr.sureAddr, Sem.run_bind, Sem.run_pure, Result.andThen_ok, run_loadVar_row w g t ty cs fr d hg hu hd hi]
  rw [Oper.stillUpon_value]
  exact h
/-- An array of n bytes in a block of its own. -/
def arrB (f : Nat → UInt8) (n : Nat) : Array Value := ((List.range n).map fun j => B (f j)).toArray
theorem arrB_cell {w : World} {g n : Nat} {t : TypeId} {f : Nat → UInt8} (h : w.heap[g]? = some (.cells (arrB f n) t (0, 0))) (j : Nat) (hj : j < n) : w.cell? ⟨g, j, none⟩ = some (.int .u8 ((f j).toNat : Int)) := by
  rw [cell_of_row w g j _ t (0, 0) h]; simp [arrB, hj, B]
theorem arrB_set {f f' : Nat → UInt8} {n j : Nat} {x : UInt8} (hj : f' j = x) (h : ∀ i, i < n → i ≠ j → f' i = f i) : (arrB f n).setIfInBounds j (B x) = arrB f' n := by
  apply Array.ext_getElem?
  intro i
  rw [Array.getElem?_setIfInBounds]
  by_cases e : j = i
  · subst e
    rw [if_pos rfl]
    by_cases hn : j < n
    · simp [arrB, hn, hj]
    · simp [arrB, hn]
  · rw [if_neg e]
    by_cases hn : i < n
    · simp [arrB, hn, h i hn (Ne.symm e)]
    · simp [arrB, hn]
theorem arrB_list {f : Nat → UInt8} {l : List UInt8} {n : Nat} (hl : l.length = n) (h : ∀ i, i < n → f i = l.getD i 0) : arrB f n = (l.map B).toArray := by
  unfold arrB
  congr 1
  apply List.ext_getElem
  · simp [hl]
  · intro i h1 h2
    simp at h1 h2
    rw [List.getElem_map, List.getElem_map, List.getElem_range, h i h1, List.getD_eq_getElem?_getD, List.getElem?_eq_getElem h2]
    rfl
end Go.Mk
namespace Go.Proofs.YtggcbjchnefhfaaDoor
open Go.RowKit Go.Mk Go.Sha
def TabR (w : World) : Prop := ∀ i, i < 64 → w.cell? ⟨1, i, none⟩ = some (.int .u32 ((K.getD i 0).toNat : Int))
theorem TabR.kept {w w' : World} (h : TabR w) (hk : Kept no w w') : TabR w' := fun i hi => hk.cell (h i hi) id
def Z32 : Array Value := #[.int .u8 0, .int .u8 0, .int .u8 0, .int .u8 0, .int .u8 0, .int .u8 0, .int .u8 0, .int .u8 0, .int .u8 0, .int .u8 0, .int .u8 0, .int .u8 0, .int .u8 0, .int .u8 0, .int .u8 0, .int .u8 0,
 .int .u8 0, .int .u8 0, .int .u8 0, .int .u8 0, .int .u8 0, .int .u8 0, .int .u8 0, .int .u8 0, .int .u8 0, .int .u8 0, .int .u8 0, .int .u8 0, .int .u8 0, .int .u8 0, .int .u8 0, .int .u8 0]
theorem Z32_arr : Z32 = arrB (fun _ => 0) 32 := by kernel_rfl
theorem sum_byte (st : St) (i : Nat) (hi : i < 32) : (st.list.flatMap fun x => be x.toNat 4).getD i 0 = UInt8.ofNat ((st.list.getD (i / 4) 0).toNat / 2 ^ (24 - 8 * (i % 4))) := by
  obtain ⟨a, b, c, d, e, f, g, h⟩ := st
  rcases (show i = 0 ∨ i = 1 ∨ i = 2 ∨ i = 3 ∨ i = 4 ∨ i = 5 ∨ i = 6 ∨ i = 7 ∨ i = 8 ∨ i = 9 ∨ i = 10 ∨ i = 11 ∨ i = 12 ∨ i = 13 ∨ i = 14 ∨ i = 15 ∨ i = 16 ∨ i = 17 ∨ i = 18 ∨ i = 19 ∨ i = 20 ∨ i = 21 ∨ i = 22 ∨ i = 23 ∨ i = 24 ∨ i = 25 ∨ i = 26 ∨ i = 27 ∨ i = 28 ∨ i = 29 ∨ i = 30 ∨ i = 31 by omega) with
    rfl | rfl | rfl | rfl | rfl | rfl | rfl | rfl | rfl | rfl | rfl | rfl | rfl | rfl | rfl | rfl | rfl | rfl | rfl | rfl | rfl | rfl | rfl | rfl | rfl | rfl | rfl | rfl | rfl | rfl | rfl | rfl <;> rfl
theorem first16_take (n : Nat) : ∀ b : List UInt8, first16 n (b.take (4 * n)) = first16 n b := by
  induction n with
  | zero => intro b; rfl
  | succ n ih =>
    intro b
    match b with
    | [] => simp
    | [a] => simp [first16, Nat.mul_add]
    | [a, b] => simp [first16, Nat.mul_add]
    | [a, b, c] => simp [first16, Nat.mul_add]
    | a :: b :: c :: d :: r =>
      rw [show 4 * (n + 1) = 4 * n + 1 + 1 + 1 + 1 by omega]
      simp only [List.take_succ_cons, first16, ih]
theorem mix_take (st : St) (b : List UInt8) (_ : 64 ≤ b.length) : mix st (b.take 64) = mix st b := by
  unfold mix sched
  rw [show (64 : Nat) = 4 * 16 from rfl, first16_take 16 b]
/-- What the block loop keeps. -/
structure SX (w0 : World) (gh g : Nat) (cur : Array Value) (st : St) (w : World) : Prop where
  fz : w.heap[w0.heap.size]? = some (.cells Z32 43 (0, 0))
  fh : w.heap[gh]? = some (.cells (cells8 st) 81 (0, 0))
  fg : w.heap[g]? = some (.cells cur 5 (0, 0))
  kept : Kept no w0 w
  lt : w0.heap.size < gh
theorem SX.trans {w0 : World} {gh g : Nat} {cur : Array Value} {st : St} {w w' : World} (R : SX w0 gh g cur st w) (hk : Kept no w w') : SX w0 gh g cur st w' :=
  ⟨(hk.block _ (lt_of_heap R.fz) id).trans R.fz, (hk.block _ (lt_of_heap R.fh) id).trans R.fh, (hk.block _ (lt_of_heap R.fg) id).trans R.fg, R.kept.trans' hk, R.lt⟩
theorem SX.set {w0 : World} {gh g : Nat} {cur : Array Value} {st : St} {w : World} (R : SX w0 gh g cur st w) (st' : St) : SX w0 gh g cur st' (w.setRow gh (cells8 st')) :=
  ⟨by rw [setRow_other _ _ _ _ (by have := R.lt; omega)]; exact R.fz, setRow_heap _ _ _ _ _ _ R.fh, by rw [setRow_other _ _ _ _ (blocks_ne R.fg R.fh (by decide))]; exact R.fg, R.kept.setRow (.inr (Nat.le_of_lt R.lt)) _, R.lt⟩
/-- What the loop over the digest's bytes keeps. -/
structure SD (w0 : World) (gh gd : Nat) (st : St) (f : Nat → UInt8) (w : World) : Prop where
  fz : w.heap[w0.heap.size]? = some (.cells Z32 43 (0, 0))
  fh : w.heap[gh]? = some (.cells (cells8 st) 81 (0, 0))
  fd : w.heap[gd]? = some (.cells (arrB f 32) 43 (0, 0))
  kept : Kept no w0 w
  lt : w0.heap.size < gh
  lt2 : gh < gd
set_option maxRecDepth 100000 in
set_option maxHeartbeats 1000000 in
theorem refsum_any (v : Value) (xs : List UInt8) (w : World) (hl : xs.length ≤ 1099511000000) (hr : Rd w 1 v xs.length (xs.map B)) (hT : TabR w) :
    Calls Tryd.prog 49 #[v] w fun e w' => e = .returned (Dg (sum xs)) ∧ Kept no w w' := by
  obtain ⟨ao, cap, rfl⟩ : ∃ ao cap, v = .slice ao xs.length cap := by obtain ⟨_, ao, cap, h, _⟩ := hr; exact ⟨ao, cap, h⟩
  replace hT := hid hT
  replace hr := hid hr
  go_enter Tryd.func49, Tryd.ntmps49
  go_upto_region 1 with fail
  obtain ⟨wz, hwz, gz, kz, zz⟩ : ∃ wz, wz = w.alloc (.cells Z32 43) ∧ wz.heap[w.heap.size]? = some (.cells Z32 43 (0,0)) ∧ Kept no w wz ∧ wz.heap.size = w.heap.size + 1 :=
    ⟨_, rfl, heap_alloc_new _ _, (Kept.refl no w).alloc _, by simp⟩
  have hrz := hid (hr.out.keptNo kz)
  unfold Z32 at hwz
  rw [← hwz]
  clear hwz
  replace gz := hid gz
  go_wp2_with (at_builtin; refine wpList_append _ rfl _ _ 53 rfl 5 1 1 TBytes _ _ _ rfl (World.ownsRow_nil _ _ _ _) _ _ _ rfl hrz.out (B_one xs) ?c1 ?c2 ?_)
  case c1 => unfold maxLen; omega
  case c2 => omega
  intro v1 w1 o1 k1 n1 _
  have kz1 : Kept no wz w1 := k1.mono fun k _ e => by simp [ob, Value.ownBlock] at e
  have nz1 : New wz v1 := by
    rcases n1 with h | h
    · exact .inl h
    · exact .inr h
  clear k1 n1
  have o1 : w1.ownsRow 0 5 1 v1 xs.length (xs.map B) := by simpa using o1
  go_wp2_with (at_builtin; refine wpList_append_lit _ rfl _ _ 53 rfl 5 1 1 TBytes _ _ _ rfl o1 1 [_] rfl rfl ?c1 ?c2 ?c3 ?_)
  case c1 => simp [Value.oneCell']
  case c2 => unfold maxLen; omega
  case c3 => omega
  intro v2 w2 ho2 hk2 hn2 _
  rw [B128] at ho2
  have hN := nz1.step hn2 kz1.size
  have hK := nz1.kept kz1 hk2
  clear kz1 nz1 hk2 hn2 o1
  have ho2 : w2.ownsRow 0 5 1 v2 (xs.length + 1 + 0) ((xs ++ 128 :: List.replicate 0 0).map B) := by simpa using ho2
  go_wp2
  go_loopw [3] (fun v3 wr => ∃ j, j ≤ zeros xs.length ∧ wr.ownsRow 0 5 1 v3 (xs.length + 1 + j) ((xs ++ 128 :: List.replicate j 0).map B) ∧ Kept no wz wr ∧ New wz v3)
    (fun v3 _ => 1099511628000 - (match v3 with | .slice _ n _ => n | _ => 0))
  case atStart => exact ⟨0, Nat.zero_le _, ho2, hK, hN⟩
  case round =>
    clear ho2 hK hN
    obtain ⟨j, hj, ho, hK, hN⟩ := hrel
    have hz := zeros_lt xs.length
    obtain ⟨a3, c3, rfl⟩ : ∃ a c, u3 = Value.slice a (xs.length + 1 + j) c := by
      obtain ⟨_, ⟨rfl, h⟩ | ⟨g, c, _, rfl, _⟩⟩ := ho
      · omega
      · exact ⟨_, _, rfl⟩
    by_cases hlt : j < zeros xs.length
    · have hne := zeros_next xs.length j hlt
      go_wp2_with (at_builtin; refine wpList_append_lit _ rfl _ _ 53 rfl 5 1 1 TBytes _ _ _ rfl ho 1 [_] rfl rfl ?c1 ?c2 ?c3 ?_)
      case c1 => simp [Value.oneCell']
      case c2 => unfold maxLen; omega
      case c3 => omega
      intro v4 w4 ho4 hk4 hn4 _
      rw [B0] at ho4
      have ho4 : w4.ownsRow 0 5 1 v4 (xs.length + 1 + (j + 1)) ((xs ++ 128 :: List.replicate (j + 1) 0).map B) := by
        simpa [List.replicate_succ', Nat.add_assoc] using ho4
      have hN' := hN.step hn4 hK.size
      have hK' := hN.kept hK hk4
      have hv4 : ∃ a c, v4 = Value.slice a (xs.length + 1 + (j + 1)) c := by
        obtain ⟨_, ⟨rfl, h⟩ | ⟨g, c, _, rfl, _⟩⟩ := ho4
        · omega
        · exact ⟨_, _, rfl⟩
      clear hk4 hn4 hK hN ho
      go_wp2
      go_roundw
      case rel => exact ⟨j + 1, by omega, ho4, hK', hN'⟩
      case measure => obtain ⟨a, c, rfl⟩ := hv4; simp; omega
    · obtain rfl : j = zeros xs.length := by omega
      have he := zeros_last xs.length
      have hbe : (((xs.length : Int) + 1 + (zeros xs.length : Int)) % 64 != 56) = false := by rw [bne_eq_false_iff_eq]; omega
      have hu := len_u64 xs.length (by omega)
      have hp : Hd ((xs ++ 128 :: List.replicate (zeros xs.length) 0) ++ be (8 * xs.length) 8 = padded xs) := ⟨by simp [padded]⟩
      have hlen : Hd ((xs ++ 128 :: List.replicate (zeros xs.length) 0).length = xs.length + 1 + zeros xs.length) := ⟨by simp; omega⟩
      have ho : Hd (wr.ownsRow 0 5 1 (.slice a3 (xs.length + 1 + zeros xs.length) c3) ((xs ++ 128 :: List.replicate (zeros xs.length) 0).length + ([] : List UInt8).length) (((xs ++ 128 :: List.replicate (zeros xs.length) 0) ++ []).map B)) := ⟨by rw [hlen.out]; simpa using ho⟩
      obtain ⟨wo, rfl⟩ : ∃ wo : World, wo = wr := ⟨_, rfl⟩
      generalize xs ++ 128 :: List.replicate (zeros xs.length) 0 = ys at ho hp hlen
      clear hlt hj
      replace hK := hid hK
      replace hN := hid hN
      go_wp2
      obtain ⟨N, hNe, hNv⟩ : ∃ N : Nat, (xs.length : Int) * 8 = (N : Int) ∧ N = 8 * xs.length := ⟨8 * xs.length, by omega, rfl⟩
      rw [hNe]
      rw [← hNv] at hp
      clear hNe
      replace hNv := hid hNv
      go_loopw [3, 5] (fun v' i wr => ∃ (j : Nat) (acc : List UInt8), j ≤ 8 ∧ i = .int .i64 ((j : Int) - 1) ∧ Hd (acc ++ be N j = be N 8) ∧ acc.length + j = 8 ∧ Hd (wr.ownsRow 0 5 1 v' (ys.length + acc.length) ((ys ++ acc).map B)) ∧ Hd (Kept no wz wr) ∧ Hd (New wz v'))
        (fun _ i _ => (intOf i + 1).toNat)
      case atStart => exact ⟨8, [], by omega, rfl, ⟨rfl⟩, by simp, ho, hK, hN⟩
      case round =>
        clear ho hK hN
        obtain ⟨j, acc, hj, rfl, Hacc, hal, ho, hK, hN⟩ := hrel
        have hyl : ys.length ≤ 1099511000064 := by have := hlen.out; omega
        by_cases hj0 : j = 0
        · subst hj0
          have hfin : Hd (wr.ownsRow 0 5 1 u3 (padded xs).length ((padded xs).map B)) := ⟨by
            have h1 : acc = be N 8 := by have := Hacc.out; rwa [show be N 0 = [] from rfl, List.append_nil] at this
            have := ho.out
            rw [h1, hp.out] at this
            rwa [show ys.length + (be N 8).length = (padded xs).length by rw [← hp.out, List.length_append]] at this⟩
          clear Hacc ho hyl he hz hrz hr hlen hp hNv
          clear o1 ho2 zz
          have hPm := padded_mod xs
          have hpos : 0 < (padded xs).length := by rw [padded_length]; omega
          have hPl : (padded xs).length ≤ 1099511600000 := by rw [padded_length]; have := zeros_lt xs.length; omega
          obtain ⟨nb, hnb⟩ : ∃ nb, (padded xs).length = 64 * nb := ⟨(padded xs).length / 64, by omega⟩
          have hsum := hid (show sum xs = (blocks ((padded xs).length / 64) H0 (padded xs)).list.flatMap fun x => be x.toNat 4 from rfl)
          rw [hnb, Nat.mul_div_cancel_left _ (by decide)] at hsum
          generalize padded xs = L at hfin hnb hsum hPl hpos
          obtain ⟨g, c2, cur, rfl, hg, hcc1, hcc2, hcc3⟩ : ∃ g c2 cur, u3 = .slice (some ⟨g, 0, none⟩) L.length c2 ∧ Hd (wr.heap[g]? = some (.cells cur 5 (0, 0))) ∧ L.length ≤ c2 ∧ c2 ≤ maxLen ∧ Hd (cur.toList.take L.length = L.map B) := by
            obtain ⟨_, ⟨rfl, h⟩ | ⟨g, c, cur, rfl, _, h1, h2, h3, _, h4⟩⟩ := hfin.out
            · rw [h] at hpos; omega
            · exact ⟨g, c, cur, rfl, ⟨h1⟩, by omega, h3, ⟨by rw [← h4]; simp⟩⟩
          have gz1 := hid ((hK.out.block _ (lt_of_heap gz.out) id).trans gz.out)
          have kr := hid (kz.trans' hK.out)
          have lz := lt_of_heap gz1.out
          clear hfin hN hPm hK gz
          go_wp2
          rw [cells8_H0]
          obtain ⟨wh, hwh, R0⟩ : ∃ wh, wh = wr.alloc (.cells (cells8 H0) 81) ∧ SX w wr.heap.size g cur H0 wh :=
            ⟨_, rfl, by rw [heap_alloc_old _ _ lz]; exact gz1.out, heap_alloc_new _ _, by rw [heap_alloc_old _ _ (lt_of_heap hg.out)]; exact hg.out, kr.out.alloc _, lz⟩
          rw [← hwh]
          clear hwh
          replace R0 := hid R0
          replace hnb := hid hnb
          clear gz1 kr hg
          generalize wr.heap.size = gh at R0 lz ⊢
          clear wr
          go_loopw [7] (fun c wr => ∃ (i : Nat) (st : St), i ≤ nb ∧ c = .int .i64 (64 * (i : Int)) ∧ Hd (blocks (nb - i) st (L.drop (64 * i)) = blocks nb H0 L) ∧ Hd (SX w gh g cur st wr))
            (fun c _ => (64 * (nb : Int) - intOf c).toNat)
          case atStart => exact ⟨0, H0, by omega, rfl, ⟨rfl⟩, R0⟩
          case round =>
            clear R0
            obtain ⟨i, st, hi, rfl, hb, R⟩ := hrel
            by_cases hlt : i < nb
            · have hLl := hnb.out
              have i1 : 64 * (i : Int) < (L.length : Int) := by omega
              have i2 : 64 * (i : Int) + 64 ≤ (c2 : Int) := by omega
              have i3 : (0 : Int) ≤ 64 * (i : Int) := by omega
              have i4 : IntKind.i64.wrap (64 * (i : Int) + 64) = 64 * (i : Int) + 64 := wrap64_small _ (by omega) (by omega)
              have i5 : (64 * (i : Int)).toNat = 64 * i := by omega
              have i6 : (64 * (i : Int) + 64).toNat = 64 * i + 64 := by omega
              have i7 : 64 * i < c2 := by omega
              have i8 : (0 : Int) ≤ 64 * (i : Int) + 64 := by omega
              have i9 : 64 * (i : Int) ≤ 64 * (i : Int) + 64 := by omega
              have i10 : ¬ c2 = 64 * i := by omega
              have hf := hid R.out.fh
              have hLd : (L.drop (64 * i)).length = 64 * (nb - i) := by rw [List.length_drop, hLl]; omega
              have hLb : ((L.drop (64 * i)).take 64).length = 64 := by rw [List.length_take, hLd]; omega
              have hM := block_any st g (64 * i) (c2 - 64 * i) ((L.drop (64 * i)).take 64) wr.drew (by omega) (by omega) (fun j u hu => by
                rw [show wr.drew.cell? ⟨g, 64 * i + j, none⟩ = wr.cell? ⟨g, 64 * i + j, none⟩ from rfl, cell_of_row wr g _ cur 5 (0, 0) R.out.fg]
                rw [List.map_take, List.getElem?_take] at hu
                split at hu
                · rw [List.map_drop, List.getElem?_drop, ← hcc3.out, List.getElem?_take] at hu
                  split at hu
                  · rw [← hu, Array.getElem?_toList]
                  · cases hu
                · cases hu) (fun k hk => R.out.kept.cell (hT.out k hk) id)
              rw [hLb, mix_take st _ (by omega)] at hM
              replace hM := hid hM
              have hb' := hb.out
              rw [show nb - i = (nb - (i + 1)) + 1 by omega, blocks, List.drop_drop, show 64 * i + 64 = 64 * (i + 1) by omega] at hb'
              replace hb' := hid hb'
              clear hLl hLd hLb hb
              go_wp2_with fail
              refine wp_region_still_tail 6 (by kernel_rfl) (by kernel_rfl) ?_
              simp only [List.take_succ_cons, List.take_zero, List.drop_succ_cons, List.drop_zero]
              refine wpStill_load_row rfl 81 _ rfl gh rfl 81 (cells8 st) _ _ hf.out Tryd.underlying81 rfl (infC st) ?_
              repeat still_step
              refine wpStill_nil ?_
              change wpList _ _ _ _ _ (World.drew _)
              clear i1 i5 i6 i7 i9 i10
              go_wp2_with fail
              refine hM.out.mono ?_
              rintro e w3 ⟨rfl, hk⟩
              have R1 := R.out.trans (((Kept.refl no wr).drew).trans' hk)
              have R' := hid (R1.set (mix st (L.drop (64 * i))))
              replace hf := hid R1.fh
              clear R R1 hM hk
              have hsz8 : Hd ((cells8 st).size = (cells8 (mix st (L.drop (64 * i)))).size) := ⟨by rw [cells8_size, cells8_size]⟩
              generalize mix st (L.drop (64 * i)) = st' at hb' R' hsz8 ⊢
              go_wp2_with (with_reducible refine wpList_store_row rfl 81 _ _ rfl gh (cells8 st') rfl rfl 81 _ hf.out (infC st') hsz8.out (cells8_one st') ?_)
              go_roundw
              case rel => first | exact ⟨i + 1, st', by omega, congrArg (Value.int .i64) (by omega), hb', R'⟩ | ((repeat apply Exists.intro); exact ⟨⟨i + 1, st', by omega, congrArg (Value.int .i64) (by omega), hb', R'⟩, rfl⟩)
              case measure => simp [intOf]; omega
            · obtain rfl : i = nb := by omega
              have hst := hb.out
              rw [Nat.sub_self] at hst
              have hst' : Hd (sum xs = st.list.flatMap fun x => be x.toNat 4) := ⟨by rw [hsum.out, ← hst]; rfl⟩
              have hge : ¬ (64 * (i : Int) < (L.length : Int)) := by have := hnb.out; omega
              clear hst hb hsum
              go_wp2
              have R1 := R.out
              have lgh := lt_of_heap R1.fh
              obtain ⟨wd, hwd, RD⟩ : ∃ wd, wd = wr.alloc (.cells Z32 43) ∧ SD w gh wr.heap.size st (fun _ => 0) wd :=
                ⟨_, rfl, by rw [heap_alloc_old _ _ (lt_of_heap R1.fz)]; exact R1.fz, by rw [heap_alloc_old _ _ lgh]; exact R1.fh, by rw [← Z32_arr]; exact heap_alloc_new _ _, R1.kept.alloc _, R1.lt, lgh⟩
              unfold Z32 at hwd
              rw [← hwd]
              clear hwd R R1 hnb hcc3
              replace RD := hid RD
              generalize wr.heap.size = gd at RD lgh ⊢
              clear wr
              go_loopw [9] (fun c wr => ∃ k : Nat, k ≤ 32 ∧ c = .int .i64 (k : Int) ∧ Hd (SD w gh gd st (fun j => if j < k then (sum xs).getD j 0 else 0) wr)) (fun c _ => 32 - (intOf c).toNat)
              case atStart => exact ⟨0, by omega, rfl, RD⟩
              case round =>
                clear RD
                obtain ⟨k, hk, rfl, R⟩ := hrel
                by_cases hlt : k < 32
                · have ch : wr.cell? ⟨gh, k / 4, none⟩ = some (.int .u32 ((st.list.getD (k / 4) 0).toNat : Int)) := by
                    have := R.out.fh
                    rw [cells8_arr] at this
                    exact arr_cell this (k / 4) (by omega)
                  have cd := arrB_cell R.out.fd k hlt
                  have fd := row_free R.out.fd k
                  have hb := sum_byte st k hlt
                  rw [← hst'.out] at hb
                  generalize st.list.getD (k / 4) 0 = x at ch hb
                  replace hb := hid hb
                  have j1 : (k : Int) / 4 < 8 := by omega
                  have j2 : IntKind.i64.wrap ((k : Int) / 4) = (k : Int) / 4 := wrap64_small _ (by omega) (by omega)
                  have j3 : (0 : Int) ≤ (k : Int) / 4 := by omega
                  have j4 : ((k : Int) / 4).toNat = k / 4 := by omega
                  have j5 : (k : Int) < 32 := by omega
                  go_wp2
                  have R' : Hd (SD w gh gd st (fun j => if j < k + 1 then (sum xs).getD j 0 else 0) (wr.setCell ⟨gd, k, none⟩ (B ((sum xs).getD k 0)))) := ⟨by
                    obtain ⟨g1, g2, g3, g4, g5, g6⟩ := R.out
                    refine ⟨by rw [Below.heap_setCell _ _ _ _ (by simp; omega)]; exact g1, by rw [Below.heap_setCell _ _ _ _ (by simp; omega)]; exact g2, ?_, g4.setCell (.inr (by simp only; omega)) _, g5, g6⟩
                    rw [row_set g3 k, arrB_set (f' := fun j => if j < k + 1 then (sum xs).getD j 0 else 0) (by simp) (fun i _ hne => by
                      by_cases hi : i < k
                      · simp only [hi, if_true, if_pos (show i < k + 1 by omega)]
                      · simp only [hi, if_false, if_neg (show ¬ i < k + 1 by omega)])]⟩
                  have eb : Value.int .u8 ((x.toNat : Int) / 2 ^ (24 - 8 * (k % 4)) % 256) = B ((sum xs).getD k 0) := by
                    rw [hb.out, ← B_of]; norm_cast
                  rw [eb]
                  clear eb hb ch cd fd R
                  go_roundw
                  case rel => first | exact ⟨k + 1, by omega, by go_num, R'⟩ | ((repeat apply Exists.intro); exact ⟨⟨k + 1, by omega, by go_num, R'⟩, rfl⟩)
                  case measure => simp [intOf]; omega
                · obtain rfl : k = 32 := by omega
                  obtain ⟨g1, g2, g3, g4, g5, g6⟩ := R.out
                  rw [arrB_list (l := sum xs) (sum_length _) (fun j hj => by simp [hj])] at g3
                  have h2 := hid (setRow_heap wr w.heap.size _ ((sum xs).map B).toArray _ _ g1)
                  have hold : Hd (Z32.size = ((sum xs).map B).toArray.size) := ⟨by rw [Dg_size]; rfl⟩
                  replace g1 := hid g1
                  replace g3 := hid g3
                  replace g4 := hid g4
                  clear R g2
                  go_wp2_with (first | (with_reducible refine wpList_load_row rfl 43 _ rfl gd rfl 43 _ _ _ g3.out Tryd.underlying43 rfl (Dg_inf _) ?_) | (with_reducible refine wpList_store_row rfl 43 _ _ rfl w.heap.size ((sum xs).map B).toArray rfl rfl 43 _ g1.out (Dg_inf _) hold.out (Dg_one _) ?_))
                  refine bodyPost_ret (v := Dg (sum xs)) ?_ rfl ?_
                  · exact results_cell_row rfl _ _ w.heap.size 43 ((sum xs).map B).toArray (0, 0) _ rfl h2.out Tryd.underlying43 rfl (Dg_inf _)
                  · exact ⟨rfl, g4.out.setRow (.inr (Nat.le_refl _)) _⟩
        · obtain ⟨m, rfl⟩ : ∃ m, j = m + 1 := ⟨j - 1, by omega⟩
          have hcast : (((m + 1 : Nat) : Int) - 1) = (m : Int) := by omega
          simp only [hcast]
          clear hcast
          have hsh : (8 * (m : Int)).toNat = 8 * m := by omega
          go_wp2_with (at_builtin; refine wpList_append_lit _ rfl _ _ 53 rfl 5 1 1 TBytes _ _ _ rfl ho.out 1 [_] rfl rfl ?c1 ?c2 ?c3 ?_)
          case c1 => simp [Value.oneCell']
          case c2 => unfold maxLen; omega
          case c3 => omega
          intro v' w' h2 h3 h4 _
          have h7 : Hd (w'.ownsRow 0 5 1 v' (ys.length + (acc ++ [UInt8.ofNat (N / 2 ^ (8 * m))]).length) ((ys ++ (acc ++ [UInt8.ofNat (N / 2 ^ (8 * m))])).map B)) := ⟨by
            have e : Value.int IntKind.u8 ((N : Int) / 2 ^ (8 * m) % 256) = B (UInt8.ofNat (N / 2 ^ (8 * m))) := by rw [← B_of]; norm_cast
            rw [e] at h2
            simpa [Nat.add_assoc] using h2⟩
          have h5 := hid (hN.out.kept hK.out h3)
          have h6 := hid (hN.out.step h4 hK.out.size)
          clear h2 h3 h4 hK hN ho hsh
          go_wp2
          go_roundw
          case rel => first | exact ⟨m, _, by omega, rfl, ⟨by rw [← Hacc.out, be_succ]; simp⟩, by simp; omega, h7, h5, h6⟩ | ((repeat apply Exists.intro); exact ⟨⟨m, _, by omega, rfl, ⟨by rw [← Hacc.out, be_succ]; simp⟩, by simp; omega, h7, h5, h6⟩, rfl⟩)
          case measure => simp [intOf]
end Go.Proofs.YtggcbjchnefhfaaDoor
