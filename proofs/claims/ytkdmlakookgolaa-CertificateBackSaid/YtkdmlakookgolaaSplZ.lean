/- electionlaw32.Spoilt and Short (printed by gen_spl.py). -/
import Derived.Test.YtkdmlakookgolaaCk2Z
import Derived.Test.YtkdmlakookgolaaDistZ
namespace Go.Proofs.Ytkdmlakookgolaa
open Go.RowKit Go.Mk Go.Pil Go.Mg
theorem flatN_one {w : World} {q : List (Nd × Value)} (h : ∀ x ∈ q, RdZ w x.2 x.1.tail) : ∀ u ∈ flatN q, u.oneCell' = true := fun u hu => by
  (unfold flatN at hu); (obtain ⟨x, hx, hu⟩ := List.mem_flatMap.1 hu); (simp only [ndC, List.mem_cons, List.not_mem_nil, or_false] at hu)
  rcases hu with rfl | rfl | rfl | rfl
  · rfl
  · exact (h x hx).one
  · rfl
  · rfl
theorem results_cert1 {fn : Func} {p : Tmp} (h : fn.results = #[.cell p 25]) (tmps : Array Value) (w : World) (g : Nat) (C : List Value) (hC : C.length = 3)
    (hp : tmps.getD p undef = .pointer (some ⟨g, 0, none⟩)) (hg : w.heap[g]? = some (.cells C.toArray 25 (0, 0))) :
    (results fn tmps).run Try.prog w = .ok (.agg C.toArray) w := by
  (have hp' : tmps[p]?.getD undef = .pointer (some ⟨g, 0, none⟩) := by simpa using hp); (have hi : (Try.prog.info? 25).map (·.size) = some C.toArray.size := by rw [List.size_toArray, hC]; kernel_rfl); (have hl := run_loadVar_row w g 25 25 C.toArray (0, 0) _ hg Try.underlying25 rfl hi); (simp only [results, h, List.mapM_toArray, List.mapM_cons, List.mapM_nil])
  simp [hp', asAddr, hl]
def PBlkV {Sl : Nat → Nat → Prop} (g : Nat) (t : TypeId) (c : Array Value) : Pr Sl := soft (fun _ w => w.heap[g]? = some (.cells c t (0, 0))) fun _ _ _ h k => k.blk h
theorem flatN_len (q : List (Nd × Value)) : (flatN q).length = q.length * 4 := flatLen (f := ndC) (sz := 4) fun _ _ => rfl
theorem OwZ.adds {w w1 w2 : World} {v v' : Value} {zs ys : List Int} (h : OwZ w w1 v zs) (ho : w2.ownsRow 0 3 1 v' (zs.length + ys.length) (zs.map Z ++ ys.map Z)) (hk : Kept (ob v) w1 w2) (hv : NewOr w1 v v') : OwZ w w2 v' (zs ++ ys) :=
  ⟨by rw [List.length_append, List.map_append]; exact ho, h.new.kept h.kept hk, h.new.step hv h.kept.size⟩
theorem pre_sliceN (g lv cv m : Nat) (hm : m ≤ cv) (w : World) : (Instr.slice 23 (.slice (some ⟨g, 0, none⟩) lv cv) none (some (.int .i64 (m : Int))) none).run Try.prog w = .ok (.slice (some ⟨g, 0, none⟩) m cv) w := by
  (have h0 : (0 : Int) ≤ (m : Int) := by omega); (have hc : Try.prog.underlying 23 = some (.slice 76) := by kernel_rfl)
  simp [Instr.slice, Instr.sliceBounds, Instr.sliceBound, run_underlying hc, asIntOf, h0]
  (have e : (⟨g, 0, none⟩ : Addr).add 0 = ⟨g, 0, none⟩ := by simp [Addr.add]); (rw [if_pos hm, e]; simp)
theorem post_sliceN (av : Option Addr) (lv cv m : Nat) (hm : m ≤ lv) (w : World) : (Instr.slice 23 (.slice av lv cv) (some (.int .i64 (m : Int))) none none).run Try.prog w = .ok (.slice (if cv = m then av else av.map (·.add (m * 4))) (lv - m) (cv - m)) w := by
  (have h0 : (0 : Int) ≤ (m : Int) := by omega); (have hc : Try.prog.underlying 23 = some (.slice 76) := by kernel_rfl); (obtain ⟨i, hi, hz, hs, hb⟩ := info_parts (P := Try.prog) (e := 76) (z := .agg #[.int .i64 0, .slice none 0 0, .int .i64 0, .bool false]) (size := 4) (bytes := 48) (by kernel_rfl)); (have h1 : (m : Int) ≤ (lv : Int) := by omega)
  simp [Instr.slice, Instr.sliceBounds, Instr.sliceBound, run_underlying hc, asIntOf, h0, sizeOf, typeInfo, hi, hs, hm]
theorem flatN_drop (q : List (Nd × Value)) (m : Nat) : (flatN q).drop (m * 4) = flatN (q.drop m) := by
  induction q generalizing m with
  | nil => simp [flatN]
  | cons x q ih =>
    cases m with
    | zero => simp
    | succ m =>
      (have e : flatN (x :: q) = ndC x ++ flatN q := rfl); (rw [e, List.drop_append, show (m + 1) * 4 - (ndC x).length = m * 4 from by show (m + 1) * 4 - 4 = _; omega, List.drop_eq_nil_of_le (by show 4 ≤ _; omega), List.nil_append, ih]; rfl)
theorem flatN_take (q : List (Nd × Value)) (m : Nat) : (flatN q).take (m * 4) = flatN (q.take m) := by
  induction q generalizing m with
  | nil => simp [flatN]
  | cons x q ih =>
    cases m with
    | zero => simp [flatN]
    | succ m =>
      (have e : flatN (x :: q) = ndC x ++ flatN q := rfl); (rw [e, List.take_append, show (m + 1) * 4 - (ndC x).length = m * 4 from by show (m + 1) * 4 - 4 = _; omega, List.take_of_length_le (by show 4 ≤ _; omega), ih]; rfl)
/-- The rest of a row of one's own, readable. -/
theorem own_post {w : World} {g n cap : Nat} {q : List (Nd × Value)} (h : w.ownsRow 0 76 4 (.slice (some ⟨g, 0, none⟩) n cap) n (flatN q)) (m : Nat) (hm : m ≤ n) : Rd w 4 (.slice (if cap = m then (some ⟨g, 0, none⟩ : Option Addr) else (some ⟨g, 0, none⟩ : Option Addr).map (·.add (m * 4))) (n - m) (cap - m)) (n - m) (flatN (q.drop m)) := by
  (have hlq : q.length = n := by have := h.1; rw [flatN_len] at this; omega); (obtain ⟨_, _, _, e, h1, h2, h3⟩ := Rd.of_own h)
  cases e
  refine ⟨by rw [flatN_len, List.length_drop, hlq], _, _, rfl, by omega, by omega, ?_⟩
  by_cases hc : cap = m
  · exact .inl (by omega)
  · rcases h3 with h3 | ⟨b, o, e2, hcc⟩
    · exact .inl (by omega)
    · cases e2
      refine .inr ⟨g, m * 4, ?_, fun j u hj => ?_⟩
      · (rw [if_neg hc]); (simp only [Option.map_some, Addr.add])
        split
        · rename_i e0; rw [e0]
        · simp
      · (rw [← flatN_drop, List.getElem?_drop] at hj); (have := hcc (m * 4 + j) u hj); (rw [Nat.zero_add] at this; exact this)
/-- The beginning of a row of one's own. -/
theorem own_pre {w : World} {g n cap : Nat} {q : List (Nd × Value)} (h : w.ownsRow 0 76 4 (.slice (some ⟨g, 0, none⟩) n cap) n (flatN q)) (m : Nat) (hm : m ≤ n) : w.ownsRow 0 76 4 (.slice (some ⟨g, 0, none⟩) m cap) m (flatN (q.take m)) := by
  (have hlq : q.length = n := by have := h.1; rw [flatN_len] at this; omega); (obtain ⟨h1, ⟨h, _⟩ | ⟨g', c, cur, e', hb, hg, hn, hcm, hcs, ht⟩⟩ := h)
  · cases h
  · cases e'
    (refine ⟨by rw [flatN_len, List.length_take, hlq, Nat.min_eq_left hm], .inr ⟨g, cap, cur, rfl, hb, hg, by omega, hcm, hcs, ?_⟩⟩); (rw [← flatN_take, ← ht, List.take_take, Nat.min_eq_left (by omega)])
def PTl {Sl : Nat → Nat → Prop} (w0 : World) (GX : Nat) (P B : Int) (L : Bool) (T : List Int) : Pr Sl := soft (fun _ w => ∃ vt, w.heap[GX]? = some (.cells #[.int .i64 P, vt, .int .i64 B, .bool L] 76 (0, 0)) ∧ w.ownsRow 0 3 1 vt T.length (T.map Z) ∧ New w0 vt) fun _ _ _ ⟨vt, h1, h2, h3⟩ k => ⟨vt, k.blk h1, k.ownsRow h2 fun _ _ => id, h3⟩
theorem flatN_setB {q : List (Nd × Value)} {K : Nat} (hK : K < q.length) {x : Nd} {tv : Value} (hx : q[K] = (x, tv)) (b : Int) : (flatN q).set (K * 4 + 2) (.int .i64 b) = flatN (q.set K (⟨x.par, x.tail, b, x.leaf⟩, tv)) := by
  have hq : q = q.take K ++ (x, tv) :: q.drop (K + 1) := by
    rw [← hx, ← List.drop_eq_getElem_cons hK, List.take_append_drop]
  have hl : (flatN (q.take K)).length = K * 4 := by
    rw [flatN_len, List.length_take, Nat.min_eq_left (by omega)]
  rw [show q.set K ((⟨x.par, x.tail, b, x.leaf⟩ : Nd), tv) = q.take K ++ ((⟨x.par, x.tail, b, x.leaf⟩ : Nd), tv) :: q.drop (K + 1) from by rw [List.set_eq_take_append_cons_drop, if_pos hK]]
  conv => lhs; rw [hq]
  (unfold flatN at *); (rw [List.flatMap_append, List.flatMap_append, List.flatMap_cons, List.flatMap_cons, List.set_append_right _ _ (by omega), hl, Nat.add_sub_cancel_left])
  rfl
def PSr {Sl : Nat → Nat → Prop} (GL len cL : Nat) (NQ : List (Nd × Value)) : Pr Sl := soft (fun _ w => w.ownsRow 0 76 4 (.slice (some ⟨GL, 0, none⟩) len cL) len (flatN NQ)) fun _ _ _ h k => k.ownsRow h fun _ _ => id
def PSp {Sl : Nat → Nat → Prop} (b0 n : Nat) (NQ : List (Nd × Value)) : Pr Sl := soft (fun v w => ∃ g c, v = .slice (some ⟨g, 0, none⟩) n c ∧ w.ownsRow 0 76 4 v n (flatN NQ) ∧ b0 ≤ g) fun _ _ _ ⟨g, c, h1, h2, h3⟩ k => ⟨g, c, h1, k.ownsRow h2 fun _ _ => id, h3⟩
def PSc {Sl : Nat → Nat → Prop} (b0 GC : Nat) (A M : Int) (n : Nat) (NQ : List (Nd × Value)) : Pr Sl := soft (fun _ w => ∃ g c, w.heap[GC]? = some (.cells #[.int .i64 A, .int .i64 M, .slice (some ⟨g, 0, none⟩) n c] 25 (0, 0)) ∧ w.ownsRow 0 76 4 (.slice (some ⟨g, 0, none⟩) n c) n (flatN NQ) ∧ b0 ≤ g) fun _ _ _ ⟨g, c, h1, h2, h3⟩ k => ⟨g, c, k.blk h1, k.ownsRow h2 fun _ _ => id, h3⟩
/-- Nodes in a new row, each tail an older one's or new. -/
structure SplN (w w' : World) (L : List (Nd × Value)) (v : Value) (q : List (Nd × Value)) : Prop where
  own : Rd w' 4 v q.length (flatN q)
  new : New w v
  rows : ∀ x ∈ q, (∃ y ∈ L, y.2 = x.2 ∧ y.1.tail = x.1.tail) ∨ (RdZ w' x.2 x.1.tail ∧ New w x.2)
theorem SplN.rdS {w w' W : World} {L : List (Nd × Value)} {v : Value} {q : List (Nd × Value)} {S : Nat → Prop} (h : SplN w w' L v q) (k : Kept S w' W) (hS : ∀ j, S j → j < w.heap.size) (hL : ∀ y ∈ L, RdZ W y.2 y.1.tail) : RdN W v q :=
  ⟨fun x hx => by
    rcases h.rows x hx with ⟨y, hy, h1, h2⟩ | ⟨h1, h2⟩
    · rw [← h1, ← h2]; exact hL y hy
    · exact Rd.kept h1 k fun j hj hs => by have := h2.fr (Nat.le_refl _) j hj; have := hS j hs; omega, Rd.kept h.own k fun j hj hs => by have := h.new.fr (Nat.le_refl _) j hj; have := hS j hs; omega⟩
/-- What Spoilt returns: some certificate, readable and small. -/
def SplR (w : World) (L : List (Nd × Value)) (e : Ending) (w' : World) : Prop := ∃ (A M : Int) (v : Value) (q : List (Nd × Value)), e = .returned (.agg #[.int .i64 A, .int .i64 M, v]) ∧ SplN w w' L v q ∧ q.length ≤ L.length + 1 ∧ (∀ x ∈ nds q, x.tail.length ≤ 9) ∧ Kept no w w'
theorem flatN_set4 {q : List (Nd × Value)} {K : Nat} (hK : K < q.length) (x : Nd) (tv : Value) : ((((flatN q).set (K * 4) (.int .i64 x.par)).set (K * 4 + 1) tv).set (K * 4 + 2) (.int .i64 x.bd)).set (K * 4 + 3) (.bool x.leaf) = flatN (q.set K (x, tv)) := by
  have hq : q = q.take K ++ q[K] :: q.drop (K + 1) := by
    rw [← List.drop_eq_getElem_cons hK, List.take_append_drop]
  have hl : (flatN (q.take K)).length = K * 4 := by
    rw [flatN_len, List.length_take, Nat.min_eq_left (by omega)]
  rw [show q.set K (x, tv) = q.take K ++ (x, tv) :: q.drop (K + 1) from by rw [List.set_eq_take_append_cons_drop, if_pos hK]]
  conv => lhs; rw [hq]
  (unfold flatN at *); (rw [List.flatMap_append, List.flatMap_append, List.flatMap_cons, List.flatMap_cons]); (rw [List.set_append_right _ _ (by omega), hl, List.set_append_right _ _ (by omega), hl, List.set_append_right _ _ (by omega), hl, List.set_append_right _ _ (by omega), hl]); (simp only [Nat.sub_self, Nat.add_sub_cancel_left])
  rfl
set_option maxRecDepth 100000 in
set_option maxHeartbeats 8000000 in
theorem spoilt_any (A M : Int) (v : Value) (q : List (Nd × Value)) (whr nnd wat : Int) (w : World) (hq : RdN w v q) (h0 : 0 < q.length) (hl : q.length ≤ 4000) (hM : -1 ≤ M ∧ M ≤ 100000) (hwf : ∀ x ∈ nds q, x.tail ≠ [] ∧ x.tail.length ≤ 8 ∧ 0 ≤ x.bd ∧ x.bd ≤ 100000) :
    Calls Try.prog 22 #[.agg #[.int .i64 A, .int .i64 M, v], .int .i64 whr, .int .i64 nnd, .int .i64 wat] w fun e w' => SplR w q e w' := by
  (obtain ⟨an, cn, rfl, hlc, hcm⟩ := Rd.shape2 hq.2); (have hm63 := maxLen_63); (have hone := hid (flatN_one hq.1)); (obtain ⟨len, hlen⟩ : ∃ n, q.length = n := ⟨_, rfl⟩); (rw [hlen] at hq hlc h0 hl ⊢); (have hndl : Hd ((nds q).length = len) := ⟨by rw [nds_length]; exact hlen⟩); (replace hwf := hid hwf); (obtain ⟨w1, hw1, g1, k1⟩ := alloc_named w (.cells #[.int .i64 A, .int .i64 M, .slice an len cn] 25)); (obtain ⟨w2, hw2, g2, k2⟩ := alloc_named w1 (.cells #[.int .i64 0, .int .i64 0, .slice none 0 0] 25)); (have e1 : w1.heap.size = w.heap.size + 1 := by rw [hw1]; simp); (have hq2 : Rd w2 4 (.slice an len cn) len (flatN q) := by have := (hq.kept (k1.trans' k2)).2; rwa [hlen] at this); (replace hq2 := hid hq2); (have k02 := hid (k1.trans' k2)); (have gC := hid (k2.blk g1)); (have g8 := hid g2); (have hC8 : Hd (w.heap.size ≠ w1.heap.size ∧ w.heap.size ≤ w.heap.size ∧ w.heap.size ≤ w1.heap.size) := ⟨by omega⟩); (have htl := hid hq.1); (have hsz : Hd (0 + len ≤ maxLen ∧ (0 + len) * 48 ≤ 140737488355328) := ⟨by have hmx : maxLen = 9223372036854775807 := rfl; omega⟩); (replace e1 := hid e1); (replace hw1 := hid hw1); (replace hw2 := hid hw2); (replace hlen := hid hlen); (clear g1 g2 k1 k2 hq)
  go_enter Try.func22, Try.ntmps22
  (go_upto_region 1 with fail); (rw [← hw1.out, ← e1.out, ← hw2.out]); (obtain ⟨c0, c1, c2⟩ := slotC gC.out); (obtain ⟨SZ, hSZ⟩ : ∃ n, w.heap.size = n := ⟨_, rfl⟩); (rw [hSZ] at gC hC8 c0 c1 c2 ⊢); (obtain ⟨GC, hGC⟩ : ∃ n, SZ = n := ⟨_, rfl⟩); (rw [hGC] at gC hC8 c0 c1 c2 hSZ ⊢); (generalize w1.heap.size = G8 at g8 hC8); (replace hSZ := hid hSZ); (clear hw1 hw2 hGC e1); (go_wp2_with (at_builtin; refine wpList_append _ rfl _ _ 23 rfl 76 4 48 TNodes (.slice none 0 0) 0 [] rfl (World.ownsRow_nil _ _ _ _) _ len (flatN q) rfl hq2.out hone.out hsz.out.1 hsz.out.2 ?_)); (intro v14 w3 h3o h3k h3n _); (try simp only [Nat.zero_add, List.nil_append] at h3o); (have k23 := hid (Kept.ob_nil h3k))
  obtain ⟨GL, cL, rfl, hLn⟩ : ∃ g c, v14 = .slice (some ⟨g, 0, none⟩) len c ∧ w2.heap.size ≤ g := by
    obtain ⟨_, ⟨_, hx⟩ | ⟨g, cap, _, e, _⟩⟩ := id h3o
    · omega
    · refine ⟨g, cap, e, ?_⟩
      rcases h3n with h | ⟨j, hj, hl⟩
      · rw [e] at h; cases h
      · have : g = j := by rw [e] at hj; simpa [Value.ownBlock] using hj
        omega
  obtain ⟨_, ⟨hx0, _⟩ | ⟨g', c', cur, e', _, hcur, _⟩⟩ := id h3o
  · cases hx0
  cases e'
  (have hLown := hid h3o); (have gC3 := hid (k23.out.blk gC.out)); (have g83 := hid (k23.out.blk g8.out)); (have k03 := hid (k02.out.trans' k23.out)); (obtain ⟨c0, c1, c2⟩ := slotC gC3.out); (have fC := row_free gC3.out 2)
  have hGL : Hd (GL ≠ GC ∧ GL ≠ G8) := ⟨by
    (have h1 := lt_of_heap gC.out); (have h2 := lt_of_heap g8.out)
    omega⟩
  (have hGLw : Hd (w.heap.size ≤ GL) := ⟨Nat.le_trans k02.out.size hLn⟩); (have hG8w : Hd (w.heap.size ≤ G8) := ⟨by rw [hSZ.out]; exact hC8.out.2.2⟩); (have hGCw : Hd (w.heap.size ≤ GC) := ⟨by rw [hSZ.out]; exact Nat.le_refl _⟩); (clear h3o h3k h3n hq2 hone hsz hcur gC g8 k23 k02); (have kS := (Kept.refl (fun j => j = GC) w3).setCell (a := ⟨GC, 2, none⟩) (.inl rfl) (.slice (some ⟨GL, 0, none⟩) len cL)); (have gC4 : Hd ((w3.setCell ⟨GC, 2, none⟩ (.slice (some ⟨GL, 0, none⟩) len cL)).heap[GC]? = some (.cells #[.int .i64 A, .int .i64 M, .slice (some ⟨GL, 0, none⟩) len cL] 25 (0, 0))) := ⟨by rw [setCell_row gC3.out]; rfl⟩); (have g84 := hid ((kS.block G8 (lt_of_heap g83.out) (Ne.symm hC8.out.1)).trans g83.out)); (have hL4 := hid (kS.ownsRow hLown.out fun j hj e => hGL.out.1 ((show GL = j from by simpa [Value.ownBlock] using hj).trans e))); (have k04 := hid (k03.out.setCell (a := ⟨GC, 2, none⟩) (.inr (by rw [hSZ.out]; exact hC8.out.2.1)) (.slice (some ⟨GL, 0, none⟩) len cL))); (have HM0 := hid (fun w => mod_any nnd (len : Int) w (by omega) (by omega))); (obtain ⟨hk0, hk1⟩ := modI_lt nnd (len : Int) (by omega)); (obtain ⟨k, hk⟩ : ∃ k : Nat, modI nnd (len : Int) = (k : Int) := ⟨(modI nnd (len : Int)).toNat, by omega⟩); (rw [hk] at HM0 hk0 hk1); (have hkl : k < len := by omega); (go_upto_region 2 with fail); (obtain ⟨w4, hw4⟩ : ∃ w4, w4 = w3.setCell ⟨GC, 2, none⟩ (.slice (some ⟨GL, 0, none⟩) len cL) := ⟨_, rfl⟩); (rw [← hw4] at gC4 g84 hL4 k04 ⊢); (clear hw4 kS c0 c1 c2 fC gC3 g83 hLown k03 hk); (obtain ⟨c0, c1, c2⟩ := slotC gC4.out); (go_wp2_with fail); (with_reducible refine (HM0.out _).mono ?_); (rintro e w5 ⟨rfl, rfl⟩); (clear HM0)
  -- the node that is changed
  (obtain ⟨x, tv, hxq⟩ : ∃ x tv, q[k]'(by rw [hlen.out]; exact hkl) = (x, tv) := ⟨_, _, rfl⟩); (have hLrd := hid (Rd.of_own hL4.out)); (obtain ⟨b', o', hbo, hrow⟩ := Rd.row (f := ndC) (sz := 4) (ps := q) (fun _ _ => rfl) (show Rd w5 4 (.slice (some ⟨GL, 0, none⟩) len cL) q.length (q.flatMap ndC) from by rw [hlen.out]; exact hLrd.out) k (by rw [hlen.out]; exact hkl))
  cases hbo
  (rw [hxq] at hrow); (have a0 : w5.cell? ⟨GL, k * 4, none⟩ = some (.int .i64 x.par) := by have := hrow 0 _ rfl; simpa using this); (have a1 : w5.cell? ⟨GL, k * 4 + 1, none⟩ = some tv := by have := hrow 1 _ rfl; simpa using this); (have a2 : w5.cell? ⟨GL, k * 4 + 2, none⟩ = some (.int .i64 x.bd) := by have := hrow 2 _ rfl; simpa using this); (have a3 : w5.cell? ⟨GL, k * 4 + 3, none⟩ = some (.bool x.leaf) := by have := hrow 3 _ rfl; simpa using this); (have hxm : (x, tv) ∈ q := hxq ▸ List.getElem_mem _); (replace hxq := hid hxm); (have hzx := hid (htl.out (x, tv) hxm)); (obtain ⟨hx1, hx2, hx3, hx4⟩ := hwf.out x (List.mem_map.2 ⟨_, hxm, rfl⟩)); (obtain ⟨P, hP⟩ : ∃ p, x.par = p := ⟨_, rfl⟩); (obtain ⟨Lf, hLf⟩ : ∃ l, x.leaf = l := ⟨_, rfl⟩); (obtain ⟨B, hB⟩ : ∃ l, x.bd = l := ⟨_, rfl⟩); (obtain ⟨T, hT⟩ : ∃ l, x.tail = l := ⟨_, rfl⟩); (rw [hP] at a0); (rw [hB] at a2 hx3 hx4); (rw [hLf] at a3); (rw [hT] at hzx hx1 hx2); (have hxT : Hd (x.tail = T) := ⟨hT⟩); (have hxx : Hd (x = ⟨P, T, B, Lf⟩) := ⟨by cases x; simp only at hP hT hB hLf; rw [hP, hT, hB, hLf]⟩); (obtain ⟨av, cv, rfl, hcv1, _⟩ := Rd.shape2 hzx.out); (obtain ⟨lv, hlv⟩ : ∃ l, T.length = l := ⟨_, rfl⟩); (rw [hlv] at hx2 a1 hcv1 hzx hxq); (have hlv1 : 0 < lv := by rw [← hlv]; exact List.length_pos_iff.2 hx1); (replace hlv := hid hlv); (have hkl2 : (k : Int) < (len : Int) := by omega); (have hkl3 : (0 : Int) ≤ (k : Int) := by omega); (clear hP hLf hB hT hrow hxm hx1); (go_upto_region 4 with fail); (obtain ⟨w6, hw6, gX, k6⟩ := alloc_named w5 (.cells #[.int .i64 P, .slice av lv cv, .int .i64 B, .bool Lf] 76)); (rw [← hw6])
  have hXn : Hd (w5.heap.size ≠ GC ∧ w5.heap.size ≠ G8 ∧ w5.heap.size ≠ GL) := ⟨by
    (have h1 := lt_of_heap gC4.out); (have h2 := lt_of_heap g84.out); (have h3 := own_lt hL4.out GL rfl)
    omega⟩
  (obtain ⟨GX, hGX⟩ : ∃ g, w5.heap.size = g := ⟨_, rfl⟩); (rw [hGX] at gX hXn ⊢); (have hGXw : Hd (w.heap.size ≤ GX) := ⟨by have := k04.out.size; omega⟩); (have gC6 := hid (k6.blk gC4.out)); (have g86 := hid (k6.blk g84.out)); (have hL6 := hid (k6.ownsRow hL4.out fun _ _ => id)); (have k06 := hid (k04.out.trans' k6)); (replace gX := hid gX); (clear hGX hw6 k6 gC4 g84 hL4 k04 a0 a1 a2 a3 c0 c1 c2 hLrd); (have HMW := hid (fun w => mod_any whr 11 w (by decide) (by decide))); (obtain ⟨ht0, ht1⟩ := modI_lt whr 11 (by decide)); (obtain ⟨t, ht⟩ : ∃ t, modI whr 11 = t := ⟨_, rfl⟩); (rw [ht] at HMW ht0 ht1); (have htc : t = 0 ∨ t = 1 ∨ t = 2 ∨ t = 3 ∨ t = 4 ∨ t = 5 ∨ t = 6 ∨ t = 7 ∨ t = 8 ∨ t = 9 ∨ t = 10 := by omega); (clear ht ht0 ht1); (go_wp2_with fail); (with_reducible refine (HMW.out _).mono ?_); (rintro e w7 ⟨rfl, rfl⟩); (clear HMW); (obtain ⟨c0, c1, c2⟩ := slotC gC6.out); (obtain ⟨d0, d1, d2, d3⟩ := slotN4 gX.out)
  rcases htc with rfl | rfl | rfl | rfl | rfl | rfl | rfl | rfl | rfl | rfl | rfl
  · (skip); (have HM5 := hid (fun w => mod_any wat 5 w (by omega) (by omega))); (obtain ⟨hm0, hm1⟩ := modI_lt wat 5 (by omega)); (obtain ⟨m, hm⟩ : ∃ m, modI wat 5 = m := ⟨_, rfl⟩); (rw [hm] at HM5 hm0 hm1); (clear hm); (have hw1 : IntKind.i64.wrap (m - 2) = m - 2 := IntWalk.i64_in _ (by omega)); (have hw2 : IntKind.i64.wrap (M + (m - 2)) = M + (m - 2) := IntWalk.i64_in _ (by omega)); (have c1h := hid c1); (go_upto_region 6 with fail); (clear c0 c1 c2 d0 d1 d2 d3); (refine region_flow (S := (fun k => k = GC)) (Sl := (fun j k => j = 7 ∧ k = GC)) [Is (.pointer (some ⟨GC, 1, none⟩)), Is (.int .i64 M), Is (.int .i64 wat), Is (.int .i64 m), Is (.int .i64 (m - 2)), Is (.int .i64 (M + (m - 2))), Is (.pointer (some ⟨GC, 1, none⟩)), PBlkV GC 25 #[.int .i64 A, .int .i64 (M + (m - 2)), .slice (some ⟨GL, 0, none⟩) len cL]] [7] (fun j k h => h.2) _ (by kernel_rfl) (by kernel_rfl) (by kernel_rfl) (by kernel_rfl) (fun x => by simp only [puts, Act.put, List.map_cons, List.map_nil, Nat.zero_add, Nat.reduceAdd, List.setIfInBounds_toArray, List.set_cons_zero, List.set_cons_succ]; exact rfl) ?_ ?_)
    · (skip); (refine .cons (fun x wf Kk hq hdep hold => ?_) ?_)
      · (try dsimp only); (clear hq hdep hold); (rw [if_pos (by rfl)]); (refine OpY.val ?_ ⟨Kept.refl _ _, rfl⟩); (first | rfl | go_simp)
      refine .cons (fun x wf Kk hq hdep hold => ?_) ?_
      · (try dsimp only); (have h0 : x 0 = _ := hdep 0 (by kernel_rfl)); (have Kq := hq no (fun j hj => by cases (show j ∈ ([] : List Nat) from by (have e : ∀ l : List Nat, l = [] → j ∈ l → j ∈ ([] : List Nat) := fun l h h2 => h ▸ h2); exact e _ (by kernel_rfl) hj))); (clear hq hdep hold); (simp only [h0]); (clear h0); (have m1 := Kq.undrew.cell c1h.out id); (rw [if_pos (by rfl)]); (refine OpY.val ?_ ⟨Kept.refl _ _, rfl⟩); (first | rfl | go_simp)
      refine .cons (fun x wf Kk hq hdep hold => ?_) ?_
      · (try dsimp only); (clear hq hdep hold); (rw [if_pos (by rfl)]); (refine OpY.val ?_ ⟨Kept.refl _ _, rfl⟩); (first | rfl | go_simp)
      refine .cons (fun x wf Kk hq hdep hold => ?_) ?_
      · (try dsimp only); (have h2 : x 2 = _ := hdep 2 (by kernel_rfl)); (clear hq hdep hold); (simp only [h2]); (clear h2); (rw [if_pos (by rfl)]); (refine OpY.call (f := 18) (args := #[(.int .i64 wat), (.int .i64 5)]) (by go_simp) ?_); (refine (HM5.out wf).mono ?_); (rintro e w2 ⟨rfl, rfl⟩); (exact ⟨_, rfl, Kept.refl _ _, rfl⟩)
      refine .cons (fun x wf Kk hq hdep hold => ?_) ?_
      · (try dsimp only); (have h3 : x 3 = _ := hdep 3 (by kernel_rfl)); (clear hq hdep hold); (simp only [h3]); (clear h3); (rw [if_pos (by rfl)]); (refine OpY.val ?_ ⟨Kept.refl _ _, rfl⟩); (first | rfl | go_simp)
      refine .cons (fun x wf Kk hq hdep hold => ?_) ?_
      · (try dsimp only); (have h1 : x 1 = _ := hdep 1 (by kernel_rfl)); (have h4 : x 4 = _ := hdep 4 (by kernel_rfl)); (clear hq hdep hold); (simp only [h1, h4]); (clear h1 h4); (rw [if_pos (by rfl)]); (refine OpY.val ?_ ⟨Kept.refl _ _, rfl⟩); (first | rfl | go_simp)
      refine .cons (fun x wf Kk hq hdep hold => ?_) ?_
      · (try dsimp only); (clear hq hdep hold); (rw [if_pos (by rfl)]); (refine OpY.val ?_ ⟨Kept.refl _ _, rfl⟩); (first | rfl | go_simp)
      refine .cons (fun x wf Kk hq hdep hold => ?_) ?_
      · (try dsimp only); (have h6 : x 6 = _ := hdep 6 (by kernel_rfl)); (have h5 : x 5 = _ := hdep 5 (by kernel_rfl)); (have Kq := hq no (fun j hj => by cases (show j ∈ ([] : List Nat) from by (have e : ∀ l : List Nat, l = [] → j ∈ l → j ∈ ([] : List Nat) := fun l h h2 => h ▸ h2); exact e _ (by kernel_rfl) hj))); (clear hq hdep hold); (simp only [h6, h5]); (clear h6 h5); (rw [if_pos (by rfl)]); (have hb := Kq.undrew.blk gC6.out); (have fz := row_free hb 1); (have m1 := Kq.undrew.cell c1h.out id); (have kS := (Kept.refl (fun j => j = GC) wf).setCell (a := ⟨GC, 1, none⟩) (.inl rfl) (.int .i64 (M + (m - 2)))); (refine OpY.skipY (w' := wf.setCell ⟨GC, 1, none⟩ (.int .i64 (M + (m - 2)))) (by go_simp) ⟨kS.mono fun k _ h => ⟨by trivial, h⟩, ?_⟩)
        show (wf.setCell ⟨GC, 1, none⟩ (.int .i64 (M + (m - 2)))).heap[GC]? = _
        rw [setCell_row hb]; rfl
      exact .nil _
    · (intro x wf Kk hv); (try dsimp only); (have p7 : Pr.p (Sl := (fun j k => j = 7 ∧ k = GC)) (PBlkV GC 25 #[.int .i64 A, .int .i64 (M + (m - 2)), .slice (some ⟨GL, 0, none⟩) len cL]) (x 7) wf := hv 7 (by kernel_rfl)); (clear hv); (have gC8 := hid p7); (have gX8 := hid ((Kk.undrew.block GX (lt_of_heap gX.out) hXn.out.1).trans gX.out)); (have g88 := hid ((Kk.undrew.block G8 (lt_of_heap g86.out) (Ne.symm hC8.out.1)).trans g86.out)); (have hL8 := hid (Kk.undrew.ownsRow hL6.out fun j hj e => hGL.out.1 ((show GL = j from by simpa [Value.ownBlock] using hj).trans e))); (have k08 : Hd (Kept no w wf) := ⟨k06.out.trans Kk.undrew fun j hj h => by rw [h] at hj; have := hGCw.out; omega⟩); (obtain ⟨w8, rfl⟩ : ∃ w8 : World, w8 = wf := ⟨_, rfl⟩); (clear Kk p7 gC6 gX g86 hL6 k06); (go_upto_region 31 with fail); (have hTT : Hd ((Value.slice av lv cv = Value.slice av lv cv ∧ T = T) ∨ (w8.ownsRow 0 3 1 (.slice av lv cv) T.length (T.map Z) ∧ New w (.slice av lv cv))) := ⟨.inl ⟨rfl, rfl⟩⟩); (have hNT : Hd (T.length ≤ 9) := ⟨by rw [hlv.out]; omega⟩); (obtain ⟨z0, z1, z2⟩ := slotC gC8.out); (obtain ⟨y0, y1, y2, y3⟩ := slotN4 gX8.out); (have hLw := hid (show w8.ownsRow 0 76 4 (.slice (some ⟨GL, 0, none⟩) len cL) len (flatN q) from hL8.out))
      have hLc : ∀ j, j < len * 4 → ∃ u, w8.cell? ⟨GL, j, none⟩ = some u := fun j hj => by
        obtain ⟨hl1, _, _, he, _, _, hx | ⟨b, o, he2, hc⟩⟩ := Rd.of_own hLw.out
        · cases he
          (have hx2 := hlen.out); (obtain ⟨_, ⟨h1, _⟩ | ⟨g, cap, cur, h1, _, _, h2, _⟩⟩ := hLw.out)
          · cases h1
          · cases h1; omega
        · cases he; cases he2
          (have hjl : j < (flatN q).length := by rw [flatN_len, hlen.out]; exact hj); (have := hc j _ (List.getElem?_eq_getElem hjl)); (rw [Nat.zero_add] at this); (exact ⟨_, this⟩)
      (obtain ⟨u0, r0⟩ := hLc (k * 4) (by omega)); (obtain ⟨u1, r1⟩ := hLc (k * 4 + 1) (by omega)); (obtain ⟨u2, r2⟩ := hLc (k * 4 + 2) (by omega)); (obtain ⟨u3, r3⟩ := hLc (k * 4 + 3) (by omega))
      have hLf : ∀ j, w8.frozen? ⟨GL, j, none⟩ = false := fun j => by
        obtain ⟨_, ⟨h1, _⟩ | ⟨g, cap, cur, h1, _, hg, _⟩⟩ := hLw.out
        · cases h1
        · cases h1; exact row_free hg j
      have hLcur : ∃ cur : Array Value, w8.heap[GL]? = some (.cells cur 76 (0, 0)) := by
        obtain ⟨_, ⟨h1, _⟩ | ⟨g, cap, cur, h1, _, hg, _⟩⟩ := hLw.out
        · cases h1
        · cases h1; exact ⟨_, hg⟩
      (have f0 := hLf (k * 4)); (have f1 := hLf (k * 4 + 1)); (have f2 := hLf (k * 4 + 2)); (have f3 := hLf (k * 4 + 3)); (have o1 := own_set (own_set (own_set (own_set hLw.out (k * 4) (.int .i64 (P))) (k * 4 + 1) ((.slice av lv cv))) (k * 4 + 2) (.int .i64 (B))) (k * 4 + 3) (.bool (Lf))); (rw [flatN_set4 (by rw [hlen.out]; exact hkl) (⟨P, T, B, Lf⟩ : Nd) ((.slice av lv cv))] at o1); (have kL := ((((Kept.refl (fun j => j = GL) w8).setCell (a := ⟨GL, k * 4, none⟩) (.inl rfl) (.int .i64 (P))).setCell (a := ⟨GL, k * 4 + 1, none⟩) (.inl rfl) ((.slice av lv cv))).setCell (a := ⟨GL, k * 4 + 2, none⟩) (.inl rfl) (.int .i64 (B))).setCell (a := ⟨GL, k * 4 + 3, none⟩) (.inl rfl) (.bool (Lf))); (have kLw := (((k08.out.setCell (a := ⟨GL, k * 4, none⟩) (.inr hGLw.out) (.int .i64 (P))).setCell (a := ⟨GL, k * 4 + 1, none⟩) (.inr hGLw.out) ((.slice av lv cv))).setCell (a := ⟨GL, k * 4 + 2, none⟩) (.inr hGLw.out) (.int .i64 (B))).setCell (a := ⟨GL, k * 4 + 3, none⟩) (.inr hGLw.out) (.bool (Lf))); (obtain ⟨wz, hwz⟩ : ∃ wz, wz = (((w8.setCell ⟨GL, k * 4, none⟩ (.int .i64 (P))).setCell ⟨GL, k * 4 + 1, none⟩ ((.slice av lv cv))).setCell ⟨GL, k * 4 + 2, none⟩ (.int .i64 (B))).setCell ⟨GL, k * 4 + 3, none⟩ (.bool (Lf)) := ⟨_, rfl⟩); (rw [← hwz] at o1 kL kLw); (have gCz := hid ((kL.block GC (lt_of_heap gC8.out) (Ne.symm hGL.out.1)).trans gC8.out)); (have g8z := hid ((kL.block G8 (lt_of_heap g88.out) (Ne.symm hGL.out.2)).trans g88.out)); (have hTz : Hd (((.slice av lv cv) = Value.slice av lv cv ∧ T = T) ∨ (wz.ownsRow 0 3 1 ((.slice av lv cv)) (T).length ((T).map Z) ∧ New w ((.slice av lv cv)))) := ⟨hTT.out.imp id fun h => And.intro (kL.ownsRow h.1 fun j hj e => own_ne h.1 (show w8.heap[GL]? = some (.cells _ 76 (0, 0)) from hLcur.choose_spec) (by decide) j hj e) h.2⟩); (replace o1 := hid o1); (replace kLw := hid kLw); (replace hwz := hid hwz); (clear hLc hLf kL hLw hLcur); (go_upto_region 32 with fail); (rw [← hwz.out]); (clear z0 z1 z2 y0 y1 y2 y3 r0 r1 r2 r3 f0 f1 f2 f3 hwz); (obtain ⟨z0, z1, z2⟩ := slotC gCz.out); (obtain ⟨x0, x1, x2⟩ := slotC g8z.out); (have f0 := row_free g8z.out 0); (have f1 := row_free g8z.out 1); (have f2 := row_free g8z.out 2)
      have o2 : Hd ((((wz.setCell ⟨G8, 0, none⟩ (.int .i64 (A))).setCell ⟨G8, 1, none⟩ (.int .i64 ((M + (m - 2))))).setCell ⟨G8, 2, none⟩ ((.slice (some ⟨GL, 0, none⟩) len cL))).heap[G8]? = some (.cells [.int .i64 (A), .int .i64 ((M + (m - 2))), (.slice (some ⟨GL, 0, none⟩) len cL)].toArray 25 (0, 0))) := ⟨by
        rw [setCell_row (setCell_row (setCell_row g8z.out 0 _) 1 _) 2 _]; rfl⟩
      (have k8 := (((Kept.refl (fun j => j = G8) wz).setCell (a := ⟨G8, 0, none⟩) (.inl rfl) (.int .i64 (A))).setCell (a := ⟨G8, 1, none⟩) (.inl rfl) (.int .i64 ((M + (m - 2))))).setCell (a := ⟨G8, 2, none⟩) (.inl rfl) ((.slice (some ⟨GL, 0, none⟩) len cL))); (have k8w := hid (((kLw.out.setCell (a := ⟨G8, 0, none⟩) (.inr hG8w.out) (.int .i64 (A))).setCell (a := ⟨G8, 1, none⟩) (.inr hG8w.out) (.int .i64 ((M + (m - 2))))).setCell (a := ⟨G8, 2, none⟩) (.inr hG8w.out) ((.slice (some ⟨GL, 0, none⟩) len cL)))); (obtain ⟨wy, hwy⟩ : ∃ wy, wy = ((wz.setCell ⟨G8, 0, none⟩ (.int .i64 (A))).setCell ⟨G8, 1, none⟩ (.int .i64 ((M + (m - 2))))).setCell ⟨G8, 2, none⟩ ((.slice (some ⟨GL, 0, none⟩) len cL)) := ⟨_, rfl⟩); (rw [← hwy] at o2 k8 k8w); (replace k8 := hid k8)
      have hR : Hd (SplN w wy q ((.slice (some ⟨GL, 0, none⟩) len cL)) ((q.set k ((⟨P, T, B, Lf⟩ : Nd), (.slice av lv cv))))) := ⟨by
        refine ⟨by rw [List.length_set, hlen.out]; exact Rd.kept (Rd.of_own o1.out) k8.out fun j hj e => own_ne o1.out g8z.out (by decide) j hj e, .inr ⟨GL, rfl, hGLw.out⟩, fun y hy => ?_⟩
        rcases List.mem_or_eq_of_mem_set hy with hy | rfl
        · exact .inl ⟨y, hy, rfl, rfl⟩
        · rcases hTz.out with ⟨h1, h2⟩ | ⟨h, h2⟩
          · exact .inl ⟨_, hxq.out, h1.symm, (hxT.out.trans h2.symm)⟩
          · exact .inr ⟨Rd.kept (Rd.of_own h) k8.out fun j hj e => own_ne h g8z.out (by decide) j hj e, h2⟩⟩
      have hRes : Hd (((q.set k ((⟨P, T, B, Lf⟩ : Nd), (.slice av lv cv)))).length ≤ len + 1 ∧ ∀ x ∈ nds ((q.set k ((⟨P, T, B, Lf⟩ : Nd), (.slice av lv cv)))), x.tail.length ≤ 9) := ⟨by
        (refine ⟨by rw [List.length_set, hlen.out]; omega, fun y hy => ?_⟩); (obtain ⟨z, hz, rfl⟩ := List.mem_map.1 hy)
        rcases List.mem_or_eq_of_mem_set hz with hz | rfl
        · have := (hwf.out z.1 (List.mem_map.2 ⟨z, hz, rfl⟩)).2.1; omega
        · exact hNT.out⟩
      (replace hwy := hid hwy); (go_wp2); (refine bodyPost_ret (v := .agg [.int .i64 (A), .int .i64 ((M + (m - 2))), (.slice (some ⟨GL, 0, none⟩) len cL)].toArray) ?_ rfl ?_)
      · (rw [← hwy.out]); (exact results_cert1 rfl _ _ G8 [.int .i64 (A), .int .i64 ((M + (m - 2))), (.slice (some ⟨GL, 0, none⟩) len cL)] rfl rfl o2.out)
      · (rw [← hwy.out]); (exact ⟨A, (M + (m - 2)), _, (q.set k ((⟨P, T, B, Lf⟩ : Nd), (.slice av lv cv))), rfl, hR.out, by rw [hlen.out]; exact hRes.out.1, hRes.out.2, k8w.out⟩)
  · (skip); (have HM5 := hid (fun w => mod_any wat 6 w (by omega) (by omega))); (obtain ⟨hm0, hm1⟩ := modI_lt wat 6 (by omega)); (obtain ⟨m, hm⟩ : ∃ m, modI wat 6 = m := ⟨_, rfl⟩); (rw [hm] at HM5 hm0 hm1); (clear hm); (have hw1 : IntKind.i64.wrap (m - 1) = m - 1 := IntWalk.i64_in _ (by omega)); (go_wp2_with fail); (with_reducible refine (HM5.out _).mono ?_); (rintro e w7 ⟨rfl, rfl⟩); (have fz := row_free gC6.out 0); (have kS := (Kept.refl (fun j => j = GC) w7).setCell (a := ⟨GC, 0, none⟩) (.inl rfl) (.int .i64 (m - 1))); (have gC8 : Hd ((w7.setCell ⟨GC, 0, none⟩ (.int .i64 (m - 1))).heap[GC]? = some (.cells #[.int .i64 (m - 1), .int .i64 M, .slice (some ⟨GL, 0, none⟩) len cL] 25 (0, 0))) := ⟨by rw [setCell_row gC6.out]; rfl⟩); (have gX8 := hid ((kS.block GX (lt_of_heap gX.out) hXn.out.1).trans gX.out)); (have g88 := hid ((kS.block G8 (lt_of_heap g86.out) (Ne.symm hC8.out.1)).trans g86.out)); (have hL8 := hid (kS.ownsRow hL6.out fun j hj e => hGL.out.1 ((show GL = j from by simpa [Value.ownBlock] using hj).trans e))); (have k08 := hid (k06.out.setCell (a := ⟨GC, 0, none⟩) (.inr hGCw.out) (.int .i64 (m - 1)))); (go_upto_region 31 with fail); (clear c0 c1 c2 d0 d1 d2 d3); (clear fz); (obtain ⟨w8, hw8⟩ : ∃ w8, w8 = (w7.setCell ⟨GC, 0, none⟩ (.int .i64 (m - 1))) := ⟨_, rfl⟩); (rw [← hw8] at gC8 gX8 g88 hL8 k08 ⊢); (clear hw8 kS); (have hTT : Hd ((Value.slice av lv cv = Value.slice av lv cv ∧ T = T) ∨ (w8.ownsRow 0 3 1 (.slice av lv cv) T.length (T.map Z) ∧ New w (.slice av lv cv))) := ⟨.inl ⟨rfl, rfl⟩⟩); (have hNT : Hd (T.length ≤ 9) := ⟨by rw [hlv.out]; omega⟩); (obtain ⟨z0, z1, z2⟩ := slotC gC8.out); (obtain ⟨y0, y1, y2, y3⟩ := slotN4 gX8.out); (have hLw := hid (show w8.ownsRow 0 76 4 (.slice (some ⟨GL, 0, none⟩) len cL) len (flatN q) from hL8.out))
    have hLc : ∀ j, j < len * 4 → ∃ u, w8.cell? ⟨GL, j, none⟩ = some u := fun j hj => by
      obtain ⟨hl1, _, _, he, _, _, hx | ⟨b, o, he2, hc⟩⟩ := Rd.of_own hLw.out
      · cases he
        (have hx2 := hlen.out); (obtain ⟨_, ⟨h1, _⟩ | ⟨g, cap, cur, h1, _, _, h2, _⟩⟩ := hLw.out)
        · cases h1
        · cases h1; omega
      · cases he; cases he2
        (have hjl : j < (flatN q).length := by rw [flatN_len, hlen.out]; exact hj); (have := hc j _ (List.getElem?_eq_getElem hjl)); (rw [Nat.zero_add] at this); (exact ⟨_, this⟩)
    (obtain ⟨u0, r0⟩ := hLc (k * 4) (by omega)); (obtain ⟨u1, r1⟩ := hLc (k * 4 + 1) (by omega)); (obtain ⟨u2, r2⟩ := hLc (k * 4 + 2) (by omega)); (obtain ⟨u3, r3⟩ := hLc (k * 4 + 3) (by omega))
    have hLf : ∀ j, w8.frozen? ⟨GL, j, none⟩ = false := fun j => by
      obtain ⟨_, ⟨h1, _⟩ | ⟨g, cap, cur, h1, _, hg, _⟩⟩ := hLw.out
      · cases h1
      · cases h1; exact row_free hg j
    have hLcur : ∃ cur : Array Value, w8.heap[GL]? = some (.cells cur 76 (0, 0)) := by
      obtain ⟨_, ⟨h1, _⟩ | ⟨g, cap, cur, h1, _, hg, _⟩⟩ := hLw.out
      · cases h1
      · cases h1; exact ⟨_, hg⟩
    (have f0 := hLf (k * 4)); (have f1 := hLf (k * 4 + 1)); (have f2 := hLf (k * 4 + 2)); (have f3 := hLf (k * 4 + 3)); (have o1 := own_set (own_set (own_set (own_set hLw.out (k * 4) (.int .i64 (P))) (k * 4 + 1) ((.slice av lv cv))) (k * 4 + 2) (.int .i64 (B))) (k * 4 + 3) (.bool (Lf))); (rw [flatN_set4 (by rw [hlen.out]; exact hkl) (⟨P, T, B, Lf⟩ : Nd) ((.slice av lv cv))] at o1); (have kL := ((((Kept.refl (fun j => j = GL) w8).setCell (a := ⟨GL, k * 4, none⟩) (.inl rfl) (.int .i64 (P))).setCell (a := ⟨GL, k * 4 + 1, none⟩) (.inl rfl) ((.slice av lv cv))).setCell (a := ⟨GL, k * 4 + 2, none⟩) (.inl rfl) (.int .i64 (B))).setCell (a := ⟨GL, k * 4 + 3, none⟩) (.inl rfl) (.bool (Lf))); (have kLw := (((k08.out.setCell (a := ⟨GL, k * 4, none⟩) (.inr hGLw.out) (.int .i64 (P))).setCell (a := ⟨GL, k * 4 + 1, none⟩) (.inr hGLw.out) ((.slice av lv cv))).setCell (a := ⟨GL, k * 4 + 2, none⟩) (.inr hGLw.out) (.int .i64 (B))).setCell (a := ⟨GL, k * 4 + 3, none⟩) (.inr hGLw.out) (.bool (Lf))); (obtain ⟨wz, hwz⟩ : ∃ wz, wz = (((w8.setCell ⟨GL, k * 4, none⟩ (.int .i64 (P))).setCell ⟨GL, k * 4 + 1, none⟩ ((.slice av lv cv))).setCell ⟨GL, k * 4 + 2, none⟩ (.int .i64 (B))).setCell ⟨GL, k * 4 + 3, none⟩ (.bool (Lf)) := ⟨_, rfl⟩); (rw [← hwz] at o1 kL kLw); (have gCz := hid ((kL.block GC (lt_of_heap gC8.out) (Ne.symm hGL.out.1)).trans gC8.out)); (have g8z := hid ((kL.block G8 (lt_of_heap g88.out) (Ne.symm hGL.out.2)).trans g88.out)); (have hTz : Hd (((.slice av lv cv) = Value.slice av lv cv ∧ T = T) ∨ (wz.ownsRow 0 3 1 ((.slice av lv cv)) (T).length ((T).map Z) ∧ New w ((.slice av lv cv)))) := ⟨hTT.out.imp id fun h => And.intro (kL.ownsRow h.1 fun j hj e => own_ne h.1 (show w8.heap[GL]? = some (.cells _ 76 (0, 0)) from hLcur.choose_spec) (by decide) j hj e) h.2⟩); (replace o1 := hid o1); (replace kLw := hid kLw); (replace hwz := hid hwz); (clear hLc hLf kL hLw hLcur); (go_upto_region 32 with fail); (rw [← hwz.out]); (clear z0 z1 z2 y0 y1 y2 y3 r0 r1 r2 r3 f0 f1 f2 f3 hwz); (obtain ⟨z0, z1, z2⟩ := slotC gCz.out); (obtain ⟨x0, x1, x2⟩ := slotC g8z.out); (have f0 := row_free g8z.out 0); (have f1 := row_free g8z.out 1); (have f2 := row_free g8z.out 2)
    have o2 : Hd ((((wz.setCell ⟨G8, 0, none⟩ (.int .i64 ((m - 1)))).setCell ⟨G8, 1, none⟩ (.int .i64 (M))).setCell ⟨G8, 2, none⟩ ((.slice (some ⟨GL, 0, none⟩) len cL))).heap[G8]? = some (.cells [.int .i64 ((m - 1)), .int .i64 (M), (.slice (some ⟨GL, 0, none⟩) len cL)].toArray 25 (0, 0))) := ⟨by
      rw [setCell_row (setCell_row (setCell_row g8z.out 0 _) 1 _) 2 _]; rfl⟩
    (have k8 := (((Kept.refl (fun j => j = G8) wz).setCell (a := ⟨G8, 0, none⟩) (.inl rfl) (.int .i64 ((m - 1)))).setCell (a := ⟨G8, 1, none⟩) (.inl rfl) (.int .i64 (M))).setCell (a := ⟨G8, 2, none⟩) (.inl rfl) ((.slice (some ⟨GL, 0, none⟩) len cL))); (have k8w := hid (((kLw.out.setCell (a := ⟨G8, 0, none⟩) (.inr hG8w.out) (.int .i64 ((m - 1)))).setCell (a := ⟨G8, 1, none⟩) (.inr hG8w.out) (.int .i64 (M))).setCell (a := ⟨G8, 2, none⟩) (.inr hG8w.out) ((.slice (some ⟨GL, 0, none⟩) len cL)))); (obtain ⟨wy, hwy⟩ : ∃ wy, wy = ((wz.setCell ⟨G8, 0, none⟩ (.int .i64 ((m - 1)))).setCell ⟨G8, 1, none⟩ (.int .i64 (M))).setCell ⟨G8, 2, none⟩ ((.slice (some ⟨GL, 0, none⟩) len cL)) := ⟨_, rfl⟩); (rw [← hwy] at o2 k8 k8w); (replace k8 := hid k8)
    have hR : Hd (SplN w wy q ((.slice (some ⟨GL, 0, none⟩) len cL)) ((q.set k ((⟨P, T, B, Lf⟩ : Nd), (.slice av lv cv))))) := ⟨by
      refine ⟨by rw [List.length_set, hlen.out]; exact Rd.kept (Rd.of_own o1.out) k8.out fun j hj e => own_ne o1.out g8z.out (by decide) j hj e, .inr ⟨GL, rfl, hGLw.out⟩, fun y hy => ?_⟩
      rcases List.mem_or_eq_of_mem_set hy with hy | rfl
      · exact .inl ⟨y, hy, rfl, rfl⟩
      · rcases hTz.out with ⟨h1, h2⟩ | ⟨h, h2⟩
        · exact .inl ⟨_, hxq.out, h1.symm, (hxT.out.trans h2.symm)⟩
        · exact .inr ⟨Rd.kept (Rd.of_own h) k8.out fun j hj e => own_ne h g8z.out (by decide) j hj e, h2⟩⟩
    have hRes : Hd (((q.set k ((⟨P, T, B, Lf⟩ : Nd), (.slice av lv cv)))).length ≤ len + 1 ∧ ∀ x ∈ nds ((q.set k ((⟨P, T, B, Lf⟩ : Nd), (.slice av lv cv)))), x.tail.length ≤ 9) := ⟨by
      (refine ⟨by rw [List.length_set, hlen.out]; omega, fun y hy => ?_⟩); (obtain ⟨z, hz, rfl⟩ := List.mem_map.1 hy)
      rcases List.mem_or_eq_of_mem_set hz with hz | rfl
      · have := (hwf.out z.1 (List.mem_map.2 ⟨z, hz, rfl⟩)).2.1; omega
      · exact hNT.out⟩
    (replace hwy := hid hwy); (go_wp2); (refine bodyPost_ret (v := .agg [.int .i64 ((m - 1)), .int .i64 (M), (.slice (some ⟨GL, 0, none⟩) len cL)].toArray) ?_ rfl ?_)
    · (rw [← hwy.out]); (exact results_cert1 rfl _ _ G8 [.int .i64 ((m - 1)), .int .i64 (M), (.slice (some ⟨GL, 0, none⟩) len cL)] rfl rfl o2.out)
    · (rw [← hwy.out]); (exact ⟨(m - 1), M, _, (q.set k ((⟨P, T, B, Lf⟩ : Nd), (.slice av lv cv))), rfl, hR.out, by rw [hlen.out]; exact hRes.out.1, hRes.out.2, k8w.out⟩)
  · (skip); (have HM5 := hid (fun w => mod_any wat 5 w (by omega) (by omega))); (obtain ⟨hm0, hm1⟩ := modI_lt wat 5 (by omega)); (obtain ⟨m, hm⟩ : ∃ m, modI wat 5 = m := ⟨_, rfl⟩); (rw [hm] at HM5 hm0 hm1); (clear hm); (have hw1 : IntKind.i64.wrap (m - 2) = m - 2 := IntWalk.i64_in _ (by omega)); (have hw2 : IntKind.i64.wrap (B + (m - 2)) = B + (m - 2) := IntWalk.i64_in _ (by omega)); (have d2h := hid d2); (go_upto_region 10 with fail); (clear c0 c1 c2 d0 d1 d2 d3); (refine region_flow (S := (fun k => k = GX)) (Sl := (fun j k => j = 7 ∧ k = GX)) [Is (.pointer (some ⟨GX, 2, none⟩)), Is (.int .i64 B), Is (.int .i64 wat), Is (.int .i64 m), Is (.int .i64 (m - 2)), Is (.int .i64 (B + (m - 2))), Is (.pointer (some ⟨GX, 2, none⟩)), PBlkV GX 76 #[.int .i64 P, .slice av lv cv, .int .i64 (B + (m - 2)), .bool Lf]] [7] (fun j k h => h.2) _ (by kernel_rfl) (by kernel_rfl) (by kernel_rfl) (by kernel_rfl) (fun x => by simp only [puts, Act.put, List.map_cons, List.map_nil, Nat.zero_add, Nat.reduceAdd, List.setIfInBounds_toArray, List.set_cons_zero, List.set_cons_succ]; exact rfl) ?_ ?_)
    · (skip); (refine .cons (fun x wf Kk hq hdep hold => ?_) ?_)
      · (try dsimp only); (clear hq hdep hold); (rw [if_pos (by rfl)]); (refine OpY.val ?_ ⟨Kept.refl _ _, rfl⟩); (first | rfl | go_simp)
      refine .cons (fun x wf Kk hq hdep hold => ?_) ?_
      · (try dsimp only); (have h0 : x 0 = _ := hdep 0 (by kernel_rfl)); (have Kq := hq no (fun j hj => by cases (show j ∈ ([] : List Nat) from by (have e : ∀ l : List Nat, l = [] → j ∈ l → j ∈ ([] : List Nat) := fun l h h2 => h ▸ h2); exact e _ (by kernel_rfl) hj))); (clear hq hdep hold); (simp only [h0]); (clear h0); (have m1 := Kq.undrew.cell d2h.out id); (rw [if_pos (by rfl)]); (refine OpY.val ?_ ⟨Kept.refl _ _, rfl⟩); (first | rfl | go_simp)
      refine .cons (fun x wf Kk hq hdep hold => ?_) ?_
      · (try dsimp only); (clear hq hdep hold); (rw [if_pos (by rfl)]); (refine OpY.val ?_ ⟨Kept.refl _ _, rfl⟩); (first | rfl | go_simp)
      refine .cons (fun x wf Kk hq hdep hold => ?_) ?_
      · (try dsimp only); (have h2 : x 2 = _ := hdep 2 (by kernel_rfl)); (clear hq hdep hold); (simp only [h2]); (clear h2); (rw [if_pos (by rfl)]); (refine OpY.call (f := 18) (args := #[(.int .i64 wat), (.int .i64 5)]) (by go_simp) ?_); (refine (HM5.out wf).mono ?_); (rintro e w2 ⟨rfl, rfl⟩); (exact ⟨_, rfl, Kept.refl _ _, rfl⟩)
      refine .cons (fun x wf Kk hq hdep hold => ?_) ?_
      · (try dsimp only); (have h3 : x 3 = _ := hdep 3 (by kernel_rfl)); (clear hq hdep hold); (simp only [h3]); (clear h3); (rw [if_pos (by rfl)]); (refine OpY.val ?_ ⟨Kept.refl _ _, rfl⟩); (first | rfl | go_simp)
      refine .cons (fun x wf Kk hq hdep hold => ?_) ?_
      · (try dsimp only); (have h1 : x 1 = _ := hdep 1 (by kernel_rfl)); (have h4 : x 4 = _ := hdep 4 (by kernel_rfl)); (clear hq hdep hold); (simp only [h1, h4]); (clear h1 h4); (rw [if_pos (by rfl)]); (refine OpY.val ?_ ⟨Kept.refl _ _, rfl⟩); (first | rfl | go_simp)
      refine .cons (fun x wf Kk hq hdep hold => ?_) ?_
      · (try dsimp only); (clear hq hdep hold); (rw [if_pos (by rfl)]); (refine OpY.val ?_ ⟨Kept.refl _ _, rfl⟩); (first | rfl | go_simp)
      refine .cons (fun x wf Kk hq hdep hold => ?_) ?_
      · (try dsimp only); (have h6 : x 6 = _ := hdep 6 (by kernel_rfl)); (have h5 : x 5 = _ := hdep 5 (by kernel_rfl)); (have Kq := hq no (fun j hj => by cases (show j ∈ ([] : List Nat) from by (have e : ∀ l : List Nat, l = [] → j ∈ l → j ∈ ([] : List Nat) := fun l h h2 => h ▸ h2); exact e _ (by kernel_rfl) hj))); (clear hq hdep hold); (simp only [h6, h5]); (clear h6 h5); (rw [if_pos (by rfl)]); (have hb := Kq.undrew.blk gX.out); (have fz := row_free hb 2); (have m1 := Kq.undrew.cell d2h.out id); (have kS := (Kept.refl (fun j => j = GX) wf).setCell (a := ⟨GX, 2, none⟩) (.inl rfl) (.int .i64 (B + (m - 2)))); (refine OpY.skipY (w' := wf.setCell ⟨GX, 2, none⟩ (.int .i64 (B + (m - 2)))) (by go_simp) ⟨kS.mono fun k _ h => ⟨by trivial, h⟩, ?_⟩)
        show (wf.setCell ⟨GX, 2, none⟩ (.int .i64 (B + (m - 2)))).heap[GX]? = _
        rw [setCell_row hb]; rfl
      exact .nil _
    · (intro x wf Kk hv); (try dsimp only); (have p7 : Pr.p (Sl := (fun j k => j = 7 ∧ k = GX)) (PBlkV GX 76 #[.int .i64 P, .slice av lv cv, .int .i64 (B + (m - 2)), .bool Lf]) (x 7) wf := hv 7 (by kernel_rfl)); (clear hv); (have gC8 := hid ((Kk.undrew.block GC (lt_of_heap gC6.out) (Ne.symm hXn.out.1)).trans gC6.out)); (have gX8 := hid p7); (have g88 := hid ((Kk.undrew.block G8 (lt_of_heap g86.out) (Ne.symm hXn.out.2.1)).trans g86.out)); (have hL8 := hid (Kk.undrew.ownsRow hL6.out fun j hj e => hXn.out.2.2 (((show GL = j from by simpa [Value.ownBlock] using hj).trans e).symm))); (have k08 : Hd (Kept no w wf) := ⟨k06.out.trans Kk.undrew fun j hj h => by rw [h] at hj; have := hGXw.out; omega⟩); (obtain ⟨w8, rfl⟩ : ∃ w8 : World, w8 = wf := ⟨_, rfl⟩); (clear Kk p7 gC6 gX g86 hL6 k06); (go_upto_region 31 with fail); (have hTT : Hd ((Value.slice av lv cv = Value.slice av lv cv ∧ T = T) ∨ (w8.ownsRow 0 3 1 (.slice av lv cv) T.length (T.map Z) ∧ New w (.slice av lv cv))) := ⟨.inl ⟨rfl, rfl⟩⟩); (have hNT : Hd (T.length ≤ 9) := ⟨by rw [hlv.out]; omega⟩); (obtain ⟨z0, z1, z2⟩ := slotC gC8.out); (obtain ⟨y0, y1, y2, y3⟩ := slotN4 gX8.out); (have hLw := hid (show w8.ownsRow 0 76 4 (.slice (some ⟨GL, 0, none⟩) len cL) len (flatN q) from hL8.out))
      have hLc : ∀ j, j < len * 4 → ∃ u, w8.cell? ⟨GL, j, none⟩ = some u := fun j hj => by
        obtain ⟨hl1, _, _, he, _, _, hx | ⟨b, o, he2, hc⟩⟩ := Rd.of_own hLw.out
        · cases he
          (have hx2 := hlen.out); (obtain ⟨_, ⟨h1, _⟩ | ⟨g, cap, cur, h1, _, _, h2, _⟩⟩ := hLw.out)
          · cases h1
          · cases h1; omega
        · cases he; cases he2
          (have hjl : j < (flatN q).length := by rw [flatN_len, hlen.out]; exact hj); (have := hc j _ (List.getElem?_eq_getElem hjl)); (rw [Nat.zero_add] at this); (exact ⟨_, this⟩)
      (obtain ⟨u0, r0⟩ := hLc (k * 4) (by omega)); (obtain ⟨u1, r1⟩ := hLc (k * 4 + 1) (by omega)); (obtain ⟨u2, r2⟩ := hLc (k * 4 + 2) (by omega)); (obtain ⟨u3, r3⟩ := hLc (k * 4 + 3) (by omega))
      have hLf : ∀ j, w8.frozen? ⟨GL, j, none⟩ = false := fun j => by
        obtain ⟨_, ⟨h1, _⟩ | ⟨g, cap, cur, h1, _, hg, _⟩⟩ := hLw.out
        · cases h1
        · cases h1; exact row_free hg j
      have hLcur : ∃ cur : Array Value, w8.heap[GL]? = some (.cells cur 76 (0, 0)) := by
        obtain ⟨_, ⟨h1, _⟩ | ⟨g, cap, cur, h1, _, hg, _⟩⟩ := hLw.out
        · cases h1
        · cases h1; exact ⟨_, hg⟩
      (have f0 := hLf (k * 4)); (have f1 := hLf (k * 4 + 1)); (have f2 := hLf (k * 4 + 2)); (have f3 := hLf (k * 4 + 3)); (have o1 := own_set (own_set (own_set (own_set hLw.out (k * 4) (.int .i64 (P))) (k * 4 + 1) ((.slice av lv cv))) (k * 4 + 2) (.int .i64 ((B + (m - 2))))) (k * 4 + 3) (.bool (Lf))); (rw [flatN_set4 (by rw [hlen.out]; exact hkl) (⟨P, T, (B + (m - 2)), Lf⟩ : Nd) ((.slice av lv cv))] at o1); (have kL := ((((Kept.refl (fun j => j = GL) w8).setCell (a := ⟨GL, k * 4, none⟩) (.inl rfl) (.int .i64 (P))).setCell (a := ⟨GL, k * 4 + 1, none⟩) (.inl rfl) ((.slice av lv cv))).setCell (a := ⟨GL, k * 4 + 2, none⟩) (.inl rfl) (.int .i64 ((B + (m - 2))))).setCell (a := ⟨GL, k * 4 + 3, none⟩) (.inl rfl) (.bool (Lf))); (have kLw := (((k08.out.setCell (a := ⟨GL, k * 4, none⟩) (.inr hGLw.out) (.int .i64 (P))).setCell (a := ⟨GL, k * 4 + 1, none⟩) (.inr hGLw.out) ((.slice av lv cv))).setCell (a := ⟨GL, k * 4 + 2, none⟩) (.inr hGLw.out) (.int .i64 ((B + (m - 2))))).setCell (a := ⟨GL, k * 4 + 3, none⟩) (.inr hGLw.out) (.bool (Lf))); (obtain ⟨wz, hwz⟩ : ∃ wz, wz = (((w8.setCell ⟨GL, k * 4, none⟩ (.int .i64 (P))).setCell ⟨GL, k * 4 + 1, none⟩ ((.slice av lv cv))).setCell ⟨GL, k * 4 + 2, none⟩ (.int .i64 ((B + (m - 2))))).setCell ⟨GL, k * 4 + 3, none⟩ (.bool (Lf)) := ⟨_, rfl⟩); (rw [← hwz] at o1 kL kLw); (have gCz := hid ((kL.block GC (lt_of_heap gC8.out) (Ne.symm hGL.out.1)).trans gC8.out)); (have g8z := hid ((kL.block G8 (lt_of_heap g88.out) (Ne.symm hGL.out.2)).trans g88.out)); (have hTz : Hd (((.slice av lv cv) = Value.slice av lv cv ∧ T = T) ∨ (wz.ownsRow 0 3 1 ((.slice av lv cv)) (T).length ((T).map Z) ∧ New w ((.slice av lv cv)))) := ⟨hTT.out.imp id fun h => And.intro (kL.ownsRow h.1 fun j hj e => own_ne h.1 (show w8.heap[GL]? = some (.cells _ 76 (0, 0)) from hLcur.choose_spec) (by decide) j hj e) h.2⟩); (replace o1 := hid o1); (replace kLw := hid kLw); (replace hwz := hid hwz); (clear hLc hLf kL hLw hLcur); (go_upto_region 32 with fail); (rw [← hwz.out]); (clear z0 z1 z2 y0 y1 y2 y3 r0 r1 r2 r3 f0 f1 f2 f3 hwz); (obtain ⟨z0, z1, z2⟩ := slotC gCz.out); (obtain ⟨x0, x1, x2⟩ := slotC g8z.out); (have f0 := row_free g8z.out 0); (have f1 := row_free g8z.out 1); (have f2 := row_free g8z.out 2)
      have o2 : Hd ((((wz.setCell ⟨G8, 0, none⟩ (.int .i64 (A))).setCell ⟨G8, 1, none⟩ (.int .i64 (M))).setCell ⟨G8, 2, none⟩ ((.slice (some ⟨GL, 0, none⟩) len cL))).heap[G8]? = some (.cells [.int .i64 (A), .int .i64 (M), (.slice (some ⟨GL, 0, none⟩) len cL)].toArray 25 (0, 0))) := ⟨by
        rw [setCell_row (setCell_row (setCell_row g8z.out 0 _) 1 _) 2 _]; rfl⟩
      (have k8 := (((Kept.refl (fun j => j = G8) wz).setCell (a := ⟨G8, 0, none⟩) (.inl rfl) (.int .i64 (A))).setCell (a := ⟨G8, 1, none⟩) (.inl rfl) (.int .i64 (M))).setCell (a := ⟨G8, 2, none⟩) (.inl rfl) ((.slice (some ⟨GL, 0, none⟩) len cL))); (have k8w := hid (((kLw.out.setCell (a := ⟨G8, 0, none⟩) (.inr hG8w.out) (.int .i64 (A))).setCell (a := ⟨G8, 1, none⟩) (.inr hG8w.out) (.int .i64 (M))).setCell (a := ⟨G8, 2, none⟩) (.inr hG8w.out) ((.slice (some ⟨GL, 0, none⟩) len cL)))); (obtain ⟨wy, hwy⟩ : ∃ wy, wy = ((wz.setCell ⟨G8, 0, none⟩ (.int .i64 (A))).setCell ⟨G8, 1, none⟩ (.int .i64 (M))).setCell ⟨G8, 2, none⟩ ((.slice (some ⟨GL, 0, none⟩) len cL)) := ⟨_, rfl⟩); (rw [← hwy] at o2 k8 k8w); (replace k8 := hid k8)
      have hR : Hd (SplN w wy q ((.slice (some ⟨GL, 0, none⟩) len cL)) ((q.set k ((⟨P, T, (B + (m - 2)), Lf⟩ : Nd), (.slice av lv cv))))) := ⟨by
        refine ⟨by rw [List.length_set, hlen.out]; exact Rd.kept (Rd.of_own o1.out) k8.out fun j hj e => own_ne o1.out g8z.out (by decide) j hj e, .inr ⟨GL, rfl, hGLw.out⟩, fun y hy => ?_⟩
        rcases List.mem_or_eq_of_mem_set hy with hy | rfl
        · exact .inl ⟨y, hy, rfl, rfl⟩
        · rcases hTz.out with ⟨h1, h2⟩ | ⟨h, h2⟩
          · exact .inl ⟨_, hxq.out, h1.symm, (hxT.out.trans h2.symm)⟩
          · exact .inr ⟨Rd.kept (Rd.of_own h) k8.out fun j hj e => own_ne h g8z.out (by decide) j hj e, h2⟩⟩
      have hRes : Hd (((q.set k ((⟨P, T, (B + (m - 2)), Lf⟩ : Nd), (.slice av lv cv)))).length ≤ len + 1 ∧ ∀ x ∈ nds ((q.set k ((⟨P, T, (B + (m - 2)), Lf⟩ : Nd), (.slice av lv cv)))), x.tail.length ≤ 9) := ⟨by
        (refine ⟨by rw [List.length_set, hlen.out]; omega, fun y hy => ?_⟩); (obtain ⟨z, hz, rfl⟩ := List.mem_map.1 hy)
        rcases List.mem_or_eq_of_mem_set hz with hz | rfl
        · have := (hwf.out z.1 (List.mem_map.2 ⟨z, hz, rfl⟩)).2.1; omega
        · exact hNT.out⟩
      (replace hwy := hid hwy); (go_wp2); (refine bodyPost_ret (v := .agg [.int .i64 (A), .int .i64 (M), (.slice (some ⟨GL, 0, none⟩) len cL)].toArray) ?_ rfl ?_)
      · (rw [← hwy.out]); (exact results_cert1 rfl _ _ G8 [.int .i64 (A), .int .i64 (M), (.slice (some ⟨GL, 0, none⟩) len cL)] rfl rfl o2.out)
      · (rw [← hwy.out]); (exact ⟨A, M, _, (q.set k ((⟨P, T, (B + (m - 2)), Lf⟩ : Nd), (.slice av lv cv))), rfl, hR.out, by rw [hlen.out]; exact hRes.out.1, hRes.out.2, k8w.out⟩)
  · (skip); (have fz := row_free gX.out 3); (have kS := (Kept.refl (fun j => j = GX) w7).setCell (a := ⟨GX, 3, none⟩) (.inl rfl) (.bool (!Lf))); (have gC8 := hid ((kS.block GC (lt_of_heap gC6.out) (Ne.symm hXn.out.1)).trans gC6.out)); (have gX8 : Hd ((w7.setCell ⟨GX, 3, none⟩ (.bool (!Lf))).heap[GX]? = some (.cells #[.int .i64 P, .slice av lv cv, .int .i64 B, .bool (!Lf)] 76 (0, 0))) := ⟨by rw [setCell_row gX.out]; rfl⟩); (have g88 := hid ((kS.block G8 (lt_of_heap g86.out) (Ne.symm hXn.out.2.1)).trans g86.out)); (have hL8 := hid (kS.ownsRow hL6.out fun j hj e => hXn.out.2.2 (((show GL = j from by simpa [Value.ownBlock] using hj).trans e).symm))); (have k08 := hid (k06.out.setCell (a := ⟨GX, 3, none⟩) (.inr hGXw.out) (.bool (!Lf)))); (go_upto_region 31 with fail); (clear c0 c1 c2 d0 d1 d2 d3); (clear fz); (obtain ⟨w8, hw8⟩ : ∃ w8, w8 = (w7.setCell ⟨GX, 3, none⟩ (.bool (!Lf))) := ⟨_, rfl⟩); (rw [← hw8] at gC8 gX8 g88 hL8 k08 ⊢); (clear hw8 kS); (have hTT : Hd ((Value.slice av lv cv = Value.slice av lv cv ∧ T = T) ∨ (w8.ownsRow 0 3 1 (.slice av lv cv) T.length (T.map Z) ∧ New w (.slice av lv cv))) := ⟨.inl ⟨rfl, rfl⟩⟩); (have hNT : Hd (T.length ≤ 9) := ⟨by rw [hlv.out]; omega⟩); (obtain ⟨z0, z1, z2⟩ := slotC gC8.out); (obtain ⟨y0, y1, y2, y3⟩ := slotN4 gX8.out); (have hLw := hid (show w8.ownsRow 0 76 4 (.slice (some ⟨GL, 0, none⟩) len cL) len (flatN q) from hL8.out))
    have hLc : ∀ j, j < len * 4 → ∃ u, w8.cell? ⟨GL, j, none⟩ = some u := fun j hj => by
      obtain ⟨hl1, _, _, he, _, _, hx | ⟨b, o, he2, hc⟩⟩ := Rd.of_own hLw.out
      · cases he
        (have hx2 := hlen.out); (obtain ⟨_, ⟨h1, _⟩ | ⟨g, cap, cur, h1, _, _, h2, _⟩⟩ := hLw.out)
        · cases h1
        · cases h1; omega
      · cases he; cases he2
        (have hjl : j < (flatN q).length := by rw [flatN_len, hlen.out]; exact hj); (have := hc j _ (List.getElem?_eq_getElem hjl)); (rw [Nat.zero_add] at this); (exact ⟨_, this⟩)
    (obtain ⟨u0, r0⟩ := hLc (k * 4) (by omega)); (obtain ⟨u1, r1⟩ := hLc (k * 4 + 1) (by omega)); (obtain ⟨u2, r2⟩ := hLc (k * 4 + 2) (by omega)); (obtain ⟨u3, r3⟩ := hLc (k * 4 + 3) (by omega))
    have hLf : ∀ j, w8.frozen? ⟨GL, j, none⟩ = false := fun j => by
      obtain ⟨_, ⟨h1, _⟩ | ⟨g, cap, cur, h1, _, hg, _⟩⟩ := hLw.out
      · cases h1
      · cases h1; exact row_free hg j
    have hLcur : ∃ cur : Array Value, w8.heap[GL]? = some (.cells cur 76 (0, 0)) := by
      obtain ⟨_, ⟨h1, _⟩ | ⟨g, cap, cur, h1, _, hg, _⟩⟩ := hLw.out
      · cases h1
      · cases h1; exact ⟨_, hg⟩
    (have f0 := hLf (k * 4)); (have f1 := hLf (k * 4 + 1)); (have f2 := hLf (k * 4 + 2)); (have f3 := hLf (k * 4 + 3)); (have o1 := own_set (own_set (own_set (own_set hLw.out (k * 4) (.int .i64 (P))) (k * 4 + 1) ((.slice av lv cv))) (k * 4 + 2) (.int .i64 (B))) (k * 4 + 3) (.bool ((!Lf)))); (rw [flatN_set4 (by rw [hlen.out]; exact hkl) (⟨P, T, B, (!Lf)⟩ : Nd) ((.slice av lv cv))] at o1); (have kL := ((((Kept.refl (fun j => j = GL) w8).setCell (a := ⟨GL, k * 4, none⟩) (.inl rfl) (.int .i64 (P))).setCell (a := ⟨GL, k * 4 + 1, none⟩) (.inl rfl) ((.slice av lv cv))).setCell (a := ⟨GL, k * 4 + 2, none⟩) (.inl rfl) (.int .i64 (B))).setCell (a := ⟨GL, k * 4 + 3, none⟩) (.inl rfl) (.bool ((!Lf)))); (have kLw := (((k08.out.setCell (a := ⟨GL, k * 4, none⟩) (.inr hGLw.out) (.int .i64 (P))).setCell (a := ⟨GL, k * 4 + 1, none⟩) (.inr hGLw.out) ((.slice av lv cv))).setCell (a := ⟨GL, k * 4 + 2, none⟩) (.inr hGLw.out) (.int .i64 (B))).setCell (a := ⟨GL, k * 4 + 3, none⟩) (.inr hGLw.out) (.bool ((!Lf)))); (obtain ⟨wz, hwz⟩ : ∃ wz, wz = (((w8.setCell ⟨GL, k * 4, none⟩ (.int .i64 (P))).setCell ⟨GL, k * 4 + 1, none⟩ ((.slice av lv cv))).setCell ⟨GL, k * 4 + 2, none⟩ (.int .i64 (B))).setCell ⟨GL, k * 4 + 3, none⟩ (.bool ((!Lf))) := ⟨_, rfl⟩); (rw [← hwz] at o1 kL kLw); (have gCz := hid ((kL.block GC (lt_of_heap gC8.out) (Ne.symm hGL.out.1)).trans gC8.out)); (have g8z := hid ((kL.block G8 (lt_of_heap g88.out) (Ne.symm hGL.out.2)).trans g88.out)); (have hTz : Hd (((.slice av lv cv) = Value.slice av lv cv ∧ T = T) ∨ (wz.ownsRow 0 3 1 ((.slice av lv cv)) (T).length ((T).map Z) ∧ New w ((.slice av lv cv)))) := ⟨hTT.out.imp id fun h => And.intro (kL.ownsRow h.1 fun j hj e => own_ne h.1 (show w8.heap[GL]? = some (.cells _ 76 (0, 0)) from hLcur.choose_spec) (by decide) j hj e) h.2⟩); (replace o1 := hid o1); (replace kLw := hid kLw); (replace hwz := hid hwz); (clear hLc hLf kL hLw hLcur); (go_upto_region 32 with fail); (rw [← hwz.out]); (clear z0 z1 z2 y0 y1 y2 y3 r0 r1 r2 r3 f0 f1 f2 f3 hwz); (obtain ⟨z0, z1, z2⟩ := slotC gCz.out); (obtain ⟨x0, x1, x2⟩ := slotC g8z.out); (have f0 := row_free g8z.out 0); (have f1 := row_free g8z.out 1); (have f2 := row_free g8z.out 2)
    have o2 : Hd ((((wz.setCell ⟨G8, 0, none⟩ (.int .i64 (A))).setCell ⟨G8, 1, none⟩ (.int .i64 (M))).setCell ⟨G8, 2, none⟩ ((.slice (some ⟨GL, 0, none⟩) len cL))).heap[G8]? = some (.cells [.int .i64 (A), .int .i64 (M), (.slice (some ⟨GL, 0, none⟩) len cL)].toArray 25 (0, 0))) := ⟨by
      rw [setCell_row (setCell_row (setCell_row g8z.out 0 _) 1 _) 2 _]; rfl⟩
    (have k8 := (((Kept.refl (fun j => j = G8) wz).setCell (a := ⟨G8, 0, none⟩) (.inl rfl) (.int .i64 (A))).setCell (a := ⟨G8, 1, none⟩) (.inl rfl) (.int .i64 (M))).setCell (a := ⟨G8, 2, none⟩) (.inl rfl) ((.slice (some ⟨GL, 0, none⟩) len cL))); (have k8w := hid (((kLw.out.setCell (a := ⟨G8, 0, none⟩) (.inr hG8w.out) (.int .i64 (A))).setCell (a := ⟨G8, 1, none⟩) (.inr hG8w.out) (.int .i64 (M))).setCell (a := ⟨G8, 2, none⟩) (.inr hG8w.out) ((.slice (some ⟨GL, 0, none⟩) len cL)))); (obtain ⟨wy, hwy⟩ : ∃ wy, wy = ((wz.setCell ⟨G8, 0, none⟩ (.int .i64 (A))).setCell ⟨G8, 1, none⟩ (.int .i64 (M))).setCell ⟨G8, 2, none⟩ ((.slice (some ⟨GL, 0, none⟩) len cL)) := ⟨_, rfl⟩); (rw [← hwy] at o2 k8 k8w); (replace k8 := hid k8)
    have hR : Hd (SplN w wy q ((.slice (some ⟨GL, 0, none⟩) len cL)) ((q.set k ((⟨P, T, B, (!Lf)⟩ : Nd), (.slice av lv cv))))) := ⟨by
      refine ⟨by rw [List.length_set, hlen.out]; exact Rd.kept (Rd.of_own o1.out) k8.out fun j hj e => own_ne o1.out g8z.out (by decide) j hj e, .inr ⟨GL, rfl, hGLw.out⟩, fun y hy => ?_⟩
      rcases List.mem_or_eq_of_mem_set hy with hy | rfl
      · exact .inl ⟨y, hy, rfl, rfl⟩
      · rcases hTz.out with ⟨h1, h2⟩ | ⟨h, h2⟩
        · exact .inl ⟨_, hxq.out, h1.symm, (hxT.out.trans h2.symm)⟩
        · exact .inr ⟨Rd.kept (Rd.of_own h) k8.out fun j hj e => own_ne h g8z.out (by decide) j hj e, h2⟩⟩
    have hRes : Hd (((q.set k ((⟨P, T, B, (!Lf)⟩ : Nd), (.slice av lv cv)))).length ≤ len + 1 ∧ ∀ x ∈ nds ((q.set k ((⟨P, T, B, (!Lf)⟩ : Nd), (.slice av lv cv)))), x.tail.length ≤ 9) := ⟨by
      (refine ⟨by rw [List.length_set, hlen.out]; omega, fun y hy => ?_⟩); (obtain ⟨z, hz, rfl⟩ := List.mem_map.1 hy)
      rcases List.mem_or_eq_of_mem_set hz with hz | rfl
      · have := (hwf.out z.1 (List.mem_map.2 ⟨z, hz, rfl⟩)).2.1; omega
      · exact hNT.out⟩
    (replace hwy := hid hwy); (go_wp2); (refine bodyPost_ret (v := .agg [.int .i64 (A), .int .i64 (M), (.slice (some ⟨GL, 0, none⟩) len cL)].toArray) ?_ rfl ?_)
    · (rw [← hwy.out]); (exact results_cert1 rfl _ _ G8 [.int .i64 (A), .int .i64 (M), (.slice (some ⟨GL, 0, none⟩) len cL)] rfl rfl o2.out)
    · (rw [← hwy.out]); (exact ⟨A, M, _, (q.set k ((⟨P, T, B, (!Lf)⟩ : Nd), (.slice av lv cv))), rfl, hR.out, by rw [hlen.out]; exact hRes.out.1, hRes.out.2, k8w.out⟩)
  · (skip); (have hw0 : IntKind.i64.wrap ((len : Int) + 2) = (len : Int) + 2 := IntWalk.i64_in _ (by omega)); (have HM5 := hid (fun w => mod_any wat ((len : Int) + 2) w (by omega) (by omega))); (obtain ⟨hm0, hm1⟩ := modI_lt wat ((len : Int) + 2) (by omega)); (obtain ⟨m, hm⟩ : ∃ m, modI wat ((len : Int) + 2) = m := ⟨_, rfl⟩); (rw [hm] at HM5 hm0 hm1); (clear hm); (have hw1 : IntKind.i64.wrap (m - 1) = m - 1 := IntWalk.i64_in _ (by omega)); (go_wp2_with fail); (with_reducible refine (HM5.out _).mono ?_); (rintro e w7 ⟨rfl, rfl⟩); (have fz := row_free gX.out 0); (have kS := (Kept.refl (fun j => j = GX) w7).setCell (a := ⟨GX, 0, none⟩) (.inl rfl) (.int .i64 (m - 1))); (have gC8 := hid ((kS.block GC (lt_of_heap gC6.out) (Ne.symm hXn.out.1)).trans gC6.out)); (have gX8 : Hd ((w7.setCell ⟨GX, 0, none⟩ (.int .i64 (m - 1))).heap[GX]? = some (.cells #[.int .i64 (m - 1), .slice av lv cv, .int .i64 B, .bool Lf] 76 (0, 0))) := ⟨by rw [setCell_row gX.out]; rfl⟩); (have g88 := hid ((kS.block G8 (lt_of_heap g86.out) (Ne.symm hXn.out.2.1)).trans g86.out)); (have hL8 := hid (kS.ownsRow hL6.out fun j hj e => hXn.out.2.2 (((show GL = j from by simpa [Value.ownBlock] using hj).trans e).symm))); (have k08 := hid (k06.out.setCell (a := ⟨GX, 0, none⟩) (.inr hGXw.out) (.int .i64 (m - 1)))); (go_upto_region 31 with fail); (clear c0 c1 c2 d0 d1 d2 d3); (clear fz); (obtain ⟨w8, hw8⟩ : ∃ w8, w8 = (w7.setCell ⟨GX, 0, none⟩ (.int .i64 (m - 1))) := ⟨_, rfl⟩); (rw [← hw8] at gC8 gX8 g88 hL8 k08 ⊢); (clear hw8 kS); (have hTT : Hd ((Value.slice av lv cv = Value.slice av lv cv ∧ T = T) ∨ (w8.ownsRow 0 3 1 (.slice av lv cv) T.length (T.map Z) ∧ New w (.slice av lv cv))) := ⟨.inl ⟨rfl, rfl⟩⟩); (have hNT : Hd (T.length ≤ 9) := ⟨by rw [hlv.out]; omega⟩); (obtain ⟨z0, z1, z2⟩ := slotC gC8.out); (obtain ⟨y0, y1, y2, y3⟩ := slotN4 gX8.out); (have hLw := hid (show w8.ownsRow 0 76 4 (.slice (some ⟨GL, 0, none⟩) len cL) len (flatN q) from hL8.out))
    have hLc : ∀ j, j < len * 4 → ∃ u, w8.cell? ⟨GL, j, none⟩ = some u := fun j hj => by
      obtain ⟨hl1, _, _, he, _, _, hx | ⟨b, o, he2, hc⟩⟩ := Rd.of_own hLw.out
      · cases he
        (have hx2 := hlen.out); (obtain ⟨_, ⟨h1, _⟩ | ⟨g, cap, cur, h1, _, _, h2, _⟩⟩ := hLw.out)
        · cases h1
        · cases h1; omega
      · cases he; cases he2
        (have hjl : j < (flatN q).length := by rw [flatN_len, hlen.out]; exact hj); (have := hc j _ (List.getElem?_eq_getElem hjl)); (rw [Nat.zero_add] at this); (exact ⟨_, this⟩)
    (obtain ⟨u0, r0⟩ := hLc (k * 4) (by omega)); (obtain ⟨u1, r1⟩ := hLc (k * 4 + 1) (by omega)); (obtain ⟨u2, r2⟩ := hLc (k * 4 + 2) (by omega)); (obtain ⟨u3, r3⟩ := hLc (k * 4 + 3) (by omega))
    have hLf : ∀ j, w8.frozen? ⟨GL, j, none⟩ = false := fun j => by
      obtain ⟨_, ⟨h1, _⟩ | ⟨g, cap, cur, h1, _, hg, _⟩⟩ := hLw.out
      · cases h1
      · cases h1; exact row_free hg j
    have hLcur : ∃ cur : Array Value, w8.heap[GL]? = some (.cells cur 76 (0, 0)) := by
      obtain ⟨_, ⟨h1, _⟩ | ⟨g, cap, cur, h1, _, hg, _⟩⟩ := hLw.out
      · cases h1
      · cases h1; exact ⟨_, hg⟩
    (have f0 := hLf (k * 4)); (have f1 := hLf (k * 4 + 1)); (have f2 := hLf (k * 4 + 2)); (have f3 := hLf (k * 4 + 3)); (have o1 := own_set (own_set (own_set (own_set hLw.out (k * 4) (.int .i64 ((m - 1)))) (k * 4 + 1) ((.slice av lv cv))) (k * 4 + 2) (.int .i64 (B))) (k * 4 + 3) (.bool (Lf))); (rw [flatN_set4 (by rw [hlen.out]; exact hkl) (⟨(m - 1), T, B, Lf⟩ : Nd) ((.slice av lv cv))] at o1); (have kL := ((((Kept.refl (fun j => j = GL) w8).setCell (a := ⟨GL, k * 4, none⟩) (.inl rfl) (.int .i64 ((m - 1)))).setCell (a := ⟨GL, k * 4 + 1, none⟩) (.inl rfl) ((.slice av lv cv))).setCell (a := ⟨GL, k * 4 + 2, none⟩) (.inl rfl) (.int .i64 (B))).setCell (a := ⟨GL, k * 4 + 3, none⟩) (.inl rfl) (.bool (Lf))); (have kLw := (((k08.out.setCell (a := ⟨GL, k * 4, none⟩) (.inr hGLw.out) (.int .i64 ((m - 1)))).setCell (a := ⟨GL, k * 4 + 1, none⟩) (.inr hGLw.out) ((.slice av lv cv))).setCell (a := ⟨GL, k * 4 + 2, none⟩) (.inr hGLw.out) (.int .i64 (B))).setCell (a := ⟨GL, k * 4 + 3, none⟩) (.inr hGLw.out) (.bool (Lf))); (obtain ⟨wz, hwz⟩ : ∃ wz, wz = (((w8.setCell ⟨GL, k * 4, none⟩ (.int .i64 ((m - 1)))).setCell ⟨GL, k * 4 + 1, none⟩ ((.slice av lv cv))).setCell ⟨GL, k * 4 + 2, none⟩ (.int .i64 (B))).setCell ⟨GL, k * 4 + 3, none⟩ (.bool (Lf)) := ⟨_, rfl⟩); (rw [← hwz] at o1 kL kLw); (have gCz := hid ((kL.block GC (lt_of_heap gC8.out) (Ne.symm hGL.out.1)).trans gC8.out)); (have g8z := hid ((kL.block G8 (lt_of_heap g88.out) (Ne.symm hGL.out.2)).trans g88.out)); (have hTz : Hd (((.slice av lv cv) = Value.slice av lv cv ∧ T = T) ∨ (wz.ownsRow 0 3 1 ((.slice av lv cv)) (T).length ((T).map Z) ∧ New w ((.slice av lv cv)))) := ⟨hTT.out.imp id fun h => And.intro (kL.ownsRow h.1 fun j hj e => own_ne h.1 (show w8.heap[GL]? = some (.cells _ 76 (0, 0)) from hLcur.choose_spec) (by decide) j hj e) h.2⟩); (replace o1 := hid o1); (replace kLw := hid kLw); (replace hwz := hid hwz); (clear hLc hLf kL hLw hLcur); (go_upto_region 32 with fail); (rw [← hwz.out]); (clear z0 z1 z2 y0 y1 y2 y3 r0 r1 r2 r3 f0 f1 f2 f3 hwz); (obtain ⟨z0, z1, z2⟩ := slotC gCz.out); (obtain ⟨x0, x1, x2⟩ := slotC g8z.out); (have f0 := row_free g8z.out 0); (have f1 := row_free g8z.out 1); (have f2 := row_free g8z.out 2)
    have o2 : Hd ((((wz.setCell ⟨G8, 0, none⟩ (.int .i64 (A))).setCell ⟨G8, 1, none⟩ (.int .i64 (M))).setCell ⟨G8, 2, none⟩ ((.slice (some ⟨GL, 0, none⟩) len cL))).heap[G8]? = some (.cells [.int .i64 (A), .int .i64 (M), (.slice (some ⟨GL, 0, none⟩) len cL)].toArray 25 (0, 0))) := ⟨by
      rw [setCell_row (setCell_row (setCell_row g8z.out 0 _) 1 _) 2 _]; rfl⟩
    (have k8 := (((Kept.refl (fun j => j = G8) wz).setCell (a := ⟨G8, 0, none⟩) (.inl rfl) (.int .i64 (A))).setCell (a := ⟨G8, 1, none⟩) (.inl rfl) (.int .i64 (M))).setCell (a := ⟨G8, 2, none⟩) (.inl rfl) ((.slice (some ⟨GL, 0, none⟩) len cL))); (have k8w := hid (((kLw.out.setCell (a := ⟨G8, 0, none⟩) (.inr hG8w.out) (.int .i64 (A))).setCell (a := ⟨G8, 1, none⟩) (.inr hG8w.out) (.int .i64 (M))).setCell (a := ⟨G8, 2, none⟩) (.inr hG8w.out) ((.slice (some ⟨GL, 0, none⟩) len cL)))); (obtain ⟨wy, hwy⟩ : ∃ wy, wy = ((wz.setCell ⟨G8, 0, none⟩ (.int .i64 (A))).setCell ⟨G8, 1, none⟩ (.int .i64 (M))).setCell ⟨G8, 2, none⟩ ((.slice (some ⟨GL, 0, none⟩) len cL)) := ⟨_, rfl⟩); (rw [← hwy] at o2 k8 k8w); (replace k8 := hid k8)
    have hR : Hd (SplN w wy q ((.slice (some ⟨GL, 0, none⟩) len cL)) ((q.set k ((⟨(m - 1), T, B, Lf⟩ : Nd), (.slice av lv cv))))) := ⟨by
      refine ⟨by rw [List.length_set, hlen.out]; exact Rd.kept (Rd.of_own o1.out) k8.out fun j hj e => own_ne o1.out g8z.out (by decide) j hj e, .inr ⟨GL, rfl, hGLw.out⟩, fun y hy => ?_⟩
      rcases List.mem_or_eq_of_mem_set hy with hy | rfl
      · exact .inl ⟨y, hy, rfl, rfl⟩
      · rcases hTz.out with ⟨h1, h2⟩ | ⟨h, h2⟩
        · exact .inl ⟨_, hxq.out, h1.symm, (hxT.out.trans h2.symm)⟩
        · exact .inr ⟨Rd.kept (Rd.of_own h) k8.out fun j hj e => own_ne h g8z.out (by decide) j hj e, h2⟩⟩
    have hRes : Hd (((q.set k ((⟨(m - 1), T, B, Lf⟩ : Nd), (.slice av lv cv)))).length ≤ len + 1 ∧ ∀ x ∈ nds ((q.set k ((⟨(m - 1), T, B, Lf⟩ : Nd), (.slice av lv cv)))), x.tail.length ≤ 9) := ⟨by
      (refine ⟨by rw [List.length_set, hlen.out]; omega, fun y hy => ?_⟩); (obtain ⟨z, hz, rfl⟩ := List.mem_map.1 hy)
      rcases List.mem_or_eq_of_mem_set hz with hz | rfl
      · have := (hwf.out z.1 (List.mem_map.2 ⟨z, hz, rfl⟩)).2.1; omega
      · exact hNT.out⟩
    (replace hwy := hid hwy); (go_wp2); (refine bodyPost_ret (v := .agg [.int .i64 (A), .int .i64 (M), (.slice (some ⟨GL, 0, none⟩) len cL)].toArray) ?_ rfl ?_)
    · (rw [← hwy.out]); (exact results_cert1 rfl _ _ G8 [.int .i64 (A), .int .i64 (M), (.slice (some ⟨GL, 0, none⟩) len cL)] rfl rfl o2.out)
    · (rw [← hwy.out]); (exact ⟨A, M, _, (q.set k ((⟨(m - 1), T, B, Lf⟩ : Nd), (.slice av lv cv))), rfl, hR.out, by rw [hlen.out]; exact hRes.out.1, hRes.out.2, k8w.out⟩)
  · (skip); (have HM5 := hid (fun w => mod_any wat 6 w (by omega) (by omega))); (obtain ⟨hm0, hm1⟩ := modI_lt wat 6 (by omega)); (obtain ⟨m, hm⟩ : ∃ m, modI wat 6 = m := ⟨_, rfl⟩); (rw [hm] at HM5 hm0 hm1); (clear hm); (have hw1 : IntKind.i64.wrap (m - 1) = m - 1 := IntWalk.i64_in _ (by omega)); (have d1h := hid d1); (have hsl : ∀ w, (Instr.slice 40 (.slice av lv cv) (some (.int .i64 1)) none none).run Try.prog w = .ok (.slice (if cv = 1 then av else av.map (·.add 1)) (lv - 1) (cv - 1)) w := fun w => post_sliceI av lv cv 1 (by omega) w); (have hzd := RdZ.dropI (show RdZ w (.slice av lv cv) T from hzx.out) 1 (by rw [hlv.out]; omega)); (rw [hlv.out] at hzd); (obtain ⟨ad, had⟩ : ∃ ad, (if cv = 1 then av else av.map (·.add 1)) = ad := ⟨_, rfl⟩); (rw [had] at hsl hzd); (obtain ⟨ld, hld⟩ : ∃ l, lv - 1 = l := ⟨_, rfl⟩); (obtain ⟨cd, hcd⟩ : ∃ l, cv - 1 = l := ⟨_, rfl⟩); (rw [hld, hcd] at hsl hzd); (have hdl : Hd ((T.drop 1).length = ld) := ⟨by rw [List.length_drop, hlv.out, hld]⟩); (have hzd : Hd (Rd w 1 (.slice ad ld cd) ld ((T.drop 1).map Z)) := ⟨by have := hzd; unfold RdZ at this; rwa [hdl.out] at this⟩); (have hs1 : Hd (1 + ld ≤ maxLen ∧ (1 + ld) * 8 ≤ 140737488355328) := ⟨by have hmx : maxLen = 9223372036854775807 := rfl; omega⟩); (have k6w := hid (show Kept no w w7 from k06.out)); (clear had hld hcd); (go_upto_region 16 with fail); (clear c0 c1 c2 d0 d1 d2 d3); (refine region_flow (S := (fun k => w7.drew.heap.size ≤ k ∨ k = GX)) (Sl := (fun j k => (j = 7 ∧ w7.drew.heap.size ≤ k) ∨ (j = 9 ∧ k = GX))) [Is (.int .i64 wat), Is (.int .i64 m), Is (.int .i64 (m - 1)), OwNew w7 [m - 1], Is (.pointer (some ⟨GX, 1, none⟩)), Is (.slice av lv cv), Is (.slice ad ld cd), OwNew w7 ((m - 1) :: T.drop 1), Is (.pointer (some ⟨GX, 1, none⟩)), PTl w7 GX P B Lf ((m - 1) :: T.drop 1)] [7, 9] (fun j k h => h.elim (fun h => .inl h.2) (fun h => .inr h.2)) _ (by kernel_rfl) (by kernel_rfl) (by kernel_rfl) (by kernel_rfl) (fun x => by simp only [puts, Act.put, List.map_cons, List.map_nil, Nat.zero_add, Nat.reduceAdd, List.setIfInBounds_toArray, List.set_cons_zero, List.set_cons_succ]; exact rfl) ?_ ?_)
    · (skip); (refine .cons (fun x wf Kk hq hdep hold => ?_) ?_)
      · (try dsimp only); (clear hq hdep hold); (rw [if_pos (by rfl)]); (refine OpY.val ?_ ⟨Kept.refl _ _, rfl⟩); (first | rfl | go_simp)
      refine .cons (fun x wf Kk hq hdep hold => ?_) ?_
      · (try dsimp only); (have h0 : x 0 = _ := hdep 0 (by kernel_rfl)); (clear hq hdep hold); (simp only [h0]); (clear h0); (rw [if_pos (by rfl)]); (refine OpY.call (f := 18) (args := #[(.int .i64 wat), (.int .i64 6)]) (by go_simp) ?_); (refine (HM5.out wf).mono ?_); (rintro e w2 ⟨rfl, rfl⟩); (exact ⟨_, rfl, Kept.refl _ _, rfl⟩)
      refine .cons (fun x wf Kk hq hdep hold => ?_) ?_
      · (try dsimp only); (have h1 : x 1 = _ := hdep 1 (by kernel_rfl)); (clear hq hdep hold); (simp only [h1]); (clear h1); (rw [if_pos (by rfl)]); (refine OpY.val ?_ ⟨Kept.refl _ _, rfl⟩); (first | rfl | go_simp)
      refine .cons (fun x wf Kk hq hdep hold => ?_) ?_
      · (try dsimp only); (have h2 : x 2 = _ := hdep 2 (by kernel_rfl)); (have Kq := hq no (fun j hj => by cases (show j ∈ ([] : List Nat) from by (have e : ∀ l : List Nat, l = [] → j ∈ l → j ∈ ([] : List Nat) := fun l h h2 => h ▸ h2); exact e _ (by kernel_rfl) hj))); (clear hq hdep hold); (simp only [h2]); (clear h2); (rw [if_pos (by rfl)]); (refine OpY.build 40 3 1 _ rfl 1 (.int .i64 0) Try.underlying40 infI (by decide) (by decide) [.int .i64 (m - 1)] [(0, .int .i64 (m - 1))] rfl (fill_rows 1 (by decide) (.int .i64 0) [.int .i64 (m - 1)] (fun v hv => by obtain rfl := List.mem_singleton.1 hv; rfl)) rfl (by decide) ?_); (intro w' hg k ho); (exact ⟨k, ho, Kq.undrew.trans' k, .inr ⟨wf.heap.size, rfl, Kq.undrew.size⟩⟩)
      refine .cons (fun x wf Kk hq hdep hold => ?_) ?_
      · (try dsimp only); (clear hq hdep hold); (rw [if_pos (by rfl)]); (refine OpY.val ?_ ⟨Kept.refl _ _, rfl⟩); (first | rfl | go_simp)
      refine .cons (fun x wf Kk hq hdep hold => ?_) ?_
      · (try dsimp only); (have h4 : x 4 = _ := hdep 4 (by kernel_rfl)); (have Kq := hq no (fun j hj => by cases (show j ∈ ([] : List Nat) from by (have e : ∀ l : List Nat, l = [] → j ∈ l → j ∈ ([] : List Nat) := fun l h h2 => h ▸ h2); exact e _ (by kernel_rfl) hj))); (clear hq hdep hold); (simp only [h4]); (clear h4); (have m1 := Kq.undrew.cell d1h.out id); (rw [if_pos (by rfl)]); (refine OpY.val ?_ ⟨Kept.refl _ _, rfl⟩); (first | rfl | go_simp)
      refine .cons (fun x wf Kk hq hdep hold => ?_) ?_
      · (try dsimp only); (have h5 : x 5 = _ := hdep 5 (by kernel_rfl)); (clear hq hdep hold); (simp only [h5]); (clear h5); (rw [if_pos (by rfl)]); (refine OpY.val ?_ ⟨Kept.refl _ _, rfl⟩); (first | rfl | go_simp)
      refine .cons (fun x wf Kk hq hdep hold => ?_) ?_
      · (try dsimp only); (have p3 : Pr.p (Sl := (fun j k => (j = 7 ∧ w7.drew.heap.size ≤ k) ∨ (j = 9 ∧ k = GX))) (OwNew w7 [m - 1]) (x 3) wf := hdep 3 (by kernel_rfl)); (have h6 : x 6 = _ := hdep 6 (by kernel_rfl)); (have Kq := hq no (fun j hj => by cases (show j ∈ ([] : List Nat) from by (have e : ∀ l : List Nat, l = [] → j ∈ l → j ∈ ([] : List Nat) := fun l h h2 => h ▸ h2); exact e _ (by kernel_rfl) hj))); (clear hq hdep hold); (simp only [h6]); (clear h6); (rw [if_pos (by rfl)]); (refine OpY.append (.tmp 73) (.tmp 76) 40 _ rfl rfl 3 1 8 TInts (x 3) _ _ rfl p3.own (.slice ad ld cd) ld ((T.drop 1).map Z) rfl (hzd.out.keptNo (k6w.out.trans' Kq.undrew)) (Z_oneF _) hs1.out.1 hs1.out.2 ?_); (intro v2 w5 h2 h3 h4 _); (exact ⟨h3.mono fun k _ e => Or.inl ⟨by trivial, p3.new.fr (Nat.le_refl _) k e⟩, OwZ.adds (zs := [m - 1]) p3 (by rw [hdl.out]; exact h2) h3 h4⟩)
      refine .cons (fun x wf Kk hq hdep hold => ?_) ?_
      · (try dsimp only); (clear hq hdep hold); (rw [if_pos (by rfl)]); (refine OpY.val ?_ ⟨Kept.refl _ _, rfl⟩); (first | rfl | go_simp)
      refine .cons (fun x wf Kk hq hdep hold => ?_) ?_
      · (try dsimp only); (have h8 : x 8 = _ := hdep 8 (by kernel_rfl)); (have p7 : Pr.p (Sl := (fun j k => (j = 7 ∧ w7.drew.heap.size ≤ k) ∨ (j = 9 ∧ k = GX))) (OwNew w7 ((m - 1) :: T.drop 1)) (x 7) wf := hdep 7 (by kernel_rfl)); (have Kq := hq (fun k => w7.drew.heap.size ≤ k) (fun j hj k hk => by (have e : ∀ l : List Nat, l = [7] → j ∈ l → j ∈ ([7] : List Nat) := fun l h h2 => h ▸ h2); have hj := e _ (by kernel_rfl) hj; obtain rfl := List.mem_singleton.1 hj; rcases hk with h | h; exact h.2; exact absurd h.1 (by decide))); (clear hq hdep hold); (simp only [h8]); (clear h8); (rw [if_pos (by rfl)]); (have hb := (Kq.undrew.block GX (lt_of_heap gX.out) (fun h => Nat.not_le.2 (lt_of_heap gX.out) h)).trans gX.out); (have fz := row_free hb 1); (have m1 := (slotN4 hb).2.1); (obtain ⟨_, ax, cx, e11, _⟩ := Rd.of_own p7.own); (rw [e11] at p7 ⊢); (have kS := (Kept.refl (fun j => j = GX) wf).setCell (a := ⟨GX, 1, none⟩) (.inl rfl) (.slice ax ((m - 1) :: T.drop 1).length cx)); (refine OpY.skipY (w' := wf.setCell ⟨GX, 1, none⟩ (.slice ax ((m - 1) :: T.drop 1).length cx)) (by go_simp) ⟨kS.mono fun k _ h => Or.inr ⟨by trivial, h⟩, _, by rw [setCell_row hb]; rfl, kS.ownsRow p7.own fun j hj e => own_ne p7.own hb (by decide) j hj e, p7.new⟩)
      exact .nil _
    · (intro x wf Kk hv); (try dsimp only); (have p9 : Pr.p (Sl := (fun j k => (j = 7 ∧ w7.drew.heap.size ≤ k) ∨ (j = 9 ∧ k = GX))) (PTl w7 GX P B Lf ((m - 1) :: T.drop 1)) (x 9) wf := hv 9 (by kernel_rfl)); (clear hv); (obtain ⟨vt, hbX, hoT, hnT⟩ := p9); (have gX8 := hid hbX); (replace hnT := hid (hnT.of k06.out.size)); (have gC8 := hid ((Kk.undrew.block GC (lt_of_heap gC6.out) (fun h => h.elim (fun h => Nat.not_le.2 (lt_of_heap gC6.out) h) (fun h => Ne.symm hXn.out.1 h))).trans gC6.out)); (have g88 := hid ((Kk.undrew.block G8 (lt_of_heap g86.out) (fun h => h.elim (fun h => Nat.not_le.2 (lt_of_heap g86.out) h) (fun h => Ne.symm hXn.out.2.1 h))).trans g86.out)); (have hL8 := hid (Kk.undrew.ownsRow hL6.out fun j hj h => h.elim (fun h => Nat.not_le.2 (own_lt hL6.out j hj) h) (fun e => hXn.out.2.2 (((show GL = j from by simpa [Value.ownBlock] using hj).trans e).symm))))
      have k08 : Hd (Kept no w wf) := ⟨k06.out.trans Kk.undrew fun j hj h => by
        rcases h with h | h
        · (have h1 : w7.heap.size ≤ j := h); (have := k06.out.size; omega)
        · rw [h] at hj; have := hGXw.out; omega⟩
      (have hoT' := hid hoT); (obtain ⟨w8, rfl⟩ : ∃ w8 : World, w8 = wf := ⟨_, rfl⟩); (obtain ⟨_, ax, cx, rfl, _⟩ := Rd.of_own hoT'.out); (clear Kk hbX hoT gC6 gX g86 hL6 k06); (obtain ⟨NTT, hNTT⟩ : ∃ l, (m - 1) :: T.drop 1 = l := ⟨_, rfl⟩); (rw [hNTT] at hoT' gX8 hnT); (have hNT : Hd (NTT.length ≤ 9) := ⟨by rw [← hNTT, List.length_cons, List.length_drop, hlv.out]; omega⟩); (have hTT : Hd ((Value.slice ax NTT.length cx = Value.slice av lv cv ∧ NTT = T) ∨ (w8.ownsRow 0 3 1 (.slice ax NTT.length cx) NTT.length (NTT.map Z) ∧ New w (.slice ax NTT.length cx))) := ⟨.inr ⟨hoT'.out, hnT.out⟩⟩); (clear hNTT); (go_upto_region 31 with fail); (obtain ⟨z0, z1, z2⟩ := slotC gC8.out); (obtain ⟨y0, y1, y2, y3⟩ := slotN4 gX8.out); (have hLw := hid (show w8.ownsRow 0 76 4 (.slice (some ⟨GL, 0, none⟩) len cL) len (flatN q) from hL8.out))
      have hLc : ∀ j, j < len * 4 → ∃ u, w8.cell? ⟨GL, j, none⟩ = some u := fun j hj => by
        obtain ⟨hl1, _, _, he, _, _, hx | ⟨b, o, he2, hc⟩⟩ := Rd.of_own hLw.out
        · cases he
          (have hx2 := hlen.out); (obtain ⟨_, ⟨h1, _⟩ | ⟨g, cap, cur, h1, _, _, h2, _⟩⟩ := hLw.out)
          · cases h1
          · cases h1; omega
        · cases he; cases he2
          (have hjl : j < (flatN q).length := by rw [flatN_len, hlen.out]; exact hj); (have := hc j _ (List.getElem?_eq_getElem hjl)); (rw [Nat.zero_add] at this); (exact ⟨_, this⟩)
      (obtain ⟨u0, r0⟩ := hLc (k * 4) (by omega)); (obtain ⟨u1, r1⟩ := hLc (k * 4 + 1) (by omega)); (obtain ⟨u2, r2⟩ := hLc (k * 4 + 2) (by omega)); (obtain ⟨u3, r3⟩ := hLc (k * 4 + 3) (by omega))
      have hLf : ∀ j, w8.frozen? ⟨GL, j, none⟩ = false := fun j => by
        obtain ⟨_, ⟨h1, _⟩ | ⟨g, cap, cur, h1, _, hg, _⟩⟩ := hLw.out
        · cases h1
        · cases h1; exact row_free hg j
      have hLcur : ∃ cur : Array Value, w8.heap[GL]? = some (.cells cur 76 (0, 0)) := by
        obtain ⟨_, ⟨h1, _⟩ | ⟨g, cap, cur, h1, _, hg, _⟩⟩ := hLw.out
        · cases h1
        · cases h1; exact ⟨_, hg⟩
      (have f0 := hLf (k * 4)); (have f1 := hLf (k * 4 + 1)); (have f2 := hLf (k * 4 + 2)); (have f3 := hLf (k * 4 + 3)); (have o1 := own_set (own_set (own_set (own_set hLw.out (k * 4) (.int .i64 (P))) (k * 4 + 1) ((.slice ax NTT.length cx))) (k * 4 + 2) (.int .i64 (B))) (k * 4 + 3) (.bool (Lf))); (rw [flatN_set4 (by rw [hlen.out]; exact hkl) (⟨P, NTT, B, Lf⟩ : Nd) ((.slice ax NTT.length cx))] at o1); (have kL := ((((Kept.refl (fun j => j = GL) w8).setCell (a := ⟨GL, k * 4, none⟩) (.inl rfl) (.int .i64 (P))).setCell (a := ⟨GL, k * 4 + 1, none⟩) (.inl rfl) ((.slice ax NTT.length cx))).setCell (a := ⟨GL, k * 4 + 2, none⟩) (.inl rfl) (.int .i64 (B))).setCell (a := ⟨GL, k * 4 + 3, none⟩) (.inl rfl) (.bool (Lf))); (have kLw := (((k08.out.setCell (a := ⟨GL, k * 4, none⟩) (.inr hGLw.out) (.int .i64 (P))).setCell (a := ⟨GL, k * 4 + 1, none⟩) (.inr hGLw.out) ((.slice ax NTT.length cx))).setCell (a := ⟨GL, k * 4 + 2, none⟩) (.inr hGLw.out) (.int .i64 (B))).setCell (a := ⟨GL, k * 4 + 3, none⟩) (.inr hGLw.out) (.bool (Lf))); (obtain ⟨wz, hwz⟩ : ∃ wz, wz = (((w8.setCell ⟨GL, k * 4, none⟩ (.int .i64 (P))).setCell ⟨GL, k * 4 + 1, none⟩ ((.slice ax NTT.length cx))).setCell ⟨GL, k * 4 + 2, none⟩ (.int .i64 (B))).setCell ⟨GL, k * 4 + 3, none⟩ (.bool (Lf)) := ⟨_, rfl⟩); (rw [← hwz] at o1 kL kLw); (have gCz := hid ((kL.block GC (lt_of_heap gC8.out) (Ne.symm hGL.out.1)).trans gC8.out)); (have g8z := hid ((kL.block G8 (lt_of_heap g88.out) (Ne.symm hGL.out.2)).trans g88.out)); (have hTz : Hd (((.slice ax NTT.length cx) = Value.slice av lv cv ∧ NTT = T) ∨ (wz.ownsRow 0 3 1 ((.slice ax NTT.length cx)) (NTT).length ((NTT).map Z) ∧ New w ((.slice ax NTT.length cx)))) := ⟨hTT.out.imp id fun h => And.intro (kL.ownsRow h.1 fun j hj e => own_ne h.1 (show w8.heap[GL]? = some (.cells _ 76 (0, 0)) from hLcur.choose_spec) (by decide) j hj e) h.2⟩); (replace o1 := hid o1); (replace kLw := hid kLw); (replace hwz := hid hwz); (clear hLc hLf kL hLw hLcur); (go_upto_region 32 with fail); (rw [← hwz.out]); (clear z0 z1 z2 y0 y1 y2 y3 r0 r1 r2 r3 f0 f1 f2 f3 hwz); (obtain ⟨z0, z1, z2⟩ := slotC gCz.out); (obtain ⟨x0, x1, x2⟩ := slotC g8z.out); (have f0 := row_free g8z.out 0); (have f1 := row_free g8z.out 1); (have f2 := row_free g8z.out 2)
      have o2 : Hd ((((wz.setCell ⟨G8, 0, none⟩ (.int .i64 (A))).setCell ⟨G8, 1, none⟩ (.int .i64 (M))).setCell ⟨G8, 2, none⟩ ((.slice (some ⟨GL, 0, none⟩) len cL))).heap[G8]? = some (.cells [.int .i64 (A), .int .i64 (M), (.slice (some ⟨GL, 0, none⟩) len cL)].toArray 25 (0, 0))) := ⟨by
        rw [setCell_row (setCell_row (setCell_row g8z.out 0 _) 1 _) 2 _]; rfl⟩
      (have k8 := (((Kept.refl (fun j => j = G8) wz).setCell (a := ⟨G8, 0, none⟩) (.inl rfl) (.int .i64 (A))).setCell (a := ⟨G8, 1, none⟩) (.inl rfl) (.int .i64 (M))).setCell (a := ⟨G8, 2, none⟩) (.inl rfl) ((.slice (some ⟨GL, 0, none⟩) len cL))); (have k8w := hid (((kLw.out.setCell (a := ⟨G8, 0, none⟩) (.inr hG8w.out) (.int .i64 (A))).setCell (a := ⟨G8, 1, none⟩) (.inr hG8w.out) (.int .i64 (M))).setCell (a := ⟨G8, 2, none⟩) (.inr hG8w.out) ((.slice (some ⟨GL, 0, none⟩) len cL)))); (obtain ⟨wy, hwy⟩ : ∃ wy, wy = ((wz.setCell ⟨G8, 0, none⟩ (.int .i64 (A))).setCell ⟨G8, 1, none⟩ (.int .i64 (M))).setCell ⟨G8, 2, none⟩ ((.slice (some ⟨GL, 0, none⟩) len cL)) := ⟨_, rfl⟩); (rw [← hwy] at o2 k8 k8w); (replace k8 := hid k8)
      have hR : Hd (SplN w wy q ((.slice (some ⟨GL, 0, none⟩) len cL)) ((q.set k ((⟨P, NTT, B, Lf⟩ : Nd), (.slice ax NTT.length cx))))) := ⟨by
        refine ⟨by rw [List.length_set, hlen.out]; exact Rd.kept (Rd.of_own o1.out) k8.out fun j hj e => own_ne o1.out g8z.out (by decide) j hj e, .inr ⟨GL, rfl, hGLw.out⟩, fun y hy => ?_⟩
        rcases List.mem_or_eq_of_mem_set hy with hy | rfl
        · exact .inl ⟨y, hy, rfl, rfl⟩
        · rcases hTz.out with ⟨h1, h2⟩ | ⟨h, h2⟩
          · exact .inl ⟨_, hxq.out, h1.symm, (hxT.out.trans h2.symm)⟩
          · exact .inr ⟨Rd.kept (Rd.of_own h) k8.out fun j hj e => own_ne h g8z.out (by decide) j hj e, h2⟩⟩
      have hRes : Hd (((q.set k ((⟨P, NTT, B, Lf⟩ : Nd), (.slice ax NTT.length cx)))).length ≤ len + 1 ∧ ∀ x ∈ nds ((q.set k ((⟨P, NTT, B, Lf⟩ : Nd), (.slice ax NTT.length cx)))), x.tail.length ≤ 9) := ⟨by
        (refine ⟨by rw [List.length_set, hlen.out]; omega, fun y hy => ?_⟩); (obtain ⟨z, hz, rfl⟩ := List.mem_map.1 hy)
        rcases List.mem_or_eq_of_mem_set hz with hz | rfl
        · have := (hwf.out z.1 (List.mem_map.2 ⟨z, hz, rfl⟩)).2.1; omega
        · exact hNT.out⟩
      (replace hwy := hid hwy); (go_wp2); (refine bodyPost_ret (v := .agg [.int .i64 (A), .int .i64 (M), (.slice (some ⟨GL, 0, none⟩) len cL)].toArray) ?_ rfl ?_)
      · (rw [← hwy.out]); (exact results_cert1 rfl _ _ G8 [.int .i64 (A), .int .i64 (M), (.slice (some ⟨GL, 0, none⟩) len cL)] rfl rfl o2.out)
      · (rw [← hwy.out]); (exact ⟨A, M, _, (q.set k ((⟨P, NTT, B, Lf⟩ : Nd), (.slice ax NTT.length cx))), rfl, hR.out, by rw [hlen.out]; exact hRes.out.1, hRes.out.2, k8w.out⟩)
  · (skip); (have HM5 := hid (fun w => mod_any wat 5 w (by omega) (by omega))); (obtain ⟨hm0, hm1⟩ := modI_lt wat 5 (by omega)); (obtain ⟨m, hm⟩ : ∃ m, modI wat 5 = m := ⟨_, rfl⟩); (rw [hm] at HM5 hm0 hm1); (clear hm); (have hs1 : Hd (0 + lv ≤ maxLen ∧ (0 + lv) * 8 ≤ 140737488355328 ∧ lv + 1 ≤ maxLen ∧ (lv + 1) * 8 ≤ 140737488355328) := ⟨by have hmx : maxLen = 9223372036854775807 := rfl; omega⟩); (have hzw : Hd (Rd w7 1 (.slice av lv cv) lv (T.map Z)) := ⟨by have := RdZ.kept hzx.out k06.out; unfold RdZ at this; rwa [hlv.out] at this⟩); (go_wp2_with (at_builtin; refine wpList_append _ rfl _ _ 40 rfl 3 1 8 TInts (.slice none 0 0) 0 [] rfl (World.ownsRow_nil _ _ _ _) _ lv (T.map Z) rfl hzw.out (Z_oneF _) hs1.out.1 hs1.out.2.1 ?_)); (intro v9 w9 h9o h9k h9n _); (try simp only [Nat.zero_add, List.nil_append] at h9o); (have k79 := Kept.ob_nil h9k); (have hO9 : Hd (OwZ w7 w9 v9 T) := ⟨⟨by rw [hlv.out]; exact h9o, k79, newOr_nil h9n⟩⟩); (clear h9o h9k h9n k79 hzw); (go_wp2_with fail); (with_reducible refine (HM5.out _).mono ?_); (rintro e w9 ⟨rfl, rfl⟩); (have hlen9 : Hd (T.length + 1 ≤ maxLen ∧ (T.length + 1) * 8 ≤ 140737488355328) := ⟨by rw [hlv.out]; exact hs1.out.2.2⟩); (go_wp2_with (at_builtin; refine wpList_append_lit _ rfl _ _ 40 rfl 3 1 8 TInts _ _ _ rfl hO9.out.own 1 [_] rfl rfl ?c1 ?c2 ?c3 ?_))
    case c1 => simp [Value.oneCell']
    case c2 => exact hlen9.out.1
    case c3 => exact hlen9.out.2
    (intro v10 w10 h2 h3 h4 _); (have hO10 : Hd (OwZ w7 w10 v10 (T ++ [m])) := ⟨hO9.out.add m h2 h3 h4⟩); (have k710 := hid hO10.out.kept); (clear h2 h3 h4 hO9 hlen9 hs1); (have gC10 := hid (k710.out.blk gC6.out)); (have gX10 := hid (k710.out.blk gX.out)); (have g810 := hid (k710.out.blk g86.out)); (have hL10 := hid (k710.out.ownsRow hL6.out fun _ _ => id)); (have k010 := hid (k06.out.trans' k710.out)); (have k06w := k06); (clear gC6 gX g86 hL6 k06 k710 c0 c1 c2 d0 d1 d2 d3); (obtain ⟨NTT, hNTT⟩ : ∃ l, T ++ [m] = l := ⟨_, rfl⟩); (rw [hNTT] at hO10); (have hNT : Hd (NTT.length ≤ 9) := ⟨by rw [← hNTT, List.length_append, hlv.out, List.length_singleton]; omega⟩); (obtain ⟨_, ax, cx, rfl, _⟩ := Rd.of_own hO10.out.own); (have hoT := hid hO10.out.own); (have hnT := hid (hO10.out.new.of k06w.out.size)); (clear hNTT hO10); (have d1 := (slotN4 gX10.out).2.1); (have fz := row_free gX10.out 1); (have kS := (Kept.refl (fun j => j = GX) w10).setCell (a := ⟨GX, 1, none⟩) (.inl rfl) (.slice ax NTT.length cx)); (have gC8 := hid ((kS.block GC (lt_of_heap gC10.out) (Ne.symm hXn.out.1)).trans gC10.out)); (have gX8 : Hd ((w10.setCell ⟨GX, 1, none⟩ (.slice ax NTT.length cx)).heap[GX]? = some (.cells #[.int .i64 P, .slice ax NTT.length cx, .int .i64 B, .bool Lf] 76 (0, 0))) := ⟨by rw [setCell_row gX10.out]; rfl⟩); (have g88 := hid ((kS.block G8 (lt_of_heap g810.out) (Ne.symm hXn.out.2.1)).trans g810.out)); (have hL8 := hid (kS.ownsRow hL10.out fun j hj e => hXn.out.2.2 (((show GL = j from by simpa [Value.ownBlock] using hj).trans e).symm))); (have k08 := hid (k010.out.setCell (a := ⟨GX, 1, none⟩) (.inr hGXw.out) (.slice ax NTT.length cx))); (have hoT8 := hid (kS.ownsRow hoT.out fun j hj e => own_ne hoT.out gX10.out (by decide) j hj e)); (go_upto_region 31 with fail); (clear d1 fz); (obtain ⟨w8, hw8⟩ : ∃ w8, w8 = (w10.setCell ⟨GX, 1, none⟩ (.slice ax NTT.length cx)) := ⟨_, rfl⟩); (rw [← hw8] at hoT8 gC8 gX8 g88 hL8 k08 ⊢); (clear hw8 kS); (have hTT : Hd ((Value.slice ax NTT.length cx = Value.slice av lv cv ∧ NTT = T) ∨ (w8.ownsRow 0 3 1 (.slice ax NTT.length cx) NTT.length (NTT.map Z) ∧ New w (.slice ax NTT.length cx))) := ⟨.inr ⟨hoT8.out, hnT.out⟩⟩); (obtain ⟨z0, z1, z2⟩ := slotC gC8.out); (obtain ⟨y0, y1, y2, y3⟩ := slotN4 gX8.out); (have hLw := hid (show w8.ownsRow 0 76 4 (.slice (some ⟨GL, 0, none⟩) len cL) len (flatN q) from hL8.out))
    have hLc : ∀ j, j < len * 4 → ∃ u, w8.cell? ⟨GL, j, none⟩ = some u := fun j hj => by
      obtain ⟨hl1, _, _, he, _, _, hx | ⟨b, o, he2, hc⟩⟩ := Rd.of_own hLw.out
      · cases he
        (have hx2 := hlen.out); (obtain ⟨_, ⟨h1, _⟩ | ⟨g, cap, cur, h1, _, _, h2, _⟩⟩ := hLw.out)
        · cases h1
        · cases h1; omega
      · cases he; cases he2
        (have hjl : j < (flatN q).length := by rw [flatN_len, hlen.out]; exact hj); (have := hc j _ (List.getElem?_eq_getElem hjl)); (rw [Nat.zero_add] at this); (exact ⟨_, this⟩)
    (obtain ⟨u0, r0⟩ := hLc (k * 4) (by omega)); (obtain ⟨u1, r1⟩ := hLc (k * 4 + 1) (by omega)); (obtain ⟨u2, r2⟩ := hLc (k * 4 + 2) (by omega)); (obtain ⟨u3, r3⟩ := hLc (k * 4 + 3) (by omega))
    have hLf : ∀ j, w8.frozen? ⟨GL, j, none⟩ = false := fun j => by
      obtain ⟨_, ⟨h1, _⟩ | ⟨g, cap, cur, h1, _, hg, _⟩⟩ := hLw.out
      · cases h1
      · cases h1; exact row_free hg j
    have hLcur : ∃ cur : Array Value, w8.heap[GL]? = some (.cells cur 76 (0, 0)) := by
      obtain ⟨_, ⟨h1, _⟩ | ⟨g, cap, cur, h1, _, hg, _⟩⟩ := hLw.out
      · cases h1
      · cases h1; exact ⟨_, hg⟩
    (have f0 := hLf (k * 4)); (have f1 := hLf (k * 4 + 1)); (have f2 := hLf (k * 4 + 2)); (have f3 := hLf (k * 4 + 3)); (have o1 := own_set (own_set (own_set (own_set hLw.out (k * 4) (.int .i64 (P))) (k * 4 + 1) ((.slice ax NTT.length cx))) (k * 4 + 2) (.int .i64 (B))) (k * 4 + 3) (.bool (Lf))); (rw [flatN_set4 (by rw [hlen.out]; exact hkl) (⟨P, NTT, B, Lf⟩ : Nd) ((.slice ax NTT.length cx))] at o1); (have kL := ((((Kept.refl (fun j => j = GL) w8).setCell (a := ⟨GL, k * 4, none⟩) (.inl rfl) (.int .i64 (P))).setCell (a := ⟨GL, k * 4 + 1, none⟩) (.inl rfl) ((.slice ax NTT.length cx))).setCell (a := ⟨GL, k * 4 + 2, none⟩) (.inl rfl) (.int .i64 (B))).setCell (a := ⟨GL, k * 4 + 3, none⟩) (.inl rfl) (.bool (Lf))); (have kLw := (((k08.out.setCell (a := ⟨GL, k * 4, none⟩) (.inr hGLw.out) (.int .i64 (P))).setCell (a := ⟨GL, k * 4 + 1, none⟩) (.inr hGLw.out) ((.slice ax NTT.length cx))).setCell (a := ⟨GL, k * 4 + 2, none⟩) (.inr hGLw.out) (.int .i64 (B))).setCell (a := ⟨GL, k * 4 + 3, none⟩) (.inr hGLw.out) (.bool (Lf))); (obtain ⟨wz, hwz⟩ : ∃ wz, wz = (((w8.setCell ⟨GL, k * 4, none⟩ (.int .i64 (P))).setCell ⟨GL, k * 4 + 1, none⟩ ((.slice ax NTT.length cx))).setCell ⟨GL, k * 4 + 2, none⟩ (.int .i64 (B))).setCell ⟨GL, k * 4 + 3, none⟩ (.bool (Lf)) := ⟨_, rfl⟩); (rw [← hwz] at o1 kL kLw); (have gCz := hid ((kL.block GC (lt_of_heap gC8.out) (Ne.symm hGL.out.1)).trans gC8.out)); (have g8z := hid ((kL.block G8 (lt_of_heap g88.out) (Ne.symm hGL.out.2)).trans g88.out)); (have hTz : Hd (((.slice ax NTT.length cx) = Value.slice av lv cv ∧ NTT = T) ∨ (wz.ownsRow 0 3 1 ((.slice ax NTT.length cx)) (NTT).length ((NTT).map Z) ∧ New w ((.slice ax NTT.length cx)))) := ⟨hTT.out.imp id fun h => And.intro (kL.ownsRow h.1 fun j hj e => own_ne h.1 (show w8.heap[GL]? = some (.cells _ 76 (0, 0)) from hLcur.choose_spec) (by decide) j hj e) h.2⟩); (replace o1 := hid o1); (replace kLw := hid kLw); (replace hwz := hid hwz); (clear hLc hLf kL hLw hLcur); (go_upto_region 32 with fail); (rw [← hwz.out]); (clear z0 z1 z2 y0 y1 y2 y3 r0 r1 r2 r3 f0 f1 f2 f3 hwz); (obtain ⟨z0, z1, z2⟩ := slotC gCz.out); (obtain ⟨x0, x1, x2⟩ := slotC g8z.out); (have f0 := row_free g8z.out 0); (have f1 := row_free g8z.out 1); (have f2 := row_free g8z.out 2)
    have o2 : Hd ((((wz.setCell ⟨G8, 0, none⟩ (.int .i64 (A))).setCell ⟨G8, 1, none⟩ (.int .i64 (M))).setCell ⟨G8, 2, none⟩ ((.slice (some ⟨GL, 0, none⟩) len cL))).heap[G8]? = some (.cells [.int .i64 (A), .int .i64 (M), (.slice (some ⟨GL, 0, none⟩) len cL)].toArray 25 (0, 0))) := ⟨by
      rw [setCell_row (setCell_row (setCell_row g8z.out 0 _) 1 _) 2 _]; rfl⟩
    (have k8 := (((Kept.refl (fun j => j = G8) wz).setCell (a := ⟨G8, 0, none⟩) (.inl rfl) (.int .i64 (A))).setCell (a := ⟨G8, 1, none⟩) (.inl rfl) (.int .i64 (M))).setCell (a := ⟨G8, 2, none⟩) (.inl rfl) ((.slice (some ⟨GL, 0, none⟩) len cL))); (have k8w := hid (((kLw.out.setCell (a := ⟨G8, 0, none⟩) (.inr hG8w.out) (.int .i64 (A))).setCell (a := ⟨G8, 1, none⟩) (.inr hG8w.out) (.int .i64 (M))).setCell (a := ⟨G8, 2, none⟩) (.inr hG8w.out) ((.slice (some ⟨GL, 0, none⟩) len cL)))); (obtain ⟨wy, hwy⟩ : ∃ wy, wy = ((wz.setCell ⟨G8, 0, none⟩ (.int .i64 (A))).setCell ⟨G8, 1, none⟩ (.int .i64 (M))).setCell ⟨G8, 2, none⟩ ((.slice (some ⟨GL, 0, none⟩) len cL)) := ⟨_, rfl⟩); (rw [← hwy] at o2 k8 k8w); (replace k8 := hid k8)
    have hR : Hd (SplN w wy q ((.slice (some ⟨GL, 0, none⟩) len cL)) ((q.set k ((⟨P, NTT, B, Lf⟩ : Nd), (.slice ax NTT.length cx))))) := ⟨by
      refine ⟨by rw [List.length_set, hlen.out]; exact Rd.kept (Rd.of_own o1.out) k8.out fun j hj e => own_ne o1.out g8z.out (by decide) j hj e, .inr ⟨GL, rfl, hGLw.out⟩, fun y hy => ?_⟩
      rcases List.mem_or_eq_of_mem_set hy with hy | rfl
      · exact .inl ⟨y, hy, rfl, rfl⟩
      · rcases hTz.out with ⟨h1, h2⟩ | ⟨h, h2⟩
        · exact .inl ⟨_, hxq.out, h1.symm, (hxT.out.trans h2.symm)⟩
        · exact .inr ⟨Rd.kept (Rd.of_own h) k8.out fun j hj e => own_ne h g8z.out (by decide) j hj e, h2⟩⟩
    have hRes : Hd (((q.set k ((⟨P, NTT, B, Lf⟩ : Nd), (.slice ax NTT.length cx)))).length ≤ len + 1 ∧ ∀ x ∈ nds ((q.set k ((⟨P, NTT, B, Lf⟩ : Nd), (.slice ax NTT.length cx)))), x.tail.length ≤ 9) := ⟨by
      (refine ⟨by rw [List.length_set, hlen.out]; omega, fun y hy => ?_⟩); (obtain ⟨z, hz, rfl⟩ := List.mem_map.1 hy)
      rcases List.mem_or_eq_of_mem_set hz with hz | rfl
      · have := (hwf.out z.1 (List.mem_map.2 ⟨z, hz, rfl⟩)).2.1; omega
      · exact hNT.out⟩
    (replace hwy := hid hwy); (go_wp2); (refine bodyPost_ret (v := .agg [.int .i64 (A), .int .i64 (M), (.slice (some ⟨GL, 0, none⟩) len cL)].toArray) ?_ rfl ?_)
    · (rw [← hwy.out]); (exact results_cert1 rfl _ _ G8 [.int .i64 (A), .int .i64 (M), (.slice (some ⟨GL, 0, none⟩) len cL)] rfl rfl o2.out)
    · (rw [← hwy.out]); (exact ⟨A, M, _, (q.set k ((⟨P, NTT, B, Lf⟩ : Nd), (.slice ax NTT.length cx))), rfl, hR.out, by rw [hlen.out]; exact hRes.out.1, hRes.out.2, k8w.out⟩)
  · (skip); (have hs1 : Hd (len + 1 ≤ maxLen ∧ (len + 1) * 48 ≤ 140737488355328) := ⟨by have hmx : maxLen = 9223372036854775807 := rfl; omega⟩); (go_wp2_with (at_builtin; refine wpList_append_lit _ rfl _ _ 23 rfl 76 4 48 TNodes _ _ _ rfl hL6.out 1 (ndC ((⟨P, T, B, Lf⟩ : Nd), Value.slice av lv cv)) rfl rfl ?c1 ?c2 ?c3 ?_))
    case c1 => simp [ndC, Value.oneCell']
    case c2 => exact hs1.out.1
    case c3 => exact hs1.out.2
    (intro v9 w9 h2 h3 h4 _); (have hobL : ∀ j, ob (.slice (some ⟨GL, 0, none⟩) len cL) j → j = GL := fun j h => (show GL = j from by simpa [ob, Value.ownBlock] using h).symm); (have gC9 := hid ((h3.block GC (lt_of_heap gC6.out) (fun h => hGL.out.1 (hobL _ h).symm)).trans gC6.out)); (have g89 := hid ((h3.block G8 (lt_of_heap g86.out) (fun h => hGL.out.2 (hobL _ h).symm)).trans g86.out)); (have k09 := hid (k06.out.trans h3 fun j hj h => by rw [hobL j h] at hj; have := hGLw.out; omega)); (have ho9 := hid h2)
    obtain ⟨g9, c9, rfl⟩ : ∃ g c, v9 = .slice (some ⟨g, 0, none⟩) (len + 1) c := by
      obtain ⟨_, ⟨_, h0⟩ | ⟨g, cap, _, e, _⟩⟩ := h2
      · omega
      · exact ⟨g, cap, e⟩
    have hg9 : Hd (w.heap.size ≤ g9) := ⟨by
      rcases h4 with h | ⟨j, hj, hl⟩
      · (have : GL = g9 := by simpa [Value.ownBlock] using h.symm); (have := hGLw.out; omega)
      · have : g9 = j := by simpa [Value.ownBlock] using hj
        have := k06.out.size; omega⟩
    (clear h2 h3 h4 hobL gC6 g86 hL6 k06 gX hs1 c0 c1 c2 d0 d1 d2 d3); (have c2 := (slotC gC9.out).2.2); (have fz := row_free gC9.out 2); (have kS := (Kept.refl (fun j => j = GC) w9).setCell (a := ⟨GC, 2, none⟩) (.inl rfl) (.slice (some ⟨g9, 0, none⟩) (len + 1) c9)); (have gCz : Hd ((w9.setCell ⟨GC, 2, none⟩ (.slice (some ⟨g9, 0, none⟩) (len + 1) c9)).heap[GC]? = some (.cells #[.int .i64 A, .int .i64 M, .slice (some ⟨g9, 0, none⟩) (len + 1) c9] 25 (0, 0))) := ⟨by rw [setCell_row gC9.out]; rfl⟩); (have g8z := hid ((kS.block G8 (lt_of_heap g89.out) (Ne.symm hC8.out.1)).trans g89.out)); (have kLw := hid (k09.out.setCell (a := ⟨GC, 2, none⟩) (.inr hGCw.out) (.slice (some ⟨g9, 0, none⟩) (len + 1) c9))); (have o1 := hid (kS.ownsRow ho9.out fun j hj e => own_ne ho9.out gC9.out (by decide) j hj e)); (go_upto_region 21 with fail); (obtain ⟨w10, hw10⟩ : ∃ w10, w10 = w9.setCell ⟨GC, 2, none⟩ (.slice (some ⟨g9, 0, none⟩) (len + 1) c9) := ⟨_, rfl⟩); (rw [← hw10] at gCz g8z kLw o1 ⊢); (clear hw10 kS c2 fz gC9 g89 k09 ho9); (obtain ⟨z0, z1, z2⟩ := slotC gCz.out); (obtain ⟨x0, x1, x2⟩ := slotC g8z.out); (have f0 := row_free g8z.out 0); (have f1 := row_free g8z.out 1); (have f2 := row_free g8z.out 2)
    have o2 : Hd ((((w10.setCell ⟨G8, 0, none⟩ (.int .i64 (A))).setCell ⟨G8, 1, none⟩ (.int .i64 (M))).setCell ⟨G8, 2, none⟩ ((.slice (some ⟨g9, 0, none⟩) (len + 1) c9))).heap[G8]? = some (.cells [.int .i64 (A), .int .i64 (M), (.slice (some ⟨g9, 0, none⟩) (len + 1) c9)].toArray 25 (0, 0))) := ⟨by
      rw [setCell_row (setCell_row (setCell_row g8z.out 0 _) 1 _) 2 _]; rfl⟩
    (have k8 := (((Kept.refl (fun j => j = G8) w10).setCell (a := ⟨G8, 0, none⟩) (.inl rfl) (.int .i64 (A))).setCell (a := ⟨G8, 1, none⟩) (.inl rfl) (.int .i64 (M))).setCell (a := ⟨G8, 2, none⟩) (.inl rfl) ((.slice (some ⟨g9, 0, none⟩) (len + 1) c9))); (have k8w := hid (((kLw.out.setCell (a := ⟨G8, 0, none⟩) (.inr hG8w.out) (.int .i64 (A))).setCell (a := ⟨G8, 1, none⟩) (.inr hG8w.out) (.int .i64 (M))).setCell (a := ⟨G8, 2, none⟩) (.inr hG8w.out) ((.slice (some ⟨g9, 0, none⟩) (len + 1) c9)))); (obtain ⟨wy, hwy⟩ : ∃ wy, wy = ((w10.setCell ⟨G8, 0, none⟩ (.int .i64 (A))).setCell ⟨G8, 1, none⟩ (.int .i64 (M))).setCell ⟨G8, 2, none⟩ ((.slice (some ⟨g9, 0, none⟩) (len + 1) c9)) := ⟨_, rfl⟩); (rw [← hwy] at o2 k8 k8w); (replace k8 := hid k8)
    have hR : Hd (SplN w wy q ((.slice (some ⟨g9, 0, none⟩) (len + 1) c9)) ((q ++ [((⟨P, T, B, Lf⟩ : Nd), Value.slice av lv cv)]))) := ⟨by
      refine ⟨by rw [List.length_append, hlen.out, flatN_snoc]; exact Rd.kept (Rd.of_own o1.out) k8.out fun j hj e => own_ne o1.out g8z.out (by decide) j hj e, .inr ⟨g9, rfl, hg9.out⟩, fun y hy => ?_⟩
      rcases List.mem_append.1 hy with hy | hy
      · exact .inl ⟨y, hy, rfl, rfl⟩
      · rw [List.mem_singleton.1 hy]; exact .inl ⟨_, hxq.out, rfl, hxT.out⟩⟩
    have hRes : Hd (((q ++ [((⟨P, T, B, Lf⟩ : Nd), Value.slice av lv cv)])).length ≤ len + 1 ∧ ∀ x ∈ nds ((q ++ [((⟨P, T, B, Lf⟩ : Nd), Value.slice av lv cv)])), x.tail.length ≤ 9) := ⟨by
      (refine ⟨by rw [List.length_append, hlen.out]; exact Nat.le_refl _, fun y hy => ?_⟩); (obtain ⟨z, hz, rfl⟩ := List.mem_map.1 hy)
      rcases List.mem_append.1 hz with hz | hz
      · have := (hwf.out z.1 (List.mem_map.2 ⟨z, hz, rfl⟩)).2.1; omega
      · rw [List.mem_singleton.1 hz]; show T.length ≤ 9; rw [hlv.out]; omega⟩
    (replace hwy := hid hwy); (go_wp2); (refine bodyPost_ret (v := .agg [.int .i64 (A), .int .i64 (M), (.slice (some ⟨g9, 0, none⟩) (len + 1) c9)].toArray) ?_ rfl ?_)
    · (rw [← hwy.out]); (exact results_cert1 rfl _ _ G8 [.int .i64 (A), .int .i64 (M), (.slice (some ⟨g9, 0, none⟩) (len + 1) c9)] rfl rfl o2.out)
    · (rw [← hwy.out]); (exact ⟨A, M, _, (q ++ [((⟨P, T, B, Lf⟩ : Nd), Value.slice av lv cv)]), rfl, hR.out, by rw [hlen.out]; exact hRes.out.1, hRes.out.2, k8w.out⟩)
  · (skip); (have hs1 : ∀ w, (Instr.slice 23 (.slice (some ⟨GL, 0, none⟩) len cL) none (some (.int .i64 (k : Int))) none).run Try.prog w = .ok (.slice (some ⟨GL, 0, none⟩) k cL) w := fun w => pre_sliceN GL len cL k (by obtain ⟨_, ⟨h1, _⟩ | ⟨g, cap, cur, h1, _, _, h2, _⟩⟩ := hL6.out; (cases h1); (cases h1; omega)) w); (have hs2 := fun w => post_sliceN (some ⟨GL, 0, none⟩) len cL (k + 1) (by omega) w); (have hca : ((k + 1 : Nat) : Int) = (k : Int) + 1 := by omega); (have hs2' : ∀ w, (Instr.slice 23 (.slice (some ⟨GL, 0, none⟩) len cL) (some (.int .i64 ((k : Int) + 1))) none none).run Try.prog w = .ok (.slice (if cL = k + 1 then (some ⟨GL, 0, none⟩ : Option Addr) else (some ⟨GL, 0, none⟩ : Option Addr).map (·.add ((k + 1) * 4))) (len - (k + 1)) (cL - (k + 1))) w := fun w => by rw [← hca]; exact hs2 w); (have hpost := hid (own_post hL6.out (k + 1) (by omega))); (have hpre := hid (own_pre hL6.out k (by omega))); (obtain ⟨ak, hak⟩ : ∃ ad, (if cL = k + 1 then (some ⟨GL, 0, none⟩ : Option Addr) else (some ⟨GL, 0, none⟩ : Option Addr).map (·.add ((k + 1) * 4))) = ad := ⟨_, rfl⟩); (obtain ⟨lk, hlk⟩ : ∃ l, len - (k + 1) = l := ⟨_, rfl⟩); (obtain ⟨ck, hck⟩ : ∃ l, cL - (k + 1) = l := ⟨_, rfl⟩); (rw [hak, hlk, hck] at hs2' hpost); (have hkk : k + lk = len - 1 := by omega); (have hsz : Hd (k + lk ≤ maxLen ∧ (k + lk) * 48 ≤ 140737488355328) := ⟨by have hmx : maxLen = 9223372036854775807 := rfl; omega⟩); (have hw1 : IntKind.i64.wrap ((k : Int) + 1) = (k : Int) + 1 := IntWalk.i64_in _ (by omega)); (have c2h := hid c2); (have hone : Hd (∀ u ∈ flatN (q.drop (k + 1)), u.oneCell' = true) := ⟨flatN_one fun x hx => htl.out x (List.mem_of_mem_drop hx)⟩); (have hsp : Hd (flatN (q.take k) ++ flatN (q.drop (k + 1)) = flatN (q.take k ++ q.drop (k + 1))) := ⟨by simp [flatN]⟩); (clear hs2 hca hak hck); (go_upto_region 23 with fail); (clear c0 c1 c2 d0 d1 d2 d3); (refine region_flow (S := (fun k => k = GL ∨ k = GC)) (Sl := (fun j k => (j = 9 ∧ k = GL) ∨ (j = 11 ∧ k = GC))) [Is (.pointer (some ⟨GC, 2, none⟩)), Is (.slice (some ⟨GL, 0, none⟩) len cL), Is (.int .i64 (k : Int)), Is (.slice (some ⟨GL, 0, none⟩) k cL), Is (.pointer (some ⟨GC, 2, none⟩)), Is (.slice (some ⟨GL, 0, none⟩) len cL), Is (.int .i64 (k : Int)), Is (.int .i64 ((k : Int) + 1)), Is (.slice ak lk ck), PSp w.heap.size (len - 1) (q.take k ++ q.drop (k + 1)), Is (.pointer (some ⟨GC, 2, none⟩)), PSc w.heap.size GC A M (len - 1) (q.take k ++ q.drop (k + 1))] [9, 11] (fun j k h => h.elim (fun h => .inl h.2) (fun h => .inr h.2)) _ (by kernel_rfl) (by kernel_rfl) (by kernel_rfl) (by kernel_rfl) (fun x => by simp only [puts, Act.put, List.map_cons, List.map_nil, Nat.zero_add, Nat.reduceAdd, List.setIfInBounds_toArray, List.set_cons_zero, List.set_cons_succ]; exact rfl) ?_ ?_)
    · (skip); (refine .cons (fun x wf Kk hq hdep hold => ?_) ?_)
      · (try dsimp only); (clear hq hdep hold); (rw [if_pos (by rfl)]); (refine OpY.val ?_ ⟨Kept.refl _ _, rfl⟩); (first | rfl | go_simp)
      refine .cons (fun x wf Kk hq hdep hold => ?_) ?_
      · (try dsimp only); (have h0 : x 0 = _ := hdep 0 (by kernel_rfl)); (have Kq := hq no (fun j hj => by cases (show j ∈ ([] : List Nat) from by (have e : ∀ l : List Nat, l = [] → j ∈ l → j ∈ ([] : List Nat) := fun l h h2 => h ▸ h2); exact e _ (by kernel_rfl) hj))); (clear hq hdep hold); (simp only [h0]); (clear h0); (have m1 := Kq.undrew.cell c2h.out id); (rw [if_pos (by rfl)]); (refine OpY.val ?_ ⟨Kept.refl _ _, rfl⟩); (first | rfl | go_simp)
      refine .cons (fun x wf Kk hq hdep hold => ?_) ?_
      · (try dsimp only); (clear hq hdep hold); (rw [if_pos (by rfl)]); (refine OpY.val ?_ ⟨Kept.refl _ _, rfl⟩); (first | rfl | go_simp)
      refine .cons (fun x wf Kk hq hdep hold => ?_) ?_
      · (try dsimp only); (have h1 : x 1 = _ := hdep 1 (by kernel_rfl)); (have h2 : x 2 = _ := hdep 2 (by kernel_rfl)); (clear hq hdep hold); (simp only [h1, h2]); (clear h1 h2); (rw [if_pos (by rfl)]); (refine OpY.val ?_ ⟨Kept.refl _ _, rfl⟩); (first | rfl | go_simp)
      refine .cons (fun x wf Kk hq hdep hold => ?_) ?_
      · (try dsimp only); (clear hq hdep hold); (rw [if_pos (by rfl)]); (refine OpY.val ?_ ⟨Kept.refl _ _, rfl⟩); (first | rfl | go_simp)
      refine .cons (fun x wf Kk hq hdep hold => ?_) ?_
      · (try dsimp only); (have h4 : x 4 = _ := hdep 4 (by kernel_rfl)); (have Kq := hq no (fun j hj => by cases (show j ∈ ([] : List Nat) from by (have e : ∀ l : List Nat, l = [] → j ∈ l → j ∈ ([] : List Nat) := fun l h h2 => h ▸ h2); exact e _ (by kernel_rfl) hj))); (clear hq hdep hold); (simp only [h4]); (clear h4); (have m1 := Kq.undrew.cell c2h.out id); (rw [if_pos (by rfl)]); (refine OpY.val ?_ ⟨Kept.refl _ _, rfl⟩); (first | rfl | go_simp)
      refine .cons (fun x wf Kk hq hdep hold => ?_) ?_
      · (try dsimp only); (clear hq hdep hold); (rw [if_pos (by rfl)]); (refine OpY.val ?_ ⟨Kept.refl _ _, rfl⟩); (first | rfl | go_simp)
      refine .cons (fun x wf Kk hq hdep hold => ?_) ?_
      · (try dsimp only); (have h6 : x 6 = _ := hdep 6 (by kernel_rfl)); (clear hq hdep hold); (simp only [h6]); (clear h6); (rw [if_pos (by rfl)]); (refine OpY.val ?_ ⟨Kept.refl _ _, rfl⟩); (first | rfl | go_simp)
      refine .cons (fun x wf Kk hq hdep hold => ?_) ?_
      · (try dsimp only); (have h5 : x 5 = _ := hdep 5 (by kernel_rfl)); (have h7 : x 7 = _ := hdep 7 (by kernel_rfl)); (clear hq hdep hold); (simp only [h5, h7]); (clear h5 h7); (rw [if_pos (by rfl)]); (refine OpY.val ?_ ⟨Kept.refl _ _, rfl⟩); (first | rfl | go_simp)
      refine .cons (fun x wf Kk hq hdep hold => ?_) ?_
      · (try dsimp only); (have h3 : x 3 = _ := hdep 3 (by kernel_rfl)); (have h8 : x 8 = _ := hdep 8 (by kernel_rfl)); (have Kq := hq no (fun j hj => by cases (show j ∈ ([] : List Nat) from by (have e : ∀ l : List Nat, l = [] → j ∈ l → j ∈ ([] : List Nat) := fun l h h2 => h ▸ h2); exact e _ (by kernel_rfl) hj))); (clear hq hdep hold); (simp only [h3, h8]); (clear h3 h8); (rw [if_pos (by rfl)]); (refine OpY.append (.tmp 103) (.tmp 108) 23 _ rfl rfl 76 4 48 TNodes (.slice (some ⟨GL, 0, none⟩) k cL) k (flatN (q.take k)) rfl (Kq.undrew.ownsRow hpre.out fun _ _ => id) (.slice ak lk ck) lk (flatN (q.drop (k + 1))) rfl (hpost.out.keptNo Kq.undrew) hone.out hsz.out.1 hsz.out.2 ?_); (intro v2 w5 h2 h3 h4 h5); (rw [hsp.out, hkk] at h2); (refine ⟨h3.mono fun k _ e => Or.inl ⟨by trivial, (show GL = k from by simpa [ob, Value.ownBlock] using e).symm⟩, ?_⟩); (obtain ⟨_, ⟨e0, _⟩ | ⟨g, cap, _, e, _⟩⟩ := id h2)
        · exact absurd (h5.1 e0).1 (by simp)
        · refine ⟨g, cap, e, h2, ?_⟩
          rcases h4 with h | ⟨j, hj, hl⟩
          · (rw [e] at h); (have : g = GL := by simpa [Value.ownBlock] using h); (have := hGLw.out; omega)
          · (rw [e] at hj); (have : g = j := by simpa [Value.ownBlock] using hj); (have h7 : w7.heap.size ≤ wf.heap.size := Kq.undrew.size); (have := k06.out.size; omega)
      refine .cons (fun x wf Kk hq hdep hold => ?_) ?_
      · (try dsimp only); (clear hq hdep hold); (rw [if_pos (by rfl)]); (refine OpY.val ?_ ⟨Kept.refl _ _, rfl⟩); (first | rfl | go_simp)
      refine .cons (fun x wf Kk hq hdep hold => ?_) ?_
      · (try dsimp only); (have h10 : x 10 = _ := hdep 10 (by kernel_rfl)); (have p9 : Pr.p (Sl := (fun j k => (j = 9 ∧ k = GL) ∨ (j = 11 ∧ k = GC))) (PSp w.heap.size (len - 1) (q.take k ++ q.drop (k + 1))) (x 9) wf := hdep 9 (by kernel_rfl)); (have Kq := hq (fun k => k = GL) (fun j hj k hk => by (have e : ∀ l : List Nat, l = [9] → j ∈ l → j ∈ ([9] : List Nat) := fun l h h2 => h ▸ h2); have hj := e _ (by kernel_rfl) hj; obtain rfl := List.mem_singleton.1 hj; rcases hk with h | h; exact h.2; exact absurd h.1 (by decide))); (clear hq hdep hold); (simp only [h10]); (clear h10); (rw [if_pos (by rfl)]); (obtain ⟨g9, c9, e9, o9, n9⟩ := p9); (rw [e9] at o9 ⊢); (have hb := (Kq.undrew.block GC (lt_of_heap gC6.out) (Ne.symm hGL.out.1)).trans gC6.out); (have fz := row_free hb 2); (have m1 := (slotC hb).2.2); (have kS := (Kept.refl (fun j => j = GC) wf).setCell (a := ⟨GC, 2, none⟩) (.inl rfl) (.slice (some ⟨g9, 0, none⟩) (len - 1) c9)); (refine OpY.skipY (w' := wf.setCell ⟨GC, 2, none⟩ (.slice (some ⟨g9, 0, none⟩) (len - 1) c9)) (by go_simp) ⟨kS.mono fun k _ h => Or.inr ⟨by trivial, h⟩, g9, c9, by rw [setCell_row hb]; rfl, kS.ownsRow o9 fun j hj e => own_ne o9 hb (by decide) j hj e, n9⟩)
      exact .nil _
    · (intro x wf Kk hv); (try dsimp only); (have p11 : Pr.p (Sl := (fun j k => (j = 9 ∧ k = GL) ∨ (j = 11 ∧ k = GC))) (PSc w.heap.size GC A M (len - 1) (q.take k ++ q.drop (k + 1))) (x 11) wf := hv 11 (by kernel_rfl)); (clear hv); (obtain ⟨g9, c9, gCz, o1, hg9⟩ := p11); (replace hg9 := hid hg9); (replace gCz := hid gCz); (replace o1 := hid o1); (have g8z := hid ((Kk.undrew.block G8 (lt_of_heap g86.out) (fun h => h.elim (fun h => hGL.out.2 h.symm) (fun h => hC8.out.1 h.symm))).trans g86.out))
      have kLw : Hd (Kept no w wf) := ⟨k06.out.trans Kk.undrew fun j hj h => by
        rcases h with h | h
        · rw [h] at hj; have := hGLw.out; omega
        · rw [h] at hj; have := hGCw.out; omega⟩
      (obtain ⟨w8, rfl⟩ : ∃ w8 : World, w8 = wf := ⟨_, rfl⟩); (clear Kk gC6 gX g86 hL6 k06 hpost hpre); (obtain ⟨z0, z1, z2⟩ := slotC gCz.out); (obtain ⟨x0, x1, x2⟩ := slotC g8z.out); (have f0 := row_free g8z.out 0); (have f1 := row_free g8z.out 1); (have f2 := row_free g8z.out 2)
      have o2 : Hd ((((w8.setCell ⟨G8, 0, none⟩ (.int .i64 (A))).setCell ⟨G8, 1, none⟩ (.int .i64 (M))).setCell ⟨G8, 2, none⟩ ((.slice (some ⟨g9, 0, none⟩) (len - 1) c9))).heap[G8]? = some (.cells [.int .i64 (A), .int .i64 (M), (.slice (some ⟨g9, 0, none⟩) (len - 1) c9)].toArray 25 (0, 0))) := ⟨by
        rw [setCell_row (setCell_row (setCell_row g8z.out 0 _) 1 _) 2 _]; rfl⟩
      (have k8 := (((Kept.refl (fun j => j = G8) w8).setCell (a := ⟨G8, 0, none⟩) (.inl rfl) (.int .i64 (A))).setCell (a := ⟨G8, 1, none⟩) (.inl rfl) (.int .i64 (M))).setCell (a := ⟨G8, 2, none⟩) (.inl rfl) ((.slice (some ⟨g9, 0, none⟩) (len - 1) c9))); (have k8w := hid (((kLw.out.setCell (a := ⟨G8, 0, none⟩) (.inr hG8w.out) (.int .i64 (A))).setCell (a := ⟨G8, 1, none⟩) (.inr hG8w.out) (.int .i64 (M))).setCell (a := ⟨G8, 2, none⟩) (.inr hG8w.out) ((.slice (some ⟨g9, 0, none⟩) (len - 1) c9)))); (obtain ⟨wy, hwy⟩ : ∃ wy, wy = ((w8.setCell ⟨G8, 0, none⟩ (.int .i64 (A))).setCell ⟨G8, 1, none⟩ (.int .i64 (M))).setCell ⟨G8, 2, none⟩ ((.slice (some ⟨g9, 0, none⟩) (len - 1) c9)) := ⟨_, rfl⟩); (rw [← hwy] at o2 k8 k8w); (replace k8 := hid k8)
      have hR : Hd (SplN w wy q ((.slice (some ⟨g9, 0, none⟩) (len - 1) c9)) ((q.take k ++ q.drop (k + 1)))) := ⟨by
        refine ⟨by rw [List.length_append, List.length_take, List.length_drop, hlen.out, show min k len + (len - (k + 1)) = len - 1 from by omega]; exact Rd.kept (Rd.of_own o1.out) k8.out fun j hj e => own_ne o1.out g8z.out (by decide) j hj e, .inr ⟨g9, rfl, hg9.out⟩, fun y hy => ?_⟩
        rcases List.mem_append.1 hy with hy | hy
        · exact .inl ⟨y, List.mem_of_mem_take hy, rfl, rfl⟩
        · exact .inl ⟨y, List.mem_of_mem_drop hy, rfl, rfl⟩⟩
      have hRes : Hd (((q.take k ++ q.drop (k + 1))).length ≤ len + 1 ∧ ∀ x ∈ nds ((q.take k ++ q.drop (k + 1))), x.tail.length ≤ 9) := ⟨by
        (refine ⟨by rw [List.length_append, List.length_take, List.length_drop, hlen.out]; omega, fun y hy => ?_⟩); (obtain ⟨z, hz, rfl⟩ := List.mem_map.1 hy); (have hz2 : z ∈ q := (List.mem_append.1 hz).elim List.mem_of_mem_take List.mem_of_mem_drop)
        have := (hwf.out z.1 (List.mem_map.2 ⟨z, hz2, rfl⟩)).2.1; omega⟩
      (replace hwy := hid hwy); (go_wp2); (refine bodyPost_ret (v := .agg [.int .i64 (A), .int .i64 (M), (.slice (some ⟨g9, 0, none⟩) (len - 1) c9)].toArray) ?_ rfl ?_)
      · (rw [← hwy.out]); (exact results_cert1 rfl _ _ G8 [.int .i64 (A), .int .i64 (M), (.slice (some ⟨g9, 0, none⟩) (len - 1) c9)] rfl rfl o2.out)
      · (rw [← hwy.out]); (exact ⟨A, M, _, (q.take k ++ q.drop (k + 1)), rfl, hR.out, by rw [hlen.out]; exact hRes.out.1, hRes.out.2, k8w.out⟩)
  · (skip); (have HM5 := hid (fun w => mod_any wat 3 w (by omega) (by omega))); (obtain ⟨hm0, hm1⟩ := modI_lt wat 3 (by omega)); (obtain ⟨m, hm⟩ : ∃ m, modI wat 3 = m := ⟨_, rfl⟩); (rw [hm] at HM5 hm0 hm1); (clear hm); (go_wp2); (clear c0 c1 c2 d0 d1 d2 d3)
    go_loopw [11] (fun i wr => ∃ (j : Nat) (qq : List (Nd × Value)), j ≤ len ∧ i = .int .i64 (j : Int) ∧ Hd (qq.length = len) ∧ Hd (∀ y ∈ qq, (∃ z ∈ q, z.2 = y.2 ∧ z.1.tail = y.1.tail) ∧ y.1.tail.length ≤ 8 ∧ 0 ≤ y.1.bd ∧ y.1.bd ≤ 100000) ∧ Hd (wr.heap[GC]? = some (.cells #[.int .i64 A, .int .i64 M, .slice (some ⟨GL, 0, none⟩) len cL] 25 (0, 0))) ∧ Hd (wr.heap[G8]? = some (.cells #[.int .i64 0, .int .i64 0, .slice none 0 0] 25 (0, 0))) ∧ Hd (wr.ownsRow 0 76 4 (.slice (some ⟨GL, 0, none⟩) len cL) len (flatN qq)) ∧ Hd (Kept no w wr)) (fun i _ => len - (intOf i).toNat)
    case atStart => exact ⟨0, q, by omega, rfl, hlen, ⟨fun y hy => ⟨⟨y, hy, rfl, rfl⟩, (hwf.out y.1 (List.mem_map.2 ⟨y, hy, rfl⟩)).2⟩⟩, gC6, g86, hL6, k06⟩
    case round =>
      (clear gC6 g86 hL6 k06 gX); (obtain ⟨j, qq, hj, rfl, hqq, hyy, gCr, g8r, hLr, hW⟩ := hrel); (obtain ⟨c0, c1, c2⟩ := slotC gCr.out)
      by_cases hjl : j < len
      · (have hj1 : (j : Int) < (len : Int) := by omega); (have hj0 : (0 : Int) ≤ (j : Int) := by omega); (obtain ⟨y, ty, hyq⟩ : ∃ y ty, qq[j]'(by rw [hqq.out]; exact hjl) = (y, ty) := ⟨_, _, rfl⟩); (obtain ⟨b', o', hbo, hrow⟩ := Rd.row (f := ndC) (sz := 4) (ps := qq) (fun _ _ => rfl) (show Rd wr 4 (.slice (some ⟨GL, 0, none⟩) len cL) qq.length (qq.flatMap ndC) from by rw [hqq.out]; exact Rd.of_own hLr.out) j (by rw [hqq.out]; exact hjl))
        cases hbo
        (rw [hyq] at hrow); (have a2 : wr.cell? ⟨GL, j * 4 + 2, none⟩ = some (.int .i64 y.bd) := by have := hrow 2 _ rfl; simpa using this); (have hym : (y, ty) ∈ qq := hyq ▸ List.getElem_mem _); (obtain ⟨h1, h2, h3, h4⟩ := hyy.out (y, ty) hym); (have hset := flatN_setB (by rw [hqq.out]; exact hjl) hyq (max 0 (y.bd - m))); (have h3' : 0 ≤ y.bd := h3); (have h4' : y.bd ≤ 100000 := h4)
        have hyy2 : Hd (∀ z ∈ qq.set j ((⟨y.par, y.tail, max 0 (y.bd - m), y.leaf⟩ : Nd), ty), (∃ u ∈ q, u.2 = z.2 ∧ u.1.tail = z.1.tail) ∧ z.1.tail.length ≤ 8 ∧ 0 ≤ z.1.bd ∧ z.1.bd ≤ 100000) := ⟨fun z hz => by
          rcases List.mem_or_eq_of_mem_set hz with hz | rfl
          · exact hyy.out z hz
          · exact ⟨h1, h2, by show (0 : Int) ≤ max 0 (y.bd - m); omega, by show max 0 (y.bd - m) ≤ 100000; omega⟩⟩
        (have hqq2 : Hd ((qq.set j ((⟨y.par, y.tail, max 0 (y.bd - m), y.leaf⟩ : Nd), ty)).length = len) := ⟨by rw [List.length_set]; exact hqq.out⟩); (obtain ⟨Q2, hQ2⟩ : ∃ l, qq.set j ((⟨y.par, y.tail, max 0 (y.bd - m), y.leaf⟩ : Nd), ty) = l := ⟨_, rfl⟩); (rw [hQ2] at hset hyy2 hqq2); (obtain ⟨YB, hYB⟩ : ∃ b, y.bd = b := ⟨_, rfl⟩); (rw [hYB] at a2 hset h3' h4'); (have hw1 : IntKind.i64.wrap (YB - m) = YB - m := IntWalk.i64_in _ (by omega)); (have hset := hid hset); (have a2h := hid a2); (have c2h := hid c2)
        obtain ⟨cur, hcur⟩ : ∃ cur : Array Value, wr.heap[GL]? = some (.cells cur 76 (0, 0)) := by
          obtain ⟨_, ⟨h1, _⟩ | ⟨g, cap, cur, h1, _, hg, _⟩⟩ := hLr.out
          · cases h1
          · cases h1; exact ⟨_, hg⟩
        (have hcur := hid hcur); (clear hrow hym h1 h2 h3 h4 hYB hQ2 hyq hyy hqq); (go_upto_region 29 with fail); (clear c0 c1 c2 a2); (refine region_flow (S := (fun k => k = GL)) (Sl := (fun j k => j = 15 ∧ k = GL)) [Is (.pointer (some ⟨GC, 2, none⟩)), Is (.slice (some ⟨GL, 0, none⟩) len cL), Is (.int .i64 (j : Int)), Is (.pointer (some ⟨GC, 2, none⟩)), Is (.slice (some ⟨GL, 0, none⟩) len cL), Is (.int .i64 (j : Int)), Is (.pointer (some ⟨GL, j * 4, none⟩)), Is (.pointer (some ⟨GL, j * 4 + 2, none⟩)), Is (.int .i64 YB), Is (.int .i64 wat), Is (.int .i64 m), Is (.int .i64 (YB - m)), Is (.int .i64 (max 0 (YB - m))), Is (.pointer (some ⟨GL, j * 4, none⟩)), Is (.pointer (some ⟨GL, j * 4 + 2, none⟩)), PSr GL len cL Q2] [15] (fun j k h => h.2) _ (by kernel_rfl) (by kernel_rfl) (by kernel_rfl) (by kernel_rfl) (fun x => by simp only [puts, Act.put, List.map_cons, List.map_nil, Nat.zero_add, Nat.reduceAdd, List.setIfInBounds_toArray, List.set_cons_zero, List.set_cons_succ]; exact rfl) ?_ ?_)
        · (skip); (refine .cons (fun x wf Kk hq hdep hold => ?_) ?_)
          · (try dsimp only); (clear hq hdep hold); (rw [if_pos (by rfl)]); (refine OpY.val ?_ ⟨Kept.refl _ _, rfl⟩); (first | rfl | go_simp)
          refine .cons (fun x wf Kk hq hdep hold => ?_) ?_
          · (try dsimp only); (have h0 : x 0 = _ := hdep 0 (by kernel_rfl)); (have Kq := hq no (fun j hj => by cases (show j ∈ ([] : List Nat) from by (have e : ∀ l : List Nat, l = [] → j ∈ l → j ∈ ([] : List Nat) := fun l h h2 => h ▸ h2); exact e _ (by kernel_rfl) hj))); (clear hq hdep hold); (simp only [h0]); (clear h0); (have m1 := Kq.undrew.cell c2h.out id); (rw [if_pos (by rfl)]); (refine OpY.val ?_ ⟨Kept.refl _ _, rfl⟩); (first | rfl | go_simp)
          refine .cons (fun x wf Kk hq hdep hold => ?_) ?_
          · (try dsimp only); (clear hq hdep hold); (rw [if_pos (by rfl)]); (refine OpY.val ?_ ⟨Kept.refl _ _, rfl⟩); (first | rfl | go_simp)
          refine .cons (fun x wf Kk hq hdep hold => ?_) ?_
          · (try dsimp only); (clear hq hdep hold); (rw [if_pos (by rfl)]); (refine OpY.val ?_ ⟨Kept.refl _ _, rfl⟩); (first | rfl | go_simp)
          refine .cons (fun x wf Kk hq hdep hold => ?_) ?_
          · (try dsimp only); (have h3 : x 3 = _ := hdep 3 (by kernel_rfl)); (have Kq := hq no (fun j hj => by cases (show j ∈ ([] : List Nat) from by (have e : ∀ l : List Nat, l = [] → j ∈ l → j ∈ ([] : List Nat) := fun l h h2 => h ▸ h2); exact e _ (by kernel_rfl) hj))); (clear hq hdep hold); (simp only [h3]); (clear h3); (have m1 := Kq.undrew.cell c2h.out id); (rw [if_pos (by rfl)]); (refine OpY.val ?_ ⟨Kept.refl _ _, rfl⟩); (first | rfl | go_simp)
          refine .cons (fun x wf Kk hq hdep hold => ?_) ?_
          · (try dsimp only); (clear hq hdep hold); (rw [if_pos (by rfl)]); (refine OpY.val ?_ ⟨Kept.refl _ _, rfl⟩); (first | rfl | go_simp)
          refine .cons (fun x wf Kk hq hdep hold => ?_) ?_
          · (try dsimp only); (have h4 : x 4 = _ := hdep 4 (by kernel_rfl)); (have h5 : x 5 = _ := hdep 5 (by kernel_rfl)); (clear hq hdep hold); (simp only [h4, h5]); (clear h4 h5); (rw [if_pos (by rfl)]); (refine OpY.val ?_ ⟨Kept.refl _ _, rfl⟩); (first | rfl | go_simp)
          refine .cons (fun x wf Kk hq hdep hold => ?_) ?_
          · (try dsimp only); (have h6 : x 6 = _ := hdep 6 (by kernel_rfl)); (clear hq hdep hold); (simp only [h6]); (clear h6); (rw [if_pos (by rfl)]); (refine OpY.val ?_ ⟨Kept.refl _ _, rfl⟩); (first | rfl | go_simp)
          refine .cons (fun x wf Kk hq hdep hold => ?_) ?_
          · (try dsimp only); (have h7 : x 7 = _ := hdep 7 (by kernel_rfl)); (have Kq := hq no (fun j hj => by cases (show j ∈ ([] : List Nat) from by (have e : ∀ l : List Nat, l = [] → j ∈ l → j ∈ ([] : List Nat) := fun l h h2 => h ▸ h2); exact e _ (by kernel_rfl) hj))); (clear hq hdep hold); (simp only [h7]); (clear h7); (have m1 := Kq.undrew.cell a2h.out id); (rw [if_pos (by rfl)]); (refine OpY.val ?_ ⟨Kept.refl _ _, rfl⟩); (first | rfl | go_simp)
          refine .cons (fun x wf Kk hq hdep hold => ?_) ?_
          · (try dsimp only); (clear hq hdep hold); (rw [if_pos (by rfl)]); (refine OpY.val ?_ ⟨Kept.refl _ _, rfl⟩); (first | rfl | go_simp)
          refine .cons (fun x wf Kk hq hdep hold => ?_) ?_
          · (try dsimp only); (have h9 : x 9 = _ := hdep 9 (by kernel_rfl)); (clear hq hdep hold); (simp only [h9]); (clear h9); (rw [if_pos (by rfl)]); (refine OpY.call (f := 18) (args := #[(.int .i64 wat), (.int .i64 3)]) (by go_simp) ?_); (refine (HM5.out wf).mono ?_); (rintro e w2 ⟨rfl, rfl⟩); (exact ⟨_, rfl, Kept.refl _ _, rfl⟩)
          refine .cons (fun x wf Kk hq hdep hold => ?_) ?_
          · (try dsimp only); (have h8 : x 8 = _ := hdep 8 (by kernel_rfl)); (have h10 : x 10 = _ := hdep 10 (by kernel_rfl)); (clear hq hdep hold); (simp only [h8, h10]); (clear h8 h10); (rw [if_pos (by rfl)]); (refine OpY.val ?_ ⟨Kept.refl _ _, rfl⟩); (first | rfl | go_simp)
          refine .cons (fun x wf Kk hq hdep hold => ?_) ?_
          · (try dsimp only); (have h11 : x 11 = _ := hdep 11 (by kernel_rfl)); (clear hq hdep hold); (simp only [h11]); (clear h11); (rw [if_pos (by rfl)]); (refine OpY.val ?_ ⟨Kept.refl _ _, rfl⟩); (first | rfl | (go_simp; done) | (go_simp; split <;> omega))
          refine .cons (fun x wf Kk hq hdep hold => ?_) ?_
          · (try dsimp only); (have h1 : x 1 = _ := hdep 1 (by kernel_rfl)); (have h2 : x 2 = _ := hdep 2 (by kernel_rfl)); (clear hq hdep hold); (simp only [h1, h2]); (clear h1 h2); (rw [if_pos (by rfl)]); (refine OpY.val ?_ ⟨Kept.refl _ _, rfl⟩); (first | rfl | go_simp)
          refine .cons (fun x wf Kk hq hdep hold => ?_) ?_
          · (try dsimp only); (have h13 : x 13 = _ := hdep 13 (by kernel_rfl)); (clear hq hdep hold); (simp only [h13]); (clear h13); (rw [if_pos (by rfl)]); (refine OpY.val ?_ ⟨Kept.refl _ _, rfl⟩); (first | rfl | go_simp)
          refine .cons (fun x wf Kk hq hdep hold => ?_) ?_
          · (try dsimp only); (have h14 : x 14 = _ := hdep 14 (by kernel_rfl)); (have h12 : x 12 = _ := hdep 12 (by kernel_rfl)); (have Kq := hq no (fun j hj => by cases (show j ∈ ([] : List Nat) from by (have e : ∀ l : List Nat, l = [] → j ∈ l → j ∈ ([] : List Nat) := fun l h h2 => h ▸ h2); exact e _ (by kernel_rfl) hj))); (clear hq hdep hold); (simp only [h14, h12]); (clear h14 h12); (rw [if_pos (by rfl)]); (have hb := Kq.undrew.blk hcur.out); (have fz := row_free hb (j * 4 + 2)); (have m1 := Kq.undrew.cell a2h.out id); (have kS := (Kept.refl (fun j => j = GL) wf).setCell (a := ⟨GL, j * 4 + 2, none⟩) (.inl rfl) (.int .i64 (max 0 (YB - m)))); (refine OpY.skipY (w' := wf.setCell ⟨GL, j * 4 + 2, none⟩ (.int .i64 (max 0 (YB - m)))) (by go_simp) ⟨kS.mono fun k _ h => ⟨by trivial, h⟩, ?_⟩)
            show (wf.setCell ⟨GL, j * 4 + 2, none⟩ (.int .i64 (max 0 (YB - m)))).ownsRow 0 76 4 (.slice (some ⟨GL, 0, none⟩) len cL) len (flatN Q2)
            (rw [← hset.out]); (exact own_set (Kq.undrew.ownsRow hLr.out fun _ _ => id) _ _)
          exact .nil _
        · (intro x wf Kk hv); (try dsimp only); (have p15 : Pr.p (Sl := (fun j k => j = 15 ∧ k = GL)) (PSr GL len cL Q2) (x 15) wf := hv 15 (by kernel_rfl)); (clear hv); (have gC9 := hid ((Kk.undrew.block GC (lt_of_heap gCr.out) (Ne.symm hGL.out.1)).trans gCr.out)); (have g89 := hid ((Kk.undrew.block G8 (lt_of_heap g8r.out) (Ne.symm hGL.out.2)).trans g8r.out)); (have hW9 : Hd (Kept no w wf) := ⟨hW.out.trans Kk.undrew fun j hj h => by rw [h] at hj; have := hGLw.out; omega⟩); (have hL9 := hid p15); (clear Kk p15 gCr g8r hW hLr); (go_wp2); (go_roundw)
          case rel => first | exact ⟨j + 1, Q2, by omega, by go_num, hqq2, hyy2, gC9, g89, hL9, hW9⟩ | ((repeat apply Exists.intro); exact ⟨⟨j + 1, Q2, by omega, by go_num, hqq2, hyy2, gC9, g89, hL9, hW9⟩, rfl⟩)
          case measure => simp [intOf]; omega
      · (obtain rfl : j = len := by omega); (have gCz := gCr); (have g8z := g8r); (have o1 := hLr); (have kLw := hW); (clear gCr g8r hLr hW c0 c1 c2); (obtain ⟨z0, z1, z2⟩ := slotC gCz.out); (obtain ⟨x0, x1, x2⟩ := slotC g8z.out); (have f0 := row_free g8z.out 0); (have f1 := row_free g8z.out 1); (have f2 := row_free g8z.out 2)
        have o2 : Hd ((((wr.setCell ⟨G8, 0, none⟩ (.int .i64 (A))).setCell ⟨G8, 1, none⟩ (.int .i64 (M))).setCell ⟨G8, 2, none⟩ ((.slice (some ⟨GL, 0, none⟩) j cL))).heap[G8]? = some (.cells [.int .i64 (A), .int .i64 (M), (.slice (some ⟨GL, 0, none⟩) j cL)].toArray 25 (0, 0))) := ⟨by
          rw [setCell_row (setCell_row (setCell_row g8z.out 0 _) 1 _) 2 _]; rfl⟩
        (have k8 := (((Kept.refl (fun j => j = G8) wr).setCell (a := ⟨G8, 0, none⟩) (.inl rfl) (.int .i64 (A))).setCell (a := ⟨G8, 1, none⟩) (.inl rfl) (.int .i64 (M))).setCell (a := ⟨G8, 2, none⟩) (.inl rfl) ((.slice (some ⟨GL, 0, none⟩) j cL))); (have k8w := hid (((kLw.out.setCell (a := ⟨G8, 0, none⟩) (.inr hG8w.out) (.int .i64 (A))).setCell (a := ⟨G8, 1, none⟩) (.inr hG8w.out) (.int .i64 (M))).setCell (a := ⟨G8, 2, none⟩) (.inr hG8w.out) ((.slice (some ⟨GL, 0, none⟩) j cL)))); (obtain ⟨wy, hwy⟩ : ∃ wy, wy = ((wr.setCell ⟨G8, 0, none⟩ (.int .i64 (A))).setCell ⟨G8, 1, none⟩ (.int .i64 (M))).setCell ⟨G8, 2, none⟩ ((.slice (some ⟨GL, 0, none⟩) j cL)) := ⟨_, rfl⟩); (rw [← hwy] at o2 k8 k8w); (replace k8 := hid k8)
        have hR : Hd (SplN w wy q ((.slice (some ⟨GL, 0, none⟩) j cL)) (qq)) := ⟨by
          exact ⟨by rw [hqq.out]; exact Rd.kept (Rd.of_own o1.out) k8.out fun j hj e => own_ne o1.out g8z.out (by decide) j hj e, .inr ⟨GL, rfl, hGLw.out⟩, fun y hy => .inl (hyy.out y hy).1⟩⟩
        have hRes : Hd ((qq).length ≤ j + 1 ∧ ∀ x ∈ nds (qq), x.tail.length ≤ 9) := ⟨by
          (refine ⟨by rw [hqq.out]; omega, fun y hy => ?_⟩); (obtain ⟨z, hz, rfl⟩ := List.mem_map.1 hy)
          have := (hyy.out z hz).2.1; omega⟩
        (replace hwy := hid hwy); (go_wp2); (refine bodyPost_ret (v := .agg [.int .i64 (A), .int .i64 (M), (.slice (some ⟨GL, 0, none⟩) j cL)].toArray) ?_ rfl ?_)
        · (rw [← hwy.out]); (exact results_cert1 rfl _ _ G8 [.int .i64 (A), .int .i64 (M), (.slice (some ⟨GL, 0, none⟩) j cL)] rfl rfl o2.out)
        · (rw [← hwy.out]); (exact ⟨A, M, _, qq, rfl, hR.out, by rw [hlen.out]; exact hRes.out.1, hRes.out.2, k8w.out⟩)
  · (skip); (go_upto_region 31 with fail); (clear c0 c1 c2 d0 d1 d2 d3); (have hTT : Hd ((Value.slice av lv cv = Value.slice av lv cv ∧ T = T) ∨ (w7.ownsRow 0 3 1 (.slice av lv cv) T.length (T.map Z) ∧ New w (.slice av lv cv))) := ⟨.inl ⟨rfl, rfl⟩⟩); (have hNT : Hd (T.length ≤ 9) := ⟨by rw [hlv.out]; omega⟩); (obtain ⟨z0, z1, z2⟩ := slotC gC6.out); (obtain ⟨y0, y1, y2, y3⟩ := slotN4 gX.out); (have hLw := hid (show w7.ownsRow 0 76 4 (.slice (some ⟨GL, 0, none⟩) len cL) len (flatN q) from hL6.out))
    have hLc : ∀ j, j < len * 4 → ∃ u, w7.cell? ⟨GL, j, none⟩ = some u := fun j hj => by
      obtain ⟨hl1, _, _, he, _, _, hx | ⟨b, o, he2, hc⟩⟩ := Rd.of_own hLw.out
      · cases he
        (have hx2 := hlen.out); (obtain ⟨_, ⟨h1, _⟩ | ⟨g, cap, cur, h1, _, _, h2, _⟩⟩ := hLw.out)
        · cases h1
        · cases h1; omega
      · cases he; cases he2
        (have hjl : j < (flatN q).length := by rw [flatN_len, hlen.out]; exact hj); (have := hc j _ (List.getElem?_eq_getElem hjl)); (rw [Nat.zero_add] at this); (exact ⟨_, this⟩)
    (obtain ⟨u0, r0⟩ := hLc (k * 4) (by omega)); (obtain ⟨u1, r1⟩ := hLc (k * 4 + 1) (by omega)); (obtain ⟨u2, r2⟩ := hLc (k * 4 + 2) (by omega)); (obtain ⟨u3, r3⟩ := hLc (k * 4 + 3) (by omega))
    have hLf : ∀ j, w7.frozen? ⟨GL, j, none⟩ = false := fun j => by
      obtain ⟨_, ⟨h1, _⟩ | ⟨g, cap, cur, h1, _, hg, _⟩⟩ := hLw.out
      · cases h1
      · cases h1; exact row_free hg j
    have hLcur : ∃ cur : Array Value, w7.heap[GL]? = some (.cells cur 76 (0, 0)) := by
      obtain ⟨_, ⟨h1, _⟩ | ⟨g, cap, cur, h1, _, hg, _⟩⟩ := hLw.out
      · cases h1
      · cases h1; exact ⟨_, hg⟩
    (have f0 := hLf (k * 4)); (have f1 := hLf (k * 4 + 1)); (have f2 := hLf (k * 4 + 2)); (have f3 := hLf (k * 4 + 3)); (have o1 := own_set (own_set (own_set (own_set hLw.out (k * 4) (.int .i64 (P))) (k * 4 + 1) ((.slice av lv cv))) (k * 4 + 2) (.int .i64 (B))) (k * 4 + 3) (.bool (Lf))); (rw [flatN_set4 (by rw [hlen.out]; exact hkl) (⟨P, T, B, Lf⟩ : Nd) ((.slice av lv cv))] at o1); (have kL := ((((Kept.refl (fun j => j = GL) w7).setCell (a := ⟨GL, k * 4, none⟩) (.inl rfl) (.int .i64 (P))).setCell (a := ⟨GL, k * 4 + 1, none⟩) (.inl rfl) ((.slice av lv cv))).setCell (a := ⟨GL, k * 4 + 2, none⟩) (.inl rfl) (.int .i64 (B))).setCell (a := ⟨GL, k * 4 + 3, none⟩) (.inl rfl) (.bool (Lf))); (have kLw := (((k06.out.setCell (a := ⟨GL, k * 4, none⟩) (.inr hGLw.out) (.int .i64 (P))).setCell (a := ⟨GL, k * 4 + 1, none⟩) (.inr hGLw.out) ((.slice av lv cv))).setCell (a := ⟨GL, k * 4 + 2, none⟩) (.inr hGLw.out) (.int .i64 (B))).setCell (a := ⟨GL, k * 4 + 3, none⟩) (.inr hGLw.out) (.bool (Lf))); (obtain ⟨wz, hwz⟩ : ∃ wz, wz = (((w7.setCell ⟨GL, k * 4, none⟩ (.int .i64 (P))).setCell ⟨GL, k * 4 + 1, none⟩ ((.slice av lv cv))).setCell ⟨GL, k * 4 + 2, none⟩ (.int .i64 (B))).setCell ⟨GL, k * 4 + 3, none⟩ (.bool (Lf)) := ⟨_, rfl⟩); (rw [← hwz] at o1 kL kLw); (have gCz := hid ((kL.block GC (lt_of_heap gC6.out) (Ne.symm hGL.out.1)).trans gC6.out)); (have g8z := hid ((kL.block G8 (lt_of_heap g86.out) (Ne.symm hGL.out.2)).trans g86.out)); (have hTz : Hd (((.slice av lv cv) = Value.slice av lv cv ∧ T = T) ∨ (wz.ownsRow 0 3 1 ((.slice av lv cv)) (T).length ((T).map Z) ∧ New w ((.slice av lv cv)))) := ⟨hTT.out.imp id fun h => And.intro (kL.ownsRow h.1 fun j hj e => own_ne h.1 (show w7.heap[GL]? = some (.cells _ 76 (0, 0)) from hLcur.choose_spec) (by decide) j hj e) h.2⟩); (replace o1 := hid o1); (replace kLw := hid kLw); (replace hwz := hid hwz); (clear hLc hLf kL hLw hLcur); (go_upto_region 32 with fail); (rw [← hwz.out]); (clear z0 z1 z2 y0 y1 y2 y3 r0 r1 r2 r3 f0 f1 f2 f3 hwz); (obtain ⟨z0, z1, z2⟩ := slotC gCz.out); (obtain ⟨x0, x1, x2⟩ := slotC g8z.out); (have f0 := row_free g8z.out 0); (have f1 := row_free g8z.out 1); (have f2 := row_free g8z.out 2)
    have o2 : Hd ((((wz.setCell ⟨G8, 0, none⟩ (.int .i64 (A))).setCell ⟨G8, 1, none⟩ (.int .i64 (M))).setCell ⟨G8, 2, none⟩ ((.slice (some ⟨GL, 0, none⟩) len cL))).heap[G8]? = some (.cells [.int .i64 (A), .int .i64 (M), (.slice (some ⟨GL, 0, none⟩) len cL)].toArray 25 (0, 0))) := ⟨by
      rw [setCell_row (setCell_row (setCell_row g8z.out 0 _) 1 _) 2 _]; rfl⟩
    (have k8 := (((Kept.refl (fun j => j = G8) wz).setCell (a := ⟨G8, 0, none⟩) (.inl rfl) (.int .i64 (A))).setCell (a := ⟨G8, 1, none⟩) (.inl rfl) (.int .i64 (M))).setCell (a := ⟨G8, 2, none⟩) (.inl rfl) ((.slice (some ⟨GL, 0, none⟩) len cL))); (have k8w := hid (((kLw.out.setCell (a := ⟨G8, 0, none⟩) (.inr hG8w.out) (.int .i64 (A))).setCell (a := ⟨G8, 1, none⟩) (.inr hG8w.out) (.int .i64 (M))).setCell (a := ⟨G8, 2, none⟩) (.inr hG8w.out) ((.slice (some ⟨GL, 0, none⟩) len cL)))); (obtain ⟨wy, hwy⟩ : ∃ wy, wy = ((wz.setCell ⟨G8, 0, none⟩ (.int .i64 (A))).setCell ⟨G8, 1, none⟩ (.int .i64 (M))).setCell ⟨G8, 2, none⟩ ((.slice (some ⟨GL, 0, none⟩) len cL)) := ⟨_, rfl⟩); (rw [← hwy] at o2 k8 k8w); (replace k8 := hid k8)
    have hR : Hd (SplN w wy q ((.slice (some ⟨GL, 0, none⟩) len cL)) ((q.set k ((⟨P, T, B, Lf⟩ : Nd), (.slice av lv cv))))) := ⟨by
      refine ⟨by rw [List.length_set, hlen.out]; exact Rd.kept (Rd.of_own o1.out) k8.out fun j hj e => own_ne o1.out g8z.out (by decide) j hj e, .inr ⟨GL, rfl, hGLw.out⟩, fun y hy => ?_⟩
      rcases List.mem_or_eq_of_mem_set hy with hy | rfl
      · exact .inl ⟨y, hy, rfl, rfl⟩
      · rcases hTz.out with ⟨h1, h2⟩ | ⟨h, h2⟩
        · exact .inl ⟨_, hxq.out, h1.symm, (hxT.out.trans h2.symm)⟩
        · exact .inr ⟨Rd.kept (Rd.of_own h) k8.out fun j hj e => own_ne h g8z.out (by decide) j hj e, h2⟩⟩
    have hRes : Hd (((q.set k ((⟨P, T, B, Lf⟩ : Nd), (.slice av lv cv)))).length ≤ len + 1 ∧ ∀ x ∈ nds ((q.set k ((⟨P, T, B, Lf⟩ : Nd), (.slice av lv cv)))), x.tail.length ≤ 9) := ⟨by
      (refine ⟨by rw [List.length_set, hlen.out]; omega, fun y hy => ?_⟩); (obtain ⟨z, hz, rfl⟩ := List.mem_map.1 hy)
      rcases List.mem_or_eq_of_mem_set hz with hz | rfl
      · have := (hwf.out z.1 (List.mem_map.2 ⟨z, hz, rfl⟩)).2.1; omega
      · exact hNT.out⟩
    (replace hwy := hid hwy); (go_wp2); (refine bodyPost_ret (v := .agg [.int .i64 (A), .int .i64 (M), (.slice (some ⟨GL, 0, none⟩) len cL)].toArray) ?_ rfl ?_)
    · (rw [← hwy.out]); (exact results_cert1 rfl _ _ G8 [.int .i64 (A), .int .i64 (M), (.slice (some ⟨GL, 0, none⟩) len cL)] rfl rfl o2.out)
    · (rw [← hwy.out]); (exact ⟨A, M, _, (q.set k ((⟨P, T, B, Lf⟩ : Nd), (.slice av lv cv))), rfl, hR.out, by rw [hlen.out]; exact hRes.out.1, hRes.out.2, k8w.out⟩)
end Go.Proofs.Ytkdmlakookgolaa
