/- The state of a count in memory; the rounds before. -/
import Derived.Test.YtaobaaaihgahfaaGreatIrvAQ
namespace Go.Nt
open Go.Pil
/-- What a count is about. -/
structure Ctx where
  nm : ByteArray
  ac : Option Addr
  n : Nat
  cc : Nat
  cm : Int
  s : Int
  ra : Int
  d : Int
  t : Int
  ov : Int
  sk : Int
  vg : Value
  vl : Value
def Ctx.cells (X : Ctx) (gm : Nat) (ve : Value) : Array Value := cntC X.nm X.ac X.n X.cc X.cm X.s X.ra X.d X.t X.ov X.sk X.vg X.vl (.slice (some ⟨gm, 0, none⟩) X.n X.n) ve
theorem leftB_mem {bs : List Bool} {k : Nat} {x : Int} : x ∈ leftB bs k ↔ ∃ i : Nat, i < k ∧ bs.getD i false = true ∧ x = (i : Int) := by
  (unfold leftB); (rw [List.mem_map])
  constructor
  · (rintro ⟨i, hi, rfl⟩); (obtain ⟨h1, h2⟩ := List.mem_filter.1 hi); (exact ⟨i, List.mem_range.1 h1, h2, rfl⟩)
  · (rintro ⟨i, h1, h2, rfl⟩); (exact ⟨i, List.mem_filter.2 ⟨List.mem_range.2 h1, h2⟩, rfl⟩)
theorem leftB_asc (bs : List Bool) (k : Nat) : (leftB bs k).Pairwise (· < ·) := by
  (unfold leftB); (rw [List.pairwise_map]); (refine List.Pairwise.filter _ ?_); (exact List.Pairwise.imp (fun h => by omega) List.pairwise_lt_range)
/-- The candidates with the least votes among the first ones. -/
structure MinT (zs : List Int) (l t : List Int) : Prop where
  sub : t.Sublist l
  ne : l ≠ [] → t ≠ []
  le : ∀ x ∈ t, ∀ y ∈ l, zs.getD x.toNat 0 ≤ zs.getD y.toNat 0
theorem MinT.nil (zs : List Int) : MinT zs [] [] := ⟨List.Sublist.refl _, fun h => absurd rfl h, fun x hx => by cases hx⟩
theorem MinT.one {zs l t : List Int} (h : MinT zs l t) {c : Int} (hc : t = [] ∨ zs.getD c.toNat 0 < zs.getD (t.getD 0 0).toNat 0) : MinT zs (l ++ [c]) [c] := by
  (refine ⟨List.sublist_append_right l [c], fun _ => by simp, fun x hx y hy => ?_⟩); (rw [List.mem_singleton.1 hx])
  rcases List.mem_append.1 hy with hy | hy
  · (have hl : l ≠ [] := fun e => by rw [e] at hy; cases hy); (have ht := h.ne hl)
    rcases hc with hc | hc
    · exact absurd hc ht
    · have h0 : t.getD 0 0 ∈ t := by
        cases t with
        | nil => exact absurd rfl ht
        | cons a t => exact List.mem_cons_self
      have := h.le _ h0 y hy
      omega
  · rw [List.mem_singleton.1 hy]; exact Int.le_refl _
theorem MinT.more {zs l t : List Int} (h : MinT zs l t) {c : Int} (ht : t ≠ []) (hc : zs.getD c.toNat 0 = zs.getD (t.getD 0 0).toNat 0) : MinT zs (l ++ [c]) (t ++ [c]) := by
  have h0 : t.getD 0 0 ∈ t := by
    cases t with
    | nil => exact absurd rfl ht
    | cons a t => exact List.mem_cons_self
  refine ⟨h.sub.append (List.Sublist.refl _), fun _ => by simp, fun x hx y hy => ?_⟩
  rcases List.mem_append.1 hx with hx | hx <;> rcases List.mem_append.1 hy with hy | hy
  · exact h.le x hx y hy
  · rw [List.mem_singleton.1 hy, hc]; exact h.le x hx _ (h.sub.subset h0)
  · rw [List.mem_singleton.1 hx, hc]; exact h.le _ h0 y hy
  · rw [List.mem_singleton.1 hx, List.mem_singleton.1 hy]; exact Int.le_refl _
theorem MinT.skip {zs l t : List Int} (h : MinT zs l t) {c : Int} (ht : t ≠ []) (hc : zs.getD (t.getD 0 0).toNat 0 < zs.getD c.toNat 0) : MinT zs (l ++ [c]) t := by
  have h0 : t.getD 0 0 ∈ t := by
    cases t with
    | nil => exact absurd rfl ht
    | cons a t => exact List.mem_cons_self
  refine ⟨h.sub.trans (List.sublist_append_left l [c]), fun _ => ht, fun x hx y hy => ?_⟩
  rcases List.mem_append.1 hy with hy | hy
  · exact h.le x hx y hy
  · (rw [List.mem_singleton.1 hy]); (have := h.le x hx _ (h.sub.subset h0))
    omega
theorem MinT.tie {zs : List Int} {bs : List Bool} {n : Nat} {t : List Int} (h : MinT zs (leftB bs n) t) (hl : leftB bs n ≠ []) : TieOk n t := by
  refine ⟨h.ne hl, fun x hx => ?_, fun i hi => ?_⟩
  · obtain ⟨j, h1, _, rfl⟩ := leftB_mem.1 (h.sub.subset hx)
    omega
  · (have hp := (leftB_asc bs n).sublist h.sub); (have := List.pairwise_iff_getElem.1 hp i (i + 1) (by omega) hi (by omega)); (rw [List.getD_eq_getElem?_getD, List.getD_eq_getElem?_getD, List.getElem?_eq_getElem hi, List.getElem?_eq_getElem (show i < t.length by omega)]); (exact this)
end Go.Nt
namespace Go.Proofs.YtaobaaaihgahfaaGreat
open Go.RowKit Go.Mk Go.Pil Go.Nt
theorem TRatss : ElemT Tryz.prog 69 72 1 24 := .mk' (z := .slice none 0 0) (by kernel_rfl) (by kernel_rfl) (by kernel_rfl) (by decide)
/-- A round's numbers, wherever they were made. -/
structure InR (w : World) (v : Value) (qs : List (Nat × Value × Value)) : Prop where
  own : w.ownsRow 0 76 3 v qs.length (qs.flatMap cR)
  one : ∀ x ∈ qs, w.ownsRow 0 202 1 x.2.1 (nl x.1).length ((nl x.1).map N32) ∧ w.ownsRow 0 202 1 x.2.2 (nl 1).length ((nl 1).map N32)
  small : ∀ x ∈ qs, x.1 < 2147483648
theorem OwRl.inr {w w' : World} {v : Value} {qs : List (Nat × Value × Value)} (h : OwRl w w' v qs) : InR w' v qs := ⟨h.own, h.one, h.small⟩
theorem InR.rd {w : World} {v : Value} {qs : List (Nat × Value × Value)} (h : InR w v qs) : RdRl w v qs := ⟨Rd.of_own h.own, fun x hx => ⟨Rd.of_own (h.one x hx).1, Rd.of_own (h.one x hx).2⟩, h.small⟩
theorem InR.oth {w w' : World} {v : Value} {qs : List (Nat × Value × Value)} {S : Nat → Prop} (h : InR w v qs) (k : Kept S w w') (hS : ∀ j, S j → Oth w j) : InR w' v qs := by
  refine ⟨k.ownsRow h.own fun j hj hs => ?_, fun x hx => ⟨k.ownsRow (h.one x hx).1 fun j hj hs => ?_, k.ownsRow (h.one x hx).2 fun j hj hs => ?_⟩, h.small⟩
  · (obtain ⟨c, t, fr, hg, h1, _⟩ := hS j hs); (exact own_ne h.own hg (Ne.symm h1) j hj rfl)
  · (obtain ⟨c, t, fr, hg, _, h2⟩ := hS j hs); (exact own_ne (h.one x hx).1 hg (Ne.symm h2) j hj rfl)
  · (obtain ⟨c, t, fr, hg, _, h2⟩ := hS j hs); (exact own_ne (h.one x hx).2 hg (Ne.symm h2) j hj rfl)
theorem InR.keptNo {w w' : World} {v : Value} {qs : List (Nat × Value × Value)} (h : InR w v qs) (k : Kept no w w') : InR w' v qs := h.oth k fun _ f => f.elim
/-- The rounds before, of one's own. -/
structure OwEl (w0 w : World) (v : Value) (vs : List (List (Nat × Value × Value) × Value)) : Prop where
  own : w.ownsRow 0 72 1 v vs.length (vs.map (·.2))
  one : ∀ x ∈ vs, InR w x.2 x.1
  new : New w0 v
theorem OwEl.nil (w0 w : World) : OwEl w0 w (.slice none 0 0) [] := ⟨World.ownsRow_nil _ _ _ _, (fun x hx => by cases hx), .inl rfl⟩
theorem OwEl.rd {w0 w : World} {v : Value} {vs : List (List (Nat × Value × Value) × Value)} (h : OwEl w0 w v vs) : RdEl w v vs := ⟨Rd.of_own h.own, fun x hx => (h.one x hx).rd⟩
theorem OwEl.keptNo {w0 w w' : World} {v : Value} {vs : List (List (Nat × Value × Value) × Value)} (h : OwEl w0 w v vs) (k : Kept no w w') : OwEl w0 w' v vs := ⟨k.ownsRow h.own fun _ _ => id, fun x hx => (h.one x hx).keptNo k, h.new⟩
/-- Blocks of kinds that rounds do not use. -/
def Oth3 (w : World) (j : Nat) : Prop := ∃ c t fr, w.heap[j]? = some (.cells c t fr) ∧ t ≠ 76 ∧ t ≠ 202 ∧ t ≠ 72
theorem OwEl.oth {w0 w w' : World} {v : Value} {vs : List (List (Nat × Value × Value) × Value)} {S : Nat → Prop} (h : OwEl w0 w v vs) (k : Kept S w w') (hS : ∀ j, S j → Oth3 w j) : OwEl w0 w' v vs :=
  ⟨k.ownsRow h.own fun j hj hs => by
    obtain ⟨c, t, fr, hg, _, _, h3⟩ := hS j hs
    exact own_ne h.own hg (Ne.symm h3) j hj rfl, fun x hx => (h.one x hx).oth k fun j hs => by
    obtain ⟨c, t, fr, hg, h1, h2, _⟩ := hS j hs
    exact ⟨c, t, fr, hg, h1, h2⟩, h.new⟩
theorem own_oth {w : World} {v : Value} {n : Nat} {L : List Value} (h : w.ownsRow 0 72 1 v n L) : ∀ j, ob v j → Oth w j := fun j hj => by
  obtain ⟨_, ⟨rfl, _⟩ | ⟨g, cap, cur, rfl, _, hg, _⟩⟩ := h
  · cases hj
  · (have : g = j := by simpa [ob, Value.ownBlock] using hj); (subst this); (exact ⟨cur, _, _, hg, by decide, by decide⟩)
theorem OwEl.add {w0 w w1 : World} {v v' : Value} {vs : List (List (Nat × Value × Value) × Value)} (h : OwEl w0 w v vs) (hs : w0.heap.size ≤ w.heap.size) {qs : List (Nat × Value × Value)} {u : Value} (hu : InR w u qs)
    (ho : w1.ownsRow 0 72 1 v' (vs.length + 1) (vs.map (·.2) ++ [u])) (hk : Kept (ob v) w w1) (hn : NewOr w v v') : OwEl w0 w1 v' (vs ++ [(qs, u)]) := by
  (have hoth := own_oth h.own); (refine ⟨by rw [List.length_append, List.length_singleton, List.map_append]; exact ho, fun x hx => ?_, h.new.step hn hs⟩)
  rcases List.mem_append.1 hx with hx | hx
  · exact (h.one x hx).oth hk hoth
  · rw [List.mem_singleton.1 hx]; exact hu.oth hk hoth
/-- The state of a count. -/
structure KS (X : Ctx) (gk gm : Nat) (bs : List Bool) (ve : Value) (vs : List (List (Nat × Value × Value) × Value)) (w0 w : World) : Prop where
  kb : w.heap[gk]? = some (.cells (X.cells gm ve) 71 (0, 0))
  mb : w.heap[gm]? = some (.cells (zsT bs) 4 (0, 0))
  len : bs.length = X.n
  el : OwEl w0 w ve vs
  nk : w0.heap.size ≤ gk
  nm : w0.heap.size ≤ gm
  kept : Kept no w0 w
theorem KS.keptNo {X : Ctx} {gk gm : Nat} {bs : List Bool} {ve : Value} {vs : List (List (Nat × Value × Value) × Value)} {w0 w w' : World} (h : KS X gk gm bs ve vs w0 w) (k : Kept no w w') : KS X gk gm bs ve vs w0 w' :=
  ⟨k.blk h.kb, k.blk h.mb, h.len, h.el.keptNo k, h.nk, h.nm, h.kept.trans' k⟩
end Go.Proofs.YtaobaaaihgahfaaGreat

/- (*irv.count).exclude (printed by gen_irv5.py). -/
namespace Go.Proofs.YtaobaaaihgahfaaGreat
open Go.RowKit Go.Mk Go.Pil Go.Nt
theorem KS.ne {X : Ctx} {gk gm : Nat} {bs : List Bool} {ve : Value} {vs : List (List (Nat × Value × Value) × Value)} {w0 w : World} (h : KS X gk gm bs ve vs w0 w) : gk ≠ gm := fun e => by
  (have h1 := h.kb); (rw [e, h.mb] at h1)
  injection h1 with h1
  injection h1 with _ h2
  exact absurd h2 (by decide)
theorem bool_oth {w : World} {g : Nat} {c : Array Value} (h : w.heap[g]? = some (.cells c 4 (0, 0))) : Oth3 w g := ⟨c, _, _, h, by decide, by decide, by decide⟩
theorem cnt_oth {w : World} {g : Nat} {c : Array Value} (h : w.heap[g]? = some (.cells c 71 (0, 0))) : Oth3 w g := ⟨c, _, _, h, by decide, by decide, by decide⟩
theorem OwZ.drewN {w w' : World} {v : Value} {zs : List Int} (h : OwZ w w' v zs) (n : Nat) : OwZ w (w'.drewN n) v zs := h.keptNo ((Kept.refl no w').drewN n)
theorem OwZ.lit {w w1 : World} (k : Kept no w w1) (c : Int) : OwZ w (w1.alloc (.cells #[.int .i64 c] 3)) (.slice (some ⟨w1.heap.size, 0, none⟩) 1 1) [c] :=
  ⟨⟨rfl, .inr ⟨w1.heap.size, 1, #[.int .i64 c], rfl, Nat.zero_le _, heap_alloc_new _ _, Nat.le_refl _, by decide, rfl, rfl⟩⟩, k.alloc _, .inr ⟨_, rfl, k.size⟩⟩
def PCa {Sl : Nat → Nat → Prop} (T : List Int) : Pr Sl := soft (fun v _ => ∃ c : Int, v = .int .i64 c ∧ c ∈ T) fun _ _ _ h _ => h
def PTu {Sl : Nat → Nat → Prop} (T : List Int) : Pr Sl := soft (fun v _ => ∃ (c : Int) (b : Value), v = .tuple #[.int .i64 c, b] ∧ c ∈ T) fun _ _ _ h _ => h
def PAn {Sl : Nat → Nat → Prop} : Pr Sl := soft (fun _ _ => True) fun _ _ _ h _ => h
def PIn {Sl : Nat → Nat → Prop} : Pr Sl := soft (fun v w => ∃ qs, InR w v qs) fun _ _ _ ⟨q, h⟩ k => ⟨q, h.keptNo k⟩
def PIl {Sl : Nat → Nat → Prop} : Pr Sl := soft (fun v w => ∃ qs u, Rd w 1 v 1 [u] ∧ InR w u qs) fun _ _ _ ⟨q, u, h, h2⟩ k => ⟨q, u, h.keptNo k, h2.keptNo k⟩
def PEl {Sl : Nat → Nat → Prop} (w0 : World) (m : Nat) : Pr Sl := soft (fun v w => ∃ vs : List (List (Nat × Value × Value) × Value), vs.length = m ∧ OwEl w0 w v vs) fun _ _ _ ⟨q, hq, h⟩ k => ⟨q, hq, h.keptNo k⟩
def PEs {Sl : Nat → Nat → Prop} (w0 : World) (X : Ctx) (gk gm m : Nat) : Pr Sl := soft (fun _ w => ∃ (v : Value) (vs : List (List (Nat × Value × Value) × Value)), vs.length = m ∧ OwEl w0 w v vs ∧ w.heap[gk]? = some (.cells (X.cells gm v) 71 (0, 0))) fun _ _ _ ⟨v, q, hq, h, h2⟩ k => ⟨v, q, hq, h.keptNo k, k.blk h2⟩
theorem infRs : (Tryz.prog.info? 72).map (fun i => (i.zero, i.size)) = some (some (.slice none 0 0), 1) := by kernel_rfl
theorem OwEl.shape {w0 w : World} {v : Value} {vs : List (List (Nat × Value × Value) × Value)} (h : OwEl w0 w v vs) : ∃ a c, v = .slice a vs.length c := h.rd.shape
theorem InR.shape {w : World} {v : Value} {qs : List (Nat × Value × Value)} (h : InR w v qs) : ∃ a c, v = .slice a qs.length c := h.rd.shape
/-- What exclude answers. -/
def ExcR (X : Ctx) (gk gm : Nat) (bs : List Bool) (ve : Value) (vs : List (List (Nat × Value × Value) × Value)) (zs : List Int) (w0 w : World) (e : Ending) (w' : World) : Prop := ∃ (c : Nat) (vt ve' : Value) (vs' : List (List (Nat × Value × Value) × Value)), e = .returned (.tuple #[.int .i64 (c : Int), vt]) ∧ IsSl vt ∧ (c : Int) ∈ leftB bs X.n ∧ (∀ d ∈ leftB bs X.n, zs.getD c 0 ≤ zs.getD d.toNat 0) ∧ vs'.length = vs.length + 1 ∧ KS X gk gm (bs.set c false) ve' vs' w0 w' ∧ Kept (fun j => j = gk ∨ j = gm ∨ ob ve j) w w'
set_option maxRecDepth 100000 in
set_option maxHeartbeats 4000000 in
theorem exclude_any (X : Ctx) (gk gm : Nat) (bs : List Bool) (ve : Value) (vs : List (List (Nat × Value × Value) × Value)) (vz : Value) (zs lz : List Int) (w0 w : World) (hK : KS X gk gm bs ve vs w0 w) (hn1 : 1 ≤ X.n) (hn7 : X.n ≤ 7) (ht1 : 1 ≤ X.t) (ht3 : X.t ≤ 3) (rl : RdZ w0 X.vl lz) (hll : lz.length = X.n) (hlb : ballot (X.n : Int) lz = true) (hvl : vs.length ≤ 100000)
    (hzl : zs.length = X.n) (hz0 : ∀ x ∈ zs, 0 ≤ x ∧ x < 2147483648) (ro : w.ownsRow 0 3 1 vz zs.length (zs.map Z)) (hL : leftB bs X.n ≠ []) :
    Calls Tryz.prog 33 #[.pointer (some ⟨gk, 0, none⟩), vz] w (ExcR X gk gm bs ve vs zs w0 w) := by
  (have rz := own_RdZ ro); (have hgmZ : Hd (∀ j, ob vz j → j ≠ gm) := ⟨fun j hj => own_ne ro hK.mb (by decide) j hj⟩); (clear ro); (obtain ⟨az, cz, rfl, hcz, hczm⟩ := Rd.shape2 rz); (obtain ⟨ae, ce, rfl⟩ := hK.el.shape); (obtain ⟨al, cl, evl⟩ := Rd.shapeZ rl); (obtain ⟨vl', hvl'⟩ : ∃ l, X.vl = l := ⟨_, rfl⟩); (obtain ⟨en, hen⟩ : ∃ l, vs.length = l := ⟨_, rfl⟩); (obtain ⟨zn, hzn⟩ : ∃ l, zs.length = l := ⟨_, rfl⟩); (obtain ⟨n, hnX⟩ : ∃ l, X.n = l := ⟨_, rfl⟩); (have HL := hid (left_any X.nm X.ac X.n X.cc X.cm X.s X.ra X.d X.t X.ov X.sk X.vg X.vl (.slice ae vs.length ce) gk gm bs w hn7 hK.len hK.kb hK.mb)); (have HBk := hid (fun (W : World) (k : Kept no w W) (vt : Value) (ts : List Int) (h : TieOk X.n ts) (h7 : ts.length ≤ 7) (rt : RdZ W vt ts) => break_any X.t (.slice ae vs.length ce) vt X.vl vs ts lz X.n true W ht1 ht3 hn1 hn7 hll hlb h h7 (hK.el.rd.kept k) rt (RdZ.kept (RdZ.kept rl hK.kept) k))); (have HR := hid (fun (W : World) (k : Kept no w W) => ratios_any (.slice az zs.length cz) zs W (by omega) hz0 (RdZ.kept rz k))); (have hll7 := leftB_len bs X.n); (rw [hen] at HBk hK); (rw [hzn] at HR rz hzl hcz hgmZ ⊢); (rw [hnX] at HL HBk hzl hn1 hn7 hL hll7); (rw [hen] at hvl); (subst hzl); (have hK' := hid hK); (have rz' := hid rz); (have hL' := hid hL); (have hz0' := hid hz0); (obtain ⟨L, hLe⟩ : ∃ l, leftB bs zn = l := ⟨_, rfl⟩); (rw [hLe] at HL hL' hll7); (replace hLe := hid hLe); (replace hzn := hid hzn); (replace hnX := hid hnX); (replace hen := hid hen); (clear hK rz hL hz0 rl hll hlb evl hvl' ht1 ht3)
  go_enter Tryz.func33, Tryz.ntmps33
  (go_wp2_with fail); (with_reducible refine HL.out.mono ?_); (rintro e w1 ⟨v1, rfl, o1⟩); (obtain ⟨a1, c1, rfl, hc1, _⟩ := Rd.shape2 o1.rd); (have r1 := hid o1.rd); (have k1 := hid o1.kept); (obtain ⟨ln, hln⟩ : ∃ l, L.length = l := ⟨_, rfl⟩); (rw [hln] at r1 hc1 hll7 ⊢); (replace hln := hid hln); (have hO0 : Hd (OwZ w1 w1 (.slice none 0 0) []) := ⟨OwZ.nil w1⟩); (clear HL o1); (go_wp2)
  go_loopw [5, 11] (fun td i wr => ∃ (k : Nat) (T : List Int), k ≤ ln ∧ i = .int .i64 (k : Int) ∧ Hd (MinT zs (L.take k) T) ∧ Hd (OwZ w1 wr td T)) (fun _ i _ => ln - (intOf i).toNat)
  case atStart => exact ⟨0, [], by omega, rfl, ⟨MinT.nil zs⟩, hO0⟩
  case round =>
    (clear hO0); (obtain ⟨k, T, hk, rfl, hM, hO⟩ := hrel); (have kO := hid hO.out.kept); (have hTl : T.length ≤ 7 := by have := hM.out.sub.length_le; rw [List.length_take] at this; omega)
    by_cases hlt : k < ln
    · (have hk1 : (k : Int) < (ln : Int) := by omega); (have hk0 : (0 : Int) ≤ (k : Int) := by omega); (have hkl : k < L.length := by rw [hln.out]; exact hlt); (obtain ⟨b, o, rfl, hc⟩ := RdZ.at (r1.out.kept kO.out) k hkl); (have hmem := getD_memZ hkl); (have htk : L.take (k + 1) = L.take k ++ [L.getD k 0] := by rw [List.take_succ_eq_append_getElem hkl]; simp [List.getD_eq_getElem?_getD, hkl]); (rw [← hLe.out] at hmem); (obtain ⟨c, hcn, hcb, hce⟩ := leftB_mem.1 hmem); (rw [hLe.out] at hce); (rw [hce] at hc htk); (have hcl : c < zs.length := by rw [hzn.out]; exact hcn); (obtain ⟨bz, oz, rfl, hz⟩ := RdZ.at ((rz'.out.kept k1.out).kept kO.out) c hcl); (have hcn1 : (c : Int) < (zn : Int) := by omega); (have hcn0 : (0 : Int) ≤ (c : Int) := by omega); (replace htk := hid htk); (clear hmem hcb hce)
      by_cases hT : T = []
      · (subst hT); (obtain ⟨ta, tc, rfl, _, _⟩ := Rd.shape2 hO.out.rd); (have hM' : Hd (MinT zs (L.take (k + 1)) [(c : Int)]) := ⟨by rw [htk.out]; exact hM.out.one (.inl rfl)⟩); (rw [show ([] : List Int).length = 0 from rfl]); (clear hM hO hz); (go_wp2_with fail); (go_quiet (fail)); (have hO5 := hid (OwZ.lit (kO.out.drewN nq) (c : Int))); (go_wp2); (go_roundw)
        case rel => first | exact ⟨k + 1, [(c : Int)], by omega, by go_num, hM', hO5⟩ | ((repeat apply Exists.intro); exact ⟨⟨k + 1, [(c : Int)], by omega, by go_num, hM', hO5⟩, rfl⟩)
        case measure => simp [intOf]; omega
      · (have hTp : 0 < T.length := List.length_pos_iff.2 hT); (obtain ⟨g, ct, rfl, hcu⟩ := hO.out.own_shape hTp); (obtain ⟨_, _, e', ht0⟩ := RdZ.at hO.out.rd 0 hTp)
        cases e'
        (have ht0' : wr.cell? ⟨g, 0, none⟩ = some (.int .i64 (T.getD 0 0)) := ht0); (clear ht0); (have hTm := List.take_subset k L (hM.out.sub.subset (getD_memZ (l := T) (i := 0) hTp))); (rw [← hLe.out] at hTm); (obtain ⟨d, hdn, _, hde⟩ := leftB_mem.1 hTm); (have h1 := hid (hM.out.one (c := (c : Int)))); (have h2 := hid (hM.out.more (c := (c : Int)) hT)); (have h3 := hid (hM.out.skip (c := (c : Int)) hT)); (rw [hde, Int.toNat_natCast, Int.toNat_natCast] at h1 h2 h3); (rw [hde] at ht0'); (obtain ⟨_, _, e', hz2⟩ := RdZ.at ((rz'.out.kept k1.out).kept kO.out) d (by rw [hzn.out]; exact hdn))
        cases e'
        (obtain ⟨zc, hzc⟩ : ∃ z, zs.getD c 0 = z := ⟨_, rfl⟩); (obtain ⟨zd, hzd⟩ : ∃ z, zs.getD d 0 = z := ⟨_, rfl⟩); (rw [hzc, hzd] at h1 h2 h3); (rw [hzc] at hz); (rw [hzd] at hz2); (obtain ⟨tl, htl⟩ : ∃ l, T.length = l := ⟨_, rfl⟩); (have hdn1 : (d : Int) < (zn : Int) := by omega); (have hdn0 : (0 : Int) ≤ (d : Int) := by omega); (rw [htl] at hO hTp hTl hcu ⊢); (have htn : ¬ (tl : Int) = 0 := by omega); (have htb : ((tl : Int) == 0) = false := beq_eq_false_iff_ne.2 htn); (have htp : (0 : Int) < (tl : Int) := by omega); (have q1 := hid hz); (have q2 := hid hz2); (have q3 := hid ht0'); (replace htl := hid htl); (clear hTm hde hzc hzd hM)
        by_cases hcd : zc < zd
        · (have hM' : Hd (MinT zs (L.take (k + 1)) [(c : Int)]) := ⟨by rw [htk.out]; exact h1.out (.inr hcd)⟩); (have hdd : decide (zc < zd) = true := decide_eq_true hcd); (clear h1 h2 h3 hO); (go_wp2_with fail); (go_quiet (fail)); (have hO5 := hid (OwZ.lit (kO.out.drewN nq) (c : Int))); (go_wp2); (go_roundw)
          case rel => first | exact ⟨k + 1, [(c : Int)], by omega, by go_num, hM', hO5⟩ | ((repeat apply Exists.intro); exact ⟨⟨k + 1, [(c : Int)], by omega, by go_num, hM', hO5⟩, rfl⟩)
          case measure => simp [intOf]; omega
        · have hdd : decide (zc < zd) = false := decide_eq_false hcd
          by_cases heq : zc = zd
          · (have hM' : Hd (MinT zs (L.take (k + 1)) (T ++ [(c : Int)])) := ⟨by rw [htk.out]; exact h2.out heq⟩); (have hbe : (zc == zd) = true := by rw [heq]; simp); (have hqm : Hd (tl + 1 ≤ maxLen ∧ (tl + 1) * 8 ≤ 140737488355328) := ⟨by have hm : maxLen = 9223372036854775807 := rfl; omega⟩); (clear h1 h2 h3); (go_wp2_with fail); (go_quiet (fail)); (obtain ⟨wq, hwq⟩ : ∃ W, wr.drewN nq = W := ⟨_, rfl⟩); (have hO4 := hid (hO.out.drewN nq)); (have kq := (Kept.refl no wr).drewN nq); (rw [hwq] at hO4 kq ⊢); (have m1 := kq.cell q1.out id); (have m2 := kq.cell q2.out id); (have m3 := kq.cell q3.out id); (clear hwq hz hz2 ht0'); (go_wp2_with fail); (go_quiet (fail)); (obtain ⟨wp, hwp⟩ : ∃ W, wq.drewN nq = W := ⟨_, rfl⟩); (have hO6 := hid (hO4.out.drewN nq)); (rw [hwp] at hO6 ⊢); (have hO7 : Hd (wp.ownsRow 0 3 1 (.slice (some ⟨g, 0, none⟩) tl ct) tl (T.map Z)) := ⟨by have := hO6.out.own; rw [htl.out] at this; exact this⟩); (clear hwp m1 m2 m3 hO4); (go_wp2_with (at_builtin; refine wpList_append_lit _ rfl _ _ 26 rfl 3 1 8 TInts _ _ _ rfl hO7.out 1 [.int .i64 (c : Int)] rfl rfl (fun u hu => by obtain rfl := List.mem_singleton.1 hu; rfl) hqm.out.1 hqm.out.2 ?_)); (intro v' w5 e2 e3 e4 _); (have hO5 : Hd (OwZ w1 w5 v' (T ++ [(c : Int)])) := ⟨hO6.out.add (c : Int) (by rw [htl.out]; exact e2) e3 e4⟩); (clear e2 e3 e4 hO hO6 hO7 hqm); (go_wp2); (go_roundw)
            case rel => first | exact ⟨k + 1, T ++ [(c : Int)], by omega, by go_num, hM', hO5⟩ | ((repeat apply Exists.intro); exact ⟨⟨k + 1, T ++ [(c : Int)], by omega, by go_num, hM', hO5⟩, rfl⟩)
            case measure => simp [intOf]; omega
          · (have hM' : Hd (MinT zs (L.take (k + 1)) T) := ⟨by rw [htk.out]; exact h3.out (by omega)⟩); (have hbe : (zc == zd) = false := beq_eq_false_iff_ne.2 heq); (clear h1 h2 h3); (go_wp2_with fail); (go_quiet (fail)); (obtain ⟨wq, hwq⟩ : ∃ W, wr.drewN nq = W := ⟨_, rfl⟩); (have hO4 := hid (hO.out.drewN nq)); (have kq := (Kept.refl no wr).drewN nq); (rw [hwq] at hO4 kq ⊢); (have m1 := kq.cell q1.out id); (have m2 := kq.cell q2.out id); (have m3 := kq.cell q3.out id); (clear hwq hz hz2 ht0'); (go_wp2_with fail); (go_quiet (fail)); (have hO6 := hid (hO4.out.drewN nq)); (clear hO hO4 m1 m2 m3); (go_wp2); (go_roundw)
            case rel => first | exact ⟨k + 1, T, by omega, by go_num, hM', hO6⟩ | ((repeat apply Exists.intro); exact ⟨⟨k + 1, T, by omega, by go_num, hM', hO6⟩, rfl⟩)
            case measure => simp [intOf]; omega
    · (obtain rfl : k = ln := by omega); (have hk1 : ¬ (k : Int) < (k : Int) := by omega); (have hML : Hd (MinT zs (leftB bs zn) T) := ⟨by have := hM.out; rw [← hln.out, List.take_length] at this; rw [hLe.out]; exact this⟩); (have hT : T ≠ [] := hML.out.ne (by rw [hLe.out]; exact hL'.out)); (have hTp : 0 < T.length := List.length_pos_iff.2 hT); (obtain ⟨g, ct, rfl, hcu⟩ := hO.out.own_shape hTp); (obtain ⟨_, _, e', ht0⟩ := RdZ.at hO.out.rd 0 hTp)
      cases e'
      (have ht0' : wr.cell? ⟨g, 0, none⟩ = some (.int .i64 (T.getD 0 0)) := ht0); (clear ht0); (have hT0 := hid (getD_memZ (l := T) (i := 0) hTp)); (obtain ⟨t0, ht0e⟩ : ∃ x, T.getD 0 0 = x := ⟨_, rfl⟩); (rw [ht0e] at ht0' hT0); (have hTk := hid (hML.out.tie (by rw [hLe.out]; exact hL'.out))); (have hrT := hid hO.out.rd); (have kw := hid (k1.out.trans' kO.out)); (have hKw := hid (hK'.out.keptNo kw.out)); (obtain ⟨tl, htl⟩ : ∃ l, T.length = l := ⟨_, rfl⟩); (have hHB := fun (W : World) (kW : Kept no wr W) => HBk.out W (kw.out.trans' kW) (.slice (some ⟨g, 0, none⟩) T.length ct) T hTk.out hTl (hrT.out.kept kW)); (rw [htl] at hHB hTp ⊢); (replace hHB := hid hHB); (replace htl := hid htl); (clear hM hO hTk hrT ht0e HBk)
      by_cases ht1 : 1 < tl
      · (have ht1i : (1 : Int) < (tl : Int) := by omega); (have ht1d : decide ((1 : Int) < (tl : Int)) = true := decide_eq_true ht1i); (have c6 : Hd (wr.cell? ⟨gk, 6, none⟩ = some (.int .i64 X.t)) := ⟨cell_at hKw.out.kb rfl⟩); (have c10 : Hd (wr.cell? ⟨gk, 10, none⟩ = some X.vl) := ⟨cell_at hKw.out.kb rfl⟩); (have c12 : Hd (wr.cell? ⟨gk, 12, none⟩ = some (.slice ae en ce)) := ⟨cell_at hKw.out.kb rfl⟩); (go_upto_region 11 with fail); (clear ht0'); (refine region_flow (S := no) (Sl := (fun _ => no)) [Is (.pointer (some ⟨gk, 0, none⟩)), Is (.pointer (some ⟨gk, 0, none⟩)), Is (.pointer (some ⟨gk, 0, none⟩)), Is (.pointer (some ⟨gk, 6, none⟩)), Is (.int .i64 X.t), Is (.pointer (some ⟨gk, 0, none⟩)), Is (.pointer (some ⟨gk, 0, none⟩)), Is (.pointer (some ⟨gk, 12, none⟩)), Is (.slice ae en ce), Is (.slice (some ⟨g, 0, none⟩) tl ct), Is (.pointer (some ⟨gk, 0, none⟩)), Is (.pointer (some ⟨gk, 0, none⟩)), Is (.pointer (some ⟨gk, 10, none⟩)), Is (X.vl), PTu T, PTu T, PCa T, PAn, PCa T] [] (fun _ _ h => h) _ (by kernel_rfl) (by kernel_rfl) (by kernel_rfl) (by kernel_rfl) (fun x => by simp only [puts, Act.put, List.map_cons, List.map_nil, Nat.zero_add, Nat.reduceAdd, List.setIfInBounds_toArray, List.set_cons_zero, List.set_cons_succ]; exact rfl) ?_ ?_)
        · (skip); (refine .cons (fun x wf Kk hq hdep hold => ?_) ?_)
          · (try dsimp only); (clear hq hdep hold); (rw [if_pos (by rfl)]); (refine OpY.val ?_ ⟨Kept.refl _ _, rfl⟩); (first | rfl | go_simp)
          refine .cons (fun x wf Kk hq hdep hold => ?_) ?_
          · (try dsimp only); (have h0 : x 0 = _ := hdep 0 (by kernel_rfl)); (clear hq hdep hold); (simp only [h0]); (clear h0); (rw [if_pos (by rfl)]); (refine OpY.val ?_ ⟨Kept.refl _ _, rfl⟩); (first | rfl | go_simp)
          refine .cons (fun x wf Kk hq hdep hold => ?_) ?_
          · (try dsimp only); (have h1 : x 1 = _ := hdep 1 (by kernel_rfl)); (clear hq hdep hold); (simp only [h1]); (clear h1); (rw [if_pos (by rfl)]); (refine OpY.val ?_ ⟨Kept.refl _ _, rfl⟩); (first | rfl | go_simp)
          refine .cons (fun x wf Kk hq hdep hold => ?_) ?_
          · (try dsimp only); (have h2 : x 2 = _ := hdep 2 (by kernel_rfl)); (clear hq hdep hold); (simp only [h2]); (clear h2); (rw [if_pos (by rfl)]); (refine OpY.val ?_ ⟨Kept.refl _ _, rfl⟩); (first | rfl | go_simp)
          refine .cons (fun x wf Kk hq hdep hold => ?_) ?_
          · (try dsimp only); (have h3 : x 3 = _ := hdep 3 (by kernel_rfl)); (clear hq hdep hold); (simp only [h3]); (clear h3); (have m1 := Kk.undrew.cell c6.out id); (rw [if_pos (by rfl)]); (refine OpY.val ?_ ⟨Kept.refl _ _, rfl⟩); (first | rfl | go_simp)
          refine .cons (fun x wf Kk hq hdep hold => ?_) ?_
          · (try dsimp only); (clear hq hdep hold); (rw [if_pos (by rfl)]); (refine OpY.val ?_ ⟨Kept.refl _ _, rfl⟩); (first | rfl | go_simp)
          refine .cons (fun x wf Kk hq hdep hold => ?_) ?_
          · (try dsimp only); (have h5 : x 5 = _ := hdep 5 (by kernel_rfl)); (clear hq hdep hold); (simp only [h5]); (clear h5); (rw [if_pos (by rfl)]); (refine OpY.val ?_ ⟨Kept.refl _ _, rfl⟩); (first | rfl | go_simp)
          refine .cons (fun x wf Kk hq hdep hold => ?_) ?_
          · (try dsimp only); (have h6 : x 6 = _ := hdep 6 (by kernel_rfl)); (clear hq hdep hold); (simp only [h6]); (clear h6); (rw [if_pos (by rfl)]); (refine OpY.val ?_ ⟨Kept.refl _ _, rfl⟩); (first | rfl | go_simp)
          refine .cons (fun x wf Kk hq hdep hold => ?_) ?_
          · (try dsimp only); (have h7 : x 7 = _ := hdep 7 (by kernel_rfl)); (clear hq hdep hold); (simp only [h7]); (clear h7); (have m1 := Kk.undrew.cell c12.out id); (rw [if_pos (by rfl)]); (refine OpY.val ?_ ⟨Kept.refl _ _, rfl⟩); (first | rfl | go_simp)
          refine .cons (fun x wf Kk hq hdep hold => ?_) ?_
          · (try dsimp only); (clear hq hdep hold); (rw [if_pos (by rfl)]); (refine OpY.val ?_ ⟨Kept.refl _ _, rfl⟩); (first | rfl | go_simp)
          refine .cons (fun x wf Kk hq hdep hold => ?_) ?_
          · (try dsimp only); (clear hq hdep hold); (rw [if_pos (by rfl)]); (refine OpY.val ?_ ⟨Kept.refl _ _, rfl⟩); (first | rfl | go_simp)
          refine .cons (fun x wf Kk hq hdep hold => ?_) ?_
          · (try dsimp only); (have h10 : x 10 = _ := hdep 10 (by kernel_rfl)); (clear hq hdep hold); (simp only [h10]); (clear h10); (rw [if_pos (by rfl)]); (refine OpY.val ?_ ⟨Kept.refl _ _, rfl⟩); (first | rfl | go_simp)
          refine .cons (fun x wf Kk hq hdep hold => ?_) ?_
          · (try dsimp only); (have h11 : x 11 = _ := hdep 11 (by kernel_rfl)); (clear hq hdep hold); (simp only [h11]); (clear h11); (rw [if_pos (by rfl)]); (refine OpY.val ?_ ⟨Kept.refl _ _, rfl⟩); (first | rfl | go_simp)
          refine .cons (fun x wf Kk hq hdep hold => ?_) ?_
          · (try dsimp only); (have h12 : x 12 = _ := hdep 12 (by kernel_rfl)); (clear hq hdep hold); (simp only [h12]); (clear h12); (have m1 := Kk.undrew.cell c10.out id); (rw [if_pos (by rfl)]); (refine OpY.val ?_ ⟨Kept.refl _ _, rfl⟩); (first | rfl | go_simp)
          refine .cons (fun x wf Kk hq hdep hold => ?_) ?_
          · (try dsimp only); (have h4 : x 4 = _ := hdep 4 (by kernel_rfl)); (have h8 : x 8 = _ := hdep 8 (by kernel_rfl)); (have h9 : x 9 = _ := hdep 9 (by kernel_rfl)); (have h13 : x 13 = _ := hdep 13 (by kernel_rfl)); (clear hq hdep hold); (simp only [h4, h8, h9, h13]); (clear h4 h8 h9 h13); (rw [if_pos (by rfl)]); (refine OpY.call (f := 79) (args := #[(.int .i64 X.t), (.slice ae en ce), (.slice (some ⟨g, 0, none⟩) tl ct), (X.vl), (.bool true)]) (by go_simp) ?_); (refine (hHB.out wf Kk.undrew).mono ?_); (rintro e w2 ⟨c, b, rfl, h, k⟩); (exact ⟨_, rfl, k, c, b, rfl, h⟩)
          refine .cons (fun x wf Kk hq hdep hold => ?_) ?_
          · (try dsimp only); (have p14 : Pr.p (Sl := (fun _ => no)) (PTu T) (x 14) wf := hdep 14 (by kernel_rfl)); (clear hq hdep hold); (rw [if_pos (by rfl)]); (refine OpY.val (v := x 14) (by go_simp) ⟨Kept.refl _ _, p14⟩)
          refine .cons (fun x wf Kk hq hdep hold => ?_) ?_
          · (try dsimp only); (have p15 : Pr.p (Sl := (fun _ => no)) (PTu T) (x 15) wf := hdep 15 (by kernel_rfl)); (clear hq hdep hold); (rw [if_pos (by rfl)]); (obtain ⟨c9, b9, e9, h9⟩ := p15); (rw [e9]); (refine OpY.val (v := .int .i64 c9) (by go_simp) ⟨Kept.refl _ _, c9, rfl, h9⟩)
          refine .cons (fun x wf Kk hq hdep hold => ?_) ?_
          · (try dsimp only); (have p15 : Pr.p (Sl := (fun _ => no)) (PTu T) (x 15) wf := hdep 15 (by kernel_rfl)); (clear hq hdep hold); (rw [if_pos (by rfl)]); (obtain ⟨c9, b9, e9, h9⟩ := p15); (rw [e9]); (refine OpY.val (v := b9) (by go_simp) ⟨Kept.refl _ _, trivial⟩)
          refine .cons (fun x wf Kk hq hdep hold => ?_) ?_
          · (try dsimp only); (have p16 : Pr.p (Sl := (fun _ => no)) (PCa T) (x 16) wf := hdep 16 (by kernel_rfl)); (clear hq hdep hold); (rw [if_pos (by rfl)]); (refine OpY.val (v := x 16) (by go_simp) ⟨Kept.refl _ _, p16⟩)
          exact .nil _
        · (intro x wf Kk hv); (try dsimp only); (have p18 : Pr.p (Sl := (fun _ => no)) (PCa T) (x 18) wf := hv 18 (by kernel_rfl)); (clear hv); (obtain ⟨cc', ecc, hcc⟩ := p18); (obtain ⟨wt, hwt⟩ : ∃ W, W = wf := ⟨_, rfl⟩); (subst hwt); (have kt := hid (kw.out.trans' Kk.undrew)); (have hmemL := hML.out.sub.subset hcc); (obtain ⟨c, hcn, hcb, rfl⟩ := leftB_mem.1 hmemL); (have hle0 := hML.out.le _ hcc); (rw [Int.toNat_natCast, hLe.out] at hle0); (have hle := hid hle0); (rw [ecc]); (rw [hLe.out] at hmemL); (have hcm := hid hmemL); (clear Kk ecc hcc hmemL hle0 hHB c6 c10 c12 hKw); (have hKt := hid (hK'.out.keptNo kt.out)); (have hne := hid hKt.out.ne); (have cB : Hd (wt.heap[gm]? = some (.cells (zsT bs) 4 (0, 0))) := ⟨hKt.out.mb⟩); (have d11 : wt.cell? ⟨gk, 11, none⟩ = some (.slice (some ⟨gm, 0, none⟩) X.n X.n) := cell_at hKt.out.kb rfl); (rw [hnX.out] at d11)
          have dm : wt.cell? ⟨gm, c, none⟩ = some (.bool true) := by
            (refine cell_at cB.out ?_); (have hbl : c < bs.length := by rw [hKt.out.len, hnX.out]; exact hcn)
            have h9 : bs[c] = true := by
              (have := hcb); (rw [List.getD_eq_getElem?_getD, List.getElem?_eq_getElem hbl] at this); (exact this)
            unfold zsT
            simp [hbl, h9]
          (have dmf := row_free cB.out c); (have hcn1 : (c : Int) < (zn : Int) := by omega); (have hcn0 : (0 : Int) ≤ (c : Int) := by omega); (have kS := (Kept.refl (fun j => j = gm) wt).setCell (a := ⟨gm, c, none⟩) (.inl rfl) (.bool false)); (have hK6 : Hd (KS X gk gm (bs.set c false) (.slice ae en ce) vs w0 (wt.setCell ⟨gm, c, none⟩ (.bool false))) := ⟨⟨(kS.block gk (lt_of_heap hKt.out.kb) hne.out).trans hKt.out.kb, by rw [setCell_row cB.out, zsT_set], by rw [List.length_set]; exact hKt.out.len, hKt.out.el.oth kS (fun j hj => by subst hj; exact bool_oth cB.out), hKt.out.nk, hKt.out.nm, hKt.out.kept.setCell (.inr hKt.out.nm) _⟩⟩); (have kS' := hid kS); (clear kS hcb); (go_upto_region 14 with fail); (obtain ⟨w6, hw6⟩ : ∃ W, wt.setCell ⟨gm, c, none⟩ (.bool false) = W := ⟨_, rfl⟩); (rw [hw6] at hK6 kS'); (try rw [hw6]); (clear hw6 d11 dm dmf cB hKt); (have e12 : Hd (w6.cell? ⟨gk, 12, none⟩ = some (.slice ae en ce)) := ⟨cell_at hK6.out.kb rfl⟩); (have hEl := hid hK6.out.el); (have hugk : Hd (∀ j, (Value.slice ae en ce).ownBlock = some j → j ≠ gk) := ⟨fun j hj e => own_ne hEl.out.own hK6.out.kb (by decide) j hj e⟩); (have hugm : Hd (∀ j, (Value.slice ae en ce).ownBlock = some j → j ≠ gm) := ⟨fun j hj e => own_ne hEl.out.own hK6.out.mb (by decide) j hj e⟩); (have hgkl : Hd (gk < w6.heap.size) := ⟨lt_of_heap hK6.out.kb⟩); (have hqm : Hd (vs.length + 1 ≤ maxLen ∧ (vs.length + 1) * 24 ≤ 140737488355328) := ⟨by have hm : maxLen = 9223372036854775807 := rfl; have := hen.out; omega⟩); (have rz6 : Hd (RdZ w6 (.slice az zn cz) zs) := ⟨Rd.kept (RdZ.kept rz'.out kt.out) kS'.out fun j hj e => hgmZ.out j hj e⟩); (have HR6 := hid (fun (W : World) (k : Kept no w6 W) => ratios_any (.slice az zn cz) zs W (by have := hzn.out; omega) hz0'.out (RdZ.kept rz6.out k))); (refine region_flow (S := (fun k => ob (.slice ae en ce) k ∨ k = gk)) (Sl := (fun j k => (j = 8 ∧ ob (.slice ae en ce) k) ∨ (j = 11 ∧ k = gk))) [Is (.pointer (some ⟨gk, 0, none⟩)), Is (.pointer (some ⟨gk, 0, none⟩)), Is (.pointer (some ⟨gk, 0, none⟩)), Is (.pointer (some ⟨gk, 12, none⟩)), Is (.slice ae en ce), Is (.slice az zn cz), PIn, PIl, PEl w0 (vs.length + 1), Is (.pointer (some ⟨gk, 0, none⟩)), Is (.pointer (some ⟨gk, 12, none⟩)), PEs w0 X gk gm (vs.length + 1)] [8, 11] (fun j k h => h.elim (fun h => .inl h.2) (fun h => .inr h.2)) _ (by kernel_rfl) (by kernel_rfl) (by kernel_rfl) (by kernel_rfl) (fun x => by simp only [puts, Act.put, List.map_cons, List.map_nil, Nat.zero_add, Nat.reduceAdd, List.setIfInBounds_toArray, List.set_cons_zero, List.set_cons_succ]; exact rfl) ?_ ?_)
          · (skip); (refine .cons (fun x wf Kk hq hdep hold => ?_) ?_)
            · (try dsimp only); (clear hq hdep hold); (rw [if_pos (by rfl)]); (refine OpY.val ?_ ⟨Kept.refl _ _, rfl⟩); (first | rfl | go_simp)
            refine .cons (fun x wf Kk hq hdep hold => ?_) ?_
            · (try dsimp only); (clear hq hdep hold); (rw [if_pos (by rfl)]); (refine OpY.val ?_ ⟨Kept.refl _ _, rfl⟩); (first | rfl | go_simp)
            refine .cons (fun x wf Kk hq hdep hold => ?_) ?_
            · (try dsimp only); (have h1 : x 1 = _ := hdep 1 (by kernel_rfl)); (clear hq hdep hold); (simp only [h1]); (clear h1); (rw [if_pos (by rfl)]); (refine OpY.val ?_ ⟨Kept.refl _ _, rfl⟩); (first | rfl | go_simp)
            refine .cons (fun x wf Kk hq hdep hold => ?_) ?_
            · (try dsimp only); (have h2 : x 2 = _ := hdep 2 (by kernel_rfl)); (clear hq hdep hold); (simp only [h2]); (clear h2); (rw [if_pos (by rfl)]); (refine OpY.val ?_ ⟨Kept.refl _ _, rfl⟩); (first | rfl | go_simp)
            refine .cons (fun x wf Kk hq hdep hold => ?_) ?_
            · (try dsimp only); (have h3 : x 3 = _ := hdep 3 (by kernel_rfl)); (have Kq := hq no (fun j hj => by cases (show j ∈ ([] : List Nat) from by (have e : ∀ l : List Nat, l = [] → j ∈ l → j ∈ ([] : List Nat) := fun l h h2 => h ▸ h2); exact e _ (by kernel_rfl) hj))); (clear hq hdep hold); (simp only [h3]); (clear h3); (have m1 := Kq.undrew.cell e12.out id); (rw [if_pos (by rfl)]); (refine OpY.val ?_ ⟨Kept.refl _ _, rfl⟩); (first | rfl | go_simp)
            refine .cons (fun x wf Kk hq hdep hold => ?_) ?_
            · (try dsimp only); (clear hq hdep hold); (rw [if_pos (by rfl)]); (refine OpY.val ?_ ⟨Kept.refl _ _, rfl⟩); (first | rfl | go_simp)
            refine .cons (fun x wf Kk hq hdep hold => ?_) ?_
            · (try dsimp only); (have h5 : x 5 = _ := hdep 5 (by kernel_rfl)); (have Kq := hq no (fun j hj => by cases (show j ∈ ([] : List Nat) from by (have e : ∀ l : List Nat, l = [] → j ∈ l → j ∈ ([] : List Nat) := fun l h h2 => h ▸ h2); exact e _ (by kernel_rfl) hj))); (clear hq hdep hold); (simp only [h5]); (clear h5); (rw [if_pos (by rfl)]); (refine OpY.call (f := 78) (args := #[(.slice az zn cz)]) (by go_simp) ?_); (refine (HR6.out wf Kq.undrew).mono ?_); (rintro e w2 ⟨v, qs, rfl, o⟩); (exact ⟨_, rfl, o.kept, qs, o.inr⟩)
            refine .cons (fun x wf Kk hq hdep hold => ?_) ?_
            · (try dsimp only); (have p6 : Pr.p (Sl := (fun j k => (j = 8 ∧ ob (.slice ae en ce) k) ∨ (j = 11 ∧ k = gk))) (PIn) (x 6) wf := hdep 6 (by kernel_rfl)); (clear hq hdep hold); (rw [if_pos (by rfl)]); (obtain ⟨qs, hq9⟩ := p6); (obtain ⟨ua, uc, eu⟩ := hq9.shape); (rw [eu] at hq9 ⊢); (refine OpY.build 69 72 1 _ rfl 1 _ Tryz.underlying69 infRs (by decide) (by decide) [.slice ua qs.length uc] [(0, .slice ua qs.length uc)] rfl (fill_rows 1 (by decide) _ [Value.slice ua qs.length uc] (fun v hv => by obtain rfl := List.mem_singleton.1 hv; rfl)) rfl (by decide) ?_); (intro w' hg k ho); (exact ⟨k, qs, _, Rd.of_own ho, hq9.keptNo k⟩)
            refine .cons (fun x wf Kk hq hdep hold => ?_) ?_
            · (try dsimp only); (have h4 : x 4 = _ := hdep 4 (by kernel_rfl)); (have p7 : Pr.p (Sl := (fun j k => (j = 8 ∧ ob (.slice ae en ce) k) ∨ (j = 11 ∧ k = gk))) (PIl) (x 7) wf := hdep 7 (by kernel_rfl)); (have Kq := hq no (fun j hj => by cases (show j ∈ ([] : List Nat) from by (have e : ∀ l : List Nat, l = [] → j ∈ l → j ∈ ([] : List Nat) := fun l h h2 => h ▸ h2); exact e _ (by kernel_rfl) hj))); (clear hq hdep hold); (simp only [h4]); (clear h4); (rw [if_pos (by rfl)]); (obtain ⟨qs, u9, ru, hq9⟩ := p7); (have hO2 := hEl.out.keptNo Kq.undrew); (obtain ⟨ua, uc, eu⟩ := hq9.shape); (refine OpY.append (.tmp 85) (.tmp 88) 69 _ rfl rfl 72 1 24 TRatss (.slice ae en ce) _ _ rfl hO2.own (x 7) 1 [u9] rfl ru (fun u hu => by rw [List.mem_singleton.1 hu, eu]; rfl) hqm.out.1 hqm.out.2 ?_); (intro v2 w2 h2 h3 h4 _); (exact ⟨h3.mono fun k _ h => Or.inl ⟨by trivial, h⟩, _, by rw [List.length_append]; rfl, hO2.add (Nat.le_trans hK6.out.kept.size Kq.undrew.size) hq9 h2 h3 h4⟩)
            refine .cons (fun x wf Kk hq hdep hold => ?_) ?_
            · (try dsimp only); (have h0 : x 0 = _ := hdep 0 (by kernel_rfl)); (clear hq hdep hold); (simp only [h0]); (clear h0); (rw [if_pos (by rfl)]); (refine OpY.val ?_ ⟨Kept.refl _ _, rfl⟩); (first | rfl | go_simp)
            refine .cons (fun x wf Kk hq hdep hold => ?_) ?_
            · (try dsimp only); (have h9 : x 9 = _ := hdep 9 (by kernel_rfl)); (clear hq hdep hold); (simp only [h9]); (clear h9); (rw [if_pos (by rfl)]); (refine OpY.val ?_ ⟨Kept.refl _ _, rfl⟩); (first | rfl | go_simp)
            refine .cons (fun x wf Kk hq hdep hold => ?_) ?_
            · (try dsimp only); (have h10 : x 10 = _ := hdep 10 (by kernel_rfl)); (have p8 : Pr.p (Sl := (fun j k => (j = 8 ∧ ob (.slice ae en ce) k) ∨ (j = 11 ∧ k = gk))) (PEl w0 (vs.length + 1)) (x 8) wf := hdep 8 (by kernel_rfl)); (have Kq := hq (ob (.slice ae en ce)) (fun j hj k hk => by (have e : ∀ l : List Nat, l = [8] → j ∈ l → j ∈ ([8] : List Nat) := fun l h h2 => h ▸ h2); have hj := e _ (by kernel_rfl) hj; obtain rfl := List.mem_singleton.1 hj; rcases hk with h | h; exact h.2; exact absurd h.1 (by decide))); (clear hq hdep hold); (simp only [h10]); (clear h10); (rw [if_pos (by rfl)]); (obtain ⟨vs9, hv9, oN⟩ := p8); (have hb := (Kq.undrew.block gk hgkl.out (fun h => hugk.out gk h rfl)).trans hK6.out.kb); (have fz := row_free hb 12); (have c1 : wf.cell? ⟨gk, 12, none⟩ = some (.slice ae en ce) := cell_at hb rfl); (obtain ⟨ax, cx, e11⟩ := oN.shape); (rw [e11] at oN ⊢); (have kS := (Kept.refl (fun k => k = gk) wf).setCell (a := ⟨gk, 12, none⟩) (.inl rfl) (.slice ax vs9.length cx)); (refine OpY.skipY (w' := wf.setCell ⟨gk, 12, none⟩ (.slice ax vs9.length cx)) (by go_simp) ⟨kS.mono fun k _ h => Or.inr ⟨by trivial, h⟩, _, vs9, hv9, oN.oth kS (fun j hj => by subst hj; exact cnt_oth hb), by rw [setCell_row hb]; rfl⟩)
            exact .nil _
          · (intro x wf Kk hv); (try dsimp only); (have p11 : Pr.p (Sl := (fun j k => (j = 8 ∧ ob (.slice ae en ce) k) ∨ (j = 11 ∧ k = gk))) (PEs w0 X gk gm (vs.length + 1)) (x 11) wf := hv 11 (by kernel_rfl)); (clear hv); (obtain ⟨v', vs', hvl9, hE2, hG2⟩ := p11); (replace hvl9 := hid hvl9); (have kq := Kk.undrew); (obtain ⟨wz, hwz⟩ : ∃ W, W = wf := ⟨_, rfl⟩); (subst hwz); (have hsz : w0.heap.size ≤ w6.heap.size := hK6.out.kept.size); (have hK9 : Hd (KS X gk gm (bs.set c false) v' vs' w0 wz) := ⟨⟨hG2, (kq.block gm (lt_of_heap hK6.out.mb) (fun h => h.elim (fun h => hugm.out gm h rfl) (fun h => hne.out h.symm))).trans hK6.out.mb, hK6.out.len, hE2, hK6.out.nk, hK6.out.nm, hK6.out.kept.trans kq fun j hj h => h.elim (fun h => by have := hEl.out.new.fr (Nat.le_refl _) j h; omega) (fun h => by have := hK6.out.nk; omega)⟩⟩); (have kF : Hd (Kept (fun j => j = gk ∨ j = gm ∨ ob (.slice ae en ce) j) w wz) := ⟨(((kt.out.of_no (S := fun j => j = gk ∨ j = gm ∨ ob (.slice ae en ce) j)).trans kS'.out fun j _ h => .inr (.inl h))).trans kq fun j _ h => h.elim (fun h => .inr (.inr h)) (fun h => .inl h)⟩); (clear Kk kq hE2 hG2 hK6); (go_wp2); (go_ret2); (unfold ExcR); (rw [hnX.out, hLe.out, hen.out]); (exact ⟨c, _, v', vs', rfl, ⟨_, _, _, rfl⟩, hcm.out, hle.out, by have := hvl9.out; have := hen.out; omega, hK9.out, kF.out⟩)
      · (have ht1i : ¬ (1 : Int) < (tl : Int) := by omega); (have ht1d : decide ((1 : Int) < (tl : Int)) = false := decide_eq_false ht1i); (have hmemL := hML.out.sub.subset hT0.out); (obtain ⟨c, hcn, hcb, rfl⟩ := leftB_mem.1 hmemL); (have hle0 := hML.out.le _ hT0.out); (rw [Int.toNat_natCast, hLe.out] at hle0); (have hle := hid hle0); (rw [hLe.out] at hmemL); (have hcm := hid hmemL); (clear hle0); (obtain ⟨wt, hwt⟩ : ∃ W, W = wr := ⟨_, rfl⟩); (subst hwt); (have kt := hid kw.out); (clear hmemL hHB hKw); (have hKt := hid (hK'.out.keptNo kt.out)); (have hne := hid hKt.out.ne); (have cB : Hd (wt.heap[gm]? = some (.cells (zsT bs) 4 (0, 0))) := ⟨hKt.out.mb⟩); (have d11 : wt.cell? ⟨gk, 11, none⟩ = some (.slice (some ⟨gm, 0, none⟩) X.n X.n) := cell_at hKt.out.kb rfl); (rw [hnX.out] at d11)
        have dm : wt.cell? ⟨gm, c, none⟩ = some (.bool true) := by
          (refine cell_at cB.out ?_); (have hbl : c < bs.length := by rw [hKt.out.len, hnX.out]; exact hcn)
          have h9 : bs[c] = true := by
            (have := hcb); (rw [List.getD_eq_getElem?_getD, List.getElem?_eq_getElem hbl] at this); (exact this)
          unfold zsT
          simp [hbl, h9]
        (have dmf := row_free cB.out c); (have hcn1 : (c : Int) < (zn : Int) := by omega); (have hcn0 : (0 : Int) ≤ (c : Int) := by omega); (have kS := (Kept.refl (fun j => j = gm) wt).setCell (a := ⟨gm, c, none⟩) (.inl rfl) (.bool false)); (have hK6 : Hd (KS X gk gm (bs.set c false) (.slice ae en ce) vs w0 (wt.setCell ⟨gm, c, none⟩ (.bool false))) := ⟨⟨(kS.block gk (lt_of_heap hKt.out.kb) hne.out).trans hKt.out.kb, by rw [setCell_row cB.out, zsT_set], by rw [List.length_set]; exact hKt.out.len, hKt.out.el.oth kS (fun j hj => by subst hj; exact bool_oth cB.out), hKt.out.nk, hKt.out.nm, hKt.out.kept.setCell (.inr hKt.out.nm) _⟩⟩); (have kS' := hid kS); (clear kS hcb); (go_upto_region 14 with fail); (obtain ⟨w6, hw6⟩ : ∃ W, wt.setCell ⟨gm, c, none⟩ (.bool false) = W := ⟨_, rfl⟩); (rw [hw6] at hK6 kS'); (try rw [hw6]); (clear hw6 d11 dm dmf cB hKt); (have e12 : Hd (w6.cell? ⟨gk, 12, none⟩ = some (.slice ae en ce)) := ⟨cell_at hK6.out.kb rfl⟩); (have hEl := hid hK6.out.el); (have hugk : Hd (∀ j, (Value.slice ae en ce).ownBlock = some j → j ≠ gk) := ⟨fun j hj e => own_ne hEl.out.own hK6.out.kb (by decide) j hj e⟩); (have hugm : Hd (∀ j, (Value.slice ae en ce).ownBlock = some j → j ≠ gm) := ⟨fun j hj e => own_ne hEl.out.own hK6.out.mb (by decide) j hj e⟩); (have hgkl : Hd (gk < w6.heap.size) := ⟨lt_of_heap hK6.out.kb⟩); (have hqm : Hd (vs.length + 1 ≤ maxLen ∧ (vs.length + 1) * 24 ≤ 140737488355328) := ⟨by have hm : maxLen = 9223372036854775807 := rfl; have := hen.out; omega⟩); (have rz6 : Hd (RdZ w6 (.slice az zn cz) zs) := ⟨Rd.kept (RdZ.kept rz'.out kt.out) kS'.out fun j hj e => hgmZ.out j hj e⟩); (have HR6 := hid (fun (W : World) (k : Kept no w6 W) => ratios_any (.slice az zn cz) zs W (by have := hzn.out; omega) hz0'.out (RdZ.kept rz6.out k))); (refine region_flow (S := (fun k => ob (.slice ae en ce) k ∨ k = gk)) (Sl := (fun j k => (j = 8 ∧ ob (.slice ae en ce) k) ∨ (j = 11 ∧ k = gk))) [Is (.pointer (some ⟨gk, 0, none⟩)), Is (.pointer (some ⟨gk, 0, none⟩)), Is (.pointer (some ⟨gk, 0, none⟩)), Is (.pointer (some ⟨gk, 12, none⟩)), Is (.slice ae en ce), Is (.slice az zn cz), PIn, PIl, PEl w0 (vs.length + 1), Is (.pointer (some ⟨gk, 0, none⟩)), Is (.pointer (some ⟨gk, 12, none⟩)), PEs w0 X gk gm (vs.length + 1)] [8, 11] (fun j k h => h.elim (fun h => .inl h.2) (fun h => .inr h.2)) _ (by kernel_rfl) (by kernel_rfl) (by kernel_rfl) (by kernel_rfl) (fun x => by simp only [puts, Act.put, List.map_cons, List.map_nil, Nat.zero_add, Nat.reduceAdd, List.setIfInBounds_toArray, List.set_cons_zero, List.set_cons_succ]; exact rfl) ?_ ?_)
        · (skip); (refine .cons (fun x wf Kk hq hdep hold => ?_) ?_)
          · (try dsimp only); (clear hq hdep hold); (rw [if_pos (by rfl)]); (refine OpY.val ?_ ⟨Kept.refl _ _, rfl⟩); (first | rfl | go_simp)
          refine .cons (fun x wf Kk hq hdep hold => ?_) ?_
          · (try dsimp only); (clear hq hdep hold); (rw [if_pos (by rfl)]); (refine OpY.val ?_ ⟨Kept.refl _ _, rfl⟩); (first | rfl | go_simp)
          refine .cons (fun x wf Kk hq hdep hold => ?_) ?_
          · (try dsimp only); (have h1 : x 1 = _ := hdep 1 (by kernel_rfl)); (clear hq hdep hold); (simp only [h1]); (clear h1); (rw [if_pos (by rfl)]); (refine OpY.val ?_ ⟨Kept.refl _ _, rfl⟩); (first | rfl | go_simp)
          refine .cons (fun x wf Kk hq hdep hold => ?_) ?_
          · (try dsimp only); (have h2 : x 2 = _ := hdep 2 (by kernel_rfl)); (clear hq hdep hold); (simp only [h2]); (clear h2); (rw [if_pos (by rfl)]); (refine OpY.val ?_ ⟨Kept.refl _ _, rfl⟩); (first | rfl | go_simp)
          refine .cons (fun x wf Kk hq hdep hold => ?_) ?_
          · (try dsimp only); (have h3 : x 3 = _ := hdep 3 (by kernel_rfl)); (have Kq := hq no (fun j hj => by cases (show j ∈ ([] : List Nat) from by (have e : ∀ l : List Nat, l = [] → j ∈ l → j ∈ ([] : List Nat) := fun l h h2 => h ▸ h2); exact e _ (by kernel_rfl) hj))); (clear hq hdep hold); (simp only [h3]); (clear h3); (have m1 := Kq.undrew.cell e12.out id); (rw [if_pos (by rfl)]); (refine OpY.val ?_ ⟨Kept.refl _ _, rfl⟩); (first | rfl | go_simp)
          refine .cons (fun x wf Kk hq hdep hold => ?_) ?_
          · (try dsimp only); (clear hq hdep hold); (rw [if_pos (by rfl)]); (refine OpY.val ?_ ⟨Kept.refl _ _, rfl⟩); (first | rfl | go_simp)
          refine .cons (fun x wf Kk hq hdep hold => ?_) ?_
          · (try dsimp only); (have h5 : x 5 = _ := hdep 5 (by kernel_rfl)); (have Kq := hq no (fun j hj => by cases (show j ∈ ([] : List Nat) from by (have e : ∀ l : List Nat, l = [] → j ∈ l → j ∈ ([] : List Nat) := fun l h h2 => h ▸ h2); exact e _ (by kernel_rfl) hj))); (clear hq hdep hold); (simp only [h5]); (clear h5); (rw [if_pos (by rfl)]); (refine OpY.call (f := 78) (args := #[(.slice az zn cz)]) (by go_simp) ?_); (refine (HR6.out wf Kq.undrew).mono ?_); (rintro e w2 ⟨v, qs, rfl, o⟩); (exact ⟨_, rfl, o.kept, qs, o.inr⟩)
          refine .cons (fun x wf Kk hq hdep hold => ?_) ?_
          · (try dsimp only); (have p6 : Pr.p (Sl := (fun j k => (j = 8 ∧ ob (.slice ae en ce) k) ∨ (j = 11 ∧ k = gk))) (PIn) (x 6) wf := hdep 6 (by kernel_rfl)); (clear hq hdep hold); (rw [if_pos (by rfl)]); (obtain ⟨qs, hq9⟩ := p6); (obtain ⟨ua, uc, eu⟩ := hq9.shape); (rw [eu] at hq9 ⊢); (refine OpY.build 69 72 1 _ rfl 1 _ Tryz.underlying69 infRs (by decide) (by decide) [.slice ua qs.length uc] [(0, .slice ua qs.length uc)] rfl (fill_rows 1 (by decide) _ [Value.slice ua qs.length uc] (fun v hv => by obtain rfl := List.mem_singleton.1 hv; rfl)) rfl (by decide) ?_); (intro w' hg k ho); (exact ⟨k, qs, _, Rd.of_own ho, hq9.keptNo k⟩)
          refine .cons (fun x wf Kk hq hdep hold => ?_) ?_
          · (try dsimp only); (have h4 : x 4 = _ := hdep 4 (by kernel_rfl)); (have p7 : Pr.p (Sl := (fun j k => (j = 8 ∧ ob (.slice ae en ce) k) ∨ (j = 11 ∧ k = gk))) (PIl) (x 7) wf := hdep 7 (by kernel_rfl)); (have Kq := hq no (fun j hj => by cases (show j ∈ ([] : List Nat) from by (have e : ∀ l : List Nat, l = [] → j ∈ l → j ∈ ([] : List Nat) := fun l h h2 => h ▸ h2); exact e _ (by kernel_rfl) hj))); (clear hq hdep hold); (simp only [h4]); (clear h4); (rw [if_pos (by rfl)]); (obtain ⟨qs, u9, ru, hq9⟩ := p7); (have hO2 := hEl.out.keptNo Kq.undrew); (obtain ⟨ua, uc, eu⟩ := hq9.shape); (refine OpY.append (.tmp 85) (.tmp 88) 69 _ rfl rfl 72 1 24 TRatss (.slice ae en ce) _ _ rfl hO2.own (x 7) 1 [u9] rfl ru (fun u hu => by rw [List.mem_singleton.1 hu, eu]; rfl) hqm.out.1 hqm.out.2 ?_); (intro v2 w2 h2 h3 h4 _); (exact ⟨h3.mono fun k _ h => Or.inl ⟨by trivial, h⟩, _, by rw [List.length_append]; rfl, hO2.add (Nat.le_trans hK6.out.kept.size Kq.undrew.size) hq9 h2 h3 h4⟩)
          refine .cons (fun x wf Kk hq hdep hold => ?_) ?_
          · (try dsimp only); (have h0 : x 0 = _ := hdep 0 (by kernel_rfl)); (clear hq hdep hold); (simp only [h0]); (clear h0); (rw [if_pos (by rfl)]); (refine OpY.val ?_ ⟨Kept.refl _ _, rfl⟩); (first | rfl | go_simp)
          refine .cons (fun x wf Kk hq hdep hold => ?_) ?_
          · (try dsimp only); (have h9 : x 9 = _ := hdep 9 (by kernel_rfl)); (clear hq hdep hold); (simp only [h9]); (clear h9); (rw [if_pos (by rfl)]); (refine OpY.val ?_ ⟨Kept.refl _ _, rfl⟩); (first | rfl | go_simp)
          refine .cons (fun x wf Kk hq hdep hold => ?_) ?_
          · (try dsimp only); (have h10 : x 10 = _ := hdep 10 (by kernel_rfl)); (have p8 : Pr.p (Sl := (fun j k => (j = 8 ∧ ob (.slice ae en ce) k) ∨ (j = 11 ∧ k = gk))) (PEl w0 (vs.length + 1)) (x 8) wf := hdep 8 (by kernel_rfl)); (have Kq := hq (ob (.slice ae en ce)) (fun j hj k hk => by (have e : ∀ l : List Nat, l = [8] → j ∈ l → j ∈ ([8] : List Nat) := fun l h h2 => h ▸ h2); have hj := e _ (by kernel_rfl) hj; obtain rfl := List.mem_singleton.1 hj; rcases hk with h | h; exact h.2; exact absurd h.1 (by decide))); (clear hq hdep hold); (simp only [h10]); (clear h10); (rw [if_pos (by rfl)]); (obtain ⟨vs9, hv9, oN⟩ := p8); (have hb := (Kq.undrew.block gk hgkl.out (fun h => hugk.out gk h rfl)).trans hK6.out.kb); (have fz := row_free hb 12); (have c1 : wf.cell? ⟨gk, 12, none⟩ = some (.slice ae en ce) := cell_at hb rfl); (obtain ⟨ax, cx, e11⟩ := oN.shape); (rw [e11] at oN ⊢); (have kS := (Kept.refl (fun k => k = gk) wf).setCell (a := ⟨gk, 12, none⟩) (.inl rfl) (.slice ax vs9.length cx)); (refine OpY.skipY (w' := wf.setCell ⟨gk, 12, none⟩ (.slice ax vs9.length cx)) (by go_simp) ⟨kS.mono fun k _ h => Or.inr ⟨by trivial, h⟩, _, vs9, hv9, oN.oth kS (fun j hj => by subst hj; exact cnt_oth hb), by rw [setCell_row hb]; rfl⟩)
          exact .nil _
        · (intro x wf Kk hv); (try dsimp only); (have p11 : Pr.p (Sl := (fun j k => (j = 8 ∧ ob (.slice ae en ce) k) ∨ (j = 11 ∧ k = gk))) (PEs w0 X gk gm (vs.length + 1)) (x 11) wf := hv 11 (by kernel_rfl)); (clear hv); (obtain ⟨v', vs', hvl9, hE2, hG2⟩ := p11); (replace hvl9 := hid hvl9); (have kq := Kk.undrew); (obtain ⟨wz, hwz⟩ : ∃ W, W = wf := ⟨_, rfl⟩); (subst hwz); (have hsz : w0.heap.size ≤ w6.heap.size := hK6.out.kept.size); (have hK9 : Hd (KS X gk gm (bs.set c false) v' vs' w0 wz) := ⟨⟨hG2, (kq.block gm (lt_of_heap hK6.out.mb) (fun h => h.elim (fun h => hugm.out gm h rfl) (fun h => hne.out h.symm))).trans hK6.out.mb, hK6.out.len, hE2, hK6.out.nk, hK6.out.nm, hK6.out.kept.trans kq fun j hj h => h.elim (fun h => by have := hEl.out.new.fr (Nat.le_refl _) j h; omega) (fun h => by have := hK6.out.nk; omega)⟩⟩); (have kF : Hd (Kept (fun j => j = gk ∨ j = gm ∨ ob (.slice ae en ce) j) w wz) := ⟨(((kt.out.of_no (S := fun j => j = gk ∨ j = gm ∨ ob (.slice ae en ce) j)).trans kS'.out fun j _ h => .inr (.inl h))).trans kq fun j _ h => h.elim (fun h => .inr (.inr h)) (fun h => .inl h)⟩); (clear Kk kq hE2 hG2 hK6); (go_wp2); (go_ret2); (unfold ExcR); (rw [hnX.out, hLe.out, hen.out]); (exact ⟨c, _, v', vs', rfl, ⟨_, _, _, rfl⟩, hcm.out, hle.out, by have := hvl9.out; have := hen.out; omega, hK9.out, kF.out⟩)
end Go.Proofs.YtaobaaaihgahfaaGreat
