/- gregory.Quota, gregory.Count (printed by gen_gcount.py). -/
import Derived.Test.YtaobaaaihgahfaaGreatGreg3V
import Derived.Test.YtaobaaaihgahfaaGreatFitV
namespace Go.Gg
/-- The cells of a count, whatever its rows are. -/
def gCv (X : GC) (pv sv kv : Value) (f : Int) (ev tr tw : Value) : Array Value :=
  #[.string X.nm, .slice X.ac X.n X.cc, .int .i64 X.cm, .int .i64 (X.seats : Int), .int .i64 X.ra, .int .i64 X.d, .int .i64 X.t, .int .i64 X.ov, .int .i64 X.sk, X.vl, .int .i64 (X.total : Int), .int .i64 (X.quo : Int), pv, sv, kv, .int .i64 f, ev, .int .i64 3, .int .i64 (X.seats : Int), .int .i64 0, .int .i64 (X.n : Int), tr, tw]
/-- The state of a count, told plainly. -/
structure PSt where
  st : List Int
  pls : List Pl
  kpq : List (Nat × Nat)
  f : Nat
def PSt.V (X : GC) (S : PSt) : List Nat := votesS X.n S.st X.quo S.pls
/-- What a round needs. -/
structure RdOk (X : GC) (S : PSt) : Prop where
  pl : ∀ x ∈ S.pls, PlOk X.n x
  vb : ∀ k, ∀ v ∈ votesL X.n (S.pls.take k), v ≤ 200000
  vs : ∀ i, (S.V X).getD i 0 < 10000
  sum : (S.V X).sum ≤ X.total
  f : S.f ≤ 1000
end Go.Gg
namespace Go.Proofs.YtaobaaaihgahfaaGreat
open Go.RowKit Go.Mk Go.Pil Go.Nt Go.Gg
/-- The rounds that are left, with their keep values and exhausted ballots; the winners that they elect. -/
inductive Runs (X : GC) : PSt → List (List (Nat × Nat) × Nat) → List Int → Prop
  | last (S S' : PSt) (el : List Int) (ok : RdOk X S) (h : RCase X (S.V X) S.st S.pls S.kpq S.f S'.st S'.pls S'.kpq S'.f el true) : Runs X S [(S.kpq, X.total - (S.V X).sum)] el
  | more (S S' : PSt) (el : List Int) (ks : List (List (Nat × Nat) × Nat)) (wl : List Int) (ok : RdOk X S) (h : RCase X (S.V X) S.st S.pls S.kpq S.f S'.st S'.pls S'.kpq S'.f el false) (t : Runs X S' ks wl) : Runs X S ((S.kpq, X.total - (S.V X).sum) :: ks) (el ++ wl)
theorem RCase.prefs {X : GC} {V : List Nat} {st st' : List Int} {pls pls' : List Pl} {kpq kpq' : List (Nat × Nat)} {f f' : Nat} {el : List Int} {last : Bool} (h : RCase X V st pls kpq f st' pls' kpq' f' el last) : ∀ y ∈ pls', ∃ x ∈ pls, y.pv = x.pv ∧ y.prefs = x.prefs := by
  have hm : ∀ (st : List Int) (c : Int) (P Q : Nat), ∀ y ∈ pls.map (mvPl st c P Q), ∃ x ∈ pls, y.pv = x.pv ∧ y.prefs = x.prefs := fun st c P Q y hy => by
    (obtain ⟨x, hx, rfl⟩ := List.mem_map.1 hy); (refine ⟨x, hx, ?_⟩); (unfold mvPl)
    split <;> exact ⟨rfl, rfl⟩
  cases h with
  | done c => exact fun y hy => ⟨y, hy, rfl, rfl⟩
  | trans c => exact hm _ _ _ _
  | rest c => exact fun y hy => ⟨y, hy, rfl, rfl⟩
  | excl c => exact hm _ _ _ _
set_option maxHeartbeats 1000000 in
theorem quota_any (b s : Nat) (w : World) (hb : b ≤ 100000) (h1 : 1 ≤ s) (h5 : s ≤ 5) : Calls Tryz.prog 56 #[.int .i64 (b : Int), .int .i64 (s : Int)] w fun e w' => e = .returned (.int .i64 ((b / (s + 1) + 1 : Nat) : Int)) ∧ w' = w := by
  (have e1 : decide ((b : Int) < 0) = false := by simp); (have e2 : decide ((100000 : Int) < (b : Int)) = false := by simp; omega); (have e3 : decide ((s : Int) < 1) = false := by simp; omega); (have e4 : decide ((5 : Int) < (s : Int)) = false := by simp; omega); (have i1 : ¬ (b : Int) < 0 := by omega); (have i2 : ¬ (100000 : Int) < (b : Int) := by omega); (have i3 : ¬ (s : Int) < 1 := by omega); (have i4 : ¬ (5 : Int) < (s : Int) := by omega); (have hs : ¬ ((s : Int) + 1 = 0) := by omega)
  have hq : ((b : Int).tdiv ((s : Int) + 1)) = ((b / (s + 1) : Nat) : Int) := by
    rw [Int.tdiv_eq_ediv_of_nonneg (by omega)]; rfl
  (have hle := Nat.div_le_self b (s + 1)); (obtain ⟨Q, hQ⟩ : ∃ q, b / (s + 1) = q := ⟨_, rfl⟩); (rw [hQ] at hq hle ⊢); (replace hQ := hid hQ); (have w1 : IntKind.i64.wrap ((s : Int) + 1) = (s : Int) + 1 := IntWalk.i64_in _ (by omega)); (have w2 : IntKind.i64.wrap ((Q : Int) + 1) = (Q : Int) + 1 := IntWalk.i64_in _ (by omega)); (have w3 : IntKind.i64.wrap (Q : Int) = (Q : Int) := IntWalk.i64_in _ (by omega))
  go_enter Tryz.func56, Tryz.ntmps56
  (go_wp2); (go_ret); (exact ⟨by simp, rfl⟩)
/-- How many rounds are told. -/
def trW (w : World) (gk : Nat) : Nat := match w.cell? ⟨gk, 21, none⟩ with | some (.slice _ n _) => n | _ => 0
theorem TParcels : ElemT Tryz.prog 117 122 6 96 := .mk' (z := .agg #[.slice none 0 0, .int .i64 0, .int .i64 0, .bool false, .slice none 0 0, .slice none 0 0]) (by kernel_rfl) (by kernel_rfl) (by kernel_rfl) (by decide)
def PZr {Sl : Nat → Nat → Prop} (n n0 : Nat) : Pr Sl := soft (fun v w => ∃ g, v = .slice (some ⟨g, 0, none⟩) n n ∧ n0 ≤ g ∧ w.heap[g]? = some (.cells (zI (List.replicate n 0)) 3 (0, 0))) fun _ _ _ ⟨g, h1, h2, h3⟩ k => ⟨g, h1, h2, k.blk h3⟩
def PBk {Sl : Nat → Nat → Prop} (X : GC) (n0 : Nat) : Pr Sl := soft (fun v w => ∃ g, v = .agg (gCv X (.slice none 0 0) (.slice (some ⟨g, 0, none⟩) X.n X.n) (.slice none 0 0) 0 (.slice none 0 0) (.slice none 0 0) (.slice none 0 0)) ∧ n0 ≤ g ∧ w.heap[g]? = some (.cells (zI (List.replicate X.n 0)) 3 (0, 0))) fun _ _ _ ⟨g, h1, h2, h3⟩ k => ⟨g, h1, h2, k.blk h3⟩
def PBx {Sl : Nat → Nat → Prop} (X : GC) (n0 : Nat) : Pr Sl := soft (fun v w => ∃ gk g, v = .pointer (some ⟨gk, 0, none⟩) ∧ n0 ≤ gk ∧ n0 ≤ g ∧ w.heap[gk]? = some (.cells (gCv X (.slice none 0 0) (.slice (some ⟨g, 0, none⟩) X.n X.n) (.slice none 0 0) 0 (.slice none 0 0) (.slice none 0 0) (.slice none 0 0)) 119 (0, 0)) ∧ w.heap[g]? = some (.cells (zI (List.replicate X.n 0)) 3 (0, 0))) fun _ _ _ ⟨gk, g, h1, h2, h3, h4, h5⟩ k => ⟨gk, g, h1, h2, h3, k.blk h4, k.blk h5⟩
/-- What Count answers. -/
def CgR (n s : Nat) (ks : List (List (Nat × Nat) × Nat)) (wl : List Int) (w : World) (e : Ending) (w' : World) : Prop := ∃ (tr tw : Value) (rs : List RdC) (ge : Nat), e = .returned (.tuple #[.agg #[.int .i64 3, .int .i64 (s : Int), .int .i64 0, .int .i64 (n : Int), tr, tw], .int .i64 0]) ∧ rs.map (fun r => (r.kpq, r.e.p)) = ks ∧ (∀ r ∈ rs, r.e.q = 1) ∧ OwRs w w' ge tr rs ∧ RdZ w' tw wl ∧ Kept no w w'
def pls0 (ps : List (Grp × Value)) : List Pl := ps.map fun x => ⟨x.1.p, x.2, x.1.n.toNat, 0, 1, 1⟩
theorem Runs.cases {X : GC} {S : PSt} {ks : List (List (Nat × Nat) × Nat)} {wl : List Int} (h : Runs X S ks wl) : RdOk X S ∧ ∃ (S' : PSt) (el : List Int),
    (RCase X (S.V X) S.st S.pls S.kpq S.f S'.st S'.pls S'.kpq S'.f el true ∧ ks = [(S.kpq, X.total - (S.V X).sum)] ∧ wl = el) ∨
    (∃ ks' wl', RCase X (S.V X) S.st S.pls S.kpq S.f S'.st S'.pls S'.kpq S'.f el false ∧ Runs X S' ks' wl' ∧ ks = (S.kpq, X.total - (S.V X).sum) :: ks' ∧ wl = el ++ wl') := by
  cases h with
  | last S S' el ok h => exact ⟨ok, S', _, .inl ⟨h, rfl, rfl⟩⟩
  | more S S' el ks wl ok h t => exact ⟨ok, S', el, .inr ⟨ks, wl, h, t, rfl, rfl⟩⟩
def PKq {Sl : Nat → Nat → Prop} (_w0 : World) (qs : List RQ) (n0 : Nat) : Pr Sl := soft (fun v w => ∃ x : RQ, x.p = 1 ∧ x.q = 1 ∧ InQ w v (qs ++ [x]) ∧ ∀ j, ob v j → n0 ≤ j) fun _ _ _ ⟨x, e, h1, h2, h3⟩ k => ⟨x, e, h1, h2.keptNo k, h3⟩
def PKs {Sl : Nat → Nat → Prop} (X : GC) (gk : Nat) (pv sv : Value) (qs : List RQ) (n0 : Nat) : Pr Sl := soft (fun _ w => ∃ (v : Value) (x : RQ), x.p = 1 ∧ x.q = 1 ∧ InQ w v (qs ++ [x]) ∧ (∀ j, ob v j → n0 ≤ j) ∧ w.heap[gk]? = some (.cells (gCv X pv sv v 0 (.slice none 0 0) (.slice none 0 0) (.slice none 0 0)) 119 (0, 0))) fun _ _ _ ⟨v, x, e, h1, h2, h3, h4⟩ k => ⟨v, x, e, h1, h2.keptNo k, h3, k.blk h4⟩
/-- Parcels of one's own, wherever they lie. -/
structure OwP (w : World) (v : Value) (pc : List Pc) : Prop where
  own : w.ownsRow 0 122 6 v pc.length (pc.flatMap cP)
  one : ∀ x ∈ pc, Limbs w x.w.a x.w.p ∧ Limbs w x.w.b x.w.q
theorem OwP.keptS {w w' : World} {v : Value} {pc : List Pc} {S : Nat → Prop} (h : OwP w v pc) (k : Kept S w w') (h1 : ∀ j, ob v j → ¬ S j) (h2 : ∀ j, S j → ∃ c t fr, w.heap[j]? = some (.cells c t fr) ∧ t ≠ 202) : OwP w' v pc :=
  ⟨k.ownsRow h.own h1, fun x hx => ⟨(h.one x hx).1.keptS k h2, (h.one x hx).2.keptS k h2⟩⟩
theorem OwP.keptNo {w w' : World} {v : Value} {pc : List Pc} (h : OwP w v pc) (k : Kept no w w') : OwP w' v pc := h.keptS k (fun _ _ => id) fun _ f => f.elim
def PPq {Sl : Nat → Nat → Prop} (Ps : List Int) (pv : Value) (N : Nat) : Pr Sl := soft (fun v w => ∃ x : RQ, Rd w 6 v 1 (cP ⟨Ps, pv, N, 0, x⟩) ∧ x.p = 1 ∧ x.q = 1 ∧ Limbs w x.a x.p ∧ Limbs w x.b x.q) fun _ _ _ ⟨x, e, h1, h2, h3, h4⟩ k => ⟨x, e.keptNo k, h1, h2, k.ownsRow h3 fun _ _ => id, k.ownsRow h4 fun _ _ => id⟩
def PPb {Sl : Nat → Nat → Prop} (pv : Value) (N : Nat) : Pr Sl := soft (fun v w => ∃ x : RQ, v = .agg #[pv, .int .i64 (N : Int), .int .i64 0, .bool false, x.a, x.b] ∧ x.p = 1 ∧ x.q = 1 ∧ Limbs w x.a x.p ∧ Limbs w x.b x.q) fun _ _ _ ⟨x, e, h1, h2, h3, h4⟩ k => ⟨x, e, h1, h2, k.ownsRow h3 fun _ _ => id, k.ownsRow h4 fun _ _ => id⟩
def PPa {Sl : Nat → Nat → Prop} (pc : List Pc) (Ps : List Int) (pv : Value) (N n0 : Nat) : Pr Sl := soft (fun v w => ∃ x : RQ, x.p = 1 ∧ x.q = 1 ∧ OwP w v (pc ++ [⟨Ps, pv, N, 0, x⟩]) ∧ ∀ j, ob v j → n0 ≤ j) fun _ _ _ ⟨x, e, h1, h2, h3⟩ k => ⟨x, e, h1, h2.keptNo k, h3⟩
def PPs {Sl : Nat → Nat → Prop} (X : GC) (gk : Nat) (sv kv : Value) (pc : List Pc) (Ps : List Int) (pv : Value) (N n0 : Nat) : Pr Sl := soft (fun _ w => ∃ (v : Value) (x : RQ), x.p = 1 ∧ x.q = 1 ∧ OwP w v (pc ++ [⟨Ps, pv, N, 0, x⟩]) ∧ (∀ j, ob v j → n0 ≤ j) ∧ w.heap[gk]? = some (.cells (gCv X v sv kv 0 (.slice none 0 0) (.slice none 0 0) (.slice none 0 0)) 119 (0, 0))) fun _ _ _ ⟨v, x, e, h1, h2, h3, h4⟩ k => ⟨v, x, e, h1, h2.keptNo k, h3, k.blk h4⟩
theorem fill_pc (pv : Value) (N : Int) (a b : Value) : Instr.fill (fun i => some (i * 6, 6)) ((Array.range (1 * 6)).map ((Value.agg #[.slice none 0 0, .int .i64 0, .int .i64 0, .bool false, .slice none 0 0, .slice none 0 0]).cells[· % (Value.agg #[.slice none 0 0, .int .i64 0, .int .i64 0, .bool false, .slice none 0 0, .slice none 0 0]).cells.size]!)) [(0, .agg #[pv, .int .i64 N, .int .i64 0, .bool false, a, b])] = some #[pv, .int .i64 N, .int .i64 0, .bool false, a, b] := by
  have := fill_rows 6 (by decide) (.agg #[.slice none 0 0, .int .i64 0, .int .i64 0, .bool false, .slice none 0 0, .slice none 0 0]) [.agg #[pv, .int .i64 N, .int .i64 0, .bool false, a, b]] (by intro v hv; (obtain rfl : v = .agg #[pv, .int .i64 N, .int .i64 0, .bool false, a, b] := by simpa using hv); rfl)
  simpa [Value.cells] using this
theorem infPc : (Tryz.prog.info? 122).map (fun i => (i.zero, i.size)) = some (some (.agg #[.slice none 0 0, .int .i64 0, .int .i64 0, .bool false, .slice none 0 0, .slice none 0 0]), 6) := by kernel_rfl
theorem pls_take (ps : List (Grp × Value)) (k : Nat) (h : k < ps.length) : (pls0 ps).take (k + 1) = (pls0 ps).take k ++ [⟨ps[k].1.p, ps[k].2, ps[k].1.n.toNat, 0, 1, 1⟩] := by
  (unfold pls0); (rw [← List.map_take, ← List.map_take, List.take_succ_eq_append_getElem h, List.map_append]; rfl)
set_option maxRecDepth 100000 in
set_option maxHeartbeats 16000000 in
theorem gcount_any (X : GC) (vg : Value) (Mk : Nat) (ps : List (Grp × Value)) (lz : List Int) (w : World) (_hcm : X.cm = 3) (hn1 : 1 ≤ X.n) (hn7 : X.n ≤ 7) (hs1 : 1 ≤ X.seats) (hs5 : X.seats ≤ 5) (hfit : fitP 3 X.n X.cm (X.seats : Int) X.d X.t (grps ps) lz = 0) (rg : RdG w vg ps) (rl : RdZ w X.vl lz)
    (hT : total (grps ps) = (X.total : Int)) (hT1 : X.total ≤ 1000000) (hM : marked (grps ps) = (Mk : Int)) (hM1 : Mk ≤ 100000) (hQ : X.quo = Mk / (X.seats + 1) + 1) (hpn : ∀ x ∈ ps, 0 ≤ x.1.n) (hps : 1 ≤ ps.length) (hps1 : ps.length ≤ 1000)
    (ks : List (List (Nat × Nat) × Nat)) (wl : List Int) (hks : ks.length ≤ 900) (hwl : wl.length ≤ 900) (hR : ∀ m cap kc : Nat, Runs { X with m := m, cap := cap, kc := kc } ⟨List.replicate X.n 0, pls0 ps, List.replicate X.n (1, 1), 0⟩ ks wl) :
    Calls Tryz.prog 19 #[.agg #[.string X.nm, .slice X.ac X.n X.cc, .int .i64 X.cm, .int .i64 (X.seats : Int), .int .i64 X.ra, .int .i64 X.d, .int .i64 X.t, .int .i64 X.ov, .int .i64 X.sk], vg, X.vl] w (CgR X.n X.seats ks wl w) := by
  (obtain ⟨w1, hw1, g1, k1⟩ := alloc_named w (.cells #[.string X.nm, .slice X.ac X.n X.cc, .int .i64 X.cm, .int .i64 (X.seats : Int), .int .i64 X.ra, .int .i64 X.d, .int .i64 X.t, .int .i64 X.ov, .int .i64 X.sk] 24)); (have e1 : w1.heap.size = w.heap.size + 1 := by rw [hw1]; simp); (obtain ⟨w2, hw2, g2, k2⟩ := alloc_named w1 (.cells #[.int .i64 0, .int .i64 0, .int .i64 0, .int .i64 0, (.slice none 0 0), (.slice none 0 0)] 35)); (have k02 := hid (k1.trans' k2)); (have gB := hid (k2.blk g1)); (have gT0 := hid g2); (have HF := fit_any 3 X.nm X.ac X.n X.cc X.cm (X.seats : Int) X.ra X.d X.t X.ov X.sk vg X.vl ps lz w2 (rg.kept k02.out) (RdZ.kept rl k02.out)); (rw [hfit] at HF); (replace HF := hid HF); (obtain ⟨ag, cg, evg, _, _⟩ := rg.shape); (obtain ⟨al, cl, evl⟩ := Rd.shapeZ rl); (obtain ⟨GB, hGB⟩ : ∃ g, w.heap.size = g := ⟨_, rfl⟩); (obtain ⟨G6, hG6⟩ : ∃ g, w1.heap.size = g := ⟨_, rfl⟩); (rw [hGB] at gB); (rw [hG6] at gT0); (have q1 : Hd (GB + 1 = G6) := ⟨by omega⟩); (have hGl : Hd (w.heap.size ≤ G6 ∧ w.heap.size ≤ GB) := ⟨by omega⟩); (have b0 : Hd (w2.heap[GB]? = some (.cells #[.string X.nm, .slice X.ac X.n X.cc, .int .i64 X.cm, .int .i64 (X.seats : Int), .int .i64 X.ra, .int .i64 X.d, .int .i64 X.t, .int .i64 X.ov, .int .i64 X.sk] 24 (0, 0))) := gB)
  have hB : ∀ (W : World), Kept no w2 W → W.cell? ⟨GB, 0, none⟩ = some (.string X.nm) ∧ W.cell? ⟨GB, 1, none⟩ = some (.slice X.ac X.n X.cc) ∧ W.cell? ⟨GB, 2, none⟩ = some (.int .i64 X.cm) ∧ W.cell? ⟨GB, 3, none⟩ = some (.int .i64 (X.seats : Int)) ∧ W.cell? ⟨GB, 4, none⟩ = some (.int .i64 X.ra) ∧ W.cell? ⟨GB, 5, none⟩ = some (.int .i64 X.d) ∧ W.cell? ⟨GB, 6, none⟩ = some (.int .i64 X.t) ∧ W.cell? ⟨GB, 7, none⟩ = some (.int .i64 X.ov) ∧ W.cell? ⟨GB, 8, none⟩ = some (.int .i64 X.sk) := fun W k => by
    (have h := k.blk b0.out); (exact ⟨cell_at h rfl, cell_at h rfl, cell_at h rfl, cell_at h rfl, cell_at h rfl, cell_at h rfl, cell_at h rfl, cell_at h rfl, cell_at h rfl⟩)
  (have HT := hid (fun (W : World) (k : Kept no w W) => total_any vg ps W (rg.kept k))); (have HMk := hid (fun (W : World) (k : Kept no w W) => marked_any vg ps W (rg.kept k))); (rw [hT] at HT); (rw [hM] at HMk); (have HQ := hid (fun (W : World) => quota_any Mk X.seats W hM1 hs1 hs5)); (rw [← hQ] at HQ); (have HZ := hid (fun (W : World) => makeZ X.n (by omega) W)); (replace hw1 := hid hw1); (replace hw2 := hid hw2); (replace hGB := hid hGB); (replace hG6 := hid hG6); (replace evg := hid evg); (replace evl := hid evl); (have rl' := hid rl); (have rg' := hid rg); (have hR' := hid hR); (have hpn' := hid hpn); (replace hQ := hid hQ); (clear g1 k1 e1 g2 k2 rg rl _hcm hR hfit hpn hT hM)
  go_enter Tryz.func19, Tryz.ntmps19
  (go_upto_region 1 with fail); (rw [← hw1.out, hGB.out]); (try rw [q1.out]); (rw [← hw2.out]); (obtain ⟨a0, a1, a2, a3, a4, a5, a6, a7, a8⟩ := hB w2 (Kept.refl _ _)); (go_wp2_with fail); (with_reducible refine HF.out.mono ?_); (rintro e w3 ⟨rfl, k3⟩); (have k03 := hid (k02.out.trans' k3)); (have b3 := hid (k3.blk b0.out)); (have g63 := hid (k3.blk gT0.out)); (clear HF a0 a1 a2 a3 a4 a5 a6 a7 a8); (obtain ⟨_, a1, _, _, _, _, _, _, _⟩ := hB w3 k3); (go_upto_region 5 with fail); (clear k3 hB a1); (have hrowC : Hd (w3.rangeAt GB 0 [.string X.nm, .slice X.ac X.n X.cc, .int .i64 X.cm, .int .i64 (X.seats : Int), .int .i64 X.ra, .int .i64 X.d, .int .i64 X.t, .int .i64 X.ov, .int .i64 X.sk]) := ⟨rng_row b3.out⟩); (have c3 : Hd (w3.cell? ⟨GB, 3, none⟩ = some (.int .i64 (X.seats : Int))) := ⟨cell_at b3.out rfl⟩); (refine region_flow (S := no) (Sl := (fun _ => no)) [Is (.agg #[.string X.nm, .slice X.ac X.n X.cc, .int .i64 X.cm, .int .i64 (X.seats : Int), .int .i64 X.ra, .int .i64 X.d, .int .i64 X.t, .int .i64 X.ov, .int .i64 X.sk]), Is (X.vl), Is (vg), Is (.int .i64 (X.total : Int)), Is (vg), Is (.int .i64 (Mk : Int)), Is (.pointer (some ⟨GB, 3, none⟩)), Is (.int .i64 (X.seats : Int)), Is (.int .i64 (X.quo : Int)), Is (.int .i64 (X.n : Int)), PZr X.n w3.drew.heap.size, Is (.pointer (some ⟨GB, 3, none⟩)), Is (.int .i64 (X.seats : Int)), Is (.int .i64 (X.n : Int)), Is (.agg #[.int .i64 3, .int .i64 (X.seats : Int), .int .i64 0, .int .i64 (X.n : Int), (.slice none 0 0), (.slice none 0 0)]), PBk X w3.drew.heap.size, PBx X w3.drew.heap.size, PBx X w3.drew.heap.size] [] (fun _ _ h => h) _ (by kernel_rfl) (by kernel_rfl) (by kernel_rfl) (by kernel_rfl) (fun x => by simp only [puts, Act.put, List.map_cons, List.map_nil, Nat.zero_add, Nat.reduceAdd, List.setIfInBounds_toArray, List.set_cons_zero, List.set_cons_succ]; exact rfl) ?_ ?_)
  · (skip); (refine .cons (fun x wf Kk hq hdep hold => ?_) ?_)
    · (try dsimp only); (clear hq hdep hold); (rw [if_pos (by rfl)]); (exact OpY.row 24 (.tmp 3) rfl GB (0) rfl [.string X.nm, .slice X.ac X.n X.cc, .int .i64 X.cm, .int .i64 (X.seats : Int), .int .i64 X.ra, .int .i64 X.d, .int .i64 X.t, .int .i64 X.ov, .int .i64 X.sk] _ (Kk.undrew.rng hrowC.out) Tryz.underlying24 rfl (by kernel_rfl) ⟨Kept.refl _ _, rfl⟩)
    refine .cons (fun x wf Kk hq hdep hold => ?_) ?_
    · (try dsimp only); (clear hq hdep hold); (refine opv rfl ?_); (first | rfl | go_simp)
    refine .cons (fun x wf Kk hq hdep hold => ?_) ?_
    · (try dsimp only); (clear hq hdep hold); (refine opv rfl ?_); (first | rfl | go_simp)
    refine .cons (fun x wf Kk hq hdep hold => ?_) ?_
    · (try dsimp only); (have h2 : x 2 = _ := hdep 2 (by kernel_rfl)); (clear hq hdep hold); (simp only [h2]); (clear h2); (rw [if_pos (by rfl)]); (refine OpY.call (f := 44) (args := #[(vg)]) (by go_simp) ?_); (refine (HT.out wf (k03.out.trans' Kk.undrew)).mono ?_); (rintro e w7 ⟨rfl, h⟩); (exact ⟨_, rfl, h, rfl⟩)
    refine .cons (fun x wf Kk hq hdep hold => ?_) ?_
    · (try dsimp only); (clear hq hdep hold); (refine opv rfl ?_); (first | rfl | go_simp)
    refine .cons (fun x wf Kk hq hdep hold => ?_) ?_
    · (try dsimp only); (have h4 : x 4 = _ := hdep 4 (by kernel_rfl)); (clear hq hdep hold); (simp only [h4]); (clear h4); (rw [if_pos (by rfl)]); (refine OpY.call (f := 17) (args := #[(vg)]) (by go_simp) ?_); (refine (HMk.out wf (k03.out.trans' Kk.undrew)).mono ?_); (rintro e w7 ⟨rfl, h⟩); (exact ⟨_, rfl, h, rfl⟩)
    refine .cons (fun x wf Kk hq hdep hold => ?_) ?_
    · (try dsimp only); (clear hq hdep hold); (refine opv rfl ?_); (first | rfl | go_simp)
    refine .cons (fun x wf Kk hq hdep hold => ?_) ?_
    · (try dsimp only); (have h6 : x 6 = _ := hdep 6 (by kernel_rfl)); (clear hq hdep hold); (simp only [h6]); (clear h6); (have m1 := Kk.undrew.cell c3.out id); (refine opv rfl ?_); (first | rfl | go_simp)
    refine .cons (fun x wf Kk hq hdep hold => ?_) ?_
    · (try dsimp only); (have h5 : x 5 = _ := hdep 5 (by kernel_rfl)); (have h7 : x 7 = _ := hdep 7 (by kernel_rfl)); (clear hq hdep hold); (simp only [h5, h7]); (clear h5 h7); (rw [if_pos (by rfl)]); (refine OpY.call (f := 56) (args := #[(.int .i64 (Mk : Int)), (.int .i64 (X.seats : Int))]) (by go_simp) ?_); (refine (HQ.out wf).mono ?_); (rintro e w7 ⟨rfl, rfl⟩); (exact ⟨_, rfl, Kept.refl _ _, rfl⟩)
    refine .cons (fun x wf Kk hq hdep hold => ?_) ?_
    · (try dsimp only); (clear hq hdep hold); (refine opv rfl ?_); (first | rfl | go_simp)
    refine .cons (fun x wf Kk hq hdep hold => ?_) ?_
    · (try dsimp only); (have h9 : x 9 = _ := hdep 9 (by kernel_rfl)); (clear hq hdep hold); (simp only [h9]); (clear h9); (rw [if_pos (by rfl)]); (have hm := HZ.out wf); (refine OpY.val (v := .slice (some ⟨wf.heap.size, 0, none⟩) X.n X.n) (w' := wf.alloc (.cells (zsA (List.replicate X.n 0)) 3)) ?_ ⟨(Kept.refl _ _).alloc _, _, rfl, Kk.size, heap_alloc_new _ _⟩); (go_simp)
    refine .cons (fun x wf Kk hq hdep hold => ?_) ?_
    · (try dsimp only); (clear hq hdep hold); (refine opv rfl ?_); (first | rfl | go_simp)
    refine .cons (fun x wf Kk hq hdep hold => ?_) ?_
    · (try dsimp only); (have h11 : x 11 = _ := hdep 11 (by kernel_rfl)); (clear hq hdep hold); (simp only [h11]); (clear h11); (have m1 := Kk.undrew.cell c3.out id); (refine opv rfl ?_); (first | rfl | go_simp)
    refine .cons (fun x wf Kk hq hdep hold => ?_) ?_
    · (try dsimp only); (clear hq hdep hold); (refine opv rfl ?_); (first | rfl | go_simp)
    refine .cons (fun x wf Kk hq hdep hold => ?_) ?_
    · (try dsimp only); (have h12 : x 12 = _ := hdep 12 (by kernel_rfl)); (have h13 : x 13 = _ := hdep 13 (by kernel_rfl)); (clear hq hdep hold); (simp only [h12, h13]); (clear h12 h13); (refine opv rfl ?_); (first | rfl | go_simp)
    refine .cons (fun x wf Kk hq hdep hold => ?_) ?_
    · (try dsimp only); (have h0 : x 0 = _ := hdep 0 (by kernel_rfl)); (have h1 : x 1 = _ := hdep 1 (by kernel_rfl)); (have h3 : x 3 = _ := hdep 3 (by kernel_rfl)); (have h8 : x 8 = _ := hdep 8 (by kernel_rfl)); (have p10 : Pr.p (Sl := (fun _ => no)) (PZr X.n w3.drew.heap.size) (x 10) wf := hdep 10 (by kernel_rfl)); (have h14 : x 14 = _ := hdep 14 (by kernel_rfl)); (clear hq hdep hold); (simp only [h0, h1, h3, h8, h14]); (clear h0 h1 h3 h8 h14); (rw [if_pos (by rfl)]); (obtain ⟨g, eg, hg, hb⟩ := p10); (rw [eg]); (refine OpY.val (v := .agg (gCv X (.slice none 0 0) (.slice (some ⟨g, 0, none⟩) X.n X.n) (.slice none 0 0) 0 (.slice none 0 0) (.slice none 0 0) (.slice none 0 0))) ?_ ⟨Kept.refl _ _, g, rfl, hg, hb⟩); (unfold gCv); (rw [evl.out]); (go_simp)
    refine .cons (fun x wf Kk hq hdep hold => ?_) ?_
    · (try dsimp only); (have p15 : Pr.p (Sl := (fun _ => no)) (PBk X w3.drew.heap.size) (x 15) wf := hdep 15 (by kernel_rfl)); (clear hq hdep hold); (rw [if_pos (by rfl)]); (obtain ⟨g, eg, hg, hb⟩ := p15); (rw [eg]); (have ka := (Kept.refl no wf).alloc (.cells (gCv X (.slice none 0 0) (.slice (some ⟨g, 0, none⟩) X.n X.n) (.slice none 0 0) 0 (.slice none 0 0) (.slice none 0 0) (.slice none 0 0)) 119)); (refine OpY.val (v := .pointer (some ⟨wf.heap.size, 0, none⟩)) (w' := wf.alloc (.cells (gCv X (.slice none 0 0) (.slice (some ⟨g, 0, none⟩) X.n X.n) (.slice none 0 0) 0 (.slice none 0 0) (.slice none 0 0) (.slice none 0 0)) 119)) ?_ ⟨ka, _, g, rfl, Kk.size, hg, heap_alloc_new _ _, ka.blk hb⟩); (clear ka); (unfold gCv); (go_simp)
    refine .cons (fun x wf Kk hq hdep hold => ?_) ?_
    · (try dsimp only); (have p16 : Pr.p (Sl := (fun _ => no)) (PBx X w3.drew.heap.size) (x 16) wf := hdep 16 (by kernel_rfl)); (clear hq hdep hold); (rw [if_pos (by rfl)]); (refine OpY.val (v := x 16) (by go_simp) ⟨Kept.refl _ _, p16⟩)
    exact .nil _
  · (intro x wf Kk hv); (try dsimp only); (have p17 : Pr.p (Sl := (fun _ => no)) (PBx X w3.drew.heap.size) (x 17) wf := hv 17 (by kernel_rfl)); (clear hv); (obtain ⟨gk, gs, eg, hgk, hgs, hkb, hsb⟩ := p17); (simp only [eg]); (have kw := hid Kk.undrew); (have kb4 := hid hkb); (have sb4 := hid hsb); (have g64 := hid (kw.out.blk g63.out)); (have k04 := hid (k03.out.trans' kw.out)); (obtain ⟨w4, hw4⟩ : ∃ W, wf = W := ⟨_, rfl⟩); (rw [hw4] at kw kb4 sb4 g64 k04 ⊢); (have hgk0 : w3.heap.size ≤ gk ∧ w3.heap.size ≤ gs := ⟨hgk, hgs⟩); (have k34 := hid kw.out); (clear Kk eg hgk hgs hkb hsb hw4 HT HMk HQ HZ hrowC c3 b3 kw); (have hgs4 : Hd (gk ≠ gs) := ⟨ne_blk kb4.out sb4.out (by decide)⟩); (have hn0 : Hd (w3.heap.size ≤ gk ∧ w3.heap.size ≤ gs) := ⟨hgk0⟩); (go_upto_region 7 with fail)
    go_loopw [42] (fun i wr => ∃ (k : Nat) (kv : Value) (qs : List RQ), k ≤ X.n ∧ i = .int .i64 (k : Int) ∧ Hd (pq qs = List.replicate k (1, 1)) ∧ Hd (InQ wr kv qs) ∧ Hd (∀ j, ob kv j → w4.heap.size ≤ j) ∧ Hd (wr.heap[gk]? = some (.cells (gCv X (.slice none 0 0) (.slice (some ⟨gs, 0, none⟩) X.n X.n) kv 0 (.slice none 0 0) (.slice none 0 0) (.slice none 0 0)) 119 (0, 0))) ∧ Hd (Kept (fun j => j = gk) w4 wr)) (fun i _ => X.n - (intOf i).toNat)
    case atStart => exact ⟨0, (.slice none 0 0), [], by omega, rfl, ⟨rfl⟩, ⟨InQ.nil _⟩, ⟨fun j hj => by cases hj⟩, kb4, ⟨Kept.refl _ _⟩⟩
    case round =>
      (obtain ⟨k, kv, qs, hk, rfl, hpq, hQ, hN, hkb, hK⟩ := hrel); (obtain ⟨ka, kc, rfl⟩ := hQ.out.shape); (have hql : qs.length = k := by have := congrArg List.length hpq.out; simpa [pq] using this); (rw [hql] at hQ hN hkb); (have hql' := hid hql)
      by_cases hlt : k < X.n
      · (have hk1 : (k : Int) < (X.n : Int) := by omega); (have hk0 : (0 : Int) ≤ (k : Int) := by omega)
        have hpq2 : Hd (∀ x : RQ, x.p = 1 → x.q = 1 → pq (qs ++ [x]) = List.replicate (k + 1) (1, 1)) := ⟨fun x h1 h2 => by
          (have := hpq.out); (unfold pq at this ⊢)
          rw [List.map_append, this, List.replicate_succ', List.map_cons, List.map_nil, h1, h2]⟩
        (have hqm : Hd (qs.length + 1 ≤ maxLen ∧ (qs.length + 1) * 56 ≤ 140737488355328) := ⟨by have hm : maxLen = 9223372036854775807 := rfl; omega⟩); (have HO1 := hid (fun (W : World) => ratof_any 1 W (by omega))); (rw [show ((1 : Nat) : Int) = 1 from rfl] at HO1); (have d14 : Hd (wr.cell? ⟨gk, 14, none⟩ = some (.slice ka k kc)) := ⟨cell_at hkb.out rfl⟩); (have hugk : Hd (∀ j, (Value.slice ka k kc).ownBlock = some j → j ≠ gk) := ⟨fun j hj ej => own_ne hQ.out.own hkb.out (by decide) j hj ej⟩); (have hgkl : Hd (gk < wr.heap.size) := ⟨lt_of_heap hkb.out⟩); (have hsz4 : Hd (w4.heap.size ≤ wr.heap.size) := ⟨hK.out.size⟩); (clear hpq hql); (go_upto_region 8 with fail); (refine region_flow (S := (fun j => ob (.slice ka k kc) j ∨ j = gk)) (Sl := (fun j l => (j = 7 ∧ ob (.slice ka k kc) l) ∨ (j = 10 ∧ l = gk))) [Is (.pointer (some ⟨gk, 0, none⟩)), Is (.pointer (some ⟨gk, 0, none⟩)), Is (.pointer (some ⟨gk, 0, none⟩)), Is (.pointer (some ⟨gk, 14, none⟩)), Is (.slice ka k kc), PRQ 1 1, PRl 1 1, PKq w qs w4.heap.size, Is (.pointer (some ⟨gk, 0, none⟩)), Is (.pointer (some ⟨gk, 14, none⟩)), PKs X gk (.slice none 0 0) (.slice (some ⟨gs, 0, none⟩) X.n X.n) qs w4.heap.size] [7, 10] (fun j l h => h.elim (fun h => .inl h.2) (fun h => .inr h.2)) _ (by kernel_rfl) (by kernel_rfl) (by kernel_rfl) (by kernel_rfl) (fun x => by simp only [puts, Act.put, List.map_cons, List.map_nil, Nat.zero_add, Nat.reduceAdd, List.setIfInBounds_toArray, List.set_cons_zero, List.set_cons_succ]; exact rfl) ?_ ?_)
        · (skip); (refine .cons (fun x wf Kk hq hdep hold => ?_) ?_)
          · (try dsimp only); (clear hq hdep hold); (refine opv rfl ?_); (first | rfl | go_simp)
          refine .cons (fun x wf Kk hq hdep hold => ?_) ?_
          · (try dsimp only); (clear hq hdep hold); (refine opv rfl ?_); (first | rfl | go_simp)
          refine .cons (fun x wf Kk hq hdep hold => ?_) ?_
          · (try dsimp only); (have h1 : x 1 = _ := hdep 1 (by kernel_rfl)); (clear hq hdep hold); (simp only [h1]); (clear h1); (refine opv rfl ?_); (first | rfl | go_simp)
          refine .cons (fun x wf Kk hq hdep hold => ?_) ?_
          · (try dsimp only); (have h2 : x 2 = _ := hdep 2 (by kernel_rfl)); (clear hq hdep hold); (simp only [h2]); (clear h2); (refine opv rfl ?_); (first | rfl | go_simp)
          refine .cons (fun x wf Kk hq hdep hold => ?_) ?_
          · (try dsimp only); (have h3 : x 3 = _ := hdep 3 (by kernel_rfl)); (have Kq := hq no (fun _ hj => (noMem (by kernel_rfl) hj).elim)); (clear hq hdep hold); (simp only [h3]); (clear h3); (have m1 := Kq.undrew.cell d14.out id); (refine opv rfl ?_); (first | rfl | go_simp)
          refine .cons (fun x wf Kk hq hdep hold => ?_) ?_
          · (try dsimp only); (have Kq := hq no (fun _ hj => (noMem (by kernel_rfl) hj).elim)); (clear hq hdep hold); (rw [if_pos (by rfl)]); (refine OpY.call (f := 57) (args := #[(.int .i64 1)]) (by go_simp) ?_); (refine (HO1.out wf).mono ?_); (rintro e w7 ⟨v, rfl, o⟩); (have ok := o.kept); (exact ⟨_, rfl, ok, o.limbs⟩)
          refine .cons (fun x wf Kk hq hdep hold => ?_) ?_
          · (try dsimp only); (have p5 : Pr.p (Sl := (fun j l => (j = 7 ∧ ob (.slice ka k kc) l) ∨ (j = 10 ∧ l = gk))) (PRQ 1 1) (x 5) wf := hdep 5 (by kernel_rfl)); (have Kq := hq no (fun _ hj => (noMem (by kernel_rfl) hj).elim)); (clear hq hdep hold); (rw [if_pos (by rfl)]); (obtain ⟨y, ey, hy1, hy2, hy3, hy4⟩ := p5); (rw [ey]); (have hone := cQ_one ⟨hy3, hy4⟩); (refine OpY.build 72 76 1 _ rfl 3 _ Tryz.underlying72 infRat (by decide) (by decide) (cQ y) [(0, .agg #[.bool false, y.a, y.b])] rfl (fill_rat y) rfl (by decide) ?_); (intro w' hg k ho); (exact ⟨k, y, Rd.of_own ho, hy1, hy2, k.ownsRow hy3 fun _ _ => id, k.ownsRow hy4 fun _ _ => id⟩)
          refine .cons (fun x wf Kk hq hdep hold => ?_) ?_
          · (try dsimp only); (have h4 : x 4 = _ := hdep 4 (by kernel_rfl)); (have p6 : Pr.p (Sl := (fun j l => (j = 7 ∧ ob (.slice ka k kc) l) ∨ (j = 10 ∧ l = gk))) (PRl 1 1) (x 6) wf := hdep 6 (by kernel_rfl)); (have Kq := hq no (fun _ hj => (noMem (by kernel_rfl) hj).elim)); (clear hq hdep hold); (simp only [h4]); (clear h4); (rw [if_pos (by rfl)]); (obtain ⟨y, ry, hy1, hy2, hy3, hy4⟩ := p6); (have hO3 := hQ.out.keptNo Kq.undrew); (refine OpY.append (.tmp 48) (.tmp 50) 72 _ rfl rfl 76 3 56 TRats (.slice ka k kc) k _ rfl (by have := hO3.own; rw [hql'.out] at this; exact this) (x 6) 1 (cQ y) rfl ry (cQ_one ⟨hy3, hy4⟩) (by have := hqm.out.1; rw [hql'.out] at this; exact this) (by have := hqm.out.2; rw [hql'.out] at this; exact this) ?_); (intro v2 w7 h2 h3 h4 _); (exact ⟨h3.mono fun k _ h => Or.inl ⟨by trivial, h⟩, y, hy1, hy2, hO3.add (Kept.refl _ _) ⟨hy3, hy4⟩ (by rw [hql'.out]; exact h2) h3, fun j hj => (newOr_r h4 j hj).elim (fun h => hN.out j h) fun h => by have := hsz4.out; have := Kq.undrew.size; omega⟩)
          refine .cons (fun x wf Kk hq hdep hold => ?_) ?_
          · (try dsimp only); (have h0 : x 0 = _ := hdep 0 (by kernel_rfl)); (clear hq hdep hold); (simp only [h0]); (clear h0); (refine opv rfl ?_); (first | rfl | go_simp)
          refine .cons (fun x wf Kk hq hdep hold => ?_) ?_
          · (try dsimp only); (have h8 : x 8 = _ := hdep 8 (by kernel_rfl)); (clear hq hdep hold); (simp only [h8]); (clear h8); (refine opv rfl ?_); (first | rfl | go_simp)
          refine .cons (fun x wf Kk hq hdep hold => ?_) ?_
          · (try dsimp only); (have h9 : x 9 = _ := hdep 9 (by kernel_rfl)); (have p7 : Pr.p (Sl := (fun j l => (j = 7 ∧ ob (.slice ka k kc) l) ∨ (j = 10 ∧ l = gk))) (PKq w qs w4.heap.size) (x 7) wf := hdep 7 (by kernel_rfl)); (have Kq := hq (ob (.slice ka k kc)) (fun j hj k hk => by (have e : ∀ l : List Nat, l = [7] → j ∈ l → j ∈ ([7] : List Nat) := fun l h h2 => h ▸ h2); have hj := e _ (by kernel_rfl) hj; obtain rfl := List.mem_singleton.1 hj; rcases hk with h | h; exact h.2; exact absurd h.1 (by decide))); (clear hq hdep hold); (simp only [h9]); (clear h9); (rw [if_pos (by rfl)]); (obtain ⟨y9, hy1, hy2, o9, n9⟩ := p7); (have hb := (Kq.undrew.block gk hgkl.out (fun h => hugk.out gk h rfl)).trans hkb.out); (have fz := row_free hb 14); (have c1 : wf.cell? ⟨gk, 14, none⟩ = some (.slice ka k kc) := cell_at hb rfl); (obtain ⟨ax, cx, e11⟩ := o9.shape); (rw [e11] at o9 n9 ⊢); (rw [List.length_append, hql'.out, List.length_singleton] at o9 n9 ⊢); (have kS := (Kept.refl (fun k => k = gk) wf).setCell (a := ⟨gk, 14, none⟩) (.inl rfl) (.slice ax (k + 1) cx)); (refine OpY.skipY (w' := wf.setCell ⟨gk, 14, none⟩ (.slice ax (k + 1) cx)) (by go_simp) ⟨kS.mono fun k _ h => Or.inr ⟨by trivial, h⟩, _, y9, hy1, hy2, o9.keptS kS (fun j hj (ej : j = gk) => own_ne o9.own hb (by decide) j hj ej) (fun j (ej : j = gk) => by subst ej; exact ⟨_, _, _, hb, by decide⟩), n9, by rw [setCell_row hb]; rfl⟩)
          exact .nil _
        · (intro x wf Kk hv); (try dsimp only); (have p10 : Pr.p (Sl := (fun j l => (j = 7 ∧ ob (.slice ka k kc) l) ∨ (j = 10 ∧ l = gk))) (PKs X gk (.slice none 0 0) (.slice (some ⟨gs, 0, none⟩) X.n X.n) qs w4.heap.size) (x 10) wf := hv 10 (by kernel_rfl)); (clear hv); (obtain ⟨v8, x8, hx1, hx2, hQ8, hN8, hb8⟩ := p10); (have hpq8 := hid (hpq2.out x8 hx1 hx2)); (have hQ8' := hid hQ8); (have hN8' := hid hN8); (have hb8' := hid hb8)
          have hK8 := hid (hK.out.trans Kk.undrew fun j hj hs => by
            rcases hs with hs | hs
            · have := hN.out j hs; omega
            · exact hs)
          (obtain ⟨w8, hw8⟩ : ∃ W, wf = W := ⟨_, rfl⟩); (rw [hw8] at hQ8' hb8' hK8 ⊢); (clear Kk hQ8 hN8 hb8 hw8 hQ hN hkb hK hpq2 d14 hugk hgkl hqm HO1 hx1 hx2 hsz4 hql'); (go_wp2); (go_roundw)
          case rel => first | exact ⟨k + 1, v8, _, by omega, by go_num, hpq8, hQ8', hN8', hb8', hK8⟩ | ((repeat apply Exists.intro); exact ⟨⟨k + 1, v8, _, by omega, by go_num, hpq8, hQ8', hN8', hb8', hK8⟩, rfl⟩)
          case measure => simp [intOf]; omega
      · (obtain hkn : k = X.n := by omega); (have hk1 : ¬ (k : Int) < (X.n : Int) := by omega); (rw [hkn] at hpq hQ hN hkb); (have hlt0 : 0 < qs.length := by rw [hql, hkn]; omega); (obtain ⟨ge, _, rfl, hz_⟩ := hQ.out.at 0 hlt0); (have hge4 : Hd (w4.heap.size ≤ ge) := ⟨hN.out ge rfl⟩); (have sb5 := hid ((hK.out.block gs (lt_of_heap sb4.out) (Ne.symm hgs4.out)).trans sb4.out)); (have k45 : Hd (Kept no w3 wr) := ⟨k34.out.trans hK.out fun j hj ej => by have := hn0.out; omega⟩); (have rg5 := hid (rg'.out.kept (k03.out.trans' k45.out))); (obtain ⟨pn, hpn1⟩ : ∃ l, ps.length = l := ⟨_, rfl⟩); (rw [evg.out, hpn1] at rg5); (rw [evg.out, hpn1]); (obtain ⟨w5, hw5⟩ : ∃ W, wr = W := ⟨_, rfl⟩); (rw [hw5] at hQ hkb sb5 k45 rg5 ⊢); (have hps' := hps); (have hps1' := hps1); (rw [hpn1] at hps' hps1'); (have hpn1' := hid hpn1); (clear hz_ hlt0 hql hpn1 hw5 hK hN hps hps1); (go_upto_region 11 with fail)
        go_loopw [57] (fun i wr => ∃ (k : Nat) (pv : Value) (pc : List Pc), k ≤ pn ∧ i = .int .i64 (k : Int) ∧ Hd (pc.map Pc.pl = (pls0 ps).take k) ∧ pc.length = k ∧ Hd (OwP wr pv pc) ∧ Hd (∀ j, ob pv j → w5.heap.size ≤ j) ∧ Hd (wr.heap[gk]? = some (.cells (gCv X pv (.slice (some ⟨gs, 0, none⟩) X.n X.n) (.slice (some ⟨ge, 0, none⟩) X.n kc) 0 (.slice none 0 0) (.slice none 0 0) (.slice none 0 0)) 119 (0, 0))) ∧ Hd (Kept (fun j => j = gk) w5 wr)) (fun i _ => pn - (intOf i).toNat)
        case atStart => exact ⟨0, (.slice none 0 0), [], by omega, rfl, ⟨rfl⟩, rfl, ⟨World.ownsRow_nil _ _ _ _, fun x hx => by cases hx⟩, ⟨fun j hj => by cases hj⟩, hkb, ⟨Kept.refl _ _⟩⟩
        case round =>
          (obtain ⟨i, pv, pc, hi, rfl, hpl, hpcl, hO, hN, hkbp, hK⟩ := hrel); (obtain ⟨_, pa, pcp, rfl, _⟩ := Rd.of_own hO.out.own); (rw [hpcl] at hO hN hkbp); (have hpcl' := hid hpcl); (have kwr : Hd (Kept no w3 wr) := ⟨k45.out.trans hK.out fun j hj ej => by have := hn0.out; omega⟩)
          by_cases hlt2 : i < pn
          · (have hi1 : (i : Int) < (pn : Int) := by omega); (have hi0 : (0 : Int) ≤ (i : Int) := by omega); (have hil : i < ps.length := by rw [hpn1'.out]; exact hlt2); (obtain ⟨b, o, g, v, hao, hpk, c0, c1, hrz⟩ := (show RdG wr (.slice ag pn cg) ps by have := rg'.out.kept (k03.out.trans' kwr.out); rw [evg.out, hpn1'.out] at this; exact this).at i hil); (subst hao); (have hgn := hpn'.out _ (List.getElem_mem hil)); (have htk := pls_take ps i hil); (rw [hpk] at hgn htk); (obtain ⟨N, hN0⟩ : ∃ N : Nat, g.n = (N : Int) := ⟨g.n.toNat, by have : 0 ≤ g.n := hgn; omega⟩); (rw [hN0] at c1); (simp only [hN0, Int.toNat_natCast] at htk)
            have hpl2 : Hd (∀ x : RQ, x.p = 1 → x.q = 1 → (pc ++ [(⟨g.p, v, N, 0, x⟩ : Pc)]).map Pc.pl = (pls0 ps).take (i + 1)) := ⟨fun x h1 h2 => by
              rw [List.map_append, hpl.out, htk]
              show _ ++ [Pc.pl ⟨g.p, v, N, 0, x⟩] = _
              unfold Pc.pl
              rw [h1, h2]⟩
            (obtain ⟨za, zc, rfl, _, _⟩ := Rd.shape2 hrz); (obtain ⟨gl, hgl⟩ : ∃ l, g.p.length = l := ⟨_, rfl⟩); (rw [hgl] at c0 hpl2); (have hqm : Hd (i + 1 ≤ maxLen ∧ (i + 1) * 96 ≤ 140737488355328) := ⟨by have hm : maxLen = 9223372036854775807 := rfl; omega⟩); (have HO1 := hid (fun (W : World) => ratof_any 1 W (by omega))); (rw [show ((1 : Nat) : Int) = 1 from rfl] at HO1); (obtain ⟨w9, hw9, g9, k9⟩ := alloc_named wr (.cells #[.slice za gl zc, .int .i64 (N : Int)] 105)); (obtain ⟨G, hG9⟩ : ∃ x, wr.heap.size = x := ⟨_, rfl⟩); (have g9' := hid g9); (have hkb9 := hid (k9.blk hkbp.out)); (have hO9 := hid (hO.out.keptNo k9)); (have hK9 := hid (hK.out.trans' k9)); (have hgl' := hid hgl); (clear hpk hrz hgn htk hN0 hpl hpcl hgl hil k9 g9 hkbp hO hK kwr); (go_upto_region 13 with fail); (rw [← hw9]); (try rw [hG9]); (rw [hG9] at g9'); (clear hw9 hG9 c0 c1); (have s0 : Hd (w9.cell? ⟨G, 0, none⟩ = some (.slice za gl zc)) := ⟨cell_at g9'.out rfl⟩); (have s1 : Hd (w9.cell? ⟨G, 1, none⟩ = some (.int .i64 (N : Int))) := ⟨cell_at g9'.out rfl⟩); (have d12 : Hd (w9.cell? ⟨gk, 12, none⟩ = some (.slice pa i pcp)) := ⟨cell_at hkb9.out rfl⟩); (have hugk : Hd (∀ j, (Value.slice pa i pcp).ownBlock = some j → j ≠ gk) := ⟨fun j hj ej => own_ne hO9.out.own hkb9.out (by decide) j hj ej⟩); (have hgkl : Hd (gk < w9.heap.size) := ⟨lt_of_heap hkb9.out⟩); (have hsz5 : Hd (w5.heap.size ≤ w9.heap.size) := ⟨hK9.out.size⟩); (refine region_flow (S := (fun j => ob (.slice pa i pcp) j ∨ j = gk)) (Sl := (fun j l => (j = 12 ∧ ob (.slice pa i pcp) l) ∨ (j = 15 ∧ l = gk))) [Is (.pointer (some ⟨gk, 0, none⟩)), Is (.pointer (some ⟨gk, 0, none⟩)), Is (.pointer (some ⟨gk, 0, none⟩)), Is (.pointer (some ⟨gk, 12, none⟩)), Is (.slice pa i pcp), Is (.pointer (some ⟨G, 0, none⟩)), Is (.slice za gl zc), Is (.pointer (some ⟨G, 1, none⟩)), Is (.int .i64 (N : Int)), PRQ 1 1, PPb (.slice za gl zc) N, PPq g.p (.slice za gl zc) N, PPa pc g.p (.slice za gl zc) N w5.heap.size, Is (.pointer (some ⟨gk, 0, none⟩)), Is (.pointer (some ⟨gk, 12, none⟩)), PPs X gk (.slice (some ⟨gs, 0, none⟩) X.n X.n) (.slice (some ⟨ge, 0, none⟩) X.n kc) pc g.p (.slice za gl zc) N w5.heap.size] [12, 15] (fun j l h => h.elim (fun h => .inl h.2) (fun h => .inr h.2)) _ (by kernel_rfl) (by kernel_rfl) (by kernel_rfl) (by kernel_rfl) (fun x => by simp only [puts, Act.put, List.map_cons, List.map_nil, Nat.zero_add, Nat.reduceAdd, List.setIfInBounds_toArray, List.set_cons_zero, List.set_cons_succ]; exact rfl) ?_ ?_)
            · (skip); (refine .cons (fun x wf Kk hq hdep hold => ?_) ?_)
              · (try dsimp only); (clear hq hdep hold); (refine opv rfl ?_); (first | rfl | go_simp)
              refine .cons (fun x wf Kk hq hdep hold => ?_) ?_
              · (try dsimp only); (clear hq hdep hold); (refine opv rfl ?_); (first | rfl | go_simp)
              refine .cons (fun x wf Kk hq hdep hold => ?_) ?_
              · (try dsimp only); (have h1 : x 1 = _ := hdep 1 (by kernel_rfl)); (clear hq hdep hold); (simp only [h1]); (clear h1); (refine opv rfl ?_); (first | rfl | go_simp)
              refine .cons (fun x wf Kk hq hdep hold => ?_) ?_
              · (try dsimp only); (have h2 : x 2 = _ := hdep 2 (by kernel_rfl)); (clear hq hdep hold); (simp only [h2]); (clear h2); (refine opv rfl ?_); (first | rfl | go_simp)
              refine .cons (fun x wf Kk hq hdep hold => ?_) ?_
              · (try dsimp only); (have h3 : x 3 = _ := hdep 3 (by kernel_rfl)); (have Kq := hq no (fun _ hj => (noMem (by kernel_rfl) hj).elim)); (clear hq hdep hold); (simp only [h3]); (clear h3); (have m1 := Kq.undrew.cell d12.out id); (refine opv rfl ?_); (first | rfl | go_simp)
              refine .cons (fun x wf Kk hq hdep hold => ?_) ?_
              · (try dsimp only); (clear hq hdep hold); (refine opv rfl ?_); (first | rfl | go_simp)
              refine .cons (fun x wf Kk hq hdep hold => ?_) ?_
              · (try dsimp only); (have h5 : x 5 = _ := hdep 5 (by kernel_rfl)); (have Kq := hq no (fun _ hj => (noMem (by kernel_rfl) hj).elim)); (clear hq hdep hold); (simp only [h5]); (clear h5); (have m1 := Kq.undrew.cell s0.out id); (refine opv rfl ?_); (first | rfl | go_simp)
              refine .cons (fun x wf Kk hq hdep hold => ?_) ?_
              · (try dsimp only); (clear hq hdep hold); (refine opv rfl ?_); (first | rfl | go_simp)
              refine .cons (fun x wf Kk hq hdep hold => ?_) ?_
              · (try dsimp only); (have h7 : x 7 = _ := hdep 7 (by kernel_rfl)); (have Kq := hq no (fun _ hj => (noMem (by kernel_rfl) hj).elim)); (clear hq hdep hold); (simp only [h7]); (clear h7); (have m1 := Kq.undrew.cell s1.out id); (refine opv rfl ?_); (first | rfl | go_simp)
              refine .cons (fun x wf Kk hq hdep hold => ?_) ?_
              · (try dsimp only); (have Kq := hq no (fun _ hj => (noMem (by kernel_rfl) hj).elim)); (clear hq hdep hold); (rw [if_pos (by rfl)]); (refine OpY.call (f := 57) (args := #[(.int .i64 1)]) (by go_simp) ?_); (refine (HO1.out wf).mono ?_); (rintro e w7 ⟨v, rfl, o⟩); (have ok := o.kept); (exact ⟨_, rfl, ok, o.limbs⟩)
              refine .cons (fun x wf Kk hq hdep hold => ?_) ?_
              · (try dsimp only); (have h6 : x 6 = _ := hdep 6 (by kernel_rfl)); (have h8 : x 8 = _ := hdep 8 (by kernel_rfl)); (have p9 : Pr.p (Sl := (fun j l => (j = 12 ∧ ob (.slice pa i pcp) l) ∨ (j = 15 ∧ l = gk))) (PRQ 1 1) (x 9) wf := hdep 9 (by kernel_rfl)); (have Kq := hq no (fun _ hj => (noMem (by kernel_rfl) hj).elim)); (clear hq hdep hold); (simp only [h6, h8]); (clear h6 h8); (rw [if_pos (by rfl)]); (obtain ⟨y, ey, hy1, hy2, hy3, hy4⟩ := p9); (obtain ⟨⟨ya, yc, eya⟩, ⟨yb, yd, eyb⟩⟩ := RQ.shape ⟨hy3, hy4⟩); (rw [ey]); (refine OpY.val (v := .agg #[(.slice za gl zc), .int .i64 (N : Int), .int .i64 0, .bool false, y.a, y.b]) ?_ ⟨Kept.refl _ _, y, rfl, hy1, hy2, hy3, hy4⟩); (rw [eya, eyb]); (go_simp)
              refine .cons (fun x wf Kk hq hdep hold => ?_) ?_
              · (try dsimp only); (have p10 : Pr.p (Sl := (fun j l => (j = 12 ∧ ob (.slice pa i pcp) l) ∨ (j = 15 ∧ l = gk))) (PPb (.slice za gl zc) N) (x 10) wf := hdep 10 (by kernel_rfl)); (have Kq := hq no (fun _ hj => (noMem (by kernel_rfl) hj).elim)); (clear hq hdep hold); (rw [if_pos (by rfl)]); (obtain ⟨y, ey, hy1, hy2, hy3, hy4⟩ := p10); (rw [ey]); (refine OpY.build 117 122 1 _ rfl 6 _ Tryz.underlying117 infPc (by decide) (by decide) [(.slice za gl zc), .int .i64 (N : Int), .int .i64 0, .bool false, y.a, y.b] [(0, .agg #[(.slice za gl zc), .int .i64 (N : Int), .int .i64 0, .bool false, y.a, y.b])] rfl (fill_pc (.slice za gl zc) (N : Int) y.a y.b) rfl (by decide) ?_); (intro w' hg k ho); (exact ⟨k, y, Rd.of_own ho, hy1, hy2, k.ownsRow hy3 fun _ _ => id, k.ownsRow hy4 fun _ _ => id⟩)
              refine .cons (fun x wf Kk hq hdep hold => ?_) ?_
              · (try dsimp only); (have h4 : x 4 = _ := hdep 4 (by kernel_rfl)); (have p11 : Pr.p (Sl := (fun j l => (j = 12 ∧ ob (.slice pa i pcp) l) ∨ (j = 15 ∧ l = gk))) (PPq g.p (.slice za gl zc) N) (x 11) wf := hdep 11 (by kernel_rfl)); (have Kq := hq no (fun _ hj => (noMem (by kernel_rfl) hj).elim)); (clear hq hdep hold); (simp only [h4]); (clear h4); (rw [if_pos (by rfl)]); (obtain ⟨y, ry, hy1, hy2, hy3, hy4⟩ := p11); (have hO3 := hO9.out.keptNo Kq.undrew); (have hsh := RQ.shape ⟨hy3, hy4⟩); (refine OpY.append (.tmp 65) (.tmp 72) 117 _ rfl rfl 122 6 96 TParcels (.slice pa i pcp) i _ rfl (by have := hO3.own; rw [hpcl'.out] at this; exact this) (x 11) 1 (cP ⟨g.p, (.slice za gl zc), N, 0, y⟩) rfl ry (by obtain ⟨⟨ya, yc, eya⟩, ⟨yb, yd, eyb⟩⟩ := hsh; intro u hu; unfold cP at hu; simp only [eya, eyb] at hu; simp at hu; rcases hu with rfl | rfl | rfl | rfl | rfl | rfl <;> rfl) hqm.out.1 hqm.out.2 ?_); (intro v2 w7 h2 h3 h4 _); (refine ⟨h3.mono fun k _ h => Or.inl ⟨by trivial, h⟩, y, hy1, hy2, ⟨by rw [List.length_append, List.length_singleton, hpcl'.out, List.flatMap_append]; simpa using h2, fun z hz => ?_⟩, fun j hj => (newOr_r h4 j hj).elim (fun h => hN.out j h) fun h => by have := hsz5.out; have := Kq.undrew.size; omega⟩); (have hu : ∀ j, ob (.slice pa i pcp) j → ∃ c t fr, wf.heap[j]? = some (.cells c t fr) ∧ t ≠ 202 := fun j hj => by obtain ⟨c, hc⟩ := own_blkT hO3.own j hj; exact ⟨c, _, _, hc, by decide⟩)
                rcases List.mem_append.1 hz with hz | hz
                · exact ⟨(hO3.one z hz).1.keptS h3 hu, (hO3.one z hz).2.keptS h3 hu⟩
                · rw [List.mem_singleton.1 hz]; exact ⟨hy3.keptS h3 hu, hy4.keptS h3 hu⟩
              refine .cons (fun x wf Kk hq hdep hold => ?_) ?_
              · (try dsimp only); (have h0 : x 0 = _ := hdep 0 (by kernel_rfl)); (clear hq hdep hold); (simp only [h0]); (clear h0); (refine opv rfl ?_); (first | rfl | go_simp)
              refine .cons (fun x wf Kk hq hdep hold => ?_) ?_
              · (try dsimp only); (have h13 : x 13 = _ := hdep 13 (by kernel_rfl)); (clear hq hdep hold); (simp only [h13]); (clear h13); (refine opv rfl ?_); (first | rfl | go_simp)
              refine .cons (fun x wf Kk hq hdep hold => ?_) ?_
              · (try dsimp only); (have h14 : x 14 = _ := hdep 14 (by kernel_rfl)); (have p12 : Pr.p (Sl := (fun j l => (j = 12 ∧ ob (.slice pa i pcp) l) ∨ (j = 15 ∧ l = gk))) (PPa pc g.p (.slice za gl zc) N w5.heap.size) (x 12) wf := hdep 12 (by kernel_rfl)); (have Kq := hq (ob (.slice pa i pcp)) (fun j hj k hk => by (have e : ∀ l : List Nat, l = [12] → j ∈ l → j ∈ ([12] : List Nat) := fun l h h2 => h ▸ h2); have hj := e _ (by kernel_rfl) hj; obtain rfl := List.mem_singleton.1 hj; rcases hk with h | h; exact h.2; exact absurd h.1 (by decide))); (clear hq hdep hold); (simp only [h14]); (clear h14); (rw [if_pos (by rfl)]); (obtain ⟨y9, hy1, hy2, o9, n9⟩ := p12); (have hb := (Kq.undrew.block gk hgkl.out (fun h => hugk.out gk h rfl)).trans hkb9.out); (have fz := row_free hb 12); (have c1 : wf.cell? ⟨gk, 12, none⟩ = some (.slice pa i pcp) := cell_at hb rfl); (obtain ⟨_, ax, cx, e11, _⟩ := Rd.of_own o9.own); (rw [e11] at o9 n9 ⊢); (rw [List.length_append, hpcl'.out, List.length_singleton] at o9 n9 ⊢); (have kS := (Kept.refl (fun k => k = gk) wf).setCell (a := ⟨gk, 12, none⟩) (.inl rfl) (.slice ax (i + 1) cx)); (refine OpY.skipY (w' := wf.setCell ⟨gk, 12, none⟩ (.slice ax (i + 1) cx)) (by go_simp) ⟨kS.mono fun k _ h => Or.inr ⟨by trivial, h⟩, _, y9, hy1, hy2, o9.keptS kS (fun j hj (ej : j = gk) => own_ne o9.own hb (by decide) j hj ej) (fun j (ej : j = gk) => by subst ej; exact ⟨_, _, _, hb, by decide⟩), n9, by rw [setCell_row hb]; rfl⟩)
              exact .nil _
            · (intro x wf Kk hv); (try dsimp only); (have p15 : Pr.p (Sl := (fun j l => (j = 12 ∧ ob (.slice pa i pcp) l) ∨ (j = 15 ∧ l = gk))) (PPs X gk (.slice (some ⟨gs, 0, none⟩) X.n X.n) (.slice (some ⟨ge, 0, none⟩) X.n kc) pc g.p (.slice za gl zc) N w5.heap.size) (x 15) wf := hv 15 (by kernel_rfl)); (clear hv); (obtain ⟨v8, x8, hx1, hx2, hO8, hN8, hb8⟩ := p15); (have hpl8 := hid (hpl2.out x8 hx1 hx2)); (have hO8' := hid hO8); (have hN8' := hid hN8); (have hb8' := hid hb8); (have hlen8 : (pc ++ [(⟨g.p, .slice za gl zc, N, 0, x8⟩ : Pc)]).length = i + 1 := by rw [List.length_append, hpcl'.out]; rfl)
              have hK8 := hid (hK9.out.trans Kk.undrew fun j hj hs => by
                rcases hs with hs | hs
                · have := hN.out j hs; omega
                · exact hs)
              (obtain ⟨w8, hw8⟩ : ∃ W, wf = W := ⟨_, rfl⟩); (rw [hw8] at hO8' hb8' hK8 ⊢); (clear Kk hO8 hN8 hb8 hw8 hO9 hN hkb9 hK9 hpl2 d12 hugk hgkl hqm HO1 hx1 hx2 hsz5 hpcl' s0 s1 g9'); (go_wp2); (go_roundw)
              case rel => first | exact ⟨i + 1, v8, _, by omega, by go_num, hpl8, hlen8, hO8', hN8', hb8', hK8⟩ | ((repeat apply Exists.intro); exact ⟨⟨i + 1, v8, _, by omega, by go_num, hpl8, hlen8, hO8', hN8', hb8', hK8⟩, rfl⟩)
              case measure => simp [intOf]; omega
          · (obtain rfl : pn = i := by omega); (have hi1 : ¬ (pn : Int) < (pn : Int) := by omega)
            obtain ⟨gp, rfl⟩ : ∃ gp, pa = some ⟨gp, 0, none⟩ := by
              obtain ⟨_, ⟨h, h0⟩ | ⟨g', c', cur, h, _⟩⟩ := hO.out.own
              · exfalso; rw [hpcl'.out] at h0; omega
              · injection h with h _ _; exact ⟨g', h⟩
            (obtain ⟨X', hX'⟩ : ∃ X' : GC, X' = { X with m := pn, cap := pcp, kc := kc } := ⟨_, rfl⟩); (have xn : X'.n = X.n := by rw [hX']); (have xs : X'.seats = X.seats := by rw [hX']); (have xt : X'.total = X.total := by rw [hX']); (have xq : X'.quo = X.quo := by rw [hX']); (have xm : X'.m = pn := by rw [hX']); (have hRun := hR'.out pn pcp kc); (rw [← hX'] at hRun); (have hGp : w5.heap.size ≤ gp := hN.out gp rfl)
            have hG0 : Hd (GS X' gk gs gp ge (List.replicate X.n 0) (pls0 ps) (List.replicate X.n (1, 1)) 0 0 [] [] (.slice none 0 0) (.slice none 0 0) (.slice none 0 0) w3 wr) := ⟨⟨by rw [hX']; exact hkbp.out, (hK.out.block gs (lt_of_heap sb5.out) (Ne.symm hgs4.out)).trans sb5.out, by rw [xn]; simp,
              ⟨pc, by rw [hpl.out, List.take_of_length_le (by unfold pls0; rw [List.length_map, hpn1'.out]; exact Nat.le_refl _)], by rw [hX']; exact ⟨by have := hO.out.own; rw [hpcl'.out] at this; exact this, hpcl'.out, hO.out.one⟩⟩,
              ⟨qs, hpq.out, by rw [hX']; exact hQ.out.keptS hK.out (fun j hj (ej : j = gk) => own_ne hQ.out.own hkb.out (by decide) j hj ej) fun j (ej : j = gk) => by subst ej; exact ⟨_, _, _, hkb.out, by decide⟩⟩,
              ⟨[], World.ownsRow_nil _ _ _ _, .inl rfl⟩, ⟨World.ownsRow_nil _ _ _ _, (fun r hr => by cases hr), .inl rfl⟩, ⟨World.ownsRow_nil _ _ _ _, .inl rfl, fun j hj => by cases hj⟩,
              hn0.out.1, hn0.out.2, by have := k45.out.size; omega, by have := k34.out.size; have := hge4.out; omega, kwr.out⟩⟩
            have hpr0 : Hd (∀ x ∈ pls0 ps, RdZ w3 x.pv x.prefs) := ⟨fun x hx => by
              (unfold pls0 at hx); (obtain ⟨y, hy, rfl⟩ := List.mem_map.1 hx)
              exact RdZ.kept (rg'.out.1 y hy) k03.out⟩
            (obtain ⟨KL, hKL⟩ : ∃ l, ks.length = l := ⟨_, rfl⟩); (rw [hKL] at hks); (have hRun' := hid hRun); (have hKL' := hid hKL); (have hwl' := hid hwl); (have hfc := hid (And.intro xn (And.intro xs (And.intro xt (And.intro xq xm))))); (clear hRun hKL hwl xn xs xt xq xm hGp hpl hpcl hO hN hkbp hK hpq hQ sb5 hkb rg5 hge4 hR' rg' evg hpcl' hX'); (go_wp2)
            go_loopw [] (fun wq => ∃ (S : PSt) (em : Nat) (rs : List RdC) (wl1 : List Int) (ev tr tw : Value) (ks2 : List (List (Nat × Nat) × Nat)) (wl2 : List Int), Hd (Runs X' S ks2 wl2) ∧ Hd (GS X' gk gs gp ge S.st S.pls S.kpq S.f em rs wl1 ev tr tw w3 wq) ∧ em = rs.length ∧ rs.length + ks2.length = KL ∧ Hd (rs.map (fun r => (r.kpq, r.e.p)) ++ ks2 = ks) ∧ Hd (wl1 ++ wl2 = wl) ∧ Hd (∀ r ∈ rs, r.e.q = 1) ∧ Hd (∀ x ∈ S.pls, RdZ w3 x.pv x.prefs)) (fun wq => KL - trW wq gk)
            case atStart => exact ⟨_, 0, [], [], (.slice none 0 0), (.slice none 0 0), (.slice none 0 0), ks, wl, hRun', hG0, rfl, by simpa using hKL'.out, ⟨rfl⟩, ⟨rfl⟩, ⟨fun r hr => by cases hr⟩, hpr0⟩
            case round =>
              (obtain ⟨S, em, rs, wl1, ev, tr, tw, ks2, wl2, hRu, hG, hem, hlen, hkk, hww, hqq, hpr⟩ := hrel); (obtain ⟨hok, S', el, hcs⟩ := hRu.out.cases)
              have htr : ∀ (S : PSt) (em : Nat) (rs : List RdC) (wl1 : List Int) (ev tr tw : Value) (W : World), GS X' gk gs gp ge S.st S.pls S.kpq S.f em rs wl1 ev tr tw w3 W → trW W gk = rs.length := fun S em rs wl1 ev tr tw W h => by
                (obtain ⟨_, a, c, e9, _⟩ := Rd.of_own h.tro.own); (have hc : W.cell? ⟨gk, 21, none⟩ = some tr := cell_at h.kb rfl); (unfold trW); (rw [hc, e9])
              have htr1 := hid (htr _ _ _ _ _ _ _ _ hG.out)
              have hw1 : wl1.length ≤ 1000 := by
                (have := congrArg List.length hww.out); (rw [List.length_append] at this); (have := hwl'.out)
                omega
              obtain ⟨last, hla⟩ : ∃ b : Bool, b = true ∧ (RCase X' (S.V X') S.st S.pls S.kpq S.f S'.st S'.pls S'.kpq S'.f el true ∧ ks2 = [(S.kpq, X'.total - (S.V X').sum)] ∧ wl2 = el) ∨ b = false ∧ (∃ ks' wl', RCase X' (S.V X') S.st S.pls S.kpq S.f S'.st S'.pls S'.kpq S'.f el false ∧ Runs X' S' ks' wl' ∧ ks2 = (S.kpq, X'.total - (S.V X').sum) :: ks' ∧ wl2 = el ++ wl') := by
                rcases hcs with h | h
                · exact ⟨true, .inl ⟨rfl, h⟩⟩
                · exact ⟨false, .inr ⟨rfl, h⟩⟩
              have hRC : RCase X' (S.V X') S.st S.pls S.kpq S.f S'.st S'.pls S'.kpq S'.f el last := by
                rcases hla with ⟨rfl, h, _⟩ | ⟨rfl, _, _, h, _⟩ <;> exact h
              (obtain ⟨f1, f2, f3, f4, f5⟩ := hfc.out); (have hQ' := hQ.out); (have hdl := Nat.div_le_self Mk (X.seats + 1)); (have HRd := hid (greground_any X' gk gs gp ge S.f S'.f em S.st S'.st S.pls S'.pls S.kpq S'.kpq rs wl1 el last ev tr tw (S.V X') w3 wr hG.out (by omega) (by omega) (by omega) (by omega) (by omega) hok.f (by omega) (by omega) hw1 hok.pl hpr.out hok.vb rfl hok.vs hok.sum hRC)); (have hpf := hid hRC.prefs); (have hla' := hid hla); (clear hla hRC hcs hok hRu hw1 f1 f2 f3 f4 f5 hQ' hdl hG); (go_wp2_with fail); (with_reducible refine HRd.out.mono ?_); (rintro e7 w7 hRR); (obtain ⟨rfl, r, ev', tr', tw', h1, h2, h3, hG7⟩ := hRR)
              have hqq7 : Hd (∀ x ∈ rs ++ [r], x.e.q = 1) := ⟨fun x hx => by
                rcases List.mem_append.1 hx with hx | hx
                · exact hqq.out x hx
                · rw [List.mem_singleton.1 hx]; exact h3⟩
              (have hG7' := hid hG7); (have htr7 := hid (htr _ _ _ _ _ _ _ _ hG7))
              rcases hla'.out with ⟨hb, _, hk2, hw2⟩ | ⟨hb, ks', wl', _, hR2, hk2, hw2⟩
              · (have hkk7 : Hd ((rs ++ [r]).map (fun r => (r.kpq, r.e.p)) = ks) := ⟨by rw [List.map_append, List.map_cons, List.map_nil, h1, h2, ← hkk.out, hk2]⟩); (have hww7 : Hd (wl1 ++ el = wl) := ⟨by rw [← hww.out, hw2]⟩); (obtain ⟨_, ta, tc, etr, _⟩ := Rd.of_own hG7.tro.own); (obtain ⟨_, ua, uc, etw, _⟩ := Rd.of_own hG7.two.1); (obtain ⟨tn, htn⟩ : ∃ l, (rs ++ [r]).length = l := ⟨_, rfl⟩); (obtain ⟨un, hun⟩ : ∃ l, (wl1 ++ el).length = l := ⟨_, rfl⟩); (rw [htn] at etr); (rw [hun] at etw); (subst etr etw); (have hb7 := hid hG7.kb); (have g67 := hid (hG7.kept.blk g63.out)); (subst hb); (have hfc' := hfc.out); (clear hla' h1 h2 h3 hG7 hk2 hw2 hkk hww hqq htr HRd htr7 htn hun); (go_upto_region 16 with fail); (have t0q : w7.cell? ⟨gk, 17, none⟩ = some (.int .i64 3) := cell_at hb7.out rfl); (have t1q : w7.cell? ⟨gk, 18, none⟩ = some (.int .i64 (X.seats : Int)) := by rw [← hfc'.2.1]; exact cell_at hb7.out rfl); (have t2q : w7.cell? ⟨gk, 19, none⟩ = some (.int .i64 0) := cell_at hb7.out rfl); (have t3q : w7.cell? ⟨gk, 20, none⟩ = some (.int .i64 (X.n : Int)) := by rw [← hfc'.1]; exact cell_at hb7.out rfl); (have t4q : w7.cell? ⟨gk, 21, none⟩ = some (.slice ta tn tc) := cell_at hb7.out rfl); (have t5q : w7.cell? ⟨gk, 22, none⟩ = some (.slice ua un uc) := cell_at hb7.out rfl); (have e0q : w7.cell? ⟨G6, 0, none⟩ = some (.int .i64 0) := cell_at g67.out rfl); (have ef0q := row_free g67.out 0); (have e1q : w7.cell? ⟨G6, 1, none⟩ = some (.int .i64 0) := cell_at g67.out rfl); (have ef1q := row_free g67.out 1); (have e2q : w7.cell? ⟨G6, 2, none⟩ = some (.int .i64 0) := cell_at g67.out rfl); (have ef2q := row_free g67.out 2); (have e3q : w7.cell? ⟨G6, 3, none⟩ = some (.int .i64 0) := cell_at g67.out rfl); (have ef3q := row_free g67.out 3); (have e4q : w7.cell? ⟨G6, 4, none⟩ = some (.slice none 0 0) := cell_at g67.out rfl); (have ef4q := row_free g67.out 4); (have e5q : w7.cell? ⟨G6, 5, none⟩ = some (.slice none 0 0) := cell_at g67.out rfl); (have ef5q := row_free g67.out 5); (have kS3 := (((((((Kept.refl (fun j => j = G6) w7).setCell (a := ⟨G6, 0, none⟩) (.inl rfl) (.int .i64 3)).setCell (a := ⟨G6, 1, none⟩) (.inl rfl) (.int .i64 (X.seats : Int))).setCell (a := ⟨G6, 2, none⟩) (.inl rfl) (.int .i64 0)).setCell (a := ⟨G6, 3, none⟩) (.inl rfl) (.int .i64 (X.n : Int))).setCell (a := ⟨G6, 4, none⟩) (.inl rfl) (.slice ta tn tc)).setCell (a := ⟨G6, 5, none⟩) (.inl rfl) (.slice ua un uc))); (have gF := hid (set6_row g67.out (.int .i64 3) (.int .i64 (X.seats : Int)) (.int .i64 0) (.int .i64 (X.n : Int)) (.slice ta tn tc) (.slice ua un uc))); (have kFin : Hd (Kept no w _) := ⟨(k03.out.trans' hG7'.out.kept).trans kS3 fun j hj (e : j = G6) => by have := hGl.out.1; omega⟩)
                have hTr : Hd (OwRs w _ ge (.slice ta tn tc) (rs ++ [r])) := ⟨by
                  have := hG7'.out.tro.keptS kS3 (fun j hj (ej : j = G6) => own_ne hG7'.out.tro.own g67.out (by decide) j hj ej) fun j (ej : j = G6) => by subst ej; exact ⟨_, _, _, g67.out, by decide, .inl (by decide)⟩
                  exact ⟨this.own, this.one, this.new.of k03.out.size⟩⟩
                have hTw : Hd (RdZ _ (.slice ua un uc) wl) := ⟨by
                  (have := own_RdZ (zs := wl1 ++ el) (kS3.ownsRow hG7'.out.two.1 fun j hj (ej : j = G6) => own_ne hG7'.out.two.1 g67.out (by decide) j hj ej)); (rw [hww7.out] at this)
                  exact this⟩
                (clear kS3); (go_wp2); (refine bodyPost_ret (v := .tuple #[.agg #[.int .i64 3, .int .i64 (X.seats : Int), .int .i64 0, .int .i64 (X.n : Int), .slice ta tn tc, .slice ua un uc], .int .i64 0]) ?_ rfl ?_)
                · exact results_tr rfl _ _ G6 _ rfl _ rfl rfl gF.out
                · exact ⟨_, _, rs ++ [r], ge, rfl, hkk7.out, hqq7.out, hTr.out, hTw.out, kFin.out⟩
              · (subst hb); (have hkk7 : Hd ((rs ++ [r]).map (fun r => (r.kpq, r.e.p)) ++ ks' = ks) := ⟨by rw [List.map_append, List.map_cons, List.map_nil, h1, h2, List.append_assoc, List.singleton_append, ← hkk.out, hk2]⟩); (have hww7 : Hd ((wl1 ++ el) ++ wl' = wl) := ⟨by rw [← hww.out, hw2, List.append_assoc]⟩)
                have hln7 : (rs ++ [r]).length + ks'.length = KL := by
                  (rw [hk2] at hlen); (rw [List.length_append, List.length_singleton]); (simp only [List.length_cons] at hlen)
                  omega
                (have hln8 : rs.length + 1 ≤ KL := by rw [List.length_append, List.length_singleton] at hln7; omega); (have hem7 : em + 1 = (rs ++ [r]).length := by rw [List.length_append, List.length_singleton, hem])
                have hpr7 : Hd (∀ x ∈ S'.pls, RdZ w3 x.pv x.prefs) := ⟨fun y hy => by
                  (obtain ⟨x, hx, e1, e2⟩ := hpf.out y hy); (rw [e1, e2])
                  exact hpr.out x hx⟩
                (have hR2' := hid hR2); (have hms : Hd (KL - trW w7 gk < KL - trW wr gk) := ⟨by rw [htr7.out, htr1.out, List.length_append, List.length_singleton]; omega⟩); (clear hla' h1 h2 h3 hG7 hk2 hw2 hkk hww hqq htr HRd htr7 htr1 hR2 hpr hpf hlen); (go_wp2); (go_roundw)
                case rel => first | exact ⟨S', em + 1, rs ++ [r], wl1 ++ el, ev', tr', tw', ks', wl', hR2', hG7', hem7, hln7, hkk7, hww7, hqq7, hpr7⟩ | ((repeat apply Exists.intro); exact ⟨⟨S', em + 1, rs ++ [r], wl1 ++ el, ev', tr', tw', ks', wl', hR2', hG7', hem7, hln7, hkk7, hww7, hqq7, hpr7⟩, rfl⟩)
                case measure => exact hms.out
end Go.Proofs.YtaobaaaihgahfaaGreat
