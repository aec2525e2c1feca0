/- Package suffice: contradicted; lists of assertions in memory. -/
import Derived.Test.YtaobaaaihgahfaaGreatAs4Q
import Derived.Test.YtaobaaaihgahfaaGreatFitQ
import Derived.RangeFuncFrom
import Derived.RangeFuncLeaves
namespace Go.Proofs.YtaobaaaihgahfaaGreat
open Go.RowKit Go.Mk Go.Pil Go.Mg Go.Nr Go.Sort
/-- The cells of an assertion. -/
def asC (x : As × Value) : List Value := [.int .i64 x.1.k, .int .i64 x.1.a, .int .i64 x.1.b, x.2, .int .i64 x.1.q]
/-- A list of assertions. -/
def RdA (w : World) (v : Value) (xs : List (As × Value)) : Prop := (∀ x ∈ xs, RdZ w x.2 x.1.am) ∧ Rd w 5 v xs.length (xs.flatMap asC)
theorem RdA.kept {w w' : World} {v : Value} {xs : List (As × Value)} (h : RdA w v xs) (k : Kept no w w') : RdA w' v xs := ⟨fun x hx => (h.1 x hx).kept k, h.2.keptNo k⟩
theorem RdA.shape {w : World} {v : Value} {xs : List (As × Value)} (h : RdA w v xs) : ∃ ao cap, v = .slice ao xs.length cap ∧ xs.length ≤ cap ∧ cap ≤ maxLen := Rd.shape2 h.2
theorem RdA.at {w : World} {ao : Option Addr} {n cap : Nat} {xs : List (As × Value)} (h : RdA w (.slice ao n cap) xs) (k : Nat) (hk : k < xs.length) :
    ∃ b o x v, ao = some ⟨b, o, none⟩ ∧ xs[k] = (x, v) ∧ RdZ w v x.am ∧ w.cell? ⟨b, o + k * 5, none⟩ = some (.int .i64 x.k) ∧ w.cell? ⟨b, o + k * 5 + 1, none⟩ = some (.int .i64 x.a) ∧ w.cell? ⟨b, o + k * 5 + 2, none⟩ = some (.int .i64 x.b) ∧ w.cell? ⟨b, o + k * 5 + 3, none⟩ = some v ∧ w.cell? ⟨b, o + k * 5 + 4, none⟩ = some (.int .i64 x.q) := by
  (obtain ⟨b, o, e, hr⟩ := Rd.row (f := asC) (sz := 5) (fun _ _ => rfl) h.2 k hk); (exact ⟨b, o, _, _, e, rfl, h.1 _ (List.getElem_mem hk), hr 0 _ rfl, hr 1 _ rfl, hr 2 _ rfl, hr 3 _ rfl, hr 4 _ rfl⟩)
theorem any_take {α : Type} (P : α → Bool) (l : List α) (k : Nat) (h : k < l.length) : (l.take (k + 1)).any P = ((l.take k).any P || P l[k]) := by
  rw [List.take_succ_eq_append_getElem h, List.any_append]; simp only [List.any_cons, List.any_nil, Bool.or_false]
set_option maxRecDepth 20000 in
set_option maxHeartbeats 2000000 in
theorem indexAs_any (F : Value) (fn : FuncId) (caps : Array Value) (hF : F = .func (.func fn) #[] caps) (P : As → Bool) (v : Value) (xs : List (As × Value)) (w : World) (hr : RdA w v xs)
    (eg : ∀ args w, (callFunc fn args).run Tryz.prog w = .ok (.enter fn args) w)
    (hc : ∀ W, Kept no w W → ∀ x ∈ xs, Calls Tryz.prog fn (#[asV x.1 x.2] ++ caps) W fun e w' => e = .returned (.bool (P x.1)) ∧ Kept no W w') :
    Calls Tryz.prog 135 #[v, F] w fun e w' => (∃ i : Int, e = .returned (.int .i64 i) ∧ decide (0 ≤ i) = xs.any fun x => P x.1) ∧ Kept no w w' := by
  (obtain ⟨ao, cap, rfl, hcap, hcm⟩ := hr.shape); (have hm63 := maxLen_63); (subst hF); (obtain ⟨m, hm⟩ : ∃ m, xs.length = m := ⟨_, rfl⟩); (have hml : m ≤ 9223372036854775807 := by omega); (rw [hm] at hr hcap ⊢); (replace hm := hid hm); (replace hr := hid hr); (replace hc := hid hc); (clear hcap hcm)
  go_enter Tryz.func135, Tryz.ntmps135
  go_upto_region 2 with fail
  go_loopw [8] (fun i wr => ∃ k : Nat, k ≤ m ∧ i = .int .i64 (k : Int) ∧ Hd ((xs.take k).any (fun x => P x.1) = false) ∧ Hd (Kept no w wr)) (fun i _ => m - (intOf i).toNat)
  case atStart => exact ⟨0, by omega, rfl, ⟨rfl⟩, ⟨Kept.refl _ _⟩⟩
  case round =>
    obtain ⟨k, hk, rfl, hA, hK⟩ := hrel
    by_cases hlt : k < m
    · (have hk1 : (k : Int) < (m : Int) := by omega); (have hk0 : (0 : Int) ≤ (k : Int) := by omega); (have hkl : k < xs.length := by rw [hm.out]; exact hlt); (have hK' := hid hK.out); (obtain ⟨b, o, x, u, hao, hx, hrz, c0, c1, c2, c3, c4⟩ := (hr.out.kept hK.out).at k hkl); (subst hao); (obtain ⟨au, lu, cu, rfl⟩ : ∃ au lu cu, u = .slice au lu cu := by obtain ⟨a, c, h, _⟩ := Rd.shape2 hrz; exact ⟨_, _, _, h⟩); (have HC := hc.out wr hK.out _ (List.getElem_mem hkl)); (have hat := any_take (fun x => P x.1) xs k hkl); (rw [hx] at HC hat); (rw [hA.out, Bool.false_or] at hat); (have hex := List.getElem_mem hkl); (rw [hx] at hex); (unfold asV at HC)
      dsimp only at HC hat
      have hat' := hid hat
      cases hb : P x with
      | true =>
        (rw [hb] at HC); (have hfin : Hd ((xs.any fun x => P x.1) = true) := ⟨List.any_eq_true.2 ⟨_, hex, hb⟩⟩); (replace HC := hid HC); (clear hx hrz hat hkl hA hex hb hK); (go_wp2_with (first | (go_at_fn fn; refine HC.out.mono ?_; rintro e w2 ⟨rfl, k2⟩) | fail)); (have hK2 := hid (hK'.out.trans' k2)); (clear HC k2); (go_wp2); (go_ret); (exact ⟨⟨(k : Int), rfl, by rw [hfin.out]; exact decide_eq_true hk0⟩, hK2.out⟩)
      | false =>
        (rw [hb] at HC); (have hA2 : Hd ((xs.take (k + 1)).any (fun x => P x.1) = false) := ⟨by rw [hat'.out]; exact hb⟩); (replace HC := hid HC); (clear hx hrz hat hkl hA hex hb hK); (go_wp2_with (first | (go_at_fn fn; refine HC.out.mono ?_; rintro e w2 ⟨rfl, k2⟩) | fail)); (have hK2 := hid (hK'.out.trans' k2)); (clear HC k2 c0 c1 c2 c3 c4); (go_wp2); (go_roundw)
        case rel => first | exact ⟨k + 1, by omega, by go_num, hA2, hK2⟩ | ((repeat apply Exists.intro); exact ⟨⟨k + 1, by omega, by go_num, hA2, hK2⟩, rfl⟩)
        case measure => simp [intOf]; omega
    · (have hk1 : ¬ (k : Int) < (m : Int) := by omega); (have hfin : Hd ((xs.any fun x => P x.1) = false) := ⟨by have := hA.out; rwa [List.take_of_length_le (by rw [hm.out]; omega)] at this⟩); (go_wp2); (go_ret); (exact ⟨⟨-1, rfl, by rw [hfin.out]; rfl⟩, hK.out⟩)
set_option maxHeartbeats 1000000 in
theorem containsAs_any (F : Value) (fn : FuncId) (caps : Array Value) (hF : F = .func (.func fn) #[] caps) (P : As → Bool) (v : Value) (xs : List (As × Value)) (w : World) (hr : RdA w v xs)
    (eg : ∀ args w, (callFunc fn args).run Tryz.prog w = .ok (.enter fn args) w)
    (hc : ∀ W, Kept no w W → ∀ x ∈ xs, Calls Tryz.prog fn (#[asV x.1 x.2] ++ caps) W fun e w' => e = .returned (.bool (P x.1)) ∧ Kept no W w') :
    Calls Tryz.prog 71 #[v, F] w fun e w' => e = .returned (.bool (xs.any fun x => P x.1)) ∧ Kept no w w' := by
  (have HI := hid (indexAs_any F fn caps hF P v xs w hr eg hc)); (obtain ⟨ao, cap, rfl, _, _⟩ := hr.shape); (clear hr hc eg); (subst hF)
  go_enter Tryz.func71, Tryz.ntmps71
  (go_wp2_with fail); (with_reducible refine HI.out.mono ?_); (rintro e w2 ⟨⟨i, rfl, hi⟩, k2⟩); (have hi' := hid hi); (have k2' := hid k2); (clear HI hi k2); (go_wp2); (go_ret); (exact ⟨by rw [← hi'.out]; rfl, k2'.out⟩)
set_option maxHeartbeats 2000000 in
theorem ctr1_any (n : Nat) (x : As) (v vT : Value) (T : List Int) (g1 g2 : Nat) (w : World) (hn1 : 1 ≤ n) (hn : n ≤ 7) (hx : Ok n x) (hr : RdZ w v x.am) (hT : Tl n T) (ht : RdZ w vT T) (c1 : w.cell? ⟨g1, 0, none⟩ = some (.int .i64 (n : Int))) (c2 : w.cell? ⟨g2, 0, none⟩ = some vT) :
    Calls Tryz.prog 221 #[asV x v, .pointer (some ⟨g1, 0, none⟩), .pointer (some ⟨g2, 0, none⟩)] w fun e w' => e = .returned (.bool (ctr x T)) ∧ Kept no w w' := by
  (have HC := hid (fun (W : World) (k : Kept no w W) => ctrN_any n x v vT T W hn1 hn hx (RdZ.kept hr k) hT (RdZ.kept ht k))); (obtain ⟨ao, la, cap, rfl⟩ : ∃ ao la cap, v = .slice ao la cap := by obtain ⟨ao, cap, rfl, _⟩ := Rd.shape2 hr; exact ⟨_, _, _, rfl⟩); (obtain ⟨aT, lT, cT, rfl⟩ : ∃ ao la cap, vT = .slice ao la cap := by obtain ⟨ao, cap, rfl, _⟩ := Rd.shape2 ht; exact ⟨_, _, _, rfl⟩); (obtain ⟨r, hrr⟩ : ∃ r, ctr x T = r := ⟨_, rfl⟩); (rw [hrr] at HC ⊢); (unfold asV at HC ⊢); (obtain ⟨k, a, b, am, q⟩ := x)
  dsimp only at HC ⊢
  (obtain ⟨w1, hw1, g1_, k1⟩ := alloc_named w (.cells #[.int .i64 k, .int .i64 a, .int .i64 b, .slice ao la cap, .int .i64 q] 59)); (obtain ⟨B0, hB0⟩ : ∃ g, w.heap.size = g := ⟨_, rfl⟩); (rw [hB0] at g1_); (have k01 := hid k1); (have b0' := hid g1_); (have d1 := k1.cell c1 id); (have d2 := k1.cell c2 id); (replace hw1 := hid hw1); (replace hB0 := hid hB0); (clear hr hx hT ht c1 c2 k1 g1_ hrr)
  go_enter Tryz.func221, Tryz.ntmps221
  (go_upto_region 1 with fail); (rw [← hw1.out, hB0.out]); (have a0 : w1.cell? ⟨B0, 0, none⟩ = some (.int .i64 k) := cell_at b0'.out rfl); (have a1 : w1.cell? ⟨B0, 1, none⟩ = some (.int .i64 a) := cell_at b0'.out rfl); (have a2 : w1.cell? ⟨B0, 2, none⟩ = some (.int .i64 b) := cell_at b0'.out rfl); (have a3 : w1.cell? ⟨B0, 3, none⟩ = some (.slice ao la cap) := cell_at b0'.out rfl); (have a4 : w1.cell? ⟨B0, 4, none⟩ = some (.int .i64 q) := cell_at b0'.out rfl); (have HC1 := hid (HC.out w1 k01.out)); (clear HC); (go_wp2_with fail); (with_reducible refine HC1.out.mono ?_); (rintro e w2 ⟨rfl, k2⟩); (have kF := hid (k01.out.trans' k2)); (clear HC1 k2 a0 a1 a2 a3 a4 d1 d2); (go_wp2); (go_ret); (exact ⟨rfl, kF.out⟩)
set_option maxHeartbeats 2000000 in
theorem contra_any (n : Nat) (xs : List (As × Value)) (vl vT : Value) (T : List Int) (w : World) (hn1 : 1 ≤ n) (hn : n ≤ 7) (hok : ∀ x ∈ xs, Ok n x.1) (hl : RdA w vl xs) (hT : Tl n T) (ht : RdZ w vT T) :
    Calls Tryz.prog 192 #[.int .i64 (n : Int), vl, vT] w fun e w' => e = .returned (.bool (xs.any fun x => ctr x.1 T)) ∧ Kept no w w' := by
  (obtain ⟨al, cl, evl, _, _⟩ := hl.shape); (obtain ⟨aT, cT, evT, _, _⟩ := Rd.shape2 ht); (obtain ⟨w1, hw1, g1, k1⟩ := alloc_named w (.cells #[.int .i64 (n : Int)] 3)); (have e1 : w1.heap.size = w.heap.size + 1 := by rw [hw1]; simp); (obtain ⟨w2, hw2, g2, k2⟩ := alloc_named w1 (.cells #[vT] 26)); (obtain ⟨B0, hB0⟩ : ∃ g, w.heap.size = g := ⟨_, rfl⟩); (obtain ⟨B1, hB1⟩ : ∃ g, w1.heap.size = g := ⟨_, rfl⟩); (rw [hB0] at g1); (rw [hB1] at g2); (have q1 : Hd (B0 + 1 = B1) := ⟨by omega⟩); (have k02 := hid (k1.trans' k2)); (have c1 : w2.cell? ⟨B0, 0, none⟩ = some (.int .i64 (n : Int)) := cell_at (k2.blk g1) rfl); (have c2 : w2.cell? ⟨B1, 0, none⟩ = some vT := cell_at g2 rfl)
  have HC := hid (containsAs_any (.func (.func 221) #[] #[.pointer (some ⟨B0, 0, none⟩), .pointer (some ⟨B1, 0, none⟩)]) 221 #[.pointer (some ⟨B0, 0, none⟩), .pointer (some ⟨B1, 0, none⟩)] rfl (fun x => ctr x T) vl xs w2 (hl.kept k02.out) (enters_of Tryz.func221 (by kernel_rfl) rfl)
    (fun W k x hx => ctr1_any n x.1 x.2 vT T B0 B1 W hn1 hn (hok x hx) (((hl.1 x hx).kept k02.out).kept k) hT (RdZ.kept (RdZ.kept ht k02.out) k) (k.cell c1 id) (k.cell c2 id)))
  (obtain ⟨r, hrr⟩ : ∃ r, (xs.any fun x => ctr x.1 T) = r := ⟨_, rfl⟩); (rw [hrr] at HC ⊢); (rw [evl, evT]); (rw [evl] at HC); (rw [evT] at hw2); (replace hw1 := hid hw1); (replace hw2 := hid hw2); (replace hB0 := hid hB0); (clear hl ht hok hT g1 g2 k1 k2 e1 hB1 c1 c2 hrr evl evT)
  go_enter Tryz.func192, Tryz.ntmps192
  (go_upto_region 1 with fail); (rw [← hw1.out, hB0.out]); (try rw [q1.out]); (rw [← hw2.out]); (go_wp2_with fail); (with_reducible refine HC.out.mono ?_); (rintro e w3 ⟨rfl, k3⟩); (have kF := hid (k02.out.trans' k3)); (clear HC k3); (go_wp2); (go_ret); (exact ⟨rfl, kF.out⟩)
end Go.Proofs.YtaobaaaihgahfaaGreat

/- A range over a function that yields nothing; leaving a function that ranged. -/
namespace Go.Mk
open Go.RowKit
theorem kept_grown {w w' : World} (h : Kept no w w') : w.grownBy w' none := ⟨h.os, h.tape, h.output, h.size, fun k hk _ => h.block k hk id⟩
theorem below_kept {w w' : World} (h : Below w.heap.size w w') : Kept no w w' := ⟨h.os, h.tape, h.output, h.size, fun k hk _ => h.block k hk⟩
/-- A range over a function that never calls its loop's body. -/
theorem range_none {P : Program} {g : Operand} {ps : Array Tmp} {assign body : Code} {Q : Exit → Act → World → Prop} {a : Act} {w : World} {gf : Nat} {lb : Array Value}
    (hg : a.eval g = .func (.func gf) #[] lb) (eg : ∀ args w, (callFunc gf args).run P w = .ok (.enter gf args) w)
    (hc : ∀ (l : Nat) (W : World), Kept no w W → Calls P gf (#[.func (.yield l) #[] #[]] ++ lb) W fun e W' => (∃ v, e = .returned v) ∧ Kept no W W')
    (h : ∀ (D : Nat) (W : World), w.heap.size ≤ D → Kept no w W → W.heap[D]? = some (.deferred (some [])) → Q .normal { a with defers := { target := .collected D, args := #[] } :: a.defers } W) :
    (Code.rangeFunc g ps assign body).wp P Q a w := by
  refine (wpIn_wide (n := 9)).1 ?_
  refine wpIn_rangeFunc_ownF (F := Fence.wide) (n := 9) (α := Empty) rfl (by omega) (gf := gf) (lb := lb) hg trivial eg (encs := fun x => x.elim) (Kp := fun _ _ => True) (S := fun _ => True) (Sp := fun _ => True) (N := 0) (w0 := w) ?_ (fun _ _ => trivial) (fun _ _ _ _ _ _ _ _ => trivial) (Below.refl _ _) (fun x => x.elim)
    (fun _ W => Kept no w W) (fun _ _ _ => False) ?_ (fun _ _ _ _ _ hs _ _ => hs) (Kept.refl _ _) (fun x => x.elim) (fun _ x => x.elim) (fun _ _ x => x.elim) ?_ (fun _ _ _ _ _ _ h _ => h.elim)
  · (intro l J Jx W hW hJ _ _ h0); (refine callsIn_wide.2 ((hc l W (below_kept hW)).mono fun e W' ⟨he, k⟩ => ⟨he, .inl ⟨[], trivial, hJ [] W W' none h0 (kept_grown k) (fun r e => by cases e)⟩⟩))
  · (intro s A B row hs hg hr); (refine ⟨hg.os.trans hs.os, hg.tape.trans hs.tape, hg.output.trans hs.output, Nat.le_trans hs.size hg.size, fun k hk hn => ?_⟩); (refine (hg.block k (Nat.lt_of_lt_of_le hk hs.size) fun e => ?_).trans (hs.block k hk hn)); (have := (hr k e.symm).1)
    omega
  · (intro D xs W hD _ hk hK); (exact h D W hD hk hK)
def markOf (D : Nat) : Deferred := { target := .collected D, args := #[] }
/-- Leaving a function that has ranged over functions. -/
theorem leaves_marks {F : Fence} {n : Nat} {P : Program} {fn : Func} {tmps : Array Value} {R : Ending → World → Prop} {v : Value} (hres : ∀ w, (results fn tmps).run P w = .ok v w) (B : Nat) :
    ∀ (ds : List Nat) (w : World), ds.Nodup → (∀ D ∈ ds, B ≤ D ∧ w.heap[D]? = some (.deferred (some []))) → (∀ w', Below B w w' → R (.returned v) w') → LeavesInM F n P fn tmps R (ds.map markOf) .returning w := by
  intro ds
  induction ds with
  | nil => intro w _ _ h; exact ⟨v, hres w, h w (Below.refl _ _)⟩
  | cons D ds ih =>
    (intro w hnd hD h); (rw [List.nodup_cons] at hnd); (refine ⟨by simp, .inl ⟨D, _, rfl, run_takeDeferred (hD D List.mem_cons_self).2, ?_⟩⟩); (have hg := grownBy_putObj' w D (.deferred none))
    have hb : Below B w (w.putObj D (.deferred none)) := ⟨hg.os, hg.tape, hg.output, hg.size, fun k hk => hg.block k (by
      (have h1 := (hD D List.mem_cons_self)); (have := (Array.getElem?_eq_some_iff.1 h1.2).1)
      omega) (fun e => by have := (hD D List.mem_cons_self).1; cases e; omega)⟩
    exact ih _ hnd.2 (fun E hE => ⟨(hD E (List.mem_cons_of_mem _ hE)).1, (World.putObj_heap_other (fun e => hnd.1 (by rw [← e]; exact hE))).trans (hD E (List.mem_cons_of_mem _ hE)).2⟩) fun w' hw => h w' (hb.trans hw)
/-- A function's contract from its body, where the body ranges over functions. -/
theorem calls_marks {P : Program} {f : FuncId} {fn : Func} {c : Code} {args : Array Value} {w : World} {R : Ending → World → Prop} (hf : P.funcs[f]? = some fn) (hb : fn.body = some c)
    (h : c.wp P (bodyPostM Fence.wide 9 P fn R) { tmps := args ++ Array.replicate (fn.ntmps - args.size) undef, defers := [] } w) : Calls P f args w R :=
  (callsIn_wide (n := 9)).1 (callsIn_of_wp_marks hf hb trivial (wpIn_wide.2 h) rfl)
end Go.Mk

/- suffice.orders: where every order is blocked, nothing comes. -/
namespace Go.Proofs.YtaobaaaihgahfaaGreat
open Go.RowKit Go.Mk Go.Pil Go.Mg Go.Nr Go.Sort
def ordV (b1 b2 b3 : Nat) : Value := .func (.func 191) #[] #[.pointer (some ⟨b1, 0, none⟩), .pointer (some ⟨b2, 0, none⟩), .pointer (some ⟨b3, 0, none⟩)]
structure OrdAt (w : World) (b1 b2 b3 : Nat) (n : Nat) (vl vT : Value) : Prop where
  n : w.cell? ⟨b1, 0, none⟩ = some (.int .i64 (n : Int))
  l : w.cell? ⟨b2, 0, none⟩ = some vl
  t : w.cell? ⟨b3, 0, none⟩ = some vT
theorem OrdAt.kept {w w' : World} {b1 b2 b3 n : Nat} {vl vT : Value} (h : OrdAt w b1 b2 b3 n vl vT) (k : Kept no w w') : OrdAt w' b1 b2 b3 n vl vT := ⟨k.cell h.n id, k.cell h.l id, k.cell h.t id⟩
set_option maxHeartbeats 1000000 in
theorem orders_any (n : Nat) (al aT : Option Addr) (ll cl lT cT : Nat) (w : World) : Calls Tryz.prog 134 #[.int .i64 (n : Int), .slice al ll cl, .slice aT lT cT] w fun e w' => ∃ b1 b2 b3, e = .returned (ordV b1 b2 b3) ∧ OrdAt w' b1 b2 b3 n (.slice al ll cl) (.slice aT lT cT) ∧ Kept no w w' ∧ w.heap.size ≤ b1 ∧ w.heap.size ≤ b2 ∧ w.heap.size ≤ b3 := by
  (obtain ⟨w1, hw1, g1, k1⟩ := alloc_named w (.cells #[.int .i64 (n : Int)] 3)); (have e1 : w1.heap.size = w.heap.size + 1 := by rw [hw1]; simp); (obtain ⟨w2, hw2, g2, k2⟩ := alloc_named w1 (.cells #[.slice al ll cl] 54)); (have e2 : w2.heap.size = w1.heap.size + 1 := by rw [hw2]; simp); (obtain ⟨w3, hw3, g3, k3⟩ := alloc_named w2 (.cells #[.slice aT lT cT] 26)); (obtain ⟨B0, hB0⟩ : ∃ g, w.heap.size = g := ⟨_, rfl⟩); (have hq : w1.heap.size = B0 + 1 ∧ w2.heap.size = B0 + 2 := by omega); (rw [hB0] at g1); (rw [hq.1] at g2); (rw [hq.2] at g3); (have hF : Hd (OrdAt w3 B0 (B0 + 1) (B0 + 2) n (.slice al ll cl) (.slice aT lT cT) ∧ Kept no w w3) := ⟨⟨cell_at (k3.blk (k2.blk g1)) rfl, cell_at (k3.blk g2) rfl, cell_at g3 rfl⟩, (k1.trans' k2).trans' k3⟩); (replace hw1 := hid hw1); (replace hw2 := hid hw2); (replace hw3 := hid hw3); (replace hB0 := hid hB0); (clear g1 g2 g3 k1 k2 k3 e1 e2 hq)
  go_enter Tryz.func134, Tryz.ntmps134
  (go_upto_region 1 with fail); (rw [← hw1.out, hB0.out]); (rw [← hw2.out]); (rw [← hw3.out]); (go_wp2); (go_ret); (exact ⟨B0, B0 + 1, B0 + 2, rfl, hF.out.1, hF.out.2, by have := hB0.out; omega, by have := hB0.out; omega, by have := hB0.out; omega⟩)
theorem ends_none {fn : Func} (h : fn.results = #[]) {tmps : Array Value} {P : Program} {R : Ending → World → Prop} (ds : List Nat) (w0 w : World) (hk : Kept no w0 w) (hnd : ds.Nodup) (hd : ∀ D ∈ ds, w0.heap.size ≤ D ∧ w.heap[D]? = some (.deferred (some []))) (hR : ∀ w', Kept no w0 w' → R (.returned (.tuple #[])) w') :
    LeavesInM Fence.wide 9 P fn tmps R (ds.map markOf) .returning w :=
  leaves_marks (fun w => results_none h _ _ w) w0.heap.size ds w hnd hd fun w' hb => hR w' ⟨hb.os.trans hk.os, hb.tape.trans hk.tape, hb.output.trans hk.output, Nat.le_trans hk.size hb.size, fun k hk' hn => (hb.block k hk').trans (hk.block k hk' hn)⟩
def POn1 {Sl : Nat → Nat → Prop} (B : Nat) (c : Int) : Pr Sl := soft (fun v w => ∃ g, v = .slice (some ⟨g, 0, none⟩) 1 1 ∧ B ≤ g ∧ w.ownsRow 0 3 1 v 1 [.int .i64 c]) fun _ _ _ ⟨g, h1, h2, h3⟩ k => ⟨g, h1, h2, k.ownsRow h3 fun _ _ => id⟩
def POrs {Sl : Nat → Nat → Prop} (n : Nat) (vl : Value) (T : List Int) : Pr Sl := soft (fun v w => ∃ d1 d2 d3 vU, v = ordV d1 d2 d3 ∧ OrdAt w d1 d2 d3 n vl vU ∧ RdZ w vU T) fun _ _ _ ⟨a, b, c, u, h1, h2, h3⟩ k => ⟨a, b, c, u, h1, h2.kept k, h3.kept k⟩
set_option maxRecDepth 100000 in
set_option maxHeartbeats 4000000 in
theorem ordStep_any (n : Nat) (xs : List (As × Value)) (al : Option Addr) (cl : Nat) (hn1 : 1 ≤ n) (hn : n ≤ 7) (hok : ∀ x ∈ xs, Ok n x.1) (T : List Int) (vT : Value) (l b1 b2 b3 : Nat) (w : World) (hT : Tl n T) (hB : Blk n (xs.map (·.1)) T) (hl : RdA w (.slice al xs.length cl) xs) (ht : RdZ w vT T) (hO : OrdAt w b1 b2 b3 n (.slice al xs.length cl) vT)
    (ih : T.length < n → ∀ c : Int, (0 ≤ c ∧ c < n) ∧ c ∉ T → Blk n (xs.map (·.1)) (c :: T) → ∀ (vU : Value) (l c1 c2 c3 : Nat) (W : World), RdA W (.slice al xs.length cl) xs → RdZ W vU (c :: T) → OrdAt W c1 c2 c3 n (.slice al xs.length cl) vU →
      Calls Tryz.prog 191 #[.func (.yield l) #[] #[], .pointer (some ⟨c1, 0, none⟩), .pointer (some ⟨c2, 0, none⟩), .pointer (some ⟨c3, 0, none⟩)] W fun e w' => (∃ v, e = .returned v) ∧ Kept no W w') :
    Calls Tryz.prog 191 #[.func (.yield l) #[] #[], .pointer (some ⟨b1, 0, none⟩), .pointer (some ⟨b2, 0, none⟩), .pointer (some ⟨b3, 0, none⟩)] w fun e w' => (∃ v, e = .returned v) ∧ Kept no w w' := by
  (obtain ⟨w1, hw1, g1, k1⟩ := alloc_named w (.cells #[.func (.yield l) #[] #[]] 237)); (have k01 := hid k1); (have hO1 := hO.kept k1); (have o1 := hO1.n); (have o2 := hO1.l); (have o3 := hO1.t); (have HC := hid (contra_any n xs (.slice al xs.length cl) vT T w1 hn1 hn hok (hl.kept k1) hT (RdZ.kept ht k1))); (obtain ⟨aT, cT, rfl, _, _⟩ := Rd.shape2 ht); (obtain ⟨lT, hlT⟩ : ∃ m, T.length = m := ⟨_, rfl⟩); (obtain ⟨ll, hll⟩ : ∃ m, xs.length = m := ⟨_, rfl⟩); (obtain ⟨r, hr⟩ : ∃ r, (xs.any fun x => ctr x.1 T) = r := ⟨_, rfl⟩); (rw [hr] at HC); (rw [hlT] at HC o3 ht hO1 hO); (rw [hll] at HC o2 hl hO1 ih hO); (have hO0 := hid hO); (replace hw1 := hid hw1); (replace hO1 := hid hO1); (replace hl := hid hl); (replace ht := hid ht); (replace ih := hid ih); (replace hr := hid hr); (replace hlT := hid hlT); (replace hll := hid hll); (replace hok := hid hok); (replace hB := hid hB); (replace hT := hid hT); (clear hO g1 k1); (refine calls_marks Tryz.func191 rfl ?_); (simp only [Tryz.ntmps191, List.size_toArray, List.length_cons, List.length_nil, Nat.reduceAdd, Nat.reduceSub, Array.replicate_succ, Array.replicate_zero, List.push_toArray, List.append_toArray, List.nil_append, List.cons_append]); (go_upto_region 1 with fail); (rw [← hw1.out]); (go_wp2_with fail); (with_reducible refine HC.out.mono ?_); (rintro e w2 ⟨rfl, k2⟩); (have k02 := hid (k01.out.trans' k2)); (have hO2 := hid (hO1.out.kept k2)); (clear HC o1 o2 o3 k2 hw1)
  cases r with
  | true =>
    (go_wp2); (exact ends_none rfl [] w w2 k02.out List.nodup_nil (fun D hD => by cases hD) fun w' hk => ⟨⟨_, rfl⟩, hk⟩)
  | false =>
    have hkids : T.length < n ∧ ∀ c : Int, 0 ≤ c → c < n → c ∉ T → Blk n (xs.map (·.1)) (c :: T) := by
      cases hB.out with
      | here h1 h2 =>
        (obtain ⟨y, hy, rfl⟩ := List.mem_map.1 h1); (have : (xs.any fun x => ctr x.1 T) = true := List.any_eq_true.2 ⟨y, hy, opts_ctr hT.out h2⟩); (rw [hr.out] at this)
        cases this
      | kids h1 h2 => exact ⟨h1, h2⟩
    (have hlt : lT < n := by rw [← hlT.out]; exact hkids.1); (have hln : ((lT : Int) == (n : Int)) = false := beq_eq_false_iff_ne.2 (by omega)); (have hkids' := hid hkids); (have o1 := hO2.out.n); (have o2 := hO2.out.l); (have o3 := hO2.out.t); (clear hkids); (go_upto_region 5 with fail); (obtain ⟨BY, hBY⟩ : ∃ g, w.heap.size = g := ⟨_, rfl⟩); (rw [hBY]); (replace hBY := hid hBY); (clear o1 o2 o3 hln hO2 hO1 k01); (refine wp_loop (fun a wr => ∃ (c : Nat) (ds : List Nat) (u5 u6 u20 u21 u22 u23 u24 u25 u26 u27 u28 u29 u30 u31 u32 u33 u34 u35 u36 u37 : Value), a = { tmps := #[.func (.yield l) #[] #[], .pointer (some ⟨b1, 0, none⟩), .pointer (some ⟨b2, 0, none⟩), .pointer (some ⟨b3, 0, none⟩), .pointer (some ⟨BY, 0, none⟩), u5, u6, .int .i64 (n : Int), .slice al ll cl, .slice aT lT cT, .bool false, .slice aT lT cT, .int .i64 (lT : Int), .int .i64 (n : Int), .bool false, undef, undef, undef, .int .i64 (n : Int), .int .i64 (c : Int), u20, u21, u22, u23, u24, u25, u26, u27, u28, u29, u30, u31, u32, u33, u34, u35, u36, u37], defers := ds.map markOf } ∧ c ≤ n ∧ Hd (Kept no w wr) ∧ Hd (ds.Nodup) ∧ Hd (∀ D ∈ ds, w.heap.size ≤ D ∧ wr.heap[D]? = some (.deferred (some [])))) (fun a _ => n - (intOf (a.tmps.getD 19 undef)).toNat) ?_ ?_)
    · exact ⟨0, [], _, _, _, _, _, _, _, _, _, _, _, _, _, _, _, _, _, _, _, _, rfl, by omega, k02, ⟨List.nodup_nil⟩, ⟨fun D hD => by cases hD⟩⟩
    · (rintro a wr ⟨c, ds, u5, u6, u20, u21, u22, u23, u24, u25, u26, u27, u28, u29, u30, u31, u32, u33, u34, u35, u36, u37, rfl, hc, hK, hnd, hds⟩); (have hOr := hO0.out.kept hK.out); (have o1 := hOr.n); (have o2 := hOr.l); (have o3 := hOr.t)
      by_cases hcn : c < n
      · (have hc1 : (c : Int) < (n : Int) := by omega); (have hCt := hid (containsN_any (.slice aT lT cT) T (c : Int) wr (RdZ.kept ht.out hK.out))); (go_wp2_with fail); (with_reducible refine hCt.out.mono ?_); (rintro e wq ⟨rfl, qq⟩); (have hKq := hid (hK.out.trans' qq.kept)); (have hdq : Hd (∀ D ∈ ds, w.heap.size ≤ D ∧ wq.heap[D]? = some (.deferred (some []))) := ⟨fun D hD => ⟨(hds.out D hD).1, (qq.kept.block D (by have := (Array.getElem?_eq_some_iff.1 (hds.out D hD).2).1; exact this) id).trans (hds.out D hD).2⟩⟩); (have hOq := hid (hO0.out.kept hKq.out)); (clear hCt qq o1 o2 o3 hds hK hOr)
        by_cases hm : (c : Int) ∈ T
        · (have hd : decide ((c : Int) ∈ T) = true := decide_eq_true hm); (replace hm := hid hm); (go_wp2); (exact ⟨⟨c + 1, ds, _, _, _, _, _, _, _, _, _, _, _, _, _, _, _, _, _, _, _, _, rfl, by omega, hKq, hnd, hdq⟩, by simp [intOf]; omega⟩)
        · (have hd : decide ((c : Int) ∈ T) = false := decide_eq_false hm); (replace hm := hid hm); (have d1 : Hd (wq.cell? ⟨b1, 0, none⟩ = some (.int .i64 (n : Int))) := ⟨hOq.out.n⟩); (have d2 : Hd (wq.cell? ⟨b2, 0, none⟩ = some (.slice al ll cl)) := ⟨hOq.out.l⟩); (have d3 : Hd (wq.cell? ⟨b3, 0, none⟩ = some (.slice aT lT cT)) := ⟨hOq.out.t⟩); (have rt := hid (RdZ.kept ht.out hKq.out)); (have hlb : Hd (1 + lT ≤ maxLen ∧ (1 + lT) * 8 ≤ 140737488355328) := ⟨by have : maxLen = 9223372036854775807 := rfl; omega⟩); (go_upto_region 8 with fail); (refine region_flow (S := (fun j => wq.drew.heap.size ≤ j)) (Sl := (fun _ => (fun j => wq.drew.heap.size ≤ j))) [Is (.int .i64 (n : Int)), Is (.slice al ll cl), Is (.int .i64 (c : Int)), POn1 wq.drew.heap.size (c : Int), Is (.slice aT lT cT), PRg ((c : Int) :: T), POrs n (.slice al ll cl) ((c : Int) :: T)] [5] (fun _ _ h => h) _ (by kernel_rfl) (by kernel_rfl) (by kernel_rfl) (by kernel_rfl) (fun x => by simp only [puts, Act.put, List.map_cons, List.map_nil, Nat.zero_add, Nat.reduceAdd, List.setIfInBounds_toArray, List.set_cons_zero, List.set_cons_succ]; exact rfl) ?_ ?_)
          · (skip); (refine .cons (fun x wf Kk hq hdep hold => ?_) ?_)
            · (try dsimp only); (have Kq := (Kk.fresh : Kept no wq.drew wf)); (clear hq hdep hold); (have m1 := Kq.undrew.cell d1.out id); (rw [if_pos (by rfl)]); (refine OpY.val ?_ ⟨Kept.refl _ _, rfl⟩); (first | rfl | go_simp)
            refine .cons (fun x wf Kk hq hdep hold => ?_) ?_
            · (try dsimp only); (have Kq := (Kk.fresh : Kept no wq.drew wf)); (clear hq hdep hold); (have m1 := Kq.undrew.cell d2.out id); (rw [if_pos (by rfl)]); (refine OpY.val ?_ ⟨Kept.refl _ _, rfl⟩); (first | rfl | go_simp)
            refine .cons (fun x wf Kk hq hdep hold => ?_) ?_
            · (try dsimp only); (clear hq hdep hold); (rw [if_pos (by rfl)]); (refine OpY.val ?_ ⟨Kept.refl _ _, rfl⟩); (first | rfl | go_simp)
            refine .cons (fun x wf Kk hq hdep hold => ?_) ?_
            · (try dsimp only); (have h2 : x 2 = _ := hdep 2 (by kernel_rfl)); (clear hq hdep hold); (simp only [h2]); (clear h2); (rw [if_pos (by rfl)]); (refine OpY.build 26 3 1 _ rfl 1 _ Tryz.underlying26 infIntg (by decide) (by decide) [.int .i64 (c : Int)] [(0, .int .i64 (c : Int))] rfl (fill_rows 1 (by decide) _ [.int .i64 (c : Int)] (fun v hv => by rw [List.mem_singleton.1 hv]; rfl)) rfl (by decide) ?_); (intro w' hg k ho); (exact ⟨k, _, rfl, Kk.size, ho⟩)
            refine .cons (fun x wf Kk hq hdep hold => ?_) ?_
            · (try dsimp only); (have Kq := (Kk.fresh : Kept no wq.drew wf)); (clear hq hdep hold); (have m1 := Kq.undrew.cell d3.out id); (rw [if_pos (by rfl)]); (refine OpY.val ?_ ⟨Kept.refl _ _, rfl⟩); (first | rfl | go_simp)
            refine .cons (fun x wf Kk hq hdep hold => ?_) ?_
            · (try dsimp only); (have p3 : Pr.p (Sl := (fun _ => (fun j => wq.drew.heap.size ≤ j))) (POn1 wq.drew.heap.size (c : Int)) (x 3) wf := hdep 3 (by kernel_rfl)); (have h4 : x 4 = _ := hdep 4 (by kernel_rfl)); (have Kq := (Kk.fresh : Kept no wq.drew wf)); (clear hq hdep hold); (simp only [h4]); (clear h4); (rw [if_pos (by rfl)]); (obtain ⟨g, hg, hgb, hgo⟩ := p3); (refine OpY.append (.tmp 28) (.tmp 29) 26 _ rfl rfl 3 1 8 TInts (x 3) 1 [.int .i64 (c : Int)] rfl hgo (.slice aT lT cT) lT (T.map Z) rfl (by rw [← hlT.out]; exact RdZ.kept (by have := rt.out; rwa [hlT.out]) Kq.undrew) (fun u hu => by obtain ⟨z, _, rfl⟩ := List.mem_map.1 hu; rfl) hlb.out.1 hlb.out.2 ?_); (intro v2 w2 h2 h3 h4 _); (exact ⟨h3.mono fun j _ hj => by rw [hg] at hj; cases hj; exact hgb, own_RdZ (zs := (c : Int) :: T) (by rw [List.length_cons, hlT.out, Nat.add_comm]; exact h2)⟩)
            refine .cons (fun x wf Kk hq hdep hold => ?_) ?_
            · (try dsimp only); (have h0 : x 0 = _ := hdep 0 (by kernel_rfl)); (have h1 : x 1 = _ := hdep 1 (by kernel_rfl)); (have p5 : Pr.p (Sl := (fun _ => (fun j => wq.drew.heap.size ≤ j))) (PRg ((c : Int) :: T)) (x 5) wf := hdep 5 (by kernel_rfl)); (clear hq hdep hold); (simp only [h0, h1]); (clear h0 h1); (rw [if_pos (by rfl)]); (obtain ⟨aU, lU, cU, hU⟩ : ∃ a l c, x 5 = .slice a l c := by obtain ⟨a, c, h, _⟩ := Rd.shape2 (show RdZ wf (x 5) ((c : Int) :: T) from p5); exact ⟨_, _, _, h⟩); (have hrU : RdZ wf (x 5) ((c : Int) :: T) := p5); (rw [hU] at hrU ⊢); (refine OpY.call (f := 134) (args := #[.int .i64 (n : Int), .slice al ll cl, .slice aU lU cU]) (by go_simp) ?_); (refine (orders_any n al aU ll cl lU cU wf).mono ?_); (rintro e w7 ⟨e1, e2, e3, rfl, h7, k7, _⟩); (exact ⟨_, rfl, k7, e1, e2, e3, _, rfl, h7, hrU.kept k7⟩)
            exact .nil _
          · (intro x wf Kk hv); (try dsimp only); (have p6 : Pr.p (Sl := (fun _ => (fun j => wq.drew.heap.size ≤ j))) (POrs n (.slice al ll cl) ((c : Int) :: T)) (x 6) wf := hv 6 (by kernel_rfl)); (clear hv); (have kf := hid (Kk.fresh.undrew : Kept no wq wf)); (obtain ⟨e1, e2, e3, vU, hv, hOU, hrU⟩ := p6); (rw [hv]); (have hKf := hid (hKq.out.trans' kf.out)); (have hdf : Hd (∀ D ∈ ds, w.heap.size ≤ D ∧ wf.heap[D]? = some (.deferred (some []))) := ⟨fun D hD => ⟨(hdq.out D hD).1, (kf.out.block D (by have := (Array.getElem?_eq_some_iff.1 (hdq.out D hD).2).1; exact this) id).trans (hdq.out D hD).2⟩⟩); (have hOU' := hid hOU); (have hrU' := hid hrU); (have hI := hid (fun (l' : Nat) (W : World) (kW : Kept no wf W) => ih.out hkids'.out.1 (c : Int) ⟨⟨by omega, by omega⟩, hm.out⟩ (hkids'.out.2 (c : Int) (by omega) (by omega) hm.out) vU l' e1 e2 e3 W ((hl.out.kept hKf.out).kept kW) (RdZ.kept hrU'.out kW) (hOU'.out.kept kW))); (clear hOU hrU hv Kk d1 d2 d3 rt hlb hOq hdq hKq); (unfold ordV); (go_wp2_with fail); (refine range_none (gf := 191) (lb := #[.pointer (some ⟨e1, 0, none⟩), .pointer (some ⟨e2, 0, none⟩), .pointer (some ⟨e3, 0, none⟩)]) rfl (enters_of Tryz.func191 (by kernel_rfl) rfl) (fun l' W kW => hI.out l' W kW) ?_); (intro D W hD kW hdD); (have hKW := hid (hKf.out.trans' kW))
            have hdW : Hd (∀ E ∈ D :: ds, w.heap.size ≤ E ∧ W.heap[E]? = some (.deferred (some []))) := ⟨fun E hE => by
              rcases List.mem_cons.1 hE with rfl | hE
              · exact ⟨Nat.le_trans hKf.out.size hD, hdD⟩
              · exact ⟨(hdf.out E hE).1, (kW.block E (by have := (Array.getElem?_eq_some_iff.1 (hdf.out E hE).2).1; exact this) id).trans (hdf.out E hE).2⟩⟩
            (have hnW : Hd ((D :: ds).Nodup) := ⟨List.nodup_cons.2 ⟨fun hm => by have := (Array.getElem?_eq_some_iff.1 (hdf.out D hm).2).1; omega, hnd.out⟩⟩); (clear hI hOU' hrU' hdf hKf kf hdD kW); (go_wp2); (exact ⟨⟨c + 1, D :: ds, _, _, _, _, _, _, _, _, _, _, _, _, _, _, _, _, _, _, _, _, rfl, by omega, hKW, hnW, hdW⟩, by simp [intOf]; omega⟩)
      · (have hc1 : ¬ (c : Int) < (n : Int) := by omega); (go_wp2); (exact ends_none rfl ds w wr hK.out hnd.out hds.out fun w' hk => ⟨⟨_, rfl⟩, hk⟩)
set_option maxRecDepth 100000 in
theorem ordB_any (n : Nat) (xs : List (As × Value)) (al : Option Addr) (cl : Nat) (hn1 : 1 ≤ n) (hn : n ≤ 7) (hok : ∀ x ∈ xs, Ok n x.1) : ∀ (f : Nat) (T : List Int) (vT : Value) (l b1 b2 b3 : Nat) (w : World), n - T.length ≤ f → Tl n T → Blk n (xs.map (·.1)) T → RdA w (.slice al xs.length cl) xs → RdZ w vT T → OrdAt w b1 b2 b3 n (.slice al xs.length cl) vT →
    Calls Tryz.prog 191 #[.func (.yield l) #[] #[], .pointer (some ⟨b1, 0, none⟩), .pointer (some ⟨b2, 0, none⟩), .pointer (some ⟨b3, 0, none⟩)] w fun e w' => (∃ v, e = .returned v) ∧ Kept no w w' := by
  intro f
  induction f with
  | zero =>
    (intro T vT l b1 b2 b3 w hf hT hB hl ht hO); (exact ordStep_any n xs al cl hn1 hn hok T vT l b1 b2 b3 w hT hB hl ht hO fun h => by omega)
  | succ f ih =>
    (intro T vT l b1 b2 b3 w hf hT hB hl ht hO); (exact ordStep_any n xs al cl hn1 hn hok T vT l b1 b2 b3 w hT hB hl ht hO fun h c hc hBc vU l' c1 c2 c3 W hlW hrW hOW => ih (c :: T) vU l' c1 c2 c3 W (by rw [List.length_cons]; omega) (hT.kid hc) hBc hlW hrW hOW)
end Go.Proofs.YtaobaaaihgahfaaGreat

/- suffice.Witness where every order of another winner is blocked. -/
namespace Go.Proofs.YtaobaaaihgahfaaGreat
open Go.RowKit Go.Mk Go.Pil Go.Mg Go.Nr Go.Sort
theorem ends_val {fn : Func} {tmps : Array Value} {P : Program} {R : Ending → World → Prop} {v : Value} (hres : ∀ w, (results fn tmps).run P w = .ok v w) (ds : List Nat) (w0 w : World) (hk : Kept no w0 w) (hnd : ds.Nodup) (hd : ∀ D ∈ ds, w0.heap.size ≤ D ∧ w.heap[D]? = some (.deferred (some []))) (hR : ∀ w', Kept no w0 w' → R (.returned v) w') :
    LeavesInM Fence.wide 9 P fn tmps R (ds.map markOf) .returning w :=
  leaves_marks hres w0.heap.size ds w hnd hd fun w' hb => hR w' ⟨hb.os.trans hk.os, hb.tape.trans hk.tape, hb.output.trans hk.output, Nat.le_trans hk.size hb.size, fun k hk' hn => (hb.block k hk').trans (hk.block k hk' hn)⟩
set_option maxRecDepth 100000 in
set_option maxHeartbeats 4000000 in
theorem witB_any (n wn : Nat) (xs : List (As × Value)) (vl : Value) (w : World) (hn2 : 2 ≤ n) (hn : n ≤ 7) (hw : wn < n) (hok : ∀ x ∈ xs, Ok n x.1) (hx : xs.length ≤ 1400) (hl : RdA w vl xs) (hB : ∀ c : Nat, c < n → c ≠ wn → Blk n (xs.map (·.1)) [(c : Int)]) :
    Calls Tryz.prog 70 #[.int .i64 (n : Int), .int .i64 (wn : Int), vl] w fun e w' => e = .returned (.tuple #[.slice none 0 0, .bool false]) ∧ Kept no w w' := by
  (obtain ⟨al, cl, rfl, _, _⟩ := hl.shape); (obtain ⟨ll, hll⟩ : ∃ m, xs.length = m := ⟨_, rfl⟩); (obtain ⟨w1, hw1, g1, k1⟩ := alloc_named w (.cells #[.slice none 0 0] 26)); (obtain ⟨BF, hBF⟩ : ∃ g, w.heap.size = g := ⟨_, rfl⟩); (rw [hBF] at g1); (have k01 := hid k1); (have b1 := hid g1); (have hBo := hid (fun (c : Nat) (hc : c < n) (hne : c ≠ wn) (l c1 c2 c3 : Nat) (vT : Value) (W : World) (kW : Kept no w W) (hr : RdZ W vT [(c : Int)]) (hO : OrdAt W c1 c2 c3 n (.slice al xs.length cl) vT) => ordB_any n xs al cl (by omega) hn hok n [(c : Int)] vT l c1 c2 c3 W (by omega) ⟨by simp, fun x hx => by rw [List.mem_singleton] at hx; subst hx; omega, by simp⟩ (hB c hc hne) (hl.kept kW) hr hO)); (rw [hll] at hBo hx ⊢); (have c1 : ¬ (n : Int) < 1 := by omega); (have c2 : ¬ (7 : Int) < (n : Int) := by omega); (have c3 : ¬ (wn : Int) < 0 := by omega); (have c4 : ¬ (n : Int) ≤ (wn : Int) := by omega); (have c5 : ¬ (1400 : Int) < (ll : Int) := by omega); (have c6 : ¬ n < 1 := by omega); (have c7 : ¬ 7 < n := by omega); (have c8 : ¬ 1400 < ll := by omega); (have c9 : ¬ n ≤ wn := by omega); (replace hw1 := hid hw1); (replace hBF := hid hBF); (clear g1 k1 hl hB hok hll); (refine calls_marks Tryz.func70 rfl ?_); (simp only [Tryz.ntmps70, List.size_toArray, List.length_cons, List.length_nil, Nat.reduceAdd, Nat.reduceSub, Array.replicate_succ, Array.replicate_zero, List.push_toArray, List.append_toArray, List.nil_append, List.cons_append]); (go_upto_region 4 with fail); (rw [← hw1.out, hBF.out]); (go_upto_region 5 with fail); (refine wp_loop (fun a wr => ∃ (c : Nat) (ds : List Nat) (u9 u10 u33 u34 u35 u36 u37 u38 u39 u40 u41 u42 u43 u44 u45 u46 u47 u48 u49 u50 u51 u52 u53 : Value), a = { tmps := #[.int .i64 (n : Int), .int .i64 (wn : Int), .slice al ll cl, undef, undef, undef, .slice none 0 0, .bool false, .pointer (some ⟨BF, 0, none⟩), u9, u10, .int .i64 (n : Int), .bool false, .bool false, .int .i64 (n : Int), .bool false, .bool false, .bool false, .int .i64 (wn : Int), .bool false, .bool false, .bool false, .int .i64 (wn : Int), .int .i64 (n : Int), .bool false, .bool false, .bool false, .slice al ll cl, .int .i64 (ll : Int), .bool false, .bool false, .int .i64 (n : Int), .int .i64 (c : Int), u33, u34, u35, u36, u37, u38, u39, u40, u41, u42, u43, u44, u45, u46, u47, u48, u49, u50, u51, u52, u53, undef, undef, undef], defers := ds.map markOf } ∧ c ≤ n ∧ Hd (Kept no w wr) ∧ Hd (wr.heap[BF]? = some (.cells #[.slice none 0 0] 26 (0, 0))) ∧ Hd (ds.Nodup) ∧ Hd (∀ D ∈ ds, w.heap.size ≤ D ∧ wr.heap[D]? = some (.deferred (some [])))) (fun a _ => n - (intOf (a.tmps.getD 32 undef)).toNat) ?_ ?_)
  · exact ⟨0, [], _, _, _, _, _, _, _, _, _, _, _, _, _, _, _, _, _, _, _, _, _, _, _, rfl, by omega, k01, b1, ⟨List.nodup_nil⟩, ⟨fun D hD => by cases hD⟩⟩
  · rintro a wr ⟨c, ds, u9, u10, u33, u34, u35, u36, u37, u38, u39, u40, u41, u42, u43, u44, u45, u46, u47, u48, u49, u50, u51, u52, u53, rfl, hc, hK, hbx, hnd, hds⟩
    by_cases hcn : c < n
    · have hc1 : (c : Int) < (n : Int) := by omega
      by_cases hcw : c = wn
      · (have he : ((c : Int) == (wn : Int)) = true := by rw [hcw]; exact beq_self_eq_true _); (replace hcw := hid hcw); (go_wp2); (exact ⟨⟨c + 1, ds, _, _, _, _, _, _, _, _, _, _, _, _, _, _, _, _, _, _, _, _, _, _, _, rfl, by omega, hK, hbx, hnd, hds⟩, by simp [intOf]; omega⟩)
      · (have he : ((c : Int) == (wn : Int)) = false := beq_eq_false_iff_ne.2 (by omega)); (obtain ⟨w2, hw2, g2, k2⟩ := alloc_named wr (.cells #[.int .i64 (c : Int)] 3)); (obtain ⟨BT, hBT⟩ : ∃ g, wr.heap.size = g := ⟨_, rfl⟩); (rw [hBT] at g2); (have hr2 := hid (Rd.block (us := [.int .i64 (c : Int)]) g2 rfl (by decide) : RdZ w2 (.slice (some ⟨BT, 0, none⟩) 1 1) [(c : Int)])); (have hOr := hid (orders_any n al (some ⟨BT, 0, none⟩) ll cl 1 1 w2)); (have k02 := hid (hK.out.trans' k2)); (have kr2 := hid k2); (replace hw2 := hid hw2); (replace hBT := hid hBT); (replace hcw := hid hcw); (clear g2 k2); (go_wp2_with fail); (try rw [hBT.out]); (rw [← hw2.out]); (with_reducible refine hOr.out.mono ?_); (rintro e w3 ⟨e1, e2, e3, rfl, hO, k3, _⟩); (have k03 := hid (k02.out.trans' k3)); (have kr3 := hid (kr2.out.trans' k3)); (have hb3 := hid (kr3.out.blk hbx.out)); (have hd3 : Hd (∀ D ∈ ds, w.heap.size ≤ D ∧ w3.heap[D]? = some (.deferred (some []))) := ⟨fun D hD => ⟨(hds.out D hD).1, (kr3.out.block D (by have := (Array.getElem?_eq_some_iff.1 (hds.out D hD).2).1; exact this) id).trans (hds.out D hD).2⟩⟩); (have hI := hid (fun (l' : Nat) (W : World) (kW : Kept no w3 W) => hBo.out c hcn hcw.out l' e1 e2 e3 (.slice (some ⟨BT, 0, none⟩) 1 1) W (k03.out.trans' kW) (RdZ.kept (RdZ.kept hr2.out k3) kW) (hO.kept kW))); (clear hOr hw2 hBT hr2 k02 kr2 k3 hO hK hbx hds); (unfold ordV); (go_wp2_with fail); (refine range_none (gf := 191) (lb := #[.pointer (some ⟨e1, 0, none⟩), .pointer (some ⟨e2, 0, none⟩), .pointer (some ⟨e3, 0, none⟩)]) rfl (enters_of Tryz.func191 (by kernel_rfl) rfl) (fun l' W kW => hI.out l' W kW) ?_); (intro D W hD kW hdD); (have hKW := hid (k03.out.trans' kW)); (have hbW := hid (kW.blk hb3.out))
        have hdW : Hd (∀ E ∈ D :: ds, w.heap.size ≤ E ∧ W.heap[E]? = some (.deferred (some []))) := ⟨fun E hE => by
          rcases List.mem_cons.1 hE with rfl | hE
          · exact ⟨Nat.le_trans k03.out.size hD, hdD⟩
          · exact ⟨(hd3.out E hE).1, (kW.block E (by have := (Array.getElem?_eq_some_iff.1 (hd3.out E hE).2).1; exact this) id).trans (hd3.out E hE).2⟩⟩
        (have hnW : Hd ((D :: ds).Nodup) := ⟨List.nodup_cons.2 ⟨fun hm => by have := (Array.getElem?_eq_some_iff.1 (hd3.out D hm).2).1; omega, hnd.out⟩⟩); (clear hI hd3 hb3 k03 kr3 hdD kW); (go_wp2); (exact ⟨⟨c + 1, D :: ds, _, _, _, _, _, _, _, _, _, _, _, _, _, _, _, _, _, _, _, _, _, _, _, rfl, by omega, hKW, hbW, hnW, hdW⟩, by simp [intOf]; omega⟩)
    · (have hc1 : ¬ (c : Int) < (n : Int) := by omega); (have cb : wr.cell? ⟨BF, 0, none⟩ = some (.slice none 0 0) := cell_at hbx.out rfl); (go_upto_region 13 with fail); (go_quiet (fail)); (have kq := (Kept.refl no wr).drewN nq); (have hKq := hid (hK.out.trans' kq)); (have hdq : Hd (∀ D ∈ ds, w.heap.size ≤ D ∧ (wr.drewN nq).heap[D]? = some (.deferred (some []))) := ⟨fun D hD => hds.out D hD⟩); (clear kq hds hK); (go_wp2); (exact ends_val (v := .tuple #[.slice none 0 0, .bool false]) (fun w => results_2 (t := 6) (u := 7) (by rfl) _ _ _) ds w _ hKq.out hnd.out hdq.out fun w' hk => ⟨rfl, hk⟩)
end Go.Proofs.YtaobaaaihgahfaaGreat

/- suffice.fits and suffice.Check, at an instant-runoff contest whose other winners are blocked. -/
namespace Go.Nr
open Go.Pil Go.Mg
theorem perm_all : ∀ n ≤ 7, permB n (allC n) = true := by decide
theorem isPile_nil (n : Int) : isPile n [] = true := by rw [isPile_iff]; refine ⟨(fun g hg => by cases hg), by simp [tot], by simp [Srt]⟩
theorem fit_irv {n : Nat} {gs : List Grp} {t : Int} (h1 : 1 ≤ n) (h7 : n ≤ 7) (ht : 1 ≤ t ∧ t ≤ 3) (hp : isPile (n : Int) gs = true) : fitP 1 n 1 1 0 t gs (allC n) = 0 := by
  (unfold fitP); (rw [if_neg (by omega), if_neg (by simp; omega), if_pos hp, if_pos (perm_all n h7)])
end Go.Nr
namespace Go.Proofs.YtaobaaaihgahfaaGreat
open Go.RowKit Go.Mk Go.Pil Go.Mg Go.Nr Go.Sort
set_option maxRecDepth 20000 in
set_option maxHeartbeats 2000000 in
theorem fitsN_any (nm : ByteArray) (n cc : Nat) (ac : Option Addr) (t : Int) (w : World) (h1 : 1 ≤ n) (h7 : n ≤ 7) (ht : 1 ≤ t ∧ t ≤ 3) : Calls Tryz.prog 68 #[.agg #[.string nm, .slice ac n cc, .int .i64 1, .int .i64 1, .int .i64 0, .int .i64 0, .int .i64 t, .int .i64 0, .int .i64 0]] w fun e w' => e = .returned (.bool true) ∧ Kept no w w' := by
  (obtain ⟨w1, hw1, g1, k1⟩ := alloc_named w (.cells #[.string nm, .slice ac n cc, .int .i64 1, .int .i64 1, .int .i64 0, .int .i64 0, .int .i64 t, .int .i64 0, .int .i64 0] 24)); (obtain ⟨B0, hB0⟩ : ∃ g, w.heap.size = g := ⟨_, rfl⟩); (rw [hB0] at g1); (have k01 := hid k1); (have b0 := hid g1); (have n1 : min (n : Int) 7 = (n : Int) := by omega); (have n2 : (if (7 : Int) < (n : Int) then (7 : Int) else (n : Int)) = (n : Int) := by rw [if_neg (by omega)]); (have n3 : (if 7 < n then (7 : Int) else (n : Int)) = (n : Int) := by rw [if_neg (by omega)]); (have n4 : ¬ 7 < n := by omega); (replace hw1 := hid hw1); (replace hB0 := hid hB0); (clear g1 k1)
  go_enter Tryz.func68, Tryz.ntmps68
  (go_upto_region 2 with fail); (rw [← hw1.out, hB0.out]); (have a1 : w1.cell? ⟨B0, 1, none⟩ = some (.slice ac n cc) := cell_at b0.out rfl); (go_upto_region 3 with fail); (clear a1)
  go_loopw [3, 9] (fun out i wr => ∃ k : Nat, k ≤ n ∧ i = .int .i64 (k : Int) ∧ Hd (OwZ w1 wr out (allC k))) (fun _ i _ => n - (intOf i).toNat)
  case atStart => exact ⟨0, by omega, rfl, ⟨OwZ.nil w1⟩⟩
  case round =>
    obtain ⟨k, hk, rfl, hO⟩ := hrel
    by_cases hlt : k < n
    · have hk1 : (k : Int) < (n : Int) := by omega
      have hqm : Hd ((allC k).length + 1 ≤ maxLen ∧ ((allC k).length + 1) * 8 ≤ 140737488355328) := ⟨by
        (have hm : maxLen = 9223372036854775807 := rfl); (rw [allC_len])
        omega⟩
      (go_wp2_with (at_builtin; refine wpList_append_lit _ rfl _ _ 26 rfl 3 1 8 TInts _ _ _ rfl hO.out.own 1 [.int .i64 (k : Int)] rfl rfl (fun u hu => by obtain rfl := List.mem_singleton.1 hu; rfl) hqm.out.1 hqm.out.2 ?_)); (intro v' w5 h2 h3 h4 _); (have hO5 : Hd (OwZ w1 w5 v' (allC (k + 1))) := ⟨by rw [allC_succ]; exact hO.out.add (k : Int) h2 h3 h4⟩); (clear h2 h3 h4 hO hqm); (go_wp2); (go_roundw)
      case rel => first | exact ⟨k + 1, by omega, by go_num, hO5⟩ | ((repeat apply Exists.intro); exact ⟨⟨k + 1, by omega, by go_num, hO5⟩, rfl⟩)
      case measure => simp [intOf]; omega
    · (obtain rfl : k = n := by omega); (have hk1 : ¬ (k : Int) < (k : Int) := by omega); (have kr := hO.out.kept); (have br := hid (kr.blk b0.out)); (have HF := fit_any 1 nm ac k cc 1 1 0 0 t 0 0 (.slice none 0 0) u3 [] (allC k) wr ⟨(fun x hx => by cases hx), nil_rd _ _⟩ hO.out.rd); (rw [show grps [] = [] from rfl, fit_irv (by omega) h7 ht (isPile_nil _)] at HF); (replace HF := hid HF); (obtain ⟨al, cl, hal⟩ := Rd.shapeZ hO.out.rd); (have kwr := hid (k01.out.trans' kr)); (clear hO kr); (have a0 : wr.cell? ⟨B0, 0, none⟩ = some (.string nm) := cell_at br.out rfl); (have a1 : wr.cell? ⟨B0, 1, none⟩ = some (.slice ac k cc) := cell_at br.out rfl); (have a2 : wr.cell? ⟨B0, 2, none⟩ = some (.int .i64 1) := cell_at br.out rfl); (have a3 : wr.cell? ⟨B0, 3, none⟩ = some (.int .i64 1) := cell_at br.out rfl); (have a4 : wr.cell? ⟨B0, 4, none⟩ = some (.int .i64 0) := cell_at br.out rfl); (have a5 : wr.cell? ⟨B0, 5, none⟩ = some (.int .i64 0) := cell_at br.out rfl); (have a6 : wr.cell? ⟨B0, 6, none⟩ = some (.int .i64 t) := cell_at br.out rfl); (have a7 : wr.cell? ⟨B0, 7, none⟩ = some (.int .i64 0) := cell_at br.out rfl); (have a8 : wr.cell? ⟨B0, 8, none⟩ = some (.int .i64 0) := cell_at br.out rfl); (rw [hal] at HF ⊢); (go_wp2_with fail); (with_reducible refine HF.out.mono ?_); (rintro e w2 ⟨rfl, k2⟩); (have kF := hid (kwr.out.trans' k2)); (clear HF a0 a1 a2 a3 a4 a5 a6 a7 a8 k2); (go_wp2); (go_ret); (exact ⟨rfl, kF.out⟩)
set_option maxRecDepth 100000 in
set_option maxHeartbeats 4000000 in
theorem checkF_any (nm : ByteArray) (n cc wn cw bw ow : Nat) (ac : Option Addr) (t : Int) (xs : List (As × Value)) (vl : Value) (w : World) (h1 : 1 ≤ n) (h7 : n ≤ 7) (ht : 1 ≤ t ∧ t ≤ 3) (hw : wn < n) (hok : ∀ x ∈ xs, Ok n x.1) (hx : xs.length ≤ 1400) (hl : RdA w vl xs) (hwi : RdZ w (.slice (some ⟨bw, ow, none⟩) 1 cw) [(wn : Int)]) (f r : Bool) (hr1 : n = 1 → r = true) (hr2 : 2 ≤ n → r = !f) (hWi : 2 ≤ n → ∀ W, Kept no w W → Calls Tryz.prog 70 #[.int .i64 (n : Int), .int .i64 (wn : Int), vl] W fun e w' => ∃ v, e = .returned (.tuple #[v, .bool f]) ∧ Kept no W w') :
    Calls Tryz.prog 22 #[.agg #[.string nm, .slice ac n cc, .int .i64 1, .int .i64 1, .int .i64 0, .int .i64 0, .int .i64 t, .int .i64 0, .int .i64 0], .slice (some ⟨bw, ow, none⟩) 1 cw, vl] w fun e w' => e = .returned (.bool r) ∧ Kept no w w' := by
  (obtain ⟨al, cl, rfl, hcl, hclm⟩ := hl.shape); (have hm63 := maxLen_63); (obtain ⟨ll, hll⟩ : ∃ m, xs.length = m := ⟨_, rfl⟩); (obtain ⟨w1, hw1, g1, k1⟩ := alloc_named w (.cells #[.string nm, .slice ac n cc, .int .i64 1, .int .i64 1, .int .i64 0, .int .i64 0, .int .i64 t, .int .i64 0, .int .i64 0] 24)); (obtain ⟨B0, hB0⟩ : ∃ g, w.heap.size = g := ⟨_, rfl⟩); (rw [hB0] at g1); (have HF := hid (fitsN_any nm n cc ac t w1 h1 h7 ht)); (have HW := hid hWi); (have HV := hid (fun (x : As × Value) (hx : x ∈ xs) (W : World) (r : RdZ W x.2 x.1.am) => validN_any n x.1 x.2 W h1 h7 (hok x hx) r)); (have HC := hid (fun (W : World) (k : Kept no w W) => containsN_any (.slice (some ⟨bw, ow, none⟩) 0 cw) ([(wn : Int)].take 0) (wn : Int) W (RdZ.take (RdZ.kept hwi k) 0 (by simp)))); (obtain ⟨_, _, ecw, hcw1, _⟩ := Rd.shape2 hwi)
  cases ecw
  (rw [hll] at HW hl hcl hx ⊢); (have k01 := hid k1); (have b1 := hid g1); (obtain ⟨bw', ow', e, cwn⟩ := RdZ.at hwi 0 (by simp))
  cases e
  (have cwn : w.cell? ⟨bw, ow, none⟩ = some (.int .i64 (wn : Int)) := cwn); (have cw1 := hid cwn); (have c1 : ¬ (1400 : Int) < (ll : Int) := by omega); (have c2 : ¬ 1400 < ll := by omega); (have c3 : ¬ (wn : Int) < 0 := by omega); (have c4 : ¬ (n : Int) ≤ (wn : Int) := by omega); (have c5 : ¬ n ≤ wn := by omega); (replace hw1 := hid hw1); (replace hB0 := hid hB0); (replace hl := hid hl); (replace hll := hid hll); (have hcw0 : 0 ≤ cw := by omega); (clear g1 k1 hWi hok hclm hwi cwn)
  go_enter Tryz.func22, Tryz.ntmps22
  (go_upto_region 1 with fail); (rw [← hw1.out, hB0.out]); (have a0 : w1.cell? ⟨B0, 0, none⟩ = some (.string nm) := cell_at b1.out rfl); (have a1 : w1.cell? ⟨B0, 1, none⟩ = some (.slice ac n cc) := cell_at b1.out rfl); (have a2 : w1.cell? ⟨B0, 2, none⟩ = some (.int .i64 1) := cell_at b1.out rfl); (have a3 : w1.cell? ⟨B0, 3, none⟩ = some (.int .i64 1) := cell_at b1.out rfl); (have a4 : w1.cell? ⟨B0, 4, none⟩ = some (.int .i64 0) := cell_at b1.out rfl); (have a5 : w1.cell? ⟨B0, 5, none⟩ = some (.int .i64 0) := cell_at b1.out rfl); (have a6 : w1.cell? ⟨B0, 6, none⟩ = some (.int .i64 t) := cell_at b1.out rfl); (have a7 : w1.cell? ⟨B0, 7, none⟩ = some (.int .i64 0) := cell_at b1.out rfl); (have a8 : w1.cell? ⟨B0, 8, none⟩ = some (.int .i64 0) := cell_at b1.out rfl); (go_wp2_with fail); (with_reducible refine HF.out.mono ?_); (rintro e w2 ⟨rfl, k2⟩); (have k02 := hid (k01.out.trans' k2)); (have b2 := hid (k2.blk b1.out)); (clear HF a0 a1 a2 a3 a4 a5 a6 a7 a8 k2 k01 b1 hw1); (go_upto_region 5 with fail)
  go_loopw [30] (fun i wr => (i = .int .i64 0 ∧ Hd (Kept no w2 wr)) ∨ (i = .int .i64 1 ∧ Hd (Kept no w2 wr))) (fun i _ => 1 - (intOf i).toNat)
  case atStart => exact .inl ⟨rfl, ⟨Kept.refl _ _⟩⟩
  case round =>
    rcases hrel with ⟨rfl, hK⟩ | ⟨rfl, hK⟩
    · (have cwr : wr.cell? ⟨bw, ow, none⟩ = some (.int .i64 (wn : Int)) := (k02.out.trans' hK.out).cell cw1.out id); (have hsl := pre_slice (some ⟨bw, ow, none⟩) 1 cw 0 (.inr ⟨bw, ow, rfl⟩) (by omega) wr); (have hsl : (Instr.slice 26 (.slice (some ⟨bw, ow, none⟩) 1 cw) none (some (.int .i64 0)) none).run Tryz.prog wr = .ok (.slice (some ⟨bw, ow, none⟩) 0 cw) wr := hsl); (have HC1 := HC.out wr (k02.out.trans' hK.out)); (rw [List.take_zero, show decide ((wn : Int) ∈ ([] : List Int)) = false from rfl] at HC1); (replace HC1 := hid HC1); (go_wp2_with fail); (with_reducible refine HC1.out.mono ?_); (rintro e w3 ⟨rfl, q3⟩); (have hK2 := hid (hK.out.trans' q3.kept)); (clear HC1 hsl q3 cwr); (go_wp2); (go_roundw)
      case rel => first | exact .inr ⟨rfl, hK2⟩ | ((repeat apply Exists.intro); exact ⟨.inr ⟨rfl, hK2⟩, rfl⟩)
      case measure => simp [intOf]
    · (obtain ⟨wa, hwa⟩ : ∃ W, W = wr := ⟨_, rfl⟩); (subst hwa); (have k0a := hid (k02.out.trans' hK.out)); (have ba := hid (hK.out.blk b2.out)); (clear hK); (go_upto_region 11 with fail)
      go_loopw [52] (fun i wr => ∃ k : Nat, k ≤ ll ∧ i = .int .i64 (k : Int) ∧ Hd (Kept no wa wr)) (fun i _ => ll - (intOf i).toNat)
      case atStart => exact ⟨0, by omega, rfl, ⟨Kept.refl _ _⟩⟩
      case round =>
        (obtain ⟨k, hk, rfl, hK⟩ := hrel); (have k0r := hid (k0a.out.trans' hK.out))
        by_cases hlt : k < ll
        · (have hk1 : (k : Int) < (ll : Int) := by omega); (have hk0 : (0 : Int) ≤ (k : Int) := by omega); (have hkl : k < xs.length := by rw [hll.out]; exact hlt); (obtain ⟨b, o, x, u, hao, hxk, hrz, d0, d1, d2, d3, d4⟩ := (hl.out.kept k0r.out).at k hkl); (subst hao); (obtain ⟨au, lu, cu, rfl⟩ : ∃ au lu cu, u = .slice au lu cu := by obtain ⟨a, c, h, _⟩ := Rd.shape2 hrz; exact ⟨_, _, _, h⟩); (obtain ⟨w9, hw9, g9, k9⟩ := alloc_named wr (.cells #[.int .i64 x.k, .int .i64 x.a, .int .i64 x.b, .slice au lu cu, .int .i64 x.q] 59)); (obtain ⟨G, hG⟩ : ∃ g, wr.heap.size = g := ⟨_, rfl⟩); (rw [hG] at g9); (have hm := List.getElem_mem hkl); (rw [hxk] at hm); (have HV1 := HV.out _ hm w9 (hrz.kept k9)); (unfold asV at HV1)
          dsimp only at HV1
          (replace HV1 := hid HV1); (have hK9 := hid (hK.out.trans' k9)); (have g9' := hid g9); (replace hw9 := hid hw9); (replace hG := hid hG); (clear hrz hm hxk hkl g9 k9 hK); (go_upto_region 13 with fail); (rw [← hw9.out]); (try rw [hG.out]); (clear d0 d1 d2 d3 d4 hw9); (have a0 : w9.cell? ⟨G, 0, none⟩ = some (.int .i64 x.k) := cell_at g9'.out rfl); (have a1 : w9.cell? ⟨G, 1, none⟩ = some (.int .i64 x.a) := cell_at g9'.out rfl); (have a2 : w9.cell? ⟨G, 2, none⟩ = some (.int .i64 x.b) := cell_at g9'.out rfl); (have a3 : w9.cell? ⟨G, 3, none⟩ = some (.slice au lu cu) := cell_at g9'.out rfl); (have a4 : w9.cell? ⟨G, 4, none⟩ = some (.int .i64 x.q) := cell_at g9'.out rfl); (go_wp2_with fail); (with_reducible refine HV1.out.mono ?_); (rintro e w3 ⟨rfl, k3⟩); (have hK2 := hid (hK9.out.trans' k3)); (clear HV1 a0 a1 a2 a3 a4 k3); (go_wp2); (go_roundw)
          case rel => first | exact ⟨k + 1, by omega, by go_num, hK2⟩ | ((repeat apply Exists.intro); exact ⟨⟨k + 1, by omega, by go_num, hK2⟩, rfl⟩)
          case measure => simp [intOf]; omega
        · (have hk1 : ¬ (k : Int) < (ll : Int) := by omega); (have br := hid (hK.out.blk ba.out)); (have e3 : wr.cell? ⟨B0, 3, none⟩ = some (.int .i64 1) := cell_at br.out rfl); (have e2 : wr.cell? ⟨B0, 2, none⟩ = some (.int .i64 1) := cell_at br.out rfl); (have cwr : wr.cell? ⟨bw, ow, none⟩ = some (.int .i64 (wn : Int)) := k0r.out.cell cw1.out id)
          by_cases h2 : 2 ≤ n
          · (have hn1 : ¬ (n : Int) ≤ 1 := by omega); (have hn2 : ¬ n ≤ 1 := by omega); (have HW1 := hid (HW.out h2 wr k0r.out)); (go_wp2_with fail); (with_reducible refine HW1.out.mono ?_); (rintro e w3 ⟨vW, rfl, k3⟩); (have kF := hid (k0r.out.trans' k3)); (have hrf := hid (hr2 h2)); (clear HW1 e3 e2 cwr k3 hr1 hr2); (go_wp2); (go_ret); (exact ⟨by rw [hrf.out] <;> rfl, kF.out⟩)
          · (obtain rfl : n = 1 := by omega); (have hrt := hid (hr1 rfl)); (clear hr1 hr2); (go_wp2); (go_ret); (exact ⟨by rw [hrt.out] <;> rfl, k0r.out⟩)
/-- Where every order of another winner is blocked, Check answers true. -/
theorem checkB_any (nm : ByteArray) (n cc wn cw bw ow : Nat) (ac : Option Addr) (t : Int) (xs : List (As × Value)) (vl : Value) (w : World) (h1 : 1 ≤ n) (h7 : n ≤ 7) (ht : 1 ≤ t ∧ t ≤ 3) (hw : wn < n) (hok : ∀ x ∈ xs, Ok n x.1) (hx : xs.length ≤ 1400) (hl : RdA w vl xs) (hwi : RdZ w (.slice (some ⟨bw, ow, none⟩) 1 cw) [(wn : Int)]) (hB : 2 ≤ n → ∀ c : Nat, c < n → c ≠ wn → Blk n (xs.map (·.1)) [(c : Int)]) :
    Calls Tryz.prog 22 #[.agg #[.string nm, .slice ac n cc, .int .i64 1, .int .i64 1, .int .i64 0, .int .i64 0, .int .i64 t, .int .i64 0, .int .i64 0], .slice (some ⟨bw, ow, none⟩) 1 cw, vl] w fun e w' => e = .returned (.bool true) ∧ Kept no w w' :=
  checkF_any nm n cc wn cw bw ow ac t xs vl w h1 h7 ht hw hok hx hl hwi false true (fun _ => rfl) (fun _ => rfl) fun h2 W k => (witB_any n wn xs vl W h2 h7 hw hok hx (hl.kept k) (hB h2)).mono fun _ _ ⟨h3, h4⟩ => ⟨_, h3, h4⟩
end Go.Proofs.YtaobaaaihgahfaaGreat
