/- meek.power, up, Distribute with all keep values one (printed by gen_mk1.py). -/
import Derived.Test.YtaobaaaihgahfaaGreatGrBV
import Derived.Test.YtaobaaaihgahfaaGreatGrCV
namespace Go.Gg
open Go.Pil
/-- The votes in units of 1/10000 while nobody passes ballots on. -/
def addM (V : List Int) (g : Grp) : List Int := match g.p with | [] => V | c :: _ => V.set c.toNat (V.getD c.toNat 0 + 10000 * g.n)
def restM (r : Int) (g : Grp) : Int := match g.p with | [] => r + 10000 * g.n | _ :: _ => r
def distV (n : Nat) (gs : List Grp) : List Int := gs.foldl addM (List.replicate n 0)
def distR (gs : List Grp) : Int := gs.foldl restM 0
theorem addM_len (V : List Int) (g : Grp) : (addM V g).length = V.length := by unfold addM; split <;> simp
theorem distV_len (n : Nat) (gs : List Grp) : (distV n gs).length = n := by
  unfold distV
  have : ∀ (l : List Grp) (V : List Int), (l.foldl addM V).length = V.length := by
    intro l
    induction l with
    | nil => intro V; rfl
    | cons x l ih => intro V; rw [List.foldl_cons, ih, addM_len]
  rw [this]; simp
theorem foldl_takeG {β : Type} (f : β → Grp → β) (b : β) (l : List Grp) (k : Nat) (h : k < l.length) : (l.take (k + 1)).foldl f b = f ((l.take k).foldl f b) l[k] := by
  rw [List.take_succ_eq_append_getElem h, List.foldl_append]; rfl
def hdIs (c : Nat) (p : List Int) : Bool := match p with | [] => false | a :: _ => decide (a = (c : Int))
theorem addM_at (V : List Int) (g : Grp) (c : Nat) (hc : c < V.length) (hr : ∀ a ∈ g.p, 0 ≤ a) : (addM V g).getD c 0 = V.getD c 0 + if hdIs c g.p = true then 10000 * g.n else 0 := by
  unfold addM hdIs
  cases hp : g.p with
  | nil => simp
  | cons a t =>
    have ha := hr a (by rw [hp]; exact List.mem_cons_self)
    by_cases h : a = (c : Int)
    · (subst h); (simp only [Int.toNat_natCast, decide_true, if_true]); (rw [List.getD_eq_getElem?_getD, List.getElem?_set_self hc]; rfl)
    · (have : a.toNat ≠ c := by omega); (simp only [h, decide_false]); (rw [List.getD_eq_getElem?_getD, List.getElem?_set_ne this, ← List.getD_eq_getElem?_getD]; simp)
theorem sumIf_cons (Q : List Int → Bool) (g : Grp) (l : List Grp) : sumIf Q (g :: l) = (if Q g.p = true then g.n else 0) + sumIf Q l := by unfold sumIf; simp
theorem foldM_at (l : List Grp) (c : Nat) : ∀ V : List Int, c < V.length → (∀ g ∈ l, ∀ a ∈ g.p, 0 ≤ a) → (l.foldl addM V).getD c 0 = V.getD c 0 + 10000 * sumIf (hdIs c) l := by
  induction l with
  | nil => intro V _ _; simp [sumIf]
  | cons g l ih =>
    (intro V hc hr); (rw [List.foldl_cons, ih _ (by rw [addM_len]; exact hc) (fun g hg => hr g (List.mem_cons_of_mem _ hg)), addM_at V g c hc (hr g List.mem_cons_self), sumIf_cons])
    split <;> omega
theorem foldR_at (l : List Grp) : ∀ r : Int, l.foldl restM r = r + 10000 * sumIf (fun p => p.isEmpty) l := by
  induction l with
  | nil => intro r; simp [sumIf]
  | cons g l ih =>
    (intro r); (rw [List.foldl_cons, ih, sumIf_cons]); (unfold restM)
    cases hp : g.p with
    | nil => simp; omega
    | cons a t => simp
end Go.Gg
namespace Go.Proofs.YtaobaaaihgahfaaGreat
open Go.RowKit Go.Mk Go.Pil Go.Nt Go.Gg
set_option maxHeartbeats 1000000 in
theorem power4_any (w : World) : Calls Tryz.prog 53 #[.int .i64 4] w fun e w' => e = .returned (.int .i64 10000) ∧ w' = w := by
  go_enter Tryz.func53, Tryz.ntmps53
  go_wp2
  go_loopw [3, 5] (fun p i wr => (p = .int .i64 1 ∧ i = .int .i64 0 ∧ wr = w) ∨ (p = .int .i64 10 ∧ i = .int .i64 1 ∧ wr = w) ∨ (p = .int .i64 100 ∧ i = .int .i64 2 ∧ wr = w) ∨ (p = .int .i64 1000 ∧ i = .int .i64 3 ∧ wr = w) ∨ (p = .int .i64 10000 ∧ i = .int .i64 4 ∧ wr = w)) (fun _ i _ => 4 - (intOf i).toNat)
  case atStart => exact .inl ⟨rfl, rfl, rfl⟩
  case round =>
    rcases hrel with ⟨rfl, rfl, rfl⟩ | ⟨rfl, rfl, rfl⟩ | ⟨rfl, rfl, rfl⟩ | ⟨rfl, rfl, rfl⟩ | ⟨rfl, rfl, rfl⟩
    · (go_wp2); (go_roundw)
      case rel => first | (simp; done) | exact .inr (.inl ⟨rfl, rfl, rfl⟩) | ((repeat apply Exists.intro); exact ⟨.inr (.inl ⟨rfl, rfl, rfl⟩), rfl⟩)
      case measure => simp [intOf]
    · (go_wp2); (go_roundw)
      case rel => first | (simp; done) | exact .inr (.inr (.inl ⟨rfl, rfl, rfl⟩)) | ((repeat apply Exists.intro); exact ⟨.inr (.inr (.inl ⟨rfl, rfl, rfl⟩)), rfl⟩)
      case measure => simp [intOf]
    · (go_wp2); (go_roundw)
      case rel => first | (simp; done) | exact .inr (.inr (.inr (.inl ⟨rfl, rfl, rfl⟩))) | ((repeat apply Exists.intro); exact ⟨.inr (.inr (.inr (.inl ⟨rfl, rfl, rfl⟩))), rfl⟩)
      case measure => simp [intOf]
    · (go_wp2); (go_roundw)
      case rel => first | (simp; done) | exact .inr (.inr (.inr (.inr (⟨rfl, rfl, rfl⟩)))) | ((repeat apply Exists.intro); exact ⟨.inr (.inr (.inr (.inr (⟨rfl, rfl, rfl⟩)))), rfl⟩)
      case measure => simp [intOf]
    · (go_wp2); (go_ret); (exact ⟨rfl, rfl⟩)
set_option maxHeartbeats 1000000 in
theorem up_any (a q : Nat) (w : World) (ha : a ≤ 100000000) (hq : (a + 9999) / 10000 = q) : Calls Tryz.prog 156 #[.int .i64 (a : Int), .int .i64 10000] w fun e w' => e = .returned (.int .i64 (q : Int)) ∧ w' = w := by
  (have hd : ((a : Int) + 9999).tdiv 10000 = (q : Int) := by rw [Int.tdiv_eq_ediv_of_nonneg (by omega), ← hq]; rfl); (have h1 : IntKind.i64.wrap ((a : Int) + 10000) = (a : Int) + 10000 := IntWalk.i64_in _ (by omega)); (have h2 : IntKind.i64.wrap ((a : Int) + 10000 - 1) = (a : Int) + 9999 := by rw [IntWalk.i64_in _ (by omega)]; omega); (have hq2 : q ≤ 100010000 := by have := Nat.div_le_self (a + 9999) 10000; omega); (have h3 : IntKind.i64.wrap (q : Int) = (q : Int) := IntWalk.i64_in _ (by omega)); (have h4 : (a : Int) + 10000 - 1 = (a : Int) + 9999 := by omega); (clear hq)
  go_enter Tryz.func156, Tryz.ntmps156
  (go_wp2); (go_ret); (exact ⟨by first | rfl | simp_all, rfl⟩)
set_option maxRecDepth 20000 in
set_option maxHeartbeats 2000000 in
theorem insc_any (v fv : Value) (n : Nat) (w : World) (hn : n ≤ 1) : Calls Tryz.prog 235 #[v, .int .i64 0, .int .i64 (n : Int), fv] w fun e w' => e = .returned (.tuple #[]) ∧ w' = w := by
  have h1 : ¬ (1 : Int) < (n : Int) := by omega
  go_enter Tryz.func235, Tryz.ntmps235
  go_wp2
  go_loopw [8] (fun i wr => i = .int .i64 1 ∧ wr = w) (fun _ _ => 0)
  case atStart => exact ⟨rfl, rfl⟩
  case round =>
    (obtain ⟨rfl, rfl⟩ := hrel); (go_wp2)
    go_end0
    exact ⟨rfl, rfl⟩
set_option maxRecDepth 20000 in
set_option maxHeartbeats 2000000 in
theorem pdqc_any (v fv : Value) (n : Nat) (l : Int) (w : World) (hn : n ≤ 1) : Calls Tryz.prog 204 #[v, .int .i64 0, .int .i64 (n : Int), .int .i64 l, fv] w fun e w' => e = .returned (.tuple #[]) ∧ w' = w := by
  (have H := hid (insc_any v fv n w hn)); (have h1 : (n : Int) ≤ 12 := by omega); (have h0 : n ≤ 12 := by omega)
  go_enter Tryz.func204, Tryz.ntmps204
  go_wp2
  go_loopw [1, 2] (fun a b wr => a = .int .i64 0 ∧ b = .int .i64 (n : Int) ∧ wr = w) (fun _ _ _ => 0)
  case atStart => exact ⟨rfl, rfl, rfl⟩
  case round =>
    (obtain ⟨rfl, rfl, rfl⟩ := hrel); (go_wp2_with fail); (with_reducible refine H.out.mono ?_); (rintro e w2 ⟨rfl, rfl⟩); (go_wp2); (refine bodyPost_ret (v := .tuple #[]) (results_none rfl _ _ _) rfl ?_); (exact ⟨rfl, rfl⟩)
set_option maxRecDepth 20000 in
set_option maxHeartbeats 2000000 in
theorem sortc_any (ao : Option Addr) (n cap : Nat) (fv : Value) (w : World) (hn : n ≤ 1) : Calls Tryz.prog 159 #[.slice ao n cap, fv] w fun e w' => e = .returned (.tuple #[]) ∧ w' = w := by
  (have HL := hid (len_any n w (by omega))); (have H := hid (fun l => pdqc_any (.slice ao n cap) fv n l w hn)); (have h0 : (n : Int) ≤ 1 := by omega)
  go_enter Tryz.func159, Tryz.ntmps159
  (go_wp2_with fail); (with_reducible refine HL.out.mono ?_); (rintro e w2 ⟨rfl, rfl⟩); (go_wp2_with fail); (with_reducible refine (H.out _).mono ?_); (rintro e w3 ⟨rfl, rfl⟩); (go_wp2)
  go_end0
  exact ⟨rfl, rfl⟩
def PHp {Sl : Nat → Nat → Prop} (g : Nat) (V : List Int) : Pr Sl := soft (fun _ w => w.heap[g]? = some (.cells (zI V) 3 (0, 0))) fun _ _ _ h k => k.blk h
theorem results3 {fn : Func} {t u v : Tmp} (h : fn.results = #[.tmp t, .tmp u, .tmp v]) (tmps : Array Value) (P : Program) (w : World) : (results fn tmps).run P w = .ok (.tuple #[tmps.getD t undef, tmps.getD u undef, tmps.getD v undef]) w := by simp [results, h]
theorem dist_bound {n : Nat} {gs : List Grp} (hp : isPile (n : Int) gs = true) (k : Nat) : (∀ c, 0 ≤ ((gs.take k).foldl addM (List.replicate n 0)).getD c 0 ∧ ((gs.take k).foldl addM (List.replicate n 0)).getD c 0 ≤ 1000000000) ∧ 0 ≤ (gs.take k).foldl restM 0 ∧ (gs.take k).foldl restM 0 ≤ 1000000000 := by
  (obtain ⟨h1, h2, _⟩ := (isPile_iff _ _).1 hp); (have hpos : ∀ g ∈ gs.take k, 1 ≤ g.n := fun g hg => (h1 g (List.take_subset _ _ hg)).2); (have hpos2 : ∀ g ∈ gs.drop k, 1 ≤ g.n := fun g hg => (h1 g (List.drop_subset _ _ hg)).2)
  have hr : ∀ g ∈ gs.take k, ∀ a ∈ g.p, 0 ≤ a := fun g hg a ha => by
    (have := (h1 g (List.take_subset _ _ hg)).1); (unfold ballot at this); (exact ((of_decide_eq_true this).2 a ha).1)
  have ht : tot (gs.take k) ≤ 100000 := by
    (have h3 := tot_append (gs.take k) (gs.drop k)); (rw [List.take_append_drop] at h3); (have := tot_nonneg hpos2)
    omega
  refine ⟨fun c => ?_, ?_⟩
  · by_cases hc : c < n
    · (rw [foldM_at _ c _ (by simp; exact hc) hr]); (have := sumIf_le (Q := hdIs c) hpos); (have e : (List.replicate n (0 : Int)).getD c 0 = 0 := by rw [List.getD_eq_getElem?_getD, List.getElem?_replicate]; split <;> rfl); (rw [e]; omega)
    · (have hl : ((gs.take k).foldl addM (List.replicate n 0)).length = n := distV_len n (gs.take k)); (rw [List.getD_eq_getElem?_getD, List.getElem?_eq_none (by omega)])
      decide
  · (rw [foldR_at]); (have := sumIf_le (Q := fun p => p.isEmpty) hpos)
    omega
set_option maxRecDepth 100000 in
set_option maxHeartbeats 8000000 in
theorem dist_any (n : Nat) (kv vg : Value) (ps : List (Grp × Value)) (w : World) (hn1 : 1 ≤ n) (hn7 : n ≤ 7) (hp : isPile (n : Int) (grps ps) = true) (hps : ps.length ≤ 100000) (rk : RdZ w kv (List.replicate n 10000)) (rg : RdG w vg ps) :
    Calls Tryz.prog 104 #[.int .i64 4, kv, vg] w fun e w' => ∃ gv, e = .returned (.tuple #[.slice (some ⟨gv, 0, none⟩) n n, .int .i64 (distR (grps ps)), .bool true]) ∧ w'.heap[gv]? = some (.cells (zI (distV n (grps ps))) 3 (0, 0)) ∧ w.heap.size ≤ gv ∧ Kept no w w' := by
  (obtain ⟨ak, ck, rfl, hck, hckm⟩ := Rd.shape2 rk); (rw [List.length_replicate] at hck rk ⊢); (have hV := hid (valid_any (n : Int) vg ps w rg)); (rw [show (decide (1 ≤ (n : Int) ∧ (n : Int) ≤ 7) && isPile (n : Int) (grps ps)) = true by rw [hp, Bool.and_true]; exact decide_eq_true ⟨by omega, by omega⟩] at hV); (have HP := hid power4_any); (have HZ := hid (fun (W : World) => makeZ n (by omega) W)); (have HU1 := hid (fun (W : World) => up_any 100000000 10000 W (by decide) (by decide))); (have HU0 := hid (fun (W : World) => up_any 0 0 W (by decide) (by decide))); (rw [show ((100000000 : Nat) : Int) = 100000000 from rfl, show ((10000 : Nat) : Int) = 10000 from rfl] at HU1); (rw [show ((0 : Nat) : Int) = 0 from rfl] at HU0); (obtain ⟨ag, cg, rfl, hcg, _⟩ := rg.shape); (obtain ⟨m, hm⟩ : ∃ l, ps.length = l := ⟨_, rfl⟩); (rw [hm] at rg hV hps hcg ⊢); (have hgl : Hd ((grps ps).length = m) := ⟨by rw [grps_length]; exact hm⟩); (have hbd := hid (dist_bound hp)); (have hpl := hid ((isPile_iff _ _).1 hp).1); (replace hm := hid hm); (replace rk := hid rk); (replace rg := hid rg); (clear hp)
  go_enter Tryz.func104, Tryz.ntmps104
  (go_wp2_with fail); (with_reducible refine hV.out.mono ?_); (rintro e w1 ⟨rfl, k1⟩); (go_wp2_with fail); (with_reducible refine (HP.out w1).mono ?_); (rintro e w1_ ⟨rfl, hw1_⟩); (have rk1 := hid (RdZ.kept rk.out k1)); (have k01 := hid k1); (subst hw1_); (clear k1 hV HP); (have k01' := k01.out); (clear k01); (go_upto_region 5 with fail)
  go_loopw [7, 35] (fun r i wr => ∃ k : Nat, k ≤ n ∧ i = .int .i64 (k : Int) ∧ r = .int .i64 0 ∧ Hd (Kept no w wr)) (fun _ i _ => n - (intOf i).toNat)
  case atStart => exact ⟨0, by omega, rfl, rfl, ⟨k01'⟩⟩
  case round =>
    (clear rk1 k01'); (obtain ⟨k, hk, rfl, rfl, hK⟩ := hrel)
    by_cases hlt : k < n
    · (have hk1 : (k : Int) < (n : Int) := by omega); (have hk0 : (0 : Int) ≤ (k : Int) := by omega); (obtain ⟨b, o, rfl, hc⟩ := RdZ.at (RdZ.kept rk.out hK.out) k (by rw [List.length_replicate]; exact hlt)); (rw [show (List.replicate n (10000 : Int)).getD k 0 = 10000 by rw [List.getD_eq_getElem?_getD, List.getElem?_replicate, if_pos hlt]; rfl] at hc); (go_wp2); (go_roundw)
      case rel => first | exact ⟨k + 1, by omega, by go_num, rfl, hK⟩ | ((repeat apply Exists.intro); exact ⟨⟨k + 1, by omega, by go_num, rfl, hK⟩, rfl⟩)
      case measure => simp [intOf]; omega
    · (obtain hkn : k = n := by omega); (have hk1 : ¬ (k : Int) < (n : Int) := by omega); (have hz := HZ.out wr); (go_upto_region 11 with fail); (obtain ⟨w2, hw2, g2, k2⟩ := alloc_named wr (.cells (zsA (List.replicate n 0)) 3)); (rw [← hw2]); (obtain ⟨gv, hgv⟩ : ∃ g, wr.heap.size = g := ⟨_, rfl⟩); (rw [hgv] at g2 ⊢); (have hgv0 : Hd (w.heap.size ≤ gv) := ⟨by have := hK.out.size; omega⟩); (have g2' : Hd (w2.heap[gv]? = some (.cells (zI (List.replicate n 0)) 3 (0, 0))) := ⟨g2⟩); (have k02 := hid (hK.out.trans' k2)); (clear hw2 hz g2 k2 hgv hK); (go_upto_region 12 with fail)
      go_loopw [7, 52] (fun r i wr => ∃ k : Nat, k ≤ m ∧ i = .int .i64 (k : Int) ∧ r = .int .i64 (((grps ps).take k).foldl restM 0) ∧ Hd (wr.heap[gv]? = some (.cells (zI (((grps ps).take k).foldl addM (List.replicate n 0))) 3 (0, 0))) ∧ Hd (Kept no w wr)) (fun _ i _ => m - (intOf i).toNat)
      case atStart => exact ⟨0, by omega, rfl, rfl, g2', k02⟩
      case round =>
        (clear g2' k02); (obtain ⟨i, hi, rfl, rfl, hG, hK⟩ := hrel)
        by_cases hlt2 : i < m
        · (have hi1 : (i : Int) < (m : Int) := by omega); (have hi0 : (0 : Int) ≤ (i : Int) := by omega); (have hil : i < ps.length := by rw [hm.out]; exact hlt2); (have hig : i < (grps ps).length := by rw [hgl.out]; exact hlt2); (obtain ⟨b, o, g, v, hao, hpk, c0, c1, hrz⟩ := (rg.out.kept hK.out).at i hil); (subst hao)
          have hgi : (grps ps)[i] = g := by
            (have : (grps ps)[i]? = some g := by unfold grps; rw [List.getElem?_map, List.getElem?_eq_getElem hil, hpk]; rfl); (rw [List.getElem?_eq_getElem hig] at this); (exact Option.some.inj this)
          (have hbl := hpl.out _ (List.getElem_mem hig)); (have htV := hid (foldl_takeG addM (List.replicate n 0) (grps ps) i hig)); (have htR := hid (foldl_takeG restM 0 (grps ps) i hig)); (rw [hgi] at hbl htV htR); (have hb1 := hid (hbd.out i)); (have hb2 := hid (hbd.out (i + 1))); (obtain ⟨V, hVe⟩ : ∃ V, ((grps ps).take i).foldl addM (List.replicate n 0) = V := ⟨_, rfl⟩); (obtain ⟨R, hRe⟩ : ∃ V, ((grps ps).take i).foldl restM 0 = V := ⟨_, rfl⟩); (have hVl : V.length = n := by rw [← hVe]; exact distV_len n _); (rw [hVe] at hG htV hb1); (rw [hRe] at htR hb1 ⊢); (rw [htV.out, htR.out] at hb2); (obtain ⟨N, hN⟩ : ∃ N : Nat, g.n = (N : Int) := ⟨g.n.toNat, by have := hbl.2; omega⟩)
          have hN1 : N ≤ 100000 := by
            (have h1 := hb2.out); (have h2 := hb1.out)
            by_cases hp0 : g.p = []
            · (unfold restM at h1); (rw [hp0] at h1); (simp only at h1)
              omega
            · (obtain ⟨a, t, hat⟩ := List.exists_cons_of_ne_nil hp0); (have hb := hbl.1); (unfold ballot at hb); (have ha := (of_decide_eq_true hb).2 a (by rw [hat]; exact List.mem_cons_self)); (have h3 := addM_at V g a.toNat (by rw [hVl]; omega) (fun x hx => ((of_decide_eq_true hb).2 x hx).1)); (rw [if_pos (by unfold hdIs; rw [hat]; exact decide_eq_true (by omega))] at h3); (have h4 := h1.1 a.toNat); (have h5 := h2.1 a.toNat)
              omega
          (rw [hN] at c1); (have hrz0 := rg.out.1 _ (List.getElem_mem hil)); (rw [hpk] at hrz0); (simp only at hrz0); (obtain ⟨za, zc, rfl, hzl, hzm⟩ := Rd.shape2 hrz); (obtain ⟨gl, hgl2⟩ : ∃ l, g.p.length = l := ⟨_, rfl⟩); (rw [hgl2] at hzl); (have hglb : gl ≤ 9223372036854775807 := by have := maxLen_63; omega); (clear hzl hzm); (rw [hgl2] at c0 hrz hrz0); (have hrz1 := hid hrz0); (obtain ⟨w9, hw9, g9, k9⟩ := alloc_named wr (.cells #[.slice za gl zc, .int .i64 (N : Int)] 105)); (obtain ⟨G, hG9⟩ : ∃ x, wr.heap.size = x := ⟨_, rfl⟩); (have hgvG : Hd (gv < G) := ⟨by have := lt_of_heap hG.out; omega⟩); (have hG0 := hid (k9.blk hG.out)); (have hK0 := hid (hK.out.trans' k9)); (have hbl' := hid hbl); (have hgl2' := hid hgl2); (have hN' := hid hN); (have hVl' := hid hVl); (clear hpk hrz hrz0 hbl hN hVe hRe hVl hgl2 hil hig hgi k9 hG hK); (go_upto_region 14 with fail); (rw [← hw9]); (try rw [hG9]); (rw [hG9] at g9); (have g9' := hid g9); (clear hw9 hG9 c0 c1 g9); (have s0 : w9.cell? ⟨G, 0, none⟩ = some (.slice za gl zc) := cell_at g9'.out rfl); (go_upto_region 16 with fail); (clear s0)
          have hup : Hd (0 < gl → ∃ c : Nat, c < n ∧ g.p.getD 0 0 = (c : Int) ∧ addM V g = V.set c (V.getD c 0 + 10000 * (N : Int))) := ⟨fun h => by
            (obtain ⟨a, t, hat⟩ := List.exists_cons_of_ne_nil (show g.p ≠ [] from fun e => by rw [e] at hgl2'; have := hgl2'.out; simp at this; omega)); (have hb := hbl'.out.1); (unfold ballot at hb); (have ha := (of_decide_eq_true hb).2 a (by rw [hat]; exact List.mem_cons_self)); (refine ⟨a.toNat, by omega, by rw [hat]; show a = _; omega, ?_⟩); (unfold addM)
            rw [hat, hN'.out]⟩
          have hon : Hd (∀ j, j < gl → ∃ c : Nat, c < n ∧ g.p.getD j 0 = (c : Int)) := ⟨fun j hj => by
            (have hb := hbl'.out.1); (unfold ballot at hb); (have ha := (of_decide_eq_true hb).2 (g.p.getD j 0) (getD_memZ (by rw [hgl2'.out]; exact hj)))
            exact ⟨(g.p.getD j 0).toNat, by omega, by omega⟩⟩
          (have hb12 := hid (fun c => And.intro (hb1.out.1 c) (hb2.out.1 c))); (have hbR := hid (And.intro hb1.out.2 hb2.out.2)); (clear hb1 hb2)
          go_loopw [14, 60] (fun wt j wr2 => ∃ q : Nat, q ≤ gl ∧ j = .int .i64 (q : Int) ∧ ((q = 0 ∧ wt = .int .i64 10000 ∧ Hd (wr2.heap[gv]? = some (.cells (zI V) 3 (0, 0)))) ∨ (0 < q ∧ wt = .int .i64 0 ∧ Hd (wr2.heap[gv]? = some (.cells (zI (addM V g)) 3 (0, 0))))) ∧ Hd (Kept (fun l => l = gv) w9 wr2)) (fun _ j _ => gl - (intOf j).toNat)
          case atStart => exact ⟨0, by omega, rfl, .inl ⟨rfl, rfl, hG0⟩, ⟨Kept.refl _ _⟩⟩
          case round =>
            (obtain ⟨q, hq, rfl, hcs, hKq⟩ := hrel); (have k0q : Kept no w9 wr ∨ True := .inr trivial); (clear k0q); (have hgvw : gv < w9.heap.size := lt_of_heap hG0.out); (have hkw : Kept no w wr := hK0.out.trans hKq.out fun j hj e => by have := hgv0.out; omega)
            by_cases hlt3 : q < gl
            · (have hq1 : (q : Int) < (gl : Int) := by omega); (have hq0 : (0 : Int) ≤ (q : Int) := by omega); (obtain ⟨c, hcn, hce⟩ := hon.out q hlt3); (have hcn1 : (c : Int) < (n : Int) := by omega); (have hcn0 : (0 : Int) ≤ (c : Int) := by omega); (obtain ⟨bz, oz, hza, hcz⟩ := RdZ.at (RdZ.kept hrz1.out hkw) q (by rw [hgl2'.out]; exact hlt3)); (subst hza); (rw [hce] at hcz); (obtain ⟨bk, ok, hka, hck⟩ := RdZ.at (RdZ.kept rk.out hkw) c (by rw [List.length_replicate]; exact hcn)); (subst hka); (rw [show (List.replicate n (10000 : Int)).getD c 0 = 10000 by rw [List.getD_eq_getElem?_getD, List.getElem?_replicate, if_pos hcn]; rfl] at hck); (have s1 : Hd (wr.cell? ⟨G, 1, none⟩ = some (.int .i64 (N : Int))) := ⟨hKq.out.cell (cell_at g9'.out (j := 1) rfl) (by have := hgvG.out; show ¬ G = gv; omega)⟩); (have hbc := hb12.out c)
              rcases hcs with ⟨rfl, rfl, hGq⟩ | ⟨hq2, rfl, hGq⟩
              · (obtain ⟨c', _, h2, h3⟩ := hup.out (by omega)); (have hcc : c' = c := by omega); (subst hcc); (rw [Nat.add_zero] at hcz); (rw [h3] at hbc); (obtain ⟨VC, hVC⟩ : ∃ x, V.getD c' 0 = x := ⟨_, rfl⟩); (rw [hVC] at h3)
                have hbs : (V.set c' (VC + 10000 * (N : Int))).getD c' 0 = VC + 10000 * (N : Int) := by
                  rw [List.getD_eq_getElem?_getD, List.getElem?_set_self (by rw [hVl'.out]; exact hcn)]; rfl
                (rw [hVC, hbs] at hbc); (have cv : Hd (wr.cell? ⟨gv, c', none⟩ = some (.int .i64 VC)) := ⟨by rw [← hVC]; exact cell_at hGq.out (zI_at (by rw [hVl'.out]; exact hcn))⟩); (have hw1 : IntKind.i64.wrap (10000 * (N : Int)) = 10000 * (N : Int) := IntWalk.i64_in _ (by omega)); (have hw2 : IntKind.i64.wrap (VC + 10000 * (N : Int)) = VC + 10000 * (N : Int) := IntWalk.i64_in _ (by omega)); (have h3' := hid h3); (clear hVC hbs h2 h3); (go_wp2_with fail); (with_reducible refine (HU1.out wr).mono ?_); (rintro e1 w1_ ⟨rfl, hw1_⟩); (subst hw1_); (go_upto_region 19 with fail); (refine region_flow (S := (fun l => l = gv)) (Sl := (fun _ => (fun l => l = gv))) [Is (.slice (some ⟨gv, 0, none⟩) n n), Is (.int .i64 (c' : Int)), Is (.pointer (some ⟨gv, c', none⟩)), Is (.int .i64 VC), Is (.int .i64 10000), Is (.pointer (some ⟨G, 1, none⟩)), Is (.int .i64 (N : Int)), Is (.int .i64 (10000 * (N : Int))), Is (.int .i64 (VC + 10000 * (N : Int))), Is (.pointer (some ⟨gv, c', none⟩)), PHp gv (V.set c'  (VC + 10000 * (N : Int)))] [10] (fun _ _ h => h) _ (by kernel_rfl) (by kernel_rfl) (by kernel_rfl) (by kernel_rfl) (fun x => by simp only [puts, Act.put, List.map_cons, List.map_nil, Nat.zero_add, Nat.reduceAdd, List.setIfInBounds_toArray, List.set_cons_zero, List.set_cons_succ]; exact rfl) ?_ ?_)
                · (skip); (refine .cons (fun x wf Kk hq hdep hold => ?_) ?_)
                  · (try dsimp only); (clear hq hdep hold); (refine opv rfl ?_); (first | rfl | go_simp)
                  refine .cons (fun x wf Kk hq hdep hold => ?_) ?_
                  · (try dsimp only); (clear hq hdep hold); (refine opv rfl ?_); (first | rfl | go_simp)
                  refine .cons (fun x wf Kk hq hdep hold => ?_) ?_
                  · (try dsimp only); (have h0 : x 0 = _ := hdep 0 (by kernel_rfl)); (have h1 : x 1 = _ := hdep 1 (by kernel_rfl)); (clear hq hdep hold); (simp only [h0, h1]); (clear h0 h1); (refine opv rfl ?_); (first | rfl | go_simp)
                  refine .cons (fun x wf Kk hq hdep hold => ?_) ?_
                  · (try dsimp only); (have h2 : x 2 = _ := hdep 2 (by kernel_rfl)); (have Kq := hq no (fun _ hj => (noMem (by kernel_rfl) hj).elim)); (clear hq hdep hold); (simp only [h2]); (clear h2); (have m1 := Kq.undrew.cell cv.out id); (refine opv rfl ?_); (first | rfl | go_simp)
                  refine .cons (fun x wf Kk hq hdep hold => ?_) ?_
                  · (try dsimp only); (clear hq hdep hold); (refine opv rfl ?_); (first | rfl | go_simp)
                  refine .cons (fun x wf Kk hq hdep hold => ?_) ?_
                  · (try dsimp only); (clear hq hdep hold); (refine opv rfl ?_); (first | rfl | go_simp)
                  refine .cons (fun x wf Kk hq hdep hold => ?_) ?_
                  · (try dsimp only); (have h5 : x 5 = _ := hdep 5 (by kernel_rfl)); (have Kq := hq no (fun _ hj => (noMem (by kernel_rfl) hj).elim)); (clear hq hdep hold); (simp only [h5]); (clear h5); (have m1 := Kq.undrew.cell s1.out id); (refine opv rfl ?_); (first | rfl | go_simp)
                  refine .cons (fun x wf Kk hq hdep hold => ?_) ?_
                  · (try dsimp only); (have h4 : x 4 = _ := hdep 4 (by kernel_rfl)); (have h6 : x 6 = _ := hdep 6 (by kernel_rfl)); (clear hq hdep hold); (simp only [h4, h6]); (clear h4 h6); (refine opv rfl ?_); (first | rfl | go_simp)
                  refine .cons (fun x wf Kk hq hdep hold => ?_) ?_
                  · (try dsimp only); (have h3 : x 3 = _ := hdep 3 (by kernel_rfl)); (have h7 : x 7 = _ := hdep 7 (by kernel_rfl)); (clear hq hdep hold); (simp only [h3, h7]); (clear h3 h7); (refine opv rfl ?_); (first | rfl | go_simp)
                  refine .cons (fun x wf Kk hq hdep hold => ?_) ?_
                  · (try dsimp only); (have h0 : x 0 = _ := hdep 0 (by kernel_rfl)); (have h1 : x 1 = _ := hdep 1 (by kernel_rfl)); (clear hq hdep hold); (simp only [h0, h1]); (clear h0 h1); (refine opv rfl ?_); (first | rfl | go_simp)
                  refine .cons (fun x wf Kk hq hdep hold => ?_) ?_
                  · (try dsimp only); (have h9 : x 9 = _ := hdep 9 (by kernel_rfl)); (have h8 : x 8 = _ := hdep 8 (by kernel_rfl)); (have Kq := hq no (fun _ hj => (noMem (by kernel_rfl) hj).elim)); (clear hq hdep hold); (simp only [h9, h8]); (clear h9 h8); (rw [if_pos (by rfl)]); (have hb := Kq.undrew.blk hGq.out); (have fz := row_free hb c'); (have c9 := Kq.undrew.cell cv.out id); (have kS := (Kept.refl (fun l => l = gv) wf).setCell (a := ⟨gv, c', none⟩) (.inl rfl) (.int .i64 (VC + 10000 * (N : Int)))); (have h9 : (wf.setCell ⟨gv, c', none⟩ (.int .i64 (VC + 10000 * (N : Int)))).heap[gv]? = some (.cells (zI (V.set c'  (VC + 10000 * (N : Int)))) 3 (0, 0)) := by rw [setCell_row hb, zI_set]); (refine OpY.skipY (w' := wf.setCell ⟨gv, c', none⟩ (.int .i64 (VC + 10000 * (N : Int)))) (by go_simp) ⟨kS, h9⟩)
                  exact .nil _
                · (intro x wf Kk hv); (try dsimp only); (have p10 : Pr.p (Sl := (fun _ => (fun l => l = gv))) (PHp gv (V.set c'  (VC + 10000 * (N : Int)))) (x 10) wf := hv 10 (by kernel_rfl)); (clear hv); (have hG2 : Hd (wf.heap[gv]? = some (.cells (zI (addM V g)) 3 (0, 0))) := ⟨by rw [h3'.out]; exact p10⟩); (have hK2 := hid (hKq.out.trans Kk.undrew fun _ _ h => h)); (obtain ⟨w8, hw8⟩ : ∃ W, wf = W := ⟨_, rfl⟩); (rw [hw8] at hG2 hK2 ⊢); (clear Kk p10 hw8 cv s1 hGq hKq); (go_wp2); (go_roundw)
                  case rel => first | exact ⟨0 + 1, by omega, by go_num, .inr ⟨by omega, rfl, hG2⟩, hK2⟩ | ((repeat apply Exists.intro); exact ⟨⟨0 + 1, by omega, by go_num, .inr ⟨by omega, rfl, hG2⟩, hK2⟩, rfl⟩)
                  case measure => simp [intOf]; omega
              · (obtain ⟨VC, hVC⟩ : ∃ x, (addM V g).getD c 0 = x := ⟨_, rfl⟩); (rw [hVC] at hbc); (have hAl : (addM V g).length = n := by rw [addM_len, hVl'.out]); (have cv : Hd (wr.cell? ⟨gv, c, none⟩ = some (.int .i64 VC)) := ⟨by rw [← hVC]; exact cell_at hGq.out (zI_at (by rw [hAl]; exact hcn))⟩)
                have h3' : Hd ((addM V g).set c VC = addM V g) := ⟨by
                  (have hcl : c < (addM V g).length := by rw [hAl]; exact hcn); (have : VC = (addM V g)[c] := by rw [← hVC, List.getD_eq_getElem?_getD, List.getElem?_eq_getElem hcl]; rfl)
                  rw [this]; exact List.set_getElem_self hcl⟩
                (have hw2 : IntKind.i64.wrap VC = VC := IntWalk.i64_in _ (by omega)); (have hw0 : IntKind.i64.wrap 0 = 0 := rfl); (clear hVC); (go_wp2_with fail); (with_reducible refine (HU0.out wr).mono ?_); (rintro e1 w1_ ⟨rfl, hw1_⟩); (subst hw1_); (go_upto_region 19 with fail); (refine region_flow (S := (fun l => l = gv)) (Sl := (fun _ => (fun l => l = gv))) [Is (.slice (some ⟨gv, 0, none⟩) n n), Is (.int .i64 (c : Int)), Is (.pointer (some ⟨gv, c, none⟩)), Is (.int .i64 VC), Is (.int .i64 0), Is (.pointer (some ⟨G, 1, none⟩)), Is (.int .i64 (N : Int)), Is (.int .i64 0), Is (.int .i64 (VC)), Is (.pointer (some ⟨gv, c, none⟩)), PHp gv ((addM V g).set c  (VC))] [10] (fun _ _ h => h) _ (by kernel_rfl) (by kernel_rfl) (by kernel_rfl) (by kernel_rfl) (fun x => by simp only [puts, Act.put, List.map_cons, List.map_nil, Nat.zero_add, Nat.reduceAdd, List.setIfInBounds_toArray, List.set_cons_zero, List.set_cons_succ]; exact rfl) ?_ ?_)
                · (skip); (refine .cons (fun x wf Kk hq hdep hold => ?_) ?_)
                  · (try dsimp only); (clear hq hdep hold); (refine opv rfl ?_); (first | rfl | go_simp)
                  refine .cons (fun x wf Kk hq hdep hold => ?_) ?_
                  · (try dsimp only); (clear hq hdep hold); (refine opv rfl ?_); (first | rfl | go_simp)
                  refine .cons (fun x wf Kk hq hdep hold => ?_) ?_
                  · (try dsimp only); (have h0 : x 0 = _ := hdep 0 (by kernel_rfl)); (have h1 : x 1 = _ := hdep 1 (by kernel_rfl)); (clear hq hdep hold); (simp only [h0, h1]); (clear h0 h1); (refine opv rfl ?_); (first | rfl | go_simp)
                  refine .cons (fun x wf Kk hq hdep hold => ?_) ?_
                  · (try dsimp only); (have h2 : x 2 = _ := hdep 2 (by kernel_rfl)); (have Kq := hq no (fun _ hj => (noMem (by kernel_rfl) hj).elim)); (clear hq hdep hold); (simp only [h2]); (clear h2); (have m1 := Kq.undrew.cell cv.out id); (refine opv rfl ?_); (first | rfl | go_simp)
                  refine .cons (fun x wf Kk hq hdep hold => ?_) ?_
                  · (try dsimp only); (clear hq hdep hold); (refine opv rfl ?_); (first | rfl | go_simp)
                  refine .cons (fun x wf Kk hq hdep hold => ?_) ?_
                  · (try dsimp only); (clear hq hdep hold); (refine opv rfl ?_); (first | rfl | go_simp)
                  refine .cons (fun x wf Kk hq hdep hold => ?_) ?_
                  · (try dsimp only); (have h5 : x 5 = _ := hdep 5 (by kernel_rfl)); (have Kq := hq no (fun _ hj => (noMem (by kernel_rfl) hj).elim)); (clear hq hdep hold); (simp only [h5]); (clear h5); (have m1 := Kq.undrew.cell s1.out id); (refine opv rfl ?_); (first | rfl | go_simp)
                  refine .cons (fun x wf Kk hq hdep hold => ?_) ?_
                  · (try dsimp only); (have h4 : x 4 = _ := hdep 4 (by kernel_rfl)); (have h6 : x 6 = _ := hdep 6 (by kernel_rfl)); (clear hq hdep hold); (simp only [h4, h6]); (clear h4 h6); (refine opv rfl ?_); (first | rfl | go_simp)
                  refine .cons (fun x wf Kk hq hdep hold => ?_) ?_
                  · (try dsimp only); (have h3 : x 3 = _ := hdep 3 (by kernel_rfl)); (have h7 : x 7 = _ := hdep 7 (by kernel_rfl)); (clear hq hdep hold); (simp only [h3, h7]); (clear h3 h7); (refine opv rfl ?_); (first | rfl | go_simp)
                  refine .cons (fun x wf Kk hq hdep hold => ?_) ?_
                  · (try dsimp only); (have h0 : x 0 = _ := hdep 0 (by kernel_rfl)); (have h1 : x 1 = _ := hdep 1 (by kernel_rfl)); (clear hq hdep hold); (simp only [h0, h1]); (clear h0 h1); (refine opv rfl ?_); (first | rfl | go_simp)
                  refine .cons (fun x wf Kk hq hdep hold => ?_) ?_
                  · (try dsimp only); (have h9 : x 9 = _ := hdep 9 (by kernel_rfl)); (have h8 : x 8 = _ := hdep 8 (by kernel_rfl)); (have Kq := hq no (fun _ hj => (noMem (by kernel_rfl) hj).elim)); (clear hq hdep hold); (simp only [h9, h8]); (clear h9 h8); (rw [if_pos (by rfl)]); (have hb := Kq.undrew.blk hGq.out); (have fz := row_free hb c); (have c9 := Kq.undrew.cell cv.out id); (have kS := (Kept.refl (fun l => l = gv) wf).setCell (a := ⟨gv, c, none⟩) (.inl rfl) (.int .i64 (VC))); (have h9 : (wf.setCell ⟨gv, c, none⟩ (.int .i64 (VC))).heap[gv]? = some (.cells (zI ((addM V g).set c  (VC))) 3 (0, 0)) := by rw [setCell_row hb, zI_set]); (refine OpY.skipY (w' := wf.setCell ⟨gv, c, none⟩ (.int .i64 (VC))) (by go_simp) ⟨kS, h9⟩)
                  exact .nil _
                · (intro x wf Kk hv); (try dsimp only); (have p10 : Pr.p (Sl := (fun _ => (fun l => l = gv))) (PHp gv ((addM V g).set c  (VC))) (x 10) wf := hv 10 (by kernel_rfl)); (clear hv); (have hG2 : Hd (wf.heap[gv]? = some (.cells (zI (addM V g)) 3 (0, 0))) := ⟨by rw [← h3'.out]; exact p10⟩); (have hK2 := hid (hKq.out.trans Kk.undrew fun _ _ h => h)); (obtain ⟨w8, hw8⟩ : ∃ W, wf = W := ⟨_, rfl⟩); (rw [hw8] at hG2 hK2 ⊢); (clear Kk p10 hw8 cv s1 hGq hKq); (go_wp2); (go_roundw)
                  case rel => first | exact ⟨q + 1, by omega, by go_num, .inr ⟨by omega, rfl, hG2⟩, hK2⟩ | ((repeat apply Exists.intro); exact ⟨⟨q + 1, by omega, by go_num, .inr ⟨by omega, rfl, hG2⟩, hK2⟩, rfl⟩)
                  case measure => simp [intOf]; omega
            · (obtain rfl : gl = q := by omega); (have hq1 : ¬ (gl : Int) < (gl : Int) := by omega); (have s1 : wr.cell? ⟨G, 1, none⟩ = some (.int .i64 (N : Int)) := hKq.out.cell (cell_at g9'.out (j := 1) rfl) (by have := hgvG.out; show ¬ G = gv; omega)); (have hkw' := hid hkw); (obtain ⟨hR1, hR2⟩ := hbR.out)
              rcases hcs with ⟨h0q, rfl, hGq⟩ | ⟨hq2, rfl, hGq⟩
              · (have hp0 : g.p = [] := List.eq_nil_of_length_eq_zero (by rw [hgl2'.out]; omega)); (clear h0q); (have hr : restM R g = R + 10000 * (N : Int) := by unfold restM; rw [hp0, hN'.out]); (have ha : addM V g = V := by unfold addM; rw [hp0]); (rw [hr] at hR2); (have hG2 : Hd (wr.heap[gv]? = some (.cells (zI (((grps ps).take (i + 1)).foldl addM (List.replicate n 0))) 3 (0, 0))) := ⟨by rw [htV.out, ha]; exact hGq.out⟩); (have hrr : ((grps ps).take (i + 1)).foldl restM 0 = R + 10000 * (N : Int) := by rw [htR.out, hr]); (have hw1 : IntKind.i64.wrap (10000 * (N : Int)) = 10000 * (N : Int) := IntWalk.i64_in _ (by omega)); (have hw2 : IntKind.i64.wrap (R + 10000 * (N : Int)) = R + 10000 * (N : Int) := IntWalk.i64_in _ (by omega)); (have hrr' := hid hrr); (clear hr ha hrr hGq hKq hkw hp0); (go_wp2); (go_roundw)
                case rel => first | exact ⟨i + 1, by omega, by go_num, by rw [hrr'.out], hG2, hkw'⟩ | ((repeat apply Exists.intro); exact ⟨⟨i + 1, by omega, by go_num, by rw [hrr'.out], hG2, hkw'⟩, rfl⟩)
                case measure => simp [intOf]; omega
              · have hp0 : g.p ≠ [] := fun e => by rw [e] at hgl2'; have := hgl2'.out; simp at this; omega
                have hr : restM R g = R := by
                  (obtain ⟨a, t, hat⟩ := List.exists_cons_of_ne_nil hp0); (unfold restM; rw [hat])
                (have hG2 : Hd (wr.heap[gv]? = some (.cells (zI (((grps ps).take (i + 1)).foldl addM (List.replicate n 0))) 3 (0, 0))) := ⟨by rw [htV.out]; exact hGq.out⟩); (have hrr' : Hd (((grps ps).take (i + 1)).foldl restM 0 = R) := ⟨by rw [htR.out, hr]⟩); (have hw2 : IntKind.i64.wrap R = R := IntWalk.i64_in _ (by omega)); (clear hr hGq hKq hkw hp0); (go_wp2); (go_roundw)
                case rel => first | exact ⟨i + 1, by omega, by go_num, by rw [hrr'.out], hG2, hkw'⟩ | ((repeat apply Exists.intro); exact ⟨⟨i + 1, by omega, by go_num, by rw [hrr'.out], hG2, hkw'⟩, rfl⟩)
                case measure => simp [intOf]; omega
        · (obtain hmi : m = i := by omega); (have hi1 : ¬ (i : Int) < (m : Int) := by omega); (have hfin : Hd (wr.heap[gv]? = some (.cells (zI (distV n (grps ps))) 3 (0, 0))) := ⟨by have := hG.out; rwa [List.take_of_length_le (by rw [hgl.out]; omega)] at this⟩); (have hfr : ((grps ps).take i).foldl restM 0 = distR (grps ps) := by rw [List.take_of_length_le (by rw [hgl.out]; omega)]; rfl); (rw [hfr]); (go_wp2); (refine bodyPost_ret (v := .tuple #[.slice (some ⟨gv, 0, none⟩) n n, .int .i64 (distR (grps ps)), .bool true]) ?_ rfl ?_)
          · exact results3 (t := 6) (u := 7) (v := 8) (by rfl) _ _ _
          · exact ⟨gv, rfl, hfin.out, hgv0.out, hK.out⟩
end Go.Proofs.YtaobaaaihgahfaaGreat

/- meek.numbers, reaching (printed by gen_mk2.py). -/
namespace Go.Proofs.YtaobaaaihgahfaaGreat
open Go.RowKit Go.Mk Go.Pil Go.Nt Go.Gg
set_option maxRecDepth 100000 in
set_option maxHeartbeats 4000000 in
theorem numbers_any (gk : Nat) (uv : Value) (zs : List Int) (w : World) (hl : zs.length ≤ 1000) (hz : ∀ c, 0 ≤ zs.getD c 0 ∧ zs.getD c 0 < 2147483648) (c11 : w.cell? ⟨gk, 11, none⟩ = some (.int .i64 10000)) (rz : RdZ w uv zs) :
    Calls Tryz.prog 105 #[.pointer (some ⟨gk, 0, none⟩), uv] w fun e w' => ∃ v qs, e = .returned v ∧ OwQ w w' v qs := by
  (obtain ⟨au, cu, rfl, hcu, _⟩ := Rd.shape2 rz); (obtain ⟨n, hn⟩ : ∃ n, zs.length = n := ⟨_, rfl⟩); (rw [hn] at hl rz hcu ⊢); (replace hn := hid hn); (replace rz := hid rz); (replace hz := hid hz); (replace c11 := hid c11)
  go_enter Tryz.func105, Tryz.ntmps105
  go_wp2
  go_loopw [5, 10] (fun out i wr => ∃ (k : Nat) (qs : List RQ), k ≤ n ∧ i = .int .i64 (k : Int) ∧ qs.length = k ∧ Hd (OwQ w wr out qs)) (fun _ i _ => n - (intOf i).toNat)
  case atStart => exact ⟨0, [], by omega, rfl, rfl, ⟨OwQ.nil w⟩⟩
  case round =>
    obtain ⟨k, qs, hk, rfl, hqk, hO⟩ := hrel
    by_cases hlt : k < n
    · (have hk1 : (k : Int) < (n : Int) := by omega); (have hk0 : (0 : Int) ≤ (k : Int) := by omega); (have hkl : k < zs.length := by rw [hn.out]; exact hlt); (obtain ⟨b, o, rfl, hc⟩ := RdZ.at (RdZ.kept rz.out hO.out.kept) k hkl); (have hzk := hz.out k); (obtain ⟨u, hu⟩ : ∃ u : Nat, zs.getD k 0 = (u : Int) := ⟨(zs.getD k 0).toNat, by omega⟩); (rw [hu] at hc hzk); (have c1 := hO.out.kept.cell c11.out id); (have HF := hid (fun (W : World) => ratfrac_any u 10000 W (by omega) (by decide))); (rw [show ((10000 : Nat) : Int) = 10000 from rfl] at HF); (have hqm : Hd (qs.length + 1 ≤ maxLen ∧ (qs.length + 1) * 56 ≤ 140737488355328) := ⟨by have hm : maxLen = 9223372036854775807 := rfl; omega⟩); (clear hu hkl); (go_wp2_with fail); (with_reducible refine (HF.out wr).mono ?_); (rintro e w2 ⟨v2, rfl, o2⟩); (have hk2 := hid o2.kept); (obtain ⟨y, rfl, hy1, hy2, hy3, hy4⟩ := o2.limbs); (have hO2 := hid (hO.out.keptNo hk2.out)); (have hone := hid (cQ_one ⟨hy3, hy4⟩)); (have hlim := hid (And.intro hy3 hy4)); (obtain ⟨⟨ya, yc, eya⟩, ⟨yb, yd, eyb⟩⟩ := RQ.shape ⟨hy3, hy4⟩); (have eC : cQ y = [.bool false, .slice ya (nl y.p).length yc, .slice yb (nl y.q).length yd] := by unfold cQ; rw [eya, eyb]); (rw [eya, eyb]); (rw [eC] at hone); (replace eC := hid eC); (clear HF o2 hy1 hy2 hy3 hy4 eya eyb hc c1); (go_wp2_with (at_builtin; refine wpList_append_lit _ rfl _ _ 72 rfl 76 3 56 TRats _ _ _ rfl hO2.out.inq.own 1 [.bool false, .slice ya (nl y.p).length yc, .slice yb (nl y.q).length yd] rfl rfl hone.out hqm.out.1 hqm.out.2 ?_)); (intro v' w5 h2 h3 h4 _); (have hO5 : Hd (OwQ w w5 v' (qs ++ [y])) := ⟨hO2.out.add (Kept.refl _ _) hlim.out (by rw [eC.out, hqk]; exact h2) h3 h4⟩); (have hq5 : (qs ++ [y]).length = k + 1 := by rw [List.length_append, List.length_singleton, hqk]); (clear h2 h3 h4 hO hO2 hqm hlim hone eC); (go_wp2); (go_roundw)
      case rel => first | exact ⟨k + 1, _, by omega, by go_num, hq5, hO5⟩ | ((repeat apply Exists.intro); exact ⟨⟨k + 1, _, by omega, by go_num, hq5, hO5⟩, rfl⟩)
      case measure => simp [intOf]; omega
    · (obtain rfl : n = k := by omega); (have hk1 : ¬ (n : Int) < (n : Int) := by omega); (go_wp2); (go_ret); (first | exact ⟨_, qs, rfl, hO.out⟩ | exact ⟨qs, hO.out⟩ | exact ⟨_, rfl, qs, hO.out⟩)
/-- The closure of reaching. -/
theorem reach1_any (B B2 : Nat) (vv : Value) (V : List Int) (quo : Int) (c : Nat) (w : World) (hc : c < V.length) (rv : RdZ w vv V) (b1 : w.cell? ⟨B, 0, none⟩ = some vv) (b2 : w.cell? ⟨B2, 0, none⟩ = some (.int .i64 quo)) :
    Calls Tryz.prog 158 #[.int .i64 (c : Int), .pointer (some ⟨B, 0, none⟩), .pointer (some ⟨B2, 0, none⟩)] w fun e w' => e = .returned (.bool (decide (V.getD c 0 < quo))) ∧ Kept no w w' := by
  (obtain ⟨av, cv, rfl, hcv, _⟩ := Rd.shape2 rv); (obtain ⟨b, o, rfl, hcc⟩ := RdZ.at rv c hc); (obtain ⟨n, hn⟩ : ∃ n, V.length = n := ⟨_, rfl⟩); (rw [hn] at b1 hc); (have hc1 : (c : Int) < (n : Int) := by omega); (have hc0 : (0 : Int) ≤ (c : Int) := by omega); (obtain ⟨z, hz⟩ : ∃ z, V.getD c 0 = z := ⟨_, rfl⟩); (rw [hz] at hcc ⊢); (clear hz rv hcv hn)
  go_enter Tryz.func158, Tryz.ntmps158
  (go_wp2_with fail); (go_quiet (fail)); (have hK := hid ((Kept.refl no w).drewN nq)); (go_wp2); (go_ret); (exact ⟨rfl, hK.out⟩)
/-- Whom the quota elects. -/
def reachM (V : List Int) (st : List Int) (quo : Int) : List Int := (allS st 0).filter fun c => !decide (V.getD c.toNat 0 < quo)
set_option maxRecDepth 100000 in
set_option maxHeartbeats 4000000 in
theorem reaching_any (gk gs n c : Nat) (quo : Int) (vv : Value) (C : Array Value) (V st : List Int) (w : World) (hn : n ≤ 1000) (hst : st.length = n) (hVl : V.length = n) (kb : w.heap[gk]? = some (.cells C 113 (0, 0))) (sb : w.heap[gs]? = some (.cells (zI st) 3 (0, 0)))
    (h12 : C[12]? = some (.slice (some ⟨gs, 0, none⟩) n n)) (h3 : C[3]? = some (.int .i64 1)) (h14 : C[14]? = some (.int .i64 0)) (rv : RdZ w vv V) (hne : allS st 0 ≠ []) (hre : reachM V st quo = [(c : Int)]) :
    Calls Tryz.prog 108 #[.pointer (some ⟨gk, 0, none⟩), vv, .int .i64 quo] w fun e w' => ∃ v, e = .returned v ∧ RdZ w' v [(c : Int)] ∧ Kept no w w' := by
  (obtain ⟨av, cv, rfl, _, _⟩ := Rd.shape2 rv); (obtain ⟨vl, hvl⟩ : ∃ l, V.length = l := ⟨_, rfl⟩); (rw [hvl] at rv ⊢); (obtain ⟨w1, hw1, g1, k1⟩ := alloc_named w (.cells #[.pointer (some ⟨gk, 0, none⟩)] 110)); (have e1 : w1.heap.size = w.heap.size + 1 := by rw [hw1]; simp); (obtain ⟨w2, hw2, g2, k2⟩ := alloc_named w1 (.cells #[.slice av vl cv] 26)); (have e2 : w2.heap.size = w1.heap.size + 1 := by rw [hw2]; simp); (obtain ⟨w3, hw3, g3, k3⟩ := alloc_named w2 (.cells #[.int .i64 quo] 3)); (obtain ⟨B0, hB0⟩ : ∃ g, w.heap.size = g := ⟨_, rfl⟩); (obtain ⟨B1, hB1⟩ : ∃ g, w1.heap.size = g := ⟨_, rfl⟩); (obtain ⟨B2, hB2⟩ : ∃ g, w2.heap.size = g := ⟨_, rfl⟩); (rw [hB0] at g1); (rw [hB1] at g2); (rw [hB2] at g3); (have q1 : Hd (B0 + 1 = B1) := ⟨by omega⟩); (have q2 : Hd (B1 + 1 = B2) := ⟨by omega⟩); (have k03 := hid ((k1.trans' k2).trans' k3)); (have b0 := hid (k3.blk (k2.blk g1))); (have b1 := hid (k3.blk g2)); (have b2 := hid g3); (have HA := hid (allm_any gk _ st 0 w3 (by omega) (cell_at (k03.out.blk kb) h12) (zI_rd (k03.out.blk sb) n hst (by have : maxLen = 9223372036854775807 := rfl; omega)))); (have rv3 := hid (RdZ.kept rv k03.out)); (have kb3 := hid (k03.out.blk kb)); (have hh3 := hid h3); (have hh14 := hid h14); (have hst' := hid hst); (have hVl' := hid hVl); (have hne' := hid hne); (have hre' := hid hre); (replace hw1 := hid hw1); (replace hw2 := hid hw2); (replace hw3 := hid hw3); (replace hB0 := hid hB0); (replace hvl := hid hvl); (clear g1 g2 g3 k1 k2 k3 e1 e2 hB1 hB2 kb sb rv h12 h3 h14 hst hVl hne hre)
  go_enter Tryz.func108, Tryz.ntmps108
  (go_upto_region 1 with fail); (rw [← hw1.out, hB0.out]); (try rw [q1.out]); (rw [← hw2.out]); (try rw [q2.out]); (rw [← hw3.out]); (have c0 : w3.cell? ⟨B0, 0, none⟩ = some (.pointer (some ⟨gk, 0, none⟩)) := cell_at b0.out rfl); (go_wp2_with fail); (with_reducible refine HA.out.mono ?_); (rintro e4 w4 ⟨v4, rfl, o4⟩); (obtain ⟨g8, c8, rfl, hc8⟩ := o4.own_shape (List.length_pos_iff.2 hne'.out)); (have k4 := o4.kept); (obtain ⟨cur8, hb8⟩ := own_blkT o4.own g8 rfl); (have h8 : w3.heap.size ≤ g8 := o4.new.fr (Nat.le_refl _) g8 rfl); (have hB18 : ¬ B1 = g8 := fun e => by have := lt_of_heap b1.out; omega); (have hB28 : ¬ B2 = g8 := fun e => by have := lt_of_heap b2.out; omega)
  have HD := hid (dlm_any B1 B2 (fun x => decide (V.getD x.toNat 0 < quo)) g8 c8 _ (allS st 0) w4 rfl o4.own (fun W kW x hx => by
    (obtain ⟨i, hi, _, rfl⟩ := mem_allS.1 hx); (rw [hst'.out] at hi); (refine reach1_any B1 B2 (.slice av vl cv) V quo i W (by rw [hVl'.out]; exact hi) ?_ (kW.cell (cell_at (k4.blk b1.out) rfl) hB18) (kW.cell (cell_at (k4.blk b2.out) rfl) hB28))
    exact RdZ.kept rv3.out ((k4.of_no (S := fun j => j = g8)).trans kW (fun _ _ h => h) |>.mono fun j hj e => by omega)))
  (obtain ⟨L8, hL8⟩ : ∃ l, (allS st 0).length = l := ⟨_, rfl⟩); (have k4' := hid k4); (have h8' := hid h8); (rw [hL8] at HD ⊢); (clear o4 hb8 k4 h8 hc8 HA hL8 hB18 hB28 c0); (go_wp2_with fail); (with_reducible refine HD.out.mono ?_); (rintro e5 w5 ⟨v5, rfl, r5, k5⟩); (have r5c : RdZ w5 v5 [(c : Int)] := by rw [← hre'.out]; exact r5); (have kr5 : Kept no w3 w5 := ((k4'.out.of_no (S := fun j => j = g8)).trans k5 fun _ _ h => h).mono fun j hj ej => by have := h8'.out; omega)
  obtain ⟨ao, cc, rfl⟩ : ∃ ao cc, v5 = .slice ao 1 cc := by
    (obtain ⟨ao, cc, h, _⟩ := Rd.shape2 r5c); (exact ⟨ao, cc, h⟩)
  (have hcc : 1 ≤ cc := by obtain ⟨_, _, h, h2, _⟩ := Rd.shape2 r5c; cases h; exact h2); (have r5' := hid r5c); (have b05 := hid (kr5.blk b0.out)); (have kb5 := hid (kr5.blk kb3.out)); (have k05 := hid (k03.out.trans' kr5)); (clear r5 k5 kr5 HD k4' h8' r5c); (go_wp2_with fail); (with_reducible refine (sortc_any ao 1 cc _ w5 (by decide)).mono ?_); (rintro e6 w6 ⟨rfl, hw6⟩); (subst hw6); (have c0 := cell_at (j := 0) b05.out rfl); (have c3 := cell_at kb5.out hh3.out); (have c14 := cell_at kb5.out hh14.out); (go_upto_region 3 with fail); (go_quiet (fail)); (have kq := (Kept.refl no w6).drewN nq); (have r6 := hid (RdZ.kept r5'.out kq)); (have k06 := hid (k05.out.trans' kq)); (clear kq); (go_wp2); (go_ret); (first | exact ⟨_, rfl, r6.out, k06.out⟩ | exact ⟨r6.out, k06.out⟩)
end Go.Proofs.YtaobaaaihgahfaaGreat
