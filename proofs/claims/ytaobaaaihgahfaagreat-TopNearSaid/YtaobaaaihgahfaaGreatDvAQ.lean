/- Package derive: key, the state of a search, among. -/
import Derived.Test.YtaobaaaihgahfaaGreatSfAQ
import Derived.Test.YtaobaaaihgahfaaGreatNumQ
import Derived.StringKeys
namespace Go.Nr
open Go.Pil Go.Mg Go.RowKit Go.Mk
/-- A tail as a key: the set of its candidates; its bytes. -/
def setN (T : List Int) : Nat := T.foldl (fun s c => s ||| 2 ^ c.toNat) 0
def keyV (T : List Int) : Lit := .int .i64 (setN T : Int)
def keyB (T : List Int) : List UInt8 := T.map fun c => UInt8.ofNat c.toNat
def keyM (T : List Int) : Lit := .string (keyB T)
theorem or_small : ∀ s : Nat, s < 128 → ∀ c : Nat, c < 7 → bits .or .i64 (s : Int) ((2 ^ c : Nat) : Int) = ((s ||| 2 ^ c : Nat) : Int) ∧ s ||| 2 ^ c < 128 := by decide +kernel
theorem set_lt {T : List Int} (h : ∀ c ∈ T, 0 ≤ c ∧ c < 7) : ∀ s : Nat, s < 128 → T.foldl (fun s c => s ||| 2 ^ c.toNat) s < 128 := by
  induction T with
  | nil => intro s hs; exact hs
  | cons c T ih =>
    (intro s hs); (have hc := h c List.mem_cons_self); (exact ih (fun x hx => h x (List.mem_cons_of_mem _ hx)) _ (or_small s hs c.toNat (by omega)).2)
theorem bit_or : ∀ s : Nat, s < 128 → ∀ c : Nat, c < 7 → ∀ i : Nat, i < 7 → (s ||| 2 ^ c).testBit i = (s.testBit i || decide (i = c)) := by decide +kernel
theorem set_bit {T : List Int} (h : ∀ c ∈ T, 0 ≤ c ∧ c < 7) : ∀ s : Nat, s < 128 → ∀ i : Nat, i < 7 → (T.foldl (fun s c => s ||| 2 ^ c.toNat) s).testBit i = (s.testBit i || decide ((i : Int) ∈ T)) := by
  induction T with
  | nil => intro s _ i _; simp
  | cons c T ih =>
    (intro s hs i hi); (have hc := h c List.mem_cons_self); (rw [List.foldl_cons, ih (fun x hx => h x (List.mem_cons_of_mem _ hx)) _ (or_small s hs c.toNat (by omega)).2 i hi, bit_or s hs c.toNat (by omega) i hi, Bool.or_assoc])
    congr 1
    by_cases h1 : i = c.toNat
    · (have : (i : Int) = c := by omega); (rw [decide_eq_true h1, decide_eq_true (List.mem_cons.2 (.inl this))]; rfl)
    · (have : (i : Int) ≠ c := by omega); (rw [decide_eq_false h1, Bool.false_or]); (exact decide_eq_decide.2 ⟨List.mem_cons_of_mem _, fun h => (List.mem_cons.1 h).resolve_left this⟩)
theorem setN_bit {T : List Int} (h : ∀ c ∈ T, 0 ≤ c ∧ c < 7) {i : Nat} (hi : i < 7) : (setN T).testBit i = decide ((i : Int) ∈ T) := by
  (unfold setN); (rw [set_bit h 0 (by omega) i hi]; simp)
/-- Tails of one set have the same votes. -/
theorem set_flags_eq {n : Nat} (hn : n ≤ 7) {T U : List Int} (hT : Tl n T) (hU : Tl n U) (h : keyV T = keyV U) : flags n T = flags n U := by
  (have hs : setN T = setN U := by unfold keyV at h; have := (Lit.int.inj h).2; omega); (unfold flags); (refine List.map_congr_left fun i hi => ?_); (have hi := List.mem_range.1 hi); (have h1 := setN_bit (T := T) (fun c hc => by have := hT.rng c hc; omega) (i := i) (by omega)); (have h2 := setN_bit (T := U) (fun c hc => by have := hU.rng c hc; omega) (i := i) (by omega)); (rw [hs, h2] at h1); (exact h1.symm)
theorem keyB_inj {T U : List Int} (hT : ∀ c ∈ T, 0 ≤ c ∧ c < 7) : ∀ (_ : ∀ c ∈ U, 0 ≤ c ∧ c < 7), keyB T = keyB U → T = U := by
  induction T generalizing U with
  | nil => intro _ h; cases U with | nil => rfl | cons _ _ => cases h
  | cons a T ih =>
    intro hU h
    cases U with
    | nil => cases h
    | cons b U =>
      (have h1 : UInt8.ofNat a.toNat = UInt8.ofNat b.toNat ∧ keyB T = keyB U := by unfold keyB at h; exact ⟨(List.cons.inj h).1, (List.cons.inj h).2⟩); (have ha := hT a List.mem_cons_self); (have hb := hU b List.mem_cons_self)
      have e : a = b := by
        (have := congrArg UInt8.toNat h1.1); (rw [UInt8.toNat_ofNat', UInt8.toNat_ofNat', Nat.mod_eq_of_lt (by omega), Nat.mod_eq_of_lt (by omega)] at this)
        omega
      rw [e, ih (fun c hc => hT c (List.mem_cons_of_mem _ hc)) (fun c hc => hU c (List.mem_cons_of_mem _ hc)) h1.2]
theorem or_succ (T : List Int) (k c : Nat) (h : k < T.length) (hr : ∀ c ∈ T, 0 ≤ c ∧ c < 7) (hc : T.getD k 0 = (c : Int)) (hc7 : c < 7) : bits .or .i64 (setN (T.take k) : Int) (wrap64 (2 ^ c)) = (setN (T.take (k + 1)) : Int) := by
  have h1 : setN (T.take k) < 128 := set_lt (fun x hx => hr x (List.take_subset _ _ hx)) 0 (by omega)
  have h3 : wrap64 (2 ^ c) = ((2 ^ c : Nat) : Int) := by
    (have : ∀ c : Nat, c < 7 → wrap64 (2 ^ c) = ((2 ^ c : Nat) : Int) := by decide +kernel); (exact this c hc7)
  have h4 : setN (T.take (k + 1)) = setN (T.take k) ||| 2 ^ c := by
    (unfold setN); (rw [List.take_succ_eq_append_getElem h, List.foldl_append]); (rw [List.getD_eq_getElem?_getD, List.getElem?_eq_getElem h] at hc); (have hc : T[k] = (c : Int) := hc); (rw [hc]; rfl)
  (rw [h3, h4]); (exact (or_small _ h1 c hc7).1)
end Go.Nr
namespace Go.Proofs.YtaobaaaihgahfaaGreat
open Go.RowKit Go.Mk Go.Pil Go.Mg Go.Nr Go.Sort Go.Maps
/-- A row of margins. -/
def Bts (n : Nat) (gs : List Grp) (w : World) (vb : Value) : Prop := ∃ rows : List (List Int × Value), RdB w vb rows ∧ rows.length = n ∧ ∀ a, a < n → ((lists rows).getD a []).length = n ∧ ∀ b, b < n → b ≠ a → ((lists rows).getD a []).getD b 0 = mg n gs ⟨1, (a : Int), (b : Int), [], 0⟩
/-- A list of its own. -/
def OZ (w : World) (v : Value) (zs : List Int) : Prop := w.ownsRow 0 3 1 v zs.length (zs.map Z)
theorem OZ.rd {w : World} {v : Value} {zs : List Int} (h : OZ w v zs) : RdZ w v zs := own_RdZ h
theorem OZ.kept {w w' : World} {v : Value} {zs : List Int} (h : OZ w v zs) (k : Kept no w w') : OZ w' v zs := k.ownsRow h fun _ _ => id
theorem OZ.nil (w : World) : OZ w (.slice none 0 0) [] := (OwZ.nil w).own
/-- What the votes map holds; what the map of values holds. -/
def SV (X : Nat → Prop) (n : Nat) (gs : List Grp) (w : World) (kl : Lit) (v : Value) : Prop := ∀ T, Tl n T → keyV T = kl → OZ w v (firstV gs (flags n T)).1 ∧ ∀ j, v.ownBlock = some j → ¬ X j
def SM (n : Nat) (gs : List Grp) (kl : Lit) (v : Value) : Prop := ∀ T, Tl n T → keyM T = kl → v = .int .i64 (val n gs T)
/-- The state of a search; the votes do not lie in X. -/
structure DS (X : Nat → Prop) (n : Nat) (gs : List Grp) (gS bV bM N : Nat) (w : World) : Prop where
  blk : ∃ vg vb, w.heap[gS]? = some (.cells #[.int .i64 (n : Int), vg, vb, .map (some bV), .map (some bM)] 182 (0, 0)) ∧ (∃ ps, grps ps = gs ∧ RdG w vg ps) ∧ Bts n gs w vb
  mV : MapS Tryz.prog 3 w bV N (SV X n gs w)
  mM : MapS Tryz.prog 9 w bM N (SM n gs)
  ne : bV ≠ bM
theorem Bts.kept {n : Nat} {gs : List Grp} {w w' : World} {vb : Value} (h : Bts n gs w vb) (k : Kept no w w') : Bts n gs w' vb := by
  (obtain ⟨rows, h1, h2, h3⟩ := h); (exact ⟨rows, h1.kept k, h2, h3⟩)
theorem isMp_kept {w w' : World} {b : Nat} (h : IsMp w b) (k : Kept no w w') : w'.heap[b]? = w.heap[b]? := by
  (obtain ⟨es, c, hb⟩ := h); (exact k.block b (by have := (Array.getElem?_eq_some_iff.1 hb).1; exact this) id)
theorem DS.kept {X : Nat → Prop} {n : Nat} {gs : List Grp} {gS bV bM N : Nat} {w w' : World} (h : DS X n gs gS bV bM N w) (k : Kept no w w') : DS X n gs gS bV bM N w' := by
  (obtain ⟨⟨vg, vb, h1, ⟨ps, h2, h3⟩, h4⟩, h5, h6, h7⟩ := h); (exact ⟨⟨vg, vb, k.blk h1, ⟨ps, h2, h3.kept k⟩, h4.kept k⟩, h5.mono (isMp_kept h5.isMp k) (Nat.le_refl _) (fun kl v hs T hT e => ⟨OZ.kept (hs T hT e).1 k, (hs T hT e).2⟩), h6.mono (isMp_kept h6.isMp k) (Nat.le_refl _) (fun _ _ h => h), h7⟩)
theorem DS.more {X : Nat → Prop} {n : Nat} {gs : List Grp} {gS bV bM N N' : Nat} {w : World} (h : DS X n gs gS bV bM N w) (hN : N ≤ N') : DS X n gs gS bV bM N' w :=
  ⟨h.blk, h.mV.mono rfl hN (fun _ _ h => h), h.mM.mono rfl hN (fun _ _ h => h), h.ne⟩
theorem makeU8 (n : Nat) (h : n ≤ 1000000) (w : World) : (Instr.makeSlice 246 (.int .i64 (n : Int)) (.int .i64 (n : Int))).run Tryz.prog w = .ok (.slice (some ⟨w.heap.size, 0, none⟩) n n) (w.alloc (.cells (madeCells #[Value.int .u8 0] n) 5)) := by
  (obtain ⟨i, hi, hz, hs, hb⟩ := info_parts (P := Tryz.prog) (e := 5) (z := .int .u8 0) (size := 1) (bytes := 1) (by kernel_rfl)); (have := run_make (P := Tryz.prog) w 246 5 i _ Tryz.underlying246 hi hz .i64 .i64 n n (by omega) (by omega) (by rw [hb]; omega) (by omega)); (rw [this, hs, Nat.mul_one, Int.toNat_natCast]); (rw [show (Value.int .u8 0).cells = #[Value.int .u8 0] from rfl])
/-- The bytes of a key when k of them are laid. -/
def kC (T : List Int) (k : Nat) : List Value := (keyB (T.take k)).map B ++ List.replicate (T.length - k) (B 0)
theorem kC_zero (T : List Int) : madeCells #[Value.int .u8 0] T.length = (kC T 0).toArray := by
  apply Array.ext
  · simp [madeCells, kC, keyB]
  · intro i h1 h2
    simp [madeCells, kC, keyB, Nat.mod_one, B]
theorem kC_at (T : List Int) (k j : Nat) (h : j < T.length) : ∃ u, (kC T k)[j]? = some (.int .u8 u) := by
  unfold kC
  by_cases hj : j < ((keyB (T.take k)).map B).length
  · (rw [List.getElem?_append_left hj, List.getElem?_eq_getElem hj, List.getElem_map]); (exact ⟨_, rfl⟩)
  · (rw [List.getElem?_append_right (by omega), List.getElem?_replicate, if_pos (by unfold keyB at hj ⊢; simp at hj ⊢; omega)]); (exact ⟨_, rfl⟩)
theorem kC_set (T : List Int) (k : Nat) (z : Int) (h : k < T.length) (hz : T.getD k 0 = z) (hr : 0 ≤ z ∧ z < 256) : (kC T k).set k (.int .u8 z) = kC T (k + 1) := by
  (unfold kC); (have hl : ((keyB (T.take k)).map B).length = k := by unfold keyB; simp; omega); (have hz' : T[k] = z := by rw [← hz, List.getD_eq_getElem?_getD, List.getElem?_eq_getElem h]; rfl); (rw [List.set_append_right _ _ (by omega), hl, Nat.sub_self, show T.length - k = (T.length - (k + 1)) + 1 by omega, List.replicate_succ, List.set_cons_zero, List.take_succ_eq_append_getElem h]); (unfold keyB); (rw [List.map_append, List.map_append, List.append_assoc])
  congr 1
  rw [hz']
  show _ = B (UInt8.ofNat z.toNat) :: _
  congr 1
  (unfold B); (rw [UInt8.toNat_ofNat', Nat.mod_eq_of_lt (by omega)])
  congr 1
  omega
theorem kC_all (T : List Int) (k : Nat) (h : T.length = k) : kC T k = (keyB T).map B := by unfold kC; rw [h, Nat.sub_self, List.replicate_zero, List.append_nil, List.take_of_length_le (by omega)]
set_option maxRecDepth 20000 in
set_option maxHeartbeats 2000000 in
theorem key_any (n : Nat) (vT : Value) (T : List Int) (w : World) (hn : n ≤ 7) (hT : Tl n T) (ht : RdZ w vT T) : Calls Tryz.prog 176 #[vT] w fun e w' => (∃ s : ByteArray, e = .returned (.string s) ∧ s.data.toList = keyB T) ∧ Kept no w w' := by
  (obtain ⟨aT, cT, rfl, _, _⟩ := Rd.shape2 ht); (obtain ⟨lT, hlT⟩ : ∃ m, T.length = m := ⟨_, rfl⟩); (have hl7 := len_le hT); (rw [hlT] at ht hl7 ⊢); (have hml := makeU8 lT (by omega) w); (obtain ⟨w1, hw1, g1, k1⟩ := alloc_named w (.cells (kC T 0).toArray 5)); (have hk0 : madeCells #[Value.int .u8 0] lT = (kC T 0).toArray := by rw [← hlT]; exact kC_zero T); (rw [hk0] at hml); (obtain ⟨G, hG⟩ : ∃ g, w.heap.size = g := ⟨_, rfl⟩); (rw [hG] at g1 hml); (have g1' := hid g1); (have k01 := hid k1); (replace ht := hid ht); (have hlT' := hid hlT); (have hTr := hid hT.rng); (replace hw1 := hid hw1); (replace hG := hid hG); (clear g1 k1 hlT hT hk0)
  go_enter Tryz.func176, Tryz.ntmps176
  (go_upto_region 3 with fail); (try rw [hG.out]); (rw [← hw1.out]); (clear hml hw1)
  go_loopw [11] (fun i wr => ∃ k : Nat, k ≤ lT ∧ i = .int .i64 (k : Int) ∧ Hd (wr.heap[G]? = some (.cells (kC T k).toArray 5 (0, 0))) ∧ Hd (Kept (fun j => j = G) w1 wr)) (fun i _ => lT - (intOf i).toNat)
  case atStart => exact ⟨0, by omega, rfl, g1', ⟨Kept.refl _ _⟩⟩
  case round =>
    (clear g1'); (obtain ⟨k, hk, rfl, hg, hK⟩ := hrel); (have kw : Hd (Kept no w wr) := ⟨k01.out.trans hK.out fun j hj (e : j = G) => by have := hG.out; omega⟩)
    by_cases hlt : k < lT
    · (have hk1 : (k : Int) < (lT : Int) := by omega); (have hk0 : (0 : Int) ≤ (k : Int) := by omega); (have hkl : k < T.length := by rw [hlT'.out]; exact hlt); (obtain ⟨b, o, hao, hc⟩ := RdZ.at (RdZ.kept ht.out kw.out) k hkl); (subst hao); (have hm : T.getD k 0 ∈ T := by rw [List.getD_eq_getElem?_getD, List.getElem?_eq_getElem hkl]; exact List.getElem_mem hkl); (have hr := hTr.out _ hm); (obtain ⟨z, hz⟩ : ∃ z, T.getD k 0 = z := ⟨_, rfl⟩); (rw [hz] at hc hr); (have hwz : IntKind.u8.wrap z = z := IntWalk.u8_in _ (by omega)); (have fz := row_free hg.out k)
      have hcell : ∃ u, wr.cell? ⟨G, k, none⟩ = some (.int .u8 u) := by
        (obtain ⟨u, hu⟩ := kC_at T k k hkl); (exact ⟨u, by rw [cell_of_row wr G k _ _ _ hg.out]; simpa using hu⟩)
      (obtain ⟨u, hcell⟩ := hcell); (have hset := kC_set T k z hkl hz (by omega)); (have hg2 : Hd ((wr.setCell ⟨G, k, none⟩ (.int .u8 z)).heap[G]? = some (.cells (kC T (k + 1)).toArray 5 (0, 0))) := ⟨by rw [setCell_row hg.out, List.setIfInBounds_toArray, hset]⟩); (have hK2 : Hd (Kept (fun j => j = G) w1 (wr.setCell ⟨G, k, none⟩ (.int .u8 z))) := ⟨hK.out.trans ((Kept.refl (fun j => j = G) wr).setCell (a := ⟨G, k, none⟩) (.inl rfl) (.int .u8 z)) fun _ _ h => h⟩); (clear hset hz hm hr hkl hg hK kw); (go_wp2); (go_roundw)
      case rel => first | exact ⟨k + 1, by omega, by go_num, hg2, hK2⟩ | ((repeat apply Exists.intro); exact ⟨⟨k + 1, by omega, by go_num, hg2, hK2⟩, rfl⟩)
      case measure => simp [intOf]; omega
    · (have hk1 : ¬ (k : Int) < (lT : Int) := by omega); (obtain rfl : k = lT := by omega)
      have hrd : Rd wr 1 (.slice (some ⟨G, 0, none⟩) k k) (keyB T).length ((keyB T).map B) := by
        (have hg := hg.out); (rw [kC_all T k hlT'.out] at hg); (have hl : (keyB T).length = k := by unfold keyB; rw [List.length_map]; exact hlT'.out); (rw [hl]); (exact Rd.block hg (by rw [List.length_map, hl, Nat.mul_one]) (by have : maxLen = 9223372036854775807 := rfl; omega))
      (have hcv := string_of wr 246 9 5 Tryz.underlying246 Tryz.underlying5 Tryz.underlying9 _ _ hrd); (clear hrd hg hK); (go_wp2); (go_ret); (exact ⟨⟨_, rfl, rfl⟩, kw.out⟩)
theorem SV.km {X : Nat → Prop} {n : Nat} {gs : List Grp} {w w' : World} {V M : Nat} (hV : IsMp w V) (hM : IsMp w M) (k : Kept (bm V M) w w') {kl : Lit} {v : Value} (h : SV X n gs w kl v) : SV X n gs w' kl v := fun T hT e => ⟨own_km hV hM k (h T hT e).1, (h T hT e).2⟩
theorem Bts.km {n : Nat} {gs : List Grp} {w w' : World} {V M : Nat} (hV : IsMp w V) (hM : IsMp w M) (k : Kept (bm V M) w w') {vb : Value} (h : Bts n gs w vb) : Bts n gs w' vb := by
  (obtain ⟨rows, h1, h2, h3⟩ := h); (exact ⟨rows, rdB_km hV hM k h1, h2, h3⟩)
theorem DS.putV {X : Nat → Prop} {n : Nat} {gs : List Grp} {gS bV bM N : Nat} {w : World} (h : DS X n gs gS bV bM N w) (hn : n ≤ 7) (hN : N ≤ 1000000) {T : List Int} (hT : Tl n T) (hw : (Lit.int .i64 (setN T : Int)).wf = true) {v : Value} (hv : OZ w v (firstV gs (flags n T)).1) (hvX : ∀ j, v.ownBlock = some j → ¬ X j) :
    ∃ w', (Instr.mapUpdate 179 (.map (some bV)) (.int .i64 (setN T : Int)) v).run Tryz.prog w = .ok () w' ∧ DS X n gs gS bV bM (N + 1) w' ∧ Kept (bm bV bM) w w' := by
  (have hml : maxLen = 9223372036854775807 := rfl); (obtain ⟨w', h1, h2, h3⟩ := h.mV.put (t := 179) (e := 26) (int_keyed Tryz.underlying3) Tryz.underlying179 (by omega) (key := .int .i64 (setN T : Int)) (kl := keyV T) (keyOf_int_mk Tryz.underlying3 hw) (val := v) (fun U hU e => by rw [set_flags_eq hn hU hT e]; exact ⟨hv, hvX⟩)); (have k : Kept (bm bV bM) w w' := h3.mono fun j _ e => .inl e); (have iV := h.mV.isMp); (have iM := h.mM.isMp); (obtain ⟨vg, vb, b1, ⟨ps, b2, b3⟩, b4⟩ := h.blk); (exact ⟨w', h1, ⟨⟨vg, vb, blk_km iV iM k b1, ⟨ps, b2, rdG_km iV iM k b3⟩, b4.km iV iM k⟩, h2.mono rfl (Nat.le_refl _) (fun _ _ hs => hs.km iV iM k), h.mM.mono (h3.block bM (by obtain ⟨es, c, hb⟩ := iM; exact (Array.getElem?_eq_some_iff.1 hb).1) (fun e => h.ne e.symm)) (by omega) (fun _ _ hs => hs), h.ne⟩, k⟩)
theorem DS.putM {X : Nat → Prop} {n : Nat} {gs : List Grp} {gS bV bM N : Nat} {w : World} (h : DS X n gs gS bV bM N w) (hn : n ≤ 7) (hN : N ≤ 1000000) {T : List Int} (hT : Tl n T) {s : ByteArray} (hs : s.data.toList = keyB T) :
    ∃ w', (Instr.mapUpdate 180 (.map (some bM)) (.string s) (.int .i64 (val n gs T))).run Tryz.prog w = .ok () w' ∧ DS X n gs gS bV bM (N + 1) w' ∧ Kept (bm bV bM) w w' := by
  have hml : maxLen = 9223372036854775807 := rfl
  have hl : s.size ≤ maxLen := by
    (have h1 : s.size = (keyB T).length := by rw [← hs, Array.length_toList]; rfl); (have h2 : (keyB T).length = T.length := by unfold keyB; simp); (have := len_le hT)
    omega
  obtain ⟨w', h1, h2, h3⟩ := h.mM.put (t := 180) (e := 3) (string_keyed Tryz.underlying9) Tryz.underlying180 (by omega) (key := .string s) (kl := keyM T) (by unfold keyM; rw [← hs]; exact Go.WideMaps.keyOf_string_mk Tryz.underlying9 hl) (val := .int .i64 (val n gs T)) (fun U hU e => by
    have e2 : keyB U = keyB T := by unfold keyM at e; exact Lit.string.inj e
    rw [keyB_inj (fun c hc => by have := hU.rng c hc; omega) (fun c hc => by have := hT.rng c hc; omega) e2])
  (have k : Kept (bm bV bM) w w' := h3.mono fun j _ e => .inr e); (have iV := h.mV.isMp); (have iM := h.mM.isMp); (obtain ⟨vg, vb, b1, ⟨ps, b2, b3⟩, b4⟩ := h.blk); (exact ⟨w', h1, ⟨⟨vg, vb, blk_km iV iM k b1, ⟨ps, b2, rdG_km iV iM k b3⟩, b4.km iV iM k⟩, h.mV.mono (h3.block bV (by obtain ⟨es, c, hb⟩ := iV; exact (Array.getElem?_eq_some_iff.1 hb).1) (fun e => h.ne e)) (by omega) (fun _ _ hs => hs.km iV iM k), h2, h.ne⟩, k⟩)
set_option maxRecDepth 20000 in
set_option maxHeartbeats 2000000 in
theorem among_any (X : Nat → Prop) (n : Nat) (gs : List Grp) (gS bV bM N : Nat) (vT : Value) (T : List Int) (w : World) (hn : n ≤ 7) (hp : isPile (n : Int) gs = true) (hT : Tl n T) (ht : RdZ w vT T) (hD : DS X n gs gS bV bM N w) (hN : N ≤ 1000000) (hX : ∀ j, X j → j < w.heap.size) :
    Calls Tryz.prog 178 #[.pointer (some ⟨gS, 0, none⟩), vT] w fun e w' => (∃ v, e = .returned v ∧ RdZ w' v (firstV gs (flags n T)).1 ∧ ∀ j, v.ownBlock = some j → ¬ X j) ∧ DS X n gs gS bV bM (N + 1) w' ∧ Kept (bm bV bM) w w' := by
  (obtain ⟨aT, cT, rfl, _, _⟩ := Rd.shape2 ht); (obtain ⟨lT, hlT⟩ : ∃ m, T.length = m := ⟨_, rfl⟩); (have hl7 := len_le hT); (have hr7 := hid (fun c (hc : c ∈ T) => (⟨(hT.rng c hc).1, by have := (hT.rng c hc).2; omega⟩ : 0 ≤ c ∧ c < 7))); (rw [hlT] at ht hl7 ⊢); (replace ht := hid ht); (obtain ⟨vg, vb, hb, ⟨ps, hps, hg⟩, hbt⟩ := hD.blk); (have f0 : w.cell? ⟨gS, 0, none⟩ = some (.int .i64 (n : Int)) := cell_at hb rfl); (have f1 : w.cell? ⟨gS, 1, none⟩ = some vg := cell_at hb rfl); (have f3 : w.cell? ⟨gS, 3, none⟩ = some (.map (some bV)) := cell_at hb rfl); (have hset : Hd (setN T < 128) := ⟨set_lt hr7.out 0 (by omega)⟩); (have hwf : (Lit.int .i64 (setN T : Int)).wf = true := WalkArith.wf_i64 (by have := hset.out; omega)); (have hkey : keyOf Tryz.prog 3 (.int .i64 (setN T : Int)) = some (keyV T) := keyOf_int_mk Tryz.underlying3 hwf); (have zI0 : (zeroValue 26).run Tryz.prog w = .ok (.slice none 0 0) w := by kernel_rfl); (obtain ⟨v0, ok, hlk, hcase⟩ := hD.mV.look (t := 179) (e := 26) (int_keyed Tryz.underlying3) Tryz.underlying179 zI0 hkey); (obtain ⟨agv, lgv, cgv, rfl⟩ : ∃ a l c, vg = .slice a l c := by obtain ⟨a, c, h, _⟩ := hg.shape; exact ⟨_, _, _, h⟩)
  have hsh : ∃ a l c, v0 = .slice a l c := by
    rcases hcase with ⟨_, hS⟩ | ⟨_, rfl⟩
    · obtain ⟨a, c, h, _⟩ := Rd.shape2 (hS T hT rfl).1.rd; exact ⟨_, _, _, h⟩
    · exact ⟨_, _, _, rfl⟩
  (obtain ⟨a0, l0, c0, rfl⟩ := hsh); (have hlT' := hid hlT); (have hT' := hid hT); (replace hcase := hid hcase); (have hD' := hid hD); (have hg' := hid hg); (have hps' := hid hps); (replace hlk := hid hlk); (replace hkey := hid hkey); (have hwf' := hid hwf); (have hX' := hid hX); (have f1' := hid f1); (have f3' := hid f3); (clear hb hbt hT hD hlT hwf zI0 hg hps hX)
  go_enter Tryz.func178, Tryz.ntmps178
  go_upto_region 3 with fail
  go_loopw [5, 17] (fun r i wr => ∃ k : Nat, k ≤ lT ∧ i = .int .i64 (k : Int) ∧ r = .int .i64 (setN (T.take k) : Int) ∧ wr = w) (fun _ i _ => lT - (intOf i).toNat)
  case atStart => exact ⟨0, by omega, rfl, rfl, rfl⟩
  case round =>
    obtain ⟨k, hk, rfl, rfl, rfl⟩ := hrel
    by_cases hlt : k < lT
    · (have hk1 : (k : Int) < (lT : Int) := by omega); (have hk0 : (0 : Int) ≤ (k : Int) := by omega); (have hkl : k < T.length := by rw [hlT'.out]; exact hlt); (obtain ⟨b, o, hao, hc⟩ := RdZ.at ht.out k hkl); (subst hao); (have hm : T.getD k 0 ∈ T := by rw [List.getD_eq_getElem?_getD, List.getElem?_eq_getElem hkl]; exact List.getElem_mem hkl); (have hr := hr7.out _ hm); (obtain ⟨z, hz⟩ : ∃ z, T.getD k 0 = z := ⟨_, rfl⟩); (rw [hz] at hc hr); (obtain ⟨c, rfl⟩ : ∃ c : Nat, z = (c : Int) := ⟨z.toNat, by omega⟩); (have hor := hid (or_succ T k c hkl hr7.out hz (by omega))); (clear hm hz hkl); (go_wp2); (go_roundw)
      case rel => first | exact ⟨k + 1, by omega, by go_num, by rw [hor.out], rfl⟩ | exact ⟨k + 1, by omega, by go_num, by rw [hor.out], trivial⟩ | exact ⟨k + 1, by omega, by go_num, by rw [hor.out]⟩
      case measure => simp [intOf]; omega
    · (obtain rfl : k = lT := by omega); (have hk1 : ¬ (k : Int) < (k : Int) := by omega); (rw [List.take_of_length_le (by rw [hlT'.out]; omega)]); (have hlk1 := hlk.out)
      cases ok with
      | true =>
        have hfin : Hd (RdZ wr (.slice a0 l0 c0) (firstV gs (flags n T)).1 ∧ ∀ j, (Value.slice a0 l0 c0).ownBlock = some j → ¬ X j) := ⟨by
          rcases hcase.out with ⟨_, hS⟩ | ⟨h, _⟩
          · exact ⟨(hS T hT'.out rfl).1.rd, (hS T hT'.out rfl).2⟩
          · cases h⟩
        (go_wp2); (go_ret); (exact ⟨⟨_, rfl, hfin.out⟩, hD'.out.more (by omega), Kept.refl _ _⟩)
      | false =>
        (go_upto_region 10 with fail); (have hmk := makeT n (by omega) wr); (obtain ⟨w1, hw1, g1, k1⟩ := alloc_named wr (.cells (zsT (List.replicate n false)) 4)); (obtain ⟨g7, hg7⟩ : ∃ g, wr.heap.size = g := ⟨_, rfl⟩); (rw [hg7] at hmk g1); (have g1' : Hd (w1.heap[g7]? = some (.cells (zsT (flags n (T.take 0))) 4 (0, 0))) := ⟨by rw [List.take_zero, flags_nil]; exact g1⟩); (have k01 := hid k1); (obtain ⟨w0, hw0⟩ : ∃ W, W = wr := ⟨_, rfl⟩); (subst hw0); (replace hw1 := hid hw1); (replace hg7 := hid hg7); (clear g1 k1 hlk1 hlk hcase hk1 hlt hk); (go_upto_region 12 with fail); (try rw [hg7.out]); (rw [← hw1.out]); (clear hmk hw1 f0 f1 f3)
        go_loopw [44] (fun i wr => ∃ q : Nat, q ≤ k ∧ i = .int .i64 (q : Int) ∧ Hd (wr.heap[g7]? = some (.cells (zsT (flags n (T.take q))) 4 (0, 0))) ∧ Hd (Kept (fun j => j = g7) w1 wr)) (fun i _ => k - (intOf i).toNat)
        case atStart => exact ⟨0, by omega, rfl, g1', ⟨Kept.refl _ _⟩⟩
        case round =>
          (clear g1'); (obtain ⟨q, hq, rfl, hG, hK⟩ := hrel); (have kw : Hd (Kept no w0 wr) := ⟨k01.out.trans hK.out fun j hj (e : j = g7) => by have := hg7.out; omega⟩)
          by_cases hlt : q < k
          · (have hk1 : (q : Int) < (k : Int) := by omega); (have hk0 : (0 : Int) ≤ (q : Int) := by omega); (have hkl : q < T.length := by rw [hlT'.out]; exact hlt); (obtain ⟨b, o, hao, hc⟩ := RdZ.at (RdZ.kept ht.out kw.out) q hkl); (subst hao); (have hm : T.getD q 0 ∈ T := by rw [List.getD_eq_getElem?_getD, List.getElem?_eq_getElem hkl]; exact List.getElem_mem hkl); (have hzr := hT'.out.rng _ hm); (obtain ⟨z, hzz⟩ : ∃ z, T.getD q 0 = z := ⟨_, rfl⟩); (rw [hzz] at hc hzr); (obtain ⟨c, rfl⟩ : ∃ c : Nat, z = (c : Int) := ⟨z.toNat, by omega⟩); (have hcn : c < n := by omega); (have hcn1 : (c : Int) < (n : Int) := by omega); (have hcn0 : (0 : Int) ≤ (c : Int) := by omega); (have fz := row_free hG.out c); (have hcell : ∃ b, wr.cell? ⟨g7, c, none⟩ = some (.bool b) := ⟨(flags n (T.take q)).getD c false, cell_at hG.out (by unfold zsT; simp [flags_len, hcn])⟩); (obtain ⟨ob_, hcell⟩ := hcell)
            have hG2 : Hd ((wr.setCell ⟨g7, c, none⟩ (.bool true)).heap[g7]? = some (.cells (zsT (flags n (T.take (q + 1)))) 4 (0, 0))) := ⟨by
              have hzk : T[q] = (c : Int) := by rw [← hzz, List.getD_eq_getElem?_getD, List.getElem?_eq_getElem hkl]; rfl
              rw [setCell_row hG.out, zsT_set, flags_set _ _ hcn, List.take_succ_eq_append_getElem hkl, hzk]⟩
            (have hK2 : Hd (Kept (fun j => j = g7) w1 (wr.setCell ⟨g7, c, none⟩ (.bool true))) := ⟨hK.out.trans ((Kept.refl (fun j => j = g7) wr).setCell (a := ⟨g7, c, none⟩) (.inl rfl) (.bool true)) fun _ _ h => h⟩); (clear hzz hzr hkl hK hG kw hm); (go_wp2); (go_roundw)
            case rel => first | exact ⟨q + 1, by omega, by go_num, hG2, hK2⟩ | ((repeat apply Exists.intro); exact ⟨⟨q + 1, by omega, by go_num, hG2, hK2⟩, rfl⟩)
            case measure => simp [intOf]; omega
          · (have hk1 : ¬ (q : Int) < (k : Int) := by omega); (have hrd : RdT wr (.slice (some ⟨g7, 0, none⟩) n n) (flags n T) := zsT_rd (by have := hG.out; rwa [List.take_of_length_le (by rw [hlT'.out]; omega)] at this) n (flags_len _ _) (by have : maxLen = 9223372036854775807 := rfl; omega)); (have HF := first_any (.slice agv lgv cgv) (.slice (some ⟨g7, 0, none⟩) n n) ps (flags n T) wr (hg'.out.kept kw.out) hrd)
            have hfe : first (grps ps) (flags n T) = firstV gs (flags n T) := by
              (rw [hps'.out]); (unfold first); (rw [if_pos ⟨isPile_mono (by omega) hp, by rw [flags_len]; exact hn⟩])
            (rw [hfe] at HF); (replace HF := hid HF); (have hDr := hid (hD'.out.kept kw.out)); (have f1 : wr.cell? ⟨gS, 1, none⟩ = some (.slice agv lgv cgv) := kw.out.cell f1'.out id); (clear hrd hG hK hfe); (go_wp2_with fail); (with_reducible refine HF.out.mono ?_); (rintro e w4 ⟨v', rfl, o⟩); (have hD4 := hDr.out.kept o.kept)
            have hnx : ∀ j, v'.ownBlock = some j → ¬ X j := fun j hj hx => by
              rcases o.new with h | ⟨g, h, hg⟩
              · rw [h] at hj; cases hj
              · (have : g = j := by have := h.symm.trans hj; simpa using this); (have := hX'.out j hx); (have := kw.out.size)
                omega
            (obtain ⟨w5, hup, hD5, k5⟩ := hD4.putV hn hN hT'.out hwf'.out o.own hnx); (have hfin : Hd (RdZ w5 v' (firstV gs (flags n T)).1 ∧ ∀ j, v'.ownBlock = some j → ¬ X j) := ⟨rdZ_km hD4.mV.isMp hD4.mM.isMp k5 o.rd, hnx⟩); (have hkF : Hd (Kept (bm bV bM) w0 w5) := ⟨(((kw.out.trans' o.kept).of_no (S := bm bV bM)).trans k5 fun _ _ h => h)⟩); (obtain ⟨av, cv, rfl⟩ := Rd.shapeZ o.rd); (have f3 : w4.cell? ⟨gS, 3, none⟩ = some (.map (some bV)) := (kw.out.trans' o.kept).cell f3'.out id); (have hD5' := hid hD5); (clear HF o hDr hD4 hD5 k5 f1); (go_wp2); (go_ret); (exact ⟨⟨_, rfl, hfin.out⟩, hD5'.out, hkF.out⟩)
/-- The votes lie not in new memory. -/
theorem DS.apart {n : Nat} {gs : List Grp} {gS bV bM N : Nat} {w : World} (h1 : 1 ≤ n) {Y : Nat → Prop} (hY : ∀ j, Y j → w.heap.size ≤ j) (h : DS no n gs gS bV bM N w) : DS Y n gs gS bV bM N w :=
  ⟨h.blk, h.mV.mono rfl (Nat.le_refl _) (fun kl v hs T hT e => ⟨(hs T hT e).1, fun j hj hy => by
    (have hl : (firstV gs (flags n T)).1.length = n := by rw [first_len, flags_len]); (obtain ⟨_, ao, cap, e1, h2, _, h4⟩ := (hs T hT e).1.rd); (have h5 := hY j hy)
    rcases h4 with h4 | ⟨b, o, e2, h7⟩
    · rw [h4, hl] at h2; omega
    · (subst e2); (rw [e1] at hj); (have : b = j := by simpa [Value.ownBlock] using hj); (subst this); (have h8 := h7 0 _ (List.getElem?_eq_getElem (by rw [List.length_map, hl]; omega))); (have h9 := lt_of_cell h8); (have h9 : b < w.heap.size := h9)
      omega⟩), h.mM, h.ne⟩
/-- Behind writes into X, seen from a world before X. -/
theorem DS.fin {X : Nat → Prop} {n : Nat} {gs : List Grp} {gS bV bM N N0 : Nat} {w w5 w' : World} (h : DS X n gs gS bV bM N w5) (hw : DS no n gs gS bV bM N0 w) (k : Kept (bm bV bM) w w') (k2 : Kept X w5 w') (hV : ¬ X bV) (hM : ¬ X bM) : DS no n gs gS bV bM N w' := by
  (have iV := hw.mV.isMp); (have iM := hw.mM.isMp); (obtain ⟨vg, vb, b1, ⟨ps, b2, b3⟩, b4⟩ := hw.blk); (have lt_mp : ∀ {b : Nat}, IsMp w5 b → b < w5.heap.size := fun ⟨es, c, hb⟩ => (Array.getElem?_eq_some_iff.1 hb).1)
  exact ⟨⟨vg, vb, blk_km iV iM k b1, ⟨ps, b2, rdG_km iV iM k b3⟩, b4.km iV iM k⟩,
    h.mV.mono (k2.block bV (lt_mp h.mV.isMp) hV) (Nat.le_refl _) (fun kl v hs T hT e => ⟨k2.ownsRow (hs T hT e).1 fun j hj hx => (hs T hT e).2 j hj hx, fun _ _ h => h⟩),
    h.mM.mono (k2.block bM (lt_mp h.mM.isMp) hM) (Nat.le_refl _) (fun _ _ hs => hs), h.ne⟩
/-- Behind writes into a list of assertions of one's own that is newer. -/
theorem DS.keptOb {X : Nat → Prop} {n : Nat} {gs : List Grp} {gS bV bM N N0 : Nat} {w w1 w' : World} (h : DS X n gs gS bV bM N w1) (hw : DS no n gs gS bV bM N0 w) (k : Kept (bm bV bM) w w') {v : Value} {l : Nat} {xs : List Value} (ho : w1.ownsRow 0 59 5 v l xs) (k2 : Kept (ob v) w1 w') : DS X n gs gS bV bM N w' := by
  (have iV := hw.mV.isMp); (have iM := hw.mM.isMp); (obtain ⟨vg, vb, b1, ⟨ps, b2, b3⟩, b4⟩ := hw.blk); (have lt_mp : ∀ {b : Nat}, IsMp w1 b → b < w1.heap.size := fun ⟨es, c, hb⟩ => (Array.getElem?_eq_some_iff.1 hb).1)
  have nomap : ∀ b : Nat, IsMp w1 b → ¬ ob v b := fun b ⟨es, c, hb⟩ e => by
    obtain ⟨_, ⟨rfl, _⟩ | ⟨g, cap, cur, rfl, _, hg, _⟩⟩ := ho
    · cases e
    · (have : g = b := by have := e; unfold ob at this; simpa [Value.ownBlock] using this); (subst this); (rw [hg] at hb; cases hb)
  exact ⟨⟨vg, vb, blk_km iV iM k b1, ⟨ps, b2, rdG_km iV iM k b3⟩, b4.km iV iM k⟩,
    h.mV.mono (k2.block bV (lt_mp h.mV.isMp) (nomap _ h.mV.isMp)) (Nat.le_refl _) (fun kl u hs T hT e => ⟨k2.ownsRow (hs T hT e).1 fun j hj hv => own_own (hs T hT e).1 ho (by decide) j hj hv, (hs T hT e).2⟩),
    h.mM.mono (k2.block bM (lt_mp h.mM.isMp) (nomap _ h.mM.isMp)) (Nat.le_refl _) (fun _ _ hs => hs), h.ne⟩
end Go.Proofs.YtaobaaaihgahfaaGreat

/- Package derive: children. -/
namespace Go.Nr
open Go.Pil Go.Mg
def kidsC (T : List Int) (c : Nat) : List (List Int) := ((allC c).filter fun x => decide (x ∉ T)).map (· :: T)
theorem kidsC_succ (T : List Int) (c : Nat) : kidsC T (c + 1) = kidsC T c ++ if (c : Int) ∈ T then [] else [(c : Int) :: T] := by
  (unfold kidsC); (rw [Go.Mg.allC_succ, List.filter_append, List.map_append])
  congr 1
  by_cases h : (c : Int) ∈ T
  · rw [if_pos h, List.filter_cons_of_neg (by simp [h])]; rfl
  · rw [if_neg h, List.filter_cons_of_pos (by simp [h])]; rfl
theorem kidsC_le (T : List Int) (c : Nat) : (kidsC T c).length ≤ c := by
  (unfold kidsC); (rw [List.length_map]); (have := List.length_filter_le (fun x => decide (x ∉ T)) (allC c)); (rw [Go.Mg.allC_len] at this); (exact this)
end Go.Nr
namespace Go.Proofs.YtaobaaaihgahfaaGreat
open Go.RowKit Go.Mk Go.Pil Go.Mg Go.Nr Go.Sort
set_option maxRecDepth 20000 in
set_option maxHeartbeats 2000000 in
theorem children_any (X : Nat → Prop) (n : Nat) (gs : List Grp) (gS bV bM N : Nat) (vT : Value) (T : List Int) (w : World) (hn : n ≤ 7) (hT : Tl n T) (ht : RdZ w vT T) (hD : DS X n gs gS bV bM N w) :
    Calls Tryz.prog 129 #[.pointer (some ⟨gS, 0, none⟩), vT] w fun e w' => ∃ v rows, e = .returned v ∧ lists rows = kids n T ∧ OwL w w' v rows := by
  (obtain ⟨aT, cT, rfl, _, _⟩ := Rd.shape2 ht); (obtain ⟨lT, hlT⟩ : ∃ m, T.length = m := ⟨_, rfl⟩); (have hl7 := len_le hT); (obtain ⟨vg, vb, hb, _, _⟩ := hD.blk); (have f0 : w.cell? ⟨gS, 0, none⟩ = some (.int .i64 (n : Int)) := cell_at hb rfl); (rw [hlT] at ht hl7 ⊢); (replace ht := hid ht); (have hlT' := hid hlT); (have hT1 : Hd (∀ u ∈ T.map Z, u.oneCell' = true) := ⟨fun u hu => by obtain ⟨z, _, rfl⟩ := List.mem_map.1 hu; rfl⟩); (have hb1 : Hd (1 + lT ≤ maxLen ∧ (1 + lT) * 8 ≤ 140737488355328) := ⟨by have : maxLen = 9223372036854775807 := rfl; omega⟩); (clear hb hT hD hlT)
  go_enter Tryz.func129, Tryz.ntmps129
  (go_upto_region 3 with fail); (clear f0)
  go_loopw [5, 11] (fun out i wr => ∃ (c : Nat) (rows : List (List Int × Value)), c ≤ n ∧ i = .int .i64 (c : Int) ∧ Hd (lists rows = kidsC T c) ∧ Hd (OwL w wr out rows)) (fun _ i _ => n - (intOf i).toNat)
  case atStart => exact ⟨0, [], by omega, rfl, ⟨rfl⟩, ⟨OwL.nil w⟩⟩
  case round =>
    obtain ⟨c, rows, hc, rfl, hL, hO⟩ := hrel
    by_cases hlt : c < n
    · (have hc1 : (c : Int) < (n : Int) := by omega); (have hCt := hid (containsN_any (.slice aT lT cT) T (c : Int) wr (RdZ.kept ht.out hO.out.kept))); (have hst := hid (kidsC_succ T c)); (go_wp2_with fail); (with_reducible refine hCt.out.mono ?_); (rintro e wq ⟨rfl, qq⟩); (have hOq := hid (hO.out.keptNo qq.kept)); (clear hCt qq hO)
      by_cases hm : (c : Int) ∈ T
      · (have hd : decide ((c : Int) ∈ T) = true := decide_eq_true hm); (have hL2 : Hd (lists rows = kidsC T (c + 1)) := ⟨by rw [hst.out, if_pos hm, List.append_nil]; exact hL.out⟩); (replace hm := hid hm); (go_wp2); (go_roundw)
        case rel => first | exact ⟨c + 1, rows, by omega, by go_num, hL2, hOq⟩ | ((repeat apply Exists.intro); exact ⟨⟨c + 1, rows, by omega, by go_num, hL2, hOq⟩, rfl⟩)
        case measure => simp [intOf]; omega
      · (have hd : decide ((c : Int) ∈ T) = false := decide_eq_false hm); (have hst2 : Hd (kidsC T (c + 1) = kidsC T c ++ [(c : Int) :: T]) := ⟨by rw [hst.out, if_neg hm]⟩); (have hrl : Hd (rows.length ≤ 7) := ⟨by have h1 := kidsC_le T c; rw [← hL.out, lists_length] at h1; omega⟩); (have hqm : Hd (rows.length + 1 ≤ maxLen ∧ (rows.length + 1) * 24 ≤ 140737488355328) := ⟨by have : maxLen = 9223372036854775807 := rfl; have := hrl.out; omega⟩); (have k1 := (Kept.refl no wq).alloc (.cells #[.int .i64 (c : Int)] 3)); (have hown : Hd ((wq.alloc (.cells #[.int .i64 (c : Int)] 3)).ownsRow 0 3 1 (.slice (some ⟨wq.heap.size, 0, none⟩) 1 1) 1 [.int .i64 (c : Int)]) := ⟨own_zsA (l := [(c : Int)]) (heap_alloc_new _ _) 1 rfl (by decide)⟩); (have hrd : Hd (Rd (wq.alloc (.cells #[.int .i64 (c : Int)] 3)) 1 (.slice aT lT cT) lT (T.map Z)) := ⟨by have := RdZ.kept (RdZ.kept ht.out hOq.out.kept) k1; unfold RdZ at this; rwa [hlT'.out] at this⟩); (replace hm := hid hm); (clear k1); (go_wp2_with (at_builtin; refine wpList_append _ rfl _ _ 26 rfl 3 1 8 TInts (.slice (some ⟨wq.heap.size, 0, none⟩) 1 1) 1 [.int .i64 (c : Int)] rfl hown.out (.slice aT lT cT) lT (T.map Z) rfl hrd.out hT1.out hb1.out.1 hb1.out.2 ?_)); (intro v5 w5 h2 h3 h4 _)
        have k5 : Kept no wq w5 := ((Kept.refl no wq).alloc (.cells #[.int .i64 (c : Int)] 3)).trans h3 fun j hj e => by
          have : wq.heap.size = j := by simpa [ob, Value.ownBlock] using e
          omega
        have h2' : w5.ownsRow 0 3 1 v5 ((c : Int) :: T).length (((c : Int) :: T).map Z) := by rw [List.length_cons, hlT'.out, Nat.add_comm]; exact h2
        obtain ⟨g5, c5, rfl⟩ : ∃ g c', v5 = .slice (some ⟨g, 0, none⟩) (lT + 1) c' := by
          obtain ⟨_, ⟨_, h0⟩ | ⟨g, c', _, e, _⟩⟩ := h2
          · omega
          · exact ⟨g, c', by rw [e, Nat.add_comm]⟩
        (have k5' := hid k5); (have hv5 := hid h2'); (have hO5 := hid (hOq.out.keptNo k5)); (clear h2 h3 h4 k5 h2' hown hrd); (go_wp2_with (at_builtin; refine wpList_append_lit _ rfl _ _ 25 rfl 26 1 24 TBals _ _ _ rfl hO5.out.own 1 [.slice (some ⟨g5, 0, none⟩) (lT + 1) c5] rfl rfl (fun u hu => by obtain rfl := List.mem_singleton.1 hu; rfl) hqm.out.1 hqm.out.2 ?_)); (intro v6 w6 h2 h3 h4 _); (have hO6 : Hd (OwL w w6 v6 (rows ++ [((c : Int) :: T, .slice (some ⟨g5, 0, none⟩) (lT + 1) c5)])) := ⟨hO5.out.add ((c : Int) :: T) (Kept.refl _ _) hv5.out h2 h3 h4⟩); (have hL2 : Hd (lists (rows ++ [((c : Int) :: T, (.slice (some ⟨g5, 0, none⟩) (lT + 1) c5 : Value))]) = kidsC T (c + 1)) := ⟨by rw [hst2.out, ← hL.out]; simp [lists]⟩); (clear h2 h3 h4 hO5 hv5 k5' hqm hOq hst); (go_wp2); (go_roundw)
        case rel => first | exact ⟨c + 1, _, by omega, by go_num, hL2, hO6⟩ | ((repeat apply Exists.intro); exact ⟨⟨c + 1, _, by omega, by go_num, hL2, hO6⟩, rfl⟩)
        case measure => simp [intOf]; omega
    · (obtain rfl : c = n := by omega); (have hc1 : ¬ (c : Int) < (c : Int) := by omega); (go_wp2); (go_ret); (first | exact ⟨_, rows, rfl, hL.out, hO.out⟩ | exact ⟨_, rfl, rows, hL.out, hO.out⟩)
end Go.Proofs.YtaobaaaihgahfaaGreat

/- Package derive: the closure of own, which takes the better of two assertions. -/
namespace Go.Nr
open Go.Pil Go.Mg
theorem maxL_snoc (l : List Int) (a : Int) (h : l ≠ []) : maxL (l ++ [a]) = max (maxL l) a := by
  induction l with
  | nil => exact absurd rfl h
  | cons x l ih =>
    cases l with
    | nil => rfl
    | cons y l =>
      have := ih (by simp)
      show max x (maxL ((y :: l) ++ [a])) = _
      rw [this]
      show _ = max (max x (maxL (y :: l))) a
      omega
end Go.Nr
namespace Go.Proofs.YtaobaaaihgahfaaGreat
open Go.RowKit Go.Mk Go.Pil Go.Mg Go.Nr Go.Sort
theorem setCell_other {w : World} {g h j : Nat} {v : Value} (hn : g ≠ h) : (w.setCell ⟨h, j, none⟩ v).heap[g]? = w.heap[g]? := heap_setCell_other w ⟨h, j, none⟩ g v hn
def owB (gF gM gB j : Nat) : Prop := j = gF ∨ j = gM ∨ j = gB
/-- The three variables of own. -/
structure Ow3 (gF gM gB : Nat) (f : Bool) (m : Int) (x : As) (v : Value) (w : World) : Prop where
  f : w.heap[gF]? = some (.cells #[.bool f] 4 (0, 0))
  m : w.heap[gM]? = some (.cells #[.int .i64 m] 3 (0, 0))
  b : w.heap[gB]? = some (.cells #[.int .i64 x.k, .int .i64 x.a, .int .i64 x.b, v, .int .i64 x.q] 59 (0, 0))
  rd : OZ w v x.am
  ob : ∀ j, v.ownBlock = some j → ¬ owB gF gM gB j
/-- What own has seen. -/
def OwI (n : Nat) (gs : List Grp) (gF gM gB : Nat) (P : List As) (w : World) : Prop := ∃ f m x v, Ow3 gF gM gB f m x v w ∧ ((P = [] ∧ f = false) ∨ (f = true ∧ x ∈ P ∧ m = mg n gs x ∧ m = maxL (P.map (mg n gs))))
theorem Ow3.kept {gF gM gB : Nat} {f : Bool} {m : Int} {x : As} {v : Value} {w w' : World} (h : Ow3 gF gM gB f m x v w) (k : Kept no w w') : Ow3 gF gM gB f m x v w' := ⟨k.blk h.f, k.blk h.m, k.blk h.b, OZ.kept h.rd k, h.ob⟩
theorem OwI.kept {n : Nat} {gs : List Grp} {gF gM gB : Nat} {P : List As} {w w' : World} (h : OwI n gs gF gM gB P w) (k : Kept no w w') : OwI n gs gF gM gB P w' := by
  (obtain ⟨f, m, x, v, h1, h2⟩ := h); (exact ⟨f, m, x, v, h1.kept k, h2⟩)
theorem Ow3.km {gF gM gB : Nat} {f : Bool} {m : Int} {x : As} {v : Value} {w w' : World} {V M : Nat} (hV : IsMp w V) (hM : IsMp w M) (k : Kept (bm V M) w w') (h : Ow3 gF gM gB f m x v w) : Ow3 gF gM gB f m x v w' := ⟨blk_km hV hM k h.f, blk_km hV hM k h.m, blk_km hV hM k h.b, own_km hV hM k h.rd, h.ob⟩
theorem OwI.km {n : Nat} {gs : List Grp} {gF gM gB : Nat} {P : List As} {w w' : World} {V M : Nat} (hV : IsMp w V) (hM : IsMp w M) (k : Kept (bm V M) w w') (h : OwI n gs gF gM gB P w) : OwI n gs gF gM gB P w' := by
  (obtain ⟨f, m, x, v, h1, h2⟩ := h); (exact ⟨f, m, x, v, h1.km hV hM k, h2⟩)
set_option maxRecDepth 100000 in
set_option maxHeartbeats 4000000 in
theorem take_any (n : Nat) (gs : List Grp) (gF gM gB : Nat) (hFM : gF ≠ gM) (hFB : gF ≠ gB) (hMB : gM ≠ gB) (P : List As) (x : As) (v : Value) (w : World) (hI : OwI n gs gF gM gB P w) (hr : OZ w v x.am) (hv : ∀ j, v.ownBlock = some j → ¬ owB gF gM gB j) :
    Calls Tryz.prog 177 #[asV x v, .int .i64 (mg n gs x), .pointer (some ⟨gF, 0, none⟩), .pointer (some ⟨gM, 0, none⟩), .pointer (some ⟨gB, 0, none⟩)] w fun e w' => (∃ v, e = .returned v) ∧ OwI n gs gF gM gB (P ++ [x]) w' ∧ Kept (owB gF gM gB) w w' := by
  (obtain ⟨f, m, y, u, h3, hcs⟩ := hI); (obtain ⟨ax, lx, cx, rfl⟩ : ∃ a l c, v = .slice a l c := by obtain ⟨a, c, h, _⟩ := Rd.shape2 hr.rd; exact ⟨_, _, _, h⟩); (obtain ⟨ay, ly, cy, rfl⟩ : ∃ a l c, u = .slice a l c := by obtain ⟨a, c, h, _⟩ := Rd.shape2 h3.rd.rd; exact ⟨_, _, _, h⟩); (obtain ⟨w1, hw1, g1, k1⟩ := alloc_named w (.cells #[.int .i64 x.k, .int .i64 x.a, .int .i64 x.b, .slice ax lx cx, .int .i64 x.q] 59)); (obtain ⟨B0, hB0⟩ : ∃ g, w.heap.size = g := ⟨_, rfl⟩); (rw [hB0] at g1); (have h31 := h3.kept k1); (have hr1 := OZ.kept hr k1); (obtain ⟨M, hM⟩ : ∃ M, mg n gs x = M := ⟨_, rfl⟩); (have hne : Hd (B0 ≠ gF ∧ B0 ≠ gM ∧ B0 ≠ gB) := ⟨by have h1 := lt_of_heap h3.f; have h2 := lt_of_heap h3.m; have h4 := lt_of_heap h3.b; omega⟩)
  -- the assertion is taken
  have hTake : (f = false ∨ m < M ∨ m = M) → ∀ W, Kept no w1 W → OwI n gs gF gM gB (P ++ [x]) ((((((((W.setCell ⟨gB, 0, none⟩ (.int .i64 x.k)).setCell ⟨gB, 1, none⟩ (.int .i64 x.a)).setCell ⟨gB, 2, none⟩ (.int .i64 x.b)).setCell ⟨gB, 3, none⟩ (.slice ax lx cx)).setCell ⟨gB, 4, none⟩ (.int .i64 x.q)).setCell ⟨gM, 0, none⟩ (.int .i64 M)).setCell ⟨gF, 0, none⟩ (.bool true))) ∧ Kept (owB gF gM gB) W ((((((((W.setCell ⟨gB, 0, none⟩ (.int .i64 x.k)).setCell ⟨gB, 1, none⟩ (.int .i64 x.a)).setCell ⟨gB, 2, none⟩ (.int .i64 x.b)).setCell ⟨gB, 3, none⟩ (.slice ax lx cx)).setCell ⟨gB, 4, none⟩ (.int .i64 x.q)).setCell ⟨gM, 0, none⟩ (.int .i64 M)).setCell ⟨gF, 0, none⟩ (.bool true))) := by
    (intro hc W kW); (have k := ((((((((Kept.refl (owB gF gM gB) W).setCell (a := ⟨gB, 0, none⟩) (.inl (.inr (.inr rfl))) (.int .i64 x.k)).setCell (a := ⟨gB, 1, none⟩) (.inl (.inr (.inr rfl))) (.int .i64 x.a)).setCell (a := ⟨gB, 2, none⟩) (.inl (.inr (.inr rfl))) (.int .i64 x.b)).setCell (a := ⟨gB, 3, none⟩) (.inl (.inr (.inr rfl))) (.slice ax lx cx)).setCell (a := ⟨gB, 4, none⟩) (.inl (.inr (.inr rfl))) (.int .i64 x.q)).setCell (a := ⟨gM, 0, none⟩) (.inl (.inr (.inl rfl))) (.int .i64 M)).setCell (a := ⟨gF, 0, none⟩) (.inl (.inl rfl)) (.bool true))); (have hW := h31.kept kW); (refine ⟨⟨true, M, x, .slice ax lx cx, ⟨?_, ?_, ?_, k.ownsRow (OZ.kept hr1 kW) fun j hj hs => hv j hj hs, hv⟩, .inr ⟨rfl, by simp, hM.symm, ?_⟩⟩, k⟩)
    · have e1 : ((((((W.setCell ⟨gB, 0, none⟩ (.int .i64 x.k)).setCell ⟨gB, 1, none⟩ (.int .i64 x.a)).setCell ⟨gB, 2, none⟩ (.int .i64 x.b)).setCell ⟨gB, 3, none⟩ (.slice ax lx cx)).setCell ⟨gB, 4, none⟩ (.int .i64 x.q)).setCell ⟨gM, 0, none⟩ (.int .i64 M)).heap[gF]? = some (.cells #[.bool f] 4 (0, 0)) := by
        rw [setCell_other hFM, setCell_other hFB, setCell_other hFB, setCell_other hFB, setCell_other hFB, setCell_other hFB]; exact hW.f
      rw [setCell_row e1]; rfl
    · rw [setCell_other hFM.symm]
      have e1 : (((((W.setCell ⟨gB, 0, none⟩ (.int .i64 x.k)).setCell ⟨gB, 1, none⟩ (.int .i64 x.a)).setCell ⟨gB, 2, none⟩ (.int .i64 x.b)).setCell ⟨gB, 3, none⟩ (.slice ax lx cx)).setCell ⟨gB, 4, none⟩ (.int .i64 x.q)).heap[gM]? = some (.cells #[.int .i64 m] 3 (0, 0)) := by
        rw [setCell_other hMB, setCell_other hMB, setCell_other hMB, setCell_other hMB, setCell_other hMB]; exact hW.m
      rw [setCell_row e1]; rfl
    · rw [setCell_other hFB.symm, setCell_other hMB.symm, setCell_row (setCell_row (setCell_row (setCell_row (setCell_row hW.b _ _) _ _) _ _) _ _)]; rfl
    · by_cases hP : P = []
      · subst hP; exact hM.symm
      · (have e5 : (P ++ [x]).map (mg n gs) = P.map (mg n gs) ++ [M] := by rw [List.map_append, ← hM]; rfl); (rw [e5, maxL_snoc _ _ (by simpa using hP)])
        rcases hcs with ⟨h, _⟩ | ⟨h1, _, h2, h4⟩
        · exact absurd h hP
        · rcases hc with h | h | h
          · rw [h1] at h; cases h
          · rw [← h4]; omega
          · rw [← h4]; omega
  have hNo : f = true → M < m → OwI n gs gF gM gB (P ++ [x]) w1 := by
    intro hf hlt
    rcases hcs with ⟨_, h⟩ | ⟨h1, h2, h4, h5⟩
    · rw [hf] at h; cases h
    · exact ⟨f, m, y, .slice ay ly cy, h31, .inr ⟨h1, List.mem_append_left _ h2, h4, by
        have e5 : (P ++ [x]).map (mg n gs) = P.map (mg n gs) ++ [M] := by rw [List.map_append, ← hM]; rfl
        rw [e5, maxL_snoc _ _ (by have := List.ne_nil_of_mem h2; simpa using this), ← h5]; omega⟩⟩
  have hEq : f = true → M = m → ∀ W, Kept no w1 W → OwI n gs gF gM gB (P ++ [x]) W := by
    intro hf he W kW
    rcases hcs with ⟨_, h⟩ | ⟨h1, h2, h4, h5⟩
    · rw [hf] at h; cases h
    · exact ⟨f, m, y, .slice ay ly cy, h31.kept kW, .inr ⟨h1, List.mem_append_left _ h2, h4, by
        have e5 : (P ++ [x]).map (mg n gs) = P.map (mg n gs) ++ [M] := by rw [List.map_append, ← hM]; rfl
        rw [e5, maxL_snoc _ _ (by have := List.ne_nil_of_mem h2; simpa using this), ← h5]; omega⟩⟩
  (have hCmp := fun W (kW : Kept no w1 W) => compareN_any x y (.slice ax lx cx) (.slice ay ly cy) W (OZ.kept hr1 kW).rd (OZ.kept h31.rd kW).rd); (unfold asV at hCmp ⊢); (rw [hM]); (have b0 := hid g1); (have bF := hid h31.f); (have bM := hid h31.m); (have bB := hid h31.b); (have k01 := hid k1); (replace hTake := hid hTake); (replace hNo := hid hNo); (replace hEq := hid hEq); (replace hCmp := hid hCmp); (replace hw1 := hid hw1); (have hB0' := hid hB0); (clear hB0 g1 k1 h3 h31 hr hr1 hcs hv hM)
  go_enter Tryz.func177, Tryz.ntmps177
  (go_upto_region 1 with fail); (rw [← hw1.out]); (try rw [hB0'.out]); (have d0 : w1.cell? ⟨gF, 0, none⟩ = some (.bool f) := cell_at bF.out rfl); (have d1 : w1.cell? ⟨gM, 0, none⟩ = some (.int .i64 m) := cell_at bM.out rfl); (have a0 : w1.cell? ⟨B0, 0, none⟩ = some (.int .i64 x.k) := cell_at b0.out rfl); (have a1 : w1.cell? ⟨B0, 1, none⟩ = some (.int .i64 x.a) := cell_at b0.out rfl); (have a2 : w1.cell? ⟨B0, 2, none⟩ = some (.int .i64 x.b) := cell_at b0.out rfl); (have a3 : w1.cell? ⟨B0, 3, none⟩ = some (.slice ax lx cx) := cell_at b0.out rfl); (have a4 : w1.cell? ⟨B0, 4, none⟩ = some (.int .i64 x.q) := cell_at b0.out rfl); (have c0 : w1.cell? ⟨gB, 0, none⟩ = some (.int .i64 y.k) := cell_at bB.out rfl); (have c1 : w1.cell? ⟨gB, 1, none⟩ = some (.int .i64 y.a) := cell_at bB.out rfl); (have c2 : w1.cell? ⟨gB, 2, none⟩ = some (.int .i64 y.b) := cell_at bB.out rfl); (have c3 : w1.cell? ⟨gB, 3, none⟩ = some (.slice ay ly cy) := cell_at bB.out rfl); (have c4 : w1.cell? ⟨gB, 4, none⟩ = some (.int .i64 y.q) := cell_at bB.out rfl); (have fF := row_free bF.out); (have fM := row_free bM.out); (have fB := row_free bB.out); (clear hw1)
  cases f with
  | false =>
    go_wp2
    go_end0
    (have := hTake.out (.inl (by trivial)) w1 (Kept.refl _ _)); (exact ⟨⟨_, rfl⟩, this.1, k01.out.of_no.trans this.2 fun _ _ h => h⟩)
  | true =>
    by_cases hlt : m < M
    · (have hne2 : ¬ M = m := by omega); (go_wp2)
      go_end0
      (have := hTake.out (.inr (.inl hlt)) w1 (Kept.refl _ _)); (exact ⟨⟨_, rfl⟩, this.1, k01.out.of_no.trans this.2 fun _ _ h => h⟩)
    · by_cases he : M = m
      · (subst he); (have hC1 := hid (hCmp.out w1 (Kept.refl _ _))); (go_wp2_with fail); (with_reducible refine hC1.out.mono ?_); (rintro e w2 ⟨rfl, g2⟩); (have k2 := hid g2.kept); (have b0' := hid (k2.out.blk b0.out)); (have bF' := hid (k2.out.blk bF.out)); (have bM' := hid (k2.out.blk bM.out)); (have bB' := hid (k2.out.blk bB.out)); (clear hC1 g2 d0 d1 a0 a1 a2 a3 a4 c0 c1 c2 c3 c4 fF fM fB b0 bF bM bB); (have a0 : w2.cell? ⟨B0, 0, none⟩ = some (.int .i64 x.k) := cell_at b0'.out rfl); (have a1 : w2.cell? ⟨B0, 1, none⟩ = some (.int .i64 x.a) := cell_at b0'.out rfl); (have a2 : w2.cell? ⟨B0, 2, none⟩ = some (.int .i64 x.b) := cell_at b0'.out rfl); (have a3 : w2.cell? ⟨B0, 3, none⟩ = some (.slice ax lx cx) := cell_at b0'.out rfl); (have a4 : w2.cell? ⟨B0, 4, none⟩ = some (.int .i64 x.q) := cell_at b0'.out rfl); (have d0 : w2.cell? ⟨gF, 0, none⟩ = some (.bool true) := cell_at bF'.out rfl); (have d1 : w2.cell? ⟨gM, 0, none⟩ = some (.int .i64 M) := cell_at bM'.out rfl); (have c0 : w2.cell? ⟨gB, 0, none⟩ = some (.int .i64 y.k) := cell_at bB'.out rfl); (have c1 : w2.cell? ⟨gB, 1, none⟩ = some (.int .i64 y.a) := cell_at bB'.out rfl); (have c2 : w2.cell? ⟨gB, 2, none⟩ = some (.int .i64 y.b) := cell_at bB'.out rfl); (have c3 : w2.cell? ⟨gB, 3, none⟩ = some (.slice ay ly cy) := cell_at bB'.out rfl); (have c4 : w2.cell? ⟨gB, 4, none⟩ = some (.int .i64 y.q) := cell_at bB'.out rfl); (have fF := row_free bF'.out); (have fM := row_free bM'.out); (have fB := row_free bB'.out); (obtain ⟨cz, hcz⟩ : ∃ z, cmpA x y = z := ⟨_, rfl⟩); (rw [hcz])
        by_cases hc : cz < 0
        · go_wp2
          go_end0
          (have := hTake.out (.inr (.inr (by trivial))) w2 k2.out); (exact ⟨⟨_, rfl⟩, this.1, (k01.out.trans' k2.out).of_no.trans this.2 fun _ _ h => h⟩)
        · go_wp2
          go_end0
          exact ⟨⟨_, rfl⟩, hEq.out (by trivial) (by trivial) w2 k2.out, (k01.out.trans' k2.out).of_no⟩
      · (have hlt2 : M < m := by omega); (go_wp2)
        go_end0
        exact ⟨⟨_, rfl⟩, hNo.out (by trivial) hlt2, k01.out.of_no⟩
end Go.Proofs.YtaobaaaihgahfaaGreat
