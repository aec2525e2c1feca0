/- Certificates as bytes (plain): decoding inverts encoding, and the other way round. -/
import Derived.Test.YtkdmlakookgolaaBytZ
import Derived.Test.YtkdmlakookgolaaCkLZ
namespace Go.Mg
open Go.Pil
def valB (xs : List UInt8) : Nat := xs.foldl (fun a b => a * 256 + b.toNat) 0
theorem valB_snoc (xs : List UInt8) (b : UInt8) : valB (xs ++ [b]) = valB xs * 256 + b.toNat := by unfold valB; rw [List.foldl_append]; rfl
theorem byt_up (x k : Nat) : byt x (k + 1) = byt (x / 256) k := by
  (unfold byt); (rw [Nat.pow_succ, Nat.mul_comm, Nat.div_div_eq_div_mul])
theorem byt_low (x : Nat) : (byt x 0).toNat = x % 256 := by
  (unfold byt); (rw [UInt8.toNat_ofNat', Nat.pow_zero, Nat.div_one])
theorem encB_snoc (x : Nat) : ∀ k, encB x (k + 1) = encB (x / 256) k ++ [byt x 0]
  | 0 => rfl
  | k + 1 => by
    rw [encB, encB_snoc x k, byt_up]
    rfl
theorem val_enc : ∀ (k x : Nat), x < 256 ^ k → valB (encB x k) = x
  | 0, x, h => by
    (have : x = 0 := by simpa using h); (rw [this]; rfl)
  | k + 1, x, h => by
    rw [encB_snoc, valB_snoc, val_enc k (x / 256) (by rw [Nat.pow_succ] at h; exact Nat.div_lt_of_lt_mul (by rw [Nat.mul_comm]; exact h)), byt_low]
    omega
theorem enc_val : ∀ (r : List UInt8), encB (valB r.reverse) r.length = r.reverse ∧ valB r.reverse < 256 ^ r.length
  | [] => ⟨rfl, by show (0 : Nat) < 1; decide⟩
  | b :: r => by
    (obtain ⟨h1, h2⟩ := enc_val r); (have hb := b.toNat_lt); (rw [List.reverse_cons, valB_snoc, List.length_cons, encB_snoc]); (have e1 : (valB r.reverse * 256 + b.toNat) / 256 = valB r.reverse := by omega); (refine ⟨?_, ?_⟩)
    · rw [e1, h1]
      congr 2
      (have : (byt (valB r.reverse * 256 + b.toNat) 0).toNat = b.toNat := by rw [byt_low]; omega); (exact UInt8.toNat_inj.1 this)
    · rw [Nat.pow_succ]; omega
theorem enc_val' (xs : List UInt8) : encB (valB xs) xs.length = xs ∧ valB xs < 256 ^ xs.length := by
  have := enc_val xs.reverse
  rwa [List.reverse_reverse, List.length_reverse] at this
/-- A number of k bytes, and what comes behind. -/
def rdN (k : Nat) (xs : List UInt8) : Option (Nat × List UInt8) := if xs.length < k then none else some (valB (xs.take k), xs.drop k)
theorem rdN_enc {k x : Nat} (h : x < 256 ^ k) (rest : List UInt8) : rdN k (encB x k ++ rest) = some (x, rest) := by
  (have hl := encB_len x k); (unfold rdN); (rw [if_neg (by rw [List.length_append]; omega), List.take_append_of_le_length (by omega), List.take_of_length_le (by omega), val_enc k x h, List.drop_append_of_le_length (by omega), List.drop_of_length_le (by omega), List.nil_append])
theorem rdN_inv {k v : Nat} {xs ys : List UInt8} (h : rdN k xs = some (v, ys)) : xs = encB v k ++ ys ∧ v < 256 ^ k := by
  unfold rdN at h
  by_cases hl : xs.length < k
  · rw [if_pos hl] at h; cases h
  · (rw [if_neg hl] at h); (obtain ⟨rfl, rfl⟩ := Prod.mk.inj (Option.some.inj h)); (have := enc_val' (xs.take k)); (rw [List.length_take, Nat.min_eq_left (by omega)] at this); (exact ⟨by rw [this.1, List.take_append_drop], this.2⟩)
def rdNs : List Nat → List UInt8 → Option (List Nat × List UInt8)
  | [], xs => some ([], xs)
  | k :: ks, xs => match rdN k xs with
    | none => none
    | some (v, ys) => match rdNs ks ys with
      | none => none
      | some (vs, zs) => some (v :: vs, zs)
/-- Numbers of ks bytes. -/
def encNs : List Nat → List Nat → List UInt8
  | k :: ks, v :: vs => encB v k ++ encNs ks vs
  | _, _ => []
def FitNs : List Nat → List Nat → Prop
  | [], [] => True
  | k :: ks, v :: vs => v < 256 ^ k ∧ FitNs ks vs
  | _, _ => False
theorem rdNs_enc : ∀ (ks vs : List Nat) (rest : List UInt8), FitNs ks vs → rdNs ks (encNs ks vs ++ rest) = some (vs, rest)
  | [], [], rest, _ => rfl
  | k :: ks, v :: vs, rest, h => by
    show rdNs (k :: ks) ((encB v k ++ encNs ks vs) ++ rest) = _
    (rw [List.append_assoc, rdNs, rdN_enc h.1]); (simp only); (rw [rdNs_enc ks vs rest h.2])
  | [], _ :: _, _, h => h.elim
  | _ :: _, [], _, h => h.elim
theorem rdNs_inv : ∀ (ks : List Nat) (vs : List Nat) (xs ys : List UInt8), rdNs ks xs = some (vs, ys) → xs = encNs ks vs ++ ys ∧ FitNs ks vs
  | [], vs, xs, ys, h => by
    (obtain ⟨rfl, rfl⟩ := Prod.mk.inj (Option.some.inj h)); (exact ⟨rfl, trivial⟩)
  | k :: ks, vs, xs, ys, h => by
    rw [rdNs] at h
    cases h1 : rdN k xs with
    | none => rw [h1] at h; cases h
    | some p =>
      (obtain ⟨v, zs⟩ := p); (rw [h1] at h); (simp only at h)
      cases h2 : rdNs ks zs with
      | none => rw [h2] at h; cases h
      | some p =>
        (obtain ⟨vs', zs'⟩ := p); (rw [h2] at h); (obtain ⟨rfl, rfl⟩ := Prod.mk.inj (Option.some.inj h)); (obtain ⟨e1, e2⟩ := rdN_inv h1); (obtain ⟨e3, e4⟩ := rdNs_inv ks _ _ _ h2); (exact ⟨by show xs = (encB v k ++ encNs ks vs') ++ zs'; rw [List.append_assoc, ← e3]; exact e1, e2, e4⟩)
/-! Certificates. -/
def leafN (x : Nd) : Nat := if x.leaf = true then 1 else 0
def encNd (x : Nd) : List UInt8 := encNs [2, 4, 1, 1] [(x.par + 1).toNat, x.bd.toNat, leafN x, x.tail.length] ++ encNs (List.replicate x.tail.length 1) (x.tail.map Int.toNat)
def encC (A M : Int) (l : List Nd) : List UInt8 := encNs [1, 4, 2] [A.toNat, M.toNat, l.length] ++ l.flatMap encNd
structure NdOk (i : Nat) (x : Nd) : Prop where
  lo : -1 ≤ x.par
  hi : x.par < (i : Int)
  b0 : 0 ≤ x.bd
  b1 : x.bd ≤ 100000
  t0 : 1 ≤ x.tail.length
  t1 : x.tail.length ≤ 7
  cs : ∀ c ∈ x.tail, 0 ≤ c ∧ c < 7
structure EncOk (A M : Int) (l : List Nd) : Prop where
  a0 : 0 ≤ A
  a1 : A < 7
  m0 : 0 ≤ M
  m1 : M ≤ 100000
  len : l.length ≤ 4000
  nd : ∀ i, i < l.length → NdOk i (l.getD i default)
def rdNd (xs : List UInt8) : Option (Nd × List UInt8) := match rdNs [2, 4, 1, 1] xs with
  | some ([p, b, f, t], ys) => if 1 < f then none else match rdNs (List.replicate t 1) ys with
    | some (ts, zs) => some (⟨(p : Int) - 1, ts.map fun n : Nat => (n : Int), (b : Int), f == 1⟩, zs)
    | none => none
  | _ => none
def rdNds : Nat → List UInt8 → Option (List Nd × List UInt8)
  | 0, xs => some ([], xs)
  | k + 1, xs => match rdNd xs with
    | none => none
    | some (x, ys) => match rdNds k ys with
      | none => none
      | some (l, zs) => some (x :: l, zs)
open Classical in
noncomputable def decC (xs : List UInt8) : Option (Int × Int × List Nd) := match rdNs [1, 4, 2] xs with
  | some ([A, M, c], ys) => if 4000 < c then none else match rdNds c ys with
    | some (l, zs) => if zs = [] ∧ EncOk (A : Int) (M : Int) l then some ((A : Int), (M : Int), l) else none
    | none => none
  | _ => none
theorem fit_tail : ∀ t : List Int, (∀ c ∈ t, 0 ≤ c ∧ c < 7) → FitNs (List.replicate t.length 1) (t.map Int.toNat) ∧ (t.map Int.toNat).map (fun n : Nat => (n : Int)) = t
  | [], _ => ⟨trivial, rfl⟩
  | c :: t, h => by
    (obtain ⟨h1, h2⟩ := fit_tail t fun x hx => h x (List.mem_cons_of_mem _ hx)); (have hc := h c List.mem_cons_self); (refine ⟨?_, ?_⟩)
    · show FitNs (1 :: List.replicate t.length 1) (c.toNat :: t.map Int.toNat)
      exact ⟨by show c.toNat < 256; omega, h1⟩
    · rw [List.map_cons, List.map_cons, h2]
      congr 1
      omega
theorem rdNd_enc {i : Nat} {x : Nd} (h : NdOk i x) (hi : i ≤ 4000) (rest : List UInt8) : rdNd (encNd x ++ rest) = some (x, rest) := by
  obtain ⟨f1, f2⟩ := fit_tail x.tail h.cs
  have hf : FitNs [2, 4, 1, 1] [(x.par + 1).toNat, x.bd.toNat, leafN x, x.tail.length] := by
    (have h1 := h.lo; have h2 := h.hi; have h3 := h.b0; have h4 := h.b1; have h5 := h.t1); (refine ⟨by show _ < 65536; omega, by show _ < 4294967296; omega, by show _ < 256; unfold leafN; split <;> omega, by show _ < 256; omega, trivial⟩)
  (unfold rdNd encNd); (rw [List.append_assoc, rdNs_enc _ _ _ hf]); (simp only); (rw [if_neg (by unfold leafN; split <;> omega), rdNs_enc _ _ _ f1]); (simp only); (rw [f2]); (have h1 := h.lo); (have e1 : ((x.par + 1).toNat : Int) - 1 = x.par := by omega); (have e2 : (x.bd.toNat : Int) = x.bd := by have := h.b0; omega); (have e3 : (leafN x == 1) = x.leaf := by unfold leafN; cases x.leaf <;> rfl); (rw [e1, e2, e3])
theorem fitNs_len : ∀ ks vs, FitNs ks vs → vs.length = ks.length
  | [], [], _ => rfl
  | _ :: ks, _ :: vs, h => by rw [List.length_cons, List.length_cons, fitNs_len ks vs h.2]
  | [], _ :: _, h => h.elim
  | _ :: _, [], h => h.elim
theorem rdNd_inv {xs ys : List UInt8} {x : Nd} (h : rdNd xs = some (x, ys)) : xs = encNd x ++ ys := by
  unfold rdNd at h
  cases h1 : rdNs [2, 4, 1, 1] xs with
  | none => rw [h1] at h; cases h
  | some q =>
    (obtain ⟨vs, zs⟩ := q); (obtain ⟨e1, e2⟩ := rdNs_inv _ _ _ _ h1); (have hl := fitNs_len _ _ e2)
    match vs, hl with
    | [p, b, f, t], _ =>
      (rw [h1] at h); (simp only at h)
      by_cases hf : 1 < f
      · rw [if_pos hf] at h; cases h
      · rw [if_neg hf] at h
        cases h2 : rdNs (List.replicate t 1) zs with
        | none => rw [h2] at h; cases h
        | some q =>
          (obtain ⟨ts, us⟩ := q); (rw [h2] at h); (obtain ⟨rfl, rfl⟩ := Prod.mk.inj (Option.some.inj h)); (obtain ⟨e3, e4⟩ := rdNs_inv _ _ _ _ h2); (have hl2 := fitNs_len _ _ e4); (rw [List.length_replicate] at hl2); (rw [e1, e3]); (unfold encNd leafN); (simp only [List.length_map, hl2, List.map_map]); (have a1 : ((p : Int) - 1 + 1).toNat = p := by omega); (have a2 : (b : Int).toNat = b := by omega)
          have a3 : (if (f == 1) = true then 1 else 0) = f := by
            by_cases h1 : f = 1
            · subst h1; rfl
            · (have : f = 0 := by omega); (subst this; rfl)
          have a4 : ts.map (Int.toNat ∘ fun n : Nat => (n : Int)) = ts := by
            conv => rhs; rw [← List.map_id ts]
            exact List.map_congr_left fun n _ => by show (n : Int).toNat = n; omega
          rw [a1, a2, a3, a4, List.append_assoc]
theorem rdNds_enc : ∀ (l : List Nd) (j : Nat) (rest : List UInt8), (∀ i, i < l.length → NdOk (j + i) (l.getD i default)) → j + l.length ≤ 4000 → rdNds l.length (l.flatMap encNd ++ rest) = some (l, rest)
  | [], _, _, _, _ => rfl
  | x :: l, j, rest, h, hl => by
    (have h0 : NdOk j x := h 0 (by simp)); (rw [List.length_cons] at hl); (rw [List.flatMap_cons, List.append_assoc, List.length_cons, rdNds, rdNd_enc (i := j) h0 (by omega)]); (simp only)
    rw [rdNds_enc l (j + 1) rest (fun i hi => by
      (have := h (i + 1) (by rw [List.length_cons]; omega)); (rw [show j + (i + 1) = j + 1 + i by omega] at this)
      exact this) (by omega)]
theorem rdNds_inv : ∀ (k : Nat) (xs ys : List UInt8) (l : List Nd), rdNds k xs = some (l, ys) → xs = l.flatMap encNd ++ ys ∧ l.length = k
  | 0, xs, ys, l, h => by
    (obtain ⟨rfl, rfl⟩ := Prod.mk.inj (Option.some.inj h)); (exact ⟨rfl, rfl⟩)
  | k + 1, xs, ys, l, h => by
    rw [rdNds] at h
    cases h1 : rdNd xs with
    | none => rw [h1] at h; cases h
    | some q =>
      (obtain ⟨x, zs⟩ := q); (rw [h1] at h); (simp only at h)
      cases h2 : rdNds k zs with
      | none => rw [h2] at h; cases h
      | some q =>
        (obtain ⟨l', us⟩ := q); (rw [h2] at h); (obtain ⟨rfl, rfl⟩ := Prod.mk.inj (Option.some.inj h)); (obtain ⟨e1, e2⟩ := rdNds_inv k _ _ _ h2); (exact ⟨by rw [List.flatMap_cons, List.append_assoc, ← e1]; exact rdNd_inv h1, by rw [List.length_cons, e2]⟩)
/-- P32.3: what was encoded decodes to itself. -/
theorem dec_enc {A M : Int} {l : List Nd} (h : EncOk A M l) : decC (encC A M l) = some (A, M, l) := by
  have hf : FitNs [1, 4, 2] [A.toNat, M.toNat, l.length] := by
    (have h1 := h.a0; have h2 := h.a1; have h3 := h.m0; have h4 := h.m1; have h5 := h.len); (exact ⟨by show _ < 256; omega, by show _ < 4294967296; omega, by show _ < 65536; omega, trivial⟩)
  (have e1 : (A.toNat : Int) = A := by have := h.a0; omega); (have e2 : (M.toNat : Int) = M := by have := h.m0; omega); (have hr := rdNds_enc l 0 [] (fun i hi => by rw [Nat.zero_add]; exact h.nd i hi) (by have := h.len; omega)); (rw [List.append_nil] at hr); (unfold decC encC); (rw [rdNs_enc _ _ _ hf]); (simp only); (rw [if_neg (by have := h.len; omega), hr]); (simp only); (rw [e1, e2, if_pos ⟨rfl, h⟩])
/-- P32.4: what decodes was encoded. -/
theorem dec_inv {xs : List UInt8} {A M : Int} {l : List Nd} (h : decC xs = some (A, M, l)) : EncOk A M l ∧ encC A M l = xs := by
  unfold decC at h
  cases h1 : rdNs [1, 4, 2] xs with
  | none => rw [h1] at h; cases h
  | some q =>
    (obtain ⟨vs, zs⟩ := q); (obtain ⟨e1, e2⟩ := rdNs_inv _ _ _ _ h1); (have hl := fitNs_len _ _ e2)
    match vs, hl with
    | [a, m, c], _ =>
      (rw [h1] at h); (simp only at h)
      by_cases hc : 4000 < c
      · rw [if_pos hc] at h; cases h
      · rw [if_neg hc] at h
        cases h2 : rdNds c zs with
        | none => rw [h2] at h; cases h
        | some q =>
          (obtain ⟨l', us⟩ := q); (rw [h2] at h); (simp only at h)
          by_cases hz : us = [] ∧ EncOk (a : Int) (m : Int) l'
          · (rw [if_pos hz] at h); (obtain ⟨hA, hM⟩ := Prod.mk.inj (Option.some.inj h)); (obtain ⟨hM, hl'⟩ := Prod.mk.inj hM); (subst hA hM hl'); (obtain ⟨e3, e4⟩ := rdNds_inv _ _ _ _ h2); (refine ⟨hz.2, ?_⟩); (rw [e1, e3, hz.1, List.append_nil]); (unfold encC); (rw [e4, Int.toNat_natCast, Int.toNat_natCast])
          · rw [if_neg hz] at h; cases h
end Go.Mg
