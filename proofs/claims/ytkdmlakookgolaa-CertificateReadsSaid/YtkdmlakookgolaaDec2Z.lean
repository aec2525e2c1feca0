/- certificate.Decode: what it answers, its cases in plain Lean. -/
import Derived.Test.YtkdmlakookgolaaDec1Z
import Derived.Test.YtkdmlakookgolaaEncdZ
import Derived.Test.YtkdmlakookgolaaRepZ
import Derived.Test.YtkdmlakookgolaaRSearchZ
namespace Go.Proofs.Ytkdmlakookgolaa
open Go.RowKit Go.Mk Go.Pil Go.Mg
theorem Rd8.below {w : World} {a : Option Addr} {n c : Nat} {xs : List UInt8} (h : Rd8 w (.slice a n c) xs) : xs = [] ∨ ∀ q, a = some q → q.block < w.heap.size := by
  cases xs with
  | nil => exact .inl rfl
  | cons x xs =>
    (refine .inr fun q hq => ?_); (obtain ⟨b, o, rfl, hc⟩ := h.at 0 (by simp)); (obtain rfl := Option.some.inj hq)
    show b < w.heap.size
    (refine Classical.byContradiction fun hn => ?_); (have hno : w.heap[b]? = none := Array.getElem?_eq_none (by omega)); (unfold World.cell? at hc)
    simp [hno] at hc
theorem node_ne_bytes : 76 ≠ 45 := by decide
theorem int_ne_bytes : 3 ≠ 45 := by decide
theorem bytes_ne_cert : 45 ≠ 25 := by decide
/-- What Decode answers. -/
def DecR (xs : List UInt8) (e : Ending) (w' : World) : Prop := (∃ (A M : Int) (v : Value) (q : List (Nd × Value)), decC xs = some (A, M, nds q) ∧ e = .returned (.tuple #[.agg #[.int .i64 A, .int .i64 M, v], .bool true]) ∧ RdN w' v q) ∨ (decC xs = none ∧ e = .returned (.tuple #[.agg #[.int .i64 0, .int .i64 0, .slice none 0 0], .bool false]))
theorem dec_head {xs : List UInt8} (h : rdNs [1, 4, 2] xs = none) : decC xs = none := by unfold decC; rw [h]
theorem dec_count {xs ys : List UInt8} {A M c : Nat} (h : rdNs [1, 4, 2] xs = some ([A, M, c], ys)) (hc : 4000 < c) : decC xs = none := by unfold decC; rw [h]; simp only; rw [if_pos hc]
theorem dec_nodes {xs ys : List UInt8} {A M c : Nat} (h : rdNs [1, 4, 2] xs = some ([A, M, c], ys)) (hc : ¬ 4000 < c) (hn : rdNds c ys = none) : decC xs = none := by unfold decC; rw [h]; simp only; rw [if_neg hc, hn]
theorem dec_end {xs ys zs : List UInt8} {A M c : Nat} {l : List Nd} (h : rdNs [1, 4, 2] xs = some ([A, M, c], ys)) (hc : ¬ 4000 < c) (hn : rdNds c ys = some (l, zs)) (hz : ¬ (zs = [] ∧ EncOk (A : Int) (M : Int) l)) : decC xs = none := by unfold decC; rw [h]; simp only; rw [if_neg hc, hn]; simp only; rw [if_neg hz]
theorem dec_all {xs ys : List UInt8} {A M c : Nat} {l : List Nd} (h : rdNs [1, 4, 2] xs = some ([A, M, c], ys)) (hc : ¬ 4000 < c) (hn : rdNds c ys = some (l, [])) (hz : EncOk (A : Int) (M : Int) l) : decC xs = some ((A : Int), (M : Int), l) := by unfold decC; rw [h]; simp only; rw [if_neg hc, hn]; simp only; rw [if_pos ⟨rfl, hz⟩]
theorem rdNds_add : ∀ (a b : Nat) (xs : List UInt8), rdNds (a + b) xs = match rdNds a xs with
    | none => none
    | some (l, ys) => match rdNds b ys with
      | none => none
      | some (m, zs) => some (l ++ m, zs)
  | 0, b, xs => by
    rw [Nat.zero_add]
    show rdNds b xs = match rdNds b xs with | none => none | some (m, zs) => some ([] ++ m, zs)
    cases rdNds b xs with
    | none => rfl
    | some p => rfl
  | a + 1, b, xs => by
    rw [show a + 1 + b = (a + b) + 1 by omega, rdNds, rdNds]
    cases rdNd xs with
    | none => rfl
    | some p =>
      (obtain ⟨x, ys⟩ := p); (simp only); (rw [rdNds_add a b ys])
      cases rdNds a ys with
      | none => rfl
      | some p =>
        (obtain ⟨l, zs⟩ := p); (simp only)
        cases rdNds b zs with
        | none => rfl
        | some p => rfl
theorem rdNds_stop {j c : Nat} {xs ys : List UInt8} {l : List Nd} (hj : j < c) (h : rdNds j xs = some (l, ys)) (hn : rdNd ys = none) : rdNds c xs = none := by
  (obtain ⟨r, rfl⟩ : ∃ r, c = j + (r + 1) := ⟨c - j - 1, by omega⟩); (rw [rdNds_add, h]); (simp only); (rw [rdNds, hn])
theorem rdNds_more {j : Nat} {xs ys zs : List UInt8} {l : List Nd} {x : Nd} (h : rdNds j xs = some (l, ys)) (hn : rdNd ys = some (x, zs)) : rdNds (j + 1) xs = some (l ++ [x], zs) := by
  (rw [rdNds_add, h]); (simp only [rdNds, hn])
theorem rdNd_none {xs : List UInt8} (h : rdNs [2, 4, 1, 1] xs = none) : rdNd xs = none := by unfold rdNd; rw [h]
theorem rdNd_flag {xs ys : List UInt8} {p b f t : Nat} (h : rdNs [2, 4, 1, 1] xs = some ([p, b, f, t], ys)) (hf : 1 < f) : rdNd xs = none := by unfold rdNd; rw [h]; simp only; rw [if_pos hf]
theorem rdNd_tail {xs ys : List UInt8} {p b f t : Nat} (h : rdNs [2, 4, 1, 1] xs = some ([p, b, f, t], ys)) (hf : ¬ 1 < f) (ht : rdNs (List.replicate t 1) ys = none) : rdNd xs = none := by unfold rdNd; rw [h]; simp only; rw [if_neg hf, ht]
theorem rdNd_some {xs ys zs : List UInt8} {p b f t : Nat} {ts : List Nat} (h : rdNs [2, 4, 1, 1] xs = some ([p, b, f, t], ys)) (hf : ¬ 1 < f) (ht : rdNs (List.replicate t 1) ys = some (ts, zs)) : rdNd xs = some (⟨(p : Int) - 1, Zn ts, (b : Int), f == 1⟩, zs) := by unfold rdNd; rw [h]; simp only; rw [if_neg hf, ht]; rfl
theorem rdN_fit {xs ys : List UInt8} {p b f t : Nat} (h : rdNs [2, 4, 1, 1] xs = some ([p, b, f, t], ys)) : p < 65536 ∧ b < 4294967296 ∧ f < 256 ∧ t < 256 := by
  (obtain ⟨_, h1, h2, h3, h4, _⟩ := rdNs_inv _ _ _ _ h); (exact ⟨h1, h2, h3, h4⟩)
/-- Nodes are not touched by what turns a block of bytes' slices. -/
theorem OwNd.keptB {w1 w w2 : World} {v : Value} {q : List (Nd × Value)} {GB : Nat} {c : Array Value} {fr : Nat × Nat} (h : OwNd w1 w v q) (k : Kept (fun j => j = GB) w w2) (hg : w.heap[GB]? = some (.cells c 45 fr)) (hn : w1.heap.size ≤ GB) : OwNd w1 w2 v q :=
  ⟨k.ownsRow h.own fun j hj e => own_ne h.own hg node_ne_bytes j hj e, fun x hx => k.ownsRow (h.rows x hx) fun j hj e => own_ne (h.rows x hx) hg int_ne_bytes j hj e, h.kept.trans k fun j hj (e : j = GB) => by omega, h.new⟩
theorem CrtS.keptB {w1 w w2 : World} {gc : Nat} {W M : Int} {v : Value} {q : List (Nd × Value)} {GB : Nat} {c : Array Value} {fr : Nat × Nat} (h : CrtS w1 w gc W M v q) (k : Kept (fun j => j = GB) w w2) (hg : w.heap[GB]? = some (.cells c 45 fr)) (hn : w1.heap.size ≤ GB) : CrtS w1 w2 gc W M v q :=
  ⟨(k.block gc (lt_of_heap h.blk) (fun e => by
    (have e' : gc = GB := e); (have h1 := h.blk); (rw [e', hg] at h1)
    exact bytes_ne_cert (Option.some.inj h1 |> fun e => by injection e))).trans h.blk, h.own.keptB k hg hn, h.new⟩
end Go.Proofs.Ytkdmlakookgolaa
