/- Nodes and certificates among the arguments. -/
import Derived.Test.YtkdmlakookgolaaReadZ
import Derived.Test.YtkdmlakookgolaaNodeZ
import Derived.Lib.SmallJoins
namespace Go.Proofs.Ytkdmlakookgolaa
open Go.ChangeShapes Go.WideShapes Go.ChangeAt Go.RowKit Go.Mk Go.Deep Go.Pil Go.Mg
theorem array3 {cs : Array Value} (h : cs.size = 3) : ∃ c0 c1 c2, cs = #[c0, c1, c2] := by
  obtain ⟨l⟩ := cs
  match l, h with
  | [c0, c1, c2], _ => exact ⟨c0, c1, c2, rfl⟩
theorem fieldsOneN {P : Program} {t : TypeId} {fs : Array Field} (h : P.underlying t = some (.struct fs)) (hb : (match P.underlying t with | some (.struct fs) => oneCellFields P fs | _ => false) = true) : oneCellFields P fs = true := by rw [h] at hb; exact hb
set_option maxRecDepth 100000 in
theorem node_read {H : Type} {enc : TypeId × Value → H} {w : World} {base : Nat} {held : Bool} {fuel : Nat} {u0 u1 u2 u3 : Value} {x : DataW H × List MemPlace}
    (hf : DataW.trod enc Try.prog w base (fun _ => true) held fuel 76 [u0, u1, u2, u3] = some x) : ∃ y : Nd × Value, [u0, u1, u2, u3] = ndC y ∧ RdZ w y.2 y.1.tail := by
  (have hu := Try.underlying76); (have hone := fieldsOneN hu (by kernel_rfl)); (obtain ⟨xs, n, _, _, hl, hlen, hf⟩ := DataW.trod_struct hu hf)
  match xs, hlen with
  | [y0, y1, y2, y3], _ =>
    (obtain ⟨o0, k0⟩ := hone_of hone 0 _ rfl); (have f0 := hf 0 _ rfl); (rw [o0, k0] at f0); (obtain ⟨o1, k1⟩ := hone_of hone 1 _ rfl); (have f1 := hf 1 _ rfl); (rw [o1, k1] at f1); (obtain ⟨o2, k2⟩ := hone_of hone 2 _ rfl); (have f2 := hf 2 _ rfl); (rw [o2, k2] at f2); (obtain ⟨o3, k3⟩ := hone_of hone 3 _ rfl); (have f3 := hf 3 _ rfl); (rw [o3, k3] at f3); (obtain ⟨z0, h0, _⟩ := DataW.trod_int Try.underlying3 f0); (obtain ⟨zs, h1, _⟩ := ints_read (show DataW.trod enc Try.prog w base (fun _ => true) held _ 40 [u1] = _ from f1)); (obtain ⟨z2, h2, _⟩ := DataW.trod_int Try.underlying3 f2); (obtain ⟨z3, h3, _⟩ := DataW.trod_bool Try.underlying4 f3); (have a0 : u0 = _ := (List.cons.inj h0).1); (have a2 : u2 = _ := (List.cons.inj h2).1); (have a3 : u3 = _ := (List.cons.inj h3).1); (exact ⟨(⟨z0, zs, z2, z3⟩, u1), by rw [a0, a2, a3]; rfl, h1⟩)
theorem nodes_read {H : Type} {enc : TypeId × Value → H} {w : World} {base : Nat} {held : Bool} {fuel : Nat} {v : Value} {x : DataW H × List MemPlace}
    (h : DataW.trod enc Try.prog w base (fun _ => true) held fuel 23 [v] = some x) : ∃ q : List (Nd × Value), RdN w v q := by
  obtain ⟨n, f, hr, hn, hf⟩ := rows_read Try.underlying23 (sz := 4) (by kernel_rfl) (by decide) h
  obtain ⟨g, hg⟩ : ∃ g : Nat → Nd × Value, ∀ i, i < n → f i = ndC (g i) ∧ RdZ w (g i).2 (g i).1.tail := choose_lt (α := Nd × Value) (p := fun i z => f i = ndC z ∧ RdZ w z.2 z.1.tail) fun i hi => by
    obtain ⟨hl, m, y, hy⟩ := hf i hi
    match hfi : f i, hl with
    | [u0, u1, u2, u3], _ =>
      (rw [hfi] at hy); (exact node_read hy)
  refine ⟨(List.range n).map g, fun y hy => ?_, ?_⟩
  · (obtain ⟨i, hi, rfl⟩ := List.mem_map.1 hy); (exact (hg i (by simpa using hi)).2)
  · have e : (List.range n).flatMap f = flatN ((List.range n).map g) := by
      (unfold flatN); (rw [List.flatMap_map])
      apply flat_congr
      (intro i hi); (exact (hg i (by simpa using hi)).1)
    rw [← e]
    simpa using hr
set_option maxRecDepth 100000 in
theorem cert_read {H : Type} {enc : TypeId × Value → H} {w : World} {base base' : Nat} {held : Bool} {r : Reach} {v : Value} {d : DataW H} {p : List MemPlace}
    (hv : Value.okWide Try.prog w r base' 25 v) (h : DataW.Trod enc Try.prog w base (fun _ => true) held 25 v d p) :
    ∃ (A M : Int) (vn : Value) (q : List (Nd × Value)), v = .agg #[.int .i64 A, .int .i64 M, vn] ∧ RdN w vn q := by
  (obtain ⟨cs, rfl, hsz⟩ := okWide_struct Try.underlying25 hv); (obtain ⟨c0, c1, c2, rfl⟩ := array3 (hsz.trans (by kernel_rfl))); (obtain ⟨fuel, hf⟩ := h); (have hu := Try.underlying25); (have hone := fieldsOneN hu (by kernel_rfl)); (obtain ⟨xs, n, _, _, hl, hlen, hf⟩ := DataW.trod_struct hu hf)
  match xs, hlen with
  | [y0, y1, y2], _ =>
    (obtain ⟨o0, k0⟩ := hone_of hone 0 _ rfl); (have f0 := hf 0 _ rfl); (rw [o0, k0] at f0); (obtain ⟨o1, k1⟩ := hone_of hone 1 _ rfl); (have f1 := hf 1 _ rfl); (rw [o1, k1] at f1); (obtain ⟨o2, k2⟩ := hone_of hone 2 _ rfl); (have f2 := hf 2 _ rfl); (rw [o2, k2] at f2); (obtain ⟨z0, h0, _⟩ := DataW.trod_int Try.underlying3 f0); (obtain ⟨z1, h1, _⟩ := DataW.trod_int Try.underlying3 f1); (obtain ⟨q, hq⟩ := nodes_read (show DataW.trod enc Try.prog w base (fun _ => true) held _ 23 [c2] = _ from f2)); (have a0' : c0 = _ := (List.cons.inj h0).1); (have a1' : c1 = _ := (List.cons.inj h1).1); (subst a0' a1'); (exact ⟨z0, z1, c2, q, rfl, hq⟩)
end Go.Proofs.Ytkdmlakookgolaa
