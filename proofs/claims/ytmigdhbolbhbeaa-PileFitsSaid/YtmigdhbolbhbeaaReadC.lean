/- A contest among the arguments. -/
import Derived.Test.YtmigdhbolbhbeaaReadP
import Derived.Lib.SmallJoins
namespace Go.Proofs.Ytmigdhbolbhbeaa
open Go.ChangeShapes Go.WideShapes Go.ChangeAt Go.RowKit Go.Mk Go.Deep Go.Pil
theorem array9 {cs : Array Value} (h : cs.size = 9) : ∃ c0 c1 c2 c3 c4 c5 c6 c7 c8, cs = #[c0, c1, c2, c3, c4, c5, c6, c7, c8] := by
  obtain ⟨l⟩ := cs
  match l, h with
  | [c0, c1, c2, c3, c4, c5, c6, c7, c8], _ => exact ⟨c0, c1, c2, c3, c4, c5, c6, c7, c8, rfl⟩
theorem fieldsOne {P : Program} {t : TypeId} {fs : Array Field} (h : P.underlying t = some (.struct fs)) (hb : (match P.underlying t with | some (.struct fs) => oneCellFields P fs | _ => false) = true) : oneCellFields P fs = true := by rw [h] at hb; exact hb
set_option maxRecDepth 100000 in
theorem contest_read {H : Type} {enc : TypeId × Value → H} {w : World} {base base' : Nat} {held : Bool} {r : Reach} {v : Value} {d : DataW H} {p : List MemPlace}
    (hv : Value.okWide Try.prog w r base' 55 v) (h : DataW.Trod enc Try.prog w base (fun _ => true) held 55 v d p) :
    ∃ (nm : ByteArray) (ac : Option Addr) (n cc : Nat) (cm s ra d t ov sk : Int), v = .agg #[.string nm, .slice ac n cc, .int .i64 cm, .int .i64 s, .int .i64 ra, .int .i64 d, .int .i64 t, .int .i64 ov, .int .i64 sk] := by
  have e3 : Try.prog.cellsOf 3 = 1 := by kernel_rfl
  have e4 : Try.prog.cellsOf 9 = 1 := by kernel_rfl
  have e5 : Try.prog.cellsOf 53 = 1 := by kernel_rfl
  obtain ⟨cs, rfl, hsz⟩ := okWide_struct Try.underlying55 hv
  obtain ⟨c0, c1, c2, c3, c4, c5, c6, c7, c8, rfl⟩ := array9 (hsz.trans (by kernel_rfl))
  obtain ⟨fuel, hf⟩ := h
  have hu := Try.underlying55
  have hone := fieldsOne hu (by kernel_rfl)
  obtain ⟨xs, n, _, _, hl, hlen, hf⟩ := DataW.trod_struct hu hf
  match xs, hlen with
  | [y0, y1, y2, y3, y4, y5, y6, y7, y8], _ =>
    obtain ⟨o0, k0⟩ := hone_of hone 0 _ rfl
    have f0 := hf 0 _ rfl
    rw [o0, k0] at f0
    obtain ⟨o1, k1⟩ := hone_of hone 1 _ rfl
    have f1 := hf 1 _ rfl
    rw [o1, k1] at f1
    obtain ⟨o2, k2⟩ := hone_of hone 2 _ rfl
    have f2 := hf 2 _ rfl
    rw [o2, k2] at f2
    obtain ⟨o3, k3⟩ := hone_of hone 3 _ rfl
    have f3 := hf 3 _ rfl
    rw [o3, k3] at f3
    obtain ⟨o4, k4⟩ := hone_of hone 4 _ rfl
    have f4 := hf 4 _ rfl
    rw [o4, k4] at f4
    obtain ⟨o5, k5⟩ := hone_of hone 5 _ rfl
    have f5 := hf 5 _ rfl
    rw [o5, k5] at f5
    obtain ⟨o6, k6⟩ := hone_of hone 6 _ rfl
    have f6 := hf 6 _ rfl
    rw [o6, k6] at f6
    obtain ⟨o7, k7⟩ := hone_of hone 7 _ rfl
    have f7 := hf 7 _ rfl
    rw [o7, k7] at f7
    obtain ⟨o8, k8⟩ := hone_of hone 8 _ rfl
    have f8 := hf 8 _ rfl
    rw [o8, k8] at f8
    obtain ⟨s0, h0, _⟩ := DataW.trod_string Try.underlying9 f0
    obtain ⟨a1, l1, d1, h1⟩ := Go.Joins.slice_form Try.underlying53 f1
    obtain ⟨z2, h2, _⟩ := DataW.trod_int Try.underlying3 f2
    obtain ⟨z3, h3, _⟩ := DataW.trod_int Try.underlying3 f3
    obtain ⟨z4, h4, _⟩ := DataW.trod_int Try.underlying3 f4
    obtain ⟨z5, h5, _⟩ := DataW.trod_int Try.underlying3 f5
    obtain ⟨z6, h6, _⟩ := DataW.trod_int Try.underlying3 f6
    obtain ⟨z7, h7, _⟩ := DataW.trod_int Try.underlying3 f7
    obtain ⟨z8, h8, _⟩ := DataW.trod_int Try.underlying3 f8
    have a0' : c0 = _ := (List.cons.inj h0).1
    have a1' : c1 = _ := (List.cons.inj h1).1
    have a2' : c2 = _ := (List.cons.inj h2).1
    have a3' : c3 = _ := (List.cons.inj h3).1
    have a4' : c4 = _ := (List.cons.inj h4).1
    have a5' : c5 = _ := (List.cons.inj h5).1
    have a6' : c6 = _ := (List.cons.inj h6).1
    have a7' : c7 = _ := (List.cons.inj h7).1
    have a8' : c8 = _ := (List.cons.inj h8).1
    subst a0' a1' a2' a3' a4' a5' a6' a7' a8'
    exact ⟨_, _, _, _, _, _, _, _, _, _, _, rfl⟩
end Go.Proofs.Ytmigdhbolbhbeaa
