/- Rows of any number of arguments: opened and closed (printed by gen_trod.py). -/
import Derived.Carry
import Derived.ChangeShapes
import Derived.WalkKit
import Derived.Test.YtkdmlakookgolaaRows
import Derived.Test.YtkdmlakookgolaaGrpZ
import Derived.Test.YtkdmlakookgolaaAddZ
import Derived.ProofKit
import Derived.OpenShut
import Derived.Deep.DeepHandedRow
import Derived.Deep.Slices
import Derived.ChangeSame
import Derived.ChangeArms
namespace Go.Mk
open Go.ChangeShapes Go.RowKit
section
variable {H : Type} {enc : TypeId × Value → H} {P : Program} {w : World} {base : Nat} {spare : Nat → Bool} {held : Bool}
theorem trAll1 {t0 : TypeId} {args : Array Value} {ds : List (DataW H)} {ps : List MemPlace} (h : DataW.TrodAll enc P w base spare held [t0] args.toList ds ps) :
    ∃ v0 d0 p0, args = #[v0] ∧ ds = [d0] ∧ ps = p0 ∧ DataW.Trod enc P w base spare held t0 v0 d0 p0 := by
  (obtain ⟨v0, vs0, d0, ds0, p0, q0, hargs, rfl, rfl, h0, hr0⟩ := trodAll_cons h); (obtain ⟨rfl, rfl, rfl⟩ := trodAll_nil hr0); (exact ⟨v0, d0, p0, by rw [← Array.toList_inj, hargs], rfl, by simp, h0⟩)
theorem trMk1 {t0 : TypeId} {v0 : Value} {d0 : DataW H} {p0 : List MemPlace} (h0 : DataW.Trod enc P w base spare held t0 v0 d0 p0) : DataW.TrodAll enc P w base spare held [t0] [v0] [d0] (p0) :=
  trodAll_mk1 h0
theorem trAll2 {t0 t1 : TypeId} {args : Array Value} {ds : List (DataW H)} {ps : List MemPlace} (h : DataW.TrodAll enc P w base spare held [t0, t1] args.toList ds ps) :
    ∃ v0 v1 d0 d1 p0 p1, args = #[v0, v1] ∧ ds = [d0, d1] ∧ ps = p0 ++ (p1) ∧ DataW.Trod enc P w base spare held t0 v0 d0 p0 ∧ DataW.Trod enc P w base spare held t1 v1 d1 p1 := by
  (obtain ⟨v0, vs0, d0, ds0, p0, q0, hargs, rfl, rfl, h0, hr0⟩ := trodAll_cons h); (obtain ⟨v1, vs1, d1, ds1, p1, q1, rfl, rfl, rfl, h1, hr1⟩ := trodAll_cons hr0); (obtain ⟨rfl, rfl, rfl⟩ := trodAll_nil hr1); (exact ⟨v0, v1, d0, d1, p0, p1, by rw [← Array.toList_inj, hargs], rfl, by simp, h0, h1⟩)
theorem trMk2 {t0 t1 : TypeId} {v0 v1 : Value} {d0 d1 : DataW H} {p0 p1 : List MemPlace} (h0 : DataW.Trod enc P w base spare held t0 v0 d0 p0) (h1 : DataW.Trod enc P w base spare held t1 v1 d1 p1) : DataW.TrodAll enc P w base spare held [t0, t1] [v0, v1] [d0, d1] (p0 ++ (p1)) :=
  ⟨p0, _, h0, trMk1 h1, rfl⟩
theorem trAll3 {t0 t1 t2 : TypeId} {args : Array Value} {ds : List (DataW H)} {ps : List MemPlace} (h : DataW.TrodAll enc P w base spare held [t0, t1, t2] args.toList ds ps) :
    ∃ v0 v1 v2 d0 d1 d2 p0 p1 p2, args = #[v0, v1, v2] ∧ ds = [d0, d1, d2] ∧ ps = p0 ++ (p1 ++ (p2)) ∧ DataW.Trod enc P w base spare held t0 v0 d0 p0 ∧ DataW.Trod enc P w base spare held t1 v1 d1 p1 ∧ DataW.Trod enc P w base spare held t2 v2 d2 p2 := by
  (obtain ⟨v0, vs0, d0, ds0, p0, q0, hargs, rfl, rfl, h0, hr0⟩ := trodAll_cons h); (obtain ⟨v1, vs1, d1, ds1, p1, q1, rfl, rfl, rfl, h1, hr1⟩ := trodAll_cons hr0); (obtain ⟨v2, vs2, d2, ds2, p2, q2, rfl, rfl, rfl, h2, hr2⟩ := trodAll_cons hr1); (obtain ⟨rfl, rfl, rfl⟩ := trodAll_nil hr2); (exact ⟨v0, v1, v2, d0, d1, d2, p0, p1, p2, by rw [← Array.toList_inj, hargs], rfl, by simp, h0, h1, h2⟩)
theorem trMk3 {t0 t1 t2 : TypeId} {v0 v1 v2 : Value} {d0 d1 d2 : DataW H} {p0 p1 p2 : List MemPlace} (h0 : DataW.Trod enc P w base spare held t0 v0 d0 p0) (h1 : DataW.Trod enc P w base spare held t1 v1 d1 p1) (h2 : DataW.Trod enc P w base spare held t2 v2 d2 p2) : DataW.TrodAll enc P w base spare held [t0, t1, t2] [v0, v1, v2] [d0, d1, d2] (p0 ++ (p1 ++ (p2))) :=
  ⟨p0, _, h0, trMk2 h1 h2, rfl⟩
theorem trAll4 {t0 t1 t2 t3 : TypeId} {args : Array Value} {ds : List (DataW H)} {ps : List MemPlace} (h : DataW.TrodAll enc P w base spare held [t0, t1, t2, t3] args.toList ds ps) :
    ∃ v0 v1 v2 v3 d0 d1 d2 d3 p0 p1 p2 p3, args = #[v0, v1, v2, v3] ∧ ds = [d0, d1, d2, d3] ∧ ps = p0 ++ (p1 ++ (p2 ++ (p3))) ∧ DataW.Trod enc P w base spare held t0 v0 d0 p0 ∧ DataW.Trod enc P w base spare held t1 v1 d1 p1 ∧ DataW.Trod enc P w base spare held t2 v2 d2 p2 ∧ DataW.Trod enc P w base spare held t3 v3 d3 p3 := by
  (obtain ⟨v0, vs0, d0, ds0, p0, q0, hargs, rfl, rfl, h0, hr0⟩ := trodAll_cons h); (obtain ⟨v1, vs1, d1, ds1, p1, q1, rfl, rfl, rfl, h1, hr1⟩ := trodAll_cons hr0); (obtain ⟨v2, vs2, d2, ds2, p2, q2, rfl, rfl, rfl, h2, hr2⟩ := trodAll_cons hr1); (obtain ⟨v3, vs3, d3, ds3, p3, q3, rfl, rfl, rfl, h3, hr3⟩ := trodAll_cons hr2); (obtain ⟨rfl, rfl, rfl⟩ := trodAll_nil hr3); (exact ⟨v0, v1, v2, v3, d0, d1, d2, d3, p0, p1, p2, p3, by rw [← Array.toList_inj, hargs], rfl, by simp, h0, h1, h2, h3⟩)
theorem trMk4 {t0 t1 t2 t3 : TypeId} {v0 v1 v2 v3 : Value} {d0 d1 d2 d3 : DataW H} {p0 p1 p2 p3 : List MemPlace} (h0 : DataW.Trod enc P w base spare held t0 v0 d0 p0) (h1 : DataW.Trod enc P w base spare held t1 v1 d1 p1) (h2 : DataW.Trod enc P w base spare held t2 v2 d2 p2) (h3 : DataW.Trod enc P w base spare held t3 v3 d3 p3) : DataW.TrodAll enc P w base spare held [t0, t1, t2, t3] [v0, v1, v2, v3] [d0, d1, d2, d3] (p0 ++ (p1 ++ (p2 ++ (p3)))) :=
  ⟨p0, _, h0, trMk3 h1 h2 h3, rfl⟩
theorem trAll5 {t0 t1 t2 t3 t4 : TypeId} {args : Array Value} {ds : List (DataW H)} {ps : List MemPlace} (h : DataW.TrodAll enc P w base spare held [t0, t1, t2, t3, t4] args.toList ds ps) :
    ∃ v0 v1 v2 v3 v4 d0 d1 d2 d3 d4 p0 p1 p2 p3 p4, args = #[v0, v1, v2, v3, v4] ∧ ds = [d0, d1, d2, d3, d4] ∧ ps = p0 ++ (p1 ++ (p2 ++ (p3 ++ (p4)))) ∧ DataW.Trod enc P w base spare held t0 v0 d0 p0 ∧ DataW.Trod enc P w base spare held t1 v1 d1 p1 ∧ DataW.Trod enc P w base spare held t2 v2 d2 p2 ∧ DataW.Trod enc P w base spare held t3 v3 d3 p3 ∧ DataW.Trod enc P w base spare held t4 v4 d4 p4 := by
  (obtain ⟨v0, vs0, d0, ds0, p0, q0, hargs, rfl, rfl, h0, hr0⟩ := trodAll_cons h); (obtain ⟨v1, vs1, d1, ds1, p1, q1, rfl, rfl, rfl, h1, hr1⟩ := trodAll_cons hr0); (obtain ⟨v2, vs2, d2, ds2, p2, q2, rfl, rfl, rfl, h2, hr2⟩ := trodAll_cons hr1); (obtain ⟨v3, vs3, d3, ds3, p3, q3, rfl, rfl, rfl, h3, hr3⟩ := trodAll_cons hr2); (obtain ⟨v4, vs4, d4, ds4, p4, q4, rfl, rfl, rfl, h4, hr4⟩ := trodAll_cons hr3); (obtain ⟨rfl, rfl, rfl⟩ := trodAll_nil hr4); (exact ⟨v0, v1, v2, v3, v4, d0, d1, d2, d3, d4, p0, p1, p2, p3, p4, by rw [← Array.toList_inj, hargs], rfl, by simp, h0, h1, h2, h3, h4⟩)
theorem trMk5 {t0 t1 t2 t3 t4 : TypeId} {v0 v1 v2 v3 v4 : Value} {d0 d1 d2 d3 d4 : DataW H} {p0 p1 p2 p3 p4 : List MemPlace} (h0 : DataW.Trod enc P w base spare held t0 v0 d0 p0) (h1 : DataW.Trod enc P w base spare held t1 v1 d1 p1) (h2 : DataW.Trod enc P w base spare held t2 v2 d2 p2) (h3 : DataW.Trod enc P w base spare held t3 v3 d3 p3) (h4 : DataW.Trod enc P w base spare held t4 v4 d4 p4) : DataW.TrodAll enc P w base spare held [t0, t1, t2, t3, t4] [v0, v1, v2, v3, v4] [d0, d1, d2, d3, d4] (p0 ++ (p1 ++ (p2 ++ (p3 ++ (p4))))) :=
  ⟨p0, _, h0, trMk4 h1 h2 h3 h4, rfl⟩
theorem trAll6 {t0 t1 t2 t3 t4 t5 : TypeId} {args : Array Value} {ds : List (DataW H)} {ps : List MemPlace} (h : DataW.TrodAll enc P w base spare held [t0, t1, t2, t3, t4, t5] args.toList ds ps) :
    ∃ v0 v1 v2 v3 v4 v5 d0 d1 d2 d3 d4 d5 p0 p1 p2 p3 p4 p5, args = #[v0, v1, v2, v3, v4, v5] ∧ ds = [d0, d1, d2, d3, d4, d5] ∧ ps = p0 ++ (p1 ++ (p2 ++ (p3 ++ (p4 ++ (p5))))) ∧ DataW.Trod enc P w base spare held t0 v0 d0 p0 ∧ DataW.Trod enc P w base spare held t1 v1 d1 p1 ∧ DataW.Trod enc P w base spare held t2 v2 d2 p2 ∧ DataW.Trod enc P w base spare held t3 v3 d3 p3 ∧ DataW.Trod enc P w base spare held t4 v4 d4 p4 ∧ DataW.Trod enc P w base spare held t5 v5 d5 p5 := by
  (obtain ⟨v0, vs0, d0, ds0, p0, q0, hargs, rfl, rfl, h0, hr0⟩ := trodAll_cons h); (obtain ⟨v1, vs1, d1, ds1, p1, q1, rfl, rfl, rfl, h1, hr1⟩ := trodAll_cons hr0); (obtain ⟨v2, vs2, d2, ds2, p2, q2, rfl, rfl, rfl, h2, hr2⟩ := trodAll_cons hr1); (obtain ⟨v3, vs3, d3, ds3, p3, q3, rfl, rfl, rfl, h3, hr3⟩ := trodAll_cons hr2); (obtain ⟨v4, vs4, d4, ds4, p4, q4, rfl, rfl, rfl, h4, hr4⟩ := trodAll_cons hr3); (obtain ⟨v5, vs5, d5, ds5, p5, q5, rfl, rfl, rfl, h5, hr5⟩ := trodAll_cons hr4); (obtain ⟨rfl, rfl, rfl⟩ := trodAll_nil hr5); (exact ⟨v0, v1, v2, v3, v4, v5, d0, d1, d2, d3, d4, d5, p0, p1, p2, p3, p4, p5, by rw [← Array.toList_inj, hargs], rfl, by simp, h0, h1, h2, h3, h4, h5⟩)
theorem trMk6 {t0 t1 t2 t3 t4 t5 : TypeId} {v0 v1 v2 v3 v4 v5 : Value} {d0 d1 d2 d3 d4 d5 : DataW H} {p0 p1 p2 p3 p4 p5 : List MemPlace} (h0 : DataW.Trod enc P w base spare held t0 v0 d0 p0) (h1 : DataW.Trod enc P w base spare held t1 v1 d1 p1) (h2 : DataW.Trod enc P w base spare held t2 v2 d2 p2) (h3 : DataW.Trod enc P w base spare held t3 v3 d3 p3) (h4 : DataW.Trod enc P w base spare held t4 v4 d4 p4) (h5 : DataW.Trod enc P w base spare held t5 v5 d5 p5) : DataW.TrodAll enc P w base spare held [t0, t1, t2, t3, t4, t5] [v0, v1, v2, v3, v4, v5] [d0, d1, d2, d3, d4, d5] (p0 ++ (p1 ++ (p2 ++ (p3 ++ (p4 ++ (p5)))))) :=
  ⟨p0, _, h0, trMk5 h1 h2 h3 h4 h5, rfl⟩
theorem trAll7 {t0 t1 t2 t3 t4 t5 t6 : TypeId} {args : Array Value} {ds : List (DataW H)} {ps : List MemPlace} (h : DataW.TrodAll enc P w base spare held [t0, t1, t2, t3, t4, t5, t6] args.toList ds ps) :
    ∃ v0 v1 v2 v3 v4 v5 v6 d0 d1 d2 d3 d4 d5 d6 p0 p1 p2 p3 p4 p5 p6, args = #[v0, v1, v2, v3, v4, v5, v6] ∧ ds = [d0, d1, d2, d3, d4, d5, d6] ∧ ps = p0 ++ (p1 ++ (p2 ++ (p3 ++ (p4 ++ (p5 ++ (p6)))))) ∧ DataW.Trod enc P w base spare held t0 v0 d0 p0 ∧ DataW.Trod enc P w base spare held t1 v1 d1 p1 ∧ DataW.Trod enc P w base spare held t2 v2 d2 p2 ∧ DataW.Trod enc P w base spare held t3 v3 d3 p3 ∧ DataW.Trod enc P w base spare held t4 v4 d4 p4 ∧ DataW.Trod enc P w base spare held t5 v5 d5 p5 ∧ DataW.Trod enc P w base spare held t6 v6 d6 p6 := by
  (obtain ⟨v0, vs0, d0, ds0, p0, q0, hargs, rfl, rfl, h0, hr0⟩ := trodAll_cons h); (obtain ⟨v1, vs1, d1, ds1, p1, q1, rfl, rfl, rfl, h1, hr1⟩ := trodAll_cons hr0); (obtain ⟨v2, vs2, d2, ds2, p2, q2, rfl, rfl, rfl, h2, hr2⟩ := trodAll_cons hr1); (obtain ⟨v3, vs3, d3, ds3, p3, q3, rfl, rfl, rfl, h3, hr3⟩ := trodAll_cons hr2); (obtain ⟨v4, vs4, d4, ds4, p4, q4, rfl, rfl, rfl, h4, hr4⟩ := trodAll_cons hr3); (obtain ⟨v5, vs5, d5, ds5, p5, q5, rfl, rfl, rfl, h5, hr5⟩ := trodAll_cons hr4); (obtain ⟨v6, vs6, d6, ds6, p6, q6, rfl, rfl, rfl, h6, hr6⟩ := trodAll_cons hr5); (obtain ⟨rfl, rfl, rfl⟩ := trodAll_nil hr6); (exact ⟨v0, v1, v2, v3, v4, v5, v6, d0, d1, d2, d3, d4, d5, d6, p0, p1, p2, p3, p4, p5, p6, by rw [← Array.toList_inj, hargs], rfl, by simp, h0, h1, h2, h3, h4, h5, h6⟩)
theorem trMk7 {t0 t1 t2 t3 t4 t5 t6 : TypeId} {v0 v1 v2 v3 v4 v5 v6 : Value} {d0 d1 d2 d3 d4 d5 d6 : DataW H} {p0 p1 p2 p3 p4 p5 p6 : List MemPlace} (h0 : DataW.Trod enc P w base spare held t0 v0 d0 p0) (h1 : DataW.Trod enc P w base spare held t1 v1 d1 p1) (h2 : DataW.Trod enc P w base spare held t2 v2 d2 p2) (h3 : DataW.Trod enc P w base spare held t3 v3 d3 p3) (h4 : DataW.Trod enc P w base spare held t4 v4 d4 p4) (h5 : DataW.Trod enc P w base spare held t5 v5 d5 p5) (h6 : DataW.Trod enc P w base spare held t6 v6 d6 p6) : DataW.TrodAll enc P w base spare held [t0, t1, t2, t3, t4, t5, t6] [v0, v1, v2, v3, v4, v5, v6] [d0, d1, d2, d3, d4, d5, d6] (p0 ++ (p1 ++ (p2 ++ (p3 ++ (p4 ++ (p5 ++ (p6))))))) :=
  ⟨p0, _, h0, trMk6 h1 h2 h3 h4 h5 h6, rfl⟩
theorem trAll8 {t0 t1 t2 t3 t4 t5 t6 t7 : TypeId} {args : Array Value} {ds : List (DataW H)} {ps : List MemPlace} (h : DataW.TrodAll enc P w base spare held [t0, t1, t2, t3, t4, t5, t6, t7] args.toList ds ps) :
    ∃ v0 v1 v2 v3 v4 v5 v6 v7 d0 d1 d2 d3 d4 d5 d6 d7 p0 p1 p2 p3 p4 p5 p6 p7, args = #[v0, v1, v2, v3, v4, v5, v6, v7] ∧ ds = [d0, d1, d2, d3, d4, d5, d6, d7] ∧ ps = p0 ++ (p1 ++ (p2 ++ (p3 ++ (p4 ++ (p5 ++ (p6 ++ (p7))))))) ∧ DataW.Trod enc P w base spare held t0 v0 d0 p0 ∧ DataW.Trod enc P w base spare held t1 v1 d1 p1 ∧ DataW.Trod enc P w base spare held t2 v2 d2 p2 ∧ DataW.Trod enc P w base spare held t3 v3 d3 p3 ∧ DataW.Trod enc P w base spare held t4 v4 d4 p4 ∧ DataW.Trod enc P w base spare held t5 v5 d5 p5 ∧ DataW.Trod enc P w base spare held t6 v6 d6 p6 ∧ DataW.Trod enc P w base spare held t7 v7 d7 p7 := by
  (obtain ⟨v0, vs0, d0, ds0, p0, q0, hargs, rfl, rfl, h0, hr0⟩ := trodAll_cons h); (obtain ⟨v1, vs1, d1, ds1, p1, q1, rfl, rfl, rfl, h1, hr1⟩ := trodAll_cons hr0); (obtain ⟨v2, vs2, d2, ds2, p2, q2, rfl, rfl, rfl, h2, hr2⟩ := trodAll_cons hr1); (obtain ⟨v3, vs3, d3, ds3, p3, q3, rfl, rfl, rfl, h3, hr3⟩ := trodAll_cons hr2); (obtain ⟨v4, vs4, d4, ds4, p4, q4, rfl, rfl, rfl, h4, hr4⟩ := trodAll_cons hr3); (obtain ⟨v5, vs5, d5, ds5, p5, q5, rfl, rfl, rfl, h5, hr5⟩ := trodAll_cons hr4); (obtain ⟨v6, vs6, d6, ds6, p6, q6, rfl, rfl, rfl, h6, hr6⟩ := trodAll_cons hr5); (obtain ⟨v7, vs7, d7, ds7, p7, q7, rfl, rfl, rfl, h7, hr7⟩ := trodAll_cons hr6); (obtain ⟨rfl, rfl, rfl⟩ := trodAll_nil hr7); (exact ⟨v0, v1, v2, v3, v4, v5, v6, v7, d0, d1, d2, d3, d4, d5, d6, d7, p0, p1, p2, p3, p4, p5, p6, p7, by rw [← Array.toList_inj, hargs], rfl, by simp, h0, h1, h2, h3, h4, h5, h6, h7⟩)
theorem trMk8 {t0 t1 t2 t3 t4 t5 t6 t7 : TypeId} {v0 v1 v2 v3 v4 v5 v6 v7 : Value} {d0 d1 d2 d3 d4 d5 d6 d7 : DataW H} {p0 p1 p2 p3 p4 p5 p6 p7 : List MemPlace} (h0 : DataW.Trod enc P w base spare held t0 v0 d0 p0) (h1 : DataW.Trod enc P w base spare held t1 v1 d1 p1) (h2 : DataW.Trod enc P w base spare held t2 v2 d2 p2) (h3 : DataW.Trod enc P w base spare held t3 v3 d3 p3) (h4 : DataW.Trod enc P w base spare held t4 v4 d4 p4) (h5 : DataW.Trod enc P w base spare held t5 v5 d5 p5) (h6 : DataW.Trod enc P w base spare held t6 v6 d6 p6) (h7 : DataW.Trod enc P w base spare held t7 v7 d7 p7) : DataW.TrodAll enc P w base spare held [t0, t1, t2, t3, t4, t5, t6, t7] [v0, v1, v2, v3, v4, v5, v6, v7] [d0, d1, d2, d3, d4, d5, d6, d7] (p0 ++ (p1 ++ (p2 ++ (p3 ++ (p4 ++ (p5 ++ (p6 ++ (p7)))))))) :=
  ⟨p0, _, h0, trMk7 h1 h2 h3 h4 h5 h6 h7, rfl⟩
theorem trAll9 {t0 t1 t2 t3 t4 t5 t6 t7 t8 : TypeId} {args : Array Value} {ds : List (DataW H)} {ps : List MemPlace} (h : DataW.TrodAll enc P w base spare held [t0, t1, t2, t3, t4, t5, t6, t7, t8] args.toList ds ps) :
    ∃ v0 v1 v2 v3 v4 v5 v6 v7 v8 d0 d1 d2 d3 d4 d5 d6 d7 d8 p0 p1 p2 p3 p4 p5 p6 p7 p8, args = #[v0, v1, v2, v3, v4, v5, v6, v7, v8] ∧ ds = [d0, d1, d2, d3, d4, d5, d6, d7, d8] ∧ ps = p0 ++ (p1 ++ (p2 ++ (p3 ++ (p4 ++ (p5 ++ (p6 ++ (p7 ++ (p8)))))))) ∧ DataW.Trod enc P w base spare held t0 v0 d0 p0 ∧ DataW.Trod enc P w base spare held t1 v1 d1 p1 ∧ DataW.Trod enc P w base spare held t2 v2 d2 p2 ∧ DataW.Trod enc P w base spare held t3 v3 d3 p3 ∧ DataW.Trod enc P w base spare held t4 v4 d4 p4 ∧ DataW.Trod enc P w base spare held t5 v5 d5 p5 ∧ DataW.Trod enc P w base spare held t6 v6 d6 p6 ∧ DataW.Trod enc P w base spare held t7 v7 d7 p7 ∧ DataW.Trod enc P w base spare held t8 v8 d8 p8 := by
  (obtain ⟨v0, vs0, d0, ds0, p0, q0, hargs, rfl, rfl, h0, hr0⟩ := trodAll_cons h); (obtain ⟨v1, vs1, d1, ds1, p1, q1, rfl, rfl, rfl, h1, hr1⟩ := trodAll_cons hr0); (obtain ⟨v2, vs2, d2, ds2, p2, q2, rfl, rfl, rfl, h2, hr2⟩ := trodAll_cons hr1); (obtain ⟨v3, vs3, d3, ds3, p3, q3, rfl, rfl, rfl, h3, hr3⟩ := trodAll_cons hr2); (obtain ⟨v4, vs4, d4, ds4, p4, q4, rfl, rfl, rfl, h4, hr4⟩ := trodAll_cons hr3); (obtain ⟨v5, vs5, d5, ds5, p5, q5, rfl, rfl, rfl, h5, hr5⟩ := trodAll_cons hr4); (obtain ⟨v6, vs6, d6, ds6, p6, q6, rfl, rfl, rfl, h6, hr6⟩ := trodAll_cons hr5); (obtain ⟨v7, vs7, d7, ds7, p7, q7, rfl, rfl, rfl, h7, hr7⟩ := trodAll_cons hr6); (obtain ⟨v8, vs8, d8, ds8, p8, q8, rfl, rfl, rfl, h8, hr8⟩ := trodAll_cons hr7); (obtain ⟨rfl, rfl, rfl⟩ := trodAll_nil hr8); (exact ⟨v0, v1, v2, v3, v4, v5, v6, v7, v8, d0, d1, d2, d3, d4, d5, d6, d7, d8, p0, p1, p2, p3, p4, p5, p6, p7, p8, by rw [← Array.toList_inj, hargs], rfl, by simp, h0, h1, h2, h3, h4, h5, h6, h7, h8⟩)
theorem trMk9 {t0 t1 t2 t3 t4 t5 t6 t7 t8 : TypeId} {v0 v1 v2 v3 v4 v5 v6 v7 v8 : Value} {d0 d1 d2 d3 d4 d5 d6 d7 d8 : DataW H} {p0 p1 p2 p3 p4 p5 p6 p7 p8 : List MemPlace} (h0 : DataW.Trod enc P w base spare held t0 v0 d0 p0) (h1 : DataW.Trod enc P w base spare held t1 v1 d1 p1) (h2 : DataW.Trod enc P w base spare held t2 v2 d2 p2) (h3 : DataW.Trod enc P w base spare held t3 v3 d3 p3) (h4 : DataW.Trod enc P w base spare held t4 v4 d4 p4) (h5 : DataW.Trod enc P w base spare held t5 v5 d5 p5) (h6 : DataW.Trod enc P w base spare held t6 v6 d6 p6) (h7 : DataW.Trod enc P w base spare held t7 v7 d7 p7) (h8 : DataW.Trod enc P w base spare held t8 v8 d8 p8) : DataW.TrodAll enc P w base spare held [t0, t1, t2, t3, t4, t5, t6, t7, t8] [v0, v1, v2, v3, v4, v5, v6, v7, v8] [d0, d1, d2, d3, d4, d5, d6, d7, d8] (p0 ++ (p1 ++ (p2 ++ (p3 ++ (p4 ++ (p5 ++ (p6 ++ (p7 ++ (p8))))))))) :=
  ⟨p0, _, h0, trMk8 h1 h2 h3 h4 h5 h6 h7 h8, rfl⟩
theorem trAll10 {t0 t1 t2 t3 t4 t5 t6 t7 t8 t9 : TypeId} {args : Array Value} {ds : List (DataW H)} {ps : List MemPlace} (h : DataW.TrodAll enc P w base spare held [t0, t1, t2, t3, t4, t5, t6, t7, t8, t9] args.toList ds ps) :
    ∃ v0 v1 v2 v3 v4 v5 v6 v7 v8 v9 d0 d1 d2 d3 d4 d5 d6 d7 d8 d9 p0 p1 p2 p3 p4 p5 p6 p7 p8 p9, args = #[v0, v1, v2, v3, v4, v5, v6, v7, v8, v9] ∧ ds = [d0, d1, d2, d3, d4, d5, d6, d7, d8, d9] ∧ ps = p0 ++ (p1 ++ (p2 ++ (p3 ++ (p4 ++ (p5 ++ (p6 ++ (p7 ++ (p8 ++ (p9))))))))) ∧ DataW.Trod enc P w base spare held t0 v0 d0 p0 ∧ DataW.Trod enc P w base spare held t1 v1 d1 p1 ∧ DataW.Trod enc P w base spare held t2 v2 d2 p2 ∧ DataW.Trod enc P w base spare held t3 v3 d3 p3 ∧ DataW.Trod enc P w base spare held t4 v4 d4 p4 ∧ DataW.Trod enc P w base spare held t5 v5 d5 p5 ∧ DataW.Trod enc P w base spare held t6 v6 d6 p6 ∧ DataW.Trod enc P w base spare held t7 v7 d7 p7 ∧ DataW.Trod enc P w base spare held t8 v8 d8 p8 ∧ DataW.Trod enc P w base spare held t9 v9 d9 p9 := by
  (obtain ⟨v0, vs0, d0, ds0, p0, q0, hargs, rfl, rfl, h0, hr0⟩ := trodAll_cons h); (obtain ⟨v1, vs1, d1, ds1, p1, q1, rfl, rfl, rfl, h1, hr1⟩ := trodAll_cons hr0); (obtain ⟨v2, vs2, d2, ds2, p2, q2, rfl, rfl, rfl, h2, hr2⟩ := trodAll_cons hr1); (obtain ⟨v3, vs3, d3, ds3, p3, q3, rfl, rfl, rfl, h3, hr3⟩ := trodAll_cons hr2); (obtain ⟨v4, vs4, d4, ds4, p4, q4, rfl, rfl, rfl, h4, hr4⟩ := trodAll_cons hr3); (obtain ⟨v5, vs5, d5, ds5, p5, q5, rfl, rfl, rfl, h5, hr5⟩ := trodAll_cons hr4); (obtain ⟨v6, vs6, d6, ds6, p6, q6, rfl, rfl, rfl, h6, hr6⟩ := trodAll_cons hr5); (obtain ⟨v7, vs7, d7, ds7, p7, q7, rfl, rfl, rfl, h7, hr7⟩ := trodAll_cons hr6); (obtain ⟨v8, vs8, d8, ds8, p8, q8, rfl, rfl, rfl, h8, hr8⟩ := trodAll_cons hr7); (obtain ⟨v9, vs9, d9, ds9, p9, q9, rfl, rfl, rfl, h9, hr9⟩ := trodAll_cons hr8); (obtain ⟨rfl, rfl, rfl⟩ := trodAll_nil hr9); (exact ⟨v0, v1, v2, v3, v4, v5, v6, v7, v8, v9, d0, d1, d2, d3, d4, d5, d6, d7, d8, d9, p0, p1, p2, p3, p4, p5, p6, p7, p8, p9, by rw [← Array.toList_inj, hargs], rfl, by simp, h0, h1, h2, h3, h4, h5, h6, h7, h8, h9⟩)
theorem trMk10 {t0 t1 t2 t3 t4 t5 t6 t7 t8 t9 : TypeId} {v0 v1 v2 v3 v4 v5 v6 v7 v8 v9 : Value} {d0 d1 d2 d3 d4 d5 d6 d7 d8 d9 : DataW H} {p0 p1 p2 p3 p4 p5 p6 p7 p8 p9 : List MemPlace} (h0 : DataW.Trod enc P w base spare held t0 v0 d0 p0) (h1 : DataW.Trod enc P w base spare held t1 v1 d1 p1) (h2 : DataW.Trod enc P w base spare held t2 v2 d2 p2) (h3 : DataW.Trod enc P w base spare held t3 v3 d3 p3) (h4 : DataW.Trod enc P w base spare held t4 v4 d4 p4) (h5 : DataW.Trod enc P w base spare held t5 v5 d5 p5) (h6 : DataW.Trod enc P w base spare held t6 v6 d6 p6) (h7 : DataW.Trod enc P w base spare held t7 v7 d7 p7) (h8 : DataW.Trod enc P w base spare held t8 v8 d8 p8) (h9 : DataW.Trod enc P w base spare held t9 v9 d9 p9) : DataW.TrodAll enc P w base spare held [t0, t1, t2, t3, t4, t5, t6, t7, t8, t9] [v0, v1, v2, v3, v4, v5, v6, v7, v8, v9] [d0, d1, d2, d3, d4, d5, d6, d7, d8, d9] (p0 ++ (p1 ++ (p2 ++ (p3 ++ (p4 ++ (p5 ++ (p6 ++ (p7 ++ (p8 ++ (p9)))))))))) :=
  ⟨p0, _, h0, trMk9 h1 h2 h3 h4 h5 h6 h7 h8 h9, rfl⟩
theorem trAll11 {t0 t1 t2 t3 t4 t5 t6 t7 t8 t9 t10 : TypeId} {args : Array Value} {ds : List (DataW H)} {ps : List MemPlace} (h : DataW.TrodAll enc P w base spare held [t0, t1, t2, t3, t4, t5, t6, t7, t8, t9, t10] args.toList ds ps) :
    ∃ v0 v1 v2 v3 v4 v5 v6 v7 v8 v9 v10 d0 d1 d2 d3 d4 d5 d6 d7 d8 d9 d10 p0 p1 p2 p3 p4 p5 p6 p7 p8 p9 p10, args = #[v0, v1, v2, v3, v4, v5, v6, v7, v8, v9, v10] ∧ ds = [d0, d1, d2, d3, d4, d5, d6, d7, d8, d9, d10] ∧ ps = p0 ++ (p1 ++ (p2 ++ (p3 ++ (p4 ++ (p5 ++ (p6 ++ (p7 ++ (p8 ++ (p9 ++ (p10)))))))))) ∧ DataW.Trod enc P w base spare held t0 v0 d0 p0 ∧ DataW.Trod enc P w base spare held t1 v1 d1 p1 ∧ DataW.Trod enc P w base spare held t2 v2 d2 p2 ∧ DataW.Trod enc P w base spare held t3 v3 d3 p3 ∧ DataW.Trod enc P w base spare held t4 v4 d4 p4 ∧ DataW.Trod enc P w base spare held t5 v5 d5 p5 ∧ DataW.Trod enc P w base spare held t6 v6 d6 p6 ∧ DataW.Trod enc P w base spare held t7 v7 d7 p7 ∧ DataW.Trod enc P w base spare held t8 v8 d8 p8 ∧ DataW.Trod enc P w base spare held t9 v9 d9 p9 ∧ DataW.Trod enc P w base spare held t10 v10 d10 p10 := by
  (obtain ⟨v0, vs0, d0, ds0, p0, q0, hargs, rfl, rfl, h0, hr0⟩ := trodAll_cons h); (obtain ⟨v1, vs1, d1, ds1, p1, q1, rfl, rfl, rfl, h1, hr1⟩ := trodAll_cons hr0); (obtain ⟨v2, vs2, d2, ds2, p2, q2, rfl, rfl, rfl, h2, hr2⟩ := trodAll_cons hr1); (obtain ⟨v3, vs3, d3, ds3, p3, q3, rfl, rfl, rfl, h3, hr3⟩ := trodAll_cons hr2); (obtain ⟨v4, vs4, d4, ds4, p4, q4, rfl, rfl, rfl, h4, hr4⟩ := trodAll_cons hr3); (obtain ⟨v5, vs5, d5, ds5, p5, q5, rfl, rfl, rfl, h5, hr5⟩ := trodAll_cons hr4); (obtain ⟨v6, vs6, d6, ds6, p6, q6, rfl, rfl, rfl, h6, hr6⟩ := trodAll_cons hr5); (obtain ⟨v7, vs7, d7, ds7, p7, q7, rfl, rfl, rfl, h7, hr7⟩ := trodAll_cons hr6); (obtain ⟨v8, vs8, d8, ds8, p8, q8, rfl, rfl, rfl, h8, hr8⟩ := trodAll_cons hr7); (obtain ⟨v9, vs9, d9, ds9, p9, q9, rfl, rfl, rfl, h9, hr9⟩ := trodAll_cons hr8); (obtain ⟨v10, vs10, d10, ds10, p10, q10, rfl, rfl, rfl, h10, hr10⟩ := trodAll_cons hr9); (obtain ⟨rfl, rfl, rfl⟩ := trodAll_nil hr10); (exact ⟨v0, v1, v2, v3, v4, v5, v6, v7, v8, v9, v10, d0, d1, d2, d3, d4, d5, d6, d7, d8, d9, d10, p0, p1, p2, p3, p4, p5, p6, p7, p8, p9, p10, by rw [← Array.toList_inj, hargs], rfl, by simp, h0, h1, h2, h3, h4, h5, h6, h7, h8, h9, h10⟩)
theorem trMk11 {t0 t1 t2 t3 t4 t5 t6 t7 t8 t9 t10 : TypeId} {v0 v1 v2 v3 v4 v5 v6 v7 v8 v9 v10 : Value} {d0 d1 d2 d3 d4 d5 d6 d7 d8 d9 d10 : DataW H} {p0 p1 p2 p3 p4 p5 p6 p7 p8 p9 p10 : List MemPlace} (h0 : DataW.Trod enc P w base spare held t0 v0 d0 p0) (h1 : DataW.Trod enc P w base spare held t1 v1 d1 p1) (h2 : DataW.Trod enc P w base spare held t2 v2 d2 p2) (h3 : DataW.Trod enc P w base spare held t3 v3 d3 p3) (h4 : DataW.Trod enc P w base spare held t4 v4 d4 p4) (h5 : DataW.Trod enc P w base spare held t5 v5 d5 p5) (h6 : DataW.Trod enc P w base spare held t6 v6 d6 p6) (h7 : DataW.Trod enc P w base spare held t7 v7 d7 p7) (h8 : DataW.Trod enc P w base spare held t8 v8 d8 p8) (h9 : DataW.Trod enc P w base spare held t9 v9 d9 p9) (h10 : DataW.Trod enc P w base spare held t10 v10 d10 p10) : DataW.TrodAll enc P w base spare held [t0, t1, t2, t3, t4, t5, t6, t7, t8, t9, t10] [v0, v1, v2, v3, v4, v5, v6, v7, v8, v9, v10] [d0, d1, d2, d3, d4, d5, d6, d7, d8, d9, d10] (p0 ++ (p1 ++ (p2 ++ (p3 ++ (p4 ++ (p5 ++ (p6 ++ (p7 ++ (p8 ++ (p9 ++ (p10))))))))))) :=
  ⟨p0, _, h0, trMk10 h1 h2 h3 h4 h5 h6 h7 h8 h9 h10, rfl⟩
theorem trAll12 {t0 t1 t2 t3 t4 t5 t6 t7 t8 t9 t10 t11 : TypeId} {args : Array Value} {ds : List (DataW H)} {ps : List MemPlace} (h : DataW.TrodAll enc P w base spare held [t0, t1, t2, t3, t4, t5, t6, t7, t8, t9, t10, t11] args.toList ds ps) :
    ∃ v0 v1 v2 v3 v4 v5 v6 v7 v8 v9 v10 v11 d0 d1 d2 d3 d4 d5 d6 d7 d8 d9 d10 d11 p0 p1 p2 p3 p4 p5 p6 p7 p8 p9 p10 p11, args = #[v0, v1, v2, v3, v4, v5, v6, v7, v8, v9, v10, v11] ∧ ds = [d0, d1, d2, d3, d4, d5, d6, d7, d8, d9, d10, d11] ∧ ps = p0 ++ (p1 ++ (p2 ++ (p3 ++ (p4 ++ (p5 ++ (p6 ++ (p7 ++ (p8 ++ (p9 ++ (p10 ++ (p11))))))))))) ∧ DataW.Trod enc P w base spare held t0 v0 d0 p0 ∧ DataW.Trod enc P w base spare held t1 v1 d1 p1 ∧ DataW.Trod enc P w base spare held t2 v2 d2 p2 ∧ DataW.Trod enc P w base spare held t3 v3 d3 p3 ∧ DataW.Trod enc P w base spare held t4 v4 d4 p4 ∧ DataW.Trod enc P w base spare held t5 v5 d5 p5 ∧ DataW.Trod enc P w base spare held t6 v6 d6 p6 ∧ DataW.Trod enc P w base spare held t7 v7 d7 p7 ∧ DataW.Trod enc P w base spare held t8 v8 d8 p8 ∧ DataW.Trod enc P w base spare held t9 v9 d9 p9 ∧ DataW.Trod enc P w base spare held t10 v10 d10 p10 ∧ DataW.Trod enc P w base spare held t11 v11 d11 p11 := by
  (obtain ⟨v0, vs0, d0, ds0, p0, q0, hargs, rfl, rfl, h0, hr0⟩ := trodAll_cons h); (obtain ⟨v1, vs1, d1, ds1, p1, q1, rfl, rfl, rfl, h1, hr1⟩ := trodAll_cons hr0); (obtain ⟨v2, vs2, d2, ds2, p2, q2, rfl, rfl, rfl, h2, hr2⟩ := trodAll_cons hr1); (obtain ⟨v3, vs3, d3, ds3, p3, q3, rfl, rfl, rfl, h3, hr3⟩ := trodAll_cons hr2); (obtain ⟨v4, vs4, d4, ds4, p4, q4, rfl, rfl, rfl, h4, hr4⟩ := trodAll_cons hr3); (obtain ⟨v5, vs5, d5, ds5, p5, q5, rfl, rfl, rfl, h5, hr5⟩ := trodAll_cons hr4); (obtain ⟨v6, vs6, d6, ds6, p6, q6, rfl, rfl, rfl, h6, hr6⟩ := trodAll_cons hr5); (obtain ⟨v7, vs7, d7, ds7, p7, q7, rfl, rfl, rfl, h7, hr7⟩ := trodAll_cons hr6); (obtain ⟨v8, vs8, d8, ds8, p8, q8, rfl, rfl, rfl, h8, hr8⟩ := trodAll_cons hr7); (obtain ⟨v9, vs9, d9, ds9, p9, q9, rfl, rfl, rfl, h9, hr9⟩ := trodAll_cons hr8); (obtain ⟨v10, vs10, d10, ds10, p10, q10, rfl, rfl, rfl, h10, hr10⟩ := trodAll_cons hr9); (obtain ⟨v11, vs11, d11, ds11, p11, q11, rfl, rfl, rfl, h11, hr11⟩ := trodAll_cons hr10); (obtain ⟨rfl, rfl, rfl⟩ := trodAll_nil hr11); (exact ⟨v0, v1, v2, v3, v4, v5, v6, v7, v8, v9, v10, v11, d0, d1, d2, d3, d4, d5, d6, d7, d8, d9, d10, d11, p0, p1, p2, p3, p4, p5, p6, p7, p8, p9, p10, p11, by rw [← Array.toList_inj, hargs], rfl, by simp, h0, h1, h2, h3, h4, h5, h6, h7, h8, h9, h10, h11⟩)
theorem trMk12 {t0 t1 t2 t3 t4 t5 t6 t7 t8 t9 t10 t11 : TypeId} {v0 v1 v2 v3 v4 v5 v6 v7 v8 v9 v10 v11 : Value} {d0 d1 d2 d3 d4 d5 d6 d7 d8 d9 d10 d11 : DataW H} {p0 p1 p2 p3 p4 p5 p6 p7 p8 p9 p10 p11 : List MemPlace} (h0 : DataW.Trod enc P w base spare held t0 v0 d0 p0) (h1 : DataW.Trod enc P w base spare held t1 v1 d1 p1) (h2 : DataW.Trod enc P w base spare held t2 v2 d2 p2) (h3 : DataW.Trod enc P w base spare held t3 v3 d3 p3) (h4 : DataW.Trod enc P w base spare held t4 v4 d4 p4) (h5 : DataW.Trod enc P w base spare held t5 v5 d5 p5) (h6 : DataW.Trod enc P w base spare held t6 v6 d6 p6) (h7 : DataW.Trod enc P w base spare held t7 v7 d7 p7) (h8 : DataW.Trod enc P w base spare held t8 v8 d8 p8) (h9 : DataW.Trod enc P w base spare held t9 v9 d9 p9) (h10 : DataW.Trod enc P w base spare held t10 v10 d10 p10) (h11 : DataW.Trod enc P w base spare held t11 v11 d11 p11) : DataW.TrodAll enc P w base spare held [t0, t1, t2, t3, t4, t5, t6, t7, t8, t9, t10, t11] [v0, v1, v2, v3, v4, v5, v6, v7, v8, v9, v10, v11] [d0, d1, d2, d3, d4, d5, d6, d7, d8, d9, d10, d11] (p0 ++ (p1 ++ (p2 ++ (p3 ++ (p4 ++ (p5 ++ (p6 ++ (p7 ++ (p8 ++ (p9 ++ (p10 ++ (p11)))))))))))) :=
  ⟨p0, _, h0, trMk11 h1 h2 h3 h4 h5 h6 h7 h8 h9 h10 h11, rfl⟩
end
end Go.Mk

/- What a row's data say of numbers, ballots, groups, flags; the rows' world (no package variables are laid). -/
namespace Go.Proofs.Ytkdmlakookgolaa
open Go.ChangeShapes Go.WideShapes Go.ChangeAt Go.RowKit Go.Mk Go.Deep Go.Pil
theorem own : ownKnob Try.prog.godebug = none := by kernel_rfl
theorem maxLen_eq : maxLen = 9223372036854775807 := rfl
noncomputable def laidWorld0 (os : Os) : World := World.holding Try.prog os ⟨#[], #[], []⟩
theorem plain_addr {w : World} {a : Addr} {v : Value} (h : w.cell? a = some v) : a = ⟨a.block, a.off, none⟩ := by
  obtain ⟨b, o, sp⟩ := a
  cases sp with
  | none => rfl
  | some s =>
    unfold World.cell? at h
    split at h
    · simp at h
    · cases h
theorem flat_len {f : Nat → List Value} {n sz : Nat} (hf : ∀ i, i < n → (f i).length = sz) : ((List.range n).flatMap f).length = n * sz := by
  induction n with
  | zero => simp
  | succ n ih => rw [List.range_succ, List.flatMap_append, List.length_append, ih fun j hj => hf j (by omega)]; simp [hf n (by omega), Nat.succ_mul]
theorem flat_get {f : Nat → List Value} {n sz : Nat} (hf : ∀ i, i < n → (f i).length = sz) (i r : Nat) (hi : i < n) (hr : r < sz) : ((List.range n).flatMap f)[i * sz + r]? = (f i)[r]? := by
  induction n with
  | zero => omega
  | succ n ih =>
    (have hl : ((List.range n).flatMap f).length = n * sz := flat_len fun j hj => hf j (by omega)); (rw [List.range_succ, List.flatMap_append])
    by_cases h : i < n
    · have : i * sz + r < n * sz := by
        (have : (i + 1) * sz ≤ n * sz := Nat.mul_le_mul_right _ h); (rw [Nat.succ_mul] at this; omega)
      (rw [List.getElem?_append_left (by rw [hl]; exact this)]); (exact ih (fun j hj => hf j (by omega)) h)
    · (obtain rfl : i = n := by omega); (rw [List.getElem?_append_right (by rw [hl]; omega), hl, Nat.add_sub_cancel_left])
      simp
theorem add_add (a : Addr) (h : a = ⟨a.block, a.off, none⟩) (i r : Nat) : (a.add i).add r = ⟨a.block, a.off + (i + r), none⟩ := by
  (obtain ⟨b, o, s⟩ := a); (obtain rfl : s = none := by simpa using h)
  have one : ∀ o i : Nat, (⟨b, o, none⟩ : Addr).add i = ⟨b, o + i, none⟩ := fun o i => by
    unfold Addr.add
    by_cases hi : i = 0
    · subst hi; simp
    · simp [hi]
  rw [one, one, Nat.add_assoc]
theorem flat_congr {α β : Type} {l : List α} {f g : α → List β} (h : ∀ x ∈ l, f x = g x) : l.flatMap f = l.flatMap g := by
  induction l with
  | nil => rfl
  | cons x l ih => rw [List.flatMap_cons, List.flatMap_cons, h x (by simp), ih fun y hy => h y (by simp [hy])]
/-- A slice whose elements have sz cells. -/
theorem rows_read {H : Type} {enc : TypeId × Value → H} {P : Program} {w : World} {base : Nat} {held : Bool} {fuel : Nat} {t e : TypeId} {sz : Nat} {v : Value} {x : DataW H × List MemPlace}
    (ht : P.underlying t = some (.slice e)) (hsz : P.cellsOf e = sz) (hpos : 0 < sz) (h : DataW.trod enc P w base (fun _ => true) held fuel t [v] = some x) :
    ∃ (n : Nat) (f : Nat → List Value), Rd w sz v n ((List.range n).flatMap f) ∧ n ≤ 9223372036854775807 ∧ ∀ i, i < n → (f i).length = sz ∧ ∃ m y, DataW.trod enc P w base (fun _ => true) held m e (f i) = some y := by
  rcases open_slice ht h with ⟨hv, _⟩ | ⟨a, len, cap, m, n, D, Pl, hv, _, hlc, hcm, hm, _, hel⟩
  · (obtain rfl : v = .slice none 0 0 := by simpa using hv); (exact ⟨0, fun _ => [], ⟨by simp, none, 0, rfl, Nat.le_refl _, Nat.zero_le _, .inl rfl⟩, by decide, fun i hi => absurd hi (by omega)⟩)
  · (obtain rfl : v = .slice (some a) len cap := by simpa using hv); (simp only [if_true] at hm); (subst hm); (rw [hsz] at hel)
    obtain ⟨f, hf⟩ : ∃ f : Nat → List Value, ∀ i, i < m → w.cells? base (a.add (i * sz)) sz = some (f i) ∧ DataW.trod enc P w base (fun _ => true) held n e (f i) = some (D i, Pl i) :=
      choose_lt (α := List Value) (p := fun i z => w.cells? base (a.add (i * sz)) sz = some z ∧ DataW.trod enc P w base (fun _ => true) held n e z = some (D i, Pl i)) hel
    (have hfl : ∀ i, i < m → (f i).length = sz := fun i hi => (World.cells?_some (hf i hi).1).2.1); (have hfc : ∀ i, i < m → ∀ r, r < sz → w.cell? ((a.add (i * sz)).add r) = (f i)[r]? := fun i hi r hr => (World.cells?_some (hf i hi).1).2.2 r hr); (rw [maxLen_eq] at hcm); (refine ⟨len, f, ⟨flat_len fun i hi => hfl i (by omega), some a, m, rfl, hlc, by rw [maxLen_eq]; exact hcm, ?_⟩, by omega, fun i hi => ⟨hfl i (by omega), n, _, (hf i (by omega)).2⟩⟩)
    by_cases h0 : m = 0
    · exact .inl h0
    · have hp : a = ⟨a.block, a.off, none⟩ := by
        (have h1 := hfc 0 (by omega) 0 hpos); (obtain ⟨u, hu⟩ : ∃ u, (f 0)[0]? = some u := ⟨_, List.getElem?_eq_getElem (by rw [hfl 0 (by omega)]; exact hpos)⟩); (rw [hu] at h1); (have := plain_addr h1)
        simpa [Addr.add] using this
      refine .inr ⟨a.block, a.off, by rw [← hp], fun j u hu => ?_⟩
      have hj : j < len * sz := by
        have := (List.getElem?_eq_some_iff.1 hu).1
        rwa [flat_len fun i hi => hfl i (by omega)] at this
      (have hq : j / sz < len := by rw [Nat.div_lt_iff_lt_mul hpos]; exact hj); (have hr : j % sz < sz := Nat.mod_lt _ hpos); (have e1 : j = j / sz * sz + j % sz := by rw [Nat.mul_comm]; exact (Nat.div_add_mod j sz).symm); (rw [e1, flat_get (fun i hi => hfl i (by omega)) _ _ hq hr] at hu); (have := hfc (j / sz) (by omega) (j % sz) hr); (rw [add_add a hp, ← e1, hu] at this); (exact this)
theorem one_of {l : List Value} (h : l.length = 1) : ∃ u, l = [u] := by
  match l, h with
  | [u], _ => exact ⟨u, rfl⟩
/-- Elements of one cell. -/
theorem cells1_read {H : Type} {enc : TypeId × Value → H} {P : Program} {w : World} {base : Nat} {held : Bool} {fuel : Nat} {t e : TypeId} {v : Value} {x : DataW H × List MemPlace}
    (ht : P.underlying t = some (.slice e)) (hsz : P.cellsOf e = 1) (h : DataW.trod enc P w base (fun _ => true) held fuel t [v] = some x) :
    ∃ (n : Nat) (f : Nat → Value), Rd w 1 v n ((List.range n).map f) ∧ n ≤ 9223372036854775807 ∧ ∀ i, i < n → ∃ m y, DataW.trod enc P w base (fun _ => true) held m e [f i] = some y := by
  (obtain ⟨n, f, hr, hn, hf⟩ := rows_read ht hsz (by decide) h); (obtain ⟨g, hg⟩ : ∃ g : Nat → Value, ∀ i, i < n → f i = [g i] := choose_lt (p := fun i z => f i = [z]) fun i hi => one_of (hf i hi).1); (refine ⟨n, g, ?_, hn, fun i hi => ?_⟩)
  · have e : (List.range n).flatMap f = (List.range n).map g := by
      rw [List.map_eq_flatMap]
      apply flat_congr
      (intro i hi); (exact hg i (by simpa using hi))
    rw [← e]; exact hr
  · (obtain ⟨m, y, hy⟩ := (hf i hi).2); (rw [hg i hi] at hy); (exact ⟨m, y, hy⟩)
theorem ints_read {H : Type} {enc : TypeId × Value → H} {w : World} {base : Nat} {held : Bool} {fuel : Nat} {v : Value} {x : DataW H × List MemPlace}
    (h : DataW.trod enc Try.prog w base (fun _ => true) held fuel 40 [v] = some x) : ∃ zs : List Int, RdZ w v zs ∧ zs.length ≤ 9223372036854775807 := by
  obtain ⟨n, f, hr, hn, hf⟩ := cells1_read Try.underlying40 (by kernel_rfl) h
  obtain ⟨g, hg⟩ : ∃ g : Nat → Int, ∀ i, i < n → f i = .int .i64 (g i) := choose_lt (p := fun i z => f i = .int .i64 z) fun i hi => by
    (obtain ⟨m, y, hy⟩ := hf i hi); (obtain ⟨z, hz, _, _⟩ := DataW.trod_int Try.underlying3 hy); (exact ⟨z, by simpa using hz⟩)
  refine ⟨(List.range n).map g, ?_, by simpa using hn⟩
  have e : (List.range n).map f = ((List.range n).map g).map Z := by
    (rw [List.map_map]); (exact List.map_congr_left fun i hi => hg i (by simpa using hi))
  (unfold RdZ); (rw [← e])
  simpa using hr
theorem flags_read {H : Type} {enc : TypeId × Value → H} {w : World} {base : Nat} {held : Bool} {fuel : Nat} {v : Value} {x : DataW H × List MemPlace}
    (h : DataW.trod enc Try.prog w base (fun _ => true) held fuel 83 [v] = some x) : ∃ zs : List Bool, RdT w v zs ∧ zs.length ≤ 9223372036854775807 := by
  obtain ⟨n, f, hr, hn, hf⟩ := cells1_read Try.underlying83 (by kernel_rfl) h
  obtain ⟨g, hg⟩ : ∃ g : Nat → Bool, ∀ i, i < n → f i = .bool (g i) := choose_lt (p := fun i z => f i = .bool z) fun i hi => by
    (obtain ⟨m, y, hy⟩ := hf i hi); (obtain ⟨b, hb, _⟩ := DataW.trod_bool Try.underlying4 hy); (exact ⟨b, by simpa using hb⟩)
  refine ⟨(List.range n).map g, ?_, by simpa using hn⟩
  have e : (List.range n).map f = ((List.range n).map g).map Value.bool := by
    (rw [List.map_map]); (exact List.map_congr_left fun i hi => hg i (by simpa using hi))
  (unfold RdT); (rw [← e])
  simpa using hr
theorem ballots_read {H : Type} {enc : TypeId × Value → H} {w : World} {base : Nat} {held : Bool} {fuel : Nat} {v : Value} {x : DataW H × List MemPlace}
    (h : DataW.trod enc Try.prog w base (fun _ => true) held fuel 26 [v] = some x) : ∃ bs : List (List Int × Value), RdB w v bs ∧ bs.length ≤ 9223372036854775807 := by
  obtain ⟨n, f, hr, hn, hf⟩ := cells1_read Try.underlying26 (by kernel_rfl) h
  obtain ⟨g, hg⟩ : ∃ g : Nat → List Int, ∀ i, i < n → RdZ w (f i) (g i) := choose_lt (α := List Int) (p := fun i z => RdZ w (f i) z) fun i hi => by
    (obtain ⟨m, y, hy⟩ := hf i hi); (obtain ⟨zs, hz, _⟩ := ints_read hy); (exact ⟨zs, hz⟩)
  refine ⟨(List.range n).map fun i => (g i, f i), ⟨fun y hy => ?_, ?_⟩, by simpa using hn⟩
  · (obtain ⟨i, hi, rfl⟩ := List.mem_map.1 hy); (exact hg i (by simpa using hi))
  · rw [List.map_map, show ((·.2) ∘ fun i => (g i, f i)) = f from rfl]
    simpa using hr
theorem groups_read {H : Type} {enc : TypeId × Value → H} {w : World} {base : Nat} {held : Bool} {fuel : Nat} {v : Value} {x : DataW H × List MemPlace}
    (h : DataW.trod enc Try.prog w base (fun _ => true) held fuel 22 [v] = some x) : ∃ ps : List (Grp × Value), RdG w v ps ∧ ps.length ≤ 9223372036854775807 := by
  obtain ⟨n, f, hr, hn, hf⟩ := rows_read Try.underlying22 (sz := 2) (by kernel_rfl) (by decide) h
  obtain ⟨g, hg⟩ : ∃ g : Nat → Grp × Value, ∀ i, i < n → f i = grpC (g i) ∧ RdZ w (g i).2 (g i).1.p := choose_lt (α := Grp × Value) (p := fun i z => f i = grpC z ∧ RdZ w z.2 z.1.p) fun i hi => by
    (obtain ⟨hl, m, y, hy⟩ := hf i hi); (obtain ⟨y0, y1, q, _, _, h0, h1⟩ := trod_struct2 Try.underlying74 hy); (have hc3 : Try.prog.cellsOf 3 = 1 := by kernel_rfl); (have hc4 : Try.prog.cellsOf 40 = 1 := by kernel_rfl); (simp only [hc3, hc4] at h0 h1)
    match hfi : f i, hl with
    | [u0, u1], _ =>
      (rw [hfi] at h0 h1); (obtain ⟨z1, hz1, _, _⟩ := DataW.trod_int Try.underlying3 (show DataW.trod enc Try.prog w base (fun _ => true) held _ 3 [u1] = _ from h1)); (obtain ⟨zs, hz, _⟩ := ints_read (show DataW.trod enc Try.prog w base (fun _ => true) held _ 40 [u0] = _ from h0)); (have a1 : u1 = .int .i64 z1 := by simpa using hz1); (exact ⟨(⟨zs, z1⟩, u0), by rw [a1]; rfl, hz⟩)
  refine ⟨(List.range n).map g, ⟨fun y hy => ?_, ?_⟩, by simpa using hn⟩
  · (obtain ⟨i, hi, rfl⟩ := List.mem_map.1 hy); (exact (hg i (by simpa using hi)).2)
  · have e : (List.range n).flatMap f = flatG ((List.range n).map g) := by
      (unfold flatG); (rw [List.flatMap_map])
      apply flat_congr
      (intro i hi); (exact (hg i (by simpa using hi)).1)
    rw [← e]
    simpa using hr
set_option maxRecDepth 100000 in
theorem int_read {H : Type} {enc : TypeId × Value → H} {w : World} {base base' : Nat} {sp : Nat → Bool} {held : Bool} {r : Reach} {v : Value} {d : DataW H} {p : List MemPlace}
    (hv : Value.okWide Try.prog w r base' 3 v) (h : DataW.Trod enc Try.prog w base sp held 3 v d p) : ∃ n : Int, v = .int .i64 n ∧ -9223372036854775808 ≤ n ∧ n ≤ 9223372036854775807 := by
  (obtain ⟨n, rfl, _, _, hw⟩ := open_int Try.underlying3 hv h); (refine ⟨n, rfl, ?_⟩)
  simpa [Lit.wf, IntKind.min, IntKind.max, IntKind.bits, IntKind.signed] using hw
set_option maxRecDepth 100000 in
theorem flag_read {H : Type} {enc : TypeId × Value → H} {w : World} {base base' : Nat} {sp : Nat → Bool} {held : Bool} {r : Reach} {v : Value} {d : DataW H} {p : List MemPlace}
    (hv : Value.okWide Try.prog w r base' 4 v) (h : DataW.Trod enc Try.prog w base sp held 4 v d p) : ∃ b : Bool, v = .bool b := by
  (obtain ⟨b, rfl, _⟩ := open_bool Try.underlying4 hv h); (exact ⟨b, rfl⟩)
end Go.Proofs.Ytkdmlakookgolaa
