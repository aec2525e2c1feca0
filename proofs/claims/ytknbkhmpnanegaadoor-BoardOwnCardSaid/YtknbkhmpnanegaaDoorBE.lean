/- electionref23.Eq over equal lists of entries (printed by gen_be.py). -/
import Derived.Test.YtknbkhmpnanegaaDoorB9
import Derived.Test.YtknbkhmpnanegaaDoorEq
namespace Go.Proofs.YtknbkhmpnanegaaDoor
open Go.RowKit Go.Mk Go.Sha Go.Brd
theorem prev_rngE {w : World} {b o : Nat} {e : Ent} {vb : Value} (h : w.rangeAt b o (entC e vb)) : w.rangeAt b (o + 3) (e.prev.map B) := fun j u hu => by
  have : (entC e vb)[3 + j]? = some u := by rw [← hu]; simp [entC, Nat.add_comm 3 j]
  have := h (3 + j) u this
  rwa [← Nat.add_assoc] at this
set_option maxRecDepth 100000 in
set_option maxHeartbeats 8000000 in
theorem refeq_any (va vb : Value) (ps qs : List (Ent × Value)) (w : World) (hn : ps.length ≤ 100) (ha : RdE w va ps) (hb : RdE w vb qs) (hpq : ents ps = ents qs) :
    Calls Tryd.prog 28 #[va, vb] w fun ed w' => ed = .returned (.bool true) ∧ Kept no w w' := by
  have hlq : qs.length = ps.length := by have := congrArg List.length hpq; rw [ents_length, ents_length] at this; exact this.symm
  obtain ⟨ao, ca, rfl, hca⟩ := ha.shape
  obtain ⟨bo, cb, rfl, hcb⟩ := hb.shape
  obtain ⟨n, hn'⟩ : ∃ n, ps.length = n := ⟨_, rfl⟩
  rw [hlq] at hb hcb ⊢
  rw [hn'] at ha hca hn hlq hb hcb ⊢
  replace ha := hid ha
  replace hb := hid hb
  replace hn' := hid hn'
  replace hlq := hid hlq
  replace hpq := hid hpq
  have hgd := guard_digest
  have hnn : ((n : Int) != (n : Int)) = false := by simp
  go_enter Tryd.func28, Tryd.ntmps28
  go_wp2_with fail
  go_loopw [5, 13] (fun _ i wr => ∃ k : Nat, k ≤ n ∧ i = .int .i64 (k : Int) ∧ Hd (Kept no w wr)) (fun _ i _ => n - (intOf i).toNat)
  case atStart => exact ⟨0, by omega, rfl, ⟨Kept.refl _ _⟩⟩
  case round =>
    obtain ⟨k, hk, rfl, hK⟩ := hrel
    by_cases hlt : k < n
    · obtain ⟨b1, o1, rfl, r1⟩ := (ha.out.kept hK.out).at k (by rw [hn'.out]; exact hlt)
      obtain ⟨b2, o2, rfl, r2⟩ := (hb.out.kept hK.out).at k (by rw [hlq.out]; exact hlt)
      obtain ⟨e, v1, h1⟩ : ∃ e v, ps[k]'(by rw [hn'.out]; exact hlt) = (e, v) := ⟨_, _, rfl⟩
      obtain ⟨e2, v2, h2⟩ : ∃ e v, qs[k]'(by rw [hlq.out]; exact hlt) = (e, v) := ⟨_, _, rfl⟩
      have hee : e2 = e := by
        have h := congrArg (fun l : List Ent => l[k]?) hpq.out
        simpa [ents, hn'.out, hlq.out, hlt, h1, h2] using h.symm
      subst hee
      rw [h1] at r1
      rw [h2] at r2
      have ok1 : Hd (OkE w e2 v1) := ⟨by have := ha.out.1 (e2, v1) (by rw [← h1]; exact List.getElem_mem _); exact this⟩
      have ok2 : Hd (OkE w e2 v2) := ⟨by have := hb.out.1 (e2, v2) (by rw [← h2]; exact List.getElem_mem _); exact this⟩
      have HE := hid (fun W (kw : Kept no w W) => eq_any v1 v2 e2.body e2.body W (by have := ok1.out.2.1; omega) (by have := ok1.out.2.1; omega) (ok1.out.2.2.keptNo kw) (ok2.out.2.2.keptNo kw))
      have hk1 : (k : Int) < (n : Int) := by omega
      have hk0 : (0 : Int) ≤ (k : Int) := by omega
      have hnum : (e2.number != e2.number) = false := by simp
      have hkin : (e2.kind != e2.kind) = false := by simp
      have hne := neqDg e2.prev e2.prev ok1.out.1 ok1.out.1 false (by simp)
      have a0 : Hd (wr.cell? ⟨b1, o1 + k * 35, none⟩ = some (.int .i64 e2.number)) := ⟨r1 0 _ rfl⟩
      have a1 : Hd (wr.cell? ⟨b1, o1 + k * 35 + 1, none⟩ = some (.int .i64 e2.kind)) := ⟨r1 1 _ rfl⟩
      have a2 : Hd (wr.cell? ⟨b1, o1 + k * 35 + 2, none⟩ = some v1) := ⟨r1 2 _ rfl⟩
      have a3 := hid (prev_rngE r1)
      have b0 : Hd (wr.cell? ⟨b2, o2 + k * 35, none⟩ = some (.int .i64 e2.number)) := ⟨r2 0 _ rfl⟩
      have b1' : Hd (wr.cell? ⟨b2, o2 + k * 35 + 1, none⟩ = some (.int .i64 e2.kind)) := ⟨r2 1 _ rfl⟩
      have b2' : Hd (wr.cell? ⟨b2, o2 + k * 35 + 2, none⟩ = some v2) := ⟨r2 2 _ rfl⟩
      have b3 := hid (prev_rngE r2)
      have hpl := hid ok1.out.1
      clear h1 h2 r1 r2 ok1 ok2
      go_upto_region 6 with fail
      refine region_flow (S := no) (Sl := (fun _ => no)) [Is (.slice (some ⟨b1, o1, none⟩) n ca), Is (.int .i64 (k : Int)), Is (.pointer (some ⟨b1, o1 + k * 35, none⟩)), Is (.pointer (some ⟨b1, o1 + k * 35, none⟩)), Is (.int .i64 e2.number), Is (.slice (some ⟨b2, o2, none⟩) n cb), Is (.int .i64 (k : Int)), Is (.pointer (some ⟨b2, o2 + k * 35, none⟩)), Is (.pointer (some ⟨b2, o2 + k * 35, none⟩)), Is (.int .i64 e2.number), Is (.bool false), Is (.bool false), Is (.slice (some ⟨b1, o1, none⟩) n ca), Is (.int .i64 (k : Int)), Is (.pointer (some ⟨b1, o1 + k * 35, none⟩)), Is (.pointer (some ⟨b1, o1 + k * 35 + 1, none⟩)), Is (.int .i64 e2.kind), Is (.slice (some ⟨b2, o2, none⟩) n cb), Is (.int .i64 (k : Int)), Is (.pointer (some ⟨b2, o2 + k * 35, none⟩)), Is (.pointer (some ⟨b2, o2 + k * 35 + 1, none⟩)), Is (.int .i64 e2.kind), Is (.bool false), Is (.bool false), Is (.bool false), Is (.slice (some ⟨b1, o1, none⟩) n ca), Is (.int .i64 (k : Int)), Is (.pointer (some ⟨b1, o1 + k * 35, none⟩)), Is (.pointer (some ⟨b1, o1 + k * 35 + 3, none⟩)), Is (Dg e2.prev), Is (.slice (some ⟨b2, o2, none⟩) n cb), Is (.int .i64 (k : Int)), Is (.pointer (some ⟨b2, o2 + k * 35, none⟩)), Is (.pointer (some ⟨b2, o2 + k * 35 + 3, none⟩)), Is (Dg e2.prev), Is (.bool false), Is (.bool false), Is (.bool false), Is (.slice (some ⟨b1, o1, none⟩) n ca), Is (.int .i64 (k : Int)), Is (.pointer (some ⟨b1, o1 + k * 35, none⟩)), Is (.pointer (some ⟨b1, o1 + k * 35 + 2, none⟩)), Is (v1), Is (.slice (some ⟨b2, o2, none⟩) n cb), Is (.int .i64 (k : Int)), Is (.pointer (some ⟨b2, o2 + k * 35, none⟩)), Is (.pointer (some ⟨b2, o2 + k * 35 + 2, none⟩)), Is (v2), Is (.bool true), Is (.bool false), Is (.bool false)] [] (fun _ _ h => h) _ (by kernel_rfl) (by kernel_rfl) (by kernel_rfl) (by kernel_rfl) (fun x => by simp only [puts, Act.put, List.map_cons, List.map_nil, Nat.zero_add, Nat.reduceAdd, List.setIfInBounds_toArray, List.set_cons_zero, List.set_cons_succ]; exact rfl) ?_ ?_
      · skip
        refine Steps.cons (fun x wf Kk hq hdep hold => ?_) ?_
        · try dsimp only
          clear hq hdep hold
          rw [if_pos (by rfl)]
          refine OpY.val (v := (.slice (some ⟨b1, o1, none⟩) n ca)) ?_ ⟨Kept.refl _ _, rfl⟩
          first | rfl | go_simp
        refine Steps.cons (fun x wf Kk hq hdep hold => ?_) ?_
        · try dsimp only
          clear hq hdep hold
          rw [if_pos (by rfl)]
          refine OpY.val (v := (.int .i64 (k : Int))) ?_ ⟨Kept.refl _ _, rfl⟩
          first | rfl | go_simp
        refine Steps.cons (fun x wf Kk hq hdep hold => ?_) ?_
        · try dsimp only
          have h0 : x 0 = (.slice (some ⟨b1, o1, none⟩) n ca) := hdep 0 (by kernel_rfl)
          have h1 : x 1 = (.int .i64 (k : Int)) := hdep 1 (by kernel_rfl)
          clear hq hdep hold
          simp only [h0, h1]
          clear h0 h1
          rw [if_pos (by rfl)]
          refine OpY.val (v := (.pointer (some ⟨b1, o1 + k * 35, none⟩))) ?_ ⟨Kept.refl _ _, rfl⟩
          first | rfl | go_simp
        refine Steps.cons (fun x wf Kk hq hdep hold => ?_) ?_
        · try dsimp only
          have h2 : x 2 = (.pointer (some ⟨b1, o1 + k * 35, none⟩)) := hdep 2 (by kernel_rfl)
          clear hq hdep hold
          simp only [h2]
          clear h2
          rw [if_pos (by rfl)]
          refine OpY.val (v := (.pointer (some ⟨b1, o1 + k * 35, none⟩))) ?_ ⟨Kept.refl _ _, rfl⟩
          first | rfl | go_simp
        refine Steps.cons (fun x wf Kk hq hdep hold => ?_) ?_
        · try dsimp only
          have h3 : x 3 = (.pointer (some ⟨b1, o1 + k * 35, none⟩)) := hdep 3 (by kernel_rfl)
          clear hq hdep hold
          simp only [h3]
          clear h3
          have cv := Kk.undrew.cell a0.out id
          rw [if_pos (by rfl)]
          refine OpY.val (v := (.int .i64 e2.number)) ?_ ⟨Kept.refl _ _, rfl⟩
          first | rfl | go_simp
        refine Steps.cons (fun x wf Kk hq hdep hold => ?_) ?_
        · try dsimp only
          clear hq hdep hold
          rw [if_pos (by rfl)]
          refine OpY.val (v := (.slice (some ⟨b2, o2, none⟩) n cb)) ?_ ⟨Kept.refl _ _, rfl⟩
          first | rfl | go_simp
        refine Steps.cons (fun x wf Kk hq hdep hold => ?_) ?_
        · try dsimp only
          clear hq hdep hold
          rw [if_pos (by rfl)]
          refine OpY.val (v := (.int .i64 (k : Int))) ?_ ⟨Kept.refl _ _, rfl⟩
          first | rfl | go_simp
        refine Steps.cons (fun x wf Kk hq hdep hold => ?_) ?_
        · try dsimp only
          have h5 : x 5 = (.slice (some ⟨b2, o2, none⟩) n cb) := hdep 5 (by kernel_rfl)
          have h6 : x 6 = (.int .i64 (k : Int)) := hdep 6 (by kernel_rfl)
          clear hq hdep hold
          simp only [h5, h6]
          clear h5 h6
          rw [if_pos (by rfl)]
          refine OpY.val (v := (.pointer (some ⟨b2, o2 + k * 35, none⟩))) ?_ ⟨Kept.refl _ _, rfl⟩
          first | rfl | go_simp
        refine Steps.cons (fun x wf Kk hq hdep hold => ?_) ?_
        · try dsimp only
          have h7 : x 7 = (.pointer (some ⟨b2, o2 + k * 35, none⟩)) := hdep 7 (by kernel_rfl)
          clear hq hdep hold
          simp only [h7]
          clear h7
          rw [if_pos (by rfl)]
          refine OpY.val (v := (.pointer (some ⟨b2, o2 + k * 35, none⟩))) ?_ ⟨Kept.refl _ _, rfl⟩
          first | rfl | go_simp
        refine Steps.cons (fun x wf Kk hq hdep hold => ?_) ?_
        · try dsimp only
          have h8 : x 8 = (.pointer (some ⟨b2, o2 + k * 35, none⟩)) := hdep 8 (by kernel_rfl)
          clear hq hdep hold
          simp only [h8]
          clear h8
          have cv := Kk.undrew.cell b0.out id
          rw [if_pos (by rfl)]
          refine OpY.val (v := (.int .i64 e2.number)) ?_ ⟨Kept.refl _ _, rfl⟩
          first | rfl | go_simp
        refine Steps.cons (fun x wf Kk hq hdep hold => ?_) ?_
        · try dsimp only
          have h4 : x 4 = (.int .i64 e2.number) := hdep 4 (by kernel_rfl)
          have h9 : x 9 = (.int .i64 e2.number) := hdep 9 (by kernel_rfl)
          clear hq hdep hold
          simp only [h4, h9]
          clear h4 h9
          rw [if_pos (by rfl)]
          refine OpY.val (v := (.bool false)) ?_ ⟨Kept.refl _ _, rfl⟩
          first | rfl | go_simp
        refine Steps.cons (fun x wf Kk hq hdep hold => ?_) ?_
        · try dsimp only
          have h10 : x 10 = (.bool false) := hdep 10 (by kernel_rfl)
          clear hq hdep hold
          simp only [h10]
          clear h10
          rw [if_pos (by rfl)]
          refine OpY.val (v := (.bool false)) ?_ ⟨Kept.refl _ _, rfl⟩
          first | rfl | go_simp
        refine Steps.cons (fun x wf Kk hq hdep hold => ?_) ?_
        · try dsimp only
          have h11 : x 11 = (.bool false) := hdep 11 (by kernel_rfl)
          clear hq hdep hold
          simp only [h11]
          clear h11
          rw [if_pos (by rfl)]
          refine OpY.val (v := (.slice (some ⟨b1, o1, none⟩) n ca)) ?_ ⟨Kept.refl _ _, rfl⟩
          first | rfl | go_simp
        refine Steps.cons (fun x wf Kk hq hdep hold => ?_) ?_
        · try dsimp only
          have h11 : x 11 = (.bool false) := hdep 11 (by kernel_rfl)
          clear hq hdep hold
          simp only [h11]
          clear h11
          rw [if_pos (by rfl)]
          refine OpY.val (v := (.int .i64 (k : Int))) ?_ ⟨Kept.refl _ _, rfl⟩
          first | rfl | go_simp
        refine Steps.cons (fun x wf Kk hq hdep hold => ?_) ?_
        · try dsimp only
          have h12 : x 12 = (.slice (some ⟨b1, o1, none⟩) n ca) := hdep 12 (by kernel_rfl)
          have h13 : x 13 = (.int .i64 (k : Int)) := hdep 13 (by kernel_rfl)
          have h11 : x 11 = (.bool false) := hdep 11 (by kernel_rfl)
          clear hq hdep hold
          simp only [h12, h13, h11]
          clear h12 h13 h11
          rw [if_pos (by rfl)]
          refine OpY.val (v := (.pointer (some ⟨b1, o1 + k * 35, none⟩))) ?_ ⟨Kept.refl _ _, rfl⟩
          first | rfl | go_simp
        refine Steps.cons (fun x wf Kk hq hdep hold => ?_) ?_
        · try dsimp only
          have h14 : x 14 = (.pointer (some ⟨b1, o1 + k * 35, none⟩)) := hdep 14 (by kernel_rfl)
          have h11 : x 11 = (.bool false) := hdep 11 (by kernel_rfl)
          clear hq hdep hold
          simp only [h14, h11]
          clear h14 h11
          rw [if_pos (by rfl)]
          refine OpY.val (v := (.pointer (some ⟨b1, o1 + k * 35 + 1, none⟩))) ?_ ⟨Kept.refl _ _, rfl⟩
          first | rfl | go_simp
        refine Steps.cons (fun x wf Kk hq hdep hold => ?_) ?_
        · try dsimp only
          have h15 : x 15 = (.pointer (some ⟨b1, o1 + k * 35 + 1, none⟩)) := hdep 15 (by kernel_rfl)
          have h11 : x 11 = (.bool false) := hdep 11 (by kernel_rfl)
          clear hq hdep hold
          simp only [h15, h11]
          clear h15 h11
          have cv := Kk.undrew.cell a1.out id
          rw [if_pos (by rfl)]
          refine OpY.val (v := (.int .i64 e2.kind)) ?_ ⟨Kept.refl _ _, rfl⟩
          first | rfl | go_simp
        refine Steps.cons (fun x wf Kk hq hdep hold => ?_) ?_
        · try dsimp only
          have h11 : x 11 = (.bool false) := hdep 11 (by kernel_rfl)
          clear hq hdep hold
          simp only [h11]
          clear h11
          rw [if_pos (by rfl)]
          refine OpY.val (v := (.slice (some ⟨b2, o2, none⟩) n cb)) ?_ ⟨Kept.refl _ _, rfl⟩
          first | rfl | go_simp
        refine Steps.cons (fun x wf Kk hq hdep hold => ?_) ?_
        · try dsimp only
          have h11 : x 11 = (.bool false) := hdep 11 (by kernel_rfl)
          clear hq hdep hold
          simp only [h11]
          clear h11
          rw [if_pos (by rfl)]
          refine OpY.val (v := (.int .i64 (k : Int))) ?_ ⟨Kept.refl _ _, rfl⟩
          first | rfl | go_simp
        refine Steps.cons (fun x wf Kk hq hdep hold => ?_) ?_
        · try dsimp only
          have h17 : x 17 = (.slice (some ⟨b2, o2, none⟩) n cb) := hdep 17 (by kernel_rfl)
          have h18 : x 18 = (.int .i64 (k : Int)) := hdep 18 (by kernel_rfl)
          have h11 : x 11 = (.bool false) := hdep 11 (by kernel_rfl)
          clear hq hdep hold
          simp only [h17, h18, h11]
          clear h17 h18 h11
          rw [if_pos (by rfl)]
          refine OpY.val (v := (.pointer (some ⟨b2, o2 + k * 35, none⟩))) ?_ ⟨Kept.refl _ _, rfl⟩
          first | rfl | go_simp
        refine Steps.cons (fun x wf Kk hq hdep hold => ?_) ?_
        · try dsimp only
          have h19 : x 19 = (.pointer (some ⟨b2, o2 + k * 35, none⟩)) := hdep 19 (by kernel_rfl)
          have h11 : x 11 = (.bool false) := hdep 11 (by kernel_rfl)
          clear hq hdep hold
          simp only [h19, h11]
          clear h19 h11
          rw [if_pos (by rfl)]
          refine OpY.val (v := (.pointer (some ⟨b2, o2 + k * 35 + 1, none⟩))) ?_ ⟨Kept.refl _ _, rfl⟩
          first | rfl | go_simp
        refine Steps.cons (fun x wf Kk hq hdep hold => ?_) ?_
        · try dsimp only
          have h20 : x 20 = (.pointer (some ⟨b2, o2 + k * 35 + 1, none⟩)) := hdep 20 (by kernel_rfl)
          have h11 : x 11 = (.bool false) := hdep 11 (by kernel_rfl)
          clear hq hdep hold
          simp only [h20, h11]
          clear h20 h11
          have cv := Kk.undrew.cell b1'.out id
          rw [if_pos (by rfl)]
          refine OpY.val (v := (.int .i64 e2.kind)) ?_ ⟨Kept.refl _ _, rfl⟩
          first | rfl | go_simp
        refine Steps.cons (fun x wf Kk hq hdep hold => ?_) ?_
        · try dsimp only
          have h16 : x 16 = (.int .i64 e2.kind) := hdep 16 (by kernel_rfl)
          have h21 : x 21 = (.int .i64 e2.kind) := hdep 21 (by kernel_rfl)
          have h11 : x 11 = (.bool false) := hdep 11 (by kernel_rfl)
          clear hq hdep hold
          simp only [h16, h21, h11]
          clear h16 h21 h11
          rw [if_pos (by rfl)]
          refine OpY.val (v := (.bool false)) ?_ ⟨Kept.refl _ _, rfl⟩
          first | rfl | go_simp
        refine Steps.cons (fun x wf Kk hq hdep hold => ?_) ?_
        · try dsimp only
          have h11 : x 11 = (.bool false) := hdep 11 (by kernel_rfl)
          have h22 : x 22 = (.bool false) := hdep 22 (by kernel_rfl)
          clear hq hdep hold
          simp only [h11, h22]
          clear h11 h22
          rw [if_pos (by rfl)]
          refine OpY.val (v := (.bool false)) ?_ ⟨Kept.refl _ _, rfl⟩
          first | rfl | go_simp
        refine Steps.cons (fun x wf Kk hq hdep hold => ?_) ?_
        · try dsimp only
          have h23 : x 23 = (.bool false) := hdep 23 (by kernel_rfl)
          clear hq hdep hold
          simp only [h23]
          clear h23
          rw [if_pos (by rfl)]
          refine OpY.val (v := (.bool false)) ?_ ⟨Kept.refl _ _, rfl⟩
          first | rfl | go_simp
        refine Steps.cons (fun x wf Kk hq hdep hold => ?_) ?_
        · try dsimp only
          have h24 : x 24 = (.bool false) := hdep 24 (by kernel_rfl)
          clear hq hdep hold
          simp only [h24]
          clear h24
          rw [if_pos (by rfl)]
          refine OpY.val (v := (.slice (some ⟨b1, o1, none⟩) n ca)) ?_ ⟨Kept.refl _ _, rfl⟩
          first | rfl | go_simp
        refine Steps.cons (fun x wf Kk hq hdep hold => ?_) ?_
        · try dsimp only
          have h24 : x 24 = (.bool false) := hdep 24 (by kernel_rfl)
          clear hq hdep hold
          simp only [h24]
          clear h24
          rw [if_pos (by rfl)]
          refine OpY.val (v := (.int .i64 (k : Int))) ?_ ⟨Kept.refl _ _, rfl⟩
          first | rfl | go_simp
        refine Steps.cons (fun x wf Kk hq hdep hold => ?_) ?_
        · try dsimp only
          have h25 : x 25 = (.slice (some ⟨b1, o1, none⟩) n ca) := hdep 25 (by kernel_rfl)
          have h26 : x 26 = (.int .i64 (k : Int)) := hdep 26 (by kernel_rfl)
          have h24 : x 24 = (.bool false) := hdep 24 (by kernel_rfl)
          clear hq hdep hold
          simp only [h25, h26, h24]
          clear h25 h26 h24
          rw [if_pos (by rfl)]
          refine OpY.val (v := (.pointer (some ⟨b1, o1 + k * 35, none⟩))) ?_ ⟨Kept.refl _ _, rfl⟩
          first | rfl | go_simp
        refine Steps.cons (fun x wf Kk hq hdep hold => ?_) ?_
        · try dsimp only
          have h27 : x 27 = (.pointer (some ⟨b1, o1 + k * 35, none⟩)) := hdep 27 (by kernel_rfl)
          have h24 : x 24 = (.bool false) := hdep 24 (by kernel_rfl)
          clear hq hdep hold
          simp only [h27, h24]
          clear h27 h24
          rw [if_pos (by rfl)]
          refine OpY.val (v := (.pointer (some ⟨b1, o1 + k * 35 + 3, none⟩))) ?_ ⟨Kept.refl _ _, rfl⟩
          first | rfl | go_simp
        refine Steps.cons (fun x wf Kk hq hdep hold => ?_) ?_
        · try dsimp only
          have h28 : x 28 = (.pointer (some ⟨b1, o1 + k * 35 + 3, none⟩)) := hdep 28 (by kernel_rfl)
          have h24 : x 24 = (.bool false) := hdep 24 (by kernel_rfl)
          clear hq hdep hold
          simp only [h28, h24]
          clear h28 h24
          rw [if_pos (by rfl)]
          exact OpY.row 26 (.tmp 44) rfl b1 (o1 + k * 35 + 3) rfl (e2.prev.map B) _ (Kk.undrew.rng a3.out) Tryd.underlying26 rfl (infDl hpl.out) ⟨Kept.refl _ _, rfl⟩
        refine Steps.cons (fun x wf Kk hq hdep hold => ?_) ?_
        · try dsimp only
          have h24 : x 24 = (.bool false) := hdep 24 (by kernel_rfl)
          clear hq hdep hold
          simp only [h24]
          clear h24
          rw [if_pos (by rfl)]
          refine OpY.val (v := (.slice (some ⟨b2, o2, none⟩) n cb)) ?_ ⟨Kept.refl _ _, rfl⟩
          first | rfl | go_simp
        refine Steps.cons (fun x wf Kk hq hdep hold => ?_) ?_
        · try dsimp only
          have h24 : x 24 = (.bool false) := hdep 24 (by kernel_rfl)
          clear hq hdep hold
          simp only [h24]
          clear h24
          rw [if_pos (by rfl)]
          refine OpY.val (v := (.int .i64 (k : Int))) ?_ ⟨Kept.refl _ _, rfl⟩
          first | rfl | go_simp
        refine Steps.cons (fun x wf Kk hq hdep hold => ?_) ?_
        · try dsimp only
          have h30 : x 30 = (.slice (some ⟨b2, o2, none⟩) n cb) := hdep 30 (by kernel_rfl)
          have h31 : x 31 = (.int .i64 (k : Int)) := hdep 31 (by kernel_rfl)
          have h24 : x 24 = (.bool false) := hdep 24 (by kernel_rfl)
          clear hq hdep hold
          simp only [h30, h31, h24]
          clear h30 h31 h24
          rw [if_pos (by rfl)]
          refine OpY.val (v := (.pointer (some ⟨b2, o2 + k * 35, none⟩))) ?_ ⟨Kept.refl _ _, rfl⟩
          first | rfl | go_simp
        refine Steps.cons (fun x wf Kk hq hdep hold => ?_) ?_
        · try dsimp only
          have h32 : x 32 = (.pointer (some ⟨b2, o2 + k * 35, none⟩)) := hdep 32 (by kernel_rfl)
          have h24 : x 24 = (.bool false) := hdep 24 (by kernel_rfl)
          clear hq hdep hold
          simp only [h32, h24]
          clear h32 h24
          rw [if_pos (by rfl)]
          refine OpY.val (v := (.pointer (some ⟨b2, o2 + k * 35 + 3, none⟩))) ?_ ⟨Kept.refl _ _, rfl⟩
          first | rfl | go_simp
        refine Steps.cons (fun x wf Kk hq hdep hold => ?_) ?_
        · try dsimp only
          have h33 : x 33 = (.pointer (some ⟨b2, o2 + k * 35 + 3, none⟩)) := hdep 33 (by kernel_rfl)
          have h24 : x 24 = (.bool false) := hdep 24 (by kernel_rfl)
          clear hq hdep hold
          simp only [h33, h24]
          clear h33 h24
          rw [if_pos (by rfl)]
          exact OpY.row 26 (.tmp 49) rfl b2 (o2 + k * 35 + 3) rfl (e2.prev.map B) _ (Kk.undrew.rng b3.out) Tryd.underlying26 rfl (infDl hpl.out) ⟨Kept.refl _ _, rfl⟩
        refine Steps.cons (fun x wf Kk hq hdep hold => ?_) ?_
        · try dsimp only
          have h29 : x 29 = (Dg e2.prev) := hdep 29 (by kernel_rfl)
          have h34 : x 34 = (Dg e2.prev) := hdep 34 (by kernel_rfl)
          have h24 : x 24 = (.bool false) := hdep 24 (by kernel_rfl)
          clear hq hdep hold
          simp only [h29, h34, h24]
          clear h29 h34 h24
          rw [if_pos (by rfl)]
          refine OpY.val (v := (.bool false)) ?_ ⟨Kept.refl _ _, rfl⟩
          have heq' := hne
          unfold Dg at heq' ⊢
          generalize e2.prev.map B = LM at heq' ⊢
          clear hne
          go_simp
        refine Steps.cons (fun x wf Kk hq hdep hold => ?_) ?_
        · try dsimp only
          have h24 : x 24 = (.bool false) := hdep 24 (by kernel_rfl)
          have h35 : x 35 = (.bool false) := hdep 35 (by kernel_rfl)
          clear hq hdep hold
          simp only [h24, h35]
          clear h24 h35
          rw [if_pos (by rfl)]
          refine OpY.val (v := (.bool false)) ?_ ⟨Kept.refl _ _, rfl⟩
          first | rfl | go_simp
        refine Steps.cons (fun x wf Kk hq hdep hold => ?_) ?_
        · try dsimp only
          have h36 : x 36 = (.bool false) := hdep 36 (by kernel_rfl)
          clear hq hdep hold
          simp only [h36]
          clear h36
          rw [if_pos (by rfl)]
          refine OpY.val (v := (.bool false)) ?_ ⟨Kept.refl _ _, rfl⟩
          first | rfl | go_simp
        refine Steps.cons (fun x wf Kk hq hdep hold => ?_) ?_
        · try dsimp only
          have h37 : x 37 = (.bool false) := hdep 37 (by kernel_rfl)
          clear hq hdep hold
          simp only [h37]
          clear h37
          rw [if_pos (by rfl)]
          refine OpY.val (v := (.slice (some ⟨b1, o1, none⟩) n ca)) ?_ ⟨Kept.refl _ _, rfl⟩
          first | rfl | go_simp
        refine Steps.cons (fun x wf Kk hq hdep hold => ?_) ?_
        · try dsimp only
          have h37 : x 37 = (.bool false) := hdep 37 (by kernel_rfl)
          clear hq hdep hold
          simp only [h37]
          clear h37
          rw [if_pos (by rfl)]
          refine OpY.val (v := (.int .i64 (k : Int))) ?_ ⟨Kept.refl _ _, rfl⟩
          first | rfl | go_simp
        refine Steps.cons (fun x wf Kk hq hdep hold => ?_) ?_
        · try dsimp only
          have h38 : x 38 = (.slice (some ⟨b1, o1, none⟩) n ca) := hdep 38 (by kernel_rfl)
          have h39 : x 39 = (.int .i64 (k : Int)) := hdep 39 (by kernel_rfl)
          have h37 : x 37 = (.bool false) := hdep 37 (by kernel_rfl)
          clear hq hdep hold
          simp only [h38, h39, h37]
          clear h38 h39 h37
          rw [if_pos (by rfl)]
          refine OpY.val (v := (.pointer (some ⟨b1, o1 + k * 35, none⟩))) ?_ ⟨Kept.refl _ _, rfl⟩
          first | rfl | go_simp
        refine Steps.cons (fun x wf Kk hq hdep hold => ?_) ?_
        · try dsimp only
          have h40 : x 40 = (.pointer (some ⟨b1, o1 + k * 35, none⟩)) := hdep 40 (by kernel_rfl)
          have h37 : x 37 = (.bool false) := hdep 37 (by kernel_rfl)
          clear hq hdep hold
          simp only [h40, h37]
          clear h40 h37
          rw [if_pos (by rfl)]
          refine OpY.val (v := (.pointer (some ⟨b1, o1 + k * 35 + 2, none⟩))) ?_ ⟨Kept.refl _ _, rfl⟩
          first | rfl | go_simp
        refine Steps.cons (fun x wf Kk hq hdep hold => ?_) ?_
        · try dsimp only
          have h41 : x 41 = (.pointer (some ⟨b1, o1 + k * 35 + 2, none⟩)) := hdep 41 (by kernel_rfl)
          have h37 : x 37 = (.bool false) := hdep 37 (by kernel_rfl)
          clear hq hdep hold
          simp only [h41, h37]
          clear h41 h37
          have cv := Kk.undrew.cell a2.out id
          rw [if_pos (by rfl)]
          refine OpY.val (v := (v1)) ?_ ⟨Kept.refl _ _, rfl⟩
          first | rfl | go_simp
        refine Steps.cons (fun x wf Kk hq hdep hold => ?_) ?_
        · try dsimp only
          have h37 : x 37 = (.bool false) := hdep 37 (by kernel_rfl)
          clear hq hdep hold
          simp only [h37]
          clear h37
          rw [if_pos (by rfl)]
          refine OpY.val (v := (.slice (some ⟨b2, o2, none⟩) n cb)) ?_ ⟨Kept.refl _ _, rfl⟩
          first | rfl | go_simp
        refine Steps.cons (fun x wf Kk hq hdep hold => ?_) ?_
        · try dsimp only
          have h37 : x 37 = (.bool false) := hdep 37 (by kernel_rfl)
          clear hq hdep hold
          simp only [h37]
          clear h37
          rw [if_pos (by rfl)]
          refine OpY.val (v := (.int .i64 (k : Int))) ?_ ⟨Kept.refl _ _, rfl⟩
          first | rfl | go_simp
        refine Steps.cons (fun x wf Kk hq hdep hold => ?_) ?_
        · try dsimp only
          have h43 : x 43 = (.slice (some ⟨b2, o2, none⟩) n cb) := hdep 43 (by kernel_rfl)
          have h44 : x 44 = (.int .i64 (k : Int)) := hdep 44 (by kernel_rfl)
          have h37 : x 37 = (.bool false) := hdep 37 (by kernel_rfl)
          clear hq hdep hold
          simp only [h43, h44, h37]
          clear h43 h44 h37
          rw [if_pos (by rfl)]
          refine OpY.val (v := (.pointer (some ⟨b2, o2 + k * 35, none⟩))) ?_ ⟨Kept.refl _ _, rfl⟩
          first | rfl | go_simp
        refine Steps.cons (fun x wf Kk hq hdep hold => ?_) ?_
        · try dsimp only
          have h45 : x 45 = (.pointer (some ⟨b2, o2 + k * 35, none⟩)) := hdep 45 (by kernel_rfl)
          have h37 : x 37 = (.bool false) := hdep 37 (by kernel_rfl)
          clear hq hdep hold
          simp only [h45, h37]
          clear h45 h37
          rw [if_pos (by rfl)]
          refine OpY.val (v := (.pointer (some ⟨b2, o2 + k * 35 + 2, none⟩))) ?_ ⟨Kept.refl _ _, rfl⟩
          first | rfl | go_simp
        refine Steps.cons (fun x wf Kk hq hdep hold => ?_) ?_
        · try dsimp only
          have h46 : x 46 = (.pointer (some ⟨b2, o2 + k * 35 + 2, none⟩)) := hdep 46 (by kernel_rfl)
          have h37 : x 37 = (.bool false) := hdep 37 (by kernel_rfl)
          clear hq hdep hold
          simp only [h46, h37]
          clear h46 h37
          have cv := Kk.undrew.cell b2'.out id
          rw [if_pos (by rfl)]
          refine OpY.val (v := (v2)) ?_ ⟨Kept.refl _ _, rfl⟩
          first | rfl | go_simp
        refine Steps.cons (fun x wf Kk hq hdep hold => ?_) ?_
        · try dsimp only
          have h42 : x 42 = (v1) := hdep 42 (by kernel_rfl)
          have h47 : x 47 = (v2) := hdep 47 (by kernel_rfl)
          have h37 : x 37 = (.bool false) := hdep 37 (by kernel_rfl)
          clear hq hdep hold
          simp only [h42, h47, h37]
          clear h42 h47 h37
          rw [if_pos (by rfl)]
          refine OpY.call (f := 39) (args := #[(v1), (v2)]) (by go_simp) ?_
          refine (HE.out wf (hK.out.trans' Kk.undrew)).mono ?_
          rintro ed w2 ⟨rfl, qq, rfl⟩
          exact ⟨_, rfl, (Kept.refl no _).drewN qq, (show Value.bool (decide (e2.body = e2.body)) = .bool true from by simp)⟩
        refine Steps.cons (fun x wf Kk hq hdep hold => ?_) ?_
        · try dsimp only
          have h48 : x 48 = (.bool true) := hdep 48 (by kernel_rfl)
          have h37 : x 37 = (.bool false) := hdep 37 (by kernel_rfl)
          clear hq hdep hold
          simp only [h48, h37]
          clear h48 h37
          rw [if_pos (by rfl)]
          refine OpY.val (v := (.bool false)) ?_ ⟨Kept.refl _ _, rfl⟩
          first | rfl | go_simp
        refine Steps.cons (fun x wf Kk hq hdep hold => ?_) ?_
        · try dsimp only
          have h37 : x 37 = (.bool false) := hdep 37 (by kernel_rfl)
          have h49 : x 49 = (.bool false) := hdep 49 (by kernel_rfl)
          clear hq hdep hold
          simp only [h37, h49]
          clear h37 h49
          rw [if_pos (by rfl)]
          refine OpY.val (v := (.bool false)) ?_ ⟨Kept.refl _ _, rfl⟩
          first | rfl | go_simp
        exact Steps.nil _
      · intro x wf Kk hv
        try dsimp only
        have h0 : x 0 = (.slice (some ⟨b1, o1, none⟩) n ca) := hv 0 (by kernel_rfl)
        have h1 : x 1 = (.int .i64 (k : Int)) := hv 1 (by kernel_rfl)
        have h2 : x 2 = (.pointer (some ⟨b1, o1 + k * 35, none⟩)) := hv 2 (by kernel_rfl)
        have h3 : x 3 = (.pointer (some ⟨b1, o1 + k * 35, none⟩)) := hv 3 (by kernel_rfl)
        have h4 : x 4 = (.int .i64 e2.number) := hv 4 (by kernel_rfl)
        have h5 : x 5 = (.slice (some ⟨b2, o2, none⟩) n cb) := hv 5 (by kernel_rfl)
        have h6 : x 6 = (.int .i64 (k : Int)) := hv 6 (by kernel_rfl)
        have h7 : x 7 = (.pointer (some ⟨b2, o2 + k * 35, none⟩)) := hv 7 (by kernel_rfl)
        have h8 : x 8 = (.pointer (some ⟨b2, o2 + k * 35, none⟩)) := hv 8 (by kernel_rfl)
        have h9 : x 9 = (.int .i64 e2.number) := hv 9 (by kernel_rfl)
        have h10 : x 10 = (.bool false) := hv 10 (by kernel_rfl)
        have h11 : x 11 = (.bool false) := hv 11 (by kernel_rfl)
        have h12 : x 12 = (.slice (some ⟨b1, o1, none⟩) n ca) := hv 12 (by kernel_rfl)
        have h13 : x 13 = (.int .i64 (k : Int)) := hv 13 (by kernel_rfl)
        have h14 : x 14 = (.pointer (some ⟨b1, o1 + k * 35, none⟩)) := hv 14 (by kernel_rfl)
        have h15 : x 15 = (.pointer (some ⟨b1, o1 + k * 35 + 1, none⟩)) := hv 15 (by kernel_rfl)
        have h16 : x 16 = (.int .i64 e2.kind) := hv 16 (by kernel_rfl)
        have h17 : x 17 = (.slice (some ⟨b2, o2, none⟩) n cb) := hv 17 (by kernel_rfl)
        have h18 : x 18 = (.int .i64 (k : Int)) := hv 18 (by kernel_rfl)
        have h19 : x 19 = (.pointer (some ⟨b2, o2 + k * 35, none⟩)) := hv 19 (by kernel_rfl)
        have h20 : x 20 = (.pointer (some ⟨b2, o2 + k * 35 + 1, none⟩)) := hv 20 (by kernel_rfl)
        have h21 : x 21 = (.int .i64 e2.kind) := hv 21 (by kernel_rfl)
        have h22 : x 22 = (.bool false) := hv 22 (by kernel_rfl)
        have h23 : x 23 = (.bool false) := hv 23 (by kernel_rfl)
        have h24 : x 24 = (.bool false) := hv 24 (by kernel_rfl)
        have h25 : x 25 = (.slice (some ⟨b1, o1, none⟩) n ca) := hv 25 (by kernel_rfl)
        have h26 : x 26 = (.int .i64 (k : Int)) := hv 26 (by kernel_rfl)
        have h27 : x 27 = (.pointer (some ⟨b1, o1 + k * 35, none⟩)) := hv 27 (by kernel_rfl)
        have h28 : x 28 = (.pointer (some ⟨b1, o1 + k * 35 + 3, none⟩)) := hv 28 (by kernel_rfl)
        have h29 : x 29 = (Dg e2.prev) := hv 29 (by kernel_rfl)
        have h30 : x 30 = (.slice (some ⟨b2, o2, none⟩) n cb) := hv 30 (by kernel_rfl)
        have h31 : x 31 = (.int .i64 (k : Int)) := hv 31 (by kernel_rfl)
        have h32 : x 32 = (.pointer (some ⟨b2, o2 + k * 35, none⟩)) := hv 32 (by kernel_rfl)
        have h33 : x 33 = (.pointer (some ⟨b2, o2 + k * 35 + 3, none⟩)) := hv 33 (by kernel_rfl)
        have h34 : x 34 = (Dg e2.prev) := hv 34 (by kernel_rfl)
        have h35 : x 35 = (.bool false) := hv 35 (by kernel_rfl)
        have h36 : x 36 = (.bool false) := hv 36 (by kernel_rfl)
        have h37 : x 37 = (.bool false) := hv 37 (by kernel_rfl)
        have h38 : x 38 = (.slice (some ⟨b1, o1, none⟩) n ca) := hv 38 (by kernel_rfl)
        have h39 : x 39 = (.int .i64 (k : Int)) := hv 39 (by kernel_rfl)
        have h40 : x 40 = (.pointer (some ⟨b1, o1 + k * 35, none⟩)) := hv 40 (by kernel_rfl)
        have h41 : x 41 = (.pointer (some ⟨b1, o1 + k * 35 + 2, none⟩)) := hv 41 (by kernel_rfl)
        have h42 : x 42 = (v1) := hv 42 (by kernel_rfl)
        have h43 : x 43 = (.slice (some ⟨b2, o2, none⟩) n cb) := hv 43 (by kernel_rfl)
        have h44 : x 44 = (.int .i64 (k : Int)) := hv 44 (by kernel_rfl)
        have h45 : x 45 = (.pointer (some ⟨b2, o2 + k * 35, none⟩)) := hv 45 (by kernel_rfl)
        have h46 : x 46 = (.pointer (some ⟨b2, o2 + k * 35 + 2, none⟩)) := hv 46 (by kernel_rfl)
        have h47 : x 47 = (v2) := hv 47 (by kernel_rfl)
        have h48 : x 48 = (.bool true) := hv 48 (by kernel_rfl)
        have h49 : x 49 = (.bool false) := hv 49 (by kernel_rfl)
        have h50 : x 50 = (.bool false) := hv 50 (by kernel_rfl)
        clear hv
        simp only [h0, h1, h2, h3, h4, h5, h6, h7, h8, h9, h10, h11, h12, h13, h14, h15, h16, h17, h18, h19, h20, h21, h22, h23, h24, h25, h26, h27, h28, h29, h30, h31, h32, h33, h34, h35, h36, h37, h38, h39, h40, h41, h42, h43, h44, h45, h46, h47, h48, h49, h50]
        clear h0 h1 h2 h3 h4 h5 h6 h7 h8 h9 h10 h11 h12 h13 h14 h15 h16 h17 h18 h19 h20 h21 h22 h23 h24 h25 h26 h27 h28 h29 h30 h31 h32 h33 h34 h35 h36 h37 h38 h39 h40 h41 h42 h43 h44 h45 h46 h47 h48 h49 h50
        have kz := hid (hK.out.trans' Kk.undrew)
        clear Kk hK
        go_wp2_with fail
        go_roundw
        case rel => first | exact ⟨k + 1, by omega, by go_num, kz⟩ | ((repeat apply Exists.intro); exact ⟨⟨k + 1, by omega, by go_num, kz⟩, rfl⟩)
        case measure => simp [intOf]; omega
    · obtain rfl : k = n := by omega
      clear hlt hk
      go_wp2_with fail
      go_ret
      exact ⟨rfl, hK.out⟩
end Go.Proofs.YtknbkhmpnanegaaDoor
