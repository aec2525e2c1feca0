/- electionref23.Check (printed by gen_bq.py). -/
import Derived.Test.YtknbkhmpnanegaaDoorBM
namespace Go.Proofs.YtknbkhmpnanegaaDoor
open Go.RowKit Go.Mk Go.Sha Go.Brd
def pvD (es : List Ent) (k : Nat) : List UInt8 := if k = 0 then Z32l else hashE (es.getD (k - 1) ⟨0, 0, [], Z32l⟩)
theorem prev_rng {w : World} {b o : Nat} {e : Ent} {vb : Value} (h : w.rangeAt b o (entC e vb)) : w.rangeAt b (o + 3) (e.prev.map B) := fun j u hu => by
  have : (entC e vb)[3 + j]? = some u := by rw [← hu]; simp [entC, Nat.add_comm 3 j]
  have := h (3 + j) u this
  rwa [← Nat.add_assoc] at this
set_option maxRecDepth 100000 in
set_option maxHeartbeats 8000000 in
theorem refcheck_any (v : Value) (ps : List (Ent × Value)) (w : World) (hn : ps.length ≤ 100) (hr : RdE w v ps) (hT : TabR w) :
    Calls Tryd.prog 35 #[v] w fun ed w' => ed = .returned (.int .i64 ((chk Z32l 0 (ents ps) : Nat) : Int)) ∧ Kept no w w' := by
  obtain ⟨ao, cap, rfl, hcap⟩ := hr.shape
  obtain ⟨n, hn'⟩ : ∃ n, ps.length = n := ⟨_, rfl⟩
  rw [hn'] at hr hcap hn ⊢
  replace hr := hid hr
  replace hT := hid hT
  replace hn' := hid hn'
  have hgd := guard_digest
  go_enter Tryd.func35, Tryd.ntmps35
  go_wp2_with fail
  go_loopw [3] (fun i wr => ∃ (k : Nat), k ≤ n ∧ i = .int .i64 (k : Int) ∧ Hd (chk Z32l 0 (ents ps) = chk (pvD (ents ps) k) k ((ents ps).drop k)) ∧ Hd (Kept no w wr)) (fun i _ => n - (intOf i).toNat)
  case atStart => exact ⟨0, by omega, rfl, ⟨rfl⟩, ⟨Kept.refl _ _⟩⟩
  case round =>
    obtain ⟨k, hk, rfl, hch, hK⟩ := hrel
    have hk5 : (k : Int) < 5000 := by omega
    by_cases hlt : k < n
    · obtain ⟨b, o, rfl, hrg⟩ := (hr.out.kept hK.out).at k (by rw [hn'.out]; exact hlt)
      obtain ⟨e, vb, hel⟩ : ∃ e vb, ps[k]'(by rw [hn'.out]; exact hlt) = (e, vb) := ⟨_, _, rfl⟩
      rw [hel] at hrg
      have hok : Hd (OkE w e vb) := ⟨by have := hr.out.1 (e, vb) (by rw [← hel]; exact List.getElem_mem _); exact this⟩
      have hge : (ents ps)[k]? = some e := by simp [ents, hel, hn'.out, hlt]
      have hdr : (ents ps).drop k = e :: (ents ps).drop (k + 1) := by
        rw [List.drop_eq_getElem_cons (by rw [ents_length, hn'.out]; exact hlt)]
        congr 1
        simp [ents, hel]
      have hch' : Hd (chk Z32l 0 (ents ps) = if e.number = (k : Int) ∧ poss e.kind = true ∧ e.prev = pvD (ents ps) k then chk (hashE e) (k + 1) ((ents ps).drop (k + 1)) else k) := ⟨by rw [hch.out, hdr]; rfl⟩
      have hpv1 : Hd (pvD (ents ps) (k + 1) = hashE e) := ⟨by unfold pvD; rw [if_neg (by omega), Nat.add_sub_cancel, List.getD_eq_getElem?_getD, hge]; rfl⟩
      have hk1 : (k : Int) < (n : Int) := by omega
      have hk0 : (0 : Int) ≤ (k : Int) := by omega
      have hkw : IntKind.i64.wrap ((k : Int) + 1) = (k : Int) + 1 := IntWalk.i64_in _ (by omega)
      clear hel hdr hch hge
      replace hrg := hid hrg
      have hN0 := hid (heap_alloc_new wr (.cells Z32 26))
      obtain ⟨w1, hw1, g3, k1⟩ := dg_block wr Z32l
      have hZ := hid Z32_size
      have hz32 : Hd (Z32l.length = 32) := ⟨rfl⟩
      unfold Z32 at hN0 hw1 hZ
      replace hw1 := hid hw1
      have K1r := hid k1
      have hrg0 := hid hrg.out
      have K1 := hid (hK.out.trans' k1)
      have hrg1 := hid (k1.rng hrg.out)
      replace g3 := hid g3
      clear k1 hrg
      go_upto_region 5 with (first | (refine bdz rfl rfl ?_) | (with_reducible refine sd rfl _ _ rfl wr.heap.size rfl Z32l rfl _ hN0.out hZ.out hz32.out ?_; rw [← hw1.out]))
      clear hN0 hw1 hZ
      generalize hq4 : wr.heap.size = q4 at g3 ⊢
      replace hq4 := hid hq4
      obtain ⟨w3, rfl⟩ : ∃ w3 : World, w3 = w1 := ⟨_, rfl⟩
      by_cases hz : k = 0
      · have hpv : Hd (Z32l = pvD (ents ps) k) := ⟨by unfold pvD; rw [if_pos hz]⟩
        have hkz : ¬ (0 : Int) < (k : Int) := by omega
        obtain ⟨prev, hprev⟩ : ∃ prev, Z32l = prev := ⟨_, rfl⟩
        rw [hprev] at hpv g3 hz32
        have K3 := hid K1.out
        have hrg3 := hid hrg1.out
        have hpl := hid hz32.out
        have g4 := hid g3.out
        clear K1 hrg1 hz32 g3 hz
        go_upto_region 7 with fail
        clear hprev
        have c0 : Hd (w3.cell? ⟨b, o + k * 35, none⟩ = some (.int .i64 e.number)) := ⟨hrg3.out 0 _ rfl⟩
        have c1 : Hd (w3.cell? ⟨b, o + k * 35 + 1, none⟩ = some (.int .i64 e.kind)) := ⟨hrg3.out 1 _ rfl⟩
        have c3 := hid (prev_rng hrg3.out)
        by_cases hnum : e.number = (k : Int)
        case neg =>
          have hnb : (e.number != (k : Int)) = true := by simpa using hnum
          have hv : Hd (chk Z32l 0 (ents ps) = k) := ⟨by rw [hch'.out, if_neg (fun h => hnum h.1)]⟩
          clear hch'
          refine region_flow (S := no) (Sl := (fun _ => no)) [Is (.slice (some ⟨b, o, none⟩) n cap), Is (.int .i64 (k : Int)), Is (.pointer (some ⟨b, o + k * 35, none⟩)), Is (.pointer (some ⟨b, o + k * 35, none⟩)), Is (.int .i64 e.number), Is (.int .i64 (k : Int)), Is (.bool true), Is (.bool true), Is undef, Is undef, Is undef, Is undef, Is undef, Is undef, Is (.bool true), Is (.bool true), Is undef, Is undef, Is undef, Is undef, Is undef, Is undef, Is (.bool true), Is (.bool true), Is undef, Is undef, Is undef, Is undef, Is undef, Is undef, Is undef, Is (.bool true)] [] (fun _ _ h => h) _ (by kernel_rfl) (by kernel_rfl) (by kernel_rfl) (by kernel_rfl) (fun x => by simp only [puts, Act.put, List.map_cons, List.map_nil, Nat.zero_add, Nat.reduceAdd, List.setIfInBounds_toArray, List.set_cons_zero, List.set_cons_succ]; exact rfl) ?_ ?_
          · skip
            refine Steps.cons (fun x wf Kk hq hdep hold => ?_) ?_
            · try dsimp only
              clear hq hdep hold
              rw [if_pos (by rfl)]
              refine OpY.val (v := (.slice (some ⟨b, o, none⟩) n cap)) ?_ ⟨Kept.refl _ _, rfl⟩
              first | rfl | go_simp
            refine Steps.cons (fun x wf Kk hq hdep hold => ?_) ?_
            · try dsimp only
              clear hq hdep hold
              rw [if_pos (by rfl)]
              refine OpY.val (v := (.int .i64 (k : Int))) ?_ ⟨Kept.refl _ _, rfl⟩
              first | rfl | go_simp
            refine Steps.cons (fun x wf Kk hq hdep hold => ?_) ?_
            · try dsimp only
              have h0 : x 0 = (.slice (some ⟨b, o, none⟩) n cap) := hdep 0 (by kernel_rfl)
              have h1 : x 1 = (.int .i64 (k : Int)) := hdep 1 (by kernel_rfl)
              clear hq hdep hold
              simp only [h0, h1]
              clear h0 h1
              rw [if_pos (by rfl)]
              refine OpY.val (v := (.pointer (some ⟨b, o + k * 35, none⟩))) ?_ ⟨Kept.refl _ _, rfl⟩
              first | rfl | go_simp
            refine Steps.cons (fun x wf Kk hq hdep hold => ?_) ?_
            · try dsimp only
              have h2 : x 2 = (.pointer (some ⟨b, o + k * 35, none⟩)) := hdep 2 (by kernel_rfl)
              clear hq hdep hold
              simp only [h2]
              clear h2
              rw [if_pos (by rfl)]
              refine OpY.val (v := (.pointer (some ⟨b, o + k * 35, none⟩))) ?_ ⟨Kept.refl _ _, rfl⟩
              first | rfl | go_simp
            refine Steps.cons (fun x wf Kk hq hdep hold => ?_) ?_
            · try dsimp only
              have h3 : x 3 = (.pointer (some ⟨b, o + k * 35, none⟩)) := hdep 3 (by kernel_rfl)
              clear hq hdep hold
              simp only [h3]
              clear h3
              have cv := Kk.undrew.cell c0.out id
              rw [if_pos (by rfl)]
              refine OpY.val (v := (.int .i64 e.number)) ?_ ⟨Kept.refl _ _, rfl⟩
              first | rfl | go_simp
            refine Steps.cons (fun x wf Kk hq hdep hold => ?_) ?_
            · try dsimp only
              clear hq hdep hold
              rw [if_pos (by rfl)]
              refine OpY.val (v := (.int .i64 (k : Int))) ?_ ⟨Kept.refl _ _, rfl⟩
              first | rfl | go_simp
            refine Steps.cons (fun x wf Kk hq hdep hold => ?_) ?_
            · try dsimp only
              have h4 : x 4 = (.int .i64 e.number) := hdep 4 (by kernel_rfl)
              have h5 : x 5 = (.int .i64 (k : Int)) := hdep 5 (by kernel_rfl)
              clear hq hdep hold
              simp only [h4, h5]
              clear h4 h5
              rw [if_pos (by rfl)]
              refine OpY.val (v := (.bool true)) ?_ ⟨Kept.refl _ _, rfl⟩
              first | rfl | go_simp
            refine Steps.cons (fun x wf Kk hq hdep hold => ?_) ?_
            · try dsimp only
              have h6 : x 6 = (.bool true) := hdep 6 (by kernel_rfl)
              clear hq hdep hold
              simp only [h6]
              clear h6
              rw [if_pos (by rfl)]
              refine OpY.val (v := (.bool true)) ?_ ⟨Kept.refl _ _, rfl⟩
              first | rfl | go_simp
            refine Steps.cons (fun x wf Kk hq hdep hold => ?_) ?_
            · try dsimp only
              have h7 : x 7 = (.bool true) := hdep 7 (by kernel_rfl)
              clear hq hdep hold
              simp only [h7]
              clear h7
              first | rw [if_neg (by decide)] | rw [if_neg (by intro h; exact absurd (h.symm.trans (show Region.wanted _ _ = false from rfl)) (by decide))]
              exact rfl
            refine Steps.cons (fun x wf Kk hq hdep hold => ?_) ?_
            · try dsimp only
              have h7 : x 7 = (.bool true) := hdep 7 (by kernel_rfl)
              clear hq hdep hold
              simp only [h7]
              clear h7
              first | rw [if_neg (by decide)] | rw [if_neg (by intro h; exact absurd (h.symm.trans (show Region.wanted _ _ = false from rfl)) (by decide))]
              exact rfl
            refine Steps.cons (fun x wf Kk hq hdep hold => ?_) ?_
            · try dsimp only
              have h7 : x 7 = (.bool true) := hdep 7 (by kernel_rfl)
              clear hq hdep hold
              simp only [h7]
              clear h7
              first | rw [if_neg (by decide)] | rw [if_neg (by intro h; exact absurd (h.symm.trans (show Region.wanted _ _ = false from rfl)) (by decide))]
              exact rfl
            refine Steps.cons (fun x wf Kk hq hdep hold => ?_) ?_
            · try dsimp only
              have h7 : x 7 = (.bool true) := hdep 7 (by kernel_rfl)
              clear hq hdep hold
              simp only [h7]
              clear h7
              first | rw [if_neg (by decide)] | rw [if_neg (by intro h; exact absurd (h.symm.trans (show Region.wanted _ _ = false from rfl)) (by decide))]
              exact rfl
            refine Steps.cons (fun x wf Kk hq hdep hold => ?_) ?_
            · try dsimp only
              have h7 : x 7 = (.bool true) := hdep 7 (by kernel_rfl)
              clear hq hdep hold
              simp only [h7]
              clear h7
              first | rw [if_neg (by decide)] | rw [if_neg (by intro h; exact absurd (h.symm.trans (show Region.wanted _ _ = false from rfl)) (by decide))]
              exact rfl
            refine Steps.cons (fun x wf Kk hq hdep hold => ?_) ?_
            · try dsimp only
              have h7 : x 7 = (.bool true) := hdep 7 (by kernel_rfl)
              clear hq hdep hold
              simp only [h7]
              clear h7
              first | rw [if_neg (by decide)] | rw [if_neg (by intro h; exact absurd (h.symm.trans (show Region.wanted _ _ = false from rfl)) (by decide))]
              exact rfl
            refine Steps.cons (fun x wf Kk hq hdep hold => ?_) ?_
            · try dsimp only
              have h7 : x 7 = (.bool true) := hdep 7 (by kernel_rfl)
              have h13 : x 13 = undef := hdep 13 (by kernel_rfl)
              clear hq hdep hold
              simp only [h7, h13]
              clear h7 h13
              rw [if_pos (by rfl)]
              refine OpY.val (v := (.bool true)) ?_ ⟨Kept.refl _ _, rfl⟩
              first | rfl | go_simp
            refine Steps.cons (fun x wf Kk hq hdep hold => ?_) ?_
            · try dsimp only
              have h14 : x 14 = (.bool true) := hdep 14 (by kernel_rfl)
              clear hq hdep hold
              simp only [h14]
              clear h14
              rw [if_pos (by rfl)]
              refine OpY.val (v := (.bool true)) ?_ ⟨Kept.refl _ _, rfl⟩
              first | rfl | go_simp
            refine Steps.cons (fun x wf Kk hq hdep hold => ?_) ?_
            · try dsimp only
              have h15 : x 15 = (.bool true) := hdep 15 (by kernel_rfl)
              clear hq hdep hold
              simp only [h15]
              clear h15
              first | rw [if_neg (by decide)] | rw [if_neg (by intro h; exact absurd (h.symm.trans (show Region.wanted _ _ = false from rfl)) (by decide))]
              exact rfl
            refine Steps.cons (fun x wf Kk hq hdep hold => ?_) ?_
            · try dsimp only
              have h15 : x 15 = (.bool true) := hdep 15 (by kernel_rfl)
              clear hq hdep hold
              simp only [h15]
              clear h15
              first | rw [if_neg (by decide)] | rw [if_neg (by intro h; exact absurd (h.symm.trans (show Region.wanted _ _ = false from rfl)) (by decide))]
              exact rfl
            refine Steps.cons (fun x wf Kk hq hdep hold => ?_) ?_
            · try dsimp only
              have h15 : x 15 = (.bool true) := hdep 15 (by kernel_rfl)
              clear hq hdep hold
              simp only [h15]
              clear h15
              first | rw [if_neg (by decide)] | rw [if_neg (by intro h; exact absurd (h.symm.trans (show Region.wanted _ _ = false from rfl)) (by decide))]
              exact rfl
            refine Steps.cons (fun x wf Kk hq hdep hold => ?_) ?_
            · try dsimp only
              have h15 : x 15 = (.bool true) := hdep 15 (by kernel_rfl)
              clear hq hdep hold
              simp only [h15]
              clear h15
              first | rw [if_neg (by decide)] | rw [if_neg (by intro h; exact absurd (h.symm.trans (show Region.wanted _ _ = false from rfl)) (by decide))]
              exact rfl
            refine Steps.cons (fun x wf Kk hq hdep hold => ?_) ?_
            · try dsimp only
              have h15 : x 15 = (.bool true) := hdep 15 (by kernel_rfl)
              clear hq hdep hold
              simp only [h15]
              clear h15
              first | rw [if_neg (by decide)] | rw [if_neg (by intro h; exact absurd (h.symm.trans (show Region.wanted _ _ = false from rfl)) (by decide))]
              exact rfl
            refine Steps.cons (fun x wf Kk hq hdep hold => ?_) ?_
            · try dsimp only
              have h15 : x 15 = (.bool true) := hdep 15 (by kernel_rfl)
              clear hq hdep hold
              simp only [h15]
              clear h15
              first | rw [if_neg (by decide)] | rw [if_neg (by intro h; exact absurd (h.symm.trans (show Region.wanted _ _ = false from rfl)) (by decide))]
              exact rfl
            refine Steps.cons (fun x wf Kk hq hdep hold => ?_) ?_
            · try dsimp only
              have h15 : x 15 = (.bool true) := hdep 15 (by kernel_rfl)
              have h21 : x 21 = undef := hdep 21 (by kernel_rfl)
              clear hq hdep hold
              simp only [h15, h21]
              clear h15 h21
              rw [if_pos (by rfl)]
              refine OpY.val (v := (.bool true)) ?_ ⟨Kept.refl _ _, rfl⟩
              first | rfl | go_simp
            refine Steps.cons (fun x wf Kk hq hdep hold => ?_) ?_
            · try dsimp only
              have h22 : x 22 = (.bool true) := hdep 22 (by kernel_rfl)
              clear hq hdep hold
              simp only [h22]
              clear h22
              rw [if_pos (by rfl)]
              refine OpY.val (v := (.bool true)) ?_ ⟨Kept.refl _ _, rfl⟩
              first | rfl | go_simp
            refine Steps.cons (fun x wf Kk hq hdep hold => ?_) ?_
            · try dsimp only
              have h23 : x 23 = (.bool true) := hdep 23 (by kernel_rfl)
              clear hq hdep hold
              simp only [h23]
              clear h23
              first | rw [if_neg (by decide)] | rw [if_neg (by intro h; exact absurd (h.symm.trans (show Region.wanted _ _ = false from rfl)) (by decide))]
              exact rfl
            refine Steps.cons (fun x wf Kk hq hdep hold => ?_) ?_
            · try dsimp only
              have h23 : x 23 = (.bool true) := hdep 23 (by kernel_rfl)
              clear hq hdep hold
              simp only [h23]
              clear h23
              first | rw [if_neg (by decide)] | rw [if_neg (by intro h; exact absurd (h.symm.trans (show Region.wanted _ _ = false from rfl)) (by decide))]
              exact rfl
            refine Steps.cons (fun x wf Kk hq hdep hold => ?_) ?_
            · try dsimp only
              have h23 : x 23 = (.bool true) := hdep 23 (by kernel_rfl)
              clear hq hdep hold
              simp only [h23]
              clear h23
              first | rw [if_neg (by decide)] | rw [if_neg (by intro h; exact absurd (h.symm.trans (show Region.wanted _ _ = false from rfl)) (by decide))]
              exact rfl
            refine Steps.cons (fun x wf Kk hq hdep hold => ?_) ?_
            · try dsimp only
              have h23 : x 23 = (.bool true) := hdep 23 (by kernel_rfl)
              clear hq hdep hold
              simp only [h23]
              clear h23
              first | rw [if_neg (by decide)] | rw [if_neg (by intro h; exact absurd (h.symm.trans (show Region.wanted _ _ = false from rfl)) (by decide))]
              exact rfl
            refine Steps.cons (fun x wf Kk hq hdep hold => ?_) ?_
            · try dsimp only
              have h23 : x 23 = (.bool true) := hdep 23 (by kernel_rfl)
              clear hq hdep hold
              simp only [h23]
              clear h23
              first | rw [if_neg (by decide)] | rw [if_neg (by intro h; exact absurd (h.symm.trans (show Region.wanted _ _ = false from rfl)) (by decide))]
              exact rfl
            refine Steps.cons (fun x wf Kk hq hdep hold => ?_) ?_
            · try dsimp only
              have h23 : x 23 = (.bool true) := hdep 23 (by kernel_rfl)
              clear hq hdep hold
              simp only [h23]
              clear h23
              first | rw [if_neg (by decide)] | rw [if_neg (by intro h; exact absurd (h.symm.trans (show Region.wanted _ _ = false from rfl)) (by decide))]
              exact rfl
            refine Steps.cons (fun x wf Kk hq hdep hold => ?_) ?_
            · try dsimp only
              have h23 : x 23 = (.bool true) := hdep 23 (by kernel_rfl)
              clear hq hdep hold
              simp only [h23]
              clear h23
              first | rw [if_neg (by decide)] | rw [if_neg (by intro h; exact absurd (h.symm.trans (show Region.wanted _ _ = false from rfl)) (by decide))]
              exact rfl
            refine Steps.cons (fun x wf Kk hq hdep hold => ?_) ?_
            · try dsimp only
              have h23 : x 23 = (.bool true) := hdep 23 (by kernel_rfl)
              have h30 : x 30 = undef := hdep 30 (by kernel_rfl)
              clear hq hdep hold
              simp only [h23, h30]
              clear h23 h30
              rw [if_pos (by rfl)]
              refine OpY.val (v := (.bool true)) ?_ ⟨Kept.refl _ _, rfl⟩
              first | rfl | go_simp
            exact Steps.nil _
          · intro x wf Kk hv
            try dsimp only
            have h0 : x 0 = (.slice (some ⟨b, o, none⟩) n cap) := hv 0 (by kernel_rfl)
            have h1 : x 1 = (.int .i64 (k : Int)) := hv 1 (by kernel_rfl)
            have h2 : x 2 = (.pointer (some ⟨b, o + k * 35, none⟩)) := hv 2 (by kernel_rfl)
            have h3 : x 3 = (.pointer (some ⟨b, o + k * 35, none⟩)) := hv 3 (by kernel_rfl)
            have h4 : x 4 = (.int .i64 e.number) := hv 4 (by kernel_rfl)
            have h5 : x 5 = (.int .i64 (k : Int)) := hv 5 (by kernel_rfl)
            have h6 : x 6 = (.bool true) := hv 6 (by kernel_rfl)
            have h7 : x 7 = (.bool true) := hv 7 (by kernel_rfl)
            have h8 : x 8 = undef := hv 8 (by kernel_rfl)
            have h9 : x 9 = undef := hv 9 (by kernel_rfl)
            have h10 : x 10 = undef := hv 10 (by kernel_rfl)
            have h11 : x 11 = undef := hv 11 (by kernel_rfl)
            have h12 : x 12 = undef := hv 12 (by kernel_rfl)
            have h13 : x 13 = undef := hv 13 (by kernel_rfl)
            have h14 : x 14 = (.bool true) := hv 14 (by kernel_rfl)
            have h15 : x 15 = (.bool true) := hv 15 (by kernel_rfl)
            have h16 : x 16 = undef := hv 16 (by kernel_rfl)
            have h17 : x 17 = undef := hv 17 (by kernel_rfl)
            have h18 : x 18 = undef := hv 18 (by kernel_rfl)
            have h19 : x 19 = undef := hv 19 (by kernel_rfl)
            have h20 : x 20 = undef := hv 20 (by kernel_rfl)
            have h21 : x 21 = undef := hv 21 (by kernel_rfl)
            have h22 : x 22 = (.bool true) := hv 22 (by kernel_rfl)
            have h23 : x 23 = (.bool true) := hv 23 (by kernel_rfl)
            have h24 : x 24 = undef := hv 24 (by kernel_rfl)
            have h25 : x 25 = undef := hv 25 (by kernel_rfl)
            have h26 : x 26 = undef := hv 26 (by kernel_rfl)
            have h27 : x 27 = undef := hv 27 (by kernel_rfl)
            have h28 : x 28 = undef := hv 28 (by kernel_rfl)
            have h29 : x 29 = undef := hv 29 (by kernel_rfl)
            have h30 : x 30 = undef := hv 30 (by kernel_rfl)
            have h31 : x 31 = (.bool true) := hv 31 (by kernel_rfl)
            clear hv
            simp only [h0, h1, h2, h3, h4, h5, h6, h7, h8, h9, h10, h11, h12, h13, h14, h15, h16, h17, h18, h19, h20, h21, h22, h23, h24, h25, h26, h27, h28, h29, h30, h31]
            clear h0 h1 h2 h3 h4 h5 h6 h7 h8 h9 h10 h11 h12 h13 h14 h15 h16 h17 h18 h19 h20 h21 h22 h23 h24 h25 h26 h27 h28 h29 h30 h31
            have kz := hid (K3.out.trans' Kk.undrew)
            clear Kk
            go_wp2_with fail
            go_ret
            exact ⟨by rw [hv.out]; rfl, kz.out⟩
        have hnb : (e.number != (k : Int)) = false := by simpa using hnum
        by_cases h1 : e.kind < 1
        case pos =>
          have hv : Hd (chk Z32l 0 (ents ps) = k) := ⟨by rw [hch'.out, if_neg (fun h => by have := h.2.1; unfold poss at this; simp at this; omega)]⟩
          clear hch'
          refine region_flow (S := no) (Sl := (fun _ => no)) [Is (.slice (some ⟨b, o, none⟩) n cap), Is (.int .i64 (k : Int)), Is (.pointer (some ⟨b, o + k * 35, none⟩)), Is (.pointer (some ⟨b, o + k * 35, none⟩)), Is (.int .i64 e.number), Is (.int .i64 (k : Int)), Is (.bool false), Is (.bool false), Is (.slice (some ⟨b, o, none⟩) n cap), Is (.int .i64 (k : Int)), Is (.pointer (some ⟨b, o + k * 35, none⟩)), Is (.pointer (some ⟨b, o + k * 35 + 1, none⟩)), Is (.int .i64 e.kind), Is (.bool true), Is (.bool true), Is (.bool true), Is undef, Is undef, Is undef, Is undef, Is undef, Is undef, Is (.bool true), Is (.bool true), Is undef, Is undef, Is undef, Is undef, Is undef, Is undef, Is undef, Is (.bool true)] [] (fun _ _ h => h) _ (by kernel_rfl) (by kernel_rfl) (by kernel_rfl) (by kernel_rfl) (fun x => by simp only [puts, Act.put, List.map_cons, List.map_nil, Nat.zero_add, Nat.reduceAdd, List.setIfInBounds_toArray, List.set_cons_zero, List.set_cons_succ]; exact rfl) ?_ ?_
          · skip
            refine Steps.cons (fun x wf Kk hq hdep hold => ?_) ?_
            · try dsimp only
              clear hq hdep hold
              rw [if_pos (by rfl)]
              refine OpY.val (v := (.slice (some ⟨b, o, none⟩) n cap)) ?_ ⟨Kept.refl _ _, rfl⟩
              first | rfl | go_simp
            refine Steps.cons (fun x wf Kk hq hdep hold => ?_) ?_
            · try dsimp only
              clear hq hdep hold
              rw [if_pos (by rfl)]
              refine OpY.val (v := (.int .i64 (k : Int))) ?_ ⟨Kept.refl _ _, rfl⟩
              first | rfl | go_simp
            refine Steps.cons (fun x wf Kk hq hdep hold => ?_) ?_
            · try dsimp only
              have h0 : x 0 = (.slice (some ⟨b, o, none⟩) n cap) := hdep 0 (by kernel_rfl)
              have h1 : x 1 = (.int .i64 (k : Int)) := hdep 1 (by kernel_rfl)
              clear hq hdep hold
              simp only [h0, h1]
              clear h0 h1
              rw [if_pos (by rfl)]
              refine OpY.val (v := (.pointer (some ⟨b, o + k * 35, none⟩))) ?_ ⟨Kept.refl _ _, rfl⟩
              first | rfl | go_simp
            refine Steps.cons (fun x wf Kk hq hdep hold => ?_) ?_
            · try dsimp only
              have h2 : x 2 = (.pointer (some ⟨b, o + k * 35, none⟩)) := hdep 2 (by kernel_rfl)
              clear hq hdep hold
              simp only [h2]
              clear h2
              rw [if_pos (by rfl)]
              refine OpY.val (v := (.pointer (some ⟨b, o + k * 35, none⟩))) ?_ ⟨Kept.refl _ _, rfl⟩
              first | rfl | go_simp
            refine Steps.cons (fun x wf Kk hq hdep hold => ?_) ?_
            · try dsimp only
              have h3 : x 3 = (.pointer (some ⟨b, o + k * 35, none⟩)) := hdep 3 (by kernel_rfl)
              clear hq hdep hold
              simp only [h3]
              clear h3
              have cv := Kk.undrew.cell c0.out id
              rw [if_pos (by rfl)]
              refine OpY.val (v := (.int .i64 e.number)) ?_ ⟨Kept.refl _ _, rfl⟩
              first | rfl | go_simp
            refine Steps.cons (fun x wf Kk hq hdep hold => ?_) ?_
            · try dsimp only
              clear hq hdep hold
              rw [if_pos (by rfl)]
              refine OpY.val (v := (.int .i64 (k : Int))) ?_ ⟨Kept.refl _ _, rfl⟩
              first | rfl | go_simp
            refine Steps.cons (fun x wf Kk hq hdep hold => ?_) ?_
            · try dsimp only
              have h4 : x 4 = (.int .i64 e.number) := hdep 4 (by kernel_rfl)
              have h5 : x 5 = (.int .i64 (k : Int)) := hdep 5 (by kernel_rfl)
              clear hq hdep hold
              simp only [h4, h5]
              clear h4 h5
              rw [if_pos (by rfl)]
              refine OpY.val (v := (.bool false)) ?_ ⟨Kept.refl _ _, rfl⟩
              first | rfl | go_simp
            refine Steps.cons (fun x wf Kk hq hdep hold => ?_) ?_
            · try dsimp only
              have h6 : x 6 = (.bool false) := hdep 6 (by kernel_rfl)
              clear hq hdep hold
              simp only [h6]
              clear h6
              rw [if_pos (by rfl)]
              refine OpY.val (v := (.bool false)) ?_ ⟨Kept.refl _ _, rfl⟩
              first | rfl | go_simp
            refine Steps.cons (fun x wf Kk hq hdep hold => ?_) ?_
            · try dsimp only
              have h7 : x 7 = (.bool false) := hdep 7 (by kernel_rfl)
              clear hq hdep hold
              simp only [h7]
              clear h7
              rw [if_pos (by rfl)]
              refine OpY.val (v := (.slice (some ⟨b, o, none⟩) n cap)) ?_ ⟨Kept.refl _ _, rfl⟩
              first | rfl | go_simp
            refine Steps.cons (fun x wf Kk hq hdep hold => ?_) ?_
            · try dsimp only
              have h7 : x 7 = (.bool false) := hdep 7 (by kernel_rfl)
              clear hq hdep hold
              simp only [h7]
              clear h7
              rw [if_pos (by rfl)]
              refine OpY.val (v := (.int .i64 (k : Int))) ?_ ⟨Kept.refl _ _, rfl⟩
              first | rfl | go_simp
            refine Steps.cons (fun x wf Kk hq hdep hold => ?_) ?_
            · try dsimp only
              have h8 : x 8 = (.slice (some ⟨b, o, none⟩) n cap) := hdep 8 (by kernel_rfl)
              have h9 : x 9 = (.int .i64 (k : Int)) := hdep 9 (by kernel_rfl)
              have h7 : x 7 = (.bool false) := hdep 7 (by kernel_rfl)
              clear hq hdep hold
              simp only [h8, h9, h7]
              clear h8 h9 h7
              rw [if_pos (by rfl)]
              refine OpY.val (v := (.pointer (some ⟨b, o + k * 35, none⟩))) ?_ ⟨Kept.refl _ _, rfl⟩
              first | rfl | go_simp
            refine Steps.cons (fun x wf Kk hq hdep hold => ?_) ?_
            · try dsimp only
              have h10 : x 10 = (.pointer (some ⟨b, o + k * 35, none⟩)) := hdep 10 (by kernel_rfl)
              have h7 : x 7 = (.bool false) := hdep 7 (by kernel_rfl)
              clear hq hdep hold
              simp only [h10, h7]
              clear h10 h7
              rw [if_pos (by rfl)]
              refine OpY.val (v := (.pointer (some ⟨b, o + k * 35 + 1, none⟩))) ?_ ⟨Kept.refl _ _, rfl⟩
              first | rfl | go_simp
            refine Steps.cons (fun x wf Kk hq hdep hold => ?_) ?_
            · try dsimp only
              have h11 : x 11 = (.pointer (some ⟨b, o + k * 35 + 1, none⟩)) := hdep 11 (by kernel_rfl)
              have h7 : x 7 = (.bool false) := hdep 7 (by kernel_rfl)
              clear hq hdep hold
              simp only [h11, h7]
              clear h11 h7
              have cv := Kk.undrew.cell c1.out id
              rw [if_pos (by rfl)]
              refine OpY.val (v := (.int .i64 e.kind)) ?_ ⟨Kept.refl _ _, rfl⟩
              first | rfl | go_simp
            refine Steps.cons (fun x wf Kk hq hdep hold => ?_) ?_
            · try dsimp only
              have h12 : x 12 = (.int .i64 e.kind) := hdep 12 (by kernel_rfl)
              have h7 : x 7 = (.bool false) := hdep 7 (by kernel_rfl)
              clear hq hdep hold
              simp only [h12, h7]
              clear h12 h7
              rw [if_pos (by rfl)]
              refine OpY.val (v := (.bool true)) ?_ ⟨Kept.refl _ _, rfl⟩
              first | rfl | go_simp
            refine Steps.cons (fun x wf Kk hq hdep hold => ?_) ?_
            · try dsimp only
              have h7 : x 7 = (.bool false) := hdep 7 (by kernel_rfl)
              have h13 : x 13 = (.bool true) := hdep 13 (by kernel_rfl)
              clear hq hdep hold
              simp only [h7, h13]
              clear h7 h13
              rw [if_pos (by rfl)]
              refine OpY.val (v := (.bool true)) ?_ ⟨Kept.refl _ _, rfl⟩
              first | rfl | go_simp
            refine Steps.cons (fun x wf Kk hq hdep hold => ?_) ?_
            · try dsimp only
              have h14 : x 14 = (.bool true) := hdep 14 (by kernel_rfl)
              clear hq hdep hold
              simp only [h14]
              clear h14
              rw [if_pos (by rfl)]
              refine OpY.val (v := (.bool true)) ?_ ⟨Kept.refl _ _, rfl⟩
              first | rfl | go_simp
            refine Steps.cons (fun x wf Kk hq hdep hold => ?_) ?_
            · try dsimp only
              have h15 : x 15 = (.bool true) := hdep 15 (by kernel_rfl)
              clear hq hdep hold
              simp only [h15]
              clear h15
              first | rw [if_neg (by decide)] | rw [if_neg (by intro h; exact absurd (h.symm.trans (show Region.wanted _ _ = false from rfl)) (by decide))]
              exact rfl
            refine Steps.cons (fun x wf Kk hq hdep hold => ?_) ?_
            · try dsimp only
              have h15 : x 15 = (.bool true) := hdep 15 (by kernel_rfl)
              clear hq hdep hold
              simp only [h15]
              clear h15
              first | rw [if_neg (by decide)] | rw [if_neg (by intro h; exact absurd (h.symm.trans (show Region.wanted _ _ = false from rfl)) (by decide))]
              exact rfl
            refine Steps.cons (fun x wf Kk hq hdep hold => ?_) ?_
            · try dsimp only
              have h15 : x 15 = (.bool true) := hdep 15 (by kernel_rfl)
              clear hq hdep hold
              simp only [h15]
              clear h15
              first | rw [if_neg (by decide)] | rw [if_neg (by intro h; exact absurd (h.symm.trans (show Region.wanted _ _ = false from rfl)) (by decide))]
              exact rfl
            refine Steps.cons (fun x wf Kk hq hdep hold => ?_) ?_
            · try dsimp only
              have h15 : x 15 = (.bool true) := hdep 15 (by kernel_rfl)
              clear hq hdep hold
              simp only [h15]
              clear h15
              first | rw [if_neg (by decide)] | rw [if_neg (by intro h; exact absurd (h.symm.trans (show Region.wanted _ _ = false from rfl)) (by decide))]
              exact rfl
            refine Steps.cons (fun x wf Kk hq hdep hold => ?_) ?_
            · try dsimp only
              have h15 : x 15 = (.bool true) := hdep 15 (by kernel_rfl)
              clear hq hdep hold
              simp only [h15]
              clear h15
              first | rw [if_neg (by decide)] | rw [if_neg (by intro h; exact absurd (h.symm.trans (show Region.wanted _ _ = false from rfl)) (by decide))]
              exact rfl
            refine Steps.cons (fun x wf Kk hq hdep hold => ?_) ?_
            · try dsimp only
              have h15 : x 15 = (.bool true) := hdep 15 (by kernel_rfl)
              clear hq hdep hold
              simp only [h15]
              clear h15
              first | rw [if_neg (by decide)] | rw [if_neg (by intro h; exact absurd (h.symm.trans (show Region.wanted _ _ = false from rfl)) (by decide))]
              exact rfl
            refine Steps.cons (fun x wf Kk hq hdep hold => ?_) ?_
            · try dsimp only
              have h15 : x 15 = (.bool true) := hdep 15 (by kernel_rfl)
              have h21 : x 21 = undef := hdep 21 (by kernel_rfl)
              clear hq hdep hold
              simp only [h15, h21]
              clear h15 h21
              rw [if_pos (by rfl)]
              refine OpY.val (v := (.bool true)) ?_ ⟨Kept.refl _ _, rfl⟩
              first | rfl | go_simp
            refine Steps.cons (fun x wf Kk hq hdep hold => ?_) ?_
            · try dsimp only
              have h22 : x 22 = (.bool true) := hdep 22 (by kernel_rfl)
              clear hq hdep hold
              simp only [h22]
              clear h22
              rw [if_pos (by rfl)]
              refine OpY.val (v := (.bool true)) ?_ ⟨Kept.refl _ _, rfl⟩
              first | rfl | go_simp
            refine Steps.cons (fun x wf Kk hq hdep hold => ?_) ?_
            · try dsimp only
              have h23 : x 23 = (.bool true) := hdep 23 (by kernel_rfl)
              clear hq hdep hold
              simp only [h23]
              clear h23
              first | rw [if_neg (by decide)] | rw [if_neg (by intro h; exact absurd (h.symm.trans (show Region.wanted _ _ = false from rfl)) (by decide))]
              exact rfl
            refine Steps.cons (fun x wf Kk hq hdep hold => ?_) ?_
            · try dsimp only
              have h23 : x 23 = (.bool true) := hdep 23 (by kernel_rfl)
              clear hq hdep hold
              simp only [h23]
              clear h23
              first | rw [if_neg (by decide)] | rw [if_neg (by intro h; exact absurd (h.symm.trans (show Region.wanted _ _ = false from rfl)) (by decide))]
              exact rfl
            refine Steps.cons (fun x wf Kk hq hdep hold => ?_) ?_
            · try dsimp only
              have h23 : x 23 = (.bool true) := hdep 23 (by kernel_rfl)
              clear hq hdep hold
              simp only [h23]
              clear h23
              first | rw [if_neg (by decide)] | rw [if_neg (by intro h; exact absurd (h.symm.trans (show Region.wanted _ _ = false from rfl)) (by decide))]
              exact rfl
            refine Steps.cons (fun x wf Kk hq hdep hold => ?_) ?_
            · try dsimp only
              have h23 : x 23 = (.bool true) := hdep 23 (by kernel_rfl)
              clear hq hdep hold
              simp only [h23]
              clear h23
              first | rw [if_neg (by decide)] | rw [if_neg (by intro h; exact absurd (h.symm.trans (show Region.wanted _ _ = false from rfl)) (by decide))]
              exact rfl
            refine Steps.cons (fun x wf Kk hq hdep hold => ?_) ?_
            · try dsimp only
              have h23 : x 23 = (.bool true) := hdep 23 (by kernel_rfl)
              clear hq hdep hold
              simp only [h23]
              clear h23
              first | rw [if_neg (by decide)] | rw [if_neg (by intro h; exact absurd (h.symm.trans (show Region.wanted _ _ = false from rfl)) (by decide))]
              exact rfl
            refine Steps.cons (fun x wf Kk hq hdep hold => ?_) ?_
            · try dsimp only
              have h23 : x 23 = (.bool true) := hdep 23 (by kernel_rfl)
              clear hq hdep hold
              simp only [h23]
              clear h23
              first | rw [if_neg (by decide)] | rw [if_neg (by intro h; exact absurd (h.symm.trans (show Region.wanted _ _ = false from rfl)) (by decide))]
              exact rfl
            refine Steps.cons (fun x wf Kk hq hdep hold => ?_) ?_
            · try dsimp only
              have h23 : x 23 = (.bool true) := hdep 23 (by kernel_rfl)
              clear hq hdep hold
              simp only [h23]
              clear h23
              first | rw [if_neg (by decide)] | rw [if_neg (by intro h; exact absurd (h.symm.trans (show Region.wanted _ _ = false from rfl)) (by decide))]
              exact rfl
            refine Steps.cons (fun x wf Kk hq hdep hold => ?_) ?_
            · try dsimp only
              have h23 : x 23 = (.bool true) := hdep 23 (by kernel_rfl)
              have h30 : x 30 = undef := hdep 30 (by kernel_rfl)
              clear hq hdep hold
              simp only [h23, h30]
              clear h23 h30
              rw [if_pos (by rfl)]
              refine OpY.val (v := (.bool true)) ?_ ⟨Kept.refl _ _, rfl⟩
              first | rfl | go_simp
            exact Steps.nil _
          · intro x wf Kk hv
            try dsimp only
            have h0 : x 0 = (.slice (some ⟨b, o, none⟩) n cap) := hv 0 (by kernel_rfl)
            have h1 : x 1 = (.int .i64 (k : Int)) := hv 1 (by kernel_rfl)
            have h2 : x 2 = (.pointer (some ⟨b, o + k * 35, none⟩)) := hv 2 (by kernel_rfl)
            have h3 : x 3 = (.pointer (some ⟨b, o + k * 35, none⟩)) := hv 3 (by kernel_rfl)
            have h4 : x 4 = (.int .i64 e.number) := hv 4 (by kernel_rfl)
            have h5 : x 5 = (.int .i64 (k : Int)) := hv 5 (by kernel_rfl)
            have h6 : x 6 = (.bool false) := hv 6 (by kernel_rfl)
            have h7 : x 7 = (.bool false) := hv 7 (by kernel_rfl)
            have h8 : x 8 = (.slice (some ⟨b, o, none⟩) n cap) := hv 8 (by kernel_rfl)
            have h9 : x 9 = (.int .i64 (k : Int)) := hv 9 (by kernel_rfl)
            have h10 : x 10 = (.pointer (some ⟨b, o + k * 35, none⟩)) := hv 10 (by kernel_rfl)
            have h11 : x 11 = (.pointer (some ⟨b, o + k * 35 + 1, none⟩)) := hv 11 (by kernel_rfl)
            have h12 : x 12 = (.int .i64 e.kind) := hv 12 (by kernel_rfl)
            have h13 : x 13 = (.bool true) := hv 13 (by kernel_rfl)
            have h14 : x 14 = (.bool true) := hv 14 (by kernel_rfl)
            have h15 : x 15 = (.bool true) := hv 15 (by kernel_rfl)
            have h16 : x 16 = undef := hv 16 (by kernel_rfl)
            have h17 : x 17 = undef := hv 17 (by kernel_rfl)
            have h18 : x 18 = undef := hv 18 (by kernel_rfl)
            have h19 : x 19 = undef := hv 19 (by kernel_rfl)
            have h20 : x 20 = undef := hv 20 (by kernel_rfl)
            have h21 : x 21 = undef := hv 21 (by kernel_rfl)
            have h22 : x 22 = (.bool true) := hv 22 (by kernel_rfl)
            have h23 : x 23 = (.bool true) := hv 23 (by kernel_rfl)
            have h24 : x 24 = undef := hv 24 (by kernel_rfl)
            have h25 : x 25 = undef := hv 25 (by kernel_rfl)
            have h26 : x 26 = undef := hv 26 (by kernel_rfl)
            have h27 : x 27 = undef := hv 27 (by kernel_rfl)
            have h28 : x 28 = undef := hv 28 (by kernel_rfl)
            have h29 : x 29 = undef := hv 29 (by kernel_rfl)
            have h30 : x 30 = undef := hv 30 (by kernel_rfl)
            have h31 : x 31 = (.bool true) := hv 31 (by kernel_rfl)
            clear hv
            simp only [h0, h1, h2, h3, h4, h5, h6, h7, h8, h9, h10, h11, h12, h13, h14, h15, h16, h17, h18, h19, h20, h21, h22, h23, h24, h25, h26, h27, h28, h29, h30, h31]
            clear h0 h1 h2 h3 h4 h5 h6 h7 h8 h9 h10 h11 h12 h13 h14 h15 h16 h17 h18 h19 h20 h21 h22 h23 h24 h25 h26 h27 h28 h29 h30 h31
            have kz := hid (K3.out.trans' Kk.undrew)
            clear Kk
            go_wp2_with fail
            go_ret
            exact ⟨by rw [hv.out]; rfl, kz.out⟩
        by_cases h10 : 10 < e.kind
        case pos =>
          have hv : Hd (chk Z32l 0 (ents ps) = k) := ⟨by rw [hch'.out, if_neg (fun h => by have := h.2.1; unfold poss at this; simp at this; omega)]⟩
          clear hch'
          refine region_flow (S := no) (Sl := (fun _ => no)) [Is (.slice (some ⟨b, o, none⟩) n cap), Is (.int .i64 (k : Int)), Is (.pointer (some ⟨b, o + k * 35, none⟩)), Is (.pointer (some ⟨b, o + k * 35, none⟩)), Is (.int .i64 e.number), Is (.int .i64 (k : Int)), Is (.bool false), Is (.bool false), Is (.slice (some ⟨b, o, none⟩) n cap), Is (.int .i64 (k : Int)), Is (.pointer (some ⟨b, o + k * 35, none⟩)), Is (.pointer (some ⟨b, o + k * 35 + 1, none⟩)), Is (.int .i64 e.kind), Is (.bool false), Is (.bool false), Is (.bool false), Is (.slice (some ⟨b, o, none⟩) n cap), Is (.int .i64 (k : Int)), Is (.pointer (some ⟨b, o + k * 35, none⟩)), Is (.pointer (some ⟨b, o + k * 35 + 1, none⟩)), Is (.int .i64 e.kind), Is (.bool true), Is (.bool true), Is (.bool true), Is undef, Is undef, Is undef, Is undef, Is undef, Is undef, Is undef, Is (.bool true)] [] (fun _ _ h => h) _ (by kernel_rfl) (by kernel_rfl) (by kernel_rfl) (by kernel_rfl) (fun x => by simp only [puts, Act.put, List.map_cons, List.map_nil, Nat.zero_add, Nat.reduceAdd, List.setIfInBounds_toArray, List.set_cons_zero, List.set_cons_succ]; exact rfl) ?_ ?_
          · skip
            refine Steps.cons (fun x wf Kk hq hdep hold => ?_) ?_
            · try dsimp only
              clear hq hdep hold
              rw [if_pos (by rfl)]
              refine OpY.val (v := (.slice (some ⟨b, o, none⟩) n cap)) ?_ ⟨Kept.refl _ _, rfl⟩
              first | rfl | go_simp
            refine Steps.cons (fun x wf Kk hq hdep hold => ?_) ?_
            · try dsimp only
              clear hq hdep hold
              rw [if_pos (by rfl)]
              refine OpY.val (v := (.int .i64 (k : Int))) ?_ ⟨Kept.refl _ _, rfl⟩
              first | rfl | go_simp
            refine Steps.cons (fun x wf Kk hq hdep hold => ?_) ?_
            · try dsimp only
              have h0 : x 0 = (.slice (some ⟨b, o, none⟩) n cap) := hdep 0 (by kernel_rfl)
              have h1 : x 1 = (.int .i64 (k : Int)) := hdep 1 (by kernel_rfl)
              clear hq hdep hold
              simp only [h0, h1]
              clear h0 h1
              rw [if_pos (by rfl)]
              refine OpY.val (v := (.pointer (some ⟨b, o + k * 35, none⟩))) ?_ ⟨Kept.refl _ _, rfl⟩
              first | rfl | go_simp
            refine Steps.cons (fun x wf Kk hq hdep hold => ?_) ?_
            · try dsimp only
              have h2 : x 2 = (.pointer (some ⟨b, o + k * 35, none⟩)) := hdep 2 (by kernel_rfl)
              clear hq hdep hold
              simp only [h2]
              clear h2
              rw [if_pos (by rfl)]
              refine OpY.val (v := (.pointer (some ⟨b, o + k * 35, none⟩))) ?_ ⟨Kept.refl _ _, rfl⟩
              first | rfl | go_simp
            refine Steps.cons (fun x wf Kk hq hdep hold => ?_) ?_
            · try dsimp only
              have h3 : x 3 = (.pointer (some ⟨b, o + k * 35, none⟩)) := hdep 3 (by kernel_rfl)
              clear hq hdep hold
              simp only [h3]
              clear h3
              have cv := Kk.undrew.cell c0.out id
              rw [if_pos (by rfl)]
              refine OpY.val (v := (.int .i64 e.number)) ?_ ⟨Kept.refl _ _, rfl⟩
              first | rfl | go_simp
            refine Steps.cons (fun x wf Kk hq hdep hold => ?_) ?_
            · try dsimp only
              clear hq hdep hold
              rw [if_pos (by rfl)]
              refine OpY.val (v := (.int .i64 (k : Int))) ?_ ⟨Kept.refl _ _, rfl⟩
              first | rfl | go_simp
            refine Steps.cons (fun x wf Kk hq hdep hold => ?_) ?_
            · try dsimp only
              have h4 : x 4 = (.int .i64 e.number) := hdep 4 (by kernel_rfl)
              have h5 : x 5 = (.int .i64 (k : Int)) := hdep 5 (by kernel_rfl)
              clear hq hdep hold
              simp only [h4, h5]
              clear h4 h5
              rw [if_pos (by rfl)]
              refine OpY.val (v := (.bool false)) ?_ ⟨Kept.refl _ _, rfl⟩
              first | rfl | go_simp
            refine Steps.cons (fun x wf Kk hq hdep hold => ?_) ?_
            · try dsimp only
              have h6 : x 6 = (.bool false) := hdep 6 (by kernel_rfl)
              clear hq hdep hold
              simp only [h6]
              clear h6
              rw [if_pos (by rfl)]
              refine OpY.val (v := (.bool false)) ?_ ⟨Kept.refl _ _, rfl⟩
              first | rfl | go_simp
            refine Steps.cons (fun x wf Kk hq hdep hold => ?_) ?_
            · try dsimp only
              have h7 : x 7 = (.bool false) := hdep 7 (by kernel_rfl)
              clear hq hdep hold
              simp only [h7]
              clear h7
              rw [if_pos (by rfl)]
              refine OpY.val (v := (.slice (some ⟨b, o, none⟩) n cap)) ?_ ⟨Kept.refl _ _, rfl⟩
              first | rfl | go_simp
            refine Steps.cons (fun x wf Kk hq hdep hold => ?_) ?_
            · try dsimp only
              have h7 : x 7 = (.bool false) := hdep 7 (by kernel_rfl)
              clear hq hdep hold
              simp only [h7]
              clear h7
              rw [if_pos (by rfl)]
              refine OpY.val (v := (.int .i64 (k : Int))) ?_ ⟨Kept.refl _ _, rfl⟩
              first | rfl | go_simp
            refine Steps.cons (fun x wf Kk hq hdep hold => ?_) ?_
            · try dsimp only
              have h8 : x 8 = (.slice (some ⟨b, o, none⟩) n cap) := hdep 8 (by kernel_rfl)
              have h9 : x 9 = (.int .i64 (k : Int)) := hdep 9 (by kernel_rfl)
              have h7 : x 7 = (.bool false) := hdep 7 (by kernel_rfl)
              clear hq hdep hold
              simp only [h8, h9, h7]
              clear h8 h9 h7
              rw [if_pos (by rfl)]
              refine OpY.val (v := (.pointer (some ⟨b, o + k * 35, none⟩))) ?_ ⟨Kept.refl _ _, rfl⟩
              first | rfl | go_simp
            refine Steps.cons (fun x wf Kk hq hdep hold => ?_) ?_
            · try dsimp only
              have h10 : x 10 = (.pointer (some ⟨b, o + k * 35, none⟩)) := hdep 10 (by kernel_rfl)
              have h7 : x 7 = (.bool false) := hdep 7 (by kernel_rfl)
              clear hq hdep hold
              simp only [h10, h7]
              clear h10 h7
              rw [if_pos (by rfl)]
              refine OpY.val (v := (.pointer (some ⟨b, o + k * 35 + 1, none⟩))) ?_ ⟨Kept.refl _ _, rfl⟩
              first | rfl | go_simp
            refine Steps.cons (fun x wf Kk hq hdep hold => ?_) ?_
            · try dsimp only
              have h11 : x 11 = (.pointer (some ⟨b, o + k * 35 + 1, none⟩)) := hdep 11 (by kernel_rfl)
              have h7 : x 7 = (.bool false) := hdep 7 (by kernel_rfl)
              clear hq hdep hold
              simp only [h11, h7]
              clear h11 h7
              have cv := Kk.undrew.cell c1.out id
              rw [if_pos (by rfl)]
              refine OpY.val (v := (.int .i64 e.kind)) ?_ ⟨Kept.refl _ _, rfl⟩
              first | rfl | go_simp
            refine Steps.cons (fun x wf Kk hq hdep hold => ?_) ?_
            · try dsimp only
              have h12 : x 12 = (.int .i64 e.kind) := hdep 12 (by kernel_rfl)
              have h7 : x 7 = (.bool false) := hdep 7 (by kernel_rfl)
              clear hq hdep hold
              simp only [h12, h7]
              clear h12 h7
              rw [if_pos (by rfl)]
              refine OpY.val (v := (.bool false)) ?_ ⟨Kept.refl _ _, rfl⟩
              first | rfl | go_simp
            refine Steps.cons (fun x wf Kk hq hdep hold => ?_) ?_
            · try dsimp only
              have h7 : x 7 = (.bool false) := hdep 7 (by kernel_rfl)
              have h13 : x 13 = (.bool false) := hdep 13 (by kernel_rfl)
              clear hq hdep hold
              simp only [h7, h13]
              clear h7 h13
              rw [if_pos (by rfl)]
              refine OpY.val (v := (.bool false)) ?_ ⟨Kept.refl _ _, rfl⟩
              first | rfl | go_simp
            refine Steps.cons (fun x wf Kk hq hdep hold => ?_) ?_
            · try dsimp only
              have h14 : x 14 = (.bool false) := hdep 14 (by kernel_rfl)
              clear hq hdep hold
              simp only [h14]
              clear h14
              rw [if_pos (by rfl)]
              refine OpY.val (v := (.bool false)) ?_ ⟨Kept.refl _ _, rfl⟩
              first | rfl | go_simp
            refine Steps.cons (fun x wf Kk hq hdep hold => ?_) ?_
            · try dsimp only
              have h15 : x 15 = (.bool false) := hdep 15 (by kernel_rfl)
              clear hq hdep hold
              simp only [h15]
              clear h15
              rw [if_pos (by rfl)]
              refine OpY.val (v := (.slice (some ⟨b, o, none⟩) n cap)) ?_ ⟨Kept.refl _ _, rfl⟩
              first | rfl | go_simp
            refine Steps.cons (fun x wf Kk hq hdep hold => ?_) ?_
            · try dsimp only
              have h15 : x 15 = (.bool false) := hdep 15 (by kernel_rfl)
              clear hq hdep hold
              simp only [h15]
              clear h15
              rw [if_pos (by rfl)]
              refine OpY.val (v := (.int .i64 (k : Int))) ?_ ⟨Kept.refl _ _, rfl⟩
              first | rfl | go_simp
            refine Steps.cons (fun x wf Kk hq hdep hold => ?_) ?_
            · try dsimp only
              have h16 : x 16 = (.slice (some ⟨b, o, none⟩) n cap) := hdep 16 (by kernel_rfl)
              have h17 : x 17 = (.int .i64 (k : Int)) := hdep 17 (by kernel_rfl)
              have h15 : x 15 = (.bool false) := hdep 15 (by kernel_rfl)
              clear hq hdep hold
              simp only [h16, h17, h15]
              clear h16 h17 h15
              rw [if_pos (by rfl)]
              refine OpY.val (v := (.pointer (some ⟨b, o + k * 35, none⟩))) ?_ ⟨Kept.refl _ _, rfl⟩
              first | rfl | go_simp
            refine Steps.cons (fun x wf Kk hq hdep hold => ?_) ?_
            · try dsimp only
              have h18 : x 18 = (.pointer (some ⟨b, o + k * 35, none⟩)) := hdep 18 (by kernel_rfl)
              have h15 : x 15 = (.bool false) := hdep 15 (by kernel_rfl)
              clear hq hdep hold
              simp only [h18, h15]
              clear h18 h15
              rw [if_pos (by rfl)]
              refine OpY.val (v := (.pointer (some ⟨b, o + k * 35 + 1, none⟩))) ?_ ⟨Kept.refl _ _, rfl⟩
              first | rfl | go_simp
            refine Steps.cons (fun x wf Kk hq hdep hold => ?_) ?_
            · try dsimp only
              have h19 : x 19 = (.pointer (some ⟨b, o + k * 35 + 1, none⟩)) := hdep 19 (by kernel_rfl)
              have h15 : x 15 = (.bool false) := hdep 15 (by kernel_rfl)
              clear hq hdep hold
              simp only [h19, h15]
              clear h19 h15
              have cv := Kk.undrew.cell c1.out id
              rw [if_pos (by rfl)]
              refine OpY.val (v := (.int .i64 e.kind)) ?_ ⟨Kept.refl _ _, rfl⟩
              first | rfl | go_simp
            refine Steps.cons (fun x wf Kk hq hdep hold => ?_) ?_
            · try dsimp only
              have h20 : x 20 = (.int .i64 e.kind) := hdep 20 (by kernel_rfl)
              have h15 : x 15 = (.bool false) := hdep 15 (by kernel_rfl)
              clear hq hdep hold
              simp only [h20, h15]
              clear h20 h15
              rw [if_pos (by rfl)]
              refine OpY.val (v := (.bool true)) ?_ ⟨Kept.refl _ _, rfl⟩
              first | rfl | go_simp
            refine Steps.cons (fun x wf Kk hq hdep hold => ?_) ?_
            · try dsimp only
              have h15 : x 15 = (.bool false) := hdep 15 (by kernel_rfl)
              have h21 : x 21 = (.bool true) := hdep 21 (by kernel_rfl)
              clear hq hdep hold
              simp only [h15, h21]
              clear h15 h21
              rw [if_pos (by rfl)]
              refine OpY.val (v := (.bool true)) ?_ ⟨Kept.refl _ _, rfl⟩
              first | rfl | go_simp
            refine Steps.cons (fun x wf Kk hq hdep hold => ?_) ?_
            · try dsimp only
              have h22 : x 22 = (.bool true) := hdep 22 (by kernel_rfl)
              clear hq hdep hold
              simp only [h22]
              clear h22
              rw [if_pos (by rfl)]
              refine OpY.val (v := (.bool true)) ?_ ⟨Kept.refl _ _, rfl⟩
              first | rfl | go_simp
            refine Steps.cons (fun x wf Kk hq hdep hold => ?_) ?_
            · try dsimp only
              have h23 : x 23 = (.bool true) := hdep 23 (by kernel_rfl)
              clear hq hdep hold
              simp only [h23]
              clear h23
              first | rw [if_neg (by decide)] | rw [if_neg (by intro h; exact absurd (h.symm.trans (show Region.wanted _ _ = false from rfl)) (by decide))]
              exact rfl
            refine Steps.cons (fun x wf Kk hq hdep hold => ?_) ?_
            · try dsimp only
              have h23 : x 23 = (.bool true) := hdep 23 (by kernel_rfl)
              clear hq hdep hold
              simp only [h23]
              clear h23
              first | rw [if_neg (by decide)] | rw [if_neg (by intro h; exact absurd (h.symm.trans (show Region.wanted _ _ = false from rfl)) (by decide))]
              exact rfl
            refine Steps.cons (fun x wf Kk hq hdep hold => ?_) ?_
            · try dsimp only
              have h23 : x 23 = (.bool true) := hdep 23 (by kernel_rfl)
              clear hq hdep hold
              simp only [h23]
              clear h23
              first | rw [if_neg (by decide)] | rw [if_neg (by intro h; exact absurd (h.symm.trans (show Region.wanted _ _ = false from rfl)) (by decide))]
              exact rfl
            refine Steps.cons (fun x wf Kk hq hdep hold => ?_) ?_
            · try dsimp only
              have h23 : x 23 = (.bool true) := hdep 23 (by kernel_rfl)
              clear hq hdep hold
              simp only [h23]
              clear h23
              first | rw [if_neg (by decide)] | rw [if_neg (by intro h; exact absurd (h.symm.trans (show Region.wanted _ _ = false from rfl)) (by decide))]
              exact rfl
            refine Steps.cons (fun x wf Kk hq hdep hold => ?_) ?_
            · try dsimp only
              have h23 : x 23 = (.bool true) := hdep 23 (by kernel_rfl)
              clear hq hdep hold
              simp only [h23]
              clear h23
              first | rw [if_neg (by decide)] | rw [if_neg (by intro h; exact absurd (h.symm.trans (show Region.wanted _ _ = false from rfl)) (by decide))]
              exact rfl
            refine Steps.cons (fun x wf Kk hq hdep hold => ?_) ?_
            · try dsimp only
              have h23 : x 23 = (.bool true) := hdep 23 (by kernel_rfl)
              clear hq hdep hold
              simp only [h23]
              clear h23
              first | rw [if_neg (by decide)] | rw [if_neg (by intro h; exact absurd (h.symm.trans (show Region.wanted _ _ = false from rfl)) (by decide))]
              exact rfl
            refine Steps.cons (fun x wf Kk hq hdep hold => ?_) ?_
            · try dsimp only
              have h23 : x 23 = (.bool true) := hdep 23 (by kernel_rfl)
              clear hq hdep hold
              simp only [h23]
              clear h23
              first | rw [if_neg (by decide)] | rw [if_neg (by intro h; exact absurd (h.symm.trans (show Region.wanted _ _ = false from rfl)) (by decide))]
              exact rfl
            refine Steps.cons (fun x wf Kk hq hdep hold => ?_) ?_
            · try dsimp only
              have h23 : x 23 = (.bool true) := hdep 23 (by kernel_rfl)
              have h30 : x 30 = undef := hdep 30 (by kernel_rfl)
              clear hq hdep hold
              simp only [h23, h30]
              clear h23 h30
              rw [if_pos (by rfl)]
              refine OpY.val (v := (.bool true)) ?_ ⟨Kept.refl _ _, rfl⟩
              first | rfl | go_simp
            exact Steps.nil _
          · intro x wf Kk hv
            try dsimp only
            have h0 : x 0 = (.slice (some ⟨b, o, none⟩) n cap) := hv 0 (by kernel_rfl)
            have h1 : x 1 = (.int .i64 (k : Int)) := hv 1 (by kernel_rfl)
            have h2 : x 2 = (.pointer (some ⟨b, o + k * 35, none⟩)) := hv 2 (by kernel_rfl)
            have h3 : x 3 = (.pointer (some ⟨b, o + k * 35, none⟩)) := hv 3 (by kernel_rfl)
            have h4 : x 4 = (.int .i64 e.number) := hv 4 (by kernel_rfl)
            have h5 : x 5 = (.int .i64 (k : Int)) := hv 5 (by kernel_rfl)
            have h6 : x 6 = (.bool false) := hv 6 (by kernel_rfl)
            have h7 : x 7 = (.bool false) := hv 7 (by kernel_rfl)
            have h8 : x 8 = (.slice (some ⟨b, o, none⟩) n cap) := hv 8 (by kernel_rfl)
            have h9 : x 9 = (.int .i64 (k : Int)) := hv 9 (by kernel_rfl)
            have h10 : x 10 = (.pointer (some ⟨b, o + k * 35, none⟩)) := hv 10 (by kernel_rfl)
            have h11 : x 11 = (.pointer (some ⟨b, o + k * 35 + 1, none⟩)) := hv 11 (by kernel_rfl)
            have h12 : x 12 = (.int .i64 e.kind) := hv 12 (by kernel_rfl)
            have h13 : x 13 = (.bool false) := hv 13 (by kernel_rfl)
            have h14 : x 14 = (.bool false) := hv 14 (by kernel_rfl)
            have h15 : x 15 = (.bool false) := hv 15 (by kernel_rfl)
            have h16 : x 16 = (.slice (some ⟨b, o, none⟩) n cap) := hv 16 (by kernel_rfl)
            have h17 : x 17 = (.int .i64 (k : Int)) := hv 17 (by kernel_rfl)
            have h18 : x 18 = (.pointer (some ⟨b, o + k * 35, none⟩)) := hv 18 (by kernel_rfl)
            have h19 : x 19 = (.pointer (some ⟨b, o + k * 35 + 1, none⟩)) := hv 19 (by kernel_rfl)
            have h20 : x 20 = (.int .i64 e.kind) := hv 20 (by kernel_rfl)
            have h21 : x 21 = (.bool true) := hv 21 (by kernel_rfl)
            have h22 : x 22 = (.bool true) := hv 22 (by kernel_rfl)
            have h23 : x 23 = (.bool true) := hv 23 (by kernel_rfl)
            have h24 : x 24 = undef := hv 24 (by kernel_rfl)
            have h25 : x 25 = undef := hv 25 (by kernel_rfl)
            have h26 : x 26 = undef := hv 26 (by kernel_rfl)
            have h27 : x 27 = undef := hv 27 (by kernel_rfl)
            have h28 : x 28 = undef := hv 28 (by kernel_rfl)
            have h29 : x 29 = undef := hv 29 (by kernel_rfl)
            have h30 : x 30 = undef := hv 30 (by kernel_rfl)
            have h31 : x 31 = (.bool true) := hv 31 (by kernel_rfl)
            clear hv
            simp only [h0, h1, h2, h3, h4, h5, h6, h7, h8, h9, h10, h11, h12, h13, h14, h15, h16, h17, h18, h19, h20, h21, h22, h23, h24, h25, h26, h27, h28, h29, h30, h31]
            clear h0 h1 h2 h3 h4 h5 h6 h7 h8 h9 h10 h11 h12 h13 h14 h15 h16 h17 h18 h19 h20 h21 h22 h23 h24 h25 h26 h27 h28 h29 h30 h31
            have kz := hid (K3.out.trans' Kk.undrew)
            clear Kk
            go_wp2_with fail
            go_ret
            exact ⟨by rw [hv.out]; rfl, kz.out⟩
        by_cases hpe : e.prev = prev
        case neg =>
          have hne := neqDg e.prev prev hok.out.1 hpl.out true (by simpa using hpe)
          have hv : Hd (chk Z32l 0 (ents ps) = k) := ⟨by rw [hch'.out, if_neg (fun h => hpe (h.2.2.trans hpv.out.symm))]⟩
          clear hch'
          refine region_flow (S := no) (Sl := (fun _ => no)) [Is (.slice (some ⟨b, o, none⟩) n cap), Is (.int .i64 (k : Int)), Is (.pointer (some ⟨b, o + k * 35, none⟩)), Is (.pointer (some ⟨b, o + k * 35, none⟩)), Is (.int .i64 e.number), Is (.int .i64 (k : Int)), Is (.bool false), Is (.bool false), Is (.slice (some ⟨b, o, none⟩) n cap), Is (.int .i64 (k : Int)), Is (.pointer (some ⟨b, o + k * 35, none⟩)), Is (.pointer (some ⟨b, o + k * 35 + 1, none⟩)), Is (.int .i64 e.kind), Is (.bool false), Is (.bool false), Is (.bool false), Is (.slice (some ⟨b, o, none⟩) n cap), Is (.int .i64 (k : Int)), Is (.pointer (some ⟨b, o + k * 35, none⟩)), Is (.pointer (some ⟨b, o + k * 35 + 1, none⟩)), Is (.int .i64 e.kind), Is (.bool false), Is (.bool false), Is (.bool false), Is (.slice (some ⟨b, o, none⟩) n cap), Is (.int .i64 (k : Int)), Is (.pointer (some ⟨b, o + k * 35, none⟩)), Is (.pointer (some ⟨b, o + k * 35 + 3, none⟩)), Is (Dg e.prev), Is (Dg prev), Is (.bool true), Is (.bool true)] [] (fun _ _ h => h) _ (by kernel_rfl) (by kernel_rfl) (by kernel_rfl) (by kernel_rfl) (fun x => by simp only [puts, Act.put, List.map_cons, List.map_nil, Nat.zero_add, Nat.reduceAdd, List.setIfInBounds_toArray, List.set_cons_zero, List.set_cons_succ]; exact rfl) ?_ ?_
          · skip
            refine Steps.cons (fun x wf Kk hq hdep hold => ?_) ?_
            · try dsimp only
              clear hq hdep hold
              rw [if_pos (by rfl)]
              refine OpY.val (v := (.slice (some ⟨b, o, none⟩) n cap)) ?_ ⟨Kept.refl _ _, rfl⟩
              first | rfl | go_simp
            refine Steps.cons (fun x wf Kk hq hdep hold => ?_) ?_
            · try dsimp only
              clear hq hdep hold
              rw [if_pos (by rfl)]
              refine OpY.val (v := (.int .i64 (k : Int))) ?_ ⟨Kept.refl _ _, rfl⟩
              first | rfl | go_simp
            refine Steps.cons (fun x wf Kk hq hdep hold => ?_) ?_
            · try dsimp only
              have h0 : x 0 = (.slice (some ⟨b, o, none⟩) n cap) := hdep 0 (by kernel_rfl)
              have h1 : x 1 = (.int .i64 (k : Int)) := hdep 1 (by kernel_rfl)
              clear hq hdep hold
              simp only [h0, h1]
              clear h0 h1
              rw [if_pos (by rfl)]
              refine OpY.val (v := (.pointer (some ⟨b, o + k * 35, none⟩))) ?_ ⟨Kept.refl _ _, rfl⟩
              first | rfl | go_simp
            refine Steps.cons (fun x wf Kk hq hdep hold => ?_) ?_
            · try dsimp only
              have h2 : x 2 = (.pointer (some ⟨b, o + k * 35, none⟩)) := hdep 2 (by kernel_rfl)
              clear hq hdep hold
              simp only [h2]
              clear h2
              rw [if_pos (by rfl)]
              refine OpY.val (v := (.pointer (some ⟨b, o + k * 35, none⟩))) ?_ ⟨Kept.refl _ _, rfl⟩
              first | rfl | go_simp
            refine Steps.cons (fun x wf Kk hq hdep hold => ?_) ?_
            · try dsimp only
              have h3 : x 3 = (.pointer (some ⟨b, o + k * 35, none⟩)) := hdep 3 (by kernel_rfl)
              clear hq hdep hold
              simp only [h3]
              clear h3
              have cv := Kk.undrew.cell c0.out id
              rw [if_pos (by rfl)]
              refine OpY.val (v := (.int .i64 e.number)) ?_ ⟨Kept.refl _ _, rfl⟩
              first | rfl | go_simp
            refine Steps.cons (fun x wf Kk hq hdep hold => ?_) ?_
            · try dsimp only
              clear hq hdep hold
              rw [if_pos (by rfl)]
              refine OpY.val (v := (.int .i64 (k : Int))) ?_ ⟨Kept.refl _ _, rfl⟩
              first | rfl | go_simp
            refine Steps.cons (fun x wf Kk hq hdep hold => ?_) ?_
            · try dsimp only
              have h4 : x 4 = (.int .i64 e.number) := hdep 4 (by kernel_rfl)
              have h5 : x 5 = (.int .i64 (k : Int)) := hdep 5 (by kernel_rfl)
              clear hq hdep hold
              simp only [h4, h5]
              clear h4 h5
              rw [if_pos (by rfl)]
              refine OpY.val (v := (.bool false)) ?_ ⟨Kept.refl _ _, rfl⟩
              first | rfl | go_simp
            refine Steps.cons (fun x wf Kk hq hdep hold => ?_) ?_
            · try dsimp only
              have h6 : x 6 = (.bool false) := hdep 6 (by kernel_rfl)
              clear hq hdep hold
              simp only [h6]
              clear h6
              rw [if_pos (by rfl)]
              refine OpY.val (v := (.bool false)) ?_ ⟨Kept.refl _ _, rfl⟩
              first | rfl | go_simp
            refine Steps.cons (fun x wf Kk hq hdep hold => ?_) ?_
            · try dsimp only
              have h7 : x 7 = (.bool false) := hdep 7 (by kernel_rfl)
              clear hq hdep hold
              simp only [h7]
              clear h7
              rw [if_pos (by rfl)]
              refine OpY.val (v := (.slice (some ⟨b, o, none⟩) n cap)) ?_ ⟨Kept.refl _ _, rfl⟩
              first | rfl | go_simp
            refine Steps.cons (fun x wf Kk hq hdep hold => ?_) ?_
            · try dsimp only
              have h7 : x 7 = (.bool false) := hdep 7 (by kernel_rfl)
              clear hq hdep hold
              simp only [h7]
              clear h7
              rw [if_pos (by rfl)]
              refine OpY.val (v := (.int .i64 (k : Int))) ?_ ⟨Kept.refl _ _, rfl⟩
              first | rfl | go_simp
            refine Steps.cons (fun x wf Kk hq hdep hold => ?_) ?_
            · try dsimp only
              have h8 : x 8 = (.slice (some ⟨b, o, none⟩) n cap) := hdep 8 (by kernel_rfl)
              have h9 : x 9 = (.int .i64 (k : Int)) := hdep 9 (by kernel_rfl)
              have h7 : x 7 = (.bool false) := hdep 7 (by kernel_rfl)
              clear hq hdep hold
              simp only [h8, h9, h7]
              clear h8 h9 h7
              rw [if_pos (by rfl)]
              refine OpY.val (v := (.pointer (some ⟨b, o + k * 35, none⟩))) ?_ ⟨Kept.refl _ _, rfl⟩
              first | rfl | go_simp
            refine Steps.cons (fun x wf Kk hq hdep hold => ?_) ?_
            · try dsimp only
              have h10 : x 10 = (.pointer (some ⟨b, o + k * 35, none⟩)) := hdep 10 (by kernel_rfl)
              have h7 : x 7 = (.bool false) := hdep 7 (by kernel_rfl)
              clear hq hdep hold
              simp only [h10, h7]
              clear h10 h7
              rw [if_pos (by rfl)]
              refine OpY.val (v := (.pointer (some ⟨b, o + k * 35 + 1, none⟩))) ?_ ⟨Kept.refl _ _, rfl⟩
              first | rfl | go_simp
            refine Steps.cons (fun x wf Kk hq hdep hold => ?_) ?_
            · try dsimp only
              have h11 : x 11 = (.pointer (some ⟨b, o + k * 35 + 1, none⟩)) := hdep 11 (by kernel_rfl)
              have h7 : x 7 = (.bool false) := hdep 7 (by kernel_rfl)
              clear hq hdep hold
              simp only [h11, h7]
              clear h11 h7
              have cv := Kk.undrew.cell c1.out id
              rw [if_pos (by rfl)]
              refine OpY.val (v := (.int .i64 e.kind)) ?_ ⟨Kept.refl _ _, rfl⟩
              first | rfl | go_simp
            refine Steps.cons (fun x wf Kk hq hdep hold => ?_) ?_
            · try dsimp only
              have h12 : x 12 = (.int .i64 e.kind) := hdep 12 (by kernel_rfl)
              have h7 : x 7 = (.bool false) := hdep 7 (by kernel_rfl)
              clear hq hdep hold
              simp only [h12, h7]
              clear h12 h7
              rw [if_pos (by rfl)]
              refine OpY.val (v := (.bool false)) ?_ ⟨Kept.refl _ _, rfl⟩
              first | rfl | go_simp
            refine Steps.cons (fun x wf Kk hq hdep hold => ?_) ?_
            · try dsimp only
              have h7 : x 7 = (.bool false) := hdep 7 (by kernel_rfl)
              have h13 : x 13 = (.bool false) := hdep 13 (by kernel_rfl)
              clear hq hdep hold
              simp only [h7, h13]
              clear h7 h13
              rw [if_pos (by rfl)]
              refine OpY.val (v := (.bool false)) ?_ ⟨Kept.refl _ _, rfl⟩
              first | rfl | go_simp
            refine Steps.cons (fun x wf Kk hq hdep hold => ?_) ?_
            · try dsimp only
              have h14 : x 14 = (.bool false) := hdep 14 (by kernel_rfl)
              clear hq hdep hold
              simp only [h14]
              clear h14
              rw [if_pos (by rfl)]
              refine OpY.val (v := (.bool false)) ?_ ⟨Kept.refl _ _, rfl⟩
              first | rfl | go_simp
            refine Steps.cons (fun x wf Kk hq hdep hold => ?_) ?_
            · try dsimp only
              have h15 : x 15 = (.bool false) := hdep 15 (by kernel_rfl)
              clear hq hdep hold
              simp only [h15]
              clear h15
              rw [if_pos (by rfl)]
              refine OpY.val (v := (.slice (some ⟨b, o, none⟩) n cap)) ?_ ⟨Kept.refl _ _, rfl⟩
              first | rfl | go_simp
            refine Steps.cons (fun x wf Kk hq hdep hold => ?_) ?_
            · try dsimp only
              have h15 : x 15 = (.bool false) := hdep 15 (by kernel_rfl)
              clear hq hdep hold
              simp only [h15]
              clear h15
              rw [if_pos (by rfl)]
              refine OpY.val (v := (.int .i64 (k : Int))) ?_ ⟨Kept.refl _ _, rfl⟩
              first | rfl | go_simp
            refine Steps.cons (fun x wf Kk hq hdep hold => ?_) ?_
            · try dsimp only
              have h16 : x 16 = (.slice (some ⟨b, o, none⟩) n cap) := hdep 16 (by kernel_rfl)
              have h17 : x 17 = (.int .i64 (k : Int)) := hdep 17 (by kernel_rfl)
              have h15 : x 15 = (.bool false) := hdep 15 (by kernel_rfl)
              clear hq hdep hold
              simp only [h16, h17, h15]
              clear h16 h17 h15
              rw [if_pos (by rfl)]
              refine OpY.val (v := (.pointer (some ⟨b, o + k * 35, none⟩))) ?_ ⟨Kept.refl _ _, rfl⟩
              first | rfl | go_simp
            refine Steps.cons (fun x wf Kk hq hdep hold => ?_) ?_
            · try dsimp only
              have h18 : x 18 = (.pointer (some ⟨b, o + k * 35, none⟩)) := hdep 18 (by kernel_rfl)
              have h15 : x 15 = (.bool false) := hdep 15 (by kernel_rfl)
              clear hq hdep hold
              simp only [h18, h15]
              clear h18 h15
              rw [if_pos (by rfl)]
              refine OpY.val (v := (.pointer (some ⟨b, o + k * 35 + 1, none⟩))) ?_ ⟨Kept.refl _ _, rfl⟩
              first | rfl | go_simp
            refine Steps.cons (fun x wf Kk hq hdep hold => ?_) ?_
            · try dsimp only
              have h19 : x 19 = (.pointer (some ⟨b, o + k * 35 + 1, none⟩)) := hdep 19 (by kernel_rfl)
              have h15 : x 15 = (.bool false) := hdep 15 (by kernel_rfl)
              clear hq hdep hold
              simp only [h19, h15]
              clear h19 h15
              have cv := Kk.undrew.cell c1.out id
              rw [if_pos (by rfl)]
              refine OpY.val (v := (.int .i64 e.kind)) ?_ ⟨Kept.refl _ _, rfl⟩
              first | rfl | go_simp
            refine Steps.cons (fun x wf Kk hq hdep hold => ?_) ?_
            · try dsimp only
              have h20 : x 20 = (.int .i64 e.kind) := hdep 20 (by kernel_rfl)
              have h15 : x 15 = (.bool false) := hdep 15 (by kernel_rfl)
              clear hq hdep hold
              simp only [h20, h15]
              clear h20 h15
              rw [if_pos (by rfl)]
              refine OpY.val (v := (.bool false)) ?_ ⟨Kept.refl _ _, rfl⟩
              first | rfl | go_simp
            refine Steps.cons (fun x wf Kk hq hdep hold => ?_) ?_
            · try dsimp only
              have h15 : x 15 = (.bool false) := hdep 15 (by kernel_rfl)
              have h21 : x 21 = (.bool false) := hdep 21 (by kernel_rfl)
              clear hq hdep hold
              simp only [h15, h21]
              clear h15 h21
              rw [if_pos (by rfl)]
              refine OpY.val (v := (.bool false)) ?_ ⟨Kept.refl _ _, rfl⟩
              first | rfl | go_simp
            refine Steps.cons (fun x wf Kk hq hdep hold => ?_) ?_
            · try dsimp only
              have h22 : x 22 = (.bool false) := hdep 22 (by kernel_rfl)
              clear hq hdep hold
              simp only [h22]
              clear h22
              rw [if_pos (by rfl)]
              refine OpY.val (v := (.bool false)) ?_ ⟨Kept.refl _ _, rfl⟩
              first | rfl | go_simp
            refine Steps.cons (fun x wf Kk hq hdep hold => ?_) ?_
            · try dsimp only
              have h23 : x 23 = (.bool false) := hdep 23 (by kernel_rfl)
              clear hq hdep hold
              simp only [h23]
              clear h23
              rw [if_pos (by rfl)]
              refine OpY.val (v := (.slice (some ⟨b, o, none⟩) n cap)) ?_ ⟨Kept.refl _ _, rfl⟩
              first | rfl | go_simp
            refine Steps.cons (fun x wf Kk hq hdep hold => ?_) ?_
            · try dsimp only
              have h23 : x 23 = (.bool false) := hdep 23 (by kernel_rfl)
              clear hq hdep hold
              simp only [h23]
              clear h23
              rw [if_pos (by rfl)]
              refine OpY.val (v := (.int .i64 (k : Int))) ?_ ⟨Kept.refl _ _, rfl⟩
              first | rfl | go_simp
            refine Steps.cons (fun x wf Kk hq hdep hold => ?_) ?_
            · try dsimp only
              have h24 : x 24 = (.slice (some ⟨b, o, none⟩) n cap) := hdep 24 (by kernel_rfl)
              have h25 : x 25 = (.int .i64 (k : Int)) := hdep 25 (by kernel_rfl)
              have h23 : x 23 = (.bool false) := hdep 23 (by kernel_rfl)
              clear hq hdep hold
              simp only [h24, h25, h23]
              clear h24 h25 h23
              rw [if_pos (by rfl)]
              refine OpY.val (v := (.pointer (some ⟨b, o + k * 35, none⟩))) ?_ ⟨Kept.refl _ _, rfl⟩
              first | rfl | go_simp
            refine Steps.cons (fun x wf Kk hq hdep hold => ?_) ?_
            · try dsimp only
              have h26 : x 26 = (.pointer (some ⟨b, o + k * 35, none⟩)) := hdep 26 (by kernel_rfl)
              have h23 : x 23 = (.bool false) := hdep 23 (by kernel_rfl)
              clear hq hdep hold
              simp only [h26, h23]
              clear h26 h23
              rw [if_pos (by rfl)]
              refine OpY.val (v := (.pointer (some ⟨b, o + k * 35 + 3, none⟩))) ?_ ⟨Kept.refl _ _, rfl⟩
              first | rfl | go_simp
            refine Steps.cons (fun x wf Kk hq hdep hold => ?_) ?_
            · try dsimp only
              have h27 : x 27 = (.pointer (some ⟨b, o + k * 35 + 3, none⟩)) := hdep 27 (by kernel_rfl)
              have h23 : x 23 = (.bool false) := hdep 23 (by kernel_rfl)
              clear hq hdep hold
              simp only [h27, h23]
              clear h27 h23
              rw [if_pos (by rfl)]
              exact OpY.row 26 (.tmp 51) rfl b (o + k * 35 + 3) rfl (e.prev.map B) _ (Kk.undrew.rng c3.out) Tryd.underlying26 rfl (infDl hok.out.1) ⟨Kept.refl _ _, rfl⟩
            refine Steps.cons (fun x wf Kk hq hdep hold => ?_) ?_
            · try dsimp only
              have h23 : x 23 = (.bool false) := hdep 23 (by kernel_rfl)
              clear hq hdep hold
              simp only [h23]
              clear h23
              rw [if_pos (by rfl)]
              exact OpY.row 26 (.tmp 4) rfl q4 0 rfl (prev.map B) _ (range_row (Kk.undrew.blk g4.out)) Tryd.underlying26 rfl (infDl hpl.out) ⟨Kept.refl _ _, rfl⟩
            refine Steps.cons (fun x wf Kk hq hdep hold => ?_) ?_
            · try dsimp only
              have h28 : x 28 = (Dg e.prev) := hdep 28 (by kernel_rfl)
              have h29 : x 29 = (Dg prev) := hdep 29 (by kernel_rfl)
              have h23 : x 23 = (.bool false) := hdep 23 (by kernel_rfl)
              clear hq hdep hold
              simp only [h28, h29, h23]
              clear h28 h29 h23
              rw [if_pos (by rfl)]
              refine OpY.val (v := (.bool true)) ?_ ⟨Kept.refl _ _, rfl⟩
              have heq' := hne
              unfold Dg at heq' ⊢
              generalize e.prev.map B = LM at heq' ⊢
              generalize prev.map B = LL at heq' ⊢
              clear hne
              go_simp
            refine Steps.cons (fun x wf Kk hq hdep hold => ?_) ?_
            · try dsimp only
              have h23 : x 23 = (.bool false) := hdep 23 (by kernel_rfl)
              have h30 : x 30 = (.bool true) := hdep 30 (by kernel_rfl)
              clear hq hdep hold
              simp only [h23, h30]
              clear h23 h30
              rw [if_pos (by rfl)]
              refine OpY.val (v := (.bool true)) ?_ ⟨Kept.refl _ _, rfl⟩
              first | rfl | go_simp
            exact Steps.nil _
          · intro x wf Kk hv
            try dsimp only
            have h0 : x 0 = (.slice (some ⟨b, o, none⟩) n cap) := hv 0 (by kernel_rfl)
            have h1 : x 1 = (.int .i64 (k : Int)) := hv 1 (by kernel_rfl)
            have h2 : x 2 = (.pointer (some ⟨b, o + k * 35, none⟩)) := hv 2 (by kernel_rfl)
            have h3 : x 3 = (.pointer (some ⟨b, o + k * 35, none⟩)) := hv 3 (by kernel_rfl)
            have h4 : x 4 = (.int .i64 e.number) := hv 4 (by kernel_rfl)
            have h5 : x 5 = (.int .i64 (k : Int)) := hv 5 (by kernel_rfl)
            have h6 : x 6 = (.bool false) := hv 6 (by kernel_rfl)
            have h7 : x 7 = (.bool false) := hv 7 (by kernel_rfl)
            have h8 : x 8 = (.slice (some ⟨b, o, none⟩) n cap) := hv 8 (by kernel_rfl)
            have h9 : x 9 = (.int .i64 (k : Int)) := hv 9 (by kernel_rfl)
            have h10 : x 10 = (.pointer (some ⟨b, o + k * 35, none⟩)) := hv 10 (by kernel_rfl)
            have h11 : x 11 = (.pointer (some ⟨b, o + k * 35 + 1, none⟩)) := hv 11 (by kernel_rfl)
            have h12 : x 12 = (.int .i64 e.kind) := hv 12 (by kernel_rfl)
            have h13 : x 13 = (.bool false) := hv 13 (by kernel_rfl)
            have h14 : x 14 = (.bool false) := hv 14 (by kernel_rfl)
            have h15 : x 15 = (.bool false) := hv 15 (by kernel_rfl)
            have h16 : x 16 = (.slice (some ⟨b, o, none⟩) n cap) := hv 16 (by kernel_rfl)
            have h17 : x 17 = (.int .i64 (k : Int)) := hv 17 (by kernel_rfl)
            have h18 : x 18 = (.pointer (some ⟨b, o + k * 35, none⟩)) := hv 18 (by kernel_rfl)
            have h19 : x 19 = (.pointer (some ⟨b, o + k * 35 + 1, none⟩)) := hv 19 (by kernel_rfl)
            have h20 : x 20 = (.int .i64 e.kind) := hv 20 (by kernel_rfl)
            have h21 : x 21 = (.bool false) := hv 21 (by kernel_rfl)
            have h22 : x 22 = (.bool false) := hv 22 (by kernel_rfl)
            have h23 : x 23 = (.bool false) := hv 23 (by kernel_rfl)
            have h24 : x 24 = (.slice (some ⟨b, o, none⟩) n cap) := hv 24 (by kernel_rfl)
            have h25 : x 25 = (.int .i64 (k : Int)) := hv 25 (by kernel_rfl)
            have h26 : x 26 = (.pointer (some ⟨b, o + k * 35, none⟩)) := hv 26 (by kernel_rfl)
            have h27 : x 27 = (.pointer (some ⟨b, o + k * 35 + 3, none⟩)) := hv 27 (by kernel_rfl)
            have h28 : x 28 = (Dg e.prev) := hv 28 (by kernel_rfl)
            have h29 : x 29 = (Dg prev) := hv 29 (by kernel_rfl)
            have h30 : x 30 = (.bool true) := hv 30 (by kernel_rfl)
            have h31 : x 31 = (.bool true) := hv 31 (by kernel_rfl)
            clear hv
            simp only [h0, h1, h2, h3, h4, h5, h6, h7, h8, h9, h10, h11, h12, h13, h14, h15, h16, h17, h18, h19, h20, h21, h22, h23, h24, h25, h26, h27, h28, h29, h30, h31]
            clear h0 h1 h2 h3 h4 h5 h6 h7 h8 h9 h10 h11 h12 h13 h14 h15 h16 h17 h18 h19 h20 h21 h22 h23 h24 h25 h26 h27 h28 h29 h30 h31
            have kz := hid (K3.out.trans' Kk.undrew)
            clear Kk
            go_wp2_with fail
            go_ret
            exact ⟨by rw [hv.out]; rfl, kz.out⟩
        have hne := neqDg e.prev prev hok.out.1 hpl.out false (by simpa using hpe)
        have hv : Hd (chk Z32l 0 (ents ps) = chk (pvD (ents ps) (k + 1)) (k + 1) ((ents ps).drop (k + 1))) := ⟨by rw [hch'.out, if_pos ⟨hnum, by unfold poss; simp; omega, hpe.trans hpv.out⟩, hpv1.out]⟩
        clear hch'
        refine region_flow (S := no) (Sl := (fun _ => no)) [Is (.slice (some ⟨b, o, none⟩) n cap), Is (.int .i64 (k : Int)), Is (.pointer (some ⟨b, o + k * 35, none⟩)), Is (.pointer (some ⟨b, o + k * 35, none⟩)), Is (.int .i64 e.number), Is (.int .i64 (k : Int)), Is (.bool false), Is (.bool false), Is (.slice (some ⟨b, o, none⟩) n cap), Is (.int .i64 (k : Int)), Is (.pointer (some ⟨b, o + k * 35, none⟩)), Is (.pointer (some ⟨b, o + k * 35 + 1, none⟩)), Is (.int .i64 e.kind), Is (.bool false), Is (.bool false), Is (.bool false), Is (.slice (some ⟨b, o, none⟩) n cap), Is (.int .i64 (k : Int)), Is (.pointer (some ⟨b, o + k * 35, none⟩)), Is (.pointer (some ⟨b, o + k * 35 + 1, none⟩)), Is (.int .i64 e.kind), Is (.bool false), Is (.bool false), Is (.bool false), Is (.slice (some ⟨b, o, none⟩) n cap), Is (.int .i64 (k : Int)), Is (.pointer (some ⟨b, o + k * 35, none⟩)), Is (.pointer (some ⟨b, o + k * 35 + 3, none⟩)), Is (Dg e.prev), Is (Dg prev), Is (.bool false), Is (.bool false)] [] (fun _ _ h => h) _ (by kernel_rfl) (by kernel_rfl) (by kernel_rfl) (by kernel_rfl) (fun x => by simp only [puts, Act.put, List.map_cons, List.map_nil, Nat.zero_add, Nat.reduceAdd, List.setIfInBounds_toArray, List.set_cons_zero, List.set_cons_succ]; exact rfl) ?_ ?_
        · skip
          refine Steps.cons (fun x wf Kk hq hdep hold => ?_) ?_
          · try dsimp only
            clear hq hdep hold
            rw [if_pos (by rfl)]
            refine OpY.val (v := (.slice (some ⟨b, o, none⟩) n cap)) ?_ ⟨Kept.refl _ _, rfl⟩
            first | rfl | go_simp
          refine Steps.cons (fun x wf Kk hq hdep hold => ?_) ?_
          · try dsimp only
            clear hq hdep hold
            rw [if_pos (by rfl)]
            refine OpY.val (v := (.int .i64 (k : Int))) ?_ ⟨Kept.refl _ _, rfl⟩
            first | rfl | go_simp
          refine Steps.cons (fun x wf Kk hq hdep hold => ?_) ?_
          · try dsimp only
            have h0 : x 0 = (.slice (some ⟨b, o, none⟩) n cap) := hdep 0 (by kernel_rfl)
            have h1 : x 1 = (.int .i64 (k : Int)) := hdep 1 (by kernel_rfl)
            clear hq hdep hold
            simp only [h0, h1]
            clear h0 h1
            rw [if_pos (by rfl)]
            refine OpY.val (v := (.pointer (some ⟨b, o + k * 35, none⟩))) ?_ ⟨Kept.refl _ _, rfl⟩
            first | rfl | go_simp
          refine Steps.cons (fun x wf Kk hq hdep hold => ?_) ?_
          · try dsimp only
            have h2 : x 2 = (.pointer (some ⟨b, o + k * 35, none⟩)) := hdep 2 (by kernel_rfl)
            clear hq hdep hold
            simp only [h2]
            clear h2
            rw [if_pos (by rfl)]
            refine OpY.val (v := (.pointer (some ⟨b, o + k * 35, none⟩))) ?_ ⟨Kept.refl _ _, rfl⟩
            first | rfl | go_simp
          refine Steps.cons (fun x wf Kk hq hdep hold => ?_) ?_
          · try dsimp only
            have h3 : x 3 = (.pointer (some ⟨b, o + k * 35, none⟩)) := hdep 3 (by kernel_rfl)
            clear hq hdep hold
            simp only [h3]
            clear h3
            have cv := Kk.undrew.cell c0.out id
            rw [if_pos (by rfl)]
            refine OpY.val (v := (.int .i64 e.number)) ?_ ⟨Kept.refl _ _, rfl⟩
            first | rfl | go_simp
          refine Steps.cons (fun x wf Kk hq hdep hold => ?_) ?_
          · try dsimp only
            clear hq hdep hold
            rw [if_pos (by rfl)]
            refine OpY.val (v := (.int .i64 (k : Int))) ?_ ⟨Kept.refl _ _, rfl⟩
            first | rfl | go_simp
          refine Steps.cons (fun x wf Kk hq hdep hold => ?_) ?_
          · try dsimp only
            have h4 : x 4 = (.int .i64 e.number) := hdep 4 (by kernel_rfl)
            have h5 : x 5 = (.int .i64 (k : Int)) := hdep 5 (by kernel_rfl)
            clear hq hdep hold
            simp only [h4, h5]
            clear h4 h5
            rw [if_pos (by rfl)]
            refine OpY.val (v := (.bool false)) ?_ ⟨Kept.refl _ _, rfl⟩
            first | rfl | go_simp
          refine Steps.cons (fun x wf Kk hq hdep hold => ?_) ?_
          · try dsimp only
            have h6 : x 6 = (.bool false) := hdep 6 (by kernel_rfl)
            clear hq hdep hold
            simp only [h6]
            clear h6
            rw [if_pos (by rfl)]
            refine OpY.val (v := (.bool false)) ?_ ⟨Kept.refl _ _, rfl⟩
            first | rfl | go_simp
          refine Steps.cons (fun x wf Kk hq hdep hold => ?_) ?_
          · try dsimp only
            have h7 : x 7 = (.bool false) := hdep 7 (by kernel_rfl)
            clear hq hdep hold
            simp only [h7]
            clear h7
            rw [if_pos (by rfl)]
            refine OpY.val (v := (.slice (some ⟨b, o, none⟩) n cap)) ?_ ⟨Kept.refl _ _, rfl⟩
            first | rfl | go_simp
          refine Steps.cons (fun x wf Kk hq hdep hold => ?_) ?_
          · try dsimp only
            have h7 : x 7 = (.bool false) := hdep 7 (by kernel_rfl)
            clear hq hdep hold
            simp only [h7]
            clear h7
            rw [if_pos (by rfl)]
            refine OpY.val (v := (.int .i64 (k : Int))) ?_ ⟨Kept.refl _ _, rfl⟩
            first | rfl | go_simp
          refine Steps.cons (fun x wf Kk hq hdep hold => ?_) ?_
          · try dsimp only
            have h8 : x 8 = (.slice (some ⟨b, o, none⟩) n cap) := hdep 8 (by kernel_rfl)
            have h9 : x 9 = (.int .i64 (k : Int)) := hdep 9 (by kernel_rfl)
            have h7 : x 7 = (.bool false) := hdep 7 (by kernel_rfl)
            clear hq hdep hold
            simp only [h8, h9, h7]
            clear h8 h9 h7
            rw [if_pos (by rfl)]
            refine OpY.val (v := (.pointer (some ⟨b, o + k * 35, none⟩))) ?_ ⟨Kept.refl _ _, rfl⟩
            first | rfl | go_simp
          refine Steps.cons (fun x wf Kk hq hdep hold => ?_) ?_
          · try dsimp only
            have h10 : x 10 = (.pointer (some ⟨b, o + k * 35, none⟩)) := hdep 10 (by kernel_rfl)
            have h7 : x 7 = (.bool false) := hdep 7 (by kernel_rfl)
            clear hq hdep hold
            simp only [h10, h7]
            clear h10 h7
            rw [if_pos (by rfl)]
            refine OpY.val (v := (.pointer (some ⟨b, o + k * 35 + 1, none⟩))) ?_ ⟨Kept.refl _ _, rfl⟩
            first | rfl | go_simp
          refine Steps.cons (fun x wf Kk hq hdep hold => ?_) ?_
          · try dsimp only
            have h11 : x 11 = (.pointer (some ⟨b, o + k * 35 + 1, none⟩)) := hdep 11 (by kernel_rfl)
            have h7 : x 7 = (.bool false) := hdep 7 (by kernel_rfl)
            clear hq hdep hold
            simp only [h11, h7]
            clear h11 h7
            have cv := Kk.undrew.cell c1.out id
            rw [if_pos (by rfl)]
            refine OpY.val (v := (.int .i64 e.kind)) ?_ ⟨Kept.refl _ _, rfl⟩
            first | rfl | go_simp
          refine Steps.cons (fun x wf Kk hq hdep hold => ?_) ?_
          · try dsimp only
            have h12 : x 12 = (.int .i64 e.kind) := hdep 12 (by kernel_rfl)
            have h7 : x 7 = (.bool false) := hdep 7 (by kernel_rfl)
            clear hq hdep hold
            simp only [h12, h7]
            clear h12 h7
            rw [if_pos (by rfl)]
            refine OpY.val (v := (.bool false)) ?_ ⟨Kept.refl _ _, rfl⟩
            first | rfl | go_simp
          refine Steps.cons (fun x wf Kk hq hdep hold => ?_) ?_
          · try dsimp only
            have h7 : x 7 = (.bool false) := hdep 7 (by kernel_rfl)
            have h13 : x 13 = (.bool false) := hdep 13 (by kernel_rfl)
            clear hq hdep hold
            simp only [h7, h13]
            clear h7 h13
            rw [if_pos (by rfl)]
            refine OpY.val (v := (.bool false)) ?_ ⟨Kept.refl _ _, rfl⟩
            first | rfl | go_simp
          refine Steps.cons (fun x wf Kk hq hdep hold => ?_) ?_
          · try dsimp only
            have h14 : x 14 = (.bool false) := hdep 14 (by kernel_rfl)
            clear hq hdep hold
            simp only [h14]
            clear h14
            rw [if_pos (by rfl)]
            refine OpY.val (v := (.bool false)) ?_ ⟨Kept.refl _ _, rfl⟩
            first | rfl | go_simp
          refine Steps.cons (fun x wf Kk hq hdep hold => ?_) ?_
          · try dsimp only
            have h15 : x 15 = (.bool false) := hdep 15 (by kernel_rfl)
            clear hq hdep hold
            simp only [h15]
            clear h15
            rw [if_pos (by rfl)]
            refine OpY.val (v := (.slice (some ⟨b, o, none⟩) n cap)) ?_ ⟨Kept.refl _ _, rfl⟩
            first | rfl | go_simp
          refine Steps.cons (fun x wf Kk hq hdep hold => ?_) ?_
          · try dsimp only
            have h15 : x 15 = (.bool false) := hdep 15 (by kernel_rfl)
            clear hq hdep hold
            simp only [h15]
            clear h15
            rw [if_pos (by rfl)]
            refine OpY.val (v := (.int .i64 (k : Int))) ?_ ⟨Kept.refl _ _, rfl⟩
            first | rfl | go_simp
          refine Steps.cons (fun x wf Kk hq hdep hold => ?_) ?_
          · try dsimp only
            have h16 : x 16 = (.slice (some ⟨b, o, none⟩) n cap) := hdep 16 (by kernel_rfl)
            have h17 : x 17 = (.int .i64 (k : Int)) := hdep 17 (by kernel_rfl)
            have h15 : x 15 = (.bool false) := hdep 15 (by kernel_rfl)
            clear hq hdep hold
            simp only [h16, h17, h15]
            clear h16 h17 h15
            rw [if_pos (by rfl)]
            refine OpY.val (v := (.pointer (some ⟨b, o + k * 35, none⟩))) ?_ ⟨Kept.refl _ _, rfl⟩
            first | rfl | go_simp
          refine Steps.cons (fun x wf Kk hq hdep hold => ?_) ?_
          · try dsimp only
            have h18 : x 18 = (.pointer (some ⟨b, o + k * 35, none⟩)) := hdep 18 (by kernel_rfl)
            have h15 : x 15 = (.bool false) := hdep 15 (by kernel_rfl)
            clear hq hdep hold
            simp only [h18, h15]
            clear h18 h15
            rw [if_pos (by rfl)]
            refine OpY.val (v := (.pointer (some ⟨b, o + k * 35 + 1, none⟩))) ?_ ⟨Kept.refl _ _, rfl⟩
            first | rfl | go_simp
          refine Steps.cons (fun x wf Kk hq hdep hold => ?_) ?_
          · try dsimp only
            have h19 : x 19 = (.pointer (some ⟨b, o + k * 35 + 1, none⟩)) := hdep 19 (by kernel_rfl)
            have h15 : x 15 = (.bool false) := hdep 15 (by kernel_rfl)
            clear hq hdep hold
            simp only [h19, h15]
            clear h19 h15
            have cv := Kk.undrew.cell c1.out id
            rw [if_pos (by rfl)]
            refine OpY.val (v := (.int .i64 e.kind)) ?_ ⟨Kept.refl _ _, rfl⟩
            first | rfl | go_simp
          refine Steps.cons (fun x wf Kk hq hdep hold => ?_) ?_
          · try dsimp only
            have h20 : x 20 = (.int .i64 e.kind) := hdep 20 (by kernel_rfl)
            have h15 : x 15 = (.bool false) := hdep 15 (by kernel_rfl)
            clear hq hdep hold
            simp only [h20, h15]
            clear h20 h15
            rw [if_pos (by rfl)]
            refine OpY.val (v := (.bool false)) ?_ ⟨Kept.refl _ _, rfl⟩
            first | rfl | go_simp
          refine Steps.cons (fun x wf Kk hq hdep hold => ?_) ?_
          · try dsimp only
            have h15 : x 15 = (.bool false) := hdep 15 (by kernel_rfl)
            have h21 : x 21 = (.bool false) := hdep 21 (by kernel_rfl)
            clear hq hdep hold
            simp only [h15, h21]
            clear h15 h21
            rw [if_pos (by rfl)]
            refine OpY.val (v := (.bool false)) ?_ ⟨Kept.refl _ _, rfl⟩
            first | rfl | go_simp
          refine Steps.cons (fun x wf Kk hq hdep hold => ?_) ?_
          · try dsimp only
            have h22 : x 22 = (.bool false) := hdep 22 (by kernel_rfl)
            clear hq hdep hold
            simp only [h22]
            clear h22
            rw [if_pos (by rfl)]
            refine OpY.val (v := (.bool false)) ?_ ⟨Kept.refl _ _, rfl⟩
            first | rfl | go_simp
          refine Steps.cons (fun x wf Kk hq hdep hold => ?_) ?_
          · try dsimp only
            have h23 : x 23 = (.bool false) := hdep 23 (by kernel_rfl)
            clear hq hdep hold
            simp only [h23]
            clear h23
            rw [if_pos (by rfl)]
            refine OpY.val (v := (.slice (some ⟨b, o, none⟩) n cap)) ?_ ⟨Kept.refl _ _, rfl⟩
            first | rfl | go_simp
          refine Steps.cons (fun x wf Kk hq hdep hold => ?_) ?_
          · try dsimp only
            have h23 : x 23 = (.bool false) := hdep 23 (by kernel_rfl)
            clear hq hdep hold
            simp only [h23]
            clear h23
            rw [if_pos (by rfl)]
            refine OpY.val (v := (.int .i64 (k : Int))) ?_ ⟨Kept.refl _ _, rfl⟩
            first | rfl | go_simp
          refine Steps.cons (fun x wf Kk hq hdep hold => ?_) ?_
          · try dsimp only
            have h24 : x 24 = (.slice (some ⟨b, o, none⟩) n cap) := hdep 24 (by kernel_rfl)
            have h25 : x 25 = (.int .i64 (k : Int)) := hdep 25 (by kernel_rfl)
            have h23 : x 23 = (.bool false) := hdep 23 (by kernel_rfl)
            clear hq hdep hold
            simp only [h24, h25, h23]
            clear h24 h25 h23
            rw [if_pos (by rfl)]
            refine OpY.val (v := (.pointer (some ⟨b, o + k * 35, none⟩))) ?_ ⟨Kept.refl _ _, rfl⟩
            first | rfl | go_simp
          refine Steps.cons (fun x wf Kk hq hdep hold => ?_) ?_
          · try dsimp only
            have h26 : x 26 = (.pointer (some ⟨b, o + k * 35, none⟩)) := hdep 26 (by kernel_rfl)
            have h23 : x 23 = (.bool false) := hdep 23 (by kernel_rfl)
            clear hq hdep hold
            simp only [h26, h23]
            clear h26 h23
            rw [if_pos (by rfl)]
            refine OpY.val (v := (.pointer (some ⟨b, o + k * 35 + 3, none⟩))) ?_ ⟨Kept.refl _ _, rfl⟩
            first | rfl | go_simp
          refine Steps.cons (fun x wf Kk hq hdep hold => ?_) ?_
          · try dsimp only
            have h27 : x 27 = (.pointer (some ⟨b, o + k * 35 + 3, none⟩)) := hdep 27 (by kernel_rfl)
            have h23 : x 23 = (.bool false) := hdep 23 (by kernel_rfl)
            clear hq hdep hold
            simp only [h27, h23]
            clear h27 h23
            rw [if_pos (by rfl)]
            exact OpY.row 26 (.tmp 51) rfl b (o + k * 35 + 3) rfl (e.prev.map B) _ (Kk.undrew.rng c3.out) Tryd.underlying26 rfl (infDl hok.out.1) ⟨Kept.refl _ _, rfl⟩
          refine Steps.cons (fun x wf Kk hq hdep hold => ?_) ?_
          · try dsimp only
            have h23 : x 23 = (.bool false) := hdep 23 (by kernel_rfl)
            clear hq hdep hold
            simp only [h23]
            clear h23
            rw [if_pos (by rfl)]
            exact OpY.row 26 (.tmp 4) rfl q4 0 rfl (prev.map B) _ (range_row (Kk.undrew.blk g4.out)) Tryd.underlying26 rfl (infDl hpl.out) ⟨Kept.refl _ _, rfl⟩
          refine Steps.cons (fun x wf Kk hq hdep hold => ?_) ?_
          · try dsimp only
            have h28 : x 28 = (Dg e.prev) := hdep 28 (by kernel_rfl)
            have h29 : x 29 = (Dg prev) := hdep 29 (by kernel_rfl)
            have h23 : x 23 = (.bool false) := hdep 23 (by kernel_rfl)
            clear hq hdep hold
            simp only [h28, h29, h23]
            clear h28 h29 h23
            rw [if_pos (by rfl)]
            refine OpY.val (v := (.bool false)) ?_ ⟨Kept.refl _ _, rfl⟩
            have heq' := hne
            unfold Dg at heq' ⊢
            generalize e.prev.map B = LM at heq' ⊢
            generalize prev.map B = LL at heq' ⊢
            clear hne
            go_simp
          refine Steps.cons (fun x wf Kk hq hdep hold => ?_) ?_
          · try dsimp only
            have h23 : x 23 = (.bool false) := hdep 23 (by kernel_rfl)
            have h30 : x 30 = (.bool false) := hdep 30 (by kernel_rfl)
            clear hq hdep hold
            simp only [h23, h30]
            clear h23 h30
            rw [if_pos (by rfl)]
            refine OpY.val (v := (.bool false)) ?_ ⟨Kept.refl _ _, rfl⟩
            first | rfl | go_simp
          exact Steps.nil _
        · intro x wf Kk hv
          try dsimp only
          have h0 : x 0 = (.slice (some ⟨b, o, none⟩) n cap) := hv 0 (by kernel_rfl)
          have h1 : x 1 = (.int .i64 (k : Int)) := hv 1 (by kernel_rfl)
          have h2 : x 2 = (.pointer (some ⟨b, o + k * 35, none⟩)) := hv 2 (by kernel_rfl)
          have h3 : x 3 = (.pointer (some ⟨b, o + k * 35, none⟩)) := hv 3 (by kernel_rfl)
          have h4 : x 4 = (.int .i64 e.number) := hv 4 (by kernel_rfl)
          have h5 : x 5 = (.int .i64 (k : Int)) := hv 5 (by kernel_rfl)
          have h6 : x 6 = (.bool false) := hv 6 (by kernel_rfl)
          have h7 : x 7 = (.bool false) := hv 7 (by kernel_rfl)
          have h8 : x 8 = (.slice (some ⟨b, o, none⟩) n cap) := hv 8 (by kernel_rfl)
          have h9 : x 9 = (.int .i64 (k : Int)) := hv 9 (by kernel_rfl)
          have h10 : x 10 = (.pointer (some ⟨b, o + k * 35, none⟩)) := hv 10 (by kernel_rfl)
          have h11 : x 11 = (.pointer (some ⟨b, o + k * 35 + 1, none⟩)) := hv 11 (by kernel_rfl)
          have h12 : x 12 = (.int .i64 e.kind) := hv 12 (by kernel_rfl)
          have h13 : x 13 = (.bool false) := hv 13 (by kernel_rfl)
          have h14 : x 14 = (.bool false) := hv 14 (by kernel_rfl)
          have h15 : x 15 = (.bool false) := hv 15 (by kernel_rfl)
          have h16 : x 16 = (.slice (some ⟨b, o, none⟩) n cap) := hv 16 (by kernel_rfl)
          have h17 : x 17 = (.int .i64 (k : Int)) := hv 17 (by kernel_rfl)
          have h18 : x 18 = (.pointer (some ⟨b, o + k * 35, none⟩)) := hv 18 (by kernel_rfl)
          have h19 : x 19 = (.pointer (some ⟨b, o + k * 35 + 1, none⟩)) := hv 19 (by kernel_rfl)
          have h20 : x 20 = (.int .i64 e.kind) := hv 20 (by kernel_rfl)
          have h21 : x 21 = (.bool false) := hv 21 (by kernel_rfl)
          have h22 : x 22 = (.bool false) := hv 22 (by kernel_rfl)
          have h23 : x 23 = (.bool false) := hv 23 (by kernel_rfl)
          have h24 : x 24 = (.slice (some ⟨b, o, none⟩) n cap) := hv 24 (by kernel_rfl)
          have h25 : x 25 = (.int .i64 (k : Int)) := hv 25 (by kernel_rfl)
          have h26 : x 26 = (.pointer (some ⟨b, o + k * 35, none⟩)) := hv 26 (by kernel_rfl)
          have h27 : x 27 = (.pointer (some ⟨b, o + k * 35 + 3, none⟩)) := hv 27 (by kernel_rfl)
          have h28 : x 28 = (Dg e.prev) := hv 28 (by kernel_rfl)
          have h29 : x 29 = (Dg prev) := hv 29 (by kernel_rfl)
          have h30 : x 30 = (.bool false) := hv 30 (by kernel_rfl)
          have h31 : x 31 = (.bool false) := hv 31 (by kernel_rfl)
          clear hv
          simp only [h0, h1, h2, h3, h4, h5, h6, h7, h8, h9, h10, h11, h12, h13, h14, h15, h16, h17, h18, h19, h20, h21, h22, h23, h24, h25, h26, h27, h28, h29, h30, h31]
          clear h0 h1 h2 h3 h4 h5 h6 h7 h8 h9 h10 h11 h12 h13 h14 h15 h16 h17 h18 h19 h20 h21 h22 h23 h24 h25 h26 h27 h28 h29 h30 h31
          have kz := hid (K3.out.trans' Kk.undrew)
          clear Kk K3 hrg3 c0 c1 c3 g4 hok
          go_wp2_with fail
          go_roundw
          case rel => first | exact ⟨k + 1, by omega, by go_num, hv, kz⟩ | ((repeat apply Exists.intro); exact ⟨⟨k + 1, by omega, by go_num, hv, kz⟩, rfl⟩)
          case measure => simp [intOf]; omega
      · have hkz : (0 : Int) < (k : Int) := by omega
        obtain ⟨k1, hkk⟩ : ∃ k1, k = k1 + 1 := ⟨k - 1, by omega⟩
        have hkm : IntKind.i64.wrap ((k : Int) - 1) = (k1 : Int) := by rw [IntWalk.i64_in _ (by omega)]; omega
        have hkm1 : (k1 : Int) < (n : Int) := by omega
        have hkm0 : (0 : Int) ≤ (k1 : Int) := by omega
        obtain ⟨lE, lv, hlast⟩ : ∃ lE lv, ps[k1]'(by rw [hn'.out]; omega) = (lE, lv) := ⟨_, _, rfl⟩
        obtain ⟨bl, ol, ebl, hlr⟩ := (hr.out.kept K1.out).at k1 (by rw [hn'.out]; omega)
        cases ebl
        rw [hlast] at hlr
        have hlo : Hd (OkE w lE lv) := ⟨by have := hr.out.1 (lE, lv) (by rw [← hlast]; exact List.getElem_mem _); exact this⟩
        have hpv : Hd (hashE lE = pvD (ents ps) k) := ⟨by
          have hge : (ents ps)[k1]? = some lE := by simp [ents, hlast, hn'.out, show k1 < n by omega]
          unfold pvD; rw [if_neg hz, hkk, Nat.add_sub_cancel, List.getD_eq_getElem?_getD, hge]; rfl⟩
        replace hlr := hid hlr
        clear hlast hz
        replace hkk := hid hkk
        go_upto_region 6 with fail
        go_wp2_with (with_reducible refine lem rfl _ rfl b (o + k1 * 35) rfl lE lv hlr.out hlo.out ?_)
        refine (refhash_any lE lv w3 (hlo.out.kept K1.out) (hT.out.kept K1.out)).mono ?_
        rintro ed w4 ⟨rfl, k4⟩
        have gp4 := hid (k4.blk g3.out)
        have hps4 : Hd ((Z32l.map B).toArray.size = 32) := ⟨Dg_cells hz32.out⟩
        have hh := hid (hashE_length lE)
        obtain ⟨prev, hprev⟩ : ∃ prev, hashE lE = prev := ⟨_, rfl⟩
        rw [hprev] at hpv hh
        have g5 := hid (setRow_heap w4 q4 _ (prev.map B).toArray _ _ gp4.out)
        have hq4n : Hd (wr.heap.size ≤ q4) := ⟨by rw [hq4.out]; exact Nat.le_refl _⟩
        have K5 := hid ((K1.out.trans' k4).setRow (g := q4) (.inr (Nat.le_trans hK.out.size hq4n.out)) (prev.map B).toArray)
        have KX := hid (((Kept.refl no w3).trans' k4))
        have hrg5 : Hd ((w4.setRow q4 (prev.map B).toArray).rangeAt b (o + k * 35) (entC e vb)) := ⟨(((Kept.refl no wr).trans (K1r.out.trans' k4) fun _ _ h => h).setRow (g := q4) (.inr hq4n.out) (prev.map B).toArray).rng hrg0.out⟩
        clear k4 K1 g3 hlr hlo
        go_upto_region 7 with (with_reducible refine sd rfl _ _ rfl q4 rfl prev rfl _ gp4.out hps4.out hh.out ?_)
        clear hprev hps4 gp4 hkm hkm0 hkm1
        generalize w4.setRow q4 (prev.map B).toArray = w5 at g5 K5 hrg5 ⊢
        obtain ⟨w3, rfl⟩ : ∃ w3 : World, w3 = w5 := ⟨_, rfl⟩
        have K3 := hid K5.out
        have hrg3 := hid hrg5.out
        have hpl := hid hh.out
        have g4 := hid g5.out
        clear K5 hrg5 hh g5
        have c0 : Hd (w3.cell? ⟨b, o + k * 35, none⟩ = some (.int .i64 e.number)) := ⟨hrg3.out 0 _ rfl⟩
        have c1 : Hd (w3.cell? ⟨b, o + k * 35 + 1, none⟩ = some (.int .i64 e.kind)) := ⟨hrg3.out 1 _ rfl⟩
        have c3 := hid (prev_rng hrg3.out)
        by_cases hnum : e.number = (k : Int)
        case neg =>
          have hnb : (e.number != (k : Int)) = true := by simpa using hnum
          have hv : Hd (chk Z32l 0 (ents ps) = k) := ⟨by rw [hch'.out, if_neg (fun h => hnum h.1)]⟩
          clear hch'
          refine region_flow (S := no) (Sl := (fun _ => no)) [Is (.slice (some ⟨b, o, none⟩) n cap), Is (.int .i64 (k : Int)), Is (.pointer (some ⟨b, o + k * 35, none⟩)), Is (.pointer (some ⟨b, o + k * 35, none⟩)), Is (.int .i64 e.number), Is (.int .i64 (k : Int)), Is (.bool true), Is (.bool true), Is undef, Is undef, Is undef, Is undef, Is undef, Is undef, Is (.bool true), Is (.bool true), Is undef, Is undef, Is undef, Is undef, Is undef, Is undef, Is (.bool true), Is (.bool true), Is undef, Is undef, Is undef, Is undef, Is undef, Is undef, Is undef, Is (.bool true)] [] (fun _ _ h => h) _ (by kernel_rfl) (by kernel_rfl) (by kernel_rfl) (by kernel_rfl) (fun x => by simp only [puts, Act.put, List.map_cons, List.map_nil, Nat.zero_add, Nat.reduceAdd, List.setIfInBounds_toArray, List.set_cons_zero, List.set_cons_succ]; exact rfl) ?_ ?_
          · skip
            refine Steps.cons (fun x wf Kk hq hdep hold => ?_) ?_
            · try dsimp only
              clear hq hdep hold
              rw [if_pos (by rfl)]
              refine OpY.val (v := (.slice (some ⟨b, o, none⟩) n cap)) ?_ ⟨Kept.refl _ _, rfl⟩
              first | rfl | go_simp
            refine Steps.cons (fun x wf Kk hq hdep hold => ?_) ?_
            · try dsimp only
              clear hq hdep hold
              rw [if_pos (by rfl)]
              refine OpY.val (v := (.int .i64 (k : Int))) ?_ ⟨Kept.refl _ _, rfl⟩
              first | rfl | go_simp
            refine Steps.cons (fun x wf Kk hq hdep hold => ?_) ?_
            · try dsimp only
              have h0 : x 0 = (.slice (some ⟨b, o, none⟩) n cap) := hdep 0 (by kernel_rfl)
              have h1 : x 1 = (.int .i64 (k : Int)) := hdep 1 (by kernel_rfl)
              clear hq hdep hold
              simp only [h0, h1]
              clear h0 h1
              rw [if_pos (by rfl)]
              refine OpY.val (v := (.pointer (some ⟨b, o + k * 35, none⟩))) ?_ ⟨Kept.refl _ _, rfl⟩
              first | rfl | go_simp
            refine Steps.cons (fun x wf Kk hq hdep hold => ?_) ?_
            · try dsimp only
              have h2 : x 2 = (.pointer (some ⟨b, o + k * 35, none⟩)) := hdep 2 (by kernel_rfl)
              clear hq hdep hold
              simp only [h2]
              clear h2
              rw [if_pos (by rfl)]
              refine OpY.val (v := (.pointer (some ⟨b, o + k * 35, none⟩))) ?_ ⟨Kept.refl _ _, rfl⟩
              first | rfl | go_simp
            refine Steps.cons (fun x wf Kk hq hdep hold => ?_) ?_
            · try dsimp only
              have h3 : x 3 = (.pointer (some ⟨b, o + k * 35, none⟩)) := hdep 3 (by kernel_rfl)
              clear hq hdep hold
              simp only [h3]
              clear h3
              have cv := Kk.undrew.cell c0.out id
              rw [if_pos (by rfl)]
              refine OpY.val (v := (.int .i64 e.number)) ?_ ⟨Kept.refl _ _, rfl⟩
              first | rfl | go_simp
            refine Steps.cons (fun x wf Kk hq hdep hold => ?_) ?_
            · try dsimp only
              clear hq hdep hold
              rw [if_pos (by rfl)]
              refine OpY.val (v := (.int .i64 (k : Int))) ?_ ⟨Kept.refl _ _, rfl⟩
              first | rfl | go_simp
            refine Steps.cons (fun x wf Kk hq hdep hold => ?_) ?_
            · try dsimp only
              have h4 : x 4 = (.int .i64 e.number) := hdep 4 (by kernel_rfl)
              have h5 : x 5 = (.int .i64 (k : Int)) := hdep 5 (by kernel_rfl)
              clear hq hdep hold
              simp only [h4, h5]
              clear h4 h5
              rw [if_pos (by rfl)]
              refine OpY.val (v := (.bool true)) ?_ ⟨Kept.refl _ _, rfl⟩
              first | rfl | go_simp
            refine Steps.cons (fun x wf Kk hq hdep hold => ?_) ?_
            · try dsimp only
              have h6 : x 6 = (.bool true) := hdep 6 (by kernel_rfl)
              clear hq hdep hold
              simp only [h6]
              clear h6
              rw [if_pos (by rfl)]
              refine OpY.val (v := (.bool true)) ?_ ⟨Kept.refl _ _, rfl⟩
              first | rfl | go_simp
            refine Steps.cons (fun x wf Kk hq hdep hold => ?_) ?_
            · try dsimp only
              have h7 : x 7 = (.bool true) := hdep 7 (by kernel_rfl)
              clear hq hdep hold
              simp only [h7]
              clear h7
              first | rw [if_neg (by decide)] | rw [if_neg (by intro h; exact absurd (h.symm.trans (show Region.wanted _ _ = false from rfl)) (by decide))]
              exact rfl
            refine Steps.cons (fun x wf Kk hq hdep hold => ?_) ?_
            · try dsimp only
              have h7 : x 7 = (.bool true) := hdep 7 (by kernel_rfl)
              clear hq hdep hold
              simp only [h7]
              clear h7
              first | rw [if_neg (by decide)] | rw [if_neg (by intro h; exact absurd (h.symm.trans (show Region.wanted _ _ = false from rfl)) (by decide))]
              exact rfl
            refine Steps.cons (fun x wf Kk hq hdep hold => ?_) ?_
            · try dsimp only
              have h7 : x 7 = (.bool true) := hdep 7 (by kernel_rfl)
              clear hq hdep hold
              simp only [h7]
              clear h7
              first | rw [if_neg (by decide)] | rw [if_neg (by intro h; exact absurd (h.symm.trans (show Region.wanted _ _ = false from rfl)) (by decide))]
              exact rfl
            refine Steps.cons (fun x wf Kk hq hdep hold => ?_) ?_
            · try dsimp only
              have h7 : x 7 = (.bool true) := hdep 7 (by kernel_rfl)
              clear hq hdep hold
              simp only [h7]
              clear h7
              first | rw [if_neg (by decide)] | rw [if_neg (by intro h; exact absurd (h.symm.trans (show Region.wanted _ _ = false from rfl)) (by decide))]
              exact rfl
            refine Steps.cons (fun x wf Kk hq hdep hold => ?_) ?_
            · try dsimp only
              have h7 : x 7 = (.bool true) := hdep 7 (by kernel_rfl)
              clear hq hdep hold
              simp only [h7]
              clear h7
              first | rw [if_neg (by decide)] | rw [if_neg (by intro h; exact absurd (h.symm.trans (show Region.wanted _ _ = false from rfl)) (by decide))]
              exact rfl
            refine Steps.cons (fun x wf Kk hq hdep hold => ?_) ?_
            · try dsimp only
              have h7 : x 7 = (.bool true) := hdep 7 (by kernel_rfl)
              clear hq hdep hold
              simp only [h7]
              clear h7
              first | rw [if_neg (by decide)] | rw [if_neg (by intro h; exact absurd (h.symm.trans (show Region.wanted _ _ = false from rfl)) (by decide))]
              exact rfl
            refine Steps.cons (fun x wf Kk hq hdep hold => ?_) ?_
            · try dsimp only
              have h7 : x 7 = (.bool true) := hdep 7 (by kernel_rfl)
              have h13 : x 13 = undef := hdep 13 (by kernel_rfl)
              clear hq hdep hold
              simp only [h7, h13]
              clear h7 h13
              rw [if_pos (by rfl)]
              refine OpY.val (v := (.bool true)) ?_ ⟨Kept.refl _ _, rfl⟩
              first | rfl | go_simp
            refine Steps.cons (fun x wf Kk hq hdep hold => ?_) ?_
            · try dsimp only
              have h14 : x 14 = (.bool true) := hdep 14 (by kernel_rfl)
              clear hq hdep hold
              simp only [h14]
              clear h14
              rw [if_pos (by rfl)]
              refine OpY.val (v := (.bool true)) ?_ ⟨Kept.refl _ _, rfl⟩
              first | rfl | go_simp
            refine Steps.cons (fun x wf Kk hq hdep hold => ?_) ?_
            · try dsimp only
              have h15 : x 15 = (.bool true) := hdep 15 (by kernel_rfl)
              clear hq hdep hold
              simp only [h15]
              clear h15
              first | rw [if_neg (by decide)] | rw [if_neg (by intro h; exact absurd (h.symm.trans (show Region.wanted _ _ = false from rfl)) (by decide))]
              exact rfl
            refine Steps.cons (fun x wf Kk hq hdep hold => ?_) ?_
            · try dsimp only
              have h15 : x 15 = (.bool true) := hdep 15 (by kernel_rfl)
              clear hq hdep hold
              simp only [h15]
              clear h15
              first | rw [if_neg (by decide)] | rw [if_neg (by intro h; exact absurd (h.symm.trans (show Region.wanted _ _ = false from rfl)) (by decide))]
              exact rfl
            refine Steps.cons (fun x wf Kk hq hdep hold => ?_) ?_
            · try dsimp only
              have h15 : x 15 = (.bool true) := hdep 15 (by kernel_rfl)
              clear hq hdep hold
              simp only [h15]
              clear h15
              first | rw [if_neg (by decide)] | rw [if_neg (by intro h; exact absurd (h.symm.trans (show Region.wanted _ _ = false from rfl)) (by decide))]
              exact rfl
            refine Steps.cons (fun x wf Kk hq hdep hold => ?_) ?_
            · try dsimp only
              have h15 : x 15 = (.bool true) := hdep 15 (by kernel_rfl)
              clear hq hdep hold
              simp only [h15]
              clear h15
              first | rw [if_neg (by decide)] | rw [if_neg (by intro h; exact absurd (h.symm.trans (show Region.wanted _ _ = false from rfl)) (by decide))]
              exact rfl
            refine Steps.cons (fun x wf Kk hq hdep hold => ?_) ?_
            · try dsimp only
              have h15 : x 15 = (.bool true) := hdep 15 (by kernel_rfl)
              clear hq hdep hold
              simp only [h15]
              clear h15
              first | rw [if_neg (by decide)] | rw [if_neg (by intro h; exact absurd (h.symm.trans (show Region.wanted _ _ = false from rfl)) (by decide))]
              exact rfl
            refine Steps.cons (fun x wf Kk hq hdep hold => ?_) ?_
            · try dsimp only
              have h15 : x 15 = (.bool true) := hdep 15 (by kernel_rfl)
              clear hq hdep hold
              simp only [h15]
              clear h15
              first | rw [if_neg (by decide)] | rw [if_neg (by intro h; exact absurd (h.symm.trans (show Region.wanted _ _ = false from rfl)) (by decide))]
              exact rfl
            refine Steps.cons (fun x wf Kk hq hdep hold => ?_) ?_
            · try dsimp only
              have h15 : x 15 = (.bool true) := hdep 15 (by kernel_rfl)
              have h21 : x 21 = undef := hdep 21 (by kernel_rfl)
              clear hq hdep hold
              simp only [h15, h21]
              clear h15 h21
              rw [if_pos (by rfl)]
              refine OpY.val (v := (.bool true)) ?_ ⟨Kept.refl _ _, rfl⟩
              first | rfl | go_simp
            refine Steps.cons (fun x wf Kk hq hdep hold => ?_) ?_
            · try dsimp only
              have h22 : x 22 = (.bool true) := hdep 22 (by kernel_rfl)
              clear hq hdep hold
              simp only [h22]
              clear h22
              rw [if_pos (by rfl)]
              refine OpY.val (v := (.bool true)) ?_ ⟨Kept.refl _ _, rfl⟩
              first | rfl | go_simp
            refine Steps.cons (fun x wf Kk hq hdep hold => ?_) ?_
            · try dsimp only
              have h23 : x 23 = (.bool true) := hdep 23 (by kernel_rfl)
              clear hq hdep hold
              simp only [h23]
              clear h23
              first | rw [if_neg (by decide)] | rw [if_neg (by intro h; exact absurd (h.symm.trans (show Region.wanted _ _ = false from rfl)) (by decide))]
              exact rfl
            refine Steps.cons (fun x wf Kk hq hdep hold => ?_) ?_
            · try dsimp only
              have h23 : x 23 = (.bool true) := hdep 23 (by kernel_rfl)
              clear hq hdep hold
              simp only [h23]
              clear h23
              first | rw [if_neg (by decide)] | rw [if_neg (by intro h; exact absurd (h.symm.trans (show Region.wanted _ _ = false from rfl)) (by decide))]
              exact rfl
            refine Steps.cons (fun x wf Kk hq hdep hold => ?_) ?_
            · try dsimp only
              have h23 : x 23 = (.bool true) := hdep 23 (by kernel_rfl)
              clear hq hdep hold
              simp only [h23]
              clear h23
              first | rw [if_neg (by decide)] | rw [if_neg (by intro h; exact absurd (h.symm.trans (show Region.wanted _ _ = false from rfl)) (by decide))]
              exact rfl
            refine Steps.cons (fun x wf Kk hq hdep hold => ?_) ?_
            · try dsimp only
              have h23 : x 23 = (.bool true) := hdep 23 (by kernel_rfl)
              clear hq hdep hold
              simp only [h23]
              clear h23
              first | rw [if_neg (by decide)] | rw [if_neg (by intro h; exact absurd (h.symm.trans (show Region.wanted _ _ = false from rfl)) (by decide))]
              exact rfl
            refine Steps.cons (fun x wf Kk hq hdep hold => ?_) ?_
            · try dsimp only
              have h23 : x 23 = (.bool true) := hdep 23 (by kernel_rfl)
              clear hq hdep hold
              simp only [h23]
              clear h23
              first | rw [if_neg (by decide)] | rw [if_neg (by intro h; exact absurd (h.symm.trans (show Region.wanted _ _ = false from rfl)) (by decide))]
              exact rfl
            refine Steps.cons (fun x wf Kk hq hdep hold => ?_) ?_
            · try dsimp only
              have h23 : x 23 = (.bool true) := hdep 23 (by kernel_rfl)
              clear hq hdep hold
              simp only [h23]
              clear h23
              first | rw [if_neg (by decide)] | rw [if_neg (by intro h; exact absurd (h.symm.trans (show Region.wanted _ _ = false from rfl)) (by decide))]
              exact rfl
            refine Steps.cons (fun x wf Kk hq hdep hold => ?_) ?_
            · try dsimp only
              have h23 : x 23 = (.bool true) := hdep 23 (by kernel_rfl)
              clear hq hdep hold
              simp only [h23]
              clear h23
              first | rw [if_neg (by decide)] | rw [if_neg (by intro h; exact absurd (h.symm.trans (show Region.wanted _ _ = false from rfl)) (by decide))]
              exact rfl
            refine Steps.cons (fun x wf Kk hq hdep hold => ?_) ?_
            · try dsimp only
              have h23 : x 23 = (.bool true) := hdep 23 (by kernel_rfl)
              have h30 : x 30 = undef := hdep 30 (by kernel_rfl)
              clear hq hdep hold
              simp only [h23, h30]
              clear h23 h30
              rw [if_pos (by rfl)]
              refine OpY.val (v := (.bool true)) ?_ ⟨Kept.refl _ _, rfl⟩
              first | rfl | go_simp
            exact Steps.nil _
          · intro x wf Kk hv
            try dsimp only
            have h0 : x 0 = (.slice (some ⟨b, o, none⟩) n cap) := hv 0 (by kernel_rfl)
            have h1 : x 1 = (.int .i64 (k : Int)) := hv 1 (by kernel_rfl)
            have h2 : x 2 = (.pointer (some ⟨b, o + k * 35, none⟩)) := hv 2 (by kernel_rfl)
            have h3 : x 3 = (.pointer (some ⟨b, o + k * 35, none⟩)) := hv 3 (by kernel_rfl)
            have h4 : x 4 = (.int .i64 e.number) := hv 4 (by kernel_rfl)
            have h5 : x 5 = (.int .i64 (k : Int)) := hv 5 (by kernel_rfl)
            have h6 : x 6 = (.bool true) := hv 6 (by kernel_rfl)
            have h7 : x 7 = (.bool true) := hv 7 (by kernel_rfl)
            have h8 : x 8 = undef := hv 8 (by kernel_rfl)
            have h9 : x 9 = undef := hv 9 (by kernel_rfl)
            have h10 : x 10 = undef := hv 10 (by kernel_rfl)
            have h11 : x 11 = undef := hv 11 (by kernel_rfl)
            have h12 : x 12 = undef := hv 12 (by kernel_rfl)
            have h13 : x 13 = undef := hv 13 (by kernel_rfl)
            have h14 : x 14 = (.bool true) := hv 14 (by kernel_rfl)
            have h15 : x 15 = (.bool true) := hv 15 (by kernel_rfl)
            have h16 : x 16 = undef := hv 16 (by kernel_rfl)
            have h17 : x 17 = undef := hv 17 (by kernel_rfl)
            have h18 : x 18 = undef := hv 18 (by kernel_rfl)
            have h19 : x 19 = undef := hv 19 (by kernel_rfl)
            have h20 : x 20 = undef := hv 20 (by kernel_rfl)
            have h21 : x 21 = undef := hv 21 (by kernel_rfl)
            have h22 : x 22 = (.bool true) := hv 22 (by kernel_rfl)
            have h23 : x 23 = (.bool true) := hv 23 (by kernel_rfl)
            have h24 : x 24 = undef := hv 24 (by kernel_rfl)
            have h25 : x 25 = undef := hv 25 (by kernel_rfl)
            have h26 : x 26 = undef := hv 26 (by kernel_rfl)
            have h27 : x 27 = undef := hv 27 (by kernel_rfl)
            have h28 : x 28 = undef := hv 28 (by kernel_rfl)
            have h29 : x 29 = undef := hv 29 (by kernel_rfl)
            have h30 : x 30 = undef := hv 30 (by kernel_rfl)
            have h31 : x 31 = (.bool true) := hv 31 (by kernel_rfl)
            clear hv
            simp only [h0, h1, h2, h3, h4, h5, h6, h7, h8, h9, h10, h11, h12, h13, h14, h15, h16, h17, h18, h19, h20, h21, h22, h23, h24, h25, h26, h27, h28, h29, h30, h31]
            clear h0 h1 h2 h3 h4 h5 h6 h7 h8 h9 h10 h11 h12 h13 h14 h15 h16 h17 h18 h19 h20 h21 h22 h23 h24 h25 h26 h27 h28 h29 h30 h31
            have kz := hid (K3.out.trans' Kk.undrew)
            clear Kk
            go_wp2_with fail
            go_ret
            exact ⟨by rw [hv.out]; rfl, kz.out⟩
        have hnb : (e.number != (k : Int)) = false := by simpa using hnum
        by_cases h1 : e.kind < 1
        case pos =>
          have hv : Hd (chk Z32l 0 (ents ps) = k) := ⟨by rw [hch'.out, if_neg (fun h => by have := h.2.1; unfold poss at this; simp at this; omega)]⟩
          clear hch'
          refine region_flow (S := no) (Sl := (fun _ => no)) [Is (.slice (some ⟨b, o, none⟩) n cap), Is (.int .i64 (k : Int)), Is (.pointer (some ⟨b, o + k * 35, none⟩)), Is (.pointer (some ⟨b, o + k * 35, none⟩)), Is (.int .i64 e.number), Is (.int .i64 (k : Int)), Is (.bool false), Is (.bool false), Is (.slice (some ⟨b, o, none⟩) n cap), Is (.int .i64 (k : Int)), Is (.pointer (some ⟨b, o + k * 35, none⟩)), Is (.pointer (some ⟨b, o + k * 35 + 1, none⟩)), Is (.int .i64 e.kind), Is (.bool true), Is (.bool true), Is (.bool true), Is undef, Is undef, Is undef, Is undef, Is undef, Is undef, Is (.bool true), Is (.bool true), Is undef, Is undef, Is undef, Is undef, Is undef, Is undef, Is undef, Is (.bool true)] [] (fun _ _ h => h) _ (by kernel_rfl) (by kernel_rfl) (by kernel_rfl) (by kernel_rfl) (fun x => by simp only [puts, Act.put, List.map_cons, List.map_nil, Nat.zero_add, Nat.reduceAdd, List.setIfInBounds_toArray, List.set_cons_zero, List.set_cons_succ]; exact rfl) ?_ ?_
          · skip
            refine Steps.cons (fun x wf Kk hq hdep hold => ?_) ?_
            · try dsimp only
              clear hq hdep hold
              rw [if_pos (by rfl)]
              refine OpY.val (v := (.slice (some ⟨b, o, none⟩) n cap)) ?_ ⟨Kept.refl _ _, rfl⟩
              first | rfl | go_simp
            refine Steps.cons (fun x wf Kk hq hdep hold => ?_) ?_
            · try dsimp only
              clear hq hdep hold
              rw [if_pos (by rfl)]
              refine OpY.val (v := (.int .i64 (k : Int))) ?_ ⟨Kept.refl _ _, rfl⟩
              first | rfl | go_simp
            refine Steps.cons (fun x wf Kk hq hdep hold => ?_) ?_
            · try dsimp only
              have h0 : x 0 = (.slice (some ⟨b, o, none⟩) n cap) := hdep 0 (by kernel_rfl)
              have h1 : x 1 = (.int .i64 (k : Int)) := hdep 1 (by kernel_rfl)
              clear hq hdep hold
              simp only [h0, h1]
              clear h0 h1
              rw [if_pos (by rfl)]
              refine OpY.val (v := (.pointer (some ⟨b, o + k * 35, none⟩))) ?_ ⟨Kept.refl _ _, rfl⟩
              first | rfl | go_simp
            refine Steps.cons (fun x wf Kk hq hdep hold => ?_) ?_
            · try dsimp only
              have h2 : x 2 = (.pointer (some ⟨b, o + k * 35, none⟩)) := hdep 2 (by kernel_rfl)
              clear hq hdep hold
              simp only [h2]
              clear h2
              rw [if_pos (by rfl)]
              refine OpY.val (v := (.pointer (some ⟨b, o + k * 35, none⟩))) ?_ ⟨Kept.refl _ _, rfl⟩
              first | rfl | go_simp
            refine Steps.cons (fun x wf Kk hq hdep hold => ?_) ?_
            · try dsimp only
              have h3 : x 3 = (.pointer (some ⟨b, o + k * 35, none⟩)) := hdep 3 (by kernel_rfl)
              clear hq hdep hold
              simp only [h3]
              clear h3
              have cv := Kk.undrew.cell c0.out id
              rw [if_pos (by rfl)]
              refine OpY.val (v := (.int .i64 e.number)) ?_ ⟨Kept.refl _ _, rfl⟩
              first | rfl | go_simp
            refine Steps.cons (fun x wf Kk hq hdep hold => ?_) ?_
            · try dsimp only
              clear hq hdep hold
              rw [if_pos (by rfl)]
              refine OpY.val (v := (.int .i64 (k : Int))) ?_ ⟨Kept.refl _ _, rfl⟩
              first | rfl | go_simp
            refine Steps.cons (fun x wf Kk hq hdep hold => ?_) ?_
            · try dsimp only
              have h4 : x 4 = (.int .i64 e.number) := hdep 4 (by kernel_rfl)
              have h5 : x 5 = (.int .i64 (k : Int)) := hdep 5 (by kernel_rfl)
              clear hq hdep hold
              simp only [h4, h5]
              clear h4 h5
              rw [if_pos (by rfl)]
              refine OpY.val (v := (.bool false)) ?_ ⟨Kept.refl _ _, rfl⟩
              first | rfl | go_simp
            refine Steps.cons (fun x wf Kk hq hdep hold => ?_) ?_
            · try dsimp only
              have h6 : x 6 = (.bool false) := hdep 6 (by kernel_rfl)
              clear hq hdep hold
              simp only [h6]
              clear h6
              rw [if_pos (by rfl)]
              refine OpY.val (v := (.bool false)) ?_ ⟨Kept.refl _ _, rfl⟩
              first | rfl | go_simp
            refine Steps.cons (fun x wf Kk hq hdep hold => ?_) ?_
            · try dsimp only
              have h7 : x 7 = (.bool false) := hdep 7 (by kernel_rfl)
              clear hq hdep hold
              simp only [h7]
              clear h7
              rw [if_pos (by rfl)]
              refine OpY.val (v := (.slice (some ⟨b, o, none⟩) n cap)) ?_ ⟨Kept.refl _ _, rfl⟩
              first | rfl | go_simp
            refine Steps.cons (fun x wf Kk hq hdep hold => ?_) ?_
            · try dsimp only
              have h7 : x 7 = (.bool false) := hdep 7 (by kernel_rfl)
              clear hq hdep hold
              simp only [h7]
              clear h7
              rw [if_pos (by rfl)]
              refine OpY.val (v := (.int .i64 (k : Int))) ?_ ⟨Kept.refl _ _, rfl⟩
              first | rfl | go_simp
            refine Steps.cons (fun x wf Kk hq hdep hold => ?_) ?_
            · try dsimp only
              have h8 : x 8 = (.slice (some ⟨b, o, none⟩) n cap) := hdep 8 (by kernel_rfl)
              have h9 : x 9 = (.int .i64 (k : Int)) := hdep 9 (by kernel_rfl)
              have h7 : x 7 = (.bool false) := hdep 7 (by kernel_rfl)
              clear hq hdep hold
              simp only [h8, h9, h7]
              clear h8 h9 h7
              rw [if_pos (by rfl)]
              refine OpY.val (v := (.pointer (some ⟨b, o + k * 35, none⟩))) ?_ ⟨Kept.refl _ _, rfl⟩
              first | rfl | go_simp
            refine Steps.cons (fun x wf Kk hq hdep hold => ?_) ?_
            · try dsimp only
              have h10 : x 10 = (.pointer (some ⟨b, o + k * 35, none⟩)) := hdep 10 (by kernel_rfl)
              have h7 : x 7 = (.bool false) := hdep 7 (by kernel_rfl)
              clear hq hdep hold
              simp only [h10, h7]
              clear h10 h7
              rw [if_pos (by rfl)]
              refine OpY.val (v := (.pointer (some ⟨b, o + k * 35 + 1, none⟩))) ?_ ⟨Kept.refl _ _, rfl⟩
              first | rfl | go_simp
            refine Steps.cons (fun x wf Kk hq hdep hold => ?_) ?_
            · try dsimp only
              have h11 : x 11 = (.pointer (some ⟨b, o + k * 35 + 1, none⟩)) := hdep 11 (by kernel_rfl)
              have h7 : x 7 = (.bool false) := hdep 7 (by kernel_rfl)
              clear hq hdep hold
              simp only [h11, h7]
              clear h11 h7
              have cv := Kk.undrew.cell c1.out id
              rw [if_pos (by rfl)]
              refine OpY.val (v := (.int .i64 e.kind)) ?_ ⟨Kept.refl _ _, rfl⟩
              first | rfl | go_simp
            refine Steps.cons (fun x wf Kk hq hdep hold => ?_) ?_
            · try dsimp only
              have h12 : x 12 = (.int .i64 e.kind) := hdep 12 (by kernel_rfl)
              have h7 : x 7 = (.bool false) := hdep 7 (by kernel_rfl)
              clear hq hdep hold
              simp only [h12, h7]
              clear h12 h7
              rw [if_pos (by rfl)]
              refine OpY.val (v := (.bool true)) ?_ ⟨Kept.refl _ _, rfl⟩
              first | rfl | go_simp
            refine Steps.cons (fun x wf Kk hq hdep hold => ?_) ?_
            · try dsimp only
              have h7 : x 7 = (.bool false) := hdep 7 (by kernel_rfl)
              have h13 : x 13 = (.bool true) := hdep 13 (by kernel_rfl)
              clear hq hdep hold
              simp only [h7, h13]
              clear h7 h13
              rw [if_pos (by rfl)]
              refine OpY.val (v := (.bool true)) ?_ ⟨Kept.refl _ _, rfl⟩
              first | rfl | go_simp
            refine Steps.cons (fun x wf Kk hq hdep hold => ?_) ?_
            · try dsimp only
              have h14 : x 14 = (.bool true) := hdep 14 (by kernel_rfl)
              clear hq hdep hold
              simp only [h14]
              clear h14
              rw [if_pos (by rfl)]
              refine OpY.val (v := (.bool true)) ?_ ⟨Kept.refl _ _, rfl⟩
              first | rfl | go_simp
            refine Steps.cons (fun x wf Kk hq hdep hold => ?_) ?_
            · try dsimp only
              have h15 : x 15 = (.bool true) := hdep 15 (by kernel_rfl)
              clear hq hdep hold
              simp only [h15]
              clear h15
              first | rw [if_neg (by decide)] | rw [if_neg (by intro h; exact absurd (h.symm.trans (show Region.wanted _ _ = false from rfl)) (by decide))]
              exact rfl
            refine Steps.cons (fun x wf Kk hq hdep hold => ?_) ?_
            · try dsimp only
              have h15 : x 15 = (.bool true) := hdep 15 (by kernel_rfl)
              clear hq hdep hold
              simp only [h15]
              clear h15
              first | rw [if_neg (by decide)] | rw [if_neg (by intro h; exact absurd (h.symm.trans (show Region.wanted _ _ = false from rfl)) (by decide))]
              exact rfl
            refine Steps.cons (fun x wf Kk hq hdep hold => ?_) ?_
            · try dsimp only
              have h15 : x 15 = (.bool true) := hdep 15 (by kernel_rfl)
              clear hq hdep hold
              simp only [h15]
              clear h15
              first | rw [if_neg (by decide)] | rw [if_neg (by intro h; exact absurd (h.symm.trans (show Region.wanted _ _ = false from rfl)) (by decide))]
              exact rfl
            refine Steps.cons (fun x wf Kk hq hdep hold => ?_) ?_
            · try dsimp only
              have h15 : x 15 = (.bool true) := hdep 15 (by kernel_rfl)
              clear hq hdep hold
              simp only [h15]
              clear h15
              first | rw [if_neg (by decide)] | rw [if_neg (by intro h; exact absurd (h.symm.trans (show Region.wanted _ _ = false from rfl)) (by decide))]
              exact rfl
            refine Steps.cons (fun x wf Kk hq hdep hold => ?_) ?_
            · try dsimp only
              have h15 : x 15 = (.bool true) := hdep 15 (by kernel_rfl)
              clear hq hdep hold
              simp only [h15]
              clear h15
              first | rw [if_neg (by decide)] | rw [if_neg (by intro h; exact absurd (h.symm.trans (show Region.wanted _ _ = false from rfl)) (by decide))]
              exact rfl
            refine Steps.cons (fun x wf Kk hq hdep hold => ?_) ?_
            · try dsimp only
              have h15 : x 15 = (.bool true) := hdep 15 (by kernel_rfl)
              clear hq hdep hold
              simp only [h15]
              clear h15
              first | rw [if_neg (by decide)] | rw [if_neg (by intro h; exact absurd (h.symm.trans (show Region.wanted _ _ = false from rfl)) (by decide))]
              exact rfl
            refine Steps.cons (fun x wf Kk hq hdep hold => ?_) ?_
            · try dsimp only
              have h15 : x 15 = (.bool true) := hdep 15 (by kernel_rfl)
              have h21 : x 21 = undef := hdep 21 (by kernel_rfl)
              clear hq hdep hold
              simp only [h15, h21]
              clear h15 h21
              rw [if_pos (by rfl)]
              refine OpY.val (v := (.bool true)) ?_ ⟨Kept.refl _ _, rfl⟩
              first | rfl | go_simp
            refine Steps.cons (fun x wf Kk hq hdep hold => ?_) ?_
            · try dsimp only
              have h22 : x 22 = (.bool true) := hdep 22 (by kernel_rfl)
              clear hq hdep hold
              simp only [h22]
              clear h22
              rw [if_pos (by rfl)]
              refine OpY.val (v := (.bool true)) ?_ ⟨Kept.refl _ _, rfl⟩
              first | rfl | go_simp
            refine Steps.cons (fun x wf Kk hq hdep hold => ?_) ?_
            · try dsimp only
              have h23 : x 23 = (.bool true) := hdep 23 (by kernel_rfl)
              clear hq hdep hold
              simp only [h23]
              clear h23
              first | rw [if_neg (by decide)] | rw [if_neg (by intro h; exact absurd (h.symm.trans (show Region.wanted _ _ = false from rfl)) (by decide))]
              exact rfl
            refine Steps.cons (fun x wf Kk hq hdep hold => ?_) ?_
            · try dsimp only
              have h23 : x 23 = (.bool true) := hdep 23 (by kernel_rfl)
              clear hq hdep hold
              simp only [h23]
              clear h23
              first | rw [if_neg (by decide)] | rw [if_neg (by intro h; exact absurd (h.symm.trans (show Region.wanted _ _ = false from rfl)) (by decide))]
              exact rfl
            refine Steps.cons (fun x wf Kk hq hdep hold => ?_) ?_
            · try dsimp only
              have h23 : x 23 = (.bool true) := hdep 23 (by kernel_rfl)
              clear hq hdep hold
              simp only [h23]
              clear h23
              first | rw [if_neg (by decide)] | rw [if_neg (by intro h; exact absurd (h.symm.trans (show Region.wanted _ _ = false from rfl)) (by decide))]
              exact rfl
            refine Steps.cons (fun x wf Kk hq hdep hold => ?_) ?_
            · try dsimp only
              have h23 : x 23 = (.bool true) := hdep 23 (by kernel_rfl)
              clear hq hdep hold
              simp only [h23]
              clear h23
              first | rw [if_neg (by decide)] | rw [if_neg (by intro h; exact absurd (h.symm.trans (show Region.wanted _ _ = false from rfl)) (by decide))]
              exact rfl
            refine Steps.cons (fun x wf Kk hq hdep hold => ?_) ?_
            · try dsimp only
              have h23 : x 23 = (.bool true) := hdep 23 (by kernel_rfl)
              clear hq hdep hold
              simp only [h23]
              clear h23
              first | rw [if_neg (by decide)] | rw [if_neg (by intro h; exact absurd (h.symm.trans (show Region.wanted _ _ = false from rfl)) (by decide))]
              exact rfl
            refine Steps.cons (fun x wf Kk hq hdep hold => ?_) ?_
            · try dsimp only
              have h23 : x 23 = (.bool true) := hdep 23 (by kernel_rfl)
              clear hq hdep hold
              simp only [h23]
              clear h23
              first | rw [if_neg (by decide)] | rw [if_neg (by intro h; exact absurd (h.symm.trans (show Region.wanted _ _ = false from rfl)) (by decide))]
              exact rfl
            refine Steps.cons (fun x wf Kk hq hdep hold => ?_) ?_
            · try dsimp only
              have h23 : x 23 = (.bool true) := hdep 23 (by kernel_rfl)
              clear hq hdep hold
              simp only [h23]
              clear h23
              first | rw [if_neg (by decide)] | rw [if_neg (by intro h; exact absurd (h.symm.trans (show Region.wanted _ _ = false from rfl)) (by decide))]
              exact rfl
            refine Steps.cons (fun x wf Kk hq hdep hold => ?_) ?_
            · try dsimp only
              have h23 : x 23 = (.bool true) := hdep 23 (by kernel_rfl)
              have h30 : x 30 = undef := hdep 30 (by kernel_rfl)
              clear hq hdep hold
              simp only [h23, h30]
              clear h23 h30
              rw [if_pos (by rfl)]
              refine OpY.val (v := (.bool true)) ?_ ⟨Kept.refl _ _, rfl⟩
              first | rfl | go_simp
            exact Steps.nil _
          · intro x wf Kk hv
            try dsimp only
            have h0 : x 0 = (.slice (some ⟨b, o, none⟩) n cap) := hv 0 (by kernel_rfl)
            have h1 : x 1 = (.int .i64 (k : Int)) := hv 1 (by kernel_rfl)
            have h2 : x 2 = (.pointer (some ⟨b, o + k * 35, none⟩)) := hv 2 (by kernel_rfl)
            have h3 : x 3 = (.pointer (some ⟨b, o + k * 35, none⟩)) := hv 3 (by kernel_rfl)
            have h4 : x 4 = (.int .i64 e.number) := hv 4 (by kernel_rfl)
            have h5 : x 5 = (.int .i64 (k : Int)) := hv 5 (by kernel_rfl)
            have h6 : x 6 = (.bool false) := hv 6 (by kernel_rfl)
            have h7 : x 7 = (.bool false) := hv 7 (by kernel_rfl)
            have h8 : x 8 = (.slice (some ⟨b, o, none⟩) n cap) := hv 8 (by kernel_rfl)
            have h9 : x 9 = (.int .i64 (k : Int)) := hv 9 (by kernel_rfl)
            have h10 : x 10 = (.pointer (some ⟨b, o + k * 35, none⟩)) := hv 10 (by kernel_rfl)
            have h11 : x 11 = (.pointer (some ⟨b, o + k * 35 + 1, none⟩)) := hv 11 (by kernel_rfl)
            have h12 : x 12 = (.int .i64 e.kind) := hv 12 (by kernel_rfl)
            have h13 : x 13 = (.bool true) := hv 13 (by kernel_rfl)
            have h14 : x 14 = (.bool true) := hv 14 (by kernel_rfl)
            have h15 : x 15 = (.bool true) := hv 15 (by kernel_rfl)
            have h16 : x 16 = undef := hv 16 (by kernel_rfl)
            have h17 : x 17 = undef := hv 17 (by kernel_rfl)
            have h18 : x 18 = undef := hv 18 (by kernel_rfl)
            have h19 : x 19 = undef := hv 19 (by kernel_rfl)
            have h20 : x 20 = undef := hv 20 (by kernel_rfl)
            have h21 : x 21 = undef := hv 21 (by kernel_rfl)
            have h22 : x 22 = (.bool true) := hv 22 (by kernel_rfl)
            have h23 : x 23 = (.bool true) := hv 23 (by kernel_rfl)
            have h24 : x 24 = undef := hv 24 (by kernel_rfl)
            have h25 : x 25 = undef := hv 25 (by kernel_rfl)
            have h26 : x 26 = undef := hv 26 (by kernel_rfl)
            have h27 : x 27 = undef := hv 27 (by kernel_rfl)
            have h28 : x 28 = undef := hv 28 (by kernel_rfl)
            have h29 : x 29 = undef := hv 29 (by kernel_rfl)
            have h30 : x 30 = undef := hv 30 (by kernel_rfl)
            have h31 : x 31 = (.bool true) := hv 31 (by kernel_rfl)
            clear hv
            simp only [h0, h1, h2, h3, h4, h5, h6, h7, h8, h9, h10, h11, h12, h13, h14, h15, h16, h17, h18, h19, h20, h21, h22, h23, h24, h25, h26, h27, h28, h29, h30, h31]
            clear h0 h1 h2 h3 h4 h5 h6 h7 h8 h9 h10 h11 h12 h13 h14 h15 h16 h17 h18 h19 h20 h21 h22 h23 h24 h25 h26 h27 h28 h29 h30 h31
            have kz := hid (K3.out.trans' Kk.undrew)
            clear Kk
            go_wp2_with fail
            go_ret
            exact ⟨by rw [hv.out]; rfl, kz.out⟩
        by_cases h10 : 10 < e.kind
        case pos =>
          have hv : Hd (chk Z32l 0 (ents ps) = k) := ⟨by rw [hch'.out, if_neg (fun h => by have := h.2.1; unfold poss at this; simp at this; omega)]⟩
          clear hch'
          refine region_flow (S := no) (Sl := (fun _ => no)) [Is (.slice (some ⟨b, o, none⟩) n cap), Is (.int .i64 (k : Int)), Is (.pointer (some ⟨b, o + k * 35, none⟩)), Is (.pointer (some ⟨b, o + k * 35, none⟩)), Is (.int .i64 e.number), Is (.int .i64 (k : Int)), Is (.bool false), Is (.bool false), Is (.slice (some ⟨b, o, none⟩) n cap), Is (.int .i64 (k : Int)), Is (.pointer (some ⟨b, o + k * 35, none⟩)), Is (.pointer (some ⟨b, o + k * 35 + 1, none⟩)), Is (.int .i64 e.kind), Is (.bool false), Is (.bool false), Is (.bool false), Is (.slice (some ⟨b, o, none⟩) n cap), Is (.int .i64 (k : Int)), Is (.pointer (some ⟨b, o + k * 35, none⟩)), Is (.pointer (some ⟨b, o + k * 35 + 1, none⟩)), Is (.int .i64 e.kind), Is (.bool true), Is (.bool true), Is (.bool true), Is undef, Is undef, Is undef, Is undef, Is undef, Is undef, Is undef, Is (.bool true)] [] (fun _ _ h => h) _ (by kernel_rfl) (by kernel_rfl) (by kernel_rfl) (by kernel_rfl) (fun x => by simp only [puts, Act.put, List.map_cons, List.map_nil, Nat.zero_add, Nat.reduceAdd, List.setIfInBounds_toArray, List.set_cons_zero, List.set_cons_succ]; exact rfl) ?_ ?_
          · skip
            refine Steps.cons (fun x wf Kk hq hdep hold => ?_) ?_
            · try dsimp only
              clear hq hdep hold
              rw [if_pos (by rfl)]
              refine OpY.val (v := (.slice (some ⟨b, o, none⟩) n cap)) ?_ ⟨Kept.refl _ _, rfl⟩
              first | rfl | go_simp
            refine Steps.cons (fun x wf Kk hq hdep hold => ?_) ?_
            · try dsimp only
              clear hq hdep hold
              rw [if_pos (by rfl)]
              refine OpY.val (v := (.int .i64 (k : Int))) ?_ ⟨Kept.refl _ _, rfl⟩
              first | rfl | go_simp
            refine Steps.cons (fun x wf Kk hq hdep hold => ?_) ?_
            · try dsimp only
              have h0 : x 0 = (.slice (some ⟨b, o, none⟩) n cap) := hdep 0 (by kernel_rfl)
              have h1 : x 1 = (.int .i64 (k : Int)) := hdep 1 (by kernel_rfl)
              clear hq hdep hold
              simp only [h0, h1]
              clear h0 h1
              rw [if_pos (by rfl)]
              refine OpY.val (v := (.pointer (some ⟨b, o + k * 35, none⟩))) ?_ ⟨Kept.refl _ _, rfl⟩
              first | rfl | go_simp
            refine Steps.cons (fun x wf Kk hq hdep hold => ?_) ?_
            · try dsimp only
              have h2 : x 2 = (.pointer (some ⟨b, o + k * 35, none⟩)) := hdep 2 (by kernel_rfl)
              clear hq hdep hold
              simp only [h2]
              clear h2
              rw [if_pos (by rfl)]
              refine OpY.val (v := (.pointer (some ⟨b, o + k * 35, none⟩))) ?_ ⟨Kept.refl _ _, rfl⟩
              first | rfl | go_simp
            refine Steps.cons (fun x wf Kk hq hdep hold => ?_) ?_
            · try dsimp only
              have h3 : x 3 = (.pointer (some ⟨b, o + k * 35, none⟩)) := hdep 3 (by kernel_rfl)
              clear hq hdep hold
              simp only [h3]
              clear h3
              have cv := Kk.undrew.cell c0.out id
              rw [if_pos (by rfl)]
              refine OpY.val (v := (.int .i64 e.number)) ?_ ⟨Kept.refl _ _, rfl⟩
              first | rfl | go_simp
            refine Steps.cons (fun x wf Kk hq hdep hold => ?_) ?_
            · try dsimp only
              clear hq hdep hold
              rw [if_pos (by rfl)]
              refine OpY.val (v := (.int .i64 (k : Int))) ?_ ⟨Kept.refl _ _, rfl⟩
              first | rfl | go_simp
            refine Steps.cons (fun x wf Kk hq hdep hold => ?_) ?_
            · try dsimp only
              have h4 : x 4 = (.int .i64 e.number) := hdep 4 (by kernel_rfl)
              have h5 : x 5 = (.int .i64 (k : Int)) := hdep 5 (by kernel_rfl)
              clear hq hdep hold
              simp only [h4, h5]
              clear h4 h5
              rw [if_pos (by rfl)]
              refine OpY.val (v := (.bool false)) ?_ ⟨Kept.refl _ _, rfl⟩
              first | rfl | go_simp
            refine Steps.cons (fun x wf Kk hq hdep hold => ?_) ?_
            · try dsimp only
              have h6 : x 6 = (.bool false) := hdep 6 (by kernel_rfl)
              clear hq hdep hold
              simp only [h6]
              clear h6
              rw [if_pos (by rfl)]
              refine OpY.val (v := (.bool false)) ?_ ⟨Kept.refl _ _, rfl⟩
              first | rfl | go_simp
            refine Steps.cons (fun x wf Kk hq hdep hold => ?_) ?_
            · try dsimp only
              have h7 : x 7 = (.bool false) := hdep 7 (by kernel_rfl)
              clear hq hdep hold
              simp only [h7]
              clear h7
              rw [if_pos (by rfl)]
              refine OpY.val (v := (.slice (some ⟨b, o, none⟩) n cap)) ?_ ⟨Kept.refl _ _, rfl⟩
              first | rfl | go_simp
            refine Steps.cons (fun x wf Kk hq hdep hold => ?_) ?_
            · try dsimp only
              have h7 : x 7 = (.bool false) := hdep 7 (by kernel_rfl)
              clear hq hdep hold
              simp only [h7]
              clear h7
              rw [if_pos (by rfl)]
              refine OpY.val (v := (.int .i64 (k : Int))) ?_ ⟨Kept.refl _ _, rfl⟩
              first | rfl | go_simp
            refine Steps.cons (fun x wf Kk hq hdep hold => ?_) ?_
            · try dsimp only
              have h8 : x 8 = (.slice (some ⟨b, o, none⟩) n cap) := hdep 8 (by kernel_rfl)
              have h9 : x 9 = (.int .i64 (k : Int)) := hdep 9 (by kernel_rfl)
              have h7 : x 7 = (.bool false) := hdep 7 (by kernel_rfl)
              clear hq hdep hold
              simp only [h8, h9, h7]
              clear h8 h9 h7
              rw [if_pos (by rfl)]
              refine OpY.val (v := (.pointer (some ⟨b, o + k * 35, none⟩))) ?_ ⟨Kept.refl _ _, rfl⟩
              first | rfl | go_simp
            refine Steps.cons (fun x wf Kk hq hdep hold => ?_) ?_
            · try dsimp only
              have h10 : x 10 = (.pointer (some ⟨b, o + k * 35, none⟩)) := hdep 10 (by kernel_rfl)
              have h7 : x 7 = (.bool false) := hdep 7 (by kernel_rfl)
              clear hq hdep hold
              simp only [h10, h7]
              clear h10 h7
              rw [if_pos (by rfl)]
              refine OpY.val (v := (.pointer (some ⟨b, o + k * 35 + 1, none⟩))) ?_ ⟨Kept.refl _ _, rfl⟩
              first | rfl | go_simp
            refine Steps.cons (fun x wf Kk hq hdep hold => ?_) ?_
            · try dsimp only
              have h11 : x 11 = (.pointer (some ⟨b, o + k * 35 + 1, none⟩)) := hdep 11 (by kernel_rfl)
              have h7 : x 7 = (.bool false) := hdep 7 (by kernel_rfl)
              clear hq hdep hold
              simp only [h11, h7]
              clear h11 h7
              have cv := Kk.undrew.cell c1.out id
              rw [if_pos (by rfl)]
              refine OpY.val (v := (.int .i64 e.kind)) ?_ ⟨Kept.refl _ _, rfl⟩
              first | rfl | go_simp
            refine Steps.cons (fun x wf Kk hq hdep hold => ?_) ?_
            · try dsimp only
              have h12 : x 12 = (.int .i64 e.kind) := hdep 12 (by kernel_rfl)
              have h7 : x 7 = (.bool false) := hdep 7 (by kernel_rfl)
              clear hq hdep hold
              simp only [h12, h7]
              clear h12 h7
              rw [if_pos (by rfl)]
              refine OpY.val (v := (.bool false)) ?_ ⟨Kept.refl _ _, rfl⟩
              first | rfl | go_simp
            refine Steps.cons (fun x wf Kk hq hdep hold => ?_) ?_
            · try dsimp only
              have h7 : x 7 = (.bool false) := hdep 7 (by kernel_rfl)
              have h13 : x 13 = (.bool false) := hdep 13 (by kernel_rfl)
              clear hq hdep hold
              simp only [h7, h13]
              clear h7 h13
              rw [if_pos (by rfl)]
              refine OpY.val (v := (.bool false)) ?_ ⟨Kept.refl _ _, rfl⟩
              first | rfl | go_simp
            refine Steps.cons (fun x wf Kk hq hdep hold => ?_) ?_
            · try dsimp only
              have h14 : x 14 = (.bool false) := hdep 14 (by kernel_rfl)
              clear hq hdep hold
              simp only [h14]
              clear h14
              rw [if_pos (by rfl)]
              refine OpY.val (v := (.bool false)) ?_ ⟨Kept.refl _ _, rfl⟩
              first | rfl | go_simp
            refine Steps.cons (fun x wf Kk hq hdep hold => ?_) ?_
            · try dsimp only
              have h15 : x 15 = (.bool false) := hdep 15 (by kernel_rfl)
              clear hq hdep hold
              simp only [h15]
              clear h15
              rw [if_pos (by rfl)]
              refine OpY.val (v := (.slice (some ⟨b, o, none⟩) n cap)) ?_ ⟨Kept.refl _ _, rfl⟩
              first | rfl | go_simp
            refine Steps.cons (fun x wf Kk hq hdep hold => ?_) ?_
            · try dsimp only
              have h15 : x 15 = (.bool false) := hdep 15 (by kernel_rfl)
              clear hq hdep hold
              simp only [h15]
              clear h15
              rw [if_pos (by rfl)]
              refine OpY.val (v := (.int .i64 (k : Int))) ?_ ⟨Kept.refl _ _, rfl⟩
              first | rfl | go_simp
            refine Steps.cons (fun x wf Kk hq hdep hold => ?_) ?_
            · try dsimp only
              have h16 : x 16 = (.slice (some ⟨b, o, none⟩) n cap) := hdep 16 (by kernel_rfl)
              have h17 : x 17 = (.int .i64 (k : Int)) := hdep 17 (by kernel_rfl)
              have h15 : x 15 = (.bool false) := hdep 15 (by kernel_rfl)
              clear hq hdep hold
              simp only [h16, h17, h15]
              clear h16 h17 h15
              rw [if_pos (by rfl)]
              refine OpY.val (v := (.pointer (some ⟨b, o + k * 35, none⟩))) ?_ ⟨Kept.refl _ _, rfl⟩
              first | rfl | go_simp
            refine Steps.cons (fun x wf Kk hq hdep hold => ?_) ?_
            · try dsimp only
              have h18 : x 18 = (.pointer (some ⟨b, o + k * 35, none⟩)) := hdep 18 (by kernel_rfl)
              have h15 : x 15 = (.bool false) := hdep 15 (by kernel_rfl)
              clear hq hdep hold
              simp only [h18, h15]
              clear h18 h15
              rw [if_pos (by rfl)]
              refine OpY.val (v := (.pointer (some ⟨b, o + k * 35 + 1, none⟩))) ?_ ⟨Kept.refl _ _, rfl⟩
              first | rfl | go_simp
            refine Steps.cons (fun x wf Kk hq hdep hold => ?_) ?_
            · try dsimp only
              have h19 : x 19 = (.pointer (some ⟨b, o + k * 35 + 1, none⟩)) := hdep 19 (by kernel_rfl)
              have h15 : x 15 = (.bool false) := hdep 15 (by kernel_rfl)
              clear hq hdep hold
              simp only [h19, h15]
              clear h19 h15
              have cv := Kk.undrew.cell c1.out id
              rw [if_pos (by rfl)]
              refine OpY.val (v := (.int .i64 e.kind)) ?_ ⟨Kept.refl _ _, rfl⟩
              first | rfl | go_simp
            refine Steps.cons (fun x wf Kk hq hdep hold => ?_) ?_
            · try dsimp only
              have h20 : x 20 = (.int .i64 e.kind) := hdep 20 (by kernel_rfl)
              have h15 : x 15 = (.bool false) := hdep 15 (by kernel_rfl)
              clear hq hdep hold
              simp only [h20, h15]
              clear h20 h15
              rw [if_pos (by rfl)]
              refine OpY.val (v := (.bool true)) ?_ ⟨Kept.refl _ _, rfl⟩
              first | rfl | go_simp
            refine Steps.cons (fun x wf Kk hq hdep hold => ?_) ?_
            · try dsimp only
              have h15 : x 15 = (.bool false) := hdep 15 (by kernel_rfl)
              have h21 : x 21 = (.bool true) := hdep 21 (by kernel_rfl)
              clear hq hdep hold
              simp only [h15, h21]
              clear h15 h21
              rw [if_pos (by rfl)]
              refine OpY.val (v := (.bool true)) ?_ ⟨Kept.refl _ _, rfl⟩
              first | rfl | go_simp
            refine Steps.cons (fun x wf Kk hq hdep hold => ?_) ?_
            · try dsimp only
              have h22 : x 22 = (.bool true) := hdep 22 (by kernel_rfl)
              clear hq hdep hold
              simp only [h22]
              clear h22
              rw [if_pos (by rfl)]
              refine OpY.val (v := (.bool true)) ?_ ⟨Kept.refl _ _, rfl⟩
              first | rfl | go_simp
            refine Steps.cons (fun x wf Kk hq hdep hold => ?_) ?_
            · try dsimp only
              have h23 : x 23 = (.bool true) := hdep 23 (by kernel_rfl)
              clear hq hdep hold
              simp only [h23]
              clear h23
              first | rw [if_neg (by decide)] | rw [if_neg (by intro h; exact absurd (h.symm.trans (show Region.wanted _ _ = false from rfl)) (by decide))]
              exact rfl
            refine Steps.cons (fun x wf Kk hq hdep hold => ?_) ?_
            · try dsimp only
              have h23 : x 23 = (.bool true) := hdep 23 (by kernel_rfl)
              clear hq hdep hold
              simp only [h23]
              clear h23
              first | rw [if_neg (by decide)] | rw [if_neg (by intro h; exact absurd (h.symm.trans (show Region.wanted _ _ = false from rfl)) (by decide))]
              exact rfl
            refine Steps.cons (fun x wf Kk hq hdep hold => ?_) ?_
            · try dsimp only
              have h23 : x 23 = (.bool true) := hdep 23 (by kernel_rfl)
              clear hq hdep hold
              simp only [h23]
              clear h23
              first | rw [if_neg (by decide)] | rw [if_neg (by intro h; exact absurd (h.symm.trans (show Region.wanted _ _ = false from rfl)) (by decide))]
              exact rfl
            refine Steps.cons (fun x wf Kk hq hdep hold => ?_) ?_
            · try dsimp only
              have h23 : x 23 = (.bool true) := hdep 23 (by kernel_rfl)
              clear hq hdep hold
              simp only [h23]
              clear h23
              first | rw [if_neg (by decide)] | rw [if_neg (by intro h; exact absurd (h.symm.trans (show Region.wanted _ _ = false from rfl)) (by decide))]
              exact rfl
            refine Steps.cons (fun x wf Kk hq hdep hold => ?_) ?_
            · try dsimp only
              have h23 : x 23 = (.bool true) := hdep 23 (by kernel_rfl)
              clear hq hdep hold
              simp only [h23]
              clear h23
              first | rw [if_neg (by decide)] | rw [if_neg (by intro h; exact absurd (h.symm.trans (show Region.wanted _ _ = false from rfl)) (by decide))]
              exact rfl
            refine Steps.cons (fun x wf Kk hq hdep hold => ?_) ?_
            · try dsimp only
              have h23 : x 23 = (.bool true) := hdep 23 (by kernel_rfl)
              clear hq hdep hold
              simp only [h23]
              clear h23
              first | rw [if_neg (by decide)] | rw [if_neg (by intro h; exact absurd (h.symm.trans (show Region.wanted _ _ = false from rfl)) (by decide))]
              exact rfl
            refine Steps.cons (fun x wf Kk hq hdep hold => ?_) ?_
            · try dsimp only
              have h23 : x 23 = (.bool true) := hdep 23 (by kernel_rfl)
              clear hq hdep hold
              simp only [h23]
              clear h23
              first | rw [if_neg (by decide)] | rw [if_neg (by intro h; exact absurd (h.symm.trans (show Region.wanted _ _ = false from rfl)) (by decide))]
              exact rfl
            refine Steps.cons (fun x wf Kk hq hdep hold => ?_) ?_
            · try dsimp only
              have h23 : x 23 = (.bool true) := hdep 23 (by kernel_rfl)
              have h30 : x 30 = undef := hdep 30 (by kernel_rfl)
              clear hq hdep hold
              simp only [h23, h30]
              clear h23 h30
              rw [if_pos (by rfl)]
              refine OpY.val (v := (.bool true)) ?_ ⟨Kept.refl _ _, rfl⟩
              first | rfl | go_simp
            exact Steps.nil _
          · intro x wf Kk hv
            try dsimp only
            have h0 : x 0 = (.slice (some ⟨b, o, none⟩) n cap) := hv 0 (by kernel_rfl)
            have h1 : x 1 = (.int .i64 (k : Int)) := hv 1 (by kernel_rfl)
            have h2 : x 2 = (.pointer (some ⟨b, o + k * 35, none⟩)) := hv 2 (by kernel_rfl)
            have h3 : x 3 = (.pointer (some ⟨b, o + k * 35, none⟩)) := hv 3 (by kernel_rfl)
            have h4 : x 4 = (.int .i64 e.number) := hv 4 (by kernel_rfl)
            have h5 : x 5 = (.int .i64 (k : Int)) := hv 5 (by kernel_rfl)
            have h6 : x 6 = (.bool false) := hv 6 (by kernel_rfl)
            have h7 : x 7 = (.bool false) := hv 7 (by kernel_rfl)
            have h8 : x 8 = (.slice (some ⟨b, o, none⟩) n cap) := hv 8 (by kernel_rfl)
            have h9 : x 9 = (.int .i64 (k : Int)) := hv 9 (by kernel_rfl)
            have h10 : x 10 = (.pointer (some ⟨b, o + k * 35, none⟩)) := hv 10 (by kernel_rfl)
            have h11 : x 11 = (.pointer (some ⟨b, o + k * 35 + 1, none⟩)) := hv 11 (by kernel_rfl)
            have h12 : x 12 = (.int .i64 e.kind) := hv 12 (by kernel_rfl)
            have h13 : x 13 = (.bool false) := hv 13 (by kernel_rfl)
            have h14 : x 14 = (.bool false) := hv 14 (by kernel_rfl)
            have h15 : x 15 = (.bool false) := hv 15 (by kernel_rfl)
            have h16 : x 16 = (.slice (some ⟨b, o, none⟩) n cap) := hv 16 (by kernel_rfl)
            have h17 : x 17 = (.int .i64 (k : Int)) := hv 17 (by kernel_rfl)
            have h18 : x 18 = (.pointer (some ⟨b, o + k * 35, none⟩)) := hv 18 (by kernel_rfl)
            have h19 : x 19 = (.pointer (some ⟨b, o + k * 35 + 1, none⟩)) := hv 19 (by kernel_rfl)
            have h20 : x 20 = (.int .i64 e.kind) := hv 20 (by kernel_rfl)
            have h21 : x 21 = (.bool true) := hv 21 (by kernel_rfl)
            have h22 : x 22 = (.bool true) := hv 22 (by kernel_rfl)
            have h23 : x 23 = (.bool true) := hv 23 (by kernel_rfl)
            have h24 : x 24 = undef := hv 24 (by kernel_rfl)
            have h25 : x 25 = undef := hv 25 (by kernel_rfl)
            have h26 : x 26 = undef := hv 26 (by kernel_rfl)
            have h27 : x 27 = undef := hv 27 (by kernel_rfl)
            have h28 : x 28 = undef := hv 28 (by kernel_rfl)
            have h29 : x 29 = undef := hv 29 (by kernel_rfl)
            have h30 : x 30 = undef := hv 30 (by kernel_rfl)
            have h31 : x 31 = (.bool true) := hv 31 (by kernel_rfl)
            clear hv
            simp only [h0, h1, h2, h3, h4, h5, h6, h7, h8, h9, h10, h11, h12, h13, h14, h15, h16, h17, h18, h19, h20, h21, h22, h23, h24, h25, h26, h27, h28, h29, h30, h31]
            clear h0 h1 h2 h3 h4 h5 h6 h7 h8 h9 h10 h11 h12 h13 h14 h15 h16 h17 h18 h19 h20 h21 h22 h23 h24 h25 h26 h27 h28 h29 h30 h31
            have kz := hid (K3.out.trans' Kk.undrew)
            clear Kk
            go_wp2_with fail
            go_ret
            exact ⟨by rw [hv.out]; rfl, kz.out⟩
        by_cases hpe : e.prev = prev
        case neg =>
          have hne := neqDg e.prev prev hok.out.1 hpl.out true (by simpa using hpe)
          have hv : Hd (chk Z32l 0 (ents ps) = k) := ⟨by rw [hch'.out, if_neg (fun h => hpe (h.2.2.trans hpv.out.symm))]⟩
          clear hch'
          refine region_flow (S := no) (Sl := (fun _ => no)) [Is (.slice (some ⟨b, o, none⟩) n cap), Is (.int .i64 (k : Int)), Is (.pointer (some ⟨b, o + k * 35, none⟩)), Is (.pointer (some ⟨b, o + k * 35, none⟩)), Is (.int .i64 e.number), Is (.int .i64 (k : Int)), Is (.bool false), Is (.bool false), Is (.slice (some ⟨b, o, none⟩) n cap), Is (.int .i64 (k : Int)), Is (.pointer (some ⟨b, o + k * 35, none⟩)), Is (.pointer (some ⟨b, o + k * 35 + 1, none⟩)), Is (.int .i64 e.kind), Is (.bool false), Is (.bool false), Is (.bool false), Is (.slice (some ⟨b, o, none⟩) n cap), Is (.int .i64 (k : Int)), Is (.pointer (some ⟨b, o + k * 35, none⟩)), Is (.pointer (some ⟨b, o + k * 35 + 1, none⟩)), Is (.int .i64 e.kind), Is (.bool false), Is (.bool false), Is (.bool false), Is (.slice (some ⟨b, o, none⟩) n cap), Is (.int .i64 (k : Int)), Is (.pointer (some ⟨b, o + k * 35, none⟩)), Is (.pointer (some ⟨b, o + k * 35 + 3, none⟩)), Is (Dg e.prev), Is (Dg prev), Is (.bool true), Is (.bool true)] [] (fun _ _ h => h) _ (by kernel_rfl) (by kernel_rfl) (by kernel_rfl) (by kernel_rfl) (fun x => by simp only [puts, Act.put, List.map_cons, List.map_nil, Nat.zero_add, Nat.reduceAdd, List.setIfInBounds_toArray, List.set_cons_zero, List.set_cons_succ]; exact rfl) ?_ ?_
          · skip
            refine Steps.cons (fun x wf Kk hq hdep hold => ?_) ?_
            · try dsimp only
              clear hq hdep hold
              rw [if_pos (by rfl)]
              refine OpY.val (v := (.slice (some ⟨b, o, none⟩) n cap)) ?_ ⟨Kept.refl _ _, rfl⟩
              first | rfl | go_simp
            refine Steps.cons (fun x wf Kk hq hdep hold => ?_) ?_
            · try dsimp only
              clear hq hdep hold
              rw [if_pos (by rfl)]
              refine OpY.val (v := (.int .i64 (k : Int))) ?_ ⟨Kept.refl _ _, rfl⟩
              first | rfl | go_simp
            refine Steps.cons (fun x wf Kk hq hdep hold => ?_) ?_
            · try dsimp only
              have h0 : x 0 = (.slice (some ⟨b, o, none⟩) n cap) := hdep 0 (by kernel_rfl)
              have h1 : x 1 = (.int .i64 (k : Int)) := hdep 1 (by kernel_rfl)
              clear hq hdep hold
              simp only [h0, h1]
              clear h0 h1
              rw [if_pos (by rfl)]
              refine OpY.val (v := (.pointer (some ⟨b, o + k * 35, none⟩))) ?_ ⟨Kept.refl _ _, rfl⟩
              first | rfl | go_simp
            refine Steps.cons (fun x wf Kk hq hdep hold => ?_) ?_
            · try dsimp only
              have h2 : x 2 = (.pointer (some ⟨b, o + k * 35, none⟩)) := hdep 2 (by kernel_rfl)
              clear hq hdep hold
              simp only [h2]
              clear h2
              rw [if_pos (by rfl)]
              refine OpY.val (v := (.pointer (some ⟨b, o + k * 35, none⟩))) ?_ ⟨Kept.refl _ _, rfl⟩
              first | rfl | go_simp
            refine Steps.cons (fun x wf Kk hq hdep hold => ?_) ?_
            · try dsimp only
              have h3 : x 3 = (.pointer (some ⟨b, o + k * 35, none⟩)) := hdep 3 (by kernel_rfl)
              clear hq hdep hold
              simp only [h3]
              clear h3
              have cv := Kk.undrew.cell c0.out id
              rw [if_pos (by rfl)]
              refine OpY.val (v := (.int .i64 e.number)) ?_ ⟨Kept.refl _ _, rfl⟩
              first | rfl | go_simp
            refine Steps.cons (fun x wf Kk hq hdep hold => ?_) ?_
            · try dsimp only
              clear hq hdep hold
              rw [if_pos (by rfl)]
              refine OpY.val (v := (.int .i64 (k : Int))) ?_ ⟨Kept.refl _ _, rfl⟩
              first | rfl | go_simp
            refine Steps.cons (fun x wf Kk hq hdep hold => ?_) ?_
            · try dsimp only
              have h4 : x 4 = (.int .i64 e.number) := hdep 4 (by kernel_rfl)
              have h5 : x 5 = (.int .i64 (k : Int)) := hdep 5 (by kernel_rfl)
              clear hq hdep hold
              simp only [h4, h5]
              clear h4 h5
              rw [if_pos (by rfl)]
              refine OpY.val (v := (.bool false)) ?_ ⟨Kept.refl _ _, rfl⟩
              first | rfl | go_simp
            refine Steps.cons (fun x wf Kk hq hdep hold => ?_) ?_
            · try dsimp only
              have h6 : x 6 = (.bool false) := hdep 6 (by kernel_rfl)
              clear hq hdep hold
              simp only [h6]
              clear h6
              rw [if_pos (by rfl)]
              refine OpY.val (v := (.bool false)) ?_ ⟨Kept.refl _ _, rfl⟩
              first | rfl | go_simp
            refine Steps.cons (fun x wf Kk hq hdep hold => ?_) ?_
            · try dsimp only
              have h7 : x 7 = (.bool false) := hdep 7 (by kernel_rfl)
              clear hq hdep hold
              simp only [h7]
              clear h7
              rw [if_pos (by rfl)]
              refine OpY.val (v := (.slice (some ⟨b, o, none⟩) n cap)) ?_ ⟨Kept.refl _ _, rfl⟩
              first | rfl | go_simp
            refine Steps.cons (fun x wf Kk hq hdep hold => ?_) ?_
            · try dsimp only
              have h7 : x 7 = (.bool false) := hdep 7 (by kernel_rfl)
              clear hq hdep hold
              simp only [h7]
              clear h7
              rw [if_pos (by rfl)]
              refine OpY.val (v := (.int .i64 (k : Int))) ?_ ⟨Kept.refl _ _, rfl⟩
              first | rfl | go_simp
            refine Steps.cons (fun x wf Kk hq hdep hold => ?_) ?_
            · try dsimp only
              have h8 : x 8 = (.slice (some ⟨b, o, none⟩) n cap) := hdep 8 (by kernel_rfl)
              have h9 : x 9 = (.int .i64 (k : Int)) := hdep 9 (by kernel_rfl)
              have h7 : x 7 = (.bool false) := hdep 7 (by kernel_rfl)
              clear hq hdep hold
              simp only [h8, h9, h7]
              clear h8 h9 h7
              rw [if_pos (by rfl)]
              refine OpY.val (v := (.pointer (some ⟨b, o + k * 35, none⟩))) ?_ ⟨Kept.refl _ _, rfl⟩
              first | rfl | go_simp
            refine Steps.cons (fun x wf Kk hq hdep hold => ?_) ?_
            · try dsimp only
              have h10 : x 10 = (.pointer (some ⟨b, o + k * 35, none⟩)) := hdep 10 (by kernel_rfl)
              have h7 : x 7 = (.bool false) := hdep 7 (by kernel_rfl)
              clear hq hdep hold
              simp only [h10, h7]
              clear h10 h7
              rw [if_pos (by rfl)]
              refine OpY.val (v := (.pointer (some ⟨b, o + k * 35 + 1, none⟩))) ?_ ⟨Kept.refl _ _, rfl⟩
              first | rfl | go_simp
            refine Steps.cons (fun x wf Kk hq hdep hold => ?_) ?_
            · try dsimp only
              have h11 : x 11 = (.pointer (some ⟨b, o + k * 35 + 1, none⟩)) := hdep 11 (by kernel_rfl)
              have h7 : x 7 = (.bool false) := hdep 7 (by kernel_rfl)
              clear hq hdep hold
              simp only [h11, h7]
              clear h11 h7
              have cv := Kk.undrew.cell c1.out id
              rw [if_pos (by rfl)]
              refine OpY.val (v := (.int .i64 e.kind)) ?_ ⟨Kept.refl _ _, rfl⟩
              first | rfl | go_simp
            refine Steps.cons (fun x wf Kk hq hdep hold => ?_) ?_
            · try dsimp only
              have h12 : x 12 = (.int .i64 e.kind) := hdep 12 (by kernel_rfl)
              have h7 : x 7 = (.bool false) := hdep 7 (by kernel_rfl)
              clear hq hdep hold
              simp only [h12, h7]
              clear h12 h7
              rw [if_pos (by rfl)]
              refine OpY.val (v := (.bool false)) ?_ ⟨Kept.refl _ _, rfl⟩
              first | rfl | go_simp
            refine Steps.cons (fun x wf Kk hq hdep hold => ?_) ?_
            · try dsimp only
              have h7 : x 7 = (.bool false) := hdep 7 (by kernel_rfl)
              have h13 : x 13 = (.bool false) := hdep 13 (by kernel_rfl)
              clear hq hdep hold
              simp only [h7, h13]
              clear h7 h13
              rw [if_pos (by rfl)]
              refine OpY.val (v := (.bool false)) ?_ ⟨Kept.refl _ _, rfl⟩
              first | rfl | go_simp
            refine Steps.cons (fun x wf Kk hq hdep hold => ?_) ?_
            · try dsimp only
              have h14 : x 14 = (.bool false) := hdep 14 (by kernel_rfl)
              clear hq hdep hold
              simp only [h14]
              clear h14
              rw [if_pos (by rfl)]
              refine OpY.val (v := (.bool false)) ?_ ⟨Kept.refl _ _, rfl⟩
              first | rfl | go_simp
            refine Steps.cons (fun x wf Kk hq hdep hold => ?_) ?_
            · try dsimp only
              have h15 : x 15 = (.bool false) := hdep 15 (by kernel_rfl)
              clear hq hdep hold
              simp only [h15]
              clear h15
              rw [if_pos (by rfl)]
              refine OpY.val (v := (.slice (some ⟨b, o, none⟩) n cap)) ?_ ⟨Kept.refl _ _, rfl⟩
              first | rfl | go_simp
            refine Steps.cons (fun x wf Kk hq hdep hold => ?_) ?_
            · try dsimp only
              have h15 : x 15 = (.bool false) := hdep 15 (by kernel_rfl)
              clear hq hdep hold
              simp only [h15]
              clear h15
              rw [if_pos (by rfl)]
              refine OpY.val (v := (.int .i64 (k : Int))) ?_ ⟨Kept.refl _ _, rfl⟩
              first | rfl | go_simp
            refine Steps.cons (fun x wf Kk hq hdep hold => ?_) ?_
            · try dsimp only
              have h16 : x 16 = (.slice (some ⟨b, o, none⟩) n cap) := hdep 16 (by kernel_rfl)
              have h17 : x 17 = (.int .i64 (k : Int)) := hdep 17 (by kernel_rfl)
              have h15 : x 15 = (.bool false) := hdep 15 (by kernel_rfl)
              clear hq hdep hold
              simp only [h16, h17, h15]
              clear h16 h17 h15
              rw [if_pos (by rfl)]
              refine OpY.val (v := (.pointer (some ⟨b, o + k * 35, none⟩))) ?_ ⟨Kept.refl _ _, rfl⟩
              first | rfl | go_simp
            refine Steps.cons (fun x wf Kk hq hdep hold => ?_) ?_
            · try dsimp only
              have h18 : x 18 = (.pointer (some ⟨b, o + k * 35, none⟩)) := hdep 18 (by kernel_rfl)
              have h15 : x 15 = (.bool false) := hdep 15 (by kernel_rfl)
              clear hq hdep hold
              simp only [h18, h15]
              clear h18 h15
              rw [if_pos (by rfl)]
              refine OpY.val (v := (.pointer (some ⟨b, o + k * 35 + 1, none⟩))) ?_ ⟨Kept.refl _ _, rfl⟩
              first | rfl | go_simp
            refine Steps.cons (fun x wf Kk hq hdep hold => ?_) ?_
            · try dsimp only
              have h19 : x 19 = (.pointer (some ⟨b, o + k * 35 + 1, none⟩)) := hdep 19 (by kernel_rfl)
              have h15 : x 15 = (.bool false) := hdep 15 (by kernel_rfl)
              clear hq hdep hold
              simp only [h19, h15]
              clear h19 h15
              have cv := Kk.undrew.cell c1.out id
              rw [if_pos (by rfl)]
              refine OpY.val (v := (.int .i64 e.kind)) ?_ ⟨Kept.refl _ _, rfl⟩
              first | rfl | go_simp
            refine Steps.cons (fun x wf Kk hq hdep hold => ?_) ?_
            · try dsimp only
              have h20 : x 20 = (.int .i64 e.kind) := hdep 20 (by kernel_rfl)
              have h15 : x 15 = (.bool false) := hdep 15 (by kernel_rfl)
              clear hq hdep hold
              simp only [h20, h15]
              clear h20 h15
              rw [if_pos (by rfl)]
              refine OpY.val (v := (.bool false)) ?_ ⟨Kept.refl _ _, rfl⟩
              first | rfl | go_simp
            refine Steps.cons (fun x wf Kk hq hdep hold => ?_) ?_
            · try dsimp only
              have h15 : x 15 = (.bool false) := hdep 15 (by kernel_rfl)
              have h21 : x 21 = (.bool false) := hdep 21 (by kernel_rfl)
              clear hq hdep hold
              simp only [h15, h21]
              clear h15 h21
              rw [if_pos (by rfl)]
              refine OpY.val (v := (.bool false)) ?_ ⟨Kept.refl _ _, rfl⟩
              first | rfl | go_simp
            refine Steps.cons (fun x wf Kk hq hdep hold => ?_) ?_
            · try dsimp only
              have h22 : x 22 = (.bool false) := hdep 22 (by kernel_rfl)
              clear hq hdep hold
              simp only [h22]
              clear h22
              rw [if_pos (by rfl)]
              refine OpY.val (v := (.bool false)) ?_ ⟨Kept.refl _ _, rfl⟩
              first | rfl | go_simp
            refine Steps.cons (fun x wf Kk hq hdep hold => ?_) ?_
            · try dsimp only
              have h23 : x 23 = (.bool false) := hdep 23 (by kernel_rfl)
              clear hq hdep hold
              simp only [h23]
              clear h23
              rw [if_pos (by rfl)]
              refine OpY.val (v := (.slice (some ⟨b, o, none⟩) n cap)) ?_ ⟨Kept.refl _ _, rfl⟩
              first | rfl | go_simp
            refine Steps.cons (fun x wf Kk hq hdep hold => ?_) ?_
            · try dsimp only
              have h23 : x 23 = (.bool false) := hdep 23 (by kernel_rfl)
              clear hq hdep hold
              simp only [h23]
              clear h23
              rw [if_pos (by rfl)]
              refine OpY.val (v := (.int .i64 (k : Int))) ?_ ⟨Kept.refl _ _, rfl⟩
              first | rfl | go_simp
            refine Steps.cons (fun x wf Kk hq hdep hold => ?_) ?_
            · try dsimp only
              have h24 : x 24 = (.slice (some ⟨b, o, none⟩) n cap) := hdep 24 (by kernel_rfl)
              have h25 : x 25 = (.int .i64 (k : Int)) := hdep 25 (by kernel_rfl)
              have h23 : x 23 = (.bool false) := hdep 23 (by kernel_rfl)
              clear hq hdep hold
              simp only [h24, h25, h23]
              clear h24 h25 h23
              rw [if_pos (by rfl)]
              refine OpY.val (v := (.pointer (some ⟨b, o + k * 35, none⟩))) ?_ ⟨Kept.refl _ _, rfl⟩
              first | rfl | go_simp
            refine Steps.cons (fun x wf Kk hq hdep hold => ?_) ?_
            · try dsimp only
              have h26 : x 26 = (.pointer (some ⟨b, o + k * 35, none⟩)) := hdep 26 (by kernel_rfl)
              have h23 : x 23 = (.bool false) := hdep 23 (by kernel_rfl)
              clear hq hdep hold
              simp only [h26, h23]
              clear h26 h23
              rw [if_pos (by rfl)]
              refine OpY.val (v := (.pointer (some ⟨b, o + k * 35 + 3, none⟩))) ?_ ⟨Kept.refl _ _, rfl⟩
              first | rfl | go_simp
            refine Steps.cons (fun x wf Kk hq hdep hold => ?_) ?_
            · try dsimp only
              have h27 : x 27 = (.pointer (some ⟨b, o + k * 35 + 3, none⟩)) := hdep 27 (by kernel_rfl)
              have h23 : x 23 = (.bool false) := hdep 23 (by kernel_rfl)
              clear hq hdep hold
              simp only [h27, h23]
              clear h27 h23
              rw [if_pos (by rfl)]
              exact OpY.row 26 (.tmp 51) rfl b (o + k * 35 + 3) rfl (e.prev.map B) _ (Kk.undrew.rng c3.out) Tryd.underlying26 rfl (infDl hok.out.1) ⟨Kept.refl _ _, rfl⟩
            refine Steps.cons (fun x wf Kk hq hdep hold => ?_) ?_
            · try dsimp only
              have h23 : x 23 = (.bool false) := hdep 23 (by kernel_rfl)
              clear hq hdep hold
              simp only [h23]
              clear h23
              rw [if_pos (by rfl)]
              exact OpY.row 26 (.tmp 4) rfl q4 0 rfl (prev.map B) _ (range_row (Kk.undrew.blk g4.out)) Tryd.underlying26 rfl (infDl hpl.out) ⟨Kept.refl _ _, rfl⟩
            refine Steps.cons (fun x wf Kk hq hdep hold => ?_) ?_
            · try dsimp only
              have h28 : x 28 = (Dg e.prev) := hdep 28 (by kernel_rfl)
              have h29 : x 29 = (Dg prev) := hdep 29 (by kernel_rfl)
              have h23 : x 23 = (.bool false) := hdep 23 (by kernel_rfl)
              clear hq hdep hold
              simp only [h28, h29, h23]
              clear h28 h29 h23
              rw [if_pos (by rfl)]
              refine OpY.val (v := (.bool true)) ?_ ⟨Kept.refl _ _, rfl⟩
              have heq' := hne
              unfold Dg at heq' ⊢
              generalize e.prev.map B = LM at heq' ⊢
              generalize prev.map B = LL at heq' ⊢
              clear hne
              go_simp
            refine Steps.cons (fun x wf Kk hq hdep hold => ?_) ?_
            · try dsimp only
              have h23 : x 23 = (.bool false) := hdep 23 (by kernel_rfl)
              have h30 : x 30 = (.bool true) := hdep 30 (by kernel_rfl)
              clear hq hdep hold
              simp only [h23, h30]
              clear h23 h30
              rw [if_pos (by rfl)]
              refine OpY.val (v := (.bool true)) ?_ ⟨Kept.refl _ _, rfl⟩
              first | rfl | go_simp
            exact Steps.nil _
          · intro x wf Kk hv
            try dsimp only
            have h0 : x 0 = (.slice (some ⟨b, o, none⟩) n cap) := hv 0 (by kernel_rfl)
            have h1 : x 1 = (.int .i64 (k : Int)) := hv 1 (by kernel_rfl)
            have h2 : x 2 = (.pointer (some ⟨b, o + k * 35, none⟩)) := hv 2 (by kernel_rfl)
            have h3 : x 3 = (.pointer (some ⟨b, o + k * 35, none⟩)) := hv 3 (by kernel_rfl)
            have h4 : x 4 = (.int .i64 e.number) := hv 4 (by kernel_rfl)
            have h5 : x 5 = (.int .i64 (k : Int)) := hv 5 (by kernel_rfl)
            have h6 : x 6 = (.bool false) := hv 6 (by kernel_rfl)
            have h7 : x 7 = (.bool false) := hv 7 (by kernel_rfl)
            have h8 : x 8 = (.slice (some ⟨b, o, none⟩) n cap) := hv 8 (by kernel_rfl)
            have h9 : x 9 = (.int .i64 (k : Int)) := hv 9 (by kernel_rfl)
            have h10 : x 10 = (.pointer (some ⟨b, o + k * 35, none⟩)) := hv 10 (by kernel_rfl)
            have h11 : x 11 = (.pointer (some ⟨b, o + k * 35 + 1, none⟩)) := hv 11 (by kernel_rfl)
            have h12 : x 12 = (.int .i64 e.kind) := hv 12 (by kernel_rfl)
            have h13 : x 13 = (.bool false) := hv 13 (by kernel_rfl)
            have h14 : x 14 = (.bool false) := hv 14 (by kernel_rfl)
            have h15 : x 15 = (.bool false) := hv 15 (by kernel_rfl)
            have h16 : x 16 = (.slice (some ⟨b, o, none⟩) n cap) := hv 16 (by kernel_rfl)
            have h17 : x 17 = (.int .i64 (k : Int)) := hv 17 (by kernel_rfl)
            have h18 : x 18 = (.pointer (some ⟨b, o + k * 35, none⟩)) := hv 18 (by kernel_rfl)
            have h19 : x 19 = (.pointer (some ⟨b, o + k * 35 + 1, none⟩)) := hv 19 (by kernel_rfl)
            have h20 : x 20 = (.int .i64 e.kind) := hv 20 (by kernel_rfl)
            have h21 : x 21 = (.bool false) := hv 21 (by kernel_rfl)
            have h22 : x 22 = (.bool false) := hv 22 (by kernel_rfl)
            have h23 : x 23 = (.bool false) := hv 23 (by kernel_rfl)
            have h24 : x 24 = (.slice (some ⟨b, o, none⟩) n cap) := hv 24 (by kernel_rfl)
            have h25 : x 25 = (.int .i64 (k : Int)) := hv 25 (by kernel_rfl)
            have h26 : x 26 = (.pointer (some ⟨b, o + k * 35, none⟩)) := hv 26 (by kernel_rfl)
            have h27 : x 27 = (.pointer (some ⟨b, o + k * 35 + 3, none⟩)) := hv 27 (by kernel_rfl)
            have h28 : x 28 = (Dg e.prev) := hv 28 (by kernel_rfl)
            have h29 : x 29 = (Dg prev) := hv 29 (by kernel_rfl)
            have h30 : x 30 = (.bool true) := hv 30 (by kernel_rfl)
            have h31 : x 31 = (.bool true) := hv 31 (by kernel_rfl)
            clear hv
            simp only [h0, h1, h2, h3, h4, h5, h6, h7, h8, h9, h10, h11, h12, h13, h14, h15, h16, h17, h18, h19, h20, h21, h22, h23, h24, h25, h26, h27, h28, h29, h30, h31]
            clear h0 h1 h2 h3 h4 h5 h6 h7 h8 h9 h10 h11 h12 h13 h14 h15 h16 h17 h18 h19 h20 h21 h22 h23 h24 h25 h26 h27 h28 h29 h30 h31
            have kz := hid (K3.out.trans' Kk.undrew)
            clear Kk
            go_wp2_with fail
            go_ret
            exact ⟨by rw [hv.out]; rfl, kz.out⟩
        have hne := neqDg e.prev prev hok.out.1 hpl.out false (by simpa using hpe)
        have hv : Hd (chk Z32l 0 (ents ps) = chk (pvD (ents ps) (k + 1)) (k + 1) ((ents ps).drop (k + 1))) := ⟨by rw [hch'.out, if_pos ⟨hnum, by unfold poss; simp; omega, hpe.trans hpv.out⟩, hpv1.out]⟩
        clear hch'
        refine region_flow (S := no) (Sl := (fun _ => no)) [Is (.slice (some ⟨b, o, none⟩) n cap), Is (.int .i64 (k : Int)), Is (.pointer (some ⟨b, o + k * 35, none⟩)), Is (.pointer (some ⟨b, o + k * 35, none⟩)), Is (.int .i64 e.number), Is (.int .i64 (k : Int)), Is (.bool false), Is (.bool false), Is (.slice (some ⟨b, o, none⟩) n cap), Is (.int .i64 (k : Int)), Is (.pointer (some ⟨b, o + k * 35, none⟩)), Is (.pointer (some ⟨b, o + k * 35 + 1, none⟩)), Is (.int .i64 e.kind), Is (.bool false), Is (.bool false), Is (.bool false), Is (.slice (some ⟨b, o, none⟩) n cap), Is (.int .i64 (k : Int)), Is (.pointer (some ⟨b, o + k * 35, none⟩)), Is (.pointer (some ⟨b, o + k * 35 + 1, none⟩)), Is (.int .i64 e.kind), Is (.bool false), Is (.bool false), Is (.bool false), Is (.slice (some ⟨b, o, none⟩) n cap), Is (.int .i64 (k : Int)), Is (.pointer (some ⟨b, o + k * 35, none⟩)), Is (.pointer (some ⟨b, o + k * 35 + 3, none⟩)), Is (Dg e.prev), Is (Dg prev), Is (.bool false), Is (.bool false)] [] (fun _ _ h => h) _ (by kernel_rfl) (by kernel_rfl) (by kernel_rfl) (by kernel_rfl) (fun x => by simp only [puts, Act.put, List.map_cons, List.map_nil, Nat.zero_add, Nat.reduceAdd, List.setIfInBounds_toArray, List.set_cons_zero, List.set_cons_succ]; exact rfl) ?_ ?_
        · skip
          refine Steps.cons (fun x wf Kk hq hdep hold => ?_) ?_
          · try dsimp only
            clear hq hdep hold
            rw [if_pos (by rfl)]
            refine OpY.val (v := (.slice (some ⟨b, o, none⟩) n cap)) ?_ ⟨Kept.refl _ _, rfl⟩
            first | rfl | go_simp
          refine Steps.cons (fun x wf Kk hq hdep hold => ?_) ?_
          · try dsimp only
            clear hq hdep hold
            rw [if_pos (by rfl)]
            refine OpY.val (v := (.int .i64 (k : Int))) ?_ ⟨Kept.refl _ _, rfl⟩
            first | rfl | go_simp
          refine Steps.cons (fun x wf Kk hq hdep hold => ?_) ?_
          · try dsimp only
            have h0 : x 0 = (.slice (some ⟨b, o, none⟩) n cap) := hdep 0 (by kernel_rfl)
            have h1 : x 1 = (.int .i64 (k : Int)) := hdep 1 (by kernel_rfl)
            clear hq hdep hold
            simp only [h0, h1]
            clear h0 h1
            rw [if_pos (by rfl)]
            refine OpY.val (v := (.pointer (some ⟨b, o + k * 35, none⟩))) ?_ ⟨Kept.refl _ _, rfl⟩
            first | rfl | go_simp
          refine Steps.cons (fun x wf Kk hq hdep hold => ?_) ?_
          · try dsimp only
            have h2 : x 2 = (.pointer (some ⟨b, o + k * 35, none⟩)) := hdep 2 (by kernel_rfl)
            clear hq hdep hold
            simp only [h2]
            clear h2
            rw [if_pos (by rfl)]
            refine OpY.val (v := (.pointer (some ⟨b, o + k * 35, none⟩))) ?_ ⟨Kept.refl _ _, rfl⟩
            first | rfl | go_simp
          refine Steps.cons (fun x wf Kk hq hdep hold => ?_) ?_
          · try dsimp only
            have h3 : x 3 = (.pointer (some ⟨b, o + k * 35, none⟩)) := hdep 3 (by kernel_rfl)
            clear hq hdep hold
            simp only [h3]
            clear h3
            have cv := Kk.undrew.cell c0.out id
            rw [if_pos (by rfl)]
            refine OpY.val (v := (.int .i64 e.number)) ?_ ⟨Kept.refl _ _, rfl⟩
            first | rfl | go_simp
          refine Steps.cons (fun x wf Kk hq hdep hold => ?_) ?_
          · try dsimp only
            clear hq hdep hold
            rw [if_pos (by rfl)]
            refine OpY.val (v := (.int .i64 (k : Int))) ?_ ⟨Kept.refl _ _, rfl⟩
            first | rfl | go_simp
          refine Steps.cons (fun x wf Kk hq hdep hold => ?_) ?_
          · try dsimp only
            have h4 : x 4 = (.int .i64 e.number) := hdep 4 (by kernel_rfl)
            have h5 : x 5 = (.int .i64 (k : Int)) := hdep 5 (by kernel_rfl)
            clear hq hdep hold
            simp only [h4, h5]
            clear h4 h5
            rw [if_pos (by rfl)]
            refine OpY.val (v := (.bool false)) ?_ ⟨Kept.refl _ _, rfl⟩
            first | rfl | go_simp
          refine Steps.cons (fun x wf Kk hq hdep hold => ?_) ?_
          · try dsimp only
            have h6 : x 6 = (.bool false) := hdep 6 (by kernel_rfl)
            clear hq hdep hold
            simp only [h6]
            clear h6
            rw [if_pos (by rfl)]
            refine OpY.val (v := (.bool false)) ?_ ⟨Kept.refl _ _, rfl⟩
            first | rfl | go_simp
          refine Steps.cons (fun x wf Kk hq hdep hold => ?_) ?_
          · try dsimp only
            have h7 : x 7 = (.bool false) := hdep 7 (by kernel_rfl)
            clear hq hdep hold
            simp only [h7]
            clear h7
            rw [if_pos (by rfl)]
            refine OpY.val (v := (.slice (some ⟨b, o, none⟩) n cap)) ?_ ⟨Kept.refl _ _, rfl⟩
            first | rfl | go_simp
          refine Steps.cons (fun x wf Kk hq hdep hold => ?_) ?_
          · try dsimp only
            have h7 : x 7 = (.bool false) := hdep 7 (by kernel_rfl)
            clear hq hdep hold
            simp only [h7]
            clear h7
            rw [if_pos (by rfl)]
            refine OpY.val (v := (.int .i64 (k : Int))) ?_ ⟨Kept.refl _ _, rfl⟩
            first | rfl | go_simp
          refine Steps.cons (fun x wf Kk hq hdep hold => ?_) ?_
          · try dsimp only
            have h8 : x 8 = (.slice (some ⟨b, o, none⟩) n cap) := hdep 8 (by kernel_rfl)
            have h9 : x 9 = (.int .i64 (k : Int)) := hdep 9 (by kernel_rfl)
            have h7 : x 7 = (.bool false) := hdep 7 (by kernel_rfl)
            clear hq hdep hold
            simp only [h8, h9, h7]
            clear h8 h9 h7
            rw [if_pos (by rfl)]
            refine OpY.val (v := (.pointer (some ⟨b, o + k * 35, none⟩))) ?_ ⟨Kept.refl _ _, rfl⟩
            first | rfl | go_simp
          refine Steps.cons (fun x wf Kk hq hdep hold => ?_) ?_
          · try dsimp only
            have h10 : x 10 = (.pointer (some ⟨b, o + k * 35, none⟩)) := hdep 10 (by kernel_rfl)
            have h7 : x 7 = (.bool false) := hdep 7 (by kernel_rfl)
            clear hq hdep hold
            simp only [h10, h7]
            clear h10 h7
            rw [if_pos (by rfl)]
            refine OpY.val (v := (.pointer (some ⟨b, o + k * 35 + 1, none⟩))) ?_ ⟨Kept.refl _ _, rfl⟩
            first | rfl | go_simp
          refine Steps.cons (fun x wf Kk hq hdep hold => ?_) ?_
          · try dsimp only
            have h11 : x 11 = (.pointer (some ⟨b, o + k * 35 + 1, none⟩)) := hdep 11 (by kernel_rfl)
            have h7 : x 7 = (.bool false) := hdep 7 (by kernel_rfl)
            clear hq hdep hold
            simp only [h11, h7]
            clear h11 h7
            have cv := Kk.undrew.cell c1.out id
            rw [if_pos (by rfl)]
            refine OpY.val (v := (.int .i64 e.kind)) ?_ ⟨Kept.refl _ _, rfl⟩
            first | rfl | go_simp
          refine Steps.cons (fun x wf Kk hq hdep hold => ?_) ?_
          · try dsimp only
            have h12 : x 12 = (.int .i64 e.kind) := hdep 12 (by kernel_rfl)
            have h7 : x 7 = (.bool false) := hdep 7 (by kernel_rfl)
            clear hq hdep hold
            simp only [h12, h7]
            clear h12 h7
            rw [if_pos (by rfl)]
            refine OpY.val (v := (.bool false)) ?_ ⟨Kept.refl _ _, rfl⟩
            first | rfl | go_simp
          refine Steps.cons (fun x wf Kk hq hdep hold => ?_) ?_
          · try dsimp only
            have h7 : x 7 = (.bool false) := hdep 7 (by kernel_rfl)
            have h13 : x 13 = (.bool false) := hdep 13 (by kernel_rfl)
            clear hq hdep hold
            simp only [h7, h13]
            clear h7 h13
            rw [if_pos (by rfl)]
            refine OpY.val (v := (.bool false)) ?_ ⟨Kept.refl _ _, rfl⟩
            first | rfl | go_simp
          refine Steps.cons (fun x wf Kk hq hdep hold => ?_) ?_
          · try dsimp only
            have h14 : x 14 = (.bool false) := hdep 14 (by kernel_rfl)
            clear hq hdep hold
            simp only [h14]
            clear h14
            rw [if_pos (by rfl)]
            refine OpY.val (v := (.bool false)) ?_ ⟨Kept.refl _ _, rfl⟩
            first | rfl | go_simp
          refine Steps.cons (fun x wf Kk hq hdep hold => ?_) ?_
          · try dsimp only
            have h15 : x 15 = (.bool false) := hdep 15 (by kernel_rfl)
            clear hq hdep hold
            simp only [h15]
            clear h15
            rw [if_pos (by rfl)]
            refine OpY.val (v := (.slice (some ⟨b, o, none⟩) n cap)) ?_ ⟨Kept.refl _ _, rfl⟩
            first | rfl | go_simp
          refine Steps.cons (fun x wf Kk hq hdep hold => ?_) ?_
          · try dsimp only
            have h15 : x 15 = (.bool false) := hdep 15 (by kernel_rfl)
            clear hq hdep hold
            simp only [h15]
            clear h15
            rw [if_pos (by rfl)]
            refine OpY.val (v := (.int .i64 (k : Int))) ?_ ⟨Kept.refl _ _, rfl⟩
            first | rfl | go_simp
          refine Steps.cons (fun x wf Kk hq hdep hold => ?_) ?_
          · try dsimp only
            have h16 : x 16 = (.slice (some ⟨b, o, none⟩) n cap) := hdep 16 (by kernel_rfl)
            have h17 : x 17 = (.int .i64 (k : Int)) := hdep 17 (by kernel_rfl)
            have h15 : x 15 = (.bool false) := hdep 15 (by kernel_rfl)
            clear hq hdep hold
            simp only [h16, h17, h15]
            clear h16 h17 h15
            rw [if_pos (by rfl)]
            refine OpY.val (v := (.pointer (some ⟨b, o + k * 35, none⟩))) ?_ ⟨Kept.refl _ _, rfl⟩
            first | rfl | go_simp
          refine Steps.cons (fun x wf Kk hq hdep hold => ?_) ?_
          · try dsimp only
            have h18 : x 18 = (.pointer (some ⟨b, o + k * 35, none⟩)) := hdep 18 (by kernel_rfl)
            have h15 : x 15 = (.bool false) := hdep 15 (by kernel_rfl)
            clear hq hdep hold
            simp only [h18, h15]
            clear h18 h15
            rw [if_pos (by rfl)]
            refine OpY.val (v := (.pointer (some ⟨b, o + k * 35 + 1, none⟩))) ?_ ⟨Kept.refl _ _, rfl⟩
            first | rfl | go_simp
          refine Steps.cons (fun x wf Kk hq hdep hold => ?_) ?_
          · try dsimp only
            have h19 : x 19 = (.pointer (some ⟨b, o + k * 35 + 1, none⟩)) := hdep 19 (by kernel_rfl)
            have h15 : x 15 = (.bool false) := hdep 15 (by kernel_rfl)
            clear hq hdep hold
            simp only [h19, h15]
            clear h19 h15
            have cv := Kk.undrew.cell c1.out id
            rw [if_pos (by rfl)]
            refine OpY.val (v := (.int .i64 e.kind)) ?_ ⟨Kept.refl _ _, rfl⟩
            first | rfl | go_simp
          refine Steps.cons (fun x wf Kk hq hdep hold => ?_) ?_
          · try dsimp only
            have h20 : x 20 = (.int .i64 e.kind) := hdep 20 (by kernel_rfl)
            have h15 : x 15 = (.bool false) := hdep 15 (by kernel_rfl)
            clear hq hdep hold
            simp only [h20, h15]
            clear h20 h15
            rw [if_pos (by rfl)]
            refine OpY.val (v := (.bool false)) ?_ ⟨Kept.refl _ _, rfl⟩
            first | rfl | go_simp
          refine Steps.cons (fun x wf Kk hq hdep hold => ?_) ?_
          · try dsimp only
            have h15 : x 15 = (.bool false) := hdep 15 (by kernel_rfl)
            have h21 : x 21 = (.bool false) := hdep 21 (by kernel_rfl)
            clear hq hdep hold
            simp only [h15, h21]
            clear h15 h21
            rw [if_pos (by rfl)]
            refine OpY.val (v := (.bool false)) ?_ ⟨Kept.refl _ _, rfl⟩
            first | rfl | go_simp
          refine Steps.cons (fun x wf Kk hq hdep hold => ?_) ?_
          · try dsimp only
            have h22 : x 22 = (.bool false) := hdep 22 (by kernel_rfl)
            clear hq hdep hold
            simp only [h22]
            clear h22
            rw [if_pos (by rfl)]
            refine OpY.val (v := (.bool false)) ?_ ⟨Kept.refl _ _, rfl⟩
            first | rfl | go_simp
          refine Steps.cons (fun x wf Kk hq hdep hold => ?_) ?_
          · try dsimp only
            have h23 : x 23 = (.bool false) := hdep 23 (by kernel_rfl)
            clear hq hdep hold
            simp only [h23]
            clear h23
            rw [if_pos (by rfl)]
            refine OpY.val (v := (.slice (some ⟨b, o, none⟩) n cap)) ?_ ⟨Kept.refl _ _, rfl⟩
            first | rfl | go_simp
          refine Steps.cons (fun x wf Kk hq hdep hold => ?_) ?_
          · try dsimp only
            have h23 : x 23 = (.bool false) := hdep 23 (by kernel_rfl)
            clear hq hdep hold
            simp only [h23]
            clear h23
            rw [if_pos (by rfl)]
            refine OpY.val (v := (.int .i64 (k : Int))) ?_ ⟨Kept.refl _ _, rfl⟩
            first | rfl | go_simp
          refine Steps.cons (fun x wf Kk hq hdep hold => ?_) ?_
          · try dsimp only
            have h24 : x 24 = (.slice (some ⟨b, o, none⟩) n cap) := hdep 24 (by kernel_rfl)
            have h25 : x 25 = (.int .i64 (k : Int)) := hdep 25 (by kernel_rfl)
            have h23 : x 23 = (.bool false) := hdep 23 (by kernel_rfl)
            clear hq hdep hold
            simp only [h24, h25, h23]
            clear h24 h25 h23
            rw [if_pos (by rfl)]
            refine OpY.val (v := (.pointer (some ⟨b, o + k * 35, none⟩))) ?_ ⟨Kept.refl _ _, rfl⟩
            first | rfl | go_simp
          refine Steps.cons (fun x wf Kk hq hdep hold => ?_) ?_
          · try dsimp only
            have h26 : x 26 = (.pointer (some ⟨b, o + k * 35, none⟩)) := hdep 26 (by kernel_rfl)
            have h23 : x 23 = (.bool false) := hdep 23 (by kernel_rfl)
            clear hq hdep hold
            simp only [h26, h23]
            clear h26 h23
            rw [if_pos (by rfl)]
            refine OpY.val (v := (.pointer (some ⟨b, o + k * 35 + 3, none⟩))) ?_ ⟨Kept.refl _ _, rfl⟩
            first | rfl | go_simp
          refine Steps.cons (fun x wf Kk hq hdep hold => ?_) ?_
          · try dsimp only
            have h27 : x 27 = (.pointer (some ⟨b, o + k * 35 + 3, none⟩)) := hdep 27 (by kernel_rfl)
            have h23 : x 23 = (.bool false) := hdep 23 (by kernel_rfl)
            clear hq hdep hold
            simp only [h27, h23]
            clear h27 h23
            rw [if_pos (by rfl)]
            exact OpY.row 26 (.tmp 51) rfl b (o + k * 35 + 3) rfl (e.prev.map B) _ (Kk.undrew.rng c3.out) Tryd.underlying26 rfl (infDl hok.out.1) ⟨Kept.refl _ _, rfl⟩
          refine Steps.cons (fun x wf Kk hq hdep hold => ?_) ?_
          · try dsimp only
            have h23 : x 23 = (.bool false) := hdep 23 (by kernel_rfl)
            clear hq hdep hold
            simp only [h23]
            clear h23
            rw [if_pos (by rfl)]
            exact OpY.row 26 (.tmp 4) rfl q4 0 rfl (prev.map B) _ (range_row (Kk.undrew.blk g4.out)) Tryd.underlying26 rfl (infDl hpl.out) ⟨Kept.refl _ _, rfl⟩
          refine Steps.cons (fun x wf Kk hq hdep hold => ?_) ?_
          · try dsimp only
            have h28 : x 28 = (Dg e.prev) := hdep 28 (by kernel_rfl)
            have h29 : x 29 = (Dg prev) := hdep 29 (by kernel_rfl)
            have h23 : x 23 = (.bool false) := hdep 23 (by kernel_rfl)
            clear hq hdep hold
            simp only [h28, h29, h23]
            clear h28 h29 h23
            rw [if_pos (by rfl)]
            refine OpY.val (v := (.bool false)) ?_ ⟨Kept.refl _ _, rfl⟩
            have heq' := hne
            unfold Dg at heq' ⊢
            generalize e.prev.map B = LM at heq' ⊢
            generalize prev.map B = LL at heq' ⊢
            clear hne
            go_simp
          refine Steps.cons (fun x wf Kk hq hdep hold => ?_) ?_
          · try dsimp only
            have h23 : x 23 = (.bool false) := hdep 23 (by kernel_rfl)
            have h30 : x 30 = (.bool false) := hdep 30 (by kernel_rfl)
            clear hq hdep hold
            simp only [h23, h30]
            clear h23 h30
            rw [if_pos (by rfl)]
            refine OpY.val (v := (.bool false)) ?_ ⟨Kept.refl _ _, rfl⟩
            first | rfl | go_simp
          exact Steps.nil _
        · intro x wf Kk hv
          try dsimp only
          have h0 : x 0 = (.slice (some ⟨b, o, none⟩) n cap) := hv 0 (by kernel_rfl)
          have h1 : x 1 = (.int .i64 (k : Int)) := hv 1 (by kernel_rfl)
          have h2 : x 2 = (.pointer (some ⟨b, o + k * 35, none⟩)) := hv 2 (by kernel_rfl)
          have h3 : x 3 = (.pointer (some ⟨b, o + k * 35, none⟩)) := hv 3 (by kernel_rfl)
          have h4 : x 4 = (.int .i64 e.number) := hv 4 (by kernel_rfl)
          have h5 : x 5 = (.int .i64 (k : Int)) := hv 5 (by kernel_rfl)
          have h6 : x 6 = (.bool false) := hv 6 (by kernel_rfl)
          have h7 : x 7 = (.bool false) := hv 7 (by kernel_rfl)
          have h8 : x 8 = (.slice (some ⟨b, o, none⟩) n cap) := hv 8 (by kernel_rfl)
          have h9 : x 9 = (.int .i64 (k : Int)) := hv 9 (by kernel_rfl)
          have h10 : x 10 = (.pointer (some ⟨b, o + k * 35, none⟩)) := hv 10 (by kernel_rfl)
          have h11 : x 11 = (.pointer (some ⟨b, o + k * 35 + 1, none⟩)) := hv 11 (by kernel_rfl)
          have h12 : x 12 = (.int .i64 e.kind) := hv 12 (by kernel_rfl)
          have h13 : x 13 = (.bool false) := hv 13 (by kernel_rfl)
          have h14 : x 14 = (.bool false) := hv 14 (by kernel_rfl)
          have h15 : x 15 = (.bool false) := hv 15 (by kernel_rfl)
          have h16 : x 16 = (.slice (some ⟨b, o, none⟩) n cap) := hv 16 (by kernel_rfl)
          have h17 : x 17 = (.int .i64 (k : Int)) := hv 17 (by kernel_rfl)
          have h18 : x 18 = (.pointer (some ⟨b, o + k * 35, none⟩)) := hv 18 (by kernel_rfl)
          have h19 : x 19 = (.pointer (some ⟨b, o + k * 35 + 1, none⟩)) := hv 19 (by kernel_rfl)
          have h20 : x 20 = (.int .i64 e.kind) := hv 20 (by kernel_rfl)
          have h21 : x 21 = (.bool false) := hv 21 (by kernel_rfl)
          have h22 : x 22 = (.bool false) := hv 22 (by kernel_rfl)
          have h23 : x 23 = (.bool false) := hv 23 (by kernel_rfl)
          have h24 : x 24 = (.slice (some ⟨b, o, none⟩) n cap) := hv 24 (by kernel_rfl)
          have h25 : x 25 = (.int .i64 (k : Int)) := hv 25 (by kernel_rfl)
          have h26 : x 26 = (.pointer (some ⟨b, o + k * 35, none⟩)) := hv 26 (by kernel_rfl)
          have h27 : x 27 = (.pointer (some ⟨b, o + k * 35 + 3, none⟩)) := hv 27 (by kernel_rfl)
          have h28 : x 28 = (Dg e.prev) := hv 28 (by kernel_rfl)
          have h29 : x 29 = (Dg prev) := hv 29 (by kernel_rfl)
          have h30 : x 30 = (.bool false) := hv 30 (by kernel_rfl)
          have h31 : x 31 = (.bool false) := hv 31 (by kernel_rfl)
          clear hv
          simp only [h0, h1, h2, h3, h4, h5, h6, h7, h8, h9, h10, h11, h12, h13, h14, h15, h16, h17, h18, h19, h20, h21, h22, h23, h24, h25, h26, h27, h28, h29, h30, h31]
          clear h0 h1 h2 h3 h4 h5 h6 h7 h8 h9 h10 h11 h12 h13 h14 h15 h16 h17 h18 h19 h20 h21 h22 h23 h24 h25 h26 h27 h28 h29 h30 h31
          have kz := hid (K3.out.trans' Kk.undrew)
          clear Kk K3 hrg3 c0 c1 c3 g4 hok
          go_wp2_with fail
          go_roundw
          case rel => first | exact ⟨k + 1, by omega, by go_num, hv, kz⟩ | ((repeat apply Exists.intro); exact ⟨⟨k + 1, by omega, by go_num, hv, kz⟩, rfl⟩)
          case measure => simp [intOf]; omega
    · obtain rfl : k = n := by omega
      have hv : Hd (chk Z32l 0 (ents ps) = k) := ⟨by
        rw [hch.out, List.drop_of_length_le (by rw [ents_length, hn'.out]; exact Nat.le_refl _)]; rfl⟩
      have qm1 : min (k : Int) 5000 = (k : Int) := by omega
      have qm2 : (if 5000 < (k : Int) then (5000 : Int) else (k : Int)) = (k : Int) := by split <;> omega
      clear hlt hk hch
      go_wp2_with fail
      go_ret
      exact ⟨by rw [hv.out]; rfl, hK.out⟩
end Go.Proofs.YtknbkhmpnanegaaDoor
