/- electionref04.Cut: at most n parts of at most m bytes. -/
import Derived.Test.YtmacnamgjjglmaaDoorJoin
import Derived.Test.YtmacnamgjjglmaaDoorEq
import Derived.Test.YtmacnamgjjglmaaDoorKit2
namespace Go.Proofs.YtmacnamgjjglmaaDoor
open Go.RowKit Go.Mk Go.Sha
theorem TParts : ElemT Tryd.prog 28 22 1 24 := .mk' (z := .slice none 0 0) (by kernel_rfl) (by kernel_rfl) (by kernel_rfl) (by decide)
def cut (ps : List (List UInt8)) (n m : Nat) : List (List UInt8) := (ps.take n).map (·.take m)
/-- The first m bytes of a slice of bytes. -/
theorem Rd.first {w : World} {ao : Option Addr} {cap : Nat} {xs : List UInt8} (h : Rd w 1 (.slice ao xs.length cap) xs.length (xs.map B)) (m : Nat) :
    Rd w 1 (.slice ao (min xs.length m) cap) (xs.take m).length ((xs.take m).map B) := by
  obtain ⟨_, a, c, e, h1, h2, h3⟩ := h
  cases e
  have hl : (xs.take m).length = min xs.length m := by rw [List.length_take, Nat.min_comm]
  refine ⟨by simp, ao, cap, by rw [hl], by omega, h2, ?_⟩
  rcases h3 with h3 | ⟨b, o, rfl, hc⟩
  · exact .inl h3
  · refine .inr ⟨b, o, rfl, fun j u hu => hc j u ?_⟩
    rw [List.map_take, List.getElem?_take] at hu
    split at hu
    · exact hu
    · cases hu
set_option maxRecDepth 20000 in
set_option maxHeartbeats 400000 in
theorem cut_any (v : Value) (ps : List (List UInt8)) (n m : Nat) (w : World) (hn : ps.length ≤ 9223372036854775807) (hm : m ≤ 1000) (hn' : n ≤ 1000) (hlen : ∀ p ∈ ps, p.length ≤ 9223372036854775807) (hr : RdP w v ps) :
    Calls Tryd.prog 18 #[v, .int .i64 n, .int .i64 m] w fun e w' => ∃ v', e = .returned v' ∧ RdP w' v' (cut ps n m) ∧ Kept no w w' := by
  obtain ⟨vs, h1, h2⟩ := hr
  obtain ⟨hvl, ao, cap, rfl, hcap, hcm, hao⟩ := id h1
  replace h1 := hid h1
  replace h2 := hid h2
  clear hao
  go_enter Tryd.func18, Tryd.ntmps18
  go_wp2
  go_loopw [7, 8] (fun out i wr => ∃ (k : Nat) (us : List Value), k ≤ ps.length ∧ k ≤ n ∧ i = .int .i64 k ∧ us.length = k ∧ wr.ownsRow 0 22 1 out k us ∧ (∀ j, j < k → Rd w 1 (us.getD j undef) ((ps.getD j []).take m).length (((ps.getD j []).take m).map B)) ∧ Kept no w wr ∧ New w out) (fun _ i _ => ps.length - (intOf i).toNat)
  case atStart => exact ⟨0, [], by omega, by omega, rfl, rfl, World.ownsRow_nil _ _ _ _, fun j hj => absurd hj (by omega), Kept.refl _ _, .inl rfl⟩
  case round =>
    obtain ⟨k, us, hk, hkn, rfl, hul, ho, hus, hK, hN⟩ := hrel
    replace hus := hid hus
    replace hul := hid hul
    by_cases hlt : k < ps.length ∧ k < n
    · obtain ⟨hlt1, hlt2⟩ := hlt
      have hp := h2.out k hlt1
      have hcell : ∃ b o, ao = some ⟨b, o, none⟩ ∧ wr.cell? ⟨b, o + k, none⟩ = some (vs.getD k undef) := by
        obtain ⟨_, _, _, e, _, _, h | ⟨b, o, rfl, hc⟩⟩ := h1.out
        · cases e; omega
        · cases e; exact ⟨b, o, rfl, hK.cell (hc k _ (by rw [List.getD_eq_getElem?_getD, List.getElem?_eq_getElem (by omega)]; rfl)) id⟩
      obtain ⟨b, o, rfl, hcell⟩ := hcell
      have hpl : (ps.getD k []).length ≤ 9223372036854775807 := hlen _ (by rw [List.getD_eq_getElem?_getD, List.getElem?_eq_getElem hlt1]; exact List.getElem_mem hlt1)
      have hb1 : (k : Int) < (ps.length : Int) := by omega
      have hb2 : (k : Int) < (n : Int) := by omega
      generalize hvk : vs.getD k undef = vk at hp hcell
      generalize hpk : ps.getD k [] = p at hp hpl
      replace hpk := hid hpk
      obtain ⟨_, ak, ck, rfl, hkc, hkm, _⟩ := id hp
      have hp1 := hid (Rd.first hp m)
      have hq : (if m < p.length then (m : Int) else (p.length : Int)) = ((min p.length m : Nat) : Int) := by split <;> omega
      have hqc : ((min p.length m : Nat) : Int) ≤ (ck : Int) := by omega
      have hq0 : (0 : Int) ≤ ((min p.length m : Nat) : Int) := by omega
      generalize min p.length m = q at hq hqc hq0 hp1
      clear hp hvk
      have HO : ((wr.alloc (.cells #[.slice ak q ck] 22)).drew).ownsRow 0 22 1 u7 k us := ((Kept.refl no wr).alloc _).drew.ownsRow ho fun _ _ => id
      have HR : Rd ((wr.alloc (.cells #[.slice ak q ck] 22)).drew) 1 (.slice (some ⟨wr.heap.size, 0, none⟩) 1 1) 1 [.slice ak q ck] := (Rd.new wr 22 1 1 _ rfl (by unfold maxLen; omega)).drew
      have H1 : ∀ u ∈ [Value.slice ak q ck], u.oneCell' = true := by simp [Value.oneCell']
      have HBN : ¬ ob u7 b := by
        have hlt : b < w.heap.size := by
          obtain ⟨_, _, _, e, _, _, h | ⟨b', o', h, hc⟩⟩ := h1.out
          · cases e; omega
          · cases e; cases h; exact lt_of_cell (hc k _ (List.getElem?_eq_getElem (by omega)))
        intro h
        rcases hN with hN | ⟨j, hj, hl⟩
        · rw [ob, hN] at h; cases h
        · rw [ob, hj] at h; cases h; omega
      have HC : ((wr.alloc (.cells #[.slice ak q ck] 22)).drew).cell? ⟨b, o + k, none⟩ = some (.slice ak p.length ck) := ((Kept.refl no wr).alloc _).drew.cell hcell id
      replace HBN := hid HBN
      replace HC := hid HC
      have HM : k + 1 ≤ maxLen := by unfold maxLen; omega
      have HB : (k + 1) * 24 ≤ 140737488355328 := by omega
      replace HO := hid HO
      replace HR := hid HR
      replace H1 := hid H1
      replace HM := hid HM
      go_wp2_with fail
      go_region_held3 (fun w' => w'.cell? ⟨b, o + k, none⟩ = some (.slice ak p.length ck)) (first | go_keep | exact hk1.cell HC.out HBN.out) ((refine step_append rfl (.tmp 20) (.tmp 33) 28 rfl 22 1 24 TParts u7 k _ rfl HO.out _ 1 _ rfl HR.out H1.out HM.out HB ?_; intro v1 w1 ho1 hk1 hn1 _))
      have hK' : Kept no w w1 := hN.kept hK (hk1.after_lit _)
      have hN' : New w v1 := hN.step (hn1.after_lit _) hK.size
      have hus' : ∀ j, j < k + 1 → Rd w 1 ((us ++ [Value.slice ak q ck]).getD j undef) ((ps.getD j []).take m).length (((ps.getD j []).take m).map B) := fun j hj => by
        have hul := hul.out
        by_cases hjk : j < k
        · rw [show (us ++ [Value.slice ak q ck]).getD j undef = us.getD j undef by simp [List.getElem?_append_left (show j < us.length by omega)]]
          exact hus.out j hjk
        · obtain rfl : j = k := by omega
          rw [show (us ++ [Value.slice ak q ck]).getD j undef = Value.slice ak q ck by rw [List.getD_eq_getElem?_getD, List.getElem?_append_right (by omega), hul]; simp, hpk.out]
          exact hp1.out
      have hul' : (us ++ [Value.slice ak q ck]).length = k + 1 := by simp [hul.out]
      replace hus' := hid hus'
      replace hul' := hid hul'
      clear hk1 hn1 hK hN ho HO HR HBN HC H1 hus hul hp1 hpk hq
      go_wp2
      go_roundw
      case rel => exact ⟨k + 1, _, by omega, by omega, by go_num, hul'.out, ho1, hus'.out, hK', hN'⟩
      case measure => simp [intOf]; omega
    · have hcl : (cut ps n m).length = k := by simp [cut]; omega
      have hfin : RdP wr u7 (cut ps n m) := by
        refine ⟨us, by rw [hcl]; exact Rd.of_own ho, fun j hj => ?_⟩
        rw [hcl] at hj
        have e : (cut ps n m).getD j [] = (ps.getD j []).take m := by
          simp [cut, show j < n by omega, List.getElem?_eq_getElem (show j < ps.length by omega)]
        rw [e]
        exact (hus.out j hj).keptNo hK
      have hfin := hid hfin
      clear hcl ho hus hul
      by_cases hk1 : k < ps.length
      · have hkn : ¬ ((k : Int) < (n : Int)) := by omega
        have hk2 : (k : Int) < (ps.length : Int) := by omega
        go_wp2
        go_ret
        exact ⟨_, rfl, hfin.out, hK⟩
      · have hk2 : ¬ (k : Int) < (ps.length : Int) := by omega
        go_wp2
        go_ret
        exact ⟨_, rfl, hfin.out, hK⟩
end Go.Proofs.YtmacnamgjjglmaaDoor
