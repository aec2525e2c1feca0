/- electionmake.Contest: some contest. -/
import Derived.Test.YtmigdhbolbhbeaaNames
namespace Go.Proofs.Ytmigdhbolbhbeaa
open Go.RowKit Go.Mk Go.Pil
/-- A contest's cells. -/
def conC (nm : ByteArray) (ac : Option Addr) (n cc : Nat) (cm s ra d t ov sk : Int) : List Value := [.string nm, .slice ac n cc, .int .i64 cm, .int .i64 s, .int .i64 ra, .int .i64 d, .int .i64 t, .int .i64 ov, .int .i64 sk]
set_option maxRecDepth 20000 in
set_option maxHeartbeats 1000000 in
theorem gcontest_any (method seats digits ties : Int) (n : Nat) (w : World) (hn : n ≤ 100) : Calls Try.prog 39 #[.int .i64 method, .int .i64 (n : Int), .int .i64 seats, .int .i64 digits, .int .i64 ties] w fun e w' => ∃ nm ac m cc cm s ra d t ov sk, e = .returned (.agg (conC nm ac m cc cm s ra d t ov sk).toArray) ∧ Kept no w w' := by
  obtain ⟨w0, hw0, g0, k0⟩ := alloc_named w (.cells #[.string ⟨#[]⟩, .slice none 0 0, .int .i64 0, .int .i64 0, .int .i64 0, .int .i64 0, .int .i64 0, .int .i64 0, .int .i64 0] 55)
  have HN := hid (names_any n w0 hn)
  have HM3 := hid (fun x W => mod_any x 3 W (by decide) (by decide))
  have HM5 := hid (fun x W => mod_any x 5 W (by decide) (by decide))
  have HM6 := hid (fun x W => mod_any x 6 W (by decide) (by decide))
  obtain ⟨a0, a1⟩ := modI_lt method 3 (by decide)
  obtain ⟨b0, b1⟩ := modI_lt seats 5 (by decide)
  obtain ⟨c0, c1⟩ := modI_lt ties 3 (by decide)
  obtain ⟨d0, d1⟩ := modI_lt digits 6 (by decide)
  go_enter Try.func39, Try.ntmps39
  go_wp2_with fail
  rw [← hw0]
  refine HN.out.mono ?_
  rintro e w1 ⟨ac, cc, rfl, k1⟩
  go_wp2_with fail
  refine (HM3.out method w1).mono ?_
  rintro e w2 ⟨rfl, rfl⟩
  go_wp2_with fail
  refine (HM5.out seats _).mono ?_
  rintro e w3 ⟨rfl, rfl⟩
  go_wp2_with fail
  refine (HM3.out ties _).mono ?_
  rintro e w4 ⟨rfl, rfl⟩
  go_upto_region 2 with fail
  obtain ⟨w5, hw5, g5, k5⟩ := alloc_named w4 (.cells (conC ⟨#[99]⟩ ac n cc (1 + modI method 3) (1 + modI seats 5) 0 0 (1 + modI ties 3) 0 0).toArray 55)
  have e5 : (conC ⟨#[99]⟩ ac n cc (1 + modI method 3) (1 + modI seats 5) 0 0 (1 + modI ties 3) 0 0).toArray = #[.string ⟨#[99]⟩, .slice ac n cc, .int .i64 (1 + modI method 3), .int .i64 (1 + modI seats 5), .int .i64 0, .int .i64 0, .int .i64 (1 + modI ties 3), .int .i64 0, .int .i64 0] := rfl
  rw [e5] at hw5 g5
  rw [← hw5]
  have q0 := k1.blk g0
  have q5 := k5.blk q0
  have hlt : w.heap.size < w4.heap.size := (Array.getElem?_eq_some_iff.1 q0).1
  have hk := (k0.trans' k1).trans' k5
  obtain ⟨g, hg⟩ : ∃ g, w4.heap.size = g := ⟨_, rfl⟩
  rw [hg] at g5 hlt ⊢
  clear hw5 e5 q0 k5 k0 k1 g0 hw0
  have k2 : Kept (fun j => j = g) w5 w5 := Kept.refl _ _
  obtain ⟨r, hr⟩ : ∃ r, w.heap.size = r := ⟨_, rfl⟩
  rw [hr] at q5 hlt ⊢
  have c2 : w5.cell? ⟨g, 2, none⟩ = some (.int .i64 (1 + modI method 3)) := by rw [cell_of_row w5 _ 2 _ _ _ g5]; rfl
  have c3 : w5.cell? ⟨g, 3, none⟩ = some (.int .i64 (1 + modI seats 5)) := by rw [cell_of_row w5 _ 3 _ _ _ g5]; rfl
  have c5 : w5.cell? ⟨g, 5, none⟩ = some (.int .i64 0) := by rw [cell_of_row w5 _ 5 _ _ _ g5]; rfl
  have f3 : w5.frozen? ⟨g, 3, none⟩ = false := row_free g5 3
  have f5 : w5.frozen? ⟨g, 5, none⟩ = false := row_free g5 5
  generalize modI method 3 = mm at *
  generalize modI seats 5 = sm at *
  generalize modI ties 3 = tm at *
  rcases (show mm = 0 ∨ mm = 1 ∨ mm = 2 by omega) with rfl | rfl | rfl
  · clear c5 f5
    replace q5 := hid q5
    replace g5 := hid g5
    replace hk := hid hk
    replace k2 := hid k2
    replace hr := hid hr
    replace hg := hid hg
    go_upto_region 6 with fail
    obtain ⟨w6, hw6⟩ : ∃ w6, w6 = (w5.setCell ⟨g, 3, none⟩ (.int .i64 1)) := ⟨_, rfl⟩
    rw [← hw6]
    have g6 : w6.heap[g]? = some (.cells #[.string ⟨#[99]⟩, .slice ac n cc, .int .i64 1, .int .i64 1, .int .i64 0, .int .i64 0, .int .i64 (1 + tm), .int .i64 0, .int .i64 0] 55 (0, 0)) := by rw [hw6]; exact setCell_row g5.out 3 _
    have q6 := (hw6 ▸ (heap_setCell_other w5 ⟨g, 3, none⟩ r _ (by show r ≠ g; omega)).trans q5.out : w6.heap[r]? = some (.cells _ 55 (0, 0)))
    have k6 : Kept no w w6 := by rw [hw6]; exact hk.out.setCell (.inr (by show w.heap.size ≤ g; rw [hr.out]; omega)) _
    clear hw6 q5 g5 hk k2 HN HM3 HM5 HM6
    replace g6 := hid g6
    replace q6 := hid q6
    have k7 := hid (k6.setRow (g := r) (.inr (by rw [hr.out]; exact Nat.le_refl _)) #[.string ⟨#[99]⟩, .slice ac n cc, .int .i64 1, .int .i64 1, .int .i64 0, .int .i64 0, .int .i64 (1 + tm), .int .i64 0, .int .i64 0])
    have g7 := hid (setRow_heap w6 r _ #[.string ⟨#[99]⟩, .slice ac n cc, .int .i64 1, .int .i64 1, .int .i64 0, .int .i64 0, .int .i64 (1 + tm), .int .i64 0, .int .i64 0] _ _ q6.out)
    have hinf : Hd ((Try.prog.info? 55).map (·.size) = some (#[.string ⟨#[99]⟩, .slice ac n cc, .int .i64 1, .int .i64 1, .int .i64 0, .int .i64 0, .int .i64 (1 + tm), .int .i64 0, .int .i64 0] : Array Value).size) := ⟨by kernel_rfl⟩
    have hold : Hd ((#[.string ⟨#[]⟩, .slice none 0 0, .int .i64 0, .int .i64 0, .int .i64 0, .int .i64 0, .int .i64 0, .int .i64 0, .int .i64 0] : Array Value).size = (#[.string ⟨#[99]⟩, .slice ac n cc, .int .i64 1, .int .i64 1, .int .i64 0, .int .i64 0, .int .i64 (1 + tm), .int .i64 0, .int .i64 0] : Array Value).size) := ⟨rfl⟩
    have hone : Hd ((#[.string ⟨#[99]⟩, .slice ac n cc, .int .i64 1, .int .i64 1, .int .i64 0, .int .i64 0, .int .i64 (1 + tm), .int .i64 0, .int .i64 0] : Array Value).all (·.oneCell') = true) := ⟨by simp [Value.oneCell']⟩
    go_wp2_with (first | (with_reducible refine wpList_load_row rfl 55 _ rfl g rfl 55 _ _ _ g6.out Try.underlying55 rfl (by kernel_rfl) ?_) | (with_reducible refine wpList_store_row rfl 55 _ _ rfl r #[.string ⟨#[99]⟩, .slice ac n cc, .int .i64 1, .int .i64 1, .int .i64 0, .int .i64 0, .int .i64 (1 + tm), .int .i64 0, .int .i64 0] rfl rfl 55 _ q6.out hinf.out hold.out hone.out ?_))
    refine bodyPost_ret (v := .agg #[.string ⟨#[99]⟩, .slice ac n cc, .int .i64 1, .int .i64 1, .int .i64 0, .int .i64 0, .int .i64 (1 + tm), .int .i64 0, .int .i64 0]) ?_ rfl ?_
    rotate_left
    · exact ⟨⟨#[99]⟩, ac, n, cc, 1, 1, 0, 0, 1 + tm, 0, 0, rfl, k7.out⟩
    · exact results_cell_row rfl _ _ r 55 #[.string ⟨#[99]⟩, .slice ac n cc, .int .i64 1, .int .i64 1, .int .i64 0, .int .i64 0, .int .i64 (1 + tm), .int .i64 0, .int .i64 0] (0, 0) _ rfl g7.out Try.underlying55 rfl (by kernel_rfl)
  · clear c3 f3
    replace q5 := hid q5
    replace g5 := hid g5
    replace hk := hid hk
    replace k2 := hid k2
    replace hr := hid hr
    replace hg := hid hg
    go_upto_region 3 with fail
    have hd0 : IntKind.i64.wrap (1 + modI digits 6) = 1 + modI digits 6 := IntWalk.i64_in _ (by omega)
    go_upto_region 6 with (refine (HM6.out digits _).mono ?_; rintro e w2 ⟨rfl, rfl⟩)
    obtain ⟨w6, hw6⟩ : ∃ w6, w6 = (w2.setCell ⟨g, 5, none⟩ (.int .i64 (1 + modI digits 6))) := ⟨_, rfl⟩
    rw [← hw6]
    have g6 : w6.heap[g]? = some (.cells #[.string ⟨#[99]⟩, .slice ac n cc, .int .i64 2, .int .i64 (1 + sm), .int .i64 0, .int .i64 (1 + modI digits 6), .int .i64 (1 + tm), .int .i64 0, .int .i64 0] 55 (0, 0)) := by rw [hw6]; exact setCell_row g5.out 5 _
    have q6 := (hw6 ▸ (heap_setCell_other w2 ⟨g, 5, none⟩ r _ (by show r ≠ g; omega)).trans q5.out : w6.heap[r]? = some (.cells _ 55 (0, 0)))
    have k6 : Kept no w w6 := by rw [hw6]; exact hk.out.setCell (.inr (by show w.heap.size ≤ g; rw [hr.out]; omega)) _
    clear hw6 q5 g5 hk k2 HN HM3 HM5 HM6
    replace g6 := hid g6
    replace q6 := hid q6
    have k7 := hid (k6.setRow (g := r) (.inr (by rw [hr.out]; exact Nat.le_refl _)) #[.string ⟨#[99]⟩, .slice ac n cc, .int .i64 2, .int .i64 (1 + sm), .int .i64 0, .int .i64 (1 + modI digits 6), .int .i64 (1 + tm), .int .i64 0, .int .i64 0])
    have g7 := hid (setRow_heap w6 r _ #[.string ⟨#[99]⟩, .slice ac n cc, .int .i64 2, .int .i64 (1 + sm), .int .i64 0, .int .i64 (1 + modI digits 6), .int .i64 (1 + tm), .int .i64 0, .int .i64 0] _ _ q6.out)
    have hinf : Hd ((Try.prog.info? 55).map (·.size) = some (#[.string ⟨#[99]⟩, .slice ac n cc, .int .i64 2, .int .i64 (1 + sm), .int .i64 0, .int .i64 (1 + modI digits 6), .int .i64 (1 + tm), .int .i64 0, .int .i64 0] : Array Value).size) := ⟨by kernel_rfl⟩
    have hold : Hd ((#[.string ⟨#[]⟩, .slice none 0 0, .int .i64 0, .int .i64 0, .int .i64 0, .int .i64 0, .int .i64 0, .int .i64 0, .int .i64 0] : Array Value).size = (#[.string ⟨#[99]⟩, .slice ac n cc, .int .i64 2, .int .i64 (1 + sm), .int .i64 0, .int .i64 (1 + modI digits 6), .int .i64 (1 + tm), .int .i64 0, .int .i64 0] : Array Value).size) := ⟨rfl⟩
    have hone : Hd ((#[.string ⟨#[99]⟩, .slice ac n cc, .int .i64 2, .int .i64 (1 + sm), .int .i64 0, .int .i64 (1 + modI digits 6), .int .i64 (1 + tm), .int .i64 0, .int .i64 0] : Array Value).all (·.oneCell') = true) := ⟨by simp [Value.oneCell']⟩
    go_wp2_with (first | (with_reducible refine wpList_load_row rfl 55 _ rfl g rfl 55 _ _ _ g6.out Try.underlying55 rfl (by kernel_rfl) ?_) | (with_reducible refine wpList_store_row rfl 55 _ _ rfl r #[.string ⟨#[99]⟩, .slice ac n cc, .int .i64 2, .int .i64 (1 + sm), .int .i64 0, .int .i64 (1 + modI digits 6), .int .i64 (1 + tm), .int .i64 0, .int .i64 0] rfl rfl 55 _ q6.out hinf.out hold.out hone.out ?_))
    refine bodyPost_ret (v := .agg #[.string ⟨#[99]⟩, .slice ac n cc, .int .i64 2, .int .i64 (1 + sm), .int .i64 0, .int .i64 (1 + modI digits 6), .int .i64 (1 + tm), .int .i64 0, .int .i64 0]) ?_ rfl ?_
    rotate_left
    · exact ⟨⟨#[99]⟩, ac, n, cc, 2, (1 + sm), 0, (1 + modI digits 6), 1 + tm, 0, 0, rfl, k7.out⟩
    · exact results_cell_row rfl _ _ r 55 #[.string ⟨#[99]⟩, .slice ac n cc, .int .i64 2, .int .i64 (1 + sm), .int .i64 0, .int .i64 (1 + modI digits 6), .int .i64 (1 + tm), .int .i64 0, .int .i64 0] (0, 0) _ rfl g7.out Try.underlying55 rfl (by kernel_rfl)
  · clear c3 c5 f3 f5
    replace q5 := hid q5
    replace g5 := hid g5
    replace hk := hid hk
    replace k2 := hid k2
    replace hr := hid hr
    replace hg := hid hg
    go_upto_region 6 with fail
    obtain ⟨w6, hw6⟩ : ∃ w6, w6 = w5 := ⟨_, rfl⟩
    rw [← hw6]
    have g6 : w6.heap[g]? = some (.cells #[.string ⟨#[99]⟩, .slice ac n cc, .int .i64 3, .int .i64 (1 + sm), .int .i64 0, .int .i64 0, .int .i64 (1 + tm), .int .i64 0, .int .i64 0] 55 (0, 0)) := by rw [hw6]; exact g5.out
    have q6 := (hw6 ▸ q5.out : w6.heap[r]? = some (.cells _ 55 (0, 0)))
    have k6 : Kept no w w6 := by rw [hw6]; exact hk.out
    clear hw6 q5 g5 hk k2 HN HM3 HM5 HM6
    replace g6 := hid g6
    replace q6 := hid q6
    have k7 := hid (k6.setRow (g := r) (.inr (by rw [hr.out]; exact Nat.le_refl _)) #[.string ⟨#[99]⟩, .slice ac n cc, .int .i64 3, .int .i64 (1 + sm), .int .i64 0, .int .i64 0, .int .i64 (1 + tm), .int .i64 0, .int .i64 0])
    have g7 := hid (setRow_heap w6 r _ #[.string ⟨#[99]⟩, .slice ac n cc, .int .i64 3, .int .i64 (1 + sm), .int .i64 0, .int .i64 0, .int .i64 (1 + tm), .int .i64 0, .int .i64 0] _ _ q6.out)
    have hinf : Hd ((Try.prog.info? 55).map (·.size) = some (#[.string ⟨#[99]⟩, .slice ac n cc, .int .i64 3, .int .i64 (1 + sm), .int .i64 0, .int .i64 0, .int .i64 (1 + tm), .int .i64 0, .int .i64 0] : Array Value).size) := ⟨by kernel_rfl⟩
    have hold : Hd ((#[.string ⟨#[]⟩, .slice none 0 0, .int .i64 0, .int .i64 0, .int .i64 0, .int .i64 0, .int .i64 0, .int .i64 0, .int .i64 0] : Array Value).size = (#[.string ⟨#[99]⟩, .slice ac n cc, .int .i64 3, .int .i64 (1 + sm), .int .i64 0, .int .i64 0, .int .i64 (1 + tm), .int .i64 0, .int .i64 0] : Array Value).size) := ⟨rfl⟩
    have hone : Hd ((#[.string ⟨#[99]⟩, .slice ac n cc, .int .i64 3, .int .i64 (1 + sm), .int .i64 0, .int .i64 0, .int .i64 (1 + tm), .int .i64 0, .int .i64 0] : Array Value).all (·.oneCell') = true) := ⟨by simp [Value.oneCell']⟩
    go_wp2_with (first | (with_reducible refine wpList_load_row rfl 55 _ rfl g rfl 55 _ _ _ g6.out Try.underlying55 rfl (by kernel_rfl) ?_) | (with_reducible refine wpList_store_row rfl 55 _ _ rfl r #[.string ⟨#[99]⟩, .slice ac n cc, .int .i64 3, .int .i64 (1 + sm), .int .i64 0, .int .i64 0, .int .i64 (1 + tm), .int .i64 0, .int .i64 0] rfl rfl 55 _ q6.out hinf.out hold.out hone.out ?_))
    refine bodyPost_ret (v := .agg #[.string ⟨#[99]⟩, .slice ac n cc, .int .i64 3, .int .i64 (1 + sm), .int .i64 0, .int .i64 0, .int .i64 (1 + tm), .int .i64 0, .int .i64 0]) ?_ rfl ?_
    rotate_left
    · exact ⟨⟨#[99]⟩, ac, n, cc, 3, (1 + sm), 0, 0, 1 + tm, 0, 0, rfl, k7.out⟩
    · exact results_cell_row rfl _ _ r 55 #[.string ⟨#[99]⟩, .slice ac n cc, .int .i64 3, .int .i64 (1 + sm), .int .i64 0, .int .i64 0, .int .i64 (1 + tm), .int .i64 0, .int .i64 0] (0, 0) _ rfl g7.out Try.underlying55 rfl (by kernel_rfl)
end Go.Proofs.Ytmigdhbolbhbeaa
