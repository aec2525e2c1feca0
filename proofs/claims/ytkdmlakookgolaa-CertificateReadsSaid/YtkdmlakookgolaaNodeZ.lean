/- Nodes of certificates in memory; electionref31.least, Least (printed by gen_node.py). -/
import Derived.Test.YtkdmlakookgolaaPossZ
namespace Go.Mg
open Go.Pil
structure Nd where
  par : Int
  tail : List Int
  bd : Int
  leaf : Bool
deriving DecidableEq
instance : Inhabited Nd := ⟨⟨0, [], 0, false⟩⟩
structure Cert where
  win : Int
  mar : Int
  nodes : List Nd
/-- The first j nodes' leaf with the least bound (the first of several); -1: none. -/
def leastN (l : List Nd) : Nat → Int
  | 0 => -1
  | j + 1 => if (l.getD j default).leaf = true ∧ (leastN l j < 0 ∨ (l.getD j default).bd < (l.getD (leastN l j).toNat default).bd) then (j : Int) else leastN l j
theorem leastN_range (l : List Nd) : ∀ j, -1 ≤ leastN l j ∧ leastN l j < j
  | 0 => ⟨by show (-1 : Int) ≤ -1; decide, by show (-1 : Int) < 0; decide⟩
  | j + 1 => by
    (have := leastN_range l j); (unfold leastN)
    split <;> omega
end Go.Mg
namespace Go.Proofs.Ytkdmlakookgolaa
open Go.RowKit Go.Mk Go.Pil Go.Mg
def ndC (x : Nd × Value) : List Value := [.int .i64 x.1.par, x.2, .int .i64 x.1.bd, .bool x.1.leaf]
def flatN (l : List (Nd × Value)) : List Value := l.flatMap ndC
def nds (l : List (Nd × Value)) : List Nd := l.map (·.1)
theorem nds_length (l : List (Nd × Value)) : (nds l).length = l.length := by simp [nds]
/-- A slice of nodes. -/
def RdN (w : World) (v : Value) (l : List (Nd × Value)) : Prop := (∀ x ∈ l, RdZ w x.2 x.1.tail) ∧ Rd w 4 v l.length (flatN l)
theorem RdN.kept {w w' : World} {v : Value} {l : List (Nd × Value)} (h : RdN w v l) (k : Kept no w w') : RdN w' v l := ⟨fun x hx => (h.1 x hx).kept k, h.2.keptNo k⟩
theorem RdN.at {w : World} {ao : Option Addr} {n cap : Nat} {l : List (Nd × Value)} (h : RdN w (.slice ao n cap) l) (k : Nat) (hk : k < l.length) :
    ∃ b o x v, ao = some ⟨b, o, none⟩ ∧ l[k] = (x, v) ∧ w.cell? ⟨b, o + k * 4, none⟩ = some (.int .i64 x.par) ∧ w.cell? ⟨b, o + k * 4 + 1, none⟩ = some v ∧ w.cell? ⟨b, o + k * 4 + 2, none⟩ = some (.int .i64 x.bd)
      ∧ w.cell? ⟨b, o + k * 4 + 3, none⟩ = some (.bool x.leaf) ∧ RdZ w v x.tail := by
  (obtain ⟨b, o, e, hr⟩ := Rd.row (f := ndC) (sz := 4) (fun _ _ => rfl) h.2 k hk); (exact ⟨b, o, _, _, e, rfl, hr 0 _ rfl, hr 1 _ rfl, hr 2 _ rfl, hr 3 _ rfl, h.1 _ (List.getElem_mem hk)⟩)
theorem nds_at {l : List (Nd × Value)} {k : Nat} (hk : k < l.length) {x : Nd} {v : Value} (h : l[k] = (x, v)) : (nds l).getD k default = x := by
  rw [List.getD_eq_getElem?_getD, List.getElem?_eq_getElem (by rw [nds_length]; exact hk)]
  simp [nds, h]
set_option maxRecDepth 100000 in
set_option maxHeartbeats 4000000 in
theorem least_any (v : Value) (l : List (Nd × Value)) (w : World) (hl : l.length ≤ 100000) (hr : RdN w v l) : Calls Try.prog 52 #[v] w fun e w' => e = .returned (.int .i64 (leastN (nds l) l.length)) ∧ Kept no w w' := by
  (obtain ⟨ao, cap, rfl⟩ := Rd.shapeZ hr.2); (obtain ⟨n, hn⟩ : ∃ n, l.length = n := ⟨_, rfl⟩); (rw [hn] at hl hr ⊢); (replace hn := hid hn); (replace hr := hid hr)
  go_enter Try.func52, Try.ntmps52
  go_wp2
  go_loopw [3, 4] (fun q i wr => ∃ (k : Nat) (m : Int), k ≤ n ∧ i = .int .i64 (k : Int) ∧ q = .int .i64 m ∧ Hd (m = leastN (nds l) k) ∧ Hd (Kept no w wr)) (fun _ i _ => n - (intOf i).toNat)
  case atStart => exact ⟨0, -1, by omega, rfl, rfl, ⟨rfl⟩, ⟨Kept.refl _ _⟩⟩
  case round =>
    obtain ⟨k, m, hk, rfl, rfl, hm, hK⟩ := hrel
    by_cases hlt : k < n
    · (have hk1 : (k : Int) < (n : Int) := by omega); (have hk0 : (0 : Int) ≤ (k : Int) := by omega); (obtain ⟨b, o, x, vx, rfl, hel, c0, c1, c2, c3, hz⟩ := (hr.out.kept hK.out).at k (by rw [hn.out]; exact hlt)); (have hx := nds_at (by rw [hn.out]; exact hlt) hel)
      have hst : Hd (leastN (nds l) (k + 1) = if x.leaf = true ∧ (m < 0 ∨ x.bd < ((nds l).getD m.toNat default).bd) then (k : Int) else m) := ⟨by
        rw [hm.out]; show (if _ then _ else _) = _; rw [hx]⟩
      (have hmr : -1 ≤ m ∧ m < k := by rw [hm.out]; exact leastN_range _ _); (obtain ⟨xl, hxl⟩ : ∃ b, x.leaf = b := ⟨_, rfl⟩); (obtain ⟨xb, hxb⟩ : ∃ b, x.bd = b := ⟨_, rfl⟩); (rw [hxl] at c3 hst); (rw [hxb] at c2 hst); (clear hel hx hz c0 c1 hxl hxb hm); (replace c2 := hid c2); (replace c3 := hid c3)
      cases xl with
      | false =>
        (have hm2 : Hd (m = leastN (nds l) (k + 1)) := ⟨by rw [hst.out]; simp⟩); (clear hst); (go_upto_region 5 with fail); (refine region_flow (S := no) (Sl := (fun _ => no)) [Is (.slice (some ⟨b, o, none⟩) n cap), Is (.int .i64 (k : Int)), Is (.pointer (some ⟨b, o + k * 4, none⟩)), Is (.pointer (some ⟨b, o + k * 4 + 3, none⟩)), Is (.bool false), Is (.bool false), Is undef, Is undef, Is undef, Is undef, Is undef, Is undef, Is undef, Is undef, Is undef, Is undef, Is undef, Is undef, Is undef, Is undef, Is undef, Is (.bool false)] [] (fun _ _ h => h) _ (by kernel_rfl) (by kernel_rfl) (by kernel_rfl) (by kernel_rfl) (fun x => by simp only [puts, Act.put, List.map_cons, List.map_nil, Nat.zero_add, Nat.reduceAdd, List.setIfInBounds_toArray, List.set_cons_zero, List.set_cons_succ]; exact rfl) ?_ ?_)
        · (skip); (refine .cons (fun x wf Kk hq hdep hold => ?_) ?_)
          · (try dsimp only); (clear hq hdep hold); (rw [if_pos (by rfl)]); (refine OpY.val ?_ ⟨Kept.refl _ _, rfl⟩); (first | rfl | go_simp)
          refine .cons (fun x wf Kk hq hdep hold => ?_) ?_
          · (try dsimp only); (clear hq hdep hold); (rw [if_pos (by rfl)]); (refine OpY.val ?_ ⟨Kept.refl _ _, rfl⟩); (first | rfl | go_simp)
          refine .cons (fun x wf Kk hq hdep hold => ?_) ?_
          · (try dsimp only); (have h0 : x 0 = _ := hdep 0 (by kernel_rfl)); (have h1 : x 1 = _ := hdep 1 (by kernel_rfl)); (clear hq hdep hold); (simp only [h0, h1]); (clear h0 h1); (rw [if_pos (by rfl)]); (refine OpY.val ?_ ⟨Kept.refl _ _, rfl⟩); (first | rfl | go_simp)
          refine .cons (fun x wf Kk hq hdep hold => ?_) ?_
          · (try dsimp only); (have h2 : x 2 = _ := hdep 2 (by kernel_rfl)); (clear hq hdep hold); (simp only [h2]); (clear h2); (rw [if_pos (by rfl)]); (refine OpY.val ?_ ⟨Kept.refl _ _, rfl⟩); (first | rfl | go_simp)
          refine .cons (fun x wf Kk hq hdep hold => ?_) ?_
          · (try dsimp only); (have h3 : x 3 = _ := hdep 3 (by kernel_rfl)); (clear hq hdep hold); (simp only [h3]); (clear h3); (have c1 := Kk.undrew.cell c3.out id); (rw [if_pos (by rfl)]); (refine OpY.val ?_ ⟨Kept.refl _ _, rfl⟩); (first | rfl | go_simp)
          refine .cons (fun x wf Kk hq hdep hold => ?_) ?_
          · (try dsimp only); (have h4 : x 4 = _ := hdep 4 (by kernel_rfl)); (clear hq hdep hold); (simp only [h4]); (clear h4); (rw [if_pos (by rfl)]); (refine OpY.val ?_ ⟨Kept.refl _ _, rfl⟩); (first | rfl | go_simp)
          refine .cons (fun x wf Kk hq hdep hold => ?_) ?_
          · (try dsimp only); (have h5 : x 5 = _ := hdep 5 (by kernel_rfl)); (clear hq hdep hold); (simp only [h5]); (clear h5); (exact stepOff rfl rfl)
          refine .cons (fun x wf Kk hq hdep hold => ?_) ?_
          · (try dsimp only); (have h5 : x 5 = _ := hdep 5 (by kernel_rfl)); (clear hq hdep hold); (simp only [h5]); (clear h5); (exact stepOff rfl rfl)
          refine .cons (fun x wf Kk hq hdep hold => ?_) ?_
          · (try dsimp only); (have h5 : x 5 = _ := hdep 5 (by kernel_rfl)); (clear hq hdep hold); (simp only [h5]); (clear h5); (exact stepOff rfl rfl)
          refine .cons (fun x wf Kk hq hdep hold => ?_) ?_
          · (try dsimp only); (have h8 : x 8 = _ := hdep 8 (by kernel_rfl)); (clear hq hdep hold); (simp only [h8]); (clear h8); (exact stepOff rfl rfl)
          refine .cons (fun x wf Kk hq hdep hold => ?_) ?_
          · (try dsimp only); (have h8 : x 8 = _ := hdep 8 (by kernel_rfl)); (clear hq hdep hold); (simp only [h8]); (clear h8); (exact stepOff rfl rfl)
          refine .cons (fun x wf Kk hq hdep hold => ?_) ?_
          · (try dsimp only); (have h8 : x 8 = _ := hdep 8 (by kernel_rfl)); (clear hq hdep hold); (simp only [h8]); (clear h8); (exact stepOff rfl rfl)
          refine .cons (fun x wf Kk hq hdep hold => ?_) ?_
          · (try dsimp only); (have h8 : x 8 = _ := hdep 8 (by kernel_rfl)); (clear hq hdep hold); (simp only [h8]); (clear h8); (exact stepOff rfl rfl)
          refine .cons (fun x wf Kk hq hdep hold => ?_) ?_
          · (try dsimp only); (have h8 : x 8 = _ := hdep 8 (by kernel_rfl)); (clear hq hdep hold); (simp only [h8]); (clear h8); (exact stepOff rfl rfl)
          refine .cons (fun x wf Kk hq hdep hold => ?_) ?_
          · (try dsimp only); (have h8 : x 8 = _ := hdep 8 (by kernel_rfl)); (clear hq hdep hold); (simp only [h8]); (clear h8); (exact stepOff rfl rfl)
          refine .cons (fun x wf Kk hq hdep hold => ?_) ?_
          · (try dsimp only); (have h8 : x 8 = _ := hdep 8 (by kernel_rfl)); (clear hq hdep hold); (simp only [h8]); (clear h8); (exact stepOff rfl rfl)
          refine .cons (fun x wf Kk hq hdep hold => ?_) ?_
          · (try dsimp only); (have h8 : x 8 = _ := hdep 8 (by kernel_rfl)); (clear hq hdep hold); (simp only [h8]); (clear h8); (exact stepOff rfl rfl)
          refine .cons (fun x wf Kk hq hdep hold => ?_) ?_
          · (try dsimp only); (have h8 : x 8 = _ := hdep 8 (by kernel_rfl)); (clear hq hdep hold); (simp only [h8]); (clear h8); (exact stepOff rfl rfl)
          refine .cons (fun x wf Kk hq hdep hold => ?_) ?_
          · (try dsimp only); (have h8 : x 8 = _ := hdep 8 (by kernel_rfl)); (clear hq hdep hold); (simp only [h8]); (clear h8); (exact stepOff rfl rfl)
          refine .cons (fun x wf Kk hq hdep hold => ?_) ?_
          · (try dsimp only); (have h8 : x 8 = _ := hdep 8 (by kernel_rfl)); (clear hq hdep hold); (simp only [h8]); (clear h8); (exact stepOff rfl rfl)
          refine .cons (fun x wf Kk hq hdep hold => ?_) ?_
          · (try dsimp only); (have h5 : x 5 = _ := hdep 5 (by kernel_rfl)); (clear hq hdep hold); (simp only [h5]); (clear h5); (exact stepOff rfl rfl)
          refine .cons (fun x wf Kk hq hdep hold => ?_) ?_
          · (try dsimp only); (have h5 : x 5 = _ := hdep 5 (by kernel_rfl)); (have h20 : x 20 = _ := hdep 20 (by kernel_rfl)); (clear hq hdep hold); (simp only [h5, h20]); (clear h5 h20); (rw [if_pos (by rfl)]); (refine OpY.val ?_ ⟨Kept.refl _ _, rfl⟩); (first | rfl | go_simp)
          exact .nil _
        · (intro x wf Kk hv); (try dsimp only); (have h21 : x 21 = _ := hv 21 (by kernel_rfl)); (clear hv); (simp only [h21]); (clear h21); (have hK9 := hid (hK.out.trans' Kk.undrew)); (clear Kk hK); (go_wp2); (go_roundw)
          case rel => first | exact ⟨k + 1, m, by omega, by go_num, rfl, hm2, hK9⟩ | ((repeat apply Exists.intro); exact ⟨⟨k + 1, m, by omega, by go_num, rfl, hm2, hK9⟩, rfl⟩)
          case measure => simp [intOf]; omega
      | true =>
        by_cases hm0 : m < 0
        · (have hmd : decide (m < 0) = true := decide_eq_true hm0); (have hm2 : Hd ((k : Int) = leastN (nds l) (k + 1)) := ⟨by rw [hst.out, if_pos ⟨rfl, .inl hm0⟩]⟩); (clear hst); (go_upto_region 5 with fail); (refine region_flow (S := no) (Sl := (fun _ => no)) [Is (.slice (some ⟨b, o, none⟩) n cap), Is (.int .i64 (k : Int)), Is (.pointer (some ⟨b, o + k * 4, none⟩)), Is (.pointer (some ⟨b, o + k * 4 + 3, none⟩)), Is (.bool true), Is (.bool true), Is (.int .i64 m), Is (.bool true), Is (.bool true), Is undef, Is undef, Is undef, Is undef, Is undef, Is undef, Is undef, Is undef, Is undef, Is undef, Is undef, Is (.bool true), Is (.bool true)] [] (fun _ _ h => h) _ (by kernel_rfl) (by kernel_rfl) (by kernel_rfl) (by kernel_rfl) (fun x => by simp only [puts, Act.put, List.map_cons, List.map_nil, Nat.zero_add, Nat.reduceAdd, List.setIfInBounds_toArray, List.set_cons_zero, List.set_cons_succ]; exact rfl) ?_ ?_)
          · (skip); (refine .cons (fun x wf Kk hq hdep hold => ?_) ?_)
            · (try dsimp only); (clear hq hdep hold); (rw [if_pos (by rfl)]); (refine OpY.val ?_ ⟨Kept.refl _ _, rfl⟩); (first | rfl | go_simp)
            refine .cons (fun x wf Kk hq hdep hold => ?_) ?_
            · (try dsimp only); (clear hq hdep hold); (rw [if_pos (by rfl)]); (refine OpY.val ?_ ⟨Kept.refl _ _, rfl⟩); (first | rfl | go_simp)
            refine .cons (fun x wf Kk hq hdep hold => ?_) ?_
            · (try dsimp only); (have h0 : x 0 = _ := hdep 0 (by kernel_rfl)); (have h1 : x 1 = _ := hdep 1 (by kernel_rfl)); (clear hq hdep hold); (simp only [h0, h1]); (clear h0 h1); (rw [if_pos (by rfl)]); (refine OpY.val ?_ ⟨Kept.refl _ _, rfl⟩); (first | rfl | go_simp)
            refine .cons (fun x wf Kk hq hdep hold => ?_) ?_
            · (try dsimp only); (have h2 : x 2 = _ := hdep 2 (by kernel_rfl)); (clear hq hdep hold); (simp only [h2]); (clear h2); (rw [if_pos (by rfl)]); (refine OpY.val ?_ ⟨Kept.refl _ _, rfl⟩); (first | rfl | go_simp)
            refine .cons (fun x wf Kk hq hdep hold => ?_) ?_
            · (try dsimp only); (have h3 : x 3 = _ := hdep 3 (by kernel_rfl)); (clear hq hdep hold); (simp only [h3]); (clear h3); (have c1 := Kk.undrew.cell c3.out id); (rw [if_pos (by rfl)]); (refine OpY.val ?_ ⟨Kept.refl _ _, rfl⟩); (first | rfl | go_simp)
            refine .cons (fun x wf Kk hq hdep hold => ?_) ?_
            · (try dsimp only); (have h4 : x 4 = _ := hdep 4 (by kernel_rfl)); (clear hq hdep hold); (simp only [h4]); (clear h4); (rw [if_pos (by rfl)]); (refine OpY.val ?_ ⟨Kept.refl _ _, rfl⟩); (first | rfl | go_simp)
            refine .cons (fun x wf Kk hq hdep hold => ?_) ?_
            · (try dsimp only); (have h5 : x 5 = _ := hdep 5 (by kernel_rfl)); (clear hq hdep hold); (simp only [h5]); (clear h5); (rw [if_pos (by rfl)]); (refine OpY.val ?_ ⟨Kept.refl _ _, rfl⟩); (first | rfl | go_simp)
            refine .cons (fun x wf Kk hq hdep hold => ?_) ?_
            · (try dsimp only); (have h6 : x 6 = _ := hdep 6 (by kernel_rfl)); (have h5 : x 5 = _ := hdep 5 (by kernel_rfl)); (clear hq hdep hold); (simp only [h6, h5]); (clear h6 h5); (rw [if_pos (by rfl)]); (refine OpY.val ?_ ⟨Kept.refl _ _, rfl⟩); (first | rfl | go_simp)
            refine .cons (fun x wf Kk hq hdep hold => ?_) ?_
            · (try dsimp only); (have h7 : x 7 = _ := hdep 7 (by kernel_rfl)); (have h5 : x 5 = _ := hdep 5 (by kernel_rfl)); (clear hq hdep hold); (simp only [h7, h5]); (clear h7 h5); (rw [if_pos (by rfl)]); (refine OpY.val ?_ ⟨Kept.refl _ _, rfl⟩); (first | rfl | go_simp)
            refine .cons (fun x wf Kk hq hdep hold => ?_) ?_
            · (try dsimp only); (have h8 : x 8 = _ := hdep 8 (by kernel_rfl)); (clear hq hdep hold); (simp only [h8]); (clear h8); (exact stepOff rfl rfl)
            refine .cons (fun x wf Kk hq hdep hold => ?_) ?_
            · (try dsimp only); (have h8 : x 8 = _ := hdep 8 (by kernel_rfl)); (clear hq hdep hold); (simp only [h8]); (clear h8); (exact stepOff rfl rfl)
            refine .cons (fun x wf Kk hq hdep hold => ?_) ?_
            · (try dsimp only); (have h8 : x 8 = _ := hdep 8 (by kernel_rfl)); (clear hq hdep hold); (simp only [h8]); (clear h8); (exact stepOff rfl rfl)
            refine .cons (fun x wf Kk hq hdep hold => ?_) ?_
            · (try dsimp only); (have h8 : x 8 = _ := hdep 8 (by kernel_rfl)); (clear hq hdep hold); (simp only [h8]); (clear h8); (exact stepOff rfl rfl)
            refine .cons (fun x wf Kk hq hdep hold => ?_) ?_
            · (try dsimp only); (have h8 : x 8 = _ := hdep 8 (by kernel_rfl)); (clear hq hdep hold); (simp only [h8]); (clear h8); (exact stepOff rfl rfl)
            refine .cons (fun x wf Kk hq hdep hold => ?_) ?_
            · (try dsimp only); (have h8 : x 8 = _ := hdep 8 (by kernel_rfl)); (clear hq hdep hold); (simp only [h8]); (clear h8); (exact stepOff rfl rfl)
            refine .cons (fun x wf Kk hq hdep hold => ?_) ?_
            · (try dsimp only); (have h8 : x 8 = _ := hdep 8 (by kernel_rfl)); (clear hq hdep hold); (simp only [h8]); (clear h8); (exact stepOff rfl rfl)
            refine .cons (fun x wf Kk hq hdep hold => ?_) ?_
            · (try dsimp only); (have h8 : x 8 = _ := hdep 8 (by kernel_rfl)); (clear hq hdep hold); (simp only [h8]); (clear h8); (exact stepOff rfl rfl)
            refine .cons (fun x wf Kk hq hdep hold => ?_) ?_
            · (try dsimp only); (have h8 : x 8 = _ := hdep 8 (by kernel_rfl)); (clear hq hdep hold); (simp only [h8]); (clear h8); (exact stepOff rfl rfl)
            refine .cons (fun x wf Kk hq hdep hold => ?_) ?_
            · (try dsimp only); (have h8 : x 8 = _ := hdep 8 (by kernel_rfl)); (clear hq hdep hold); (simp only [h8]); (clear h8); (exact stepOff rfl rfl)
            refine .cons (fun x wf Kk hq hdep hold => ?_) ?_
            · (try dsimp only); (have h8 : x 8 = _ := hdep 8 (by kernel_rfl)); (clear hq hdep hold); (simp only [h8]); (clear h8); (exact stepOff rfl rfl)
            refine .cons (fun x wf Kk hq hdep hold => ?_) ?_
            · (try dsimp only); (have h8 : x 8 = _ := hdep 8 (by kernel_rfl)); (have h19 : x 19 = _ := hdep 19 (by kernel_rfl)); (have h5 : x 5 = _ := hdep 5 (by kernel_rfl)); (clear hq hdep hold); (simp only [h8, h19, h5]); (clear h8 h19 h5); (rw [if_pos (by rfl)]); (refine OpY.val ?_ ⟨Kept.refl _ _, rfl⟩); (first | rfl | go_simp)
            refine .cons (fun x wf Kk hq hdep hold => ?_) ?_
            · (try dsimp only); (have h5 : x 5 = _ := hdep 5 (by kernel_rfl)); (have h20 : x 20 = _ := hdep 20 (by kernel_rfl)); (clear hq hdep hold); (simp only [h5, h20]); (clear h5 h20); (rw [if_pos (by rfl)]); (refine OpY.val ?_ ⟨Kept.refl _ _, rfl⟩); (first | rfl | go_simp)
            exact .nil _
          · (intro x wf Kk hv); (try dsimp only); (have h21 : x 21 = _ := hv 21 (by kernel_rfl)); (clear hv); (simp only [h21]); (clear h21); (have hK9 := hid (hK.out.trans' Kk.undrew)); (clear Kk hK); (go_wp2); (go_roundw)
            case rel => first | exact ⟨k + 1, (k : Int), by omega, by go_num, rfl, hm2, hK9⟩ | ((repeat apply Exists.intro); exact ⟨⟨k + 1, (k : Int), by omega, by go_num, rfl, hm2, hK9⟩, rfl⟩)
            case measure => simp [intOf]; omega
        · (have hmd : decide (m < 0) = false := decide_eq_false hm0); (obtain ⟨M, rfl⟩ : ∃ M : Nat, m = (M : Int) := ⟨m.toNat, by omega⟩); (have hMi : (M : Int) < (n : Int) := by omega); (have hM0 : (0 : Int) ≤ (M : Int) := by omega); (obtain ⟨b', o', y, vy, e', hel, _, _, d2, _, _⟩ := (hr.out.kept hK.out).at M (by rw [hn.out]; omega))
          cases e'
          (have hy := nds_at (by rw [hn.out]; omega) hel); (rw [Int.toNat_natCast, hy] at hst); (obtain ⟨yb, hyb⟩ : ∃ b, y.bd = b := ⟨_, rfl⟩); (rw [hyb] at d2 hst); (replace d2 := hid d2); (clear hel hy hyb)
          by_cases hxy : xb < yb
          · (have hxd : decide (xb < yb) = true := decide_eq_true hxy); (have hm2 : Hd ((k : Int) = leastN (nds l) (k + 1)) := ⟨by rw [hst.out, if_pos ⟨rfl, .inr hxy⟩]⟩); (clear hst); (go_upto_region 5 with fail); (refine region_flow (S := no) (Sl := (fun _ => no)) [Is (.slice (some ⟨b, o, none⟩) n cap), Is (.int .i64 (k : Int)), Is (.pointer (some ⟨b, o + k * 4, none⟩)), Is (.pointer (some ⟨b, o + k * 4 + 3, none⟩)), Is (.bool true), Is (.bool true), Is (.int .i64 (M : Int)), Is (.bool false), Is (.bool false), Is (.slice (some ⟨b, o, none⟩) n cap), Is (.int .i64 (k : Int)), Is (.pointer (some ⟨b, o + k * 4, none⟩)), Is (.pointer (some ⟨b, o + k * 4 + 2, none⟩)), Is (.int .i64 xb), Is (.slice (some ⟨b, o, none⟩) n cap), Is (.int .i64 (M : Int)), Is (.pointer (some ⟨b, o + M * 4, none⟩)), Is (.pointer (some ⟨b, o + M * 4 + 2, none⟩)), Is (.int .i64 yb), Is (.bool true), Is (.bool true), Is (.bool true)] [] (fun _ _ h => h) _ (by kernel_rfl) (by kernel_rfl) (by kernel_rfl) (by kernel_rfl) (fun x => by simp only [puts, Act.put, List.map_cons, List.map_nil, Nat.zero_add, Nat.reduceAdd, List.setIfInBounds_toArray, List.set_cons_zero, List.set_cons_succ]; exact rfl) ?_ ?_)
            · (skip); (refine .cons (fun x wf Kk hq hdep hold => ?_) ?_)
              · (try dsimp only); (clear hq hdep hold); (rw [if_pos (by rfl)]); (refine OpY.val ?_ ⟨Kept.refl _ _, rfl⟩); (first | rfl | go_simp)
              refine .cons (fun x wf Kk hq hdep hold => ?_) ?_
              · (try dsimp only); (clear hq hdep hold); (rw [if_pos (by rfl)]); (refine OpY.val ?_ ⟨Kept.refl _ _, rfl⟩); (first | rfl | go_simp)
              refine .cons (fun x wf Kk hq hdep hold => ?_) ?_
              · (try dsimp only); (have h0 : x 0 = _ := hdep 0 (by kernel_rfl)); (have h1 : x 1 = _ := hdep 1 (by kernel_rfl)); (clear hq hdep hold); (simp only [h0, h1]); (clear h0 h1); (rw [if_pos (by rfl)]); (refine OpY.val ?_ ⟨Kept.refl _ _, rfl⟩); (first | rfl | go_simp)
              refine .cons (fun x wf Kk hq hdep hold => ?_) ?_
              · (try dsimp only); (have h2 : x 2 = _ := hdep 2 (by kernel_rfl)); (clear hq hdep hold); (simp only [h2]); (clear h2); (rw [if_pos (by rfl)]); (refine OpY.val ?_ ⟨Kept.refl _ _, rfl⟩); (first | rfl | go_simp)
              refine .cons (fun x wf Kk hq hdep hold => ?_) ?_
              · (try dsimp only); (have h3 : x 3 = _ := hdep 3 (by kernel_rfl)); (clear hq hdep hold); (simp only [h3]); (clear h3); (have c1 := Kk.undrew.cell c3.out id); (rw [if_pos (by rfl)]); (refine OpY.val ?_ ⟨Kept.refl _ _, rfl⟩); (first | rfl | go_simp)
              refine .cons (fun x wf Kk hq hdep hold => ?_) ?_
              · (try dsimp only); (have h4 : x 4 = _ := hdep 4 (by kernel_rfl)); (clear hq hdep hold); (simp only [h4]); (clear h4); (rw [if_pos (by rfl)]); (refine OpY.val ?_ ⟨Kept.refl _ _, rfl⟩); (first | rfl | go_simp)
              refine .cons (fun x wf Kk hq hdep hold => ?_) ?_
              · (try dsimp only); (have h5 : x 5 = _ := hdep 5 (by kernel_rfl)); (clear hq hdep hold); (simp only [h5]); (clear h5); (rw [if_pos (by rfl)]); (refine OpY.val ?_ ⟨Kept.refl _ _, rfl⟩); (first | rfl | go_simp)
              refine .cons (fun x wf Kk hq hdep hold => ?_) ?_
              · (try dsimp only); (have h6 : x 6 = _ := hdep 6 (by kernel_rfl)); (have h5 : x 5 = _ := hdep 5 (by kernel_rfl)); (clear hq hdep hold); (simp only [h6, h5]); (clear h6 h5); (rw [if_pos (by rfl)]); (refine OpY.val ?_ ⟨Kept.refl _ _, rfl⟩); (first | rfl | go_simp)
              refine .cons (fun x wf Kk hq hdep hold => ?_) ?_
              · (try dsimp only); (have h7 : x 7 = _ := hdep 7 (by kernel_rfl)); (have h5 : x 5 = _ := hdep 5 (by kernel_rfl)); (clear hq hdep hold); (simp only [h7, h5]); (clear h7 h5); (rw [if_pos (by rfl)]); (refine OpY.val ?_ ⟨Kept.refl _ _, rfl⟩); (first | rfl | go_simp)
              refine .cons (fun x wf Kk hq hdep hold => ?_) ?_
              · (try dsimp only); (have h8 : x 8 = _ := hdep 8 (by kernel_rfl)); (clear hq hdep hold); (simp only [h8]); (clear h8); (rw [if_pos (by rfl)]); (refine OpY.val ?_ ⟨Kept.refl _ _, rfl⟩); (first | rfl | go_simp)
              refine .cons (fun x wf Kk hq hdep hold => ?_) ?_
              · (try dsimp only); (have h8 : x 8 = _ := hdep 8 (by kernel_rfl)); (clear hq hdep hold); (simp only [h8]); (clear h8); (rw [if_pos (by rfl)]); (refine OpY.val ?_ ⟨Kept.refl _ _, rfl⟩); (first | rfl | go_simp)
              refine .cons (fun x wf Kk hq hdep hold => ?_) ?_
              · (try dsimp only); (have h9 : x 9 = _ := hdep 9 (by kernel_rfl)); (have h10 : x 10 = _ := hdep 10 (by kernel_rfl)); (have h8 : x 8 = _ := hdep 8 (by kernel_rfl)); (clear hq hdep hold); (simp only [h9, h10, h8]); (clear h9 h10 h8); (rw [if_pos (by rfl)]); (refine OpY.val ?_ ⟨Kept.refl _ _, rfl⟩); (first | rfl | go_simp)
              refine .cons (fun x wf Kk hq hdep hold => ?_) ?_
              · (try dsimp only); (have h11 : x 11 = _ := hdep 11 (by kernel_rfl)); (have h8 : x 8 = _ := hdep 8 (by kernel_rfl)); (clear hq hdep hold); (simp only [h11, h8]); (clear h11 h8); (rw [if_pos (by rfl)]); (refine OpY.val ?_ ⟨Kept.refl _ _, rfl⟩); (first | rfl | go_simp)
              refine .cons (fun x wf Kk hq hdep hold => ?_) ?_
              · (try dsimp only); (have h12 : x 12 = _ := hdep 12 (by kernel_rfl)); (have h8 : x 8 = _ := hdep 8 (by kernel_rfl)); (clear hq hdep hold); (simp only [h12, h8]); (clear h12 h8); (have c1 := Kk.undrew.cell c2.out id); (rw [if_pos (by rfl)]); (refine OpY.val ?_ ⟨Kept.refl _ _, rfl⟩); (first | rfl | go_simp)
              refine .cons (fun x wf Kk hq hdep hold => ?_) ?_
              · (try dsimp only); (have h8 : x 8 = _ := hdep 8 (by kernel_rfl)); (clear hq hdep hold); (simp only [h8]); (clear h8); (rw [if_pos (by rfl)]); (refine OpY.val ?_ ⟨Kept.refl _ _, rfl⟩); (first | rfl | go_simp)
              refine .cons (fun x wf Kk hq hdep hold => ?_) ?_
              · (try dsimp only); (have h8 : x 8 = _ := hdep 8 (by kernel_rfl)); (clear hq hdep hold); (simp only [h8]); (clear h8); (rw [if_pos (by rfl)]); (refine OpY.val ?_ ⟨Kept.refl _ _, rfl⟩); (first | rfl | go_simp)
              refine .cons (fun x wf Kk hq hdep hold => ?_) ?_
              · (try dsimp only); (have h14 : x 14 = _ := hdep 14 (by kernel_rfl)); (have h15 : x 15 = _ := hdep 15 (by kernel_rfl)); (have h8 : x 8 = _ := hdep 8 (by kernel_rfl)); (clear hq hdep hold); (simp only [h14, h15, h8]); (clear h14 h15 h8); (rw [if_pos (by rfl)]); (refine OpY.val ?_ ⟨Kept.refl _ _, rfl⟩); (first | rfl | go_simp)
              refine .cons (fun x wf Kk hq hdep hold => ?_) ?_
              · (try dsimp only); (have h16 : x 16 = _ := hdep 16 (by kernel_rfl)); (have h8 : x 8 = _ := hdep 8 (by kernel_rfl)); (clear hq hdep hold); (simp only [h16, h8]); (clear h16 h8); (rw [if_pos (by rfl)]); (refine OpY.val ?_ ⟨Kept.refl _ _, rfl⟩); (first | rfl | go_simp)
              refine .cons (fun x wf Kk hq hdep hold => ?_) ?_
              · (try dsimp only); (have h17 : x 17 = _ := hdep 17 (by kernel_rfl)); (have h8 : x 8 = _ := hdep 8 (by kernel_rfl)); (clear hq hdep hold); (simp only [h17, h8]); (clear h17 h8); (have c1 := Kk.undrew.cell d2.out id); (rw [if_pos (by rfl)]); (refine OpY.val ?_ ⟨Kept.refl _ _, rfl⟩); (first | rfl | go_simp)
              refine .cons (fun x wf Kk hq hdep hold => ?_) ?_
              · (try dsimp only); (have h13 : x 13 = _ := hdep 13 (by kernel_rfl)); (have h18 : x 18 = _ := hdep 18 (by kernel_rfl)); (have h8 : x 8 = _ := hdep 8 (by kernel_rfl)); (clear hq hdep hold); (simp only [h13, h18, h8]); (clear h13 h18 h8); (rw [if_pos (by rfl)]); (refine OpY.val ?_ ⟨Kept.refl _ _, rfl⟩); (first | rfl | go_simp)
              refine .cons (fun x wf Kk hq hdep hold => ?_) ?_
              · (try dsimp only); (have h8 : x 8 = _ := hdep 8 (by kernel_rfl)); (have h19 : x 19 = _ := hdep 19 (by kernel_rfl)); (have h5 : x 5 = _ := hdep 5 (by kernel_rfl)); (clear hq hdep hold); (simp only [h8, h19, h5]); (clear h8 h19 h5); (rw [if_pos (by rfl)]); (refine OpY.val ?_ ⟨Kept.refl _ _, rfl⟩); (first | rfl | go_simp)
              refine .cons (fun x wf Kk hq hdep hold => ?_) ?_
              · (try dsimp only); (have h5 : x 5 = _ := hdep 5 (by kernel_rfl)); (have h20 : x 20 = _ := hdep 20 (by kernel_rfl)); (clear hq hdep hold); (simp only [h5, h20]); (clear h5 h20); (rw [if_pos (by rfl)]); (refine OpY.val ?_ ⟨Kept.refl _ _, rfl⟩); (first | rfl | go_simp)
              exact .nil _
            · (intro x wf Kk hv); (try dsimp only); (have h21 : x 21 = _ := hv 21 (by kernel_rfl)); (clear hv); (simp only [h21]); (clear h21); (have hK9 := hid (hK.out.trans' Kk.undrew)); (clear Kk hK); (go_wp2); (go_roundw)
              case rel => first | exact ⟨k + 1, (k : Int), by omega, by go_num, rfl, hm2, hK9⟩ | ((repeat apply Exists.intro); exact ⟨⟨k + 1, (k : Int), by omega, by go_num, rfl, hm2, hK9⟩, rfl⟩)
              case measure => simp [intOf]; omega
          · (have hxd : decide (xb < yb) = false := decide_eq_false hxy); (have hm2 : Hd ((M : Int) = leastN (nds l) (k + 1)) := ⟨by rw [hst.out, if_neg (fun h => by rcases h.2 with h | h; exact hm0 h; exact hxy h)]⟩); (clear hst); (go_upto_region 5 with fail); (refine region_flow (S := no) (Sl := (fun _ => no)) [Is (.slice (some ⟨b, o, none⟩) n cap), Is (.int .i64 (k : Int)), Is (.pointer (some ⟨b, o + k * 4, none⟩)), Is (.pointer (some ⟨b, o + k * 4 + 3, none⟩)), Is (.bool true), Is (.bool true), Is (.int .i64 (M : Int)), Is (.bool false), Is (.bool false), Is (.slice (some ⟨b, o, none⟩) n cap), Is (.int .i64 (k : Int)), Is (.pointer (some ⟨b, o + k * 4, none⟩)), Is (.pointer (some ⟨b, o + k * 4 + 2, none⟩)), Is (.int .i64 xb), Is (.slice (some ⟨b, o, none⟩) n cap), Is (.int .i64 (M : Int)), Is (.pointer (some ⟨b, o + M * 4, none⟩)), Is (.pointer (some ⟨b, o + M * 4 + 2, none⟩)), Is (.int .i64 yb), Is (.bool false), Is (.bool false), Is (.bool false)] [] (fun _ _ h => h) _ (by kernel_rfl) (by kernel_rfl) (by kernel_rfl) (by kernel_rfl) (fun x => by simp only [puts, Act.put, List.map_cons, List.map_nil, Nat.zero_add, Nat.reduceAdd, List.setIfInBounds_toArray, List.set_cons_zero, List.set_cons_succ]; exact rfl) ?_ ?_)
            · (skip); (refine .cons (fun x wf Kk hq hdep hold => ?_) ?_)
              · (try dsimp only); (clear hq hdep hold); (rw [if_pos (by rfl)]); (refine OpY.val ?_ ⟨Kept.refl _ _, rfl⟩); (first | rfl | go_simp)
              refine .cons (fun x wf Kk hq hdep hold => ?_) ?_
              · (try dsimp only); (clear hq hdep hold); (rw [if_pos (by rfl)]); (refine OpY.val ?_ ⟨Kept.refl _ _, rfl⟩); (first | rfl | go_simp)
              refine .cons (fun x wf Kk hq hdep hold => ?_) ?_
              · (try dsimp only); (have h0 : x 0 = _ := hdep 0 (by kernel_rfl)); (have h1 : x 1 = _ := hdep 1 (by kernel_rfl)); (clear hq hdep hold); (simp only [h0, h1]); (clear h0 h1); (rw [if_pos (by rfl)]); (refine OpY.val ?_ ⟨Kept.refl _ _, rfl⟩); (first | rfl | go_simp)
              refine .cons (fun x wf Kk hq hdep hold => ?_) ?_
              · (try dsimp only); (have h2 : x 2 = _ := hdep 2 (by kernel_rfl)); (clear hq hdep hold); (simp only [h2]); (clear h2); (rw [if_pos (by rfl)]); (refine OpY.val ?_ ⟨Kept.refl _ _, rfl⟩); (first | rfl | go_simp)
              refine .cons (fun x wf Kk hq hdep hold => ?_) ?_
              · (try dsimp only); (have h3 : x 3 = _ := hdep 3 (by kernel_rfl)); (clear hq hdep hold); (simp only [h3]); (clear h3); (have c1 := Kk.undrew.cell c3.out id); (rw [if_pos (by rfl)]); (refine OpY.val ?_ ⟨Kept.refl _ _, rfl⟩); (first | rfl | go_simp)
              refine .cons (fun x wf Kk hq hdep hold => ?_) ?_
              · (try dsimp only); (have h4 : x 4 = _ := hdep 4 (by kernel_rfl)); (clear hq hdep hold); (simp only [h4]); (clear h4); (rw [if_pos (by rfl)]); (refine OpY.val ?_ ⟨Kept.refl _ _, rfl⟩); (first | rfl | go_simp)
              refine .cons (fun x wf Kk hq hdep hold => ?_) ?_
              · (try dsimp only); (have h5 : x 5 = _ := hdep 5 (by kernel_rfl)); (clear hq hdep hold); (simp only [h5]); (clear h5); (rw [if_pos (by rfl)]); (refine OpY.val ?_ ⟨Kept.refl _ _, rfl⟩); (first | rfl | go_simp)
              refine .cons (fun x wf Kk hq hdep hold => ?_) ?_
              · (try dsimp only); (have h6 : x 6 = _ := hdep 6 (by kernel_rfl)); (have h5 : x 5 = _ := hdep 5 (by kernel_rfl)); (clear hq hdep hold); (simp only [h6, h5]); (clear h6 h5); (rw [if_pos (by rfl)]); (refine OpY.val ?_ ⟨Kept.refl _ _, rfl⟩); (first | rfl | go_simp)
              refine .cons (fun x wf Kk hq hdep hold => ?_) ?_
              · (try dsimp only); (have h7 : x 7 = _ := hdep 7 (by kernel_rfl)); (have h5 : x 5 = _ := hdep 5 (by kernel_rfl)); (clear hq hdep hold); (simp only [h7, h5]); (clear h7 h5); (rw [if_pos (by rfl)]); (refine OpY.val ?_ ⟨Kept.refl _ _, rfl⟩); (first | rfl | go_simp)
              refine .cons (fun x wf Kk hq hdep hold => ?_) ?_
              · (try dsimp only); (have h8 : x 8 = _ := hdep 8 (by kernel_rfl)); (clear hq hdep hold); (simp only [h8]); (clear h8); (rw [if_pos (by rfl)]); (refine OpY.val ?_ ⟨Kept.refl _ _, rfl⟩); (first | rfl | go_simp)
              refine .cons (fun x wf Kk hq hdep hold => ?_) ?_
              · (try dsimp only); (have h8 : x 8 = _ := hdep 8 (by kernel_rfl)); (clear hq hdep hold); (simp only [h8]); (clear h8); (rw [if_pos (by rfl)]); (refine OpY.val ?_ ⟨Kept.refl _ _, rfl⟩); (first | rfl | go_simp)
              refine .cons (fun x wf Kk hq hdep hold => ?_) ?_
              · (try dsimp only); (have h9 : x 9 = _ := hdep 9 (by kernel_rfl)); (have h10 : x 10 = _ := hdep 10 (by kernel_rfl)); (have h8 : x 8 = _ := hdep 8 (by kernel_rfl)); (clear hq hdep hold); (simp only [h9, h10, h8]); (clear h9 h10 h8); (rw [if_pos (by rfl)]); (refine OpY.val ?_ ⟨Kept.refl _ _, rfl⟩); (first | rfl | go_simp)
              refine .cons (fun x wf Kk hq hdep hold => ?_) ?_
              · (try dsimp only); (have h11 : x 11 = _ := hdep 11 (by kernel_rfl)); (have h8 : x 8 = _ := hdep 8 (by kernel_rfl)); (clear hq hdep hold); (simp only [h11, h8]); (clear h11 h8); (rw [if_pos (by rfl)]); (refine OpY.val ?_ ⟨Kept.refl _ _, rfl⟩); (first | rfl | go_simp)
              refine .cons (fun x wf Kk hq hdep hold => ?_) ?_
              · (try dsimp only); (have h12 : x 12 = _ := hdep 12 (by kernel_rfl)); (have h8 : x 8 = _ := hdep 8 (by kernel_rfl)); (clear hq hdep hold); (simp only [h12, h8]); (clear h12 h8); (have c1 := Kk.undrew.cell c2.out id); (rw [if_pos (by rfl)]); (refine OpY.val ?_ ⟨Kept.refl _ _, rfl⟩); (first | rfl | go_simp)
              refine .cons (fun x wf Kk hq hdep hold => ?_) ?_
              · (try dsimp only); (have h8 : x 8 = _ := hdep 8 (by kernel_rfl)); (clear hq hdep hold); (simp only [h8]); (clear h8); (rw [if_pos (by rfl)]); (refine OpY.val ?_ ⟨Kept.refl _ _, rfl⟩); (first | rfl | go_simp)
              refine .cons (fun x wf Kk hq hdep hold => ?_) ?_
              · (try dsimp only); (have h8 : x 8 = _ := hdep 8 (by kernel_rfl)); (clear hq hdep hold); (simp only [h8]); (clear h8); (rw [if_pos (by rfl)]); (refine OpY.val ?_ ⟨Kept.refl _ _, rfl⟩); (first | rfl | go_simp)
              refine .cons (fun x wf Kk hq hdep hold => ?_) ?_
              · (try dsimp only); (have h14 : x 14 = _ := hdep 14 (by kernel_rfl)); (have h15 : x 15 = _ := hdep 15 (by kernel_rfl)); (have h8 : x 8 = _ := hdep 8 (by kernel_rfl)); (clear hq hdep hold); (simp only [h14, h15, h8]); (clear h14 h15 h8); (rw [if_pos (by rfl)]); (refine OpY.val ?_ ⟨Kept.refl _ _, rfl⟩); (first | rfl | go_simp)
              refine .cons (fun x wf Kk hq hdep hold => ?_) ?_
              · (try dsimp only); (have h16 : x 16 = _ := hdep 16 (by kernel_rfl)); (have h8 : x 8 = _ := hdep 8 (by kernel_rfl)); (clear hq hdep hold); (simp only [h16, h8]); (clear h16 h8); (rw [if_pos (by rfl)]); (refine OpY.val ?_ ⟨Kept.refl _ _, rfl⟩); (first | rfl | go_simp)
              refine .cons (fun x wf Kk hq hdep hold => ?_) ?_
              · (try dsimp only); (have h17 : x 17 = _ := hdep 17 (by kernel_rfl)); (have h8 : x 8 = _ := hdep 8 (by kernel_rfl)); (clear hq hdep hold); (simp only [h17, h8]); (clear h17 h8); (have c1 := Kk.undrew.cell d2.out id); (rw [if_pos (by rfl)]); (refine OpY.val ?_ ⟨Kept.refl _ _, rfl⟩); (first | rfl | go_simp)
              refine .cons (fun x wf Kk hq hdep hold => ?_) ?_
              · (try dsimp only); (have h13 : x 13 = _ := hdep 13 (by kernel_rfl)); (have h18 : x 18 = _ := hdep 18 (by kernel_rfl)); (have h8 : x 8 = _ := hdep 8 (by kernel_rfl)); (clear hq hdep hold); (simp only [h13, h18, h8]); (clear h13 h18 h8); (rw [if_pos (by rfl)]); (refine OpY.val ?_ ⟨Kept.refl _ _, rfl⟩); (first | rfl | go_simp)
              refine .cons (fun x wf Kk hq hdep hold => ?_) ?_
              · (try dsimp only); (have h8 : x 8 = _ := hdep 8 (by kernel_rfl)); (have h19 : x 19 = _ := hdep 19 (by kernel_rfl)); (have h5 : x 5 = _ := hdep 5 (by kernel_rfl)); (clear hq hdep hold); (simp only [h8, h19, h5]); (clear h8 h19 h5); (rw [if_pos (by rfl)]); (refine OpY.val ?_ ⟨Kept.refl _ _, rfl⟩); (first | rfl | go_simp)
              refine .cons (fun x wf Kk hq hdep hold => ?_) ?_
              · (try dsimp only); (have h5 : x 5 = _ := hdep 5 (by kernel_rfl)); (have h20 : x 20 = _ := hdep 20 (by kernel_rfl)); (clear hq hdep hold); (simp only [h5, h20]); (clear h5 h20); (rw [if_pos (by rfl)]); (refine OpY.val ?_ ⟨Kept.refl _ _, rfl⟩); (first | rfl | go_simp)
              exact .nil _
            · (intro x wf Kk hv); (try dsimp only); (have h21 : x 21 = _ := hv 21 (by kernel_rfl)); (clear hv); (simp only [h21]); (clear h21); (have hK9 := hid (hK.out.trans' Kk.undrew)); (clear Kk hK); (go_wp2); (go_roundw)
              case rel => first | exact ⟨k + 1, (M : Int), by omega, by go_num, rfl, hm2, hK9⟩ | ((repeat apply Exists.intro); exact ⟨⟨k + 1, (M : Int), by omega, by go_num, rfl, hm2, hK9⟩, rfl⟩)
              case measure => simp [intOf]; omega
    · (obtain rfl : k = n := by omega); (have hk1 : ¬ (k : Int) < (k : Int) := by omega); (go_wp2); (go_ret); (exact ⟨by rw [← hm.out]; rfl, hK.out⟩)
end Go.Proofs.Ytkdmlakookgolaa
