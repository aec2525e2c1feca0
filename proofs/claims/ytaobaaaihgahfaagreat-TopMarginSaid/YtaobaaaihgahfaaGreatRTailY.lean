/- electionref31.Tail (printed by gen_rtail.py). -/
import Derived.Test.YtaobaaaihgahfaaGreatGenY
import Derived.Test.YtaobaaaihgahfaaGreatCntY
namespace Go.Proofs.YtaobaaaihgahfaaGreat
open Go.RowKit Go.Mk Go.Pil Go.Mg
theorem post_sliceI (av : Option Addr) (lv cv m : Nat) (hm : m ≤ lv) (w : World) : (Instr.slice 26 (.slice av lv cv) (some (.int .i64 (m : Int))) none none).run Tryz.prog w = .ok (.slice (if cv = m then av else av.map (·.add m)) (lv - m) (cv - m)) w := by
  (have h0 : (0 : Int) ≤ (m : Int) := by omega); (have hc : Tryz.prog.underlying 26 = some (.slice 3) := by kernel_rfl); (obtain ⟨i, hi, hz, hs, hb⟩ := info_parts (P := Tryz.prog) (e := 3) (z := .int .i64 0) (size := 1) (bytes := 8) (by kernel_rfl)); (have h1 : (m : Int) ≤ (lv : Int) := by omega)
  simp [Instr.slice, Instr.sliceBounds, Instr.sliceBound, run_underlying hc, asIntOf, h0, sizeOf, typeInfo, hi, hs, hm]
theorem RdZ.dropI {w : World} {ao : Option Addr} {n cap : Nat} {zs : List Int} (h : RdZ w (.slice ao n cap) zs) (m : Nat) (hm : m ≤ zs.length) : RdZ w (.slice (if cap = m then ao else ao.map (·.add m)) (zs.length - m) (cap - m)) (zs.drop m) := by
  obtain ⟨hl, _, _, e, h1, h2, h3⟩ := h
  cases e
  (have hd : (zs.drop m).length = zs.length - m := by simp); (refine ⟨by simp, _, _, by rw [hd], by rw [hd]; omega, by omega, ?_⟩)
  by_cases hc : cap = m
  · exact .inl (by omega)
  · rcases h3 with h3 | ⟨b, o, rfl, hcc⟩
    · exact .inl (by omega)
    · refine .inr ⟨b, o + m, ?_, fun j u hj => ?_⟩
      · (rw [if_neg hc]); (simp only [Option.map_some, Addr.add])
        split
        · rename_i e0; subst e0; simp
        · rfl
      · (rw [List.map_drop, List.getElem?_drop] at hj); (have := hcc (m + j) u hj); (rw [Nat.add_assoc]; exact this)
/-- The votes that a count gave, read at a candidate. -/
theorem votes_at {w w' : World} {v : Value} {n : Nat} {gs : List Grp} {l : List Int} (h : OwZ w w' v (firstV gs (flags n l)).1) (hn : 0 < n) : ∃ b o cv, v = .slice (some ⟨b, o, none⟩) n cv ∧ ∀ c : Nat, c < n → w'.cell? ⟨b, o + c, none⟩ = some (.int .i64 (vt n gs l (c : Int))) := by
  (have hl : (firstV gs (flags n l)).1.length = n := by rw [first_len, flags_len]); (obtain ⟨ao, cv, rfl, _, _⟩ := Rd.shape2 h.rd); (have hr := h.rd); (obtain ⟨b, o, rfl, _⟩ := hr.at 0 (by rw [hl]; exact hn)); (refine ⟨b, o, cv, by rw [hl], fun c hc => ?_⟩); (obtain ⟨b', o', e, hcell⟩ := hr.at c (by rw [hl]; exact hc))
  cases e
  rw [hcell]
  rfl
/-- A tail's numbers in memory. -/
theorem tail_at {w : World} {v : Value} {n : Nat} {tail : List Int} (h : RdZ w v tail) (ht : isTail n tail = true) : ∃ b o cap, v = .slice (some ⟨b, o, none⟩) tail.length cap ∧ 0 < tail.length ∧ tail.length ≤ cap ∧ (∀ i : Nat, i < tail.length → ∃ c : Nat, c < n ∧ tail.getD i 0 = (c : Int) ∧ w.cell? ⟨b, o + i, none⟩ = some (.int .i64 (c : Int))) := by
  (obtain ⟨hne, _, hb⟩ := isTail_iff.1 ht); (have hl : 0 < tail.length := List.length_pos_iff.2 hne); (obtain ⟨ao, cap, rfl, hc, _⟩ := Rd.shape2 h); (obtain ⟨b, o, rfl, _⟩ := h.at 0 hl); (refine ⟨b, o, cap, rfl, hl, hc, fun i hi => ?_⟩); (obtain ⟨b', o', e, hcell⟩ := h.at i hi)
  cases e
  (have hm := hb (tail.getD i 0) (by rw [List.getD_eq_getElem?_getD, List.getElem?_eq_getElem hi]; simp)); (refine ⟨(tail.getD i 0).toNat, by omega, by omega, ?_⟩); (rw [hcell])
  congr 2
  omega
theorem nodup_len : ∀ (n : Nat) (l : List Int), l.Nodup → (∀ x ∈ l, 0 ≤ x ∧ x < (n : Int)) → l.length ≤ n := by
  intro n
  induction n with
  | zero =>
    intro l _ h
    cases l with
    | nil => simp
    | cons x l => have := h x (by simp); omega
  | succ n ih =>
    intro l hd h
    have h2 := ih (l.erase (n : Int)) (hd.erase _) fun x hx => by
      (have h3 := (hd.mem_erase_iff).1 hx); (have h4 := h x h3.2); (have h5 := h3.1)
      omega
    have := List.length_erase (l := l) (a := (n : Int))
    split at this <;> omega
theorem tail_len7 {n : Nat} {tail : List Int} (h : isTail n tail = true) (hn : n ≤ 7) : tail.length ≤ 7 := by
  (obtain ⟨_, hd, hb⟩ := isTail_iff.1 h); (have := nodup_len n tail hd hb)
  omega

end Go.Proofs.YtaobaaaihgahfaaGreat
