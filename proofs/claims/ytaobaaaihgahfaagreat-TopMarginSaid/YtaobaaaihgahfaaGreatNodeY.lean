/- Nodes of certificates in memory; electionref31.least, Least (printed by gen_node.py). -/
import Derived.Test.YtaobaaaihgahfaaGreatPossY
namespace Go.Mg
open Go.Pil
structure Nd where
  par : Int
  tail : List Int
  bd : Int
  leaf : Bool
deriving DecidableEq
instance : Inhabited Nd := ⟨⟨0, [], 0, false⟩⟩
/-- The first j nodes' leaf with the least bound (the first of several); -1: none. -/
def leastN (l : List Nd) : Nat → Int
  | 0 => -1
  | j + 1 => if (l.getD j default).leaf = true ∧ (leastN l j < 0 ∨ (l.getD j default).bd < (l.getD (leastN l j).toNat default).bd) then (j : Int) else leastN l j
theorem leastN_range (l : List Nd) : ∀ j, -1 ≤ leastN l j ∧ leastN l j < j
  | 0 => ⟨by show (-1 : Int) ≤ -1; decide, by show (-1 : Int) < 0; decide⟩
  | j + 1 => by
    (have := leastN_range l j); (unfold leastN)
    split <;> omega
end Go.Mg
namespace Go.Proofs.YtaobaaaihgahfaaGreat
open Go.RowKit Go.Mk Go.Pil Go.Mg
def ndC (x : Nd × Value) : List Value := [.int .i64 x.1.par, x.2, .int .i64 x.1.bd, .bool x.1.leaf]
def flatN (l : List (Nd × Value)) : List Value := l.flatMap ndC
def nds (l : List (Nd × Value)) : List Nd := l.map (·.1)
theorem nds_length (l : List (Nd × Value)) : (nds l).length = l.length := by simp [nds]
/-- A slice of nodes. -/
def RdN (w : World) (v : Value) (l : List (Nd × Value)) : Prop := (∀ x ∈ l, RdZ w x.2 x.1.tail) ∧ Rd w 4 v l.length (flatN l)
theorem RdN.kept {w w' : World} {v : Value} {l : List (Nd × Value)} (h : RdN w v l) (k : Kept no w w') : RdN w' v l := ⟨fun x hx => (h.1 x hx).kept k, h.2.keptNo k⟩
theorem RdN.at {w : World} {ao : Option Addr} {n cap : Nat} {l : List (Nd × Value)} (h : RdN w (.slice ao n cap) l) (k : Nat) (hk : k < l.length) :
    ∃ b o x v, ao = some ⟨b, o, none⟩ ∧ l[k] = (x, v) ∧ w.cell? ⟨b, o + k * 4, none⟩ = some (.int .i64 x.par) ∧ w.cell? ⟨b, o + k * 4 + 1, none⟩ = some v ∧ w.cell? ⟨b, o + k * 4 + 2, none⟩ = some (.int .i64 x.bd)
      ∧ w.cell? ⟨b, o + k * 4 + 3, none⟩ = some (.bool x.leaf) ∧ RdZ w v x.tail := by
  (obtain ⟨b, o, e, hr⟩ := Rd.row (f := ndC) (sz := 4) (fun _ _ => rfl) h.2 k hk); (exact ⟨b, o, _, _, e, rfl, hr 0 _ rfl, hr 1 _ rfl, hr 2 _ rfl, hr 3 _ rfl, h.1 _ (List.getElem_mem hk)⟩)
theorem nds_at {l : List (Nd × Value)} {k : Nat} (hk : k < l.length) {x : Nd} {v : Value} (h : l[k] = (x, v)) : (nds l).getD k default = x := by
  rw [List.getD_eq_getElem?_getD, List.getElem?_eq_getElem (by rw [nds_length]; exact hk)]
  simp [nds, h]
end Go.Proofs.YtaobaaaihgahfaaGreat
