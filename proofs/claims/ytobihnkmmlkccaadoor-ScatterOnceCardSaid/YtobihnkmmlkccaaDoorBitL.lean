/- Numbers in binary, digit by digit, as the reference reckons them: plain, computable. -/
import Derived.Test.YtobihnkmmlkccaaDoorKit2
namespace Go.Bit
def at_ (b : List Bool) (i : Nat) : Bool := b.getD i false
def trimN (b : List Bool) : Nat → Nat
  | 0 => 0
  | n + 1 => if at_ b n = true then n + 1 else trimN b n
def trimB (b : List Bool) : List Bool := b.take (trimN b b.length)
theorem trimN_le (b : List Bool) : ∀ n, trimN b n ≤ n
  | 0 => Nat.le_refl _
  | n + 1 => by unfold trimN; split
                · exact Nat.le_refl _
                · exact Nat.le_succ_of_le (trimN_le b n)
theorem trimB_length (b : List Bool) : (trimB b).length ≤ b.length := by unfold trimB; rw [List.length_take]; omega
/-- A small number in binary (f: at most so many bits). -/
def smallF : Nat → Nat → List Bool
  | 0, _ => []
  | f + 1, n => if n = 0 then [] else (n % 2 == 1) :: smallF f (n / 2)
def cmpN (a b : List Bool) : Nat → Int
  | 0 => 0
  | i + 1 => if at_ a i = at_ b i then cmpN a b i else if at_ a i = true then 1 else -1
def cmpB (a b : List Bool) : Int := cmpN a b (max a.length b.length)
def subN (a b : List Bool) : Nat → List Bool × Bool
  | 0 => ([], false)
  | i + 1 => let p := subN a b i; (p.1 ++ [xor (xor (at_ a i) (at_ b i)) p.2], (!at_ a i && at_ b i) || (!at_ a i && p.2) || (at_ b i && p.2))
def subB (a b : List Bool) : List Bool := trimB (subN a b a.length).1
theorem subN_length (a b : List Bool) : ∀ i, (subN a b i).1.length = i
  | 0 => rfl
  | i + 1 => by simp [subN, subN_length a b i]
theorem subB_length (a b : List Bool) : (subB a b).length ≤ a.length := by
  have := trimB_length (subN a b a.length).1
  rw [subN_length] at this; exact this
/-- k rounds of the long division: the bits of the quotient so far, the remainder. -/
def divN (a b : List Bool) : Nat → List Bool × List Bool
  | 0 => (List.replicate a.length false, [])
  | k + 1 =>
    let p := divN a b k
    let r := trimB (at_ a (a.length - 1 - k) :: p.2)
    if 0 ≤ cmpB r b then (p.1.set (a.length - 1 - k) true, subB r b) else (p.1, r)
def divB (a b : List Bool) : List Bool × List Bool := (trimB (divN a b a.length).1, (divN a b a.length).2)
theorem divN_q (a b : List Bool) : ∀ k, (divN a b k).1.length = a.length
  | 0 => by simp [divN]
  | k + 1 => by simp only [divN]; split <;> simp [divN_q a b k]
theorem divN_r (a b : List Bool) : ∀ k, (divN a b k).2.length ≤ k
  | 0 => by simp [divN]
  | k + 1 => by
    have h := divN_r a b k
    have h1 := trimB_length (at_ a (a.length - 1 - k) :: (divN a b k).2)
    simp only [List.length_cons] at h1
    simp only [divN]
    split
    · have := subB_length (trimB (at_ a (a.length - 1 - k) :: (divN a b k).2)) b
      show (subB (trimB (at_ a (a.length - 1 - k) :: (divN a b k).2)) b).length ≤ k + 1
      omega
    · show (trimB (at_ a (a.length - 1 - k) :: (divN a b k).2)).length ≤ k + 1
      omega
def valN (r : List Bool) : Nat → Nat → Nat
  | 0, d => d
  | i + 1, d => valN r i (2 * d + if at_ r i = true then 1 else 0)
def ten : List Bool := [false, true, false, true]
/-- The decimal digits, at most f of them, ahead of s. -/
def digN : Nat → List Bool → List UInt8 → List UInt8
  | 0, _, s => s
  | f + 1, a, s => if a = [] then s else digN f (divB a ten).1 (UInt8.ofNat (48 + valN (divB a ten).2 (divB a ten).2.length 0) :: s)
/-- At most f digits; every remainder is short. -/
def ends : Nat → List Bool → Bool
  | 0, a => a.isEmpty
  | f + 1, a => a.isEmpty || (decide ((divB a ten).2.length ≤ 10) && ends f (divB a ten).1)
theorem small_ten : smallF 64 10 = ten := by decide
theorem digs : ∀ n : Fin 17, 1 ≤ n.val → ends 3 (smallF 64 n.val) = true ∧ smallF 64 n.val ≠ [] ∧ digN 3 (smallF 64 n.val) [] = (if n.val < 10 then [UInt8.ofNat (48 + n.val)] else [UInt8.ofNat (48 + n.val / 10), UInt8.ofNat (48 + n.val % 10)]) := by decide +kernel
end Go.Bit
