/- SHA-256 in plain Lean, over UInt32. -/
import Derived.Test.YtaobaaaihgahfaaGreatKitQ
import Derived.Test.YtaobaaaihgahfaaGreatProg
namespace Go.Sha
def K : List UInt32 := [
 0x428a2f98, 0x71374491, 0xb5c0fbcf, 0xe9b5dba5, 0x3956c25b, 0x59f111f1, 0x923f82a4, 0xab1c5ed5,
 0xd807aa98, 0x12835b01, 0x243185be, 0x550c7dc3, 0x72be5d74, 0x80deb1fe, 0x9bdc06a7, 0xc19bf174,
 0xe49b69c1, 0xefbe4786, 0x0fc19dc6, 0x240ca1cc, 0x2de92c6f, 0x4a7484aa, 0x5cb0a9dc, 0x76f988da,
 0x983e5152, 0xa831c66d, 0xb00327c8, 0xbf597fc7, 0xc6e00bf3, 0xd5a79147, 0x06ca6351, 0x14292967,
 0x27b70a85, 0x2e1b2138, 0x4d2c6dfc, 0x53380d13, 0x650a7354, 0x766a0abb, 0x81c2c92e, 0x92722c85,
 0xa2bfe8a1, 0xa81a664b, 0xc24b8b70, 0xc76c51a3, 0xd192e819, 0xd6990624, 0xf40e3585, 0x106aa070,
 0x19a4c116, 0x1e376c08, 0x2748774c, 0x34b0bcb5, 0x391c0cb3, 0x4ed8aa4a, 0x5b9cca4f, 0x682e6ff3,
 0x748f82ee, 0x78a5636f, 0x84c87814, 0x8cc70208, 0x90befffa, 0xa4506ceb, 0xbef9a3f7, 0xc67178f2]
def rotr (x : UInt32) (n : Nat) : UInt32 := (x >>> UInt32.ofNat n) ||| (x <<< UInt32.ofNat (32 - n))
def s0 (x : UInt32) : UInt32 := rotr x 7 ^^^ rotr x 18 ^^^ (x >>> 3)
def s1 (x : UInt32) : UInt32 := rotr x 17 ^^^ rotr x 19 ^^^ (x >>> 10)
def S0 (x : UInt32) : UInt32 := rotr x 2 ^^^ rotr x 13 ^^^ rotr x 22
def S1 (x : UInt32) : UInt32 := rotr x 6 ^^^ rotr x 11 ^^^ rotr x 25
def ch (x y z : UInt32) : UInt32 := (x &&& y) ^^^ (~~~x &&& z)
def maj (x y z : UInt32) : UInt32 := (x &&& y) ^^^ (x &&& z) ^^^ (y &&& z)
/-- a word out of four bytes -/
def word (a b c d : UInt8) : UInt32 := (((a.toUInt32 <<< 8 ||| b.toUInt32) <<< 8 ||| c.toUInt32) <<< 8) ||| d.toUInt32
/-- one word more -/
def more (w : List UInt32) : List UInt32 :=
  let t := w.length
  w ++ [w.getD (t - 16) 0 + s0 (w.getD (t - 15) 0) + w.getD (t - 7) 0 + s1 (w.getD (t - 2) 0)]
def iter {α : Type} (f : α → α) : Nat → α → α
  | 0, x => x
  | n + 1, x => f (iter f n x)
def first16 : Nat → List UInt8 → List UInt32
  | n + 1, a :: b :: c :: d :: r => word a b c d :: first16 n r
  | _, _ => []
def sched (b : List UInt8) : List UInt32 := iter more 48 (first16 16 b)
structure St where
  a : UInt32
  b : UInt32
  c : UInt32
  d : UInt32
  e : UInt32
  f : UInt32
  g : UInt32
  h : UInt32
def St.list (s : St) : List UInt32 := [s.a, s.b, s.c, s.d, s.e, s.f, s.g, s.h]
def t1 (s : St) (k w : UInt32) : UInt32 := s.h + S1 s.e + ch s.e s.f s.g + k + w
def t2 (s : St) : UInt32 := S0 s.a + maj s.a s.b s.c
def St.round (s : St) (k w : UInt32) : St := ⟨t1 s k w + t2 s, s.a, s.b, s.c, s.d + t1 s k w, s.e, s.f, s.g⟩
def St.add (s t : St) : St := ⟨s.a + t.a, s.b + t.b, s.c + t.c, s.d + t.d, s.e + t.e, s.f + t.f, s.g + t.g, s.h + t.h⟩
def rounds (w : List UInt32) : Nat → St → St
  | 0, s => s
  | n + 1, s => (rounds w n s).round (K.getD n 0) (w.getD n 0)
def mix (h : St) (b : List UInt8) : St := h.add (rounds (sched b) 64 h)
def blocks : Nat → St → List UInt8 → St
  | 0, h, _ => h
  | n + 1, h, b => blocks n (mix h b) (b.drop 64)
def H0 : St := ⟨0x6a09e667, 0xbb67ae85, 0x3c6ef372, 0xa54ff53a, 0x510e527f, 0x9b05688c, 0x1f83d9ab, 0x5be0cd19⟩
/-- the s lowest bytes of n, the most significant first -/
def be (n : Nat) : Nat → List UInt8
  | 0 => []
  | s + 1 => UInt8.ofNat (n / 2 ^ (8 * s)) :: be n s
def zeros (l : Nat) : Nat := (119 - l % 64) % 64
def padded (b : List UInt8) : List UInt8 := b ++ 128 :: List.replicate (zeros b.length) 0 ++ be (8 * b.length) 8
def sum (b : List UInt8) : List UInt8 := (blocks ((padded b).length / 64) H0 (padded b)).list.flatMap fun x => be x.toNat 4
end Go.Sha

/- 32-bit words and bytes as values of the model -/
namespace Go.Mk
open Go.Sha
def U (x : UInt32) : Value := .int .u32 (x.toNat : Int)
def B (x : UInt8) : Value := .int .u8 (x.toNat : Int)
theorem row_free {w : World} {g : Nat} {c : Array Value} {t : TypeId} (h : w.heap[g]? = some (.cells c t (0, 0))) (j : Nat) : w.frozen? ⟨g, j, none⟩ = false := by
  simp [World.frozen?, h]
end Go.Mk

namespace Go.Proofs.YtaobaaaihgahfaaGreat
open Go.RowKit Go.Mk Go.Sha
def New (w : World) (v : Value) : Prop := v.ownBlock = none ∨ ∃ k, v.ownBlock = some k ∧ w.heap.size ≤ k
theorem B0 : Value.int .u8 0 = B 0 := rfl
theorem New.step {w w1 : World} {v v' : Value} (h : New w v) (h' : NewOr w1 v v') (hs : w.heap.size ≤ w1.heap.size) : New w v' := by
  rcases h' with h' | ⟨k, h1, h2⟩
  · rcases h with h | ⟨k, h1, h2⟩
    · exact .inl (h'.trans h)
    · exact .inr ⟨k, h'.trans h1, h2⟩
  · exact .inr ⟨k, h1, by omega⟩
theorem New.kept {w w1 w' : World} {v : Value} (h : New w v) (hk : Kept no w w1) (hv : Kept (ob v) w1 w') : Kept no w w' :=
  hk.trans hv fun k hlt e => by
    rcases h with h | ⟨j, h1, h2⟩
    · rw [ob, h] at e; cases e
    · rw [ob, h1, Option.some.injEq] at e; omega
end Go.Proofs.YtaobaaaihgahfaaGreat

/- Bytes to a string; a byte of an array; the hexadecimal digits. -/
namespace Go.Proofs.YtaobaaaihgahfaaGreat
open Go.RowKit Go.Mk Go.Sha
theorem push_all (l : List UInt8) : ∀ s : ByteArray, (l.map fun x => (x.toNat : Int)).foldl (fun r n => r.push (UInt8.ofNat n.toNat)) s = ⟨s.data ++ l.toArray⟩ := by
  induction l with
  | nil => intro s; simp
  | cons x l ih =>
    (intro s); (simp only [List.map_cons, List.foldl_cons, ih])
    simp [ByteArray.push]
theorem string_of {P : Program} (w : World) (src dst e : TypeId) (hs : P.underlying src = some (.slice e)) (he : P.underlying e = some (.int .u8)) (hd : P.underlying dst = some .string)
    (v : Value) (l : List UInt8) (hr : Rd w 1 v l.length (l.map B)) : (convert src dst v).run P w = .ok (.string ⟨l.toArray⟩) w := by
  obtain ⟨_, ao, cap, rfl, _, _, hcap | ⟨b, o, rfl, hc⟩⟩ := hr
  · (rw [run_convert_bytes_string w src dst e _ _ _ hs he hd]); (have : l = [] := List.eq_nil_of_length_eq_zero (by omega)); (subst this)
    cases ao with
    | none => simp [Conv.bytesToString, Sem.run_pure]; rfl
    | some a =>
      rw [run_bytesToString w a _ cap [] (by simp [loadCells, loadCellsFrom])]
      rfl
  · rw [run_convert_bytes_string w src dst e _ _ _ hs he hd]
    have h := run_loadCells_list (P := P) (w := w) ⟨b, o, none⟩ (l.map B) (fun j u hu => by
      (have := hc j u hu); (unfold Addr.add)
      split
      · rename_i e0; subst e0; simpa using this
      · exact this)
    (rw [List.length_map] at h); (rw [run_bytesToString w ⟨b, o, none⟩ l.length cap (l.map fun x => (x.toNat : Int)) (by rw [h]; simp [B, Function.comp_def]), push_all])
    simp
def hexd (n : Nat) : UInt8 := if n < 10 then UInt8.ofNat (48 + n) else UInt8.ofNat (87 + n)
def hex (l : List UInt8) : List UInt8 := l.flatMap fun x => [hexd (x.toNat / 16), hexd (x.toNat % 16)]
end Go.Proofs.YtaobaaaihgahfaaGreat
