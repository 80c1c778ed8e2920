/- The document's digest of bytes in plain Lean: words of 32 bits, rounds, padded bytes. -/
import Derived.Test.YtldppmjjgljinaaGreatDoorBase
namespace Go.Proofs.YtldppmjjgljinaaGreatDoor
open Go.RowKit

abbrev Wd := BitVec 32
def rotr (x : Wd) (n : Nat) : Wd := x >>> n ||| x <<< (32 - n)
def sg0 (x : Wd) : Wd := rotr x 7 ^^^ rotr x 18 ^^^ x >>> 3
def sg1 (x : Wd) : Wd := rotr x 17 ^^^ rotr x 19 ^^^ x >>> 10
def big0 (x : Wd) : Wd := rotr x 2 ^^^ rotr x 13 ^^^ rotr x 22
def big1 (x : Wd) : Wd := rotr x 6 ^^^ rotr x 11 ^^^ rotr x 25
def chw (e f g : Wd) : Wd := (e &&& f) ^^^ (~~~e &&& g)
def mjw (a b c : Wd) : Wd := (a &&& b) ^^^ (a &&& c) ^^^ (b &&& c)

/-- The t-th word of 64 bytes. -/
def wordAt (p : List UInt8) (t : Nat) : Wd := BitVec.ofNat 32 ((((p.getD (4 * t) 0).toNat * 256 + (p.getD (4 * t + 1) 0).toNat) * 256 + (p.getD (4 * t + 2) 0).toNat) * 256 + (p.getD (4 * t + 3) 0).toNat)
def nextW (p : List UInt8) (w : List Wd) (t : Nat) : Wd :=
  if t < 16 then wordAt p t else w.getD (t - 16) 0 + sg0 (w.getD (t - 15) 0) + w.getD (t - 7) 0 + sg1 (w.getD (t - 2) 0)
/-- The first words of 64 bytes. -/
def wordsL (p : List UInt8) : Nat → List Wd
  | 0 => []
  | t + 1 => wordsL p t ++ [nextW p (wordsL p t) t]
theorem wordsL_len (p : List UInt8) (t : Nat) : (wordsL p t).length = t := by
  induction t with
  | zero => rfl
  | succ t ih => simp [wordsL, ih]
theorem wordsL_at (p : List UInt8) (t k : Nat) (h : k < t) : (wordsL p t)[k]? = some (nextW p (wordsL p k) k) := by
  induction t with
  | zero => omega
  | succ t ih =>
    rw [show wordsL p (t + 1) = wordsL p t ++ [nextW p (wordsL p t) t] from rfl]
    by_cases e : k = t
    · subst e; rw [List.getElem?_append_right (by rw [wordsL_len]; exact Nat.le_refl _), wordsL_len]; simp
    · rw [List.getElem?_append_left (by rw [wordsL_len]; omega)]; exact ih (by omega)

/-- Eight words. -/
structure V8 where
  (a b c d e f g h : Wd)
def rnd (v : V8) (k w : Wd) : V8 :=
  let x := v.h + big1 v.e + chw v.e v.f v.g + k + w
  let y := big0 v.a + mjw v.a v.b v.c
  ⟨x + y, v.a, v.b, v.c, v.d + x, v.e, v.f, v.g⟩
def kTab : List Nat := [
  0x428a2f98, 0x71374491, 0xb5c0fbcf, 0xe9b5dba5, 0x3956c25b, 0x59f111f1, 0x923f82a4, 0xab1c5ed5,
  0xd807aa98, 0x12835b01, 0x243185be, 0x550c7dc3, 0x72be5d74, 0x80deb1fe, 0x9bdc06a7, 0xc19bf174,
  0xe49b69c1, 0xefbe4786, 0x0fc19dc6, 0x240ca1cc, 0x2de92c6f, 0x4a7484aa, 0x5cb0a9dc, 0x76f988da,
  0x983e5152, 0xa831c66d, 0xb00327c8, 0xbf597fc7, 0xc6e00bf3, 0xd5a79147, 0x06ca6351, 0x14292967,
  0x27b70a85, 0x2e1b2138, 0x4d2c6dfc, 0x53380d13, 0x650a7354, 0x766a0abb, 0x81c2c92e, 0x92722c85,
  0xa2bfe8a1, 0xa81a664b, 0xc24b8b70, 0xc76c51a3, 0xd192e819, 0xd6990624, 0xf40e3585, 0x106aa070,
  0x19a4c116, 0x1e376c08, 0x2748774c, 0x34b0bcb5, 0x391c0cb3, 0x4ed8aa4a, 0x5b9cca4f, 0x682e6ff3,
  0x748f82ee, 0x78a5636f, 0x84c87814, 0x8cc70208, 0x90befffa, 0xa4506ceb, 0xbef9a3f7, 0xc67178f2]
def kAt (t : Nat) : Wd := BitVec.ofNat 32 (kTab.getD t 0)
def rounds (v : V8) (ws : List Wd) : Nat → V8
  | 0 => v
  | t + 1 => rnd (rounds v ws t) (kAt t) (ws.getD t 0)
def V8.add (x y : V8) : V8 := ⟨x.a + y.a, x.b + y.b, x.c + y.c, x.d + y.d, x.e + y.e, x.f + y.f, x.g + y.g, x.h + y.h⟩
def comp (s : V8) (p : List UInt8) : V8 := s.add (rounds s (wordsL p 64) 64)
def first8 : V8 := ⟨0x6a09e667, 0xbb67ae85, 0x3c6ef372, 0xa54ff53a, 0x510e527f, 0x9b05688c, 0x1f83d9ab, 0x5be0cd19⟩
/-- The words behind so many blocks of 64 bytes. -/
def digN (m : List UInt8) : Nat → V8
  | 0 => first8
  | n + 1 => comp (digN m n) ((m.drop (64 * n)).take 64)
theorem digN_app (m b : List UInt8) (n : Nat) (h : 64 * n ≤ m.length) : digN (m ++ b) n = digN m n := by
  induction n with
  | zero => rfl
  | succ n ih =>
    unfold digN
    rw [ih (by omega), List.drop_append, List.take_append_of_le_length (by rw [List.length_drop]; omega)]
def zerosOf (n : Nat) : Nat := (119 - n % 64) % 64
def byteOf (n : Nat) : UInt8 := UInt8.ofNat n
def be8 (n : Nat) : List UInt8 := [byteOf (n / 2 ^ 56), byteOf (n / 2 ^ 48), byteOf (n / 2 ^ 40), byteOf (n / 2 ^ 32), byteOf (n / 2 ^ 24), byteOf (n / 2 ^ 16), byteOf (n / 2 ^ 8), byteOf n]
def padL (n : Nat) : List UInt8 := 128 :: List.replicate (zerosOf n) 0 ++ be8 (8 * n)
def padded (m : List UInt8) : List UInt8 := m ++ padL m.length
theorem padL_len (n : Nat) : (padL n).length = zerosOf n + 9 := by simp [padL, be8]
theorem padded_len (m : List UInt8) : (padded m).length % 64 = 0 ∧ m.length + 9 ≤ (padded m).length ∧ (padded m).length ≤ m.length + 72 := by
  unfold padded; rw [List.length_append, padL_len]; unfold zerosOf; omega
def V8.list (v : V8) : List Wd := [v.a, v.b, v.c, v.d, v.e, v.f, v.g, v.h]
def outB (w : Wd) : List UInt8 := [byteOf (w.toNat / 2 ^ 24), byteOf (w.toNat / 2 ^ 16), byteOf (w.toNat / 2 ^ 8), byteOf w.toNat]
/-- The digest: 32 bytes. -/
def shaL (m : List UInt8) : List UInt8 := ((digN (padded m) ((padded m).length / 64)).list.map outB).flatten
theorem shaL_len (m : List UInt8) : (shaL m).length = 32 := by simp [shaL, V8.list, outB]
def hexD (n : Nat) : UInt8 := if n < 10 then byteOf (48 + n) else byteOf (87 + n)
def hexL (h : List UInt8) : List UInt8 := (h.map fun x => [hexD (x.toNat / 16), hexD (x.toNat % 16)]).flatten
theorem hexL_len (h : List UInt8) : (hexL h).length = 2 * h.length := by
  induction h with
  | nil => rfl
  | cons x h ih => simp only [hexL, List.map_cons, List.flatten_cons, List.length_append, List.length_cons, List.length_nil] at *; omega
end Go.Proofs.YtldppmjjgljinaaGreatDoor
