/- The cipher as plain functions on UInt32 and lists of bytes: what both the program and the reference compute. No condition. -/
namespace Go.Proofs.Ytfpmjaeehhegcaa
namespace Kc

/-- f of the cipher. -/
def mixU (x : UInt32) : UInt32 := ((x <<< 4) ^^^ (x >>> 5)) + x
def word4 (b0 b1 b2 b3 : UInt8) : UInt32 := ((b0.toUInt32 <<< 24) ||| (b1.toUInt32 <<< 16)) ||| (b2.toUInt32 <<< 8) ||| b3.toUInt32
/-- The number of the first four bytes. -/
def wordL (l : List UInt8) : UInt32 := word4 (l.getD 0 0) (l.getD 1 0) (l.getD 2 0) (l.getD 3 0)
@[irreducible] def delta : UInt32 := 2654435769
theorem delta_nat : delta.toNat = 2654435769 := by unfold delta; rfl
/-- Number i of a key. -/
def keyAt (k : List UInt8) (i : Nat) : UInt32 := wordL (k.drop (4 * i))
/-- What is added to one half. -/
def addA (k : List UInt8) (b s : UInt32) : UInt32 := mixU b ^^^ (s + keyAt k (s &&& 3).toNat)
def addB (k : List UInt8) (a s : UInt32) : UInt32 := mixU a ^^^ (s + keyAt k ((s >>> 11) &&& 3).toNat)
/-- So many rounds of encryption, from halves and a sum; d: what is added to the sum each time. -/
def encN (d : UInt32) (k : List UInt8) : Nat → UInt32 → UInt32 → UInt32 → UInt32 × UInt32
  | 0, a, b, _ => (a, b)
  | n + 1, a, b, s => encN d k n (a + addA k b s) (b + addB k (a + addA k b s) (s + d)) (s + d)
/-- So many rounds of decryption. -/
def decN (d : UInt32) (k : List UInt8) : Nat → UInt32 → UInt32 → UInt32 → UInt32 × UInt32
  | 0, a, b, _ => (a, b)
  | n + 1, a, b, s => decN d k n (a - addA k (b - addB k a s) (s - d)) (b - addB k a s) (s - d)
/-- What the sum is after so many rounds. -/
def sumN (d : UInt32) : Nat → UInt32
  | 0 => 0
  | n + 1 => sumN d n + d
theorem encN_succ (d : UInt32) (k : List UInt8) (n : Nat) (a b s : UInt32) : encN d k (n + 1) a b s = encN d k n (a + addA k b s) (b + addB k (a + addA k b s) (s + d)) (s + d) := by rw [encN]
theorem decN_succ (d : UInt32) (k : List UInt8) (n : Nat) (a b s : UInt32) : decN d k (n + 1) a b s = decN d k n (a - addA k (b - addB k a s) (s - d)) (b - addB k a s) (s - d) := by rw [decN]
def bytes4 (a : UInt32) : List UInt8 := [(a >>> 24).toUInt8, (a >>> 16).toUInt8, (a >>> 8).toUInt8, a.toUInt8]
def bytes8 (a b : UInt32) : List UInt8 := bytes4 a ++ bytes4 b
def encB (k b : List UInt8) : List UInt8 := let r := encN delta k 16 (wordL b) (wordL (b.drop 4)) 0; bytes8 r.1 r.2
def decB (k b : List UInt8) : List UInt8 := let r := decN delta k 16 (wordL b) (wordL (b.drop 4)) (sumN delta 16); bytes8 r.1 r.2
theorem length_bytes4 (a : UInt32) : (bytes4 a).length = 4 := rfl
theorem length_bytes8 (a b : UInt32) : (bytes8 a b).length = 8 := rfl
theorem length_encB (k b : List UInt8) : (encB k b).length = 8 := rfl
theorem length_decB (k b : List UInt8) : (decB k b).length = 8 := rfl

/-- Bytes, xored one by one. -/
def xorB (a b : List UInt8) : List UInt8 := List.zipWith (· ^^^ ·) a b
end Kc
end Go.Proofs.Ytfpmjaeehhegcaa
