/- Walks of the reference's small functions: number, mixed, bytesOf, xored; slices.Clone of bytes. Conditions: lengths as stated. -/
import Derived.Test.YtfpmjaeehhegcaaKeyE
namespace Go.Proofs.Ytfpmjaeehhegcaa
open Go.RowKit Kc

/-- What bytes say, the most significant one first, reckoned in 64 bits. -/
def numU (l : List UInt8) : UInt64 := l.foldl (fun n x => n * 256 + x.toUInt64) 0
theorem numU_snoc (l : List UInt8) (x : UInt8) : numU (l ++ [x]) = numU l * 256 + x.toUInt64 := by simp [numU]
theorem u64_step (n : UInt64) (x : UInt8) : IntKind.u64.wrap (IntKind.u64.wrap ((n.toNat : Int) * 256) + IntKind.u64.wrap (x.toNat : Int)) = ((n * 256 + x.toUInt64).toNat : Int) := by
  simp only [IntKind.wrap_u64]
  rw [UInt64.toNat_add, UInt64.toNat_mul, UInt8.toNat_toUInt64]
  have : (256 : UInt64).toNat = 256 := rfl
  rw [this]
  omega
theorem u64_xor32 (a b : UInt32) : bits .xor .u64 (a.toNat : Int) (b.toNat : Int) = ((a ^^^ b).toNat : Int) := by
  rw [u64_xor_nat _ _ (by have := u32lt a; omega) (by have := u32lt b; omega), UInt32.toNat_xor]
theorem mixed_eq (h : UInt32) : (bits .xor .u64 ((h.toNat : Int) * 16 % 4294967296) ((h.toNat : Int) / 32) + (h.toNat : Int)) % 4294967296 = ((mixU h).toNat : Int) := by
  rw [u32_shl4, u32_shr5, u64_xor32, u32_add]; rfl
end Go.Proofs.Ytfpmjaeehhegcaa
