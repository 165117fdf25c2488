/- Walks of the reference's encrypted. Conditions: lengths as stated. -/
import Derived.Test.YtfpmjaeehhegcaaKeyG
namespace Go.Proofs.Ytfpmjaeehhegcaa
open Go.RowKit Kc

theorem word4_nat (b0 b1 b2 b3 : UInt8) : (word4 b0 b1 b2 b3).toNat = b0.toNat * 16777216 + b1.toNat * 65536 + b2.toNat * 256 + b3.toNat := by
  have h0 := u8lt b0; have h1 := u8lt b1; have h2 := u8lt b2; have h3 := u8lt b3
  have e0 : (b0.toUInt32 <<< 24).toNat = b0.toNat * 16777216 := by
    rw [UInt32.toNat_shiftLeft, UInt8.toNat_toUInt32]
    simp [Nat.shiftLeft_eq]; omega
  have e1 : (b1.toUInt32 <<< 16).toNat = b1.toNat * 65536 := by
    rw [UInt32.toNat_shiftLeft, UInt8.toNat_toUInt32]
    simp [Nat.shiftLeft_eq]; omega
  have e2 : (b2.toUInt32 <<< 8).toNat = b2.toNat * 256 := by
    rw [UInt32.toNat_shiftLeft, UInt8.toNat_toUInt32]
    simp [Nat.shiftLeft_eq]; omega
  unfold word4
  rw [UInt32.toNat_or, UInt32.toNat_or, UInt32.toNat_or, e0, e1, e2, UInt8.toNat_toUInt32]
  have j1 := nat_join 24 (b0.toNat * 16777216) (b1.toNat * 65536) (by omega) (by omega)
  rw [j1]
  have j2 := nat_join 16 (b0.toNat * 16777216 + b1.toNat * 65536) (b2.toNat * 256) (by omega) (by omega)
  rw [j2]
  exact nat_join 8 _ _ (by omega) (by omega)
theorem numU4 (b0 b1 b2 b3 : UInt8) : (numU [b0, b1, b2, b3]).toNat = (word4 b0 b1 b2 b3).toNat := by
  have h0 := u8lt b0; have h1 := u8lt b1; have h2 := u8lt b2; have h3 := u8lt b3
  rw [word4_nat]
  simp only [numU, List.foldl_cons, List.foldl_nil, UInt64.toNat_add, UInt64.toNat_mul, UInt8.toNat_toUInt64]
  have e : (256 : UInt64).toNat = 256 := rfl
  have z : (0 : UInt64).toNat = 0 := rfl
  rw [e, z]
  omega
theorem numU_take (l : List UInt8) (h : 4 ≤ l.length) : (numU (l.take 4)).toNat = (wordL l).toNat := by
  match l, h with
  | b0 :: b1 :: b2 :: b3 :: r, _ => exact numU4 b0 b1 b2 b3
theorem and3_mod (s : UInt32) : (s &&& 3).toNat = s.toNat % 4 := by
  rw [UInt32.toNat_and]; exact nat_mask2 _
theorem shr11_mod (s : UInt32) : ((s >>> 11) &&& 3).toNat = s.toNat / 2048 % 4 := by
  rw [and3_mod, UInt32.toNat_shiftRight]; simp [Nat.shiftRight_eq_div_pow]
theorem append_bytes4 (a b : UInt32) : bytes8 a b = bytes4 a ++ bytes4 b := rfl
theorem beL4 (a : UInt32) : beL 4 a.toNat = bytes4 a := by
  have h : ∀ k : UInt32, ∀ m : Nat, (a >>> k).toNat = a.toNat / m → UInt8.ofNat (a.toNat / m) = (a >>> k).toUInt8 := by
    intro k m hm
    apply UInt8.toNat_inj.1
    rw [UInt32.toNat_toUInt8, hm]; simp
  have r : List.range 4 = [0, 1, 2, 3] := rfl
  unfold beL bytes4
  rw [r]
  simp only [List.map_cons, List.map_nil]
  rw [h 24 _ (by rw [UInt32.toNat_shiftRight]; simp [Nat.shiftRight_eq_div_pow]), h 16 _ (by rw [UInt32.toNat_shiftRight]; simp [Nat.shiftRight_eq_div_pow]), h 8 _ (by rw [UInt32.toNat_shiftRight]; simp [Nat.shiftRight_eq_div_pow])]
  have : UInt8.ofNat (a.toNat / 256 ^ (4 - 1 - 3)) = a.toUInt8 := by
    apply UInt8.toNat_inj.1
    rw [UInt32.toNat_toUInt8]; simp
  rw [this]

end Go.Proofs.Ytfpmjaeehhegcaa
