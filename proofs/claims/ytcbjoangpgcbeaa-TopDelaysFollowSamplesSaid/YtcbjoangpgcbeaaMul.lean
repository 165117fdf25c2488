/- math/bits.Mul64: its two words are those of the product. No condition but that both numbers have 64 bits. -/
import Derived.Test.YtcbjoangpgcbeaaOut
import Derived.Laws.BitsAllLaws
namespace Go.Proofs.Ytcbjoangpgcbeaa
open Go.RowKit

theorem and_mask32 (x : Nat) (hx : x < 18446744073709551616) : bits .and .u64 (x : Int) 4294967295 = ((x % 4294967296 : Nat) : Int) := by
  have h := u64_and_nat x 4294967295 hx (by omega)
  rw [show ((4294967295 : Nat) : Int) = 4294967295 from rfl] at h
  rw [h, show x &&& 4294967295 = x % 4294967296 from Nat.and_two_pow_sub_one_eq_mod x 32]
theorem prod_bd {a b : Nat} (ha : a ≤ 4294967295) (hb : b ≤ 4294967295) : a * b ≤ 18446744065119617025 := by
  have := Nat.mul_le_mul ha hb; omega
theorem prod_eq (x1 x0 y1 y0 : Nat) : (x1 * 4294967296 + x0) * (y1 * 4294967296 + y0) = x1 * y1 * 18446744073709551616 + (x1 * y0 + x0 * y1) * 4294967296 + x0 * y0 := by grind
/-- The high word. -/
theorem mul_hi (P Q R W : Nat) :
    (P * 18446744073709551616 + (Q + R) * 4294967296 + W) / 18446744073709551616 = P + (Q + W / 4294967296) / 4294967296 + ((Q + W / 4294967296) % 4294967296 + R) / 4294967296 := by omega
theorem mul_hi_val (x y : Nat) (hx : x < 18446744073709551616) (hy : y < 18446744073709551616) :
    IntKind.u64.wrap (IntKind.u64.wrap (IntKind.u64.wrap ((x : Int) / 4294967296 * ((y : Int) / 4294967296)) +
      IntKind.u64.wrap (IntKind.u64.wrap ((x : Int) / 4294967296 * bits BinOp.and IntKind.u64 (y : Int) 4294967295) + IntKind.u64.wrap (bits BinOp.and IntKind.u64 (x : Int) 4294967295 * bits BinOp.and IntKind.u64 (y : Int) 4294967295) / 4294967296) / 4294967296) +
      IntKind.u64.wrap (bits BinOp.and IntKind.u64 (IntKind.u64.wrap (IntKind.u64.wrap ((x : Int) / 4294967296 * bits BinOp.and IntKind.u64 (y : Int) 4294967295) + IntKind.u64.wrap (bits BinOp.and IntKind.u64 (x : Int) 4294967295 * bits BinOp.and IntKind.u64 (y : Int) 4294967295) / 4294967296)) 4294967295 +
        IntKind.u64.wrap (bits BinOp.and IntKind.u64 (x : Int) 4294967295 * ((y : Int) / 4294967296))) / 4294967296) = ((x * y / 18446744073709551616 : Nat) : Int) := by
  rw [and_mask32 x hx, and_mask32 y hy]
  have hx1 : x / 4294967296 ≤ 4294967295 := by omega
  have hy1 : y / 4294967296 ≤ 4294967295 := by omega
  have hx0 : x % 4294967296 ≤ 4294967295 := by omega
  have hy0 : y % 4294967296 ≤ 4294967295 := by omega
  have e1 : (x : Int) / 4294967296 = ((x / 4294967296 : Nat) : Int) := rfl
  have e2 : (y : Int) / 4294967296 = ((y / 4294967296 : Nat) : Int) := rfl
  have ex : x * y = (x / 4294967296 * 4294967296 + x % 4294967296) * (y / 4294967296 * 4294967296 + y % 4294967296) := by
    rw [Nat.div_add_mod', Nat.div_add_mod']
  rw [ex, prod_eq, e1, e2]
  have bP := prod_bd hx1 hy1
  have bQ := prod_bd hx1 hy0
  have bR := prod_bd hx0 hy1
  have bW := prod_bd hx0 hy0
  simp only [← Int.natCast_mul]
  generalize x / 4294967296 * (y / 4294967296) = P at *
  generalize x / 4294967296 * (y % 4294967296) = Q at *
  generalize x % 4294967296 * (y / 4294967296) = R at *
  generalize x % 4294967296 * (y % 4294967296) = W at *
  rw [mul_hi P Q R W]
  clear ex e1 e2 hx1 hy1 hx0 hy0
  have ht : IntKind.u64.wrap (IntKind.u64.wrap (Q : Int) + IntKind.u64.wrap (W : Int) / 4294967296) = ((Q + W / 4294967296 : Nat) : Int) := by simp only [IntKind.wrap_u64]; omega
  rw [ht, and_mask32 _ (by omega)]
  have h1 : P + (Q + W / 4294967296) / 4294967296 + ((Q + W / 4294967296) % 4294967296 + R) / 4294967296 < 18446744073709551616 := by
    have := mul_hi P Q R W
    omega
  simp only [IntKind.wrap_u64]
  omega
theorem mul_lo_val (x y : Nat) : IntKind.u64.wrap ((x : Int) * (y : Int)) = ((x * y % 18446744073709551616 : Nat) : Int) := by
  rw [← Int.natCast_mul, IntKind.wrap_u64]; rfl
theorem ret_tup2 {k l : IntKind} {a b c d : Int} (h : a = b) (h' : c = d) : Ending.returned (.tuple #[.int k a, .int l c]) = .returned (.tuple #[.int k b, .int l d]) := by rw [h, h']
set_option maxHeartbeats 1000000 in
theorem mul64_any (x y : Nat) (hx : x < 18446744073709551616) (hy : y < 18446744073709551616) (w : World) :
    Calls Try.prog 21 #[.int .u64 x, .int .u64 y] w fun e w' => e = .returned (.tuple #[.int .u64 (x * y / 18446744073709551616 : Nat), .int .u64 (x * y % 18446744073709551616 : Nat)]) ∧ w = w' := by
  have HH := hide (mul_hi_val x y hx hy)
  have HL := hide (mul_lo_val x y)
  have hx' : (x : Int) < 18446744073709551616 := by omega
  have hy' : (y : Int) < 18446744073709551616 := by omega
  clear hx hy hx' hy'
  go_enter Try.func21, Try.ntmps21
  go_wp2
  go_ret2
  exact ⟨ret_tup2 HH.out HL.out, rfl⟩
end Go.Proofs.Ytcbjoangpgcbeaa
