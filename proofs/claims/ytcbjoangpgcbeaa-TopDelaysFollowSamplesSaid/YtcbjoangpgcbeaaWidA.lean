/- Walks: wide.Times of numbers from 0 on, and what compares them. Conditions as stated. -/
import Derived.Test.YtcbjoangpgcbeaaMul
import Derived.Test.YtcbjoangpgcbeaaStep
import Derived.Test.YtcbjoangpgcbeaaTw
import Derived.Deep.DeepCutAuto
namespace Go.Proofs.Ytcbjoangpgcbeaa
open Go.RowKit

/-- -1, 0 or 1. -/
def cmpI (x y : Int) : Int := if x < y then -1 else if y < x then 1 else 0
theorem size_any64 (n : Nat) (hn : n < 9223372036854775808) (w : World) : Calls Try.prog 22 #[.int .i64 n] w fun e w' => e = .returned (.int .u64 n) ∧ w = w' := by
  have h0 : ¬ ((n : Int) < 0) := by omega
  have h1 : IntKind.u64.wrap (n : Int) = (n : Int) := by rw [IntKind.wrap_u64]; omega
  go_enter Try.func22, Try.ntmps22
  go_wp2
  go_ret
  exact ⟨rfl, rfl⟩
/-- A number of 128 bits. -/
@[reducible] def i128 (x : Nat) : Value := .agg #[.int .i64 ((x / 18446744073709551616 : Nat) : Int), .int .u64 ((x % 18446744073709551616 : Nat) : Int)]
/-- What compares two products: below 1 just if the first one is not greater. -/
theorem cmp128 (x y : Nat) : (if cmpI ((x / 18446744073709551616 : Nat) : Int) ((y / 18446744073709551616 : Nat) : Int) ≠ 0 then cmpI ((x / 18446744073709551616 : Nat) : Int) ((y / 18446744073709551616 : Nat) : Int) else cmpI ((x % 18446744073709551616 : Nat) : Int) ((y % 18446744073709551616 : Nat) : Int)) = cmpI (x : Int) (y : Int) := by
  unfold cmpI
  split <;> split <;> (try split) <;> (try split) <;> (try split) <;> omega
end Go.Proofs.Ytcbjoangpgcbeaa
