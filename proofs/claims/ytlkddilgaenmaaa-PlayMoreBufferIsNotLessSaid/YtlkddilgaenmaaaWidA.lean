/- Walks: wide.Times of numbers from 0 on, and what compares them. Conditions as stated. -/
import Derived.Test.YtlkddilgaenmaaaMul
import Derived.Test.YtlkddilgaenmaaaStep
import Derived.Test.YtlkddilgaenmaaaTw
import Derived.Deep.DeepCutAuto
namespace Go.Proofs.Ytlkddilgaenmaaa
open Go.RowKit

/-- -1, 0 or 1. -/
def cmpI (x y : Int) : Int := if x < y then -1 else if y < x then 1 else 0
theorem isNaN_any (x : Int) (w : World) : Calls Try.prog 72 #[.int .i64 x] w fun e w' => e = .returned (.bool false) ∧ w = w' := by
  have i0 : (x != x) = false := by simp
  go_enter Try.func72, Try.ntmps72
  go_wp2_with fail
  go_ret
  exact ⟨rfl, rfl⟩
theorem isNaU_any (x : Int) (w : World) : Calls Try.prog 73 #[.int .u64 x] w fun e w' => e = .returned (.bool false) ∧ w = w' := by
  have i0 : (x != x) = false := by simp
  go_enter Try.func73, Try.ntmps73
  go_wp2_with fail
  go_ret
  exact ⟨rfl, rfl⟩
theorem cmpI_any (x y : Int) (w : World) : Calls Try.prog 69 #[.int .i64 x, .int .i64 y] w fun e w' => e = .returned (.int .i64 (cmpI x y)) ∧ w = w' := by
  have HN := hide (fun (z : Int) (W : World) => isNaN_any z W)
  have hv : cmpI x y = if x < y then -1 else if y < x then 1 else 0 := rfl
  generalize cmpI x y = v at *
  go_enter Try.func69, Try.ntmps69
  go_wp2_with fail
  refine (HN.out _ _).mono ?_
  rintro e w1 ⟨rfl, rfl⟩
  go_wp2_with fail
  refine (HN.out _ _).mono ?_
  rintro e w2 ⟨rfl, rfl⟩
  by_cases h1 : x < y
  · rw [if_pos h1] at hv
    go_wp2
    go_ret
    exact ⟨ret_int hv.symm, rfl⟩
  rw [if_neg h1] at hv
  by_cases h2 : y < x
  · rw [if_pos h2] at hv
    go_wp2
    go_ret
    exact ⟨ret_int hv.symm, rfl⟩
  rw [if_neg h2] at hv
  go_wp2
  go_ret
  exact ⟨ret_int hv.symm, rfl⟩
theorem cmpU_any (x y : Int) (w : World) : Calls Try.prog 70 #[.int .u64 x, .int .u64 y] w fun e w' => e = .returned (.int .i64 (cmpI x y)) ∧ w = w' := by
  have HN := hide (fun (z : Int) (W : World) => isNaU_any z W)
  have hv : cmpI x y = if x < y then -1 else if y < x then 1 else 0 := rfl
  generalize cmpI x y = v at *
  go_enter Try.func70, Try.ntmps70
  go_wp2_with fail
  refine (HN.out _ _).mono ?_
  rintro e w1 ⟨rfl, rfl⟩
  go_wp2_with fail
  refine (HN.out _ _).mono ?_
  rintro e w2 ⟨rfl, rfl⟩
  by_cases h1 : x < y
  · rw [if_pos h1] at hv
    go_wp2
    go_ret
    exact ⟨ret_int hv.symm, rfl⟩
  rw [if_neg h1] at hv
  by_cases h2 : y < x
  · rw [if_pos h2] at hv
    go_wp2
    go_ret
    exact ⟨ret_int hv.symm, rfl⟩
  rw [if_neg h2] at hv
  go_wp2
  go_ret
  exact ⟨ret_int hv.symm, rfl⟩
theorem size_any64 (n : Nat) (hn : n < 9223372036854775808) (w : World) : Calls Try.prog 67 #[.int .i64 n] w fun e w' => e = .returned (.int .u64 n) ∧ w = w' := by
  have h0 : ¬ ((n : Int) < 0) := by omega
  have h1 : IntKind.u64.wrap (n : Int) = (n : Int) := by rw [IntKind.wrap_u64]; omega
  go_enter Try.func67, Try.ntmps67
  go_wp2
  go_ret
  exact ⟨rfl, rfl⟩
/-- A number of 128 bits. -/
@[reducible] def i128 (x : Nat) : Value := .agg #[.int .i64 ((x / 18446744073709551616 : Nat) : Int), .int .u64 ((x % 18446744073709551616 : Nat) : Int)]
theorem times_any (a b : Nat) (ha : a < 9223372036854775808) (hb : b < 9223372036854775808) (w : World) : Calls Try.prog 62 #[.int .i64 a, .int .i64 b] w fun e w' => e = .returned (i128 (a * b)) ∧ Ext w w' := by
  have HS := hide (fun (n : Nat) hn (W : World) => size_any64 n hn W)
  have HM := hide (fun (W : World) => mul64_any a b (by omega) (by omega) W)
  have hp : a * b / 18446744073709551616 < 9223372036854775808 := by
    have h1 := Nat.mul_le_mul (show a ≤ 9223372036854775807 by omega) (show b ≤ 9223372036854775807 by omega)
    omega
  unfold i128
  generalize a * b / 18446744073709551616 = hi at *
  generalize a * b % 18446744073709551616 = lo at *
  have h0 : ¬ ((a : Int) < 0) := by omega
  have h1 : ¬ ((b : Int) < 0) := by omega
  have h2 : IntKind.i64.wrap (hi : Int) = (hi : Int) := by rw [IntKind.wrap_i64]; omega
  have ha' := hide ha
  have hb' := hide hb
  clear ha hb hp
  go_enter Try.func62, Try.ntmps62
  go_wp2_with fail
  refine (HS.out a ha'.out _).mono ?_
  rintro e w1 ⟨rfl, rfl⟩
  go_wp2_with fail
  refine (HS.out b hb'.out _).mono ?_
  rintro e w2 ⟨rfl, rfl⟩
  go_wp2_with fail
  refine (HM.out _).mono ?_
  rintro e w3 ⟨rfl, rfl⟩
  go_wp2_with fail
  refine gen_bod fun W9 h9 => ?_
  have B9 : Blk W9 w.heap.size 101 #[.int .i64 (hi : Int), .int .u64 (lo : Int)] := by rw [h9]; exact Blk.new _ _ _
  have k0 := B9.cell 0
  have k1 := B9.cell 1
  have X9 : Ext w W9 := by rw [h9]; exact (by repeat' (first | (with_reducible exact Below.refl _ _) | (with_reducible assumption) | (with_reducible refine below_drewN ?_ _) | (with_reducible refine Below.drew ?_) | (with_reducible refine ext_alloc ?_ _) | (with_reducible refine Below.setCell ?_ ?_ _) | go_size))
  clear h9
  exact bodyPost_ret (v := .agg #[.int .i64 (hi : Int), .int .u64 (lo : Int)]) (by simp [results, Try.results62, go_sem, k0, k1]) rfl ⟨rfl, X9⟩
theorem compare_any (a b c d : Int) (w : World) : Calls Try.prog 63 #[.agg #[.int .i64 a, .int .u64 b], .agg #[.int .i64 c, .int .u64 d]] w fun e w' => e = .returned (.int .i64 (if cmpI a c ≠ 0 then cmpI a c else cmpI b d)) ∧ Ext w w' := by
  have HI := hide (fun (x y : Int) (W : World) => cmpI_any x y W)
  have HU := hide (fun (x y : Int) (W : World) => cmpU_any x y W)
  obtain ⟨v, hv⟩ : ∃ v, v = if cmpI a c ≠ 0 then cmpI a c else cmpI b d := ⟨_, rfl⟩
  rw [← hv]
  generalize hx : cmpI a c = x at *
  generalize hy : cmpI b d = y at *
  have HXX := hide hx; have HYY := hide hy
  clear hx hy
  go_enter Try.func63, Try.ntmps63
  go_wp2_with fail
  refine (HI.out _ _ _).mono ?_
  rintro e w1 ⟨rfl, rfl⟩
  first | rw [HXX.out] | skip
  by_cases h0 : x = 0
  · have e0 : (x != 0) = false := by simp [h0]
    rw [if_neg (by rw [h0]; decide)] at hv
    clear h0
    go_wp2_with fail
    refine (HU.out _ _ _).mono ?_
    rintro e w2 ⟨rfl, rfl⟩
    first | rw [HYY.out] | skip
    go_wp2_with fail
    go_ret
    exact ⟨ret_int hv.symm, (by repeat' (first | (with_reducible exact Below.refl _ _) | (with_reducible assumption) | (with_reducible refine below_drewN ?_ _) | (with_reducible refine Below.drew ?_) | (with_reducible refine ext_alloc ?_ _) | (with_reducible refine Below.setCell ?_ ?_ _) | go_size))⟩
  · have e0 : (x != 0) = true := by simp [h0]
    rw [if_pos h0] at hv
    clear h0
    go_wp2_with fail
    go_ret
    exact ⟨ret_int hv.symm, (by repeat' (first | (with_reducible exact Below.refl _ _) | (with_reducible assumption) | (with_reducible refine below_drewN ?_ _) | (with_reducible refine Below.drew ?_) | (with_reducible refine ext_alloc ?_ _) | (with_reducible refine Below.setCell ?_ ?_ _) | go_size))⟩
/-- What compares two products: below 1 just if the first one is not greater. -/
theorem cmp128 (x y : Nat) : (if cmpI ((x / 18446744073709551616 : Nat) : Int) ((y / 18446744073709551616 : Nat) : Int) ≠ 0 then cmpI ((x / 18446744073709551616 : Nat) : Int) ((y / 18446744073709551616 : Nat) : Int) else cmpI ((x % 18446744073709551616 : Nat) : Int) ((y % 18446744073709551616 : Nat) : Int)) = cmpI (x : Int) (y : Int) := by
  unfold cmpI
  split <;> split <;> (try split) <;> (try split) <;> (try split) <;> omega
end Go.Proofs.Ytlkddilgaenmaaa
