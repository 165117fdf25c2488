/- Several texts in one: math/bits.Mul64: its two words are those of the product. No condition but that both numbers have 64 bits; Walks: wide.Times of numbers from 0 on, and what compares them. Conditions as stated. -/
import Derived.Test.YtfelgolfebhmkaaDoorMtm01
import Derived.Laws.BitsAllLaws
import Derived.Test.YtfelgolfebhmkaaDoorMtm02
import Derived.Deep.DeepCutAuto
namespace Go.Proofs.YtfelgolfebhmkaaDoor
open Go.RowKit
theorem and_mask32 (x : Nat) (hx : x < 18446744073709551616) : bits .and .u64 (x : Int) 4294967295 = ((x % 4294967296 : Nat) : Int) := by
  have h := u64_and_nat x 4294967295 hx (by omega)
  rw [show ((4294967295 : Nat) : Int) = 4294967295 from rfl] at h
  rw [h, show x &&& 4294967295 = x % 4294967296 from Nat.and_two_pow_sub_one_eq_mod x 32]
theorem prod_bd {a b : Nat} (ha : a ≤ 4294967295) (hb : b ≤ 4294967295) : a * b ≤ 18446744065119617025 := by
  have := Nat.mul_le_mul ha hb; omega
theorem prod_eq (x1 x0 y1 y0 : Nat) : (x1 * 4294967296 + x0) * (y1 * 4294967296 + y0) = x1 * y1 * 18446744073709551616 + (x1 * y0 + x0 * y1) * 4294967296 + x0 * y0 := by grind
theorem mul_hi (P Q R W : Nat) :
    (P * 18446744073709551616 + (Q + R) * 4294967296 + W) / 18446744073709551616 = P + (Q + W / 4294967296) / 4294967296 + ((Q + W / 4294967296) % 4294967296 + R) / 4294967296 := by omega
theorem mul_hi_val (x y : Nat) (hx : x < 18446744073709551616) (hy : y < 18446744073709551616) :
    IntKind.u64.wrap (IntKind.u64.wrap (IntKind.u64.wrap ((x : Int) / 4294967296 * ((y : Int) / 4294967296)) +
      IntKind.u64.wrap (IntKind.u64.wrap ((x : Int) / 4294967296 * bits BinOp.and IntKind.u64 (y : Int) 4294967295) + IntKind.u64.wrap (bits BinOp.and IntKind.u64 (x : Int) 4294967295 * bits BinOp.and IntKind.u64 (y : Int) 4294967295) / 4294967296) / 4294967296) +
      IntKind.u64.wrap (bits BinOp.and IntKind.u64 (IntKind.u64.wrap (IntKind.u64.wrap ((x : Int) / 4294967296 * bits BinOp.and IntKind.u64 (y : Int) 4294967295) + IntKind.u64.wrap (bits BinOp.and IntKind.u64 (x : Int) 4294967295 * bits BinOp.and IntKind.u64 (y : Int) 4294967295) / 4294967296)) 4294967295 +
        IntKind.u64.wrap (bits BinOp.and IntKind.u64 (x : Int) 4294967295 * ((y : Int) / 4294967296))) / 4294967296) = ((x * y / 18446744073709551616 : Nat) : Int) := by
  rw [and_mask32 x hx, and_mask32 y hy]
  have hx1 : x / 4294967296 ≤ 4294967295 := by omega
  have hy1 : y / 4294967296 ≤ 4294967295 := by omega
  have hx0 : x % 4294967296 ≤ 4294967295 := by omega
  have hy0 : y % 4294967296 ≤ 4294967295 := by omega
  have e1 : (x : Int) / 4294967296 = ((x / 4294967296 : Nat) : Int) := rfl
  have e2 : (y : Int) / 4294967296 = ((y / 4294967296 : Nat) : Int) := rfl
  have ex : x * y = (x / 4294967296 * 4294967296 + x % 4294967296) * (y / 4294967296 * 4294967296 + y % 4294967296) := by
    rw [Nat.div_add_mod', Nat.div_add_mod']
  rw [ex, prod_eq, e1, e2]
  have bP := prod_bd hx1 hy1
  have bQ := prod_bd hx1 hy0
  have bR := prod_bd hx0 hy1
  have bW := prod_bd hx0 hy0
  simp only [← Int.natCast_mul]
  generalize x / 4294967296 * (y / 4294967296) = P at *
  generalize x / 4294967296 * (y % 4294967296) = Q at *
  generalize x % 4294967296 * (y / 4294967296) = R at *
  generalize x % 4294967296 * (y % 4294967296) = W at *
  rw [mul_hi P Q R W]
  clear ex e1 e2 hx1 hy1 hx0 hy0
  have ht : IntKind.u64.wrap (IntKind.u64.wrap (Q : Int) + IntKind.u64.wrap (W : Int) / 4294967296) = ((Q + W / 4294967296 : Nat) : Int) := by simp only [IntKind.wrap_u64]; omega
  rw [ht, and_mask32 _ (by omega)]
  have h1 : P + (Q + W / 4294967296) / 4294967296 + ((Q + W / 4294967296) % 4294967296 + R) / 4294967296 < 18446744073709551616 := by
    have := mul_hi P Q R W
    omega
  simp only [IntKind.wrap_u64]
  omega
theorem mul_lo_val (x y : Nat) : IntKind.u64.wrap ((x : Int) * (y : Int)) = ((x * y % 18446744073709551616 : Nat) : Int) := by
  rw [← Int.natCast_mul, IntKind.wrap_u64]; rfl
theorem ret_tup2 {k l : IntKind} {a b c d : Int} (h : a = b) (h' : c = d) : Ending.returned (.tuple #[.int k a, .int l c]) = .returned (.tuple #[.int k b, .int l d]) := by rw [h, h']
set_option maxHeartbeats 1000000 in
theorem mul64_any (x y : Nat) (hx : x < 18446744073709551616) (hy : y < 18446744073709551616) (w : World) :
    Calls Tryd.prog 59 #[.int .u64 x, .int .u64 y] w fun e w' => e = .returned (.tuple #[.int .u64 (x * y / 18446744073709551616 : Nat), .int .u64 (x * y % 18446744073709551616 : Nat)]) ∧ w = w' := by
  have HH := hide (mul_hi_val x y hx hy)
  have HL := hide (mul_lo_val x y)
  have hx' : (x : Int) < 18446744073709551616 := by omega
  have hy' : (y : Int) < 18446744073709551616 := by omega
  clear hx hy hx' hy'
  go_enter Tryd.func59, Tryd.ntmps59
  go_wp2
  go_ret2
  exact ⟨ret_tup2 HH.out HL.out, rfl⟩
def cmpI (x y : Int) : Int := if x < y then -1 else if y < x then 1 else 0
theorem isNaN_any (x : Int) (w : World) : Calls Tryd.prog 72 #[.int .i64 x] w fun e w' => e = .returned (.bool false) ∧ w = w' := by
  have i0 : (x != x) = false := by simp
  go_enter Tryd.func72, Tryd.ntmps72
  go_wp2_with fail
  go_ret
  exact ⟨rfl, rfl⟩
theorem isNaU_any (x : Int) (w : World) : Calls Tryd.prog 73 #[.int .u64 x] w fun e w' => e = .returned (.bool false) ∧ w = w' := by
  have i0 : (x != x) = false := by simp
  go_enter Tryd.func73, Tryd.ntmps73
  go_wp2_with fail
  go_ret
  exact ⟨rfl, rfl⟩
theorem cmpI_any (x y : Int) (w : World) : Calls Tryd.prog 62 #[.int .i64 x, .int .i64 y] w fun e w' => e = .returned (.int .i64 (cmpI x y)) ∧ w = w' := by
  have HN := hide (fun (z : Int) (W : World) => isNaN_any z W)
  have hv : cmpI x y = if x < y then -1 else if y < x then 1 else 0 := rfl
  generalize cmpI x y = v at *
  go_enter Tryd.func62, Tryd.ntmps62
  go_wp2_with fail
  refine (HN.out _ _).mono ?_
  rintro e w1 ⟨rfl, rfl⟩
  go_wp2_with fail
  refine (HN.out _ _).mono ?_
  rintro e w2 ⟨rfl, rfl⟩
  by_cases h1 : x < y
  · rw [if_pos h1] at hv
    go_wp2
    go_ret
    exact ⟨ret_int hv.symm, rfl⟩
  rw [if_neg h1] at hv
  by_cases h2 : y < x
  · rw [if_pos h2] at hv
    go_wp2
    go_ret
    exact ⟨ret_int hv.symm, rfl⟩
  rw [if_neg h2] at hv
  go_wp2
  go_ret
  exact ⟨ret_int hv.symm, rfl⟩
theorem cmpU_any (x y : Int) (w : World) : Calls Tryd.prog 63 #[.int .u64 x, .int .u64 y] w fun e w' => e = .returned (.int .i64 (cmpI x y)) ∧ w = w' := by
  have HN := hide (fun (z : Int) (W : World) => isNaU_any z W)
  have hv : cmpI x y = if x < y then -1 else if y < x then 1 else 0 := rfl
  generalize cmpI x y = v at *
  go_enter Tryd.func63, Tryd.ntmps63
  go_wp2_with fail
  refine (HN.out _ _).mono ?_
  rintro e w1 ⟨rfl, rfl⟩
  go_wp2_with fail
  refine (HN.out _ _).mono ?_
  rintro e w2 ⟨rfl, rfl⟩
  by_cases h1 : x < y
  · rw [if_pos h1] at hv
    go_wp2
    go_ret
    exact ⟨ret_int hv.symm, rfl⟩
  rw [if_neg h1] at hv
  by_cases h2 : y < x
  · rw [if_pos h2] at hv
    go_wp2
    go_ret
    exact ⟨ret_int hv.symm, rfl⟩
  rw [if_neg h2] at hv
  go_wp2
  go_ret
  exact ⟨ret_int hv.symm, rfl⟩
theorem size_any64 (n : Nat) (hn : n < 9223372036854775808) (w : World) : Calls Tryd.prog 60 #[.int .i64 n] w fun e w' => e = .returned (.int .u64 n) ∧ w = w' := by
  have h0 : ¬ ((n : Int) < 0) := by omega
  have h1 : IntKind.u64.wrap (n : Int) = (n : Int) := by rw [IntKind.wrap_u64]; omega
  go_enter Tryd.func60, Tryd.ntmps60
  go_wp2
  go_ret
  exact ⟨rfl, rfl⟩
@[reducible] def i128 (x : Nat) : Value := .agg #[.int .i64 ((x / 18446744073709551616 : Nat) : Int), .int .u64 ((x % 18446744073709551616 : Nat) : Int)]
theorem times_any (a b : Nat) (ha : a < 9223372036854775808) (hb : b < 9223372036854775808) (w : World) : Calls Tryd.prog 47 #[.int .i64 a, .int .i64 b] w fun e w' => e = .returned (i128 (a * b)) ∧ Ext w w' := by
  have HS := hide (fun (n : Nat) hn (W : World) => size_any64 n hn W)
  have HM := hide (fun (W : World) => mul64_any a b (by omega) (by omega) W)
  have hp : a * b / 18446744073709551616 < 9223372036854775808 := by
    have h1 := Nat.mul_le_mul (show a ≤ 9223372036854775807 by omega) (show b ≤ 9223372036854775807 by omega)
    omega
  unfold i128
  generalize a * b / 18446744073709551616 = hi at *
  generalize a * b % 18446744073709551616 = lo at *
  have h0 : ¬ ((a : Int) < 0) := by omega
  have h1 : ¬ ((b : Int) < 0) := by omega
  have h2 : IntKind.i64.wrap (hi : Int) = (hi : Int) := by rw [IntKind.wrap_i64]; omega
  have ha' := hide ha
  have hb' := hide hb
  clear ha hb hp
  go_enter Tryd.func47, Tryd.ntmps47
  go_wp2_with fail
  refine (HS.out a ha'.out _).mono ?_
  rintro e w1 ⟨rfl, rfl⟩
  go_wp2_with fail
  refine (HS.out b hb'.out _).mono ?_
  rintro e w2 ⟨rfl, rfl⟩
  go_wp2_with fail
  refine (HM.out _).mono ?_
  rintro e w3 ⟨rfl, rfl⟩
  go_wp2_with fail
  refine gen_bod fun W9 h9 => ?_
  have B9 : Blk W9 w.heap.size 97 #[.int .i64 (hi : Int), .int .u64 (lo : Int)] := by rw [h9]; exact Blk.new _ _ _
  have k0 := B9.cell 0
  have k1 := B9.cell 1
  have X9 : Ext w W9 := by rw [h9]; exact (by repeat' (first | (with_reducible first | exact Below.refl _ _ | assumption | refine below_drewN ?_ _ | refine Below.drew ?_ | refine ext_alloc ?_ _ | refine Below.setCell ?_ ?_ _) | go_size))
  clear h9
  exact bodyPost_ret (v := .agg #[.int .i64 (hi : Int), .int .u64 (lo : Int)]) (by simp [results, Tryd.results47, go_sem, k0, k1]) rfl ⟨rfl, X9⟩
theorem compare_any (a b c d : Int) (w : World) : Calls Tryd.prog 48 #[.agg #[.int .i64 a, .int .u64 b], .agg #[.int .i64 c, .int .u64 d]] w fun e w' => e = .returned (.int .i64 (if cmpI a c ≠ 0 then cmpI a c else cmpI b d)) ∧ Ext w w' := by
  have HI := hide (fun (x y : Int) (W : World) => cmpI_any x y W)
  have HU := hide (fun (x y : Int) (W : World) => cmpU_any x y W)
  obtain ⟨v, hv⟩ : ∃ v, v = if cmpI a c ≠ 0 then cmpI a c else cmpI b d := ⟨_, rfl⟩
  rw [← hv]
  generalize hx : cmpI a c = x at *
  generalize hy : cmpI b d = y at *
  have HXX := hide hx; have HYY := hide hy
  clear hx hy
  go_enter Tryd.func48, Tryd.ntmps48
  go_wp2_with fail
  refine (HI.out _ _ _).mono ?_
  rintro e w1 ⟨rfl, rfl⟩
  first | rw [HXX.out] | skip
  by_cases h0 : x = 0
  · have e0 : (x != 0) = false := by simp [h0]
    rw [if_neg (by rw [h0]; decide)] at hv
    clear h0
    go_wp2_with fail
    refine (HU.out _ _ _).mono ?_
    rintro e w2 ⟨rfl, rfl⟩
    first | rw [HYY.out] | skip
    go_wp2_with fail
    go_ret
    exact ⟨ret_int hv.symm, (by repeat' (first | (with_reducible first | exact Below.refl _ _ | assumption | refine below_drewN ?_ _ | refine Below.drew ?_ | refine ext_alloc ?_ _ | refine Below.setCell ?_ ?_ _) | go_size))⟩
  · have e0 : (x != 0) = true := by simp [h0]
    rw [if_pos h0] at hv
    clear h0
    go_wp2_with fail
    go_ret
    exact ⟨ret_int hv.symm, (by repeat' (first | (with_reducible first | exact Below.refl _ _ | assumption | refine below_drewN ?_ _ | refine Below.drew ?_ | refine ext_alloc ?_ _ | refine Below.setCell ?_ ?_ _) | go_size))⟩
theorem cmp128 (x y : Nat) : (if cmpI ((x / 18446744073709551616 : Nat) : Int) ((y / 18446744073709551616 : Nat) : Int) ≠ 0 then cmpI ((x / 18446744073709551616 : Nat) : Int) ((y / 18446744073709551616 : Nat) : Int) else cmpI ((x % 18446744073709551616 : Nat) : Int) ((y % 18446744073709551616 : Nat) : Int)) = cmpI (x : Int) (y : Int) := by
  unfold cmpI
  split <;> split <;> (try split) <;> (try split) <;> (try split) <;> omega
end Go.Proofs.YtfelgolfebhmkaaDoor
