/- Several texts in one: math/bits.Mul64: its two words are those of the product. No condition but that both numbers have 64 bits; Walks: wide.Times of numbers from 0 on, and what compares them. Conditions as stated; Walks: math/bits.Len64, LeadingZeros64, Div64 (that it comes to an end), wide.Scaled (that it comes to an end). Conditions as stated; The delay of samples in plain words. Plain; Walks: wide.Scaled rounding up, at numbers whose product has less than 64 bits; tick.Convert at one place. Conditions as stated. -/
import Derived.Test.YtkbmgakehlmcnaaMtq00
import Derived.Laws.BitsAllLaws
import Derived.Deep.DeepCutAuto
import Derived.Lib.BitFns
import Derived.Lib.Walk
import Derived.Lib.Tables
import Derived.Lib.ItoaNum
import Derived.Test.YtkbmgakehlmcnaaMtq01
namespace Go.Proofs.Ytkbmgakehlmcnaa
open Go.RowKit
theorem and_mask32 (x : Nat) (hx : x < 18446744073709551616) : bits .and .u64 (x : Int) 4294967295 = ((x % 4294967296 : Nat) : Int) := by
  have h := u64_and_nat x 4294967295 hx (by omega)
  rw [show ((4294967295 : Nat) : Int) = 4294967295 from rfl] at h
  rw [h, show x &&& 4294967295 = x % 4294967296 from Nat.and_two_pow_sub_one_eq_mod x 32]
theorem prod_bd {a b : Nat} (ha : a ≤ 4294967295) (hb : b ≤ 4294967295) : a * b ≤ 18446744065119617025 := by
  have := Nat.mul_le_mul ha hb; omega
theorem prod_eq (x1 x0 y1 y0 : Nat) : (x1 * 4294967296 + x0) * (y1 * 4294967296 + y0) = x1 * y1 * 18446744073709551616 + (x1 * y0 + x0 * y1) * 4294967296 + x0 * y0 := by grind
theorem mul_hi (P Q R W : Nat) :
    (P * 18446744073709551616 + (Q + R) * 4294967296 + W) / 18446744073709551616 = P + (Q + W / 4294967296) / 4294967296 + ((Q + W / 4294967296) % 4294967296 + R) / 4294967296 := by omega
theorem mul_hi_val (x y : Nat) (hx : x < 18446744073709551616) (hy : y < 18446744073709551616) :
    IntKind.u64.wrap (IntKind.u64.wrap (IntKind.u64.wrap ((x : Int) / 4294967296 * ((y : Int) / 4294967296)) +
      IntKind.u64.wrap (IntKind.u64.wrap ((x : Int) / 4294967296 * bits BinOp.and IntKind.u64 (y : Int) 4294967295) + IntKind.u64.wrap (bits BinOp.and IntKind.u64 (x : Int) 4294967295 * bits BinOp.and IntKind.u64 (y : Int) 4294967295) / 4294967296) / 4294967296) +
      IntKind.u64.wrap (bits BinOp.and IntKind.u64 (IntKind.u64.wrap (IntKind.u64.wrap ((x : Int) / 4294967296 * bits BinOp.and IntKind.u64 (y : Int) 4294967295) + IntKind.u64.wrap (bits BinOp.and IntKind.u64 (x : Int) 4294967295 * bits BinOp.and IntKind.u64 (y : Int) 4294967295) / 4294967296)) 4294967295 +
        IntKind.u64.wrap (bits BinOp.and IntKind.u64 (x : Int) 4294967295 * ((y : Int) / 4294967296))) / 4294967296) = ((x * y / 18446744073709551616 : Nat) : Int) := by
  rw [and_mask32 x hx, and_mask32 y hy]
  have hx1 : x / 4294967296 ≤ 4294967295 := by omega
  have hy1 : y / 4294967296 ≤ 4294967295 := by omega
  have hx0 : x % 4294967296 ≤ 4294967295 := by omega
  have hy0 : y % 4294967296 ≤ 4294967295 := by omega
  have e1 : (x : Int) / 4294967296 = ((x / 4294967296 : Nat) : Int) := rfl
  have e2 : (y : Int) / 4294967296 = ((y / 4294967296 : Nat) : Int) := rfl
  have ex : x * y = (x / 4294967296 * 4294967296 + x % 4294967296) * (y / 4294967296 * 4294967296 + y % 4294967296) := by
    rw [Nat.div_add_mod', Nat.div_add_mod']
  rw [ex, prod_eq, e1, e2]
  have bP := prod_bd hx1 hy1
  have bQ := prod_bd hx1 hy0
  have bR := prod_bd hx0 hy1
  have bW := prod_bd hx0 hy0
  simp only [← Int.natCast_mul]
  generalize x / 4294967296 * (y / 4294967296) = P at *
  generalize x / 4294967296 * (y % 4294967296) = Q at *
  generalize x % 4294967296 * (y / 4294967296) = R at *
  generalize x % 4294967296 * (y % 4294967296) = W at *
  rw [mul_hi P Q R W]
  clear ex e1 e2 hx1 hy1 hx0 hy0
  have ht : IntKind.u64.wrap (IntKind.u64.wrap (Q : Int) + IntKind.u64.wrap (W : Int) / 4294967296) = ((Q + W / 4294967296 : Nat) : Int) := by simp only [IntKind.wrap_u64]; omega
  rw [ht, and_mask32 _ (by omega)]
  have h1 : P + (Q + W / 4294967296) / 4294967296 + ((Q + W / 4294967296) % 4294967296 + R) / 4294967296 < 18446744073709551616 := by
    have := mul_hi P Q R W
    omega
  simp only [IntKind.wrap_u64]
  omega
theorem mul_lo_val (x y : Nat) : IntKind.u64.wrap ((x : Int) * (y : Int)) = ((x * y % 18446744073709551616 : Nat) : Int) := by
  rw [← Int.natCast_mul, IntKind.wrap_u64]; rfl
theorem ret_tup2 {k l : IntKind} {a b c d : Int} (h : a = b) (h' : c = d) : Ending.returned (.tuple #[.int k a, .int l c]) = .returned (.tuple #[.int k b, .int l d]) := by rw [h, h']
set_option maxHeartbeats 1000000 in
theorem mul64_any (x y : Nat) (hx : x < 18446744073709551616) (hy : y < 18446744073709551616) (w : World) :
    Calls Try.prog 63 #[.int .u64 x, .int .u64 y] w fun e w' => e = .returned (.tuple #[.int .u64 (x * y / 18446744073709551616 : Nat), .int .u64 (x * y % 18446744073709551616 : Nat)]) ∧ w = w' := by
  have HH := hide (mul_hi_val x y hx hy)
  have HL := hide (mul_lo_val x y)
  have hx' : (x : Int) < 18446744073709551616 := by omega
  have hy' : (y : Int) < 18446744073709551616 := by omega
  clear hx hy hx' hy'
  go_enter Try.func63, Try.ntmps63
  go_wp2
  go_ret2
  exact ⟨ret_tup2 HH.out HL.out, rfl⟩
def cmpI (x y : Int) : Int := if x < y then -1 else if y < x then 1 else 0
theorem size_any64 (n : Nat) (hn : n < 9223372036854775808) (w : World) : Calls Try.prog 64 #[.int .i64 n] w fun e w' => e = .returned (.int .u64 n) ∧ w = w' := by
  have h0 : ¬ ((n : Int) < 0) := by omega
  have h1 : IntKind.u64.wrap (n : Int) = (n : Int) := by rw [IntKind.wrap_u64]; omega
  go_enter Try.func64, Try.ntmps64
  go_wp2
  go_ret
  exact ⟨rfl, rfl⟩
@[reducible] def i128 (x : Nat) : Value := .agg #[.int .i64 ((x / 18446744073709551616 : Nat) : Int), .int .u64 ((x % 18446744073709551616 : Nat) : Int)]
theorem cmp128 (x y : Nat) : (if cmpI ((x / 18446744073709551616 : Nat) : Int) ((y / 18446744073709551616 : Nat) : Int) ≠ 0 then cmpI ((x / 18446744073709551616 : Nat) : Int) ((y / 18446744073709551616 : Nat) : Int) else cmpI ((x % 18446744073709551616 : Nat) : Int) ((y % 18446744073709551616 : Nat) : Int)) = cmpI (x : Int) (y : Int) := by
  unfold cmpI
  split <;> split <;> (try split) <;> (try split) <;> (try split) <;> omega
end Go.Proofs.Ytkbmgakehlmcnaa
namespace Go.Proofs.Ytkbmgakehlmcnaa
def ceilQ (x p : Nat) : Nat := if 0 < x % p then x / p + 1 else x / p
end Go.Proofs.Ytkbmgakehlmcnaa
namespace Go.Proofs.Ytkbmgakehlmcnaa
open Go.RowKit
set_option maxRecDepth 100000 in
set_option maxHeartbeats 4000000 in
theorem div64_lo (lo y : Nat) (hy : 0 < y) (hlo : lo < 18446744073709551616) (hy2 : y < 18446744073709551616) (w : World) :
    Calls Try.prog 65 #[.int .u64 0, .int .u64 (lo : Int), .int .u64 (y : Int)] w fun e w' => e = .returned (.tuple #[.int .u64 (lo / y : Nat), .int .u64 (lo % y : Nat)]) ∧ Ext w w' := by
  have y0 : ((y : Int) == 0) = false := by rw [beq_eq_false_iff_ne]; omega
  have y0' : (y : Int) ≠ 0 := by omega
  have y1 : ¬ (y : Int) ≤ (0 : Int) := by omega
  have hq : lo / y ≤ lo := Nat.div_le_self _ _
  have HQ : Hid (IntKind.u64.wrap ((lo : Int) / (y : Int)) = ((lo / y : Nat) : Int) ∧ (lo : Int) % (y : Int) = ((lo % y : Nat) : Int)) := hide ⟨by rw [show (lo : Int) / (y : Int) = ((lo / y : Nat) : Int) from rfl]; generalize lo / y = q at *; rw [IntKind.wrap_u64]; omega, rfl⟩
  clear hq
  go_enter Try.func65, Try.ntmps65
  go_wp2_with fail
  go_quiet (fail)
  go_wp2
  go_ret2
  exact ⟨ret_tup2 HQ.out.1 HQ.out.2, (by repeat' (first | (with_reducible first | exact Below.refl _ _ | assumption | refine below_drewN ?_ _ | refine Below.drew ?_ | refine ext_alloc ?_ _ | refine Below.setCell ?_ ?_ _) | go_size))⟩
theorem rounds_up (r p : Nat) (w : World) : Calls Try.prog 66 #[.int .i64 3, .bool false, .int .u64 (r : Int), .int .u64 (p : Int)] w fun e w' => e = .returned (.bool (decide (0 < r))) ∧ Ext w w' := by
  have HD : Hid (decide ((0 : Int) < (r : Int)) = decide (0 < r)) := hide (by rw [Bool.eq_iff_iff]; simp)
  go_enter Try.func66, Try.ntmps66
  go_wp2
  go_ret
  exact ⟨ret_bool (by first | rfl | exact HD.out | simp), (by repeat' (first | (with_reducible first | exact Below.refl _ _ | assumption | refine below_drewN ?_ _ | refine Below.drew ?_ | refine ext_alloc ?_ _ | refine Below.setCell ?_ ?_ _) | go_size))⟩
set_option maxRecDepth 100000 in
set_option maxHeartbeats 4000000 in
theorem scaled_up (n b p : Nat) (hn : n < 9223372036854775808) (hb : b < 9223372036854775808) (hp : 0 < p) (hp2 : p < 9223372036854775808) (hnb : n * b < 1000000000000000000) (w : World) :
    Calls Try.prog 37 #[.int .i64 (n : Int), .int .i64 (b : Int), .int .i64 (p : Int), .int .i64 3] w fun e w' => e = .returned (.int .i64 (ceilQ (n * b) p : Nat)) ∧ Ext w w' := by
  have HS := hide (fun (W : World) => size_any64 n hn W)
  have wb : IntKind.u64.wrap (b : Int) = (b : Int) := by rw [IntKind.wrap_u64]; omega
  have wp : IntKind.u64.wrap (p : Int) = (p : Int) := by rw [IntKind.wrap_u64]; omega
  have HM := hide (fun (W : World) => mul64_any n b (by omega) (by omega) W)
  have e1 : n * b / 18446744073709551616 = 0 := by omega
  have e2 : n * b % 18446744073709551616 = n * b := by omega
  rw [e1, e2] at HM
  have HD := hide (fun (W : World) => div64_lo (n * b) p hp (by omega) (by omega) W)
  have HR := hide (fun (W : World) => rounds_up (n * b % p) p W)
  have h0 : ¬ ((n : Int) < 0) := by omega
  have hq : n * b / p ≤ n * b := Nat.div_le_self _ _
  have HC : Hid ((ceilQ (n * b) p : Nat) = if 0 < n * b % p then n * b / p + 1 else n * b / p) := hide rfl
  generalize n * b / p = q at *
  generalize n * b % p = r at *
  generalize n * b = x at *
  have i0 : (0 : Int) < (p : Int) := by omega
  obtain ⟨qi, hqi⟩ : ∃ qi : Int, (q : Int) = qi := ⟨_, rfl⟩
  have hqb : 0 ≤ qi ∧ qi < 1000000000000000000 := by omega
  have HQI := hide hqi
  rw [hqi] at HD
  clear hqi hq
  have i2 : ¬ (1152921504606846976 : Int) < qi := by omega
  have i3 : ¬ (1152921504606846976 : Int) < qi + 1 := by omega
  have u1 : IntKind.u64.wrap (qi + 1) = qi + 1 := by rw [IntKind.wrap_u64]; omega
  have u2 : IntKind.i64.wrap (qi + 1) = qi + 1 := by rw [IntKind.wrap_i64]; omega
  have u3 : IntKind.i64.wrap qi = qi := by rw [IntKind.wrap_i64]; omega
  clear hn hb hp2 e1 e2 hnb
  go_enter Try.func37, Try.ntmps37
  go_wp2_with fail
  refine (HS.out _).mono ?_
  rintro e w1 ⟨rfl, rfl⟩
  go_wp2_with fail
  refine (HM.out _).mono ?_
  rintro e w2 ⟨rfl, rfl⟩
  go_wp2_with fail
  refine (HD.out _).mono ?_
  rintro e w3 ⟨rfl, e3⟩
  go_wp2_with fail
  refine (HR.out _).mono ?_
  rintro e w4 ⟨rfl, e4⟩
  have E4 := hide (Ext.trans e3 e4)
  clear e3 e4
  by_cases hr : 0 < r
  · have HV : Hid ((ceilQ x p : Nat) = q + 1) := hide (by rw [HC.out, if_pos hr])
    have g1 : decide (0 < r) = true := by simp; omega
    rw [g1]
    go_wp2
    go_ret
    exact ⟨ret_int (by rw [HV.out, ← HQI.out]; push_cast; rfl), E4.out⟩
  · have HV : Hid ((ceilQ x p : Nat) = q) := hide (by rw [HC.out, if_neg hr])
    have g1 : decide (0 < r) = false := by simp; omega
    rw [g1]
    go_wp2
    go_ret
    exact ⟨ret_int (by rw [HV.out, ← HQI.out]), E4.out⟩
theorem noscale_no {n : Int} (h : ¬ (n < 1 ∨ 1000000000 < n)) (w : World) : Calls Try.prog 35 #[.int .i64 n] w fun e w' => e = .returned (.bool false) ∧ w = w' := by
  have h1 : 1 ≤ n := by omega
  have h2 : n ≤ 1000000000 := by omega
  clear h
  go_enter Try.func35, Try.ntmps35
  go_wp2_with (first | ((go_at_call 14; with_reducible refine (out_no ⟨by omega, by omega⟩ _).mono ?_); rintro e w' ⟨rfl, rfl⟩))
  go_ret
  exact ⟨ret_bool rfl, rfl⟩
set_option maxRecDepth 100000 in
set_option maxHeartbeats 4000000 in
theorem convert_1 (w : World) : Calls Try.prog 17 #[.int .i64 1, .int .i64 3, .int .i64 2, .int .i64 3] w fun e w' => e = .returned (.tuple #[.int .i64 1, .int .i64 0]) ∧ Ext w w' := by
  have HT := hide (fun (W : World) => notime_no (n := 1) (by decide) W)
  have H3 := hide (fun (W : World) => noscale_no (n := 3) (by omega) W)
  have H2 := hide (fun (W : World) => noscale_no (n := 2) (by omega) W)
  have HO := hide (fun (W : World) => out_no (n := 3) (lo := 1) (hi := 3) (by omega) W)
  have HW : Hid (∀ W : World, Calls Try.prog 36 #[.int .i64 3] W fun e w' => e = .returned (.bool false) ∧ W = w') := hide (fun W => by
    go_enter Try.func36, Try.ntmps36
    go_wp2_with (first | ((go_at_call 14; with_reducible refine (HO.out _).mono ?_); rintro e w' ⟨rfl, rfl⟩))
    go_ret
    exact ⟨ret_bool rfl, rfl⟩)
  have HS : Hid (∀ W : World, Calls Try.prog 37 #[.int .i64 1, .int .i64 2, .int .i64 3, .int .i64 3] W fun e w' => e = .returned (.int .i64 1) ∧ Ext W w') := hide (fun W => scaled_up 1 2 3 (by omega) (by omega) (by omega) (by omega) (by omega) W)
  go_enter Try.func17, Try.ntmps17
  go_wp2_with (first | ((go_at_call 34; with_reducible refine (HT.out _).mono ?_); rintro e w' ⟨rfl, rfl⟩) | ((go_at_call 35; with_reducible refine (H3.out _).mono ?_); rintro e w' ⟨rfl, rfl⟩) | ((go_at_call 35; with_reducible refine (H2.out _).mono ?_); rintro e w' ⟨rfl, rfl⟩) | ((go_at_call 36; with_reducible refine (HW.out _).mono ?_); rintro e w' ⟨rfl, rfl⟩) | ((go_at_call 37; with_reducible refine (HS.out _).mono ?_); rintro e w3 ⟨rfl, e3⟩))
  go_ret2
  exact ⟨rfl, e3⟩
theorem alive_any (w : World) : Calls Try.prog 6 #[] w fun e w' => e = .returned (.bool true) ∧ Ext w w' := by
  have HC := hide (fun (W : World) => convert_1 W)
  go_enter Try.func6, Try.ntmps6
  go_wp2_with fail
  refine (HC.out _).mono ?_
  rintro e w1 ⟨rfl, e1⟩
  go_wp2
  go_ret
  exact ⟨rfl, e1⟩
end Go.Proofs.Ytkbmgakehlmcnaa
