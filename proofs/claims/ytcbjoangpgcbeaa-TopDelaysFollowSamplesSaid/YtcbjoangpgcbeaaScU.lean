/- Walks: wide.Scaled rounding up, at numbers whose product has less than 64 bits; tick.Convert at one place. Conditions as stated. -/
import Derived.Test.YtcbjoangpgcbeaaDivA
import Derived.Test.YtcbjoangpgcbeaaDelP
import Derived.Test.YtcbjoangpgcbeaaSmpA
namespace Go.Proofs.Ytcbjoangpgcbeaa
open Go.RowKit
set_option maxRecDepth 100000 in
set_option maxHeartbeats 4000000 in
theorem div64_lo (lo y : Nat) (hy : 0 < y) (hlo : lo < 18446744073709551616) (hy2 : y < 18446744073709551616) (w : World) :
    Calls Try.prog 23 #[.int .u64 0, .int .u64 (lo : Int), .int .u64 (y : Int)] w fun e w' => e = .returned (.tuple #[.int .u64 (lo / y : Nat), .int .u64 (lo % y : Nat)]) ∧ Ext w w' := by
  have y0 : ((y : Int) == 0) = false := by rw [beq_eq_false_iff_ne]; omega
  have y0' : (y : Int) ≠ 0 := by omega
  have y1 : ¬ (y : Int) ≤ (0 : Int) := by omega
  have hq : lo / y ≤ lo := Nat.div_le_self _ _
  have HQ : Hid (IntKind.u64.wrap ((lo : Int) / (y : Int)) = ((lo / y : Nat) : Int) ∧ (lo : Int) % (y : Int) = ((lo % y : Nat) : Int)) := hide ⟨by rw [show (lo : Int) / (y : Int) = ((lo / y : Nat) : Int) from rfl]; generalize lo / y = q at *; rw [IntKind.wrap_u64]; omega, rfl⟩
  clear hq
  go_enter Try.func23, Try.ntmps23
  go_wp2_with fail
  go_quiet (fail)
  go_wp2
  go_ret2
  exact ⟨ret_tup2 HQ.out.1 HQ.out.2, (by repeat' (first | (with_reducible exact Below.refl _ _) | (with_reducible assumption) | (with_reducible refine below_drewN ?_ _) | (with_reducible refine Below.drew ?_) | (with_reducible refine ext_alloc ?_ _) | (with_reducible refine Below.setCell ?_ ?_ _) | go_size))⟩
theorem rounds_up (r p : Nat) (w : World) : Calls Try.prog 24 #[.int .i64 3, .bool false, .int .u64 (r : Int), .int .u64 (p : Int)] w fun e w' => e = .returned (.bool (decide (0 < r))) ∧ Ext w w' := by
  have HD : Hid (decide ((0 : Int) < (r : Int)) = decide (0 < r)) := hide (by rw [Bool.eq_iff_iff]; simp)
  go_enter Try.func24, Try.ntmps24
  go_wp2
  go_ret
  exact ⟨ret_bool (by first | rfl | exact HD.out | simp), (by repeat' (first | (with_reducible exact Below.refl _ _) | (with_reducible assumption) | (with_reducible refine below_drewN ?_ _) | (with_reducible refine Below.drew ?_) | (with_reducible refine ext_alloc ?_ _) | (with_reducible refine Below.setCell ?_ ?_ _) | go_size))⟩
set_option maxRecDepth 100000 in
set_option maxHeartbeats 4000000 in
theorem scaled_up (n b p : Nat) (hn : n < 9223372036854775808) (hb : b < 9223372036854775808) (hp : 0 < p) (hp2 : p < 9223372036854775808) (hnb : n * b < 1000000000000000000) (w : World) :
    Calls Try.prog 19 #[.int .i64 (n : Int), .int .i64 (b : Int), .int .i64 (p : Int), .int .i64 3] w fun e w' => e = .returned (.int .i64 (ceilQ (n * b) p : Nat)) ∧ Ext w w' := by
  have HS := hide (fun (W : World) => size_any64 n hn W)
  have wb : IntKind.u64.wrap (b : Int) = (b : Int) := by rw [IntKind.wrap_u64]; omega
  have wp : IntKind.u64.wrap (p : Int) = (p : Int) := by rw [IntKind.wrap_u64]; omega
  have HM := hide (fun (W : World) => mul64_any n b (by omega) (by omega) W)
  have e1 : n * b / 18446744073709551616 = 0 := by omega
  have e2 : n * b % 18446744073709551616 = n * b := by omega
  rw [e1, e2] at HM
  have HD := hide (fun (W : World) => div64_lo (n * b) p hp (by omega) (by omega) W)
  have HR := hide (fun (W : World) => rounds_up (n * b % p) p W)
  have h0 : ¬ ((n : Int) < 0) := by omega
  have hq : n * b / p ≤ n * b := Nat.div_le_self _ _
  have HC : Hid ((ceilQ (n * b) p : Nat) = if 0 < n * b % p then n * b / p + 1 else n * b / p) := hide rfl
  generalize n * b / p = q at *
  generalize n * b % p = r at *
  generalize n * b = x at *
  have i0 : (0 : Int) < (p : Int) := by omega
  obtain ⟨qi, hqi⟩ : ∃ qi : Int, (q : Int) = qi := ⟨_, rfl⟩
  have hqb : 0 ≤ qi ∧ qi < 1000000000000000000 := by omega
  have HQI := hide hqi
  rw [hqi] at HD
  clear hqi hq
  have i2 : ¬ (1152921504606846976 : Int) < qi := by omega
  have i3 : ¬ (1152921504606846976 : Int) < qi + 1 := by omega
  have u1 : IntKind.u64.wrap (qi + 1) = qi + 1 := by rw [IntKind.wrap_u64]; omega
  have u2 : IntKind.i64.wrap (qi + 1) = qi + 1 := by rw [IntKind.wrap_i64]; omega
  have u3 : IntKind.i64.wrap qi = qi := by rw [IntKind.wrap_i64]; omega
  clear hn hb hp2 e1 e2 hnb
  go_enter Try.func19, Try.ntmps19
  go_wp2_with fail
  refine (HS.out _).mono ?_
  rintro e w1 ⟨rfl, rfl⟩
  go_wp2_with fail
  refine (HM.out _).mono ?_
  rintro e w2 ⟨rfl, rfl⟩
  go_wp2_with fail
  refine (HD.out _).mono ?_
  rintro e w3 ⟨rfl, e3⟩
  go_wp2_with fail
  refine (HR.out _).mono ?_
  rintro e w4 ⟨rfl, e4⟩
  have E4 := hide (Ext.trans e3 e4)
  clear e3 e4
  by_cases hr : 0 < r
  · have HV : Hid ((ceilQ x p : Nat) = q + 1) := hide (by rw [HC.out, if_pos hr])
    have g1 : decide (0 < r) = true := by simp; omega
    rw [g1]
    go_wp2
    go_ret
    exact ⟨ret_int (by rw [HV.out, ← HQI.out]; push_cast; rfl), E4.out⟩
  · have HV : Hid ((ceilQ x p : Nat) = q) := hide (by rw [HC.out, if_neg hr])
    have g1 : decide (0 < r) = false := by simp; omega
    rw [g1]
    go_wp2
    go_ret
    exact ⟨ret_int (by rw [HV.out, ← HQI.out]), E4.out⟩
/-- A scale. -/
theorem noscale_no {n : Int} (h : ¬ (n < 1 ∨ 1000000000 < n)) (w : World) : Calls Try.prog 18 #[.int .i64 n] w fun e w' => e = .returned (.bool false) ∧ w = w' := by
  have h1 : 1 ≤ n := by omega
  have h2 : n ≤ 1000000000 := by omega
  clear h
  go_enter Try.func18, Try.ntmps18
  go_wp2_with (first | ((go_at_call 10; with_reducible refine (out_no ⟨by omega, by omega⟩ _).mono ?_); rintro e w' ⟨rfl, rfl⟩))
  go_ret
  exact ⟨ret_bool rfl, rfl⟩
theorem noscale_yes {n : Int} (h : n < 1 ∨ 1000000000 < n) (w : World) : Calls Try.prog 18 #[.int .i64 n] w fun e w' => e = .returned (.bool true) ∧ w = w' := by
  have H := hide (fun (W : World) => out_yes (n := n) (lo := 1) (hi := 1000000000) h W)
  clear h
  go_enter Try.func18, Try.ntmps18
  go_wp2_with (first | ((go_at_call 10; with_reducible refine (H.out _).mono ?_); rintro e w' ⟨rfl, rfl⟩))
  go_ret
  exact ⟨ret_bool rfl, rfl⟩
set_option maxRecDepth 100000 in
set_option maxHeartbeats 4000000 in
theorem convert_1 (w : World) : Calls Try.prog 12 #[.int .i64 1, .int .i64 3, .int .i64 2, .int .i64 3] w fun e w' => e = .returned (.tuple #[.int .i64 1, .int .i64 0]) ∧ Ext w w' := by
  have HT := hide (fun (W : World) => notime_no (n := 1) (by decide) W)
  have H3 := hide (fun (W : World) => noscale_no (n := 3) (by omega) W)
  have H2 := hide (fun (W : World) => noscale_no (n := 2) (by omega) W)
  have HO := hide (fun (W : World) => out_no (n := 3) (lo := 1) (hi := 3) (by omega) W)
  have HW : Hid (∀ W : World, Calls Try.prog 20 #[.int .i64 3] W fun e w' => e = .returned (.bool false) ∧ W = w') := hide (fun W => by
    go_enter Try.func20, Try.ntmps20
    go_wp2_with (first | ((go_at_call 10; with_reducible refine (HO.out _).mono ?_); rintro e w' ⟨rfl, rfl⟩))
    go_ret
    exact ⟨ret_bool rfl, rfl⟩)
  have HS : Hid (∀ W : World, Calls Try.prog 19 #[.int .i64 1, .int .i64 2, .int .i64 3, .int .i64 3] W fun e w' => e = .returned (.int .i64 1) ∧ Ext W w') := hide (fun W => scaled_up 1 2 3 (by omega) (by omega) (by omega) (by omega) (by omega) W)
  go_enter Try.func12, Try.ntmps12
  go_wp2_with (first | ((go_at_call 15; with_reducible refine (HT.out _).mono ?_); rintro e w' ⟨rfl, rfl⟩) | ((go_at_call 18; with_reducible refine (H3.out _).mono ?_); rintro e w' ⟨rfl, rfl⟩) | ((go_at_call 18; with_reducible refine (H2.out _).mono ?_); rintro e w' ⟨rfl, rfl⟩) | ((go_at_call 20; with_reducible refine (HW.out _).mono ?_); rintro e w' ⟨rfl, rfl⟩) | ((go_at_call 19; with_reducible refine (HS.out _).mono ?_); rintro e w3 ⟨rfl, e3⟩))
  go_ret2
  exact ⟨rfl, e3⟩
theorem alive_any (w : World) : Calls Try.prog 5 #[] w fun e w' => e = .returned (.bool true) ∧ Ext w w' := by
  have HC := hide (fun (W : World) => convert_1 W)
  go_enter Try.func5, Try.ntmps5
  go_wp2_with fail
  refine (HC.out _).mono ?_
  rintro e w1 ⟨rfl, e1⟩
  go_wp2
  go_ret
  exact ⟨rfl, e1⟩
end Go.Proofs.Ytcbjoangpgcbeaa
