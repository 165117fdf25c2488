/- The mean rates of a film that is right do not become less. Plain. Conditions as stated. -/
import Derived.Test.YtajadgpkmommmaaOut
import Derived.Laws.BitsAllLaws
import Derived.Test.YtajadgpkmommmaaStep
import Derived.Test.YtajadgpkmommmaaTw
import Derived.Deep.DeepCutAuto
import Derived.Lib.BitFns
import Derived.Lib.Walk
import Derived.Lib.Tables
import Derived.Lib.ItoaNum
import Derived.Test.YtajadgpkmommmaaFilmG
import Derived.Test.YtajadgpkmommmaaFilmB
import Init
namespace Go.Proofs.Ytajadgpkmommmaa
open Go.RowKit

theorem and_mask32 (x : Nat) (hx : x < 18446744073709551616) : bits .and .u64 (x : Int) 4294967295 = ((x % 4294967296 : Nat) : Int) := by
  have h := u64_and_nat x 4294967295 hx (by omega)
  rw [show ((4294967295 : Nat) : Int) = 4294967295 from rfl] at h
  rw [h, show x &&& 4294967295 = x % 4294967296 from Nat.and_two_pow_sub_one_eq_mod x 32]
theorem prod_bd {a b : Nat} (ha : a ≤ 4294967295) (hb : b ≤ 4294967295) : a * b ≤ 18446744065119617025 := by
  have := Nat.mul_le_mul ha hb; omega
theorem prod_eq (x1 x0 y1 y0 : Nat) : (x1 * 4294967296 + x0) * (y1 * 4294967296 + y0) = x1 * y1 * 18446744073709551616 + (x1 * y0 + x0 * y1) * 4294967296 + x0 * y0 := by grind
/-- The high word. -/
theorem mul_hi (P Q R W : Nat) :
    (P * 18446744073709551616 + (Q + R) * 4294967296 + W) / 18446744073709551616 = P + (Q + W / 4294967296) / 4294967296 + ((Q + W / 4294967296) % 4294967296 + R) / 4294967296 := by omega
theorem mul_hi_val (x y : Nat) (hx : x < 18446744073709551616) (hy : y < 18446744073709551616) :
    IntKind.u64.wrap (IntKind.u64.wrap (IntKind.u64.wrap ((x : Int) / 4294967296 * ((y : Int) / 4294967296)) +
      IntKind.u64.wrap (IntKind.u64.wrap ((x : Int) / 4294967296 * bits BinOp.and IntKind.u64 (y : Int) 4294967295) + IntKind.u64.wrap (bits BinOp.and IntKind.u64 (x : Int) 4294967295 * bits BinOp.and IntKind.u64 (y : Int) 4294967295) / 4294967296) / 4294967296) +
      IntKind.u64.wrap (bits BinOp.and IntKind.u64 (IntKind.u64.wrap (IntKind.u64.wrap ((x : Int) / 4294967296 * bits BinOp.and IntKind.u64 (y : Int) 4294967295) + IntKind.u64.wrap (bits BinOp.and IntKind.u64 (x : Int) 4294967295 * bits BinOp.and IntKind.u64 (y : Int) 4294967295) / 4294967296)) 4294967295 +
        IntKind.u64.wrap (bits BinOp.and IntKind.u64 (x : Int) 4294967295 * ((y : Int) / 4294967296))) / 4294967296) = ((x * y / 18446744073709551616 : Nat) : Int) := by
  rw [and_mask32 x hx, and_mask32 y hy]
  have hx1 : x / 4294967296 ≤ 4294967295 := by omega
  have hy1 : y / 4294967296 ≤ 4294967295 := by omega
  have hx0 : x % 4294967296 ≤ 4294967295 := by omega
  have hy0 : y % 4294967296 ≤ 4294967295 := by omega
  have e1 : (x : Int) / 4294967296 = ((x / 4294967296 : Nat) : Int) := rfl
  have e2 : (y : Int) / 4294967296 = ((y / 4294967296 : Nat) : Int) := rfl
  have ex : x * y = (x / 4294967296 * 4294967296 + x % 4294967296) * (y / 4294967296 * 4294967296 + y % 4294967296) := by
    rw [Nat.div_add_mod', Nat.div_add_mod']
  rw [ex, prod_eq, e1, e2]
  have bP := prod_bd hx1 hy1
  have bQ := prod_bd hx1 hy0
  have bR := prod_bd hx0 hy1
  have bW := prod_bd hx0 hy0
  simp only [← Int.natCast_mul]
  generalize x / 4294967296 * (y / 4294967296) = P at *
  generalize x / 4294967296 * (y % 4294967296) = Q at *
  generalize x % 4294967296 * (y / 4294967296) = R at *
  generalize x % 4294967296 * (y % 4294967296) = W at *
  rw [mul_hi P Q R W]
  clear ex e1 e2 hx1 hy1 hx0 hy0
  have ht : IntKind.u64.wrap (IntKind.u64.wrap (Q : Int) + IntKind.u64.wrap (W : Int) / 4294967296) = ((Q + W / 4294967296 : Nat) : Int) := by simp only [IntKind.wrap_u64]; omega
  rw [ht, and_mask32 _ (by omega)]
  have h1 : P + (Q + W / 4294967296) / 4294967296 + ((Q + W / 4294967296) % 4294967296 + R) / 4294967296 < 18446744073709551616 := by
    have := mul_hi P Q R W
    omega
  simp only [IntKind.wrap_u64]
  omega
theorem mul_lo_val (x y : Nat) : IntKind.u64.wrap ((x : Int) * (y : Int)) = ((x * y % 18446744073709551616 : Nat) : Int) := by
  rw [← Int.natCast_mul, IntKind.wrap_u64]; rfl
theorem ret_tup2 {k l : IntKind} {a b c d : Int} (h : a = b) (h' : c = d) : Ending.returned (.tuple #[.int k a, .int l c]) = .returned (.tuple #[.int k b, .int l d]) := by rw [h, h']
set_option maxHeartbeats 1000000 in
theorem mul64_any (x y : Nat) (hx : x < 18446744073709551616) (hy : y < 18446744073709551616) (w : World) :
    Calls Try.prog 62 #[.int .u64 x, .int .u64 y] w fun e w' => e = .returned (.tuple #[.int .u64 (x * y / 18446744073709551616 : Nat), .int .u64 (x * y % 18446744073709551616 : Nat)]) ∧ w = w' := by
  have HH := hide (mul_hi_val x y hx hy)
  have HL := hide (mul_lo_val x y)
  have hx' : (x : Int) < 18446744073709551616 := by omega
  have hy' : (y : Int) < 18446744073709551616 := by omega
  clear hx hy hx' hy'
  go_enter Try.func62, Try.ntmps62
  go_wp2
  go_ret2
  exact ⟨ret_tup2 HH.out HL.out, rfl⟩
end Go.Proofs.Ytajadgpkmommmaa
namespace Go.Proofs.Ytajadgpkmommmaa
open Go.RowKit

/-- -1, 0 or 1. -/
def cmpI (x y : Int) : Int := if x < y then -1 else if y < x then 1 else 0
theorem isNaN_any (x : Int) (w : World) : Calls Try.prog 69 #[.int .i64 x] w fun e w' => e = .returned (.bool false) ∧ w = w' := by
  have i0 : (x != x) = false := by simp
  go_enter Try.func69, Try.ntmps69
  go_wp2_with fail
  go_ret
  exact ⟨rfl, rfl⟩
theorem isNaU_any (x : Int) (w : World) : Calls Try.prog 70 #[.int .u64 x] w fun e w' => e = .returned (.bool false) ∧ w = w' := by
  have i0 : (x != x) = false := by simp
  go_enter Try.func70, Try.ntmps70
  go_wp2_with fail
  go_ret
  exact ⟨rfl, rfl⟩
theorem cmpI_any (x y : Int) (w : World) : Calls Try.prog 65 #[.int .i64 x, .int .i64 y] w fun e w' => e = .returned (.int .i64 (cmpI x y)) ∧ w = w' := by
  have HN := hide (fun (z : Int) (W : World) => isNaN_any z W)
  have hv : cmpI x y = if x < y then -1 else if y < x then 1 else 0 := rfl
  generalize cmpI x y = v at *
  go_enter Try.func65, Try.ntmps65
  go_wp2_with fail
  refine (HN.out _ _).mono ?_
  rintro e w1 ⟨rfl, rfl⟩
  go_wp2_with fail
  refine (HN.out _ _).mono ?_
  rintro e w2 ⟨rfl, rfl⟩
  by_cases h1 : x < y
  · rw [if_pos h1] at hv
    go_wp2
    go_ret
    exact ⟨ret_int hv.symm, rfl⟩
  rw [if_neg h1] at hv
  by_cases h2 : y < x
  · rw [if_pos h2] at hv
    go_wp2
    go_ret
    exact ⟨ret_int hv.symm, rfl⟩
  rw [if_neg h2] at hv
  go_wp2
  go_ret
  exact ⟨ret_int hv.symm, rfl⟩
theorem cmpU_any (x y : Int) (w : World) : Calls Try.prog 66 #[.int .u64 x, .int .u64 y] w fun e w' => e = .returned (.int .i64 (cmpI x y)) ∧ w = w' := by
  have HN := hide (fun (z : Int) (W : World) => isNaU_any z W)
  have hv : cmpI x y = if x < y then -1 else if y < x then 1 else 0 := rfl
  generalize cmpI x y = v at *
  go_enter Try.func66, Try.ntmps66
  go_wp2_with fail
  refine (HN.out _ _).mono ?_
  rintro e w1 ⟨rfl, rfl⟩
  go_wp2_with fail
  refine (HN.out _ _).mono ?_
  rintro e w2 ⟨rfl, rfl⟩
  by_cases h1 : x < y
  · rw [if_pos h1] at hv
    go_wp2
    go_ret
    exact ⟨ret_int hv.symm, rfl⟩
  rw [if_neg h1] at hv
  by_cases h2 : y < x
  · rw [if_pos h2] at hv
    go_wp2
    go_ret
    exact ⟨ret_int hv.symm, rfl⟩
  rw [if_neg h2] at hv
  go_wp2
  go_ret
  exact ⟨ret_int hv.symm, rfl⟩
theorem size_any64 (n : Nat) (hn : n < 9223372036854775808) (w : World) : Calls Try.prog 63 #[.int .i64 n] w fun e w' => e = .returned (.int .u64 n) ∧ w = w' := by
  have h0 : ¬ ((n : Int) < 0) := by omega
  have h1 : IntKind.u64.wrap (n : Int) = (n : Int) := by rw [IntKind.wrap_u64]; omega
  go_enter Try.func63, Try.ntmps63
  go_wp2
  go_ret
  exact ⟨rfl, rfl⟩
/-- A number of 128 bits. -/
@[reducible] def i128 (x : Nat) : Value := .agg #[.int .i64 ((x / 18446744073709551616 : Nat) : Int), .int .u64 ((x % 18446744073709551616 : Nat) : Int)]
theorem times_any (a b : Nat) (ha : a < 9223372036854775808) (hb : b < 9223372036854775808) (w : World) : Calls Try.prog 57 #[.int .i64 a, .int .i64 b] w fun e w' => e = .returned (i128 (a * b)) ∧ Ext w w' := by
  have HS := hide (fun (n : Nat) hn (W : World) => size_any64 n hn W)
  have HM := hide (fun (W : World) => mul64_any a b (by omega) (by omega) W)
  have hp : a * b / 18446744073709551616 < 9223372036854775808 := by
    have h1 := Nat.mul_le_mul (show a ≤ 9223372036854775807 by omega) (show b ≤ 9223372036854775807 by omega)
    omega
  unfold i128
  generalize a * b / 18446744073709551616 = hi at *
  generalize a * b % 18446744073709551616 = lo at *
  have h0 : ¬ ((a : Int) < 0) := by omega
  have h1 : ¬ ((b : Int) < 0) := by omega
  have h2 : IntKind.i64.wrap (hi : Int) = (hi : Int) := by rw [IntKind.wrap_i64]; omega
  have ha' := hide ha
  have hb' := hide hb
  clear ha hb hp
  go_enter Try.func57, Try.ntmps57
  go_wp2_with fail
  refine (HS.out a ha'.out _).mono ?_
  rintro e w1 ⟨rfl, rfl⟩
  go_wp2_with fail
  refine (HS.out b hb'.out _).mono ?_
  rintro e w2 ⟨rfl, rfl⟩
  go_wp2_with fail
  refine (HM.out _).mono ?_
  rintro e w3 ⟨rfl, rfl⟩
  go_wp2_with fail
  refine gen_bod fun W9 h9 => ?_
  have B9 : Blk W9 w.heap.size 96 #[.int .i64 (hi : Int), .int .u64 (lo : Int)] := by rw [h9]; exact Blk.new _ _ _
  have k0 := B9.cell 0
  have k1 := B9.cell 1
  have X9 : Ext w W9 := by rw [h9]; exact (by repeat' (first | (with_reducible exact Below.refl _ _) | (with_reducible assumption) | (with_reducible refine below_drewN ?_ _) | (with_reducible refine Below.drew ?_) | (with_reducible refine ext_alloc ?_ _) | (with_reducible refine Below.setCell ?_ ?_ _) | go_size))
  clear h9
  exact bodyPost_ret (v := .agg #[.int .i64 (hi : Int), .int .u64 (lo : Int)]) (by simp [results, Try.results57, go_sem, k0, k1]) rfl ⟨rfl, X9⟩
theorem compare_any (a b c d : Int) (w : World) : Calls Try.prog 58 #[.agg #[.int .i64 a, .int .u64 b], .agg #[.int .i64 c, .int .u64 d]] w fun e w' => e = .returned (.int .i64 (if cmpI a c ≠ 0 then cmpI a c else cmpI b d)) ∧ Ext w w' := by
  have HI := hide (fun (x y : Int) (W : World) => cmpI_any x y W)
  have HU := hide (fun (x y : Int) (W : World) => cmpU_any x y W)
  obtain ⟨v, hv⟩ : ∃ v, v = if cmpI a c ≠ 0 then cmpI a c else cmpI b d := ⟨_, rfl⟩
  rw [← hv]
  generalize hx : cmpI a c = x at *
  generalize hy : cmpI b d = y at *
  have HXX := hide hx; have HYY := hide hy
  clear hx hy
  go_enter Try.func58, Try.ntmps58
  go_wp2_with fail
  refine (HI.out _ _ _).mono ?_
  rintro e w1 ⟨rfl, rfl⟩
  first | rw [HXX.out] | skip
  by_cases h0 : x = 0
  · have e0 : (x != 0) = false := by simp [h0]
    rw [if_neg (by rw [h0]; decide)] at hv
    clear h0
    go_wp2_with fail
    refine (HU.out _ _ _).mono ?_
    rintro e w2 ⟨rfl, rfl⟩
    first | rw [HYY.out] | skip
    go_wp2_with fail
    go_ret
    exact ⟨ret_int hv.symm, (by repeat' (first | (with_reducible exact Below.refl _ _) | (with_reducible assumption) | (with_reducible refine below_drewN ?_ _) | (with_reducible refine Below.drew ?_) | (with_reducible refine ext_alloc ?_ _) | (with_reducible refine Below.setCell ?_ ?_ _) | go_size))⟩
  · have e0 : (x != 0) = true := by simp [h0]
    rw [if_pos h0] at hv
    clear h0
    go_wp2_with fail
    go_ret
    exact ⟨ret_int hv.symm, (by repeat' (first | (with_reducible exact Below.refl _ _) | (with_reducible assumption) | (with_reducible refine below_drewN ?_ _) | (with_reducible refine Below.drew ?_) | (with_reducible refine ext_alloc ?_ _) | (with_reducible refine Below.setCell ?_ ?_ _) | go_size))⟩
/-- What compares two products: below 1 just if the first one is not greater. -/
theorem cmp128 (x y : Nat) : (if cmpI ((x / 18446744073709551616 : Nat) : Int) ((y / 18446744073709551616 : Nat) : Int) ≠ 0 then cmpI ((x / 18446744073709551616 : Nat) : Int) ((y / 18446744073709551616 : Nat) : Int) else cmpI ((x % 18446744073709551616 : Nat) : Int) ((y % 18446744073709551616 : Nat) : Int)) = cmpI (x : Int) (y : Int) := by
  unfold cmpI
  split <;> split <;> (try split) <;> (try split) <;> (try split) <;> omega
end Go.Proofs.Ytajadgpkmommmaa
namespace Go.Proofs.Ytajadgpkmommmaa
open Go.RowKit

set_option maxRecDepth 100000 in
theorem len8tab_size : (Lib.len8tab.size : Int) = 256 := by
  have : Lib.len8tab.size = 256 := by decide
  omega
/-- THE LAST STEP OF EACH OF THE EIGHT WAYS, PROVED ONCE, OUTSIDE: 'omega' on it INSIDE the way's context (a chain of divisions by great numbers) took 25 s a way and gigabytes. -/
theorem wrap_add (k a b : Nat) (hk : k ≤ 56) (ha : a ≤ 8) (hb : b = k + a) : wrap64 ((k : Int) + wrap64 (a : Int)) = (b : Int) := by
  unfold wrap64
  omega
theorem wrap_wrap (a : Nat) (ha : a ≤ 8) : wrap64 (wrap64 (a : Int)) = (a : Int) := by
  unfold wrap64
  omega
theorem wrap_one (a : Nat) (ha : a ≤ 8) : wrap64 (a : Int) = (a : Int) := by
  unfold wrap64
  omega
/-- The table's byte, as an index's plain meaning reads it, IS the shelf's 'Lib.len8'. -/
theorem len8_get (y : Int) (h : y.toNat < Lib.len8tab.size) : ((Lib.len8tab[y.toNat]'h).toNat : Int) = Lib.len8 y := by
  unfold Lib.len8
  rw [getElem?_pos Lib.len8tab y.toNat h]
  rfl

set_option maxRecDepth 1000000 in
set_option maxHeartbeats 8000000 in
theorem len64_any (x : Int) (w : World) (h0 : 0 ≤ x) (h1 : x ≤ 18446744073709551615) :
    Calls Try.prog 75 #[.int .u64 x] w fun e w' => e = .returned (.int .i64 (Lib.bitLen x.toNat)) ∧ w' = w := by
  go_enter Try.func75, Try.ntmps75
  go_wp2
  all_goals first
    | (go_ret; refine ⟨congrArg Ending.returned (congrArg (Value.int IntKind.i64) ?_), rfl⟩)
    | (exfalso
       have hs := len8tab_size
       omega)
  all_goals first
    | (rw [len8_get (x / 4294967296 / 65536 / 256) _, Lib.len8_of (x / 4294967296 / 65536 / 256) (by omega) (by omega)]
       have e : (x / 4294967296 / 65536 / 256).toNat = x.toNat / 72057594037927936 := by omega
       have l := Lib.bitLen_le8' (x / 4294967296 / 65536 / 256) (by omega) (by omega)
       have s := Lib.bitLen_shift56 x.toNat (by omega) (by omega)
       rw [e] at l ⊢
       exact wrap_add 56 _ _ (by decide) l s)
    | (rw [len8_get (x / 4294967296 / 65536) _, Lib.len8_of (x / 4294967296 / 65536) (by omega) (by omega)]
       have e : (x / 4294967296 / 65536).toNat = x.toNat / 281474976710656 := by omega
       have l := Lib.bitLen_le8' (x / 4294967296 / 65536) (by omega) (by omega)
       have s := Lib.bitLen_shift48 x.toNat (by omega) (by omega)
       rw [e] at l ⊢
       exact wrap_add 48 _ _ (by decide) l s)
    | (rw [len8_get (x / 4294967296 / 256) _, Lib.len8_of (x / 4294967296 / 256) (by omega) (by omega)]
       have e : (x / 4294967296 / 256).toNat = x.toNat / 1099511627776 := by omega
       have l := Lib.bitLen_le8' (x / 4294967296 / 256) (by omega) (by omega)
       have s := Lib.bitLen_shift40 x.toNat (by omega) (by omega)
       rw [e] at l ⊢
       exact wrap_add 40 _ _ (by decide) l s)
    | (rw [len8_get (x / 4294967296) _, Lib.len8_of (x / 4294967296) (by omega) (by omega)]
       have e : (x / 4294967296).toNat = x.toNat / 4294967296 := by omega
       have l := Lib.bitLen_le8' (x / 4294967296) (by omega) (by omega)
       have s := Lib.bitLen_shift32 x.toNat (by omega) (by omega)
       rw [e] at l ⊢
       exact wrap_add 32 _ _ (by decide) l s)
    | (rw [len8_get (x / 65536 / 256) _, Lib.len8_of (x / 65536 / 256) (by omega) (by omega)]
       have e : (x / 65536 / 256).toNat = x.toNat / 16777216 := by omega
       have l := Lib.bitLen_le8' (x / 65536 / 256) (by omega) (by omega)
       have s := Lib.bitLen_shift24 x.toNat (by omega) (by omega)
       rw [e] at l ⊢
       exact wrap_add 24 _ _ (by decide) l s)
    | (rw [len8_get (x / 65536) _, Lib.len8_of (x / 65536) (by omega) (by omega)]
       have e : (x / 65536).toNat = x.toNat / 65536 := by omega
       have l := Lib.bitLen_le8' (x / 65536) (by omega) (by omega)
       have s := Lib.bitLen_shift16 x.toNat (by omega) (by omega)
       rw [e] at l ⊢
       exact wrap_add 16 _ _ (by decide) l s)
    | (rw [len8_get (x / 256) _, Lib.len8_of (x / 256) (by omega) (by omega)]
       have e : (x / 256).toNat = x.toNat / 256 := by omega
       have l := Lib.bitLen_le8' (x / 256) (by omega) (by omega)
       have s := Lib.bitLen_shift8 x.toNat (by omega) (by omega)
       rw [e] at l ⊢
       exact wrap_add 8 _ _ (by decide) l s)
    | (rw [len8_get (x) _, Lib.len8_of (x) (by omega) (by omega)]
       have e : (x).toNat = x.toNat := by omega
       have l := Lib.bitLen_le8' (x) (by omega) (by omega)
       rw [e] at l ⊢
       first | exact wrap_wrap _ l | exact wrap_add 0 _ _ (by decide) l (by omega) | exact wrap_one _ l)

theorem leading_any (y : Nat) (w : World) (h1 : y < 18446744073709551616) :
    Calls Try.prog 74 #[.int .u64 (y : Int)] w fun e w' => e = .returned (.int .i64 ((64 - Lib.bitLen y : Nat) : Int)) ∧ w' = w := by
  have HL := hide (fun (W : World) => len64_any (y : Int) W (by omega) (by omega))
  rw [Int.toNat_natCast] at HL
  have hb := Lib.bitLen_le y 64 (Nat.le_refl _) (by rw [show (2 : Nat) ^ 64 = 18446744073709551616 from rfl]; exact h1)
  generalize Lib.bitLen y = b at *
  have hw : IntKind.i64.wrap (64 - (b : Int)) = ((64 - b : Nat) : Int) := by rw [IntKind.wrap_i64]; omega
  clear h1
  go_enter Try.func74, Try.ntmps74
  go_wp2_with fail
  refine (HL.out _).mono ?_
  rintro e w1 ⟨rfl, rfl⟩
  go_wp2_with fail
  go_ret
  exact ⟨ret_int (by first | exact hw | omega), rfl⟩
theorem norm_bd {y : Nat} (h0 : y ≠ 0) (h1 : y < 18446744073709551616) : 9223372036854775808 ≤ y * 2 ^ (64 - Lib.bitLen y) ∧ y * 2 ^ (64 - Lib.bitLen y) < 18446744073709551616 ∧ Lib.bitLen y ≤ 64 := by
  obtain ⟨b1, b2, b3⟩ := Lib.bitLenAux_bounds 64 y (by rw [show (2 : Nat) ^ 64 = 18446744073709551616 from rfl]; exact h1) h0
  have hb := Lib.bitLen_le y 64 (Nat.le_refl _) (by rw [show (2 : Nat) ^ 64 = 18446744073709551616 from rfl]; exact h1)
  change 1 ≤ Lib.bitLen y at b1
  change 2 ^ (Lib.bitLen y - 1) ≤ y at b2
  change y < 2 ^ Lib.bitLen y at b3
  generalize Lib.bitLen y = b at *
  have e1 : 2 ^ (b - 1) * 2 ^ (64 - b) = (9223372036854775808 : Nat) := by rw [← Nat.pow_add, show b - 1 + (64 - b) = 63 by omega]
  have e2 : 2 ^ b * 2 ^ (64 - b) = (18446744073709551616 : Nat) := by rw [← Nat.pow_add, show b + (64 - b) = 64 by omega]
  have m1 := Nat.mul_le_mul_right (2 ^ (64 - b)) b2
  have m2 := Nat.mul_lt_mul_of_pos_right b3 (Nat.two_pow_pos (64 - b))
  omega
/-- How far the loops have to go. -/
def divM (r : Int) : Nat := if 0 ≤ r ∧ r < 4294967296 then (4294967296 - r).toNat else 8589934592
theorem divM_less {r d : Int} (hd : 2147483648 ≤ d ∧ d < 4294967296) (h : ¬ 4294967296 ≤ IntKind.u64.wrap (r + d)) : divM (IntKind.u64.wrap (r + d)) < divM r := by
  rw [IntKind.wrap_u64] at h ⊢
  unfold divM
  split <;> split <;> omega
set_option maxRecDepth 100000 in
set_option maxHeartbeats 4000000 in
theorem div64_some (hi lo y : Nat) (hy : hi < y) (hy2 : y < 18446744073709551616) (w : World) :
    Calls Try.prog 72 #[.int .u64 (hi : Int), .int .u64 (lo : Int), .int .u64 (y : Int)] w fun e w' => (∃ q r : Int, e = .returned (.tuple #[.int .u64 q, .int .u64 r])) ∧ Ext w w' := by
  have HL := hide (fun (W : World) => leading_any y W hy2)
  obtain ⟨n1, n2, n3⟩ := norm_bd (y := y) (by omega) hy2
  have hs : 64 - Lib.bitLen y ≤ 64 := by omega
  generalize 64 - Lib.bitLen y = s at *
  have y0 : ((y : Int) == 0) = false := by rw [beq_eq_false_iff_ne]; omega
  have y0' : (y : Int) ≠ 0 := by omega
  have y1 : ¬ (y : Int) ≤ (hi : Int) := by omega
  by_cases h0 : hi = 0
  · subst h0
    clear hs n1 n2 n3 HL
    go_enter Try.func72, Try.ntmps72
    go_wp2_with fail
    go_quiet (fail)
    go_wp2
    go_ret2
    exact ⟨⟨_, _, rfl⟩, (by repeat' (first | (with_reducible exact Below.refl _ _) | (with_reducible assumption) | (with_reducible refine below_drewN ?_ _) | (with_reducible refine Below.drew ?_) | (with_reducible refine ext_alloc ?_ _) | (with_reducible refine Below.setCell ?_ ?_ _) | go_size))⟩
  · have h0' : ((hi : Int) == 0) = false := by rw [beq_eq_false_iff_ne]; omega
    have hw : IntKind.u64.wrap ((y : Int) * 2 ^ s) = ((y * 2 ^ s : Nat) : Int) := by
      rw [Int.natCast_mul, Int.natCast_pow, IntKind.wrap_u64]
      have e : ((y : Int) * ((2 : Nat) : Int) ^ s) = ((y * 2 ^ s : Nat) : Int) := by rw [Int.natCast_mul, Int.natCast_pow]
      rw [show ((2 : Int)) = ((2 : Nat) : Int) from rfl, e]
      omega
    generalize y * 2 ^ s = yn at *
    have hd : (yn : Int) / 4294967296 = ((yn / 4294967296 : Nat) : Int) := rfl
    have hdb : 2147483648 ≤ yn / 4294967296 ∧ yn / 4294967296 < 4294967296 := by omega
    generalize yn / 4294967296 = d at *
    have d0' : (d : Int) ≠ 0 := by omega
    have d1' : ((d : Int) == 0) = false := by rw [beq_eq_false_iff_ne]; omega
    have hdd : (2147483648 : Int) ≤ (d : Int) ∧ (d : Int) < 4294967296 := by omega
    clear h0 n1 n2 n3 hdb
    go_enter Try.func72, Try.ntmps72
    go_wp2_with fail
    refine (HL.out _).mono ?_
    rintro e w1 ⟨rfl, rfl⟩
    go_wp2_with fail
    go_loopw [15, 16] (fun rq rr wr => ∃ q r : Int, rq = .int .u64 q ∧ rr = .int .u64 r ∧ wr = w1) (fun _ rr _ => divM (intOf rr))
    case atStart => exact ⟨_, _, rfl, rfl, rfl⟩
    case round =>
      obtain ⟨q, r, rfl, rfl, rfl⟩ := hrel
      by_cases hb : 4294967296 ≤ IntKind.u64.wrap (r + (d : Int)) <;> by_cases hq : 4294967296 ≤ q <;> go_wp2_with fail
      all_goals first
        | (refine ⟨⟨_, _, rfl, rfl, trivial⟩, ?_⟩; simp only [intOf]; exact divM_less ⟨by omega, by omega⟩ (by omega))
        | (go_loopw [18, 16] (fun rq rr wx => ∃ q r : Int, rq = .int .u64 q ∧ rr = .int .u64 r ∧ wx = wr) (fun _ rr _ => divM (intOf rr))
           case atStart => exact ⟨_, _, rfl, rfl, rfl⟩
           case round =>
             obtain ⟨q', r', rfl, rfl, rfl⟩ := hrel
             by_cases hb' : 4294967296 ≤ IntKind.u64.wrap (r' + (d : Int)) <;> by_cases hq' : 4294967296 ≤ q' <;> go_wp2_with fail
             all_goals first
               | (refine ⟨⟨_, _, rfl, rfl, trivial⟩, ?_⟩; simp only [intOf]; exact divM_less ⟨by omega, by omega⟩ (by omega))
               | (go_ret2; exact ⟨⟨_, _, rfl⟩, Ext.refl _⟩)
               | (go_wp2; go_ret2; exact ⟨⟨_, _, rfl⟩, (by repeat' (first | (with_reducible exact Below.refl _ _) | (with_reducible assumption) | (with_reducible refine below_drewN ?_ _) | (with_reducible refine Below.drew ?_) | (with_reducible refine ext_alloc ?_ _) | (with_reducible refine Below.setCell ?_ ?_ _) | go_size))⟩)
               | (simp only [intOf]; exact divM_less ⟨by omega, by omega⟩ (by omega)))
end Go.Proofs.Ytajadgpkmommmaa
namespace Go.Proofs.Ytajadgpkmommmaa
open Go.RowKit

theorem rounds_some (wy r p : Int) (w : World) : Calls Try.prog 73 #[.int .i64 wy, .bool false, .int .u64 r, .int .u64 p] w fun e w' => (∃ b : Bool, e = .returned (.bool b)) ∧ Ext w w' := by
  by_cases h1 : wy = 1
  · have e1 : (wy == 1) = true := by simp [h1]
    clear h1
    go_enter Try.func73, Try.ntmps73
    go_wp2
    all_goals (go_ret; exact ⟨⟨_, rfl⟩, (by repeat' (first | (with_reducible exact Below.refl _ _) | (with_reducible assumption) | (with_reducible refine below_drewN ?_ _) | (with_reducible refine Below.drew ?_) | (with_reducible refine ext_alloc ?_ _) | (with_reducible refine Below.setCell ?_ ?_ _) | go_size))⟩)
  have e1 : (wy == 1) = false := by simp [h1]
  by_cases h3 : wy = 3
  · have e3 : (wy == 3) = true := by simp [h3]
    clear h1 h3
    go_enter Try.func73, Try.ntmps73
    go_wp2
    all_goals (go_ret; exact ⟨⟨_, rfl⟩, (by repeat' (first | (with_reducible exact Below.refl _ _) | (with_reducible assumption) | (with_reducible refine below_drewN ?_ _) | (with_reducible refine Below.drew ?_) | (with_reducible refine ext_alloc ?_ _) | (with_reducible refine Below.setCell ?_ ?_ _) | go_size))⟩)
  have e3 : (wy == 3) = false := by simp [h3]
  clear h1 h3
  go_enter Try.func73, Try.ntmps73
  go_wp2
  all_goals (go_ret; exact ⟨⟨_, rfl⟩, (by repeat' (first | (with_reducible exact Below.refl _ _) | (with_reducible assumption) | (with_reducible refine below_drewN ?_ _) | (with_reducible refine Below.drew ?_) | (with_reducible refine ext_alloc ?_ _) | (with_reducible refine Below.setCell ?_ ?_ _) | go_size))⟩)
set_option maxRecDepth 100000 in
set_option maxHeartbeats 4000000 in
theorem scaled_some (n : Nat) (hn : n < 9223372036854775808) (b p wy : Int) (w : World) : Calls Try.prog 71 #[.int .i64 (n : Int), .int .i64 b, .int .i64 p, .int .i64 wy] w fun e w' => (∃ q : Int, e = .returned (.int .i64 q)) ∧ Ext w w' := by
  have HS := hide (fun (W : World) => size_any64 n hn W)
  obtain ⟨bn, hb, hb2⟩ : ∃ bn : Nat, IntKind.u64.wrap b = (bn : Int) ∧ bn < 18446744073709551616 := ⟨(IntKind.u64.wrap b).toNat, by rw [IntKind.wrap_u64]; omega, by rw [IntKind.wrap_u64]; omega⟩
  obtain ⟨pn, hp, hp2⟩ : ∃ pn : Nat, IntKind.u64.wrap p = (pn : Int) ∧ pn < 18446744073709551616 := ⟨(IntKind.u64.wrap p).toNat, by rw [IntKind.wrap_u64]; omega, by rw [IntKind.wrap_u64]; omega⟩
  have HM := hide (fun (W : World) => mul64_any n bn (by omega) hb2 W)
  generalize n * bn / 18446744073709551616 = hi at *
  generalize n * bn % 18446744073709551616 = lo at *
  have HD := hide (fun (h : hi < pn) (W : World) => div64_some hi lo pn h hp2 W)
  have HR := hide (fun (r : Int) (W : World) => rounds_some wy r (pn : Int) W)
  have h0 : ¬ ((n : Int) < 0) := by omega
  clear hn hb2 hp2
  have fin : ∀ (q r : Int) (W : World), True := fun _ _ _ => trivial
  clear fin
  go_enter Try.func71, Try.ntmps71
  go_wp2_with fail
  refine (HS.out _).mono ?_
  rintro e w1 ⟨rfl, rfl⟩
  go_wp2_with fail
  refine (HM.out _).mono ?_
  rintro e w2 ⟨rfl, rfl⟩
  by_cases hlt : hi < pn
  · have i0 : (hi : Int) < (pn : Int) := by omega
    go_wp2_with fail
    refine (HD.out hlt _).mono ?_
    rintro e w3 ⟨⟨q, r, rfl⟩, e3⟩
    go_wp2_with fail
    refine (HR.out _ _).mono ?_
    rintro e w4 ⟨⟨bb, rfl⟩, e4⟩
    have E4 := hide (Ext.trans e3 e4)
    clear e3 e4
    cases bb
    · by_cases hq : 1152921504606846976 < q <;> go_wp2
      all_goals (go_ret; exact ⟨⟨_, rfl⟩, E4.out⟩)
    · by_cases hq : 1152921504606846976 < IntKind.u64.wrap (q + 1) <;> go_wp2
      all_goals (go_ret; exact ⟨⟨_, rfl⟩, E4.out⟩)
  · have i0 : ¬ (hi : Int) < (pn : Int) := by omega
    go_wp2_with fail
    refine (HR.out _ _).mono ?_
    rintro e w4 ⟨⟨bb, rfl⟩, e4⟩
    cases bb
    · go_wp2
      all_goals (go_ret; exact ⟨⟨_, rfl⟩, e4⟩)
    · go_wp2
      all_goals (go_ret; exact ⟨⟨_, rfl⟩, e4⟩)
end Go.Proofs.Ytajadgpkmommmaa
namespace Go.Proofs.Ytajadgpkmommmaa
open Go.RowKit
section
variable {lA : Option Addr} {ln lc : Nat} {sA : Option Addr} {sn sc : Nat} {qA : Option Addr} {qn qc : Nat} {L : List Int} {S : List (List Int)} {Q : List Int} {d0 s0 r0 f0 i0 k0 l0 t0 lo0 hi0 a0 x0 y0 z0 : Int} {nx tm bu bf : Int} {ldA : Option Addr} {ldn ldc : Nat} {w : World} {G : Nat} {en bi lg : Int}
set_option maxRecDepth 1000000 in
set_option maxHeartbeats 8000000 in
theorem takes_some {be fi : Int} {fo : Bool} {z : Int} (hz : 0 ≤ z ∧ z ≤ 1000000000) (hB : Blk w G 101 #[.slice lA ln lc, .slice sA sn sc, .slice qA qn qc, .int .i64 d0, .int .i64 s0, .int .i64 r0, .int .i64 f0, .int .i64 i0, .int .i64 k0, .int .i64 l0, .int .i64 t0, .int .i64 lo0, .int .i64 hi0, .int .i64 a0, .int .i64 x0, .int .i64 y0, .int .i64 z0, .int .i64 nx, .int .i64 en, .int .i64 bi, .int .i64 lg, .int .i64 be, .int .i64 fi, .bool fo]) :
    Calls Try.prog 67 #[.pointer (some ⟨G, 0, none⟩), .int .i64 z] w fun e w' => (∃ q : Int, e = .returned (.int .i64 q)) ∧ Ext w w' := by
  obtain ⟨hz1, hz2⟩ := hz
  have c3 : w.cell? ⟨G, 3, none⟩ = some (.int .i64 d0) := hB.cell 3
  have c10 : w.cell? ⟨G, 10, none⟩ = some (.int .i64 t0) := hB.cell 10
  have c19 : w.cell? ⟨G, 19, none⟩ = some (.int .i64 bi) := hB.cell 19
  have c20 : w.cell? ⟨G, 20, none⟩ = some (.int .i64 lg) := hB.cell 20
  have hz3 : IntKind.i64.wrap (1000 * z) = 1000 * z := by rw [IntKind.wrap_i64]; omega
  have HS := hide (fun (W : World) (p : Int) => scaled_some (1000 * z).toNat (by omega) lg p 3 W)
  rw [Int.toNat_of_nonneg (by omega)] at HS
  by_cases h1 : bi = 0
  · have e1 : (bi == 0) = true := by simp [h1]
    clear h1
    go_enter Try.func67, Try.ntmps67
    go_wp2
    go_ret
    exact ⟨⟨_, rfl⟩, Ext.refl _⟩
  have e1 : (bi == 0) = false := by simp [h1]
  by_cases h2 : lg = 0
  · have e2 : (lg == 0) = true := by simp [h2]
    clear h1 h2
    go_enter Try.func67, Try.ntmps67
    go_wp2
    go_ret
    exact ⟨⟨_, rfl⟩, Ext.refl _⟩
  have e2 : (lg == 0) = false := by simp [h2]
  clear h1 h2 hB
  go_enter Try.func67, Try.ntmps67
  go_wp2_with fail
  have EX := Ext.drew w
  go_region_held3 (fun w' => w'.cell? ⟨G, 3, none⟩ = some (.int .i64 d0) ∧ w'.cell? ⟨G, 10, none⟩ = some (.int .i64 t0) ∧ w'.cell? ⟨G, 19, none⟩ = some (.int .i64 bi) ∧ w'.cell? ⟨G, 20, none⟩ = some (.int .i64 lg)) (first | exact ⟨EX.cell c3, EX.cell c10, EX.cell c19, EX.cell c20⟩ | go_keep) (first | ((go_at_call 71; with_reducible refine (HS.out _ _).mono ?_); rintro e w2 ⟨⟨q, rfl⟩, e2⟩; have EX := Ext.trans EX e2))
  all_goals (go_wp2; go_ret; exact ⟨⟨_, rfl⟩, EX⟩)
/-- What from gives. -/
def FrmGives (w : World) (G : Nat) (lA : Option Addr) (ln lc : Nat) (sA : Option Addr) (sn sc : Nat) (qA : Option Addr) (qn qc : Nat) (d0 s0 r0 f0 i0 k0 l0 t0 lo0 hi0 a0 x0 y0 z0 nx en bi lg : Int) (e : Ending) (w' : World) : Prop :=
  e = .returned (.tuple #[]) ∧ Ext w w' ∧ ∃ (be : Int) (fi : Nat) (fo : Bool), fi < sn ∧ Blk w' G 101 #[.slice lA ln lc, .slice sA sn sc, .slice qA qn qc, .int .i64 d0, .int .i64 s0, .int .i64 r0, .int .i64 f0, .int .i64 i0, .int .i64 k0, .int .i64 l0, .int .i64 t0, .int .i64 lo0, .int .i64 hi0, .int .i64 a0, .int .i64 x0, .int .i64 y0, .int .i64 z0, .int .i64 nx, .int .i64 en, .int .i64 bi, .int .i64 lg, .int .i64 be, .int .i64 (fi : Int), .bool fo]
set_option maxRecDepth 1000000 in
set_option maxHeartbeats 16000000 in
theorem from_zero {eN : Nat} (hG : w.heap.size ≤ G) (hen : en = (eN : Int)) {n f : Nat} {b x v : Int} {W : World} {be : Int} {fi : Nat} {fo : Bool} (hn : n = eN) (hf : f < sn) (hfi : fi < sn) (hX : Ext w W) (hB : Blk W G 101 #[.slice lA ln lc, .slice sA sn sc, .slice qA qn qc, .int .i64 d0, .int .i64 s0, .int .i64 r0, .int .i64 f0, .int .i64 i0, .int .i64 k0, .int .i64 l0, .int .i64 t0, .int .i64 lo0, .int .i64 hi0, .int .i64 a0, .int .i64 x0, .int .i64 y0, .int .i64 z0, .int .i64 nx, .int .i64 en, .int .i64 bi, .int .i64 lg, .int .i64 be, .int .i64 (fi : Int), .bool fo]) :
    Calls Try.prog 59 #[.pointer (some ⟨G, 0, none⟩), .int .i64 (n : Int), .int .i64 b, .int .i64 x, .int .i64 v, .int .i64 (f : Int)] W (FrmGives w G lA ln lc sA sn sc qA qn qc d0 s0 r0 f0 i0 k0 l0 t0 lo0 hi0 a0 x0 y0 z0 nx en bi lg) := by
  have hnE : (n : Int) = en := by omega
  have e0 : ((n : Int) == en) = true := by simp [hnE]
  have c18 : W.cell? ⟨G, 18, none⟩ = some (.int .i64 en) := hB.cell 18
  have c21 : W.cell? ⟨G, 21, none⟩ = some (.int .i64 be) := hB.cell 21
  have c22 : W.cell? ⟨G, 22, none⟩ = some (.int .i64 (fi : Int)) := hB.cell 22
  have c23 : W.cell? ⟨G, 23, none⟩ = some (.bool fo) := hB.cell 23
  have f21 := hB.frozen 21
  have f22 := hB.frozen 22
  have f23 := hB.frozen 23
  have HB := hide hB
  have HX := hide hX
  have fin : ∀ W', W' = ((W.setCell ⟨G, 21, none⟩ (.int .i64 v)).setCell ⟨G, 22, none⟩ (.int .i64 (f : Int))).setCell ⟨G, 23, none⟩ (.bool true) → Ext w W' ∧ Blk W' G 101 #[.slice lA ln lc, .slice sA sn sc, .slice qA qn qc, .int .i64 d0, .int .i64 s0, .int .i64 r0, .int .i64 f0, .int .i64 i0, .int .i64 k0, .int .i64 l0, .int .i64 t0, .int .i64 lo0, .int .i64 hi0, .int .i64 a0, .int .i64 x0, .int .i64 y0, .int .i64 z0, .int .i64 nx, .int .i64 en, .int .i64 bi, .int .i64 lg, .int .i64 v, .int .i64 (f : Int), .bool true] := fun W' e => by
    subst e
    have T : Tw W (((W.setCell ⟨G, 21, none⟩ (.int .i64 v)).setCell ⟨G, 22, none⟩ (.int .i64 (f : Int))).setCell ⟨G, 23, none⟩ (.bool true)) G none := ((Tw.set_ _ _ _ _ _).trans (Tw.set_ _ _ _ _ _)).trans (Tw.set_ _ _ _ _ _)
    exact ⟨Below.trans HX.out (T.below HX.out.size hG (fun b hb => by cases hb)), ((HB.out.set_ 21 _).set_ 22 _).set_ 23 _⟩
  have FIN := hide fin
  clear fin hnE hn hB hX hen
  cases fo with
  | false =>
    go_enter Try.func59, Try.ntmps59
    go_wp2
    refine gen_bod fun W9 h9 => ?_
    obtain ⟨g1, g2⟩ := FIN.out W9 (by rw [h9])
    go_end0
    exact ⟨rfl, g1, _, _, _, hf, g2⟩
  | true =>
    by_cases hv : be < v
    · go_enter Try.func59, Try.ntmps59
      go_wp2
      refine gen_bod fun W9 h9 => ?_
      obtain ⟨g1, g2⟩ := FIN.out W9 (by rw [h9])
      go_end0
      exact ⟨rfl, g1, _, _, _, hf, g2⟩
    · go_enter Try.func59, Try.ntmps59
      go_wp2
      go_end0
      exact ⟨rfl, HX.out, _, _, _, hfi, HB.out⟩
end
end Go.Proofs.Ytajadgpkmommmaa
namespace Go.Proofs.Ytajadgpkmommmaa
open Go.RowKit
section
variable {lA : Option Addr} {ln lc : Nat} {sA : Option Addr} {sn sc : Nat} {qA : Option Addr} {qn qc : Nat} {L : List Int} {S : List (List Int)} {Q : List Int} {d0 s0 r0 f0 i0 k0 l0 t0 lo0 hi0 a0 x0 y0 z0 : Int} {nx tm bu bf : Int} {ldA : Option Addr} {ldn ldc : Nat} {w : World} {G : Nat} {en bi lg : Int}
set_option maxRecDepth 1000000 in
set_option maxHeartbeats 16000000 in
theorem from_step (h : Shw w lA ln lc sA sn sc qA qn qc L S Q) (ok : FilmOk L S Q) {n b f : Nat} {x v : Int} {W : World} {be : Int} {fi : Nat} {fo : Bool} (hn1 : n < ln) (hne : (n : Int) ≠ en) (hb : b < sn) (hf : f < sn) (hfi : fi < sn) (hX : Ext w W) (hB : Blk W G 101 #[.slice lA ln lc, .slice sA sn sc, .slice qA qn qc, .int .i64 d0, .int .i64 s0, .int .i64 r0, .int .i64 f0, .int .i64 i0, .int .i64 k0, .int .i64 l0, .int .i64 t0, .int .i64 lo0, .int .i64 hi0, .int .i64 a0, .int .i64 x0, .int .i64 y0, .int .i64 z0, .int .i64 nx, .int .i64 en, .int .i64 bi, .int .i64 lg, .int .i64 be, .int .i64 (fi : Int), .bool fo])
    (hIH : ∀ (b f : Nat) (x v : Int) (W : World) (be : Int) (fi : Nat) (fo : Bool), b < sn → f < sn → fi < sn → Ext w W → Blk W G 101 #[.slice lA ln lc, .slice sA sn sc, .slice qA qn qc, .int .i64 d0, .int .i64 s0, .int .i64 r0, .int .i64 f0, .int .i64 i0, .int .i64 k0, .int .i64 l0, .int .i64 t0, .int .i64 lo0, .int .i64 hi0, .int .i64 a0, .int .i64 x0, .int .i64 y0, .int .i64 z0, .int .i64 nx, .int .i64 en, .int .i64 bi, .int .i64 lg, .int .i64 be, .int .i64 (fi : Int), .bool fo] → Calls Try.prog 59 #[.pointer (some ⟨G, 0, none⟩), .int .i64 ((n : Int) + 1), .int .i64 (b : Int), .int .i64 x, .int .i64 v, .int .i64 (f : Int)] W (FrmGives w G lA ln lc sA sn sc qA qn qc d0 s0 r0 f0 i0 k0 l0 t0 lo0 hi0 a0 x0 y0 z0 nx en bi lg)) :
    Calls Try.prog 59 #[.pointer (some ⟨G, 0, none⟩), .int .i64 (n : Int), .int .i64 (b : Int), .int .i64 x, .int .i64 v, .int .i64 (f : Int)] W (FrmGives w G lA ln lc sA sn sc qA qn qc d0 s0 r0 f0 i0 k0 l0 t0 lo0 hi0 a0 x0 y0 z0 nx en bi lg) := by
  have hlen := h.longs.len
  have hsl := h.sizes.len
  have hql := h.qual.len
  have hqs := ok.q
  have hsn := ok.s1
  have hl2 := ok.l1
  have e0 : ((n : Int) == en) = false := by rw [beq_eq_false_iff_ne]; exact hne
  have HIH := hide hIH
  clear hIH
  have HSR := hide ok.sr
  have HSL := hide ok.sl
  have HH := hide h
  have HX := hide hX
  have HB := hide hB
  clear h ok hX hB
  obtain ⟨bl, ol, rfl, _⟩ := HH.out.longs.addr (by omega)
  obtain ⟨bs, os, rfl⟩ := HH.out.sizes.addr (by omega)
  obtain ⟨bq, oq, rfl, _⟩ := HH.out.qual.addr (by omega)
  have in0 : (0 : Int) ≤ (n : Int) := by omega
  have i1 : (n : Int) < (ln : Int) := by omega
  have i2 : (0 : Int) ≤ (b : Int) := by omega
  have i3 : (b : Int) < (qn : Int) := by omega
  have wn : IntKind.i64.wrap ((n : Int) + 1) = ((n + 1 : Nat) : Int) := by rw [IntKind.wrap_i64]; omega
  have c18 : W.cell? ⟨G, 18, none⟩ = some (.int .i64 en) := HB.out.cell 18
  have c1 : W.cell? ⟨G, 1, none⟩ = some (.slice (some ⟨bs, os, none⟩) sn sc) := HB.out.cell 1
  go_enter Try.func59, Try.ntmps59
  go_wp2_with fail
  go_loopw [53] (fun ri wr => ∃ (k : Nat) (be : Int) (fi : Nat) (fo : Bool), k ≤ sn ∧ ri = .int .i64 k ∧ fi < sn ∧ Hid (Ext w wr) ∧ Hid (Blk wr G 101 #[.slice (some ⟨bl, ol, none⟩) ln lc, .slice (some ⟨bs, os, none⟩) sn sc, .slice (some ⟨bq, oq, none⟩) qn qc, .int .i64 d0, .int .i64 s0, .int .i64 r0, .int .i64 f0, .int .i64 i0, .int .i64 k0, .int .i64 l0, .int .i64 t0, .int .i64 lo0, .int .i64 hi0, .int .i64 a0, .int .i64 x0, .int .i64 y0, .int .i64 z0, .int .i64 nx, .int .i64 en, .int .i64 bi, .int .i64 lg, .int .i64 be, .int .i64 (fi : Int), .bool fo])) (fun ri _ => sn - (intOf ri).toNat)
  case atStart => exact ⟨0, be, fi, fo, by omega, rfl, hfi, HX, HB⟩
  case round =>
    clear c18 c1 HX HB hfi
    obtain ⟨k, be, fi, fo, hk, rfl, hfi, HX, HB⟩ := hrel
    by_cases hlt : k < sn
    · obtain ⟨rA, rl, rc, hq0, hq1⟩ := HH.out.sizes.row hlt
      have hrl := hq1.len
      have hrow := HSL.out k (by omega)
      obtain ⟨br, orr, rfl, _⟩ := hq1.addr (by omega)
      have hq2 := hq1.num (k := n) (by omega)
      have hz := HSR.out k (by omega) n (by omega)
      generalize (S.getD k []).getD n 0 = z at *
      have j0 : (0 : Int) ≤ (k : Int) := by omega
      have j1 : (k : Int) < (sn : Int) := by omega
      have j2 : (n : Int) < (rl : Int) := by omega
      have j3 : (k : Int) < (qn : Int) := by omega
      have HT := hide (fun (W : World) (hB : Blk W G 101 #[.slice (some ⟨bl, ol, none⟩) ln lc, .slice (some ⟨bs, os, none⟩) sn sc, .slice (some ⟨bq, oq, none⟩) qn qc, .int .i64 d0, .int .i64 s0, .int .i64 r0, .int .i64 f0, .int .i64 i0, .int .i64 k0, .int .i64 l0, .int .i64 t0, .int .i64 lo0, .int .i64 hi0, .int .i64 a0, .int .i64 x0, .int .i64 y0, .int .i64 z0, .int .i64 nx, .int .i64 en, .int .i64 bi, .int .i64 lg, .int .i64 be, .int .i64 (fi : Int), .bool fo]) => takes_some (z := z) ⟨by omega, by omega⟩ hB)
      have HQ0 := hide hq0
      have HQ1 := hide hq2
      have HL0 := hide (HH.out.longs.num hn1)
      have HQK := hide (HH.out.qual.num (k := k) (by omega))
      have HQB := hide (HH.out.qual.num (k := b) (by omega))
      have r0' := HX.out.cell hq0
      have r1' := HX.out.cell hq2
      have l0' := HX.out.cell (HH.out.longs.num hn1)
      have q0' := HX.out.cell (HH.out.qual.num (k := k) (by omega))
      have q1' := HX.out.cell (HH.out.qual.num (k := b) (by omega))
      generalize L.getD n 0 = yl at *
      generalize Q.getD k 0 = yq at *
      generalize Q.getD b 0 = yb at *
      clear hq0 hq1 hq2 hrow hrl
      have g0 : wr.cell? ⟨G, 0, none⟩ = some (.slice (some ⟨bl, ol, none⟩) ln lc) := HB.out.cell 0
      have g1 : wr.cell? ⟨G, 1, none⟩ = some (.slice (some ⟨bs, os, none⟩) sn sc) := HB.out.cell 1
      have g2 : wr.cell? ⟨G, 2, none⟩ = some (.slice (some ⟨bq, oq, none⟩) qn qc) := HB.out.cell 2
      have g14 : wr.cell? ⟨G, 14, none⟩ = some (.int .i64 x0) := HB.out.cell 14
      have g15 : wr.cell? ⟨G, 15, none⟩ = some (.int .i64 y0) := HB.out.cell 15
      have g17 : wr.cell? ⟨G, 17, none⟩ = some (.int .i64 nx) := HB.out.cell 17
      have HND := hide (fun (bg : Nat) (hbg : bg < sn) => hbg)
      clear HND
      by_cases hnx : (n : Int) = nx
      · have e1 : ((n : Int) == nx) = true := by simp [hnx]
        clear hnx
        go_wp2_with fail
        refine (HT.out _ HB.out).mono ?_
        rintro e w1 ⟨⟨q, rfl⟩, x1⟩
        have B1 := hide (HB.out.ext x1)
        have X1 := hide (Ext.trans HX.out x1)
        clear x1 HB HX
        clear g0 g1 g2 g14 g15 g17 r0' r1' l0' q0' q1'
        have g0 : w1.cell? ⟨G, 0, none⟩ = some (.slice (some ⟨bl, ol, none⟩) ln lc) := B1.out.cell 0
        have g1 : w1.cell? ⟨G, 1, none⟩ = some (.slice (some ⟨bs, os, none⟩) sn sc) := B1.out.cell 1
        have g2 : w1.cell? ⟨G, 2, none⟩ = some (.slice (some ⟨bq, oq, none⟩) qn qc) := B1.out.cell 2
        have g14 : w1.cell? ⟨G, 14, none⟩ = some (.int .i64 x0) := B1.out.cell 14
        have g15 : w1.cell? ⟨G, 15, none⟩ = some (.int .i64 y0) := B1.out.cell 15
        have g17 : w1.cell? ⟨G, 17, none⟩ = some (.int .i64 nx) := B1.out.cell 17
        have r0' := X1.out.cell HQ0.out
        have r1' := X1.out.cell HQ1.out
        have l0' := X1.out.cell HL0.out
        have q0' := X1.out.cell HQK.out
        have q1' := X1.out.cell HQB.out
        go_wp2_with fail
        go_quiet (fail)
        go_wp2_with fail
        refine gen_wpC fun w2 h2 => ?_
        have x2 : Ext w1 w2 := by rw [h2]; exact (by repeat' (first | (with_reducible exact Below.refl _ _) | (with_reducible assumption) | (with_reducible refine below_drewN ?_ _) | (with_reducible refine Below.drew ?_) | (with_reducible refine ext_alloc ?_ _) | (with_reducible refine Below.setCell ?_ ?_ _) | go_size))
        have B2 := hide (B1.out.ext x2)
        have X2 := hide (Ext.trans X1.out x2)
        clear x2 h2 B1 X1
        clear g0 g1 g2 g14 g15 g17 r0' r1' l0' q0' q1'
        have g0 : w2.cell? ⟨G, 0, none⟩ = some (.slice (some ⟨bl, ol, none⟩) ln lc) := B2.out.cell 0
        have g1 : w2.cell? ⟨G, 1, none⟩ = some (.slice (some ⟨bs, os, none⟩) sn sc) := B2.out.cell 1
        have g2 : w2.cell? ⟨G, 2, none⟩ = some (.slice (some ⟨bq, oq, none⟩) qn qc) := B2.out.cell 2
        have g14 : w2.cell? ⟨G, 14, none⟩ = some (.int .i64 x0) := B2.out.cell 14
        have g15 : w2.cell? ⟨G, 15, none⟩ = some (.int .i64 y0) := B2.out.cell 15
        have g17 : w2.cell? ⟨G, 17, none⟩ = some (.int .i64 nx) := B2.out.cell 17
        have r0' := X2.out.cell HQ0.out
        have r1' := X2.out.cell HQ1.out
        have l0' := X2.out.cell HL0.out
        have q0' := X2.out.cell HQK.out
        have q1' := X2.out.cell HQB.out
        go_quiet (fail)
        go_wp2_with fail
        clear g0 g1 g2 g14 g15 g17 r0' r1' l0' q0' q1'
        have x3 : Ext w2 (w2.drewN nq) := (by repeat' (first | (with_reducible exact Below.refl _ _) | (with_reducible assumption) | (with_reducible refine below_drewN ?_ _) | (with_reducible refine Below.drew ?_) | (with_reducible refine ext_alloc ?_ _) | (with_reducible refine Below.setCell ?_ ?_ _) | go_size))
        refine (HIH.out k k _ _ _ be fi fo hlt (by omega) hfi (Ext.trans X2.out x3) (B2.out.ext x3)).mono ?_
        rintro e w5 ⟨rfl, x5, be', fi', fo', hfi', b5⟩
        have B5 := hide b5
        have X5 := hide x5
        clear b5 x5 x3 B2 X2 HIH HT
        go_wp2_with fail
        go_roundw
        case rel => exact ⟨k + 1, be', fi', fo', by omega, by go_num, hfi', X5, B5⟩
        case measure => simp [intOf]; omega
      · have e1 : ((n : Int) == nx) = false := by simp [hnx]
        clear hnx
        go_wp2_with fail
        refine (HT.out _ HB.out).mono ?_
        rintro e w1 ⟨⟨q, rfl⟩, x1⟩
        have B1 := hide (HB.out.ext x1)
        have X1 := hide (Ext.trans HX.out x1)
        clear x1 HB HX
        clear g0 g1 g2 g14 g15 g17 r0' r1' l0' q0' q1'
        have g0 : w1.cell? ⟨G, 0, none⟩ = some (.slice (some ⟨bl, ol, none⟩) ln lc) := B1.out.cell 0
        have g1 : w1.cell? ⟨G, 1, none⟩ = some (.slice (some ⟨bs, os, none⟩) sn sc) := B1.out.cell 1
        have g2 : w1.cell? ⟨G, 2, none⟩ = some (.slice (some ⟨bq, oq, none⟩) qn qc) := B1.out.cell 2
        have g14 : w1.cell? ⟨G, 14, none⟩ = some (.int .i64 x0) := B1.out.cell 14
        have g15 : w1.cell? ⟨G, 15, none⟩ = some (.int .i64 y0) := B1.out.cell 15
        have g17 : w1.cell? ⟨G, 17, none⟩ = some (.int .i64 nx) := B1.out.cell 17
        have r0' := X1.out.cell HQ0.out
        have r1' := X1.out.cell HQ1.out
        have l0' := X1.out.cell HL0.out
        have q0' := X1.out.cell HQK.out
        have q1' := X1.out.cell HQB.out
        go_wp2_with fail
        go_quiet (fail)
        go_wp2_with fail
        refine gen_wpC fun w2 h2 => ?_
        have x2 : Ext w1 w2 := by rw [h2]; exact (by repeat' (first | (with_reducible exact Below.refl _ _) | (with_reducible assumption) | (with_reducible refine below_drewN ?_ _) | (with_reducible refine Below.drew ?_) | (with_reducible refine ext_alloc ?_ _) | (with_reducible refine Below.setCell ?_ ?_ _) | go_size))
        have B2 := hide (B1.out.ext x2)
        have X2 := hide (Ext.trans X1.out x2)
        clear x2 h2 B1 X1
        clear g0 g1 g2 g14 g15 g17 r0' r1' l0' q0' q1'
        have g0 : w2.cell? ⟨G, 0, none⟩ = some (.slice (some ⟨bl, ol, none⟩) ln lc) := B2.out.cell 0
        have g1 : w2.cell? ⟨G, 1, none⟩ = some (.slice (some ⟨bs, os, none⟩) sn sc) := B2.out.cell 1
        have g2 : w2.cell? ⟨G, 2, none⟩ = some (.slice (some ⟨bq, oq, none⟩) qn qc) := B2.out.cell 2
        have g14 : w2.cell? ⟨G, 14, none⟩ = some (.int .i64 x0) := B2.out.cell 14
        have g15 : w2.cell? ⟨G, 15, none⟩ = some (.int .i64 y0) := B2.out.cell 15
        have g17 : w2.cell? ⟨G, 17, none⟩ = some (.int .i64 nx) := B2.out.cell 17
        have r0' := X2.out.cell HQ0.out
        have r1' := X2.out.cell HQ1.out
        have l0' := X2.out.cell HL0.out
        have q0' := X2.out.cell HQK.out
        have q1' := X2.out.cell HQB.out
        go_quiet (fail)
        go_wp2_with fail
        clear g0 g1 g2 g14 g15 g17 r0' r1' l0' q0' q1'
        have x3 : Ext w2 (w2.drewN nq) := (by repeat' (first | (with_reducible exact Below.refl _ _) | (with_reducible assumption) | (with_reducible refine below_drewN ?_ _) | (with_reducible refine Below.drew ?_) | (with_reducible refine ext_alloc ?_ _) | (with_reducible refine Below.setCell ?_ ?_ _) | go_size))
        refine (HIH.out k f _ _ _ be fi fo hlt (by omega) hfi (Ext.trans X2.out x3) (B2.out.ext x3)).mono ?_
        rintro e w5 ⟨rfl, x5, be', fi', fo', hfi', b5⟩
        have B5 := hide b5
        have X5 := hide x5
        clear b5 x5 x3 B2 X2 HIH HT
        go_wp2_with fail
        go_roundw
        case rel => exact ⟨k + 1, be', fi', fo', by omega, by go_num, hfi', X5, B5⟩
        case measure => simp [intOf]; omega
    · obtain rfl : k = sn := by omega
      go_wp2
      go_end0
      exact ⟨rfl, HX.out, _, _, _, hfi, HB.out⟩
end
end Go.Proofs.Ytajadgpkmommmaa
namespace Go.Proofs.Ytajadgpkmommmaa
open Go.RowKit

/-- The mean rates of renditions. -/
def ratesL (L : List Int) (S : List (List Int)) : List Int := S.map fun r => 1000 * r.sum / L.sum
theorem ratesL_snoc {L : List Int} {S : List (List Int)} {k : Nat} (hk : k < S.length) : ratesL L (S.take (k + 1)) = ratesL L (S.take k) ++ [1000 * (S.getD k []).sum / L.sum] := by
  unfold ratesL
  rw [List.take_succ_eq_append_getElem hk, List.map_append]
  simp [List.getD, hk]
theorem Try.info3 : (Try.prog.info? 3).map (fun i => (i.zero, i.size, i.bytes)) = some (some (.int .i64 0), 1, 8) := by kernel_rfl
section
variable {lA : Option Addr} {ln lc : Nat} {sA : Option Addr} {sn sc : Nat} {qA : Option Addr} {qn qc : Nat} {L : List Int} {S : List (List Int)} {Q : List Int} {w : World}
set_option maxRecDepth 100000 in
set_option maxHeartbeats 4000000 in
theorem keyMean_any (h : Shw w lA ln lc sA sn sc qA qn qc L S Q) (ok : FilmOk L S Q) :
    Calls Try.prog 55 #[shV lA ln lc sA sn sc qA qn qc] w fun e w' => ∃ A n c, e = .returned (.slice A n c) ∧ At w' 1 e64 A n c (ratesL L S) ∧ Ext w w' := by
  obtain ⟨i0, hi0, hz0, hz1, hz2⟩ := info_parts Try.info3
  have hl := h.longs.len
  have hs := h.sizes.len
  have hbs := h.sizes.bound
  obtain ⟨ok⟩ : Nonempty (Hid (FilmOk L S Q)) := ⟨hide ok⟩
  have hln : ln ≤ 200 := by have := ok.out.l1; omega
  have hsn : sn ≤ 20 := by have := ok.out.s1; omega
  have hs0 : 0 < sn := by have := ok.out.s0; omega
  obtain ⟨bs, os, rfl⟩ := h.sizes.addr (by omega)
  have EA := hide (Ext.alloc w (shO lA ln lc (some ⟨bs, os, none⟩) sn sc qA qn qc))
  have HCL := hide (fun (W : World) hW => sh_cells w lA ln lc (some ⟨bs, os, none⟩) sn sc qA qn qc (W := W) hW)
  have HH := hide h
  have hLb : 1 ≤ L.sum ∧ L.sum ≤ 200000000000 := sum_pos (by have := ok.out.l0; omega) ok.out.l1 ok.out.lr
  have HLS := hide (fun (W : World) (hW : Ext w W) => keySum_any (h.longs.ext hW) hln (fun i hi => by have := ok.out.lr i hi; omega))
  have HL := hide hl; have HS := hide hs
  obtain ⟨B, hB⟩ : ∃ B, B = (w.alloc (shO lA ln lc (some ⟨bs, os, none⟩) sn sc qA qn qc)).heap.size := ⟨_, rfl⟩
  have HB := hide hB
  generalize hlq : L.sum = lq at *
  have HLQ := hide hlq
  obtain ⟨hL1, hL2⟩ := hLb
  have hL3 : lq ≠ 0 := by omega
  clear h hl hs hB hlq
  go_enter Try.func55, Try.ntmps55
  go_wp2_with fail
  go_loopw [3, 9] (fun rv ri wr => ∃ k : Nat, k ≤ sn ∧ ri = .int .i64 k ∧ Hid (Own wr B 3 1 e64 rv (ratesL L (S.take k))) ∧ Hid (Ext (w.alloc (shO lA ln lc (some ⟨bs, os, none⟩) sn sc qA qn qc)) wr)) (fun _ ri _ => sn - (intOf ri).toNat)
  case atStart => exact ⟨0, by omega, rfl, hide (by simpa [ratesL] using Own.nil _ _ _ _ _), hide (Ext.refl _)⟩
  case round =>
    obtain ⟨k, hk, rfl, HO, HX⟩ := hrel
    by_cases hlt : k < sn
    · obtain ⟨c0, c1, c2⟩ := HCL.out wr HX.out
      have HW := hide (Ext.trans EA.out HX.out)
      obtain ⟨rA, rn, rc, rcell, rat⟩ := (HH.out.ext HW.out).sizes.row hlt
      have hrn : rn ≤ 200 := by have h1 := rat.len; have h2 := ok.out.sl k (by have := HS.out; omega); have := HL.out; omega
      have hrz : ∀ i, i < (S.getD k []).length → 0 ≤ (S.getD k []).getD i 0 ∧ (S.getD k []).getD i 0 ≤ 1000000000 := fun i hi => by
        have h2 := ok.out.sl k (by have := HS.out; omega)
        have := ok.out.sr k (by have := HS.out; omega) i (by omega); omega
      have hsb := sumI_bound hrz (S.getD k []).length (Nat.le_refl _)
      rw [sumI_all rfl] at hsb
      have hsb2 : (S.getD k []).length ≤ 200 := by have h1 := rat.len; omega
      have HRS := hide (fun (W : World) (hW : Ext wr W) => keySum_any (rat.ext hW) hrn hrz)
      have HSN : Hid (ratesL L (S.take (k + 1)) = ratesL L (S.take k) ++ [1000 * (S.getD k []).sum / lq]) := hide (by rw [ratesL_snoc (by have := HS.out; omega), HLQ.out])
      generalize (S.getD k []).sum = sq at *
      have hq1 : 0 ≤ sq := by omega
      have hq2 : sq ≤ 200000000000 := by omega
      have hq3 : 0 ≤ 1000 * sq := by omega
      have hq5 : IntKind.i64.wrap ((1000 * sq).tdiv lq) = 1000 * sq / lq := by
        rw [Int.tdiv_eq_ediv_of_nonneg hq3, IntKind.wrap_i64]
        have h1 : 0 ≤ 1000 * sq / lq := Int.ediv_nonneg hq3 (by omega)
        have h2 : 1000 * sq / lq ≤ 1000 * sq := Int.ediv_le_self _ hq3
        omega
      have hq4 : IntKind.i64.wrap (1000 * sq) = 1000 * sq := by rw [IntKind.wrap_i64]; omega
      have xl : (ratesL L (S.take k)).length = k := by simp [ratesL]; have := HS.out; omega
      have s1 : (ratesL L (S.take k)).length + 1 ≤ maxLen := by rw [xl]; unfold maxLen; omega
      have s2 : ((ratesL L (S.take k)).length + 1) * 8 ≤ 140737488355328 := by rw [xl]; omega
      have S1 := hide s1; have S2 := hide s2
      have HBW : Hid (B ≤ wr.heap.size) := hide (by rw [HB.out]; exact HX.out.size)
      have EX := Ext.drew wr
      clear s1 s2 xl hsb hsb2 hrz rat
      go_wp2_with fail
      go_region_held3 (fun w' => w'.cell? ⟨w.heap.size, 0, none⟩ = some (.slice lA ln lc)) (first | go_keep | exact EX.cell c0) (first
        | ((go_at_call 52; with_reducible refine (HRS.out _ ?_).mono ?_); (focus (exact (by repeat' (first | (with_reducible exact Below.refl _ _) | (with_reducible assumption) | (with_reducible refine below_drewN ?_ _) | (with_reducible refine Below.drew ?_) | (with_reducible refine ext_alloc ?_ _) | (with_reducible refine Below.setCell ?_ ?_ _) | go_size)))); rintro e w' ⟨rfl, rfl⟩)
        | ((go_at_call 52; with_reducible refine (HLS.out _ ?_).mono ?_); (focus (exact Ext.trans HW.out (by repeat' (first | (with_reducible exact Below.refl _ _) | (with_reducible assumption) | (with_reducible refine below_drewN ?_ _) | (with_reducible refine Below.drew ?_) | (with_reducible refine ext_alloc ?_ _) | (with_reducible refine Below.setCell ?_ ?_ _) | go_size)))); rintro e w' ⟨rfl, rfl⟩)
        | ((refine step_append_at rfl (.tmp 13) (.tmp 21) 22 rfl B 3 i0 _ 8 Try.underlying22 hi0 hz0 hz1 hz2 rfl (by omega) len_e64 one_e64 _ _ (by rfl) (HO.out.ext (by repeat' (first | (with_reducible exact Below.refl _ _) | (with_reducible assumption) | (with_reducible refine below_drewN ?_ _) | (with_reducible refine Below.drew ?_) | (with_reducible refine ext_alloc ?_ _) | (with_reducible refine Below.setCell ?_ ?_ _) | go_size))) (some ⟨wr.heap.size, 0, none⟩) 1 1 [1000 * sq / lq] (by simp [Act.eval]) ((At.new1 (enc := e64) wr (1000 * sq / lq) _ rfl _).ext (Ext.drew _)) S1.out S2.out (Nat.le_trans HBW.out (by simp)) ?_); intro v3 w3 o3 g3 _ _; have O3 := hide o3; have E3 := hide (Own.below (w0 := w.alloc (shO lA ln lc (some ⟨bs, os, none⟩) sn sc qA qn qc)) (HO.out.ext (by repeat' (first | (with_reducible exact Below.refl _ _) | (with_reducible assumption) | (with_reducible refine below_drewN ?_ _) | (with_reducible refine Below.drew ?_) | (with_reducible refine ext_alloc ?_ _) | (with_reducible refine Below.setCell ?_ ?_ _) | go_size))) (Ext.trans HX.out (by repeat' (first | (with_reducible exact Below.refl _ _) | (with_reducible assumption) | (with_reducible refine below_drewN ?_ _) | (with_reducible refine Below.drew ?_) | (with_reducible refine ext_alloc ?_ _) | (with_reducible refine Below.setCell ?_ ?_ _) | go_size))) g3 (Nat.le_of_eq HB.out.symm)); have K3 := (HCL.out w3 E3.out).1; clear o3 g3))
      go_wp2
      go_roundw
      case rel => exact ⟨k + 1, by omega, by go_num, hide (by rw [HSN.out]; exact O3.out), E3⟩
      case measure => simp [intOf]; omega
    · obtain rfl : k = sn := by omega
      have HW := hide (Ext.trans EA.out HX.out)
      have ho := HO.out
      rw [List.take_of_length_le (by have := HS.out; omega)] at ho
      obtain ⟨A3, c3, hv3, a3⟩ := ho.at_ len_e64
      subst hv3
      have P3 := hide a3
      clear a3 ho
      go_wp2
      go_ret
      exact ⟨_, _, _, rfl, P3.out, HW.out⟩
end
end Go.Proofs.Ytajadgpkmommmaa
namespace Go.Proofs.Ytajadgpkmommmaa
/-- The last number of which something holds; 0 if there is none. -/
def lastF (P : Nat → Bool) : Nat → Int
  | 0 => 0
  | n + 1 => if P n = true then (n : Int) else lastF P n
theorem lastF_succ (P : Nat → Bool) (n : Nat) : lastF P (n + 1) = if P n = true then (n : Int) else lastF P n := rfl
theorem lastF_bd (P : Nat → Bool) : ∀ n, 0 ≤ lastF P n ∧ (lastF P n < n ∨ lastF P n = 0)
  | 0 => ⟨Int.le_refl _, Or.inr rfl⟩
  | n + 1 => by
    have := lastF_bd P n
    rw [lastF_succ]
    split <;> omega
theorem lastF_mono {P R : Nat → Bool} : ∀ {n : Nat}, (∀ i, i < n → P i = true → R i = true) → lastF P n ≤ lastF R n
  | 0, _ => Int.le_refl _
  | n + 1, h => by
    have ih := lastF_mono (n := n) fun i hi => h i (by omega)
    have h1 := lastF_bd P n
    have h2 := h n (by omega)
    rw [lastF_succ, lastF_succ]
    by_cases hp : P n = true
    · rw [if_pos hp, if_pos (h2 hp)]; omega
    · rw [if_neg hp]
      split <;> omega
/-- Does a rendition fit what is in the buffer? -/
def bufB (R : List Int) (low high buf : Int) (i : Nat) : Bool := decide ((R.getD i 0 - R.getD 0 0) * (high - low) ≤ (R.getD (R.length - 1) 0 - R.getD 0 0) * (buf - low))
/-- The choice by the buffer. -/
def bufC (R : List Int) (low high buf : Int) : Int :=
  if buf ≤ low then 0 else if high ≤ buf then (R.length : Int) - 1 else lastF (bufB R low high buf) R.length
theorem bufC_mono {R : List Int} {low high buf m : Int} (h0 : 0 < R.length) (hr : R.getD 0 0 ≤ R.getD (R.length - 1) 0) (hm : 0 ≤ m) : bufC R low high buf ≤ bufC R low high (buf + m) := by
  unfold bufC
  have b1 := lastF_bd (bufB R low high buf) R.length
  have b2 := lastF_bd (bufB R low high (buf + m)) R.length
  by_cases c1 : buf ≤ low
  · rw [if_pos c1]
    split
    · omega
    · split <;> omega
  rw [if_neg c1, if_neg (show ¬ buf + m ≤ low by omega)]
  by_cases c2 : high ≤ buf
  · rw [if_pos c2, if_pos (by omega)]; omega
  rw [if_neg c2]
  by_cases c3 : high ≤ buf + m
  · rw [if_pos c3]; omega
  rw [if_neg c3]
  refine lastF_mono fun i _ h => ?_
  unfold bufB at h ⊢
  rw [decide_eq_true_iff] at h ⊢
  have := Int.mul_le_mul_of_nonneg_left (show buf - low ≤ buf + m - low by omega) (show 0 ≤ R.getD (R.length - 1) 0 - R.getD 0 0 by omega)
  omega
end Go.Proofs.Ytajadgpkmommmaa
namespace Go.Proofs.Ytajadgpkmommmaa
variable {L : List Int} {S : List (List Int)} {Q : List Int}
theorem rates_get {i : Nat} (hi : i < S.length) : (ratesL L S).getD i 0 = 1000 * (S.getD i []).sum / L.sum := by
  unfold ratesL
  simp only [List.getD_eq_getElem?_getD, List.getElem?_map, List.getElem?_eq_getElem hi, Option.map_some, Option.getD_some]
theorem rates_len : (ratesL L S).length = S.length := by unfold ratesL; simp
theorem row_sum (ok : FilmOk L S Q) {i : Nat} (hi : i < S.length) : 1 ≤ (S.getD i []).sum ∧ (S.getD i []).sum ≤ 200000000000 :=
  sum_pos (by rw [ok.sl i hi]; exact ok.l0) (by rw [ok.sl i hi]; exact ok.l1) (fun k hk => ok.sr i hi k (by rw [← ok.sl i hi]; exact hk))
theorem rates_bd (ok : FilmOk L S Q) {i : Nat} (hi : i < S.length) : 0 ≤ (ratesL L S).getD i 0 ∧ (ratesL L S).getD i 0 ≤ 200000000000000 := by
  rw [rates_get hi]
  have h1 := row_sum ok hi
  have h2 : 1 ≤ L.sum ∧ L.sum ≤ 200000000000 := sum_pos ok.l0 ok.l1 ok.lr
  refine ⟨Int.ediv_nonneg (by omega) (by omega), Int.le_trans (Int.ediv_le_self _ (by omega)) (by omega)⟩
theorem sums_step (ok : FilmOk L S Q) {i : Nat} (hi : i + 1 < S.length) : (S.getD i []).sum ≤ (S.getD (i + 1) []).sum := by
  have h := ok.el (i + 1) hi
  unfold szEl at h
  split at h
  · omega
  split at h
  · omega
  split at h
  · omega
  split at h
  · omega
  · rename_i h4
    have h5 : ¬ (S.getD (i + 1) []).sum < (S.getD (i + 1 - 1) []).sum := fun hc => h4 ⟨by omega, Or.inr hc⟩
    rw [Nat.add_sub_cancel] at h5
    omega
theorem rates_mono (ok : FilmOk L S Q) (i : Nat) : ∀ m, i + m < S.length → (ratesL L S).getD i 0 ≤ (ratesL L S).getD (i + m) 0
  | 0, _ => Int.le_refl _
  | m + 1, h => by
    have h1 := rates_mono ok i m (by omega)
    have h2 := sums_step ok (i := i + m) h
    have h3 : 1 ≤ L.sum ∧ L.sum ≤ 200000000000 := sum_pos ok.l0 ok.l1 ok.lr
    have e1 : (ratesL L S).getD (i + m) 0 = 1000 * (S.getD (i + m) []).sum / L.sum := rates_get (by omega)
    rw [e1] at h1
    have e : (ratesL L S).getD (i + m + 1) 0 = 1000 * (S.getD (i + m + 1) []).sum / L.sum := rates_get h
    show (ratesL L S).getD i 0 ≤ (ratesL L S).getD (i + m + 1) 0
    rw [e]
    exact Int.le_trans h1 (Int.ediv_le_ediv (by omega) (by omega))
end Go.Proofs.Ytajadgpkmommmaa
