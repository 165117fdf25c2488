/- Walks: math/bits.Len64, LeadingZeros64, Div64 (that it comes to an end), wide.Scaled (that it comes to an end). Conditions as stated. -/
import Derived.Test.YtfelgolfebhmkaaDoorMtm30
import Derived.Lib.BitFns
import Derived.Lib.Walk
import Derived.Lib.Tables
import Derived.Lib.ItoaNum
namespace Go.Proofs.YtfelgolfebhmkaaDoor
open Go.RowKit
set_option maxRecDepth 100000 in
theorem len8tab_size : (Lib.len8tab.size : Int) = 256 := by
  have : Lib.len8tab.size = 256 := by decide
  omega
theorem wrap_add (k a b : Nat) (hk : k ≤ 56) (ha : a ≤ 8) (hb : b = k + a) : wrap64 ((k : Int) + wrap64 (a : Int)) = (b : Int) := by
  unfold wrap64
  omega
theorem wrap_wrap (a : Nat) (ha : a ≤ 8) : wrap64 (wrap64 (a : Int)) = (a : Int) := by
  unfold wrap64
  omega
theorem wrap_one (a : Nat) (ha : a ≤ 8) : wrap64 (a : Int) = (a : Int) := by
  unfold wrap64
  omega
theorem len8_get (y : Int) (h : y.toNat < Lib.len8tab.size) : ((Lib.len8tab[y.toNat]'h).toNat : Int) = Lib.len8 y := by
  unfold Lib.len8
  rw [getElem?_pos Lib.len8tab y.toNat h]
  rfl
set_option maxRecDepth 1000000 in
set_option maxHeartbeats 8000000 in
theorem len64_any (x : Int) (w : World) (h0 : 0 ≤ x) (h1 : x ≤ 18446744073709551615) :
    Calls Tryd.prog 66 #[.int .u64 x] w fun e w' => e = .returned (.int .i64 (Lib.bitLen x.toNat)) ∧ w' = w := by
  go_enter Tryd.func66, Tryd.ntmps66
  go_wp2
  all_goals first
    | (go_ret; refine ⟨congrArg Ending.returned (congrArg (Value.int IntKind.i64) ?_), rfl⟩)
    | (exfalso
       have hs := len8tab_size
       omega)
  all_goals first
    | (rw [len8_get (x / 4294967296 / 65536 / 256) _, Lib.len8_of (x / 4294967296 / 65536 / 256) (by omega) (by omega)]
       have e : (x / 4294967296 / 65536 / 256).toNat = x.toNat / 72057594037927936 := by omega
       have l := Lib.bitLen_le8' (x / 4294967296 / 65536 / 256) (by omega) (by omega)
       have s := Lib.bitLen_shift56 x.toNat (by omega) (by omega)
       rw [e] at l ⊢
       exact wrap_add 56 _ _ (by decide) l s)
    | (rw [len8_get (x / 4294967296 / 65536) _, Lib.len8_of (x / 4294967296 / 65536) (by omega) (by omega)]
       have e : (x / 4294967296 / 65536).toNat = x.toNat / 281474976710656 := by omega
       have l := Lib.bitLen_le8' (x / 4294967296 / 65536) (by omega) (by omega)
       have s := Lib.bitLen_shift48 x.toNat (by omega) (by omega)
       rw [e] at l ⊢
       exact wrap_add 48 _ _ (by decide) l s)
    | (rw [len8_get (x / 4294967296 / 256) _, Lib.len8_of (x / 4294967296 / 256) (by omega) (by omega)]
       have e : (x / 4294967296 / 256).toNat = x.toNat / 1099511627776 := by omega
       have l := Lib.bitLen_le8' (x / 4294967296 / 256) (by omega) (by omega)
       have s := Lib.bitLen_shift40 x.toNat (by omega) (by omega)
       rw [e] at l ⊢
       exact wrap_add 40 _ _ (by decide) l s)
    | (rw [len8_get (x / 4294967296) _, Lib.len8_of (x / 4294967296) (by omega) (by omega)]
       have e : (x / 4294967296).toNat = x.toNat / 4294967296 := by omega
       have l := Lib.bitLen_le8' (x / 4294967296) (by omega) (by omega)
       have s := Lib.bitLen_shift32 x.toNat (by omega) (by omega)
       rw [e] at l ⊢
       exact wrap_add 32 _ _ (by decide) l s)
    | (rw [len8_get (x / 65536 / 256) _, Lib.len8_of (x / 65536 / 256) (by omega) (by omega)]
       have e : (x / 65536 / 256).toNat = x.toNat / 16777216 := by omega
       have l := Lib.bitLen_le8' (x / 65536 / 256) (by omega) (by omega)
       have s := Lib.bitLen_shift24 x.toNat (by omega) (by omega)
       rw [e] at l ⊢
       exact wrap_add 24 _ _ (by decide) l s)
    | (rw [len8_get (x / 65536) _, Lib.len8_of (x / 65536) (by omega) (by omega)]
       have e : (x / 65536).toNat = x.toNat / 65536 := by omega
       have l := Lib.bitLen_le8' (x / 65536) (by omega) (by omega)
       have s := Lib.bitLen_shift16 x.toNat (by omega) (by omega)
       rw [e] at l ⊢
       exact wrap_add 16 _ _ (by decide) l s)
    | (rw [len8_get (x / 256) _, Lib.len8_of (x / 256) (by omega) (by omega)]
       have e : (x / 256).toNat = x.toNat / 256 := by omega
       have l := Lib.bitLen_le8' (x / 256) (by omega) (by omega)
       have s := Lib.bitLen_shift8 x.toNat (by omega) (by omega)
       rw [e] at l ⊢
       exact wrap_add 8 _ _ (by decide) l s)
    | (rw [len8_get (x) _, Lib.len8_of (x) (by omega) (by omega)]
       have e : (x).toNat = x.toNat := by omega
       have l := Lib.bitLen_le8' (x) (by omega) (by omega)
       rw [e] at l ⊢
       first | exact wrap_wrap _ l | exact wrap_add 0 _ _ (by decide) l (by omega) | exact wrap_one _ l)
theorem leading_any (y : Nat) (w : World) (h1 : y < 18446744073709551616) :
    Calls Tryd.prog 79 #[.int .u64 (y : Int)] w fun e w' => e = .returned (.int .i64 ((64 - Lib.bitLen y : Nat) : Int)) ∧ w' = w := by
  have HL := hide (fun (W : World) => len64_any (y : Int) W (by omega) (by omega))
  rw [Int.toNat_natCast] at HL
  have hb := Lib.bitLen_le y 64 (Nat.le_refl _) (by rw [show (2 : Nat) ^ 64 = 18446744073709551616 from rfl]; exact h1)
  generalize Lib.bitLen y = b at *
  have hw : IntKind.i64.wrap (64 - (b : Int)) = ((64 - b : Nat) : Int) := by rw [IntKind.wrap_i64]; omega
  clear h1
  go_enter Tryd.func79, Tryd.ntmps79
  go_wp2_with fail
  refine (HL.out _).mono ?_
  rintro e w1 ⟨rfl, rfl⟩
  go_wp2_with fail
  go_ret
  exact ⟨ret_int (by first | exact hw | omega), rfl⟩
theorem norm_bd {y : Nat} (h0 : y ≠ 0) (h1 : y < 18446744073709551616) : 9223372036854775808 ≤ y * 2 ^ (64 - Lib.bitLen y) ∧ y * 2 ^ (64 - Lib.bitLen y) < 18446744073709551616 ∧ Lib.bitLen y ≤ 64 := by
  obtain ⟨b1, b2, b3⟩ := Lib.bitLenAux_bounds 64 y (by rw [show (2 : Nat) ^ 64 = 18446744073709551616 from rfl]; exact h1) h0
  have hb := Lib.bitLen_le y 64 (Nat.le_refl _) (by rw [show (2 : Nat) ^ 64 = 18446744073709551616 from rfl]; exact h1)
  change 1 ≤ Lib.bitLen y at b1
  change 2 ^ (Lib.bitLen y - 1) ≤ y at b2
  change y < 2 ^ Lib.bitLen y at b3
  generalize Lib.bitLen y = b at *
  have e1 : 2 ^ (b - 1) * 2 ^ (64 - b) = (9223372036854775808 : Nat) := by rw [← Nat.pow_add, show b - 1 + (64 - b) = 63 by omega]
  have e2 : 2 ^ b * 2 ^ (64 - b) = (18446744073709551616 : Nat) := by rw [← Nat.pow_add, show b + (64 - b) = 64 by omega]
  have m1 := Nat.mul_le_mul_right (2 ^ (64 - b)) b2
  have m2 := Nat.mul_lt_mul_of_pos_right b3 (Nat.two_pow_pos (64 - b))
  omega
def divM (r : Int) : Nat := if 0 ≤ r ∧ r < 4294967296 then (4294967296 - r).toNat else 8589934592
theorem divM_less {r d : Int} (hd : 2147483648 ≤ d ∧ d < 4294967296) (h : ¬ 4294967296 ≤ IntKind.u64.wrap (r + d)) : divM (IntKind.u64.wrap (r + d)) < divM r := by
  rw [IntKind.wrap_u64] at h ⊢
  unfold divM
  split <;> split <;> omega
set_option maxRecDepth 100000 in
set_option maxHeartbeats 4000000 in
theorem div64_some (hi lo y : Nat) (hy : hi < y) (hy2 : y < 18446744073709551616) (w : World) :
    Calls Tryd.prog 77 #[.int .u64 (hi : Int), .int .u64 (lo : Int), .int .u64 (y : Int)] w fun e w' => (∃ q r : Int, e = .returned (.tuple #[.int .u64 q, .int .u64 r])) ∧ Ext w w' := by
  have HL := hide (fun (W : World) => leading_any y W hy2)
  obtain ⟨n1, n2, n3⟩ := norm_bd (y := y) (by omega) hy2
  have hs : 64 - Lib.bitLen y ≤ 64 := by omega
  generalize 64 - Lib.bitLen y = s at *
  have y0 : ((y : Int) == 0) = false := by rw [beq_eq_false_iff_ne]; omega
  have y0' : (y : Int) ≠ 0 := by omega
  have y1 : ¬ (y : Int) ≤ (hi : Int) := by omega
  by_cases h0 : hi = 0
  · subst h0
    clear hs n1 n2 n3 HL
    go_enter Tryd.func77, Tryd.ntmps77
    go_wp2_with fail
    go_quiet (fail)
    go_wp2
    go_ret2
    exact ⟨⟨_, _, rfl⟩, (by repeat' (first | (with_reducible first | exact Below.refl _ _ | assumption | refine below_drewN ?_ _ | refine Below.drew ?_ | refine ext_alloc ?_ _ | refine Below.setCell ?_ ?_ _) | go_size))⟩
  · have h0' : ((hi : Int) == 0) = false := by rw [beq_eq_false_iff_ne]; omega
    have hw : IntKind.u64.wrap ((y : Int) * 2 ^ s) = ((y * 2 ^ s : Nat) : Int) := by
      rw [Int.natCast_mul, Int.natCast_pow, IntKind.wrap_u64]
      have e : ((y : Int) * ((2 : Nat) : Int) ^ s) = ((y * 2 ^ s : Nat) : Int) := by rw [Int.natCast_mul, Int.natCast_pow]
      rw [show ((2 : Int)) = ((2 : Nat) : Int) from rfl, e]
      omega
    generalize y * 2 ^ s = yn at *
    have hd : (yn : Int) / 4294967296 = ((yn / 4294967296 : Nat) : Int) := rfl
    have hdb : 2147483648 ≤ yn / 4294967296 ∧ yn / 4294967296 < 4294967296 := by omega
    generalize yn / 4294967296 = d at *
    have d0' : (d : Int) ≠ 0 := by omega
    have d1' : ((d : Int) == 0) = false := by rw [beq_eq_false_iff_ne]; omega
    have hdd : (2147483648 : Int) ≤ (d : Int) ∧ (d : Int) < 4294967296 := by omega
    clear h0 n1 n2 n3 hdb
    go_enter Tryd.func77, Tryd.ntmps77
    go_wp2_with fail
    refine (HL.out _).mono ?_
    rintro e w1 ⟨rfl, rfl⟩
    go_wp2_with fail
    go_loopw [15, 16] (fun rq rr wr => ∃ q r : Int, rq = .int .u64 q ∧ rr = .int .u64 r ∧ wr = w1) (fun _ rr _ => divM (intOf rr))
    case atStart => exact ⟨_, _, rfl, rfl, rfl⟩
    case round =>
      obtain ⟨q, r, rfl, rfl, rfl⟩ := hrel
      by_cases hb : 4294967296 ≤ IntKind.u64.wrap (r + (d : Int)) <;> by_cases hq : 4294967296 ≤ q <;> go_wp2_with fail
      all_goals first
        | (refine ⟨⟨_, _, rfl, rfl, trivial⟩, ?_⟩; simp only [intOf]; exact divM_less ⟨by omega, by omega⟩ (by omega))
        | (go_loopw [18, 16] (fun rq rr wx => ∃ q r : Int, rq = .int .u64 q ∧ rr = .int .u64 r ∧ wx = wr) (fun _ rr _ => divM (intOf rr))
           case atStart => exact ⟨_, _, rfl, rfl, rfl⟩
           case round =>
             obtain ⟨q', r', rfl, rfl, rfl⟩ := hrel
             by_cases hb' : 4294967296 ≤ IntKind.u64.wrap (r' + (d : Int)) <;> by_cases hq' : 4294967296 ≤ q' <;> go_wp2_with fail
             all_goals first
               | (refine ⟨⟨_, _, rfl, rfl, trivial⟩, ?_⟩; simp only [intOf]; exact divM_less ⟨by omega, by omega⟩ (by omega))
               | (go_ret2; exact ⟨⟨_, _, rfl⟩, Ext.refl _⟩)
               | (go_wp2; go_ret2; exact ⟨⟨_, _, rfl⟩, (by repeat' (first | (with_reducible first | exact Below.refl _ _ | assumption | refine below_drewN ?_ _ | refine Below.drew ?_ | refine ext_alloc ?_ _ | refine Below.setCell ?_ ?_ _) | go_size))⟩)
               | (simp only [intOf]; exact divM_less ⟨by omega, by omega⟩ (by omega)))
end Go.Proofs.YtfelgolfebhmkaaDoor
