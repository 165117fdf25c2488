/- Walks: ladder.divisor, product, rateOf, segmentsFault, Mean, for numbers that are right. Conditions as stated. -/
import Derived.Test.YtkedjmepfcchoaaMul
import Derived.Outline
import Derived.Test.YtkedjmepfcchoaaFilmG
namespace Go.Proofs.Ytkedjmepfcchoaa
open Go.RowKit

theorem tmod_nat (x y : Nat) : ((x : Int).tmod (y : Int)) = ((x % y : Nat) : Int) := by
  rw [Int.tmod_eq_emod_of_nonneg (by omega)]; rfl
set_option maxHeartbeats 1000000 in
theorem divisor_any (a b : Nat) (ha : a ≤ 9223372036854775807) (hb : b ≤ 9223372036854775807) (w : World) :
    Calls Try.prog 117 #[.int .i64 a, .int .i64 b] w fun e w' => e = .returned (.int .i64 (Nat.gcd a b : Nat)) ∧ Ext w w' := by
  go_enter Try.func117, Try.ntmps117
  go_wp2_with fail
  go_loopw [0, 1] (fun rx ry wr => ∃ x y : Nat, rx = .int .i64 x ∧ ry = .int .i64 y ∧ x ≤ 9223372036854775807 ∧ y ≤ 9223372036854775807 ∧ Hid (Nat.gcd x y = Nat.gcd a b) ∧ Hid (Ext w wr)) (fun _ ry _ => (intOf ry).toNat)
  case atStart => exact ⟨a, b, rfl, rfl, ha, hb, hide rfl, hide (Ext.refl _)⟩
  case round =>
    obtain ⟨x, y, rfl, rfl, hx, hy, HG, HX⟩ := hrel
    by_cases h0 : y = 0
    · have e0 : ((y : Int) != 0) = false := by simp [h0]
      have HF : Hid (x = Nat.gcd a b) := hide (by rw [← HG.out, h0]; simp)
      clear h0
      go_wp2_with fail
      go_ret
      exact ⟨ret_int (by rw [← HF.out]), HX.out⟩
    · have e0 : ((y : Int) != 0) = true := by simp [h0]
      have e1 := tmod_nat x y
      have hm : x % y < y := Nat.mod_lt _ (by omega)
      have HG2 : Hid (Nat.gcd y (x % y) = Nat.gcd a b) := hide (by rw [← HG.out, Nat.gcd_comm x y, Nat.gcd_rec y x, Nat.gcd_comm])
      have e2 : IntKind.i64.wrap ((x % y : Nat) : Int) = ((x % y : Nat) : Int) := by rw [IntKind.wrap_i64]; omega
      have e3 : (y : Int) ≠ 0 := by omega
      generalize hq : x % y = q at *
      clear hq
      go_wp2_with fail
      go_quiet (fail)
      go_wp2_with fail
      go_roundw
      case rel => exact ⟨y, q, rfl, rfl, by omega, by omega, HG2, hide (Ext.trans HX.out (by repeat' (first | (with_reducible exact Below.refl _ _) | (with_reducible assumption) | (with_reducible refine below_drewN ?_ _) | (with_reducible refine Below.drew ?_) | (with_reducible refine ext_alloc ?_ _) | (with_reducible refine Below.setCell ?_ ?_ _) | go_size)))⟩
      case measure => simp [intOf]; omega
/-- A product that fits. -/
theorem product_any (x y : Nat) (h : x * y < 9223372036854775808) (hx : x < 9223372036854775808) (hy : y < 9223372036854775808) (w : World) :
    Calls Try.prog 118 #[.int .i64 x, .int .i64 y] w fun e w' => e = .returned (.tuple #[.int .i64 (x * y : Nat), .bool true]) ∧ w = w' := by
  have HM := hide (fun (W : World) => mul64_any x y (by omega) (by omega) W)
  rw [show x * y / 18446744073709551616 = 0 by omega, show x * y % 18446744073709551616 = x * y by omega] at HM
  generalize x * y = p at *
  have h1 : (p : Int) < 9223372036854775808 := by omega
  have h2 : (x : Int) < 9223372036854775808 := by omega
  have h3 : (y : Int) < 9223372036854775808 := by omega
  have g1 : decide ((p : Int) < 9223372036854775808) = true := by simpa using h1
  clear h hx hy
  go_enter Try.func118, Try.ntmps118
  go_wp2_with fail
  refine (HM.out _).mono ?_
  rintro e w' ⟨rfl, rfl⟩
  go_wp2
  go_ret2
  exact ⟨rfl, rfl⟩
theorem gen_body {P : Program} {f : Func} {Q : Ending → World → Prop} {x : Exit} {a : Act} {W : World} (h : ∀ W', W' = W → bodyPost P f Q x a W') : bodyPost P f Q x a W := h W rfl
/-- A rate in lowest terms is the rate. -/
theorem rate_eq {S L a b : Nat} (g q : Nat) (ha : a * g = S) (hb : b * g = L) (hg : 0 < g) (k m n : Nat) (hk : k * q = m) (hn : n * q = b) (hq : 0 < q) : a * k / n = S * m / L := by
  rw [← ha, ← hb, ← hk, ← hn]
  rw [show a * g * (k * q) = a * k * (g * q) by grind, show n * q * g = n * (g * q) by grind]
  rw [Nat.mul_div_mul_right _ _ (Nat.mul_pos hg hq)]
set_option maxRecDepth 100000 in
set_option maxHeartbeats 2000000 in
theorem rateOf_any (s L : Nat) (hs : s ≤ 200000000000) (hL : 1 ≤ L) (hL2 : L ≤ 200000000000) (w : World) :
    Calls Try.prog 74 #[.int .i64 s, .int .i64 L, .int .i64 1000] w fun e w' => ∃ n d : Nat, e = .returned (.tuple #[.agg #[.int .i64 n, .int .i64 d], .int .i64 0]) ∧ 1 ≤ d ∧ n / d = s * 8 * 1000 / L ∧ Ext w w' := by
  obtain ⟨S, hS⟩ : ∃ S, S = s * 8 := ⟨_, rfl⟩
  rw [← hS]
  have e1 : (s : Int) * 8 = (S : Int) := by omega
  have hS2 : S ≤ 1600000000000 := by omega
  have hg0 : 0 < Nat.gcd S L := Nat.gcd_pos_of_pos_right _ (by omega)
  have hgd := Nat.gcd_dvd_left S L
  have hgl := Nat.gcd_dvd_right S L
  have HD := hide (fun (W : World) => divisor_any S L (by omega) (by omega) W)
  generalize Nat.gcd S L = g at *
  obtain ⟨a, ha⟩ := hgd
  obtain ⟨b, hb⟩ := hgl
  have hb0 : 0 < b := by rcases Nat.eq_zero_or_pos b with h | h <;> simp_all
  have hq0 : 0 < Nat.gcd 1000 b := Nat.gcd_pos_of_pos_left _ (by omega)
  have hqd := Nat.gcd_dvd_left 1000 b
  have hql := Nat.gcd_dvd_right 1000 b
  have hbL : b ≤ L := by rw [hb]; exact Nat.le_mul_of_pos_left _ hg0
  have haS : a ≤ S := by rw [ha]; exact Nat.le_mul_of_pos_left _ hg0
  have HE := hide (fun (W : World) => divisor_any 1000 b (by omega) (by omega) W)
  rw [show ((1000 : Nat) : Int) = 1000 from rfl] at HE
  generalize Nat.gcd 1000 b = q at *
  obtain ⟨k, hk⟩ := hqd
  obtain ⟨n, hn⟩ := hql
  have hn0 : 0 < n := by rcases Nat.eq_zero_or_pos n with h | h <;> simp_all
  have hk1 : k ≤ 1000 := by rw [hk]; exact Nat.le_mul_of_pos_left _ hq0
  have hnb : n ≤ b := by rw [hn]; exact Nat.le_mul_of_pos_left _ hq0
  have hak : a * k ≤ 1600000000000 * 1000 := Nat.mul_le_mul (by omega) hk1
  have HR := hide (rate_eq (S := S) (L := L) (a := a) (b := b) g q (by rw [ha, Nat.mul_comm]) (by rw [hb, Nat.mul_comm]) hg0 k 1000 n (by rw [Nat.mul_comm]; exact hk.symm) (by rw [hn, Nat.mul_comm]) hq0)
  have HP := hide (fun (W : World) => product_any a k (by omega) (by omega) (by omega) W)
  have gS : (S : Int) ≤ 1600000000000 := by omega
  have gL : (L : Int) ≤ 200000000000 := by omega
  have gb : (b : Int) ≤ 200000000000 := by omega
  have g0 : (0 : Int) < (g : Int) := by omega
  have g1 : (g : Int) ≠ 0 := by omega
  have g2' : g ≤ L := by rw [hb]; exact Nat.le_mul_of_pos_right _ hb0
  have g2 : (g : Int) ≤ 200000000000 := by omega
  have q0 : (0 : Int) < (q : Int) := by omega
  have q1 : (q : Int) ≠ 0 := by omega
  have q2' : q ∣ 1000 := ⟨k, hk⟩
  have q2 : (q : Int) ≤ 1000 := by have := Nat.le_of_dvd (by omega) q2'; omega
  have d1 : (S : Int) / (g : Int) = (a : Int) := by rw [ha, Int.natCast_mul, Int.mul_ediv_cancel_left _ g1]
  have d2 : (L : Int) / (g : Int) = (b : Int) := by
    conv => lhs; rw [hb]
    rw [Int.natCast_mul, Int.mul_ediv_cancel_left _ g1]
  have d3 : (1000 : Int) / (q : Int) = (k : Int) := by rw [show (1000 : Int) = ((1000 : Nat) : Int) from rfl, hk, Int.natCast_mul, Int.mul_ediv_cancel_left _ q1]
  have d4 : (b : Int) / (q : Int) = (n : Int) := by
    conv => lhs; rw [hn]
    rw [Int.natCast_mul, Int.mul_ediv_cancel_left _ q1]
  have ga : (a : Int) ≤ 1600000000000 := by omega
  have gk : (k : Int) ≤ 1000 := by omega
  have gn : (n : Int) ≤ 200000000000 := by omega
  have D1 := hide d1; have D2 := hide d2; have D3 := hide d3; have D4 := hide d4
  clear d1 d2 d3 d4
  have m1 : max (1 : Int) (g : Int) = (g : Int) := by omega
  have gs : (s : Int) ≤ 200000000000 := by omega
  have HN0 := hide hn0
  clear ha hb hk hn hak hbL haS hk1 hnb hg0 hq0 hb0 hn0 hs hL hL2 g2' q2' hS hS2
  go_enter Try.func74, Try.ntmps74
  go_wp2_with fail
  refine (HD.out _).mono ?_
  rintro e w1 ⟨rfl, e1⟩
  have X1 := hide e1
  clear e1
  go_wp2_with fail
  have d1 := D1.out; have d2 := D2.out
  clear m1
  go_quiet (fail)
  clear d1 d2
  go_wp2_with fail
  refine (HE.out _).mono ?_
  rintro e w2 ⟨rfl, e2⟩
  have b2 := ((((Blk.new w 40 #[.int .i64 0, .int .i64 0]).ext X1.out).drewN _).ext e2)
  have EW2 := hide (Ext.trans (Ext.trans (Ext.trans (Ext.alloc _ _) X1.out) (Ext.drewN _ _)) e2)
  have c0 := b2.cell 0
  have c1 := b2.cell 1
  have f0 := b2.frozen 0
  have f1 := b2.frozen 1
  have z2 := b2.lt
  have HB2 := hide b2
  clear e2 b2
  go_wp2_with fail
  have d3 := D3.out; have d4 := D4.out
  go_quiet (fail)
  clear d3 d4
  go_wp2_with fail
  rw [← D3.out] at HP
  refine (HP.out _).mono ?_
  rintro e w' ⟨rfl, rfl⟩
  go_wp2_with fail
  refine gen_body fun W3 h3 => ?_
  have B3 : Blk W3 w.heap.size 40 #[.int .i64 ((a : Int) * (k : Int)), .int .i64 (n : Int)] := by rw [h3]; exact ((HB2.out.drewN _).set_ 0 _).set_ 1 _
  have E3 : Ext w W3 := by
    have ew := EW2.out
    rw [h3]
    exact (by repeat' (first | (with_reducible exact Below.refl _ _) | (with_reducible assumption) | (with_reducible refine below_drewN ?_ _) | (with_reducible refine Below.drew ?_) | (with_reducible refine ext_alloc ?_ _) | (with_reducible refine Below.setCell ?_ ?_ _) | go_size))
  have k0 := B3.cell 0
  have k1 := B3.cell 1
  clear h3 c0 c1 f0 f1 z2 e1
  refine bodyPost_ret (v := .tuple #[.agg #[.int .i64 ((a : Int) * (k : Int)), .int .i64 (n : Int)], .int .i64 0]) (by simp [results, Try.results74, go_sem, k0, k1]) rfl ⟨a * k, n, rfl, HN0.out, HR.out, E3⟩
end Go.Proofs.Ytkedjmepfcchoaa
