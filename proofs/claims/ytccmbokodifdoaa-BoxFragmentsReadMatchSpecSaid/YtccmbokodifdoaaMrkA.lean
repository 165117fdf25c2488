/- Walk: marks (program). Conditions as stated. -/
import Derived.Test.YtccmbokodifdoaaMrkP
import Derived.Test.YtccmbokodifdoaaSmpA
namespace Go.Proofs.Ytccmbokodifdoaa
open Go.RowKit
set_option linter.unusedVariables false in
set_option linter.unusedSimpArgs false in
set_option maxRecDepth 100000 in
set_option maxHeartbeats 8000000 in
theorem keyMarks_any {A : Option Addr} {n c : Nat} {l : List Smp} {w : World} (h : At w 5 eSm A n c l) :
    Calls Try.prog 35 #[.slice A n c] w fun e w' => e = .returned (.int .u8 (mkN l : Int)) ∧ Ext w w' := by
  have hb := h.bound
  have HL := hide h.len
  have H := hide h
  have d0 : Hid (decide ((0 : Int) < (n : Int)) = (decide (0 < l.length) && pK l 0)) := hide (by rw [pK_zero, HL.out]; simp)
  clear h
  go_enter Try.func35, Try.ntmps35
  go_wp2_with fail
  go_loopw [3, 4, 12] (fun r3 r4 ri wr => ∃ (k m : Nat) (fb : Bool), k ≤ n ∧ ri = .int .i64 k ∧ r3 = .int .u8 (m : Int) ∧ r4 = .bool fb ∧ Hid (mk3 (pS l k) (pH l k) (pZ l k) = m) ∧ Hid (fb = (decide (0 < l.length) && pK l k)) ∧ Hid (Ext w wr)) (fun _ _ ri _ => n - (intOf ri).toNat)
  case atStart => exact ⟨0, 7, _, by omega, rfl, rfl, rfl, hide (by rw [pS_zero, pH_zero, pZ_zero]; rfl), hide (by rw [pK_zero, HL.out]; simp), hide (Ext.refl _)⟩
  case round =>
    obtain ⟨k, m, fb, hk, rfl, rfl, rfl, HM, HF, HX⟩ := hrel
    have hm8 : m < 8 := by rw [← HM.out]; exact mk3_lt _ _ _
    by_cases hlt : k < n
    · obtain ⟨b, off, rfl, _⟩ := H.out.addr (by omega)
      have hat := H.out.ext HX.out
      have a0 := hat.cellK hlt dS 0 _ rfl
      have a1 := hat.cellK hlt dS 1 _ rfl
      have a2 := hat.cellK hlt dS 2 _ rfl
      have a3 := hat.cellK hlt dS 3 _ rfl
      have a4 := hat.cellK hlt dS 4 _ rfl
      rw [Nat.add_zero] at a0
      have b1 := hat.cellK (k := 0) (by omega) dS 1 _ rfl
      have b3 := hat.cellK (k := 0) (by omega) dS 3 _ rfl
      rw [Nat.zero_mul, Nat.add_zero] at b1 b3
      have HS := hide (pS_succ l k)
      have HH := hide (pH_succ l k)
      have HZ := hide (pZ_succ l k)
      have HK := hide (pK_succ l k)
      generalize (l.getD k dS).time = tm at *
      generalize (l.getD k dS).step = st at *
      generalize (l.getD k dS).shift = sh at *
      generalize (l.getD k dS).size = sz at *
      generalize (l.getD k dS).key = ky at *
      generalize (l.getD 0 dS).step = st0 at *
      generalize (l.getD 0 dS).size = sz0 at *
      have e1 := (Ext.alloc wr (.cells #[.int .i64 tm, .int .i64 st, .int .i64 sh, .int .i64 sz, .bool ky] 31)).cell b1
      have e3 := (Ext.alloc wr (.cells #[.int .i64 tm, .int .i64 st, .int .i64 sh, .int .i64 sz, .bool ky] 31)).cell b3
      have i0 : (k : Int) < (n : Int) := by omega
      have i1 : (0 : Int) < (n : Int) := by omega
      have i8 : IntKind.i64.wrap ((k : Int) + 1) = (k : Int) + 1 := by rw [IntKind.wrap_i64]; omega
      have HDS : Hid (pS l (k + 1) = (pS l k && decide (st = st0))) := HS
      have HDH : Hid (pH l (k + 1) = (pH l k && decide (sh = 0))) := HH
      have HDZ : Hid (pZ l (k + 1) = (pZ l k && decide (sz = sz0))) := HZ
      generalize pS l k = a at *
      generalize pH l k = bb at *
      generalize pZ l k = cc at *
      clear hat HS HH HZ b1 b3
      have HL0 : Hid (decide (0 < l.length) = true) := hide (by have := HL.out; simp; omega)
      have HFT : Hid (fb = true → (ky == ((k : Int) == 0)) = (decide (0 < l.length) && pK l (k + 1))) := hide (fun hf => by
        have h2 := HF.out
        rw [hf, HL0.out] at h2
        rw [HL0.out, HK.out]
        have h3 : pK l k = true := by simpa using h2.symm
        rw [h3]
        have h4 : ((k : Int) == 0) = decide (k = 0) := by rw [Bool.eq_iff_iff]; simp
        rw [h4]
        cases ky <;> cases decide (k = 0) <;> rfl)
      have HFF : Hid (fb = false → false = (decide (0 < l.length) && pK l (k + 1))) := hide (fun hf => by
        have h2 := HF.out
        rw [hf, HL0.out] at h2
        rw [HL0.out, HK.out]
        have h3 : pK l k = false := by simpa using h2.symm
        rw [h3]; rfl)
      rcases Classical.em (st = st0) with g1 | g1 <;> rcases Classical.em (sh = 0) with g2 | g2 <;> rcases Classical.em (sz = sz0) with g3 | g3
      · have d1 : (st != st0) = false := by simp [g1]
        have d2 : (sh != 0) = false := by simp [g2]
        have d3 : (sz != sz0) = false := by simp [g3]
        have G1 := hide g1
        have G2 := hide g2
        have G3 := hide g3
        clear g1 g2 g3
        have HMF : Hid (mk3 (pS l (k + 1)) (pH l (k + 1)) (pZ l (k + 1)) = m) := hide (by rw [HDS.out, HDH.out, HDZ.out, ← HM.out]; simp [G1.out, G2.out, G3.out, mk3_s, mk3_h, mk3_z])
        cases fb with
        | true =>
          have HFX := hide (HFT.out rfl)
          clear HFT HFF
          go_wp2_with fail
          go_quiet (fail)
          go_wp2_with fail
          go_quiet (fail)
          go_wp2_with fail
          exact ⟨⟨k + 1, _, _, by omega, by go_num, rfl, rfl, HMF, HFX, hide (Ext.trans HX.out (by repeat' (first | (with_reducible exact Below.refl _ _) | (with_reducible assumption) | (with_reducible refine below_drewN ?_ _) | (with_reducible refine Below.drew ?_) | (with_reducible refine ext_alloc ?_ _) | (with_reducible refine Below.setCell ?_ ?_ _) | go_size)))⟩, by simp [intOf]; omega⟩
        | false =>
          have HFX := hide (HFF.out rfl)
          clear HFT HFF
          go_wp2_with fail
          go_quiet (fail)
          go_wp2_with fail
          go_quiet (fail)
          go_wp2_with fail
          exact ⟨⟨k + 1, _, _, by omega, by go_num, rfl, rfl, HMF, HFX, hide (Ext.trans HX.out (by repeat' (first | (with_reducible exact Below.refl _ _) | (with_reducible assumption) | (with_reducible refine below_drewN ?_ _) | (with_reducible refine Below.drew ?_) | (with_reducible refine ext_alloc ?_ _) | (with_reducible refine Below.setCell ?_ ?_ _) | go_size)))⟩, by simp [intOf]; omega⟩
      · have d1 : (st != st0) = false := by simp [g1]
        have d2 : (sh != 0) = false := by simp [g2]
        have d3 : (sz != sz0) = true := by simp [g3]
        obtain ⟨m3, hm3⟩ : ∃ q, q = (m &&& 251) := ⟨_, rfl⟩
        have lm3 : m3 ≤ m := by rw [hm3]; exact Nat.and_le_left
        have um3 : bits .andNot .u8 (m : Int) 4 = (m3 : Int) := by rw [u8_andNot _ _ (by omega) (by omega) (by omega) (by omega), hm3]; simp
        have Hm3 := hide hm3
        clear hm3
        have G1 := hide g1
        have G2 := hide g2
        have G3 := hide g3
        clear g1 g2 g3
        have HMF : Hid (mk3 (pS l (k + 1)) (pH l (k + 1)) (pZ l (k + 1)) = m3) := hide (by rw [HDS.out, HDH.out, HDZ.out, Hm3.out, ← HM.out]; simp [G1.out, G2.out, G3.out, mk3_s, mk3_h, mk3_z])
        cases fb with
        | true =>
          have HFX := hide (HFT.out rfl)
          clear HFT HFF
          go_wp2_with fail
          go_quiet (fail)
          go_wp2_with fail
          go_quiet (fail)
          go_wp2_with fail
          exact ⟨⟨k + 1, _, _, by omega, by go_num, rfl, rfl, HMF, HFX, hide (Ext.trans HX.out (by repeat' (first | (with_reducible exact Below.refl _ _) | (with_reducible assumption) | (with_reducible refine below_drewN ?_ _) | (with_reducible refine Below.drew ?_) | (with_reducible refine ext_alloc ?_ _) | (with_reducible refine Below.setCell ?_ ?_ _) | go_size)))⟩, by simp [intOf]; omega⟩
        | false =>
          have HFX := hide (HFF.out rfl)
          clear HFT HFF
          go_wp2_with fail
          go_quiet (fail)
          go_wp2_with fail
          go_quiet (fail)
          go_wp2_with fail
          exact ⟨⟨k + 1, _, _, by omega, by go_num, rfl, rfl, HMF, HFX, hide (Ext.trans HX.out (by repeat' (first | (with_reducible exact Below.refl _ _) | (with_reducible assumption) | (with_reducible refine below_drewN ?_ _) | (with_reducible refine Below.drew ?_) | (with_reducible refine ext_alloc ?_ _) | (with_reducible refine Below.setCell ?_ ?_ _) | go_size)))⟩, by simp [intOf]; omega⟩
      · have d1 : (st != st0) = false := by simp [g1]
        have d2 : (sh != 0) = true := by simp [g2]
        obtain ⟨m2, hm2⟩ : ∃ q, q = (m &&& 253) := ⟨_, rfl⟩
        have lm2 : m2 ≤ m := by rw [hm2]; exact Nat.and_le_left
        have um2 : bits .andNot .u8 (m : Int) 2 = (m2 : Int) := by rw [u8_andNot _ _ (by omega) (by omega) (by omega) (by omega), hm2]; simp
        have Hm2 := hide hm2
        clear hm2
        have d3 : (sz != sz0) = false := by simp [g3]
        have G1 := hide g1
        have G2 := hide g2
        have G3 := hide g3
        clear g1 g2 g3
        have HMF : Hid (mk3 (pS l (k + 1)) (pH l (k + 1)) (pZ l (k + 1)) = m2) := hide (by rw [HDS.out, HDH.out, HDZ.out, Hm2.out, ← HM.out]; simp [G1.out, G2.out, G3.out, mk3_s, mk3_h, mk3_z])
        cases fb with
        | true =>
          have HFX := hide (HFT.out rfl)
          clear HFT HFF
          go_wp2_with fail
          go_quiet (fail)
          go_wp2_with fail
          go_quiet (fail)
          go_wp2_with fail
          exact ⟨⟨k + 1, _, _, by omega, by go_num, rfl, rfl, HMF, HFX, hide (Ext.trans HX.out (by repeat' (first | (with_reducible exact Below.refl _ _) | (with_reducible assumption) | (with_reducible refine below_drewN ?_ _) | (with_reducible refine Below.drew ?_) | (with_reducible refine ext_alloc ?_ _) | (with_reducible refine Below.setCell ?_ ?_ _) | go_size)))⟩, by simp [intOf]; omega⟩
        | false =>
          have HFX := hide (HFF.out rfl)
          clear HFT HFF
          go_wp2_with fail
          go_quiet (fail)
          go_wp2_with fail
          go_quiet (fail)
          go_wp2_with fail
          exact ⟨⟨k + 1, _, _, by omega, by go_num, rfl, rfl, HMF, HFX, hide (Ext.trans HX.out (by repeat' (first | (with_reducible exact Below.refl _ _) | (with_reducible assumption) | (with_reducible refine below_drewN ?_ _) | (with_reducible refine Below.drew ?_) | (with_reducible refine ext_alloc ?_ _) | (with_reducible refine Below.setCell ?_ ?_ _) | go_size)))⟩, by simp [intOf]; omega⟩
      · have d1 : (st != st0) = false := by simp [g1]
        have d2 : (sh != 0) = true := by simp [g2]
        obtain ⟨m2, hm2⟩ : ∃ q, q = (m &&& 253) := ⟨_, rfl⟩
        have lm2 : m2 ≤ m := by rw [hm2]; exact Nat.and_le_left
        have um2 : bits .andNot .u8 (m : Int) 2 = (m2 : Int) := by rw [u8_andNot _ _ (by omega) (by omega) (by omega) (by omega), hm2]; simp
        have Hm2 := hide hm2
        clear hm2
        have d3 : (sz != sz0) = true := by simp [g3]
        obtain ⟨m3, hm3⟩ : ∃ q, q = (m2 &&& 251) := ⟨_, rfl⟩
        have lm3 : m3 ≤ m2 := by rw [hm3]; exact Nat.and_le_left
        have um3 : bits .andNot .u8 (m2 : Int) 4 = (m3 : Int) := by rw [u8_andNot _ _ (by omega) (by omega) (by omega) (by omega), hm3]; simp
        have Hm3 := hide hm3
        clear hm3
        have G1 := hide g1
        have G2 := hide g2
        have G3 := hide g3
        clear g1 g2 g3
        have HMF : Hid (mk3 (pS l (k + 1)) (pH l (k + 1)) (pZ l (k + 1)) = m3) := hide (by rw [HDS.out, HDH.out, HDZ.out, Hm3.out, Hm2.out, ← HM.out]; simp [G1.out, G2.out, G3.out, mk3_s, mk3_h, mk3_z])
        cases fb with
        | true =>
          have HFX := hide (HFT.out rfl)
          clear HFT HFF
          go_wp2_with fail
          go_quiet (fail)
          go_wp2_with fail
          go_quiet (fail)
          go_wp2_with fail
          exact ⟨⟨k + 1, _, _, by omega, by go_num, rfl, rfl, HMF, HFX, hide (Ext.trans HX.out (by repeat' (first | (with_reducible exact Below.refl _ _) | (with_reducible assumption) | (with_reducible refine below_drewN ?_ _) | (with_reducible refine Below.drew ?_) | (with_reducible refine ext_alloc ?_ _) | (with_reducible refine Below.setCell ?_ ?_ _) | go_size)))⟩, by simp [intOf]; omega⟩
        | false =>
          have HFX := hide (HFF.out rfl)
          clear HFT HFF
          go_wp2_with fail
          go_quiet (fail)
          go_wp2_with fail
          go_quiet (fail)
          go_wp2_with fail
          exact ⟨⟨k + 1, _, _, by omega, by go_num, rfl, rfl, HMF, HFX, hide (Ext.trans HX.out (by repeat' (first | (with_reducible exact Below.refl _ _) | (with_reducible assumption) | (with_reducible refine below_drewN ?_ _) | (with_reducible refine Below.drew ?_) | (with_reducible refine ext_alloc ?_ _) | (with_reducible refine Below.setCell ?_ ?_ _) | go_size)))⟩, by simp [intOf]; omega⟩
      · have d1 : (st != st0) = true := by simp [g1]
        obtain ⟨m1, hm1⟩ : ∃ q, q = (m &&& 254) := ⟨_, rfl⟩
        have lm1 : m1 ≤ m := by rw [hm1]; exact Nat.and_le_left
        have um1 : bits .andNot .u8 (m : Int) 1 = (m1 : Int) := by rw [u8_andNot _ _ (by omega) (by omega) (by omega) (by omega), hm1]; simp
        have Hm1 := hide hm1
        clear hm1
        have d2 : (sh != 0) = false := by simp [g2]
        have d3 : (sz != sz0) = false := by simp [g3]
        have G1 := hide g1
        have G2 := hide g2
        have G3 := hide g3
        clear g1 g2 g3
        have HMF : Hid (mk3 (pS l (k + 1)) (pH l (k + 1)) (pZ l (k + 1)) = m1) := hide (by rw [HDS.out, HDH.out, HDZ.out, Hm1.out, ← HM.out]; simp [G1.out, G2.out, G3.out, mk3_s, mk3_h, mk3_z])
        cases fb with
        | true =>
          have HFX := hide (HFT.out rfl)
          clear HFT HFF
          go_wp2_with fail
          go_quiet (fail)
          go_wp2_with fail
          go_quiet (fail)
          go_wp2_with fail
          exact ⟨⟨k + 1, _, _, by omega, by go_num, rfl, rfl, HMF, HFX, hide (Ext.trans HX.out (by repeat' (first | (with_reducible exact Below.refl _ _) | (with_reducible assumption) | (with_reducible refine below_drewN ?_ _) | (with_reducible refine Below.drew ?_) | (with_reducible refine ext_alloc ?_ _) | (with_reducible refine Below.setCell ?_ ?_ _) | go_size)))⟩, by simp [intOf]; omega⟩
        | false =>
          have HFX := hide (HFF.out rfl)
          clear HFT HFF
          go_wp2_with fail
          go_quiet (fail)
          go_wp2_with fail
          go_quiet (fail)
          go_wp2_with fail
          exact ⟨⟨k + 1, _, _, by omega, by go_num, rfl, rfl, HMF, HFX, hide (Ext.trans HX.out (by repeat' (first | (with_reducible exact Below.refl _ _) | (with_reducible assumption) | (with_reducible refine below_drewN ?_ _) | (with_reducible refine Below.drew ?_) | (with_reducible refine ext_alloc ?_ _) | (with_reducible refine Below.setCell ?_ ?_ _) | go_size)))⟩, by simp [intOf]; omega⟩
      · have d1 : (st != st0) = true := by simp [g1]
        obtain ⟨m1, hm1⟩ : ∃ q, q = (m &&& 254) := ⟨_, rfl⟩
        have lm1 : m1 ≤ m := by rw [hm1]; exact Nat.and_le_left
        have um1 : bits .andNot .u8 (m : Int) 1 = (m1 : Int) := by rw [u8_andNot _ _ (by omega) (by omega) (by omega) (by omega), hm1]; simp
        have Hm1 := hide hm1
        clear hm1
        have d2 : (sh != 0) = false := by simp [g2]
        have d3 : (sz != sz0) = true := by simp [g3]
        obtain ⟨m3, hm3⟩ : ∃ q, q = (m1 &&& 251) := ⟨_, rfl⟩
        have lm3 : m3 ≤ m1 := by rw [hm3]; exact Nat.and_le_left
        have um3 : bits .andNot .u8 (m1 : Int) 4 = (m3 : Int) := by rw [u8_andNot _ _ (by omega) (by omega) (by omega) (by omega), hm3]; simp
        have Hm3 := hide hm3
        clear hm3
        have G1 := hide g1
        have G2 := hide g2
        have G3 := hide g3
        clear g1 g2 g3
        have HMF : Hid (mk3 (pS l (k + 1)) (pH l (k + 1)) (pZ l (k + 1)) = m3) := hide (by rw [HDS.out, HDH.out, HDZ.out, Hm3.out, Hm1.out, ← HM.out]; simp [G1.out, G2.out, G3.out, mk3_s, mk3_h, mk3_z])
        cases fb with
        | true =>
          have HFX := hide (HFT.out rfl)
          clear HFT HFF
          go_wp2_with fail
          go_quiet (fail)
          go_wp2_with fail
          go_quiet (fail)
          go_wp2_with fail
          exact ⟨⟨k + 1, _, _, by omega, by go_num, rfl, rfl, HMF, HFX, hide (Ext.trans HX.out (by repeat' (first | (with_reducible exact Below.refl _ _) | (with_reducible assumption) | (with_reducible refine below_drewN ?_ _) | (with_reducible refine Below.drew ?_) | (with_reducible refine ext_alloc ?_ _) | (with_reducible refine Below.setCell ?_ ?_ _) | go_size)))⟩, by simp [intOf]; omega⟩
        | false =>
          have HFX := hide (HFF.out rfl)
          clear HFT HFF
          go_wp2_with fail
          go_quiet (fail)
          go_wp2_with fail
          go_quiet (fail)
          go_wp2_with fail
          exact ⟨⟨k + 1, _, _, by omega, by go_num, rfl, rfl, HMF, HFX, hide (Ext.trans HX.out (by repeat' (first | (with_reducible exact Below.refl _ _) | (with_reducible assumption) | (with_reducible refine below_drewN ?_ _) | (with_reducible refine Below.drew ?_) | (with_reducible refine ext_alloc ?_ _) | (with_reducible refine Below.setCell ?_ ?_ _) | go_size)))⟩, by simp [intOf]; omega⟩
      · have d1 : (st != st0) = true := by simp [g1]
        obtain ⟨m1, hm1⟩ : ∃ q, q = (m &&& 254) := ⟨_, rfl⟩
        have lm1 : m1 ≤ m := by rw [hm1]; exact Nat.and_le_left
        have um1 : bits .andNot .u8 (m : Int) 1 = (m1 : Int) := by rw [u8_andNot _ _ (by omega) (by omega) (by omega) (by omega), hm1]; simp
        have Hm1 := hide hm1
        clear hm1
        have d2 : (sh != 0) = true := by simp [g2]
        obtain ⟨m2, hm2⟩ : ∃ q, q = (m1 &&& 253) := ⟨_, rfl⟩
        have lm2 : m2 ≤ m1 := by rw [hm2]; exact Nat.and_le_left
        have um2 : bits .andNot .u8 (m1 : Int) 2 = (m2 : Int) := by rw [u8_andNot _ _ (by omega) (by omega) (by omega) (by omega), hm2]; simp
        have Hm2 := hide hm2
        clear hm2
        have d3 : (sz != sz0) = false := by simp [g3]
        have G1 := hide g1
        have G2 := hide g2
        have G3 := hide g3
        clear g1 g2 g3
        have HMF : Hid (mk3 (pS l (k + 1)) (pH l (k + 1)) (pZ l (k + 1)) = m2) := hide (by rw [HDS.out, HDH.out, HDZ.out, Hm2.out, Hm1.out, ← HM.out]; simp [G1.out, G2.out, G3.out, mk3_s, mk3_h, mk3_z])
        cases fb with
        | true =>
          have HFX := hide (HFT.out rfl)
          clear HFT HFF
          go_wp2_with fail
          go_quiet (fail)
          go_wp2_with fail
          go_quiet (fail)
          go_wp2_with fail
          exact ⟨⟨k + 1, _, _, by omega, by go_num, rfl, rfl, HMF, HFX, hide (Ext.trans HX.out (by repeat' (first | (with_reducible exact Below.refl _ _) | (with_reducible assumption) | (with_reducible refine below_drewN ?_ _) | (with_reducible refine Below.drew ?_) | (with_reducible refine ext_alloc ?_ _) | (with_reducible refine Below.setCell ?_ ?_ _) | go_size)))⟩, by simp [intOf]; omega⟩
        | false =>
          have HFX := hide (HFF.out rfl)
          clear HFT HFF
          go_wp2_with fail
          go_quiet (fail)
          go_wp2_with fail
          go_quiet (fail)
          go_wp2_with fail
          exact ⟨⟨k + 1, _, _, by omega, by go_num, rfl, rfl, HMF, HFX, hide (Ext.trans HX.out (by repeat' (first | (with_reducible exact Below.refl _ _) | (with_reducible assumption) | (with_reducible refine below_drewN ?_ _) | (with_reducible refine Below.drew ?_) | (with_reducible refine ext_alloc ?_ _) | (with_reducible refine Below.setCell ?_ ?_ _) | go_size)))⟩, by simp [intOf]; omega⟩
      · have d1 : (st != st0) = true := by simp [g1]
        obtain ⟨m1, hm1⟩ : ∃ q, q = (m &&& 254) := ⟨_, rfl⟩
        have lm1 : m1 ≤ m := by rw [hm1]; exact Nat.and_le_left
        have um1 : bits .andNot .u8 (m : Int) 1 = (m1 : Int) := by rw [u8_andNot _ _ (by omega) (by omega) (by omega) (by omega), hm1]; simp
        have Hm1 := hide hm1
        clear hm1
        have d2 : (sh != 0) = true := by simp [g2]
        obtain ⟨m2, hm2⟩ : ∃ q, q = (m1 &&& 253) := ⟨_, rfl⟩
        have lm2 : m2 ≤ m1 := by rw [hm2]; exact Nat.and_le_left
        have um2 : bits .andNot .u8 (m1 : Int) 2 = (m2 : Int) := by rw [u8_andNot _ _ (by omega) (by omega) (by omega) (by omega), hm2]; simp
        have Hm2 := hide hm2
        clear hm2
        have d3 : (sz != sz0) = true := by simp [g3]
        obtain ⟨m3, hm3⟩ : ∃ q, q = (m2 &&& 251) := ⟨_, rfl⟩
        have lm3 : m3 ≤ m2 := by rw [hm3]; exact Nat.and_le_left
        have um3 : bits .andNot .u8 (m2 : Int) 4 = (m3 : Int) := by rw [u8_andNot _ _ (by omega) (by omega) (by omega) (by omega), hm3]; simp
        have Hm3 := hide hm3
        clear hm3
        have G1 := hide g1
        have G2 := hide g2
        have G3 := hide g3
        clear g1 g2 g3
        have HMF : Hid (mk3 (pS l (k + 1)) (pH l (k + 1)) (pZ l (k + 1)) = m3) := hide (by rw [HDS.out, HDH.out, HDZ.out, Hm3.out, Hm2.out, Hm1.out, ← HM.out]; simp [G1.out, G2.out, G3.out, mk3_s, mk3_h, mk3_z])
        cases fb with
        | true =>
          have HFX := hide (HFT.out rfl)
          clear HFT HFF
          go_wp2_with fail
          go_quiet (fail)
          go_wp2_with fail
          go_quiet (fail)
          go_wp2_with fail
          exact ⟨⟨k + 1, _, _, by omega, by go_num, rfl, rfl, HMF, HFX, hide (Ext.trans HX.out (by repeat' (first | (with_reducible exact Below.refl _ _) | (with_reducible assumption) | (with_reducible refine below_drewN ?_ _) | (with_reducible refine Below.drew ?_) | (with_reducible refine ext_alloc ?_ _) | (with_reducible refine Below.setCell ?_ ?_ _) | go_size)))⟩, by simp [intOf]; omega⟩
        | false =>
          have HFX := hide (HFF.out rfl)
          clear HFT HFF
          go_wp2_with fail
          go_quiet (fail)
          go_wp2_with fail
          go_quiet (fail)
          go_wp2_with fail
          exact ⟨⟨k + 1, _, _, by omega, by go_num, rfl, rfl, HMF, HFX, hide (Ext.trans HX.out (by repeat' (first | (with_reducible exact Below.refl _ _) | (with_reducible assumption) | (with_reducible refine below_drewN ?_ _) | (with_reducible refine Below.drew ?_) | (with_reducible refine ext_alloc ?_ _) | (with_reducible refine Below.setCell ?_ ?_ _) | go_size)))⟩, by simp [intOf]; omega⟩
    · obtain rfl : n = k := by omega
      have HMN : Hid (mkN l = m + (if fb = true then 8 else 0)) := hide (by have h1 := HF.out; rw [HL.out] at h1; unfold mkN; rw [HL.out, HM.out, ← h1])
      have i1 : ¬ (n : Int) < (n : Int) := by omega
      have hmm : m ||| 8 = m + 8 := by rw [← HM.out]; exact mk3_8 _ _ _
      have u8_ : bits .or .u8 (m : Int) 8 = (m : Int) + 8 := by rw [u8_or _ _ (by omega) (by omega) (by omega) (by omega)]; simp [hmm]
      clear hmm
      cases fb with
      | true =>
        have HR : Hid ((mkN l : Int) = (m : Int) + 8) := hide (by rw [HMN.out]; simp)
        go_wp2_with fail
        go_ret
        exact ⟨ret_int HR.out.symm, HX.out⟩
      | false =>
        have HR : Hid ((mkN l : Int) = (m : Int)) := hide (by rw [HMN.out]; simp)
        go_wp2_with fail
        go_ret
        exact ⟨ret_int HR.out.symm, HX.out⟩
end Go.Proofs.Ytccmbokodifdoaa
