/- Walk: marks (reference). Conditions as stated. -/
import Derived.Test.YtccmbokodifdoaaMrkP
import Derived.Test.YtccmbokodifdoaaSmpA
import Derived.Deep.DeepCutAuto
namespace Go.Proofs.Ytccmbokodifdoaa
open Go.RowKit
theorem mk3_sub1 (b c : Bool) : mk3 true b c = mk3 false b c + 1 := by cases b <;> cases c <;> rfl
theorem mk3_sub2 (a c : Bool) : mk3 a true c = mk3 a false c + 2 := by cases a <;> cases c <;> rfl
theorem mk3_sub4 (a b : Bool) : mk3 a b true = mk3 a b false + 4 := by cases a <;> cases b <;> rfl
theorem mk3_bit1 (a b c : Bool) : mk3 a b c % 2 = if a = true then 1 else 0 := by cases a <;> cases b <;> cases c <;> rfl
theorem mk3_bit2 (a b c : Bool) : mk3 a b c / 2 % 2 = if b = true then 1 else 0 := by cases a <;> cases b <;> cases c <;> rfl
theorem mk3_bit4 (a b c : Bool) : mk3 a b c / 4 % 2 = if c = true then 1 else 0 := by cases a <;> cases b <;> cases c <;> rfl
set_option linter.unusedVariables false in
set_option linter.unusedSimpArgs false in
set_option maxRecDepth 100000 in
set_option maxHeartbeats 8000000 in
theorem refMarks_any {A : Option Addr} {n c : Nat} {l : List Smp} {w : World} (h : At w 5 eSm A n c l) :
    Calls Try.prog 37 #[.slice A n c] w fun e w' => e = .returned (.int .i64 (mkN l : Int)) ∧ Ext w w' := by
  have hb := h.bound
  have HL := hide h.len
  have H := hide h
  clear h
  go_enter Try.func37, Try.ntmps37
  go_wp2_with fail
  go_loopw [3, 4, 5] (fun r3 r4 ri wr => ∃ (k m : Nat) (fb : Bool), k ≤ n ∧ ri = .int .i64 k ∧ r3 = .int .i64 (m : Int) ∧ r4 = .bool fb ∧ Hid (mk3 (pS l k) (pH l k) (pZ l k) = m) ∧ Hid (fb = (decide (0 < l.length) && pK l k)) ∧ Hid (Ext w wr)) (fun _ _ ri _ => n - (intOf ri).toNat)
  case atStart => exact ⟨0, 7, _, by omega, rfl, rfl, rfl, hide (by rw [pS_zero, pH_zero, pZ_zero]; rfl), hide (by rw [pK_zero, HL.out]; simp), hide (Ext.refl _)⟩
  case round =>
    obtain ⟨k, m, fb, hk, rfl, rfl, rfl, HM, HF, HX⟩ := hrel
    have hm8 : m < 8 := by rw [← HM.out]; exact mk3_lt _ _ _
    by_cases hlt : k < n
    · obtain ⟨b, off, rfl, _⟩ := H.out.addr (by omega)
      have HCL := hide (fun (W : World) (hW : Ext w W) => (⟨(H.out.ext hW).cellK hlt dS 1 _ rfl, (H.out.ext hW).cellK hlt dS 2 _ rfl, (H.out.ext hW).cellK hlt dS 3 _ rfl, (H.out.ext hW).cellK hlt dS 4 _ rfl, by
        have := (H.out.ext hW).cellK (k := 0) (by omega) dS 1 _ rfl
        rwa [Nat.zero_mul, Nat.add_zero] at this, by
        have := (H.out.ext hW).cellK (k := 0) (by omega) dS 3 _ rfl
        rwa [Nat.zero_mul, Nat.add_zero] at this⟩ : W.cell? ⟨b, off + k * 5 + 1, none⟩ = some (.int .i64 (l.getD k dS).step) ∧ W.cell? ⟨b, off + k * 5 + 2, none⟩ = some (.int .i64 (l.getD k dS).shift) ∧ W.cell? ⟨b, off + k * 5 + 3, none⟩ = some (.int .i64 (l.getD k dS).size) ∧ W.cell? ⟨b, off + k * 5 + 4, none⟩ = some (.bool (l.getD k dS).key) ∧ W.cell? ⟨b, off + 1, none⟩ = some (.int .i64 (l.getD 0 dS).step) ∧ W.cell? ⟨b, off + 3, none⟩ = some (.int .i64 (l.getD 0 dS).size)))
      have HDS := hide (pS_succ l k)
      have HDH := hide (pH_succ l k)
      have HDZ := hide (pZ_succ l k)
      have HK := hide (pK_succ l k)
      generalize (l.getD k dS).step = st at *
      generalize (l.getD k dS).shift = sh at *
      generalize (l.getD k dS).size = sz at *
      generalize (l.getD k dS).key = ky at *
      generalize (l.getD 0 dS).step = st0 at *
      generalize (l.getD 0 dS).size = sz0 at *
      have i0 : (k : Int) < (n : Int) := by omega
      have i1 : (0 : Int) < (n : Int) := by omega
      have i9 : (0 : Int) ≤ (k : Int) := by omega
      have i8 : IntKind.i64.wrap ((k : Int) + 1) = (k : Int) + 1 := by rw [IntKind.wrap_i64]; omega
      have HL0 : Hid (decide (0 < l.length) = true) := hide (by have := HL.out; simp; omega)
      have HFT : Hid (fb = true → (ky == ((k : Int) == 0)) = (decide (0 < l.length) && pK l (k + 1))) := hide (fun hf => by
        have h2 := HF.out
        rw [hf, HL0.out] at h2
        rw [HL0.out, HK.out]
        have h3 : pK l k = true := by simpa using h2.symm
        rw [h3]
        have h4 : ((k : Int) == 0) = decide (k = 0) := by rw [Bool.eq_iff_iff]; simp
        rw [h4]
        cases ky <;> cases decide (k = 0) <;> rfl)
      have HFF : Hid (fb = false → false = (decide (0 < l.length) && pK l (k + 1))) := hide (fun hf => by
        have h2 := HF.out
        rw [hf, HL0.out] at h2
        rw [HL0.out, HK.out]
        have h3 : pK l k = false := by simpa using h2.symm
        rw [h3]; rfl)
      generalize pS l k = a at *
      generalize pH l k = bb at *
      generalize pZ l k = cc at *

      -- the 1. mark
      obtain ⟨m1, hm1⟩ : ∃ q, q = mk3 (a && decide (st = st0)) bb cc := ⟨_, rfl⟩
      have hm18 : m1 < 8 := by rw [hm1]; exact mk3_lt _ _ _
      have HM1 : Hid (mk3 (a && decide (st = st0)) bb cc = m1) := hide hm1.symm
      have HT1 : Hid (((m : Int) % 2 == 1) = a) := hide (by have h1 := mk3_bit1 a bb cc; rw [HM.out] at h1; rw [Bool.eq_iff_iff]; cases a <;> simp at h1 ⊢ <;> omega)
      have HSB1 : Hid ((¬ st = st0) → a = true → m = m1 + 1) := hide (fun h1 h2 => by rw [← HM.out, ← HM1.out, h2]; simp [h1, mk3_sub1])
      have HSE1 : Hid (st = st0 ∨ a = false → m1 = m) := hide (fun h1 => by rw [← HM.out, ← HM1.out]; rcases h1 with h1 | h1 <;> simp [h1])
      clear hm1
      go_upto_region 6 with (fail)
      go_cut [29] (fun s29 wx => ∃ t1 : Bool, s29 = .bool t1 ∧ Hid (t1 = true → m = m1 + 1) ∧ Hid (t1 = false → m1 = m) ∧ Hid (Ext w wx))
      case first =>
        obtain ⟨a1, a2, a3, a4, b1, b3⟩ := HCL.out _ HX.out
        rcases Classical.em (st = st0) with g1 | g1
        · have d1 : (st != st0) = false := by simp [g1]
          have HQ := hide (HSE1.out (.inl g1))
          clear g1
          go_wp2_with fail
          go_quiet (fail)
          go_wp2_with fail
          go_meet
          exact ⟨false, rfl, hide (fun h => by cases h), hide (fun _ => HQ.out), hide (Ext.trans HX.out (by repeat' (first | (with_reducible exact Below.refl _ _) | (with_reducible assumption) | (with_reducible refine below_drewN ?_ _) | (with_reducible refine Below.drew ?_) | (with_reducible refine ext_alloc ?_ _) | (with_reducible refine Below.setCell ?_ ?_ _) | go_size)))⟩
        · have d1 : (st != st0) = true := by simp [g1]
          cases hbit : a with
          | true =>
            have HQ := hide (HSB1.out g1 hbit)
            have d2 : ((m : Int) % 2 == 1) = true := by rw [HT1.out, hbit]
            clear g1 hbit
            go_wp2_with fail
            go_quiet (fail)
            go_wp2_with fail
            go_meet
            exact ⟨true, rfl, hide (fun _ => HQ.out), hide (fun h => by cases h), hide (Ext.trans HX.out (by repeat' (first | (with_reducible exact Below.refl _ _) | (with_reducible assumption) | (with_reducible refine below_drewN ?_ _) | (with_reducible refine Below.drew ?_) | (with_reducible refine ext_alloc ?_ _) | (with_reducible refine Below.setCell ?_ ?_ _) | go_size)))⟩
          | false =>
            have HQ := hide (HSE1.out (.inr hbit))
            have d2 : ((m : Int) % 2 == 1) = false := by rw [HT1.out, hbit]
            clear g1 hbit
            go_wp2_with fail
            go_quiet (fail)
            go_wp2_with fail
            go_meet
            exact ⟨false, rfl, hide (fun h => by cases h), hide (fun _ => HQ.out), hide (Ext.trans HX.out (by repeat' (first | (with_reducible exact Below.refl _ _) | (with_reducible assumption) | (with_reducible refine below_drewN ?_ _) | (with_reducible refine Below.drew ?_) | (with_reducible refine ext_alloc ?_ _) | (with_reducible refine Below.setCell ?_ ?_ _) | go_size)))⟩
      case rest =>
      obtain ⟨t1, rfl, HQT, HQF, HX⟩ := hcut
      go_upto_if 29 with (fail)
      go_cut [3] (fun s3 wx => s3 = .int .i64 (m1 : Int) ∧ Hid (Ext w wx))
      case first =>
        cases t1 with
        | true =>
          have hq := HQT.out rfl
          have w1_ : IntKind.i64.wrap ((m : Int) - 1) = (m1 : Int) := by rw [IntKind.wrap_i64]; omega
          have HX2 := hide HX.out
          clear hq HQT HQF
          go_wp2_with fail
          go_meet
          exact ⟨by first | rfl | (rw [w1_]), HX2⟩
        | false =>
          have hq := hide (HQF.out rfl)
          clear HQT HQF
          go_wp2_with fail
          go_meet
          exact ⟨by rw [hq.out], HX⟩
      case rest =>
      obtain ⟨rfl, HX⟩ := hcut
      clear HQT HQF HT1 HSB1 HSE1
      -- the 2. mark
      obtain ⟨m2, hm2⟩ : ∃ q, q = mk3 (a && decide (st = st0)) (bb && decide (sh = 0)) cc := ⟨_, rfl⟩
      have hm28 : m2 < 8 := by rw [hm2]; exact mk3_lt _ _ _
      have HM2 : Hid (mk3 (a && decide (st = st0)) (bb && decide (sh = 0)) cc = m2) := hide hm2.symm
      have HT2 : Hid (((m1 : Int) / 2 % 2 == 1) = bb) := hide (by have h1 := mk3_bit2 (a && decide (st = st0)) bb cc; rw [HM1.out] at h1; rw [Bool.eq_iff_iff]; cases bb <;> simp at h1 ⊢ <;> omega)
      have HSB2 : Hid ((¬ sh = 0) → bb = true → m1 = m2 + 2) := hide (fun h1 h2 => by rw [← HM1.out, ← HM2.out, h2]; simp [h1, mk3_sub2])
      have HSE2 : Hid (sh = 0 ∨ bb = false → m2 = m1) := hide (fun h1 => by rw [← HM1.out, ← HM2.out]; rcases h1 with h1 | h1 <;> simp [h1])
      clear hm2
      go_upto_region 8 with (fail)
      go_cut [43] (fun s43 wx => ∃ t2 : Bool, s43 = .bool t2 ∧ Hid (t2 = true → m1 = m2 + 2) ∧ Hid (t2 = false → m2 = m1) ∧ Hid (Ext w wx))
      case first =>
        obtain ⟨a1, a2, a3, a4, b1, b3⟩ := HCL.out _ HX.out
        rcases Classical.em (sh = 0) with g1 | g1
        · have d1 : (sh != 0) = false := by simp [g1]
          have HQ := hide (HSE2.out (.inl g1))
          clear g1
          go_wp2_with fail
          go_meet
          exact ⟨false, rfl, hide (fun h => by cases h), hide (fun _ => HQ.out), hide (Ext.trans HX.out (by repeat' (first | (with_reducible exact Below.refl _ _) | (with_reducible assumption) | (with_reducible refine below_drewN ?_ _) | (with_reducible refine Below.drew ?_) | (with_reducible refine ext_alloc ?_ _) | (with_reducible refine Below.setCell ?_ ?_ _) | go_size)))⟩
        · have d1 : (sh != 0) = true := by simp [g1]
          cases hbit : bb with
          | true =>
            have HQ := hide (HSB2.out g1 hbit)
            have d2 : ((m1 : Int) / 2 % 2 == 1) = true := by rw [HT2.out, hbit]
            clear g1 hbit
            go_wp2_with fail
            go_meet
            exact ⟨true, rfl, hide (fun _ => HQ.out), hide (fun h => by cases h), hide (Ext.trans HX.out (by repeat' (first | (with_reducible exact Below.refl _ _) | (with_reducible assumption) | (with_reducible refine below_drewN ?_ _) | (with_reducible refine Below.drew ?_) | (with_reducible refine ext_alloc ?_ _) | (with_reducible refine Below.setCell ?_ ?_ _) | go_size)))⟩
          | false =>
            have HQ := hide (HSE2.out (.inr hbit))
            have d2 : ((m1 : Int) / 2 % 2 == 1) = false := by rw [HT2.out, hbit]
            clear g1 hbit
            go_wp2_with fail
            go_meet
            exact ⟨false, rfl, hide (fun h => by cases h), hide (fun _ => HQ.out), hide (Ext.trans HX.out (by repeat' (first | (with_reducible exact Below.refl _ _) | (with_reducible assumption) | (with_reducible refine below_drewN ?_ _) | (with_reducible refine Below.drew ?_) | (with_reducible refine ext_alloc ?_ _) | (with_reducible refine Below.setCell ?_ ?_ _) | go_size)))⟩
      case rest =>
      obtain ⟨t2, rfl, HQT, HQF, HX⟩ := hcut
      go_upto_if 43 with (fail)
      go_cut [3] (fun s3 wx => s3 = .int .i64 (m2 : Int) ∧ Hid (Ext w wx))
      case first =>
        cases t2 with
        | true =>
          have hq := HQT.out rfl
          have w1_ : IntKind.i64.wrap ((m1 : Int) - 2) = (m2 : Int) := by rw [IntKind.wrap_i64]; omega
          have HX2 := hide HX.out
          clear hq HQT HQF
          go_wp2_with fail
          go_meet
          exact ⟨by first | rfl | (rw [w1_]), HX2⟩
        | false =>
          have hq := hide (HQF.out rfl)
          clear HQT HQF
          go_wp2_with fail
          go_meet
          exact ⟨by rw [hq.out], HX⟩
      case rest =>
      obtain ⟨rfl, HX⟩ := hcut
      clear HQT HQF HT2 HSB2 HSE2
      -- the 3. mark
      obtain ⟨m3, hm3⟩ : ∃ q, q = mk3 (a && decide (st = st0)) (bb && decide (sh = 0)) (cc && decide (sz = sz0)) := ⟨_, rfl⟩
      have hm38 : m3 < 8 := by rw [hm3]; exact mk3_lt _ _ _
      have HM3 : Hid (mk3 (a && decide (st = st0)) (bb && decide (sh = 0)) (cc && decide (sz = sz0)) = m3) := hide hm3.symm
      have HT3 : Hid (((m2 : Int) / 4 % 2 == 1) = cc) := hide (by have h1 := mk3_bit4 (a && decide (st = st0)) (bb && decide (sh = 0)) cc; rw [HM2.out] at h1; rw [Bool.eq_iff_iff]; cases cc <;> simp at h1 ⊢ <;> omega)
      have HSB3 : Hid ((¬ sz = sz0) → cc = true → m2 = m3 + 4) := hide (fun h1 h2 => by rw [← HM2.out, ← HM3.out, h2]; simp [h1, mk3_sub4])
      have HSE3 : Hid (sz = sz0 ∨ cc = false → m3 = m2) := hide (fun h1 => by rw [← HM2.out, ← HM3.out]; rcases h1 with h1 | h1 <;> simp [h1])
      clear hm3
      go_upto_region 10 with (fail)
      go_cut [61] (fun s61 wx => ∃ t3 : Bool, s61 = .bool t3 ∧ Hid (t3 = true → m2 = m3 + 4) ∧ Hid (t3 = false → m3 = m2) ∧ Hid (Ext w wx))
      case first =>
        obtain ⟨a1, a2, a3, a4, b1, b3⟩ := HCL.out _ HX.out
        rcases Classical.em (sz = sz0) with g1 | g1
        · have d1 : (sz != sz0) = false := by simp [g1]
          have HQ := hide (HSE3.out (.inl g1))
          clear g1
          go_wp2_with fail
          go_quiet (fail)
          go_wp2_with fail
          go_meet
          exact ⟨false, rfl, hide (fun h => by cases h), hide (fun _ => HQ.out), hide (Ext.trans HX.out (by repeat' (first | (with_reducible exact Below.refl _ _) | (with_reducible assumption) | (with_reducible refine below_drewN ?_ _) | (with_reducible refine Below.drew ?_) | (with_reducible refine ext_alloc ?_ _) | (with_reducible refine Below.setCell ?_ ?_ _) | go_size)))⟩
        · have d1 : (sz != sz0) = true := by simp [g1]
          cases hbit : cc with
          | true =>
            have HQ := hide (HSB3.out g1 hbit)
            have d2 : ((m2 : Int) / 4 % 2 == 1) = true := by rw [HT3.out, hbit]
            clear g1 hbit
            go_wp2_with fail
            go_quiet (fail)
            go_wp2_with fail
            go_meet
            exact ⟨true, rfl, hide (fun _ => HQ.out), hide (fun h => by cases h), hide (Ext.trans HX.out (by repeat' (first | (with_reducible exact Below.refl _ _) | (with_reducible assumption) | (with_reducible refine below_drewN ?_ _) | (with_reducible refine Below.drew ?_) | (with_reducible refine ext_alloc ?_ _) | (with_reducible refine Below.setCell ?_ ?_ _) | go_size)))⟩
          | false =>
            have HQ := hide (HSE3.out (.inr hbit))
            have d2 : ((m2 : Int) / 4 % 2 == 1) = false := by rw [HT3.out, hbit]
            clear g1 hbit
            go_wp2_with fail
            go_quiet (fail)
            go_wp2_with fail
            go_meet
            exact ⟨false, rfl, hide (fun h => by cases h), hide (fun _ => HQ.out), hide (Ext.trans HX.out (by repeat' (first | (with_reducible exact Below.refl _ _) | (with_reducible assumption) | (with_reducible refine below_drewN ?_ _) | (with_reducible refine Below.drew ?_) | (with_reducible refine ext_alloc ?_ _) | (with_reducible refine Below.setCell ?_ ?_ _) | go_size)))⟩
      case rest =>
      obtain ⟨t3, rfl, HQT, HQF, HX⟩ := hcut
      go_upto_if 61 with (fail)
      go_cut [3] (fun s3 wx => s3 = .int .i64 (m3 : Int) ∧ Hid (Ext w wx))
      case first =>
        cases t3 with
        | true =>
          have hq := HQT.out rfl
          have w1_ : IntKind.i64.wrap ((m2 : Int) - 4) = (m3 : Int) := by rw [IntKind.wrap_i64]; omega
          have HX2 := hide HX.out
          clear hq HQT HQF
          go_wp2_with fail
          go_meet
          exact ⟨by first | rfl | (rw [w1_]), HX2⟩
        | false =>
          have hq := hide (HQF.out rfl)
          clear HQT HQF
          go_wp2_with fail
          go_meet
          exact ⟨by rw [hq.out], HX⟩
      case rest =>
      obtain ⟨rfl, HX⟩ := hcut
      clear HQT HQF HT3 HSB3 HSE3
      have HMF : Hid (mk3 (pS l (k + 1)) (pH l (k + 1)) (pZ l (k + 1)) = m3) := hide (by rw [HDS.out, HDH.out, HDZ.out, HM3.out])
      obtain ⟨a1, a2, a3, a4, b1, b3⟩ := HCL.out _ HX.out
      cases fb with
      | true =>
        have HFX := hide (HFT.out rfl)
        clear HFT HFF
        go_wp2_with fail
        exact ⟨⟨k + 1, _, _, by omega, by go_num, rfl, rfl, HMF, HFX, hide (Ext.trans HX.out (by repeat' (first | (with_reducible exact Below.refl _ _) | (with_reducible assumption) | (with_reducible refine below_drewN ?_ _) | (with_reducible refine Below.drew ?_) | (with_reducible refine ext_alloc ?_ _) | (with_reducible refine Below.setCell ?_ ?_ _) | go_size)))⟩, by simp [intOf]; omega⟩
      | false =>
        have HFX := hide (HFF.out rfl)
        clear HFT HFF
        go_wp2_with fail
        exact ⟨⟨k + 1, _, _, by omega, by go_num, rfl, rfl, HMF, HFX, hide (Ext.trans HX.out (by repeat' (first | (with_reducible exact Below.refl _ _) | (with_reducible assumption) | (with_reducible refine below_drewN ?_ _) | (with_reducible refine Below.drew ?_) | (with_reducible refine ext_alloc ?_ _) | (with_reducible refine Below.setCell ?_ ?_ _) | go_size)))⟩, by simp [intOf]; omega⟩
    · obtain rfl : n = k := by omega
      have HMN : Hid (mkN l = m + (if fb = true then 8 else 0)) := hide (by have h1 := HF.out; rw [HL.out] at h1; unfold mkN; rw [HL.out, HM.out, ← h1])
      have i1 : ¬ (n : Int) < (n : Int) := by omega
      cases fb with
      | true =>
        have HR : Hid ((mkN l : Int) = (m : Int) + 8) := hide (by rw [HMN.out]; simp)
        go_wp2_with fail
        go_ret
        exact ⟨ret_int HR.out.symm, HX.out⟩
      | false =>
        have HR : Hid ((mkN l : Int) = (m : Int)) := hide (by rw [HMN.out]; simp)
        go_wp2_with fail
        go_ret
        exact ⟨ret_int HR.out.symm, HX.out⟩
end Go.Proofs.Ytccmbokodifdoaa
