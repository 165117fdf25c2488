/- Several texts in one: Walk: marks (reference). Conditions as stated; Walk: CheckSamples (reference). Conditions as stated. -/
import Derived.Test.YtlonhkjplijlcaaMrg09
import Derived.Test.YtlonhkjplijlcaaMrg01
import Derived.Deep.DeepCutAuto
namespace Go.Proofs.Ytlonhkjplijlcaa
open Go.RowKit
end Go.Proofs.Ytlonhkjplijlcaa
namespace Go.Proofs.Ytlonhkjplijlcaa
open Go.RowKit
set_option linter.unusedVariables false in
set_option maxRecDepth 100000 in
set_option maxHeartbeats 8000000 in
theorem refSamples_any {A : Option Addr} {n c : Nat} {l : List Smp} {w : World} (h : At w 5 eSm A n c l) :
    Calls Try.prog 75 #[.slice A n c] w fun e w' => e = .returned (.int .i64 (smpF l)) ∧ Ext w w' := by
  have hb := h.bound
  have hl := h.len
  have H := hide h
  by_cases h5 : 5000 < n
  · have HF : Hid (smpF l = 2) := hide (by unfold smpF; rw [if_pos (by omega)])
    clear hl h
    go_enter Try.func75, Try.ntmps75
    go_wp2_with fail
    go_ret
    exact ⟨ret_int HF.out.symm, Ext.refl _⟩
  have h5' : n ≤ 5000 := by omega
  have HL := hide hl
  have HB : Hid (∀ i, i < n → (∀ j, j < i → smpEl l j = 0) → smpEl l i ≠ 0 → smpF l = smpEl l i) := hide (fun i hi ha hb => by
    have := firstF_at ha hb (n := l.length) (by omega)
    unfold smpF; rw [if_neg (by omega), if_pos (by omega), this])
  have HZ : Hid ((∀ j, j < n → smpEl l j = 0) → smpF l = if 0 < n ∧ noT (endS l) = true then 1 else 0) := hide (fun ha => by
    have := firstF_zero (g := smpEl l) (n := l.length) (fun j hj => ha j (by omega))
    unfold smpF; rw [if_neg (by omega), if_neg (by omega), hl])
  clear hl h h5
  go_enter Try.func75, Try.ntmps75
  go_wp2_with fail
  go_loopw [3] (fun ri wr => ∃ k : Nat, k ≤ n ∧ ri = .int .i64 k ∧ Hid (∀ j, j < k → smpEl l j = 0) ∧ Hid (Ext w wr)) (fun ri _ => n - (intOf ri).toNat)
  case atStart => exact ⟨0, by omega, rfl, hide (fun j hj => by omega), hide (Ext.refl _)⟩
  case round =>
    obtain ⟨k, hk, rfl, HA, HX⟩ := hrel
    by_cases hlt : k < n
    · obtain ⟨b, off, rfl, _⟩ := H.out.addr (by omega)
      have hat := H.out.ext HX.out
      have a0 := hat.cellK hlt dS 0 _ rfl
      have a1 := hat.cellK hlt dS 1 _ rfl
      have a2 := hat.cellK hlt dS 2 _ rfl
      have a3 := hat.cellK hlt dS 3 _ rfl
      have a4 := hat.cellK hlt dS 4 _ rfl
      rw [Nat.add_zero] at a0
      have hel : smpEl l k = if badS (l.getD k dS) = true then 1 else if 0 < k ∧ (l.getD k dS).time ≠ (l.getD (k - 1) dS).time + (l.getD (k - 1) dS).step then 8 else 0 := rfl
      have hbs : badS (l.getD k dS) = (noT (l.getD k dS).time || decide ((l.getD k dS).step < 0 ∨ 1000000000 < (l.getD k dS).step) || decide ((l.getD k dS).shift < -1000000000 ∨ 1000000000 < (l.getD k dS).shift) || decide ((l.getD k dS).size < 0 ∨ 100000 < (l.getD k dS).size)) := rfl
      have HR : Hid (smpEl l k ≠ 0 → smpF l = smpEl l k) := hide (HB.out k hlt HA.out)
      have HG : Hid (smpEl l k = 0 → ∀ j, j < k + 1 → smpEl l j = 0) := hide (fun h0 j hj => by
        rcases Nat.lt_succ_iff_lt_or_eq.1 hj with h | h
        · exact HA.out j h
        · rw [h]; exact h0)
      have hp0 : 0 < k → wr.cell? ⟨b, off + (k - 1) * 5, none⟩ = some (.int .i64 (l.getD (k - 1) dS).time) := fun h0 => by have := hat.cellK (k := k - 1) (by omega) dS 0 _ rfl; rwa [Nat.add_zero] at this
      have hp1 : 0 < k → wr.cell? ⟨b, off + (k - 1) * 5 + 1, none⟩ = some (.int .i64 (l.getD (k - 1) dS).step) := fun h0 => hat.cellK (k := k - 1) (by omega) dS 1 _ rfl
      have hpb : 0 < k → badS (l.getD (k - 1) dS) = false := fun h0 => (smpEl_zero (HA.out (k - 1) (by omega))).1
      have hpb2 : 0 < k → (-1000000000000000 ≤ (l.getD (k - 1) dS).time ∧ (l.getD (k - 1) dS).time ≤ 1000000000000000) ∧ (0 ≤ (l.getD (k - 1) dS).step ∧ (l.getD (k - 1) dS).step ≤ 1000000000) := fun h0 => ⟨(badS_ok (hpb h0)).1, (badS_ok (hpb h0)).2.1⟩
      clear hpb hat
      generalize smpEl l k = fl at *
      generalize badS (l.getD k dS) = bd at *
      generalize (l.getD k dS).time = tm at *
      generalize (l.getD k dS).step = st at *
      generalize (l.getD k dS).shift = sh at *
      generalize (l.getD k dS).size = sz at *
      generalize (l.getD k dS).key = ky at *
      generalize (l.getD (k - 1) dS).time = pt at *
      generalize (l.getD (k - 1) dS).step = ps at *
      have i0 : (k : Int) < (n : Int) := by omega
      have HEL := hide hel
      have HBS := hide hbs
      clear hel hbs
      by_cases g1 : noT tm = true
      · have HT := hide (istime_no g1)
        have HF : Hid (smpF l = 1) := hide (by have h1 : fl = 1 := (by rw [HEL.out, HBS.out, if_pos (by rw [g1]; rfl)]); rw [HR.out (by omega), h1])
        clear hp0 hp1 hpb2 HR HG HEL HBS g1
        go_wp2_with (first | ((go_at_call 91; with_reducible refine (HT.out _).mono ?_); rintro e w' ⟨rfl, rfl⟩) | ((go_at_call 22; with_reducible refine (within_yes ⟨by omega, by omega⟩ _).mono ?_); rintro e w' ⟨rfl, rfl⟩) | ((go_at_call 22; with_reducible refine (within_no (by omega) _).mono ?_); rintro e w' ⟨rfl, rfl⟩))
        go_ret
        exact ⟨ret_int HF.out.symm, Ext.trans HX.out (by repeat' (first | (with_reducible exact Below.refl _ _) | (with_reducible assumption) | (with_reducible refine below_drewN ?_ _) | (with_reducible refine Below.drew ?_) | (with_reducible refine ext_alloc ?_ _) | (with_reducible refine Below.setCell ?_ ?_ _) | go_size))⟩
      have g1' : noT tm = false := by simpa using g1
      have HT := hide (istime_yes g1')
      have g1b : -1000000000000000 ≤ tm ∧ tm ≤ 1000000000000000 := by unfold noT at g1'; simp only [decide_eq_false_iff_not] at g1'; omega
      clear g1
      by_cases g2 : st < 0 ∨ 1000000000 < st
      · have HF : Hid (smpF l = 1) := hide (by have h1 : fl = 1 := (by rw [HEL.out, HBS.out, if_pos (by simp [g2])]); rw [HR.out (by omega), h1])
        clear hp0 hp1 hpb2 HR HG HEL HBS g1'
        go_wp2_with (first | ((go_at_call 91; with_reducible refine (HT.out _).mono ?_); rintro e w' ⟨rfl, rfl⟩) | ((go_at_call 22; with_reducible refine (within_yes ⟨by omega, by omega⟩ _).mono ?_); rintro e w' ⟨rfl, rfl⟩) | ((go_at_call 22; with_reducible refine (within_no (by omega) _).mono ?_); rintro e w' ⟨rfl, rfl⟩))
        go_ret
        exact ⟨ret_int HF.out.symm, Ext.trans HX.out (by repeat' (first | (with_reducible exact Below.refl _ _) | (with_reducible assumption) | (with_reducible refine below_drewN ?_ _) | (with_reducible refine Below.drew ?_) | (with_reducible refine ext_alloc ?_ _) | (with_reducible refine Below.setCell ?_ ?_ _) | go_size))⟩
      have g2' : 0 ≤ st ∧ st ≤ 1000000000 := by omega
      by_cases g3 : sh < -1000000000 ∨ 1000000000 < sh
      · have HF : Hid (smpF l = 1) := hide (by have h1 : fl = 1 := (by rw [HEL.out, HBS.out, if_pos (by simp [g3])]); rw [HR.out (by omega), h1])
        clear hp0 hp1 hpb2 HR HG HEL HBS g1'
        go_wp2_with (first | ((go_at_call 91; with_reducible refine (HT.out _).mono ?_); rintro e w' ⟨rfl, rfl⟩) | ((go_at_call 22; with_reducible refine (within_yes ⟨by omega, by omega⟩ _).mono ?_); rintro e w' ⟨rfl, rfl⟩) | ((go_at_call 22; with_reducible refine (within_no (by omega) _).mono ?_); rintro e w' ⟨rfl, rfl⟩))
        go_ret
        exact ⟨ret_int HF.out.symm, Ext.trans HX.out (by repeat' (first | (with_reducible exact Below.refl _ _) | (with_reducible assumption) | (with_reducible refine below_drewN ?_ _) | (with_reducible refine Below.drew ?_) | (with_reducible refine ext_alloc ?_ _) | (with_reducible refine Below.setCell ?_ ?_ _) | go_size))⟩
      have g3' : -1000000000 ≤ sh ∧ sh ≤ 1000000000 := by omega
      by_cases g4 : sz < 0 ∨ 100000 < sz
      · have HF : Hid (smpF l = 1) := hide (by have h1 : fl = 1 := (by rw [HEL.out, HBS.out, if_pos (by simp [g4])]); rw [HR.out (by omega), h1])
        clear hp0 hp1 hpb2 HR HG HEL HBS g1'
        go_wp2_with (first | ((go_at_call 91; with_reducible refine (HT.out _).mono ?_); rintro e w' ⟨rfl, rfl⟩) | ((go_at_call 22; with_reducible refine (within_yes ⟨by omega, by omega⟩ _).mono ?_); rintro e w' ⟨rfl, rfl⟩) | ((go_at_call 22; with_reducible refine (within_no (by omega) _).mono ?_); rintro e w' ⟨rfl, rfl⟩))
        go_ret
        exact ⟨ret_int HF.out.symm, Ext.trans HX.out (by repeat' (first | (with_reducible exact Below.refl _ _) | (with_reducible assumption) | (with_reducible refine below_drewN ?_ _) | (with_reducible refine Below.drew ?_) | (with_reducible refine ext_alloc ?_ _) | (with_reducible refine Below.setCell ?_ ?_ _) | go_size))⟩
      have g4' : 0 ≤ sz ∧ sz ≤ 100000 := by omega
      have hbd : bd = false := by rw [HBS.out, g1']; simp; omega
      have hel := HEL.out
      rw [hbd, if_neg (by simp)] at hel
      clear hbd g1' g2 g3 g4 HEL HBS
      rcases Nat.eq_zero_or_pos k with hk0 | hk0
      · rw [if_neg (by omega)] at hel
        have HA2 := hide (HG.out hel)
        have d0 : decide ((0 : Int) < (k : Int)) = false := by simp; omega
        have d1 : decide (0 < k) = false := by simp; omega
        clear hel HR HG hp0 hp1 hpb2 hk0
        go_wp2_with (first | ((go_at_call 91; with_reducible refine (HT.out _).mono ?_); rintro e w' ⟨rfl, rfl⟩) | ((go_at_call 22; with_reducible refine (within_yes ⟨by omega, by omega⟩ _).mono ?_); rintro e w' ⟨rfl, rfl⟩) | ((go_at_call 22; with_reducible refine (within_no (by omega) _).mono ?_); rintro e w' ⟨rfl, rfl⟩))
        go_quiet (fail)
        go_wp2_with fail
        exact ⟨⟨k + 1, by omega, by go_num, HA2, hide (Ext.trans HX.out (by repeat' (first | (with_reducible exact Below.refl _ _) | (with_reducible assumption) | (with_reducible refine below_drewN ?_ _) | (with_reducible refine Below.drew ?_) | (with_reducible refine ext_alloc ?_ _) | (with_reducible refine Below.setCell ?_ ?_ _) | go_size)))⟩, by simp [intOf]; omega⟩
      · have d0 : decide ((0 : Int) < (k : Int)) = true := by simp; omega
        have i2 : IntKind.i64.wrap ((k : Int) - 1) = (k : Int) - 1 := by rw [IntKind.wrap_i64]; omega
        have i3 : ((k : Int) - 1).toNat = k - 1 := by omega
        have i4 : 0 ≤ (k : Int) - 1 := by omega
        have i5 : (k : Int) - 1 < (n : Int) := by omega
        have i6 : 1 ≤ (k : Int) := by omega
        have i7 : (k : Int) ≤ (n : Int) := by omega
        obtain ⟨⟨q1, q2⟩, q3, q4⟩ := hpb2 hk0
        have i8 : IntKind.i64.wrap (pt + ps) = pt + ps := by rw [IntKind.wrap_i64]; omega
        have hq0 := (Ext.alloc wr (.cells #[.int .i64 tm, .int .i64 st, .int .i64 sh, .int .i64 sz, .bool ky] 55)).cell (hp0 hk0)
        have hq1 := (Ext.alloc wr (.cells #[.int .i64 tm, .int .i64 st, .int .i64 sh, .int .i64 sz, .bool ky] 55)).cell (hp1 hk0)
        clear hp0 hp1 hpb2
        by_cases hC : tm = pt + ps
        · rw [if_neg (fun h => h.2 hC)] at hel
          have HA2 := hide (HG.out hel)
          have d2 : (tm != pt + ps) = false := by simp [hC]
          have HC := hide hC
          clear hel HR HG hC
          go_wp2_with (first | ((go_at_call 91; with_reducible refine (HT.out _).mono ?_); rintro e w' ⟨rfl, rfl⟩) | ((go_at_call 22; with_reducible refine (within_yes ⟨by omega, by omega⟩ _).mono ?_); rintro e w' ⟨rfl, rfl⟩) | ((go_at_call 22; with_reducible refine (within_no (by omega) _).mono ?_); rintro e w' ⟨rfl, rfl⟩))
          go_quiet (fail)
          go_wp2_with fail
          exact ⟨⟨k + 1, by omega, by go_num, HA2, hide (Ext.trans HX.out (by repeat' (first | (with_reducible exact Below.refl _ _) | (with_reducible assumption) | (with_reducible refine below_drewN ?_ _) | (with_reducible refine Below.drew ?_) | (with_reducible refine ext_alloc ?_ _) | (with_reducible refine Below.setCell ?_ ?_ _) | go_size)))⟩, by simp [intOf]; omega⟩
        · rw [if_pos ⟨hk0, hC⟩] at hel
          have HF : Hid (smpF l = 8) := hide (by rw [HR.out (by omega), hel])
          have d2 : (tm != pt + ps) = true := by simp [hC]
          clear hel HR HG hC
          go_wp2_with (first | ((go_at_call 91; with_reducible refine (HT.out _).mono ?_); rintro e w' ⟨rfl, rfl⟩) | ((go_at_call 22; with_reducible refine (within_yes ⟨by omega, by omega⟩ _).mono ?_); rintro e w' ⟨rfl, rfl⟩) | ((go_at_call 22; with_reducible refine (within_no (by omega) _).mono ?_); rintro e w' ⟨rfl, rfl⟩))
          go_quiet (fail)
          go_wp2_with fail
          go_ret
          exact ⟨ret_int HF.out.symm, Ext.trans HX.out (by repeat' (first | (with_reducible exact Below.refl _ _) | (with_reducible assumption) | (with_reducible refine below_drewN ?_ _) | (with_reducible refine Below.drew ?_) | (with_reducible refine ext_alloc ?_ _) | (with_reducible refine Below.setCell ?_ ?_ _) | go_size))⟩
    obtain rfl : n = k := by omega
    have hz := HZ.out HA.out
    have i0 : ¬ (n : Int) < (n : Int) := by omega
    rcases Nat.eq_zero_or_pos n with hn0 | hn0
    · rw [if_neg (fun h => by omega)] at hz
      have HF := hide hz
      have d0 : decide ((0 : Int) < (n : Int)) = false := by simp; omega
      have d1 : decide (0 < n) = false := by simp; omega
      clear hz hn0 HZ
      go_wp2_with fail
      go_quiet (fail)
      go_wp2_with fail
      go_ret
      exact ⟨ret_int HF.out.symm, Ext.trans HX.out (by repeat' (first | (with_reducible exact Below.refl _ _) | (with_reducible assumption) | (with_reducible refine below_drewN ?_ _) | (with_reducible refine Below.drew ?_) | (with_reducible refine ext_alloc ?_ _) | (with_reducible refine Below.setCell ?_ ?_ _) | go_size))⟩
    · obtain ⟨b, off, rfl, _⟩ := H.out.addr hn0
      have hat := H.out.ext HX.out
      have p0 := hat.cellK (k := n - 1) (by omega) dS 0 _ rfl
      have p1 := hat.cellK (k := n - 1) (by omega) dS 1 _ rfl
      rw [Nat.add_zero] at p0
      have hbl := badS_ok (smpEl_zero (HA.out (n - 1) (by omega))).1
      have he : endS l = (l.getD (n - 1) dS).time + (l.getD (n - 1) dS).step := by unfold endS; rw [HL.out]
      rw [he] at hz
      generalize (l.getD (n - 1) dS).time = pt at *
      generalize (l.getD (n - 1) dS).step = ps at *
      obtain ⟨⟨q1, q2⟩, ⟨q3, q4⟩, _, _⟩ := hbl
      have d0 : decide ((0 : Int) < (n : Int)) = true := by simp; omega
      have i2 : IntKind.i64.wrap ((n : Int) - 1) = (n : Int) - 1 := by rw [IntKind.wrap_i64]; omega
      have i3 : ((n : Int) - 1).toNat = n - 1 := by omega
      have i4 : 0 ≤ (n : Int) - 1 := by omega
      have i5 : (n : Int) - 1 < (n : Int) := by omega
      have i6 : 1 ≤ (n : Int) := by omega
      have i8 : IntKind.i64.wrap (pt + ps) = pt + ps := by rw [IntKind.wrap_i64]; omega
      clear hat he HZ
      cases hb : noT (pt + ps) with
      | true =>
        rw [if_pos ⟨hn0, hb⟩] at hz
        have HF := hide hz
        have HT := hide (istime_no hb)
        clear hz hb
        go_wp2_with fail
        go_quiet ((go_at_call 91; exact quiet_left (HT.out _)))
        go_wp2_with fail
        go_ret
        exact ⟨ret_int HF.out.symm, Ext.trans HX.out (by repeat' (first | (with_reducible exact Below.refl _ _) | (with_reducible assumption) | (with_reducible refine below_drewN ?_ _) | (with_reducible refine Below.drew ?_) | (with_reducible refine ext_alloc ?_ _) | (with_reducible refine Below.setCell ?_ ?_ _) | go_size))⟩
      | false =>
        rw [if_neg (fun h => by rw [hb] at h; cases h.2)] at hz
        have HF := hide hz
        have HT := hide (istime_yes hb)
        clear hz hb
        go_wp2_with fail
        go_quiet ((go_at_call 91; exact quiet_left (HT.out _)))
        go_wp2_with fail
        go_ret
        exact ⟨ret_int HF.out.symm, Ext.trans HX.out (by repeat' (first | (with_reducible exact Below.refl _ _) | (with_reducible assumption) | (with_reducible refine below_drewN ?_ _) | (with_reducible refine Below.drew ?_) | (with_reducible refine ext_alloc ?_ _) | (with_reducible refine Below.setCell ?_ ?_ _) | go_size))⟩
end Go.Proofs.Ytlonhkjplijlcaa
