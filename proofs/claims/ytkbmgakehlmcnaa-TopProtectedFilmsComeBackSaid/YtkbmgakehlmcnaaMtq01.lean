/- Several texts in one: Walk: CheckSamples (program). Conditions as stated; Boxes in plain words: trees, kinds, numbers, how bytes are read as boxes. Plain; Walks: numbers out of bytes, kinds (program). Conditions as stated; Trees of boxes in memory. No condition. -/
import Derived.Test.YtkbmgakehlmcnaaMtq00
import Init
namespace Go.Proofs.Ytkbmgakehlmcnaa
open Go.RowKit
abbrev eSm (x : Smp) : List Value := [.int .i64 x.time, .int .i64 x.step, .int .i64 x.shift, .int .i64 x.size, .bool x.key]
theorem len_eSm (x : Smp) : (eSm x).length = 5 := rfl
theorem one_eSm (x : Smp) : ∀ u ∈ eSm x, u.oneCell' = true := by
  intro u hu
  simp at hu
  rcases hu with rfl | rfl | rfl | rfl | rfl <;> rfl
theorem notime_no {n : Int} (h : noT n = false) (w : World) : Calls Try.prog 34 #[.int .i64 n] w fun e w' => e = .returned (.bool false) ∧ w = w' := by
  have h : -1000000000000000 ≤ n ∧ n ≤ 1000000000000000 := by unfold noT at h; simp only [decide_eq_false_iff_not] at h; omega
  obtain ⟨h1, h2⟩ := h
  go_enter Try.func34, Try.ntmps34
  go_wp2_with (first | ((go_at_call 14; with_reducible refine (out_no ⟨by omega, by omega⟩ _).mono ?_); rintro e w' ⟨rfl, rfl⟩) | ((go_at_call 14; with_reducible refine (out_yes (by omega) _).mono ?_); rintro e w' ⟨rfl, rfl⟩))
  go_ret
  exact ⟨ret_bool (by first | rfl | (simp; omega)), rfl⟩
theorem notime_yes {n : Int} (h : noT n = true) (w : World) : Calls Try.prog 34 #[.int .i64 n] w fun e w' => e = .returned (.bool true) ∧ w = w' := by
  have h : n < -1000000000000000 ∨ 1000000000000000 < n := by unfold noT at h; simpa using h
  by_cases h1 : n < -1000000000000000
  · clear h
    go_enter Try.func34, Try.ntmps34
    go_wp2_with (first | ((go_at_call 14; with_reducible refine (out_no ⟨by omega, by omega⟩ _).mono ?_); rintro e w' ⟨rfl, rfl⟩) | ((go_at_call 14; with_reducible refine (out_yes (by omega) _).mono ?_); rintro e w' ⟨rfl, rfl⟩))
    go_ret
    exact ⟨ret_bool (by first | rfl | (simp; omega)), rfl⟩
  · have h2 : 1000000000000000 < n := by omega
    have h3 : -1000000000000000 ≤ n := by omega
    clear h h1
    go_enter Try.func34, Try.ntmps34
    go_wp2_with (first | ((go_at_call 14; with_reducible refine (out_no ⟨by omega, by omega⟩ _).mono ?_); rintro e w' ⟨rfl, rfl⟩) | ((go_at_call 14; with_reducible refine (out_yes (by omega) _).mono ?_); rintro e w' ⟨rfl, rfl⟩))
    go_ret
    exact ⟨ret_bool (by first | rfl | (simp; omega)), rfl⟩
set_option linter.unusedVariables false in
set_option maxRecDepth 100000 in
set_option maxHeartbeats 8000000 in
theorem keySamples_any {A : Option Addr} {n c : Nat} {l : List Smp} {w : World} (h : At w 5 eSm A n c l) :
    Calls Try.prog 69 #[.slice A n c] w fun e w' => e = .returned (.int .i64 (smpF l)) ∧ Ext w w' := by
  have hb := h.bound
  have hl := h.len
  have H := hide h
  by_cases h5 : 5000 < n
  · have HF : Hid (smpF l = 2) := hide (by unfold smpF; rw [if_pos (by omega)])
    clear hl h
    go_enter Try.func69, Try.ntmps69
    go_wp2_with fail
    go_ret
    exact ⟨ret_int HF.out.symm, Ext.refl _⟩
  have h5' : n ≤ 5000 := by omega
  have HL := hide hl
  have HB : Hid (∀ i, i < n → (∀ j, j < i → smpEl l j = 0) → smpEl l i ≠ 0 → smpF l = smpEl l i) := hide (fun i hi ha hb => by
    have := firstF_at ha hb (n := l.length) (by omega)
    unfold smpF; rw [if_neg (by omega), if_pos (by omega), this])
  have HZ : Hid ((∀ j, j < n → smpEl l j = 0) → smpF l = if 0 < n ∧ noT (endS l) = true then 1 else 0) := hide (fun ha => by
    have := firstF_zero (g := smpEl l) (n := l.length) (fun j hj => ha j (by omega))
    unfold smpF; rw [if_neg (by omega), if_neg (by omega), hl])
  clear hl h h5
  go_enter Try.func69, Try.ntmps69
  go_wp2_with fail
  go_loopw [11] (fun ri wr => ∃ k : Nat, k ≤ n ∧ ri = .int .i64 k ∧ Hid (∀ j, j < k → smpEl l j = 0) ∧ Hid (Ext w wr)) (fun ri _ => n - (intOf ri).toNat)
  case atStart => exact ⟨0, by omega, rfl, hide (fun j hj => by omega), hide (Ext.refl _)⟩
  case round =>
    obtain ⟨k, hk, rfl, HA, HX⟩ := hrel
    by_cases hlt : k < n
    · obtain ⟨b, off, rfl, _⟩ := H.out.addr (by omega)
      have hat := H.out.ext HX.out
      have a0 := hat.cellK hlt dS 0 _ rfl
      have a1 := hat.cellK hlt dS 1 _ rfl
      have a2 := hat.cellK hlt dS 2 _ rfl
      have a3 := hat.cellK hlt dS 3 _ rfl
      have a4 := hat.cellK hlt dS 4 _ rfl
      rw [Nat.add_zero] at a0
      have hel : smpEl l k = if badS (l.getD k dS) = true then 1 else if 0 < k ∧ (l.getD k dS).time ≠ (l.getD (k - 1) dS).time + (l.getD (k - 1) dS).step then 8 else 0 := rfl
      have hbs : badS (l.getD k dS) = (noT (l.getD k dS).time || decide ((l.getD k dS).step < 0 ∨ 1000000000 < (l.getD k dS).step) || decide ((l.getD k dS).shift < -1000000000 ∨ 1000000000 < (l.getD k dS).shift) || decide ((l.getD k dS).size < 0 ∨ 100000 < (l.getD k dS).size)) := rfl
      have HR : Hid (smpEl l k ≠ 0 → smpF l = smpEl l k) := hide (HB.out k hlt HA.out)
      have HG : Hid (smpEl l k = 0 → ∀ j, j < k + 1 → smpEl l j = 0) := hide (fun h0 j hj => by
        rcases Nat.lt_succ_iff_lt_or_eq.1 hj with h | h
        · exact HA.out j h
        · rw [h]; exact h0)
      have hp0 : 0 < k → wr.cell? ⟨b, off + (k - 1) * 5, none⟩ = some (.int .i64 (l.getD (k - 1) dS).time) := fun h0 => by have := hat.cellK (k := k - 1) (by omega) dS 0 _ rfl; rwa [Nat.add_zero] at this
      have hp1 : 0 < k → wr.cell? ⟨b, off + (k - 1) * 5 + 1, none⟩ = some (.int .i64 (l.getD (k - 1) dS).step) := fun h0 => hat.cellK (k := k - 1) (by omega) dS 1 _ rfl
      have hpb : 0 < k → badS (l.getD (k - 1) dS) = false := fun h0 => (smpEl_zero (HA.out (k - 1) (by omega))).1
      have hpb2 : 0 < k → (-1000000000000000 ≤ (l.getD (k - 1) dS).time ∧ (l.getD (k - 1) dS).time ≤ 1000000000000000) ∧ (0 ≤ (l.getD (k - 1) dS).step ∧ (l.getD (k - 1) dS).step ≤ 1000000000) := fun h0 => ⟨(badS_ok (hpb h0)).1, (badS_ok (hpb h0)).2.1⟩
      clear hpb hat
      generalize smpEl l k = fl at *
      generalize badS (l.getD k dS) = bd at *
      generalize (l.getD k dS).time = tm at *
      generalize (l.getD k dS).step = st at *
      generalize (l.getD k dS).shift = sh at *
      generalize (l.getD k dS).size = sz at *
      generalize (l.getD k dS).key = ky at *
      generalize (l.getD (k - 1) dS).time = pt at *
      generalize (l.getD (k - 1) dS).step = ps at *
      have i0 : (k : Int) < (n : Int) := by omega
      have HEL := hide hel
      have HBS := hide hbs
      clear hel hbs
      by_cases g1 : noT tm = true
      · have HT := hide (notime_yes g1)
        have HF : Hid (smpF l = 1) := hide (by have h1 : fl = 1 := (by rw [HEL.out, HBS.out, if_pos (by rw [g1]; rfl)]); rw [HR.out (by omega), h1])
        clear hp0 hp1 hpb2 HR HG HEL HBS g1
        go_wp2_with (first | ((go_at_call 34; with_reducible refine (HT.out _).mono ?_); rintro e w' ⟨rfl, rfl⟩) | ((go_at_call 14; with_reducible refine (out_no ⟨by omega, by omega⟩ _).mono ?_); rintro e w' ⟨rfl, rfl⟩) | ((go_at_call 14; with_reducible refine (out_yes (by omega) _).mono ?_); rintro e w' ⟨rfl, rfl⟩))
        go_ret
        exact ⟨ret_int HF.out.symm, Ext.trans HX.out (by repeat' (first | (with_reducible first | exact Below.refl _ _ | assumption | refine below_drewN ?_ _ | refine Below.drew ?_ | refine ext_alloc ?_ _ | refine Below.setCell ?_ ?_ _) | go_size))⟩
      have g1' : noT tm = false := by simpa using g1
      have HT := hide (notime_no g1')
      have g1b : -1000000000000000 ≤ tm ∧ tm ≤ 1000000000000000 := by unfold noT at g1'; simp only [decide_eq_false_iff_not] at g1'; omega
      clear g1
      by_cases g2 : st < 0 ∨ 1000000000 < st
      · have HF : Hid (smpF l = 1) := hide (by have h1 : fl = 1 := (by rw [HEL.out, HBS.out, if_pos (by simp [g2])]); rw [HR.out (by omega), h1])
        clear hp0 hp1 hpb2 HR HG HEL HBS g1'
        go_wp2_with (first | ((go_at_call 34; with_reducible refine (HT.out _).mono ?_); rintro e w' ⟨rfl, rfl⟩) | ((go_at_call 14; with_reducible refine (out_no ⟨by omega, by omega⟩ _).mono ?_); rintro e w' ⟨rfl, rfl⟩) | ((go_at_call 14; with_reducible refine (out_yes (by omega) _).mono ?_); rintro e w' ⟨rfl, rfl⟩))
        go_ret
        exact ⟨ret_int HF.out.symm, Ext.trans HX.out (by repeat' (first | (with_reducible first | exact Below.refl _ _ | assumption | refine below_drewN ?_ _ | refine Below.drew ?_ | refine ext_alloc ?_ _ | refine Below.setCell ?_ ?_ _) | go_size))⟩
      have g2' : 0 ≤ st ∧ st ≤ 1000000000 := by omega
      by_cases g3 : sh < -1000000000 ∨ 1000000000 < sh
      · have HF : Hid (smpF l = 1) := hide (by have h1 : fl = 1 := (by rw [HEL.out, HBS.out, if_pos (by simp [g3])]); rw [HR.out (by omega), h1])
        clear hp0 hp1 hpb2 HR HG HEL HBS g1'
        go_wp2_with (first | ((go_at_call 34; with_reducible refine (HT.out _).mono ?_); rintro e w' ⟨rfl, rfl⟩) | ((go_at_call 14; with_reducible refine (out_no ⟨by omega, by omega⟩ _).mono ?_); rintro e w' ⟨rfl, rfl⟩) | ((go_at_call 14; with_reducible refine (out_yes (by omega) _).mono ?_); rintro e w' ⟨rfl, rfl⟩))
        go_ret
        exact ⟨ret_int HF.out.symm, Ext.trans HX.out (by repeat' (first | (with_reducible first | exact Below.refl _ _ | assumption | refine below_drewN ?_ _ | refine Below.drew ?_ | refine ext_alloc ?_ _ | refine Below.setCell ?_ ?_ _) | go_size))⟩
      have g3' : -1000000000 ≤ sh ∧ sh ≤ 1000000000 := by omega
      by_cases g4 : sz < 0 ∨ 100000 < sz
      · have HF : Hid (smpF l = 1) := hide (by have h1 : fl = 1 := (by rw [HEL.out, HBS.out, if_pos (by simp [g4])]); rw [HR.out (by omega), h1])
        clear hp0 hp1 hpb2 HR HG HEL HBS g1'
        go_wp2_with (first | ((go_at_call 34; with_reducible refine (HT.out _).mono ?_); rintro e w' ⟨rfl, rfl⟩) | ((go_at_call 14; with_reducible refine (out_no ⟨by omega, by omega⟩ _).mono ?_); rintro e w' ⟨rfl, rfl⟩) | ((go_at_call 14; with_reducible refine (out_yes (by omega) _).mono ?_); rintro e w' ⟨rfl, rfl⟩))
        go_ret
        exact ⟨ret_int HF.out.symm, Ext.trans HX.out (by repeat' (first | (with_reducible first | exact Below.refl _ _ | assumption | refine below_drewN ?_ _ | refine Below.drew ?_ | refine ext_alloc ?_ _ | refine Below.setCell ?_ ?_ _) | go_size))⟩
      have g4' : 0 ≤ sz ∧ sz ≤ 100000 := by omega
      have hbd : bd = false := by rw [HBS.out, g1']; simp; omega
      have hel := HEL.out
      rw [hbd, if_neg (by simp)] at hel
      clear hbd g1' g2 g3 g4 HEL HBS
      rcases Nat.eq_zero_or_pos k with hk0 | hk0
      · rw [if_neg (by omega)] at hel
        have HA2 := hide (HG.out hel)
        have d0 : decide ((0 : Int) < (k : Int)) = false := by simp; omega
        have d1 : decide (0 < k) = false := by simp; omega
        clear hel HR HG hp0 hp1 hpb2 hk0
        go_wp2_with (first | ((go_at_call 34; with_reducible refine (HT.out _).mono ?_); rintro e w' ⟨rfl, rfl⟩) | ((go_at_call 14; with_reducible refine (out_no ⟨by omega, by omega⟩ _).mono ?_); rintro e w' ⟨rfl, rfl⟩) | ((go_at_call 14; with_reducible refine (out_yes (by omega) _).mono ?_); rintro e w' ⟨rfl, rfl⟩))
        go_quiet (fail)
        go_wp2_with fail
        exact ⟨⟨k + 1, by omega, by go_num, HA2, hide (Ext.trans HX.out (by repeat' (first | (with_reducible first | exact Below.refl _ _ | assumption | refine below_drewN ?_ _ | refine Below.drew ?_ | refine ext_alloc ?_ _ | refine Below.setCell ?_ ?_ _) | go_size)))⟩, by simp [intOf]; omega⟩
      · have d0 : decide ((0 : Int) < (k : Int)) = true := by simp; omega
        have i2 : IntKind.i64.wrap ((k : Int) - 1) = (k : Int) - 1 := by rw [IntKind.wrap_i64]; omega
        have i3 : ((k : Int) - 1).toNat = k - 1 := by omega
        have i4 : 0 ≤ (k : Int) - 1 := by omega
        have i5 : (k : Int) - 1 < (n : Int) := by omega
        have i6 : 1 ≤ (k : Int) := by omega
        have i7 : (k : Int) ≤ (n : Int) := by omega
        obtain ⟨⟨q1, q2⟩, q3, q4⟩ := hpb2 hk0
        have i8 : IntKind.i64.wrap (pt + ps) = pt + ps := by rw [IntKind.wrap_i64]; omega
        have hq0 := (Ext.alloc wr (.cells #[.int .i64 tm, .int .i64 st, .int .i64 sh, .int .i64 sz, .bool ky] 44)).cell (hp0 hk0)
        have hq1 := (Ext.alloc wr (.cells #[.int .i64 tm, .int .i64 st, .int .i64 sh, .int .i64 sz, .bool ky] 44)).cell (hp1 hk0)
        clear hp0 hp1 hpb2
        by_cases hC : tm = pt + ps
        · rw [if_neg (fun h => h.2 hC)] at hel
          have HA2 := hide (HG.out hel)
          have d2 : (tm != pt + ps) = false := by simp [hC]
          have HC := hide hC
          clear hel HR HG hC
          go_wp2_with (first | ((go_at_call 34; with_reducible refine (HT.out _).mono ?_); rintro e w' ⟨rfl, rfl⟩) | ((go_at_call 14; with_reducible refine (out_no ⟨by omega, by omega⟩ _).mono ?_); rintro e w' ⟨rfl, rfl⟩) | ((go_at_call 14; with_reducible refine (out_yes (by omega) _).mono ?_); rintro e w' ⟨rfl, rfl⟩))
          go_quiet (fail)
          go_wp2_with fail
          exact ⟨⟨k + 1, by omega, by go_num, HA2, hide (Ext.trans HX.out (by repeat' (first | (with_reducible first | exact Below.refl _ _ | assumption | refine below_drewN ?_ _ | refine Below.drew ?_ | refine ext_alloc ?_ _ | refine Below.setCell ?_ ?_ _) | go_size)))⟩, by simp [intOf]; omega⟩
        · rw [if_pos ⟨hk0, hC⟩] at hel
          have HF : Hid (smpF l = 8) := hide (by rw [HR.out (by omega), hel])
          have d2 : (tm != pt + ps) = true := by simp [hC]
          clear hel HR HG hC
          go_wp2_with (first | ((go_at_call 34; with_reducible refine (HT.out _).mono ?_); rintro e w' ⟨rfl, rfl⟩) | ((go_at_call 14; with_reducible refine (out_no ⟨by omega, by omega⟩ _).mono ?_); rintro e w' ⟨rfl, rfl⟩) | ((go_at_call 14; with_reducible refine (out_yes (by omega) _).mono ?_); rintro e w' ⟨rfl, rfl⟩))
          go_quiet (fail)
          go_wp2_with fail
          go_ret
          exact ⟨ret_int HF.out.symm, Ext.trans HX.out (by repeat' (first | (with_reducible first | exact Below.refl _ _ | assumption | refine below_drewN ?_ _ | refine Below.drew ?_ | refine ext_alloc ?_ _ | refine Below.setCell ?_ ?_ _) | go_size))⟩
    obtain rfl : n = k := by omega
    have hz := HZ.out HA.out
    have i0 : ¬ (n : Int) < (n : Int) := by omega
    rcases Nat.eq_zero_or_pos n with hn0 | hn0
    · rw [if_neg (fun h => by omega)] at hz
      have HF := hide hz
      have d0 : decide ((0 : Int) < (n : Int)) = false := by simp; omega
      have d1 : decide (0 < n) = false := by simp; omega
      clear hz hn0 HZ
      go_wp2_with fail
      go_quiet (fail)
      go_wp2_with fail
      go_ret
      exact ⟨ret_int HF.out.symm, Ext.trans HX.out (by repeat' (first | (with_reducible first | exact Below.refl _ _ | assumption | refine below_drewN ?_ _ | refine Below.drew ?_ | refine ext_alloc ?_ _ | refine Below.setCell ?_ ?_ _) | go_size))⟩
    · obtain ⟨b, off, rfl, _⟩ := H.out.addr hn0
      have hat := H.out.ext HX.out
      have p0 := hat.cellK (k := n - 1) (by omega) dS 0 _ rfl
      have p1 := hat.cellK (k := n - 1) (by omega) dS 1 _ rfl
      rw [Nat.add_zero] at p0
      have hbl := badS_ok (smpEl_zero (HA.out (n - 1) (by omega))).1
      have he : endS l = (l.getD (n - 1) dS).time + (l.getD (n - 1) dS).step := by unfold endS; rw [HL.out]
      rw [he] at hz
      generalize (l.getD (n - 1) dS).time = pt at *
      generalize (l.getD (n - 1) dS).step = ps at *
      obtain ⟨⟨q1, q2⟩, ⟨q3, q4⟩, _, _⟩ := hbl
      have d0 : decide ((0 : Int) < (n : Int)) = true := by simp; omega
      have i2 : IntKind.i64.wrap ((n : Int) - 1) = (n : Int) - 1 := by rw [IntKind.wrap_i64]; omega
      have i3 : ((n : Int) - 1).toNat = n - 1 := by omega
      have i4 : 0 ≤ (n : Int) - 1 := by omega
      have i5 : (n : Int) - 1 < (n : Int) := by omega
      have i6 : 1 ≤ (n : Int) := by omega
      have i8 : IntKind.i64.wrap (pt + ps) = pt + ps := by rw [IntKind.wrap_i64]; omega
      clear hat he HZ
      cases hb : noT (pt + ps) with
      | true =>
        rw [if_pos ⟨hn0, hb⟩] at hz
        have HF := hide hz
        have HT := hide (notime_yes hb)
        clear hz hb
        go_wp2_with fail
        go_quiet ((go_at_call 34; exact quiet_left (HT.out _)))
        go_wp2_with fail
        go_ret
        exact ⟨ret_int HF.out.symm, Ext.trans HX.out (by repeat' (first | (with_reducible first | exact Below.refl _ _ | assumption | refine below_drewN ?_ _ | refine Below.drew ?_ | refine ext_alloc ?_ _ | refine Below.setCell ?_ ?_ _) | go_size))⟩
      | false =>
        rw [if_neg (fun h => by rw [hb] at h; cases h.2)] at hz
        have HF := hide hz
        have HT := hide (notime_no hb)
        clear hz hb
        go_wp2_with fail
        go_quiet ((go_at_call 34; exact quiet_left (HT.out _)))
        go_wp2_with fail
        go_ret
        exact ⟨ret_int HF.out.symm, Ext.trans HX.out (by repeat' (first | (with_reducible first | exact Below.refl _ _ | assumption | refine below_drewN ?_ _ | refine Below.drew ?_ | refine ext_alloc ?_ _ | refine Below.setCell ?_ ?_ _) | go_size))⟩
end Go.Proofs.Ytkbmgakehlmcnaa
namespace Go.Proofs.Ytkbmgakehlmcnaa
inductive BoxT where
  | mk (kind : List UInt8) (form : Int) (data : List UInt8) (kids : List BoxT)
def BoxT.kind : BoxT → List UInt8 | .mk k _ _ _ => k
def BoxT.form : BoxT → Int | .mk _ f _ _ => f
def BoxT.data : BoxT → List UInt8 | .mk _ _ d _ => d
def BoxT.kids : BoxT → List BoxT | .mk _ _ _ l => l
theorem kids_lt (x : BoxT) : SizeOf.sizeOf x.kids < SizeOf.sizeOf x := by
  cases x with
  | mk k f d l => simp only [BoxT.kids, BoxT.mk.sizeOf_spec]; omega
theorem elem_lt {l : List BoxT} {x : BoxT} (h : x ∈ l) : SizeOf.sizeOf x < SizeOf.sizeOf l := List.sizeOf_lt_of_mem h
def numB (l : List UInt8) : Nat := l.foldl (fun n c => n * 256 + c.toNat) 0
theorem numB_snoc (l : List UInt8) (c : UInt8) : numB (l ++ [c]) = numB l * 256 + c.toNat := by
  unfold numB; rw [List.foldl_append]; rfl
theorem numB_take {l : List UInt8} {k : Nat} (h : k < l.length) : numB (l.take (k + 1)) = numB (l.take k) * 256 + l[k].toNat := by
  rw [List.take_succ_eq_append_getElem h, numB_snoc]
theorem numB_lt : ∀ (n : Nat) (l : List UInt8), l.length = n → numB l < 256 ^ n
  | 0, l, h => by
    have := List.eq_nil_of_length_eq_zero h
    subst this
    decide
  | n + 1, l, h => by
    have hn : n < l.length := by omega
    have e : l = l.take n ++ [l[n]] := by
      conv => lhs; rw [← List.take_append_drop n l]
      congr 1
      rw [List.drop_eq_getElem_cons hn, List.drop_of_length_le (by omega)]
    have ih := numB_lt n (l.take n) (by rw [List.length_take]; omega)
    rw [e, numB_snoc]
    have := (l[n]).toNat_lt
    rw [Nat.pow_succ]
    omega
def kindC (c : UInt8) : Bool := (48 ≤ c.toNat && c.toNat ≤ 57) || (97 ≤ c.toNat && c.toNat ≤ 122)
def isKindB (l : List UInt8) : Bool := decide (l.length = 4) && l.all kindC
def kFilm : List UInt8 := [102, 105, 108, 109]
def kTrck : List UInt8 := [116, 114, 99, 107]
def kFrag : List UInt8 := [102, 114, 97, 103]
def hasKidsB (l : List UInt8) : Bool := l == kFilm || l == kTrck || l == kFrag
inductive NodeT where
  | mk (kind : List UInt8) (form : Int) (beg dat en : Nat) (kids : List NodeT)
def NodeT.kind : NodeT → List UInt8 | .mk k _ _ _ _ _ => k
def NodeT.form : NodeT → Int | .mk _ f _ _ _ _ => f
def NodeT.beg : NodeT → Nat | .mk _ _ b _ _ _ => b
def NodeT.dat : NodeT → Nat | .mk _ _ _ d _ _ => d
def NodeT.en : NodeT → Nat | .mk _ _ _ _ e _ => e
def NodeT.kids : NodeT → List NodeT | .mk _ _ _ _ _ l => l
def cutB (b : List UInt8) (i j : Nat) : List UInt8 := (b.drop i).take (j - i)
mutual
def boxOf (b : List UInt8) : NodeT → BoxT
  | .mk k f _ d e l => .mk k f (if hasKidsB k = true then [] else cutB b d e) (boxesOf b l)
def boxesOf (b : List UInt8) : List NodeT → List BoxT
  | [] => []
  | x :: r => boxOf b x :: boxesOf b r
end
theorem boxesOf_map (b : List UInt8) : ∀ l, boxesOf b l = l.map (boxOf b)
  | [] => by rw [boxesOf]; rfl
  | x :: r => by rw [boxesOf, boxesOf_map b r]; rfl
def headF (kind : List UInt8) (form : Int) (from_ left dat size : Nat) : Option (List UInt8 × Int × Nat × Nat) :=
  if isKindB kind = true ∧ dat - from_ ≤ size ∧ size ≤ left then some (kind, form, dat, from_ + size) else none
def headP (b : List UInt8) (from_ to : Nat) : Option (List UInt8 × Int × Nat × Nat) :=
  if to - from_ < 8 then none
  else if numB (cutB b from_ (from_ + 4)) = 1 then
    if to - from_ < 16 then none else headF (cutB b (from_ + 4) (from_ + 8)) 1 from_ (to - from_) (from_ + 16) (numB (cutB b (from_ + 8) (from_ + 16)))
  else if numB (cutB b from_ (from_ + 4)) = 0 then headF (cutB b (from_ + 4) (from_ + 8)) 2 from_ (to - from_) (from_ + 8) (to - from_)
  else headF (cutB b (from_ + 4) (from_ + 8)) 0 from_ (to - from_) (from_ + 8) (numB (cutB b from_ (from_ + 4)))
theorem headF_some {kind : List UInt8} {form : Int} {f left dat size : Nat} {r : List UInt8 × Int × Nat × Nat} (h : headF kind form f left dat size = some r) :
    r = (kind, form, dat, f + size) ∧ isKindB kind = true ∧ dat - f ≤ size ∧ size ≤ left := by
  unfold headF at h
  split at h
  · injection h with h; exact ⟨h.symm, by assumption⟩
  · cases h
theorem headP_some {b : List UInt8} {f to : Nat} {k : List UInt8} {fo : Int} {d e : Nat} (h : headP b f to = some (k, fo, d, e)) :
    f + 8 ≤ d ∧ d ≤ e ∧ e ≤ to ∧ isKindB k = true ∧ k = cutB b (f + 4) (f + 8) ∧ (fo = 0 ∨ fo = 1 ∨ fo = 2) := by
  unfold headP at h
  split at h
  · cases h
  · split at h
    · split at h
      · cases h
      · obtain ⟨e1, h1, h2, h3⟩ := headF_some h
        injection e1 with e1 e2; injection e2 with e2 e3; injection e3 with e3 e4
        subst e1 e2 e3 e4
        exact ⟨by omega, by omega, by omega, h1, rfl, by omega⟩
    · split at h
      · obtain ⟨e1, h1, h2, h3⟩ := headF_some h
        injection e1 with e1 e2; injection e2 with e2 e3; injection e3 with e3 e4
        subst e1 e2 e3 e4
        exact ⟨by omega, by omega, by omega, h1, rfl, by omega⟩
      · obtain ⟨e1, h1, h2, h3⟩ := headF_some h
        injection e1 with e1 e2; injection e2 with e2 e3; injection e3 with e3 e4
        subst e1 e2 e3 e4
        exact ⟨by omega, by omega, by omega, h1, rfl, by omega⟩
inductive ParR where
  | ok (l : List NodeT) (count : Nat)
  | err (at_ : Nat) (f : Int)
def ParR.pre (l : List NodeT) : ParR → ParR
  | .ok r c => .ok (l ++ r) c
  | .err a f => .err a f
theorem pre_nil (r : ParR) : r.pre [] = r := by cases r <;> rfl
theorem pre_pre (l k : List NodeT) (r : ParR) : (r.pre k).pre l = r.pre (l ++ k) := by cases r <;> simp [ParR.pre]
def parP (b : List UInt8) : Nat → Nat → Nat → Nat → Nat → ParR
  | 0, _, _, _, count => .ok [] count
  | fuel + 1, f, to, depth, count =>
    if to ≤ f then .ok [] count
    else if 2000 < count + 1 ∨ 8 ≤ depth then .err f 2
    else match headP b f to with
      | none => .err f 10
      | some (k, fo, d, e) =>
        if hasKidsB k = true then
          match parP b fuel d e (depth + 1) (count + 1) with
          | .err a g => .err a g
          | .ok kids c => (parP b fuel e to depth c).pre [.mk k fo f d e kids]
        else (parP b fuel e to depth (count + 1)).pre [.mk k fo f d e []]
theorem parP_fuel (b : List UInt8) : ∀ (m n f to depth count : Nat), to - f < m → to - f < n → parP b m f to depth count = parP b n f to depth count
  | 0, _, _, _, _, _, h, _ => absurd h (Nat.not_lt_zero _)
  | m + 1, 0, _, _, _, _, _, h => absurd h (Nat.not_lt_zero _)
  | m + 1, n + 1, f, to, depth, count, hm, hn => by
    unfold parP
    split
    · rfl
    · split
      · rfl
      · cases hh : headP b f to with
        | none => rfl
        | some r =>
          obtain ⟨k, fo, d, e⟩ := r
          obtain ⟨h1, h2, h3, _⟩ := headP_some hh
          simp only
          rw [parP_fuel b m n d e (depth + 1) (count + 1) (by omega) (by omega)]
          rw [parP_fuel b m n e to depth (count + 1) (by omega) (by omega)]
          have hc : ∀ c, parP b m e to depth c = parP b n e to depth c := fun c => parP_fuel b m n e to depth c (by omega) (by omega)
          split
          · cases parP b n d e (depth + 1) (count + 1) with
            | err a g => rfl
            | ok kids c => simp only [hc]
          · rfl
def parF (b : List UInt8) (f to depth count : Nat) : ParR := parP b (to - f + 1) f to depth count
theorem parF_end {b : List UInt8} {f to depth count : Nat} (h : to ≤ f) : parF b f to depth count = .ok [] count := by
  unfold parF parP; rw [if_pos h]
theorem parF_large {b : List UInt8} {f to depth count : Nat} (h : f < to) (hc : 2000 < count + 1 ∨ 8 ≤ depth) : parF b f to depth count = .err f 2 := by
  unfold parF parP; rw [if_neg (by omega), if_pos hc]
theorem parF_none {b : List UInt8} {f to depth count : Nat} (h : f < to) (hc : ¬ (2000 < count + 1 ∨ 8 ≤ depth)) (hh : headP b f to = none) : parF b f to depth count = .err f 10 := by
  unfold parF parP; rw [if_neg (by omega), if_neg hc, hh]
theorem parF_leaf {b : List UInt8} {f to depth count : Nat} {k : List UInt8} {fo : Int} {d e : Nat} (h : f < to) (hc : ¬ (2000 < count + 1 ∨ 8 ≤ depth)) (hh : headP b f to = some (k, fo, d, e)) (hk : hasKidsB k = false) :
    parF b f to depth count = (parF b e to depth (count + 1)).pre [.mk k fo f d e []] := by
  obtain ⟨h1, h2, h3, _⟩ := headP_some hh
  conv => lhs; unfold parF parP
  rw [if_neg (by omega), if_neg hc, hh]
  simp only [hk, Bool.false_eq_true, if_false]
  unfold parF
  rw [parP_fuel b (to - f) (to - e + 1) e to depth (count + 1) (by omega) (by omega)]
theorem parF_kids {b : List UInt8} {f to depth count : Nat} {k : List UInt8} {fo : Int} {d e : Nat} (h : f < to) (hc : ¬ (2000 < count + 1 ∨ 8 ≤ depth)) (hh : headP b f to = some (k, fo, d, e)) (hk : hasKidsB k = true) :
    parF b f to depth count = match parF b d e (depth + 1) (count + 1) with
      | .err a g => .err a g
      | .ok kids c => (parF b e to depth c).pre [.mk k fo f d e kids] := by
  obtain ⟨h1, h2, h3, _⟩ := headP_some hh
  conv => lhs; unfold parF parP
  rw [if_neg (by omega), if_neg hc, hh]
  simp only [hk, if_true]
  unfold parF
  rw [parP_fuel b (to - f) (e - d + 1) d e (depth + 1) (count + 1) (by omega) (by omega)]
  cases parP b (e - d + 1) d e (depth + 1) (count + 1) with
  | err a g => rfl
  | ok kids c =>
    simp only
    rw [parP_fuel b (to - f) (to - e + 1) e to depth c (by omega) (by omega)]
end Go.Proofs.Ytkbmgakehlmcnaa
namespace Go.Proofs.Ytkbmgakehlmcnaa
open Go.RowKit
theorem At.byte {w : World} {b off n c : Nat} {l : List UInt8} (h : At w 1 e8 (some ⟨b, off, none⟩) n c l) {k : Nat} (hk : k < l.length) : w.cell? ⟨b, off + k, none⟩ = some (B8 l[k]) := by
  have hl := h.len
  obtain ⟨b', off', e, hc⟩ := h.cells k _ (List.getElem?_eq_getElem hk)
  injection e with e
  injection e with e1 e2
  subst e1 e2
  have := hc 0 _ rfl
  simpa using this
theorem or8 (q c : Nat) (hq : q < 72057594037927936) (hc : c < 2 ^ 8) : bits .or .u64 ((q : Int) * 256) (c : Int) = ((q * 256 + c : Nat) : Int) := by
  have e : q <<< 8 + c = q <<< 8 ||| c := Nat.shiftLeft_add_eq_or_of_lt hc q
  rw [Nat.shiftLeft_eq, show (2 : Nat) ^ 8 = 256 from rfl] at e
  rw [show (q : Int) * 256 = ((q * 256 : Nat) : Int) by simp, u64_or_nat _ _ (by omega) (by omega), ← e]
set_option maxRecDepth 100000 in
set_option maxHeartbeats 1000000 in
theorem numberOf_any {A : Option Addr} {n c : Nat} {l : List UInt8} {w : World} (h : At w 1 e8 A n c l) (hn : n ≤ 8) :
    Calls Try.prog 55 #[.slice A n c] w fun e w' => e = .returned (.int .u64 (numB l)) ∧ w = w' := by
  have hl := h.len
  have H := hide h
  have HL := hide hl
  clear h hl
  go_enter Try.func55, Try.ntmps55
  go_wp2_with fail
  go_loop [3, 8] (fun rn ri => ∃ k : Nat, k ≤ n ∧ ri = .int .i64 k ∧ rn = .int .u64 (numB (l.take k))) (fun _ ri => n - (intOf ri).toNat)
  case atStart => exact ⟨0, by omega, rfl, rfl⟩
  case round =>
    obtain ⟨k, hk, rfl, rfl⟩ := hrel
    by_cases hlt : k < n
    · obtain ⟨b, off, rfl, _⟩ := H.out.addr (by omega)
      have hkl : k < l.length := by have := HL.out; omega
      have c1 := H.out.byte hkl
      have i1 : (k : Int) < (n : Int) := by omega
      have hst := numB_take hkl
      have hlt2 := numB_lt k (l.take k) (by rw [List.length_take]; omega)
      have hp : 256 ^ k ≤ 256 ^ 7 := Nat.pow_le_pow_right (by omega) (by omega)
      generalize numB (l.take k) = q at *
      have hb := (l[k]).toNat_lt
      have hq : q < 72057594037927936 := by omega
      clear hlt2 hp
      have HST := hide hst
      clear hst
      go_wp2_with fail
      rw [or8 q l[k].toNat hq hb]
      exact ⟨⟨k + 1, by omega, by go_num, by rw [HST.out]⟩, by simp [intOf]; omega⟩
    · obtain rfl : n = k := by omega
      have HE : Hid (l.take n = l) := hide (by rw [← HL.out, List.take_length])
      have i1 : ¬ (n : Int) < (n : Int) := by omega
      go_wp2_with fail
      go_ret
      exact ⟨by rw [HE.out]; rfl, rfl⟩
theorem digit_yes (c : UInt8) (h : 48 ≤ c.toNat ∧ c.toNat ≤ 57) (w : World) : Calls Try.prog 84 #[B8 c] w fun e w' => e = .returned (.bool true) ∧ w = w' := by
  obtain ⟨h1, h2⟩ := h
  have h3 : (48 : Int) ≤ (c.toNat : Int) := by omega
  have h4 : (c.toNat : Int) ≤ 57 := by omega
  go_enter Try.func84, Try.ntmps84
  go_wp2
  go_ret
  exact ⟨ret_bool (by first | rfl | (simp; omega)), rfl⟩
theorem digit_no (c : UInt8) (h : ¬ (48 ≤ c.toNat ∧ c.toNat ≤ 57)) (w : World) : Calls Try.prog 84 #[B8 c] w fun e w' => e = .returned (.bool false) ∧ w = w' := by
  by_cases h1 : 48 ≤ c.toNat
  · have h2 : (48 : Int) ≤ (c.toNat : Int) := by omega
    have h3 : ¬ (c.toNat : Int) ≤ 57 := by omega
    clear h h1
    go_enter Try.func84, Try.ntmps84
    go_wp2
    go_ret
    exact ⟨ret_bool (by first | rfl | (simp; omega)), rfl⟩
  · have h2 : ¬ (48 : Int) ≤ (c.toNat : Int) := by omega
    clear h h1
    go_enter Try.func84, Try.ntmps84
    go_wp2
    go_ret
    exact ⟨ret_bool (by first | rfl | (simp; omega)), rfl⟩
theorem all_take_succ {s : ByteArray} {k : Nat} (h : k < s.size) : (s.data.toList.take (k + 1)).all kindC = ((s.data.toList.take k).all kindC && kindC s[k]) := by
  have e : s.data.toList.take (k + 1) = s.data.toList.take k ++ [s[k]] := by
    rw [List.take_succ_eq_append_getElem (by simpa using h)]; rfl
  rw [e, List.all_append]; simp
theorem all_no {s : ByteArray} {k : Nat} (h : k < s.size) (hc : kindC s[k] = false) : s.data.toList.all kindC = false := by
  rw [List.all_eq_false]
  exact ⟨s[k], by show s.data[k] ∈ s.data.toList; simp, by simp [hc]⟩
set_option maxRecDepth 100000 in
set_option maxHeartbeats 2000000 in
theorem isKind_any (s : ByteArray) (w : World) (hs : s.size ≤ maxLen) :
    Calls Try.prog 85 #[.string s] w fun e w' => e = .returned (.bool (isKindB s.data.toList)) ∧ w = w' := by
  unfold maxLen at hs
  have hsz : s.data.toList.length = s.size := by simp
  by_cases h4 : s.size = 4
  rotate_left
  · have HV : Hid (isKindB s.data.toList = false) := hide (by unfold isKindB; rw [hsz]; simp [h4])
    have i1 : ((s.size : Int) != 4) = true := by simp; omega
    clear hsz
    go_enter Try.func85, Try.ntmps85
    go_wp2_with fail
    go_ret
    exact ⟨by rw [HV.out]; rfl, rfl⟩
  have i1 : ((s.size : Int) != 4) = false := by simp; omega
  have HY : Hid (s.data.toList.all kindC = true → isKindB s.data.toList = true) := hide (fun h => by unfold isKindB; rw [hsz, h]; simp [h4])
  have HN : Hid (s.data.toList.all kindC = false → isKindB s.data.toList = false) := hide (fun h => by unfold isKindB; rw [h]; simp)
  have HTK : Hid (s.data.toList.take s.size = s.data.toList) := hide (by rw [← hsz, List.take_length])
  clear hsz h4
  go_enter Try.func85, Try.ntmps85
  go_wp2_with fail
  go_loop [9] (fun ri => ∃ k : Nat, k ≤ s.size ∧ ri = .int .i64 k ∧ Hid ((s.data.toList.take k).all kindC = true)) (fun ri => s.size - (intOf ri).toNat)
  case atStart => exact ⟨0, by omega, rfl, hide (by simp)⟩
  case round =>
    obtain ⟨k, hk, rfl, HA⟩ := hrel
    by_cases hlt : k < s.size
    · have HS := hide (all_take_succ hlt)
      have HNO : Hid (kindC s[k] = false → isKindB s.data.toList = false) := hide (fun h => HN.out (all_no hlt h))
      by_cases hd : 48 ≤ s[k].toNat ∧ s[k].toNat ≤ 57
      · have HK : Hid ((s.data.toList.take (k + 1)).all kindC = true) := hide (by rw [HS.out, HA.out]; simp [kindC, hd])
        have HD := hide (digit_yes s[k] hd w)
        clear hd
        go_wp2_with (go_at_call 84; refine HD.out.mono ?_; rintro e w' ⟨rfl, rfl⟩)
        exact ⟨⟨k + 1, by omega, by go_num, HK⟩, by simp [intOf]; omega⟩
      · have HD := hide (digit_no s[k] hd w)
        by_cases hl : 97 ≤ s[k].toNat ∧ s[k].toNat ≤ 122
        · have HK : Hid ((s.data.toList.take (k + 1)).all kindC = true) := hide (by rw [HS.out, HA.out]; simp [kindC, hl])
          have g1 : decide ((s[k].toNat : Int) < 97) = false := by simp; omega
          have g2 : decide ((122 : Int) < (s[k].toNat : Int)) = false := by simp; omega
          have g3 : ¬ (s[k].toNat : Int) < 97 := by omega
          have g4 : ¬ (122 : Int) < (s[k].toNat : Int) := by omega
          clear hd hl
          go_wp2_with (go_at_call 84; refine HD.out.mono ?_; rintro e w' ⟨rfl, rfl⟩)
          exact ⟨⟨k + 1, by omega, by go_num, HK⟩, by simp [intOf]; omega⟩
        · have HV : Hid (isKindB s.data.toList = false) := hide (HNO.out (by simp [kindC]; omega))
          by_cases hl1 : s[k].toNat < 97
          · have g1 : (s[k].toNat : Int) < 97 := by omega
            clear hd hl hl1
            go_wp2_with (go_at_call 84; refine HD.out.mono ?_; rintro e w' ⟨rfl, rfl⟩)
            go_ret
            exact ⟨by rw [HV.out]; rfl, rfl⟩
          · have g1 : ¬ (s[k].toNat : Int) < 97 := by omega
            have g2 : (122 : Int) < (s[k].toNat : Int) := by omega
            clear hd hl hl1
            go_wp2_with (go_at_call 84; refine HD.out.mono ?_; rintro e w' ⟨rfl, rfl⟩)
            go_ret
            exact ⟨by rw [HV.out]; rfl, rfl⟩
    · obtain rfl : k = s.size := by omega
      have HV : Hid (isKindB s.data.toList = true) := hide (HY.out (by rw [← HTK.out]; exact HA.out))
      go_wp2_with fail
      go_ret
      exact ⟨by rw [HV.out]; rfl, rfl⟩
theorem hasKids_any (l : List UInt8) (w : World) : Calls Try.prog 77 #[.string ⟨l.toArray⟩] w fun e w' => e = .returned (.bool (hasKidsB l)) ∧ w = w' := by
  go_enter Try.func77, Try.ntmps77
  go_wp2_with fail
  all_goals
    go_ret
    exact ⟨ret_bool (by unfold hasKidsB kFilm kTrck kFrag; simp [*]), rfl⟩
structure BoxH where
  kind : List UInt8
  form : Int
  dA : Option Addr
  dn : Nat
  dc : Nat
  kA : Option Addr
  kn : Nat
  kc : Nat
deriving Inhabited
structure NodeH where
  box : BoxH
  beg : Nat
  dat : Nat
  en : Nat
  nA : Option Addr
  nn : Nat
  nc : Nat
deriving Inhabited
abbrev eBx (x : BoxH) : List Value := [.string ⟨x.kind.toArray⟩, .int .i64 x.form, .slice x.dA x.dn x.dc, .slice x.kA x.kn x.kc]
abbrev eNd (x : NodeH) : List Value := [.string ⟨x.box.kind.toArray⟩, .int .i64 x.box.form, .slice x.box.dA x.box.dn x.box.dc, .slice x.box.kA x.box.kn x.box.kc, .int .i64 (x.beg : Int), .int .i64 (x.dat : Int), .int .i64 (x.en : Int), .slice x.nA x.nn x.nc]
theorem len_eBx (x : BoxH) : (eBx x).length = 4 := rfl
theorem len_eNd (x : NodeH) : (eNd x).length = 8 := rfl
theorem one_eBx (x : BoxH) : ∀ u ∈ eBx x, u.oneCell' = true := by
  intro u hu
  simp at hu
  rcases hu with rfl | rfl | rfl | rfl <;> rfl
theorem one_eNd (x : NodeH) : ∀ u ∈ eNd x, u.oneCell' = true := by
  intro u hu
  simp at hu
  rcases hu with rfl | rfl | rfl | rfl | rfl | rfl | rfl | rfl <;> rfl
def InG (G : Nat → Prop) (A : Option Addr) : Prop := ∀ a, A = some a → G a.block
theorem InG.mono {G H : Nat → Prop} {A : Option Addr} (h : InG G A) (hi : ∀ k, G k → H k) : InG H A := fun a ha => hi _ (h a ha)
theorem At.good {α : Type} {w w' : World} {sz : Nat} {enc : α → List Value} {A : Option Addr} {n c : Nat} {xs : List α} {G : Nat → Prop} (h : At w sz enc A n c xs) (hA : InG G A) (hG : ∀ k, G k → w'.heap[k]? = w.heap[k]?) : At w' sz enc A n c xs :=
  ⟨h.len, h.le, h.max, h.none_, fun k x hx => by
    obtain ⟨b, off, e, hc⟩ := h.cells k x hx
    refine ⟨b, off, e, fun j u hu => ?_⟩
    have h3 := hc j u hu
    have h4 := hG b (hA _ e)
    unfold World.cell? at h3 ⊢
    simp only at h3 ⊢
    rw [h4]
    exact h3⟩
theorem At.blk_lt {α : Type} {w : World} {sz : Nat} {enc : α → List Value} {A : Option Addr} {n c : Nat} {xs : List α} (h : At w sz enc A n c xs) (hsz : ∀ x, (enc x).length = sz) (h0 : 0 < sz) (hn : 0 < n) : ∀ a, A = some a → a.block < w.heap.size := fun a ha => by
  subst ha
  obtain ⟨b1, o1, e, hc⟩ := h.addr hn
  have hl := h.len
  have hk : 0 < xs.length := by omega
  have := cell_lt (hc 0 hk 0 _ (List.getElem?_eq_getElem (by rw [hsz]; exact h0)))
  injection e with e
  rw [e]
  simpa using this
def BxHd (w : World) (G : Nat → Prop) (y : BoxH) (x : BoxT) : Prop := y.kind = x.kind ∧ y.form = x.form ∧ At w 1 e8 y.dA y.dn y.dc x.data ∧ InG G y.dA
inductive BxsAt (w : World) (G : Nat → Prop) : Option Addr → Nat → Nat → List BoxT → Prop
  | mk {A : Option Addr} {n c : Nat} (hs : List BoxH) (l : List BoxT) (h : At w 4 eBx A n c hs) (hg : InG G A) (hl : hs.length = l.length)
      (h1 : ∀ (i : Nat) (y : BoxH) (x : BoxT), hs[i]? = some y → l[i]? = some x → BxHd w G y x) (h2 : ∀ (i : Nat) (y : BoxH) (x : BoxT), hs[i]? = some y → l[i]? = some x → BxsAt w G y.kA y.kn y.kc x.kids) : BxsAt w G A n c l
def BxOk (w : World) (G : Nat → Prop) (y : BoxH) (x : BoxT) : Prop := BxHd w G y x ∧ BxsAt w G y.kA y.kn y.kc x.kids
theorem BxHd.good {w w' : World} {G H : Nat → Prop} {y : BoxH} {x : BoxT} (h : BxHd w G y x) (hG : ∀ k, G k → w'.heap[k]? = w.heap[k]?) (hi : ∀ k, G k → H k) : BxHd w' H y x :=
  ⟨h.1, h.2.1, h.2.2.1.good h.2.2.2 hG, h.2.2.2.mono hi⟩
theorem BxsAt.good {w w' : World} {G H : Nat → Prop} (hG : ∀ k, G k → w'.heap[k]? = w.heap[k]?) (hi : ∀ k, G k → H k) {A : Option Addr} {n c : Nat} {l : List BoxT} (h : BxsAt w G A n c l) : BxsAt w' H A n c l := by
  induction h with
  | mk hs l h hg hl h1 _ ih => exact .mk hs l (h.good hg hG) (hg.mono hi) hl (fun i y x hy hx => (h1 i y x hy hx).good hG hi) ih
theorem BxOk.good {w w' : World} {G H : Nat → Prop} {y : BoxH} {x : BoxT} (h : BxOk w G y x) (hG : ∀ k, G k → w'.heap[k]? = w.heap[k]?) (hi : ∀ k, G k → H k) : BxOk w' H y x :=
  ⟨h.1.good hG hi, h.2.good hG hi⟩
theorem BxsAt.nil (w : World) (G : Nat → Prop) : BxsAt w G none 0 0 [] :=
  .mk [] [] (At.nil _ _ _) (fun a h => by cases h) rfl (fun i y x hy _ => by simp at hy) (fun i y x hy _ => by simp at hy)
theorem BxsAt.len {w : World} {G : Nat → Prop} {A : Option Addr} {n c : Nat} {l : List BoxT} (h : BxsAt w G A n c l) : l.length = n := by
  cases h with
  | mk hs l h hg hl _ _ => rw [← hl]; exact h.len
def NdHd (w : World) (b : List UInt8) (G : Nat → Prop) (y : NodeH) (x : NodeT) : Prop := BxOk w G y.box (boxOf b x) ∧ y.beg = x.beg ∧ y.dat = x.dat ∧ y.en = x.en
inductive NdsAt (w : World) (b : List UInt8) (G : Nat → Prop) : Option Addr → Nat → Nat → List NodeT → Prop
  | mk {A : Option Addr} {n c : Nat} (hs : List NodeH) (l : List NodeT) (h : At w 8 eNd A n c hs) (hg : InG G A) (hl : hs.length = l.length)
      (h1 : ∀ (i : Nat) (y : NodeH) (x : NodeT), hs[i]? = some y → l[i]? = some x → NdHd w b G y x) (h2 : ∀ (i : Nat) (y : NodeH) (x : NodeT), hs[i]? = some y → l[i]? = some x → NdsAt w b G y.nA y.nn y.nc x.kids) : NdsAt w b G A n c l
def NdOk (w : World) (b : List UInt8) (G : Nat → Prop) (y : NodeH) (x : NodeT) : Prop := NdHd w b G y x ∧ NdsAt w b G y.nA y.nn y.nc x.kids
theorem NdHd.good {w w' : World} {b : List UInt8} {G H : Nat → Prop} {y : NodeH} {x : NodeT} (h : NdHd w b G y x) (hG : ∀ k, G k → w'.heap[k]? = w.heap[k]?) (hi : ∀ k, G k → H k) : NdHd w' b H y x :=
  ⟨h.1.good hG hi, h.2⟩
theorem NdsAt.good {w w' : World} {b : List UInt8} {G H : Nat → Prop} (hG : ∀ k, G k → w'.heap[k]? = w.heap[k]?) (hi : ∀ k, G k → H k) {A : Option Addr} {n c : Nat} {l : List NodeT} (h : NdsAt w b G A n c l) : NdsAt w' b H A n c l := by
  induction h with
  | mk hs l h hg hl h1 _ ih => exact .mk hs l (h.good hg hG) (hg.mono hi) hl (fun i y x hy hx => (h1 i y x hy hx).good hG hi) ih
theorem NdOk.good {w w' : World} {b : List UInt8} {G H : Nat → Prop} {y : NodeH} {x : NodeT} (h : NdOk w b G y x) (hG : ∀ k, G k → w'.heap[k]? = w.heap[k]?) (hi : ∀ k, G k → H k) : NdOk w' b H y x :=
  ⟨h.1.good hG hi, h.2.good hG hi⟩
theorem NdsAt.nil (w : World) (b : List UInt8) (G : Nat → Prop) : NdsAt w b G none 0 0 [] :=
  .mk [] [] (At.nil _ _ _) (fun a h => by cases h) rfl (fun i y x hy _ => by simp at hy) (fun i y x hy _ => by simp at hy)
structure Rw {α β : Type} (w : World) (B : Nat) (t : TypeId) (sz : Nat) (enc : α → List Value) (ok : (Nat → Prop) → α → β → Prop) (v : Value) (hs : List α) (l : List β) : Prop where
  own : Own w B t sz enc v hs
  len : hs.length = l.length
  els : ∃ G : Nat → Prop, (∀ k, G k → B ≤ k ∧ k < w.heap.size ∧ v.ownBlock ≠ some k) ∧ ∀ (i : Nat) (y : α) (x : β), hs[i]? = some y → l[i]? = some x → ok G y x
theorem get_snoc {α : Type} {l : List α} {x y : α} {i : Nat} (h : (l ++ [x])[i]? = some y) : l[i]? = some y ∨ (i = l.length ∧ y = x) := by
  rw [List.getElem?_append] at h
  split at h
  · exact .inl h
  · rename_i hl
    right
    have : i - l.length = 0 := by
      rcases Nat.eq_zero_or_pos (i - l.length) with h0 | h0
      · exact h0
      · rw [List.getElem?_eq_none (by simp; omega)] at h; cases h
    rw [this] at h
    simp at h
    exact ⟨by omega, h.symm⟩
theorem get_lt {α : Type} {l : List α} {y : α} {i : Nat} (h : l[i]? = some y) : i < l.length := by
  rcases Nat.lt_or_ge i l.length with h1 | h1
  · exact h1
  · rw [List.getElem?_eq_none h1] at h; cases h
theorem Tw.new {a b c : World} {o q : Nat} (h : Tw a b o none) (k : Tw b c q none) (hq : a.heap.size ≤ q) : Tw a c o none :=
  ⟨k.os.trans h.os, k.tape.trans h.tape, k.output.trans h.output, Nat.le_trans h.size k.size, fun j hj ho hr => (k.block j (Nat.lt_of_lt_of_le hj h.size) (by omega) hr).trans (h.block j hj ho hr)⟩
theorem Tw.row {a b c : World} {o : Nat} {row : Option Nat} (h : Tw a b o none) (k : b.grownBy c row) (hq : ∀ g, row = some g → a.heap.size ≤ g ∨ g = o) : Tw a c o none :=
  ⟨k.os.trans h.os, k.tape.trans h.tape, k.output.trans h.output, Nat.le_trans h.size k.size, fun j hj ho hr => (k.block j (Nat.lt_of_lt_of_le hj h.size) (fun e => by have := hq j e.symm; omega)).trans (h.block j hj ho hr)⟩
theorem Rw.tw {w w' : World} {b : List UInt8} {B o : Nat} {t : TypeId} {v : Value} {hs : List NodeH} {l : List NodeT} (h : Rw w B t 8 eNd (NdOk w b) v hs l) (hT : Tw w w' o none) (ho : o < B) : Rw w' B t 8 eNd (NdOk w' b) v hs l := by
  obtain ⟨h1, h2, G, h3, h4⟩ := h
  refine ⟨h1.tw hT (fun e => by have := (h1.lt o e).1; omega) (fun g hg e => by cases e), h2, G, fun k hk => ⟨(h3 k hk).1, Nat.lt_of_lt_of_le (h3 k hk).2.1 hT.size, (h3 k hk).2.2⟩, fun i y x hy hx => (h4 i y x hy hx).good (fun k hk => hT.block k (h3 k hk).2.1 (by have := (h3 k hk).1; omega) (by simp)) (fun _ hk => hk)⟩
theorem Rw.snoc {w wa w' : World} {b : List UInt8} {B : Nat} {t : TypeId} {v v' : Value} {hs : List NodeH} {l : List NodeT} {y : NodeH} {x : NodeT} {G' : Nat → Prop} (h : Rw w B t 8 eNd (NdOk w b) v hs l) (hy : NdOk w b G' y x)
    (hG : ∀ k, G' k → B ≤ k ∧ k < w.heap.size ∧ v.ownBlock ≠ some k) (he : Ext w wa) (ho : Own w' B t 8 eNd v' (hs ++ [y])) (hg : wa.grownBy w' v.ownBlock) (hr : v'.ownBlock = v.ownBlock ∨ v'.ownBlock = some wa.heap.size) :
    Rw w' B t 8 eNd (NdOk w' b) v' (hs ++ [y]) (l ++ [x]) := by
  obtain ⟨h1, h2, G, h3, h4⟩ := h
  have hsz := he.size
  have hb : ∀ k, k < w.heap.size → v.ownBlock ≠ some k → w'.heap[k]? = w.heap[k]? := fun k hk hn => (hg.block k (by omega) (fun e => hn e.symm)).trans (he.block k hk)
  refine ⟨ho, by simp [h2], fun k => G k ∨ G' k, fun k hk => ?_, fun i y' x' hy' hx' => ?_⟩
  · have hk2 : B ≤ k ∧ k < w.heap.size ∧ v.ownBlock ≠ some k := by
      rcases hk with hk | hk
      · exact h3 k hk
      · exact hG k hk
    refine ⟨hk2.1, by have := hg.size; omega, ?_⟩
    rcases hr with hr | hr
    · rw [hr]; exact hk2.2.2
    · rw [hr]; intro e; injection e with e; omega
  · rcases get_snoc hy' with hy1 | ⟨hy1, rfl⟩
    · have hi := get_lt hy1
      have hx1 : l[i]? = some x' := by
        rw [List.getElem?_append_left (by omega)] at hx'
        exact hx'
      exact (h4 i y' x' hy1 hx1).good (fun k hk => hb k (h3 k hk).2.1 (h3 k hk).2.2) (fun _ hk => .inl hk)
    · have hx1 : x' = x := by
        rcases get_snoc hx' with hx1 | ⟨_, hx1⟩
        · have := get_lt hx1; omega
        · exact hx1
      subst hx1
      exact hy.good (fun k hk => hb k (hG k hk).2.1 (hG k hk).2.2) (fun _ hk => .inr hk)
theorem At.newE {α : Type} {sz : Nat} {enc : α → List Value} (w : World) (x : α) (cs : Array Value) (t : TypeId) (hu : enc x = cs.toList) : At (w.alloc (.cells cs t)) sz enc (some ⟨w.heap.size, 0, none⟩) 1 1 [x] :=
  ⟨rfl, Nat.le_refl _, by unfold maxLen; omega, fun h => (by cases h), fun k z hz => ⟨_, _, rfl, fun j v hv => by
    match k, hz with
    | 0, hz =>
      simp at hz; subst hz
      rw [hu] at hv
      have := (Blk.new w t cs).cell j
      rw [Nat.zero_mul, Nat.add_zero, Nat.zero_add, this]
      simpa using hv
    | k + 1, hz => simp at hz⟩⟩
theorem Own.last {α : Type} {w : World} {base : Nat} {t : TypeId} {sz : Nat} {enc : α → List Value} {g n c : Nat} {bs : List α} {z : α} (hsz : ∀ x, (enc x).length = sz) (h : Own w base t sz enc (.slice (some ⟨g, 0, none⟩) (n + 1) c) (bs ++ [z])) :
    ∃ cur : Array Value, Blk w g t cur ∧ base ≤ g ∧ bs.length = n ∧ n + 1 ≤ c ∧ c ≤ maxLen ∧ cur.size = c * sz ∧ cur.toList.take ((n + 1) * sz) = bs.flatMap enc ++ enc z := by
  have hl := h.len hsz
  rcases h.2 with ⟨h1, _⟩ | ⟨g', cap, cur, h1, hb, hg, hc, hm, hs, ht⟩
  · cases h1
  · injection h1 with h1 h2 h3
    injection h1 with h1
    injection h1 with h1
    subst h1 h3
    simp only [List.length_append, List.length_singleton] at hl hc ht
    have hbn : bs.length = n := by omega
    rw [hbn] at hc ht
    exact ⟨cur, hg, hb, hbn, hc, hm, hs, by rw [ht, List.flatMap_append]; simp⟩
theorem Own.of_last {α : Type} {w : World} {base : Nat} {t : TypeId} {sz : Nat} {enc : α → List Value} {g n c : Nat} {bs : List α} {y : α} {cur : Array Value} (hb : Blk w g t cur) (h0 : base ≤ g) (h1 : bs.length = n) (h2 : n + 1 ≤ c) (h3 : c ≤ maxLen) (h4 : cur.size = c * sz)
    (h5 : cur.toList.take ((n + 1) * sz) = bs.flatMap enc ++ enc y) (hsz : ∀ x, (enc x).length = sz) : Own w base t sz enc (.slice (some ⟨g, 0, none⟩) (n + 1) c) (bs ++ [y]) := by
  have hl : (bs ++ [y]).length = n + 1 := by simp [h1]
  refine ⟨?_, .inr ⟨g, c, cur, by rw [hl], h0, hb, by rw [hl]; exact h2, h3, h4, by rw [hl, h5, List.flatMap_append]; simp⟩⟩
  exact flat_len hsz _
theorem Own.setLast4 {α : Type} {w : World} {base : Nat} {t : TypeId} {enc : α → List Value} {g n c : Nat} {bs : List α} {z y : α} {u0 u1 u2 u3 : Value} (hsz : ∀ x, (enc x).length = 4) (hy : enc y = [u0, u1, u2, u3])
    (h : Own w base t 4 enc (.slice (some ⟨g, 0, none⟩) (n + 1) c) (bs ++ [z])) :
    Own ((((w.setCell ⟨g, n * 4, none⟩ u0).setCell ⟨g, n * 4 + 1, none⟩ u1).setCell ⟨g, n * 4 + 2, none⟩ u2).setCell ⟨g, n * 4 + 3, none⟩ u3) base t 4 enc (.slice (some ⟨g, 0, none⟩) (n + 1) c) (bs ++ [y]) := by
  obtain ⟨cur, hb, h0, h1, h2, h3, h4, h5⟩ := h.last hsz
  refine Own.of_last ((((hb.set_ _ u0).set_ _ u1).set_ _ u2).set_ _ u3) h0 h1 h2 h3 (by simp [h4]) ?_ hsz
  have hf := flat_len hsz bs
  obtain ⟨z0, z1, z2, z3, hz⟩ : ∃ z0 z1 z2 z3, enc z = [z0, z1, z2, z3] := by
    have := hsz z
    match enc z, this with
    | [a, b, c, d], _ => exact ⟨a, b, c, d, rfl⟩
  simp only [Array.toList_setIfInBounds, List.take_set, h5, hz, hy]
  have e : (bs.flatMap enc).length = n * 4 := by rw [hf, h1]
  simp [e]
theorem Own.lastCells {α : Type} {w : World} {base : Nat} {t : TypeId} {sz : Nat} {enc : α → List Value} {g n c : Nat} {bs : List α} {z : α} (hsz : ∀ x, (enc x).length = sz) (h : Own w base t sz enc (.slice (some ⟨g, 0, none⟩) (n + 1) c) (bs ++ [z])) {i : Nat} {u : Value} (hu : (enc z)[i]? = some u) :
    w.cell? ⟨g, n * sz + i, none⟩ = some u ∧ w.frozen? ⟨g, n * sz + i, none⟩ = false := by
  obtain ⟨cur, hb, h0, h1, h2, h3, h4, h5⟩ := h.last hsz
  have hf := flat_len hsz bs
  have hi := get_lt hu
  rw [hsz] at hi
  refine ⟨?_, hb.frozen _⟩
  rw [hb.cell]
  have e : (cur.toList.take ((n + 1) * sz))[n * sz + i]? = some u := by
    rw [h5, List.getElem?_append_right (by rw [hf, h1]; omega), hf, h1, show n * sz + i - n * sz = i by omega]
    exact hu
  rw [List.getElem?_take, if_pos (by rw [Nat.add_mul]; omega)] at e
  simpa using e
end Go.Proofs.Ytkbmgakehlmcnaa
