/- Walks: ends (both), Ends (both). Conditions as stated. -/
import Derived.Test.YtfelgolfebhmkaaDoorMtm17
namespace Go.Proofs.YtfelgolfebhmkaaDoor
open Go.RowKit
theorem endsP_cons (x : Int × Int) (r : List (Int × Int)) (f b : Int) : endsP (x :: r) f b =
    if b = 0 then f else if hdT r ≤ f ∨ x.2 = 0 then endsP r (max f (hdT r)) b
    else if (b + x.2 - 1) / x.2 ≤ hdT r - f then f + (b + x.2 - 1) / x.2 else endsP r (hdT r) (b - x.2 * (hdT r - f)) := rfl
theorem need_bd {b r : Int} (hb : 1 ≤ b) (hr : 1 ≤ r) : 0 ≤ (b + r - 1) / r ∧ (b + r - 1) / r ≤ b := by
  have h1 := Int.mul_le_mul_of_nonneg_right (show 1 ≤ r by omega) (show 0 ≤ b by omega)
  exact ⟨Int.ediv_nonneg (by omega) (by omega), (need_le (by omega)).2 (by omega)⟩
set_option maxRecDepth 100000 in
set_option maxHeartbeats 4000000 in
theorem keyEndsIn_any {A : Option Addr} {n c : Nat} {l : List (Int × Int)} {w : World} (h : At w 2 e2 A n c l) (hz : trcF l = 0) {f b : Int} (hf : 0 ≤ f ∧ f ≤ 2000000000000) (hb : 0 ≤ b ∧ b ≤ 1000000000) :
    Calls Tryd.prog 36 #[.slice A n c, .int .i64 f, .int .i64 b] w fun e w' => e = .returned (.int .i64 (endsP l f b)) ∧ Ext w w' := by
  have hbn := h.bound
  have hl := hide h.len
  have H := hide h
  obtain ⟨hn0, hn5, hall, hlast⟩ := trcF_zero hz
  have hn : n ≤ 500 := by have := hl.out; omega
  have HALL := hide hall
  have HLAST := hide hlast
  have HZ := hide hz
  clear h hall hn0 hn5 hz hlast
  go_enter Tryd.func36, Tryd.ntmps36
  go_wp2_with fail
  go_loopw [1, 2, 13] (fun rf rb ri wr => ∃ (k : Nat) (F B : Int), k ≤ n ∧ ri = .int .i64 k ∧ rf = .int .i64 F ∧ rb = .int .i64 B ∧ (0 ≤ F ∧ F ≤ 2000000000000) ∧ (0 ≤ B ∧ B ≤ 1000000000) ∧ Hid (endsP (l.drop k) F B = endsP l f b) ∧ Hid (Ext w wr)) (fun _ _ ri _ => n - (intOf ri).toNat)
  case atStart => exact ⟨0, f, b, by omega, rfl, rfl, rfl, hf, hb, hide (by simp), hide (Ext.refl _)⟩
  case round =>
    obtain ⟨k, F, B, hk, rfl, rfl, rfl, hF, hB, HS, HX⟩ := hrel
    have hlen := hl.out
    by_cases hlt : k < n
    · obtain ⟨bb, off, rfl, _⟩ := H.out.addr (by omega)
      obtain ⟨a1, a2⟩ := (H.out.ext HX.out).pair hlt
      obtain ⟨e1, e2, _, _⟩ := trEl_zero (HALL.out k (by omega))
      have hd := HS.out
      rw [drop_cons l k (0, 0) (by omega), endsP_cons] at hd
      have hlast : k + 1 = n → (l.getD k (0, 0)).2 ≠ 0 := fun h1 => by
        have := HLAST.out
        rwa [show l.length - 1 = k by omega] at this
      have hE : hdT (l.drop (k + 1)) = if k + 1 < n then (l.getD (k + 1) (0, 0)).1 else farI := by rw [hdT_drop, hlen]
      have hE2 : k + 1 < n → hdT (l.drop (k + 1)) ≤ 1000000000000 := fun h1 => by
        rw [hE, if_pos h1]; exact (trEl_zero (HALL.out (k + 1) (by omega))).1.2
      have hE3 : ¬ k + 1 < n → hdT (l.drop (k + 1)) = 1152921504606846976 := fun h1 => by rw [hE, if_neg h1]
      have hE0 := hdT_bd HZ.out (k + 1)
      have HE := hide (fun (W : World) (hx : Ext wr W) => endOf_any ((H.out.ext HX.out).ext hx) hn hlt)
      generalize (l.getD k (0, 0)) = y at *
      obtain ⟨y0, y1⟩ := y
      simp only at a1 a2 e1 e2 hd hlast
      generalize hdT (l.drop (k + 1)) = E at *
      clear hE
      by_cases c0 : B = 0
      · rw [if_pos c0] at hd
        have HF := hide hd
        have i1 : (B == 0) = true := by simp [c0]
        clear hd hlast hE2 hE3 hlen c0
        go_wp2_with (first | ((go_at_call 50; refine (HE.out _ (by repeat' (first | (with_reducible first | exact Below.refl _ _ | assumption | refine below_drewN ?_ _ | refine Below.drew ?_ | refine ext_alloc ?_ _ | refine Below.setCell ?_ ?_ _) | go_size))).mono ?_); rintro e w1 ⟨rfl, rfl⟩))
        go_ret
        exact ⟨ret_int HF.out, Ext.trans HX.out (by repeat' (first | (with_reducible first | exact Below.refl _ _ | assumption | refine below_drewN ?_ _ | refine Below.drew ?_ | refine ext_alloc ?_ _ | refine Below.setCell ?_ ?_ _) | go_size))⟩
      rw [if_neg c0] at hd
      have i1 : (B == 0) = false := by simp [c0]
      have c0' : 1 ≤ B := by omega
      clear c0
      by_cases c1 : E ≤ F
      · rw [if_pos (.inl c1)] at hd
        have hk1 : k + 1 < n := by
          apply Classical.byContradiction; intro h1
          have := hE3 h1; omega
        have b1 := hE2 hk1
        have HF := hide hd
        have i2 : ((k : Int) == (n : Int) - 1) = false := by simp; omega
        clear hd hlast hE2 hE3 hlen
        go_wp2_with (first | ((go_at_call 50; refine (HE.out _ (by repeat' (first | (with_reducible first | exact Below.refl _ _ | assumption | refine below_drewN ?_ _ | refine Below.drew ?_ | refine ext_alloc ?_ _ | refine Below.setCell ?_ ?_ _) | go_size))).mono ?_); rintro e w1 ⟨rfl, rfl⟩))
        go_roundw
        case rel =>
          first
            | exact ⟨k + 1, max F E, B, by omega, by go_num, rfl, rfl, by omega, by omega, HF, Ext.trans HX.out (by repeat' (first | (with_reducible first | exact Below.refl _ _ | assumption | refine below_drewN ?_ _ | refine Below.drew ?_ | refine ext_alloc ?_ _ | refine Below.setCell ?_ ?_ _) | go_size))⟩
            | ((repeat apply Exists.intro); exact ⟨⟨k + 1, max F E, B, by omega, by go_num, rfl, rfl, by omega, by omega, HF, Ext.trans HX.out (by repeat' (first | (with_reducible first | exact Below.refl _ _ | assumption | refine below_drewN ?_ _ | refine Below.drew ?_ | refine ext_alloc ?_ _ | refine Below.setCell ?_ ?_ _) | go_size))⟩, rfl⟩)
        case measure => simp [intOf]; omega
      by_cases c2 : y1 = 0
      · rw [if_pos (.inr c2)] at hd
        have hk1 : k + 1 < n := by
          apply Classical.byContradiction; intro h1
          exact hlast (by omega) c2
        have b1 := hE2 hk1
        have HF := hide hd
        have i2 : ((k : Int) == (n : Int) - 1) = false := by simp; omega
        have i3 : (y1 == 0) = true := by simp [c2]
        clear hd hlast hE2 hE3 hlen c2
        go_wp2_with (first | ((go_at_call 50; refine (HE.out _ (by repeat' (first | (with_reducible first | exact Below.refl _ _ | assumption | refine below_drewN ?_ _ | refine Below.drew ?_ | refine ext_alloc ?_ _ | refine Below.setCell ?_ ?_ _) | go_size))).mono ?_); rintro e w1 ⟨rfl, rfl⟩))
        go_roundw
        case rel =>
          first
            | exact ⟨k + 1, max F E, B, by omega, by go_num, rfl, rfl, by omega, by omega, HF, Ext.trans HX.out (by repeat' (first | (with_reducible first | exact Below.refl _ _ | assumption | refine below_drewN ?_ _ | refine Below.drew ?_ | refine ext_alloc ?_ _ | refine Below.setCell ?_ ?_ _) | go_size))⟩
            | ((repeat apply Exists.intro); exact ⟨⟨k + 1, max F E, B, by omega, by go_num, rfl, rfl, by omega, by omega, HF, Ext.trans HX.out (by repeat' (first | (with_reducible first | exact Below.refl _ _ | assumption | refine below_drewN ?_ _ | refine Below.drew ?_ | refine ext_alloc ?_ _ | refine Below.setCell ?_ ?_ _) | go_size))⟩, rfl⟩)
        case measure => simp [intOf]; omega
      have i3 : (y1 == 0) = false := by simp [c2]
      have c2' : 1 ≤ y1 := by omega
      rw [if_neg (by omega)] at hd
      obtain ⟨q0, q1⟩ := need_bd c0' c2'
      have hnl := need_le (b := B) (r := y1) (d := E - F) (by omega)
      have hp : 0 ≤ y1 * (E - F) := Int.mul_nonneg (by omega) (by omega)
      have c0'' : 0 ≤ B + y1 - 1 := by omega
      by_cases c3 : (B + y1 - 1) / y1 ≤ E - F
      · rw [if_pos c3] at hd
        have HF := hide hd
        clear hd hlast hE2 hE3 hlen c2 hnl hp
        go_wp2_with (first | ((go_at_call 50; refine (HE.out _ (by repeat' (first | (with_reducible first | exact Below.refl _ _ | assumption | refine below_drewN ?_ _ | refine Below.drew ?_ | refine ext_alloc ?_ _ | refine Below.setCell ?_ ?_ _) | go_size))).mono ?_); rintro e w1 ⟨rfl, rfl⟩))
        go_ret
        exact ⟨ret_int HF.out, Ext.trans HX.out (by repeat' (first | (with_reducible first | exact Below.refl _ _ | assumption | refine below_drewN ?_ _ | refine Below.drew ?_ | refine ext_alloc ?_ _ | refine Below.setCell ?_ ?_ _) | go_size))⟩
      · rw [if_neg c3] at hd
        have hk1 : k + 1 < n := by
          apply Classical.byContradiction; intro h1
          have := hE3 h1; omega
        have b1 := hE2 hk1
        have hlt2 : y1 * (E - F) < B := by
          have : ¬ B ≤ y1 * (E - F) := fun h => c3 (hnl.2 h)
          omega
        have HF := hide hd
        clear hd hlast hE2 hE3 hlen c2 hnl
        go_wp2_with (first | ((go_at_call 50; refine (HE.out _ (by repeat' (first | (with_reducible first | exact Below.refl _ _ | assumption | refine below_drewN ?_ _ | refine Below.drew ?_ | refine ext_alloc ?_ _ | refine Below.setCell ?_ ?_ _) | go_size))).mono ?_); rintro e w1 ⟨rfl, rfl⟩))
        go_roundw
        case rel =>
          first
            | exact ⟨k + 1, E, B - y1 * (E - F), by omega, by go_num, rfl, rfl, by omega, by omega, HF, Ext.trans HX.out (by repeat' (first | (with_reducible first | exact Below.refl _ _ | assumption | refine below_drewN ?_ _ | refine Below.drew ?_ | refine ext_alloc ?_ _ | refine Below.setCell ?_ ?_ _) | go_size))⟩
            | ((repeat apply Exists.intro); exact ⟨⟨k + 1, E, B - y1 * (E - F), by omega, by go_num, rfl, rfl, by omega, by omega, HF, Ext.trans HX.out (by repeat' (first | (with_reducible first | exact Below.refl _ _ | assumption | refine below_drewN ?_ _ | refine Below.drew ?_ | refine ext_alloc ?_ _ | refine Below.setCell ?_ ?_ _) | go_size))⟩, rfl⟩)
        case measure => simp [intOf]; omega
    · have HF : Hid (F = endsP l f b) := hide (by
        have := HS.out
        rw [List.drop_of_length_le (by omega)] at this
        simpa [endsP] using this)
      clear hlen
      go_wp2_with fail
      go_ret
      exact ⟨ret_int HF.out, HX.out⟩
end Go.Proofs.YtfelgolfebhmkaaDoor
