/- Walks: CheckTrace, came, Came (both). Conditions as stated. -/
import Derived.Test.YtfelgolfebhmkaaDoorMtm01
import Derived.Test.YtfelgolfebhmkaaDoorMtm15
namespace Go.Proofs.YtfelgolfebhmkaaDoor
open Go.RowKit
set_option maxRecDepth 100000 in
set_option maxHeartbeats 4000000 in
theorem keyTrace_any {A : Option Addr} {n c : Nat} {l : List (Int × Int)} {w : World} (h : At w 2 e2 A n c l) :
    Calls Tryd.prog 27 #[.slice A n c] w fun e w' => e = .returned (.int .i64 (trcF l)) ∧ Ext w w' := by
  have hb := h.bound
  have hl := h.len
  have H := hide h
  by_cases h0 : n = 0
  · subst h0
    have HF : Hid (trcF l = 9) := hide (by unfold trcF; rw [if_pos hl])
    clear hl h
    go_enter Tryd.func27, Tryd.ntmps27
    go_wp2_with fail
    go_ret
    exact ⟨ret_int HF.out.symm, (by repeat' (first | (with_reducible first | exact Below.refl _ _ | assumption | refine below_drewN ?_ _ | refine Below.drew ?_ | refine ext_alloc ?_ _ | refine Below.setCell ?_ ?_ _) | go_size))⟩
  have hn0 : 0 < n := by omega
  have h00 : ((n : Int) == 0) = false := by simp; omega
  by_cases h5 : 500 < n
  · have HF : Hid (trcF l = 2) := hide (by unfold trcF; rw [if_neg (by omega), if_pos (by omega)])
    clear hl h h0
    go_enter Tryd.func27, Tryd.ntmps27
    go_wp2_with fail
    go_ret
    exact ⟨ret_int HF.out.symm, (by repeat' (first | (with_reducible first | exact Below.refl _ _ | assumption | refine below_drewN ?_ _ | refine Below.drew ?_ | refine ext_alloc ?_ _ | refine Below.setCell ?_ ?_ _) | go_size))⟩
  have h5' : n ≤ 500 := by omega
  obtain ⟨b, off, rfl, _⟩ := h.addr hn0
  have HL := hide hl
  have HB : Hid (∀ i, i < n → (∀ j, j < i → trEl l j = 0) → trEl l i ≠ 0 → trcF l = trEl l i) := hide (fun i hi ha hb => by
    have := firstF_at ha hb (n := l.length) (by omega)
    unfold trcF; rw [if_neg (by omega), if_neg (by omega), if_pos (by omega), this])
  have HZ : Hid ((∀ j, j < n → trEl l j = 0) → trcF l = if (l.getD (n - 1) (0, 0)).2 = 0 then 13 else 0) := hide (fun ha => by
    have := firstF_zero (g := trEl l) (n := l.length) (fun j hj => ha j (by omega))
    unfold trcF; rw [if_neg (by omega), if_neg (by omega), if_neg (by omega), hl])
  have HEL : Hid (∀ i, trEl l i = if (l.getD i (0, 0)).1 < 0 ∨ 1000000000000 < (l.getD i (0, 0)).1 then 1
      else if (i = 0 ∧ (l.getD i (0, 0)).1 ≠ 0) ∨ (0 < i ∧ (l.getD i (0, 0)).1 ≤ (l.getD (i - 1) (0, 0)).1) then 8
      else if (l.getD i (0, 0)).2 < 0 ∨ 1000000 < (l.getD i (0, 0)).2 then 1 else 0) := hide (fun _ => rfl)
  have hlast := (h.pair (k := n - 1) (by omega)).2
  have hmul : off + (n - 1) * 2 + 1 = off + (n - 1) * 2 + 1 := rfl
  clear hl h h0 h5 hmul
  go_enter Tryd.func27, Tryd.ntmps27
  go_wp2_with fail
  go_loopw [15] (fun ri wr => ∃ k : Nat, k ≤ n ∧ ri = .int .i64 k ∧ Hid (∀ j, j < k → trEl l j = 0) ∧ Hid (Ext w wr)) (fun ri _ => n - (intOf ri).toNat)
  case atStart => exact ⟨0, by omega, rfl, hide (fun j hj => by omega), hide (Ext.refl _)⟩
  case round =>
    obtain ⟨k, hk, rfl, HA, HX⟩ := hrel
    by_cases hlt : k < n
    · obtain ⟨a1, a2⟩ := (H.out.ext HX.out).pair hlt
      have hel := HEL.out k
      have HR : Hid (trEl l k ≠ 0 → trcF l = trEl l k) := hide (HB.out k hlt HA.out)
      have HG : Hid (trEl l k = 0 → ∀ j, j < k + 1 → trEl l j = 0) := hide (fun h0 j hj => by
        rcases Nat.lt_succ_iff_lt_or_eq.1 hj with h | h
        · exact HA.out j h
        · rw [h]; exact h0)
      have hp : 0 < k → wr.cell? ⟨b, off + (k - 1) * 2, none⟩ = some (.int .i64 (l.getD (k - 1) (0, 0)).1) := fun h0 => ((H.out.ext HX.out).pair (k := k - 1) (by omega)).1
      generalize trEl l k = fl at *
      generalize (l.getD k (0, 0)).1 = y0 at *
      generalize (l.getD k (0, 0)).2 = y1 at *
      generalize (l.getD (k - 1) (0, 0)).1 = p0 at *
      by_cases hA : y0 < 0 ∨ 1000000000000 < y0
      · rw [if_pos hA] at hel
        have HF : Hid (trcF l = 1) := hide (by rw [HR.out (by omega), hel])
        clear hel hp HR HG
        go_wp2_with (first | ((go_at_call 24; with_reducible refine (out_no ?_ _).mono ?_); (focus omega); rintro e w' ⟨rfl, rfl⟩) | ((go_at_call 24; with_reducible refine (out_yes ?_ _).mono ?_); (focus omega); rintro e w' ⟨rfl, rfl⟩))
        go_ret
        exact ⟨ret_int HF.out.symm, Ext.trans HX.out (by repeat' (first | (with_reducible first | exact Below.refl _ _ | assumption | refine below_drewN ?_ _ | refine Below.drew ?_ | refine ext_alloc ?_ _ | refine Below.setCell ?_ ?_ _) | go_size))⟩
      rw [if_neg hA] at hel
      have hA' : 0 ≤ y0 ∧ y0 ≤ 1000000000000 := by omega
      clear hA
      rcases Nat.eq_zero_or_pos k with hk0 | hk0
      · subst hk0
        clear hp
        simp only [Nat.zero_mul, Nat.add_zero] at a1 a2
        by_cases hC : y0 = 0
        · by_cases hD : y1 < 0 ∨ 1000000 < y1
          · rw [if_neg (by omega), if_pos hD] at hel
            have HF : Hid (trcF l = 1) := hide (by rw [HR.out (by omega), hel])
            have hC' : (y0 == 0) = true := by simp [hC]
            have hC2 : (y0 != 0) = false := by simp [hC]
            clear hel HR HG hC
            go_wp2_with (first | ((go_at_call 24; with_reducible refine (out_no ?_ _).mono ?_); (focus omega); rintro e w' ⟨rfl, rfl⟩) | ((go_at_call 24; with_reducible refine (out_yes ?_ _).mono ?_); (focus omega); rintro e w' ⟨rfl, rfl⟩))
            go_quiet (fail)
            go_wp2_with (first | ((go_at_call 24; with_reducible refine (out_no ?_ _).mono ?_); (focus omega); rintro e w' ⟨rfl, rfl⟩) | ((go_at_call 24; with_reducible refine (out_yes ?_ _).mono ?_); (focus omega); rintro e w' ⟨rfl, rfl⟩))
            go_ret
            exact ⟨ret_int HF.out.symm, Ext.trans HX.out (by repeat' (first | (with_reducible first | exact Below.refl _ _ | assumption | refine below_drewN ?_ _ | refine Below.drew ?_ | refine ext_alloc ?_ _ | refine Below.setCell ?_ ?_ _) | go_size))⟩
          · rw [if_neg (by omega), if_neg hD] at hel
            have HA2 : Hid (∀ j, j < 0 + 1 → trEl l j = 0) := hide (HG.out hel)
            have hC' : (y0 == 0) = true := by simp [hC]
            have hC2 : (y0 != 0) = false := by simp [hC]
            have hD' : 0 ≤ y1 ∧ y1 ≤ 1000000 := by omega
            clear hel HR HG hC hD
            go_wp2_with (first | ((go_at_call 24; with_reducible refine (out_no ?_ _).mono ?_); (focus omega); rintro e w' ⟨rfl, rfl⟩) | ((go_at_call 24; with_reducible refine (out_yes ?_ _).mono ?_); (focus omega); rintro e w' ⟨rfl, rfl⟩))
            go_quiet (fail)
            go_wp2_with (first | ((go_at_call 24; with_reducible refine (out_no ?_ _).mono ?_); (focus omega); rintro e w' ⟨rfl, rfl⟩) | ((go_at_call 24; with_reducible refine (out_yes ?_ _).mono ?_); (focus omega); rintro e w' ⟨rfl, rfl⟩))
            go_roundw
            case rel =>
              first
                | exact ⟨0 + 1, by omega, by go_num, HA2, Ext.trans HX.out (by repeat' (first | (with_reducible first | exact Below.refl _ _ | assumption | refine below_drewN ?_ _ | refine Below.drew ?_ | refine ext_alloc ?_ _ | refine Below.setCell ?_ ?_ _) | go_size))⟩
                | ((repeat apply Exists.intro); exact ⟨⟨0 + 1, by omega, by go_num, HA2, Ext.trans HX.out (by repeat' (first | (with_reducible first | exact Below.refl _ _ | assumption | refine below_drewN ?_ _ | refine Below.drew ?_ | refine ext_alloc ?_ _ | refine Below.setCell ?_ ?_ _) | go_size))⟩, rfl⟩)
            case measure => simp [intOf]; omega
        · rw [if_pos (.inl ⟨rfl, hC⟩)] at hel
          have HF : Hid (trcF l = 8) := hide (by rw [HR.out (by omega), hel])
          have hC' : (y0 == 0) = false := by simp [hC]
          have hC2 : (y0 != 0) = true := by simp [hC]
          clear hel HR HG
          go_wp2_with (first | ((go_at_call 24; with_reducible refine (out_no ?_ _).mono ?_); (focus omega); rintro e w' ⟨rfl, rfl⟩) | ((go_at_call 24; with_reducible refine (out_yes ?_ _).mono ?_); (focus omega); rintro e w' ⟨rfl, rfl⟩))
          go_quiet (fail)
          go_wp2_with (first | ((go_at_call 24; with_reducible refine (out_no ?_ _).mono ?_); (focus omega); rintro e w' ⟨rfl, rfl⟩) | ((go_at_call 24; with_reducible refine (out_yes ?_ _).mono ?_); (focus omega); rintro e w' ⟨rfl, rfl⟩))
          go_ret
          exact ⟨ret_int HF.out.symm, Ext.trans HX.out (by repeat' (first | (with_reducible first | exact Below.refl _ _ | assumption | refine below_drewN ?_ _ | refine Below.drew ?_ | refine ext_alloc ?_ _ | refine Below.setCell ?_ ?_ _) | go_size))⟩
      · have i0 : ((k : Int) == 0) = false := by simp; omega
        have i1 : decide (0 < (k : Int)) = true := by simp; omega
        have i2 : IntKind.i64.wrap ((k : Int) - 1) = (k : Int) - 1 := by rw [IntKind.wrap_i64]; omega
        have i3 : ((k : Int) - 1).toNat = k - 1 := by omega
        have i4 : 0 ≤ (k : Int) - 1 := by omega
        have i5 : (k : Int) - 1 < (n : Int) := by omega
        have i6 : 1 ≤ (k : Int) := by omega
        have i7 : (k : Int) ≤ (n : Int) := by omega
        have hp1 := hp hk0
        have hp2 := (Ext.alloc wr (.cells #[.int .i64 y0, .int .i64 y1] 31)).cell hp1
        clear hp hp1
        by_cases hC : y0 ≤ p0
        · rw [if_pos (.inr ⟨hk0, hC⟩)] at hel
          have HF : Hid (trcF l = 8) := hide (by rw [HR.out (by omega), hel])
          clear hel HR HG
          go_wp2_with (first | ((go_at_call 24; with_reducible refine (out_no ?_ _).mono ?_); (focus omega); rintro e w' ⟨rfl, rfl⟩) | ((go_at_call 24; with_reducible refine (out_yes ?_ _).mono ?_); (focus omega); rintro e w' ⟨rfl, rfl⟩))
          go_quiet (fail)
          go_wp2_with (first | ((go_at_call 24; with_reducible refine (out_no ?_ _).mono ?_); (focus omega); rintro e w' ⟨rfl, rfl⟩) | ((go_at_call 24; with_reducible refine (out_yes ?_ _).mono ?_); (focus omega); rintro e w' ⟨rfl, rfl⟩))
          go_ret
          exact ⟨ret_int HF.out.symm, Ext.trans HX.out (by repeat' (first | (with_reducible first | exact Below.refl _ _ | assumption | refine below_drewN ?_ _ | refine Below.drew ?_ | refine ext_alloc ?_ _ | refine Below.setCell ?_ ?_ _) | go_size))⟩
        · have hC' : decide (y0 ≤ p0) = false := by simp; omega
          by_cases hD : y1 < 0 ∨ 1000000 < y1
          · rw [if_neg (by omega), if_pos hD] at hel
            have HF : Hid (trcF l = 1) := hide (by rw [HR.out (by omega), hel])
            clear hel HR HG
            go_wp2_with (first | ((go_at_call 24; with_reducible refine (out_no ?_ _).mono ?_); (focus omega); rintro e w' ⟨rfl, rfl⟩) | ((go_at_call 24; with_reducible refine (out_yes ?_ _).mono ?_); (focus omega); rintro e w' ⟨rfl, rfl⟩))
            go_quiet (fail)
            go_wp2_with (first | ((go_at_call 24; with_reducible refine (out_no ?_ _).mono ?_); (focus omega); rintro e w' ⟨rfl, rfl⟩) | ((go_at_call 24; with_reducible refine (out_yes ?_ _).mono ?_); (focus omega); rintro e w' ⟨rfl, rfl⟩))
            go_ret
            exact ⟨ret_int HF.out.symm, Ext.trans HX.out (by repeat' (first | (with_reducible first | exact Below.refl _ _ | assumption | refine below_drewN ?_ _ | refine Below.drew ?_ | refine ext_alloc ?_ _ | refine Below.setCell ?_ ?_ _) | go_size))⟩
          · rw [if_neg (by omega), if_neg hD] at hel
            have HA2 : Hid (∀ j, j < k + 1 → trEl l j = 0) := hide (HG.out hel)
            have hD' : 0 ≤ y1 ∧ y1 ≤ 1000000 := by omega
            clear hel HR HG hD
            go_wp2_with (first | ((go_at_call 24; with_reducible refine (out_no ?_ _).mono ?_); (focus omega); rintro e w' ⟨rfl, rfl⟩) | ((go_at_call 24; with_reducible refine (out_yes ?_ _).mono ?_); (focus omega); rintro e w' ⟨rfl, rfl⟩))
            go_quiet (fail)
            go_wp2_with (first | ((go_at_call 24; with_reducible refine (out_no ?_ _).mono ?_); (focus omega); rintro e w' ⟨rfl, rfl⟩) | ((go_at_call 24; with_reducible refine (out_yes ?_ _).mono ?_); (focus omega); rintro e w' ⟨rfl, rfl⟩))
            go_roundw
            case rel =>
              first
                | exact ⟨k + 1, by omega, by go_num, HA2, Ext.trans HX.out (by repeat' (first | (with_reducible first | exact Below.refl _ _ | assumption | refine below_drewN ?_ _ | refine Below.drew ?_ | refine ext_alloc ?_ _ | refine Below.setCell ?_ ?_ _) | go_size))⟩
                | ((repeat apply Exists.intro); exact ⟨⟨k + 1, by omega, by go_num, HA2, Ext.trans HX.out (by repeat' (first | (with_reducible first | exact Below.refl _ _ | assumption | refine below_drewN ?_ _ | refine Below.drew ?_ | refine ext_alloc ?_ _ | refine Below.setCell ?_ ?_ _) | go_size))⟩, rfl⟩)
            case measure => simp [intOf]; omega
    · have hz := HZ.out (fun j hj => HA.out j (by omega))
      have a2 := ((H.out.ext HX.out).pair (k := n - 1) (by omega)).2
      have i3 : ((n : Int) - 1).toNat = n - 1 := by omega
      have i4 : 0 ≤ (n : Int) - 1 := by omega
      generalize (l.getD (n - 1) (0, 0)).2 = y1 at *
      by_cases hD : y1 = 0
      · rw [if_pos hD] at hz
        have HF := hide hz
        have hD' : (y1 == 0) = true := by simp [hD]
        clear hz hD hlast
        go_wp2
        go_ret
        exact ⟨ret_int HF.out.symm, HX.out⟩
      · rw [if_neg hD] at hz
        have HF := hide hz
        have hD' : (y1 == 0) = false := by simp [hD]
        clear hz hlast
        go_wp2
        go_ret
        exact ⟨ret_int HF.out.symm, HX.out⟩
end Go.Proofs.YtfelgolfebhmkaaDoor
