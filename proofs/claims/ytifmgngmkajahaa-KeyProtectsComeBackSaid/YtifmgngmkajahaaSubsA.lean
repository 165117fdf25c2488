/- Walks: subsFault, checkSubs, Fewer (both), Equal of lists of pairs. Conditions: none. -/
import Derived.Test.YtifmgngmkajahaaUnits
namespace Go.Proofs.Ytifmgngmkajahaa
open Go.RowKit

/-- The fault of an element; of a list. -/
def subEl (l : List (Int × Int)) (i : Nat) : Int :=
  if (l.getD i (0, 0)).1 < 0 ∨ 100000 < (l.getD i (0, 0)).1 ∨ (l.getD i (0, 0)).2 < 0 ∨ 100000 < (l.getD i (0, 0)).2 then 1
  else if (l.getD i (0, 0)).1 = 0 ∧ (l.getD i (0, 0)).2 = 0 then 3 else 0
def subsF (l : List (Int × Int)) : Int := if 500 < l.length then 2 else firstF (subEl l) l.length
theorem subEl_zero {l : List (Int × Int)} {i : Nat} (h : subEl l i = 0) : (0 ≤ (l.getD i (0, 0)).1 ∧ (l.getD i (0, 0)).1 ≤ 100000) ∧ (0 ≤ (l.getD i (0, 0)).2 ∧ (l.getD i (0, 0)).2 ≤ 100000) ∧ ¬ ((l.getD i (0, 0)).1 = 0 ∧ (l.getD i (0, 0)).2 = 0) := by
  unfold subEl at h
  split at h
  · omega
  · split at h
    · omega
    · exact ⟨by omega, by omega, by assumption⟩
theorem subsF_zero {l : List (Int × Int)} (h : subsF l = 0) : l.length ≤ 500 ∧ ∀ j, j < l.length → subEl l j = 0 := by
  unfold subsF at h
  split at h
  · omega
  · exact ⟨by omega, firstF_all h⟩

set_option maxRecDepth 100000 in
set_option maxHeartbeats 4000000 in
theorem keySubs_any {A : Option Addr} {n c : Nat} {l : List (Int × Int)} {w : World} (h : At w 2 e2 A n c l) :
    Calls Try.prog 93 #[.slice A n c] w fun e w' => e = .returned (.int .i64 (subsF l)) ∧ Ext w w' := by
  have hb := h.bound
  have hl := h.len
  have H := hide h
  by_cases h5 : 500 < n
  · have HF : Hid (subsF l = 2) := hide (by unfold subsF; rw [if_pos (by omega)])
    clear hl h
    go_enter Try.func93, Try.ntmps93
    go_wp2_with fail
    go_ret
    exact ⟨ret_int HF.out.symm, (by repeat' (first | (with_reducible exact Below.refl _ _) | (with_reducible assumption) | (with_reducible refine below_drewN ?_ _) | (with_reducible refine Below.drew ?_) | (with_reducible refine ext_alloc ?_ _) | (with_reducible refine Below.setCell ?_ ?_ _) | go_size))⟩
  have h5' : n ≤ 500 := by omega
  have HL := hide hl
  have HB : Hid (∀ i, i < n → (∀ j, j < i → subEl l j = 0) → subEl l i ≠ 0 → subsF l = subEl l i) := hide (fun i hi ha hb => by
    unfold subsF; rw [if_neg (by omega)]; exact firstF_at ha hb (by omega))
  have HZ : Hid ((∀ j, j < n → subEl l j = 0) → subsF l = 0) := hide (fun ha => by
    unfold subsF; rw [if_neg (by omega)]; exact firstF_zero (fun j hj => ha j (by omega)))
  have HEL : Hid (∀ i, subEl l i = if (l.getD i (0, 0)).1 < 0 ∨ 100000 < (l.getD i (0, 0)).1 ∨ (l.getD i (0, 0)).2 < 0 ∨ 100000 < (l.getD i (0, 0)).2 then 1
      else if (l.getD i (0, 0)).1 = 0 ∧ (l.getD i (0, 0)).2 = 0 then 3 else 0) := hide (fun _ => rfl)
  clear hl h h5
  go_enter Try.func93, Try.ntmps93
  go_wp2_with fail
  go_loopw [10] (fun ri wr => ∃ k : Nat, k ≤ n ∧ ri = .int .i64 k ∧ Hid (∀ j, j < k → subEl l j = 0) ∧ Hid (Ext w wr)) (fun ri _ => n - (intOf ri).toNat)
  case atStart => exact ⟨0, by omega, rfl, hide (fun j hj => by omega), hide (Ext.refl _)⟩
  case round =>
    obtain ⟨k, hk, rfl, HA, HX⟩ := hrel
    by_cases hlt : k < n
    · obtain ⟨b, off, rfl, _⟩ := H.out.addr (by omega)
      obtain ⟨a1, a2⟩ := (H.out.ext HX.out).pair hlt
      have hel := HEL.out k
      have HR : Hid (subEl l k ≠ 0 → subsF l = subEl l k) := hide (HB.out k hlt HA.out)
      have HG : Hid (subEl l k = 0 → ∀ j, j < k + 1 → subEl l j = 0) := hide (fun h0 j hj => by
        rcases Nat.lt_succ_iff_lt_or_eq.1 hj with h | h
        · exact HA.out j h
        · rw [h]; exact h0)
      generalize subEl l k = fl at *
      generalize (l.getD k (0, 0)).1 = y0 at *
      generalize (l.getD k (0, 0)).2 = y1 at *
      by_cases hA : y0 < 0 ∨ 100000 < y0 ∨ y1 < 0 ∨ 100000 < y1
      · rw [if_pos hA] at hel
        have HF : Hid (subsF l = 1) := hide (by rw [HR.out (by omega), hel])
        clear hel HR HG
        by_cases hA1 : 0 ≤ y0 ∧ y0 ≤ 100000
        · go_wp2_with (first | ((go_at_call 87; with_reducible refine (out_no ?_ _).mono ?_); (focus omega); rintro e w' ⟨rfl, rfl⟩) | ((go_at_call 87; with_reducible refine (out_yes ?_ _).mono ?_); (focus omega); rintro e w' ⟨rfl, rfl⟩))
          go_ret
          exact ⟨ret_int HF.out.symm, Ext.trans HX.out (by repeat' (first | (with_reducible exact Below.refl _ _) | (with_reducible assumption) | (with_reducible refine below_drewN ?_ _) | (with_reducible refine Below.drew ?_) | (with_reducible refine ext_alloc ?_ _) | (with_reducible refine Below.setCell ?_ ?_ _) | go_size))⟩
        · go_wp2_with (first | ((go_at_call 87; with_reducible refine (out_no ?_ _).mono ?_); (focus omega); rintro e w' ⟨rfl, rfl⟩) | ((go_at_call 87; with_reducible refine (out_yes ?_ _).mono ?_); (focus omega); rintro e w' ⟨rfl, rfl⟩))
          go_ret
          exact ⟨ret_int HF.out.symm, Ext.trans HX.out (by repeat' (first | (with_reducible exact Below.refl _ _) | (with_reducible assumption) | (with_reducible refine below_drewN ?_ _) | (with_reducible refine Below.drew ?_) | (with_reducible refine ext_alloc ?_ _) | (with_reducible refine Below.setCell ?_ ?_ _) | go_size))⟩
      rw [if_neg hA] at hel
      have hA1 : 0 ≤ y0 ∧ y0 ≤ 100000 := by omega
      have hA2 : 0 ≤ y1 ∧ y1 ≤ 100000 := by omega
      clear hA
      by_cases hC : y0 = 0 ∧ y1 = 0
      · rw [if_pos hC] at hel
        have HF : Hid (subsF l = 3) := hide (by rw [HR.out (by omega), hel])
        have i1 : (y0 == 0) = true := by simp [hC.1]
        have i2 : (y1 == 0) = true := by simp [hC.2]
        clear hel HR HG hC
        go_wp2_with (first | ((go_at_call 87; with_reducible refine (out_no ?_ _).mono ?_); (focus omega); rintro e w' ⟨rfl, rfl⟩) | ((go_at_call 87; with_reducible refine (out_yes ?_ _).mono ?_); (focus omega); rintro e w' ⟨rfl, rfl⟩))
        go_ret
        exact ⟨ret_int HF.out.symm, Ext.trans HX.out (by repeat' (first | (with_reducible exact Below.refl _ _) | (with_reducible assumption) | (with_reducible refine below_drewN ?_ _) | (with_reducible refine Below.drew ?_) | (with_reducible refine ext_alloc ?_ _) | (with_reducible refine Below.setCell ?_ ?_ _) | go_size))⟩
      · rw [if_neg hC] at hel
        have HA2 : Hid (∀ j, j < k + 1 → subEl l j = 0) := hide (HG.out hel)
        by_cases hC1 : y0 = 0
        · have i1 : (y0 == 0) = true := by simp [hC1]
          have i2 : (y1 == 0) = false := by simp; omega
          clear hel HR HG hC hC1
          go_wp2_with (first | ((go_at_call 87; with_reducible refine (out_no ?_ _).mono ?_); (focus omega); rintro e w' ⟨rfl, rfl⟩) | ((go_at_call 87; with_reducible refine (out_yes ?_ _).mono ?_); (focus omega); rintro e w' ⟨rfl, rfl⟩))
          go_roundw
          case rel =>
            first
              | exact ⟨k + 1, by omega, by go_num, HA2, Ext.trans HX.out (by repeat' (first | (with_reducible exact Below.refl _ _) | (with_reducible assumption) | (with_reducible refine below_drewN ?_ _) | (with_reducible refine Below.drew ?_) | (with_reducible refine ext_alloc ?_ _) | (with_reducible refine Below.setCell ?_ ?_ _) | go_size))⟩
              | ((repeat apply Exists.intro); exact ⟨⟨k + 1, by omega, by go_num, HA2, Ext.trans HX.out (by repeat' (first | (with_reducible exact Below.refl _ _) | (with_reducible assumption) | (with_reducible refine below_drewN ?_ _) | (with_reducible refine Below.drew ?_) | (with_reducible refine ext_alloc ?_ _) | (with_reducible refine Below.setCell ?_ ?_ _) | go_size))⟩, rfl⟩)
          case measure => simp [intOf]; omega
        · have i1 : (y0 == 0) = false := by simp [hC1]
          clear hel HR HG hC hC1
          go_wp2_with (first | ((go_at_call 87; with_reducible refine (out_no ?_ _).mono ?_); (focus omega); rintro e w' ⟨rfl, rfl⟩) | ((go_at_call 87; with_reducible refine (out_yes ?_ _).mono ?_); (focus omega); rintro e w' ⟨rfl, rfl⟩))
          go_roundw
          case rel =>
            first
              | exact ⟨k + 1, by omega, by go_num, HA2, Ext.trans HX.out (by repeat' (first | (with_reducible exact Below.refl _ _) | (with_reducible assumption) | (with_reducible refine below_drewN ?_ _) | (with_reducible refine Below.drew ?_) | (with_reducible refine ext_alloc ?_ _) | (with_reducible refine Below.setCell ?_ ?_ _) | go_size))⟩
              | ((repeat apply Exists.intro); exact ⟨⟨k + 1, by omega, by go_num, HA2, Ext.trans HX.out (by repeat' (first | (with_reducible exact Below.refl _ _) | (with_reducible assumption) | (with_reducible refine below_drewN ?_ _) | (with_reducible refine Below.drew ?_) | (with_reducible refine ext_alloc ?_ _) | (with_reducible refine Below.setCell ?_ ?_ _) | go_size))⟩, rfl⟩)
          case measure => simp [intOf]; omega
    · have HF : Hid (subsF l = 0) := hide (HZ.out (fun j hj => HA.out j (by omega)))
      go_wp2
      go_ret
      exact ⟨ret_int HF.out.symm, HX.out⟩
set_option maxRecDepth 100000 in
set_option maxHeartbeats 4000000 in
theorem refSubs_any {A : Option Addr} {n c : Nat} {l : List (Int × Int)} {w : World} (h : At w 2 e2 A n c l) :
    Calls Try.prog 94 #[.slice A n c] w fun e w' => e = .returned (.int .i64 (subsF l)) ∧ Ext w w' := by
  have hb := h.bound
  have hl := h.len
  have H := hide h
  by_cases h5 : 500 < n
  · have HF : Hid (subsF l = 2) := hide (by unfold subsF; rw [if_pos (by omega)])
    clear hl h
    go_enter Try.func94, Try.ntmps94
    go_wp2_with fail
    go_ret
    exact ⟨ret_int HF.out.symm, (by repeat' (first | (with_reducible exact Below.refl _ _) | (with_reducible assumption) | (with_reducible refine below_drewN ?_ _) | (with_reducible refine Below.drew ?_) | (with_reducible refine ext_alloc ?_ _) | (with_reducible refine Below.setCell ?_ ?_ _) | go_size))⟩
  have h5' : n ≤ 500 := by omega
  have HL := hide hl
  have HB : Hid (∀ i, i < n → (∀ j, j < i → subEl l j = 0) → subEl l i ≠ 0 → subsF l = subEl l i) := hide (fun i hi ha hb => by
    unfold subsF; rw [if_neg (by omega)]; exact firstF_at ha hb (by omega))
  have HZ : Hid ((∀ j, j < n → subEl l j = 0) → subsF l = 0) := hide (fun ha => by
    unfold subsF; rw [if_neg (by omega)]; exact firstF_zero (fun j hj => ha j (by omega)))
  have HEL : Hid (∀ i, subEl l i = if (l.getD i (0, 0)).1 < 0 ∨ 100000 < (l.getD i (0, 0)).1 ∨ (l.getD i (0, 0)).2 < 0 ∨ 100000 < (l.getD i (0, 0)).2 then 1
      else if (l.getD i (0, 0)).1 = 0 ∧ (l.getD i (0, 0)).2 = 0 then 3 else 0) := hide (fun _ => rfl)
  clear hl h h5
  go_enter Try.func94, Try.ntmps94
  go_wp2_with fail
  go_loopw [10] (fun ri wr => ∃ k : Nat, k ≤ n ∧ ri = .int .i64 k ∧ Hid (∀ j, j < k → subEl l j = 0) ∧ Hid (Ext w wr)) (fun ri _ => n - (intOf ri).toNat)
  case atStart => exact ⟨0, by omega, rfl, hide (fun j hj => by omega), hide (Ext.refl _)⟩
  case round =>
    obtain ⟨k, hk, rfl, HA, HX⟩ := hrel
    by_cases hlt : k < n
    · obtain ⟨b, off, rfl, _⟩ := H.out.addr (by omega)
      obtain ⟨a1, a2⟩ := (H.out.ext HX.out).pair hlt
      have hel := HEL.out k
      have HR : Hid (subEl l k ≠ 0 → subsF l = subEl l k) := hide (HB.out k hlt HA.out)
      have HG : Hid (subEl l k = 0 → ∀ j, j < k + 1 → subEl l j = 0) := hide (fun h0 j hj => by
        rcases Nat.lt_succ_iff_lt_or_eq.1 hj with h | h
        · exact HA.out j h
        · rw [h]; exact h0)
      generalize subEl l k = fl at *
      generalize (l.getD k (0, 0)).1 = y0 at *
      generalize (l.getD k (0, 0)).2 = y1 at *
      by_cases hA : y0 < 0 ∨ 100000 < y0 ∨ y1 < 0 ∨ 100000 < y1
      · rw [if_pos hA] at hel
        have HF : Hid (subsF l = 1) := hide (by rw [HR.out (by omega), hel])
        clear hel HR HG
        by_cases hA1 : 0 ≤ y0 ∧ y0 ≤ 100000
        · go_wp2_with (first | ((go_at_call 92; with_reducible refine (within_yes ?_ _).mono ?_); (focus omega); rintro e w' ⟨rfl, rfl⟩) | ((go_at_call 92; with_reducible refine (within_no ?_ _).mono ?_); (focus omega); rintro e w' ⟨rfl, rfl⟩))
          go_ret
          exact ⟨ret_int HF.out.symm, Ext.trans HX.out (by repeat' (first | (with_reducible exact Below.refl _ _) | (with_reducible assumption) | (with_reducible refine below_drewN ?_ _) | (with_reducible refine Below.drew ?_) | (with_reducible refine ext_alloc ?_ _) | (with_reducible refine Below.setCell ?_ ?_ _) | go_size))⟩
        · go_wp2_with (first | ((go_at_call 92; with_reducible refine (within_yes ?_ _).mono ?_); (focus omega); rintro e w' ⟨rfl, rfl⟩) | ((go_at_call 92; with_reducible refine (within_no ?_ _).mono ?_); (focus omega); rintro e w' ⟨rfl, rfl⟩))
          go_ret
          exact ⟨ret_int HF.out.symm, Ext.trans HX.out (by repeat' (first | (with_reducible exact Below.refl _ _) | (with_reducible assumption) | (with_reducible refine below_drewN ?_ _) | (with_reducible refine Below.drew ?_) | (with_reducible refine ext_alloc ?_ _) | (with_reducible refine Below.setCell ?_ ?_ _) | go_size))⟩
      rw [if_neg hA] at hel
      have hA1 : 0 ≤ y0 ∧ y0 ≤ 100000 := by omega
      have hA2 : 0 ≤ y1 ∧ y1 ≤ 100000 := by omega
      clear hA
      by_cases hC : y0 = 0 ∧ y1 = 0
      · rw [if_pos hC] at hel
        have HF : Hid (subsF l = 3) := hide (by rw [HR.out (by omega), hel])
        have i1 : (y0 == 0) = true := by simp [hC.1]
        have i2 : (y1 == 0) = true := by simp [hC.2]
        clear hel HR HG hC
        go_wp2_with (first | ((go_at_call 92; with_reducible refine (within_yes ?_ _).mono ?_); (focus omega); rintro e w' ⟨rfl, rfl⟩) | ((go_at_call 92; with_reducible refine (within_no ?_ _).mono ?_); (focus omega); rintro e w' ⟨rfl, rfl⟩))
        go_ret
        exact ⟨ret_int HF.out.symm, Ext.trans HX.out (by repeat' (first | (with_reducible exact Below.refl _ _) | (with_reducible assumption) | (with_reducible refine below_drewN ?_ _) | (with_reducible refine Below.drew ?_) | (with_reducible refine ext_alloc ?_ _) | (with_reducible refine Below.setCell ?_ ?_ _) | go_size))⟩
      · rw [if_neg hC] at hel
        have HA2 : Hid (∀ j, j < k + 1 → subEl l j = 0) := hide (HG.out hel)
        by_cases hC1 : y0 = 0
        · have i1 : (y0 == 0) = true := by simp [hC1]
          have i2 : (y1 == 0) = false := by simp; omega
          clear hel HR HG hC hC1
          go_wp2_with (first | ((go_at_call 92; with_reducible refine (within_yes ?_ _).mono ?_); (focus omega); rintro e w' ⟨rfl, rfl⟩) | ((go_at_call 92; with_reducible refine (within_no ?_ _).mono ?_); (focus omega); rintro e w' ⟨rfl, rfl⟩))
          go_roundw
          case rel =>
            first
              | exact ⟨k + 1, by omega, by go_num, HA2, Ext.trans HX.out (by repeat' (first | (with_reducible exact Below.refl _ _) | (with_reducible assumption) | (with_reducible refine below_drewN ?_ _) | (with_reducible refine Below.drew ?_) | (with_reducible refine ext_alloc ?_ _) | (with_reducible refine Below.setCell ?_ ?_ _) | go_size))⟩
              | ((repeat apply Exists.intro); exact ⟨⟨k + 1, by omega, by go_num, HA2, Ext.trans HX.out (by repeat' (first | (with_reducible exact Below.refl _ _) | (with_reducible assumption) | (with_reducible refine below_drewN ?_ _) | (with_reducible refine Below.drew ?_) | (with_reducible refine ext_alloc ?_ _) | (with_reducible refine Below.setCell ?_ ?_ _) | go_size))⟩, rfl⟩)
          case measure => simp [intOf]; omega
        · have i1 : (y0 == 0) = false := by simp [hC1]
          clear hel HR HG hC hC1
          go_wp2_with (first | ((go_at_call 92; with_reducible refine (within_yes ?_ _).mono ?_); (focus omega); rintro e w' ⟨rfl, rfl⟩) | ((go_at_call 92; with_reducible refine (within_no ?_ _).mono ?_); (focus omega); rintro e w' ⟨rfl, rfl⟩))
          go_roundw
          case rel =>
            first
              | exact ⟨k + 1, by omega, by go_num, HA2, Ext.trans HX.out (by repeat' (first | (with_reducible exact Below.refl _ _) | (with_reducible assumption) | (with_reducible refine below_drewN ?_ _) | (with_reducible refine Below.drew ?_) | (with_reducible refine ext_alloc ?_ _) | (with_reducible refine Below.setCell ?_ ?_ _) | go_size))⟩
              | ((repeat apply Exists.intro); exact ⟨⟨k + 1, by omega, by go_num, HA2, Ext.trans HX.out (by repeat' (first | (with_reducible exact Below.refl _ _) | (with_reducible assumption) | (with_reducible refine below_drewN ?_ _) | (with_reducible refine Below.drew ?_) | (with_reducible refine ext_alloc ?_ _) | (with_reducible refine Below.setCell ?_ ?_ _) | go_size))⟩, rfl⟩)
          case measure => simp [intOf]; omega
    · have HF : Hid (subsF l = 0) := hide (HZ.out (fun j hj => HA.out j (by omega)))
      go_wp2
      go_ret
      exact ⟨ret_int HF.out.symm, HX.out⟩

set_option maxHeartbeats 1000000 in
/-- Two slices that read as one list. -/
theorem subsEq_true {A1 A2 : Option Addr} {n1 c1 n2 c2 : Nat} {l : List (Int × Int)} {w : World} (h1 : At w 2 e2 A1 n1 c1 l) (h2 : At w 2 e2 A2 n2 c2 l) :
    Calls Try.prog 36 #[.slice A1 n1 c1, .slice A2 n2 c2] w fun e w' => e = .returned (.bool true) ∧ Ext w w' := by
  obtain rfl : n1 = n2 := h1.len.symm.trans h2.len
  have hb := h1.bound
  have H1 := hide h1; have H2 := hide h2
  clear h1 h2
  go_enter Try.func36, Try.ntmps36
  go_wp2_with fail
  go_loopw [13] (fun ri wr => ∃ k : Nat, k ≤ n1 ∧ ri = .int .i64 k ∧ Hid (Ext w wr)) (fun i _ => n1 - (intOf i).toNat)
  case atStart => exact ⟨0, by omega, rfl, hide (Ext.refl _)⟩
  case round =>
    obtain ⟨k, hk, rfl, HX⟩ := hrel
    by_cases hlt : k < n1
    · obtain ⟨b, off, rfl, _⟩ := H1.out.addr (by omega)
      obtain ⟨b2, off2, rfl, _⟩ := H2.out.addr (by omega)
      obtain ⟨a1, a2⟩ := (H1.out.ext HX.out).pair hlt
      obtain ⟨a3, a4⟩ := (H2.out.ext HX.out).pair hlt
      generalize (l.getD k (0, 0)).1 = y0 at *
      generalize (l.getD k (0, 0)).2 = y1 at *
      have i1 : (k : Int) < (n1 : Int) := by omega
      have i0 : (0 : Int) ≤ (k : Int) := by omega
      go_wp2_with fail
      go_quiet (fail)
      go_wp2
      go_roundw
      case rel => exact ⟨k + 1, by omega, by go_num, below_drewN HX.out _⟩
      case measure => simp [intOf]; omega
    · have hkn : k = n1 := by omega
      clear hkn
      go_wp2
      go_ret
      exact ⟨rfl, HX.out⟩
set_option maxHeartbeats 1000000 in
/-- Two slices that read as one list. -/
theorem spansEq_true {A1 A2 : Option Addr} {n1 c1 n2 c2 : Nat} {l : List (Int × Int)} {w : World} (h1 : At w 2 e2 A1 n1 c1 l) (h2 : At w 2 e2 A2 n2 c2 l) :
    Calls Try.prog 48 #[.slice A1 n1 c1, .slice A2 n2 c2] w fun e w' => e = .returned (.bool true) ∧ Ext w w' := by
  obtain rfl : n1 = n2 := h1.len.symm.trans h2.len
  have hb := h1.bound
  have H1 := hide h1; have H2 := hide h2
  clear h1 h2
  go_enter Try.func48, Try.ntmps48
  go_wp2_with fail
  go_loopw [13] (fun ri wr => ∃ k : Nat, k ≤ n1 ∧ ri = .int .i64 k ∧ Hid (Ext w wr)) (fun i _ => n1 - (intOf i).toNat)
  case atStart => exact ⟨0, by omega, rfl, hide (Ext.refl _)⟩
  case round =>
    obtain ⟨k, hk, rfl, HX⟩ := hrel
    by_cases hlt : k < n1
    · obtain ⟨b, off, rfl, _⟩ := H1.out.addr (by omega)
      obtain ⟨b2, off2, rfl, _⟩ := H2.out.addr (by omega)
      obtain ⟨a1, a2⟩ := (H1.out.ext HX.out).pair hlt
      obtain ⟨a3, a4⟩ := (H2.out.ext HX.out).pair hlt
      generalize (l.getD k (0, 0)).1 = y0 at *
      generalize (l.getD k (0, 0)).2 = y1 at *
      have i1 : (k : Int) < (n1 : Int) := by omega
      have i0 : (0 : Int) ≤ (k : Int) := by omega
      go_wp2_with fail
      go_quiet (fail)
      go_wp2
      go_roundw
      case rel => exact ⟨k + 1, by omega, by go_num, below_drewN HX.out _⟩
      case measure => simp [intOf]; omega
    · have hkn : k = n1 := by omega
      clear hkn
      go_wp2
      go_ret
      exact ⟨rfl, HX.out⟩
end Go.Proofs.Ytifmgngmkajahaa
