/- Walks: CheckScheme, listFault and checkList, parts (both). Conditions as stated. -/
import Derived.Test.YtifmgngmkajahaaFewer
import Derived.Test.YtifmgngmkajahaaPlainTouch
namespace Go.Proofs.Ytifmgngmkajahaa
open Go.RowKit

/-- A scheme by value; its fault. -/
abbrev schV (m c s : Int) : Value := .agg #[.int .i64 m, .int .i64 c, .int .i64 s]
def schF (m c s : Int) : Int :=
  if m ≠ 1 ∧ m ≠ 2 then 4 else if m = 1 ∧ (c ≠ 0 ∨ s ≠ 0) then 3 else if c < 0 ∨ 10 < c ∨ s < 0 ∨ 10 < s then 1 else if c = 0 ∧ s ≠ 0 then 3 else 0
theorem schF_zero {m c s : Int} (h : schF m c s = 0) : (m = 1 ∨ m = 2) ∧ (m = 1 → c = 0 ∧ s = 0) ∧ (0 ≤ c ∧ c ≤ 10) ∧ (0 ≤ s ∧ s ≤ 10) ∧ (c = 0 → s = 0) := by
  unfold schF at h
  split at h
  · omega
  · split at h
    · omega
    · split at h
      · omega
      · split at h
        · omega
        · refine ⟨by omega, by omega, by omega, by omega, by omega⟩
set_option maxHeartbeats 2000000 in
theorem keyScheme_any (m c s : Int) (w : World) :
    Calls Try.prog 46 #[schV m c s] w fun e w' => e = .returned (.int .i64 (schF m c s)) ∧ Ext w w' := by
  unfold schF
  by_cases hm : m ≠ 1 ∧ m ≠ 2
  · rw [if_pos hm]
    obtain ⟨h1, h2⟩ := hm
    have i1 : (m != 1) = true := by simpa using h1
    have i2 : (m != 2) = true := by simpa using h2
    clear h1 h2
    go_enter Try.func46, Try.ntmps46
    go_wp2_with (first | ((go_at_call 87; with_reducible refine (out_no ?_ _).mono ?_); (focus omega); rintro e w' ⟨rfl, rfl⟩) | ((go_at_call 87; with_reducible refine (out_yes ?_ _).mono ?_); (focus omega); rintro e w' ⟨rfl, rfl⟩))
    go_ret
    exact ⟨rfl, (by repeat' (first | (with_reducible exact Below.refl _ _) | (with_reducible assumption) | (with_reducible refine below_drewN ?_ _) | (with_reducible refine Below.drew ?_) | (with_reducible refine ext_alloc ?_ _) | (with_reducible refine Below.setCell ?_ ?_ _) | go_size))⟩
  rw [if_neg hm]
  by_cases h1 : m = 1
  · subst h1
    clear hm
    by_cases hc : c = 0
    · subst hc
      by_cases hs : s = 0
      · subst hs
        rw [if_neg (by omega), if_neg (by omega), if_neg (by omega)]
        go_enter Try.func46, Try.ntmps46
        go_wp2_with (first | ((go_at_call 87; with_reducible refine (out_no ?_ _).mono ?_); (focus omega); rintro e w' ⟨rfl, rfl⟩) | ((go_at_call 87; with_reducible refine (out_yes ?_ _).mono ?_); (focus omega); rintro e w' ⟨rfl, rfl⟩))
        go_ret
        exact ⟨rfl, (by repeat' (first | (with_reducible exact Below.refl _ _) | (with_reducible assumption) | (with_reducible refine below_drewN ?_ _) | (with_reducible refine Below.drew ?_) | (with_reducible refine ext_alloc ?_ _) | (with_reducible refine Below.setCell ?_ ?_ _) | go_size))⟩
      · rw [if_pos ⟨rfl, .inr hs⟩]
        have i1 : (s != 0) = true := by simpa using hs
        clear hs
        go_enter Try.func46, Try.ntmps46
        go_wp2_with (first | ((go_at_call 87; with_reducible refine (out_no ?_ _).mono ?_); (focus omega); rintro e w' ⟨rfl, rfl⟩) | ((go_at_call 87; with_reducible refine (out_yes ?_ _).mono ?_); (focus omega); rintro e w' ⟨rfl, rfl⟩))
        go_ret
        exact ⟨rfl, (by repeat' (first | (with_reducible exact Below.refl _ _) | (with_reducible assumption) | (with_reducible refine below_drewN ?_ _) | (with_reducible refine Below.drew ?_) | (with_reducible refine ext_alloc ?_ _) | (with_reducible refine Below.setCell ?_ ?_ _) | go_size))⟩
    · rw [if_pos ⟨rfl, .inl hc⟩]
      have i1 : (c != 0) = true := by simpa using hc
      clear hc
      go_enter Try.func46, Try.ntmps46
      go_wp2_with (first | ((go_at_call 87; with_reducible refine (out_no ?_ _).mono ?_); (focus omega); rintro e w' ⟨rfl, rfl⟩) | ((go_at_call 87; with_reducible refine (out_yes ?_ _).mono ?_); (focus omega); rintro e w' ⟨rfl, rfl⟩))
      go_ret
      exact ⟨rfl, (by repeat' (first | (with_reducible exact Below.refl _ _) | (with_reducible assumption) | (with_reducible refine below_drewN ?_ _) | (with_reducible refine Below.drew ?_) | (with_reducible refine ext_alloc ?_ _) | (with_reducible refine Below.setCell ?_ ?_ _) | go_size))⟩
  · have h2 : m = 2 := by omega
    subst h2
    clear hm h1
    rw [if_neg (by omega)]
    by_cases hc : 0 ≤ c ∧ c ≤ 10
    · by_cases hs : 0 ≤ s ∧ s ≤ 10
      · rw [if_neg (by omega)]
        by_cases hc0 : c = 0
        · subst hc0
          by_cases hs0 : s = 0
          · subst hs0
            rw [if_neg (by omega)]
            go_enter Try.func46, Try.ntmps46
            go_wp2_with (first | ((go_at_call 87; with_reducible refine (out_no ?_ _).mono ?_); (focus omega); rintro e w' ⟨rfl, rfl⟩) | ((go_at_call 87; with_reducible refine (out_yes ?_ _).mono ?_); (focus omega); rintro e w' ⟨rfl, rfl⟩))
            go_ret
            exact ⟨rfl, (by repeat' (first | (with_reducible exact Below.refl _ _) | (with_reducible assumption) | (with_reducible refine below_drewN ?_ _) | (with_reducible refine Below.drew ?_) | (with_reducible refine ext_alloc ?_ _) | (with_reducible refine Below.setCell ?_ ?_ _) | go_size))⟩
          · rw [if_pos ⟨rfl, hs0⟩]
            have i1 : (s != 0) = true := by simpa using hs0
            clear hs0
            go_enter Try.func46, Try.ntmps46
            go_wp2_with (first | ((go_at_call 87; with_reducible refine (out_no ?_ _).mono ?_); (focus omega); rintro e w' ⟨rfl, rfl⟩) | ((go_at_call 87; with_reducible refine (out_yes ?_ _).mono ?_); (focus omega); rintro e w' ⟨rfl, rfl⟩))
            go_ret
            exact ⟨rfl, (by repeat' (first | (with_reducible exact Below.refl _ _) | (with_reducible assumption) | (with_reducible refine below_drewN ?_ _) | (with_reducible refine Below.drew ?_) | (with_reducible refine ext_alloc ?_ _) | (with_reducible refine Below.setCell ?_ ?_ _) | go_size))⟩
        · rw [if_neg (by omega)]
          have i1 : (c == 0) = false := by simpa using hc0
          clear hc0
          go_enter Try.func46, Try.ntmps46
          go_wp2_with (first | ((go_at_call 87; with_reducible refine (out_no ?_ _).mono ?_); (focus omega); rintro e w' ⟨rfl, rfl⟩) | ((go_at_call 87; with_reducible refine (out_yes ?_ _).mono ?_); (focus omega); rintro e w' ⟨rfl, rfl⟩))
          go_ret
          exact ⟨rfl, (by repeat' (first | (with_reducible exact Below.refl _ _) | (with_reducible assumption) | (with_reducible refine below_drewN ?_ _) | (with_reducible refine Below.drew ?_) | (with_reducible refine ext_alloc ?_ _) | (with_reducible refine Below.setCell ?_ ?_ _) | go_size))⟩
      · rw [if_pos (by omega)]
        go_enter Try.func46, Try.ntmps46
        go_wp2_with (first | ((go_at_call 87; with_reducible refine (out_no ?_ _).mono ?_); (focus omega); rintro e w' ⟨rfl, rfl⟩) | ((go_at_call 87; with_reducible refine (out_yes ?_ _).mono ?_); (focus omega); rintro e w' ⟨rfl, rfl⟩))
        go_ret
        exact ⟨rfl, (by repeat' (first | (with_reducible exact Below.refl _ _) | (with_reducible assumption) | (with_reducible refine below_drewN ?_ _) | (with_reducible refine Below.drew ?_) | (with_reducible refine ext_alloc ?_ _) | (with_reducible refine Below.setCell ?_ ?_ _) | go_size))⟩
    · rw [if_pos (by omega)]
      go_enter Try.func46, Try.ntmps46
      go_wp2_with (first | ((go_at_call 87; with_reducible refine (out_no ?_ _).mono ?_); (focus omega); rintro e w' ⟨rfl, rfl⟩) | ((go_at_call 87; with_reducible refine (out_yes ?_ _).mono ?_); (focus omega); rintro e w' ⟨rfl, rfl⟩))
      go_ret
      exact ⟨rfl, (by repeat' (first | (with_reducible exact Below.refl _ _) | (with_reducible assumption) | (with_reducible refine below_drewN ?_ _) | (with_reducible refine Below.drew ?_) | (with_reducible refine ext_alloc ?_ _) | (with_reducible refine Below.setCell ?_ ?_ _) | go_size))⟩
set_option maxHeartbeats 2000000 in
theorem refScheme_any (m c s : Int) (w : World) :
    Calls Try.prog 47 #[schV m c s] w fun e w' => e = .returned (.int .i64 (schF m c s)) ∧ Ext w w' := by
  unfold schF
  by_cases hm : m ≠ 1 ∧ m ≠ 2
  · rw [if_pos hm]
    obtain ⟨h1, h2⟩ := hm
    have i1 : (m != 1) = true := by simpa using h1
    have i2 : (m != 2) = true := by simpa using h2
    clear h1 h2
    go_enter Try.func47, Try.ntmps47
    go_wp2_with (first | ((go_at_call 92; with_reducible refine (within_yes ?_ _).mono ?_); (focus omega); rintro e w' ⟨rfl, rfl⟩) | ((go_at_call 92; with_reducible refine (within_no ?_ _).mono ?_); (focus omega); rintro e w' ⟨rfl, rfl⟩))
    go_ret
    exact ⟨rfl, (by repeat' (first | (with_reducible exact Below.refl _ _) | (with_reducible assumption) | (with_reducible refine below_drewN ?_ _) | (with_reducible refine Below.drew ?_) | (with_reducible refine ext_alloc ?_ _) | (with_reducible refine Below.setCell ?_ ?_ _) | go_size))⟩
  rw [if_neg hm]
  by_cases h1 : m = 1
  · subst h1
    clear hm
    by_cases hc : c = 0
    · subst hc
      by_cases hs : s = 0
      · subst hs
        rw [if_neg (by omega), if_neg (by omega), if_neg (by omega)]
        go_enter Try.func47, Try.ntmps47
        go_wp2_with (first | ((go_at_call 92; with_reducible refine (within_yes ?_ _).mono ?_); (focus omega); rintro e w' ⟨rfl, rfl⟩) | ((go_at_call 92; with_reducible refine (within_no ?_ _).mono ?_); (focus omega); rintro e w' ⟨rfl, rfl⟩))
        go_ret
        exact ⟨rfl, (by repeat' (first | (with_reducible exact Below.refl _ _) | (with_reducible assumption) | (with_reducible refine below_drewN ?_ _) | (with_reducible refine Below.drew ?_) | (with_reducible refine ext_alloc ?_ _) | (with_reducible refine Below.setCell ?_ ?_ _) | go_size))⟩
      · rw [if_pos ⟨rfl, .inr hs⟩]
        have i1 : (s != 0) = true := by simpa using hs
        clear hs
        go_enter Try.func47, Try.ntmps47
        go_wp2_with (first | ((go_at_call 92; with_reducible refine (within_yes ?_ _).mono ?_); (focus omega); rintro e w' ⟨rfl, rfl⟩) | ((go_at_call 92; with_reducible refine (within_no ?_ _).mono ?_); (focus omega); rintro e w' ⟨rfl, rfl⟩))
        go_ret
        exact ⟨rfl, (by repeat' (first | (with_reducible exact Below.refl _ _) | (with_reducible assumption) | (with_reducible refine below_drewN ?_ _) | (with_reducible refine Below.drew ?_) | (with_reducible refine ext_alloc ?_ _) | (with_reducible refine Below.setCell ?_ ?_ _) | go_size))⟩
    · rw [if_pos ⟨rfl, .inl hc⟩]
      have i1 : (c != 0) = true := by simpa using hc
      clear hc
      go_enter Try.func47, Try.ntmps47
      go_wp2_with (first | ((go_at_call 92; with_reducible refine (within_yes ?_ _).mono ?_); (focus omega); rintro e w' ⟨rfl, rfl⟩) | ((go_at_call 92; with_reducible refine (within_no ?_ _).mono ?_); (focus omega); rintro e w' ⟨rfl, rfl⟩))
      go_ret
      exact ⟨rfl, (by repeat' (first | (with_reducible exact Below.refl _ _) | (with_reducible assumption) | (with_reducible refine below_drewN ?_ _) | (with_reducible refine Below.drew ?_) | (with_reducible refine ext_alloc ?_ _) | (with_reducible refine Below.setCell ?_ ?_ _) | go_size))⟩
  · have h2 : m = 2 := by omega
    subst h2
    clear hm h1
    rw [if_neg (by omega)]
    by_cases hc : 0 ≤ c ∧ c ≤ 10
    · by_cases hs : 0 ≤ s ∧ s ≤ 10
      · rw [if_neg (by omega)]
        by_cases hc0 : c = 0
        · subst hc0
          by_cases hs0 : s = 0
          · subst hs0
            rw [if_neg (by omega)]
            go_enter Try.func47, Try.ntmps47
            go_wp2_with (first | ((go_at_call 92; with_reducible refine (within_yes ?_ _).mono ?_); (focus omega); rintro e w' ⟨rfl, rfl⟩) | ((go_at_call 92; with_reducible refine (within_no ?_ _).mono ?_); (focus omega); rintro e w' ⟨rfl, rfl⟩))
            go_ret
            exact ⟨rfl, (by repeat' (first | (with_reducible exact Below.refl _ _) | (with_reducible assumption) | (with_reducible refine below_drewN ?_ _) | (with_reducible refine Below.drew ?_) | (with_reducible refine ext_alloc ?_ _) | (with_reducible refine Below.setCell ?_ ?_ _) | go_size))⟩
          · rw [if_pos ⟨rfl, hs0⟩]
            have i1 : (s != 0) = true := by simpa using hs0
            clear hs0
            go_enter Try.func47, Try.ntmps47
            go_wp2_with (first | ((go_at_call 92; with_reducible refine (within_yes ?_ _).mono ?_); (focus omega); rintro e w' ⟨rfl, rfl⟩) | ((go_at_call 92; with_reducible refine (within_no ?_ _).mono ?_); (focus omega); rintro e w' ⟨rfl, rfl⟩))
            go_ret
            exact ⟨rfl, (by repeat' (first | (with_reducible exact Below.refl _ _) | (with_reducible assumption) | (with_reducible refine below_drewN ?_ _) | (with_reducible refine Below.drew ?_) | (with_reducible refine ext_alloc ?_ _) | (with_reducible refine Below.setCell ?_ ?_ _) | go_size))⟩
        · rw [if_neg (by omega)]
          have i1 : (c == 0) = false := by simpa using hc0
          clear hc0
          go_enter Try.func47, Try.ntmps47
          go_wp2_with (first | ((go_at_call 92; with_reducible refine (within_yes ?_ _).mono ?_); (focus omega); rintro e w' ⟨rfl, rfl⟩) | ((go_at_call 92; with_reducible refine (within_no ?_ _).mono ?_); (focus omega); rintro e w' ⟨rfl, rfl⟩))
          go_ret
          exact ⟨rfl, (by repeat' (first | (with_reducible exact Below.refl _ _) | (with_reducible assumption) | (with_reducible refine below_drewN ?_ _) | (with_reducible refine Below.drew ?_) | (with_reducible refine ext_alloc ?_ _) | (with_reducible refine Below.setCell ?_ ?_ _) | go_size))⟩
      · rw [if_pos (by omega)]
        go_enter Try.func47, Try.ntmps47
        go_wp2_with (first | ((go_at_call 92; with_reducible refine (within_yes ?_ _).mono ?_); (focus omega); rintro e w' ⟨rfl, rfl⟩) | ((go_at_call 92; with_reducible refine (within_no ?_ _).mono ?_); (focus omega); rintro e w' ⟨rfl, rfl⟩))
        go_ret
        exact ⟨rfl, (by repeat' (first | (with_reducible exact Below.refl _ _) | (with_reducible assumption) | (with_reducible refine below_drewN ?_ _) | (with_reducible refine Below.drew ?_) | (with_reducible refine ext_alloc ?_ _) | (with_reducible refine Below.setCell ?_ ?_ _) | go_size))⟩
    · rw [if_pos (by omega)]
      go_enter Try.func47, Try.ntmps47
      go_wp2_with (first | ((go_at_call 92; with_reducible refine (within_yes ?_ _).mono ?_); (focus omega); rintro e w' ⟨rfl, rfl⟩) | ((go_at_call 92; with_reducible refine (within_no ?_ _).mono ?_); (focus omega); rintro e w' ⟨rfl, rfl⟩))
      go_ret
      exact ⟨rfl, (by repeat' (first | (with_reducible exact Below.refl _ _) | (with_reducible assumption) | (with_reducible refine below_drewN ?_ _) | (with_reducible refine Below.drew ?_) | (with_reducible refine ext_alloc ?_ _) | (with_reducible refine Below.setCell ?_ ?_ _) | go_size))⟩

/-- All bytes of a list; the fault of a list for so many. -/
def sumS (l : List (Int × Int)) : Int := l.foldl (fun a x => a + (x.1 + x.2)) 0
def listF (l : List (Int × Int)) (z : Int) : Int := if subsF l ≠ 0 then subsF l else if 0 < l.length ∧ sumS l ≠ z then 3 else 0
theorem sumS_bd {l : List (Int × Int)} (h : ∀ j, j < l.length → subEl l j = 0) : ∀ k, k ≤ l.length → 0 ≤ sumS (l.take k) ∧ sumS (l.take k) ≤ 200000 * (k : Int)
  | 0, _ => by simp [sumS]
  | k + 1, hk => by
    have ih := sumS_bd h k (by omega)
    obtain ⟨e1, e2, e3⟩ := subEl_zero (h k (by omega))
    unfold sumS at *
    rw [foldl_take _ _ _ _ (0, 0) (by omega)]
    omega
set_option maxRecDepth 100000 in
set_option maxHeartbeats 2000000 in
theorem keyList_any {A : Option Addr} {n c : Nat} {l : List (Int × Int)} {w : World} (h : At w 2 e2 A n c l) (z : Int) :
    Calls Try.prog 102 #[.slice A n c, .int .i64 z] w fun e w' => e = .returned (.int .i64 (listF l z)) ∧ Ext w w' := by
  have hb := h.bound
  have hl := hide h.len
  have HC := hide (fun W (hx : Ext w W) => keySubs_any (h.ext hx))
  have H := hide h
  clear h
  by_cases hz : subsF l = 0
  rotate_left
  · have hf : listF l z = subsF l := by unfold listF; rw [if_pos hz]
    rw [hf]
    have hb2 : (subsF l != 0) = true := by rw [bne_iff_ne]; exact hz
    generalize subsF l = r at *
    clear hz hf
    go_enter Try.func102, Try.ntmps102
    go_wp2_with (first | ((go_at_call 93; refine (HC.out _ (Ext.refl _)).mono ?_); rintro e w1 ⟨rfl, e1⟩))
    go_ret
    exact ⟨rfl, e1⟩
  obtain ⟨hn5, hall⟩ := subsF_zero hz
  have hn : n ≤ 500 := by have := hl.out; omega
  have HALL := hide hall
  have HF := hide (show listF l z = if 0 < n ∧ sumS l ≠ z then 3 else 0 by unfold listF; rw [if_neg (by omega), hl.out])
  have HS := hide (sumS_bd hall)
  rw [hz] at HC
  clear hz hall hn5
  go_enter Try.func102, Try.ntmps102
  go_wp2_with (first | ((go_at_call 93; refine (HC.out _ (Ext.refl _)).mono ?_); rintro e w1 ⟨rfl, e1⟩; have E1 := hide e1; clear e1))
  go_loopw [6, 16] (fun ra ri wr => ∃ (k : Nat) (a : Int), k ≤ n ∧ ri = .int .i64 k ∧ ra = .int .i64 a ∧ 0 ≤ a ∧ a ≤ 200000 * (k : Int) ∧ Hid (a = sumS (l.take k)) ∧ Hid (Ext w wr)) (fun _ ri _ => n - (intOf ri).toNat)
  case atStart => exact ⟨0, 0, by omega, rfl, rfl, by omega, by omega, hide rfl, E1⟩
  case round =>
    obtain ⟨k, a, hk, rfl, rfl, hc0, hc1, HA, HX⟩ := hrel
    have hlen := hl.out
    by_cases hlt : k < n
    · obtain ⟨b, off, rfl, _⟩ := H.out.addr (by omega)
      obtain ⟨a1, a2⟩ := (H.out.ext HX.out).pair hlt
      obtain ⟨e1, e2', e3⟩ := subEl_zero (HALL.out k (by omega))
      have hst : sumS (l.take (k + 1)) = a + ((l.getD k (0, 0)).1 + (l.getD k (0, 0)).2) := by rw [HA.out]; unfold sumS; rw [foldl_take _ _ _ _ (0, 0) (by omega)]
      have HST := hide hst
      generalize (l.getD k (0, 0)).1 = y0 at *
      generalize (l.getD k (0, 0)).2 = y1 at *
      clear hst hlen
      go_wp2_with fail
      go_roundw
      case rel =>
        first
          | exact ⟨k + 1, a + (y0 + y1), by omega, by go_num, rfl, by omega, by omega, hide HST.out.symm, Ext.trans HX.out (by repeat' (first | (with_reducible exact Below.refl _ _) | (with_reducible assumption) | (with_reducible refine below_drewN ?_ _) | (with_reducible refine Below.drew ?_) | (with_reducible refine ext_alloc ?_ _) | (with_reducible refine Below.setCell ?_ ?_ _) | go_size))⟩
          | ((repeat apply Exists.intro); exact ⟨⟨k + 1, a + (y0 + y1), by omega, by go_num, rfl, by omega, by omega, hide HST.out.symm, Ext.trans HX.out (by repeat' (first | (with_reducible exact Below.refl _ _) | (with_reducible assumption) | (with_reducible refine below_drewN ?_ _) | (with_reducible refine Below.drew ?_) | (with_reducible refine ext_alloc ?_ _) | (with_reducible refine Below.setCell ?_ ?_ _) | go_size))⟩, rfl⟩)
      case measure => simp [intOf]; omega
    · have hs : a = sumS l := by rw [HA.out, List.take_of_length_le (by omega)]
      have hf := HF.out
      rw [← hs] at hf
      clear hs hlen HA
      by_cases hn0 : 0 < n
      · by_cases hza : a = z
        · rw [if_neg (by omega)] at hf
          have HQ := hide hf
          have i1 : (a != z) = false := by simp [hza]
          have i2 : (0 : Int) < (n : Int) := by omega
          clear hf hza
          go_wp2_with fail
          go_ret
          exact ⟨ret_int HQ.out.symm, HX.out⟩
        · rw [if_pos ⟨hn0, hza⟩] at hf
          have HQ := hide hf
          have i1 : (a != z) = true := by simp [hza]
          have i2 : (0 : Int) < (n : Int) := by omega
          clear hf hza
          go_wp2_with fail
          go_ret
          exact ⟨ret_int HQ.out.symm, HX.out⟩
      · rw [if_neg (by omega)] at hf
        have HQ := hide hf
        have i2 : ¬ (0 : Int) < (n : Int) := by omega
        clear hf
        go_wp2_with fail
        go_ret
        exact ⟨ret_int HQ.out.symm, HX.out⟩
set_option maxRecDepth 100000 in
set_option maxHeartbeats 2000000 in
theorem refList_any {A : Option Addr} {n c : Nat} {l : List (Int × Int)} {w : World} (h : At w 2 e2 A n c l) (z : Int) :
    Calls Try.prog 106 #[.slice A n c, .int .i64 z] w fun e w' => e = .returned (.int .i64 (listF l z)) ∧ Ext w w' := by
  have hb := h.bound
  have hl := hide h.len
  have HC := hide (fun W (hx : Ext w W) => refSubs_any (h.ext hx))
  have H := hide h
  clear h
  by_cases hz : subsF l = 0
  rotate_left
  · have hf : listF l z = subsF l := by unfold listF; rw [if_pos hz]
    rw [hf]
    have hb2 : (subsF l != 0) = true := by rw [bne_iff_ne]; exact hz
    generalize subsF l = r at *
    clear hz hf
    go_enter Try.func106, Try.ntmps106
    go_wp2_with (first | ((go_at_call 94; refine (HC.out _ (Ext.refl _)).mono ?_); rintro e w1 ⟨rfl, e1⟩))
    go_ret
    exact ⟨rfl, e1⟩
  obtain ⟨hn5, hall⟩ := subsF_zero hz
  have hn : n ≤ 500 := by have := hl.out; omega
  have HALL := hide hall
  have HF := hide (show listF l z = if 0 < n ∧ sumS l ≠ z then 3 else 0 by unfold listF; rw [if_neg (by omega), hl.out])
  have HS := hide (sumS_bd hall)
  rw [hz] at HC
  clear hz hall hn5
  go_enter Try.func106, Try.ntmps106
  go_wp2_with (first | ((go_at_call 94; refine (HC.out _ (Ext.refl _)).mono ?_); rintro e w1 ⟨rfl, e1⟩; have E1 := hide e1; clear e1))
  go_loopw [6, 16] (fun ra ri wr => ∃ (k : Nat) (a : Int), k ≤ n ∧ ri = .int .i64 k ∧ ra = .int .i64 a ∧ 0 ≤ a ∧ a ≤ 200000 * (k : Int) ∧ Hid (a = sumS (l.take k)) ∧ Hid (Ext w wr)) (fun _ ri _ => n - (intOf ri).toNat)
  case atStart => exact ⟨0, 0, by omega, rfl, rfl, by omega, by omega, hide rfl, E1⟩
  case round =>
    obtain ⟨k, a, hk, rfl, rfl, hc0, hc1, HA, HX⟩ := hrel
    have hlen := hl.out
    by_cases hlt : k < n
    · obtain ⟨b, off, rfl, _⟩ := H.out.addr (by omega)
      obtain ⟨a1, a2⟩ := (H.out.ext HX.out).pair hlt
      obtain ⟨e1, e2', e3⟩ := subEl_zero (HALL.out k (by omega))
      have hst : sumS (l.take (k + 1)) = a + ((l.getD k (0, 0)).1 + (l.getD k (0, 0)).2) := by rw [HA.out]; unfold sumS; rw [foldl_take _ _ _ _ (0, 0) (by omega)]
      have HST := hide hst
      generalize (l.getD k (0, 0)).1 = y0 at *
      generalize (l.getD k (0, 0)).2 = y1 at *
      clear hst hlen
      go_wp2_with fail
      go_roundw
      case rel =>
        first
          | exact ⟨k + 1, a + (y0 + y1), by omega, by go_num, rfl, by omega, by omega, hide HST.out.symm, Ext.trans HX.out (by repeat' (first | (with_reducible exact Below.refl _ _) | (with_reducible assumption) | (with_reducible refine below_drewN ?_ _) | (with_reducible refine Below.drew ?_) | (with_reducible refine ext_alloc ?_ _) | (with_reducible refine Below.setCell ?_ ?_ _) | go_size))⟩
          | ((repeat apply Exists.intro); exact ⟨⟨k + 1, a + (y0 + y1), by omega, by go_num, rfl, by omega, by omega, hide HST.out.symm, Ext.trans HX.out (by repeat' (first | (with_reducible exact Below.refl _ _) | (with_reducible assumption) | (with_reducible refine below_drewN ?_ _) | (with_reducible refine Below.drew ?_) | (with_reducible refine ext_alloc ?_ _) | (with_reducible refine Below.setCell ?_ ?_ _) | go_size))⟩, rfl⟩)
      case measure => simp [intOf]; omega
    · have hs : a = sumS l := by rw [HA.out, List.take_of_length_le (by omega)]
      have hf := HF.out
      rw [← hs] at hf
      clear hs hlen HA
      by_cases hn0 : 0 < n
      · by_cases hza : a = z
        · rw [if_neg (by omega)] at hf
          have HQ := hide hf
          have i1 : (a != z) = false := by simp [hza]
          have i2 : (0 : Int) < (n : Int) := by omega
          clear hf hza
          go_wp2_with fail
          go_ret
          exact ⟨ret_int HQ.out.symm, HX.out⟩
        · rw [if_pos ⟨hn0, hza⟩] at hf
          have HQ := hide hf
          have i1 : (a != z) = true := by simp [hza]
          have i2 : (0 : Int) < (n : Int) := by omega
          clear hf hza
          go_wp2_with fail
          go_ret
          exact ⟨ret_int HQ.out.symm, HX.out⟩
      · rw [if_neg (by omega)] at hf
        have HQ := hide hf
        have i2 : ¬ (0 : Int) < (n : Int) := by omega
        clear hf
        go_wp2_with fail
        go_ret
        exact ⟨ret_int HQ.out.symm, HX.out⟩
end Go.Proofs.Ytifmgngmkajahaa
