/- Walks: kit.Out, within, CheckRotation (both), PeriodAt (both). Conditions as stated. -/
import Derived.Test.YtifmgngmkajahaaBase
import Derived.Test.YtifmgngmkajahaaProg
import Derived.Deep.RegionHeld3
import Derived.Deep.RegionWith
import Derived.StillTailTactics
import Derived.Handy
namespace Go.Proofs.Ytifmgngmkajahaa
open Go.RowKit

theorem out_no {n lo hi : Int} (h : lo ≤ n ∧ n ≤ hi) (w : World) :
    Calls Try.prog 87 #[.int .i64 n, .int .i64 lo, .int .i64 hi] w fun e w' => e = .returned (.bool false) ∧ w = w' := by
  obtain ⟨h1, h2⟩ := h
  go_enter Try.func87, Try.ntmps87
  go_wp2
  go_ret
  exact ⟨ret_bool (by first | rfl | (simp; omega)), rfl⟩
theorem out_yes {n lo hi : Int} (h : n < lo ∨ hi < n) (w : World) :
    Calls Try.prog 87 #[.int .i64 n, .int .i64 lo, .int .i64 hi] w fun e w' => e = .returned (.bool true) ∧ w = w' := by
  by_cases h1 : n < lo
  · clear h
    go_enter Try.func87, Try.ntmps87
    go_wp2
    go_ret
    exact ⟨ret_bool (by first | rfl | (simp; omega)), rfl⟩
  · have h2 : hi < n := by omega
    clear h
    go_enter Try.func87, Try.ntmps87
    go_wp2
    go_ret
    exact ⟨ret_bool (by first | rfl | (simp; omega)), rfl⟩
theorem within_yes {n lo hi : Int} (h : lo ≤ n ∧ n ≤ hi) (w : World) :
    Calls Try.prog 92 #[.int .i64 n, .int .i64 lo, .int .i64 hi] w fun e w' => e = .returned (.bool true) ∧ w = w' := by
  obtain ⟨h1, h2⟩ := h
  go_enter Try.func92, Try.ntmps92
  go_wp2
  go_ret
  exact ⟨ret_bool (by first | rfl | (simp; omega)), rfl⟩
theorem within_no {n lo hi : Int} (h : n < lo ∨ hi < n) (w : World) :
    Calls Try.prog 92 #[.int .i64 n, .int .i64 lo, .int .i64 hi] w fun e w' => e = .returned (.bool false) ∧ w = w' := by
  by_cases h1 : n < lo
  · clear h
    go_enter Try.func92, Try.ntmps92
    go_wp2
    go_ret
    exact ⟨ret_bool (by first | rfl | (simp; omega)), rfl⟩
  · have h2 : hi < n := by omega
    clear h
    go_enter Try.func92, Try.ntmps92
    go_wp2
    go_ret
    exact ⟨ret_bool (by first | rfl | (simp; omega)), rfl⟩

/-- A rotation by value. -/
abbrev rotV (B E L : Int) (A : Option Addr) (n c : Nat) : Value := .agg #[.int .i64 B, .int .i64 E, .int .i64 L, .slice A n c]
/-- The fault of a rotation whose seed has n bytes. -/
def rotF (B E L : Int) (n : Nat) : Int :=
  if B < 0 ∨ 1000000000000000 < B ∨ E < 1 ∨ 1000000000000000 < E ∨ L < 0 ∨ 1000000000000000 < L then 1 else if 100 < n then 2 else 0

set_option maxHeartbeats 1000000 in
theorem keyCheckRotation_any (B E L : Int) (A : Option Addr) (n c : Nat) (w : World) :
    Calls Try.prog 53 #[rotV B E L A n c] w fun e w' => e = .returned (.int .i64 (rotF B E L n)) ∧ Ext w w' := by
  unfold rotF
  by_cases hB : 0 ≤ B ∧ B ≤ 1000000000000000
  · by_cases hE : 1 ≤ E ∧ E ≤ 1000000000000000
    · by_cases hL : 0 ≤ L ∧ L ≤ 1000000000000000
      · rw [if_neg (by omega)]
        by_cases hn : 100 < n
        · rw [if_pos hn]
          go_enter Try.func53, Try.ntmps53
          go_wp2_with (first | ((go_at_call 87; with_reducible refine (out_no ?_ _).mono ?_); (focus omega); rintro e w' ⟨rfl, rfl⟩) | ((go_at_call 87; with_reducible refine (out_yes ?_ _).mono ?_); (focus omega); rintro e w' ⟨rfl, rfl⟩))
          go_ret
          exact ⟨rfl, (by repeat' (first | (with_reducible exact Below.refl _ _) | (with_reducible assumption) | (with_reducible refine below_drewN ?_ _) | (with_reducible refine Below.drew ?_) | (with_reducible refine ext_alloc ?_ _) | (with_reducible refine Below.setCell ?_ ?_ _) | go_size))⟩
        · rw [if_neg hn]
          have hn' : n ≤ 100 := by omega
          clear hn
          go_enter Try.func53, Try.ntmps53
          go_wp2_with (first | ((go_at_call 87; with_reducible refine (out_no ?_ _).mono ?_); (focus omega); rintro e w' ⟨rfl, rfl⟩) | ((go_at_call 87; with_reducible refine (out_yes ?_ _).mono ?_); (focus omega); rintro e w' ⟨rfl, rfl⟩))
          go_ret
          exact ⟨rfl, (by repeat' (first | (with_reducible exact Below.refl _ _) | (with_reducible assumption) | (with_reducible refine below_drewN ?_ _) | (with_reducible refine Below.drew ?_) | (with_reducible refine ext_alloc ?_ _) | (with_reducible refine Below.setCell ?_ ?_ _) | go_size))⟩
      · rw [if_pos (by omega)]
        go_enter Try.func53, Try.ntmps53
        go_wp2_with (first | ((go_at_call 87; with_reducible refine (out_no ?_ _).mono ?_); (focus omega); rintro e w' ⟨rfl, rfl⟩) | ((go_at_call 87; with_reducible refine (out_yes ?_ _).mono ?_); (focus omega); rintro e w' ⟨rfl, rfl⟩))
        go_ret
        exact ⟨rfl, (by repeat' (first | (with_reducible exact Below.refl _ _) | (with_reducible assumption) | (with_reducible refine below_drewN ?_ _) | (with_reducible refine Below.drew ?_) | (with_reducible refine ext_alloc ?_ _) | (with_reducible refine Below.setCell ?_ ?_ _) | go_size))⟩
    · rw [if_pos (by omega)]
      go_enter Try.func53, Try.ntmps53
      go_wp2_with (first | ((go_at_call 87; with_reducible refine (out_no ?_ _).mono ?_); (focus omega); rintro e w' ⟨rfl, rfl⟩) | ((go_at_call 87; with_reducible refine (out_yes ?_ _).mono ?_); (focus omega); rintro e w' ⟨rfl, rfl⟩))
      go_ret
      exact ⟨rfl, (by repeat' (first | (with_reducible exact Below.refl _ _) | (with_reducible assumption) | (with_reducible refine below_drewN ?_ _) | (with_reducible refine Below.drew ?_) | (with_reducible refine ext_alloc ?_ _) | (with_reducible refine Below.setCell ?_ ?_ _) | go_size))⟩
  · rw [if_pos (by omega)]
    go_enter Try.func53, Try.ntmps53
    go_wp2_with (first | ((go_at_call 87; with_reducible refine (out_no ?_ _).mono ?_); (focus omega); rintro e w' ⟨rfl, rfl⟩) | ((go_at_call 87; with_reducible refine (out_yes ?_ _).mono ?_); (focus omega); rintro e w' ⟨rfl, rfl⟩))
    go_ret
    exact ⟨rfl, (by repeat' (first | (with_reducible exact Below.refl _ _) | (with_reducible assumption) | (with_reducible refine below_drewN ?_ _) | (with_reducible refine Below.drew ?_) | (with_reducible refine ext_alloc ?_ _) | (with_reducible refine Below.setCell ?_ ?_ _) | go_size))⟩
set_option maxHeartbeats 1000000 in
theorem refCheckRotation_any (B E L : Int) (A : Option Addr) (n c : Nat) (w : World) :
    Calls Try.prog 54 #[rotV B E L A n c] w fun e w' => e = .returned (.int .i64 (rotF B E L n)) ∧ Ext w w' := by
  unfold rotF
  by_cases hB : 0 ≤ B ∧ B ≤ 1000000000000000
  · by_cases hE : 1 ≤ E ∧ E ≤ 1000000000000000
    · by_cases hL : 0 ≤ L ∧ L ≤ 1000000000000000
      · rw [if_neg (by omega)]
        by_cases hn : 100 < n
        · rw [if_pos hn]
          go_enter Try.func54, Try.ntmps54
          go_wp2_with (first | ((go_at_call 92; with_reducible refine (within_yes ?_ _).mono ?_); (focus omega); rintro e w' ⟨rfl, rfl⟩) | ((go_at_call 92; with_reducible refine (within_no ?_ _).mono ?_); (focus omega); rintro e w' ⟨rfl, rfl⟩))
          go_ret
          exact ⟨rfl, (by repeat' (first | (with_reducible exact Below.refl _ _) | (with_reducible assumption) | (with_reducible refine below_drewN ?_ _) | (with_reducible refine Below.drew ?_) | (with_reducible refine ext_alloc ?_ _) | (with_reducible refine Below.setCell ?_ ?_ _) | go_size))⟩
        · rw [if_neg hn]
          have hn' : n ≤ 100 := by omega
          clear hn
          go_enter Try.func54, Try.ntmps54
          go_wp2_with (first | ((go_at_call 92; with_reducible refine (within_yes ?_ _).mono ?_); (focus omega); rintro e w' ⟨rfl, rfl⟩) | ((go_at_call 92; with_reducible refine (within_no ?_ _).mono ?_); (focus omega); rintro e w' ⟨rfl, rfl⟩))
          go_ret
          exact ⟨rfl, (by repeat' (first | (with_reducible exact Below.refl _ _) | (with_reducible assumption) | (with_reducible refine below_drewN ?_ _) | (with_reducible refine Below.drew ?_) | (with_reducible refine ext_alloc ?_ _) | (with_reducible refine Below.setCell ?_ ?_ _) | go_size))⟩
      · rw [if_pos (by omega)]
        go_enter Try.func54, Try.ntmps54
        go_wp2_with (first | ((go_at_call 92; with_reducible refine (within_yes ?_ _).mono ?_); (focus omega); rintro e w' ⟨rfl, rfl⟩) | ((go_at_call 92; with_reducible refine (within_no ?_ _).mono ?_); (focus omega); rintro e w' ⟨rfl, rfl⟩))
        go_ret
        exact ⟨rfl, (by repeat' (first | (with_reducible exact Below.refl _ _) | (with_reducible assumption) | (with_reducible refine below_drewN ?_ _) | (with_reducible refine Below.drew ?_) | (with_reducible refine ext_alloc ?_ _) | (with_reducible refine Below.setCell ?_ ?_ _) | go_size))⟩
    · rw [if_pos (by omega)]
      go_enter Try.func54, Try.ntmps54
      go_wp2_with (first | ((go_at_call 92; with_reducible refine (within_yes ?_ _).mono ?_); (focus omega); rintro e w' ⟨rfl, rfl⟩) | ((go_at_call 92; with_reducible refine (within_no ?_ _).mono ?_); (focus omega); rintro e w' ⟨rfl, rfl⟩))
      go_ret
      exact ⟨rfl, (by repeat' (first | (with_reducible exact Below.refl _ _) | (with_reducible assumption) | (with_reducible refine below_drewN ?_ _) | (with_reducible refine Below.drew ?_) | (with_reducible refine ext_alloc ?_ _) | (with_reducible refine Below.setCell ?_ ?_ _) | go_size))⟩
  · rw [if_pos (by omega)]
    go_enter Try.func54, Try.ntmps54
    go_wp2_with (first | ((go_at_call 92; with_reducible refine (within_yes ?_ _).mono ?_); (focus omega); rintro e w' ⟨rfl, rfl⟩) | ((go_at_call 92; with_reducible refine (within_no ?_ _).mono ?_); (focus omega); rintro e w' ⟨rfl, rfl⟩))
    go_ret
    exact ⟨rfl, (by repeat' (first | (with_reducible exact Below.refl _ _) | (with_reducible assumption) | (with_reducible refine below_drewN ?_ _) | (with_reducible refine Below.drew ?_) | (with_reducible refine ext_alloc ?_ _) | (with_reducible refine Below.setCell ?_ ?_ _) | go_size))⟩
theorem rotF_zero {B E L : Int} {n : Nat} (h : rotF B E L n = 0) : (0 ≤ B ∧ B ≤ 1000000000000000) ∧ (1 ≤ E ∧ E ≤ 1000000000000000) ∧ (0 ≤ L ∧ L ≤ 1000000000000000) ∧ n ≤ 100 := by
  unfold rotF at h
  split at h
  · omega
  · split at h
    · omega
    · omega
/-- The value and the fault of PeriodAt. -/
def perV (B E L : Int) (n : Nat) (t : Int) : Int := if rotF B E L n ≠ 0 ∨ t < 0 ∨ 1000000000000000 < t ∨ t < B then 0 else (t - B) / E
def perF (B E L : Int) (n : Nat) (t : Int) : Int := if rotF B E L n ≠ 0 then rotF B E L n else if t < 0 ∨ 1000000000000000 < t then 1 else if t < B then 9 else 0

set_option maxHeartbeats 1000000 in
theorem keyPeriodAt_any (B E L : Int) (A : Option Addr) (n c : Nat) (t : Int) (w : World) :
    Calls Try.prog 30 #[rotV B E L A n c, .int .i64 t] w fun e w' => e = .returned (.tuple #[.int .i64 (perV B E L n t), .int .i64 (perF B E L n t)]) ∧ Ext w w' := by
  unfold perV perF
  by_cases hr : rotF B E L n = 0
  · obtain ⟨hB, hE, hL, hn⟩ := rotF_zero hr
    have hc := fun W : World => keyCheckRotation_any B E L A n c W
    rw [hr] at hc
    have HC := hide hc
    rw [hr]
    simp only [ne_eq, not_true_eq_false, false_or, if_false]
    clear hr hc
    by_cases ht : t < 0 ∨ 1000000000000000 < t
    · rw [if_pos (by omega), if_pos ht]
      go_enter Try.func30, Try.ntmps30
      go_wp2_with (first | ((go_at_call 53; with_reducible refine (HC.out _).mono ?_); rintro e w1 ⟨rfl, e1⟩; have z1 := e1.size) | ((go_at_call 87; with_reducible refine (out_no ?_ _).mono ?_); (focus omega); rintro e w' ⟨rfl, rfl⟩) | ((go_at_call 87; with_reducible refine (out_yes ?_ _).mono ?_); (focus omega); rintro e w' ⟨rfl, rfl⟩))
      go_ret2
      exact ⟨rfl, Ext.trans (Ext.alloc _ _) e1⟩
    · rw [if_neg ht]
      have ht' : 0 ≤ t ∧ t ≤ 1000000000000000 := by omega
      clear ht
      by_cases hb : t < B
      · rw [if_pos (by omega), if_pos hb]
        go_enter Try.func30, Try.ntmps30
        go_wp2_with (first | ((go_at_call 53; with_reducible refine (HC.out _).mono ?_); rintro e w1 ⟨rfl, e1⟩; have z1 := e1.size; have c0 := e1.cell ((Blk.new w 31 #[.int .i64 B, .int .i64 E, .int .i64 L, .slice A n c]).cell 0)) | ((go_at_call 87; with_reducible refine (out_no ?_ _).mono ?_); (focus omega); rintro e w' ⟨rfl, rfl⟩) | ((go_at_call 87; with_reducible refine (out_yes ?_ _).mono ?_); (focus omega); rintro e w' ⟨rfl, rfl⟩))
        go_ret2
        exact ⟨rfl, Ext.trans (Ext.alloc _ _) e1⟩
      · rw [if_neg (by omega), if_neg hb]
        go_enter Try.func30, Try.ntmps30
        go_wp2_with (first | ((go_at_call 53; with_reducible refine (HC.out _).mono ?_); rintro e w1 ⟨rfl, e1⟩; have z1 := e1.size; have c0 := e1.cell ((Blk.new w 31 #[.int .i64 B, .int .i64 E, .int .i64 L, .slice A n c]).cell 0); have c1 := e1.cell ((Blk.new w 31 #[.int .i64 B, .int .i64 E, .int .i64 L, .slice A n c]).cell 1)) | ((go_at_call 87; with_reducible refine (out_no ?_ _).mono ?_); (focus omega); rintro e w' ⟨rfl, rfl⟩) | ((go_at_call 87; with_reducible refine (out_yes ?_ _).mono ?_); (focus omega); rintro e w' ⟨rfl, rfl⟩))
        go_ret2
        exact ⟨rfl, Ext.trans (Ext.alloc _ _) e1⟩
  · rw [if_pos (.inl hr), if_pos hr]
    have hr' : (rotF B E L n != 0) = true := by rw [bne_iff_ne]; exact hr
    have HC := hide (fun W : World => keyCheckRotation_any B E L A n c W)
    generalize rotF B E L n = r at *
    clear hr
    go_enter Try.func30, Try.ntmps30
    go_wp2_with (first | ((go_at_call 53; with_reducible refine (HC.out _).mono ?_); rintro e w1 ⟨rfl, e1⟩; have z1 := e1.size) | ((go_at_call 87; with_reducible refine (out_no ?_ _).mono ?_); (focus omega); rintro e w' ⟨rfl, rfl⟩) | ((go_at_call 87; with_reducible refine (out_yes ?_ _).mono ?_); (focus omega); rintro e w' ⟨rfl, rfl⟩))
    go_ret2
    exact ⟨rfl, Ext.trans (Ext.alloc _ _) e1⟩

set_option maxHeartbeats 1000000 in
theorem refPeriodAt_any (B E L : Int) (A : Option Addr) (n c : Nat) (t : Int) (w : World) :
    Calls Try.prog 52 #[rotV B E L A n c, .int .i64 t] w fun e w' => e = .returned (.tuple #[.int .i64 (perV B E L n t), .int .i64 (perF B E L n t)]) ∧ Ext w w' := by
  unfold perV perF
  by_cases hr : rotF B E L n = 0
  · obtain ⟨hB, hE, hL, hn⟩ := rotF_zero hr
    have hc := fun W : World => refCheckRotation_any B E L A n c W
    rw [hr] at hc
    have HC := hide hc
    rw [hr]
    simp only [ne_eq, not_true_eq_false, false_or, if_false]
    clear hr hc
    by_cases ht : t < 0 ∨ 1000000000000000 < t
    · rw [if_pos (by omega), if_pos ht]
      go_enter Try.func52, Try.ntmps52
      go_wp2_with (first | ((go_at_call 54; with_reducible refine (HC.out _).mono ?_); rintro e w1 ⟨rfl, e1⟩; have z1 := e1.size) | ((go_at_call 92; with_reducible refine (within_yes ?_ _).mono ?_); (focus omega); rintro e w' ⟨rfl, rfl⟩) | ((go_at_call 92; with_reducible refine (within_no ?_ _).mono ?_); (focus omega); rintro e w' ⟨rfl, rfl⟩))
      go_ret2
      exact ⟨rfl, Ext.trans (Ext.alloc _ _) e1⟩
    · rw [if_neg ht]
      have ht' : 0 ≤ t ∧ t ≤ 1000000000000000 := by omega
      clear ht
      by_cases hb : t < B
      · rw [if_pos (by omega), if_pos hb]
        go_enter Try.func52, Try.ntmps52
        go_wp2_with (first | ((go_at_call 54; with_reducible refine (HC.out _).mono ?_); rintro e w1 ⟨rfl, e1⟩; have z1 := e1.size; have c0 := e1.cell ((Blk.new w 31 #[.int .i64 B, .int .i64 E, .int .i64 L, .slice A n c]).cell 0)) | ((go_at_call 92; with_reducible refine (within_yes ?_ _).mono ?_); (focus omega); rintro e w' ⟨rfl, rfl⟩) | ((go_at_call 92; with_reducible refine (within_no ?_ _).mono ?_); (focus omega); rintro e w' ⟨rfl, rfl⟩))
        go_ret2
        exact ⟨rfl, Ext.trans (Ext.alloc _ _) e1⟩
      · rw [if_neg (by omega), if_neg hb]
        go_enter Try.func52, Try.ntmps52
        go_wp2_with (first | ((go_at_call 54; with_reducible refine (HC.out _).mono ?_); rintro e w1 ⟨rfl, e1⟩; have z1 := e1.size; have c0 := e1.cell ((Blk.new w 31 #[.int .i64 B, .int .i64 E, .int .i64 L, .slice A n c]).cell 0); have c1 := e1.cell ((Blk.new w 31 #[.int .i64 B, .int .i64 E, .int .i64 L, .slice A n c]).cell 1)) | ((go_at_call 92; with_reducible refine (within_yes ?_ _).mono ?_); (focus omega); rintro e w' ⟨rfl, rfl⟩) | ((go_at_call 92; with_reducible refine (within_no ?_ _).mono ?_); (focus omega); rintro e w' ⟨rfl, rfl⟩))
        go_ret2
        exact ⟨rfl, Ext.trans (Ext.alloc _ _) e1⟩
  · rw [if_pos (.inl hr), if_pos hr]
    have hr' : (rotF B E L n != 0) = true := by rw [bne_iff_ne]; exact hr
    have HC := hide (fun W : World => refCheckRotation_any B E L A n c W)
    generalize rotF B E L n = r at *
    clear hr
    go_enter Try.func52, Try.ntmps52
    go_wp2_with (first | ((go_at_call 54; with_reducible refine (HC.out _).mono ?_); rintro e w1 ⟨rfl, e1⟩; have z1 := e1.size) | ((go_at_call 92; with_reducible refine (within_yes ?_ _).mono ?_); (focus omega); rintro e w' ⟨rfl, rfl⟩) | ((go_at_call 92; with_reducible refine (within_no ?_ _).mono ?_); (focus omega); rintro e w' ⟨rfl, rfl⟩))
    go_ret2
    exact ⟨rfl, Ext.trans (Ext.alloc _ _) e1⟩
end Go.Proofs.Ytifmgngmkajahaa
