/- Walks: kit.Out, within, CheckRotation (both), PeriodAt (both). Conditions as stated. -/
import Derived.Test.YtfpmjaeehhegcaaBase
import Derived.Test.YtfpmjaeehhegcaaProg
import Derived.Deep.RegionHeld3
import Derived.Deep.RegionWith
import Derived.StillTailTactics
import Derived.Handy
namespace Go.Proofs.Ytfpmjaeehhegcaa
open Go.RowKit

theorem out_no {n lo hi : Int} (h : lo ≤ n ∧ n ≤ hi) (w : World) :
    Calls Try.prog 28 #[.int .i64 n, .int .i64 lo, .int .i64 hi] w fun e w' => e = .returned (.bool false) ∧ w = w' := by
  obtain ⟨h1, h2⟩ := h
  go_enter Try.func28, Try.ntmps28
  go_wp2
  go_ret
  exact ⟨ret_bool (by first | rfl | (simp; omega)), rfl⟩
theorem out_yes {n lo hi : Int} (h : n < lo ∨ hi < n) (w : World) :
    Calls Try.prog 28 #[.int .i64 n, .int .i64 lo, .int .i64 hi] w fun e w' => e = .returned (.bool true) ∧ w = w' := by
  by_cases h1 : n < lo
  · clear h
    go_enter Try.func28, Try.ntmps28
    go_wp2
    go_ret
    exact ⟨ret_bool (by first | rfl | (simp; omega)), rfl⟩
  · have h2 : hi < n := by omega
    clear h
    go_enter Try.func28, Try.ntmps28
    go_wp2
    go_ret
    exact ⟨ret_bool (by first | rfl | (simp; omega)), rfl⟩
theorem within_yes {n lo hi : Int} (h : lo ≤ n ∧ n ≤ hi) (w : World) :
    Calls Try.prog 33 #[.int .i64 n, .int .i64 lo, .int .i64 hi] w fun e w' => e = .returned (.bool true) ∧ w = w' := by
  obtain ⟨h1, h2⟩ := h
  go_enter Try.func33, Try.ntmps33
  go_wp2
  go_ret
  exact ⟨ret_bool (by first | rfl | (simp; omega)), rfl⟩
theorem within_no {n lo hi : Int} (h : n < lo ∨ hi < n) (w : World) :
    Calls Try.prog 33 #[.int .i64 n, .int .i64 lo, .int .i64 hi] w fun e w' => e = .returned (.bool false) ∧ w = w' := by
  by_cases h1 : n < lo
  · clear h
    go_enter Try.func33, Try.ntmps33
    go_wp2
    go_ret
    exact ⟨ret_bool (by first | rfl | (simp; omega)), rfl⟩
  · have h2 : hi < n := by omega
    clear h
    go_enter Try.func33, Try.ntmps33
    go_wp2
    go_ret
    exact ⟨ret_bool (by first | rfl | (simp; omega)), rfl⟩

/-- A rotation by value. -/
abbrev rotV (B E L : Int) (A : Option Addr) (n c : Nat) : Value := .agg #[.int .i64 B, .int .i64 E, .int .i64 L, .slice A n c]
/-- The fault of a rotation whose seed has n bytes. -/
def rotF (B E L : Int) (n : Nat) : Int :=
  if B < 0 ∨ 1000000000000000 < B ∨ E < 1 ∨ 1000000000000000 < E ∨ L < 0 ∨ 1000000000000000 < L then 1 else if 100 < n then 2 else 0

theorem rotF_zero {B E L : Int} {n : Nat} (h : rotF B E L n = 0) : (0 ≤ B ∧ B ≤ 1000000000000000) ∧ (1 ≤ E ∧ E ≤ 1000000000000000) ∧ (0 ≤ L ∧ L ≤ 1000000000000000) ∧ n ≤ 100 := by
  unfold rotF at h
  split at h
  · omega
  · split at h
    · omega
    · omega
/-- The value and the fault of PeriodAt. -/
def perV (B E L : Int) (n : Nat) (t : Int) : Int := if rotF B E L n ≠ 0 ∨ t < 0 ∨ 1000000000000000 < t ∨ t < B then 0 else (t - B) / E
def perF (B E L : Int) (n : Nat) (t : Int) : Int := if rotF B E L n ≠ 0 then rotF B E L n else if t < 0 ∨ 1000000000000000 < t then 1 else if t < B then 9 else 0

end Go.Proofs.Ytfpmjaeehhegcaa
