/- Walks: unused. Conditions: none. -/
import Derived.Test.YtajadgpkmommmaaOut
namespace Go.Proofs.Ytajadgpkmommmaa
open Go.RowKit
@[reducible] def plV (d s r f i k l t lo hi a x y z : Int) : Value := .agg #[.int .i64 d, .int .i64 s, .int .i64 r, .int .i64 f, .int .i64 i, .int .i64 k, .int .i64 l, .int .i64 t, .int .i64 lo, .int .i64 hi, .int .i64 a, .int .i64 x, .int .i64 y, .int .i64 z]
/-- A field that the kind does not use is not zero. -/
def unuB (k l t lo hi a x y z : Int) : Bool :=
  if k = 2 then decide (lo ≠ 0 ∨ hi ≠ 0 ∨ a ≠ 0 ∨ x ≠ 0 ∨ y ≠ 0 ∨ z ≠ 0)
  else if k = 3 then decide (l ≠ 0 ∨ t ≠ 0 ∨ a ≠ 0 ∨ x ≠ 0 ∨ y ≠ 0 ∨ z ≠ 0)
  else if k = 4 then decide (lo ≠ 0 ∨ hi ≠ 0)
  else decide (l ≠ 0 ∨ t ≠ 0 ∨ lo ≠ 0 ∨ hi ≠ 0 ∨ a ≠ 0 ∨ x ≠ 0 ∨ y ≠ 0 ∨ z ≠ 0)
set_option maxRecDepth 100000 in
set_option maxHeartbeats 4000000 in
theorem unused_0 {d s r f i k l t lo hi a x y z : Int} {w : World} (h2 : k ≠ 2) (h3 : k ≠ 3) (h4 : k ≠ 4) :
    Calls Try.prog 68 #[plV d s r f i k l t lo hi a x y z] w fun e w' => e = .returned (.bool (unuB k l t lo hi a x y z)) ∧ Ext w w' := by
  have HU : Hid (unuB k l t lo hi a x y z = decide (l ≠ 0 ∨ t ≠ 0 ∨ lo ≠ 0 ∨ hi ≠ 0 ∨ a ≠ 0 ∨ x ≠ 0 ∨ y ≠ 0 ∨ z ≠ 0)) := hide (by unfold unuB; rw [if_neg h2, if_neg h3, if_neg h4])
  have e2 : (k == 2) = false := by simp [h2]
  have e3 : (k == 3) = false := by simp [h3]
  have e4 : (k == 4) = false := by simp [h4]
  go_enter Try.func68, Try.ntmps68
  go_wp2
  all_goals (go_ret; exact ⟨ret_bool (by rw [HU.out]; symm; first | exact decide_eq_true (by omega) | exact decide_eq_false (by omega)), (by repeat' (first | (with_reducible exact Below.refl _ _) | (with_reducible assumption) | (with_reducible refine below_drewN ?_ _) | (with_reducible refine Below.drew ?_) | (with_reducible refine ext_alloc ?_ _) | (with_reducible refine Below.setCell ?_ ?_ _) | go_size))⟩)
set_option maxRecDepth 100000 in
set_option maxHeartbeats 4000000 in
theorem unused_2 {d s r f i k l t lo hi a x y z : Int} {w : World} (hk : k = 2) :
    Calls Try.prog 68 #[plV d s r f i k l t lo hi a x y z] w fun e w' => e = .returned (.bool (unuB k l t lo hi a x y z)) ∧ Ext w w' := by
  subst hk
  have HU : Hid (unuB 2 l t lo hi a x y z = decide (lo ≠ 0 ∨ hi ≠ 0 ∨ a ≠ 0 ∨ x ≠ 0 ∨ y ≠ 0 ∨ z ≠ 0)) := hide (by unfold unuB; simp)
  go_enter Try.func68, Try.ntmps68
  go_wp2
  go_region
  all_goals go_wp2
  all_goals (go_ret; exact ⟨ret_bool (by rw [HU.out]; symm; first | exact decide_eq_true (by omega) | exact decide_eq_false (by omega)), (by repeat' (first | (with_reducible exact Below.refl _ _) | (with_reducible assumption) | (with_reducible refine below_drewN ?_ _) | (with_reducible refine Below.drew ?_) | (with_reducible refine ext_alloc ?_ _) | (with_reducible refine Below.setCell ?_ ?_ _) | go_size))⟩)
set_option maxRecDepth 100000 in
set_option maxHeartbeats 4000000 in
theorem unused_3 {d s r f i k l t lo hi a x y z : Int} {w : World} (hk : k = 3) :
    Calls Try.prog 68 #[plV d s r f i k l t lo hi a x y z] w fun e w' => e = .returned (.bool (unuB k l t lo hi a x y z)) ∧ Ext w w' := by
  subst hk
  have HU : Hid (unuB 3 l t lo hi a x y z = decide (l ≠ 0 ∨ t ≠ 0 ∨ a ≠ 0 ∨ x ≠ 0 ∨ y ≠ 0 ∨ z ≠ 0)) := hide (by unfold unuB; simp)
  go_enter Try.func68, Try.ntmps68
  go_wp2
  go_region
  all_goals go_wp2
  all_goals (go_ret; exact ⟨ret_bool (by rw [HU.out]; symm; first | exact decide_eq_true (by omega) | exact decide_eq_false (by omega)), (by repeat' (first | (with_reducible exact Below.refl _ _) | (with_reducible assumption) | (with_reducible refine below_drewN ?_ _) | (with_reducible refine Below.drew ?_) | (with_reducible refine ext_alloc ?_ _) | (with_reducible refine Below.setCell ?_ ?_ _) | go_size))⟩)
set_option maxRecDepth 100000 in
set_option maxHeartbeats 4000000 in
theorem unused_4 {d s r f i k l t lo hi a x y z : Int} {w : World} (hk : k = 4) :
    Calls Try.prog 68 #[plV d s r f i k l t lo hi a x y z] w fun e w' => e = .returned (.bool (unuB k l t lo hi a x y z)) ∧ Ext w w' := by
  subst hk
  have HU : Hid (unuB 4 l t lo hi a x y z = decide (lo ≠ 0 ∨ hi ≠ 0)) := hide (by unfold unuB; simp)
  go_enter Try.func68, Try.ntmps68
  go_wp2
  go_region
  all_goals go_wp2
  all_goals (go_ret; exact ⟨ret_bool (by rw [HU.out]; symm; first | exact decide_eq_true (by omega) | exact decide_eq_false (by omega)), (by repeat' (first | (with_reducible exact Below.refl _ _) | (with_reducible assumption) | (with_reducible refine below_drewN ?_ _) | (with_reducible refine Below.drew ?_) | (with_reducible refine ext_alloc ?_ _) | (with_reducible refine Below.setCell ?_ ?_ _) | go_size))⟩)
theorem unused_any {d s r f i k l t lo hi a x y z : Int} {w : World} :
    Calls Try.prog 68 #[plV d s r f i k l t lo hi a x y z] w fun e w' => e = .returned (.bool (unuB k l t lo hi a x y z)) ∧ Ext w w' := by
  by_cases h2 : k = 2
  · exact unused_2 h2
  by_cases h3 : k = 3
  · exact unused_3 h3
  by_cases h4 : k = 4
  · exact unused_4 h4
  exact unused_0 h2 h3 h4
end Go.Proofs.Ytajadgpkmommmaa
