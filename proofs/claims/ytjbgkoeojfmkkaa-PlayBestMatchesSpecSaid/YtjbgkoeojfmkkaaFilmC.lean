/- Walks: used. Conditions: none. -/
import Derived.Test.YtjbgkoeojfmkkaaFilmB
namespace Go.Proofs.Ytjbgkoeojfmkkaa
open Go.RowKit
/-- The fields alone that the kind uses. -/
def usdL (k l t lo hi a x y z : Int) : Int × Int × Int × Int × Int × Int × Int × Int :=
  if k = 2 then (l, t, 0, 0, 0, 0, 0, 0) else if k = 3 then (0, 0, lo, hi, 0, 0, 0, 0) else if k = 4 then (l, t, 0, 0, a, x, y, z) else (0, 0, 0, 0, 0, 0, 0, 0)
@[reducible] def plU (d s r f i k : Int) (u : Int × Int × Int × Int × Int × Int × Int × Int) : Value := plV d s r f i k u.1 u.2.1 u.2.2.1 u.2.2.2.1 u.2.2.2.2.1 u.2.2.2.2.2.1 u.2.2.2.2.2.2.1 u.2.2.2.2.2.2.2
set_option maxRecDepth 100000 in
set_option maxHeartbeats 4000000 in
theorem used_0 {d s r f i k l t lo hi a x y z : Int} {w : World} (h2 : k ≠ 2) (h3 : k ≠ 3) (h4 : k ≠ 4) :
    Calls Try.prog 84 #[plV d s r f i k l t lo hi a x y z] w fun e w' => e = .returned (plV d s r f i k 0 0 0 0 0 0 0 0) ∧ Ext w w' := by
  have e2 : (k == 2) = false := by simp [h2]
  have e3 : (k == 3) = false := by simp [h3]
  have e4 : (k == 4) = false := by simp [h4]
  go_enter Try.func84, Try.ntmps84
  go_wp2
  all_goals exact bodyPost_ret (v := plV d s r f i k 0 0 0 0 0 0 0 0) (by simp [results, Try.results84, go_sem]) rfl ⟨rfl, (by repeat' (first | (with_reducible exact Below.refl _ _) | (with_reducible assumption) | (with_reducible refine below_drewN ?_ _) | (with_reducible refine Below.drew ?_) | (with_reducible refine ext_alloc ?_ _) | (with_reducible refine Below.setCell ?_ ?_ _) | go_size))⟩
set_option maxRecDepth 100000 in
set_option maxHeartbeats 4000000 in
theorem used_2 {d s r f i k l t lo hi a x y z : Int} {w : World} (hk : k = 2) :
    Calls Try.prog 84 #[plV d s r f i k l t lo hi a x y z] w fun e w' => e = .returned (plV d s r f i k l t 0 0 0 0 0 0) ∧ Ext w w' := by
  subst hk
  go_enter Try.func84, Try.ntmps84
  go_wp2
  go_region
  all_goals go_wp2
  all_goals exact bodyPost_ret (v := plV d s r f i 2 l t 0 0 0 0 0 0) (by simp [results, Try.results84, go_sem]) rfl ⟨rfl, (by repeat' (first | (with_reducible exact Below.refl _ _) | (with_reducible assumption) | (with_reducible refine below_drewN ?_ _) | (with_reducible refine Below.drew ?_) | (with_reducible refine ext_alloc ?_ _) | (with_reducible refine Below.setCell ?_ ?_ _) | go_size))⟩
set_option maxRecDepth 100000 in
set_option maxHeartbeats 4000000 in
theorem used_3 {d s r f i k l t lo hi a x y z : Int} {w : World} (hk : k = 3) :
    Calls Try.prog 84 #[plV d s r f i k l t lo hi a x y z] w fun e w' => e = .returned (plV d s r f i k 0 0 lo hi 0 0 0 0) ∧ Ext w w' := by
  subst hk
  go_enter Try.func84, Try.ntmps84
  go_wp2
  go_region
  all_goals go_wp2
  all_goals exact bodyPost_ret (v := plV d s r f i 3 0 0 lo hi 0 0 0 0) (by simp [results, Try.results84, go_sem]) rfl ⟨rfl, (by repeat' (first | (with_reducible exact Below.refl _ _) | (with_reducible assumption) | (with_reducible refine below_drewN ?_ _) | (with_reducible refine Below.drew ?_) | (with_reducible refine ext_alloc ?_ _) | (with_reducible refine Below.setCell ?_ ?_ _) | go_size))⟩
set_option maxRecDepth 100000 in
set_option maxHeartbeats 4000000 in
theorem used_4 {d s r f i k l t lo hi a x y z : Int} {w : World} (hk : k = 4) :
    Calls Try.prog 84 #[plV d s r f i k l t lo hi a x y z] w fun e w' => e = .returned (plV d s r f i k l t 0 0 a x y z) ∧ Ext w w' := by
  subst hk
  go_enter Try.func84, Try.ntmps84
  go_wp2
  go_region
  all_goals go_wp2
  all_goals exact bodyPost_ret (v := plV d s r f i 4 l t 0 0 a x y z) (by simp [results, Try.results84, go_sem]) rfl ⟨rfl, (by repeat' (first | (with_reducible exact Below.refl _ _) | (with_reducible assumption) | (with_reducible refine below_drewN ?_ _) | (with_reducible refine Below.drew ?_) | (with_reducible refine ext_alloc ?_ _) | (with_reducible refine Below.setCell ?_ ?_ _) | go_size))⟩
theorem used_any {d s r f i k l t lo hi a x y z : Int} {w : World} :
    Calls Try.prog 84 #[plV d s r f i k l t lo hi a x y z] w fun e w' => e = .returned (plU d s r f i k (usdL k l t lo hi a x y z)) ∧ Ext w w' := by
  by_cases h2 : k = 2
  · have e : usdL k l t lo hi a x y z = (l, t, 0, 0, 0, 0, 0, 0) := by unfold usdL; rw [if_pos h2]
    rw [e]; exact used_2 h2
  by_cases h3 : k = 3
  · have e : usdL k l t lo hi a x y z = (0, 0, lo, hi, 0, 0, 0, 0) := by unfold usdL; rw [if_neg h2, if_pos h3]
    rw [e]; exact used_3 h3
  by_cases h4 : k = 4
  · have e : usdL k l t lo hi a x y z = (l, t, 0, 0, a, x, y, z) := by unfold usdL; rw [if_neg h2, if_neg h3, if_pos h4]
    rw [e]; exact used_4 h4
  have e : usdL k l t lo hi a x y z = (0, 0, 0, 0, 0, 0, 0, 0) := by unfold usdL; rw [if_neg h2, if_neg h3, if_neg h4]
  rw [e]; exact used_0 h2 h3 h4
/-- Whether a field that is not used is not zero, read off what is used. -/
theorem usd_unu (k l t lo hi a x y z : Int) : (usdL k l t lo hi a x y z = (l, t, lo, hi, a, x, y, z)) ↔ unuB k l t lo hi a x y z = false := by
  unfold usdL unuB
  by_cases h2 : k = 2
  · rw [if_pos h2, if_pos h2, decide_eq_false_iff_not]; repeat rw [Prod.mk.injEq]
    omega
  by_cases h3 : k = 3
  · rw [if_neg h2, if_neg h2, if_pos h3, if_pos h3, decide_eq_false_iff_not]; repeat rw [Prod.mk.injEq]
    omega
  by_cases h4 : k = 4
  · rw [if_neg h2, if_neg h2, if_neg h3, if_neg h3, if_pos h4, if_pos h4, decide_eq_false_iff_not]; repeat rw [Prod.mk.injEq]
    omega
  · rw [if_neg h2, if_neg h2, if_neg h3, if_neg h3, if_neg h4, if_neg h4, decide_eq_false_iff_not]; repeat rw [Prod.mk.injEq]
    omega
end Go.Proofs.Ytjbgkoeojfmkkaa
