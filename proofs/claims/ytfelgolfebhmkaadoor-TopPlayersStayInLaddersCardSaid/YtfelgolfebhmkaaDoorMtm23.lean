/- Several texts in one: When so many bits have come: bounds, and a faster network. Plain. Conditions as stated; Walks: CheckWeights (both). Conditions: none. -/
import Derived.Test.YtfelgolfebhmkaaDoorMtm18
import Derived.Test.YtfelgolfebhmkaaDoorMtm01
namespace Go.Proofs.YtfelgolfebhmkaaDoor
open Go.RowKit
theorem endsP_bd : ∀ (l : List (Int × Int)) (x : Int × Int) (f b : Int), okT (x :: l) → 0 ≤ b → b ≤ 1000000000 → 0 ≤ f → f ≤ 1000000000000000000 →
    f ≤ endsP (x :: l) f b ∧ endsP (x :: l) f b ≤ max f 1000000000000 + b
  | [], x, f, b, ⟨hx, hr, h0, hlt, _⟩, hb, hb2, hf, hf2 => by
    have hx2 := h0 rfl
    rw [endsP_cons]
    have e : hdT [] = 1152921504606846976 := rfl
    rw [e]
    by_cases c0 : b = 0
    · rw [if_pos c0]; omega
    rw [if_neg c0, if_neg (by omega)]
    have hn := need_bd (b := b) (r := x.2) (by omega) (by omega)
    rw [if_pos (by omega)]
    omega
  | y :: r, x, f, b, ⟨hx, hr, h0, hlt, hok⟩, hb, hb2, hf, hf2 => by
    rw [endsP_cons]
    have e : hdT (y :: r) = y.1 := rfl
    rw [e]
    have hy := hok.1
    by_cases c0 : b = 0
    · rw [if_pos c0]; omega
    rw [if_neg c0]
    by_cases c1 : y.1 ≤ f ∨ x.2 = 0
    · rw [if_pos c1]
      have := endsP_bd r y (max f y.1) b hok hb hb2 (by omega) (by omega)
      omega
    rw [if_neg c1]
    have hn := need_bd (b := b) (r := x.2) (by omega) (by omega)
    by_cases c2 : (b + x.2 - 1) / x.2 ≤ y.1 - f
    · rw [if_pos c2]; omega
    rw [if_neg c2]
    have h1 : ¬ b ≤ x.2 * (y.1 - f) := fun h => c2 ((need_le (by omega)).2 h)
    have h2 : 0 ≤ x.2 * (y.1 - f) := Int.mul_nonneg hr.1 (by omega)
    have := endsP_bd r y y.1 (b - x.2 * (y.1 - f)) hok (by omega) (by omega) (by omega) (by omega)
    omega
theorem ends_bd {l : List (Int × Int)} (hz : trcF l = 0) {f b : Int} (hb : 0 ≤ b ∧ b ≤ 1000000000) (hf : 0 ≤ f ∧ f ≤ 1000000000000000000) : f ≤ endsP l f b ∧ endsP l f b ≤ max f 1000000000000 + b := by
  have hok := okT_all hz 0 (by omega)
  rw [List.drop_zero] at hok
  obtain ⟨h0, _⟩ := trcF_zero hz
  match l, h0, hok with
  | x :: r, _, hok => exact endsP_bd r x f b hok hb.1 hb.2 hf.1 hf.2
def wtsF (a b c : Int) : Int := if a < 0 ∨ 1000000 < a ∨ b < 0 ∨ 1000000 < b ∨ c < 0 ∨ 1000000 < c then 1 else 0
@[reducible] def wtsV (a b c : Int) : Value := .agg #[.int .i64 a, .int .i64 b, .int .i64 c]
set_option maxRecDepth 100000 in
set_option maxHeartbeats 1000000 in
theorem keyWts_any {a b c : Int} {w : World} :
    Calls Tryd.prog 71 #[wtsV a b c] w fun e w' => e = .returned (.int .i64 (wtsF a b c)) ∧ Ext w w' := by
  by_cases h1 : a < 0 ∨ 1000000 < a
  · have HF : Hid (wtsF a b c = 1) := hide (by unfold wtsF; rw [if_pos (by omega)])
    go_enter Tryd.func71, Tryd.ntmps71
    go_wp2_with (first | ((go_at_call 24; with_reducible refine (out_no ?_ _).mono ?_); (focus omega); rintro e w' ⟨rfl, rfl⟩) | ((go_at_call 24; with_reducible refine (out_yes ?_ _).mono ?_); (focus omega); rintro e w' ⟨rfl, rfl⟩))
    go_ret
    exact ⟨ret_int HF.out.symm, (by repeat' (first | (with_reducible first | exact Below.refl _ _ | assumption | refine below_drewN ?_ _ | refine Below.drew ?_ | refine ext_alloc ?_ _ | refine Below.setCell ?_ ?_ _) | go_size))⟩
  by_cases h2 : b < 0 ∨ 1000000 < b
  · have HF : Hid (wtsF a b c = 1) := hide (by unfold wtsF; rw [if_pos (by omega)])
    go_enter Tryd.func71, Tryd.ntmps71
    go_wp2_with (first | ((go_at_call 24; with_reducible refine (out_no ?_ _).mono ?_); (focus omega); rintro e w' ⟨rfl, rfl⟩) | ((go_at_call 24; with_reducible refine (out_yes ?_ _).mono ?_); (focus omega); rintro e w' ⟨rfl, rfl⟩))
    go_ret
    exact ⟨ret_int HF.out.symm, (by repeat' (first | (with_reducible first | exact Below.refl _ _ | assumption | refine below_drewN ?_ _ | refine Below.drew ?_ | refine ext_alloc ?_ _ | refine Below.setCell ?_ ?_ _) | go_size))⟩
  by_cases h3 : c < 0 ∨ 1000000 < c
  · have HF : Hid (wtsF a b c = 1) := hide (by unfold wtsF; rw [if_pos (by omega)])
    go_enter Tryd.func71, Tryd.ntmps71
    go_wp2_with (first | ((go_at_call 24; with_reducible refine (out_no ?_ _).mono ?_); (focus omega); rintro e w' ⟨rfl, rfl⟩) | ((go_at_call 24; with_reducible refine (out_yes ?_ _).mono ?_); (focus omega); rintro e w' ⟨rfl, rfl⟩))
    go_ret
    exact ⟨ret_int HF.out.symm, (by repeat' (first | (with_reducible first | exact Below.refl _ _ | assumption | refine below_drewN ?_ _ | refine Below.drew ?_ | refine ext_alloc ?_ _ | refine Below.setCell ?_ ?_ _) | go_size))⟩
  · have HF : Hid (wtsF a b c = 0) := hide (by unfold wtsF; rw [if_neg (by omega)])
    go_enter Tryd.func71, Tryd.ntmps71
    go_wp2_with (first | ((go_at_call 24; with_reducible refine (out_no ?_ _).mono ?_); (focus omega); rintro e w' ⟨rfl, rfl⟩) | ((go_at_call 24; with_reducible refine (out_yes ?_ _).mono ?_); (focus omega); rintro e w' ⟨rfl, rfl⟩))
    go_ret
    exact ⟨ret_int HF.out.symm, (by repeat' (first | (with_reducible first | exact Below.refl _ _ | assumption | refine below_drewN ?_ _ | refine Below.drew ?_ | refine ext_alloc ?_ _ | refine Below.setCell ?_ ?_ _) | go_size))⟩
end Go.Proofs.YtfelgolfebhmkaaDoor
