/- Walks: CheckWeights (both). Conditions: none. -/
import Derived.Test.YtajadgpkmommmaaOut
namespace Go.Proofs.Ytajadgpkmommmaa
open Go.RowKit

def wtsF (a b c : Int) : Int := if a < 0 ∨ 1000000 < a ∨ b < 0 ∨ 1000000 < b ∨ c < 0 ∨ 1000000 < c then 1 else 0
@[reducible] def wtsV (a b c : Int) : Value := .agg #[.int .i64 a, .int .i64 b, .int .i64 c]
set_option maxRecDepth 100000 in
set_option maxHeartbeats 1000000 in
theorem keyWts_any {a b c : Int} {w : World} :
    Calls Try.prog 33 #[wtsV a b c] w fun e w' => e = .returned (.int .i64 (wtsF a b c)) ∧ Ext w w' := by
  by_cases h1 : a < 0 ∨ 1000000 < a
  · have HF : Hid (wtsF a b c = 1) := hide (by unfold wtsF; rw [if_pos (by omega)])
    go_enter Try.func33, Try.ntmps33
    go_wp2_with (first | ((go_at_call 24; with_reducible refine (out_no ?_ _).mono ?_); (focus omega); rintro e w' ⟨rfl, rfl⟩) | ((go_at_call 24; with_reducible refine (out_yes ?_ _).mono ?_); (focus omega); rintro e w' ⟨rfl, rfl⟩))
    go_ret
    exact ⟨ret_int HF.out.symm, (by repeat' (first | (with_reducible exact Below.refl _ _) | (with_reducible assumption) | (with_reducible refine below_drewN ?_ _) | (with_reducible refine Below.drew ?_) | (with_reducible refine ext_alloc ?_ _) | (with_reducible refine Below.setCell ?_ ?_ _) | go_size))⟩
  by_cases h2 : b < 0 ∨ 1000000 < b
  · have HF : Hid (wtsF a b c = 1) := hide (by unfold wtsF; rw [if_pos (by omega)])
    go_enter Try.func33, Try.ntmps33
    go_wp2_with (first | ((go_at_call 24; with_reducible refine (out_no ?_ _).mono ?_); (focus omega); rintro e w' ⟨rfl, rfl⟩) | ((go_at_call 24; with_reducible refine (out_yes ?_ _).mono ?_); (focus omega); rintro e w' ⟨rfl, rfl⟩))
    go_ret
    exact ⟨ret_int HF.out.symm, (by repeat' (first | (with_reducible exact Below.refl _ _) | (with_reducible assumption) | (with_reducible refine below_drewN ?_ _) | (with_reducible refine Below.drew ?_) | (with_reducible refine ext_alloc ?_ _) | (with_reducible refine Below.setCell ?_ ?_ _) | go_size))⟩
  by_cases h3 : c < 0 ∨ 1000000 < c
  · have HF : Hid (wtsF a b c = 1) := hide (by unfold wtsF; rw [if_pos (by omega)])
    go_enter Try.func33, Try.ntmps33
    go_wp2_with (first | ((go_at_call 24; with_reducible refine (out_no ?_ _).mono ?_); (focus omega); rintro e w' ⟨rfl, rfl⟩) | ((go_at_call 24; with_reducible refine (out_yes ?_ _).mono ?_); (focus omega); rintro e w' ⟨rfl, rfl⟩))
    go_ret
    exact ⟨ret_int HF.out.symm, (by repeat' (first | (with_reducible exact Below.refl _ _) | (with_reducible assumption) | (with_reducible refine below_drewN ?_ _) | (with_reducible refine Below.drew ?_) | (with_reducible refine ext_alloc ?_ _) | (with_reducible refine Below.setCell ?_ ?_ _) | go_size))⟩
  · have HF : Hid (wtsF a b c = 0) := hide (by unfold wtsF; rw [if_neg (by omega)])
    go_enter Try.func33, Try.ntmps33
    go_wp2_with (first | ((go_at_call 24; with_reducible refine (out_no ?_ _).mono ?_); (focus omega); rintro e w' ⟨rfl, rfl⟩) | ((go_at_call 24; with_reducible refine (out_yes ?_ _).mono ?_); (focus omega); rintro e w' ⟨rfl, rfl⟩))
    go_ret
    exact ⟨ret_int HF.out.symm, (by repeat' (first | (with_reducible exact Below.refl _ _) | (with_reducible assumption) | (with_reducible refine below_drewN ?_ _) | (with_reducible refine Below.drew ?_) | (with_reducible refine ext_alloc ?_ _) | (with_reducible refine Below.setCell ?_ ?_ _) | go_size))⟩
end Go.Proofs.Ytajadgpkmommmaa
