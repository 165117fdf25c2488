/- Several texts in one: Walks: unused. Conditions: none; Walks: First of the kit, many. Conditions as stated. -/
import Derived.Test.YtfelgolfebhmkaaDoorMtm01
namespace Go.Proofs.YtfelgolfebhmkaaDoor
open Go.RowKit
@[reducible] def plV (d s r f i k l t lo hi a x y z : Int) : Value := .agg #[.int .i64 d, .int .i64 s, .int .i64 r, .int .i64 f, .int .i64 i, .int .i64 k, .int .i64 l, .int .i64 t, .int .i64 lo, .int .i64 hi, .int .i64 a, .int .i64 x, .int .i64 y, .int .i64 z]
def unuB (k l t lo hi a x y z : Int) : Bool :=
  if k = 2 then decide (lo ≠ 0 ∨ hi ≠ 0 ∨ a ≠ 0 ∨ x ≠ 0 ∨ y ≠ 0 ∨ z ≠ 0)
  else if k = 3 then decide (l ≠ 0 ∨ t ≠ 0 ∨ a ≠ 0 ∨ x ≠ 0 ∨ y ≠ 0 ∨ z ≠ 0)
  else if k = 4 then decide (lo ≠ 0 ∨ hi ≠ 0)
  else decide (l ≠ 0 ∨ t ≠ 0 ∨ lo ≠ 0 ∨ hi ≠ 0 ∨ a ≠ 0 ∨ x ≠ 0 ∨ y ≠ 0 ∨ z ≠ 0)
set_option maxRecDepth 100000 in
set_option maxHeartbeats 4000000 in
theorem unused_0 {d s r f i k l t lo hi a x y z : Int} {w : World} (h2 : k ≠ 2) (h3 : k ≠ 3) (h4 : k ≠ 4) :
    Calls Tryd.prog 70 #[plV d s r f i k l t lo hi a x y z] w fun e w' => e = .returned (.bool (unuB k l t lo hi a x y z)) ∧ Ext w w' := by
  have HU : Hid (unuB k l t lo hi a x y z = decide (l ≠ 0 ∨ t ≠ 0 ∨ lo ≠ 0 ∨ hi ≠ 0 ∨ a ≠ 0 ∨ x ≠ 0 ∨ y ≠ 0 ∨ z ≠ 0)) := hide (by unfold unuB; rw [if_neg h2, if_neg h3, if_neg h4])
  have e2 : (k == 2) = false := by simp [h2]
  have e3 : (k == 3) = false := by simp [h3]
  have e4 : (k == 4) = false := by simp [h4]
  go_enter Tryd.func70, Tryd.ntmps70
  go_wp2
  all_goals (go_ret; exact ⟨ret_bool (by rw [HU.out]; symm; first | exact decide_eq_true (by omega) | exact decide_eq_false (by omega)), (by repeat' (first | (with_reducible first | exact Below.refl _ _ | assumption | refine below_drewN ?_ _ | refine Below.drew ?_ | refine ext_alloc ?_ _ | refine Below.setCell ?_ ?_ _) | go_size))⟩)
set_option maxRecDepth 100000 in
set_option maxHeartbeats 4000000 in
theorem unused_2 {d s r f i k l t lo hi a x y z : Int} {w : World} (hk : k = 2) :
    Calls Tryd.prog 70 #[plV d s r f i k l t lo hi a x y z] w fun e w' => e = .returned (.bool (unuB k l t lo hi a x y z)) ∧ Ext w w' := by
  subst hk
  have HU : Hid (unuB 2 l t lo hi a x y z = decide (lo ≠ 0 ∨ hi ≠ 0 ∨ a ≠ 0 ∨ x ≠ 0 ∨ y ≠ 0 ∨ z ≠ 0)) := hide (by unfold unuB; simp)
  go_enter Tryd.func70, Tryd.ntmps70
  go_wp2
  go_region
  all_goals go_wp2
  all_goals (go_ret; exact ⟨ret_bool (by rw [HU.out]; symm; first | exact decide_eq_true (by omega) | exact decide_eq_false (by omega)), (by repeat' (first | (with_reducible first | exact Below.refl _ _ | assumption | refine below_drewN ?_ _ | refine Below.drew ?_ | refine ext_alloc ?_ _ | refine Below.setCell ?_ ?_ _) | go_size))⟩)
set_option maxRecDepth 100000 in
set_option maxHeartbeats 4000000 in
theorem unused_3 {d s r f i k l t lo hi a x y z : Int} {w : World} (hk : k = 3) :
    Calls Tryd.prog 70 #[plV d s r f i k l t lo hi a x y z] w fun e w' => e = .returned (.bool (unuB k l t lo hi a x y z)) ∧ Ext w w' := by
  subst hk
  have HU : Hid (unuB 3 l t lo hi a x y z = decide (l ≠ 0 ∨ t ≠ 0 ∨ a ≠ 0 ∨ x ≠ 0 ∨ y ≠ 0 ∨ z ≠ 0)) := hide (by unfold unuB; simp)
  go_enter Tryd.func70, Tryd.ntmps70
  go_wp2
  go_region
  all_goals go_wp2
  all_goals (go_ret; exact ⟨ret_bool (by rw [HU.out]; symm; first | exact decide_eq_true (by omega) | exact decide_eq_false (by omega)), (by repeat' (first | (with_reducible first | exact Below.refl _ _ | assumption | refine below_drewN ?_ _ | refine Below.drew ?_ | refine ext_alloc ?_ _ | refine Below.setCell ?_ ?_ _) | go_size))⟩)
set_option maxRecDepth 100000 in
set_option maxHeartbeats 4000000 in
theorem unused_4 {d s r f i k l t lo hi a x y z : Int} {w : World} (hk : k = 4) :
    Calls Tryd.prog 70 #[plV d s r f i k l t lo hi a x y z] w fun e w' => e = .returned (.bool (unuB k l t lo hi a x y z)) ∧ Ext w w' := by
  subst hk
  have HU : Hid (unuB 4 l t lo hi a x y z = decide (lo ≠ 0 ∨ hi ≠ 0)) := hide (by unfold unuB; simp)
  go_enter Tryd.func70, Tryd.ntmps70
  go_wp2
  go_region
  all_goals go_wp2
  all_goals (go_ret; exact ⟨ret_bool (by rw [HU.out]; symm; first | exact decide_eq_true (by omega) | exact decide_eq_false (by omega)), (by repeat' (first | (with_reducible first | exact Below.refl _ _ | assumption | refine below_drewN ?_ _ | refine Below.drew ?_ | refine ext_alloc ?_ _ | refine Below.setCell ?_ ?_ _) | go_size))⟩)
theorem unused_any {d s r f i k l t lo hi a x y z : Int} {w : World} :
    Calls Tryd.prog 70 #[plV d s r f i k l t lo hi a x y z] w fun e w' => e = .returned (.bool (unuB k l t lo hi a x y z)) ∧ Ext w w' := by
  by_cases h2 : k = 2
  · exact unused_2 h2
  by_cases h3 : k = 3
  · exact unused_3 h3
  by_cases h4 : k = 4
  · exact unused_4 h4
  exact unused_0 h2 h3 h4
def firstNZ : List Int → Int
  | [] => 0
  | x :: r => if x ≠ 0 then x else firstNZ r
theorem drop_consA {α : Type} (l : List α) (k : Nat) (d : α) (h : k < l.length) : l.drop k = l.getD k d :: l.drop (k + 1) := by
  rw [List.drop_eq_getElem_cons h]; simp [List.getD, h]
set_option maxHeartbeats 1000000 in
theorem first_any {A : Option Addr} {n c : Nat} {l : List Int} {w : World} (h : At w 1 e64 A n c l) :
    Calls Tryd.prog 18 #[.slice A n c] w fun e w' => e = .returned (.int .i64 (firstNZ l)) ∧ Ext w w' := by
  have hb := h.bound
  have hl := hide h.len
  have H := hide h
  clear h
  go_enter Tryd.func18, Tryd.ntmps18
  go_wp2_with fail
  go_loopw [7] (fun ri wr => ∃ k : Nat, k ≤ n ∧ ri = .int .i64 k ∧ Hid (firstNZ (l.drop k) = firstNZ l) ∧ Hid (Ext w wr)) (fun i _ => n - (intOf i).toNat)
  case atStart => exact ⟨0, by omega, rfl, hide (by simp), hide (Ext.refl _)⟩
  case round =>
    obtain ⟨k, hk, rfl, HS, HX⟩ := hrel
    by_cases hlt : k < n
    · obtain ⟨b, off, rfl, _⟩ := H.out.addr (by omega)
      have a1 := (H.out.ext HX.out).num hlt
      have hs := HS.out
      rw [drop_consA l k 0 (by have := hl.out; omega)] at hs
      have i1 : (k : Int) < (n : Int) := by omega
      have i0 : (0 : Int) ≤ (k : Int) := by omega
      generalize l.getD k 0 = y at *
      by_cases hy : y = 0
      · have HS2 : Hid (firstNZ (l.drop (k + 1)) = firstNZ l) := hide (by rw [← hs]; unfold firstNZ; rw [if_neg (by omega)]; cases l.drop (k + 1) <;> rfl)
        have i2 : (y != 0) = false := by simp [hy]
        clear hs hy HS
        go_wp2
        go_roundw
        case rel => exact ⟨k + 1, by omega, by go_num, HS2, HX⟩
        case measure => simp [intOf]; omega
      · have HS2 : Hid (firstNZ l = y) := hide (by rw [← hs]; unfold firstNZ; rw [if_pos hy])
        have i2 : (y != 0) = true := by simp [hy]
        clear hs hy HS
        go_wp2
        go_ret
        exact ⟨ret_int HS2.out.symm, HX.out⟩
    · have hkn : k = n := by omega
      have HS2 : Hid (firstNZ l = 0) := hide (by rw [← HS.out, List.drop_of_length_le (by have := hl.out; omega)]; rfl)
      clear hkn HS
      go_wp2
      go_ret
      exact ⟨ret_int HS2.out.symm, HX.out⟩
theorem At.new2 (w : World) (x y : Int) (t : TypeId) : At (w.alloc (.cells #[.int .i64 x, .int .i64 y] t)) 1 e64 (some ⟨w.heap.size, 0, none⟩) 2 2 [x, y] :=
  ⟨rfl, Nat.le_refl _, by unfold maxLen; omega, fun h => (by cases h), fun k z hz => ⟨_, _, rfl, fun j v hv => by
    match k, hz with
    | 0, hz =>
      simp at hz; subst hz
      match j, hv with
      | 0, hv =>
        simp at hv; subst hv
        exact (Blk.new w _ _).cell 0
      | j + 1, hv => simp at hv
    | 1, hz =>
      simp at hz; subst hz
      match j, hv with
      | 0, hv =>
        simp at hv; subst hv
        exact (Blk.new w _ _).cell 1
      | j + 1, hv => simp at hv
    | k + 2, hz => simp at hz⟩⟩
def manyN (base : Int) : Int → Nat → Bool
  | _, 0 => false
  | n, k + 1 => if 4096 < n * base then true else manyN base (n * base) k
theorem manyN_succ (base n : Int) (k : Nat) : manyN base n (k + 1) = if 4096 < n * base then true else manyN base (n * base) k := rfl
set_option maxHeartbeats 1000000 in
theorem many_any {base : Int} {power : Nat} (hb : 0 ≤ base ∧ base ≤ 1000) (hp : power ≤ 1000) (w : World) :
    Calls Tryd.prog 44 #[.int .i64 base, .int .i64 (power : Int)] w fun e w' => e = .returned (.bool (manyN base 1 power)) ∧ Ext w w' := by
  obtain ⟨hb1, hb2⟩ := hb
  go_enter Tryd.func44, Tryd.ntmps44
  go_wp2_with fail
  go_loopw [5, 7] (fun rn ri wr => ∃ (k : Nat) (m : Int), k ≤ power ∧ ri = .int .i64 k ∧ rn = .int .i64 m ∧ (0 ≤ m ∧ m ≤ 4096) ∧ Hid (manyN base m (power - k) = manyN base 1 power) ∧ Hid (Ext w wr)) (fun _ i _ => power - (intOf i).toNat)
  case atStart => exact ⟨0, 1, by omega, rfl, rfl, by omega, hide (by simp), hide (Ext.refl _)⟩
  case round =>
    obtain ⟨k, m, hk, rfl, rfl, hm, HS, HX⟩ := hrel
    by_cases hlt : k < power
    · have hs := HS.out
      obtain ⟨j, hj⟩ : ∃ j, power - k = j + 1 := ⟨power - k - 1, by omega⟩
      have hj2 : power - (k + 1) = j := by omega
      have h1 := Int.mul_le_mul_of_nonneg_left hb2 hm.1
      have h2 := Int.mul_nonneg hm.1 hb1
      rw [hj] at hs
      rw [manyN_succ] at hs
      have v1 : IntKind.i64.wrap (m * base) = m * base := by rw [IntKind.wrap_i64]; omega
      have v2 : wrap64 (m * base) = m * base := by unfold wrap64; omega
      have i1 : (k : Int) < (power : Int) := by omega
      by_cases hy : 4096 < m * base
      · rw [if_pos hy] at hs
        have HS2 := hide hs
        clear hs HS hj hj2
        go_wp2
        go_ret
        exact ⟨ret_bool HS2.out, HX.out⟩
      · rw [if_neg hy] at hs
        have HS2 : Hid (manyN base (m * base) (power - (k + 1)) = manyN base 1 power) := hide (by rw [hj2]; exact hs)
        clear hs HS hj hj2
        go_wp2
        go_roundw
        case rel => exact ⟨k + 1, m * base, by omega, by go_num, rfl, by omega, HS2, HX⟩
        case measure => simp [intOf]; omega
    · have hkn : k = power := by omega
      have HS2 : Hid (manyN base 1 power = false) := hide (by rw [← HS.out, hkn, Nat.sub_self]; rfl)
      clear HS
      have i1 : ¬ (k : Int) < (power : Int) := by omega
      clear hkn
      go_wp2
      go_ret
      exact ⟨ret_bool HS2.out.symm, HX.out⟩
end Go.Proofs.YtfelgolfebhmkaaDoor
