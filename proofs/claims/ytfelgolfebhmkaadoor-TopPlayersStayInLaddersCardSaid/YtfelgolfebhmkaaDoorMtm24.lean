/- Walk: play.CheckPlayer. Conditions: none. -/
import Derived.Test.YtfelgolfebhmkaaDoorMtm23
import Derived.Test.YtfelgolfebhmkaaDoorMtm07
namespace Go.Proofs.YtfelgolfebhmkaaDoor
open Go.RowKit
def plrF (d s r f i k l t lo hi a x y z : Int) : Int :=
  if d < 0 ∨ 100000 < d ∨ s < 1 ∨ 1000000000 < s ∨ r < 1 ∨ 1000000000 < r ∨ f < 1 ∨ 1000000000 < f ∨ i < 0 ∨ 19 < i then 1
  else if k < 1 ∨ 4 < k then 4
  else if unuB k l t lo hi a x y z = true then 3
  else if ((k = 2 ∨ k = 4) ∧ (l < 1 ∨ 100 < l ∨ t < 1 ∨ 10000 < t)) ∨ (k = 3 ∧ (lo < 0 ∨ 1000000000 < lo ∨ hi < 1 ∨ 1000000000 < hi)) then 1
  else if k = 3 ∧ hi ≤ lo then 8
  else if k = 4 ∧ (a < 1 ∨ 6 < a) then 1
  else if k = 4 then wtsF x y z else 0
set_option maxRecDepth 100000 in
set_option maxHeartbeats 8000000 in
theorem keyPlr_0 {d s r f i k l t lo hi a x y z : Int} {w : World} (h2 : k ≠ 2) (h3 : k ≠ 3) (h4 : k ≠ 4) :
    Calls Tryd.prog 58 #[plV d s r f i k l t lo hi a x y z] w fun e w' => e = .returned (.int .i64 (plrF d s r f i k l t lo hi a x y z)) ∧ Ext w w' := by
  have e2 : (k == 2) = false := by simp [h2]
  have e3 : (k == 3) = false := by simp [h3]
  have e4 : (k == 4) = false := by simp [h4]
  have HCL := hide (fun (W : World) (hW : Ext (w.alloc (.cells #[.int .i64 d, .int .i64 s, .int .i64 r, .int .i64 f, .int .i64 i, .int .i64 k, .int .i64 l, .int .i64 t, .int .i64 lo, .int .i64 hi, .int .i64 a, .int .i64 x, .int .i64 y, .int .i64 z] 29)) W) =>
    show W.cell? ⟨w.heap.size, 5, none⟩ = some (.int .i64 k) ∧ W.cell? ⟨w.heap.size, 6, none⟩ = some (.int .i64 l) ∧ W.cell? ⟨w.heap.size, 7, none⟩ = some (.int .i64 t) ∧ W.cell? ⟨w.heap.size, 8, none⟩ = some (.int .i64 lo) ∧ W.cell? ⟨w.heap.size, 9, none⟩ = some (.int .i64 hi) ∧ W.cell? ⟨w.heap.size, 10, none⟩ = some (.int .i64 a) ∧ W.cell? ⟨w.heap.size, 11, none⟩ = some (.int .i64 x) ∧ W.cell? ⟨w.heap.size, 12, none⟩ = some (.int .i64 y) ∧ W.cell? ⟨w.heap.size, 13, none⟩ = some (.int .i64 z) from by
      have b1 := (Blk.new w 29 #[.int .i64 d, .int .i64 s, .int .i64 r, .int .i64 f, .int .i64 i, .int .i64 k, .int .i64 l, .int .i64 t, .int .i64 lo, .int .i64 hi, .int .i64 a, .int .i64 x, .int .i64 y, .int .i64 z]).ext hW
      exact ⟨b1.cell 5, b1.cell 6, b1.cell 7, b1.cell 8, b1.cell 9, b1.cell 10, b1.cell 11, b1.cell 12, b1.cell 13⟩)
  have HUC := hide (fun (W : World) => unused_any (d := d) (s := s) (r := r) (f := f) (i := i) (k := k) (l := l) (t := t) (lo := lo) (hi := hi) (a := a) (x := x) (y := y) (z := z) (w := W))
  go_enter Tryd.func58, Tryd.ntmps58
  go_wp2_with fail
  go_quiet (fail)
  by_cases b0 : d < 0 ∨ 100000 < d
  · have HF : Hid (plrF d s r f i k l t lo hi a x y z = 1) := hide (by unfold plrF; rw [if_pos (by omega)])
    go_wp2_with (first | ((go_at_call 24; with_reducible refine (out_no ?_ _).mono ?_); (focus omega); rintro e w' ⟨rfl, rfl⟩) | ((go_at_call 24; with_reducible refine (out_yes ?_ _).mono ?_); (focus omega); rintro e w' ⟨rfl, rfl⟩))
    go_ret
    exact ⟨ret_int HF.out.symm, (by repeat' (first | (with_reducible first | exact Below.refl _ _ | assumption | refine below_drewN ?_ _ | refine Below.drew ?_ | refine ext_alloc ?_ _ | refine Below.setCell ?_ ?_ _) | go_size))⟩
  by_cases b1 : s < 1 ∨ 1000000000 < s
  · have HF : Hid (plrF d s r f i k l t lo hi a x y z = 1) := hide (by unfold plrF; rw [if_pos (by omega)])
    go_wp2_with (first | ((go_at_call 24; with_reducible refine (out_no ?_ _).mono ?_); (focus omega); rintro e w' ⟨rfl, rfl⟩) | ((go_at_call 24; with_reducible refine (out_yes ?_ _).mono ?_); (focus omega); rintro e w' ⟨rfl, rfl⟩))
    go_ret
    exact ⟨ret_int HF.out.symm, (by repeat' (first | (with_reducible first | exact Below.refl _ _ | assumption | refine below_drewN ?_ _ | refine Below.drew ?_ | refine ext_alloc ?_ _ | refine Below.setCell ?_ ?_ _) | go_size))⟩
  by_cases b2 : r < 1 ∨ 1000000000 < r
  · have HF : Hid (plrF d s r f i k l t lo hi a x y z = 1) := hide (by unfold plrF; rw [if_pos (by omega)])
    go_wp2_with (first | ((go_at_call 24; with_reducible refine (out_no ?_ _).mono ?_); (focus omega); rintro e w' ⟨rfl, rfl⟩) | ((go_at_call 24; with_reducible refine (out_yes ?_ _).mono ?_); (focus omega); rintro e w' ⟨rfl, rfl⟩))
    go_ret
    exact ⟨ret_int HF.out.symm, (by repeat' (first | (with_reducible first | exact Below.refl _ _ | assumption | refine below_drewN ?_ _ | refine Below.drew ?_ | refine ext_alloc ?_ _ | refine Below.setCell ?_ ?_ _) | go_size))⟩
  by_cases b3 : f < 1 ∨ 1000000000 < f
  · have HF : Hid (plrF d s r f i k l t lo hi a x y z = 1) := hide (by unfold plrF; rw [if_pos (by omega)])
    go_wp2_with (first | ((go_at_call 24; with_reducible refine (out_no ?_ _).mono ?_); (focus omega); rintro e w' ⟨rfl, rfl⟩) | ((go_at_call 24; with_reducible refine (out_yes ?_ _).mono ?_); (focus omega); rintro e w' ⟨rfl, rfl⟩))
    go_ret
    exact ⟨ret_int HF.out.symm, (by repeat' (first | (with_reducible first | exact Below.refl _ _ | assumption | refine below_drewN ?_ _ | refine Below.drew ?_ | refine ext_alloc ?_ _ | refine Below.setCell ?_ ?_ _) | go_size))⟩
  by_cases b4 : i < 0 ∨ 19 < i
  · have HF : Hid (plrF d s r f i k l t lo hi a x y z = 1) := hide (by unfold plrF; rw [if_pos (by omega)])
    go_wp2_with (first | ((go_at_call 24; with_reducible refine (out_no ?_ _).mono ?_); (focus omega); rintro e w' ⟨rfl, rfl⟩) | ((go_at_call 24; with_reducible refine (out_yes ?_ _).mono ?_); (focus omega); rintro e w' ⟨rfl, rfl⟩))
    go_ret
    exact ⟨ret_int HF.out.symm, (by repeat' (first | (with_reducible first | exact Below.refl _ _ | assumption | refine below_drewN ?_ _ | refine Below.drew ?_ | refine ext_alloc ?_ _ | refine Below.setCell ?_ ?_ _) | go_size))⟩
  by_cases bk : k < 1 ∨ 4 < k
  · have HF : Hid (plrF d s r f i k l t lo hi a x y z = 4) := hide (by unfold plrF; rw [if_neg (by omega), if_pos (by omega)])
    go_wp2_with (first | ((go_at_call 24; with_reducible refine (out_no ?_ _).mono ?_); (focus omega); rintro e w' ⟨rfl, rfl⟩) | ((go_at_call 24; with_reducible refine (out_yes ?_ _).mono ?_); (focus omega); rintro e w' ⟨rfl, rfl⟩))
    go_ret
    exact ⟨ret_int HF.out.symm, (by repeat' (first | (with_reducible first | exact Below.refl _ _ | assumption | refine below_drewN ?_ _ | refine Below.drew ?_ | refine ext_alloc ?_ _ | refine Below.setCell ?_ ?_ _) | go_size))⟩
  have hnr : ¬(d < 0 ∨ 100000 < d ∨ s < 1 ∨ 1000000000 < s ∨ r < 1 ∨ 1000000000 < r ∨ f < 1 ∨ 1000000000 < f ∨ i < 0 ∨ 19 < i) := by omega
  have HNR := hide hnr
  go_wp2_with (first | ((go_at_call 24; with_reducible refine (out_no ?_ _).mono ?_); (focus omega); rintro e w' ⟨rfl, rfl⟩) | ((go_at_call 24; with_reducible refine (out_yes ?_ _).mono ?_); (focus omega); rintro e w' ⟨rfl, rfl⟩))
  refine (HUC.out _).mono ?_
  rintro e w8 ⟨rfl, e8⟩
  have hw8 : Ext w w8 := Ext.trans (by repeat' (first | (with_reducible first | exact Below.refl _ _ | assumption | refine below_drewN ?_ _ | refine Below.drew ?_ | refine ext_alloc ?_ _ | refine Below.setCell ?_ ?_ _) | go_size)) e8
  obtain ⟨c5, c6, c7, c8, c9, c10, c11, c12, c13⟩ := HCL.out w8 (Ext.trans (by repeat' (first | (with_reducible first | exact Below.refl _ _ | assumption | refine below_drewN ?_ _ | refine Below.drew ?_ | refine ext_alloc ?_ _ | refine Below.setCell ?_ ?_ _) | go_size)) e8)
  clear e8 hnr b0 b1 b2 b3 b4
  by_cases hu : unuB k l t lo hi a x y z = true
  · have HF : Hid (plrF d s r f i k l t lo hi a x y z = 3) := hide (by unfold plrF; rw [if_neg HNR.out, if_neg (by omega), if_pos hu])
    rw [hu]
    go_wp2_with (first | ((go_at_call 24; with_reducible refine (out_no ?_ _).mono ?_); (focus omega); rintro e w' ⟨rfl, rfl⟩) | ((go_at_call 24; with_reducible refine (out_yes ?_ _).mono ?_); (focus omega); rintro e w' ⟨rfl, rfl⟩))
    go_ret
    exact ⟨ret_int HF.out.symm, hw8⟩
  have hu' : unuB k l t lo hi a x y z = false := by simpa using hu
  have HN := hide hu
  rw [hu']
  clear hu hu'
  have HF : Hid (plrF d s r f i k l t lo hi a x y z = 0) := hide (by unfold plrF; rw [if_neg HNR.out, if_neg (by omega), if_neg HN.out, if_neg (by omega), if_neg (by omega), if_neg (by omega), if_neg (by omega)])
  go_wp2_with (first | ((go_at_call 24; with_reducible refine (out_no ?_ _).mono ?_); (focus omega); rintro e w' ⟨rfl, rfl⟩) | ((go_at_call 24; with_reducible refine (out_yes ?_ _).mono ?_); (focus omega); rintro e w' ⟨rfl, rfl⟩))
  go_ret
  exact ⟨ret_int HF.out.symm, hw8⟩
set_option maxRecDepth 100000 in
set_option maxHeartbeats 8000000 in
theorem keyPlr_2 {d s r f i l t lo hi a x y z : Int} {w : World} :
    Calls Tryd.prog 58 #[plV d s r f i 2 l t lo hi a x y z] w fun e w' => e = .returned (.int .i64 (plrF d s r f i 2 l t lo hi a x y z)) ∧ Ext w w' := by
  have HCL := hide (fun (W : World) (hW : Ext (w.alloc (.cells #[.int .i64 d, .int .i64 s, .int .i64 r, .int .i64 f, .int .i64 i, .int .i64 2, .int .i64 l, .int .i64 t, .int .i64 lo, .int .i64 hi, .int .i64 a, .int .i64 x, .int .i64 y, .int .i64 z] 29)) W) =>
    show W.cell? ⟨w.heap.size, 5, none⟩ = some (.int .i64 2) ∧ W.cell? ⟨w.heap.size, 6, none⟩ = some (.int .i64 l) ∧ W.cell? ⟨w.heap.size, 7, none⟩ = some (.int .i64 t) ∧ W.cell? ⟨w.heap.size, 8, none⟩ = some (.int .i64 lo) ∧ W.cell? ⟨w.heap.size, 9, none⟩ = some (.int .i64 hi) ∧ W.cell? ⟨w.heap.size, 10, none⟩ = some (.int .i64 a) ∧ W.cell? ⟨w.heap.size, 11, none⟩ = some (.int .i64 x) ∧ W.cell? ⟨w.heap.size, 12, none⟩ = some (.int .i64 y) ∧ W.cell? ⟨w.heap.size, 13, none⟩ = some (.int .i64 z) from by
      have b1 := (Blk.new w 29 #[.int .i64 d, .int .i64 s, .int .i64 r, .int .i64 f, .int .i64 i, .int .i64 2, .int .i64 l, .int .i64 t, .int .i64 lo, .int .i64 hi, .int .i64 a, .int .i64 x, .int .i64 y, .int .i64 z]).ext hW
      exact ⟨b1.cell 5, b1.cell 6, b1.cell 7, b1.cell 8, b1.cell 9, b1.cell 10, b1.cell 11, b1.cell 12, b1.cell 13⟩)
  have HUC := hide (fun (W : World) => unused_any (d := d) (s := s) (r := r) (f := f) (i := i) (k := 2) (l := l) (t := t) (lo := lo) (hi := hi) (a := a) (x := x) (y := y) (z := z) (w := W))
  go_enter Tryd.func58, Tryd.ntmps58
  go_wp2_with fail
  go_quiet (fail)
  by_cases b0 : d < 0 ∨ 100000 < d
  · have HF : Hid (plrF d s r f i 2 l t lo hi a x y z = 1) := hide (by unfold plrF; rw [if_pos (by omega)])
    go_wp2_with (first | ((go_at_call 24; with_reducible refine (out_no ?_ _).mono ?_); (focus omega); rintro e w' ⟨rfl, rfl⟩) | ((go_at_call 24; with_reducible refine (out_yes ?_ _).mono ?_); (focus omega); rintro e w' ⟨rfl, rfl⟩))
    go_ret
    exact ⟨ret_int HF.out.symm, (by repeat' (first | (with_reducible first | exact Below.refl _ _ | assumption | refine below_drewN ?_ _ | refine Below.drew ?_ | refine ext_alloc ?_ _ | refine Below.setCell ?_ ?_ _) | go_size))⟩
  by_cases b1 : s < 1 ∨ 1000000000 < s
  · have HF : Hid (plrF d s r f i 2 l t lo hi a x y z = 1) := hide (by unfold plrF; rw [if_pos (by omega)])
    go_wp2_with (first | ((go_at_call 24; with_reducible refine (out_no ?_ _).mono ?_); (focus omega); rintro e w' ⟨rfl, rfl⟩) | ((go_at_call 24; with_reducible refine (out_yes ?_ _).mono ?_); (focus omega); rintro e w' ⟨rfl, rfl⟩))
    go_ret
    exact ⟨ret_int HF.out.symm, (by repeat' (first | (with_reducible first | exact Below.refl _ _ | assumption | refine below_drewN ?_ _ | refine Below.drew ?_ | refine ext_alloc ?_ _ | refine Below.setCell ?_ ?_ _) | go_size))⟩
  by_cases b2 : r < 1 ∨ 1000000000 < r
  · have HF : Hid (plrF d s r f i 2 l t lo hi a x y z = 1) := hide (by unfold plrF; rw [if_pos (by omega)])
    go_wp2_with (first | ((go_at_call 24; with_reducible refine (out_no ?_ _).mono ?_); (focus omega); rintro e w' ⟨rfl, rfl⟩) | ((go_at_call 24; with_reducible refine (out_yes ?_ _).mono ?_); (focus omega); rintro e w' ⟨rfl, rfl⟩))
    go_ret
    exact ⟨ret_int HF.out.symm, (by repeat' (first | (with_reducible first | exact Below.refl _ _ | assumption | refine below_drewN ?_ _ | refine Below.drew ?_ | refine ext_alloc ?_ _ | refine Below.setCell ?_ ?_ _) | go_size))⟩
  by_cases b3 : f < 1 ∨ 1000000000 < f
  · have HF : Hid (plrF d s r f i 2 l t lo hi a x y z = 1) := hide (by unfold plrF; rw [if_pos (by omega)])
    go_wp2_with (first | ((go_at_call 24; with_reducible refine (out_no ?_ _).mono ?_); (focus omega); rintro e w' ⟨rfl, rfl⟩) | ((go_at_call 24; with_reducible refine (out_yes ?_ _).mono ?_); (focus omega); rintro e w' ⟨rfl, rfl⟩))
    go_ret
    exact ⟨ret_int HF.out.symm, (by repeat' (first | (with_reducible first | exact Below.refl _ _ | assumption | refine below_drewN ?_ _ | refine Below.drew ?_ | refine ext_alloc ?_ _ | refine Below.setCell ?_ ?_ _) | go_size))⟩
  by_cases b4 : i < 0 ∨ 19 < i
  · have HF : Hid (plrF d s r f i 2 l t lo hi a x y z = 1) := hide (by unfold plrF; rw [if_pos (by omega)])
    go_wp2_with (first | ((go_at_call 24; with_reducible refine (out_no ?_ _).mono ?_); (focus omega); rintro e w' ⟨rfl, rfl⟩) | ((go_at_call 24; with_reducible refine (out_yes ?_ _).mono ?_); (focus omega); rintro e w' ⟨rfl, rfl⟩))
    go_ret
    exact ⟨ret_int HF.out.symm, (by repeat' (first | (with_reducible first | exact Below.refl _ _ | assumption | refine below_drewN ?_ _ | refine Below.drew ?_ | refine ext_alloc ?_ _ | refine Below.setCell ?_ ?_ _) | go_size))⟩
  have hnr : ¬(d < 0 ∨ 100000 < d ∨ s < 1 ∨ 1000000000 < s ∨ r < 1 ∨ 1000000000 < r ∨ f < 1 ∨ 1000000000 < f ∨ i < 0 ∨ 19 < i) := by omega
  have HNR := hide hnr
  go_wp2_with (first | ((go_at_call 24; with_reducible refine (out_no ?_ _).mono ?_); (focus omega); rintro e w' ⟨rfl, rfl⟩) | ((go_at_call 24; with_reducible refine (out_yes ?_ _).mono ?_); (focus omega); rintro e w' ⟨rfl, rfl⟩))
  refine (HUC.out _).mono ?_
  rintro e w8 ⟨rfl, e8⟩
  have hw8 : Ext w w8 := Ext.trans (by repeat' (first | (with_reducible first | exact Below.refl _ _ | assumption | refine below_drewN ?_ _ | refine Below.drew ?_ | refine ext_alloc ?_ _ | refine Below.setCell ?_ ?_ _) | go_size)) e8
  obtain ⟨c5, c6, c7, c8, c9, c10, c11, c12, c13⟩ := HCL.out w8 (Ext.trans (by repeat' (first | (with_reducible first | exact Below.refl _ _ | assumption | refine below_drewN ?_ _ | refine Below.drew ?_ | refine ext_alloc ?_ _ | refine Below.setCell ?_ ?_ _) | go_size)) e8)
  clear e8 hnr b0 b1 b2 b3 b4
  by_cases hu : unuB 2 l t lo hi a x y z = true
  · have HF : Hid (plrF d s r f i 2 l t lo hi a x y z = 3) := hide (by unfold plrF; rw [if_neg HNR.out, if_neg (by omega), if_pos hu])
    rw [hu]
    go_wp2_with (first | ((go_at_call 24; with_reducible refine (out_no ?_ _).mono ?_); (focus omega); rintro e w' ⟨rfl, rfl⟩) | ((go_at_call 24; with_reducible refine (out_yes ?_ _).mono ?_); (focus omega); rintro e w' ⟨rfl, rfl⟩))
    go_ret
    exact ⟨ret_int HF.out.symm, hw8⟩
  have hu' : unuB 2 l t lo hi a x y z = false := by simpa using hu
  have HN := hide hu
  rw [hu']
  clear hu hu'
  by_cases g1 : l < 1 ∨ 100 < l
  · have HF : Hid (plrF d s r f i 2 l t lo hi a x y z = 1) := hide (by unfold plrF; rw [if_neg HNR.out, if_neg (by omega), if_neg HN.out, if_pos (by omega)])
    go_wp2_with (first | ((go_at_call 24; with_reducible refine (out_no ?_ _).mono ?_); (focus omega); rintro e w' ⟨rfl, rfl⟩) | ((go_at_call 24; with_reducible refine (out_yes ?_ _).mono ?_); (focus omega); rintro e w' ⟨rfl, rfl⟩))
    go_ret
    exact ⟨ret_int HF.out.symm, hw8⟩
  by_cases g2 : t < 1 ∨ 10000 < t
  · have HF : Hid (plrF d s r f i 2 l t lo hi a x y z = 1) := hide (by unfold plrF; rw [if_neg HNR.out, if_neg (by omega), if_neg HN.out, if_pos (by omega)])
    go_wp2_with (first | ((go_at_call 24; with_reducible refine (out_no ?_ _).mono ?_); (focus omega); rintro e w' ⟨rfl, rfl⟩) | ((go_at_call 24; with_reducible refine (out_yes ?_ _).mono ?_); (focus omega); rintro e w' ⟨rfl, rfl⟩))
    go_ret
    exact ⟨ret_int HF.out.symm, hw8⟩
  have HF : Hid (plrF d s r f i 2 l t lo hi a x y z = 0) := hide (by unfold plrF; rw [if_neg HNR.out, if_neg (by omega), if_neg HN.out, if_neg (by omega), if_neg (by omega), if_neg (by omega), if_neg (by omega)])
  go_wp2_with (first | ((go_at_call 24; with_reducible refine (out_no ?_ _).mono ?_); (focus omega); rintro e w' ⟨rfl, rfl⟩) | ((go_at_call 24; with_reducible refine (out_yes ?_ _).mono ?_); (focus omega); rintro e w' ⟨rfl, rfl⟩))
  go_ret
  exact ⟨ret_int HF.out.symm, hw8⟩
set_option maxRecDepth 100000 in
set_option maxHeartbeats 8000000 in
theorem keyPlr_3 {d s r f i l t lo hi a x y z : Int} {w : World} :
    Calls Tryd.prog 58 #[plV d s r f i 3 l t lo hi a x y z] w fun e w' => e = .returned (.int .i64 (plrF d s r f i 3 l t lo hi a x y z)) ∧ Ext w w' := by
  have HCL := hide (fun (W : World) (hW : Ext (w.alloc (.cells #[.int .i64 d, .int .i64 s, .int .i64 r, .int .i64 f, .int .i64 i, .int .i64 3, .int .i64 l, .int .i64 t, .int .i64 lo, .int .i64 hi, .int .i64 a, .int .i64 x, .int .i64 y, .int .i64 z] 29)) W) =>
    show W.cell? ⟨w.heap.size, 5, none⟩ = some (.int .i64 3) ∧ W.cell? ⟨w.heap.size, 6, none⟩ = some (.int .i64 l) ∧ W.cell? ⟨w.heap.size, 7, none⟩ = some (.int .i64 t) ∧ W.cell? ⟨w.heap.size, 8, none⟩ = some (.int .i64 lo) ∧ W.cell? ⟨w.heap.size, 9, none⟩ = some (.int .i64 hi) ∧ W.cell? ⟨w.heap.size, 10, none⟩ = some (.int .i64 a) ∧ W.cell? ⟨w.heap.size, 11, none⟩ = some (.int .i64 x) ∧ W.cell? ⟨w.heap.size, 12, none⟩ = some (.int .i64 y) ∧ W.cell? ⟨w.heap.size, 13, none⟩ = some (.int .i64 z) from by
      have b1 := (Blk.new w 29 #[.int .i64 d, .int .i64 s, .int .i64 r, .int .i64 f, .int .i64 i, .int .i64 3, .int .i64 l, .int .i64 t, .int .i64 lo, .int .i64 hi, .int .i64 a, .int .i64 x, .int .i64 y, .int .i64 z]).ext hW
      exact ⟨b1.cell 5, b1.cell 6, b1.cell 7, b1.cell 8, b1.cell 9, b1.cell 10, b1.cell 11, b1.cell 12, b1.cell 13⟩)
  have HUC := hide (fun (W : World) => unused_any (d := d) (s := s) (r := r) (f := f) (i := i) (k := 3) (l := l) (t := t) (lo := lo) (hi := hi) (a := a) (x := x) (y := y) (z := z) (w := W))
  go_enter Tryd.func58, Tryd.ntmps58
  go_wp2_with fail
  go_quiet (fail)
  by_cases b0 : d < 0 ∨ 100000 < d
  · have HF : Hid (plrF d s r f i 3 l t lo hi a x y z = 1) := hide (by unfold plrF; rw [if_pos (by omega)])
    go_wp2_with (first | ((go_at_call 24; with_reducible refine (out_no ?_ _).mono ?_); (focus omega); rintro e w' ⟨rfl, rfl⟩) | ((go_at_call 24; with_reducible refine (out_yes ?_ _).mono ?_); (focus omega); rintro e w' ⟨rfl, rfl⟩))
    go_ret
    exact ⟨ret_int HF.out.symm, (by repeat' (first | (with_reducible first | exact Below.refl _ _ | assumption | refine below_drewN ?_ _ | refine Below.drew ?_ | refine ext_alloc ?_ _ | refine Below.setCell ?_ ?_ _) | go_size))⟩
  by_cases b1 : s < 1 ∨ 1000000000 < s
  · have HF : Hid (plrF d s r f i 3 l t lo hi a x y z = 1) := hide (by unfold plrF; rw [if_pos (by omega)])
    go_wp2_with (first | ((go_at_call 24; with_reducible refine (out_no ?_ _).mono ?_); (focus omega); rintro e w' ⟨rfl, rfl⟩) | ((go_at_call 24; with_reducible refine (out_yes ?_ _).mono ?_); (focus omega); rintro e w' ⟨rfl, rfl⟩))
    go_ret
    exact ⟨ret_int HF.out.symm, (by repeat' (first | (with_reducible first | exact Below.refl _ _ | assumption | refine below_drewN ?_ _ | refine Below.drew ?_ | refine ext_alloc ?_ _ | refine Below.setCell ?_ ?_ _) | go_size))⟩
  by_cases b2 : r < 1 ∨ 1000000000 < r
  · have HF : Hid (plrF d s r f i 3 l t lo hi a x y z = 1) := hide (by unfold plrF; rw [if_pos (by omega)])
    go_wp2_with (first | ((go_at_call 24; with_reducible refine (out_no ?_ _).mono ?_); (focus omega); rintro e w' ⟨rfl, rfl⟩) | ((go_at_call 24; with_reducible refine (out_yes ?_ _).mono ?_); (focus omega); rintro e w' ⟨rfl, rfl⟩))
    go_ret
    exact ⟨ret_int HF.out.symm, (by repeat' (first | (with_reducible first | exact Below.refl _ _ | assumption | refine below_drewN ?_ _ | refine Below.drew ?_ | refine ext_alloc ?_ _ | refine Below.setCell ?_ ?_ _) | go_size))⟩
  by_cases b3 : f < 1 ∨ 1000000000 < f
  · have HF : Hid (plrF d s r f i 3 l t lo hi a x y z = 1) := hide (by unfold plrF; rw [if_pos (by omega)])
    go_wp2_with (first | ((go_at_call 24; with_reducible refine (out_no ?_ _).mono ?_); (focus omega); rintro e w' ⟨rfl, rfl⟩) | ((go_at_call 24; with_reducible refine (out_yes ?_ _).mono ?_); (focus omega); rintro e w' ⟨rfl, rfl⟩))
    go_ret
    exact ⟨ret_int HF.out.symm, (by repeat' (first | (with_reducible first | exact Below.refl _ _ | assumption | refine below_drewN ?_ _ | refine Below.drew ?_ | refine ext_alloc ?_ _ | refine Below.setCell ?_ ?_ _) | go_size))⟩
  by_cases b4 : i < 0 ∨ 19 < i
  · have HF : Hid (plrF d s r f i 3 l t lo hi a x y z = 1) := hide (by unfold plrF; rw [if_pos (by omega)])
    go_wp2_with (first | ((go_at_call 24; with_reducible refine (out_no ?_ _).mono ?_); (focus omega); rintro e w' ⟨rfl, rfl⟩) | ((go_at_call 24; with_reducible refine (out_yes ?_ _).mono ?_); (focus omega); rintro e w' ⟨rfl, rfl⟩))
    go_ret
    exact ⟨ret_int HF.out.symm, (by repeat' (first | (with_reducible first | exact Below.refl _ _ | assumption | refine below_drewN ?_ _ | refine Below.drew ?_ | refine ext_alloc ?_ _ | refine Below.setCell ?_ ?_ _) | go_size))⟩
  have hnr : ¬(d < 0 ∨ 100000 < d ∨ s < 1 ∨ 1000000000 < s ∨ r < 1 ∨ 1000000000 < r ∨ f < 1 ∨ 1000000000 < f ∨ i < 0 ∨ 19 < i) := by omega
  have HNR := hide hnr
  go_wp2_with (first | ((go_at_call 24; with_reducible refine (out_no ?_ _).mono ?_); (focus omega); rintro e w' ⟨rfl, rfl⟩) | ((go_at_call 24; with_reducible refine (out_yes ?_ _).mono ?_); (focus omega); rintro e w' ⟨rfl, rfl⟩))
  refine (HUC.out _).mono ?_
  rintro e w8 ⟨rfl, e8⟩
  have hw8 : Ext w w8 := Ext.trans (by repeat' (first | (with_reducible first | exact Below.refl _ _ | assumption | refine below_drewN ?_ _ | refine Below.drew ?_ | refine ext_alloc ?_ _ | refine Below.setCell ?_ ?_ _) | go_size)) e8
  obtain ⟨c5, c6, c7, c8, c9, c10, c11, c12, c13⟩ := HCL.out w8 (Ext.trans (by repeat' (first | (with_reducible first | exact Below.refl _ _ | assumption | refine below_drewN ?_ _ | refine Below.drew ?_ | refine ext_alloc ?_ _ | refine Below.setCell ?_ ?_ _) | go_size)) e8)
  clear e8 hnr b0 b1 b2 b3 b4
  by_cases hu : unuB 3 l t lo hi a x y z = true
  · have HF : Hid (plrF d s r f i 3 l t lo hi a x y z = 3) := hide (by unfold plrF; rw [if_neg HNR.out, if_neg (by omega), if_pos hu])
    rw [hu]
    go_wp2_with (first | ((go_at_call 24; with_reducible refine (out_no ?_ _).mono ?_); (focus omega); rintro e w' ⟨rfl, rfl⟩) | ((go_at_call 24; with_reducible refine (out_yes ?_ _).mono ?_); (focus omega); rintro e w' ⟨rfl, rfl⟩))
    go_ret
    exact ⟨ret_int HF.out.symm, hw8⟩
  have hu' : unuB 3 l t lo hi a x y z = false := by simpa using hu
  have HN := hide hu
  rw [hu']
  clear hu hu'
  by_cases g1 : lo < 0 ∨ 1000000000 < lo
  · have HF : Hid (plrF d s r f i 3 l t lo hi a x y z = 1) := hide (by unfold plrF; rw [if_neg HNR.out, if_neg (by omega), if_neg HN.out, if_pos (by omega)])
    go_wp2_with (first | ((go_at_call 24; with_reducible refine (out_no ?_ _).mono ?_); (focus omega); rintro e w' ⟨rfl, rfl⟩) | ((go_at_call 24; with_reducible refine (out_yes ?_ _).mono ?_); (focus omega); rintro e w' ⟨rfl, rfl⟩))
    go_ret
    exact ⟨ret_int HF.out.symm, hw8⟩
  by_cases g2 : hi < 1 ∨ 1000000000 < hi
  · have HF : Hid (plrF d s r f i 3 l t lo hi a x y z = 1) := hide (by unfold plrF; rw [if_neg HNR.out, if_neg (by omega), if_neg HN.out, if_pos (by omega)])
    go_wp2_with (first | ((go_at_call 24; with_reducible refine (out_no ?_ _).mono ?_); (focus omega); rintro e w' ⟨rfl, rfl⟩) | ((go_at_call 24; with_reducible refine (out_yes ?_ _).mono ?_); (focus omega); rintro e w' ⟨rfl, rfl⟩))
    go_ret
    exact ⟨ret_int HF.out.symm, hw8⟩
  by_cases g3 : hi ≤ lo
  · have HF : Hid (plrF d s r f i 3 l t lo hi a x y z = 8) := hide (by unfold plrF; rw [if_neg HNR.out, if_neg (by omega), if_neg HN.out, if_neg (by omega), if_pos (by omega)])
    go_wp2_with (first | ((go_at_call 24; with_reducible refine (out_no ?_ _).mono ?_); (focus omega); rintro e w' ⟨rfl, rfl⟩) | ((go_at_call 24; with_reducible refine (out_yes ?_ _).mono ?_); (focus omega); rintro e w' ⟨rfl, rfl⟩))
    go_ret
    exact ⟨ret_int HF.out.symm, hw8⟩
  have HF : Hid (plrF d s r f i 3 l t lo hi a x y z = 0) := hide (by unfold plrF; rw [if_neg HNR.out, if_neg (by omega), if_neg HN.out, if_neg (by omega), if_neg (by omega), if_neg (by omega), if_neg (by omega)])
  go_wp2_with (first | ((go_at_call 24; with_reducible refine (out_no ?_ _).mono ?_); (focus omega); rintro e w' ⟨rfl, rfl⟩) | ((go_at_call 24; with_reducible refine (out_yes ?_ _).mono ?_); (focus omega); rintro e w' ⟨rfl, rfl⟩))
  go_ret
  exact ⟨ret_int HF.out.symm, hw8⟩
set_option maxRecDepth 100000 in
set_option maxHeartbeats 8000000 in
theorem keyPlr_4 {d s r f i l t lo hi a x y z : Int} {w : World} :
    Calls Tryd.prog 58 #[plV d s r f i 4 l t lo hi a x y z] w fun e w' => e = .returned (.int .i64 (plrF d s r f i 4 l t lo hi a x y z)) ∧ Ext w w' := by
  have HCL := hide (fun (W : World) (hW : Ext (w.alloc (.cells #[.int .i64 d, .int .i64 s, .int .i64 r, .int .i64 f, .int .i64 i, .int .i64 4, .int .i64 l, .int .i64 t, .int .i64 lo, .int .i64 hi, .int .i64 a, .int .i64 x, .int .i64 y, .int .i64 z] 29)) W) =>
    show W.cell? ⟨w.heap.size, 5, none⟩ = some (.int .i64 4) ∧ W.cell? ⟨w.heap.size, 6, none⟩ = some (.int .i64 l) ∧ W.cell? ⟨w.heap.size, 7, none⟩ = some (.int .i64 t) ∧ W.cell? ⟨w.heap.size, 8, none⟩ = some (.int .i64 lo) ∧ W.cell? ⟨w.heap.size, 9, none⟩ = some (.int .i64 hi) ∧ W.cell? ⟨w.heap.size, 10, none⟩ = some (.int .i64 a) ∧ W.cell? ⟨w.heap.size, 11, none⟩ = some (.int .i64 x) ∧ W.cell? ⟨w.heap.size, 12, none⟩ = some (.int .i64 y) ∧ W.cell? ⟨w.heap.size, 13, none⟩ = some (.int .i64 z) from by
      have b1 := (Blk.new w 29 #[.int .i64 d, .int .i64 s, .int .i64 r, .int .i64 f, .int .i64 i, .int .i64 4, .int .i64 l, .int .i64 t, .int .i64 lo, .int .i64 hi, .int .i64 a, .int .i64 x, .int .i64 y, .int .i64 z]).ext hW
      exact ⟨b1.cell 5, b1.cell 6, b1.cell 7, b1.cell 8, b1.cell 9, b1.cell 10, b1.cell 11, b1.cell 12, b1.cell 13⟩)
  have HUC := hide (fun (W : World) => unused_any (d := d) (s := s) (r := r) (f := f) (i := i) (k := 4) (l := l) (t := t) (lo := lo) (hi := hi) (a := a) (x := x) (y := y) (z := z) (w := W))
  go_enter Tryd.func58, Tryd.ntmps58
  go_wp2_with fail
  go_quiet (fail)
  by_cases b0 : d < 0 ∨ 100000 < d
  · have HF : Hid (plrF d s r f i 4 l t lo hi a x y z = 1) := hide (by unfold plrF; rw [if_pos (by omega)])
    go_wp2_with (first | ((go_at_call 24; with_reducible refine (out_no ?_ _).mono ?_); (focus omega); rintro e w' ⟨rfl, rfl⟩) | ((go_at_call 24; with_reducible refine (out_yes ?_ _).mono ?_); (focus omega); rintro e w' ⟨rfl, rfl⟩))
    go_ret
    exact ⟨ret_int HF.out.symm, (by repeat' (first | (with_reducible first | exact Below.refl _ _ | assumption | refine below_drewN ?_ _ | refine Below.drew ?_ | refine ext_alloc ?_ _ | refine Below.setCell ?_ ?_ _) | go_size))⟩
  by_cases b1 : s < 1 ∨ 1000000000 < s
  · have HF : Hid (plrF d s r f i 4 l t lo hi a x y z = 1) := hide (by unfold plrF; rw [if_pos (by omega)])
    go_wp2_with (first | ((go_at_call 24; with_reducible refine (out_no ?_ _).mono ?_); (focus omega); rintro e w' ⟨rfl, rfl⟩) | ((go_at_call 24; with_reducible refine (out_yes ?_ _).mono ?_); (focus omega); rintro e w' ⟨rfl, rfl⟩))
    go_ret
    exact ⟨ret_int HF.out.symm, (by repeat' (first | (with_reducible first | exact Below.refl _ _ | assumption | refine below_drewN ?_ _ | refine Below.drew ?_ | refine ext_alloc ?_ _ | refine Below.setCell ?_ ?_ _) | go_size))⟩
  by_cases b2 : r < 1 ∨ 1000000000 < r
  · have HF : Hid (plrF d s r f i 4 l t lo hi a x y z = 1) := hide (by unfold plrF; rw [if_pos (by omega)])
    go_wp2_with (first | ((go_at_call 24; with_reducible refine (out_no ?_ _).mono ?_); (focus omega); rintro e w' ⟨rfl, rfl⟩) | ((go_at_call 24; with_reducible refine (out_yes ?_ _).mono ?_); (focus omega); rintro e w' ⟨rfl, rfl⟩))
    go_ret
    exact ⟨ret_int HF.out.symm, (by repeat' (first | (with_reducible first | exact Below.refl _ _ | assumption | refine below_drewN ?_ _ | refine Below.drew ?_ | refine ext_alloc ?_ _ | refine Below.setCell ?_ ?_ _) | go_size))⟩
  by_cases b3 : f < 1 ∨ 1000000000 < f
  · have HF : Hid (plrF d s r f i 4 l t lo hi a x y z = 1) := hide (by unfold plrF; rw [if_pos (by omega)])
    go_wp2_with (first | ((go_at_call 24; with_reducible refine (out_no ?_ _).mono ?_); (focus omega); rintro e w' ⟨rfl, rfl⟩) | ((go_at_call 24; with_reducible refine (out_yes ?_ _).mono ?_); (focus omega); rintro e w' ⟨rfl, rfl⟩))
    go_ret
    exact ⟨ret_int HF.out.symm, (by repeat' (first | (with_reducible first | exact Below.refl _ _ | assumption | refine below_drewN ?_ _ | refine Below.drew ?_ | refine ext_alloc ?_ _ | refine Below.setCell ?_ ?_ _) | go_size))⟩
  by_cases b4 : i < 0 ∨ 19 < i
  · have HF : Hid (plrF d s r f i 4 l t lo hi a x y z = 1) := hide (by unfold plrF; rw [if_pos (by omega)])
    go_wp2_with (first | ((go_at_call 24; with_reducible refine (out_no ?_ _).mono ?_); (focus omega); rintro e w' ⟨rfl, rfl⟩) | ((go_at_call 24; with_reducible refine (out_yes ?_ _).mono ?_); (focus omega); rintro e w' ⟨rfl, rfl⟩))
    go_ret
    exact ⟨ret_int HF.out.symm, (by repeat' (first | (with_reducible first | exact Below.refl _ _ | assumption | refine below_drewN ?_ _ | refine Below.drew ?_ | refine ext_alloc ?_ _ | refine Below.setCell ?_ ?_ _) | go_size))⟩
  have hnr : ¬(d < 0 ∨ 100000 < d ∨ s < 1 ∨ 1000000000 < s ∨ r < 1 ∨ 1000000000 < r ∨ f < 1 ∨ 1000000000 < f ∨ i < 0 ∨ 19 < i) := by omega
  have HNR := hide hnr
  go_wp2_with (first | ((go_at_call 24; with_reducible refine (out_no ?_ _).mono ?_); (focus omega); rintro e w' ⟨rfl, rfl⟩) | ((go_at_call 24; with_reducible refine (out_yes ?_ _).mono ?_); (focus omega); rintro e w' ⟨rfl, rfl⟩))
  refine (HUC.out _).mono ?_
  rintro e w8 ⟨rfl, e8⟩
  have hw8 : Ext w w8 := Ext.trans (by repeat' (first | (with_reducible first | exact Below.refl _ _ | assumption | refine below_drewN ?_ _ | refine Below.drew ?_ | refine ext_alloc ?_ _ | refine Below.setCell ?_ ?_ _) | go_size)) e8
  obtain ⟨c5, c6, c7, c8, c9, c10, c11, c12, c13⟩ := HCL.out w8 (Ext.trans (by repeat' (first | (with_reducible first | exact Below.refl _ _ | assumption | refine below_drewN ?_ _ | refine Below.drew ?_ | refine ext_alloc ?_ _ | refine Below.setCell ?_ ?_ _) | go_size)) e8)
  clear e8 hnr b0 b1 b2 b3 b4
  by_cases hu : unuB 4 l t lo hi a x y z = true
  · have HF : Hid (plrF d s r f i 4 l t lo hi a x y z = 3) := hide (by unfold plrF; rw [if_neg HNR.out, if_neg (by omega), if_pos hu])
    rw [hu]
    go_wp2_with (first | ((go_at_call 24; with_reducible refine (out_no ?_ _).mono ?_); (focus omega); rintro e w' ⟨rfl, rfl⟩) | ((go_at_call 24; with_reducible refine (out_yes ?_ _).mono ?_); (focus omega); rintro e w' ⟨rfl, rfl⟩))
    go_ret
    exact ⟨ret_int HF.out.symm, hw8⟩
  have hu' : unuB 4 l t lo hi a x y z = false := by simpa using hu
  have HN := hide hu
  rw [hu']
  clear hu hu'
  by_cases g1 : l < 1 ∨ 100 < l
  · have HF : Hid (plrF d s r f i 4 l t lo hi a x y z = 1) := hide (by unfold plrF; rw [if_neg HNR.out, if_neg (by omega), if_neg HN.out, if_pos (by omega)])
    go_wp2_with (first | ((go_at_call 24; with_reducible refine (out_no ?_ _).mono ?_); (focus omega); rintro e w' ⟨rfl, rfl⟩) | ((go_at_call 24; with_reducible refine (out_yes ?_ _).mono ?_); (focus omega); rintro e w' ⟨rfl, rfl⟩))
    go_ret
    exact ⟨ret_int HF.out.symm, hw8⟩
  by_cases g2 : t < 1 ∨ 10000 < t
  · have HF : Hid (plrF d s r f i 4 l t lo hi a x y z = 1) := hide (by unfold plrF; rw [if_neg HNR.out, if_neg (by omega), if_neg HN.out, if_pos (by omega)])
    go_wp2_with (first | ((go_at_call 24; with_reducible refine (out_no ?_ _).mono ?_); (focus omega); rintro e w' ⟨rfl, rfl⟩) | ((go_at_call 24; with_reducible refine (out_yes ?_ _).mono ?_); (focus omega); rintro e w' ⟨rfl, rfl⟩))
    go_ret
    exact ⟨ret_int HF.out.symm, hw8⟩
  by_cases g3 : a < 1 ∨ 6 < a
  · have HF : Hid (plrF d s r f i 4 l t lo hi a x y z = 1) := hide (by unfold plrF; rw [if_neg HNR.out, if_neg (by omega), if_neg HN.out, if_neg (by omega), if_neg (by omega), if_pos (by omega)])
    go_wp2_with (first | ((go_at_call 24; with_reducible refine (out_no ?_ _).mono ?_); (focus omega); rintro e w' ⟨rfl, rfl⟩) | ((go_at_call 24; with_reducible refine (out_yes ?_ _).mono ?_); (focus omega); rintro e w' ⟨rfl, rfl⟩))
    go_ret
    exact ⟨ret_int HF.out.symm, hw8⟩
  have HF : Hid (plrF d s r f i 4 l t lo hi a x y z = wtsF x y z) := hide (by unfold plrF; rw [if_neg HNR.out, if_neg (by omega), if_neg HN.out, if_neg (by omega), if_neg (by omega), if_neg (by omega), if_pos rfl])
  go_wp2_with (first | ((go_at_call 24; with_reducible refine (out_no ?_ _).mono ?_); (focus omega); rintro e w' ⟨rfl, rfl⟩) | ((go_at_call 24; with_reducible refine (out_yes ?_ _).mono ?_); (focus omega); rintro e w' ⟨rfl, rfl⟩))
  refine keyWts_any.mono ?_
  rintro e w9 ⟨rfl, e9⟩
  have hw9 := Ext.trans hw8 e9
  clear e9
  go_wp2
  go_ret
  exact ⟨ret_int HF.out.symm, hw9⟩
theorem keyPlr_any {d s r f i k l t lo hi a x y z : Int} {w : World} :
    Calls Tryd.prog 58 #[plV d s r f i k l t lo hi a x y z] w fun e w' => e = .returned (.int .i64 (plrF d s r f i k l t lo hi a x y z)) ∧ Ext w w' := by
  by_cases h2 : k = 2
  · subst h2; exact keyPlr_2
  by_cases h3 : k = 3
  · subst h3; exact keyPlr_3
  by_cases h4 : k = 4
  · subst h4; exact keyPlr_4
  exact keyPlr_0 h2 h3 h4
end Go.Proofs.YtfelgolfebhmkaaDoor
