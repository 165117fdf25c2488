/- Walk: R11.CheckPlayer. Conditions: none. -/
import Derived.Test.YtjbgkoeojfmkkaaFilmC
import Derived.Test.YtjbgkoeojfmkkaaFilmD
namespace Go.Proofs.Ytjbgkoeojfmkkaa
open Go.RowKit
set_option maxRecDepth 100000 in
set_option maxHeartbeats 4000000 in
theorem refPlr_bad {d s r f i k l t lo hi a x y z : Int} {w : World} (hb : d < 0 ∨ 100000 < d ∨ s < 1 ∨ 1000000000 < s ∨ r < 1 ∨ 1000000000 < r ∨ f < 1 ∨ 1000000000 < f ∨ i < 0 ∨ 19 < i) :
    Calls Try.prog 70 #[plV d s r f i k l t lo hi a x y z] w fun e w' => e = .returned (.int .i64 (plrF d s r f i k l t lo hi a x y z)) ∧ Ext w w' := by
  go_enter Try.func70, Try.ntmps70
  go_wp2_with fail
  have HB := hide hb
  clear hb
  by_cases b0 : d < 0 ∨ 100000 < d
  · have HF : Hid (plrF d s r f i k l t lo hi a x y z = 1) := hide (by unfold plrF; rw [if_pos HB.out])
    go_wp2_with (first | ((go_at_call 41; with_reducible refine (within_yes ?_ _).mono ?_); (focus omega); rintro e w' ⟨rfl, rfl⟩) | ((go_at_call 41; with_reducible refine (within_no ?_ _).mono ?_); (focus omega); rintro e w' ⟨rfl, rfl⟩))
    go_ret
    exact ⟨ret_int HF.out.symm, (by repeat' (first | (with_reducible exact Below.refl _ _) | (with_reducible assumption) | (with_reducible refine below_drewN ?_ _) | (with_reducible refine Below.drew ?_) | (with_reducible refine ext_alloc ?_ _) | (with_reducible refine Below.setCell ?_ ?_ _) | go_size))⟩
  by_cases b1 : s < 1 ∨ 1000000000 < s
  · have HF : Hid (plrF d s r f i k l t lo hi a x y z = 1) := hide (by unfold plrF; rw [if_pos HB.out])
    go_wp2_with (first | ((go_at_call 41; with_reducible refine (within_yes ?_ _).mono ?_); (focus omega); rintro e w' ⟨rfl, rfl⟩) | ((go_at_call 41; with_reducible refine (within_no ?_ _).mono ?_); (focus omega); rintro e w' ⟨rfl, rfl⟩))
    go_ret
    exact ⟨ret_int HF.out.symm, (by repeat' (first | (with_reducible exact Below.refl _ _) | (with_reducible assumption) | (with_reducible refine below_drewN ?_ _) | (with_reducible refine Below.drew ?_) | (with_reducible refine ext_alloc ?_ _) | (with_reducible refine Below.setCell ?_ ?_ _) | go_size))⟩
  by_cases b2 : r < 1 ∨ 1000000000 < r
  · have HF : Hid (plrF d s r f i k l t lo hi a x y z = 1) := hide (by unfold plrF; rw [if_pos HB.out])
    go_wp2_with (first | ((go_at_call 41; with_reducible refine (within_yes ?_ _).mono ?_); (focus omega); rintro e w' ⟨rfl, rfl⟩) | ((go_at_call 41; with_reducible refine (within_no ?_ _).mono ?_); (focus omega); rintro e w' ⟨rfl, rfl⟩))
    go_ret
    exact ⟨ret_int HF.out.symm, (by repeat' (first | (with_reducible exact Below.refl _ _) | (with_reducible assumption) | (with_reducible refine below_drewN ?_ _) | (with_reducible refine Below.drew ?_) | (with_reducible refine ext_alloc ?_ _) | (with_reducible refine Below.setCell ?_ ?_ _) | go_size))⟩
  by_cases b3 : f < 1 ∨ 1000000000 < f
  · have HF : Hid (plrF d s r f i k l t lo hi a x y z = 1) := hide (by unfold plrF; rw [if_pos HB.out])
    go_wp2_with (first | ((go_at_call 41; with_reducible refine (within_yes ?_ _).mono ?_); (focus omega); rintro e w' ⟨rfl, rfl⟩) | ((go_at_call 41; with_reducible refine (within_no ?_ _).mono ?_); (focus omega); rintro e w' ⟨rfl, rfl⟩))
    go_ret
    exact ⟨ret_int HF.out.symm, (by repeat' (first | (with_reducible exact Below.refl _ _) | (with_reducible assumption) | (with_reducible refine below_drewN ?_ _) | (with_reducible refine Below.drew ?_) | (with_reducible refine ext_alloc ?_ _) | (with_reducible refine Below.setCell ?_ ?_ _) | go_size))⟩
  by_cases b4 : i < 0 ∨ 19 < i
  · have HF : Hid (plrF d s r f i k l t lo hi a x y z = 1) := hide (by unfold plrF; rw [if_pos HB.out])
    go_wp2_with (first | ((go_at_call 41; with_reducible refine (within_yes ?_ _).mono ?_); (focus omega); rintro e w' ⟨rfl, rfl⟩) | ((go_at_call 41; with_reducible refine (within_no ?_ _).mono ?_); (focus omega); rintro e w' ⟨rfl, rfl⟩))
    go_ret
    exact ⟨ret_int HF.out.symm, (by repeat' (first | (with_reducible exact Below.refl _ _) | (with_reducible assumption) | (with_reducible refine below_drewN ?_ _) | (with_reducible refine Below.drew ?_) | (with_reducible refine ext_alloc ?_ _) | (with_reducible refine Below.setCell ?_ ?_ _) | go_size))⟩
  exact absurd HB.out (by omega)
set_option maxRecDepth 100000 in
set_option maxHeartbeats 4000000 in
theorem refPlr_kind {d s r f i k l t lo hi a x y z : Int} {w : World} (hn : ¬(d < 0 ∨ 100000 < d ∨ s < 1 ∨ 1000000000 < s ∨ r < 1 ∨ 1000000000 < r ∨ f < 1 ∨ 1000000000 < f ∨ i < 0 ∨ 19 < i)) (hk : k < 1 ∨ 4 < k) :
    Calls Try.prog 70 #[plV d s r f i k l t lo hi a x y z] w fun e w' => e = .returned (.int .i64 (plrF d s r f i k l t lo hi a x y z)) ∧ Ext w w' := by
  have HF : Hid (plrF d s r f i k l t lo hi a x y z = 4) := hide (by unfold plrF; rw [if_neg hn, if_pos hk])
  go_enter Try.func70, Try.ntmps70
  go_wp2_with (first | ((go_at_call 41; with_reducible refine (within_yes ?_ _).mono ?_); (focus omega); rintro e w' ⟨rfl, rfl⟩) | ((go_at_call 41; with_reducible refine (within_no ?_ _).mono ?_); (focus omega); rintro e w' ⟨rfl, rfl⟩))
  go_ret
  exact ⟨ret_int HF.out.symm, (by repeat' (first | (with_reducible exact Below.refl _ _) | (with_reducible assumption) | (with_reducible refine below_drewN ?_ _) | (with_reducible refine Below.drew ?_) | (with_reducible refine ext_alloc ?_ _) | (with_reducible refine Below.setCell ?_ ?_ _) | go_size))⟩
set_option maxRecDepth 100000 in
set_option maxHeartbeats 4000000 in
theorem refPlr_1l {d s r f i l t lo hi a x y z : Int} {w : World} (hn : ¬(d < 0 ∨ 100000 < d ∨ s < 1 ∨ 1000000000 < s ∨ r < 1 ∨ 1000000000 < r ∨ f < 1 ∨ 1000000000 < f ∨ i < 0 ∨ 19 < i)) (hu : ¬ (0 : Int) = l) :
    Calls Try.prog 70 #[plV d s r f i 1 l t lo hi a x y z] w fun e w' => e = .returned (.int .i64 (plrF d s r f i 1 l t lo hi a x y z)) ∧ Ext w w' := by
  have hq : unuB 1 l t lo hi a x y z = true := by unfold unuB; rw [if_neg (by decide), if_neg (by decide), if_neg (by decide)]; exact decide_eq_true (by omega)
  have HF : Hid (plrF d s r f i 1 l t lo hi a x y z = 3) := hide (by unfold plrF; rw [if_neg hn, if_neg (by omega), if_pos hq])
  have n2 : ((0 : Int) == l) = false := by simpa using hu
  clear hq
  have HCL := hide (fun (W : World) (hW : Ext (w.alloc (.cells #[.int .i64 d, .int .i64 s, .int .i64 r, .int .i64 f, .int .i64 i, .int .i64 1, .int .i64 l, .int .i64 t, .int .i64 lo, .int .i64 hi, .int .i64 a, .int .i64 x, .int .i64 y, .int .i64 z] 30)) W) =>
    show W.cell? ⟨w.heap.size, 0, none⟩ = some (.int .i64 d) ∧ W.cell? ⟨w.heap.size, 1, none⟩ = some (.int .i64 s) ∧ W.cell? ⟨w.heap.size, 2, none⟩ = some (.int .i64 r) ∧ W.cell? ⟨w.heap.size, 3, none⟩ = some (.int .i64 f) ∧ W.cell? ⟨w.heap.size, 4, none⟩ = some (.int .i64 i) ∧ W.cell? ⟨w.heap.size, 5, none⟩ = some (.int .i64 1) ∧ W.cell? ⟨w.heap.size, 6, none⟩ = some (.int .i64 l) ∧ W.cell? ⟨w.heap.size, 7, none⟩ = some (.int .i64 t) ∧ W.cell? ⟨w.heap.size, 8, none⟩ = some (.int .i64 lo) ∧ W.cell? ⟨w.heap.size, 9, none⟩ = some (.int .i64 hi) ∧ W.cell? ⟨w.heap.size, 10, none⟩ = some (.int .i64 a) ∧ W.cell? ⟨w.heap.size, 11, none⟩ = some (.int .i64 x) ∧ W.cell? ⟨w.heap.size, 12, none⟩ = some (.int .i64 y) ∧ W.cell? ⟨w.heap.size, 13, none⟩ = some (.int .i64 z) from by
      have b1 := (Blk.new w 30 #[.int .i64 d, .int .i64 s, .int .i64 r, .int .i64 f, .int .i64 i, .int .i64 1, .int .i64 l, .int .i64 t, .int .i64 lo, .int .i64 hi, .int .i64 a, .int .i64 x, .int .i64 y, .int .i64 z]).ext hW
      exact ⟨b1.cell 0, b1.cell 1, b1.cell 2, b1.cell 3, b1.cell 4, b1.cell 5, b1.cell 6, b1.cell 7, b1.cell 8, b1.cell 9, b1.cell 10, b1.cell 11, b1.cell 12, b1.cell 13⟩)
  have HUC := hide (fun (W : World) => used_0 (d := d) (s := s) (r := r) (f := f) (i := i) (k := 1) (l := l) (t := t) (lo := lo) (hi := hi) (a := a) (x := x) (y := y) (z := z) (w := W) (by decide) (by decide) (by decide))
  go_enter Try.func70, Try.ntmps70
  go_wp2_with (first | ((go_at_call 41; with_reducible refine (within_yes ?_ _).mono ?_); (focus omega); rintro e w' ⟨rfl, rfl⟩) | ((go_at_call 41; with_reducible refine (within_no ?_ _).mono ?_); (focus omega); rintro e w' ⟨rfl, rfl⟩))
  have EX := Ext.drew (w.alloc (.cells #[.int .i64 d, .int .i64 s, .int .i64 r, .int .i64 f, .int .i64 i, .int .i64 1, .int .i64 l, .int .i64 t, .int .i64 lo, .int .i64 hi, .int .i64 a, .int .i64 x, .int .i64 y, .int .i64 z] 30))
  go_region_held3 (fun w' => w'.cell? ⟨w.heap.size, 0, none⟩ = some (.int .i64 d) ∧ w'.cell? ⟨w.heap.size, 1, none⟩ = some (.int .i64 s) ∧ w'.cell? ⟨w.heap.size, 2, none⟩ = some (.int .i64 r) ∧ w'.cell? ⟨w.heap.size, 3, none⟩ = some (.int .i64 f) ∧ w'.cell? ⟨w.heap.size, 4, none⟩ = some (.int .i64 i) ∧ w'.cell? ⟨w.heap.size, 5, none⟩ = some (.int .i64 1) ∧ w'.cell? ⟨w.heap.size, 6, none⟩ = some (.int .i64 l) ∧ w'.cell? ⟨w.heap.size, 7, none⟩ = some (.int .i64 t) ∧ w'.cell? ⟨w.heap.size, 8, none⟩ = some (.int .i64 lo) ∧ w'.cell? ⟨w.heap.size, 9, none⟩ = some (.int .i64 hi) ∧ w'.cell? ⟨w.heap.size, 10, none⟩ = some (.int .i64 a) ∧ w'.cell? ⟨w.heap.size, 11, none⟩ = some (.int .i64 x) ∧ w'.cell? ⟨w.heap.size, 12, none⟩ = some (.int .i64 y) ∧ w'.cell? ⟨w.heap.size, 13, none⟩ = some (.int .i64 z)) (first | go_keep | exact HCL.out _ EX) (first | ((go_at_call 84; with_reducible refine (HUC.out _).mono ?_); rintro e w8 ⟨rfl, e8⟩; have EX := Ext.trans EX e8))
  have EX9 := Ext.trans (Ext.alloc w (.cells #[.int .i64 d, .int .i64 s, .int .i64 r, .int .i64 f, .int .i64 i, .int .i64 1, .int .i64 l, .int .i64 t, .int .i64 lo, .int .i64 hi, .int .i64 a, .int .i64 x, .int .i64 y, .int .i64 z] 30)) EX
  clear EX
  go_wp2
  go_ret
  exact ⟨ret_int HF.out.symm, EX9⟩
set_option maxRecDepth 100000 in
set_option maxHeartbeats 4000000 in
theorem refPlr_1t {d s r f i t lo hi a x y z : Int} {w : World} (hn : ¬(d < 0 ∨ 100000 < d ∨ s < 1 ∨ 1000000000 < s ∨ r < 1 ∨ 1000000000 < r ∨ f < 1 ∨ 1000000000 < f ∨ i < 0 ∨ 19 < i)) (hu : ¬ (0 : Int) = t) :
    Calls Try.prog 70 #[plV d s r f i 1 0 t lo hi a x y z] w fun e w' => e = .returned (.int .i64 (plrF d s r f i 1 0 t lo hi a x y z)) ∧ Ext w w' := by
  have hq : unuB 1 0 t lo hi a x y z = true := by unfold unuB; rw [if_neg (by decide), if_neg (by decide), if_neg (by decide)]; exact decide_eq_true (by omega)
  have HF : Hid (plrF d s r f i 1 0 t lo hi a x y z = 3) := hide (by unfold plrF; rw [if_neg hn, if_neg (by omega), if_pos hq])
  have n2 : ((0 : Int) == t) = false := by simpa using hu
  clear hq
  have HCL := hide (fun (W : World) (hW : Ext (w.alloc (.cells #[.int .i64 d, .int .i64 s, .int .i64 r, .int .i64 f, .int .i64 i, .int .i64 1, .int .i64 0, .int .i64 t, .int .i64 lo, .int .i64 hi, .int .i64 a, .int .i64 x, .int .i64 y, .int .i64 z] 30)) W) =>
    show W.cell? ⟨w.heap.size, 0, none⟩ = some (.int .i64 d) ∧ W.cell? ⟨w.heap.size, 1, none⟩ = some (.int .i64 s) ∧ W.cell? ⟨w.heap.size, 2, none⟩ = some (.int .i64 r) ∧ W.cell? ⟨w.heap.size, 3, none⟩ = some (.int .i64 f) ∧ W.cell? ⟨w.heap.size, 4, none⟩ = some (.int .i64 i) ∧ W.cell? ⟨w.heap.size, 5, none⟩ = some (.int .i64 1) ∧ W.cell? ⟨w.heap.size, 6, none⟩ = some (.int .i64 0) ∧ W.cell? ⟨w.heap.size, 7, none⟩ = some (.int .i64 t) ∧ W.cell? ⟨w.heap.size, 8, none⟩ = some (.int .i64 lo) ∧ W.cell? ⟨w.heap.size, 9, none⟩ = some (.int .i64 hi) ∧ W.cell? ⟨w.heap.size, 10, none⟩ = some (.int .i64 a) ∧ W.cell? ⟨w.heap.size, 11, none⟩ = some (.int .i64 x) ∧ W.cell? ⟨w.heap.size, 12, none⟩ = some (.int .i64 y) ∧ W.cell? ⟨w.heap.size, 13, none⟩ = some (.int .i64 z) from by
      have b1 := (Blk.new w 30 #[.int .i64 d, .int .i64 s, .int .i64 r, .int .i64 f, .int .i64 i, .int .i64 1, .int .i64 0, .int .i64 t, .int .i64 lo, .int .i64 hi, .int .i64 a, .int .i64 x, .int .i64 y, .int .i64 z]).ext hW
      exact ⟨b1.cell 0, b1.cell 1, b1.cell 2, b1.cell 3, b1.cell 4, b1.cell 5, b1.cell 6, b1.cell 7, b1.cell 8, b1.cell 9, b1.cell 10, b1.cell 11, b1.cell 12, b1.cell 13⟩)
  have HUC := hide (fun (W : World) => used_0 (d := d) (s := s) (r := r) (f := f) (i := i) (k := 1) (l := 0) (t := t) (lo := lo) (hi := hi) (a := a) (x := x) (y := y) (z := z) (w := W) (by decide) (by decide) (by decide))
  go_enter Try.func70, Try.ntmps70
  go_wp2_with (first | ((go_at_call 41; with_reducible refine (within_yes ?_ _).mono ?_); (focus omega); rintro e w' ⟨rfl, rfl⟩) | ((go_at_call 41; with_reducible refine (within_no ?_ _).mono ?_); (focus omega); rintro e w' ⟨rfl, rfl⟩))
  have EX := Ext.drew (w.alloc (.cells #[.int .i64 d, .int .i64 s, .int .i64 r, .int .i64 f, .int .i64 i, .int .i64 1, .int .i64 0, .int .i64 t, .int .i64 lo, .int .i64 hi, .int .i64 a, .int .i64 x, .int .i64 y, .int .i64 z] 30))
  go_region_held3 (fun w' => w'.cell? ⟨w.heap.size, 0, none⟩ = some (.int .i64 d) ∧ w'.cell? ⟨w.heap.size, 1, none⟩ = some (.int .i64 s) ∧ w'.cell? ⟨w.heap.size, 2, none⟩ = some (.int .i64 r) ∧ w'.cell? ⟨w.heap.size, 3, none⟩ = some (.int .i64 f) ∧ w'.cell? ⟨w.heap.size, 4, none⟩ = some (.int .i64 i) ∧ w'.cell? ⟨w.heap.size, 5, none⟩ = some (.int .i64 1) ∧ w'.cell? ⟨w.heap.size, 6, none⟩ = some (.int .i64 0) ∧ w'.cell? ⟨w.heap.size, 7, none⟩ = some (.int .i64 t) ∧ w'.cell? ⟨w.heap.size, 8, none⟩ = some (.int .i64 lo) ∧ w'.cell? ⟨w.heap.size, 9, none⟩ = some (.int .i64 hi) ∧ w'.cell? ⟨w.heap.size, 10, none⟩ = some (.int .i64 a) ∧ w'.cell? ⟨w.heap.size, 11, none⟩ = some (.int .i64 x) ∧ w'.cell? ⟨w.heap.size, 12, none⟩ = some (.int .i64 y) ∧ w'.cell? ⟨w.heap.size, 13, none⟩ = some (.int .i64 z)) (first | go_keep | exact HCL.out _ EX) (first | ((go_at_call 84; with_reducible refine (HUC.out _).mono ?_); rintro e w8 ⟨rfl, e8⟩; have EX := Ext.trans EX e8))
  have EX9 := Ext.trans (Ext.alloc w (.cells #[.int .i64 d, .int .i64 s, .int .i64 r, .int .i64 f, .int .i64 i, .int .i64 1, .int .i64 0, .int .i64 t, .int .i64 lo, .int .i64 hi, .int .i64 a, .int .i64 x, .int .i64 y, .int .i64 z] 30)) EX
  clear EX
  go_wp2
  go_ret
  exact ⟨ret_int HF.out.symm, EX9⟩
set_option maxRecDepth 100000 in
set_option maxHeartbeats 4000000 in
theorem refPlr_1lo {d s r f i lo hi a x y z : Int} {w : World} (hn : ¬(d < 0 ∨ 100000 < d ∨ s < 1 ∨ 1000000000 < s ∨ r < 1 ∨ 1000000000 < r ∨ f < 1 ∨ 1000000000 < f ∨ i < 0 ∨ 19 < i)) (hu : ¬ (0 : Int) = lo) :
    Calls Try.prog 70 #[plV d s r f i 1 0 0 lo hi a x y z] w fun e w' => e = .returned (.int .i64 (plrF d s r f i 1 0 0 lo hi a x y z)) ∧ Ext w w' := by
  have hq : unuB 1 0 0 lo hi a x y z = true := by unfold unuB; rw [if_neg (by decide), if_neg (by decide), if_neg (by decide)]; exact decide_eq_true (by omega)
  have HF : Hid (plrF d s r f i 1 0 0 lo hi a x y z = 3) := hide (by unfold plrF; rw [if_neg hn, if_neg (by omega), if_pos hq])
  have n2 : ((0 : Int) == lo) = false := by simpa using hu
  clear hq
  have HCL := hide (fun (W : World) (hW : Ext (w.alloc (.cells #[.int .i64 d, .int .i64 s, .int .i64 r, .int .i64 f, .int .i64 i, .int .i64 1, .int .i64 0, .int .i64 0, .int .i64 lo, .int .i64 hi, .int .i64 a, .int .i64 x, .int .i64 y, .int .i64 z] 30)) W) =>
    show W.cell? ⟨w.heap.size, 0, none⟩ = some (.int .i64 d) ∧ W.cell? ⟨w.heap.size, 1, none⟩ = some (.int .i64 s) ∧ W.cell? ⟨w.heap.size, 2, none⟩ = some (.int .i64 r) ∧ W.cell? ⟨w.heap.size, 3, none⟩ = some (.int .i64 f) ∧ W.cell? ⟨w.heap.size, 4, none⟩ = some (.int .i64 i) ∧ W.cell? ⟨w.heap.size, 5, none⟩ = some (.int .i64 1) ∧ W.cell? ⟨w.heap.size, 6, none⟩ = some (.int .i64 0) ∧ W.cell? ⟨w.heap.size, 7, none⟩ = some (.int .i64 0) ∧ W.cell? ⟨w.heap.size, 8, none⟩ = some (.int .i64 lo) ∧ W.cell? ⟨w.heap.size, 9, none⟩ = some (.int .i64 hi) ∧ W.cell? ⟨w.heap.size, 10, none⟩ = some (.int .i64 a) ∧ W.cell? ⟨w.heap.size, 11, none⟩ = some (.int .i64 x) ∧ W.cell? ⟨w.heap.size, 12, none⟩ = some (.int .i64 y) ∧ W.cell? ⟨w.heap.size, 13, none⟩ = some (.int .i64 z) from by
      have b1 := (Blk.new w 30 #[.int .i64 d, .int .i64 s, .int .i64 r, .int .i64 f, .int .i64 i, .int .i64 1, .int .i64 0, .int .i64 0, .int .i64 lo, .int .i64 hi, .int .i64 a, .int .i64 x, .int .i64 y, .int .i64 z]).ext hW
      exact ⟨b1.cell 0, b1.cell 1, b1.cell 2, b1.cell 3, b1.cell 4, b1.cell 5, b1.cell 6, b1.cell 7, b1.cell 8, b1.cell 9, b1.cell 10, b1.cell 11, b1.cell 12, b1.cell 13⟩)
  have HUC := hide (fun (W : World) => used_0 (d := d) (s := s) (r := r) (f := f) (i := i) (k := 1) (l := 0) (t := 0) (lo := lo) (hi := hi) (a := a) (x := x) (y := y) (z := z) (w := W) (by decide) (by decide) (by decide))
  go_enter Try.func70, Try.ntmps70
  go_wp2_with (first | ((go_at_call 41; with_reducible refine (within_yes ?_ _).mono ?_); (focus omega); rintro e w' ⟨rfl, rfl⟩) | ((go_at_call 41; with_reducible refine (within_no ?_ _).mono ?_); (focus omega); rintro e w' ⟨rfl, rfl⟩))
  have EX := Ext.drew (w.alloc (.cells #[.int .i64 d, .int .i64 s, .int .i64 r, .int .i64 f, .int .i64 i, .int .i64 1, .int .i64 0, .int .i64 0, .int .i64 lo, .int .i64 hi, .int .i64 a, .int .i64 x, .int .i64 y, .int .i64 z] 30))
  go_region_held3 (fun w' => w'.cell? ⟨w.heap.size, 0, none⟩ = some (.int .i64 d) ∧ w'.cell? ⟨w.heap.size, 1, none⟩ = some (.int .i64 s) ∧ w'.cell? ⟨w.heap.size, 2, none⟩ = some (.int .i64 r) ∧ w'.cell? ⟨w.heap.size, 3, none⟩ = some (.int .i64 f) ∧ w'.cell? ⟨w.heap.size, 4, none⟩ = some (.int .i64 i) ∧ w'.cell? ⟨w.heap.size, 5, none⟩ = some (.int .i64 1) ∧ w'.cell? ⟨w.heap.size, 6, none⟩ = some (.int .i64 0) ∧ w'.cell? ⟨w.heap.size, 7, none⟩ = some (.int .i64 0) ∧ w'.cell? ⟨w.heap.size, 8, none⟩ = some (.int .i64 lo) ∧ w'.cell? ⟨w.heap.size, 9, none⟩ = some (.int .i64 hi) ∧ w'.cell? ⟨w.heap.size, 10, none⟩ = some (.int .i64 a) ∧ w'.cell? ⟨w.heap.size, 11, none⟩ = some (.int .i64 x) ∧ w'.cell? ⟨w.heap.size, 12, none⟩ = some (.int .i64 y) ∧ w'.cell? ⟨w.heap.size, 13, none⟩ = some (.int .i64 z)) (first | go_keep | exact HCL.out _ EX) (first | ((go_at_call 84; with_reducible refine (HUC.out _).mono ?_); rintro e w8 ⟨rfl, e8⟩; have EX := Ext.trans EX e8))
  have EX9 := Ext.trans (Ext.alloc w (.cells #[.int .i64 d, .int .i64 s, .int .i64 r, .int .i64 f, .int .i64 i, .int .i64 1, .int .i64 0, .int .i64 0, .int .i64 lo, .int .i64 hi, .int .i64 a, .int .i64 x, .int .i64 y, .int .i64 z] 30)) EX
  clear EX
  go_wp2
  go_ret
  exact ⟨ret_int HF.out.symm, EX9⟩
set_option maxRecDepth 100000 in
set_option maxHeartbeats 4000000 in
theorem refPlr_1hi {d s r f i hi a x y z : Int} {w : World} (hn : ¬(d < 0 ∨ 100000 < d ∨ s < 1 ∨ 1000000000 < s ∨ r < 1 ∨ 1000000000 < r ∨ f < 1 ∨ 1000000000 < f ∨ i < 0 ∨ 19 < i)) (hu : ¬ (0 : Int) = hi) :
    Calls Try.prog 70 #[plV d s r f i 1 0 0 0 hi a x y z] w fun e w' => e = .returned (.int .i64 (plrF d s r f i 1 0 0 0 hi a x y z)) ∧ Ext w w' := by
  have hq : unuB 1 0 0 0 hi a x y z = true := by unfold unuB; rw [if_neg (by decide), if_neg (by decide), if_neg (by decide)]; exact decide_eq_true (by omega)
  have HF : Hid (plrF d s r f i 1 0 0 0 hi a x y z = 3) := hide (by unfold plrF; rw [if_neg hn, if_neg (by omega), if_pos hq])
  have n2 : ((0 : Int) == hi) = false := by simpa using hu
  clear hq
  have HCL := hide (fun (W : World) (hW : Ext (w.alloc (.cells #[.int .i64 d, .int .i64 s, .int .i64 r, .int .i64 f, .int .i64 i, .int .i64 1, .int .i64 0, .int .i64 0, .int .i64 0, .int .i64 hi, .int .i64 a, .int .i64 x, .int .i64 y, .int .i64 z] 30)) W) =>
    show W.cell? ⟨w.heap.size, 0, none⟩ = some (.int .i64 d) ∧ W.cell? ⟨w.heap.size, 1, none⟩ = some (.int .i64 s) ∧ W.cell? ⟨w.heap.size, 2, none⟩ = some (.int .i64 r) ∧ W.cell? ⟨w.heap.size, 3, none⟩ = some (.int .i64 f) ∧ W.cell? ⟨w.heap.size, 4, none⟩ = some (.int .i64 i) ∧ W.cell? ⟨w.heap.size, 5, none⟩ = some (.int .i64 1) ∧ W.cell? ⟨w.heap.size, 6, none⟩ = some (.int .i64 0) ∧ W.cell? ⟨w.heap.size, 7, none⟩ = some (.int .i64 0) ∧ W.cell? ⟨w.heap.size, 8, none⟩ = some (.int .i64 0) ∧ W.cell? ⟨w.heap.size, 9, none⟩ = some (.int .i64 hi) ∧ W.cell? ⟨w.heap.size, 10, none⟩ = some (.int .i64 a) ∧ W.cell? ⟨w.heap.size, 11, none⟩ = some (.int .i64 x) ∧ W.cell? ⟨w.heap.size, 12, none⟩ = some (.int .i64 y) ∧ W.cell? ⟨w.heap.size, 13, none⟩ = some (.int .i64 z) from by
      have b1 := (Blk.new w 30 #[.int .i64 d, .int .i64 s, .int .i64 r, .int .i64 f, .int .i64 i, .int .i64 1, .int .i64 0, .int .i64 0, .int .i64 0, .int .i64 hi, .int .i64 a, .int .i64 x, .int .i64 y, .int .i64 z]).ext hW
      exact ⟨b1.cell 0, b1.cell 1, b1.cell 2, b1.cell 3, b1.cell 4, b1.cell 5, b1.cell 6, b1.cell 7, b1.cell 8, b1.cell 9, b1.cell 10, b1.cell 11, b1.cell 12, b1.cell 13⟩)
  have HUC := hide (fun (W : World) => used_0 (d := d) (s := s) (r := r) (f := f) (i := i) (k := 1) (l := 0) (t := 0) (lo := 0) (hi := hi) (a := a) (x := x) (y := y) (z := z) (w := W) (by decide) (by decide) (by decide))
  go_enter Try.func70, Try.ntmps70
  go_wp2_with (first | ((go_at_call 41; with_reducible refine (within_yes ?_ _).mono ?_); (focus omega); rintro e w' ⟨rfl, rfl⟩) | ((go_at_call 41; with_reducible refine (within_no ?_ _).mono ?_); (focus omega); rintro e w' ⟨rfl, rfl⟩))
  have EX := Ext.drew (w.alloc (.cells #[.int .i64 d, .int .i64 s, .int .i64 r, .int .i64 f, .int .i64 i, .int .i64 1, .int .i64 0, .int .i64 0, .int .i64 0, .int .i64 hi, .int .i64 a, .int .i64 x, .int .i64 y, .int .i64 z] 30))
  go_region_held3 (fun w' => w'.cell? ⟨w.heap.size, 0, none⟩ = some (.int .i64 d) ∧ w'.cell? ⟨w.heap.size, 1, none⟩ = some (.int .i64 s) ∧ w'.cell? ⟨w.heap.size, 2, none⟩ = some (.int .i64 r) ∧ w'.cell? ⟨w.heap.size, 3, none⟩ = some (.int .i64 f) ∧ w'.cell? ⟨w.heap.size, 4, none⟩ = some (.int .i64 i) ∧ w'.cell? ⟨w.heap.size, 5, none⟩ = some (.int .i64 1) ∧ w'.cell? ⟨w.heap.size, 6, none⟩ = some (.int .i64 0) ∧ w'.cell? ⟨w.heap.size, 7, none⟩ = some (.int .i64 0) ∧ w'.cell? ⟨w.heap.size, 8, none⟩ = some (.int .i64 0) ∧ w'.cell? ⟨w.heap.size, 9, none⟩ = some (.int .i64 hi) ∧ w'.cell? ⟨w.heap.size, 10, none⟩ = some (.int .i64 a) ∧ w'.cell? ⟨w.heap.size, 11, none⟩ = some (.int .i64 x) ∧ w'.cell? ⟨w.heap.size, 12, none⟩ = some (.int .i64 y) ∧ w'.cell? ⟨w.heap.size, 13, none⟩ = some (.int .i64 z)) (first | go_keep | exact HCL.out _ EX) (first | ((go_at_call 84; with_reducible refine (HUC.out _).mono ?_); rintro e w8 ⟨rfl, e8⟩; have EX := Ext.trans EX e8))
  have EX9 := Ext.trans (Ext.alloc w (.cells #[.int .i64 d, .int .i64 s, .int .i64 r, .int .i64 f, .int .i64 i, .int .i64 1, .int .i64 0, .int .i64 0, .int .i64 0, .int .i64 hi, .int .i64 a, .int .i64 x, .int .i64 y, .int .i64 z] 30)) EX
  clear EX
  go_wp2
  go_ret
  exact ⟨ret_int HF.out.symm, EX9⟩
set_option maxRecDepth 100000 in
set_option maxHeartbeats 4000000 in
theorem refPlr_1a {d s r f i a x y z : Int} {w : World} (hn : ¬(d < 0 ∨ 100000 < d ∨ s < 1 ∨ 1000000000 < s ∨ r < 1 ∨ 1000000000 < r ∨ f < 1 ∨ 1000000000 < f ∨ i < 0 ∨ 19 < i)) (hu : ¬ (0 : Int) = a) :
    Calls Try.prog 70 #[plV d s r f i 1 0 0 0 0 a x y z] w fun e w' => e = .returned (.int .i64 (plrF d s r f i 1 0 0 0 0 a x y z)) ∧ Ext w w' := by
  have hq : unuB 1 0 0 0 0 a x y z = true := by unfold unuB; rw [if_neg (by decide), if_neg (by decide), if_neg (by decide)]; exact decide_eq_true (by omega)
  have HF : Hid (plrF d s r f i 1 0 0 0 0 a x y z = 3) := hide (by unfold plrF; rw [if_neg hn, if_neg (by omega), if_pos hq])
  have n2 : ((0 : Int) == a) = false := by simpa using hu
  clear hq
  have HCL := hide (fun (W : World) (hW : Ext (w.alloc (.cells #[.int .i64 d, .int .i64 s, .int .i64 r, .int .i64 f, .int .i64 i, .int .i64 1, .int .i64 0, .int .i64 0, .int .i64 0, .int .i64 0, .int .i64 a, .int .i64 x, .int .i64 y, .int .i64 z] 30)) W) =>
    show W.cell? ⟨w.heap.size, 0, none⟩ = some (.int .i64 d) ∧ W.cell? ⟨w.heap.size, 1, none⟩ = some (.int .i64 s) ∧ W.cell? ⟨w.heap.size, 2, none⟩ = some (.int .i64 r) ∧ W.cell? ⟨w.heap.size, 3, none⟩ = some (.int .i64 f) ∧ W.cell? ⟨w.heap.size, 4, none⟩ = some (.int .i64 i) ∧ W.cell? ⟨w.heap.size, 5, none⟩ = some (.int .i64 1) ∧ W.cell? ⟨w.heap.size, 6, none⟩ = some (.int .i64 0) ∧ W.cell? ⟨w.heap.size, 7, none⟩ = some (.int .i64 0) ∧ W.cell? ⟨w.heap.size, 8, none⟩ = some (.int .i64 0) ∧ W.cell? ⟨w.heap.size, 9, none⟩ = some (.int .i64 0) ∧ W.cell? ⟨w.heap.size, 10, none⟩ = some (.int .i64 a) ∧ W.cell? ⟨w.heap.size, 11, none⟩ = some (.int .i64 x) ∧ W.cell? ⟨w.heap.size, 12, none⟩ = some (.int .i64 y) ∧ W.cell? ⟨w.heap.size, 13, none⟩ = some (.int .i64 z) from by
      have b1 := (Blk.new w 30 #[.int .i64 d, .int .i64 s, .int .i64 r, .int .i64 f, .int .i64 i, .int .i64 1, .int .i64 0, .int .i64 0, .int .i64 0, .int .i64 0, .int .i64 a, .int .i64 x, .int .i64 y, .int .i64 z]).ext hW
      exact ⟨b1.cell 0, b1.cell 1, b1.cell 2, b1.cell 3, b1.cell 4, b1.cell 5, b1.cell 6, b1.cell 7, b1.cell 8, b1.cell 9, b1.cell 10, b1.cell 11, b1.cell 12, b1.cell 13⟩)
  have HUC := hide (fun (W : World) => used_0 (d := d) (s := s) (r := r) (f := f) (i := i) (k := 1) (l := 0) (t := 0) (lo := 0) (hi := 0) (a := a) (x := x) (y := y) (z := z) (w := W) (by decide) (by decide) (by decide))
  go_enter Try.func70, Try.ntmps70
  go_wp2_with (first | ((go_at_call 41; with_reducible refine (within_yes ?_ _).mono ?_); (focus omega); rintro e w' ⟨rfl, rfl⟩) | ((go_at_call 41; with_reducible refine (within_no ?_ _).mono ?_); (focus omega); rintro e w' ⟨rfl, rfl⟩))
  have EX := Ext.drew (w.alloc (.cells #[.int .i64 d, .int .i64 s, .int .i64 r, .int .i64 f, .int .i64 i, .int .i64 1, .int .i64 0, .int .i64 0, .int .i64 0, .int .i64 0, .int .i64 a, .int .i64 x, .int .i64 y, .int .i64 z] 30))
  go_region_held3 (fun w' => w'.cell? ⟨w.heap.size, 0, none⟩ = some (.int .i64 d) ∧ w'.cell? ⟨w.heap.size, 1, none⟩ = some (.int .i64 s) ∧ w'.cell? ⟨w.heap.size, 2, none⟩ = some (.int .i64 r) ∧ w'.cell? ⟨w.heap.size, 3, none⟩ = some (.int .i64 f) ∧ w'.cell? ⟨w.heap.size, 4, none⟩ = some (.int .i64 i) ∧ w'.cell? ⟨w.heap.size, 5, none⟩ = some (.int .i64 1) ∧ w'.cell? ⟨w.heap.size, 6, none⟩ = some (.int .i64 0) ∧ w'.cell? ⟨w.heap.size, 7, none⟩ = some (.int .i64 0) ∧ w'.cell? ⟨w.heap.size, 8, none⟩ = some (.int .i64 0) ∧ w'.cell? ⟨w.heap.size, 9, none⟩ = some (.int .i64 0) ∧ w'.cell? ⟨w.heap.size, 10, none⟩ = some (.int .i64 a) ∧ w'.cell? ⟨w.heap.size, 11, none⟩ = some (.int .i64 x) ∧ w'.cell? ⟨w.heap.size, 12, none⟩ = some (.int .i64 y) ∧ w'.cell? ⟨w.heap.size, 13, none⟩ = some (.int .i64 z)) (first | go_keep | exact HCL.out _ EX) (first | ((go_at_call 84; with_reducible refine (HUC.out _).mono ?_); rintro e w8 ⟨rfl, e8⟩; have EX := Ext.trans EX e8))
  have EX9 := Ext.trans (Ext.alloc w (.cells #[.int .i64 d, .int .i64 s, .int .i64 r, .int .i64 f, .int .i64 i, .int .i64 1, .int .i64 0, .int .i64 0, .int .i64 0, .int .i64 0, .int .i64 a, .int .i64 x, .int .i64 y, .int .i64 z] 30)) EX
  clear EX
  go_wp2
  go_ret
  exact ⟨ret_int HF.out.symm, EX9⟩
set_option maxRecDepth 100000 in
set_option maxHeartbeats 4000000 in
theorem refPlr_1x {d s r f i x y z : Int} {w : World} (hn : ¬(d < 0 ∨ 100000 < d ∨ s < 1 ∨ 1000000000 < s ∨ r < 1 ∨ 1000000000 < r ∨ f < 1 ∨ 1000000000 < f ∨ i < 0 ∨ 19 < i)) (hu : ¬ (0 : Int) = x) :
    Calls Try.prog 70 #[plV d s r f i 1 0 0 0 0 0 x y z] w fun e w' => e = .returned (.int .i64 (plrF d s r f i 1 0 0 0 0 0 x y z)) ∧ Ext w w' := by
  have hq : unuB 1 0 0 0 0 0 x y z = true := by unfold unuB; rw [if_neg (by decide), if_neg (by decide), if_neg (by decide)]; exact decide_eq_true (by omega)
  have HF : Hid (plrF d s r f i 1 0 0 0 0 0 x y z = 3) := hide (by unfold plrF; rw [if_neg hn, if_neg (by omega), if_pos hq])
  have n2 : ((0 : Int) == x) = false := by simpa using hu
  clear hq
  have HCL := hide (fun (W : World) (hW : Ext (w.alloc (.cells #[.int .i64 d, .int .i64 s, .int .i64 r, .int .i64 f, .int .i64 i, .int .i64 1, .int .i64 0, .int .i64 0, .int .i64 0, .int .i64 0, .int .i64 0, .int .i64 x, .int .i64 y, .int .i64 z] 30)) W) =>
    show W.cell? ⟨w.heap.size, 0, none⟩ = some (.int .i64 d) ∧ W.cell? ⟨w.heap.size, 1, none⟩ = some (.int .i64 s) ∧ W.cell? ⟨w.heap.size, 2, none⟩ = some (.int .i64 r) ∧ W.cell? ⟨w.heap.size, 3, none⟩ = some (.int .i64 f) ∧ W.cell? ⟨w.heap.size, 4, none⟩ = some (.int .i64 i) ∧ W.cell? ⟨w.heap.size, 5, none⟩ = some (.int .i64 1) ∧ W.cell? ⟨w.heap.size, 6, none⟩ = some (.int .i64 0) ∧ W.cell? ⟨w.heap.size, 7, none⟩ = some (.int .i64 0) ∧ W.cell? ⟨w.heap.size, 8, none⟩ = some (.int .i64 0) ∧ W.cell? ⟨w.heap.size, 9, none⟩ = some (.int .i64 0) ∧ W.cell? ⟨w.heap.size, 10, none⟩ = some (.int .i64 0) ∧ W.cell? ⟨w.heap.size, 11, none⟩ = some (.int .i64 x) ∧ W.cell? ⟨w.heap.size, 12, none⟩ = some (.int .i64 y) ∧ W.cell? ⟨w.heap.size, 13, none⟩ = some (.int .i64 z) from by
      have b1 := (Blk.new w 30 #[.int .i64 d, .int .i64 s, .int .i64 r, .int .i64 f, .int .i64 i, .int .i64 1, .int .i64 0, .int .i64 0, .int .i64 0, .int .i64 0, .int .i64 0, .int .i64 x, .int .i64 y, .int .i64 z]).ext hW
      exact ⟨b1.cell 0, b1.cell 1, b1.cell 2, b1.cell 3, b1.cell 4, b1.cell 5, b1.cell 6, b1.cell 7, b1.cell 8, b1.cell 9, b1.cell 10, b1.cell 11, b1.cell 12, b1.cell 13⟩)
  have HUC := hide (fun (W : World) => used_0 (d := d) (s := s) (r := r) (f := f) (i := i) (k := 1) (l := 0) (t := 0) (lo := 0) (hi := 0) (a := 0) (x := x) (y := y) (z := z) (w := W) (by decide) (by decide) (by decide))
  go_enter Try.func70, Try.ntmps70
  go_wp2_with (first | ((go_at_call 41; with_reducible refine (within_yes ?_ _).mono ?_); (focus omega); rintro e w' ⟨rfl, rfl⟩) | ((go_at_call 41; with_reducible refine (within_no ?_ _).mono ?_); (focus omega); rintro e w' ⟨rfl, rfl⟩))
  have EX := Ext.drew (w.alloc (.cells #[.int .i64 d, .int .i64 s, .int .i64 r, .int .i64 f, .int .i64 i, .int .i64 1, .int .i64 0, .int .i64 0, .int .i64 0, .int .i64 0, .int .i64 0, .int .i64 x, .int .i64 y, .int .i64 z] 30))
  go_region_held3 (fun w' => w'.cell? ⟨w.heap.size, 0, none⟩ = some (.int .i64 d) ∧ w'.cell? ⟨w.heap.size, 1, none⟩ = some (.int .i64 s) ∧ w'.cell? ⟨w.heap.size, 2, none⟩ = some (.int .i64 r) ∧ w'.cell? ⟨w.heap.size, 3, none⟩ = some (.int .i64 f) ∧ w'.cell? ⟨w.heap.size, 4, none⟩ = some (.int .i64 i) ∧ w'.cell? ⟨w.heap.size, 5, none⟩ = some (.int .i64 1) ∧ w'.cell? ⟨w.heap.size, 6, none⟩ = some (.int .i64 0) ∧ w'.cell? ⟨w.heap.size, 7, none⟩ = some (.int .i64 0) ∧ w'.cell? ⟨w.heap.size, 8, none⟩ = some (.int .i64 0) ∧ w'.cell? ⟨w.heap.size, 9, none⟩ = some (.int .i64 0) ∧ w'.cell? ⟨w.heap.size, 10, none⟩ = some (.int .i64 0) ∧ w'.cell? ⟨w.heap.size, 11, none⟩ = some (.int .i64 x) ∧ w'.cell? ⟨w.heap.size, 12, none⟩ = some (.int .i64 y) ∧ w'.cell? ⟨w.heap.size, 13, none⟩ = some (.int .i64 z)) (first | go_keep | exact HCL.out _ EX) (first | ((go_at_call 84; with_reducible refine (HUC.out _).mono ?_); rintro e w8 ⟨rfl, e8⟩; have EX := Ext.trans EX e8))
  have EX9 := Ext.trans (Ext.alloc w (.cells #[.int .i64 d, .int .i64 s, .int .i64 r, .int .i64 f, .int .i64 i, .int .i64 1, .int .i64 0, .int .i64 0, .int .i64 0, .int .i64 0, .int .i64 0, .int .i64 x, .int .i64 y, .int .i64 z] 30)) EX
  clear EX
  go_wp2
  go_ret
  exact ⟨ret_int HF.out.symm, EX9⟩
set_option maxRecDepth 100000 in
set_option maxHeartbeats 4000000 in
theorem refPlr_1y {d s r f i y z : Int} {w : World} (hn : ¬(d < 0 ∨ 100000 < d ∨ s < 1 ∨ 1000000000 < s ∨ r < 1 ∨ 1000000000 < r ∨ f < 1 ∨ 1000000000 < f ∨ i < 0 ∨ 19 < i)) (hu : ¬ (0 : Int) = y) :
    Calls Try.prog 70 #[plV d s r f i 1 0 0 0 0 0 0 y z] w fun e w' => e = .returned (.int .i64 (plrF d s r f i 1 0 0 0 0 0 0 y z)) ∧ Ext w w' := by
  have hq : unuB 1 0 0 0 0 0 0 y z = true := by unfold unuB; rw [if_neg (by decide), if_neg (by decide), if_neg (by decide)]; exact decide_eq_true (by omega)
  have HF : Hid (plrF d s r f i 1 0 0 0 0 0 0 y z = 3) := hide (by unfold plrF; rw [if_neg hn, if_neg (by omega), if_pos hq])
  have n2 : ((0 : Int) == y) = false := by simpa using hu
  clear hq
  have HCL := hide (fun (W : World) (hW : Ext (w.alloc (.cells #[.int .i64 d, .int .i64 s, .int .i64 r, .int .i64 f, .int .i64 i, .int .i64 1, .int .i64 0, .int .i64 0, .int .i64 0, .int .i64 0, .int .i64 0, .int .i64 0, .int .i64 y, .int .i64 z] 30)) W) =>
    show W.cell? ⟨w.heap.size, 0, none⟩ = some (.int .i64 d) ∧ W.cell? ⟨w.heap.size, 1, none⟩ = some (.int .i64 s) ∧ W.cell? ⟨w.heap.size, 2, none⟩ = some (.int .i64 r) ∧ W.cell? ⟨w.heap.size, 3, none⟩ = some (.int .i64 f) ∧ W.cell? ⟨w.heap.size, 4, none⟩ = some (.int .i64 i) ∧ W.cell? ⟨w.heap.size, 5, none⟩ = some (.int .i64 1) ∧ W.cell? ⟨w.heap.size, 6, none⟩ = some (.int .i64 0) ∧ W.cell? ⟨w.heap.size, 7, none⟩ = some (.int .i64 0) ∧ W.cell? ⟨w.heap.size, 8, none⟩ = some (.int .i64 0) ∧ W.cell? ⟨w.heap.size, 9, none⟩ = some (.int .i64 0) ∧ W.cell? ⟨w.heap.size, 10, none⟩ = some (.int .i64 0) ∧ W.cell? ⟨w.heap.size, 11, none⟩ = some (.int .i64 0) ∧ W.cell? ⟨w.heap.size, 12, none⟩ = some (.int .i64 y) ∧ W.cell? ⟨w.heap.size, 13, none⟩ = some (.int .i64 z) from by
      have b1 := (Blk.new w 30 #[.int .i64 d, .int .i64 s, .int .i64 r, .int .i64 f, .int .i64 i, .int .i64 1, .int .i64 0, .int .i64 0, .int .i64 0, .int .i64 0, .int .i64 0, .int .i64 0, .int .i64 y, .int .i64 z]).ext hW
      exact ⟨b1.cell 0, b1.cell 1, b1.cell 2, b1.cell 3, b1.cell 4, b1.cell 5, b1.cell 6, b1.cell 7, b1.cell 8, b1.cell 9, b1.cell 10, b1.cell 11, b1.cell 12, b1.cell 13⟩)
  have HUC := hide (fun (W : World) => used_0 (d := d) (s := s) (r := r) (f := f) (i := i) (k := 1) (l := 0) (t := 0) (lo := 0) (hi := 0) (a := 0) (x := 0) (y := y) (z := z) (w := W) (by decide) (by decide) (by decide))
  go_enter Try.func70, Try.ntmps70
  go_wp2_with (first | ((go_at_call 41; with_reducible refine (within_yes ?_ _).mono ?_); (focus omega); rintro e w' ⟨rfl, rfl⟩) | ((go_at_call 41; with_reducible refine (within_no ?_ _).mono ?_); (focus omega); rintro e w' ⟨rfl, rfl⟩))
  have EX := Ext.drew (w.alloc (.cells #[.int .i64 d, .int .i64 s, .int .i64 r, .int .i64 f, .int .i64 i, .int .i64 1, .int .i64 0, .int .i64 0, .int .i64 0, .int .i64 0, .int .i64 0, .int .i64 0, .int .i64 y, .int .i64 z] 30))
  go_region_held3 (fun w' => w'.cell? ⟨w.heap.size, 0, none⟩ = some (.int .i64 d) ∧ w'.cell? ⟨w.heap.size, 1, none⟩ = some (.int .i64 s) ∧ w'.cell? ⟨w.heap.size, 2, none⟩ = some (.int .i64 r) ∧ w'.cell? ⟨w.heap.size, 3, none⟩ = some (.int .i64 f) ∧ w'.cell? ⟨w.heap.size, 4, none⟩ = some (.int .i64 i) ∧ w'.cell? ⟨w.heap.size, 5, none⟩ = some (.int .i64 1) ∧ w'.cell? ⟨w.heap.size, 6, none⟩ = some (.int .i64 0) ∧ w'.cell? ⟨w.heap.size, 7, none⟩ = some (.int .i64 0) ∧ w'.cell? ⟨w.heap.size, 8, none⟩ = some (.int .i64 0) ∧ w'.cell? ⟨w.heap.size, 9, none⟩ = some (.int .i64 0) ∧ w'.cell? ⟨w.heap.size, 10, none⟩ = some (.int .i64 0) ∧ w'.cell? ⟨w.heap.size, 11, none⟩ = some (.int .i64 0) ∧ w'.cell? ⟨w.heap.size, 12, none⟩ = some (.int .i64 y) ∧ w'.cell? ⟨w.heap.size, 13, none⟩ = some (.int .i64 z)) (first | go_keep | exact HCL.out _ EX) (first | ((go_at_call 84; with_reducible refine (HUC.out _).mono ?_); rintro e w8 ⟨rfl, e8⟩; have EX := Ext.trans EX e8))
  have EX9 := Ext.trans (Ext.alloc w (.cells #[.int .i64 d, .int .i64 s, .int .i64 r, .int .i64 f, .int .i64 i, .int .i64 1, .int .i64 0, .int .i64 0, .int .i64 0, .int .i64 0, .int .i64 0, .int .i64 0, .int .i64 y, .int .i64 z] 30)) EX
  clear EX
  go_wp2
  go_ret
  exact ⟨ret_int HF.out.symm, EX9⟩
set_option maxRecDepth 100000 in
set_option maxHeartbeats 4000000 in
theorem refPlr_1z {d s r f i z : Int} {w : World} (hn : ¬(d < 0 ∨ 100000 < d ∨ s < 1 ∨ 1000000000 < s ∨ r < 1 ∨ 1000000000 < r ∨ f < 1 ∨ 1000000000 < f ∨ i < 0 ∨ 19 < i)) (hu : ¬ (0 : Int) = z) :
    Calls Try.prog 70 #[plV d s r f i 1 0 0 0 0 0 0 0 z] w fun e w' => e = .returned (.int .i64 (plrF d s r f i 1 0 0 0 0 0 0 0 z)) ∧ Ext w w' := by
  have hq : unuB 1 0 0 0 0 0 0 0 z = true := by unfold unuB; rw [if_neg (by decide), if_neg (by decide), if_neg (by decide)]; exact decide_eq_true (by omega)
  have HF : Hid (plrF d s r f i 1 0 0 0 0 0 0 0 z = 3) := hide (by unfold plrF; rw [if_neg hn, if_neg (by omega), if_pos hq])
  have n2 : ((0 : Int) == z) = false := by simpa using hu
  clear hq
  have HCL := hide (fun (W : World) (hW : Ext (w.alloc (.cells #[.int .i64 d, .int .i64 s, .int .i64 r, .int .i64 f, .int .i64 i, .int .i64 1, .int .i64 0, .int .i64 0, .int .i64 0, .int .i64 0, .int .i64 0, .int .i64 0, .int .i64 0, .int .i64 z] 30)) W) =>
    show W.cell? ⟨w.heap.size, 0, none⟩ = some (.int .i64 d) ∧ W.cell? ⟨w.heap.size, 1, none⟩ = some (.int .i64 s) ∧ W.cell? ⟨w.heap.size, 2, none⟩ = some (.int .i64 r) ∧ W.cell? ⟨w.heap.size, 3, none⟩ = some (.int .i64 f) ∧ W.cell? ⟨w.heap.size, 4, none⟩ = some (.int .i64 i) ∧ W.cell? ⟨w.heap.size, 5, none⟩ = some (.int .i64 1) ∧ W.cell? ⟨w.heap.size, 6, none⟩ = some (.int .i64 0) ∧ W.cell? ⟨w.heap.size, 7, none⟩ = some (.int .i64 0) ∧ W.cell? ⟨w.heap.size, 8, none⟩ = some (.int .i64 0) ∧ W.cell? ⟨w.heap.size, 9, none⟩ = some (.int .i64 0) ∧ W.cell? ⟨w.heap.size, 10, none⟩ = some (.int .i64 0) ∧ W.cell? ⟨w.heap.size, 11, none⟩ = some (.int .i64 0) ∧ W.cell? ⟨w.heap.size, 12, none⟩ = some (.int .i64 0) ∧ W.cell? ⟨w.heap.size, 13, none⟩ = some (.int .i64 z) from by
      have b1 := (Blk.new w 30 #[.int .i64 d, .int .i64 s, .int .i64 r, .int .i64 f, .int .i64 i, .int .i64 1, .int .i64 0, .int .i64 0, .int .i64 0, .int .i64 0, .int .i64 0, .int .i64 0, .int .i64 0, .int .i64 z]).ext hW
      exact ⟨b1.cell 0, b1.cell 1, b1.cell 2, b1.cell 3, b1.cell 4, b1.cell 5, b1.cell 6, b1.cell 7, b1.cell 8, b1.cell 9, b1.cell 10, b1.cell 11, b1.cell 12, b1.cell 13⟩)
  have HUC := hide (fun (W : World) => used_0 (d := d) (s := s) (r := r) (f := f) (i := i) (k := 1) (l := 0) (t := 0) (lo := 0) (hi := 0) (a := 0) (x := 0) (y := 0) (z := z) (w := W) (by decide) (by decide) (by decide))
  go_enter Try.func70, Try.ntmps70
  go_wp2_with (first | ((go_at_call 41; with_reducible refine (within_yes ?_ _).mono ?_); (focus omega); rintro e w' ⟨rfl, rfl⟩) | ((go_at_call 41; with_reducible refine (within_no ?_ _).mono ?_); (focus omega); rintro e w' ⟨rfl, rfl⟩))
  have EX := Ext.drew (w.alloc (.cells #[.int .i64 d, .int .i64 s, .int .i64 r, .int .i64 f, .int .i64 i, .int .i64 1, .int .i64 0, .int .i64 0, .int .i64 0, .int .i64 0, .int .i64 0, .int .i64 0, .int .i64 0, .int .i64 z] 30))
  go_region_held3 (fun w' => w'.cell? ⟨w.heap.size, 0, none⟩ = some (.int .i64 d) ∧ w'.cell? ⟨w.heap.size, 1, none⟩ = some (.int .i64 s) ∧ w'.cell? ⟨w.heap.size, 2, none⟩ = some (.int .i64 r) ∧ w'.cell? ⟨w.heap.size, 3, none⟩ = some (.int .i64 f) ∧ w'.cell? ⟨w.heap.size, 4, none⟩ = some (.int .i64 i) ∧ w'.cell? ⟨w.heap.size, 5, none⟩ = some (.int .i64 1) ∧ w'.cell? ⟨w.heap.size, 6, none⟩ = some (.int .i64 0) ∧ w'.cell? ⟨w.heap.size, 7, none⟩ = some (.int .i64 0) ∧ w'.cell? ⟨w.heap.size, 8, none⟩ = some (.int .i64 0) ∧ w'.cell? ⟨w.heap.size, 9, none⟩ = some (.int .i64 0) ∧ w'.cell? ⟨w.heap.size, 10, none⟩ = some (.int .i64 0) ∧ w'.cell? ⟨w.heap.size, 11, none⟩ = some (.int .i64 0) ∧ w'.cell? ⟨w.heap.size, 12, none⟩ = some (.int .i64 0) ∧ w'.cell? ⟨w.heap.size, 13, none⟩ = some (.int .i64 z)) (first | go_keep | exact HCL.out _ EX) (first | ((go_at_call 84; with_reducible refine (HUC.out _).mono ?_); rintro e w8 ⟨rfl, e8⟩; have EX := Ext.trans EX e8))
  have EX9 := Ext.trans (Ext.alloc w (.cells #[.int .i64 d, .int .i64 s, .int .i64 r, .int .i64 f, .int .i64 i, .int .i64 1, .int .i64 0, .int .i64 0, .int .i64 0, .int .i64 0, .int .i64 0, .int .i64 0, .int .i64 0, .int .i64 z] 30)) EX
  clear EX
  go_wp2
  go_ret
  exact ⟨ret_int HF.out.symm, EX9⟩
set_option maxRecDepth 100000 in
set_option maxHeartbeats 4000000 in
theorem refPlr_10 {d s r f i : Int} {w : World} (hn : ¬(d < 0 ∨ 100000 < d ∨ s < 1 ∨ 1000000000 < s ∨ r < 1 ∨ 1000000000 < r ∨ f < 1 ∨ 1000000000 < f ∨ i < 0 ∨ 19 < i)) :
    Calls Try.prog 70 #[plV d s r f i 1 0 0 0 0 0 0 0 0] w fun e w' => e = .returned (.int .i64 (plrF d s r f i 1 0 0 0 0 0 0 0 0)) ∧ Ext w w' := by
  have hq' : unuB 1 0 0 0 0 0 0 0 0 = false := by unfold unuB; rw [if_neg (by decide), if_neg (by decide), if_neg (by decide)]; exact decide_eq_false (by omega)
  have hq : ¬ unuB 1 0 0 0 0 0 0 0 0 = true := by rw [hq']; decide
  have HF : Hid (plrF d s r f i 1 0 0 0 0 0 0 0 0 = 0) := hide (by unfold plrF; rw [if_neg hn, if_neg (by omega), if_neg hq, if_neg (by omega), if_neg (by omega), if_neg (by omega), if_neg (by omega)])
  clear hq'
  clear hq
  have HCL := hide (fun (W : World) (hW : Ext (w.alloc (.cells #[.int .i64 d, .int .i64 s, .int .i64 r, .int .i64 f, .int .i64 i, .int .i64 1, .int .i64 0, .int .i64 0, .int .i64 0, .int .i64 0, .int .i64 0, .int .i64 0, .int .i64 0, .int .i64 0] 30)) W) =>
    show W.cell? ⟨w.heap.size, 0, none⟩ = some (.int .i64 d) ∧ W.cell? ⟨w.heap.size, 1, none⟩ = some (.int .i64 s) ∧ W.cell? ⟨w.heap.size, 2, none⟩ = some (.int .i64 r) ∧ W.cell? ⟨w.heap.size, 3, none⟩ = some (.int .i64 f) ∧ W.cell? ⟨w.heap.size, 4, none⟩ = some (.int .i64 i) ∧ W.cell? ⟨w.heap.size, 5, none⟩ = some (.int .i64 1) ∧ W.cell? ⟨w.heap.size, 6, none⟩ = some (.int .i64 0) ∧ W.cell? ⟨w.heap.size, 7, none⟩ = some (.int .i64 0) ∧ W.cell? ⟨w.heap.size, 8, none⟩ = some (.int .i64 0) ∧ W.cell? ⟨w.heap.size, 9, none⟩ = some (.int .i64 0) ∧ W.cell? ⟨w.heap.size, 10, none⟩ = some (.int .i64 0) ∧ W.cell? ⟨w.heap.size, 11, none⟩ = some (.int .i64 0) ∧ W.cell? ⟨w.heap.size, 12, none⟩ = some (.int .i64 0) ∧ W.cell? ⟨w.heap.size, 13, none⟩ = some (.int .i64 0) from by
      have b1 := (Blk.new w 30 #[.int .i64 d, .int .i64 s, .int .i64 r, .int .i64 f, .int .i64 i, .int .i64 1, .int .i64 0, .int .i64 0, .int .i64 0, .int .i64 0, .int .i64 0, .int .i64 0, .int .i64 0, .int .i64 0]).ext hW
      exact ⟨b1.cell 0, b1.cell 1, b1.cell 2, b1.cell 3, b1.cell 4, b1.cell 5, b1.cell 6, b1.cell 7, b1.cell 8, b1.cell 9, b1.cell 10, b1.cell 11, b1.cell 12, b1.cell 13⟩)
  have HUC := hide (fun (W : World) => used_0 (d := d) (s := s) (r := r) (f := f) (i := i) (k := 1) (l := 0) (t := 0) (lo := 0) (hi := 0) (a := 0) (x := 0) (y := 0) (z := 0) (w := W) (by decide) (by decide) (by decide))
  go_enter Try.func70, Try.ntmps70
  go_wp2_with (first | ((go_at_call 41; with_reducible refine (within_yes ?_ _).mono ?_); (focus omega); rintro e w' ⟨rfl, rfl⟩) | ((go_at_call 41; with_reducible refine (within_no ?_ _).mono ?_); (focus omega); rintro e w' ⟨rfl, rfl⟩))
  have EX := Ext.drew (w.alloc (.cells #[.int .i64 d, .int .i64 s, .int .i64 r, .int .i64 f, .int .i64 i, .int .i64 1, .int .i64 0, .int .i64 0, .int .i64 0, .int .i64 0, .int .i64 0, .int .i64 0, .int .i64 0, .int .i64 0] 30))
  go_region_held3 (fun w' => w'.cell? ⟨w.heap.size, 0, none⟩ = some (.int .i64 d) ∧ w'.cell? ⟨w.heap.size, 1, none⟩ = some (.int .i64 s) ∧ w'.cell? ⟨w.heap.size, 2, none⟩ = some (.int .i64 r) ∧ w'.cell? ⟨w.heap.size, 3, none⟩ = some (.int .i64 f) ∧ w'.cell? ⟨w.heap.size, 4, none⟩ = some (.int .i64 i) ∧ w'.cell? ⟨w.heap.size, 5, none⟩ = some (.int .i64 1) ∧ w'.cell? ⟨w.heap.size, 6, none⟩ = some (.int .i64 0) ∧ w'.cell? ⟨w.heap.size, 7, none⟩ = some (.int .i64 0) ∧ w'.cell? ⟨w.heap.size, 8, none⟩ = some (.int .i64 0) ∧ w'.cell? ⟨w.heap.size, 9, none⟩ = some (.int .i64 0) ∧ w'.cell? ⟨w.heap.size, 10, none⟩ = some (.int .i64 0) ∧ w'.cell? ⟨w.heap.size, 11, none⟩ = some (.int .i64 0) ∧ w'.cell? ⟨w.heap.size, 12, none⟩ = some (.int .i64 0) ∧ w'.cell? ⟨w.heap.size, 13, none⟩ = some (.int .i64 0)) (first | go_keep | exact HCL.out _ EX) (first | ((go_at_call 84; with_reducible refine (HUC.out _).mono ?_); rintro e w8 ⟨rfl, e8⟩; have EX := Ext.trans EX e8))
  have EX9 := Ext.trans (Ext.alloc w (.cells #[.int .i64 d, .int .i64 s, .int .i64 r, .int .i64 f, .int .i64 i, .int .i64 1, .int .i64 0, .int .i64 0, .int .i64 0, .int .i64 0, .int .i64 0, .int .i64 0, .int .i64 0, .int .i64 0] 30)) EX
  obtain ⟨c0, c1, c2, c3, c4, c5, c6, c7, c8, c9, c10, c11, c12, c13⟩ := HCL.out _ EX
  clear EX
  go_wp2
  go_ret
  exact ⟨ret_int HF.out.symm, EX9⟩
theorem refPlr_0 {d s r f i k l t lo hi a x y z : Int} {w : World} (h2 : k ≠ 2) (h3 : k ≠ 3) (h4 : k ≠ 4) :
    Calls Try.prog 70 #[plV d s r f i k l t lo hi a x y z] w fun e w' => e = .returned (.int .i64 (plrF d s r f i k l t lo hi a x y z)) ∧ Ext w w' := by
  by_cases hb : d < 0 ∨ 100000 < d ∨ s < 1 ∨ 1000000000 < s ∨ r < 1 ∨ 1000000000 < r ∨ f < 1 ∨ 1000000000 < f ∨ i < 0 ∨ 19 < i
  · exact refPlr_bad hb
  by_cases hk : k < 1 ∨ 4 < k
  · exact refPlr_kind hb hk
  obtain rfl : k = 1 := by omega
  by_cases nl : (0 : Int) = l
  rotate_left
  · exact refPlr_1l hb nl
  subst nl
  by_cases nt : (0 : Int) = t
  rotate_left
  · exact refPlr_1t hb nt
  subst nt
  by_cases nlo : (0 : Int) = lo
  rotate_left
  · exact refPlr_1lo hb nlo
  subst nlo
  by_cases nhi : (0 : Int) = hi
  rotate_left
  · exact refPlr_1hi hb nhi
  subst nhi
  by_cases na : (0 : Int) = a
  rotate_left
  · exact refPlr_1a hb na
  subst na
  by_cases nx : (0 : Int) = x
  rotate_left
  · exact refPlr_1x hb nx
  subst nx
  by_cases ny : (0 : Int) = y
  rotate_left
  · exact refPlr_1y hb ny
  subst ny
  by_cases nz : (0 : Int) = z
  rotate_left
  · exact refPlr_1z hb nz
  subst nz
  exact refPlr_10 hb
end Go.Proofs.Ytjbgkoeojfmkkaa
