/- Walk: R11.CheckPlayer. Conditions: none. -/
import Derived.Test.YtjbgkoeojfmkkaaFilmC
import Derived.Test.YtjbgkoeojfmkkaaFilmD
namespace Go.Proofs.Ytjbgkoeojfmkkaa
open Go.RowKit
set_option maxRecDepth 100000 in
set_option maxHeartbeats 8000000 in
theorem refPlr_3 {d s r f i l t lo hi a x y z : Int} {w : World} :
    Calls Try.prog 70 #[plV d s r f i 3 l t lo hi a x y z] w fun e w' => e = .returned (.int .i64 (plrF d s r f i 3 l t lo hi a x y z)) ∧ Ext w w' := by
  have HCL := hide (fun (W : World) (hW : Ext (w.alloc (.cells #[.int .i64 d, .int .i64 s, .int .i64 r, .int .i64 f, .int .i64 i, .int .i64 3, .int .i64 l, .int .i64 t, .int .i64 lo, .int .i64 hi, .int .i64 a, .int .i64 x, .int .i64 y, .int .i64 z] 30)) W) =>
    show W.cell? ⟨w.heap.size, 0, none⟩ = some (.int .i64 d) ∧ W.cell? ⟨w.heap.size, 1, none⟩ = some (.int .i64 s) ∧ W.cell? ⟨w.heap.size, 2, none⟩ = some (.int .i64 r) ∧ W.cell? ⟨w.heap.size, 3, none⟩ = some (.int .i64 f) ∧ W.cell? ⟨w.heap.size, 4, none⟩ = some (.int .i64 i) ∧ W.cell? ⟨w.heap.size, 5, none⟩ = some (.int .i64 3) ∧ W.cell? ⟨w.heap.size, 6, none⟩ = some (.int .i64 l) ∧ W.cell? ⟨w.heap.size, 7, none⟩ = some (.int .i64 t) ∧ W.cell? ⟨w.heap.size, 8, none⟩ = some (.int .i64 lo) ∧ W.cell? ⟨w.heap.size, 9, none⟩ = some (.int .i64 hi) ∧ W.cell? ⟨w.heap.size, 10, none⟩ = some (.int .i64 a) ∧ W.cell? ⟨w.heap.size, 11, none⟩ = some (.int .i64 x) ∧ W.cell? ⟨w.heap.size, 12, none⟩ = some (.int .i64 y) ∧ W.cell? ⟨w.heap.size, 13, none⟩ = some (.int .i64 z) from by
      have b1 := (Blk.new w 30 #[.int .i64 d, .int .i64 s, .int .i64 r, .int .i64 f, .int .i64 i, .int .i64 3, .int .i64 l, .int .i64 t, .int .i64 lo, .int .i64 hi, .int .i64 a, .int .i64 x, .int .i64 y, .int .i64 z]).ext hW
      exact ⟨b1.cell 0, b1.cell 1, b1.cell 2, b1.cell 3, b1.cell 4, b1.cell 5, b1.cell 6, b1.cell 7, b1.cell 8, b1.cell 9, b1.cell 10, b1.cell 11, b1.cell 12, b1.cell 13⟩)
  have HUC := hide (fun (W : World) => used_3 (d := d) (s := s) (r := r) (f := f) (i := i) (k := 3) (l := l) (t := t) (lo := lo) (hi := hi) (a := a) (x := x) (y := y) (z := z) (w := W) rfl)
  go_enter Try.func70, Try.ntmps70
  go_wp2_with fail
  by_cases b0 : d < 0 ∨ 100000 < d
  · have HF : Hid (plrF d s r f i 3 l t lo hi a x y z = 1) := hide (by unfold plrF; rw [if_pos (by omega)])
    go_wp2_with (first | ((go_at_call 41; with_reducible refine (within_yes ?_ _).mono ?_); (focus omega); rintro e w' ⟨rfl, rfl⟩) | ((go_at_call 41; with_reducible refine (within_no ?_ _).mono ?_); (focus omega); rintro e w' ⟨rfl, rfl⟩))
    go_ret
    exact ⟨ret_int HF.out.symm, (by repeat' (first | (with_reducible exact Below.refl _ _) | (with_reducible assumption) | (with_reducible refine below_drewN ?_ _) | (with_reducible refine Below.drew ?_) | (with_reducible refine ext_alloc ?_ _) | (with_reducible refine Below.setCell ?_ ?_ _) | go_size))⟩
  by_cases b1 : s < 1 ∨ 1000000000 < s
  · have HF : Hid (plrF d s r f i 3 l t lo hi a x y z = 1) := hide (by unfold plrF; rw [if_pos (by omega)])
    go_wp2_with (first | ((go_at_call 41; with_reducible refine (within_yes ?_ _).mono ?_); (focus omega); rintro e w' ⟨rfl, rfl⟩) | ((go_at_call 41; with_reducible refine (within_no ?_ _).mono ?_); (focus omega); rintro e w' ⟨rfl, rfl⟩))
    go_ret
    exact ⟨ret_int HF.out.symm, (by repeat' (first | (with_reducible exact Below.refl _ _) | (with_reducible assumption) | (with_reducible refine below_drewN ?_ _) | (with_reducible refine Below.drew ?_) | (with_reducible refine ext_alloc ?_ _) | (with_reducible refine Below.setCell ?_ ?_ _) | go_size))⟩
  by_cases b2 : r < 1 ∨ 1000000000 < r
  · have HF : Hid (plrF d s r f i 3 l t lo hi a x y z = 1) := hide (by unfold plrF; rw [if_pos (by omega)])
    go_wp2_with (first | ((go_at_call 41; with_reducible refine (within_yes ?_ _).mono ?_); (focus omega); rintro e w' ⟨rfl, rfl⟩) | ((go_at_call 41; with_reducible refine (within_no ?_ _).mono ?_); (focus omega); rintro e w' ⟨rfl, rfl⟩))
    go_ret
    exact ⟨ret_int HF.out.symm, (by repeat' (first | (with_reducible exact Below.refl _ _) | (with_reducible assumption) | (with_reducible refine below_drewN ?_ _) | (with_reducible refine Below.drew ?_) | (with_reducible refine ext_alloc ?_ _) | (with_reducible refine Below.setCell ?_ ?_ _) | go_size))⟩
  by_cases b3 : f < 1 ∨ 1000000000 < f
  · have HF : Hid (plrF d s r f i 3 l t lo hi a x y z = 1) := hide (by unfold plrF; rw [if_pos (by omega)])
    go_wp2_with (first | ((go_at_call 41; with_reducible refine (within_yes ?_ _).mono ?_); (focus omega); rintro e w' ⟨rfl, rfl⟩) | ((go_at_call 41; with_reducible refine (within_no ?_ _).mono ?_); (focus omega); rintro e w' ⟨rfl, rfl⟩))
    go_ret
    exact ⟨ret_int HF.out.symm, (by repeat' (first | (with_reducible exact Below.refl _ _) | (with_reducible assumption) | (with_reducible refine below_drewN ?_ _) | (with_reducible refine Below.drew ?_) | (with_reducible refine ext_alloc ?_ _) | (with_reducible refine Below.setCell ?_ ?_ _) | go_size))⟩
  by_cases b4 : i < 0 ∨ 19 < i
  · have HF : Hid (plrF d s r f i 3 l t lo hi a x y z = 1) := hide (by unfold plrF; rw [if_pos (by omega)])
    go_wp2_with (first | ((go_at_call 41; with_reducible refine (within_yes ?_ _).mono ?_); (focus omega); rintro e w' ⟨rfl, rfl⟩) | ((go_at_call 41; with_reducible refine (within_no ?_ _).mono ?_); (focus omega); rintro e w' ⟨rfl, rfl⟩))
    go_ret
    exact ⟨ret_int HF.out.symm, (by repeat' (first | (with_reducible exact Below.refl _ _) | (with_reducible assumption) | (with_reducible refine below_drewN ?_ _) | (with_reducible refine Below.drew ?_) | (with_reducible refine ext_alloc ?_ _) | (with_reducible refine Below.setCell ?_ ?_ _) | go_size))⟩
  have hnr : ¬(d < 0 ∨ 100000 < d ∨ s < 1 ∨ 1000000000 < s ∨ r < 1 ∨ 1000000000 < r ∨ f < 1 ∨ 1000000000 < f ∨ i < 0 ∨ 19 < i) := by omega
  have HNR := hide hnr
  go_wp2_with (first | ((go_at_call 41; with_reducible refine (within_yes ?_ _).mono ?_); (focus omega); rintro e w' ⟨rfl, rfl⟩) | ((go_at_call 41; with_reducible refine (within_no ?_ _).mono ?_); (focus omega); rintro e w' ⟨rfl, rfl⟩))
  clear hnr b0 b1 b2 b3 b4
  by_cases nl : (0 : Int) = l
  rotate_left
  · have n2 : ((0 : Int) == l) = false := by simpa using nl
    have hu : unuB 3 l t lo hi a x y z = true := by unfold unuB; rw [if_neg (by decide), if_pos rfl]; exact decide_eq_true (by omega)
    have HF : Hid (plrF d s r f i 3 l t lo hi a x y z = 3) := hide (by unfold plrF; rw [if_neg HNR.out, if_neg (by omega), if_pos hu])
    clear hu
    have EX := Ext.drew (w.alloc (.cells #[.int .i64 d, .int .i64 s, .int .i64 r, .int .i64 f, .int .i64 i, .int .i64 3, .int .i64 l, .int .i64 t, .int .i64 lo, .int .i64 hi, .int .i64 a, .int .i64 x, .int .i64 y, .int .i64 z] 30))
    go_region_held3 (fun w' => w'.cell? ⟨w.heap.size, 0, none⟩ = some (.int .i64 d) ∧ w'.cell? ⟨w.heap.size, 1, none⟩ = some (.int .i64 s) ∧ w'.cell? ⟨w.heap.size, 2, none⟩ = some (.int .i64 r) ∧ w'.cell? ⟨w.heap.size, 3, none⟩ = some (.int .i64 f) ∧ w'.cell? ⟨w.heap.size, 4, none⟩ = some (.int .i64 i) ∧ w'.cell? ⟨w.heap.size, 5, none⟩ = some (.int .i64 3) ∧ w'.cell? ⟨w.heap.size, 6, none⟩ = some (.int .i64 l) ∧ w'.cell? ⟨w.heap.size, 7, none⟩ = some (.int .i64 t) ∧ w'.cell? ⟨w.heap.size, 8, none⟩ = some (.int .i64 lo) ∧ w'.cell? ⟨w.heap.size, 9, none⟩ = some (.int .i64 hi) ∧ w'.cell? ⟨w.heap.size, 10, none⟩ = some (.int .i64 a) ∧ w'.cell? ⟨w.heap.size, 11, none⟩ = some (.int .i64 x) ∧ w'.cell? ⟨w.heap.size, 12, none⟩ = some (.int .i64 y) ∧ w'.cell? ⟨w.heap.size, 13, none⟩ = some (.int .i64 z)) (first | go_keep | exact HCL.out _ EX) (first | ((go_at_call 84; with_reducible refine (HUC.out _).mono ?_); rintro e w8 ⟨rfl, e8⟩; have EX := Ext.trans EX e8))
    have EX9 := Ext.trans (Ext.alloc w (.cells #[.int .i64 d, .int .i64 s, .int .i64 r, .int .i64 f, .int .i64 i, .int .i64 3, .int .i64 l, .int .i64 t, .int .i64 lo, .int .i64 hi, .int .i64 a, .int .i64 x, .int .i64 y, .int .i64 z] 30)) EX
    go_wp2
    go_ret
    exact ⟨ret_int HF.out.symm, EX9⟩
  subst nl
  by_cases nt : (0 : Int) = t
  rotate_left
  · have n2 : ((0 : Int) == t) = false := by simpa using nt
    have hu : unuB 3 0 t lo hi a x y z = true := by unfold unuB; rw [if_neg (by decide), if_pos rfl]; exact decide_eq_true (by omega)
    have HF : Hid (plrF d s r f i 3 0 t lo hi a x y z = 3) := hide (by unfold plrF; rw [if_neg HNR.out, if_neg (by omega), if_pos hu])
    clear hu
    have EX := Ext.drew (w.alloc (.cells #[.int .i64 d, .int .i64 s, .int .i64 r, .int .i64 f, .int .i64 i, .int .i64 3, .int .i64 0, .int .i64 t, .int .i64 lo, .int .i64 hi, .int .i64 a, .int .i64 x, .int .i64 y, .int .i64 z] 30))
    go_region_held3 (fun w' => w'.cell? ⟨w.heap.size, 0, none⟩ = some (.int .i64 d) ∧ w'.cell? ⟨w.heap.size, 1, none⟩ = some (.int .i64 s) ∧ w'.cell? ⟨w.heap.size, 2, none⟩ = some (.int .i64 r) ∧ w'.cell? ⟨w.heap.size, 3, none⟩ = some (.int .i64 f) ∧ w'.cell? ⟨w.heap.size, 4, none⟩ = some (.int .i64 i) ∧ w'.cell? ⟨w.heap.size, 5, none⟩ = some (.int .i64 3) ∧ w'.cell? ⟨w.heap.size, 6, none⟩ = some (.int .i64 0) ∧ w'.cell? ⟨w.heap.size, 7, none⟩ = some (.int .i64 t) ∧ w'.cell? ⟨w.heap.size, 8, none⟩ = some (.int .i64 lo) ∧ w'.cell? ⟨w.heap.size, 9, none⟩ = some (.int .i64 hi) ∧ w'.cell? ⟨w.heap.size, 10, none⟩ = some (.int .i64 a) ∧ w'.cell? ⟨w.heap.size, 11, none⟩ = some (.int .i64 x) ∧ w'.cell? ⟨w.heap.size, 12, none⟩ = some (.int .i64 y) ∧ w'.cell? ⟨w.heap.size, 13, none⟩ = some (.int .i64 z)) (first | go_keep | exact HCL.out _ EX) (first | ((go_at_call 84; with_reducible refine (HUC.out _).mono ?_); rintro e w8 ⟨rfl, e8⟩; have EX := Ext.trans EX e8))
    have EX9 := Ext.trans (Ext.alloc w (.cells #[.int .i64 d, .int .i64 s, .int .i64 r, .int .i64 f, .int .i64 i, .int .i64 3, .int .i64 0, .int .i64 t, .int .i64 lo, .int .i64 hi, .int .i64 a, .int .i64 x, .int .i64 y, .int .i64 z] 30)) EX
    go_wp2
    go_ret
    exact ⟨ret_int HF.out.symm, EX9⟩
  subst nt
  by_cases na : (0 : Int) = a
  rotate_left
  · have n2 : ((0 : Int) == a) = false := by simpa using na
    have hu : unuB 3 0 0 lo hi a x y z = true := by unfold unuB; rw [if_neg (by decide), if_pos rfl]; exact decide_eq_true (by omega)
    have HF : Hid (plrF d s r f i 3 0 0 lo hi a x y z = 3) := hide (by unfold plrF; rw [if_neg HNR.out, if_neg (by omega), if_pos hu])
    clear hu
    have EX := Ext.drew (w.alloc (.cells #[.int .i64 d, .int .i64 s, .int .i64 r, .int .i64 f, .int .i64 i, .int .i64 3, .int .i64 0, .int .i64 0, .int .i64 lo, .int .i64 hi, .int .i64 a, .int .i64 x, .int .i64 y, .int .i64 z] 30))
    go_region_held3 (fun w' => w'.cell? ⟨w.heap.size, 0, none⟩ = some (.int .i64 d) ∧ w'.cell? ⟨w.heap.size, 1, none⟩ = some (.int .i64 s) ∧ w'.cell? ⟨w.heap.size, 2, none⟩ = some (.int .i64 r) ∧ w'.cell? ⟨w.heap.size, 3, none⟩ = some (.int .i64 f) ∧ w'.cell? ⟨w.heap.size, 4, none⟩ = some (.int .i64 i) ∧ w'.cell? ⟨w.heap.size, 5, none⟩ = some (.int .i64 3) ∧ w'.cell? ⟨w.heap.size, 6, none⟩ = some (.int .i64 0) ∧ w'.cell? ⟨w.heap.size, 7, none⟩ = some (.int .i64 0) ∧ w'.cell? ⟨w.heap.size, 8, none⟩ = some (.int .i64 lo) ∧ w'.cell? ⟨w.heap.size, 9, none⟩ = some (.int .i64 hi) ∧ w'.cell? ⟨w.heap.size, 10, none⟩ = some (.int .i64 a) ∧ w'.cell? ⟨w.heap.size, 11, none⟩ = some (.int .i64 x) ∧ w'.cell? ⟨w.heap.size, 12, none⟩ = some (.int .i64 y) ∧ w'.cell? ⟨w.heap.size, 13, none⟩ = some (.int .i64 z)) (first | go_keep | exact HCL.out _ EX) (first | ((go_at_call 84; with_reducible refine (HUC.out _).mono ?_); rintro e w8 ⟨rfl, e8⟩; have EX := Ext.trans EX e8))
    have EX9 := Ext.trans (Ext.alloc w (.cells #[.int .i64 d, .int .i64 s, .int .i64 r, .int .i64 f, .int .i64 i, .int .i64 3, .int .i64 0, .int .i64 0, .int .i64 lo, .int .i64 hi, .int .i64 a, .int .i64 x, .int .i64 y, .int .i64 z] 30)) EX
    go_wp2
    go_ret
    exact ⟨ret_int HF.out.symm, EX9⟩
  subst na
  by_cases nx : (0 : Int) = x
  rotate_left
  · have n2 : ((0 : Int) == x) = false := by simpa using nx
    have hu : unuB 3 0 0 lo hi 0 x y z = true := by unfold unuB; rw [if_neg (by decide), if_pos rfl]; exact decide_eq_true (by omega)
    have HF : Hid (plrF d s r f i 3 0 0 lo hi 0 x y z = 3) := hide (by unfold plrF; rw [if_neg HNR.out, if_neg (by omega), if_pos hu])
    clear hu
    have EX := Ext.drew (w.alloc (.cells #[.int .i64 d, .int .i64 s, .int .i64 r, .int .i64 f, .int .i64 i, .int .i64 3, .int .i64 0, .int .i64 0, .int .i64 lo, .int .i64 hi, .int .i64 0, .int .i64 x, .int .i64 y, .int .i64 z] 30))
    go_region_held3 (fun w' => w'.cell? ⟨w.heap.size, 0, none⟩ = some (.int .i64 d) ∧ w'.cell? ⟨w.heap.size, 1, none⟩ = some (.int .i64 s) ∧ w'.cell? ⟨w.heap.size, 2, none⟩ = some (.int .i64 r) ∧ w'.cell? ⟨w.heap.size, 3, none⟩ = some (.int .i64 f) ∧ w'.cell? ⟨w.heap.size, 4, none⟩ = some (.int .i64 i) ∧ w'.cell? ⟨w.heap.size, 5, none⟩ = some (.int .i64 3) ∧ w'.cell? ⟨w.heap.size, 6, none⟩ = some (.int .i64 0) ∧ w'.cell? ⟨w.heap.size, 7, none⟩ = some (.int .i64 0) ∧ w'.cell? ⟨w.heap.size, 8, none⟩ = some (.int .i64 lo) ∧ w'.cell? ⟨w.heap.size, 9, none⟩ = some (.int .i64 hi) ∧ w'.cell? ⟨w.heap.size, 10, none⟩ = some (.int .i64 0) ∧ w'.cell? ⟨w.heap.size, 11, none⟩ = some (.int .i64 x) ∧ w'.cell? ⟨w.heap.size, 12, none⟩ = some (.int .i64 y) ∧ w'.cell? ⟨w.heap.size, 13, none⟩ = some (.int .i64 z)) (first | go_keep | exact HCL.out _ EX) (first | ((go_at_call 84; with_reducible refine (HUC.out _).mono ?_); rintro e w8 ⟨rfl, e8⟩; have EX := Ext.trans EX e8))
    have EX9 := Ext.trans (Ext.alloc w (.cells #[.int .i64 d, .int .i64 s, .int .i64 r, .int .i64 f, .int .i64 i, .int .i64 3, .int .i64 0, .int .i64 0, .int .i64 lo, .int .i64 hi, .int .i64 0, .int .i64 x, .int .i64 y, .int .i64 z] 30)) EX
    go_wp2
    go_ret
    exact ⟨ret_int HF.out.symm, EX9⟩
  subst nx
  by_cases ny : (0 : Int) = y
  rotate_left
  · have n2 : ((0 : Int) == y) = false := by simpa using ny
    have hu : unuB 3 0 0 lo hi 0 0 y z = true := by unfold unuB; rw [if_neg (by decide), if_pos rfl]; exact decide_eq_true (by omega)
    have HF : Hid (plrF d s r f i 3 0 0 lo hi 0 0 y z = 3) := hide (by unfold plrF; rw [if_neg HNR.out, if_neg (by omega), if_pos hu])
    clear hu
    have EX := Ext.drew (w.alloc (.cells #[.int .i64 d, .int .i64 s, .int .i64 r, .int .i64 f, .int .i64 i, .int .i64 3, .int .i64 0, .int .i64 0, .int .i64 lo, .int .i64 hi, .int .i64 0, .int .i64 0, .int .i64 y, .int .i64 z] 30))
    go_region_held3 (fun w' => w'.cell? ⟨w.heap.size, 0, none⟩ = some (.int .i64 d) ∧ w'.cell? ⟨w.heap.size, 1, none⟩ = some (.int .i64 s) ∧ w'.cell? ⟨w.heap.size, 2, none⟩ = some (.int .i64 r) ∧ w'.cell? ⟨w.heap.size, 3, none⟩ = some (.int .i64 f) ∧ w'.cell? ⟨w.heap.size, 4, none⟩ = some (.int .i64 i) ∧ w'.cell? ⟨w.heap.size, 5, none⟩ = some (.int .i64 3) ∧ w'.cell? ⟨w.heap.size, 6, none⟩ = some (.int .i64 0) ∧ w'.cell? ⟨w.heap.size, 7, none⟩ = some (.int .i64 0) ∧ w'.cell? ⟨w.heap.size, 8, none⟩ = some (.int .i64 lo) ∧ w'.cell? ⟨w.heap.size, 9, none⟩ = some (.int .i64 hi) ∧ w'.cell? ⟨w.heap.size, 10, none⟩ = some (.int .i64 0) ∧ w'.cell? ⟨w.heap.size, 11, none⟩ = some (.int .i64 0) ∧ w'.cell? ⟨w.heap.size, 12, none⟩ = some (.int .i64 y) ∧ w'.cell? ⟨w.heap.size, 13, none⟩ = some (.int .i64 z)) (first | go_keep | exact HCL.out _ EX) (first | ((go_at_call 84; with_reducible refine (HUC.out _).mono ?_); rintro e w8 ⟨rfl, e8⟩; have EX := Ext.trans EX e8))
    have EX9 := Ext.trans (Ext.alloc w (.cells #[.int .i64 d, .int .i64 s, .int .i64 r, .int .i64 f, .int .i64 i, .int .i64 3, .int .i64 0, .int .i64 0, .int .i64 lo, .int .i64 hi, .int .i64 0, .int .i64 0, .int .i64 y, .int .i64 z] 30)) EX
    go_wp2
    go_ret
    exact ⟨ret_int HF.out.symm, EX9⟩
  subst ny
  by_cases nz : (0 : Int) = z
  rotate_left
  · have n2 : ((0 : Int) == z) = false := by simpa using nz
    have hu : unuB 3 0 0 lo hi 0 0 0 z = true := by unfold unuB; rw [if_neg (by decide), if_pos rfl]; exact decide_eq_true (by omega)
    have HF : Hid (plrF d s r f i 3 0 0 lo hi 0 0 0 z = 3) := hide (by unfold plrF; rw [if_neg HNR.out, if_neg (by omega), if_pos hu])
    clear hu
    have EX := Ext.drew (w.alloc (.cells #[.int .i64 d, .int .i64 s, .int .i64 r, .int .i64 f, .int .i64 i, .int .i64 3, .int .i64 0, .int .i64 0, .int .i64 lo, .int .i64 hi, .int .i64 0, .int .i64 0, .int .i64 0, .int .i64 z] 30))
    go_region_held3 (fun w' => w'.cell? ⟨w.heap.size, 0, none⟩ = some (.int .i64 d) ∧ w'.cell? ⟨w.heap.size, 1, none⟩ = some (.int .i64 s) ∧ w'.cell? ⟨w.heap.size, 2, none⟩ = some (.int .i64 r) ∧ w'.cell? ⟨w.heap.size, 3, none⟩ = some (.int .i64 f) ∧ w'.cell? ⟨w.heap.size, 4, none⟩ = some (.int .i64 i) ∧ w'.cell? ⟨w.heap.size, 5, none⟩ = some (.int .i64 3) ∧ w'.cell? ⟨w.heap.size, 6, none⟩ = some (.int .i64 0) ∧ w'.cell? ⟨w.heap.size, 7, none⟩ = some (.int .i64 0) ∧ w'.cell? ⟨w.heap.size, 8, none⟩ = some (.int .i64 lo) ∧ w'.cell? ⟨w.heap.size, 9, none⟩ = some (.int .i64 hi) ∧ w'.cell? ⟨w.heap.size, 10, none⟩ = some (.int .i64 0) ∧ w'.cell? ⟨w.heap.size, 11, none⟩ = some (.int .i64 0) ∧ w'.cell? ⟨w.heap.size, 12, none⟩ = some (.int .i64 0) ∧ w'.cell? ⟨w.heap.size, 13, none⟩ = some (.int .i64 z)) (first | go_keep | exact HCL.out _ EX) (first | ((go_at_call 84; with_reducible refine (HUC.out _).mono ?_); rintro e w8 ⟨rfl, e8⟩; have EX := Ext.trans EX e8))
    have EX9 := Ext.trans (Ext.alloc w (.cells #[.int .i64 d, .int .i64 s, .int .i64 r, .int .i64 f, .int .i64 i, .int .i64 3, .int .i64 0, .int .i64 0, .int .i64 lo, .int .i64 hi, .int .i64 0, .int .i64 0, .int .i64 0, .int .i64 z] 30)) EX
    go_wp2
    go_ret
    exact ⟨ret_int HF.out.symm, EX9⟩
  subst nz
  have hu : ¬ unuB 3 0 0 lo hi 0 0 0 0 = true := by
    have h : unuB 3 0 0 lo hi 0 0 0 0 = false := by unfold unuB; rw [if_neg (by decide), if_pos rfl]; exact decide_eq_false (by omega)
    rw [h]; decide
  have HN := hide hu
  clear hu
  have EX := Ext.drew (w.alloc (.cells #[.int .i64 d, .int .i64 s, .int .i64 r, .int .i64 f, .int .i64 i, .int .i64 3, .int .i64 0, .int .i64 0, .int .i64 lo, .int .i64 hi, .int .i64 0, .int .i64 0, .int .i64 0, .int .i64 0] 30))
  go_region_held3 (fun w' => w'.cell? ⟨w.heap.size, 0, none⟩ = some (.int .i64 d) ∧ w'.cell? ⟨w.heap.size, 1, none⟩ = some (.int .i64 s) ∧ w'.cell? ⟨w.heap.size, 2, none⟩ = some (.int .i64 r) ∧ w'.cell? ⟨w.heap.size, 3, none⟩ = some (.int .i64 f) ∧ w'.cell? ⟨w.heap.size, 4, none⟩ = some (.int .i64 i) ∧ w'.cell? ⟨w.heap.size, 5, none⟩ = some (.int .i64 3) ∧ w'.cell? ⟨w.heap.size, 6, none⟩ = some (.int .i64 0) ∧ w'.cell? ⟨w.heap.size, 7, none⟩ = some (.int .i64 0) ∧ w'.cell? ⟨w.heap.size, 8, none⟩ = some (.int .i64 lo) ∧ w'.cell? ⟨w.heap.size, 9, none⟩ = some (.int .i64 hi) ∧ w'.cell? ⟨w.heap.size, 10, none⟩ = some (.int .i64 0) ∧ w'.cell? ⟨w.heap.size, 11, none⟩ = some (.int .i64 0) ∧ w'.cell? ⟨w.heap.size, 12, none⟩ = some (.int .i64 0) ∧ w'.cell? ⟨w.heap.size, 13, none⟩ = some (.int .i64 0)) (first | go_keep | exact HCL.out _ EX) (first | ((go_at_call 84; with_reducible refine (HUC.out _).mono ?_); rintro e w8 ⟨rfl, e8⟩; have EX := Ext.trans EX e8))
  have EX9 := Ext.trans (Ext.alloc w (.cells #[.int .i64 d, .int .i64 s, .int .i64 r, .int .i64 f, .int .i64 i, .int .i64 3, .int .i64 0, .int .i64 0, .int .i64 lo, .int .i64 hi, .int .i64 0, .int .i64 0, .int .i64 0, .int .i64 0] 30)) EX
  obtain ⟨c0, c1, c2, c3, c4, c5, c6, c7, c8, c9, c10, c11, c12, c13⟩ := HCL.out _ EX
  clear EX
  by_cases g1 : lo < 0 ∨ 1000000000 < lo
  · have HF : Hid (plrF d s r f i 3 0 0 lo hi 0 0 0 0 = 1) := hide (by unfold plrF; rw [if_neg HNR.out, if_neg (by omega), if_neg HN.out, if_pos (by omega)])
    go_wp2_with (first | ((go_at_call 41; with_reducible refine (within_yes ?_ _).mono ?_); (focus omega); rintro e w' ⟨rfl, rfl⟩) | ((go_at_call 41; with_reducible refine (within_no ?_ _).mono ?_); (focus omega); rintro e w' ⟨rfl, rfl⟩))
    go_ret
    exact ⟨ret_int HF.out.symm, EX9⟩
  by_cases g2 : hi < 1 ∨ 1000000000 < hi
  · have HF : Hid (plrF d s r f i 3 0 0 lo hi 0 0 0 0 = 1) := hide (by unfold plrF; rw [if_neg HNR.out, if_neg (by omega), if_neg HN.out, if_pos (by omega)])
    go_wp2_with (first | ((go_at_call 41; with_reducible refine (within_yes ?_ _).mono ?_); (focus omega); rintro e w' ⟨rfl, rfl⟩) | ((go_at_call 41; with_reducible refine (within_no ?_ _).mono ?_); (focus omega); rintro e w' ⟨rfl, rfl⟩))
    go_ret
    exact ⟨ret_int HF.out.symm, EX9⟩
  by_cases g3 : hi ≤ lo
  · have HF : Hid (plrF d s r f i 3 0 0 lo hi 0 0 0 0 = 8) := hide (by unfold plrF; rw [if_neg HNR.out, if_neg (by omega), if_neg HN.out, if_neg (by omega), if_pos (by omega)])
    go_wp2_with (first | ((go_at_call 41; with_reducible refine (within_yes ?_ _).mono ?_); (focus omega); rintro e w' ⟨rfl, rfl⟩) | ((go_at_call 41; with_reducible refine (within_no ?_ _).mono ?_); (focus omega); rintro e w' ⟨rfl, rfl⟩))
    go_ret
    exact ⟨ret_int HF.out.symm, EX9⟩
  have HF : Hid (plrF d s r f i 3 0 0 lo hi 0 0 0 0 = 0) := hide (by unfold plrF; rw [if_neg HNR.out, if_neg (by omega), if_neg HN.out, if_neg (by omega), if_neg (by omega), if_neg (by omega), if_neg (by omega)])
  go_wp2_with (first | ((go_at_call 41; with_reducible refine (within_yes ?_ _).mono ?_); (focus omega); rintro e w' ⟨rfl, rfl⟩) | ((go_at_call 41; with_reducible refine (within_no ?_ _).mono ?_); (focus omega); rintro e w' ⟨rfl, rfl⟩))
  go_ret
  exact ⟨ret_int HF.out.symm, EX9⟩
end Go.Proofs.Ytjbgkoeojfmkkaa
