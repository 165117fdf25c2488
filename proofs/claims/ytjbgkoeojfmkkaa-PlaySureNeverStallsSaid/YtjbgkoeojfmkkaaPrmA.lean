/- Walks: the faults of a promise; what is asked of Sure and Least; when a segment comes by a promise. Conditions as stated. -/
import Derived.Test.YtjbgkoeojfmkkaaRunR
import Derived.Test.YtjbgkoeojfmkkaaWithP
namespace Go.Proofs.Ytjbgkoeojfmkkaa
open Go.RowKit

/-- The fault of a promise. -/
def prmF (gw gb : Int) : Int := if gw < 1 ∨ 1000000 < gw ∨ gb < 1 ∨ 1000000000 < gb then 1 else 0
set_option maxHeartbeats 1000000 in
theorem promiseFault_any (gw gb : Int) (w : World) :
    Calls Try.prog 36 #[.agg #[.int .i64 gw, .int .i64 gb]] w fun e w' => e = .returned (.int .i64 (prmF gw gb)) ∧ Ext w w' := by
  have hv : prmF gw gb = if gw < 1 ∨ 1000000 < gw ∨ gb < 1 ∨ 1000000000 < gb then 1 else 0 := rfl
  generalize prmF gw gb = v at *
  by_cases h1 : gw < 1 ∨ 1000000 < gw
  · have HV : Hid (v = 1) := hide (by rw [hv, if_pos (by omega)])
    clear hv
    go_enter Try.func36, Try.ntmps36
    go_wp2_with (first | ((go_at_call 37; with_reducible refine (out_no ?_ _).mono ?_); (focus omega); rintro e w' ⟨rfl, rfl⟩) | ((go_at_call 37; with_reducible refine (out_yes ?_ _).mono ?_); (focus omega); rintro e w' ⟨rfl, rfl⟩))
    go_ret
    exact ⟨ret_int HV.out.symm, Ext.alloc _ _⟩
  by_cases h2 : gb < 1 ∨ 1000000000 < gb
  · have HV : Hid (v = 1) := hide (by rw [hv, if_pos (by omega)])
    clear hv
    go_enter Try.func36, Try.ntmps36
    go_wp2_with (first | ((go_at_call 37; with_reducible refine (out_no ?_ _).mono ?_); (focus omega); rintro e w' ⟨rfl, rfl⟩) | ((go_at_call 37; with_reducible refine (out_yes ?_ _).mono ?_); (focus omega); rintro e w' ⟨rfl, rfl⟩))
    go_ret
    exact ⟨ret_int HV.out.symm, Ext.alloc _ _⟩
  · have HV : Hid (v = 0) := hide (by rw [hv, if_neg (by omega)])
    clear hv
    go_enter Try.func36, Try.ntmps36
    go_wp2_with (first | ((go_at_call 37; with_reducible refine (out_no ?_ _).mono ?_); (focus omega); rintro e w' ⟨rfl, rfl⟩) | ((go_at_call 37; with_reducible refine (out_yes ?_ _).mono ?_); (focus omega); rintro e w' ⟨rfl, rfl⟩))
    go_ret
    exact ⟨ret_int HV.out.symm, Ext.alloc _ _⟩
set_option maxHeartbeats 1000000 in
theorem checkPromise_any (gw gb : Int) (w : World) :
    Calls Try.prog 40 #[.agg #[.int .i64 gw, .int .i64 gb]] w fun e w' => e = .returned (.int .i64 (prmF gw gb)) ∧ Ext w w' := by
  have hv : prmF gw gb = if gw < 1 ∨ 1000000 < gw ∨ gb < 1 ∨ 1000000000 < gb then 1 else 0 := rfl
  generalize prmF gw gb = v at *
  by_cases h1 : gw < 1 ∨ 1000000 < gw
  · have HV : Hid (v = 1) := hide (by rw [hv, if_pos (by omega)])
    clear hv
    go_enter Try.func40, Try.ntmps40
    go_wp2_with (first | ((go_at_call 41; with_reducible refine (within_yes ?_ _).mono ?_); (focus omega); rintro e w' ⟨rfl, rfl⟩) | ((go_at_call 41; with_reducible refine (within_no ?_ _).mono ?_); (focus omega); rintro e w' ⟨rfl, rfl⟩))
    go_ret
    exact ⟨ret_int HV.out.symm, Ext.alloc _ _⟩
  by_cases h2 : gb < 1 ∨ 1000000000 < gb
  · have HV : Hid (v = 1) := hide (by rw [hv, if_pos (by omega)])
    clear hv
    go_enter Try.func40, Try.ntmps40
    go_wp2_with (first | ((go_at_call 41; with_reducible refine (within_yes ?_ _).mono ?_); (focus omega); rintro e w' ⟨rfl, rfl⟩) | ((go_at_call 41; with_reducible refine (within_no ?_ _).mono ?_); (focus omega); rintro e w' ⟨rfl, rfl⟩))
    go_ret
    exact ⟨ret_int HV.out.symm, Ext.alloc _ _⟩
  · have HV : Hid (v = 0) := hide (by rw [hv, if_neg (by omega)])
    clear hv
    go_enter Try.func40, Try.ntmps40
    go_wp2_with (first | ((go_at_call 41; with_reducible refine (within_yes ?_ _).mono ?_); (focus omega); rintro e w' ⟨rfl, rfl⟩) | ((go_at_call 41; with_reducible refine (within_no ?_ _).mono ?_); (focus omega); rintro e w' ⟨rfl, rfl⟩))
    go_ret
    exact ⟨ret_int HV.out.symm, Ext.alloc _ _⟩
section
variable {lA : Option Addr} {ln lc : Nat} {sA : Option Addr} {sn sc : Nat} {qA : Option Addr} {qn qc : Nat} {w : World} {L : List Int} {S : List (List Int)} {Q : List Int} {C : List Int}
/-- The fault of what Sure and Least are given. -/
def surF (L : List Int) (S : List (List Int)) (Q : List Int) (C : List Int) (d s r f i k l t lo hi a x y z gw gb : Int) : Int :=
  if filmF L S Q ≠ 0 then filmF L S Q else if fstF S.length d s r f i k l t lo hi a x y z ≠ 0 then fstF S.length d s r f i k l t lo hi a x y z else if prmF gw gb ≠ 0 then prmF gw gb else chsF L.length S.length C
theorem surF_zero {d s r f i k l t lo hi a x y z gw gb : Int} (h : surF L S Q C d s r f i k l t lo hi a x y z gw gb = 0) : filmF L S Q = 0 ∧ (0 ≤ d ∧ d ≤ 100000) ∧ (1 ≤ f ∧ f ≤ 1000000000) ∧ (1 ≤ gw ∧ gw ≤ 1000000 ∧ 1 ≤ gb ∧ gb ≤ 1000000000) ∧ chsF L.length S.length C = 0 ∧ plrF d s r f i k l t lo hi a x y z = 0 := by
  unfold surF at h
  by_cases c1 : filmF L S Q = 0
  · rw [if_neg (by omega)] at h
    by_cases c2 : fstF S.length d s r f i k l t lo hi a x y z = 0
    · rw [if_neg (by omega)] at h
      by_cases c3 : prmF gw gb = 0
      · rw [if_neg (by omega)] at h
        have hp := (fstF_zero c2).1
        obtain ⟨h1, h2⟩ := plrF_zero hp
        unfold prmF at c3
        by_cases c4 : gw < 1 ∨ 1000000 < gw ∨ gb < 1 ∨ 1000000000 < gb
        · rw [if_pos c4] at c3; omega
        · exact ⟨c1, h1, h2, by omega, h, hp⟩
      · rw [if_pos c3] at h; exact absurd h c3
    · rw [if_pos c2] at h; exact absurd h c2
  · rw [if_pos c1] at h; exact absurd h c1
set_option maxRecDepth 100000 in
set_option maxHeartbeats 8000000 in
theorem sureFault_any {d s r f i k l t lo hi a x y z gw gb : Int} {cA : Option Addr} {cn cc : Nat} (h : Shw w lA ln lc sA sn sc qA qn qc L S Q) (hC : At w 1 e64 cA cn cc C) :
    Calls Try.prog 43 #[shV lA ln lc sA sn sc qA qn qc, plV d s r f i k l t lo hi a x y z, .agg #[.int .i64 gw, .int .i64 gb], .slice cA cn cc] w fun e w' => e = .returned (.int .i64 (surF L S Q C d s r f i k l t lo hi a x y z gw gb)) ∧ Ext w w' := by
  have HF := hide (fun (W : World) (hW : Ext w W) => keyFilm_any (h.ext hW))
  have HP := hide (fun (W : World) => firstFault_any (lA := lA) (ln := ln) (lc := lc) (sA := sA) (sn := sn) (sc := sc) (qA := qA) (qn := qn) (qc := qc) (d := d) (s := s) (r := r) (f := f) (i := i) (k := k) (l := l) (t := t) (lo := lo) (hi := hi) (a := a) (x := x) (y := y) (z := z) (w := W))
  have HG := hide (fun (W : World) => promiseFault_any gw gb W)
  have hsl := h.sizes.len
  have hll := h.longs.len
  have HCH : Hid (filmF L S Q = 0 → ∀ W, Ext w W → Calls Try.prog 27 #[shV lA ln lc sA sn sc qA qn qc, .slice cA cn cc] W fun e w' => e = .returned (.int .i64 (chsF ln sn C)) ∧ Ext W w') := hide (fun h1 W hW => choicesFault_any (by have := (filmF_ok h1).s1; omega) (hC.ext hW))
  have hv : surF L S Q C d s r f i k l t lo hi a x y z gw gb = if filmF L S Q ≠ 0 then filmF L S Q else if fstF sn d s r f i k l t lo hi a x y z ≠ 0 then fstF sn d s r f i k l t lo hi a x y z else if prmF gw gb ≠ 0 then prmF gw gb else chsF ln sn C := by unfold surF; rw [hsl, hll]
  generalize surF L S Q C d s r f i k l t lo hi a x y z gw gb = v at *
  generalize filmF L S Q = q1 at *
  generalize fstF sn d s r f i k l t lo hi a x y z = q2 at *
  generalize prmF gw gb = q3 at *
  generalize chsF ln sn C = q4 at *
  have HV := hide hv
  clear hv hsl hll h hC
  have B0 := hide (((Blk.new w 25 #[.slice lA ln lc, .slice sA sn sc, .slice qA qn qc]).alloc (.cells #[.int .i64 d, .int .i64 s, .int .i64 r, .int .i64 f, .int .i64 i, .int .i64 k, .int .i64 l, .int .i64 t, .int .i64 lo, .int .i64 hi, .int .i64 a, .int .i64 x, .int .i64 y, .int .i64 z] 30)).alloc (.cells #[.int .i64 gw, .int .i64 gb] 44))
  have b1 := (Blk.new (w.alloc (.cells #[.slice lA ln lc, .slice sA sn sc, .slice qA qn qc] 25)) 30 #[.int .i64 d, .int .i64 s, .int .i64 r, .int .i64 f, .int .i64 i, .int .i64 k, .int .i64 l, .int .i64 t, .int .i64 lo, .int .i64 hi, .int .i64 a, .int .i64 x, .int .i64 y, .int .i64 z]).alloc (.cells #[.int .i64 gw, .int .i64 gb] 44)
  have b2 := Blk.new ((w.alloc (.cells #[.slice lA ln lc, .slice sA sn sc, .slice qA qn qc] 25)).alloc (.cells #[.int .i64 d, .int .i64 s, .int .i64 r, .int .i64 f, .int .i64 i, .int .i64 k, .int .i64 l, .int .i64 t, .int .i64 lo, .int .i64 hi, .int .i64 a, .int .i64 x, .int .i64 y, .int .i64 z] 30)) 44 #[.int .i64 gw, .int .i64 gb]
  simp only [World.size_alloc] at b1 b2
  have B1 := hide b1
  have B2 := hide b2
  have HX : Hid (Ext w (((w.alloc (.cells #[.slice lA ln lc, .slice sA sn sc, .slice qA qn qc] 25)).alloc (.cells #[.int .i64 d, .int .i64 s, .int .i64 r, .int .i64 f, .int .i64 i, .int .i64 k, .int .i64 l, .int .i64 t, .int .i64 lo, .int .i64 hi, .int .i64 a, .int .i64 x, .int .i64 y, .int .i64 z] 30)).alloc (.cells #[.int .i64 gw, .int .i64 gb] 44))) := hide (ext_alloc (ext_alloc (Ext.alloc _ _) _) _)
  clear b1 b2
  go_enter Try.func43, Try.ntmps43
  go_wp2_with fail
  refine (HF.out _ HX.out).mono ?_
  rintro e w1 ⟨rfl, e1⟩
  have E1 := hide (Ext.trans HX.out e1)
  have B0 := hide (B0.out.ext e1)
  have B1 := hide (B1.out.ext e1)
  have B2 := hide (B2.out.ext e1)
  clear e1 HX
  by_cases h1 : q1 = 0
  rotate_left
  · have i1 : (q1 != 0) = true := by simp [h1]
    have HVV : Hid (v = q1) := hide (by rw [HV.out, if_pos h1])
    clear h1
    go_wp2_with fail
    go_ret
    exact ⟨ret_int HVV.out.symm, E1.out⟩
  have i1 : (q1 != 0) = false := by simp [h1]
  have H1 := hide h1
  clear h1
  have r0 := B0.out.cell 0
  have r1 := B0.out.cell 1
  have r2 := B0.out.cell 2
  have p0 := B1.out.cell 0
  have p1 := B1.out.cell 1
  have p2 := B1.out.cell 2
  have p3 := B1.out.cell 3
  have p4 := B1.out.cell 4
  have p5 := B1.out.cell 5
  have p6 := B1.out.cell 6
  have p7 := B1.out.cell 7
  have p8 := B1.out.cell 8
  have p9 := B1.out.cell 9
  have p10 := B1.out.cell 10
  have p11 := B1.out.cell 11
  have p12 := B1.out.cell 12
  have p13 := B1.out.cell 13
  go_wp2_with fail
  refine (HP.out _).mono ?_
  rintro e w2 ⟨rfl, e2⟩
  have E2 := hide (Ext.trans E1.out e2)
  have B0 := hide (B0.out.ext e2)
  have B1 := hide (B1.out.ext e2)
  have B2 := hide (B2.out.ext e2)
  clear e2 E1 r0 r1 r2 p0 p1 p2 p3 p4 p5 p6 p7 p8 p9 p10 p11 p12 p13
  by_cases h2 : q2 = 0
  rotate_left
  · have i2 : (q2 != 0) = true := by simp [h2]
    have HVV : Hid (v = q2) := hide (by rw [HV.out, if_neg (by have := H1.out; omega), if_pos h2])
    clear h2
    go_wp2_with fail
    go_ret
    exact ⟨ret_int HVV.out.symm, E2.out⟩
  have i2 : (q2 != 0) = false := by simp [h2]
  have H2 := hide h2
  clear h2
  have g0 := B2.out.cell 0
  have g1 := B2.out.cell 1
  go_wp2_with fail
  refine (HG.out _).mono ?_
  rintro e w3 ⟨rfl, e3⟩
  have E3 := hide (Ext.trans E2.out e3)
  have B0 := hide (B0.out.ext e3)
  clear e3 E2 g0 g1
  by_cases h3 : q3 = 0
  rotate_left
  · have i3 : (q3 != 0) = true := by simp [h3]
    have HVV : Hid (v = q3) := hide (by rw [HV.out, if_neg (by have := H1.out; omega), if_neg (by have := H2.out; omega), if_pos h3])
    clear h3
    go_wp2_with fail
    go_ret
    exact ⟨ret_int HVV.out.symm, E3.out⟩
  have i3 : (q3 != 0) = false := by simp [h3]
  have HVV : Hid (v = q4) := hide (by rw [HV.out, if_neg (by have := H1.out; omega), if_neg (by have := H2.out; omega), if_neg (by omega)])
  have HC4 := hide (HCH.out H1.out)
  clear h3
  have r0 := B0.out.cell 0
  have r1 := B0.out.cell 1
  have r2 := B0.out.cell 2
  go_wp2_with fail
  refine (HC4.out _ E3.out).mono ?_
  rintro e w4 ⟨rfl, e4⟩
  have E4 := hide (Ext.trans E3.out e4)
  clear e4
  go_wp2_with fail
  go_ret
  exact ⟨ret_int HVV.out.symm, E4.out⟩
end
end Go.Proofs.Ytjbgkoeojfmkkaa
