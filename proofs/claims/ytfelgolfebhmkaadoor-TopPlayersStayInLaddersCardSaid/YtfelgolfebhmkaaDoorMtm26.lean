/- Walks: firstFault, playerFault, runFault, choicesFault. Conditions as stated. -/
import Derived.Test.YtfelgolfebhmkaaDoorMtm07
import Derived.Test.YtfelgolfebhmkaaDoorMtm24
import Derived.Test.YtfelgolfebhmkaaDoorMtm25
import Derived.Test.YtfelgolfebhmkaaDoorMtm18
namespace Go.Proofs.YtfelgolfebhmkaaDoor
open Go.RowKit
section
variable {lA : Option Addr} {ln lc : Nat} {sA : Option Addr} {sn sc : Nat} {qA : Option Addr} {qn qc : Nat} {L : List Int} {S : List (List Int)} {Q : List Int} {d s r f i k l t lo hi a x y z : Int} {w : World}
def fstF (n : Int) (d s r f i k l t lo hi a x y z : Int) : Int := if plrF d s r f i k l t lo hi a x y z ≠ 0 then plrF d s r f i k l t lo hi a x y z else if n ≤ i then 1 else 0
set_option maxHeartbeats 1000000 in
theorem firstFault_any :
    Calls Tryd.prog 43 #[shV lA ln lc sA sn sc qA qn qc, plV d s r f i k l t lo hi a x y z] w fun e w' => e = .returned (.int .i64 (fstF sn d s r f i k l t lo hi a x y z)) ∧ Ext w w' := by
  have HP := hide (fun (W : World) => keyPlr_any (d := d) (s := s) (r := r) (f := f) (i := i) (k := k) (l := l) (t := t) (lo := lo) (hi := hi) (a := a) (x := x) (y := y) (z := z) (w := W))
  have hv : fstF sn d s r f i k l t lo hi a x y z = if plrF d s r f i k l t lo hi a x y z ≠ 0 then plrF d s r f i k l t lo hi a x y z else if (sn : Int) ≤ i then 1 else 0 := rfl
  generalize fstF sn d s r f i k l t lo hi a x y z = v at *
  generalize plrF d s r f i k l t lo hi a x y z = q at *
  have HY : Hid (q ≠ 0 → v = q) := hide (fun h => by rw [hv, if_pos h])
  have HN : Hid (q = 0 → (sn : Int) ≤ i → v = 1) := hide (fun h h2 => by rw [hv, if_neg (by omega), if_pos h2])
  have HM : Hid (q = 0 → ¬ (sn : Int) ≤ i → v = 0) := hide (fun h h2 => by rw [hv, if_neg (by omega), if_neg h2])
  clear hv
  go_enter Tryd.func43, Tryd.ntmps43
  go_wp2_with fail
  refine (HP.out _).mono ?_
  rintro e w1 ⟨rfl, e1⟩
  have q0 : w1.cell? ⟨w.heap.size, 1, none⟩ = some (.slice sA sn sc) := e1.cell (((Blk.new w _ _).alloc _).cell 1)
  have q1 : w1.cell? ⟨w.heap.size + 1, 4, none⟩ = some (.int .i64 i) := e1.cell (by have := (Blk.new (w.alloc (.cells #[.slice lA ln lc, .slice sA sn sc, .slice qA qn qc] 25)) 29 #[.int .i64 d, .int .i64 s, .int .i64 r, .int .i64 f, .int .i64 i, .int .i64 k, .int .i64 l, .int .i64 t, .int .i64 lo, .int .i64 hi, .int .i64 a, .int .i64 x, .int .i64 y, .int .i64 z]).cell 4; rw [World.size_alloc] at this; exact this)
  have E1 : Hid (Ext w w1) := hide (Ext.trans (ext_alloc (Ext.alloc _ _) _) e1)
  clear e1
  by_cases hq : q = 0
  · have i1 : (q != 0) = false := by simp [hq]
    by_cases hi2 : (sn : Int) ≤ i
    · have HV := hide (HN.out hq (by omega))
      clear hq HY HN HM
      go_wp2
      go_ret
      exact ⟨ret_int HV.out.symm, E1.out⟩
    · have HV := hide (HM.out hq (by omega))
      clear hq HY HN HM
      go_wp2
      go_ret
      exact ⟨ret_int HV.out.symm, E1.out⟩
  · have HV := hide (HY.out hq)
    have i1 : (q != 0) = true := by simp [hq]
    clear hq HY HN HM
    go_wp2
    go_ret
    exact ⟨ret_int HV.out.symm, E1.out⟩
def playF (n : Int) (d s r f i k l t lo hi a x y z : Int) : Int := if fstF n d s r f i k l t lo hi a x y z ≠ 0 then fstF n d s r f i k l t lo hi a x y z else if k = 4 ∧ manyN n 1 a.toNat = true then 2 else 0
theorem fstF_zero {n : Int} (h : fstF n d s r f i k l t lo hi a x y z = 0) : plrF d s r f i k l t lo hi a x y z = 0 ∧ i < n := by
  unfold fstF at h
  by_cases h1 : plrF d s r f i k l t lo hi a x y z = 0
  · refine ⟨h1, ?_⟩
    rw [if_neg (by omega)] at h
    by_cases h2 : n ≤ i
    · rw [if_pos h2] at h; omega
    · omega
  · rw [if_pos h1] at h; exact absurd h h1
theorem plrF_look (h : plrF d s r f i 4 l t lo hi a x y z = 0) : 1 ≤ a ∧ a ≤ 6 := by
  unfold plrF at h
  apply Classical.byContradiction
  intro hc
  have h2 : a < 1 ∨ 6 < a := by omega
  simp only [h2, and_true, if_true] at h
  repeat' (split at h)
  all_goals omega
set_option maxHeartbeats 1000000 in
theorem playerFault_any (hsn : sn ≤ 1000) :
    Calls Tryd.prog 28 #[shV lA ln lc sA sn sc qA qn qc, plV d s r f i k l t lo hi a x y z] w fun e w' => e = .returned (.int .i64 (playF sn d s r f i k l t lo hi a x y z)) ∧ Ext w w' := by
  have HP := hide (fun (W : World) => firstFault_any (lA := lA) (ln := ln) (lc := lc) (sA := sA) (sn := sn) (sc := sc) (qA := qA) (qn := qn) (qc := qc) (d := d) (s := s) (r := r) (f := f) (i := i) (k := k) (l := l) (t := t) (lo := lo) (hi := hi) (a := a) (x := x) (y := y) (z := z) (w := W))
  have hv : playF sn d s r f i k l t lo hi a x y z = if fstF sn d s r f i k l t lo hi a x y z ≠ 0 then fstF sn d s r f i k l t lo hi a x y z else if k = 4 ∧ manyN sn 1 a.toNat = true then 2 else 0 := rfl
  have HA : Hid (fstF sn d s r f i k l t lo hi a x y z = 0 → k = 4 → 1 ≤ a ∧ a ≤ 6) := hide (fun h h2 => by subst h2; exact plrF_look (fstF_zero h).1)
  generalize playF sn d s r f i k l t lo hi a x y z = v at *
  generalize fstF sn d s r f i k l t lo hi a x y z = q at *
  have HY : Hid (q ≠ 0 → v = q) := hide (fun h => by rw [hv, if_pos h])
  have HN : Hid (q = 0 → k = 4 → manyN sn 1 a.toNat = true → v = 2) := hide (fun h h2 h3 => by rw [hv, if_neg (by omega), if_pos ⟨h2, h3⟩])
  have HM : Hid (q = 0 → (k = 4 → manyN sn 1 a.toNat = false) → v = 0) := hide (fun h h2 => by rw [hv, if_neg (by omega), if_neg (fun hc => by rw [h2 hc.1] at hc; exact absurd hc.2 (by simp))])
  clear hv
  go_enter Tryd.func28, Tryd.ntmps28
  go_wp2_with fail
  refine (HP.out _).mono ?_
  rintro e w1 ⟨rfl, e1⟩
  have q0 : w1.cell? ⟨w.heap.size, 1, none⟩ = some (.slice sA sn sc) := e1.cell (((Blk.new w _ _).alloc _).cell 1)
  have B := Blk.new (w.alloc (.cells #[.slice lA ln lc, .slice sA sn sc, .slice qA qn qc] 25)) 29 #[.int .i64 d, .int .i64 s, .int .i64 r, .int .i64 f, .int .i64 i, .int .i64 k, .int .i64 l, .int .i64 t, .int .i64 lo, .int .i64 hi, .int .i64 a, .int .i64 x, .int .i64 y, .int .i64 z]
  rw [World.size_alloc] at B
  have q5 : w1.cell? ⟨w.heap.size + 1, 5, none⟩ = some (.int .i64 k) := e1.cell (B.cell 5)
  have q10 : w1.cell? ⟨w.heap.size + 1, 10, none⟩ = some (.int .i64 a) := e1.cell (B.cell 10)
  have E1 : Hid (Ext w w1) := hide (Ext.trans (ext_alloc (Ext.alloc _ _) _) e1)
  clear e1 B
  by_cases hq : q = 0
  · have i1 : (q != 0) = false := by simp [hq]
    by_cases hk : k = 4
    · obtain ⟨ha1, ha2⟩ := HA.out hq hk
      obtain ⟨aN, rfl⟩ : ∃ aN : Nat, a = (aN : Int) := ⟨a.toNat, by omega⟩
      have HMA := hide (fun (W : World) => many_any (base := (sn : Int)) (power := aN) (by omega) (by omega) W)
      have HN2 : Hid (manyN sn 1 aN = true → v = 2) := hide (fun h => HN.out hq hk h)
      have HM2 : Hid (manyN sn 1 aN = false → v = 0) := hide (fun h => HM.out hq (fun _ => h))
      generalize manyN (sn : Int) 1 aN = m at *
      clear HN HM HY HA hq
      subst hk
      go_wp2_with fail
      refine (HMA.out _).mono ?_
      rintro e w2 ⟨rfl, e2⟩
      cases m with
      | true =>
        have HV := hide (HN2.out rfl)
        go_wp2
        go_ret
        exact ⟨ret_int HV.out.symm, Ext.trans E1.out e2⟩
      | false =>
        have HV := hide (HM2.out rfl)
        go_wp2
        go_ret
        exact ⟨ret_int HV.out.symm, Ext.trans E1.out e2⟩
    · have i2 : (k == 4) = false := by simp [hk]
      have HV := hide (HM.out hq (fun h => absurd h hk))
      clear hq HY HN HM hk HA
      go_wp2
      go_ret
      exact ⟨ret_int HV.out.symm, E1.out⟩
  · have HV := hide (HY.out hq)
    have i1 : (q != 0) = true := by simp [hq]
    clear hq HY HN HM HA
    go_wp2
    go_ret
    exact ⟨ret_int HV.out.symm, E1.out⟩
def runF (L : List Int) (S : List (List Int)) (Q : List Int) (T : List (Int × Int)) (d s r f i k l t lo hi a x y z : Int) : Int :=
  if firstNZ [filmF L S Q, trcF T] ≠ 0 then firstNZ [filmF L S Q, trcF T] else playF (S.length : Int) d s r f i k l t lo hi a x y z
set_option maxRecDepth 100000 in
set_option maxHeartbeats 4000000 in
theorem runFault_any {tA : Option Addr} {tn tc : Nat} {T : List (Int × Int)} (h : Shw w lA ln lc sA sn sc qA qn qc L S Q) (hT : At w 2 e2 tA tn tc T) :
    Calls Tryd.prog 11 #[shV lA ln lc sA sn sc qA qn qc, .slice tA tn tc, plV d s r f i k l t lo hi a x y z] w fun e w' => e = .returned (.int .i64 (runF L S Q T d s r f i k l t lo hi a x y z)) ∧ Ext w w' := by
  have HF := hide (fun (W : World) (hW : Ext w W) => keyFilm_any (h.ext hW))
  have HT := hide (fun (W : World) (hW : Ext w W) => keyTrace_any (hT.ext hW))
  have hsl := h.sizes.len
  have hv : runF L S Q T d s r f i k l t lo hi a x y z = if firstNZ [filmF L S Q, trcF T] ≠ 0 then firstNZ [filmF L S Q, trcF T] else playF (sn : Int) d s r f i k l t lo hi a x y z := by unfold runF; rw [hsl]
  have HP : Hid (firstNZ [filmF L S Q, trcF T] = 0 → ∀ W, Calls Tryd.prog 28 #[shV lA ln lc sA sn sc qA qn qc, plV d s r f i k l t lo hi a x y z] W fun e w' => e = .returned (.int .i64 (playF sn d s r f i k l t lo hi a x y z)) ∧ Ext W w') := hide (fun h1 W => playerFault_any (by
    have h2 : filmF L S Q = 0 := by
      apply Classical.byContradiction
      intro hc
      unfold firstNZ at h1
      rw [if_pos hc] at h1
      exact hc h1
    have := (filmF_ok h2).s1
    omega))
  generalize runF L S Q T d s r f i k l t lo hi a x y z = v at *
  generalize playF (sn : Int) d s r f i k l t lo hi a x y z = p at *
  have HY : Hid (firstNZ [filmF L S Q, trcF T] ≠ 0 → v = firstNZ [filmF L S Q, trcF T]) := hide (fun h => by rw [hv, if_pos h])
  have HN : Hid (firstNZ [filmF L S Q, trcF T] = 0 → v = p) := hide (fun h => by rw [hv, if_neg (by omega)])
  generalize filmF L S Q = q1 at *
  generalize trcF T = q2 at *
  clear hv hsl h hT
  go_enter Tryd.func11, Tryd.ntmps11
  go_wp2_with fail
  refine (HF.out _ (by repeat' (first | (with_reducible first | exact Below.refl _ _ | assumption | refine below_drewN ?_ _ | refine Below.drew ?_ | refine ext_alloc ?_ _ | refine Below.setCell ?_ ?_ _) | go_size))).mono ?_
  rintro e w1 ⟨rfl, e1⟩
  have E1 : Hid (Ext w w1) := hide (Ext.trans (ext_alloc (Ext.alloc _ _) _) e1)
  have B := Blk.new (w.alloc (.cells #[.slice lA ln lc, .slice sA sn sc, .slice qA qn qc] 25)) 29 #[.int .i64 d, .int .i64 s, .int .i64 r, .int .i64 f, .int .i64 i, .int .i64 k, .int .i64 l, .int .i64 t, .int .i64 lo, .int .i64 hi, .int .i64 a, .int .i64 x, .int .i64 y, .int .i64 z]
  rw [World.size_alloc] at B
  have B1 := hide (B.ext e1)
  have C1 := hide (((Blk.new w 25 #[.slice lA ln lc, .slice sA sn sc, .slice qA qn qc]).alloc (.cells #[.int .i64 d, .int .i64 s, .int .i64 r, .int .i64 f, .int .i64 i, .int .i64 k, .int .i64 l, .int .i64 t, .int .i64 lo, .int .i64 hi, .int .i64 a, .int .i64 x, .int .i64 y, .int .i64 z] 29)).ext e1)
  clear e1 B
  go_wp2_with fail
  refine (HT.out _ (Ext.trans E1.out (by repeat' (first | (with_reducible first | exact Below.refl _ _ | assumption | refine below_drewN ?_ _ | refine Below.drew ?_ | refine ext_alloc ?_ _ | refine Below.setCell ?_ ?_ _) | go_size)))).mono ?_
  rintro e w2 ⟨rfl, e2⟩
  have E2 := hide (Ext.trans E1.out e2)
  have B2 := hide (B1.out.ext e2)
  have C2 := hide (C1.out.ext e2)
  clear e2 B1 C1 E1
  have N := hide (At.new2 w2 q1 q2 33)
  go_wp2_with fail
  refine (first_any N.out).mono ?_
  rintro e w3 ⟨rfl, e3⟩
  have E3 := hide (Ext.trans E2.out (Ext.trans (Ext.alloc _ _) e3))
  have B3 := B2.out.ext (Ext.trans (Ext.alloc _ _) e3)
  have C3 := C2.out.ext (Ext.trans (Ext.alloc _ _) e3)
  clear e3 B2 C2 E2 N
  generalize firstNZ [q1, q2] = u at *
  by_cases hu : u = 0
  · have i1 : (u != 0) = false := by simp [hu]
    have HV := hide (HN.out hu)
    have HPL := hide (HP.out hu)
    clear hu HP HY HN
    have b0 := C3.cell 0
    have b1 := C3.cell 1
    have b2 := C3.cell 2
    have p0 := B3.cell 0
    have p1 := B3.cell 1
    have p2 := B3.cell 2
    have p3 := B3.cell 3
    have p4 := B3.cell 4
    have p5 := B3.cell 5
    have p6 := B3.cell 6
    have p7 := B3.cell 7
    have p8 := B3.cell 8
    have p9 := B3.cell 9
    have p10 := B3.cell 10
    have p11 := B3.cell 11
    have p12 := B3.cell 12
    have p13 := B3.cell 13
    clear B3 C3
    go_wp2_with fail
    refine (HPL.out _).mono ?_
    rintro e w4 ⟨rfl, e4⟩
    go_wp2
    go_ret
    exact ⟨ret_int HV.out.symm, Ext.trans E3.out e4⟩
  · have i1 : (u != 0) = true := by simp [hu]
    have HV := hide (HY.out hu)
    clear hu HP HY HN B3 C3
    go_wp2
    go_ret
    exact ⟨ret_int HV.out.symm, E3.out⟩
end
end Go.Proofs.YtfelgolfebhmkaaDoor
