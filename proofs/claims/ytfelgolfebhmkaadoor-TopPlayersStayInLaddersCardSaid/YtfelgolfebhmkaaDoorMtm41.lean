/- Walk: Run of the program: it follows its player with some choices. Conditions as stated. -/
import Derived.Test.YtfelgolfebhmkaaDoorMtm40
namespace Go.Proofs.YtfelgolfebhmkaaDoor
open Go.RowKit
section
variable {lA : Option Addr} {ln lc : Nat} {sA : Option Addr} {sn sc : Nat} {qA : Option Addr} {qn qc : Nat} {L : List Int} {S : List (List Int)} {Q : List Int} {d0 s0 r0 f0 i0 k0 l0 t0 lo0 hi0 a0 x0 y0 z0 : Int} {nx tm bu bf : Int} {ldA : Option Addr} {ldn ldc : Nat} {w : World} {T : List (Int × Int)}
theorem runF_zero2 (h : runF L S Q T d0 s0 r0 f0 i0 k0 l0 t0 lo0 hi0 a0 x0 y0 z0 = 0) : plrF d0 s0 r0 f0 i0 k0 l0 t0 lo0 hi0 a0 x0 y0 z0 = 0 ∧ i0 < (S.length : Int) := by
  unfold runF at h
  by_cases h1 : firstNZ [filmF L S Q, trcF T] = 0
  · rw [if_neg (by omega)] at h
    unfold playF at h
    by_cases h2 : fstF (S.length : Int) d0 s0 r0 f0 i0 k0 l0 t0 lo0 hi0 a0 x0 y0 z0 = 0
    · exact fstF_zero h2
    · rw [if_pos h2] at h; exact absurd h h2
  · rw [if_pos h1] at h; exact absurd h h1
/- What Run gives. -/
set_option linter.unusedVariables false in
def RunGives (w : World) (F : Int) (L : List Int) (S : List (List Int)) (T : List (Int × Int)) (d0 s0 r0 f0 i0 k0 l0 t0 lo0 hi0 a0 x0 y0 z0 : Int) (e : Ending) (w' : World) : Prop :=
  Ext w w' ∧ (F ≠ 0 → e = .returned (.tuple #[zS, .int .i64 F])) ∧ (F = 0 → ∃ (C : List Int) (v : Value), (C.length = L.length ∧ okC S.length C ∧ ∀ n, n < L.length → (fun n F r => (n = 0 → r = i0) ∧ (0 < n → k0 = 2 → r = rateC (ratesL L S) (sumB (F.loads.drop (F.loads.length - l0.toNat))) (sumG (F.loads.drop (F.loads.length - l0.toNat))) t0)) n (folF f0 s0 r0 L S (gvF C) (trF T d0) n) (C.getD n 0)) ∧ e = .returned (.tuple #[v, .int .i64 0]) ∧ SesAt w' w.heap.size v (folF f0 s0 r0 L S (gvF C) (trF T d0) L.length).ch (folF f0 s0 r0 L S (gvF C) (trF T d0) L.length).asd (folF f0 s0 r0 L S (gvF C) (trF T d0) L.length).arr (folF f0 s0 r0 L S (gvF C) (trF T d0) L.length).w.beg (folF f0 s0 r0 L S (gvF C) (trF T d0) L.length).w.stalls ((folF f0 s0 r0 L S (gvF C) (trF T d0) L.length).w.at_ + (folF f0 s0 r0 L S (gvF C) (trF T d0) L.length).w.buf) ∧ ((folF f0 s0 r0 L S (gvF C) (trF T d0) L.length).ch.length = L.length ∧ (folF f0 s0 r0 L S (gvF C) (trF T d0) L.length).asd.length = L.length ∧ (folF f0 s0 r0 L S (gvF C) (trF T d0) L.length).arr.length = L.length ∧ (folF f0 s0 r0 L S (gvF C) (trF T d0) L.length).w.stalls.length ≤ L.length))
set_option maxRecDepth 1000000 in
set_option maxHeartbeats 16000000 in
theorem keyRun_any {tA : Option Addr} {tn tc : Nat} (h : Shw w lA ln lc sA sn sc qA qn qc L S Q) (hT : At w 2 e2 tA tn tc T) :
    Calls Tryd.prog 5 #[shV lA ln lc sA sn sc qA qn qc, .slice tA tn tc, plV d0 s0 r0 f0 i0 k0 l0 t0 lo0 hi0 a0 x0 y0 z0] w (RunGives w (runF L S Q T d0 s0 r0 f0 i0 k0 l0 t0 lo0 hi0 a0 x0 y0 z0) L S T d0 s0 r0 f0 i0 k0 l0 t0 lo0 hi0 a0 x0 y0 z0) := by
  have HR := hide (fun (W : World) (hW : Ext w W) => runFault_any (d := d0) (s := s0) (r := r0) (f := f0) (i := i0) (k := k0) (l := l0) (t := t0) (lo := lo0) (hi := hi0) (a := a0) (x := x0) (y := y0) (z := z0) (h.ext hW) (hT.ext hW))
  have hLn := h.longs.len
  generalize hu : runF L S Q T d0 s0 r0 f0 i0 k0 l0 t0 lo0 hi0 a0 x0 y0 z0 = u at *
  have HZ : Hid (u = 0 → (filmF L S Q = 0 ∧ trcF T = 0) ∧ plrF d0 s0 r0 f0 i0 k0 l0 t0 lo0 hi0 a0 x0 y0 z0 = 0 ∧ i0 < (S.length : Int)) := hide (fun h1 => ⟨⟨(runF_zero (hu.trans h1)).1, (runF_zero (hu.trans h1)).2.1⟩, runF_zero2 (hu.trans h1)⟩)
  clear hu
  have HH := hide h
  have HT := hide hT
  clear h hT
  go_enter Tryd.func5, Tryd.ntmps5
  go_wp2_with fail
  refine (HR.out _ (by repeat' (first | (with_reducible first | exact Below.refl _ _ | assumption | refine below_drewN ?_ _ | refine Below.drew ?_ | refine ext_alloc ?_ _ | refine Below.setCell ?_ ?_ _) | go_size))).mono ?_
  rintro e w1 ⟨rfl, e1⟩
  have E1 : Hid (Ext w w1) := hide (Ext.trans (ext_alloc (ext_alloc (Ext.alloc _ _) _) _) e1)
  have B0 := hide (((Blk.new w 25 #[.slice lA ln lc, .slice sA sn sc, .slice qA qn qc]).alloc (.cells #[.int .i64 d0, .int .i64 s0, .int .i64 r0, .int .i64 f0, .int .i64 i0, .int .i64 k0, .int .i64 l0, .int .i64 t0, .int .i64 lo0, .int .i64 hi0, .int .i64 a0, .int .i64 x0, .int .i64 y0, .int .i64 z0] 29)).alloc (.cells #[.slice none 0 0, .slice none 0 0, .slice none 0 0, .int .i64 0, .slice none 0 0, .int .i64 0] 38) |>.ext e1)
  have b1 := (Blk.new (w.alloc (.cells #[.slice lA ln lc, .slice sA sn sc, .slice qA qn qc] 25)) 29 #[.int .i64 d0, .int .i64 s0, .int .i64 r0, .int .i64 f0, .int .i64 i0, .int .i64 k0, .int .i64 l0, .int .i64 t0, .int .i64 lo0, .int .i64 hi0, .int .i64 a0, .int .i64 x0, .int .i64 y0, .int .i64 z0]).alloc (.cells #[.slice none 0 0, .slice none 0 0, .slice none 0 0, .int .i64 0, .slice none 0 0, .int .i64 0] 38) |>.ext e1
  have b2 := (Blk.new ((w.alloc (.cells #[.slice lA ln lc, .slice sA sn sc, .slice qA qn qc] 25)).alloc (.cells #[.int .i64 d0, .int .i64 s0, .int .i64 r0, .int .i64 f0, .int .i64 i0, .int .i64 k0, .int .i64 l0, .int .i64 t0, .int .i64 lo0, .int .i64 hi0, .int .i64 a0, .int .i64 x0, .int .i64 y0, .int .i64 z0] 29)) 38 #[.slice none 0 0, .slice none 0 0, .slice none 0 0, .int .i64 0, .slice none 0 0, .int .i64 0]).ext e1
  simp only [World.size_alloc] at b1 b2
  have B1 := hide b1
  have B2 := hide b2
  clear b1 b2 e1
  have s0' := B2.out.cell 0
  have s1' := B2.out.cell 1
  have s2' := B2.out.cell 2
  have s3' := B2.out.cell 3
  have s4' := B2.out.cell 4
  have s5' := B2.out.cell 5
  have t0' := B2.out.frozen 0
  have t1' := B2.out.frozen 1
  have t2' := B2.out.frozen 2
  have t3' := B2.out.frozen 3
  have t4' := B2.out.frozen 4
  have t5' := B2.out.frozen 5
  by_cases hu : u = 0
  rotate_left
  · have i1 : (u != 0) = true := by simp [hu]
    have hu' := hide hu
    clear hu HR
    go_wp2_with fail
    refine gen_bod fun W9 h9 => ?_
    have S9 : Blk W9 (w.heap.size + 1 + 1) 38 #[.slice none 0 0, .slice none 0 0, .slice none 0 0, .int .i64 0, .slice none 0 0, .int .i64 0] := by rw [h9]; exact (((((B2.out.set_ 0 _).set_ 1 _).set_ 2 _).set_ 3 _).set_ 4 _).set_ 5 _
    have T9 : Tw w1 W9 (w.heap.size + 1 + 1) none := by rw [h9]; (repeat' (first | (with_reducible exact Tw.refl _ _ _) | (with_reducible refine Tw.trans ?_ (Tw.set_ _ _ _ _ _))))
    clear h9
    have k0' := S9.cell 0
    have k1' := S9.cell 1
    have k2' := S9.cell 2
    have k3' := S9.cell 3
    have k4' := S9.cell 4
    have k5' := S9.cell 5
    have X9 := Below.trans E1.out (T9.below E1.out.size (by omega) (fun b hb => by cases hb))
    refine bodyPost_ret (v := .tuple #[zS, .int .i64 u]) (by simp [results, Tryd.results5, go_sem, k0', k1', k2', k3', k4', k5']) rfl ⟨X9, fun _ => rfl, fun h => absurd h hu'.out⟩
  have i1 : (u != 0) = false := by simp [hu]
  have hu' := hide hu
  obtain ⟨⟨z1, z2⟩, z3, z4⟩ := HZ.out hu
  have HFO := hide (fun (W : World) (g1 g2 q2 q3 : Nat) (hW : Ext w W) (p1 : Blk W g1 29 #[.int .i64 d0, .int .i64 s0, .int .i64 r0, .int .i64 f0, .int .i64 i0, .int .i64 k0, .int .i64 l0, .int .i64 t0, .int .i64 lo0, .int .i64 hi0, .int .i64 a0, .int .i64 x0, .int .i64 y0, .int .i64 z0]) (p2 : Blk W g2 25 #[.slice lA ln lc, .slice sA sn sc, .slice qA qn qc]) (b2 : Blk W q2 32 #[.slice tA tn tc]) (b3 : Blk W q3 29 #[.int .i64 d0, .int .i64 s0, .int .i64 r0, .int .i64 f0, .int .i64 i0, .int .i64 k0, .int .i64 l0, .int .i64 t0, .int .i64 lo0, .int .i64 hi0, .int .i64 a0, .int .i64 x0, .int .i64 y0, .int .i64 z0]) => follow_run (d0 := d0) (s0 := s0) (r0 := r0) (f0 := f0) (i0 := i0) (k0 := k0) (l0 := l0) (t0 := t0) (lo0 := lo0) (hi0 := hi0) (a0 := a0) (x0 := x0) (y0 := y0) (z0 := z0) z1 z2 z3 z4 (HH.out.ext hW) (HT.out.ext hW) p1 p2 b2 b3)
  clear HR HZ z1 z2 z3 z4
  go_wp2_with fail
  have hn0 : w.heap.size ≠ w.heap.size + 1 + 1 := by omega
  have hn1 : w.heap.size + 1 ≠ w.heap.size + 1 + 1 := by omega
  have g0 : w1.cell? ⟨w.heap.size, 0, none⟩ = some (.slice lA ln lc) := B0.out.cell 0
  have g1 : w1.cell? ⟨w.heap.size, 1, none⟩ = some (.slice sA sn sc) := B0.out.cell 1
  have g2 : w1.cell? ⟨w.heap.size, 2, none⟩ = some (.slice qA qn qc) := B0.out.cell 2
  have g3 : w1.cell? ⟨w.heap.size + 1, 0, none⟩ = some (.int .i64 d0) := B1.out.cell 0
  have g4 : w1.cell? ⟨w.heap.size + 1, 1, none⟩ = some (.int .i64 s0) := B1.out.cell 1
  have g5 : w1.cell? ⟨w.heap.size + 1, 2, none⟩ = some (.int .i64 r0) := B1.out.cell 2
  have g6 : w1.cell? ⟨w.heap.size + 1, 3, none⟩ = some (.int .i64 f0) := B1.out.cell 3
  have g7 : w1.cell? ⟨w.heap.size + 1, 4, none⟩ = some (.int .i64 i0) := B1.out.cell 4
  have g8 : w1.cell? ⟨w.heap.size + 1, 5, none⟩ = some (.int .i64 k0) := B1.out.cell 5
  have g9 : w1.cell? ⟨w.heap.size + 1, 6, none⟩ = some (.int .i64 l0) := B1.out.cell 6
  have g10 : w1.cell? ⟨w.heap.size + 1, 7, none⟩ = some (.int .i64 t0) := B1.out.cell 7
  have g11 : w1.cell? ⟨w.heap.size + 1, 8, none⟩ = some (.int .i64 lo0) := B1.out.cell 8
  have g12 : w1.cell? ⟨w.heap.size + 1, 9, none⟩ = some (.int .i64 hi0) := B1.out.cell 9
  have g13 : w1.cell? ⟨w.heap.size + 1, 10, none⟩ = some (.int .i64 a0) := B1.out.cell 10
  have g14 : w1.cell? ⟨w.heap.size + 1, 11, none⟩ = some (.int .i64 x0) := B1.out.cell 11
  have g15 : w1.cell? ⟨w.heap.size + 1, 12, none⟩ = some (.int .i64 y0) := B1.out.cell 12
  have g16 : w1.cell? ⟨w.heap.size + 1, 13, none⟩ = some (.int .i64 z0) := B1.out.cell 13
  have EX := Ext.drew w1
  go_region_held3 (fun w' => w'.cell? ⟨w.heap.size, 0, none⟩ = some (.slice lA ln lc) ∧ w'.cell? ⟨w.heap.size, 1, none⟩ = some (.slice sA sn sc) ∧ w'.cell? ⟨w.heap.size, 2, none⟩ = some (.slice qA qn qc) ∧ w'.cell? ⟨w.heap.size + 1, 0, none⟩ = some (.int .i64 d0) ∧ w'.cell? ⟨w.heap.size + 1, 1, none⟩ = some (.int .i64 s0) ∧ w'.cell? ⟨w.heap.size + 1, 2, none⟩ = some (.int .i64 r0) ∧ w'.cell? ⟨w.heap.size + 1, 3, none⟩ = some (.int .i64 f0) ∧ w'.cell? ⟨w.heap.size + 1, 4, none⟩ = some (.int .i64 i0) ∧ w'.cell? ⟨w.heap.size + 1, 5, none⟩ = some (.int .i64 k0) ∧ w'.cell? ⟨w.heap.size + 1, 6, none⟩ = some (.int .i64 l0) ∧ w'.cell? ⟨w.heap.size + 1, 7, none⟩ = some (.int .i64 t0) ∧ w'.cell? ⟨w.heap.size + 1, 8, none⟩ = some (.int .i64 lo0) ∧ w'.cell? ⟨w.heap.size + 1, 9, none⟩ = some (.int .i64 hi0) ∧ w'.cell? ⟨w.heap.size + 1, 10, none⟩ = some (.int .i64 a0) ∧ w'.cell? ⟨w.heap.size + 1, 11, none⟩ = some (.int .i64 x0) ∧ w'.cell? ⟨w.heap.size + 1, 12, none⟩ = some (.int .i64 y0) ∧ w'.cell? ⟨w.heap.size + 1, 13, none⟩ = some (.int .i64 z0)) (first | (with_reducible exact ⟨EX.cell g0, EX.cell g1, EX.cell g2, EX.cell g3, EX.cell g4, EX.cell g5, EX.cell g6, EX.cell g7, EX.cell g8, EX.cell g9, EX.cell g10, EX.cell g11, EX.cell g12, EX.cell g13, EX.cell g14, EX.cell g15, EX.cell g16⟩) | exact ⟨cell_far (cell_far (cell_far (cell_far (cell_far (cell_far (EX.cell g0) hn0) hn0) hn0) hn0) hn0) hn0, cell_far (cell_far (cell_far (cell_far (cell_far (cell_far (EX.cell g1) hn0) hn0) hn0) hn0) hn0) hn0, cell_far (cell_far (cell_far (cell_far (cell_far (cell_far (EX.cell g2) hn0) hn0) hn0) hn0) hn0) hn0, cell_far (cell_far (cell_far (cell_far (cell_far (cell_far (EX.cell g3) hn1) hn1) hn1) hn1) hn1) hn1, cell_far (cell_far (cell_far (cell_far (cell_far (cell_far (EX.cell g4) hn1) hn1) hn1) hn1) hn1) hn1, cell_far (cell_far (cell_far (cell_far (cell_far (cell_far (EX.cell g5) hn1) hn1) hn1) hn1) hn1) hn1, cell_far (cell_far (cell_far (cell_far (cell_far (cell_far (EX.cell g6) hn1) hn1) hn1) hn1) hn1) hn1, cell_far (cell_far (cell_far (cell_far (cell_far (cell_far (EX.cell g7) hn1) hn1) hn1) hn1) hn1) hn1, cell_far (cell_far (cell_far (cell_far (cell_far (cell_far (EX.cell g8) hn1) hn1) hn1) hn1) hn1) hn1, cell_far (cell_far (cell_far (cell_far (cell_far (cell_far (EX.cell g9) hn1) hn1) hn1) hn1) hn1) hn1, cell_far (cell_far (cell_far (cell_far (cell_far (cell_far (EX.cell g10) hn1) hn1) hn1) hn1) hn1) hn1, cell_far (cell_far (cell_far (cell_far (cell_far (cell_far (EX.cell g11) hn1) hn1) hn1) hn1) hn1) hn1, cell_far (cell_far (cell_far (cell_far (cell_far (cell_far (EX.cell g12) hn1) hn1) hn1) hn1) hn1) hn1, cell_far (cell_far (cell_far (cell_far (cell_far (cell_far (EX.cell g13) hn1) hn1) hn1) hn1) hn1) hn1, cell_far (cell_far (cell_far (cell_far (cell_far (cell_far (EX.cell g14) hn1) hn1) hn1) hn1) hn1) hn1, cell_far (cell_far (cell_far (cell_far (cell_far (cell_far (EX.cell g15) hn1) hn1) hn1) hn1) hn1) hn1, cell_far (cell_far (cell_far (cell_far (cell_far (cell_far (EX.cell g16) hn1) hn1) hn1) hn1) hn1) hn1⟩ | go_keep) (first
    | ((go_at_call 15; with_reducible refine (onTrace_any _ _ _ _ _ _ _ _ _ _ _ _ _ _ _).mono ?_); rintro e w4 ⟨rfl, ⟨b4, b5⟩, e4⟩; have b4' := (show Blk w4 w1.heap.size 32 #[.slice tA tn tc] from b4); have b5' := (show Blk w4 (w1.heap.size + 1) 29 #[.int .i64 d0, .int .i64 s0, .int .i64 r0, .int .i64 f0, .int .i64 i0, .int .i64 k0, .int .i64 l0, .int .i64 t0, .int .i64 lo0, .int .i64 hi0, .int .i64 a0, .int .i64 x0, .int .i64 y0, .int .i64 z0] from b5); have EX := Ext.trans EX e4; have hw4 : w1.heap.size ≤ w4.heap.size := EX.size)
    | ((go_at_call 12; with_reducible refine (HFO.out _ _ _ _ _ (Ext.trans E1.out EX) (B1.out.ext EX) (B0.out.ext EX) b4' b5').mono ?_); rintro e w5 ⟨C, hC1, hC2, hC3, ⟨vS, rfl, ⟨cA5, cc5, aA5, ac5, rA5, rc5, tA5, tc5, rfl, m1, m2, m3, m4, m5⟩, hlens, e5⟩⟩; have EX := Ext.trans EX e5; have D2 := B2.out.ext EX; have y0' := D2.cell 0; have y1' := D2.cell 1; have y2' := D2.cell 2; have y3' := D2.cell 3; have y4' := D2.cell 4; have y5' := D2.cell 5; have x0' := D2.frozen 0; have x1' := D2.frozen 1; have x2' := D2.frozen 2; have x3' := D2.frozen 3; have x4' := D2.frozen 4; have x5' := D2.frozen 5))
  all_goals
    have HCC := hide (And.intro hC1 (And.intro hC2 hC3))
    clear hC1 hC2 hC3
    have X5 := Ext.trans E1.out EX
    rw [hLn] at hlens m1 m2 m3 m4
    generalize hF5 : folF f0 s0 r0 L S (gvF C) (trF T d0) ln = F at *
    have HF5 := hide hF5
    clear hF5
    have hbig : w.heap.size + 1 + 1 < w4.heap.size := Nat.lt_of_lt_of_le B2.out.lt hw4
    have HM5 := hide (And.intro m1 (And.intro m2 (And.intro m3 (And.intro m4 m5))))
    refine gen_the fun W6 h6 => ?_
    have S6 : Blk W6 (w.heap.size + 1 + 1) 38 #[.slice cA5 F.ch.length cc5, .slice aA5 F.asd.length ac5, .slice rA5 F.arr.length rc5, .int .i64 F.w.beg, .slice tA5 F.w.stalls.length tc5, .int .i64 (F.w.at_ + F.w.buf)] := by rw [h6]; exact (((((D2.set_ 0 _).set_ 1 _).set_ 2 _).set_ 3 _).set_ 4 _).set_ 5 _
    have T6 : Tw w5 W6 (w.heap.size + 1 + 1) none := by rw [h6]; (repeat' (first | (with_reducible exact Tw.refl _ _ _) | (with_reducible refine Tw.trans ?_ (Tw.set_ _ _ _ _ _))))
    clear h6
    have k0' := S6.cell 0
    have k1' := S6.cell 1
    have k2' := S6.cell 2
    have k3' := S6.cell 3
    have k4' := S6.cell 4
    have k5' := S6.cell 5
    have X6 := hide (Below.trans X5 (T6.below X5.size (by omega) (fun b hb => by cases hb)))
    have HR5 := hide (And.intro (m1.tw T6 (fun a ha => ⟨by have := m5 a (.inl ha); omega, by simp⟩)) (And.intro (m2.tw T6 (fun a ha => ⟨by have := m5 a (.inr (.inl ha)); omega, by simp⟩)) (And.intro (m3.tw T6 (fun a ha => ⟨by have := m5 a (.inr (.inr (.inl ha))); omega, by simp⟩)) (m4.tw T6 (fun a ha => ⟨by have := m5 a (.inr (.inr (.inr ha))); omega, by simp⟩)))))
    have HL5 := hide hlens
    have HLn := hide hLn
    have HM6 := hide m5
    clear m1 m2 m3 m4 m5 hlens T6 X5
    go_wp2_with fail
    refine bodyPost_ret (v := .tuple #[.agg #[.slice cA5 F.ch.length cc5, .slice aA5 F.asd.length ac5, .slice rA5 F.arr.length rc5, .int .i64 F.w.beg, .slice tA5 F.w.stalls.length tc5, .int .i64 (F.w.at_ + F.w.buf)], .int .i64 0]) (by simp [results, Tryd.results5, go_sem, k0', k1', k2', k3', k4', k5']) rfl ⟨X6.out, fun h => absurd hu'.out h, fun _ => ?_⟩
    refine ⟨C, _, HCC.out, rfl, ?_⟩
    rw [HLn.out, HF5.out]
    exact ⟨⟨cA5, cc5, aA5, ac5, rA5, rc5, tA5, tc5, rfl, HR5.out.1, HR5.out.2.1, HR5.out.2.2.1, HR5.out.2.2.2, fun a ha => by have := HM6.out a ha; omega⟩, HL5.out⟩
end
end Go.Proofs.YtfelgolfebhmkaaDoor
