/- Proved: for every film, trace, player, weights and choices PlayNoneIsBetterThanBest returns true: no player and no given choices have a greater score than the best choices, and these have theirs; the arguments read as they did. Conditions: none. -/
import Derived.Test.YtajadgpkmommmaaNibPZ
import Derived.Test.YtajadgpkmommmaaSesCZ
import Derived.Test.YtajadgpkmommmaaAwakePZ
import Derived.Test.YtajadgpkmommmaaOpens3Z
import Derived.Test.YtajadgpkmommmaaLawG
import Derived.Test.YtajadgpkmommmaaTw
import Derived.Deep.DeepCutAuto
namespace Go.Proofs.Ytajadgpkmommmaa
open Go.ChangeShapes Go.WideShapes Go.ChangeAt Go.RowKit
set_option linter.unusedVariables false in
set_option linter.unusedSimpArgs false in
set_option maxRecDepth 1000000 in
set_option maxHeartbeats 16000000 in
theorem nib_law {lA : Option Addr} {ln lc : Nat} {sA : Option Addr} {sn sc : Nat} {qA : Option Addr} {qn qc : Nat} {L : List Int} {S : List (List Int)} {Q : List Int} {T : List (Int × Int)} {d0 s0 r0 f0 i0 k0 l0 t0 lo0 hi0 a0 x0 y0 z0 : Int} {w : World} {tA : Option Addr} {tn tc : Nat} {wc ws ww : Int} {C : List Int} {cA : Option Addr} {cn cc : Nat} (h : Shw w lA ln lc sA sn sc qA qn qc L S Q) (hT : At w 2 e2 tA tn tc T) (hC : At w 1 e64 cA cn cc C) :
    Calls Try.prog 6 #[shV lA ln lc sA sn sc qA qn qc, .slice tA tn tc, plV d0 s0 r0 f0 i0 k0 l0 t0 lo0 hi0 a0 x0 y0 z0, .agg #[.int .i64 wc, .int .i64 ws, .int .i64 ww], .slice cA cn cc] w fun e w' => e = .returned (.bool true) ∧ Ext w w' := by
  have HX : Hid (Ext w (((w.alloc (.cells #[.slice lA ln lc, .slice sA sn sc, .slice qA qn qc] 25)).alloc (.cells #[.int .i64 d0, .int .i64 s0, .int .i64 r0, .int .i64 f0, .int .i64 i0, .int .i64 k0, .int .i64 l0, .int .i64 t0, .int .i64 lo0, .int .i64 hi0, .int .i64 a0, .int .i64 x0, .int .i64 y0, .int .i64 z0] 30)).alloc (.cells #[.int .i64 wc, .int .i64 ws, .int .i64 ww] 28))) := hide (ext_alloc (ext_alloc (Ext.alloc _ _) _) _)
  have hk0 := ((Blk.new w 25 #[.slice lA ln lc, .slice sA sn sc, .slice qA qn qc]).alloc (.cells #[.int .i64 d0, .int .i64 s0, .int .i64 r0, .int .i64 f0, .int .i64 i0, .int .i64 k0, .int .i64 l0, .int .i64 t0, .int .i64 lo0, .int .i64 hi0, .int .i64 a0, .int .i64 x0, .int .i64 y0, .int .i64 z0] 30)).alloc (.cells #[.int .i64 wc, .int .i64 ws, .int .i64 ww] 28)
  have hk1 := (Blk.new (w.alloc (.cells #[.slice lA ln lc, .slice sA sn sc, .slice qA qn qc] 25)) 30 #[.int .i64 d0, .int .i64 s0, .int .i64 r0, .int .i64 f0, .int .i64 i0, .int .i64 k0, .int .i64 l0, .int .i64 t0, .int .i64 lo0, .int .i64 hi0, .int .i64 a0, .int .i64 x0, .int .i64 y0, .int .i64 z0]).alloc (.cells #[.int .i64 wc, .int .i64 ws, .int .i64 ww] 28)
  have hk2 := Blk.new ((w.alloc (.cells #[.slice lA ln lc, .slice sA sn sc, .slice qA qn qc] 25)).alloc (.cells #[.int .i64 d0, .int .i64 s0, .int .i64 r0, .int .i64 f0, .int .i64 i0, .int .i64 k0, .int .i64 l0, .int .i64 t0, .int .i64 lo0, .int .i64 hi0, .int .i64 a0, .int .i64 x0, .int .i64 y0, .int .i64 z0] 30)) 28 #[.int .i64 wc, .int .i64 ws, .int .i64 ww]
  simp only [World.size_alloc] at hk1 hk2
  have B0 := hide hk0
  have B1 := hide hk1
  have B2 := hide hk2
  have HAW := hide (fun (W : World) => awake_any W)
  clear hk0 hk1 hk2
  have HB := hide (fun (W : World) (hW : Ext w W) => keyBest_any (d0 := d0) (s0 := s0) (r0 := r0) (f0 := f0) (i0 := i0) (k0 := k0) (l0 := l0) (t0 := t0) (lo0 := lo0) (hi0 := hi0) (a0 := a0) (x0 := x0) (y0 := y0) (z0 := z0) (wc := wc) (ws := ws) (ww := ww) (h.ext hW) (hT.ext hW))
  by_cases hu : bstF L S Q T d0 s0 r0 f0 i0 k0 l0 t0 lo0 hi0 a0 x0 y0 z0 wc ws ww = 0
  rotate_left
  · have HE := hide (bstV_err hu)
    have i1 : (bstF L S Q T d0 s0 r0 f0 i0 k0 l0 t0 lo0 hi0 a0 x0 y0 z0 wc ws ww != 0) = true := by simp [hu]
    generalize bstF L S Q T d0 s0 r0 f0 i0 k0 l0 t0 lo0 hi0 a0 x0 y0 z0 wc ws ww = u at *
    generalize bstV L S Q T d0 s0 r0 f0 i0 k0 l0 t0 lo0 hi0 a0 x0 y0 z0 wc ws ww = bv at *
    clear hu h hT hC
    go_enter Try.func6, Try.ntmps6
    go_wp2_with fail
    refine (HB.out _ HX.out).mono ?_
    rintro e w1 ⟨A, n, c, rfl, a, e1⟩
    obtain rfl : n = 0 := by rw [← a.len, HE.out]; rfl
    clear a
    go_wp2_with fail
    refine (HAW.out _).mono ?_
    rintro e w2 ⟨rfl, e2⟩
    go_wp2
    go_ret
    exact ⟨rfl, Ext.trans HX.out (Ext.trans e1 e2)⟩
  obtain ⟨hb1, hb2, hb3, hb4⟩ := best_top hu
  obtain ⟨hr, hwt⟩ := bstF_zero hu
  have hF := (runF_zero hr).1
  have hLn := h.longs.len
  have hwb := withF_of hr hb1 hb2
  have HR := hide (fun (W : World) (hW : Ext w W) => (keyRun_any (d0 := d0) (s0 := s0) (r0 := r0) (f0 := f0) (i0 := i0) (k0 := k0) (l0 := l0) (t0 := t0) (lo0 := lo0) (hi0 := hi0) (a0 := a0) (x0 := x0) (y0 := y0) (z0 := z0) (h.ext hW) (hT.ext hW)).mono fun e w' hg => run_form5 hr hg)
  have HWI := hide (fun (W : World) (C : List Int) (cA : Option Addr) (cc : Nat) (hw : withF L S Q T C d0 s0 r0 f0 i0 k0 l0 t0 lo0 hi0 a0 x0 y0 z0 = 0) (hW : Ext w W) (hC : At W 1 e64 cA ln cc C) => (with_any (d0 := d0) (s0 := s0) (r0 := r0) (f0 := f0) (i0 := i0) (k0 := k0) (l0 := l0) (t0 := t0) (lo0 := lo0) (hi0 := hi0) (a0 := a0) (x0 := x0) (y0 := y0) (z0 := z0) (h.ext hW) (hT.ext hW) hC).mono fun e w' hg => with_form5 hw hg)
  have HW3 := hide (fun (W : World) (hW : Ext w W) => with_any (d0 := d0) (s0 := s0) (r0 := r0) (f0 := f0) (i0 := i0) (k0 := k0) (l0 := l0) (t0 := t0) (lo0 := lo0) (hi0 := hi0) (a0 := a0) (x0 := x0) (y0 := y0) (z0 := z0) (h.ext hW) (hT.ext hW) (hC.ext hW))
  have HSCO := hide (fun (W : World) (C asd arr : List Int) (beg : Int) (sts : List (Int × Int)) (en : Int) (cA aA rA tA : Option Addr) (cc ac rc tn4 tc : Nat) (hS : SesOk L S.length C asd arr beg sts en) (hW : Ext w W) (a1 : At W 1 e64 cA ln cc C) (a2 : At W 1 e64 aA ln ac asd) (a3 : At W 1 e64 rA ln rc arr) (a4 : At W 2 e2 tA tn4 tc sts) => score_ok (h.ext hW) hF hS a1 a2 a3 a4 hwt)
  have HLN := hide hLn
  have htop := hb3
  have hle3 := hb4
  unfold vbF at htop hle3
  rw [hu] at HB
  generalize bstV L S Q T d0 s0 r0 f0 i0 k0 l0 t0 lo0 hi0 a0 x0 y0 z0 wc ws ww = bv at *
  obtain ⟨C1, top⟩ := bv
  simp only at hb1 hb2 hb3 hb4 htop hle3 hwb
  have HBL := hide (hb1.trans hLn)
  have HTOP := hide htop
  have HLE := hide hle3
  have HWB := hide hwb
  clear h hT hC hF hu hLn hb1 hb2 hb3 hb4 hr hwt htop hle3 hwb
  go_enter Try.func6, Try.ntmps6
  go_wp2_with fail
  refine (HB.out _ HX.out).mono ?_
  rintro e w1 ⟨A, n, c, rfl, a, e1⟩
  obtain rfl : ln = n := by rw [← a.len]; exact HBL.out.symm
  have X1 := hide (Ext.trans HX.out e1)
  have A1 := hide a
  have D0 := hide (B0.out.ext e1)
  have D1 := hide (B1.out.ext e1)
  have D2 := hide (B2.out.ext e1)
  have hgw1 := D2.out.lt
  clear a e1 HB HBL B0 B1 B2
  have r0_ : w1.cell? ⟨w.heap.size, 0, none⟩ = some (.slice lA ln lc) := D0.out.cell 0
  have r1_ : w1.cell? ⟨w.heap.size, 1, none⟩ = some (.slice sA sn sc) := D0.out.cell 1
  have r2_ : w1.cell? ⟨w.heap.size, 2, none⟩ = some (.slice qA qn qc) := D0.out.cell 2
  have q0_ : w1.cell? ⟨w.heap.size + 1, 0, none⟩ = some (.int .i64 d0) := D1.out.cell 0
  have q1_ : w1.cell? ⟨w.heap.size + 1, 1, none⟩ = some (.int .i64 s0) := D1.out.cell 1
  have q2_ : w1.cell? ⟨w.heap.size + 1, 2, none⟩ = some (.int .i64 r0) := D1.out.cell 2
  have q3_ : w1.cell? ⟨w.heap.size + 1, 3, none⟩ = some (.int .i64 f0) := D1.out.cell 3
  have q4_ : w1.cell? ⟨w.heap.size + 1, 4, none⟩ = some (.int .i64 i0) := D1.out.cell 4
  have q5_ : w1.cell? ⟨w.heap.size + 1, 5, none⟩ = some (.int .i64 k0) := D1.out.cell 5
  have q6_ : w1.cell? ⟨w.heap.size + 1, 6, none⟩ = some (.int .i64 l0) := D1.out.cell 6
  have q7_ : w1.cell? ⟨w.heap.size + 1, 7, none⟩ = some (.int .i64 t0) := D1.out.cell 7
  have q8_ : w1.cell? ⟨w.heap.size + 1, 8, none⟩ = some (.int .i64 lo0) := D1.out.cell 8
  have q9_ : w1.cell? ⟨w.heap.size + 1, 9, none⟩ = some (.int .i64 hi0) := D1.out.cell 9
  have q10_ : w1.cell? ⟨w.heap.size + 1, 10, none⟩ = some (.int .i64 a0) := D1.out.cell 10
  have q11_ : w1.cell? ⟨w.heap.size + 1, 11, none⟩ = some (.int .i64 x0) := D1.out.cell 11
  have q12_ : w1.cell? ⟨w.heap.size + 1, 12, none⟩ = some (.int .i64 y0) := D1.out.cell 12
  have q13_ : w1.cell? ⟨w.heap.size + 1, 13, none⟩ = some (.int .i64 z0) := D1.out.cell 13
  have y0_ : w1.cell? ⟨w.heap.size + 1 + 1, 0, none⟩ = some (.int .i64 wc) := D2.out.cell 0
  have y1_ : w1.cell? ⟨w.heap.size + 1 + 1, 1, none⟩ = some (.int .i64 ws) := D2.out.cell 1
  have y2_ : w1.cell? ⟨w.heap.size + 1 + 1, 2, none⟩ = some (.int .i64 ww) := D2.out.cell 2
  go_wp2_with fail
  refine (HWI.out _ C1 A c HWB.out X1.out A1.out).mono ?_
  rintro e w2 ⟨cA1, cc1, aA1, ac1, rA1, rc1, tA1, tc1, rfl, _, ⟨m1, m2, m3, m4, _⟩, e2, hS⟩
  have htop := HTOP.out
  generalize (folF f0 s0 r0 L S (gvF C1) (trF T d0) L.length) = F1 at *
  generalize F1.asd = asd1 at *
  generalize F1.arr = arr1 at *
  generalize F1.w.beg = beg1 at *
  generalize F1.w.at_ + F1.w.buf = en1 at *
  generalize hts : F1.w.stalls = sts1 at *
  generalize htn : sts1.length = tn1 at *
  rw [HLN.out] at m1
  rw [HLN.out] at m2
  rw [HLN.out] at m3
  rw [HLN.out]
  clear hts htn
  have EA := hide (Ext.trans e2 (Ext.alloc w2 (.cells #[.slice cA1 ln cc1, .slice aA1 ln ac1, .slice rA1 ln rc1, .int .i64 beg1, .slice tA1 tn1 tc1, .int .i64 en1] 33)))
  have BX := hide (Blk.new w2 33 #[.slice cA1 ln cc1, .slice aA1 ln ac1, .slice rA1 ln rc1, .int .i64 beg1, .slice tA1 tn1 tc1, .int .i64 en1])
  have D0 := hide (D0.out.ext EA.out)
  have D1 := hide (D1.out.ext EA.out)
  have D2 := hide (D2.out.ext EA.out)
  have X2 := hide (Ext.trans X1.out EA.out)
  have hg0 : w.heap.size ≤ w2.heap.size := Nat.le_trans X1.out.size e2.size
  have hgw : w.heap.size + 1 + 1 < w2.heap.size := Nat.lt_of_lt_of_le hgw1 e2.size
  have HS1 := hide (fun (W : World) (EX : Ext (w2.alloc (.cells #[.slice cA1 ln cc1, .slice aA1 ln ac1, .slice rA1 ln rc1, .int .i64 beg1, .slice tA1 tn1 tc1, .int .i64 en1] 33)) W) => HSCO.out W C1 asd1 arr1 beg1 sts1 en1 cA1 aA1 rA1 tA1 cc1 ac1 rc1 tn1 tc1 hS (Ext.trans X2.out EX) ((m1.ext (Ext.alloc _ _)).ext EX) ((m2.ext (Ext.alloc _ _)).ext EX) ((m3.ext (Ext.alloc _ _)).ext EX) ((m4.ext (Ext.alloc _ _)).ext EX))
  rw [htop] at HS1
  have BY := hide (BX.out)
  have r0_ : (w2.alloc (.cells #[.slice cA1 ln cc1, .slice aA1 ln ac1, .slice rA1 ln rc1, .int .i64 beg1, .slice tA1 tn1 tc1, .int .i64 en1] 33)).cell? ⟨w.heap.size, 0, none⟩ = some (.slice lA ln lc) := D0.out.cell 0
  have r1_ : (w2.alloc (.cells #[.slice cA1 ln cc1, .slice aA1 ln ac1, .slice rA1 ln rc1, .int .i64 beg1, .slice tA1 tn1 tc1, .int .i64 en1] 33)).cell? ⟨w.heap.size, 1, none⟩ = some (.slice sA sn sc) := D0.out.cell 1
  have r2_ : (w2.alloc (.cells #[.slice cA1 ln cc1, .slice aA1 ln ac1, .slice rA1 ln rc1, .int .i64 beg1, .slice tA1 tn1 tc1, .int .i64 en1] 33)).cell? ⟨w.heap.size, 2, none⟩ = some (.slice qA qn qc) := D0.out.cell 2
  have q0_ : (w2.alloc (.cells #[.slice cA1 ln cc1, .slice aA1 ln ac1, .slice rA1 ln rc1, .int .i64 beg1, .slice tA1 tn1 tc1, .int .i64 en1] 33)).cell? ⟨w.heap.size + 1, 0, none⟩ = some (.int .i64 d0) := D1.out.cell 0
  have q1_ : (w2.alloc (.cells #[.slice cA1 ln cc1, .slice aA1 ln ac1, .slice rA1 ln rc1, .int .i64 beg1, .slice tA1 tn1 tc1, .int .i64 en1] 33)).cell? ⟨w.heap.size + 1, 1, none⟩ = some (.int .i64 s0) := D1.out.cell 1
  have q2_ : (w2.alloc (.cells #[.slice cA1 ln cc1, .slice aA1 ln ac1, .slice rA1 ln rc1, .int .i64 beg1, .slice tA1 tn1 tc1, .int .i64 en1] 33)).cell? ⟨w.heap.size + 1, 2, none⟩ = some (.int .i64 r0) := D1.out.cell 2
  have q3_ : (w2.alloc (.cells #[.slice cA1 ln cc1, .slice aA1 ln ac1, .slice rA1 ln rc1, .int .i64 beg1, .slice tA1 tn1 tc1, .int .i64 en1] 33)).cell? ⟨w.heap.size + 1, 3, none⟩ = some (.int .i64 f0) := D1.out.cell 3
  have q4_ : (w2.alloc (.cells #[.slice cA1 ln cc1, .slice aA1 ln ac1, .slice rA1 ln rc1, .int .i64 beg1, .slice tA1 tn1 tc1, .int .i64 en1] 33)).cell? ⟨w.heap.size + 1, 4, none⟩ = some (.int .i64 i0) := D1.out.cell 4
  have q5_ : (w2.alloc (.cells #[.slice cA1 ln cc1, .slice aA1 ln ac1, .slice rA1 ln rc1, .int .i64 beg1, .slice tA1 tn1 tc1, .int .i64 en1] 33)).cell? ⟨w.heap.size + 1, 5, none⟩ = some (.int .i64 k0) := D1.out.cell 5
  have q6_ : (w2.alloc (.cells #[.slice cA1 ln cc1, .slice aA1 ln ac1, .slice rA1 ln rc1, .int .i64 beg1, .slice tA1 tn1 tc1, .int .i64 en1] 33)).cell? ⟨w.heap.size + 1, 6, none⟩ = some (.int .i64 l0) := D1.out.cell 6
  have q7_ : (w2.alloc (.cells #[.slice cA1 ln cc1, .slice aA1 ln ac1, .slice rA1 ln rc1, .int .i64 beg1, .slice tA1 tn1 tc1, .int .i64 en1] 33)).cell? ⟨w.heap.size + 1, 7, none⟩ = some (.int .i64 t0) := D1.out.cell 7
  have q8_ : (w2.alloc (.cells #[.slice cA1 ln cc1, .slice aA1 ln ac1, .slice rA1 ln rc1, .int .i64 beg1, .slice tA1 tn1 tc1, .int .i64 en1] 33)).cell? ⟨w.heap.size + 1, 8, none⟩ = some (.int .i64 lo0) := D1.out.cell 8
  have q9_ : (w2.alloc (.cells #[.slice cA1 ln cc1, .slice aA1 ln ac1, .slice rA1 ln rc1, .int .i64 beg1, .slice tA1 tn1 tc1, .int .i64 en1] 33)).cell? ⟨w.heap.size + 1, 9, none⟩ = some (.int .i64 hi0) := D1.out.cell 9
  have q10_ : (w2.alloc (.cells #[.slice cA1 ln cc1, .slice aA1 ln ac1, .slice rA1 ln rc1, .int .i64 beg1, .slice tA1 tn1 tc1, .int .i64 en1] 33)).cell? ⟨w.heap.size + 1, 10, none⟩ = some (.int .i64 a0) := D1.out.cell 10
  have q11_ : (w2.alloc (.cells #[.slice cA1 ln cc1, .slice aA1 ln ac1, .slice rA1 ln rc1, .int .i64 beg1, .slice tA1 tn1 tc1, .int .i64 en1] 33)).cell? ⟨w.heap.size + 1, 11, none⟩ = some (.int .i64 x0) := D1.out.cell 11
  have q12_ : (w2.alloc (.cells #[.slice cA1 ln cc1, .slice aA1 ln ac1, .slice rA1 ln rc1, .int .i64 beg1, .slice tA1 tn1 tc1, .int .i64 en1] 33)).cell? ⟨w.heap.size + 1, 12, none⟩ = some (.int .i64 y0) := D1.out.cell 12
  have q13_ : (w2.alloc (.cells #[.slice cA1 ln cc1, .slice aA1 ln ac1, .slice rA1 ln rc1, .int .i64 beg1, .slice tA1 tn1 tc1, .int .i64 en1] 33)).cell? ⟨w.heap.size + 1, 13, none⟩ = some (.int .i64 z0) := D1.out.cell 13
  have y0_ : (w2.alloc (.cells #[.slice cA1 ln cc1, .slice aA1 ln ac1, .slice rA1 ln rc1, .int .i64 beg1, .slice tA1 tn1 tc1, .int .i64 en1] 33)).cell? ⟨w.heap.size + 1 + 1, 0, none⟩ = some (.int .i64 wc) := D2.out.cell 0
  have y1_ : (w2.alloc (.cells #[.slice cA1 ln cc1, .slice aA1 ln ac1, .slice rA1 ln rc1, .int .i64 beg1, .slice tA1 tn1 tc1, .int .i64 en1] 33)).cell? ⟨w.heap.size + 1 + 1, 1, none⟩ = some (.int .i64 ws) := D2.out.cell 1
  have y2_ : (w2.alloc (.cells #[.slice cA1 ln cc1, .slice aA1 ln ac1, .slice rA1 ln rc1, .int .i64 beg1, .slice tA1 tn1 tc1, .int .i64 en1] 33)).cell? ⟨w.heap.size + 1 + 1, 2, none⟩ = some (.int .i64 ww) := D2.out.cell 2
  clear htop m1 m2 m3 m4 e2 hS HWI
  go_wp2_with fail
  refine (HS1.out _ (Ext.refl _)).mono ?_
  rintro e w3 ⟨rfl, e3⟩
  have E3 := hide e3
  clear r0_ r1_ r2_ q0_ q1_ q2_ q3_ q4_ q5_ q6_ q7_ q8_ q9_ q10_ q11_ q12_ q13_ y0_ y1_ y2_ e3
  go_wp2_with fail
  refine (HAW.out _).mono ?_
  rintro e w4 ⟨rfl, e4⟩
  have E4 := hide (Ext.trans E3.out e4)
  have X4 := hide (Ext.trans X2.out E4.out)
  have D0 := hide (D0.out.ext E4.out)
  have D1 := hide (D1.out.ext E4.out)
  have D2 := hide (D2.out.ext E4.out)
  have BX := hide (BX.out.ext E4.out)
  have hz4 : w2.heap.size < w4.heap.size := BX.out.lt
  clear e4 E3
  have r0_ : w4.cell? ⟨w.heap.size, 0, none⟩ = some (.slice lA ln lc) := D0.out.cell 0
  have r1_ : w4.cell? ⟨w.heap.size, 1, none⟩ = some (.slice sA sn sc) := D0.out.cell 1
  have r2_ : w4.cell? ⟨w.heap.size, 2, none⟩ = some (.slice qA qn qc) := D0.out.cell 2
  have q0_ : w4.cell? ⟨w.heap.size + 1, 0, none⟩ = some (.int .i64 d0) := D1.out.cell 0
  have q1_ : w4.cell? ⟨w.heap.size + 1, 1, none⟩ = some (.int .i64 s0) := D1.out.cell 1
  have q2_ : w4.cell? ⟨w.heap.size + 1, 2, none⟩ = some (.int .i64 r0) := D1.out.cell 2
  have q3_ : w4.cell? ⟨w.heap.size + 1, 3, none⟩ = some (.int .i64 f0) := D1.out.cell 3
  have q4_ : w4.cell? ⟨w.heap.size + 1, 4, none⟩ = some (.int .i64 i0) := D1.out.cell 4
  have q5_ : w4.cell? ⟨w.heap.size + 1, 5, none⟩ = some (.int .i64 k0) := D1.out.cell 5
  have q6_ : w4.cell? ⟨w.heap.size + 1, 6, none⟩ = some (.int .i64 l0) := D1.out.cell 6
  have q7_ : w4.cell? ⟨w.heap.size + 1, 7, none⟩ = some (.int .i64 t0) := D1.out.cell 7
  have q8_ : w4.cell? ⟨w.heap.size + 1, 8, none⟩ = some (.int .i64 lo0) := D1.out.cell 8
  have q9_ : w4.cell? ⟨w.heap.size + 1, 9, none⟩ = some (.int .i64 hi0) := D1.out.cell 9
  have q10_ : w4.cell? ⟨w.heap.size + 1, 10, none⟩ = some (.int .i64 a0) := D1.out.cell 10
  have q11_ : w4.cell? ⟨w.heap.size + 1, 11, none⟩ = some (.int .i64 x0) := D1.out.cell 11
  have q12_ : w4.cell? ⟨w.heap.size + 1, 12, none⟩ = some (.int .i64 y0) := D1.out.cell 12
  have q13_ : w4.cell? ⟨w.heap.size + 1, 13, none⟩ = some (.int .i64 z0) := D1.out.cell 13
  have y0_ : w4.cell? ⟨w.heap.size + 1 + 1, 0, none⟩ = some (.int .i64 wc) := D2.out.cell 0
  have y1_ : w4.cell? ⟨w.heap.size + 1 + 1, 1, none⟩ = some (.int .i64 ws) := D2.out.cell 1
  have y2_ : w4.cell? ⟨w.heap.size + 1 + 1, 2, none⟩ = some (.int .i64 ww) := D2.out.cell 2
  go_wp2_with fail
  refine (HR.out _ X4.out).mono ?_
  rintro e w5 ⟨C2, cA2, cc2, aA2, ac2, rA2, rc2, tA2, tc2, rfl, ⟨hc1, hc2⟩, ⟨m1, m2, m3, m4, m5⟩, e5, hS⟩
  have hle := HLE.out C2 hc1 hc2
  generalize (folF f0 s0 r0 L S (gvF C2) (trF T d0) L.length) = F2 at *
  generalize F2.asd = asd2 at *
  generalize F2.arr = arr2 at *
  generalize F2.w.beg = beg2 at *
  generalize F2.w.at_ + F2.w.buf = en2 at *
  generalize hts : F2.w.stalls = sts2 at *
  generalize htn : sts2.length = tn2 at *
  rw [HLN.out] at m1
  rw [HLN.out] at m2
  rw [HLN.out] at m3
  rw [HLN.out]
  clear hts htn
  have E5 := hide e5
  have X5 := hide (Ext.trans X4.out e5)
  clear r0_ r1_ r2_ q0_ q1_ q2_ q3_ q4_ q5_ q6_ q7_ q8_ q9_ q10_ q11_ q12_ q13_ y0_ y1_ y2_ hc1 hc2 e5
  have BZ := hide (BX.out.ext E5.out)
  have z0' := BZ.out.cell 0
  have zf0' := BZ.out.frozen 0
  have z1' := BZ.out.cell 1
  have zf1' := BZ.out.frozen 1
  have z2' := BZ.out.cell 2
  have zf2' := BZ.out.frozen 2
  have z3' := BZ.out.cell 3
  have zf3' := BZ.out.frozen 3
  have z4' := BZ.out.cell 4
  have zf4' := BZ.out.frozen 4
  have z5' := BZ.out.cell 5
  have zf5' := BZ.out.frozen 5
  go_upto_region 11 with (fail)
  refine gen_wpC fun W6 h6 => ?_
  have S6 : Blk W6 w2.heap.size 33 #[.slice cA2 ln cc2, .slice aA2 ln ac2, .slice rA2 ln rc2, .int .i64 beg2, .slice tA2 tn2 tc2, .int .i64 en2] := by rw [h6]; exact (((((BZ.out.set_ 0 _).set_ 1 _).set_ 2 _).set_ 3 _).set_ 4 _).set_ 5 _
  have T6 : Tw w5 W6 w2.heap.size none := by rw [h6]; (repeat' (first | (with_reducible exact Tw.refl _ _ _) | (with_reducible refine Tw.trans ?_ (Tw.set_ _ _ _ _ _))))
  clear h6 z0' zf0' z1' zf1' z2' zf2' z3' zf3' z4' zf4' z5' zf5'
  have X6 := hide (Below.trans X5.out (T6.below X5.out.size hg0 (fun b hb => by cases hb)))
  have n1 := m1.tw T6 (fun a ha => ⟨by have := m5 a (.inl ha); omega, by simp⟩)
  have n2 := m2.tw T6 (fun a ha => ⟨by have := m5 a (.inr (.inl ha)); omega, by simp⟩)
  have n3 := m3.tw T6 (fun a ha => ⟨by have := m5 a (.inr (.inr (.inl ha))); omega, by simp⟩)
  have n4 := m4.tw T6 (fun a ha => ⟨by have := m5 a (.inr (.inr (.inr ha))); omega, by simp⟩)
  have D0 := hide (T6.blk (D0.out.ext E5.out) (by omega) (by simp))
  have D1 := hide (T6.blk (D1.out.ext E5.out) (by omega) (by simp))
  have D2 := hide (T6.blk (D2.out.ext E5.out) (by omega) (by simp))
  have BX := hide S6
  clear m1 m2 m3 m4 m5 BZ E5 S6
  have k0' := BX.out.cell 0
  have k1' := BX.out.cell 1
  have k2' := BX.out.cell 2
  have k3' := BX.out.cell 3
  have k4' := BX.out.cell 4
  have k5' := BX.out.cell 5
  have HS2 := hide (fun (W : World) (EX : Ext W6 W) => HSCO.out W C2 asd2 arr2 beg2 sts2 en2 cA2 aA2 rA2 tA2 cc2 ac2 rc2 tn2 tc2 hS (Ext.trans X6.out EX) (n1.ext EX) (n2.ext EX) (n3.ext EX) (n4.ext EX))
  generalize scoF Q L C2 sts2 beg2 wc ws ww = v2 at *
  have hle2 := hle
  clear hle n1 n2 n3 n4 hS T6
  have r0_ : W6.cell? ⟨w.heap.size, 0, none⟩ = some (.slice lA ln lc) := D0.out.cell 0
  have r1_ : W6.cell? ⟨w.heap.size, 1, none⟩ = some (.slice sA sn sc) := D0.out.cell 1
  have r2_ : W6.cell? ⟨w.heap.size, 2, none⟩ = some (.slice qA qn qc) := D0.out.cell 2
  have q0_ : W6.cell? ⟨w.heap.size + 1, 0, none⟩ = some (.int .i64 d0) := D1.out.cell 0
  have q1_ : W6.cell? ⟨w.heap.size + 1, 1, none⟩ = some (.int .i64 s0) := D1.out.cell 1
  have q2_ : W6.cell? ⟨w.heap.size + 1, 2, none⟩ = some (.int .i64 r0) := D1.out.cell 2
  have q3_ : W6.cell? ⟨w.heap.size + 1, 3, none⟩ = some (.int .i64 f0) := D1.out.cell 3
  have q4_ : W6.cell? ⟨w.heap.size + 1, 4, none⟩ = some (.int .i64 i0) := D1.out.cell 4
  have q5_ : W6.cell? ⟨w.heap.size + 1, 5, none⟩ = some (.int .i64 k0) := D1.out.cell 5
  have q6_ : W6.cell? ⟨w.heap.size + 1, 6, none⟩ = some (.int .i64 l0) := D1.out.cell 6
  have q7_ : W6.cell? ⟨w.heap.size + 1, 7, none⟩ = some (.int .i64 t0) := D1.out.cell 7
  have q8_ : W6.cell? ⟨w.heap.size + 1, 8, none⟩ = some (.int .i64 lo0) := D1.out.cell 8
  have q9_ : W6.cell? ⟨w.heap.size + 1, 9, none⟩ = some (.int .i64 hi0) := D1.out.cell 9
  have q10_ : W6.cell? ⟨w.heap.size + 1, 10, none⟩ = some (.int .i64 a0) := D1.out.cell 10
  have q11_ : W6.cell? ⟨w.heap.size + 1, 11, none⟩ = some (.int .i64 x0) := D1.out.cell 11
  have q12_ : W6.cell? ⟨w.heap.size + 1, 12, none⟩ = some (.int .i64 y0) := D1.out.cell 12
  have q13_ : W6.cell? ⟨w.heap.size + 1, 13, none⟩ = some (.int .i64 z0) := D1.out.cell 13
  have y0_ : W6.cell? ⟨w.heap.size + 1 + 1, 0, none⟩ = some (.int .i64 wc) := D2.out.cell 0
  have y1_ : W6.cell? ⟨w.heap.size + 1 + 1, 1, none⟩ = some (.int .i64 ws) := D2.out.cell 1
  have y2_ : W6.cell? ⟨w.heap.size + 1 + 1, 2, none⟩ = some (.int .i64 ww) := D2.out.cell 2
  go_wp2_with fail
  refine (HS2.out _ (Ext.refl _)).mono ?_
  rintro e w7 ⟨rfl, e7⟩
  have X7 := hide (Ext.trans X6.out e7)
  have D0 := hide (D0.out.ext e7)
  have D1 := hide (D1.out.ext e7)
  have D2 := hide (D2.out.ext e7)
  have BX := hide (BX.out.ext e7)
  have hz7 : w2.heap.size < w7.heap.size := BX.out.lt
  clear r0_ r1_ r2_ q0_ q1_ q2_ q3_ q4_ q5_ q6_ q7_ q8_ q9_ q10_ q11_ q12_ q13_ y0_ y1_ y2_ k0' k1' k2' k3' k4' k5' e7 HS2
  have r0_ : w7.cell? ⟨w.heap.size, 0, none⟩ = some (.slice lA ln lc) := D0.out.cell 0
  have r1_ : w7.cell? ⟨w.heap.size, 1, none⟩ = some (.slice sA sn sc) := D0.out.cell 1
  have r2_ : w7.cell? ⟨w.heap.size, 2, none⟩ = some (.slice qA qn qc) := D0.out.cell 2
  have q0_ : w7.cell? ⟨w.heap.size + 1, 0, none⟩ = some (.int .i64 d0) := D1.out.cell 0
  have q1_ : w7.cell? ⟨w.heap.size + 1, 1, none⟩ = some (.int .i64 s0) := D1.out.cell 1
  have q2_ : w7.cell? ⟨w.heap.size + 1, 2, none⟩ = some (.int .i64 r0) := D1.out.cell 2
  have q3_ : w7.cell? ⟨w.heap.size + 1, 3, none⟩ = some (.int .i64 f0) := D1.out.cell 3
  have q4_ : w7.cell? ⟨w.heap.size + 1, 4, none⟩ = some (.int .i64 i0) := D1.out.cell 4
  have q5_ : w7.cell? ⟨w.heap.size + 1, 5, none⟩ = some (.int .i64 k0) := D1.out.cell 5
  have q6_ : w7.cell? ⟨w.heap.size + 1, 6, none⟩ = some (.int .i64 l0) := D1.out.cell 6
  have q7_ : w7.cell? ⟨w.heap.size + 1, 7, none⟩ = some (.int .i64 t0) := D1.out.cell 7
  have q8_ : w7.cell? ⟨w.heap.size + 1, 8, none⟩ = some (.int .i64 lo0) := D1.out.cell 8
  have q9_ : w7.cell? ⟨w.heap.size + 1, 9, none⟩ = some (.int .i64 hi0) := D1.out.cell 9
  have q10_ : w7.cell? ⟨w.heap.size + 1, 10, none⟩ = some (.int .i64 a0) := D1.out.cell 10
  have q11_ : w7.cell? ⟨w.heap.size + 1, 11, none⟩ = some (.int .i64 x0) := D1.out.cell 11
  have q12_ : w7.cell? ⟨w.heap.size + 1, 12, none⟩ = some (.int .i64 y0) := D1.out.cell 12
  have q13_ : w7.cell? ⟨w.heap.size + 1, 13, none⟩ = some (.int .i64 z0) := D1.out.cell 13
  have y0_ : w7.cell? ⟨w.heap.size + 1 + 1, 0, none⟩ = some (.int .i64 wc) := D2.out.cell 0
  have y1_ : w7.cell? ⟨w.heap.size + 1 + 1, 1, none⟩ = some (.int .i64 ws) := D2.out.cell 1
  have y2_ : w7.cell? ⟨w.heap.size + 1 + 1, 2, none⟩ = some (.int .i64 ww) := D2.out.cell 2
  have d1 : decide (top < v2) = false := by simp; omega
  go_wp2_with fail
  refine (HW3.out _ X7.out).mono ?_
  intro e w8 hg
  clear r0_ r1_ r2_ q0_ q1_ q2_ q3_ q4_ q5_ q6_ q7_ q8_ q9_ q10_ q11_ q12_ q13_ y0_ y1_ y2_
  by_cases hw : withF L S Q T C d0 s0 r0 f0 i0 k0 l0 t0 lo0 hi0 a0 x0 y0 z0 = 0
  rotate_left
  · have hgx := hg.1
    have hge := hg.2.1 hw
    subst hge
    have i2 : (withF L S Q T C d0 s0 r0 f0 i0 k0 l0 t0 lo0 hi0 a0 x0 y0 z0 != 0) = true := by simp [hw]
    generalize withF L S Q T C d0 s0 r0 f0 i0 k0 l0 t0 lo0 hi0 a0 x0 y0 z0 = u at *
    have X8 := hide (Ext.trans X7.out hgx)
    have BX := hide (BX.out.ext hgx)
    clear hg hw
    have z0' := BX.out.cell 0
    have zf0' := BX.out.frozen 0
    have z1' := BX.out.cell 1
    have zf1' := BX.out.frozen 1
    have z2' := BX.out.cell 2
    have zf2' := BX.out.frozen 2
    have z3' := BX.out.cell 3
    have zf3' := BX.out.frozen 3
    have z4' := BX.out.cell 4
    have zf4' := BX.out.frozen 4
    have z5' := BX.out.cell 5
    have zf5' := BX.out.frozen 5
    go_wp2_with fail
    refine gen_bod fun W9 h9 => ?_
    have T9 : Tw w8 W9 w2.heap.size none := by rw [h9]; (repeat' (first | (with_reducible exact Tw.refl _ _ _) | (with_reducible refine Tw.trans ?_ (Tw.set_ _ _ _ _ _))))
    have X9 := Below.trans X8.out (T9.below X8.out.size hg0 (fun b hb => by cases hb))
    clear h9 T9
    go_ret
    exact ⟨rfl, X9⟩
  obtain ⟨cA3, cc3, aA3, ac3, rA3, rc3, tA3, tc3, rfl, ⟨hc1, hc2⟩, ⟨m1, m2, m3, m4, m5⟩, e8, hS⟩ := with_form5 hw hg
  have hle := HLE.out C hc1 hc2
  clear hg hw
  generalize (folF f0 s0 r0 L S (gvF C) (trF T d0) L.length) = F3 at *
  generalize F3.asd = asd3 at *
  generalize F3.arr = arr3 at *
  generalize F3.w.beg = beg3 at *
  generalize F3.w.at_ + F3.w.buf = en3 at *
  generalize hts : F3.w.stalls = sts3 at *
  generalize htn : sts3.length = tn3 at *
  rw [HLN.out] at m1
  rw [HLN.out] at m2
  rw [HLN.out] at m3
  rw [HLN.out]
  clear hts htn
  have X8 := hide (Ext.trans X7.out e8)
  have E5 := hide e8
  clear hc1 hc2 e8
  have BZ := hide (BX.out.ext E5.out)
  have z0' := BZ.out.cell 0
  have zf0' := BZ.out.frozen 0
  have z1' := BZ.out.cell 1
  have zf1' := BZ.out.frozen 1
  have z2' := BZ.out.cell 2
  have zf2' := BZ.out.frozen 2
  have z3' := BZ.out.cell 3
  have zf3' := BZ.out.frozen 3
  have z4' := BZ.out.cell 4
  have zf4' := BZ.out.frozen 4
  have z5' := BZ.out.cell 5
  have zf5' := BZ.out.frozen 5
  go_upto_region 17 with (fail)
  refine gen_wpC fun W9 h9 => ?_
  have S9 : Blk W9 w2.heap.size 33 #[.slice cA3 ln cc3, .slice aA3 ln ac3, .slice rA3 ln rc3, .int .i64 beg3, .slice tA3 tn3 tc3, .int .i64 en3] := by rw [h9]; exact (((((BZ.out.set_ 0 _).set_ 1 _).set_ 2 _).set_ 3 _).set_ 4 _).set_ 5 _
  have T9 : Tw w8 W9 w2.heap.size none := by rw [h9]; (repeat' (first | (with_reducible exact Tw.refl _ _ _) | (with_reducible refine Tw.trans ?_ (Tw.set_ _ _ _ _ _))))
  clear h9 z0' zf0' z1' zf1' z2' zf2' z3' zf3' z4' zf4' z5' zf5'
  have X9 := hide (Below.trans X8.out (T9.below X8.out.size hg0 (fun b hb => by cases hb)))
  have n1 := m1.tw T9 (fun a ha => ⟨by have := m5 a (.inl ha); omega, by simp⟩)
  have n2 := m2.tw T9 (fun a ha => ⟨by have := m5 a (.inr (.inl ha)); omega, by simp⟩)
  have n3 := m3.tw T9 (fun a ha => ⟨by have := m5 a (.inr (.inr (.inl ha))); omega, by simp⟩)
  have n4 := m4.tw T9 (fun a ha => ⟨by have := m5 a (.inr (.inr (.inr ha))); omega, by simp⟩)
  have D0 := hide (T9.blk (D0.out.ext E5.out) (by omega) (by simp))
  have D1 := hide (T9.blk (D1.out.ext E5.out) (by omega) (by simp))
  have D2 := hide (T9.blk (D2.out.ext E5.out) (by omega) (by simp))
  have BX := hide S9
  clear m1 m2 m3 m4 m5 BZ E5 S9
  have k0' := BX.out.cell 0
  have k1' := BX.out.cell 1
  have k2' := BX.out.cell 2
  have k3' := BX.out.cell 3
  have k4' := BX.out.cell 4
  have k5' := BX.out.cell 5
  have HS3 := hide (fun (W : World) (EX : Ext W9 W) => HSCO.out W C asd3 arr3 beg3 sts3 en3 cA3 aA3 rA3 tA3 cc3 ac3 rc3 tn3 tc3 hS (Ext.trans X9.out EX) (n1.ext EX) (n2.ext EX) (n3.ext EX) (n4.ext EX))
  generalize scoF Q L C sts3 beg3 wc ws ww = v3 at *
  have hle3 := hle
  clear hle n1 n2 n3 n4 hS T9
  have r0_ : W9.cell? ⟨w.heap.size, 0, none⟩ = some (.slice lA ln lc) := D0.out.cell 0
  have r1_ : W9.cell? ⟨w.heap.size, 1, none⟩ = some (.slice sA sn sc) := D0.out.cell 1
  have r2_ : W9.cell? ⟨w.heap.size, 2, none⟩ = some (.slice qA qn qc) := D0.out.cell 2
  have q0_ : W9.cell? ⟨w.heap.size + 1, 0, none⟩ = some (.int .i64 d0) := D1.out.cell 0
  have q1_ : W9.cell? ⟨w.heap.size + 1, 1, none⟩ = some (.int .i64 s0) := D1.out.cell 1
  have q2_ : W9.cell? ⟨w.heap.size + 1, 2, none⟩ = some (.int .i64 r0) := D1.out.cell 2
  have q3_ : W9.cell? ⟨w.heap.size + 1, 3, none⟩ = some (.int .i64 f0) := D1.out.cell 3
  have q4_ : W9.cell? ⟨w.heap.size + 1, 4, none⟩ = some (.int .i64 i0) := D1.out.cell 4
  have q5_ : W9.cell? ⟨w.heap.size + 1, 5, none⟩ = some (.int .i64 k0) := D1.out.cell 5
  have q6_ : W9.cell? ⟨w.heap.size + 1, 6, none⟩ = some (.int .i64 l0) := D1.out.cell 6
  have q7_ : W9.cell? ⟨w.heap.size + 1, 7, none⟩ = some (.int .i64 t0) := D1.out.cell 7
  have q8_ : W9.cell? ⟨w.heap.size + 1, 8, none⟩ = some (.int .i64 lo0) := D1.out.cell 8
  have q9_ : W9.cell? ⟨w.heap.size + 1, 9, none⟩ = some (.int .i64 hi0) := D1.out.cell 9
  have q10_ : W9.cell? ⟨w.heap.size + 1, 10, none⟩ = some (.int .i64 a0) := D1.out.cell 10
  have q11_ : W9.cell? ⟨w.heap.size + 1, 11, none⟩ = some (.int .i64 x0) := D1.out.cell 11
  have q12_ : W9.cell? ⟨w.heap.size + 1, 12, none⟩ = some (.int .i64 y0) := D1.out.cell 12
  have q13_ : W9.cell? ⟨w.heap.size + 1, 13, none⟩ = some (.int .i64 z0) := D1.out.cell 13
  have y0_ : W9.cell? ⟨w.heap.size + 1 + 1, 0, none⟩ = some (.int .i64 wc) := D2.out.cell 0
  have y1_ : W9.cell? ⟨w.heap.size + 1 + 1, 1, none⟩ = some (.int .i64 ws) := D2.out.cell 1
  have y2_ : W9.cell? ⟨w.heap.size + 1 + 1, 2, none⟩ = some (.int .i64 ww) := D2.out.cell 2
  have d2 : decide (v3 ≤ top) = true := by simp; omega
  go_wp2_with fail
  refine (HS3.out _ (Ext.refl _)).mono ?_
  rintro e w10 ⟨rfl, e10⟩
  go_wp2
  go_ret
  exact ⟨rfl, Ext.trans X9.out e10⟩
set_option maxRecDepth 100000 in
theorem playNoneIsBetterThanBest_lifted (os : Os) (started : os.Started) (H : Type) (enc : TypeId × Value → H) :
    ReturnsInHanded {} Try.checked os 6 .any (Rows.playNoneIsBetterThanBestSpec.pre6 enc Try.prog Try.f6 Rows.playNoneIsBetterThanBestRow.domain false) (Rows.playNoneIsBetterThanBestSpec.post enc Try.prog Try.f6 false true false false) := by
  refine returnsInHanded_of_change_sized (C := Try.checked) Try.own started (by kernel_rfl) Try.func6
    (ChangeSpec.witness6 (enc := enc) (C := Try.checked) false ⟨#[], #[.agg #[.slice none 0 0, .slice none 0 0, .slice none 0 0], .slice none 0 0, .agg #[.int .i64 0, .int .i64 0, .int .i64 0, .int .i64 0, .int .i64 0, .int .i64 0, .int .i64 0, .int .i64 0, .int .i64 0, .int .i64 0, .int .i64 0, .int .i64 0, .int .i64 0, .int .i64 0], .agg #[.int .i64 0, .int .i64 0, .int .i64 0], .slice none 0 0], []⟩ 8 (by kernel_rfl) (by kernel_rfl) (by kernel_rfl) (by kernel_rfl)) ?_
  intro W base args ds gs before hval0 hW _ _ _
  have hval : ∀ (j : Nat) t v, Try.f6.params[j]? = some t → args[j]? = some v → Value.okWide Try.prog W .any base t v := hval0
  have hW' := hW
  obtain ⟨p, q, hA0, hV, rfl, _, _⟩ := hW
  have hA : DataW.TrodAll enc Try.prog W 0 (fun _ => true) true Try.f6.params.toList args.toList ds p := hA0
  rw [Try.params6] at hA hval
  obtain ⟨v0, v1, v2, v3, v4, d0, d1, d2, d3, d4, p0, p1, p2, p3, p4, rfl, rfl, rfl, h0, h1, h2, h3, h4⟩ := trodAll5 hA
  obtain ⟨lA, ln, lc, sA, sn, sc, qA, qn, qc, L, S, Q, rfl, hSh⟩ := open_show (hval 0 25 v0 rfl rfl) h0
  obtain ⟨A1, n1, c1, l1, rfl, hAt1, _, _⟩ := open_flows (hval 1 26 v1 rfl rfl) h1
  obtain ⟨q0, q1, q2, q3, q4, q5, q6, q7, q8, q9, q10, q11, q12, q13, rfl⟩ := open_player (hval 2 30 v2 rfl rfl) h2
  obtain ⟨y0, y1, y2, rfl⟩ := open_weights (hval 3 28 v3 rfl rfl) h3
  obtain ⟨A4, n4, c4, l4, rfl, hAt4, _, _⟩ := open_intsP Try.underlying22 Try.underlying3 cellsInt (hval 4 22 v4 rfl rfl) h4
  refine (nib_law hSh hAt1 hAt4).mono fun e W' ⟨he, hE⟩ => ?_
  subst he
  exact ⟨_, rfl, law_post Try.laidOut Try.underlying4 hW' rfl rfl rfl (by kernel_rfl) hE⟩
theorem playNoneIsBetterThanBest_closed : joinedFacts Try.prog 6 Try.f6 Rows.playNoneIsBetterThanBestSpec Rows.playNoneIsBetterThanBestRow = true :=
  joined_of Try.laidOut Try.mapsRowed Try.plainKeys Try.stopsHeard Try.stopsNone Try.knobsNone Try.mayEnter Try.makeCut Try.liftsFinal rfl rfl rfl (by as_aux_lemma => kernel_rfl)
    (by as_aux_lemma => kernel_rfl) (by as_aux_lemma => kernel_rfl) (by as_aux_lemma => kernel_rfl) (by as_aux_lemma => kernel_rfl) (by as_aux_lemma => kernel_rfl) (by as_aux_lemma => kernel_rfl) (by as_aux_lemma => kernel_rfl) (by as_aux_lemma => kernel_rfl) (by as_aux_lemma => kernel_rfl) (by as_aux_lemma => kernel_rfl)
theorem playNoneIsBetterThanBest_holds : Rows.PlayNoneIsBetterThanBestSaid :=
  OpenClaim.holds_of_wide 6 Try.f6 rfl rfl rfl rfl rfl rfl rfl ⟨rfl, rfl, rfl, rfl, rfl⟩ rfl rfl rfl rfl rfl (by as_aux_lemma => kernel_rfl) Try.func6 playNoneIsBetterThanBest_closed
    (of_decide_eq_true (by kernel_rfl)) (by unfold Func.isWrapper; first | (rw [if_pos (by decide +kernel)]; kernel_rfl) | (rw [if_neg (by decide +kernel)]; exact ⟨rfl, rfl⟩))
    (fun os started H enc _ => playNoneIsBetterThanBest_lifted os started H enc)
#print axioms playNoneIsBetterThanBest_holds

end Go.Proofs.Ytajadgpkmommmaa
