/- Proved: for every film, trace and player PlayRunsAreGiven returns true: what Run does is what With does with its choices; its session is right; its first choice is the player's First; the arguments read as they did. Conditions: none. -/
import Derived.Test.YtajadgpkmommmaaLawRZ
import Derived.Test.YtajadgpkmommmaaSesCZ
import Derived.Test.YtajadgpkmommmaaAwakePZ
import Derived.Test.YtajadgpkmommmaaOpenZ
import Derived.Test.YtajadgpkmommmaaLawG
import Derived.Deep.RegionHeld3
import Derived.Deep.DrawnRows
namespace Go.Proofs.Ytajadgpkmommmaa
open Go.ChangeShapes Go.WideShapes Go.ChangeAt Go.RowKit
attribute [local go_sem ↓] Go.wp_at_zero Go.wp_at_succ
set_option linter.unusedVariables false in
set_option maxRecDepth 1000000 in
set_option maxHeartbeats 16000000 in
theorem rgv_law {lA : Option Addr} {ln lc : Nat} {sA : Option Addr} {sn sc : Nat} {qA : Option Addr} {qn qc : Nat} {L : List Int} {S : List (List Int)} {Q : List Int} {T : List (Int × Int)} {d0 s0 r0 f0 i0 k0 l0 t0 lo0 hi0 a0 x0 y0 z0 : Int} {w : World} {tA : Option Addr} {tn tc : Nat} (h : Shw w lA ln lc sA sn sc qA qn qc L S Q) (hT : At w 2 e2 tA tn tc T) :
    Calls Try.prog 5 #[shV lA ln lc sA sn sc qA qn qc, .slice tA tn tc, plV d0 s0 r0 f0 i0 k0 l0 t0 lo0 hi0 a0 x0 y0 z0] w fun e w' => e = .returned (.bool true) ∧ Ext w w' := by
  have HX : Hid (Ext w ((w.alloc (.cells #[.slice lA ln lc, .slice sA sn sc, .slice qA qn qc] 25)).alloc (.cells #[.int .i64 d0, .int .i64 s0, .int .i64 r0, .int .i64 f0, .int .i64 i0, .int .i64 k0, .int .i64 l0, .int .i64 t0, .int .i64 lo0, .int .i64 hi0, .int .i64 a0, .int .i64 x0, .int .i64 y0, .int .i64 z0] 30))) := hide (ext_alloc (Ext.alloc _ _) _)
  have hk0 := (Blk.new w 25 #[.slice lA ln lc, .slice sA sn sc, .slice qA qn qc]).alloc (.cells #[.int .i64 d0, .int .i64 s0, .int .i64 r0, .int .i64 f0, .int .i64 i0, .int .i64 k0, .int .i64 l0, .int .i64 t0, .int .i64 lo0, .int .i64 hi0, .int .i64 a0, .int .i64 x0, .int .i64 y0, .int .i64 z0] 30)
  have hk1 := Blk.new (w.alloc (.cells #[.slice lA ln lc, .slice sA sn sc, .slice qA qn qc] 25)) 30 #[.int .i64 d0, .int .i64 s0, .int .i64 r0, .int .i64 f0, .int .i64 i0, .int .i64 k0, .int .i64 l0, .int .i64 t0, .int .i64 lo0, .int .i64 hi0, .int .i64 a0, .int .i64 x0, .int .i64 y0, .int .i64 z0]
  rw [World.size_alloc] at hk1
  have B0 := hide hk0
  have B1 := hide hk1
  have HAW := hide (fun (W : World) => awake_any W)
  clear hk0 hk1
  by_cases hu : runF L S Q T d0 s0 r0 f0 i0 k0 l0 t0 lo0 hi0 a0 x0 y0 z0 = 0
  rotate_left
  · have i1 : (runF L S Q T d0 s0 r0 f0 i0 k0 l0 t0 lo0 hi0 a0 x0 y0 z0 != 0) = true := by simp [hu]
    have HR := hide (fun (W : World) (hW : Ext w W) => (keyRun_any (d0 := d0) (s0 := s0) (r0 := r0) (f0 := f0) (i0 := i0) (k0 := k0) (l0 := l0) (t0 := t0) (lo0 := lo0) (hi0 := hi0) (a0 := a0) (x0 := x0) (y0 := y0) (z0 := z0) (h.ext hW) (hT.ext hW)).mono fun e w' hg => And.intro (hg.2.1 hu) hg.1)
    generalize runF L S Q T d0 s0 r0 f0 i0 k0 l0 t0 lo0 hi0 a0 x0 y0 z0 = u at *
    clear hu h hT
    go_enter Try.func5, Try.ntmps5
    go_wp2_with fail
    refine (HR.out _ HX.out).mono ?_
    rintro e w1 ⟨rfl, e1⟩
    go_wp2_with fail
    refine (HAW.out _).mono ?_
    rintro e w2 ⟨rfl, e2⟩
    go_wp2
    go_ret
    exact ⟨rfl, Ext.trans HX.out (Ext.trans e1 (Ext.trans (Ext.alloc _ _) e2))⟩
  have HR := hide (fun (W : World) (hW : Ext w W) => (keyRun_any (d0 := d0) (s0 := s0) (r0 := r0) (f0 := f0) (i0 := i0) (k0 := k0) (l0 := l0) (t0 := t0) (lo0 := lo0) (hi0 := hi0) (a0 := a0) (x0 := x0) (y0 := y0) (z0 := z0) (h.ext hW) (hT.ext hW)).mono fun e w' hg => run_form hu hg)
  have hF := (runF_zero hu).1
  have ok := filmF_ok hF
  have hLn := h.longs.len
  have hl0 := ok.l0
  have HCK := hide (fun (W : World) (C asd arr : List Int) (beg : Int) (sts : List (Int × Int)) (en : Int) (cA aA rA tA : Option Addr) (cc ac rc tn4 tc : Nat) (hW : Ext w W) (hS : SesOk L S.length C asd arr beg sts en) (a1 : At W 1 e64 cA ln cc C) (a2 : At W 1 e64 aA ln ac asd) (a3 : At W 1 e64 rA ln rc arr) (a4 : At W 2 e2 tA tn4 tc sts) => checkSession_ok (h.ext hW) hF hS a1 a2 a3 a4)
  have HWI := hide (fun (W : World) (C : List Int) (cA : Option Addr) (cc : Nat) (hw : withF L S Q T C d0 s0 r0 f0 i0 k0 l0 t0 lo0 hi0 a0 x0 y0 z0 = 0) (hC1 : C.length = L.length) (hW : Ext w W) (hC : At W 1 e64 cA ln cc C) => (with_any (d0 := d0) (s0 := s0) (r0 := r0) (f0 := f0) (i0 := i0) (k0 := k0) (l0 := l0) (t0 := t0) (lo0 := lo0) (hi0 := hi0) (a0 := a0) (x0 := x0) (y0 := y0) (z0 := z0) (h.ext hW) (hT.ext hW) hC).mono fun e w' hg => with_form0 hw hC1 hg)
  have HLN := hide hLn
  have hln0 : 0 < ln := by omega
  clear h hT hF ok hu hLn hl0
  go_enter Try.func5, Try.ntmps5
  go_wp2_with fail
  refine (HR.out _ HX.out).mono ?_
  rintro e w1 ⟨C, cA, cc, aA, ac, rA, rc, tA4, tc4, rfl, ⟨hC1, hC2, hC3, hC4, hC5⟩, ⟨m1, m2, m3, m4⟩, e1, hS, hR⟩
  have hi0 : C.getD 0 0 = i0 := (hC5 0 (by have := HLN.out; omega)).1 rfl
  have HWC := hide (fun (W : World) (cA : Option Addr) (cc : Nat) (hW : Ext w W) (hC : At W 1 e64 cA ln cc C) => HWI.out W C cA cc hC3 hC1 hW hC)
  clear hC1 hC2 hC3 hC4 hC5 hR HWI HR
  generalize (folF f0 s0 r0 L S (gvF C) (trF T d0) L.length) = F at *
  generalize F.asd = asd at *
  generalize F.arr = arr at *
  generalize F.w.beg = beg at *
  generalize F.w.at_ + F.w.buf = en at *
  generalize hts : F.w.stalls = sts at *
  generalize htn : sts.length = tn4 at *
  rw [HLN.out] at m1
  rw [HLN.out] at m2
  rw [HLN.out] at m3
  rw [HLN.out]
  obtain ⟨bc, oc, rfl, _⟩ := m1.addr hln0
  have hc0 := m1.num hln0
  rw [Nat.add_zero, hi0] at hc0
  have HC0 := hide hc0
  have M1 := hide m1
  have M2 := hide m2
  have M3 := hide m3
  have M4 := hide m4
  have E1 := hide (Ext.trans HX.out e1)
  have C0 := hide (B0.out.ext e1)
  have C1 := hide (B1.out.ext e1)
  have BX := hide (Blk.new w1 33 #[.slice (some ⟨bc, oc, none⟩) ln cc, .slice aA ln ac, .slice rA ln rc, .int .i64 beg, .slice tA4 tn4 tc4, .int .i64 en])
  have HS := hide hS
  clear hc0 hi0 m1 m2 m3 m4 e1 hS B0 B1 hts htn
  have r0_ : (w1.alloc (.cells #[.slice (some ⟨bc, oc, none⟩) ln cc, .slice aA ln ac, .slice rA ln rc, .int .i64 beg, .slice tA4 tn4 tc4, .int .i64 en] 33)).cell? ⟨w.heap.size, 0, none⟩ = some (.slice lA ln lc) := (C0.out.alloc _).cell 0
  go_wp2_with fail
  refine (HAW.out _).mono ?_
  rintro e w2 ⟨rfl, e2⟩
  have E2 := hide (Ext.trans (Ext.alloc w1 (.cells #[.slice (some ⟨bc, oc, none⟩) ln cc, .slice aA ln ac, .slice rA ln rc, .int .i64 beg, .slice tA4 tn4 tc4, .int .i64 en] 33)) e2)
  have BX := hide (BX.out.ext e2)
  have C0 := hide (C0.out.ext E2.out)
  have C1 := hide (C1.out.ext E2.out)
  clear e2 r0_
  have r0_ : w2.cell? ⟨w.heap.size, 0, none⟩ = some (.slice lA ln lc) := C0.out.cell 0
  have r1_ : w2.cell? ⟨w.heap.size, 1, none⟩ = some (.slice sA sn sc) := C0.out.cell 1
  have r2_ : w2.cell? ⟨w.heap.size, 2, none⟩ = some (.slice qA qn qc) := C0.out.cell 2
  have q0_ : w2.cell? ⟨w.heap.size + 1, 0, none⟩ = some (.int .i64 d0) := C1.out.cell 0
  have q1_ : w2.cell? ⟨w.heap.size + 1, 1, none⟩ = some (.int .i64 s0) := C1.out.cell 1
  have q2_ : w2.cell? ⟨w.heap.size + 1, 2, none⟩ = some (.int .i64 r0) := C1.out.cell 2
  have q3_ : w2.cell? ⟨w.heap.size + 1, 3, none⟩ = some (.int .i64 f0) := C1.out.cell 3
  have q4_ : w2.cell? ⟨w.heap.size + 1, 4, none⟩ = some (.int .i64 i0) := C1.out.cell 4
  have q5_ : w2.cell? ⟨w.heap.size + 1, 5, none⟩ = some (.int .i64 k0) := C1.out.cell 5
  have q6_ : w2.cell? ⟨w.heap.size + 1, 6, none⟩ = some (.int .i64 l0) := C1.out.cell 6
  have q7_ : w2.cell? ⟨w.heap.size + 1, 7, none⟩ = some (.int .i64 t0) := C1.out.cell 7
  have q8_ : w2.cell? ⟨w.heap.size + 1, 8, none⟩ = some (.int .i64 lo0) := C1.out.cell 8
  have q9_ : w2.cell? ⟨w.heap.size + 1, 9, none⟩ = some (.int .i64 hi0) := C1.out.cell 9
  have q10_ : w2.cell? ⟨w.heap.size + 1, 10, none⟩ = some (.int .i64 a0) := C1.out.cell 10
  have q11_ : w2.cell? ⟨w.heap.size + 1, 11, none⟩ = some (.int .i64 x0) := C1.out.cell 11
  have q12_ : w2.cell? ⟨w.heap.size + 1, 12, none⟩ = some (.int .i64 y0) := C1.out.cell 12
  have q13_ : w2.cell? ⟨w.heap.size + 1, 13, none⟩ = some (.int .i64 z0) := C1.out.cell 13
  have x0_ : w2.cell? ⟨w1.heap.size, 0, none⟩ = some (.slice (some ⟨bc, oc, none⟩) ln cc) := BX.out.cell 0
  have x1_ : w2.cell? ⟨w1.heap.size, 1, none⟩ = some (.slice aA ln ac) := BX.out.cell 1
  have x2_ : w2.cell? ⟨w1.heap.size, 2, none⟩ = some (.slice rA ln rc) := BX.out.cell 2
  have x3_ : w2.cell? ⟨w1.heap.size, 3, none⟩ = some (.int .i64 beg) := BX.out.cell 3
  have x4_ : w2.cell? ⟨w1.heap.size, 4, none⟩ = some (.slice tA4 tn4 tc4) := BX.out.cell 4
  have x5_ : w2.cell? ⟨w1.heap.size, 5, none⟩ = some (.int .i64 en) := BX.out.cell 5
  have X2 := hide (Ext.trans E1.out E2.out)
  go_wp2_with fail
  refine (HWC.out _ _ _ X2.out (M1.out.ext E2.out)).mono ?_
  rintro e w3 ⟨cB, cd, aB, ad, rB, rd, tB4, td4, rfl, ⟨m1, m2, m3, m4⟩, e3⟩
  rw [HLN.out] at m1
  rw [HLN.out] at m2
  rw [HLN.out] at m3
  rw [HLN.out]
  have E3 := hide (Ext.trans e3 (Ext.alloc w3 (.cells #[.slice cB ln cd, .slice aB ln ad, .slice rB ln rd, .int .i64 beg, .slice tB4 tn4 td4, .int .i64 en] 33)))
  have BY := hide (Blk.new w3 33 #[.slice cB ln cd, .slice aB ln ad, .slice rB ln rd, .int .i64 beg, .slice tB4 tn4 td4, .int .i64 en])
  have BX := hide (BX.out.ext E3.out)
  have C0 := hide (C0.out.ext E3.out)
  have C1 := hide (C1.out.ext E3.out)
  have X3 := hide (Ext.trans X2.out E3.out)
  have HI0 := hide ((Ext.trans E2.out E3.out).cell HC0.out)
  have P1 := hide (m1.ext (Ext.alloc w3 (.cells #[.slice cB ln cd, .slice aB ln ad, .slice rB ln rd, .int .i64 beg, .slice tB4 tn4 td4, .int .i64 en] 33)))
  have P2 := hide (m2.ext (Ext.alloc w3 (.cells #[.slice cB ln cd, .slice aB ln ad, .slice rB ln rd, .int .i64 beg, .slice tB4 tn4 td4, .int .i64 en] 33)))
  have P3 := hide (m3.ext (Ext.alloc w3 (.cells #[.slice cB ln cd, .slice aB ln ad, .slice rB ln rd, .int .i64 beg, .slice tB4 tn4 td4, .int .i64 en] 33)))
  have P4 := hide (m4.ext (Ext.alloc w3 (.cells #[.slice cB ln cd, .slice aB ln ad, .slice rB ln rd, .int .i64 beg, .slice tB4 tn4 td4, .int .i64 en] 33)))
  have EE := hide (Ext.trans E2.out E3.out)
  clear e3 m1 m2 m3 m4 r0_ r1_ r2_ q0_ q1_ q2_ q3_ q4_ q5_ q6_ q7_ q8_ q9_ q10_ q11_ q12_ q13_ x0_ x1_ x2_ x3_ x4_ x5_
  have hcc0 : (0 : Int) < (ln : Int) := by omega
  go_wp2_with fail
  refine gen_wpC fun W0 h0 => ?_
  have EW : Hid (W0 = w3.alloc (.cells #[.slice cB ln cd, .slice aB ln ad, .slice rB ln rd, .int .i64 beg, .slice tB4 tn4 td4, .int .i64 en] 33)) := hide h0
  clear h0
  have BX := hide (show Blk W0 w1.heap.size 33 #[.slice (some ⟨bc, oc, none⟩) ln cc, .slice aA ln ac, .slice rA ln rc, .int .i64 beg, .slice tA4 tn4 tc4, .int .i64 en] from by rw [EW.out]; exact BX.out)
  have BY := hide (show Blk W0 w3.heap.size 33 #[.slice cB ln cd, .slice aB ln ad, .slice rB ln rd, .int .i64 beg, .slice tB4 tn4 td4, .int .i64 en] from by rw [EW.out]; exact BY.out)
  have C0 := hide (show Blk W0 w.heap.size 25 #[.slice lA ln lc, .slice sA sn sc, .slice qA qn qc] from by rw [EW.out]; exact C0.out)
  have C1 := hide (show Blk W0 (w.heap.size + 1) 30 #[.int .i64 d0, .int .i64 s0, .int .i64 r0, .int .i64 f0, .int .i64 i0, .int .i64 k0, .int .i64 l0, .int .i64 t0, .int .i64 lo0, .int .i64 hi0, .int .i64 a0, .int .i64 x0, .int .i64 y0, .int .i64 z0] from by rw [EW.out]; exact C1.out)
  have HI0 := hide (show W0.cell? ⟨bc, oc, none⟩ = some (.int .i64 i0) from by rw [EW.out]; exact HI0.out)
  have X3 := hide (show Ext w W0 from by rw [EW.out]; exact X3.out)
  have M1 := hide (show At W0 1 e64 (some ⟨bc, oc, none⟩) ln cc C from by rw [EW.out]; exact M1.out.ext EE.out)
  have M2 := hide (show At W0 1 e64 aA ln ac asd from by rw [EW.out]; exact M2.out.ext EE.out)
  have M3 := hide (show At W0 1 e64 rA ln rc arr from by rw [EW.out]; exact M3.out.ext EE.out)
  have M4 := hide (show At W0 2 e2 tA4 tn4 tc4 sts from by rw [EW.out]; exact M4.out.ext EE.out)
  have P1 := hide (show At W0 1 e64 cB ln cd C from by rw [EW.out]; exact P1.out)
  have P2 := hide (show At W0 1 e64 aB ln ad asd from by rw [EW.out]; exact P2.out)
  have P3 := hide (show At W0 1 e64 rB ln rd arr from by rw [EW.out]; exact P3.out)
  have P4 := hide (show At W0 2 e2 tB4 tn4 td4 sts from by rw [EW.out]; exact P4.out)
  clear EW EE E2 E3 E1 X2
  have HSM := hide (fun (W : World) (EX : Ext W0 W) => same_any (bg := beg) (en := en) (M1.out.ext EX) (M2.out.ext EX) (M3.out.ext EX) (M4.out.ext EX) (P1.out.ext EX) (P2.out.ext EX) (P3.out.ext EX) (P4.out.ext EX))
  have HCS := hide (fun (W : World) (EX : Ext W0 W) => HCK.out W C asd arr beg sts en (some ⟨bc, oc, none⟩) aA rA tA4 cc ac rc tn4 tc4 (Ext.trans X3.out EX) HS.out (M1.out.ext EX) (M2.out.ext EX) (M3.out.ext EX) (M4.out.ext EX))
  have HH : Hid (∀ w', Ext W0 w' → w'.cell? ⟨w1.heap.size, 0, none⟩ = some (.slice (some ⟨bc, oc, none⟩) ln cc) ∧ w'.cell? ⟨w1.heap.size, 1, none⟩ = some (.slice aA ln ac) ∧ w'.cell? ⟨w1.heap.size, 2, none⟩ = some (.slice rA ln rc) ∧ w'.cell? ⟨w1.heap.size, 3, none⟩ = some (.int .i64 beg) ∧ w'.cell? ⟨w1.heap.size, 4, none⟩ = some (.slice tA4 tn4 tc4) ∧ w'.cell? ⟨w1.heap.size, 5, none⟩ = some (.int .i64 en) ∧ w'.cell? ⟨w3.heap.size, 0, none⟩ = some (.slice cB ln cd) ∧ w'.cell? ⟨w3.heap.size, 1, none⟩ = some (.slice aB ln ad) ∧ w'.cell? ⟨w3.heap.size, 2, none⟩ = some (.slice rB ln rd) ∧ w'.cell? ⟨w3.heap.size, 3, none⟩ = some (.int .i64 beg) ∧ w'.cell? ⟨w3.heap.size, 4, none⟩ = some (.slice tB4 tn4 td4) ∧ w'.cell? ⟨w3.heap.size, 5, none⟩ = some (.int .i64 en) ∧ w'.cell? ⟨w.heap.size, 0, none⟩ = some (.slice lA ln lc) ∧ w'.cell? ⟨w.heap.size, 1, none⟩ = some (.slice sA sn sc) ∧ w'.cell? ⟨w.heap.size, 2, none⟩ = some (.slice qA qn qc) ∧ w'.cell? ⟨w.heap.size + 1, 4, none⟩ = some (.int .i64 i0) ∧ w'.cell? ⟨bc, oc, none⟩ = some (.int .i64 i0)) := hide (fun w' EX => ⟨EX.cell (BX.out.cell 0), EX.cell (BX.out.cell 1), EX.cell (BX.out.cell 2), EX.cell (BX.out.cell 3), EX.cell (BX.out.cell 4), EX.cell (BX.out.cell 5), EX.cell (BY.out.cell 0), EX.cell (BY.out.cell 1), EX.cell (BY.out.cell 2), EX.cell (BY.out.cell 3), EX.cell (BY.out.cell 4), EX.cell (BY.out.cell 5), EX.cell (C0.out.cell 0), EX.cell (C0.out.cell 1), EX.cell (C0.out.cell 2), EX.cell (C1.out.cell 4), EX.cell (HI0.out)⟩)
  have EX := Ext.drew W0
  go_region_held3 (fun w' => w'.cell? ⟨w1.heap.size, 0, none⟩ = some (.slice (some ⟨bc, oc, none⟩) ln cc) ∧ w'.cell? ⟨w1.heap.size, 1, none⟩ = some (.slice aA ln ac) ∧ w'.cell? ⟨w1.heap.size, 2, none⟩ = some (.slice rA ln rc) ∧ w'.cell? ⟨w1.heap.size, 3, none⟩ = some (.int .i64 beg) ∧ w'.cell? ⟨w1.heap.size, 4, none⟩ = some (.slice tA4 tn4 tc4) ∧ w'.cell? ⟨w1.heap.size, 5, none⟩ = some (.int .i64 en) ∧ w'.cell? ⟨w3.heap.size, 0, none⟩ = some (.slice cB ln cd) ∧ w'.cell? ⟨w3.heap.size, 1, none⟩ = some (.slice aB ln ad) ∧ w'.cell? ⟨w3.heap.size, 2, none⟩ = some (.slice rB ln rd) ∧ w'.cell? ⟨w3.heap.size, 3, none⟩ = some (.int .i64 beg) ∧ w'.cell? ⟨w3.heap.size, 4, none⟩ = some (.slice tB4 tn4 td4) ∧ w'.cell? ⟨w3.heap.size, 5, none⟩ = some (.int .i64 en) ∧ w'.cell? ⟨w.heap.size, 0, none⟩ = some (.slice lA ln lc) ∧ w'.cell? ⟨w.heap.size, 1, none⟩ = some (.slice sA sn sc) ∧ w'.cell? ⟨w.heap.size, 2, none⟩ = some (.slice qA qn qc) ∧ w'.cell? ⟨w.heap.size + 1, 4, none⟩ = some (.int .i64 i0) ∧ w'.cell? ⟨bc, oc, none⟩ = some (.int .i64 i0)) (with_reducible exact HH.out _ EX) (first
    | ((go_at_call 14; with_reducible refine (HSM.out _ EX).mono ?_); rintro e w5 ⟨rfl, e5⟩; have EX := Ext.trans EX e5; clear e5)
    | ((go_at_call 15; with_reducible refine (HCS.out _ EX).mono ?_); rintro e w5 ⟨rfl, e5⟩; have EX := Ext.trans EX e5; clear e5)
    | ((go_at_call 8; with_reducible refine (HAW.out _).mono ?_); rintro e w5 ⟨rfl, e5⟩; have EX := Ext.trans EX e5; clear e5))
  have EF := hide (Ext.trans X3.out EX)
  clear EX HH
  go_wp2
  go_ret
  exact ⟨rfl, EF.out⟩

set_option maxRecDepth 100000 in
theorem playRunsAreGiven_lifted (os : Os) (started : os.Started) (H : Type) (enc : TypeId × Value → H) :
    ReturnsInHanded {} Try.checked os 5 .any (Rows.playRunsAreGivenSpec.pre6 enc Try.prog Try.f5 Rows.playRunsAreGivenRow.domain false) (Rows.playRunsAreGivenSpec.post enc Try.prog Try.f5 false true false false) := by
  refine returnsInHanded_of_change_sized (C := Try.checked) Try.own started (by kernel_rfl) Try.func5
    (ChangeSpec.witness6 (enc := enc) (C := Try.checked) false ⟨#[], #[.agg #[.slice none 0 0, .slice none 0 0, .slice none 0 0], .slice none 0 0, .agg #[.int .i64 0, .int .i64 0, .int .i64 0, .int .i64 0, .int .i64 0, .int .i64 0, .int .i64 0, .int .i64 0, .int .i64 0, .int .i64 0, .int .i64 0, .int .i64 0, .int .i64 0, .int .i64 0]], []⟩ 8 (by kernel_rfl) (by kernel_rfl) (by kernel_rfl) (by kernel_rfl)) ?_
  intro W base args ds gs before hval0 hW _ _ _
  have hval : ∀ (j : Nat) t v, Try.f5.params[j]? = some t → args[j]? = some v → Value.okWide Try.prog W .any base t v := hval0
  have hW' := hW
  obtain ⟨p, q, hA0, hV, rfl, _, _⟩ := hW
  have hA : DataW.TrodAll enc Try.prog W 0 (fun _ => true) true Try.f5.params.toList args.toList ds p := hA0
  rw [Try.params5] at hA hval
  obtain ⟨v0, v1, v2, d0, d1, d2, p0, p1, p2, rfl, rfl, rfl, h0, h1, h2⟩ := trodAll_three hA
  obtain ⟨lA, ln, lc, sA, sn, sc, qA, qn, qc, L, S, Q, rfl, hSh⟩ := open_show (hval 0 25 v0 rfl rfl) h0
  obtain ⟨A1, n1, c1, l1, rfl, hAt1, _, _⟩ := open_flows (hval 1 26 v1 rfl rfl) h1
  obtain ⟨q0, q1, q2, q3, q4, q5, q6, q7, q8, q9, q10, q11, q12, q13, rfl⟩ := open_player (hval 2 30 v2 rfl rfl) h2
  refine (rgv_law hSh hAt1).mono fun e W' ⟨he, hE⟩ => ?_
  subst he
  exact ⟨_, rfl, law_post Try.laidOut Try.underlying4 hW' rfl rfl rfl (by kernel_rfl) hE⟩
theorem playRunsAreGiven_closed : joinedFacts Try.prog 5 Try.f5 Rows.playRunsAreGivenSpec Rows.playRunsAreGivenRow = true :=
  joined_of Try.laidOut Try.mapsRowed Try.plainKeys Try.stopsHeard Try.stopsNone Try.knobsNone Try.mayEnter Try.makeCut Try.liftsFinal rfl rfl rfl (by as_aux_lemma => kernel_rfl)
    (by as_aux_lemma => kernel_rfl) (by as_aux_lemma => kernel_rfl) (by as_aux_lemma => kernel_rfl) (by as_aux_lemma => kernel_rfl) (by as_aux_lemma => kernel_rfl) (by as_aux_lemma => kernel_rfl) (by as_aux_lemma => kernel_rfl) (by as_aux_lemma => kernel_rfl) (by as_aux_lemma => kernel_rfl) (by as_aux_lemma => kernel_rfl)
theorem playRunsAreGiven_holds : Rows.PlayRunsAreGivenSaid :=
  OpenClaim.holds_of_wide 5 Try.f5 rfl rfl rfl rfl rfl rfl rfl ⟨rfl, rfl, rfl, rfl, rfl⟩ rfl rfl rfl rfl rfl (by as_aux_lemma => kernel_rfl) Try.func5 playRunsAreGiven_closed
    (of_decide_eq_true (by kernel_rfl)) (by unfold Func.isWrapper; first | (rw [if_pos (by decide +kernel)]; kernel_rfl) | (rw [if_neg (by decide +kernel)]; exact ⟨rfl, rfl⟩))
    (fun os started H enc _ => playRunsAreGiven_lifted os started H enc)
#print axioms playRunsAreGiven_holds

end Go.Proofs.Ytajadgpkmommmaa
