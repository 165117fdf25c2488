/- Proved: for every film, trace and player PlayKeepsItsBuffer returns true: while it plays, a player asks only if the buffer and the length of what it asks for are together at most Full; the arguments read as they did. Conditions: none. -/
import Derived.Test.YtajadgpkmommmaaLawRZ
import Derived.Test.YtajadgpkmommmaaSesCZ
import Derived.Test.YtajadgpkmommmaaKpbWZ
import Derived.Test.YtajadgpkmommmaaEndsB
import Derived.Test.YtajadgpkmommmaaHeldV
import Derived.Test.YtajadgpkmommmaaHeldZ
import Derived.Test.YtajadgpkmommmaaAwakePZ
import Derived.Test.YtajadgpkmommmaaOpenZ
import Derived.Test.YtajadgpkmommmaaLawG
import Derived.Deep.RegionHeld3
import Derived.Deep.DrawnRows
namespace Go.Proofs.Ytajadgpkmommmaa
open Go.ChangeShapes Go.WideShapes Go.ChangeAt Go.RowKit
attribute [local go_sem ↓] Go.wp_at_zero Go.wp_at_succ
set_option linter.unusedVariables false in
set_option maxRecDepth 1000000 in
set_option maxHeartbeats 16000000 in
theorem kpb_law {lA : Option Addr} {ln lc : Nat} {sA : Option Addr} {sn sc : Nat} {qA : Option Addr} {qn qc : Nat} {L : List Int} {S : List (List Int)} {Q : List Int} {T : List (Int × Int)} {d0 s0 r0 f0 i0 k0 l0 t0 lo0 hi0 a0 x0 y0 z0 : Int} {w : World} {tA : Option Addr} {tn tc : Nat} (h : Shw w lA ln lc sA sn sc qA qn qc L S Q) (hT : At w 2 e2 tA tn tc T) :
    Calls Try.prog 3 #[shV lA ln lc sA sn sc qA qn qc, .slice tA tn tc, plV d0 s0 r0 f0 i0 k0 l0 t0 lo0 hi0 a0 x0 y0 z0] w fun e w' => e = .returned (.bool true) ∧ Ext w w' := by
  have HX : Hid (Ext w ((w.alloc (.cells #[.slice lA ln lc, .slice sA sn sc, .slice qA qn qc] 25)).alloc (.cells #[.int .i64 d0, .int .i64 s0, .int .i64 r0, .int .i64 f0, .int .i64 i0, .int .i64 k0, .int .i64 l0, .int .i64 t0, .int .i64 lo0, .int .i64 hi0, .int .i64 a0, .int .i64 x0, .int .i64 y0, .int .i64 z0] 30))) := hide (ext_alloc (Ext.alloc _ _) _)
  have hk0 := (Blk.new w 25 #[.slice lA ln lc, .slice sA sn sc, .slice qA qn qc]).alloc (.cells #[.int .i64 d0, .int .i64 s0, .int .i64 r0, .int .i64 f0, .int .i64 i0, .int .i64 k0, .int .i64 l0, .int .i64 t0, .int .i64 lo0, .int .i64 hi0, .int .i64 a0, .int .i64 x0, .int .i64 y0, .int .i64 z0] 30)
  have hk1 := Blk.new (w.alloc (.cells #[.slice lA ln lc, .slice sA sn sc, .slice qA qn qc] 25)) 30 #[.int .i64 d0, .int .i64 s0, .int .i64 r0, .int .i64 f0, .int .i64 i0, .int .i64 k0, .int .i64 l0, .int .i64 t0, .int .i64 lo0, .int .i64 hi0, .int .i64 a0, .int .i64 x0, .int .i64 y0, .int .i64 z0]
  rw [World.size_alloc] at hk1
  have B0 := hide hk0
  have B1 := hide hk1
  have HAW := hide (fun (W : World) => awake_any W)
  clear hk0 hk1
  by_cases hu : runF L S Q T d0 s0 r0 f0 i0 k0 l0 t0 lo0 hi0 a0 x0 y0 z0 = 0
  rotate_left
  · have i1 : (runF L S Q T d0 s0 r0 f0 i0 k0 l0 t0 lo0 hi0 a0 x0 y0 z0 != 0) = true := by simp [hu]
    have HR := hide (fun (W : World) (hW : Ext w W) => (keyRun_any (d0 := d0) (s0 := s0) (r0 := r0) (f0 := f0) (i0 := i0) (k0 := k0) (l0 := l0) (t0 := t0) (lo0 := lo0) (hi0 := hi0) (a0 := a0) (x0 := x0) (y0 := y0) (z0 := z0) (h.ext hW) (hT.ext hW)).mono fun e w' hg => And.intro (hg.2.1 hu) hg.1)
    generalize runF L S Q T d0 s0 r0 f0 i0 k0 l0 t0 lo0 hi0 a0 x0 y0 z0 = u at *
    clear hu h hT
    go_enter Try.func3, Try.ntmps3
    go_wp2_with fail
    refine (HR.out _ HX.out).mono ?_
    rintro e w1 ⟨rfl, e1⟩
    go_wp2_with fail
    refine (HAW.out _).mono ?_
    rintro e w2 ⟨rfl, e2⟩
    go_wp2
    go_ret
    exact ⟨rfl, Ext.trans HX.out (Ext.trans e1 (Ext.trans (Ext.alloc _ _) e2))⟩
  have HR := hide (fun (W : World) (hW : Ext w W) => (keyRun_any (d0 := d0) (s0 := s0) (r0 := r0) (f0 := f0) (i0 := i0) (k0 := k0) (l0 := l0) (t0 := t0) (lo0 := lo0) (hi0 := hi0) (a0 := a0) (x0 := x0) (y0 := y0) (z0 := z0) (h.ext hW) (hT.ext hW)).mono fun e w' hg => run_form hu hg)
  obtain ⟨hF, hT0, ⟨hd1, hd2⟩, _⟩ := runF_zero hu
  have ok := filmF_ok hF
  have hLn := h.longs.len
  have hl0 := ok.l0
  have HLV := hide (fun (W : World) (C asd arr : List Int) (beg : Int) (sts : List (Int × Int)) (en : Int) (cA aA rA tA : Option Addr) (cc ac rc tn4 tc : Nat) (t : Int) (hS : SesOk L S.length C asd arr beg sts en) (ht : 0 ≤ t ∧ t ≤ 2000000000000) (hnn : 0 ≤ levK arr L t L.length - plyP beg sts en t) (hW : Ext w W) (a1 : At W 1 e64 cA ln cc C) (a2 : At W 1 e64 aA ln ac asd) (a3 : At W 1 e64 rA ln rc arr) (a4 : At W 2 e2 tA tn4 tc sts) => level_ok (h.ext hW) hF hS a1 a2 a3 a4 ht hnn)
  have HAL := hide h.longs
  obtain ⟨bl, ol, rfl, _⟩ := h.longs.addr (by omega)
  have HLN := hide hLn
  have hln0 : 0 < ln := by omega
  have HLR := hide ok.lr
  have HOK := hide ok
  have HT0 := hide hT0
  clear h hT hF ok hu hLn hl0 hT0
  go_enter Try.func3, Try.ntmps3
  go_wp2_with fail
  refine (HR.out _ HX.out).mono ?_
  rintro e w1 ⟨C, cA, cc, aA, ac, rA, rc, tA4, tc4, rfl, ⟨hC1, hC2, hC3, hC4, hC5⟩, ⟨m1, m2, m3, m4⟩, e1, hS, hR⟩
  -- what the law needs of the run
  have hfull : Hid (∀ i, i < ln → (0 ≤ (folF f0 s0 r0 L S (gvF C) (trF T d0) L.length).asd.getD i 0 ∧ (folF f0 s0 r0 L S (gvF C) (trF T d0) L.length).asd.getD i 0 ≤ 2000000000000) ∧ 0 ≤ levK (folF f0 s0 r0 L S (gvF C) (trF T d0) L.length).arr L ((folF f0 s0 r0 L S (gvF C) (trF T d0) L.length).asd.getD i 0) L.length - plyP (folF f0 s0 r0 L S (gvF C) (trF T d0) L.length).w.beg (folF f0 s0 r0 L S (gvF C) (trF T d0) L.length).w.stalls ((folF f0 s0 r0 L S (gvF C) (trF T d0) L.length).w.at_ + (folF f0 s0 r0 L S (gvF C) (trF T d0) L.length).w.buf) ((folF f0 s0 r0 L S (gvF C) (trF T d0) L.length).asd.getD i 0) ∧ (plyB (folF f0 s0 r0 L S (gvF C) (trF T d0) L.length).w.beg ((folF f0 s0 r0 L S (gvF C) (trF T d0) L.length).w.at_ + (folF f0 s0 r0 L S (gvF C) (trF T d0) L.length).w.buf) (folF f0 s0 r0 L S (gvF C) (trF T d0) L.length).w.stalls ((folF f0 s0 r0 L S (gvF C) (trF T d0) L.length).asd.getD i 0) = true → 0 < levK (folF f0 s0 r0 L S (gvF C) (trF T d0) L.length).arr L ((folF f0 s0 r0 L S (gvF C) (trF T d0) L.length).asd.getD i 0) L.length - plyP (folF f0 s0 r0 L S (gvF C) (trF T d0) L.length).w.beg (folF f0 s0 r0 L S (gvF C) (trF T d0) L.length).w.stalls ((folF f0 s0 r0 L S (gvF C) (trF T d0) L.length).w.at_ + (folF f0 s0 r0 L S (gvF C) (trF T d0) L.length).w.buf) ((folF f0 s0 r0 L S (gvF C) (trF T d0) L.length).asd.getD i 0) → levK (folF f0 s0 r0 L S (gvF C) (trF T d0) L.length).arr L ((folF f0 s0 r0 L S (gvF C) (trF T d0) L.length).asd.getD i 0) L.length - plyP (folF f0 s0 r0 L S (gvF C) (trF T d0) L.length).w.beg (folF f0 s0 r0 L S (gvF C) (trF T d0) L.length).w.stalls ((folF f0 s0 r0 L S (gvF C) (trF T d0) L.length).w.at_ + (folF f0 s0 r0 L S (gvF C) (trF T d0) L.length).w.buf) ((folF f0 s0 r0 L S (gvF C) (trF T d0) L.length).asd.getD i 0) + L.getD i 0 ≤ f0)) := hide (by
    have hz := HOK.out
    have hgt : ∀ j, j < L.length → asN f0 s0 r0 L S (gvF C) (trF T d0) j < tN f0 s0 r0 L S (gvF C) (trF T d0) j := fun j hj => by
      obtain ⟨_, b1, b2, b3, _⟩ := hR.step hj
      obtain ⟨_, _, hb4, _⟩ := hR.all j (by omega)
      have hbd := (ask_bd (full := f0) (long := L.getD j 0) (hR.all j (by omega)).1).2
      have e1 : asN f0 s0 r0 L S (gvF C) (trF T d0) j = askT f0 (L.getD j 0) (folF f0 s0 r0 L S (gvF C) (trF T d0) j).w := rfl
      have hl1 := hz.l1
      have hn2 : (j : Int) * 1000100000 ≤ 200 * 1000100000 := by omega
      have e2 : rN f0 s0 r0 L S (gvF C) (trF T d0) j = C.getD j 0 := rfl
      rw [e2] at b1
      have hsz := hz.sr (C.getD j 0).toNat (by omega) j hj
      have e3 : tN f0 s0 r0 L S (gvF C) (trF T d0) j = endsP T (asN f0 s0 r0 L S (gvF C) (trF T d0) j + d0) ((S.getD (C.getD j 0).toNat []).getD j 0) := rfl
      rw [e3]
      have := ends_gt HT0.out (f := asN f0 s0 r0 L S (gvF C) (trF T d0) j + d0) (b := (S.getD (C.getD j 0).toNat []).getD j 0) ⟨by omega, by omega⟩ hsz
      omega
    intro i hi
    have hi' : i < L.length := by have := HLN.out; omega
    rw [(fol_gets L.length i hi').1]
    obtain ⟨_, _, b2, b3, b4⟩ := hR.step hi'
    have hat := hS.ar i hi'
    rw [(fol_gets L.length i hi').1] at hat
    have hE : asN f0 s0 r0 L S (gvF C) (trF T d0) i ≤ (folF f0 s0 r0 L S (gvF C) (trF T d0) L.length).w.at_ + (folF f0 s0 r0 L S (gvF C) (trF T d0) L.length).w.buf := by
      have ha := at_mono hR (i + 1) (L.length - (i + 1)) (by omega)
      rw [show i + 1 + (L.length - (i + 1)) = L.length by omega, fol_at] at ha
      have := (hR.all L.length (Nat.le_refl _)).1.1
      omega
    exact ⟨⟨by omega, by omega⟩, bal_nn hR hz.l0 (by omega) hE, fun h1 h2 => keeps_buf hR hgt hi' h1 h2⟩)
  clear hC1 hC2 hC3 hC4 hC5 hR HR HT0 HOK
  generalize (folF f0 s0 r0 L S (gvF C) (trF T d0) L.length) = F at *
  generalize F.asd = asd at *
  generalize F.arr = arr at *
  generalize F.w.beg = beg at *
  generalize F.w.at_ + F.w.buf = en at *
  generalize hts : F.w.stalls = sts at *
  generalize htn : sts.length = tn4 at *
  rw [HLN.out] at m1
  rw [HLN.out] at m2
  rw [HLN.out] at m3
  rw [HLN.out]
  obtain ⟨ba, oa, rfl, _⟩ := m2.addr hln0
  have E1 := hide (Ext.trans HX.out e1)
  have XA : Hid (Ext w1 (w1.alloc (.cells #[.slice cA ln cc, .slice (some ⟨ba, oa, none⟩) ln ac, .slice rA ln rc, .int .i64 beg, .slice tA4 tn4 tc4, .int .i64 en] 33))) := hide (Ext.alloc _ _)
  have M1 := hide (m1.ext XA.out)
  have M2 := hide (m2.ext XA.out)
  have M3 := hide (m3.ext XA.out)
  have M4 := hide (m4.ext XA.out)
  have B0 := hide ((B0.out.ext e1).ext XA.out)
  have B1 := hide ((B1.out.ext e1).ext XA.out)
  have BX := hide (Blk.new w1 33 #[.slice cA ln cc, .slice (some ⟨ba, oa, none⟩) ln ac, .slice rA ln rc, .int .i64 beg, .slice tA4 tn4 tc4, .int .i64 en])
  have HS := hide hS
  have XA := hide (Ext.trans E1.out XA.out)
  have hbl := HAL.out.bound
  have HTN := hide htn
  clear m1 m2 m3 m4 e1 hS hts htn
  go_wp2_with fail
  refine gen_wpC fun WA hA => ?_
  have EA : Hid (WA = (w1.alloc (.cells #[.slice cA ln cc, .slice (some ⟨ba, oa, none⟩) ln ac, .slice rA ln rc, .int .i64 beg, .slice tA4 tn4 tc4, .int .i64 en] 33))) := hide hA
  clear hA
  have BX := hide (show Blk WA w1.heap.size 33 #[.slice cA ln cc, .slice (some ⟨ba, oa, none⟩) ln ac, .slice rA ln rc, .int .i64 beg, .slice tA4 tn4 tc4, .int .i64 en] from by rw [EA.out]; exact BX.out)
  have B0 := hide (show Blk WA w.heap.size 25 #[.slice (some ⟨bl, ol, none⟩) ln lc, .slice sA sn sc, .slice qA qn qc] from by rw [EA.out]; exact B0.out)
  have B1 := hide (show Blk WA (w.heap.size + 1) 30 #[.int .i64 d0, .int .i64 s0, .int .i64 r0, .int .i64 f0, .int .i64 i0, .int .i64 k0, .int .i64 l0, .int .i64 t0, .int .i64 lo0, .int .i64 hi0, .int .i64 a0, .int .i64 x0, .int .i64 y0, .int .i64 z0] from by rw [EA.out]; exact B1.out)
  have XA := hide (show Ext w WA from by rw [EA.out]; exact XA.out)
  have M1 := hide (show At WA 1 e64 cA ln cc C from by rw [EA.out]; exact M1.out)
  have M2 := hide (show At WA 1 e64 (some ⟨ba, oa, none⟩) ln ac asd from by rw [EA.out]; exact M2.out)
  have M3 := hide (show At WA 1 e64 rA ln rc arr from by rw [EA.out]; exact M3.out)
  have M4 := hide (show At WA 2 e2 tA4 tn4 tc4 sts from by rw [EA.out]; exact M4.out)
  clear EA E1
  go_loopw [9] (fun ri wr => ∃ k : Nat, 1 ≤ k ∧ k ≤ ln ∧ ri = .int .i64 k ∧ Hid (Ext WA wr)) (fun ri _ => ln - (intOf ri).toNat)
  case atStart => exact ⟨1, by omega, by omega, rfl, hide (Ext.refl _)⟩
  case round =>
    obtain ⟨k, hk1, hk, rfl, HW⟩ := hrel
    have BX := hide (BX.out.ext HW.out)
    have C0 := hide (B0.out.ext HW.out)
    have C1 := hide (B1.out.ext HW.out)
    have x1_ : wr.cell? ⟨w1.heap.size, 1, none⟩ = some (.slice (some ⟨ba, oa, none⟩) ln ac) := BX.out.cell 1
    by_cases hlt : k < ln
    · obtain ⟨⟨ht0, ht1⟩, hnn, hkp⟩ := hfull.out k hlt
      have HC1 := hide ((M2.out.ext HW.out).num hlt)
      have HC2 := hide ((HAL.out.ext (Ext.trans XA.out HW.out)).num hlt)
      have hlk := HLR.out k (by have := HLN.out; omega)
      generalize asd.getD k 0 = t at *
      generalize L.getD k 0 = lk at *
      have XW := hide (Ext.trans XA.out HW.out)
      have HLW := hide (fun (W : World) (EX : Ext wr W) => HLV.out W C asd arr beg sts en cA (some ⟨ba, oa, none⟩) rA tA4 cc ac rc tn4 tc4 t HS.out ⟨ht0, ht1⟩ hnn (Ext.trans XW.out EX) (M1.out.ext (Ext.trans HW.out EX)) (M2.out.ext (Ext.trans HW.out EX)) (M3.out.ext (Ext.trans HW.out EX)) (M4.out.ext (Ext.trans HW.out EX)))
      have hsb := levK_bd (arr := arr) (t := t) (fun i hi => ⟨by have := (HLR.out i hi).1; omega, (HLR.out i hi).2⟩) L.length (Nat.le_refl _)
      have HLN2 := HLN.out
      have hst := stS_bd (t := t) (b := beg) (by have := HS.out.ar 0 (by have := HS.out.l0; omega); have := HS.out.b0; have := HS.out.l0; omega) HS.out.sr tn4 (by have := HTN.out; omega)
      have hlvb : levK arr L t L.length - plyP beg sts en t ≤ 1000000000000000 := by
        have h4 := HTN.out
        have h5 := HS.out.few
        have h6 := HS.out.l1
        rw [← h4, List.take_length] at hst
        unfold plyP
        omega
      have HPL := hide (fun (W : World) (EX : Ext wr W) => playsAt_any (cA := cA) (aA := (some ⟨ba, oa, none⟩)) (rA := rA) (cn := ln) (cc := cc) (an := ln) (ac := ac) (rn := ln) (rc := rc) (beg := beg) (en := en) (t := t) (M4.out.ext (Ext.trans HW.out EX)))
      clear hst hsb
      generalize plyB beg en sts t = pb at *
      generalize levK arr L t L.length - plyP beg sts en t = lev at *
      have i1 : (k : Int) < (ln : Int) := by omega
      have i0 : (0 : Int) ≤ (k : Int) := by omega
      obtain ⟨hl1, hl2⟩ := hlk
      have HKP := hide hkp
      clear hkp HLN2
      go_wp2_with fail
      refine gen_wpC fun W1 h1 => ?_
      have X1 : Hid (Ext wr W1) := hide (by rw [h1]; exact Ext.refl _)
      have BX := hide (BX.out.ext X1.out)
      have C0 := hide (C0.out.ext X1.out)
      have C1 := hide (C1.out.ext X1.out)
      have HC1 := hide (X1.out.cell HC1.out)
      have HC2 := hide (X1.out.cell HC2.out)
      have HL7 := hide (fun (W : World) (EX : Ext W1 W) => HLW.out W (Ext.trans X1.out EX))
      have HP7 := hide (fun (W : World) (EX : Ext W1 W) => HPL.out W (Ext.trans X1.out EX))
      have HH7 : Hid (∀ w', Ext W1 w' → w'.cell? ⟨w1.heap.size, 0, none⟩ = some (.slice cA ln cc) ∧ w'.cell? ⟨w1.heap.size, 1, none⟩ = some (.slice (some ⟨ba, oa, none⟩) ln ac) ∧ w'.cell? ⟨w1.heap.size, 2, none⟩ = some (.slice rA ln rc) ∧ w'.cell? ⟨w1.heap.size, 3, none⟩ = some (.int .i64 beg) ∧ w'.cell? ⟨w1.heap.size, 4, none⟩ = some (.slice tA4 tn4 tc4) ∧ w'.cell? ⟨w1.heap.size, 5, none⟩ = some (.int .i64 en) ∧ w'.cell? ⟨w.heap.size, 0, none⟩ = some (.slice (some ⟨bl, ol, none⟩) ln lc) ∧ w'.cell? ⟨w.heap.size, 1, none⟩ = some (.slice sA sn sc) ∧ w'.cell? ⟨w.heap.size, 2, none⟩ = some (.slice qA qn qc) ∧ w'.cell? ⟨ba, oa + k, none⟩ = some (.int .i64 t)) := hide (fun w' EX => ⟨EX.cell (BX.out.cell 0), EX.cell (BX.out.cell 1), EX.cell (BX.out.cell 2), EX.cell (BX.out.cell 3), EX.cell (BX.out.cell 4), EX.cell (BX.out.cell 5), EX.cell (C0.out.cell 0), EX.cell (C0.out.cell 1), EX.cell (C0.out.cell 2), EX.cell (HC1.out)⟩)
      have X01 := hide (Ext.trans HW.out X1.out)
      clear h1 HLW HPL x1_ X1 HW
      have EX := Ext.drew W1
      go_region_held3 (fun w' => w'.cell? ⟨w1.heap.size, 0, none⟩ = some (.slice cA ln cc) ∧ w'.cell? ⟨w1.heap.size, 1, none⟩ = some (.slice (some ⟨ba, oa, none⟩) ln ac) ∧ w'.cell? ⟨w1.heap.size, 2, none⟩ = some (.slice rA ln rc) ∧ w'.cell? ⟨w1.heap.size, 3, none⟩ = some (.int .i64 beg) ∧ w'.cell? ⟨w1.heap.size, 4, none⟩ = some (.slice tA4 tn4 tc4) ∧ w'.cell? ⟨w1.heap.size, 5, none⟩ = some (.int .i64 en) ∧ w'.cell? ⟨w.heap.size, 0, none⟩ = some (.slice (some ⟨bl, ol, none⟩) ln lc) ∧ w'.cell? ⟨w.heap.size, 1, none⟩ = some (.slice sA sn sc) ∧ w'.cell? ⟨w.heap.size, 2, none⟩ = some (.slice qA qn qc) ∧ w'.cell? ⟨ba, oa + k, none⟩ = some (.int .i64 t)) (with_reducible exact HH7.out _ EX) (((go_at_call 9; with_reducible refine (HL7.out _ EX).mono ?_); rintro e w5 ⟨rfl, e5⟩; have EX := Ext.trans EX e5; clear e5))
      refine gen_the fun W2 h2 => ?_
      have X2 := hide (show Ext W1 W2 from by rw [h2]; exact EX)
      clear h2 EX HH7 HL7
      have BX := hide (BX.out.ext X2.out)
      have C0 := hide (C0.out.ext X2.out)
      have C1 := hide (C1.out.ext X2.out)
      have HC1 := hide (X2.out.cell HC1.out)
      have HC2 := hide (X2.out.cell HC2.out)
      have HPA := hide (fun (W : World) (EX : Ext W2 W) => HP7.out W (Ext.trans X2.out EX))
      have X02 := hide (Ext.trans X01.out X2.out)
      have HX8 := hide (Ext.drew W2)
      have HH8 : Hid (W2.cell? ⟨w1.heap.size, 0, none⟩ = some (.slice cA ln cc) ∧ W2.cell? ⟨w1.heap.size, 1, none⟩ = some (.slice (some ⟨ba, oa, none⟩) ln ac) ∧ W2.cell? ⟨w1.heap.size, 2, none⟩ = some (.slice rA ln rc) ∧ W2.cell? ⟨w1.heap.size, 3, none⟩ = some (.int .i64 beg) ∧ W2.cell? ⟨w1.heap.size, 4, none⟩ = some (.slice tA4 tn4 tc4) ∧ W2.cell? ⟨w1.heap.size, 5, none⟩ = some (.int .i64 en) ∧ W2.cell? ⟨w.heap.size, 0, none⟩ = some (.slice (some ⟨bl, ol, none⟩) ln lc) ∧ W2.cell? ⟨w.heap.size, 1, none⟩ = some (.slice sA sn sc) ∧ W2.cell? ⟨w.heap.size, 2, none⟩ = some (.slice qA qn qc) ∧ W2.cell? ⟨ba, oa + k, none⟩ = some (.int .i64 t) ∧ W2.cell? ⟨bl, ol + k, none⟩ = some (.int .i64 lk) ∧ W2.cell? ⟨w.heap.size + 1, 3, none⟩ = some (.int .i64 f0)) := hide ⟨(BX.out.cell 0), (BX.out.cell 1), (BX.out.cell 2), (BX.out.cell 3), (BX.out.cell 4), (BX.out.cell 5), (C0.out.cell 0), (C0.out.cell 1), (C0.out.cell 2), (HC1.out), (HC2.out), (C1.out.cell 3)⟩
      clear X2 X01 HP7 XW
      cases pb with
      | false =>
        go_upto_region 8 with (fail)
        refine wp_region_held_drew (S := fun w' => w'.cell? ⟨w1.heap.size, 0, none⟩ = some (.slice cA ln cc) ∧ w'.cell? ⟨w1.heap.size, 1, none⟩ = some (.slice (some ⟨ba, oa, none⟩) ln ac) ∧ w'.cell? ⟨w1.heap.size, 2, none⟩ = some (.slice rA ln rc) ∧ w'.cell? ⟨w1.heap.size, 3, none⟩ = some (.int .i64 beg) ∧ w'.cell? ⟨w1.heap.size, 4, none⟩ = some (.slice tA4 tn4 tc4) ∧ w'.cell? ⟨w1.heap.size, 5, none⟩ = some (.int .i64 en) ∧ w'.cell? ⟨w.heap.size, 0, none⟩ = some (.slice (some ⟨bl, ol, none⟩) ln lc) ∧ w'.cell? ⟨w.heap.size, 1, none⟩ = some (.slice sA sn sc) ∧ w'.cell? ⟨w.heap.size, 2, none⟩ = some (.slice qA qn qc) ∧ w'.cell? ⟨ba, oa + k, none⟩ = some (.int .i64 t) ∧ w'.cell? ⟨bl, ol + k, none⟩ = some (.int .i64 lk) ∧ w'.cell? ⟨w.heap.size + 1, 3, none⟩ = some (.int .i64 f0)) (by kernel_rfl) (HH8.out) (fun hS => ?_)
        refine held_take (i := 0) (d := 45) (oi := _) (v := ?_) rfl rfl (by kernel_rfl) (by kernel_rfl) (by kernel_rfl) (fun _ _ _ h => h) (Or.inl ⟨by rfl, ?_⟩) hS ?_
        rotate_left
        · intro W hW; obtain ⟨s0, s1, s2, s3, s4, s5, s6, s7, s8, s9, s10, s11⟩ := hW; first | (go_simp; done) | (go_simp; with_reducible rfl)
        try simp only [Act.put, List.setIfInBounds_toArray, List.set_cons_zero, List.set_cons_succ]
        refine held_take (i := 1) (d := 46) (oi := _) (v := ?_) rfl rfl (by kernel_rfl) (by kernel_rfl) (by kernel_rfl) (fun _ _ _ h => h) (Or.inl ⟨by rfl, ?_⟩) hS ?_
        rotate_left
        · intro W hW; obtain ⟨s0, s1, s2, s3, s4, s5, s6, s7, s8, s9, s10, s11⟩ := hW; first | (go_simp; done) | (go_simp; with_reducible rfl)
        try simp only [Act.put, List.setIfInBounds_toArray, List.set_cons_zero, List.set_cons_succ]
        refine held_take (i := 2) (d := 47) (oi := _) (v := ?_) rfl rfl (by kernel_rfl) (by kernel_rfl) (by kernel_rfl) (fun _ _ _ h => h) (Or.inl ⟨by rfl, ?_⟩) hS ?_
        rotate_left
        · intro W hW; obtain ⟨s0, s1, s2, s3, s4, s5, s6, s7, s8, s9, s10, s11⟩ := hW; first | (go_simp; done) | (go_simp; with_reducible rfl)
        try simp only [Act.put, List.setIfInBounds_toArray, List.set_cons_zero, List.set_cons_succ]
        refine held_take (i := 3) (d := 48) (oi := _) (v := ?_) rfl rfl (by kernel_rfl) (by kernel_rfl) (by kernel_rfl) (fun _ _ _ h => h) (Or.inl ⟨by rfl, ?_⟩) hS ?_
        rotate_left
        · intro W hW; obtain ⟨s0, s1, s2, s3, s4, s5, s6, s7, s8, s9, s10, s11⟩ := hW; first | (go_simp; done) | (go_simp; with_reducible rfl)
        try simp only [Act.put, List.setIfInBounds_toArray, List.set_cons_zero, List.set_cons_succ]
        refine held_take (i := 4) (d := 49) (oi := _) (v := ?_) rfl rfl (by kernel_rfl) (by kernel_rfl) (by kernel_rfl) (fun _ _ _ h => h) (Or.inl ⟨by rfl, ?_⟩) hS ?_
        rotate_left
        · intro W hW; obtain ⟨s0, s1, s2, s3, s4, s5, s6, s7, s8, s9, s10, s11⟩ := hW; first | (go_simp; done) | (go_simp; with_reducible rfl)
        try simp only [Act.put, List.setIfInBounds_toArray, List.set_cons_zero, List.set_cons_succ]
        refine held_take (i := 5) (d := 50) (oi := _) (v := ?_) rfl rfl (by kernel_rfl) (by kernel_rfl) (by kernel_rfl) (fun _ _ _ h => h) (Or.inl ⟨by rfl, ?_⟩) hS ?_
        rotate_left
        · intro W hW; obtain ⟨s0, s1, s2, s3, s4, s5, s6, s7, s8, s9, s10, s11⟩ := hW; first | (go_simp; done) | (go_simp; with_reducible rfl)
        try simp only [Act.put, List.setIfInBounds_toArray, List.set_cons_zero, List.set_cons_succ]
        refine held_take (i := 6) (d := 51) (oi := _) (v := ?_) rfl rfl (by kernel_rfl) (by kernel_rfl) (by kernel_rfl) (fun _ _ _ h => h) (Or.inl ⟨by rfl, ?_⟩) hS ?_
        rotate_left
        · intro W hW; obtain ⟨s0, s1, s2, s3, s4, s5, s6, s7, s8, s9, s10, s11⟩ := hW; first | (go_simp; done) | (go_simp; with_reducible rfl)
        try simp only [Act.put, List.setIfInBounds_toArray, List.set_cons_zero, List.set_cons_succ]
        refine held_take (i := 7) (d := 52) (oi := _) (v := ?_) rfl rfl (by kernel_rfl) (by kernel_rfl) (by kernel_rfl) (fun _ _ _ h => h) (Or.inl ⟨by rfl, ?_⟩) hS ?_
        rotate_left
        · intro W hW; obtain ⟨s0, s1, s2, s3, s4, s5, s6, s7, s8, s9, s10, s11⟩ := hW; first | (go_simp; done) | (go_simp; with_reducible rfl)
        try simp only [Act.put, List.setIfInBounds_toArray, List.set_cons_zero, List.set_cons_succ]
        refine held_take (i := 8) (d := 53) (oi := _) (v := ?_) rfl rfl (by kernel_rfl) (by kernel_rfl) (by kernel_rfl) (fun _ _ _ h => h) (Or.inl ⟨by rfl, ?_⟩) hS ?_
        rotate_left
        · intro W hW; obtain ⟨s0, s1, s2, s3, s4, s5, s6, s7, s8, s9, s10, s11⟩ := hW; first | (go_simp; done) | (go_simp; with_reducible rfl)
        try simp only [Act.put, List.setIfInBounds_toArray, List.set_cons_zero, List.set_cons_succ]
        refine wpAnyH_ready (rs := [9]) (by kernel_rfl) (by simp) (AllReadyH.cons rfl (fun K hK => ?_) AllReadyH.nil)
        go_simp
        obtain ⟨s0, s1, s2, s3, s4, s5, s6, s7, s8, s9, s10, s11⟩ := hS
        go_at_call 10
        refine (HPA.out _ HX8.out).mono ?_
        rintro e w5 ⟨rfl, e5⟩
        have E5 := hide (Ext.trans HX8.out e5)
        refine hK.out _ _ ⟨e5.cell s0, e5.cell s1, e5.cell s2, e5.cell s3, e5.cell s4, e5.cell s5, e5.cell s6, e5.cell s7, e5.cell s8, e5.cell s9, e5.cell s10, e5.cell s11⟩ (fun hS => ?_)
        clear e5
        clear hK K
        try simp only [Act.put, List.setIfInBounds_toArray, List.set_cons_zero, List.set_cons_succ]
        refine held_take (i := 10) (d := 55) (oi := _) (v := ?_) rfl rfl (by kernel_rfl) (by kernel_rfl) (by kernel_rfl) (fun _ _ _ h => h) (Or.inl ⟨by rfl, ?_⟩) hS ?_
        rotate_left
        · intro W hW; obtain ⟨s0, s1, s2, s3, s4, s5, s6, s7, s8, s9, s10, s11⟩ := hW; first | (go_simp; done) | (go_simp; with_reducible rfl)
        try simp only [Act.put, List.setIfInBounds_toArray, List.set_cons_zero, List.set_cons_succ]
        refine held_take (i := 11) (d := 56) (oi := _) (v := undef) rfl rfl (by kernel_rfl) (by kernel_rfl) (by kernel_rfl) (fun _ _ _ h => h) (Or.inr ⟨by rfl, rfl⟩) hS ?_
        try simp only [Act.put, List.setIfInBounds_toArray, List.set_cons_zero, List.set_cons_succ]
        refine held_take (i := 12) (d := 57) (oi := _) (v := undef) rfl rfl (by kernel_rfl) (by kernel_rfl) (by kernel_rfl) (fun _ _ _ h => h) (Or.inr ⟨by rfl, rfl⟩) hS ?_
        try simp only [Act.put, List.setIfInBounds_toArray, List.set_cons_zero, List.set_cons_succ]
        refine held_take (i := 13) (d := 58) (oi := _) (v := ?_) rfl rfl (by kernel_rfl) (by kernel_rfl) (by kernel_rfl) (fun _ _ _ h => h) (Or.inl ⟨by rfl, ?_⟩) hS ?_
        rotate_left
        · intro W hW; obtain ⟨s0, s1, s2, s3, s4, s5, s6, s7, s8, s9, s10, s11⟩ := hW; first | (go_simp; done) | (go_simp; with_reducible rfl)
        try simp only [Act.put, List.setIfInBounds_toArray, List.set_cons_zero, List.set_cons_succ]
        refine held_take (i := 14) (d := 59) (oi := _) (v := ?_) rfl rfl (by kernel_rfl) (by kernel_rfl) (by kernel_rfl) (fun _ _ _ h => h) (Or.inl ⟨by rfl, ?_⟩) hS ?_
        rotate_left
        · intro W hW; obtain ⟨s0, s1, s2, s3, s4, s5, s6, s7, s8, s9, s10, s11⟩ := hW; first | (go_simp; done) | (go_simp; with_reducible rfl)
        try simp only [Act.put, List.setIfInBounds_toArray, List.set_cons_zero, List.set_cons_succ]
        refine held_take (i := 15) (d := 60) (oi := _) (v := undef) rfl rfl (by kernel_rfl) (by kernel_rfl) (by kernel_rfl) (fun _ _ _ h => h) (Or.inr ⟨by rfl, rfl⟩) hS ?_
        try simp only [Act.put, List.setIfInBounds_toArray, List.set_cons_zero, List.set_cons_succ]
        refine held_take (i := 16) (d := 61) (oi := _) (v := undef) rfl rfl (by kernel_rfl) (by kernel_rfl) (by kernel_rfl) (fun _ _ _ h => h) (Or.inr ⟨by rfl, rfl⟩) hS ?_
        try simp only [Act.put, List.setIfInBounds_toArray, List.set_cons_zero, List.set_cons_succ]
        refine held_take (i := 17) (d := 62) (oi := _) (v := undef) rfl rfl (by kernel_rfl) (by kernel_rfl) (by kernel_rfl) (fun _ _ _ h => h) (Or.inr ⟨by rfl, rfl⟩) hS ?_
        try simp only [Act.put, List.setIfInBounds_toArray, List.set_cons_zero, List.set_cons_succ]
        refine held_take (i := 18) (d := 63) (oi := _) (v := undef) rfl rfl (by kernel_rfl) (by kernel_rfl) (by kernel_rfl) (fun _ _ _ h => h) (Or.inr ⟨by rfl, rfl⟩) hS ?_
        try simp only [Act.put, List.setIfInBounds_toArray, List.set_cons_zero, List.set_cons_succ]
        refine held_take (i := 19) (d := 64) (oi := _) (v := undef) rfl rfl (by kernel_rfl) (by kernel_rfl) (by kernel_rfl) (fun _ _ _ h => h) (Or.inr ⟨by rfl, rfl⟩) hS ?_
        try simp only [Act.put, List.setIfInBounds_toArray, List.set_cons_zero, List.set_cons_succ]
        refine held_take (i := 20) (d := 65) (oi := _) (v := undef) rfl rfl (by kernel_rfl) (by kernel_rfl) (by kernel_rfl) (fun _ _ _ h => h) (Or.inr ⟨by rfl, rfl⟩) hS ?_
        try simp only [Act.put, List.setIfInBounds_toArray, List.set_cons_zero, List.set_cons_succ]
        refine held_take (i := 21) (d := 66) (oi := _) (v := undef) rfl rfl (by kernel_rfl) (by kernel_rfl) (by kernel_rfl) (fun _ _ _ h => h) (Or.inr ⟨by rfl, rfl⟩) hS ?_
        try simp only [Act.put, List.setIfInBounds_toArray, List.set_cons_zero, List.set_cons_succ]
        refine held_take (i := 22) (d := 67) (oi := _) (v := undef) rfl rfl (by kernel_rfl) (by kernel_rfl) (by kernel_rfl) (fun _ _ _ h => h) (Or.inr ⟨by rfl, rfl⟩) hS ?_
        try simp only [Act.put, List.setIfInBounds_toArray, List.set_cons_zero, List.set_cons_succ]
        refine held_take (i := 23) (d := 68) (oi := _) (v := undef) rfl rfl (by kernel_rfl) (by kernel_rfl) (by kernel_rfl) (fun _ _ _ h => h) (Or.inr ⟨by rfl, rfl⟩) hS ?_
        try simp only [Act.put, List.setIfInBounds_toArray, List.set_cons_zero, List.set_cons_succ]
        refine held_take (i := 24) (d := 69) (oi := _) (v := undef) rfl rfl (by kernel_rfl) (by kernel_rfl) (by kernel_rfl) (fun _ _ _ h => h) (Or.inr ⟨by rfl, rfl⟩) hS ?_
        try simp only [Act.put, List.setIfInBounds_toArray, List.set_cons_zero, List.set_cons_succ]
        refine held_take (i := 25) (d := 70) (oi := _) (v := ?_) rfl rfl (by kernel_rfl) (by kernel_rfl) (by kernel_rfl) (fun _ _ _ h => h) (Or.inl ⟨by rfl, ?_⟩) hS ?_
        rotate_left
        · intro W hW; obtain ⟨s0, s1, s2, s3, s4, s5, s6, s7, s8, s9, s10, s11⟩ := hW; first | (go_simp; done) | (go_simp; with_reducible rfl)
        try simp only [Act.put, List.setIfInBounds_toArray, List.set_cons_zero, List.set_cons_succ]
        refine held_take (i := 26) (d := 71) (oi := _) (v := ?_) rfl rfl (by kernel_rfl) (by kernel_rfl) (by kernel_rfl) (fun _ _ _ h => h) (Or.inl ⟨by rfl, ?_⟩) hS ?_
        rotate_left
        · intro W hW; obtain ⟨s0, s1, s2, s3, s4, s5, s6, s7, s8, s9, s10, s11⟩ := hW; first | (go_simp; done) | (go_simp; with_reducible rfl)
        try simp only [Act.put, List.setIfInBounds_toArray, List.set_cons_zero, List.set_cons_succ]
        refine wpAnyH_done (by kernel_rfl) ?_ _
        go_wp2_with fail
        exact ⟨⟨k + 1, by omega, by omega, by go_num, hide (Ext.trans X02.out E5.out)⟩, by simp [intOf]; omega⟩
      | true =>
        by_cases hl0 : 0 < lev
        · have hkp := HKP.out rfl hl0
          have d1 : decide (0 < lev) = true := by simp; omega
          have d2 : IntKind.i64.wrap (lev + lk) = lev + lk := by rw [IntKind.wrap_i64]; omega
          have d3 : decide (f0 < lev + lk) = false := by simp; omega
          clear HKP
          go_upto_region 8 with (fail)
          refine wp_region_held_drew (S := fun w' => w'.cell? ⟨w1.heap.size, 0, none⟩ = some (.slice cA ln cc) ∧ w'.cell? ⟨w1.heap.size, 1, none⟩ = some (.slice (some ⟨ba, oa, none⟩) ln ac) ∧ w'.cell? ⟨w1.heap.size, 2, none⟩ = some (.slice rA ln rc) ∧ w'.cell? ⟨w1.heap.size, 3, none⟩ = some (.int .i64 beg) ∧ w'.cell? ⟨w1.heap.size, 4, none⟩ = some (.slice tA4 tn4 tc4) ∧ w'.cell? ⟨w1.heap.size, 5, none⟩ = some (.int .i64 en) ∧ w'.cell? ⟨w.heap.size, 0, none⟩ = some (.slice (some ⟨bl, ol, none⟩) ln lc) ∧ w'.cell? ⟨w.heap.size, 1, none⟩ = some (.slice sA sn sc) ∧ w'.cell? ⟨w.heap.size, 2, none⟩ = some (.slice qA qn qc) ∧ w'.cell? ⟨ba, oa + k, none⟩ = some (.int .i64 t) ∧ w'.cell? ⟨bl, ol + k, none⟩ = some (.int .i64 lk) ∧ w'.cell? ⟨w.heap.size + 1, 3, none⟩ = some (.int .i64 f0)) (by kernel_rfl) (HH8.out) (fun hS => ?_)
          refine held_take (i := 0) (d := 45) (oi := _) (v := ?_) rfl rfl (by kernel_rfl) (by kernel_rfl) (by kernel_rfl) (fun _ _ _ h => h) (Or.inl ⟨by rfl, ?_⟩) hS ?_
          rotate_left
          · intro W hW; obtain ⟨s0, s1, s2, s3, s4, s5, s6, s7, s8, s9, s10, s11⟩ := hW; first | (go_simp; done) | (go_simp; with_reducible rfl)
          try simp only [Act.put, List.setIfInBounds_toArray, List.set_cons_zero, List.set_cons_succ]
          refine held_take (i := 1) (d := 46) (oi := _) (v := ?_) rfl rfl (by kernel_rfl) (by kernel_rfl) (by kernel_rfl) (fun _ _ _ h => h) (Or.inl ⟨by rfl, ?_⟩) hS ?_
          rotate_left
          · intro W hW; obtain ⟨s0, s1, s2, s3, s4, s5, s6, s7, s8, s9, s10, s11⟩ := hW; first | (go_simp; done) | (go_simp; with_reducible rfl)
          try simp only [Act.put, List.setIfInBounds_toArray, List.set_cons_zero, List.set_cons_succ]
          refine held_take (i := 2) (d := 47) (oi := _) (v := ?_) rfl rfl (by kernel_rfl) (by kernel_rfl) (by kernel_rfl) (fun _ _ _ h => h) (Or.inl ⟨by rfl, ?_⟩) hS ?_
          rotate_left
          · intro W hW; obtain ⟨s0, s1, s2, s3, s4, s5, s6, s7, s8, s9, s10, s11⟩ := hW; first | (go_simp; done) | (go_simp; with_reducible rfl)
          try simp only [Act.put, List.setIfInBounds_toArray, List.set_cons_zero, List.set_cons_succ]
          refine held_take (i := 3) (d := 48) (oi := _) (v := ?_) rfl rfl (by kernel_rfl) (by kernel_rfl) (by kernel_rfl) (fun _ _ _ h => h) (Or.inl ⟨by rfl, ?_⟩) hS ?_
          rotate_left
          · intro W hW; obtain ⟨s0, s1, s2, s3, s4, s5, s6, s7, s8, s9, s10, s11⟩ := hW; first | (go_simp; done) | (go_simp; with_reducible rfl)
          try simp only [Act.put, List.setIfInBounds_toArray, List.set_cons_zero, List.set_cons_succ]
          refine held_take (i := 4) (d := 49) (oi := _) (v := ?_) rfl rfl (by kernel_rfl) (by kernel_rfl) (by kernel_rfl) (fun _ _ _ h => h) (Or.inl ⟨by rfl, ?_⟩) hS ?_
          rotate_left
          · intro W hW; obtain ⟨s0, s1, s2, s3, s4, s5, s6, s7, s8, s9, s10, s11⟩ := hW; first | (go_simp; done) | (go_simp; with_reducible rfl)
          try simp only [Act.put, List.setIfInBounds_toArray, List.set_cons_zero, List.set_cons_succ]
          refine held_take (i := 5) (d := 50) (oi := _) (v := ?_) rfl rfl (by kernel_rfl) (by kernel_rfl) (by kernel_rfl) (fun _ _ _ h => h) (Or.inl ⟨by rfl, ?_⟩) hS ?_
          rotate_left
          · intro W hW; obtain ⟨s0, s1, s2, s3, s4, s5, s6, s7, s8, s9, s10, s11⟩ := hW; first | (go_simp; done) | (go_simp; with_reducible rfl)
          try simp only [Act.put, List.setIfInBounds_toArray, List.set_cons_zero, List.set_cons_succ]
          refine held_take (i := 6) (d := 51) (oi := _) (v := ?_) rfl rfl (by kernel_rfl) (by kernel_rfl) (by kernel_rfl) (fun _ _ _ h => h) (Or.inl ⟨by rfl, ?_⟩) hS ?_
          rotate_left
          · intro W hW; obtain ⟨s0, s1, s2, s3, s4, s5, s6, s7, s8, s9, s10, s11⟩ := hW; first | (go_simp; done) | (go_simp; with_reducible rfl)
          try simp only [Act.put, List.setIfInBounds_toArray, List.set_cons_zero, List.set_cons_succ]
          refine held_take (i := 7) (d := 52) (oi := _) (v := ?_) rfl rfl (by kernel_rfl) (by kernel_rfl) (by kernel_rfl) (fun _ _ _ h => h) (Or.inl ⟨by rfl, ?_⟩) hS ?_
          rotate_left
          · intro W hW; obtain ⟨s0, s1, s2, s3, s4, s5, s6, s7, s8, s9, s10, s11⟩ := hW; first | (go_simp; done) | (go_simp; with_reducible rfl)
          try simp only [Act.put, List.setIfInBounds_toArray, List.set_cons_zero, List.set_cons_succ]
          refine held_take (i := 8) (d := 53) (oi := _) (v := ?_) rfl rfl (by kernel_rfl) (by kernel_rfl) (by kernel_rfl) (fun _ _ _ h => h) (Or.inl ⟨by rfl, ?_⟩) hS ?_
          rotate_left
          · intro W hW; obtain ⟨s0, s1, s2, s3, s4, s5, s6, s7, s8, s9, s10, s11⟩ := hW; first | (go_simp; done) | (go_simp; with_reducible rfl)
          try simp only [Act.put, List.setIfInBounds_toArray, List.set_cons_zero, List.set_cons_succ]
          refine wpAnyH_ready (rs := [9]) (by kernel_rfl) (by simp) (AllReadyH.cons rfl (fun K hK => ?_) AllReadyH.nil)
          go_simp
          obtain ⟨s0, s1, s2, s3, s4, s5, s6, s7, s8, s9, s10, s11⟩ := hS
          go_at_call 10
          refine (HPA.out _ HX8.out).mono ?_
          rintro e w5 ⟨rfl, e5⟩
          have E5 := hide (Ext.trans HX8.out e5)
          refine hK.out _ _ ⟨e5.cell s0, e5.cell s1, e5.cell s2, e5.cell s3, e5.cell s4, e5.cell s5, e5.cell s6, e5.cell s7, e5.cell s8, e5.cell s9, e5.cell s10, e5.cell s11⟩ (fun hS => ?_)
          clear e5
          clear hK K
          try simp only [Act.put, List.setIfInBounds_toArray, List.set_cons_zero, List.set_cons_succ]
          refine held_take (i := 10) (d := 55) (oi := _) (v := ?_) rfl rfl (by kernel_rfl) (by kernel_rfl) (by kernel_rfl) (fun _ _ _ h => h) (Or.inl ⟨by rfl, ?_⟩) hS ?_
          rotate_left
          · intro W hW; obtain ⟨s0, s1, s2, s3, s4, s5, s6, s7, s8, s9, s10, s11⟩ := hW; first | (go_simp; done) | (go_simp; with_reducible rfl)
          try simp only [Act.put, List.setIfInBounds_toArray, List.set_cons_zero, List.set_cons_succ]
          refine held_take (i := 11) (d := 56) (oi := _) (v := ?_) rfl rfl (by kernel_rfl) (by kernel_rfl) (by kernel_rfl) (fun _ _ _ h => h) (Or.inl ⟨by rfl, ?_⟩) hS ?_
          rotate_left
          · intro W hW; obtain ⟨s0, s1, s2, s3, s4, s5, s6, s7, s8, s9, s10, s11⟩ := hW; first | (go_simp; done) | (go_simp; with_reducible rfl)
          try simp only [Act.put, List.setIfInBounds_toArray, List.set_cons_zero, List.set_cons_succ]
          refine held_take (i := 12) (d := 57) (oi := _) (v := ?_) rfl rfl (by kernel_rfl) (by kernel_rfl) (by kernel_rfl) (fun _ _ _ h => h) (Or.inl ⟨by rfl, ?_⟩) hS ?_
          rotate_left
          · intro W hW; obtain ⟨s0, s1, s2, s3, s4, s5, s6, s7, s8, s9, s10, s11⟩ := hW; first | (go_simp; done) | (go_simp; with_reducible rfl)
          try simp only [Act.put, List.setIfInBounds_toArray, List.set_cons_zero, List.set_cons_succ]
          refine held_take (i := 13) (d := 58) (oi := _) (v := ?_) rfl rfl (by kernel_rfl) (by kernel_rfl) (by kernel_rfl) (fun _ _ _ h => h) (Or.inl ⟨by rfl, ?_⟩) hS ?_
          rotate_left
          · intro W hW; obtain ⟨s0, s1, s2, s3, s4, s5, s6, s7, s8, s9, s10, s11⟩ := hW; first | (go_simp; done) | (go_simp; with_reducible rfl)
          try simp only [Act.put, List.setIfInBounds_toArray, List.set_cons_zero, List.set_cons_succ]
          refine held_take (i := 14) (d := 59) (oi := _) (v := ?_) rfl rfl (by kernel_rfl) (by kernel_rfl) (by kernel_rfl) (fun _ _ _ h => h) (Or.inl ⟨by rfl, ?_⟩) hS ?_
          rotate_left
          · intro W hW; obtain ⟨s0, s1, s2, s3, s4, s5, s6, s7, s8, s9, s10, s11⟩ := hW; first | (go_simp; done) | (go_simp; with_reducible rfl)
          try simp only [Act.put, List.setIfInBounds_toArray, List.set_cons_zero, List.set_cons_succ]
          refine held_take (i := 15) (d := 60) (oi := _) (v := ?_) rfl rfl (by kernel_rfl) (by kernel_rfl) (by kernel_rfl) (fun _ _ _ h => h) (Or.inl ⟨by rfl, ?_⟩) hS ?_
          rotate_left
          · intro W hW; obtain ⟨s0, s1, s2, s3, s4, s5, s6, s7, s8, s9, s10, s11⟩ := hW; first | (go_simp; done) | (go_simp; with_reducible rfl)
          try simp only [Act.put, List.setIfInBounds_toArray, List.set_cons_zero, List.set_cons_succ]
          refine held_take (i := 16) (d := 61) (oi := _) (v := ?_) rfl rfl (by kernel_rfl) (by kernel_rfl) (by kernel_rfl) (fun _ _ _ h => h) (Or.inl ⟨by rfl, ?_⟩) hS ?_
          rotate_left
          · intro W hW; obtain ⟨s0, s1, s2, s3, s4, s5, s6, s7, s8, s9, s10, s11⟩ := hW; first | (go_simp; done) | (go_simp; with_reducible rfl)
          try simp only [Act.put, List.setIfInBounds_toArray, List.set_cons_zero, List.set_cons_succ]
          refine held_take (i := 17) (d := 62) (oi := _) (v := ?_) rfl rfl (by kernel_rfl) (by kernel_rfl) (by kernel_rfl) (fun _ _ _ h => h) (Or.inl ⟨by rfl, ?_⟩) hS ?_
          rotate_left
          · intro W hW; obtain ⟨s0, s1, s2, s3, s4, s5, s6, s7, s8, s9, s10, s11⟩ := hW; first | (go_simp; done) | (go_simp; with_reducible rfl)
          try simp only [Act.put, List.setIfInBounds_toArray, List.set_cons_zero, List.set_cons_succ]
          refine held_take (i := 18) (d := 63) (oi := _) (v := ?_) rfl rfl (by kernel_rfl) (by kernel_rfl) (by kernel_rfl) (fun _ _ _ h => h) (Or.inl ⟨by rfl, ?_⟩) hS ?_
          rotate_left
          · intro W hW; obtain ⟨s0, s1, s2, s3, s4, s5, s6, s7, s8, s9, s10, s11⟩ := hW; first | (go_simp; done) | (go_simp; with_reducible rfl)
          try simp only [Act.put, List.setIfInBounds_toArray, List.set_cons_zero, List.set_cons_succ]
          refine held_take (i := 19) (d := 64) (oi := _) (v := ?_) rfl rfl (by kernel_rfl) (by kernel_rfl) (by kernel_rfl) (fun _ _ _ h => h) (Or.inl ⟨by rfl, ?_⟩) hS ?_
          rotate_left
          · intro W hW; obtain ⟨s0, s1, s2, s3, s4, s5, s6, s7, s8, s9, s10, s11⟩ := hW; first | (go_simp; done) | (go_simp; with_reducible rfl)
          try simp only [Act.put, List.setIfInBounds_toArray, List.set_cons_zero, List.set_cons_succ]
          refine held_take (i := 20) (d := 65) (oi := _) (v := ?_) rfl rfl (by kernel_rfl) (by kernel_rfl) (by kernel_rfl) (fun _ _ _ h => h) (Or.inl ⟨by rfl, ?_⟩) hS ?_
          rotate_left
          · intro W hW; obtain ⟨s0, s1, s2, s3, s4, s5, s6, s7, s8, s9, s10, s11⟩ := hW; first | (go_simp; done) | (go_simp; with_reducible rfl)
          try simp only [Act.put, List.setIfInBounds_toArray, List.set_cons_zero, List.set_cons_succ]
          refine held_take (i := 21) (d := 66) (oi := _) (v := ?_) rfl rfl (by kernel_rfl) (by kernel_rfl) (by kernel_rfl) (fun _ _ _ h => h) (Or.inl ⟨by rfl, ?_⟩) hS ?_
          rotate_left
          · intro W hW; obtain ⟨s0, s1, s2, s3, s4, s5, s6, s7, s8, s9, s10, s11⟩ := hW; first | (go_simp; done) | (go_simp; with_reducible rfl)
          try simp only [Act.put, List.setIfInBounds_toArray, List.set_cons_zero, List.set_cons_succ]
          refine held_take (i := 22) (d := 67) (oi := _) (v := ?_) rfl rfl (by kernel_rfl) (by kernel_rfl) (by kernel_rfl) (fun _ _ _ h => h) (Or.inl ⟨by rfl, ?_⟩) hS ?_
          rotate_left
          · intro W hW; obtain ⟨s0, s1, s2, s3, s4, s5, s6, s7, s8, s9, s10, s11⟩ := hW; first | (go_simp; done) | (go_simp; with_reducible rfl)
          try simp only [Act.put, List.setIfInBounds_toArray, List.set_cons_zero, List.set_cons_succ]
          refine held_take (i := 23) (d := 68) (oi := _) (v := ?_) rfl rfl (by kernel_rfl) (by kernel_rfl) (by kernel_rfl) (fun _ _ _ h => h) (Or.inl ⟨by rfl, ?_⟩) hS ?_
          rotate_left
          · intro W hW; obtain ⟨s0, s1, s2, s3, s4, s5, s6, s7, s8, s9, s10, s11⟩ := hW; first | (go_simp; done) | (go_simp; with_reducible rfl)
          try simp only [Act.put, List.setIfInBounds_toArray, List.set_cons_zero, List.set_cons_succ]
          refine held_take (i := 24) (d := 69) (oi := _) (v := ?_) rfl rfl (by kernel_rfl) (by kernel_rfl) (by kernel_rfl) (fun _ _ _ h => h) (Or.inl ⟨by rfl, ?_⟩) hS ?_
          rotate_left
          · intro W hW; obtain ⟨s0, s1, s2, s3, s4, s5, s6, s7, s8, s9, s10, s11⟩ := hW; first | (go_simp; done) | (go_simp; with_reducible rfl)
          try simp only [Act.put, List.setIfInBounds_toArray, List.set_cons_zero, List.set_cons_succ]
          refine held_take (i := 25) (d := 70) (oi := _) (v := ?_) rfl rfl (by kernel_rfl) (by kernel_rfl) (by kernel_rfl) (fun _ _ _ h => h) (Or.inl ⟨by rfl, ?_⟩) hS ?_
          rotate_left
          · intro W hW; obtain ⟨s0, s1, s2, s3, s4, s5, s6, s7, s8, s9, s10, s11⟩ := hW; first | (go_simp; done) | (go_simp; with_reducible rfl)
          try simp only [Act.put, List.setIfInBounds_toArray, List.set_cons_zero, List.set_cons_succ]
          refine held_take (i := 26) (d := 71) (oi := _) (v := ?_) rfl rfl (by kernel_rfl) (by kernel_rfl) (by kernel_rfl) (fun _ _ _ h => h) (Or.inl ⟨by rfl, ?_⟩) hS ?_
          rotate_left
          · intro W hW; obtain ⟨s0, s1, s2, s3, s4, s5, s6, s7, s8, s9, s10, s11⟩ := hW; first | (go_simp; done) | (go_simp; with_reducible rfl)
          try simp only [Act.put, List.setIfInBounds_toArray, List.set_cons_zero, List.set_cons_succ]
          refine wpAnyH_done (by kernel_rfl) ?_ _
          go_wp2_with fail
          exact ⟨⟨k + 1, by omega, by omega, by go_num, hide (Ext.trans X02.out E5.out)⟩, by simp [intOf]; omega⟩
        · have d1 : decide (0 < lev) = false := by simp; omega
          clear HKP
          go_upto_region 8 with (fail)
          refine wp_region_held_drew (S := fun w' => w'.cell? ⟨w1.heap.size, 0, none⟩ = some (.slice cA ln cc) ∧ w'.cell? ⟨w1.heap.size, 1, none⟩ = some (.slice (some ⟨ba, oa, none⟩) ln ac) ∧ w'.cell? ⟨w1.heap.size, 2, none⟩ = some (.slice rA ln rc) ∧ w'.cell? ⟨w1.heap.size, 3, none⟩ = some (.int .i64 beg) ∧ w'.cell? ⟨w1.heap.size, 4, none⟩ = some (.slice tA4 tn4 tc4) ∧ w'.cell? ⟨w1.heap.size, 5, none⟩ = some (.int .i64 en) ∧ w'.cell? ⟨w.heap.size, 0, none⟩ = some (.slice (some ⟨bl, ol, none⟩) ln lc) ∧ w'.cell? ⟨w.heap.size, 1, none⟩ = some (.slice sA sn sc) ∧ w'.cell? ⟨w.heap.size, 2, none⟩ = some (.slice qA qn qc) ∧ w'.cell? ⟨ba, oa + k, none⟩ = some (.int .i64 t) ∧ w'.cell? ⟨bl, ol + k, none⟩ = some (.int .i64 lk) ∧ w'.cell? ⟨w.heap.size + 1, 3, none⟩ = some (.int .i64 f0)) (by kernel_rfl) (HH8.out) (fun hS => ?_)
          refine held_take (i := 0) (d := 45) (oi := _) (v := ?_) rfl rfl (by kernel_rfl) (by kernel_rfl) (by kernel_rfl) (fun _ _ _ h => h) (Or.inl ⟨by rfl, ?_⟩) hS ?_
          rotate_left
          · intro W hW; obtain ⟨s0, s1, s2, s3, s4, s5, s6, s7, s8, s9, s10, s11⟩ := hW; first | (go_simp; done) | (go_simp; with_reducible rfl)
          try simp only [Act.put, List.setIfInBounds_toArray, List.set_cons_zero, List.set_cons_succ]
          refine held_take (i := 1) (d := 46) (oi := _) (v := ?_) rfl rfl (by kernel_rfl) (by kernel_rfl) (by kernel_rfl) (fun _ _ _ h => h) (Or.inl ⟨by rfl, ?_⟩) hS ?_
          rotate_left
          · intro W hW; obtain ⟨s0, s1, s2, s3, s4, s5, s6, s7, s8, s9, s10, s11⟩ := hW; first | (go_simp; done) | (go_simp; with_reducible rfl)
          try simp only [Act.put, List.setIfInBounds_toArray, List.set_cons_zero, List.set_cons_succ]
          refine held_take (i := 2) (d := 47) (oi := _) (v := ?_) rfl rfl (by kernel_rfl) (by kernel_rfl) (by kernel_rfl) (fun _ _ _ h => h) (Or.inl ⟨by rfl, ?_⟩) hS ?_
          rotate_left
          · intro W hW; obtain ⟨s0, s1, s2, s3, s4, s5, s6, s7, s8, s9, s10, s11⟩ := hW; first | (go_simp; done) | (go_simp; with_reducible rfl)
          try simp only [Act.put, List.setIfInBounds_toArray, List.set_cons_zero, List.set_cons_succ]
          refine held_take (i := 3) (d := 48) (oi := _) (v := ?_) rfl rfl (by kernel_rfl) (by kernel_rfl) (by kernel_rfl) (fun _ _ _ h => h) (Or.inl ⟨by rfl, ?_⟩) hS ?_
          rotate_left
          · intro W hW; obtain ⟨s0, s1, s2, s3, s4, s5, s6, s7, s8, s9, s10, s11⟩ := hW; first | (go_simp; done) | (go_simp; with_reducible rfl)
          try simp only [Act.put, List.setIfInBounds_toArray, List.set_cons_zero, List.set_cons_succ]
          refine held_take (i := 4) (d := 49) (oi := _) (v := ?_) rfl rfl (by kernel_rfl) (by kernel_rfl) (by kernel_rfl) (fun _ _ _ h => h) (Or.inl ⟨by rfl, ?_⟩) hS ?_
          rotate_left
          · intro W hW; obtain ⟨s0, s1, s2, s3, s4, s5, s6, s7, s8, s9, s10, s11⟩ := hW; first | (go_simp; done) | (go_simp; with_reducible rfl)
          try simp only [Act.put, List.setIfInBounds_toArray, List.set_cons_zero, List.set_cons_succ]
          refine held_take (i := 5) (d := 50) (oi := _) (v := ?_) rfl rfl (by kernel_rfl) (by kernel_rfl) (by kernel_rfl) (fun _ _ _ h => h) (Or.inl ⟨by rfl, ?_⟩) hS ?_
          rotate_left
          · intro W hW; obtain ⟨s0, s1, s2, s3, s4, s5, s6, s7, s8, s9, s10, s11⟩ := hW; first | (go_simp; done) | (go_simp; with_reducible rfl)
          try simp only [Act.put, List.setIfInBounds_toArray, List.set_cons_zero, List.set_cons_succ]
          refine held_take (i := 6) (d := 51) (oi := _) (v := ?_) rfl rfl (by kernel_rfl) (by kernel_rfl) (by kernel_rfl) (fun _ _ _ h => h) (Or.inl ⟨by rfl, ?_⟩) hS ?_
          rotate_left
          · intro W hW; obtain ⟨s0, s1, s2, s3, s4, s5, s6, s7, s8, s9, s10, s11⟩ := hW; first | (go_simp; done) | (go_simp; with_reducible rfl)
          try simp only [Act.put, List.setIfInBounds_toArray, List.set_cons_zero, List.set_cons_succ]
          refine held_take (i := 7) (d := 52) (oi := _) (v := ?_) rfl rfl (by kernel_rfl) (by kernel_rfl) (by kernel_rfl) (fun _ _ _ h => h) (Or.inl ⟨by rfl, ?_⟩) hS ?_
          rotate_left
          · intro W hW; obtain ⟨s0, s1, s2, s3, s4, s5, s6, s7, s8, s9, s10, s11⟩ := hW; first | (go_simp; done) | (go_simp; with_reducible rfl)
          try simp only [Act.put, List.setIfInBounds_toArray, List.set_cons_zero, List.set_cons_succ]
          refine held_take (i := 8) (d := 53) (oi := _) (v := ?_) rfl rfl (by kernel_rfl) (by kernel_rfl) (by kernel_rfl) (fun _ _ _ h => h) (Or.inl ⟨by rfl, ?_⟩) hS ?_
          rotate_left
          · intro W hW; obtain ⟨s0, s1, s2, s3, s4, s5, s6, s7, s8, s9, s10, s11⟩ := hW; first | (go_simp; done) | (go_simp; with_reducible rfl)
          try simp only [Act.put, List.setIfInBounds_toArray, List.set_cons_zero, List.set_cons_succ]
          refine wpAnyH_ready (rs := [9]) (by kernel_rfl) (by simp) (AllReadyH.cons rfl (fun K hK => ?_) AllReadyH.nil)
          go_simp
          obtain ⟨s0, s1, s2, s3, s4, s5, s6, s7, s8, s9, s10, s11⟩ := hS
          go_at_call 10
          refine (HPA.out _ HX8.out).mono ?_
          rintro e w5 ⟨rfl, e5⟩
          have E5 := hide (Ext.trans HX8.out e5)
          refine hK.out _ _ ⟨e5.cell s0, e5.cell s1, e5.cell s2, e5.cell s3, e5.cell s4, e5.cell s5, e5.cell s6, e5.cell s7, e5.cell s8, e5.cell s9, e5.cell s10, e5.cell s11⟩ (fun hS => ?_)
          clear e5
          clear hK K
          try simp only [Act.put, List.setIfInBounds_toArray, List.set_cons_zero, List.set_cons_succ]
          refine held_take (i := 10) (d := 55) (oi := _) (v := ?_) rfl rfl (by kernel_rfl) (by kernel_rfl) (by kernel_rfl) (fun _ _ _ h => h) (Or.inl ⟨by rfl, ?_⟩) hS ?_
          rotate_left
          · intro W hW; obtain ⟨s0, s1, s2, s3, s4, s5, s6, s7, s8, s9, s10, s11⟩ := hW; first | (go_simp; done) | (go_simp; with_reducible rfl)
          try simp only [Act.put, List.setIfInBounds_toArray, List.set_cons_zero, List.set_cons_succ]
          refine held_take (i := 11) (d := 56) (oi := _) (v := ?_) rfl rfl (by kernel_rfl) (by kernel_rfl) (by kernel_rfl) (fun _ _ _ h => h) (Or.inl ⟨by rfl, ?_⟩) hS ?_
          rotate_left
          · intro W hW; obtain ⟨s0, s1, s2, s3, s4, s5, s6, s7, s8, s9, s10, s11⟩ := hW; first | (go_simp; done) | (go_simp; with_reducible rfl)
          try simp only [Act.put, List.setIfInBounds_toArray, List.set_cons_zero, List.set_cons_succ]
          refine held_take (i := 12) (d := 57) (oi := _) (v := ?_) rfl rfl (by kernel_rfl) (by kernel_rfl) (by kernel_rfl) (fun _ _ _ h => h) (Or.inl ⟨by rfl, ?_⟩) hS ?_
          rotate_left
          · intro W hW; obtain ⟨s0, s1, s2, s3, s4, s5, s6, s7, s8, s9, s10, s11⟩ := hW; first | (go_simp; done) | (go_simp; with_reducible rfl)
          try simp only [Act.put, List.setIfInBounds_toArray, List.set_cons_zero, List.set_cons_succ]
          refine held_take (i := 13) (d := 58) (oi := _) (v := ?_) rfl rfl (by kernel_rfl) (by kernel_rfl) (by kernel_rfl) (fun _ _ _ h => h) (Or.inl ⟨by rfl, ?_⟩) hS ?_
          rotate_left
          · intro W hW; obtain ⟨s0, s1, s2, s3, s4, s5, s6, s7, s8, s9, s10, s11⟩ := hW; first | (go_simp; done) | (go_simp; with_reducible rfl)
          try simp only [Act.put, List.setIfInBounds_toArray, List.set_cons_zero, List.set_cons_succ]
          refine held_take (i := 14) (d := 59) (oi := _) (v := ?_) rfl rfl (by kernel_rfl) (by kernel_rfl) (by kernel_rfl) (fun _ _ _ h => h) (Or.inl ⟨by rfl, ?_⟩) hS ?_
          rotate_left
          · intro W hW; obtain ⟨s0, s1, s2, s3, s4, s5, s6, s7, s8, s9, s10, s11⟩ := hW; first | (go_simp; done) | (go_simp; with_reducible rfl)
          try simp only [Act.put, List.setIfInBounds_toArray, List.set_cons_zero, List.set_cons_succ]
          refine held_take (i := 15) (d := 60) (oi := _) (v := undef) rfl rfl (by kernel_rfl) (by kernel_rfl) (by kernel_rfl) (fun _ _ _ h => h) (Or.inr ⟨by rfl, rfl⟩) hS ?_
          try simp only [Act.put, List.setIfInBounds_toArray, List.set_cons_zero, List.set_cons_succ]
          refine held_take (i := 16) (d := 61) (oi := _) (v := undef) rfl rfl (by kernel_rfl) (by kernel_rfl) (by kernel_rfl) (fun _ _ _ h => h) (Or.inr ⟨by rfl, rfl⟩) hS ?_
          try simp only [Act.put, List.setIfInBounds_toArray, List.set_cons_zero, List.set_cons_succ]
          refine held_take (i := 17) (d := 62) (oi := _) (v := undef) rfl rfl (by kernel_rfl) (by kernel_rfl) (by kernel_rfl) (fun _ _ _ h => h) (Or.inr ⟨by rfl, rfl⟩) hS ?_
          try simp only [Act.put, List.setIfInBounds_toArray, List.set_cons_zero, List.set_cons_succ]
          refine held_take (i := 18) (d := 63) (oi := _) (v := undef) rfl rfl (by kernel_rfl) (by kernel_rfl) (by kernel_rfl) (fun _ _ _ h => h) (Or.inr ⟨by rfl, rfl⟩) hS ?_
          try simp only [Act.put, List.setIfInBounds_toArray, List.set_cons_zero, List.set_cons_succ]
          refine held_take (i := 19) (d := 64) (oi := _) (v := undef) rfl rfl (by kernel_rfl) (by kernel_rfl) (by kernel_rfl) (fun _ _ _ h => h) (Or.inr ⟨by rfl, rfl⟩) hS ?_
          try simp only [Act.put, List.setIfInBounds_toArray, List.set_cons_zero, List.set_cons_succ]
          refine held_take (i := 20) (d := 65) (oi := _) (v := undef) rfl rfl (by kernel_rfl) (by kernel_rfl) (by kernel_rfl) (fun _ _ _ h => h) (Or.inr ⟨by rfl, rfl⟩) hS ?_
          try simp only [Act.put, List.setIfInBounds_toArray, List.set_cons_zero, List.set_cons_succ]
          refine held_take (i := 21) (d := 66) (oi := _) (v := undef) rfl rfl (by kernel_rfl) (by kernel_rfl) (by kernel_rfl) (fun _ _ _ h => h) (Or.inr ⟨by rfl, rfl⟩) hS ?_
          try simp only [Act.put, List.setIfInBounds_toArray, List.set_cons_zero, List.set_cons_succ]
          refine held_take (i := 22) (d := 67) (oi := _) (v := undef) rfl rfl (by kernel_rfl) (by kernel_rfl) (by kernel_rfl) (fun _ _ _ h => h) (Or.inr ⟨by rfl, rfl⟩) hS ?_
          try simp only [Act.put, List.setIfInBounds_toArray, List.set_cons_zero, List.set_cons_succ]
          refine held_take (i := 23) (d := 68) (oi := _) (v := undef) rfl rfl (by kernel_rfl) (by kernel_rfl) (by kernel_rfl) (fun _ _ _ h => h) (Or.inr ⟨by rfl, rfl⟩) hS ?_
          try simp only [Act.put, List.setIfInBounds_toArray, List.set_cons_zero, List.set_cons_succ]
          refine held_take (i := 24) (d := 69) (oi := _) (v := undef) rfl rfl (by kernel_rfl) (by kernel_rfl) (by kernel_rfl) (fun _ _ _ h => h) (Or.inr ⟨by rfl, rfl⟩) hS ?_
          try simp only [Act.put, List.setIfInBounds_toArray, List.set_cons_zero, List.set_cons_succ]
          refine held_take (i := 25) (d := 70) (oi := _) (v := ?_) rfl rfl (by kernel_rfl) (by kernel_rfl) (by kernel_rfl) (fun _ _ _ h => h) (Or.inl ⟨by rfl, ?_⟩) hS ?_
          rotate_left
          · intro W hW; obtain ⟨s0, s1, s2, s3, s4, s5, s6, s7, s8, s9, s10, s11⟩ := hW; first | (go_simp; done) | (go_simp; with_reducible rfl)
          try simp only [Act.put, List.setIfInBounds_toArray, List.set_cons_zero, List.set_cons_succ]
          refine held_take (i := 26) (d := 71) (oi := _) (v := ?_) rfl rfl (by kernel_rfl) (by kernel_rfl) (by kernel_rfl) (fun _ _ _ h => h) (Or.inl ⟨by rfl, ?_⟩) hS ?_
          rotate_left
          · intro W hW; obtain ⟨s0, s1, s2, s3, s4, s5, s6, s7, s8, s9, s10, s11⟩ := hW; first | (go_simp; done) | (go_simp; with_reducible rfl)
          try simp only [Act.put, List.setIfInBounds_toArray, List.set_cons_zero, List.set_cons_succ]
          refine wpAnyH_done (by kernel_rfl) ?_ _
          go_wp2_with fail
          exact ⟨⟨k + 1, by omega, by omega, by go_num, hide (Ext.trans X02.out E5.out)⟩, by simp [intOf]; omega⟩
    obtain rfl : ln = k := by omega
    have i1 : ¬ (ln : Int) < (ln : Int) := by omega
    go_wp2_with fail
    refine (HAW.out _).mono ?_
    rintro e w5 ⟨rfl, e5⟩
    go_wp2
    go_ret
    exact ⟨rfl, Ext.trans XA.out (Ext.trans HW.out e5)⟩
set_option maxRecDepth 100000 in
theorem playKeepsItsBuffer_lifted (os : Os) (started : os.Started) (H : Type) (enc : TypeId × Value → H) :
    ReturnsInHanded {} Try.checked os 3 .any (Rows.playKeepsItsBufferSpec.pre6 enc Try.prog Try.f3 Rows.playKeepsItsBufferRow.domain false) (Rows.playKeepsItsBufferSpec.post enc Try.prog Try.f3 false true false false) := by
  refine returnsInHanded_of_change_sized (C := Try.checked) Try.own started (by kernel_rfl) Try.func3
    (ChangeSpec.witness6 (enc := enc) (C := Try.checked) false ⟨#[], #[.agg #[.slice none 0 0, .slice none 0 0, .slice none 0 0], .slice none 0 0, .agg #[.int .i64 0, .int .i64 0, .int .i64 0, .int .i64 0, .int .i64 0, .int .i64 0, .int .i64 0, .int .i64 0, .int .i64 0, .int .i64 0, .int .i64 0, .int .i64 0, .int .i64 0, .int .i64 0]], []⟩ 8 (by kernel_rfl) (by kernel_rfl) (by kernel_rfl) (by kernel_rfl)) ?_
  intro W base args ds gs before hval0 hW _ _ _
  have hval : ∀ (j : Nat) t v, Try.f3.params[j]? = some t → args[j]? = some v → Value.okWide Try.prog W .any base t v := hval0
  have hW' := hW
  obtain ⟨p, q, hA0, hV, rfl, _, _⟩ := hW
  have hA : DataW.TrodAll enc Try.prog W 0 (fun _ => true) true Try.f3.params.toList args.toList ds p := hA0
  rw [Try.params3] at hA hval
  obtain ⟨v0, v1, v2, d0, d1, d2, p0, p1, p2, rfl, rfl, rfl, h0, h1, h2⟩ := trodAll_three hA
  obtain ⟨lA, ln, lc, sA, sn, sc, qA, qn, qc, L, S, Q, rfl, hSh⟩ := open_show (hval 0 25 v0 rfl rfl) h0
  obtain ⟨A1, n1, c1, l1, rfl, hAt1, _, _⟩ := open_flows (hval 1 26 v1 rfl rfl) h1
  obtain ⟨q0, q1, q2, q3, q4, q5, q6, q7, q8, q9, q10, q11, q12, q13, rfl⟩ := open_player (hval 2 30 v2 rfl rfl) h2
  refine (kpb_law hSh hAt1).mono fun e W' ⟨he, hE⟩ => ?_
  subst he
  exact ⟨_, rfl, law_post Try.laidOut Try.underlying4 hW' rfl rfl rfl (by kernel_rfl) hE⟩
theorem playKeepsItsBuffer_closed : joinedFacts Try.prog 3 Try.f3 Rows.playKeepsItsBufferSpec Rows.playKeepsItsBufferRow = true :=
  joined_of Try.laidOut Try.mapsRowed Try.plainKeys Try.stopsHeard Try.stopsNone Try.knobsNone Try.mayEnter Try.makeCut Try.liftsFinal rfl rfl rfl (by as_aux_lemma => kernel_rfl)
    (by as_aux_lemma => kernel_rfl) (by as_aux_lemma => kernel_rfl) (by as_aux_lemma => kernel_rfl) (by as_aux_lemma => kernel_rfl) (by as_aux_lemma => kernel_rfl) (by as_aux_lemma => kernel_rfl) (by as_aux_lemma => kernel_rfl) (by as_aux_lemma => kernel_rfl) (by as_aux_lemma => kernel_rfl) (by as_aux_lemma => kernel_rfl)
theorem playKeepsItsBuffer_holds : Rows.PlayKeepsItsBufferSaid :=
  OpenClaim.holds_of_wide 3 Try.f3 rfl rfl rfl rfl rfl rfl rfl ⟨rfl, rfl, rfl, rfl, rfl⟩ rfl rfl rfl rfl rfl (by as_aux_lemma => kernel_rfl) Try.func3 playKeepsItsBuffer_closed
    (of_decide_eq_true (by kernel_rfl)) (by unfold Func.isWrapper; first | (rw [if_pos (by decide +kernel)]; kernel_rfl) | (rw [if_neg (by decide +kernel)]; exact ⟨rfl, rfl⟩))
    (fun os started H enc _ => playKeepsItsBuffer_lifted os started H enc)
#print axioms playKeepsItsBuffer_holds

end Go.Proofs.Ytajadgpkmommmaa
