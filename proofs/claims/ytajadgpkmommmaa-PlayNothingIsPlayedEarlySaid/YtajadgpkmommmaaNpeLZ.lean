/- Proved: for every film, trace, player and number PlayNothingIsPlayedEarly returns true: at no time is more played than has come, each segment comes just when the network has given it, at the end nothing is left; the arguments read as they did. Conditions: none. -/
import Derived.Test.YtajadgpkmommmaaLawRZ
import Derived.Test.YtajadgpkmommmaaSesCZ
import Derived.Test.YtajadgpkmommmaaNetD
import Derived.Test.YtajadgpkmommmaaEndsB
import Derived.Test.YtajadgpkmommmaaAwakePZ
import Derived.Test.YtajadgpkmommmaaOpenZ
import Derived.Test.YtajadgpkmommmaaLawG
import Derived.Deep.RegionHeld3
import Derived.Deep.DrawnRows
namespace Go.Proofs.Ytajadgpkmommmaa
open Go.ChangeShapes Go.WideShapes Go.ChangeAt Go.RowKit
attribute [local go_sem ↓] Go.wp_at_zero Go.wp_at_succ
theorem wrap_rng (x : Int) : -9223372036854775808 ≤ IntKind.i64.wrap x ∧ IntKind.i64.wrap x ≤ 9223372036854775807 := by
  rw [IntKind.wrap_i64]; omega
set_option linter.unusedVariables false in
set_option maxRecDepth 1000000 in
set_option maxHeartbeats 16000000 in
theorem npe_law {lA : Option Addr} {ln lc : Nat} {sA : Option Addr} {sn sc : Nat} {qA : Option Addr} {qn qc : Nat} {L : List Int} {S : List (List Int)} {Q : List Int} {T : List (Int × Int)} {d0 s0 r0 f0 i0 k0 l0 t0 lo0 hi0 a0 x0 y0 z0 : Int} {w : World} {tA : Option Addr} {tn tc : Nat} {pick : Int} (h : Shw w lA ln lc sA sn sc qA qn qc L S Q) (hT : At w 2 e2 tA tn tc T) :
    Calls Try.prog 4 #[shV lA ln lc sA sn sc qA qn qc, .slice tA tn tc, plV d0 s0 r0 f0 i0 k0 l0 t0 lo0 hi0 a0 x0 y0 z0, .int .i64 pick] w fun e w' => e = .returned (.bool true) ∧ Ext w w' := by
  have HX : Hid (Ext w ((w.alloc (.cells #[.slice lA ln lc, .slice sA sn sc, .slice qA qn qc] 25)).alloc (.cells #[.int .i64 d0, .int .i64 s0, .int .i64 r0, .int .i64 f0, .int .i64 i0, .int .i64 k0, .int .i64 l0, .int .i64 t0, .int .i64 lo0, .int .i64 hi0, .int .i64 a0, .int .i64 x0, .int .i64 y0, .int .i64 z0] 30))) := hide (ext_alloc (Ext.alloc _ _) _)
  have hk0 := (Blk.new w 25 #[.slice lA ln lc, .slice sA sn sc, .slice qA qn qc]).alloc (.cells #[.int .i64 d0, .int .i64 s0, .int .i64 r0, .int .i64 f0, .int .i64 i0, .int .i64 k0, .int .i64 l0, .int .i64 t0, .int .i64 lo0, .int .i64 hi0, .int .i64 a0, .int .i64 x0, .int .i64 y0, .int .i64 z0] 30)
  have hk1 := Blk.new (w.alloc (.cells #[.slice lA ln lc, .slice sA sn sc, .slice qA qn qc] 25)) 30 #[.int .i64 d0, .int .i64 s0, .int .i64 r0, .int .i64 f0, .int .i64 i0, .int .i64 k0, .int .i64 l0, .int .i64 t0, .int .i64 lo0, .int .i64 hi0, .int .i64 a0, .int .i64 x0, .int .i64 y0, .int .i64 z0]
  rw [World.size_alloc] at hk1
  have B0 := hide hk0
  have B1 := hide hk1
  have HAW := hide (fun (W : World) => awake_any W)
  clear hk0 hk1
  by_cases hu : runF L S Q T d0 s0 r0 f0 i0 k0 l0 t0 lo0 hi0 a0 x0 y0 z0 = 0
  rotate_left
  · have i1 : (runF L S Q T d0 s0 r0 f0 i0 k0 l0 t0 lo0 hi0 a0 x0 y0 z0 != 0) = true := by simp [hu]
    have HR := hide (fun (W : World) (hW : Ext w W) => (keyRun_any (d0 := d0) (s0 := s0) (r0 := r0) (f0 := f0) (i0 := i0) (k0 := k0) (l0 := l0) (t0 := t0) (lo0 := lo0) (hi0 := hi0) (a0 := a0) (x0 := x0) (y0 := y0) (z0 := z0) (h.ext hW) (hT.ext hW)).mono fun e w' hg => And.intro (hg.2.1 hu) hg.1)
    generalize runF L S Q T d0 s0 r0 f0 i0 k0 l0 t0 lo0 hi0 a0 x0 y0 z0 = u at *
    clear hu h hT
    go_enter Try.func4, Try.ntmps4
    go_wp2_with fail
    refine (HR.out _ HX.out).mono ?_
    rintro e w1 ⟨rfl, e1⟩
    go_wp2_with fail
    refine (HAW.out _).mono ?_
    rintro e w2 ⟨rfl, e2⟩
    go_wp2
    go_ret
    exact ⟨rfl, Ext.trans HX.out (Ext.trans e1 (Ext.trans (Ext.alloc _ _) e2))⟩
  have HR := hide (fun (W : World) (hW : Ext w W) => (keyRun_any (d0 := d0) (s0 := s0) (r0 := r0) (f0 := f0) (i0 := i0) (k0 := k0) (l0 := l0) (t0 := t0) (lo0 := lo0) (hi0 := hi0) (a0 := a0) (x0 := x0) (y0 := y0) (z0 := z0) (h.ext hW) (hT.ext hW)).mono fun e w' hg => run_form hu hg)
  obtain ⟨hF, hT0, ⟨hd1, hd2⟩, _⟩ := runF_zero hu
  have ok := filmF_ok hF
  have hLn := h.longs.len
  have hl0 := ok.l0
  have HLV := hide (fun (W : World) (C asd arr : List Int) (beg : Int) (sts : List (Int × Int)) (en : Int) (cA aA rA tA : Option Addr) (cc ac rc tn4 tc : Nat) (t : Int) (hS : SesOk L S.length C asd arr beg sts en) (ht : 0 ≤ t ∧ t ≤ 2000000000000) (hnn : 0 ≤ levK arr L t L.length - plyP beg sts en t) (hW : Ext w W) (a1 : At W 1 e64 cA ln cc C) (a2 : At W 1 e64 aA ln ac asd) (a3 : At W 1 e64 rA ln rc arr) (a4 : At W 2 e2 tA tn4 tc sts) => level_ok (h.ext hW) hF hS a1 a2 a3 a4 ht hnn)
  have hsl := h.sizes.len
  have hs0 := ok.s0
  obtain ⟨bs, os, rfl⟩ := h.sizes.addr (by omega)
  have HSZ := hide h.sizes
  have HLN := hide hLn
  have HSN := hide hsl
  have hln0 : 0 < ln := by omega
  have hln2 : ln ≤ 200 := by have := ok.l1; omega
  have HOK := hide ok
  have HT0 := hide hT0
  have HEN := hide (fun (W : World) (hW : Ext w W) (f b : Int) => keyEnds_any (hT.ext hW) f b)
  clear h hT hF ok hu hLn hl0 hT0 hsl hs0
  go_enter Try.func4, Try.ntmps4
  go_wp2_with fail
  refine (HR.out _ HX.out).mono ?_
  rintro e w1 ⟨C, cA, cc, aA, ac, rA, rc, tA4, tc4, rfl, ⟨hC1, hC2, hC3, hC4, hC5⟩, ⟨m1, m2, m3, m4⟩, e1, hS, hR⟩
  -- what the law needs of the run
  have hlev : Hid (∀ t, 0 ≤ t → t ≤ (folF f0 s0 r0 L S (gvF C) (trF T d0) L.length).w.at_ + (folF f0 s0 r0 L S (gvF C) (trF T d0) L.length).w.buf → 0 ≤ levK (folF f0 s0 r0 L S (gvF C) (trF T d0) L.length).arr L t L.length - plyP (folF f0 s0 r0 L S (gvF C) (trF T d0) L.length).w.beg (folF f0 s0 r0 L S (gvF C) (trF T d0) L.length).w.stalls ((folF f0 s0 r0 L S (gvF C) (trF T d0) L.length).w.at_ + (folF f0 s0 r0 L S (gvF C) (trF T d0) L.length).w.buf) t) := hide (fun t h1 h2 => bal_nn hR HOK.out.l0 h1 h2)
  have hend : Hid (levK (folF f0 s0 r0 L S (gvF C) (trF T d0) L.length).arr L ((folF f0 s0 r0 L S (gvF C) (trF T d0) L.length).w.at_ + (folF f0 s0 r0 L S (gvF C) (trF T d0) L.length).w.buf) L.length - plyP (folF f0 s0 r0 L S (gvF C) (trF T d0) L.length).w.beg (folF f0 s0 r0 L S (gvF C) (trF T d0) L.length).w.stalls ((folF f0 s0 r0 L S (gvF C) (trF T d0) L.length).w.at_ + (folF f0 s0 r0 L S (gvF C) (trF T d0) L.length).w.buf) ((folF f0 s0 r0 L S (gvF C) (trF T d0) L.length).w.at_ + (folF f0 s0 r0 L S (gvF C) (trF T d0) L.length).w.buf) = 0) := hide (by
    rw [bal_end hR HOK.out.l0 (by have := (hR.all L.length (Nat.le_refl _)).1.1; omega) (Int.le_refl _)]; omega)
  have hseg : Hid (∀ i, i < ln → (0 ≤ (folF f0 s0 r0 L S (gvF C) (trF T d0) L.length).asd.getD i 0 ∧ (folF f0 s0 r0 L S (gvF C) (trF T d0) L.length).asd.getD i 0 ≤ 1900000000000) ∧ endsV T ((folF f0 s0 r0 L S (gvF C) (trF T d0) L.length).asd.getD i 0 + d0) ((S.getD (C.getD i 0).toNat []).getD i 0) = (folF f0 s0 r0 L S (gvF C) (trF T d0) L.length).arr.getD i 0 ∧ endsF T ((folF f0 s0 r0 L S (gvF C) (trF T d0) L.length).asd.getD i 0 + d0) ((S.getD (C.getD i 0).toNat []).getD i 0) = 0) := hide (by
    have hz := HOK.out
    intro i hi
    have hj : i < L.length := by have := HLN.out; omega
    rw [(fol_gets L.length i hj).1, (fol_gets L.length i hj).2.1]
    obtain ⟨_, b1, b2, b3, _⟩ := hR.step hj
    obtain ⟨_, _, hb4, _⟩ := hR.all i (by omega)
    have hbd := (ask_bd (full := f0) (long := L.getD i 0) (hR.all i (by omega)).1).2
    have e1 : asN f0 s0 r0 L S (gvF C) (trF T d0) i = askT f0 (L.getD i 0) (folF f0 s0 r0 L S (gvF C) (trF T d0) i).w := rfl
    have hl1 := hz.l1
    have hn2 : (i : Int) * 1000100000 ≤ 200 * 1000100000 := by omega
    have e2 : rN f0 s0 r0 L S (gvF C) (trF T d0) i = C.getD i 0 := rfl
    rw [e2] at b1
    have hsz := hz.sr (C.getD i 0).toNat (by omega) i hj
    have e3 : tN f0 s0 r0 L S (gvF C) (trF T d0) i = endsP T (asN f0 s0 r0 L S (gvF C) (trF T d0) i + d0) ((S.getD (C.getD i 0).toNat []).getD i 0) := rfl
    have hf : endsF T (asN f0 s0 r0 L S (gvF C) (trF T d0) i + d0) ((S.getD (C.getD i 0).toNat []).getD i 0) = 0 := by
      unfold endsF
      rw [if_neg (by have := HT0.out; omega), if_neg (by omega)]
    refine ⟨⟨by omega, by omega⟩, ?_, hf⟩
    rw [e3]
    unfold endsV
    rw [if_neg (by omega)])
  have hcr : Hid (∀ i, i < ln → 0 ≤ C.getD i 0 ∧ C.getD i 0 < sn ∧ (S.getD (C.getD i 0).toNat []).length = ln) := hide (by
    intro i hi
    have := hC2 i
    have h2 := HSN.out
    refine ⟨by omega, by omega, ?_⟩
    rw [HOK.out.sl _ (by omega), HLN.out])
  clear hC1 hC2 hC3 hC4 hC5 hR HR HT0 HOK
  generalize (folF f0 s0 r0 L S (gvF C) (trF T d0) L.length) = F at *
  generalize F.asd = asd at *
  generalize F.arr = arr at *
  generalize F.w.beg = beg at *
  generalize F.w.at_ + F.w.buf = en at *
  generalize hts : F.w.stalls = sts at *
  generalize htn : sts.length = tn4 at *
  rw [HLN.out] at m1
  rw [HLN.out] at m2
  rw [HLN.out] at m3
  rw [HLN.out]
  obtain ⟨bc, oc, rfl, _⟩ := m1.addr hln0
  obtain ⟨ba, oa, rfl, _⟩ := m2.addr hln0
  obtain ⟨br, orr, rfl, _⟩ := m3.addr hln0
  have E1 := hide (Ext.trans HX.out e1)
  have XA : Hid (Ext w1 (w1.alloc (.cells #[.slice (some ⟨bc, oc, none⟩) ln cc, .slice (some ⟨ba, oa, none⟩) ln ac, .slice (some ⟨br, orr, none⟩) ln rc, .int .i64 beg, .slice tA4 tn4 tc4, .int .i64 en] 33))) := hide (Ext.alloc _ _)
  have M1 := hide (m1.ext XA.out)
  have M2 := hide (m2.ext XA.out)
  have M3 := hide (m3.ext XA.out)
  have M4 := hide (m4.ext XA.out)
  have B0 := hide ((B0.out.ext e1).ext XA.out)
  have B1 := hide ((B1.out.ext e1).ext XA.out)
  have BX := hide (Blk.new w1 33 #[.slice (some ⟨bc, oc, none⟩) ln cc, .slice (some ⟨ba, oa, none⟩) ln ac, .slice (some ⟨br, orr, none⟩) ln rc, .int .i64 beg, .slice tA4 tn4 tc4, .int .i64 en])
  have HS := hide hS
  have hen0 := hS.e0
  have hen1 := hS.e1
  have XA := hide (Ext.trans E1.out XA.out)
  clear m1 m2 m3 m4 e1 hS hts htn
  go_wp2_with fail
  refine gen_wpC fun WA hA => ?_
  have EA : Hid (WA = (w1.alloc (.cells #[.slice (some ⟨bc, oc, none⟩) ln cc, .slice (some ⟨ba, oa, none⟩) ln ac, .slice (some ⟨br, orr, none⟩) ln rc, .int .i64 beg, .slice tA4 tn4 tc4, .int .i64 en] 33))) := hide hA
  clear hA
  have BX := hide (show Blk WA w1.heap.size 33 #[.slice (some ⟨bc, oc, none⟩) ln cc, .slice (some ⟨ba, oa, none⟩) ln ac, .slice (some ⟨br, orr, none⟩) ln rc, .int .i64 beg, .slice tA4 tn4 tc4, .int .i64 en] from by rw [EA.out]; exact BX.out)
  have B0 := hide (show Blk WA w.heap.size 25 #[.slice lA ln lc, .slice (some ⟨bs, os, none⟩) sn sc, .slice qA qn qc] from by rw [EA.out]; exact B0.out)
  have B1 := hide (show Blk WA (w.heap.size + 1) 30 #[.int .i64 d0, .int .i64 s0, .int .i64 r0, .int .i64 f0, .int .i64 i0, .int .i64 k0, .int .i64 l0, .int .i64 t0, .int .i64 lo0, .int .i64 hi0, .int .i64 a0, .int .i64 x0, .int .i64 y0, .int .i64 z0] from by rw [EA.out]; exact B1.out)
  have XA := hide (show Ext w WA from by rw [EA.out]; exact XA.out)
  have M1 := hide (show At WA 1 e64 (some ⟨bc, oc, none⟩) ln cc C from by rw [EA.out]; exact M1.out)
  have M2 := hide (show At WA 1 e64 (some ⟨ba, oa, none⟩) ln ac asd from by rw [EA.out]; exact M2.out)
  have M3 := hide (show At WA 1 e64 (some ⟨br, orr, none⟩) ln rc arr from by rw [EA.out]; exact M3.out)
  have M4 := hide (show At WA 2 e2 tA4 tn4 tc4 sts from by rw [EA.out]; exact M4.out)
  clear EA E1
  have HLW := hide (fun (W : World) (t : Int) (ht : 0 ≤ t ∧ t ≤ 2000000000000) (hnn : 0 ≤ levK arr L t L.length - plyP beg sts en t) (EX : Ext WA W) => HLV.out W C asd arr beg sts en (some ⟨bc, oc, none⟩) (some ⟨ba, oa, none⟩) (some ⟨br, orr, none⟩) tA4 cc ac rc tn4 tc4 t HS.out ht hnn (Ext.trans XA.out EX) (M1.out.ext EX) (M2.out.ext EX) (M3.out.ext EX) (M4.out.ext EX))
  clear HLV
  go_loopw [34] (fun ri wr => ∃ k : Nat, k ≤ 10 ∧ ri = .int .i64 k ∧ Hid (Ext WA wr)) (fun ri _ => 10 - (intOf ri).toNat)
  case atStart => exact ⟨0, by omega, rfl, hide (Ext.refl _)⟩
  case round =>
    obtain ⟨k, hk, rfl, HW⟩ := hrel
    have BX := hide (BX.out.ext HW.out)
    have C0 := hide (B0.out.ext HW.out)
    have C1 := hide (B1.out.ext HW.out)
    by_cases hlt : k < 10
    · have i1 : (k : Int) < 10 := by omega
      have hpr := wrap_rng (pick + 7919 * (k : Int))
      obtain ⟨px, hpx⟩ : ∃ px, IntKind.i64.wrap (pick + 7919 * (k : Int)) = px := ⟨_, rfl⟩
      rw [hpx] at hpr
      have HBL := hide (fun (W : World) => below_any px (en + 1) (by omega) (by omega) hpr W)
      have ht0 : 0 ≤ px % (en + 1) := Int.emod_nonneg _ (by omega)
      have ht1 : px % (en + 1) < en + 1 := Int.emod_lt_of_pos _ (by omega)
      generalize px % (en + 1) = t at *
      have hnn := hlev.out t ht0 (by omega)
      have HL7 := hide (fun (W : World) (EX : Ext wr W) => HLW.out W t ⟨ht0, by omega⟩ hnn (Ext.trans HW.out EX))
      generalize levK arr L t L.length - plyP beg sts en t = lev at *
      clear hpr
      go_wp2_with fail
      refine gen_wpC fun W1 h1 => ?_
      have X1 : Hid (Ext wr W1) := hide (by rw [h1]; exact Ext.refl _)
      have BX := hide (BX.out.ext X1.out)
      have C0 := hide (C0.out.ext X1.out)
      have HL7 := hide (fun (W : World) (EX : Ext W1 W) => HL7.out W (Ext.trans X1.out EX))
      have HH7 : Hid (∀ w', Ext W1 w' → w'.cell? ⟨w1.heap.size, 0, none⟩ = some (.slice (some ⟨bc, oc, none⟩) ln cc) ∧ w'.cell? ⟨w1.heap.size, 1, none⟩ = some (.slice (some ⟨ba, oa, none⟩) ln ac) ∧ w'.cell? ⟨w1.heap.size, 2, none⟩ = some (.slice (some ⟨br, orr, none⟩) ln rc) ∧ w'.cell? ⟨w1.heap.size, 3, none⟩ = some (.int .i64 beg) ∧ w'.cell? ⟨w1.heap.size, 4, none⟩ = some (.slice tA4 tn4 tc4) ∧ w'.cell? ⟨w1.heap.size, 5, none⟩ = some (.int .i64 en) ∧ w'.cell? ⟨w.heap.size, 0, none⟩ = some (.slice lA ln lc) ∧ w'.cell? ⟨w.heap.size, 1, none⟩ = some (.slice (some ⟨bs, os, none⟩) sn sc) ∧ w'.cell? ⟨w.heap.size, 2, none⟩ = some (.slice qA qn qc)) := hide (fun w' EX => ⟨EX.cell (BX.out.cell 0), EX.cell (BX.out.cell 1), EX.cell (BX.out.cell 2), EX.cell (BX.out.cell 3), EX.cell (BX.out.cell 4), EX.cell (BX.out.cell 5), EX.cell (C0.out.cell 0), EX.cell (C0.out.cell 1), EX.cell (C0.out.cell 2)⟩)
      clear h1
      have wk : IntKind.i64.wrap (7919 * (k : Int)) = 7919 * (k : Int) := by rw [IntKind.wrap_i64]; omega
      have we : IntKind.i64.wrap (en + 1) = en + 1 := by rw [IntKind.wrap_i64]; omega
      have EX := Ext.drew W1
      go_region_held3 (fun w' => w'.cell? ⟨w1.heap.size, 0, none⟩ = some (.slice (some ⟨bc, oc, none⟩) ln cc) ∧ w'.cell? ⟨w1.heap.size, 1, none⟩ = some (.slice (some ⟨ba, oa, none⟩) ln ac) ∧ w'.cell? ⟨w1.heap.size, 2, none⟩ = some (.slice (some ⟨br, orr, none⟩) ln rc) ∧ w'.cell? ⟨w1.heap.size, 3, none⟩ = some (.int .i64 beg) ∧ w'.cell? ⟨w1.heap.size, 4, none⟩ = some (.slice tA4 tn4 tc4) ∧ w'.cell? ⟨w1.heap.size, 5, none⟩ = some (.int .i64 en) ∧ w'.cell? ⟨w.heap.size, 0, none⟩ = some (.slice lA ln lc) ∧ w'.cell? ⟨w.heap.size, 1, none⟩ = some (.slice (some ⟨bs, os, none⟩) sn sc) ∧ w'.cell? ⟨w.heap.size, 2, none⟩ = some (.slice qA qn qc)) (with_reducible exact HH7.out _ EX) (first
        | ((go_at_call 11; with_reducible refine (HBL.out _).mono ?_); rintro e w5 ⟨rfl, rfl⟩)
        | ((go_at_call 9; with_reducible refine (HL7.out _ EX).mono ?_); rintro e w5 ⟨rfl, e5⟩; have EX := Ext.trans EX e5; clear e5))
      refine gen_the fun W2 h2 => ?_
      have X2 := hide (show Ext W1 W2 from by rw [h2]; exact EX)
      clear h2 EX HH7 HL7 wk we hpx HBL
      go_wp2_with fail
      exact ⟨⟨k + 1, by omega, by go_num, hide (Ext.trans HW.out (Ext.trans X1.out X2.out))⟩, by simp [intOf]; omega⟩
    obtain rfl : k = 10 := by omega
    have x0_ : wr.cell? ⟨w1.heap.size, 0, none⟩ = some (.slice (some ⟨bc, oc, none⟩) ln cc) := BX.out.cell 0
    go_wp2_with fail
    refine gen_wpC fun WB hB => ?_
    have XB : Hid (Ext WA WB) := hide (by rw [hB]; exact HW.out)
    clear hB x0_ BX C0 C1 hlt hk HW
    go_loopw [61] (fun ri wr => ∃ j : Nat, j ≤ ln ∧ ri = .int .i64 j ∧ Hid (Ext WB wr)) (fun ri _ => ln - (intOf ri).toNat)
    case atStart => exact ⟨0, by omega, rfl, hide (Ext.refl _)⟩
    case round =>
      obtain ⟨j, hj, rfl, HW⟩ := hrel
      have XW := hide (Ext.trans XB.out HW.out)
      have BX := hide (BX.out.ext XW.out)
      have C0 := hide (B0.out.ext XW.out)
      have C1 := hide (B1.out.ext XW.out)
      by_cases hlt : j < ln
      · obtain ⟨⟨ht0, ht1⟩, hv, hz⟩ := hseg.out j hlt
        obtain ⟨hc1, hc2, hc3⟩ := hcr.out j hlt
        obtain ⟨r, hr⟩ : ∃ r : Nat, C.getD j 0 = (r : Int) := ⟨(C.getD j 0).toNat, by omega⟩
        have c0_ := (M1.out.ext XW.out).num hlt
        rw [hr] at hv hz hc1 hc2 hc3 c0_
        rw [Int.toNat_natCast] at hv hz hc3
        have HC1 := hide ((M2.out.ext XW.out).num hlt)
        have hc2_ := (M3.out.ext XW.out).num hlt
        obtain ⟨wA, wn, wc, c3_, at3⟩ := (HSZ.out.ext (Ext.trans XA.out XW.out)).row (k := r) (by omega)
        have hwn : wn = ln := by rw [← at3.len, hc3]
        obtain ⟨bw, ow, rfl, _⟩ := at3.addr (by omega)
        have HC4 := hide (at3.num (k := j) (by omega))
        have HC3 := hide c3_
        have HC2 := hide hc2_
        have HE := hide (fun (W : World) (hW : Ext w W) => HEN.out W hW (asd.getD j 0 + d0) ((S.getD r []).getD j 0))
        rw [hv, hz] at HE
        generalize asd.getD j 0 = t at *
        generalize arr.getD j 0 = a at *
        generalize (S.getD r []).getD j 0 = z at *
        have i1 : (j : Int) < (ln : Int) := by omega
        have i2 : (r : Int) < (sn : Int) := by omega
        have i3 : (0 : Int) ≤ (r : Int) := by omega
        have i4 : (0 : Int) ≤ (j : Int) := by omega
        have i5 : (j : Int) < (wn : Int) := by omega
        clear hv hz hc1 hc2 hc3 hr c3_ at3 hwn hc2_
        go_wp2_with fail
        refine gen_wpC fun W1 h1 => ?_
        have X1 : Hid (Ext wr W1) := hide (by rw [h1]; exact Ext.refl _)
        have BX := hide (BX.out.ext X1.out)
        have C0 := hide (C0.out.ext X1.out)
        have C1 := hide (C1.out.ext X1.out)
        have HC1 := hide (X1.out.cell HC1.out)
        have HC2 := hide (X1.out.cell HC2.out)
        have HC3 := hide (X1.out.cell HC3.out)
        have HC4 := hide (X1.out.cell HC4.out)
        have XW1 := hide (Ext.trans XA.out (Ext.trans XW.out X1.out))
        have HH7 : Hid (∀ w', Ext W1 w' → w'.cell? ⟨w1.heap.size, 1, none⟩ = some (.slice (some ⟨ba, oa, none⟩) ln ac) ∧ w'.cell? ⟨w.heap.size, 1, none⟩ = some (.slice (some ⟨bs, os, none⟩) sn sc) ∧ w'.cell? ⟨w.heap.size + 1, 0, none⟩ = some (.int .i64 d0) ∧ w'.cell? ⟨ba, oa + j, none⟩ = some (.int .i64 t) ∧ w'.cell? ⟨bs, os + r, none⟩ = some (.slice (some ⟨bw, ow, none⟩) wn wc) ∧ w'.cell? ⟨bw, ow + j, none⟩ = some (.int .i64 z)) := hide (fun w' EX => ⟨EX.cell (BX.out.cell 1), EX.cell (C0.out.cell 1), EX.cell (C1.out.cell 0), EX.cell (HC1.out), EX.cell (HC3.out), EX.cell (HC4.out)⟩)
        clear h1 c0_
        have wt : IntKind.i64.wrap (t + d0) = t + d0 := by rw [IntKind.wrap_i64]; omega
        have EX := Ext.drew W1
        go_region_held3 (fun w' => w'.cell? ⟨w1.heap.size, 1, none⟩ = some (.slice (some ⟨ba, oa, none⟩) ln ac) ∧ w'.cell? ⟨w.heap.size, 1, none⟩ = some (.slice (some ⟨bs, os, none⟩) sn sc) ∧ w'.cell? ⟨w.heap.size + 1, 0, none⟩ = some (.int .i64 d0) ∧ w'.cell? ⟨ba, oa + j, none⟩ = some (.int .i64 t) ∧ w'.cell? ⟨bs, os + r, none⟩ = some (.slice (some ⟨bw, ow, none⟩) wn wc) ∧ w'.cell? ⟨bw, ow + j, none⟩ = some (.int .i64 z)) (with_reducible exact HH7.out _ EX) (
          ((go_at_call 12; with_reducible refine (HE.out _ (Ext.trans XW1.out EX)).mono ?_); rintro e w5 ⟨rfl, e5⟩; have EX := Ext.trans EX e5; clear e5))
        refine gen_the fun W2 h2 => ?_
        have X2 := hide (show Ext W1 W2 from by rw [h2]; exact EX)
        clear h2 EX HH7 wt
        have x2_ : W2.cell? ⟨w1.heap.size, 2, none⟩ = some (.slice (some ⟨br, orr, none⟩) ln rc) := (BX.out.ext X2.out).cell 2
        have c2_ := X2.out.cell HC2.out
        go_wp2_with fail
        first
          | exact ⟨⟨j + 1, by omega, by go_num, hide (Ext.trans HW.out (Ext.trans X1.out X2.out))⟩, by simp [intOf]; omega⟩
          | (go_roundw; (case rel => (repeat apply Exists.intro); exact ⟨⟨j + 1, by omega, by go_num, hide (Ext.trans HW.out (Ext.trans X1.out X2.out))⟩, rfl⟩); (case measure => simp [intOf]; omega))
      obtain rfl : ln = j := by omega
      have i1 : ¬ (ln : Int) < (ln : Int) := by omega
      have x0_ : wr.cell? ⟨w1.heap.size, 0, none⟩ = some (.slice (some ⟨bc, oc, none⟩) ln cc) := BX.out.cell 0
      have x1_ : wr.cell? ⟨w1.heap.size, 1, none⟩ = some (.slice (some ⟨ba, oa, none⟩) ln ac) := BX.out.cell 1
      have x2_ : wr.cell? ⟨w1.heap.size, 2, none⟩ = some (.slice (some ⟨br, orr, none⟩) ln rc) := BX.out.cell 2
      have x3_ : wr.cell? ⟨w1.heap.size, 3, none⟩ = some (.int .i64 beg) := BX.out.cell 3
      have x4_ : wr.cell? ⟨w1.heap.size, 4, none⟩ = some (.slice tA4 tn4 tc4) := BX.out.cell 4
      have x5_ : wr.cell? ⟨w1.heap.size, 5, none⟩ = some (.int .i64 en) := BX.out.cell 5

      have r0_ : wr.cell? ⟨w.heap.size, 0, none⟩ = some (.slice lA ln lc) := C0.out.cell 0
      have r1_ : wr.cell? ⟨w.heap.size, 1, none⟩ = some (.slice (some ⟨bs, os, none⟩) sn sc) := C0.out.cell 1
      have r2_ : wr.cell? ⟨w.heap.size, 2, none⟩ = some (.slice qA qn qc) := C0.out.cell 2
      have hee := hend.out
      have HLE := hide (fun (W : World) (EX : Ext wr W) => HLW.out W en ⟨hen0, hen1⟩ (by rw [hee]; exact Int.le_refl _) (Ext.trans XW.out EX))
      rw [hee] at HLE
      clear hee
      go_wp2_with fail
      refine (HLE.out _ (Ext.refl _)).mono ?_
      rintro e w5 ⟨rfl, e5⟩
      go_wp2_with fail
      refine (HAW.out _).mono ?_
      rintro e w6 ⟨rfl, e6⟩
      go_wp2
      go_ret
      exact ⟨rfl, Ext.trans XA.out (Ext.trans XW.out (Ext.trans e5 e6))⟩
set_option maxRecDepth 100000 in
theorem playNothingIsPlayedEarly_lifted (os : Os) (started : os.Started) (H : Type) (enc : TypeId × Value → H) :
    ReturnsInHanded {} Try.checked os 4 .any (Rows.playNothingIsPlayedEarlySpec.pre6 enc Try.prog Try.f4 Rows.playNothingIsPlayedEarlyRow.domain false) (Rows.playNothingIsPlayedEarlySpec.post enc Try.prog Try.f4 false true false false) := by
  refine returnsInHanded_of_change_sized (C := Try.checked) Try.own started (by kernel_rfl) Try.func4
    (ChangeSpec.witness6 (enc := enc) (C := Try.checked) false ⟨#[], #[.agg #[.slice none 0 0, .slice none 0 0, .slice none 0 0], .slice none 0 0, .agg #[.int .i64 0, .int .i64 0, .int .i64 0, .int .i64 0, .int .i64 0, .int .i64 0, .int .i64 0, .int .i64 0, .int .i64 0, .int .i64 0, .int .i64 0, .int .i64 0, .int .i64 0, .int .i64 0], .int .i64 0], []⟩ 8 (by kernel_rfl) (by kernel_rfl) (by kernel_rfl) (by kernel_rfl)) ?_
  intro W base args ds gs before hval0 hW _ _ _
  have hval : ∀ (j : Nat) t v, Try.f4.params[j]? = some t → args[j]? = some v → Value.okWide Try.prog W .any base t v := hval0
  have hW' := hW
  obtain ⟨p, q, hA0, hV, rfl, _, _⟩ := hW
  have hA : DataW.TrodAll enc Try.prog W 0 (fun _ => true) true Try.f4.params.toList args.toList ds p := hA0
  rw [Try.params4] at hA hval
  obtain ⟨v0, v1, v2, v3, d0, d1, d2, d3, p0, p1, p2, p3, rfl, rfl, rfl, h0, h1, h2, h3⟩ := trodAll_four hA
  obtain ⟨lA, ln, lc, sA, sn, sc, qA, qn, qc, L, S, Q, rfl, hSh⟩ := open_show (hval 0 25 v0 rfl rfl) h0
  obtain ⟨A1, n1, c1, l1, rfl, hAt1, _, _⟩ := open_flows (hval 1 26 v1 rfl rfl) h1
  obtain ⟨q0, q1, q2, q3, q4, q5, q6, q7, q8, q9, q10, q11, q12, q13, rfl⟩ := open_player (hval 2 30 v2 rfl rfl) h2
  obtain ⟨x3, rfl, rfl, rfl, _⟩ := open_int Try.underlying3 (hval 3 3 v3 rfl rfl) h3
  refine (npe_law hSh hAt1).mono fun e W' ⟨he, hE⟩ => ?_
  subst he
  exact ⟨_, rfl, law_post Try.laidOut Try.underlying4 hW' rfl rfl rfl (by kernel_rfl) hE⟩
theorem playNothingIsPlayedEarly_closed : joinedFacts Try.prog 4 Try.f4 Rows.playNothingIsPlayedEarlySpec Rows.playNothingIsPlayedEarlyRow = true :=
  joined_of Try.laidOut Try.mapsRowed Try.plainKeys Try.stopsHeard Try.stopsNone Try.knobsNone Try.mayEnter Try.makeCut Try.liftsFinal rfl rfl rfl (by as_aux_lemma => kernel_rfl)
    (by as_aux_lemma => kernel_rfl) (by as_aux_lemma => kernel_rfl) (by as_aux_lemma => kernel_rfl) (by as_aux_lemma => kernel_rfl) (by as_aux_lemma => kernel_rfl) (by as_aux_lemma => kernel_rfl) (by as_aux_lemma => kernel_rfl) (by as_aux_lemma => kernel_rfl) (by as_aux_lemma => kernel_rfl) (by as_aux_lemma => kernel_rfl)
theorem playNothingIsPlayedEarly_holds : Rows.PlayNothingIsPlayedEarlySaid :=
  OpenClaim.holds_of_wide 4 Try.f4 rfl rfl rfl rfl rfl rfl rfl ⟨rfl, rfl, rfl, rfl, rfl⟩ rfl rfl rfl rfl rfl (by as_aux_lemma => kernel_rfl) Try.func4 playNothingIsPlayedEarly_closed
    (of_decide_eq_true (by kernel_rfl)) (by unfold Func.isWrapper; first | (rw [if_pos (by decide +kernel)]; kernel_rfl) | (rw [if_neg (by decide +kernel)]; exact ⟨rfl, rfl⟩))
    (fun os started H enc _ => playNothingIsPlayedEarly_lifted os started H enc)
#print axioms playNothingIsPlayedEarly_holds

end Go.Proofs.Ytajadgpkmommmaa
