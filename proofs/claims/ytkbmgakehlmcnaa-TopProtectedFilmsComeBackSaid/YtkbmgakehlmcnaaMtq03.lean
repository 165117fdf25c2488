/- Several texts in one: Walk of the law TopProtectedFilmsComeBack over what its calls give. Conditions as stated; Walks: kit.Out, within, CheckRotation (both), PeriodAt (both). Conditions as stated; Walks: slices.Index, Contains, Equal of numbers; Below. Conditions as stated; Walks: Units (both). Conditions: none. -/
import Derived.Test.YtkbmgakehlmcnaaMtq02
import Derived.Test.YtkbmgakehlmcnaaMtq00
import Derived.Test.YtkbmgakehlmcnaaProg
import Derived.Deep.RegionHeld3
import Derived.Deep.RegionWith
import Derived.StillTailTactics
import Derived.Handy
import Derived.Lib.MinMax
namespace Go.Proofs.Ytkbmgakehlmcnaa
open Go.RowKit
theorem Try.infoD28 : (Try.prog.info? 28).map (fun i => (i.zero, i.size, i.bytes)) = some (some (.slice none 0 0), 1, 24) := by kernel_rfl
set_option linter.unusedVariables false in
set_option linter.unusedSimpArgs false in
set_option maxRecDepth 100000 in
set_option maxHeartbeats 16000000 in
theorem protBack_of {sc ch mo cr sk rB rE rL p kf jf wf : Int} {A : Option Addr} {n c : Nat} {hs : List TrkH} {T : List TrkT} {B : Option Addr} {m d : Nat} {es : List (Option Addr × Nat × Nat)} {D : List (List UInt8)} {rA sA : Option Addr} {rn rc sn sc2 : Nat} {kb ib wb : List UInt8} {F : List UInt8 → List UInt8} {cf : List UInt8 → Int} {w : World}
    (h : TksAt w A n c hs T) (hd : DtsAt w B m d es D) (hm : m * 24 ≤ 140737488355328)
    (hK : ∀ W, Ext w W → Calls Try.prog 4 #[.agg #[.int .i64 rB, .int .i64 rE, .int .i64 rL, .slice rA rn rc], .slice sA sn sc2, .int .i64 p] W (GvB W kb kf))
    (hI : ∀ W, Ext w W → Calls Try.prog 5 #[.agg #[.int .i64 rB, .int .i64 rE, .int .i64 rL, .slice rA rn rc], .int .i64 p] W (GvB W ib jf))
    (hk0 : kf ≠ 0 → kb = []) (hk1 : kf = 0 → kb.length = 16 ∧ ib.length = 16 ∧ jf = 0)
    (hP : ∀ (W : World) (A1 A2 A3 : Option Addr) (c1 c2 n3 c3 : Nat) (b : List UInt8), At W 1 e8 A1 16 c1 kb → At W 1 e8 A2 8 c2 (ib.take 8) → At W 1 e8 A3 n3 c3 b → Calls Try.prog 7 #[.agg #[.int .i64 mo, .int .i64 cr, .int .i64 sk], .slice A1 16 c1, .slice A2 8 c2, .slice A3 n3 c3, .slice none 0 0] W (GvN W (F b) (cf b)))
    (hP0 : ∀ b, cf b ≠ 0 → F b = [])
    (hO : ∀ (W : World) (A1 A2 A3 : Option Addr) (c1 c2 n3 c3 : Nat) (b : List UInt8), cf b = 0 → At W 1 e8 A1 16 c1 kb → At W 1 e8 A2 8 c2 (ib.take 8) → At W 1 e8 A3 n3 c3 (F b) → Calls Try.prog 10 #[.agg #[.int .i64 mo, .int .i64 cr, .int .i64 sk], .slice A1 16 c1, .slice A2 8 c2, .slice A3 n3 c3, .slice none 0 0] W (GvB W b 0))
    (hW : ∀ (W : World) (B2 : Option Addr) (m2 d2 : Nat) (es2 : List (Option Addr × Nat × Nat)), Ext w W → DtsAt W B2 m2 d2 es2 (D.map F) → Calls Try.prog 8 #[.agg #[.int .i64 sc, .slice A n c], .slice B2 m2 d2, .int .i64 ch] W (GvB W wb wf))
    (hw0 : wf ≠ 0 → wb = []) (hw1 : wf = 0 → D.length = T.length)
    (hR : ∀ (W : World) (N : Option Addr) (k q : Nat), wf = 0 → At W 1 e8 N k q wb → Calls Try.prog 9 #[.slice N k q] W fun e w' => Ext W w' ∧ ∃ tA tn tc hs2 dA dn dc hd2, e = .returned (.tuple #[.agg #[.int .i64 sc, .slice tA tn tc], .slice dA dn dc, .int .i64 0, .int .i64 0]) ∧ TksAt w' tA tn tc hs2 T ∧ DtsAt w' dA dn dc hd2 (D.map F))
    (hA : ∀ W, Calls Try.prog 6 #[] W fun e w' => e = .returned (.bool true) ∧ Ext W w') :
    Calls Try.prog 3 #[.agg #[.int .i64 sc, .slice A n c], .slice B m d, .int .i64 ch, .agg #[.int .i64 mo, .int .i64 cr, .int .i64 sk], .agg #[.int .i64 rB, .int .i64 rE, .int .i64 rL, .slice rA rn rc], .slice sA sn sc2, .int .i64 p] w fun e w' => e = .returned (.bool true) ∧ Ext w w' := by
  obtain ⟨i0, hi0, hz0, hz1, hz2⟩ := info_parts Try.infoD28
  have HK := hide hK
  have HI := hide hI
  have HP := hide hP
  have HP0 := hide hP0
  have HO := hide hO
  have HW := hide hW
  have HR := hide hR
  have HA := hide hA
  have H := hide h
  have HD := hide hd
  have hbd := hd.at_.bound
  have hml := hd.len
  have E0 := hide (Ext.trans (Ext.trans (Ext.alloc w (.cells #[.int .i64 sc, .slice A n c] 24)) (Ext.alloc _ (.cells #[.int .i64 mo, .int .i64 cr, .int .i64 sk] 27))) (Ext.alloc _ (.cells #[.int .i64 rB, .int .i64 rE, .int .i64 rL, .slice rA rn rc] 30)))
  have XF := hide (((Blk.new w 24 #[.int .i64 sc, .slice A n c]).alloc (.cells #[.int .i64 mo, .int .i64 cr, .int .i64 sk] 27)).alloc (.cells #[.int .i64 rB, .int .i64 rE, .int .i64 rL, .slice rA rn rc] 30))
  have XS := hide ((Blk.new (w.alloc (.cells #[.int .i64 sc, .slice A n c] 24)) 27 #[.int .i64 mo, .int .i64 cr, .int .i64 sk]).alloc (.cells #[.int .i64 rB, .int .i64 rE, .int .i64 rL, .slice rA rn rc] 30))
  have XR := hide (Blk.new ((w.alloc (.cells #[.int .i64 sc, .slice A n c] 24)).alloc (.cells #[.int .i64 mo, .int .i64 cr, .int .i64 sk] 27)) 30 #[.int .i64 rB, .int .i64 rE, .int .i64 rL, .slice rA rn rc])
  clear h hd hK hI hP hP0 hO hW hR hA
  go_enter Try.func3, Try.ntmps3
  go_upto_region 1 with (fail)
  refine gen_wpC fun w0 h0 => ?_
  rw [← h0] at E0 XF XS XR
  rw [World.size_alloc] at XS
  rw [World.size_alloc, World.size_alloc] at XR
  obtain ⟨f1, hf1⟩ : ∃ f1, f1 = w.heap.size := ⟨_, rfl⟩
  obtain ⟨f2, hf2⟩ : ∃ f2, f2 = w.heap.size + 1 := ⟨_, rfl⟩
  obtain ⟨f3, hf3⟩ : ∃ f3, f3 = w.heap.size + 1 + 1 := ⟨_, rfl⟩
  rw [← hf3] at XR
  rw [← hf2] at XS
  rw [← hf1] at XF
  first | rw [← hf3, ← hf2, ← hf1] | (simp only [World.size_alloc]; rw [← hf3, ← hf2, ← hf1])
  clear h0 hf1 hf2 hf3
  have r0 : w0.cell? ⟨f3, 0, none⟩ = some (.int .i64 rB) := XR.out.cell 0
  have r1 : w0.cell? ⟨f3, 1, none⟩ = some (.int .i64 rE) := XR.out.cell 1
  have r2 : w0.cell? ⟨f3, 2, none⟩ = some (.int .i64 rL) := XR.out.cell 2
  have r3 : w0.cell? ⟨f3, 3, none⟩ = some (.slice rA rn rc) := XR.out.cell 3
  go_wp2_with fail
  with_reducible refine (HK.out _ E0.out).mono ?_
  rintro e w1 ⟨kA, kn, kc, rfl, ka, e1⟩
  have E1 := hide (Ext.trans E0.out e1)
  have XF1 := hide (XF.out.ext e1)
  have XS1 := hide (XS.out.ext e1)
  have XR1 := hide (XR.out.ext e1)
  have hkn := ka.len
  have KA1 := hide ka
  clear r0 r1 r2 r3 ka e1 HK XF XS XR E0
  have r0 : w1.cell? ⟨f3, 0, none⟩ = some (.int .i64 rB) := XR1.out.cell 0
  have r1 : w1.cell? ⟨f3, 1, none⟩ = some (.int .i64 rE) := XR1.out.cell 1
  have r2 : w1.cell? ⟨f3, 2, none⟩ = some (.int .i64 rL) := XR1.out.cell 2
  have r3 : w1.cell? ⟨f3, 3, none⟩ = some (.slice rA rn rc) := XR1.out.cell 3
  go_wp2_with fail
  with_reducible refine (HI.out _ E1.out).mono ?_
  rintro e w2 ⟨iA, im, ic, rfl, ia, e2⟩
  have E2 := hide (Ext.trans E1.out e2)
  have XF2 := hide (XF1.out.ext e2)
  have XS2 := hide (XS1.out.ext e2)
  have KA2 := hide (KA1.out.ext e2)
  have hin := ia.len
  have IA2 := hide ia
  clear r0 r1 r2 r3 ia e2 HI XF1 XS1 XR1 E1 KA1
  by_cases hz : kf = 0
  rotate_left
  · rw [hk0 hz] at hkn
    have hkn : 0 = kn := hkn
    subst hkn
    clear hk0 hk1 hw0 hw1
    go_wp2_with fail
    with_reducible refine (HA.out _).mono ?_
    rintro e w7 ⟨rfl, e7⟩
    have E7 := hide (Ext.trans E2.out e7)
    clear e7
    go_wp2_with fail
    go_ret
    exact ⟨rfl, E7.out⟩
  obtain ⟨k1, k2, rfl⟩ := hk1 hz
  subst hz
  rw [k1] at hkn
  rw [k2] at hin
  subst hkn hin
  clear hk0 hk1 k1 k2
  have sl8 := sl_to (T := 28) (P := Try.prog) Try.underlying28 (fun _ => by kernel_rfl) IA2.out (m := 8) (by omega) 8 rfl
  have IB2 := hide (IA2.out.upto (k := 8) (by omega))
  clear IA2
  go_wp2_with fail
  go_loopw [19, 59] (fun rv ri wr => ∃ (k : Nat) (hs2 : List (Option Addr × Nat × Nat)), k ≤ m ∧ ri = .int .i64 k ∧ Hid (CyS w2 wr F D k rv hs2) ∧ Hid (∀ j, j < k → cf (D.getD j []) = 0)) (fun rv ri _ => m - (intOf ri).toNat)
  case atStart => exact ⟨0, [], by omega, rfl, hide (CyS.nil _ _ _), hide (fun _ hj => absurd hj (Nat.not_lt_zero _))⟩
  case round =>
    obtain ⟨k, hs2, hk, rfl, HS, HZ⟩ := hrel
    have EW := hide (Ext.trans E2.out HS.out.ext)
    by_cases hlt : k < m
    · have hat := HD.out.at_.ext EW.out
      have ok1 := HD.out.ok k hlt
      obtain ⟨b1, o1, rfl, _⟩ := hat.addr (by omega)
      obtain ⟨z1, hz1⟩ : ∃ z, es.getD k (none, 0, 0) = z := ⟨_, rfl⟩
      rw [hz1] at ok1
      have a0 : wr.cell? ⟨b1, o1 + k * 1, none⟩ = some (.slice z1.1 z1.2.1 z1.2.2) := hat.cellK hlt (none, 0, 0) 0 _ (by rw [hz1]; rfl)
      rw [Nat.mul_one] at a0
      have BK := hide (ok1.ext EW.out)
      obtain ⟨bk, hbk⟩ : ∃ q, D.getD k [] = q := ⟨_, rfl⟩
      rw [hbk] at BK
      have HBK := hide hbk
      generalize z1.1 = zA at *
      generalize z1.2.1 = zn at *
      generalize z1.2.2 = zc at *
      have KB := hide (KA2.out.ext HS.out.ext)
      have IB := hide (IB2.out.ext HS.out.ext)
      have s0 : wr.cell? ⟨f2, 0, none⟩ = some (.int .i64 mo) := (XS2.out.ext HS.out.ext).cell 0
      have s1 : wr.cell? ⟨f2, 1, none⟩ = some (.int .i64 cr) := (XS2.out.ext HS.out.ext).cell 1
      have s2 : wr.cell? ⟨f2, 2, none⟩ = some (.int .i64 sk) := (XS2.out.ext HS.out.ext).cell 2
      have i1 : (k : Int) < (m : Int) := by omega
      have i9 : (0 : Int) ≤ (k : Int) := by omega
      have i8 : IntKind.i64.wrap ((k : Int) + 1) = (k : Int) + 1 := by rw [IntKind.wrap_i64]; omega
      clear hat ok1 hz1 hbk
      go_upto_region 9 with (fail)
      have EX := Ext.drew wr
      go_region_held3 (fun W => W.cell? ⟨f2, 0, none⟩ = some (.int .i64 mo) ∧ W.cell? ⟨f2, 1, none⟩ = some (.int .i64 cr) ∧ W.cell? ⟨f2, 2, none⟩ = some (.int .i64 sk)) (first | go_keep | exact ⟨EX.cell s0, EX.cell s1, EX.cell s2⟩) (((go_at_call 7; with_reducible refine (HP.out _ _ _ _ _ _ _ _ _ (KB.out.ext EX) (IB.out.ext EX) (BK.out.ext EX)).mono ?_); rintro e w3 ⟨pA, pn, pc, rfl, pa, pe, pf⟩; have PA := hide pa; have PF := hide pf; have EX := Ext.trans EX pe; clear pa pf pe))
      have E3 := hide (Ext.trans EW.out EX)
      have XF3 := hide (XF2.out.ext (Ext.trans HS.out.ext EX))
      have hpn := PA.out.len
      by_cases hcf : cf bk = 0
      rotate_left
      · rw [HP0.out bk hcf] at hpn
        have hpn : 0 = pn := hpn
        subst hpn
        clear hw0 hw1
        go_wp2_with fail
        with_reducible refine (HA.out _).mono ?_
        rintro e w7 ⟨rfl, e7⟩
        have E7 := hide (Ext.trans E3.out e7)
        clear e7
        go_wp2_with fail
        go_ret
        exact ⟨rfl, E7.out⟩
      · have S1 : Hid (hs2.length + 1 ≤ maxLen) := hide (by have := HS.out.len; unfold maxLen; omega)
        have S2 : Hid ((hs2.length + 1) * 24 ≤ 140737488355328) := hide (by have := HS.out.len; omega)
        have S3 : Hid (w2.heap.size ≤ (w3.alloc (.cells #[.slice pA pn pc] 28)).heap.size) := hide (by have := (Ext.trans HS.out.ext EX).size; rw [World.size_alloc]; omega)
        have O3 := hide ((HS.out.own.ext EX).ext (Ext.alloc _ (.cells #[.slice pA pn pc] 28)))
        have EXH := hide EX
        have Z7 : Hid (∀ j, j < k + 1 → cf (D.getD j []) = 0) := hide (fun j hj => by
          by_cases hjk : j = k
          · rw [hjk, HBK.out]; exact hcf
          · exact HZ.out j (by omega))
        clear EX
        go_wp2_with (at_builtin; refine wpList_append_at _ rfl (.tmp 80) (.tmp 82) 25 rfl w2.heap.size 28 i0 _ 24 Try.underlying25 hi0 hz0 hz1 hz2 rfl (by omega) len_eB1 one_eB1 _ _ (by rfl) O3.out (some ⟨w3.heap.size, 0, none⟩) 1 1 [(pA, pn, pc)] (by rfl) (At.new1 w3 (pA, pn, pc) _ rfl _) S1.out S2.out S3.out ?_; intro v7 w7 o7 g7 n7 r7; have C7 := hide (CyS.step HS.out (Ext.trans EXH.out (Ext.alloc _ (.cells #[.slice pA pn pc] 28))) (by rw [HBK.out]; exact PA.out.ext (Ext.alloc _ _)) (fun x hx => by have := PF.out x hx; exact this) o7 g7 r7); clear o7 g7 n7 r7)
        go_roundw
        case rel => exact ⟨k + 1, _, by omega, by go_num, C7, Z7⟩
        case measure => simp [intOf]; omega
    · obtain rfl : k = m := by omega
      have i9 : ¬ (k : Int) < (k : Int) := by omega
      have hdl := HD.out.len
      obtain ⟨cA, cc, hv, hdt⟩ := HS.out.dts hdl.symm
      subst hv
      have HDT := hide hdt
      have XF3 := hide (XF2.out.ext HS.out.ext)
      have XS3 := hide (XS2.out.ext HS.out.ext)
      have KA3 := hide (KA2.out.ext HS.out.ext)
      have IB3 := hide (IB2.out.ext HS.out.ext)
      have x0 : wr.cell? ⟨f1, 0, none⟩ = some (.int .i64 sc) := XF3.out.cell 0
      have x1 : wr.cell? ⟨f1, 1, none⟩ = some (.slice A n c) := XF3.out.cell 1
      clear hdt hlt hk HS XF2 XS2 KA2 IB2 E2
      go_wp2_with fail
      with_reducible refine (HW.out _ _ _ _ _ EW.out HDT.out).mono ?_
      rintro e w4 ⟨N4, k4, c4, rfl, q4, e4⟩
      have E4 := hide (Ext.trans EW.out e4)
      have XF4 := hide (XF3.out.ext e4)
      have XS4 := hide (XS3.out.ext e4)
      have KA4 := hide (KA3.out.ext e4)
      have IB4 := hide (IB3.out.ext e4)
      have hk4 := q4.len
      have Q4 := hide q4
      clear q4 e4 x0 x1 XF3 XS3 KA3 IB3 EW HDT HW
      by_cases hwz : wf = 0
      rotate_left
      · rw [hw0 hwz] at hk4
        have hk4 : 0 = k4 := hk4
        subst hk4
        clear hw0 hw1
        go_wp2_with fail
        with_reducible refine (HA.out _).mono ?_
        rintro e w7 ⟨rfl, e7⟩
        have E7 := hide (Ext.trans E4.out e7)
        clear e7
        go_wp2_with fail
        go_ret
        exact ⟨rfl, E7.out⟩
      have hDT := hw1 hwz
      have HR4 := hide (HR.out _ _ _ _ hwz Q4.out)
      subst hwz
      clear hw0 hw1 hk4 Q4 HR
      go_wp2_with fail
      with_reducible refine HR4.out.mono ?_
      rintro e w5 ⟨e5, tA, tn, tc, hs3, dA, dn, dc, hd3, rfl, t5, u5⟩
      have E5 := hide (Ext.trans E4.out e5)
      have XF5 := hide (XF4.out.ext e5)
      have XS5 := hide (XS4.out.ext e5)
      have KA5 := hide (KA4.out.ext e5)
      have IB5 := hide (IB4.out.ext e5)
      have htn := t5.len
      have hdn := u5.len
      have hnn := H.out.len
      rw [List.length_map] at hdn
      have T5 := hide t5
      have U5 := hide u5
      clear t5 u5 e5 HR4 E4 XF4 XS4 KA4 IB4
      obtain rfl : dn = k := by omega
      obtain rfl : tn = n := by omega
      obtain rfl : tn = dn := by omega
      go_upto_region 18 with (fail)
      refine gen_wpC fun w6 h6 => ?_
      obtain ⟨gy, hgy⟩ : ∃ gy, gy = w5.heap.size := ⟨_, rfl⟩
      rw [← hgy]
      have EY : Hid (Ext w5 w6) := hide (by rw [h6]; exact Ext.alloc _ _)
      have E6 := hide (Ext.trans E5.out EY.out)
      have Y6 : Hid (Blk w6 gy 24 #[.int .i64 sc, .slice tA tn tc]) := hide (by rw [h6, hgy]; exact Blk.new _ _ _)
      have XF6 := hide (XF5.out.ext EY.out)
      have XS6 := hide (XS5.out.ext EY.out)
      have KA6 := hide (KA5.out.ext EY.out)
      have IB6 := hide (IB5.out.ext EY.out)
      have T6 := hide (T5.out.ext EY.out)
      have U6 := hide (U5.out.ext EY.out)
      have x1 : w6.cell? ⟨f1, 1, none⟩ = some (.slice A tn c) := XF6.out.cell 1
      have y1 : w6.cell? ⟨gy, 1, none⟩ = some (.slice tA tn tc) := Y6.out.cell 1
      clear h6 hgy EY E5 XF5 XS5 KA5 IB5 T5 U5 htn hdn hnn
      go_wp2_with fail
      with_reducible refine (HA.out _).mono ?_
      rintro e w7 ⟨rfl, e7⟩
      have E7 := hide (Ext.trans E6.out e7)
      have Y7 := hide (Y6.out.ext e7)
      have XF7 := hide (XF6.out.ext e7)
      have XS7 := hide (XS6.out.ext e7)
      have KA7 := hide (KA6.out.ext e7)
      have IB7 := hide (IB6.out.ext e7)
      have T7 := hide (T6.out.ext e7)
      have U7 := hide (U6.out.ext e7)
      clear e7 x1 y1 E6 Y6 XF6 XS6 KA6 IB6 T6 U6 HA
      go_wp2_with fail
      go_loopw [131] (fun ri wr => ∃ q : Nat, q ≤ tn ∧ ri = .int .i64 q ∧ Hid (Ext w7 wr)) (fun ri _ => tn - (intOf ri).toNat)
      case atStart => exact ⟨0, by omega, rfl, hide (Ext.refl _)⟩
      case round =>
        obtain ⟨q, hq, rfl, HX⟩ := hrel
        by_cases hlt : q < tn
        · have hdat := HD.out.at_.ext (Ext.trans E7.out HX.out)
          have hfou := U7.out.at_.ext HX.out
          have htr := H.out.at_.ext (Ext.trans E7.out HX.out)
          have htb := T7.out.at_.ext HX.out
          have ok1 := HD.out.ok q hlt
          have ok2 := U7.out.ok q hlt
          have ok3 := H.out.ok q hlt
          have ok4 := T7.out.ok q hlt
          have hcf := HZ.out q hlt
          have hF : (D.map F).getD q [] = F (D.getD q []) := by
            have : q < D.length := by omega
            simp [List.getD, this]
          rw [hF] at ok2
          obtain ⟨b1, o1, rfl, _⟩ := hdat.addr (by omega)
          obtain ⟨b2, o2, rfl, _⟩ := hfou.addr (by omega)
          obtain ⟨b3, o3, rfl, _⟩ := htr.addr (by omega)
          obtain ⟨b4, o4, rfl, _⟩ := htb.addr (by omega)
          obtain ⟨z1, hz1⟩ : ∃ z, es.getD q (none, 0, 0) = z := ⟨_, rfl⟩
          obtain ⟨z2, hz2⟩ : ∃ z, hd3.getD q (none, 0, 0) = z := ⟨_, rfl⟩
          obtain ⟨z3, hz3⟩ : ∃ z, hs.getD q default = z := ⟨_, rfl⟩
          obtain ⟨z4, hz4⟩ : ∃ z, hs3.getD q default = z := ⟨_, rfl⟩
          rw [hz1] at ok1
          rw [hz2] at ok2
          rw [hz3] at ok3
          rw [hz4] at ok4
          have a0 : wr.cell? ⟨b1, o1 + q * 1, none⟩ = some (.slice z1.1 z1.2.1 z1.2.2) := hdat.cellK hlt (none, 0, 0) 0 _ (by rw [hz1]; rfl)
          have d0 : wr.cell? ⟨b2, o2 + q * 1, none⟩ = some (.slice z2.1 z2.2.1 z2.2.2) := hfou.cellK hlt (none, 0, 0) 0 _ (by rw [hz2]; rfl)
          rw [Nat.mul_one] at a0 d0
          have g2 : wr.cell? ⟨b3, o3 + q * 4 + 2, none⟩ = some (.slice z3.sA z3.sn z3.sc) := htr.cellK hlt default 2 _ (by rw [hz3]; rfl)
          have l2 : wr.cell? ⟨b4, o4 + q * 4 + 2, none⟩ = some (.slice z4.sA z4.sn z4.sc) := htb.cellK hlt default 2 _ (by rw [hz4]; rfl)
          have DK := hide (ok1.ext (Ext.trans E7.out HX.out))
          have HOP := hide (fun (W : World) (A1 A2 A3 : Option Addr) (c1 c2 n3 c3 : Nat) => HO.out W A1 A2 A3 c1 c2 n3 c3 (D.getD q []) hcf)
          have FK := hide (ok2.ext HX.out)
          have HSQ := hide (fun (W : World) (hW : Ext w W) (hW2 : Ext w7 W) => smpEq_true (ok4.2.2.1.ext hW2) (ok3.2.2.1.ext hW))
          generalize D.getD q [] = bq at *
          generalize F bq = fq at *
          generalize z1.1 = zA at *
          generalize z1.2.1 = zn at *
          generalize z1.2.2 = zc at *
          generalize z2.1 = yA at *
          generalize z2.2.1 = yn at *
          generalize z2.2.2 = yc at *
          generalize z3.sA = vA at *
          generalize z3.sn = vn at *
          generalize z3.sc = vc at *
          generalize z4.sA = uA at *
          generalize z4.sn = un at *
          generalize z4.sc = uc at *
          have x1 : wr.cell? ⟨f1, 1, none⟩ = some (.slice (some ⟨b3, o3, none⟩) tn c) := (XF7.out.ext HX.out).cell 1
          have y1 : wr.cell? ⟨gy, 1, none⟩ = some (.slice (some ⟨b4, o4, none⟩) tn tc) := (Y7.out.ext HX.out).cell 1
          have s0 : wr.cell? ⟨f2, 0, none⟩ = some (.int .i64 mo) := (XS7.out.ext HX.out).cell 0
          have s1 : wr.cell? ⟨f2, 1, none⟩ = some (.int .i64 cr) := (XS7.out.ext HX.out).cell 1
          have s2 : wr.cell? ⟨f2, 2, none⟩ = some (.int .i64 sk) := (XS7.out.ext HX.out).cell 2
          have KB := hide (KA7.out.ext HX.out)
          have IB := hide (IB7.out.ext HX.out)
          have EWX := hide (Ext.trans E7.out HX.out)
          have i1 : (q : Int) < (tn : Int) := by omega
          have i9 : (0 : Int) ≤ (q : Int) := by omega
          have i8 : IntKind.i64.wrap ((q : Int) + 1) = (q : Int) + 1 := by rw [IntKind.wrap_i64]; omega
          clear hdat hfou htr htb ok1 ok2 ok3 ok4 hz1 hz2 hz3 hz4 hcf hF
          go_upto_region 23 with (fail)
          have EX := Ext.drew wr
          go_region_held3 (fun W => W.cell? ⟨f2, 0, none⟩ = some (.int .i64 mo) ∧ W.cell? ⟨f2, 1, none⟩ = some (.int .i64 cr) ∧ W.cell? ⟨f2, 2, none⟩ = some (.int .i64 sk)) (first | go_keep | exact ⟨EX.cell s0, EX.cell s1, EX.cell s2⟩) (((go_at_call 10; with_reducible refine (HOP.out _ _ _ _ _ _ _ _ (KB.out.ext EX) (IB.out.ext EX) (FK.out.ext EX)).mono ?_); rintro e w3 ⟨pA, pn, pc, rfl, pa, pe⟩; have PA := hide pa; have EX := Ext.trans EX pe; clear pa pe))
          have EXH := hide EX
          have a0 := EX.cell a0
          have g2 := EX.cell g2
          have l2 := EX.cell l2
          have x1 := EX.cell x1
          have y1 := EX.cell y1
          clear s0 s1 s2 d0 EX
          go_wp2_with fail
          have EX := Ext.drew w3
          go_region_held3 (fun W => W.cell? ⟨b1, o1 + q, none⟩ = some (.slice zA zn zc) ∧ W.cell? ⟨b3, o3 + q * 4 + 2, none⟩ = some (.slice vA vn vc) ∧ W.cell? ⟨b4, o4 + q * 4 + 2, none⟩ = some (.slice uA un uc) ∧ W.cell? ⟨f1, 1, none⟩ = some (.slice (some ⟨b3, o3, none⟩) tn c) ∧ W.cell? ⟨gy, 1, none⟩ = some (.slice (some ⟨b4, o4, none⟩) tn tc)) (first | go_keep | exact ⟨EX.cell a0, EX.cell g2, EX.cell l2, EX.cell x1, EX.cell y1⟩) (first
            | ((go_at_call 11; with_reducible refine (bytsEq_true (PA.out.ext EX) (DK.out.ext (Ext.trans EXH.out EX))).mono ?_); rintro e w8 ⟨rfl, ex8⟩; have EX := Ext.trans EX ex8)
            | ((go_at_call 12; with_reducible refine (HSQ.out _ (Ext.trans EWX.out (Ext.trans EXH.out EX)) (Ext.trans HX.out (Ext.trans EXH.out EX))).mono ?_); rintro e w9 ⟨rfl, ex9⟩; have EX := Ext.trans EX ex9))
          have EZ := hide (Ext.trans HX.out (Ext.trans EXH.out EX))
          clear EX
          go_wp2_with fail
          go_roundw
          case rel => exact ⟨q + 1, by omega, by go_num, EZ⟩
          case measure => simp [intOf]; omega
        · obtain rfl : q = tn := by omega
          have i9 : ¬ (q : Int) < (q : Int) := by omega
          clear hlt hq
          go_wp2_with fail
          go_ret
          exact ⟨rfl, Ext.trans E7.out HX.out⟩
abbrev rotV (B E L : Int) (A : Option Addr) (n c : Nat) : Value := .agg #[.int .i64 B, .int .i64 E, .int .i64 L, .slice A n c]
def rotF (B E L : Int) (n : Nat) : Int :=
  if B < 0 ∨ 1000000000000000 < B ∨ E < 1 ∨ 1000000000000000 < E ∨ L < 0 ∨ 1000000000000000 < L then 1 else if 100 < n then 2 else 0
set_option maxHeartbeats 1000000 in
theorem keyCheckRotation_any (B E L : Int) (A : Option Addr) (n c : Nat) (w : World) :
    Calls Try.prog 13 #[rotV B E L A n c] w fun e w' => e = .returned (.int .i64 (rotF B E L n)) ∧ Ext w w' := by
  unfold rotF
  by_cases hB : 0 ≤ B ∧ B ≤ 1000000000000000
  · by_cases hE : 1 ≤ E ∧ E ≤ 1000000000000000
    · by_cases hL : 0 ≤ L ∧ L ≤ 1000000000000000
      · rw [if_neg (by omega)]
        by_cases hn : 100 < n
        · rw [if_pos hn]
          go_enter Try.func13, Try.ntmps13
          go_wp2_with (first | ((go_at_call 14; with_reducible refine (out_no ?_ _).mono ?_); (focus omega); rintro e w' ⟨rfl, rfl⟩) | ((go_at_call 14; with_reducible refine (out_yes ?_ _).mono ?_); (focus omega); rintro e w' ⟨rfl, rfl⟩))
          go_ret
          exact ⟨rfl, (by repeat' (first | (with_reducible first | exact Below.refl _ _ | assumption | refine below_drewN ?_ _ | refine Below.drew ?_ | refine ext_alloc ?_ _ | refine Below.setCell ?_ ?_ _) | go_size))⟩
        · rw [if_neg hn]
          have hn' : n ≤ 100 := by omega
          clear hn
          go_enter Try.func13, Try.ntmps13
          go_wp2_with (first | ((go_at_call 14; with_reducible refine (out_no ?_ _).mono ?_); (focus omega); rintro e w' ⟨rfl, rfl⟩) | ((go_at_call 14; with_reducible refine (out_yes ?_ _).mono ?_); (focus omega); rintro e w' ⟨rfl, rfl⟩))
          go_ret
          exact ⟨rfl, (by repeat' (first | (with_reducible first | exact Below.refl _ _ | assumption | refine below_drewN ?_ _ | refine Below.drew ?_ | refine ext_alloc ?_ _ | refine Below.setCell ?_ ?_ _) | go_size))⟩
      · rw [if_pos (by omega)]
        go_enter Try.func13, Try.ntmps13
        go_wp2_with (first | ((go_at_call 14; with_reducible refine (out_no ?_ _).mono ?_); (focus omega); rintro e w' ⟨rfl, rfl⟩) | ((go_at_call 14; with_reducible refine (out_yes ?_ _).mono ?_); (focus omega); rintro e w' ⟨rfl, rfl⟩))
        go_ret
        exact ⟨rfl, (by repeat' (first | (with_reducible first | exact Below.refl _ _ | assumption | refine below_drewN ?_ _ | refine Below.drew ?_ | refine ext_alloc ?_ _ | refine Below.setCell ?_ ?_ _) | go_size))⟩
    · rw [if_pos (by omega)]
      go_enter Try.func13, Try.ntmps13
      go_wp2_with (first | ((go_at_call 14; with_reducible refine (out_no ?_ _).mono ?_); (focus omega); rintro e w' ⟨rfl, rfl⟩) | ((go_at_call 14; with_reducible refine (out_yes ?_ _).mono ?_); (focus omega); rintro e w' ⟨rfl, rfl⟩))
      go_ret
      exact ⟨rfl, (by repeat' (first | (with_reducible first | exact Below.refl _ _ | assumption | refine below_drewN ?_ _ | refine Below.drew ?_ | refine ext_alloc ?_ _ | refine Below.setCell ?_ ?_ _) | go_size))⟩
  · rw [if_pos (by omega)]
    go_enter Try.func13, Try.ntmps13
    go_wp2_with (first | ((go_at_call 14; with_reducible refine (out_no ?_ _).mono ?_); (focus omega); rintro e w' ⟨rfl, rfl⟩) | ((go_at_call 14; with_reducible refine (out_yes ?_ _).mono ?_); (focus omega); rintro e w' ⟨rfl, rfl⟩))
    go_ret
    exact ⟨rfl, (by repeat' (first | (with_reducible first | exact Below.refl _ _ | assumption | refine below_drewN ?_ _ | refine Below.drew ?_ | refine ext_alloc ?_ _ | refine Below.setCell ?_ ?_ _) | go_size))⟩
theorem rotF_zero {B E L : Int} {n : Nat} (h : rotF B E L n = 0) : (0 ≤ B ∧ B ≤ 1000000000000000) ∧ (1 ≤ E ∧ E ≤ 1000000000000000) ∧ (0 ≤ L ∧ L ≤ 1000000000000000) ∧ n ≤ 100 := by
  unfold rotF at h
  split at h
  · omega
  · split at h
    · omega
    · omega
theorem At.numK {w : World} {b off n c : Nat} {l : List Int} (h : At w 1 e64 (some ⟨b, off, none⟩) n c l) {k : Nat} (hk : k < n) : w.cell? ⟨b, off + k, none⟩ = some (.int .i64 (l.getD k 0)) := by
  have hl := h.len
  obtain ⟨b', off', e, hc⟩ := h.cells k _ (List.getElem?_eq_getElem (by omega))
  injection e with e
  injection e with e1 e2
  subst e1 e2
  have := hc 0 _ rfl
  rw [show l.getD k 0 = l[k]'(by omega) by simp [List.getD, show k < l.length by omega]]
  simpa using this
end Go.Proofs.Ytkbmgakehlmcnaa
