/- Several texts in one: Walk: run of the reference's parser. Conditions as stated; Walks: parse and Parse (reference). Conditions as stated. -/
import Derived.Test.YtlonhkjplijlcaaMrg37
import Derived.Test.YtlonhkjplijlcaaMrg02
import Derived.StillTailTactics
import Derived.Test.YtlonhkjplijlcaaMrg27
namespace Go.Proofs.Ytlonhkjplijlcaa
open Go.RowKit
theorem numR_le {l : List UInt8} (h : l.length = 8) : numR l ≤ 4611686018427387904 := by
  unfold numR
  have e : l = l.take 7 ++ [l[7]] := by
    conv => lhs; rw [← List.take_append_drop 7 l]
    congr 1
    rw [List.drop_eq_getElem_cons (by omega), List.drop_of_length_le (by omega)]
  have e2 : numB l = numB (l.take 7) * 256 + (l[7]).toNat := by
    conv => lhs; rw [e]
    exact numB_snoc _ _
  have := (l[7]).toNat_lt
  split
  · omega
  · rename_i hc
    have : ¬ 18014398509481984 ≤ numB (l.take 7) := fun h9 => hc ⟨h, h9⟩
    omega
set_option linter.unusedVariables false in
set_option linter.unusedSimpArgs false in
set_option maxRecDepth 100000 in
set_option maxHeartbeats 8000000 in
theorem run_step (m : Nat) (ih : ∀ m', m' < m → RunStmt m') : RunStmt m := by
  intro gp f t depth cnt A n c b w hm hp hb hAg h1 h2 h3_ h4_ h5
  have HB := hide hb
  have P0 := hide hp
  have hg0 := hp.lt
  have HA : Hid (0 < n → ∀ a, A = some a → a.block < w.heap.size) := hide (fun hn0 a ha => by
    subst ha
    obtain ⟨b1, o1, e, hc⟩ := hb.addr hn0
    have hl := hb.len
    have := cell_lt (hc 0 (by omega) 0 _ rfl)
    injection e with e
    rw [e]
    simpa using this)
  have HAG := hide hAg
  have IH := hide ih
  have hle := hb.le
  have HLE := hide hb.len
  clear ih
  have r0 : RnI w w gp A n c b f t depth cnt f cnt (.slice none 0 0) (.slice none 0 0) [] [] [] := ⟨Nat.le_refl _, h1, h5, (pre_nil _).symm, Nat.zero_le _, hp, Rw2.nil _ _ _, Tw.refl _ _ _⟩
  have R0 := hide r0
  clear r0 hp hb hAg
  go_enter Try.func60, Try.ntmps60
  go_wp2_with fail
  go_loopw [1, 10, 11] (fun r1 r10 r11 wr => ∃ (g cn : Nat) (hs1 : List BoxH) (hs2 : List PlH) (l : List NodeT), r1 = .int .i64 (g : Int) ∧ Hid (RnI w wr gp A n c b f t depth cnt g cn r10 r11 hs1 hs2 l)) (fun r1 _ _ _ => t - (intOf r1).toNat)
  case atStart => exact ⟨f, cnt, [], [], [], rfl, R0⟩
  case round =>
    obtain ⟨g, cn, hs1, hs2, l, rfl, HI⟩ := hrel
    have hg1 := HI.out.f1
    have hg2 := HI.out.f2
    have hcn := HI.out.cnle
    by_cases hlt : g < t
    · have i1 : (g : Int) < (t : Int) := by omega
      have p1 : wr.cell? ⟨gp, 1, none⟩ = some (.int .i64 (cn : Int)) := HI.out.blk.cell 1
      have z1 : wr.frozen? ⟨gp, 1, none⟩ = false := HI.out.blk.frozen 1
      have w1_ : IntKind.i64.wrap ((cn : Int) + 1) = (cn : Int) + 1 := by rw [IntKind.wrap_i64]; omega
      by_cases hlg : 2000 < cn + 1 ∨ 8 ≤ depth
      · have HR : Hid (parF b f t depth cnt = .err g 2) := hide (by rw [HI.out.par, parF_large hlt hlg]; rfl)
        have B1 : Hid (Blk (wr.setCell ⟨gp, 1, none⟩ (.int .i64 ((cn : Int) + 1))) gp 123 #[.slice A n c, .int .i64 ((cn + 1 : Nat) : Int), .int .i64 0, .int .i64 0]) := hide (HI.out.blk.set_ 1 _)
        have HST := hide (fun (f : Int) (a : Int) => stop_any (f := f) (at_ := a) B1.out)
        by_cases hl1 : 2000 < cn + 1
        · have j1 : (2000 : Int) < (cn : Int) + 1 := by omega
          clear hlg hl1
          go_wp2_with fail
          with_reducible refine (HST.out _ _).mono ?_
          rintro e w9 ⟨rfl, b9, t9⟩
          have B9 := hide b9
          have T9 := hide t9
          clear b9 t9
          go_wp2_with fail
          refine bodyPost_ret (v := .tuple #[.slice none 0 0, .slice none 0 0]) (by simp [results, Try.results60, go_sem]) rfl (RunGives.bad HR.out ((HI.out.tw.trans (Tw.set_ _ _ _ _ _)).trans T9.out) B9.out)

        · have j1 : ¬ (2000 : Int) < (cn : Int) + 1 := by omega
          have j2 : (8 : Int) ≤ (depth : Int) := by omega
          clear hlg hl1
          go_wp2_with fail
          with_reducible refine (HST.out _ _).mono ?_
          rintro e w9 ⟨rfl, b9, t9⟩
          have B9 := hide b9
          have T9 := hide t9
          clear b9 t9
          go_wp2_with fail
          refine bodyPost_ret (v := .tuple #[.slice none 0 0, .slice none 0 0]) (by simp [results, Try.results60, go_sem]) rfl (RunGives.bad HR.out ((HI.out.tw.trans (Tw.set_ _ _ _ _ _)).trans T9.out) B9.out)

      have j1 : ¬ (2000 : Int) < (cn : Int) + 1 := by omega
      have j2 : ¬ (8 : Int) ≤ (depth : Int) := by omega
      have HLG := hide hlg
      have HCN1 : Hid (cn + 1 ≤ 2000) := hide (by omega)
      clear hlg
      have hrg : Hid (∀ (W : World) (x y : Int) (k m : Nat), x = (k : Int) → y = (m : Int) → k ≤ m → m ≤ n → True) := hide (fun _ _ _ _ _ _ _ _ _ => trivial)
      go_upto_region 7 with (fail)
      refine gen_wpC fun w1 hw1 => ?_
      have P1 : Hid (Blk w1 gp 123 #[.slice A n c, .int .i64 ((cn + 1 : Nat) : Int), .int .i64 0, .int .i64 0]) := hide (by rw [hw1]; exact HI.out.blk.set_ 1 _)
      have U1 : Hid (Tw wr w1 gp none) := hide (by rw [hw1]; exact Tw.set_ _ _ _ _ _)
      have HBX := hide (fun (W : World) (hU : Tw wr W gp none) => HB.out.tw (HI.out.tw.trans hU) (fun a ha => ⟨HAG.out (by omega) a ha, by simp⟩))
      have HBF := hide (fun (W : World) (hW : Tw w W gp none) => HB.out.tw hW (fun a ha => ⟨HAG.out (by omega) a ha, by simp⟩))
      have hsz0 := HI.out.tw.size
      have hsz1 : w1.heap.size = wr.heap.size := by rw [hw1]; simp
      have p0 : w1.cell? ⟨gp, 0, none⟩ = some (.slice A n c) := P1.out.cell 0
      have HST := hide (fun (f : Int) (a : Int) => stop_any (f := f) (at_ := a) P1.out)
      clear hw1 p1 z1 hrg
      have hv : headP b g t = if t - g < 8 then none
          else if numB (cutB b g (g + 4)) = 1 then (if t - g < 16 then none else headF (cutB b (g + 4) (g + 8)) 1 g (t - g) (g + 16) (numB (cutB b (g + 8) (g + 16))))
          else if numB (cutB b g (g + 4)) = 0 then headF (cutB b (g + 4) (g + 8)) 2 g (t - g) (g + 8) (t - g)
          else headF (cutB b (g + 4) (g + 8)) 0 g (t - g) (g + 8) (numB (cutB b g (g + 4))) := rfl
      have HNO : Hid (headP b g t = none → parF b f t depth cnt = .err g 10) := hide (fun hh => by rw [HI.out.par, parF_none hlt HLG.out hh]; rfl)
      have tg : IntKind.i64.wrap ((t : Int) - (g : Int)) = (t : Int) - (g : Int) := by rw [IntKind.wrap_i64]; omega
      by_cases hs : t - g < 8
      · have HR : Hid (parF b f t depth cnt = .err g 10) := hide (HNO.out (by rw [hv, if_pos hs]))
        clear hv
        have i1 : (t : Int) - (g : Int) < 8 := by omega
        go_wp2_with fail
        with_reducible refine (HST.out _ _).mono ?_
        rintro e w9 ⟨rfl, b9, t9⟩
        have B9 := hide b9
        have T9 := hide t9
        clear b9 t9
        go_wp2_with fail
        refine bodyPost_ret (v := .tuple #[.slice none 0 0, .slice none 0 0]) (by simp [results, Try.results60, go_sem]) rfl (RunGives.bad HR.out ((HI.out.tw.trans U1.out).trans T9.out) B9.out)

      rw [if_neg hs] at hv
      have i8 : ¬ (t : Int) - (g : Int) < 8 := by omega
      have hcap : g + 8 ≤ c := by omega
      obtain ⟨A1, hr1, ha1⟩ := HB.out.range_ Try.underlying26 (fun _ => by kernel_rfl) (k := g) (m := g + 4) (by omega) (by omega) (g : Int) ((g : Int) + 4) rfl (by omega)
      obtain ⟨A2, hr2, ha2⟩ := HB.out.range_ Try.underlying26 (fun _ => by kernel_rfl) (k := g + 4) (m := g + 8) (by omega) (by omega) ((g : Int) + 4) ((g : Int) + 8) (by omega) (by omega)
      have e1 : (b.drop g).take (g + 4 - g) = cutB b g (g + 4) := rfl
      have e2 : (b.drop (g + 4)).take (g + 8 - (g + 4)) = cutB b (g + 4) (g + 8) := rfl
      rw [e1] at ha1
      rw [e2] at ha2
      rw [show g + 4 - g = 4 by omega] at hr1 ha1
      rw [show g + 8 - (g + 4) = 4 by omega] at hr2 ha2
      have hk4 : (cutB b (g + 4) (g + 8)).length = 4 := by unfold cutB; rw [List.length_take, List.length_drop]; have := HLE.out; omega
      have hn4 : (cutB b g (g + 4)).length = 4 := by unfold cutB; rw [List.length_take, List.length_drop]; have := HLE.out; omega
      have hq := numB_lt 4 _ hn4
      have HN1 := hide (fun (W : World) (hW : Tw w W gp none) => (by have := number_any (ha1 W (HBF.out W hW)) (by omega); rwa [numR_small (by omega)] at this : Calls Try.prog 62 #[.slice A1 4 (c - g)] W fun e w' => e = .returned (.int .i64 (numB (cutB b g (g + 4)) : Int)) ∧ W = w'))
      have HCV := hide (fun (W : World) (hW : At W 1 e8 A n c b) => conv_bytes (ha2 W hW) (by omega))
      have HIK := hide (fun (W : World) => isKindR_any ⟨(cutB b (g + 4) (g + 8)).toArray⟩ W (by simp [ByteArray.size, hk4, maxLen]))
      generalize numB (cutB b g (g + 4)) = q at *
      have HR1 := hide hr1
      have HR2 := hide hr2
      have HV := hide hv
      have w4 : IntKind.i64.wrap ((g : Int) + 4) = (g : Int) + 4 := by rw [IntKind.wrap_i64]; omega
      have w8 : IntKind.i64.wrap ((g : Int) + 8) = (g : Int) + 8 := by rw [IntKind.wrap_i64]; omega
      have HIK := hide (fun (W : World) => (show Calls Try.prog 87 #[.string ⟨(cutB b (g + 4) (g + 8)).toArray⟩] W (fun e w' => e = .returned (.bool (isKindB (cutB b (g + 4) (g + 8)))) ∧ W = w') from HIK.out W))
      have HHF := hide (fun (fo : Int) (l d s : Nat) => (show headF (cutB b (g + 4) (g + 8)) fo g l d s = if isKindB (cutB b (g + 4) (g + 8)) = true ∧ d - g ≤ s ∧ s ≤ l then some (cutB b (g + 4) (g + 8), fo, d, g + s) else none from rfl))
      have hcv := HCV.out w1 (HBX.out w1 U1.out)
      clear hv hr1 ha1 e1 e2 hk4 hn4
      go_wp2_with fail
      cases hkb : isKindB (cutB b (g + 4) (g + 8)) with
      | false =>
        have HR : Hid (parF b f t depth cnt = .err g 10) := hide (HNO.out (by rw [HV.out]; simp [HHF.out, hkb]))
        have HIK := hide (HIK.out w1)
        rw [hkb] at HIK
        clear hkb
        with_reducible refine HIK.out.mono ?_
        rintro e w' ⟨rfl, rfl⟩
        go_wp2_with fail
        with_reducible refine (HST.out _ _).mono ?_
        rintro e w9 ⟨rfl, b9, t9⟩
        have B9 := hide b9
        have T9 := hide t9
        clear b9 t9
        go_wp2_with fail
        refine bodyPost_ret (v := .tuple #[.slice none 0 0, .slice none 0 0]) (by simp [results, Try.results60, go_sem]) rfl (RunGives.bad HR.out ((HI.out.tw.trans U1.out).trans T9.out) B9.out)

      | true =>
      have HIK := hide (HIK.out w1)
      rw [hkb] at HIK
      have HHF := hide (fun (fo : Int) (l d s : Nat) => (show headF (cutB b (g + 4) (g + 8)) fo g l d s = if d - g ≤ s ∧ s ≤ l then some (cutB b (g + 4) (g + 8), fo, d, g + s) else none by rw [HHF.out, hkb]; simp))
      with_reducible refine HIK.out.mono ?_
      rintro e w' ⟨rfl, rfl⟩
      clear hkb HIK
      go_upto_region 10 with (fail)
      refine gen_wpC fun w2 hw2 => ?_
      have X2 : Hid (Blk w2 w1.heap.size 47 #[(.string ⟨(cutB b (g + 4) (g + 8)).toArray⟩), .int .i64 0, .slice none 0 0, .slice none 0 0]) := hide (by rw [hw2]; exact Blk.new _ _ _)
      have P2 := hide (by rw [hw2]; exact P1.out.alloc _ : Blk w2 gp 123 #[.slice A n c, .int .i64 ((cn + 1 : Nat) : Int), .int .i64 0, .int .i64 0])
      have U2 : Hid (Tw wr w2 gp none) := hide (by rw [hw2]; exact U1.out.trans (Tw.of_ext (Ext.alloc _ _) _ _))
      clear hw2 hcv p0
      generalize w1.heap.size = gx at *
      subst hsz1
      have HGX : Hid (wr.heap.size ≤ wr.heap.size) := hide (Nat.le_refl _)
      have hgg : gp ≠ wr.heap.size := by omega
      have HSTW := hide (fun (W : World) (f : Int) (a : Int) (hB : Blk W gp 123 #[.slice A n c, .int .i64 ((cn + 1 : Nat) : Int), .int .i64 0, .int .i64 0]) => stop_any (f := f) (at_ := a) hB)
      have p0 : w2.cell? ⟨gp, 0, none⟩ = some (.slice A n c) := P2.out.cell 0
      have hr1 := HR1.out
      clear HST P1 U1
      go_wp2_with fail
      with_reducible refine (HN1.out _ (HI.out.tw.trans U2.out)).mono ?_
      rintro e w' ⟨rfl, rfl⟩
      have x1 : w2.cell? ⟨wr.heap.size, 1, none⟩ = some (.int .i64 0) := X2.out.cell 1
      have y1 : w2.frozen? ⟨wr.heap.size, 1, none⟩ = false := X2.out.frozen 1
      clear hr1 HN1
      generalize cutB b (g + 4) (g + 8) = k at *
      have HTG8 : Hid (g + 8 ≤ t) := hide (by omega)
      have hgt := HTG8.out
      go_upto_if 80 with (fail)
      go_cut [13, 14] (fun s13 s14 wx => ∃ (fo : Int) (hd sr : Nat), s13 = .int .i64 (hd : Int) ∧ s14 = .int .i64 (sr : Int) ∧ Hid (Blk wx wr.heap.size 47 #[.string ⟨k.toArray⟩, .int .i64 fo, .slice none 0 0, .slice none 0 0]) ∧ Hid (Blk wx gp 123 #[.slice A n c, .int .i64 ((cn + 1 : Nat) : Int), .int .i64 0, .int .i64 0]) ∧ Hid (Tw wr wx gp none) ∧ Hid (headP b g t = if hd ≤ sr ∧ sr ≤ t - g then some (k, fo, g + hd, g + sr) else none) ∧ Hid ((hd = 8 ∨ hd = 16) ∧ g + hd ≤ t ∧ sr ≤ 4611686018427387904))
      case first =>
        by_cases hq1 : q = 1
        · have j3 : ((q : Int) == 1) = true := by simp [hq1]
          by_cases hs16 : t - g < 16
          · have HR : Hid (parF b f t depth cnt = .err g 10) := hide (HNO.out (by rw [HV.out, if_pos hq1, if_pos hs16]))
            have j4 : (t : Int) - (g : Int) < 16 := by omega
            clear hq1 hs16
            go_wp2_with fail
            with_reducible refine (HSTW.out _ _ _ (P2.out.far hgg _)).mono ?_
            rintro e w9 ⟨rfl, b9, t9⟩
            have B9 := hide b9
            have T9 := hide t9
            clear b9 t9
            go_wp2_with fail
            refine bodyPost_ret (v := .tuple #[.slice none 0 0, .slice none 0 0]) (by simp [results, Try.results60, go_sem]) rfl (RunGives.bad HR.out ((HI.out.tw.trans (U2.out.new (Tw.set_ _ _ _ _ _) HGX.out)).trans T9.out) B9.out)
          have j4 : ¬ (t : Int) - (g : Int) < 16 := by omega
          have HV : Hid (headP b g t = headF k 1 g (t - g) (g + 16) (numB (cutB b (g + 8) (g + 16)))) := hide (by rw [HV.out, if_pos hq1, if_neg hs16])
          obtain ⟨A3, hr3, ha3⟩ := HB.out.range_ Try.underlying26 (fun _ => by kernel_rfl) (k := g + 8) (m := g + 16) (by omega) (by omega) ((g : Int) + 8) ((g : Int) + 16) (by omega) (by omega)
          have e3 : (b.drop (g + 8)).take (g + 16 - (g + 8)) = cutB b (g + 8) (g + 16) := rfl
          rw [e3] at ha3
          rw [show g + 16 - (g + 8) = 8 by omega] at hr3 ha3
          have hl8 : (cutB b (g + 8) (g + 16)).length = 8 := by unfold cutB; rw [List.length_take, List.length_drop]; have := HLE.out; omega
          have HN2 := hide (fun (W : World) (hW : Tw w W gp none) => number_any (ha3 W (HBF.out W hW)) (by omega))
          have hcap1 := (numR_cap hl8 15 (by omega)).1
          have hcap2 := numR_cap hl8 (t - g) (by omega)
          have hcap3 := hcap2.2
          have hcap2 := hcap2.1
          have hcap4 : numR (cutB b (g + 8) (g + 16)) ≤ 4611686018427387904 := numR_le hl8
          generalize numR (cutB b (g + 8) (g + 16)) = sr at *
          generalize numB (cutB b (g + 8) (g + 16)) = sb at *
          have HFIN : Hid (headP b g t = if 16 ≤ sr ∧ sr ≤ t - g then some (k, 1, g + 16, g + sr) else none) := hide (by
            rw [HV.out, HHF.out, show g + 16 - g = 16 by omega]
            by_cases hc : 16 ≤ sr ∧ sr ≤ t - g
            · have : sb = sr := (hcap3 sr (by omega)).1 rfl
              rw [if_pos hc, this, if_pos hc]
            · rw [if_neg hc, if_neg (by omega)])
          have HB3 : Hid (g + 16 ≤ t) := hide (by omega)
          have HB4 := hide hcap4
          have w16 : IntKind.i64.wrap ((g : Int) + 16) = (g : Int) + 16 := by rw [IntKind.wrap_i64]; omega
          clear ha3 e3 hl8 hs16 hq1 hcap1 hcap2 hcap3 hcap4
          have p0 : w2.cell? ⟨gp, 0, none⟩ = some (.slice A n c) := P2.out.cell 0
          go_upto_region 15 with (fail)
          refine gen_wpC fun w3 h3 => ?_
          have X3 : Hid (Blk w3 wr.heap.size 47 #[.string ⟨k.toArray⟩, .int .i64 1, .slice none 0 0, .slice none 0 0]) := hide (by rw [h3]; exact X2.out.set_ 1 _)
          have P3 : Hid (Blk w3 gp 123 #[.slice A n c, .int .i64 ((cn + 1 : Nat) : Int), .int .i64 0, .int .i64 0]) := hide (by rw [h3]; exact P2.out.far hgg _)
          have U3 : Hid (Tw wr w3 gp none) := hide (by rw [h3]; exact U2.out.new (Tw.set_ _ _ _ _ _) HGX.out)
          clear h3 x1 y1 p0 X2 P2 U2
          have p0 : w3.cell? ⟨gp, 0, none⟩ = some (.slice A n c) := P3.out.cell 0
          go_wp2_with fail
          with_reducible refine (HN2.out _ (HI.out.tw.trans U3.out)).mono ?_
          rintro e w' ⟨rfl, rfl⟩
          clear hr3 HN2 p0
          go_wp2_with fail
          go_meet
          exact ⟨1, 16, sr, rfl, rfl, X3, P3, U3, HFIN, hide ⟨by omega, HB3.out, HB4.out⟩⟩
        · have j3 : ((q : Int) == 1) = false := by rw [beq_eq_false_iff_ne]; omega
          by_cases hq0 : q = 0
          · have j5 : ((q : Int) == 0) = true := by simp [hq0]
            have HFIN : Hid (headP b g t = if 8 ≤ t - g ∧ t - g ≤ t - g then some (k, 2, g + 8, g + (t - g)) else none) := hide (by rw [HV.out, if_neg hq1, if_pos hq0, HHF.out, show g + 8 - g = 8 by omega])
            have HB4 : Hid (t - g ≤ 4611686018427387904) := hide (by omega)
            have htg : (t : Int) - (g : Int) = ((t - g : Nat) : Int) := by omega
            have HT := hide htg
            have XS := hide (X2.out.set_ 1 (.int .i64 2))
            have PS := hide (P2.out.far (p := ⟨wr.heap.size, 1, none⟩) hgg (.int .i64 2))
            have US := hide (U2.out.new (Tw.set_ _ _ 1 (.int .i64 2) _) HGX.out)
            clear hq0 hq1 htg
            go_wp2_with fail
            go_meet
            exact ⟨2, 8, t - g, rfl, int_val HT.out, XS, PS, US, HFIN, hide ⟨by omega, HTG8.out, HB4.out⟩⟩
          · have j5 : ((q : Int) == 0) = false := by rw [beq_eq_false_iff_ne]; omega
            have HFIN : Hid (headP b g t = if 8 ≤ q ∧ q ≤ t - g then some (k, 0, g + 8, g + q) else none) := hide (by rw [HV.out, if_neg hq1, if_neg hq0, HHF.out, show g + 8 - g = 8 by omega])
            have HB4 : Hid (q ≤ 4611686018427387904) := hide (by omega)
            clear hq0 hq1
            go_wp2_with fail
            go_meet
            exact ⟨0, 8, q, rfl, rfl, X2, P2, U2, HFIN, hide ⟨by omega, HTG8.out, HB4.out⟩⟩
      case rest =>
        obtain ⟨fo, hd, sr, rfl, rfl, X3, P3, U3, HV3, HD⟩ := hcut
        have hd8 := HD.out.1
        have hdt := HD.out.2.1
        have hsr := HD.out.2.2
        clear HV HHF X2 P2 U2 x1 y1 HD hq HBF
        by_cases hok : hd ≤ sr ∧ sr ≤ t - g
        · have hh : headP b g t = some (k, fo, g + hd, g + sr) := by rw [HV3.out, if_pos hok]
          clear HV3 HNO
          obtain ⟨hd1, hd2, hd3, hd4⟩ := headP_some hh
          have HH := hide hh
          obtain ⟨d, hd_⟩ : ∃ d, d = g + hd := ⟨_, rfl⟩
          obtain ⟨x, hx_⟩ : ∃ x, x = g + sr := ⟨_, rfl⟩
          rw [← hd_] at hd1 hd2 HH
          rw [← hx_] at hd2 hd3 HH
          have hgx2 : g < x := by omega
          have hdi : (g : Int) + (hd : Int) = (d : Int) := by omega
          have hxi : (g : Int) + (sr : Int) = (x : Int) := by omega
          have wd : IntKind.i64.wrap ((g : Int) + (hd : Int)) = (d : Int) := by rw [IntKind.wrap_i64]; omega
          have wx_ : IntKind.i64.wrap ((g : Int) + (sr : Int)) = (x : Int) := by rw [IntKind.wrap_i64]; omega
          have s1 : ¬ (sr : Int) < (hd : Int) := by omega
          have s3 : hd ≤ sr := by omega
          have s4 : decide (sr < hd) = false := by simp; omega
          have s5 : decide ((sr : Int) < (hd : Int)) = false := by simp; omega
          have s6 : decide ((t : Int) - (g : Int) < (sr : Int)) = false := by simp; omega
          have s2 : ¬ (t : Int) - (g : Int) < (sr : Int) := by omega
          have x0 : wc.cell? ⟨wr.heap.size, 0, none⟩ = some (.string ⟨k.toArray⟩) := X3.out.cell 0
          clear hh hd_ hx_ hd4 hok
          have HDI := hide hdi
          have HXI := hide hxi
          have HGX2 := hide hgx2
          clear hdi hxi hgx2
          go_upto_region 18 with (fail)
          go_upto_region 20 with (fail)
          go_upto_region 21 with (fail)
          refine gen_wpC fun w4 h4 => ?_
          obtain ⟨gy, hgy⟩ : ∃ gy, gy = wc.heap.size := ⟨_, rfl⟩
          have Y4 : Hid (Blk w4 gy 87 #[.string ⟨k.toArray⟩, .int .i64 (g : Int), .int .i64 (d : Int), .int .i64 (x : Int), .slice none 0 0]) := hide (by rw [h4, hgy, ← HXI.out, ← HDI.out]; exact Blk.new _ _ _)
          have X4 : Hid (Blk w4 wr.heap.size 47 #[.string ⟨k.toArray⟩, .int .i64 fo, .slice none 0 0, .slice none 0 0]) := hide (by rw [h4]; exact X3.out.alloc _)
          have P4 := hide (by rw [h4]; exact P3.out.alloc _ : Blk w4 gp 123 #[.slice A n c, .int .i64 ((cn + 1 : Nat) : Int), .int .i64 0, .int .i64 0])
          have U4 : Hid (Tw wr w4 gp none) := hide (by rw [h4]; exact U3.out.trans (Tw.of_ext (Ext.alloc _ _) _ _))
          have HGY : Hid (wr.heap.size < gy) := hide (by rw [hgy]; exact X3.out.lt)
          rw [← hgy]
          have hgxy : wr.heap.size ≠ gy := by have := HGY.out; omega
          have hgpy : gp ≠ gy := by have := HGY.out; omega
          have HNS := hide (nests_any k w4)
          clear h4 hgy x0 X3 P3 U3
          have x0 : w4.cell? ⟨wr.heap.size, 0, none⟩ = some (.string ⟨k.toArray⟩) := X4.out.cell 0
          go_wp2_with fail
          with_reducible refine HNS.out.mono ?_
          rintro e w' ⟨rfl, rfl⟩
          clear s1 s2 s3 s4 s5 s6 wd wx_ x0 HNS
          go_upto_if 130 with (fail)
          go_cut [] (fun wx => ∃ (dA : Option Addr) (dn dc : Nat) (kA : Option Addr) (kn kc : Nat) (mA : Option Addr) (mn mc c1 : Nat) (kids : List NodeT), Hid (Blk wx wr.heap.size 47 #[.string ⟨k.toArray⟩, .int .i64 fo, .slice dA dn dc, .slice kA kn kc]) ∧ Hid (Blk wx gy 87 #[.string ⟨k.toArray⟩, .int .i64 (g : Int), .int .i64 (d : Int), .int .i64 (x : Int), .slice mA mn mc]) ∧ Hid (Blk wx gp 123 #[.slice A n c, .int .i64 (c1 : Int), .int .i64 0, .int .i64 0]) ∧ Hid (Tw wr wx gp none) ∧ Hid (gy < wx.heap.size) ∧ Hid (BxOk wx (fun q => wr.heap.size ≤ q ∧ q < wx.heap.size) ⟨k, fo, dA, dn, dc, kA, kn, kc⟩ (boxOf b (.mk k fo g d x kids))) ∧ Hid (PlOk wx (fun q => wr.heap.size ≤ q ∧ q < wx.heap.size) ⟨k, g, d, x, mA, mn, mc⟩ (.mk k fo g d x kids)) ∧ Hid (parF b f t depth cnt = ((parF b x t depth c1).pre [.mk k fo g d x kids]).pre l) ∧ Hid (c1 ≤ 2000))
          case first =>
            have y2 : w4.cell? ⟨gy, 2, none⟩ = some (.int .i64 (d : Int)) := Y4.out.cell 2
            have y3 : w4.cell? ⟨gy, 3, none⟩ = some (.int .i64 (x : Int)) := Y4.out.cell 3
            cases hkk : hasKidsB k with
            | true =>
              have hlg := HLG.out
              have hn3 := IH.out (x - d) (by omega) (gp := gp) (f := d) (t := x) (depth := depth + 1) (cnt := cn + 1) (w := w4) (Nat.le_refl _) P4.out (HBX.out _ U4.out) HAG.out hd2 (by omega) h3_ (by omega) (by omega)
              rw [show ((depth + 1 : Nat) : Int) = (depth : Int) + 1 by omega] at hn3
              have HNK := hide hn3
              have HPK := hide (parF_kids hlt HLG.out HH.out hkk)
              have HBOA := hide (fun (kids : List NodeT) => (show boxOf b (.mk k fo g d x kids) = .mk k fo [] (boxesOf b kids) by unfold boxOf; rw [hkk]; rfl))
              have HS4 : Hid (wr.heap.size < w4.heap.size ∧ gy < w4.heap.size) := hide ⟨X4.out.lt, Y4.out.lt⟩
              have wdp : IntKind.i64.wrap ((depth : Int) + 1) = (depth : Int) + 1 := by rw [IntKind.wrap_i64]; omega
              clear hn3 hlg hkk
              go_wp2_with fail
              with_reducible refine HNK.out.mono ?_
              intro e w5 hg2
              obtain ⟨v5, herr, hok2⟩ := hg2
              have X5 := hide (v5.blk X4.out (Ne.symm hgg) (by simp))
              have Y5 := hide (v5.blk Y4.out (Ne.symm hgpy) (by simp))
              have V5 := hide v5
              have xz : w5.frozen? ⟨wr.heap.size, 3, none⟩ = false := X5.out.frozen 3
              have yz : w5.frozen? ⟨gy, 4, none⟩ = false := Y5.out.frozen 4
              have xc : w5.cell? ⟨wr.heap.size, 3, none⟩ = some (.slice none 0 0) := X5.out.cell 3
              have yc : w5.cell? ⟨gy, 4, none⟩ = some (.slice none 0 0) := Y5.out.cell 4
              clear v5 y2 y3 HNK X4 Y4 P4
              cases hr2 : parF b d x (depth + 1) (cn + 1) with
              | err a2 f2 =>
                obtain ⟨⟨cn3, hp3⟩, rfl⟩ := herr a2 f2 hr2
                have HR : Hid (parF b f t depth cnt = .err a2 f2) := hide (by rw [HI.out.par, HPK.out, hr2]; rfl)
                have HP3 := hide hp3
                have q3 : w5.cell? ⟨gp, 3, none⟩ = some (.int .i64 f2) := hp3.cell 3
                have j6 := parF_err hr2
                clear herr hok2 hr2 hp3
                go_wp2_with fail
                refine bodyPost_ret (v := .tuple #[.slice none 0 0, .slice none 0 0]) (by simp [results, Try.results60, go_sem]) rfl (RunGives.bad HR.out (HI.out.tw.trans (((U4.out.trans V5.out).new (Tw.set_ _ _ _ _ _) HGX.out).new (Tw.set_ _ _ _ _ _) (Nat.le_of_lt HGY.out))) ((HP3.out.far hgg _).far hgpy _))
              | ok kids c1 =>
                obtain ⟨hp3, N, c2, M, c3, rfl, hbx, hpl⟩ := hok2 kids c1 hr2
                have hc1 := parF_count hr2 (by have := HLG.out; omega)
                have HC1 : Hid (c1 ≤ 2000) := hide hc1.1
                have HPR : Hid (parF b f t depth cnt = ((parF b x t depth c1).pre [.mk k fo g d x kids]).pre l) := hide (by rw [HI.out.par, HPK.out, hr2])
                have HBO := hide (HBOA.out kids)
                have HP3 := hide hp3
                have HBX2 := hide hbx
                have HPL2 := hide hpl
                have q3 : w5.cell? ⟨gp, 3, none⟩ = some (.int .i64 0) := hp3.cell 3
                clear herr hok2 hr2 hp3 hbx hpl hc1
                go_wp2_with fail
                have hsz5 : ∀ u1 u2 : Value, ((w5.setCell ⟨wr.heap.size, 3, none⟩ u1).setCell ⟨gy, 4, none⟩ u2).heap.size = w5.heap.size := fun _ _ => by simp
                have hsz4 := HS4.out
                have hsz45 := V5.out.size
                have hsame : ∀ (u1 u2 : Value) (q : Nat), (w4.heap.size ≤ q ∧ q < w5.heap.size) → ((w5.setCell ⟨wr.heap.size, 3, none⟩ u1).setCell ⟨gy, 4, none⟩ u2).heap[q]? = w5.heap[q]? := fun _ _ q hq => (Below.heap_setCell _ ⟨gy, 4, none⟩ _ q (by have := hq.1; simp; omega)).trans (Below.heap_setCell _ ⟨wr.heap.size, 3, none⟩ _ q (by have := hq.1; simp; omega))
                go_meet
                refine ⟨none, 0, 0, N, kids.length, c2, M, kids.length, c3, c1, kids, hide ?_, hide ?_, hide ?_, hide ?_, hide ?_, hide ?_, hide ?_, HPR, HC1⟩
                · exact (X5.out.set_ 3 _).far hgxy _
                · exact (Y5.out.far (Ne.symm hgxy) _).set_ 4 _
                · exact (HP3.out.far hgg _).far hgpy _
                · exact ((U4.out.trans V5.out).new (Tw.set_ _ _ _ _ _) HGX.out).new (Tw.set_ _ _ _ _ _) (Nat.le_of_lt HGY.out)
                · rw [hsz5]; omega
                · rw [HBO.out]; exact ⟨⟨rfl, rfl, At.nil _ _ _, (fun a ha => by cases ha)⟩, HBX2.out.good (hsame _ _) (fun q hq => ⟨by omega, by rw [hsz5]; omega⟩)⟩
                · exact ⟨⟨rfl, rfl, rfl, rfl⟩, HPL2.out.good (hsame _ _) (fun q hq => ⟨by omega, by rw [hsz5]; omega⟩)⟩
            | false =>
              have HPR : Hid (parF b f t depth cnt = ((parF b x t depth (cn + 1)).pre [.mk k fo g d x []]).pre l) := hide (by rw [HI.out.par, parF_leaf hlt HLG.out HH.out hkk])
              have HBO : Hid (boxOf b (.mk k fo g d x []) = .mk k fo (cutB b d x) []) := hide (by unfold boxOf; rw [hkk]; rfl)
              clear hkk HLG HH IH
              have p0 : w4.cell? ⟨gp, 0, none⟩ = some (.slice A n c) := P4.out.cell 0
              have x2 : w4.cell? ⟨wr.heap.size, 2, none⟩ = some (.slice none 0 0) := X4.out.cell 2
              obtain ⟨A3, hr3, ha3⟩ := HB.out.range_ Try.underlying26 (fun _ => by kernel_rfl) (k := d) (m := x) (by omega) (by omega) (d : Int) (x : Int) rfl rfl
              have e3 : (b.drop d).take (x - d) = cutB b d x := rfl
              rw [e3] at ha3
              have hcl : (cutB b d x).length = x - d := by unfold cutB; have := HB.out.len; rw [List.length_take, List.length_drop]; omega
              rw [← hcl] at hr3 ha3
              have HCL := hide hcl
              have hcl2 : (cutB b d x).length ≤ 1000000 := by omega
              clear e3 hcl
              go_wp2_with fail
              go_still_tail 11, (by kernel_rfl)
              change wpList _ _ _ _ _ w4.drew
              have U5 : Hid (Tw wr w4.drew gp none) := hide U4.out.drew
              have P5 := hide P4.out.drew
              have X5 := hide X4.out.drew
              have Y5 := hide Y4.out.drew
              have hszb : wr.heap.size < w4.drew.heap.size := X5.out.lt
              clear p0 x2 y2 y3 hr3 X4 Y4 P4 U4
              generalize w4.drew = w5 at *
              have HB3 := hide (ha3 w5 (HBX.out w5 U5.out))
              obtain ⟨i0, hi0, hz0, hz1, hz2⟩ := info_parts Try.info5
              have S1 : Hid (([] : List UInt8).length + (cutB b d x).length ≤ maxLen) := hide (by simp [maxLen]; omega)
              have S2 : Hid ((([] : List UInt8).length + (cutB b d x).length) * 1 ≤ 140737488355328) := hide (by simp; omega)
              go_wp2_with ((at_builtin; refine wpList_append_at _ rfl (.tmp 150) (.tmp 159) 26 rfl w5.heap.size 5 i0 _ 1 Try.underlying26 hi0 hz0 hz1 hz2 rfl (by omega) len_e8 one_e8 (.slice none 0 0) [] rfl (Own.nil _ _ _ _ _) A3 (cutB b d x).length (c - d) (cutB b d x) rfl HB3.out S1.out S2.out (Nat.le_refl _) ?_; intro v4 w6 o4 g4 _ _; rw [List.nil_append] at o4; obtain ⟨dA, dc, rfl, q4⟩ := o4.at_ len_e8; have O4 := hide o4; have Q4 := hide q4; have G4 := hide (grown_ext g4); have X6 := hide (X5.out.ext (grown_ext g4)); have n2 := X6.out.cell 2; have z2 := X6.out.frozen 2; clear o4 g4 q4))
              have V6 : Hid (∀ u, Tw w6 (w6.setCell ⟨wr.heap.size, 2, none⟩ u) wr.heap.size none) := hide (fun u => Tw.set_ _ _ _ _ _)
              have hlt4 := O4.out.lt
              have hsz4 := G4.out.size
              have hsz5 : ∀ u, (w6.setCell ⟨wr.heap.size, 2, none⟩ u).heap.size = w6.heap.size := fun u => by simp
              have hsy := Y5.out.lt
              have HDA : Hid (∀ a, dA = some a → w5.heap.size ≤ a.block ∧ a.block < w6.heap.size) := hide (fun a ha => by subst ha; exact hlt4 a.block rfl)
              go_meet
              refine ⟨dA, (cutB b d x).length, dc, none, 0, 0, none, 0, 0, cn + 1, [], hide ?_, hide ?_, hide ?_, hide ?_, hide ?_, hide ?_, hide ?_, HPR, HCN1⟩
              · exact X6.out.set_ 2 _
              · exact (V6.out _).blk (Y5.out.ext G4.out) (Ne.symm hgxy) (by simp)
              · exact (V6.out _).blk (P5.out.ext G4.out) hgg (by simp)
              · exact (U5.out.trans (Tw.of_ext G4.out gp none)).new (V6.out _) (Nat.le_refl _)
              · rw [hsz5]; omega
              · rw [HBO.out]
                exact ⟨⟨rfl, rfl, Q4.out.tw (V6.out _) (fun a ha => ⟨by have := (HDA.out a ha).1; omega, by simp⟩), fun a ha => by have := HDA.out a ha; exact ⟨by omega, by rw [hsz5]; omega⟩⟩, BxsAt.nil _ _⟩
              · exact ⟨⟨rfl, rfl, rfl, rfl⟩, PlsAt.nil _ _⟩
          case rest =>
            obtain ⟨dA, dn, dc, kA, kn, kc, mA, mn, mc, c1, kids, X5, Y5, P5, U5, HYS, OK1, OK2, HPR, HC1⟩ := hcut
            clear X4 Y4 P4 U4 HH HLG IH HBX HB HA
            have hsz4 := HGY.out
            have R5 := hide (HI.out.row.tw U5.out hg0)
            have T5 := hide (HI.out.tw.trans U5.out)
            obtain ⟨i0, hi0, hz0, hz1, hz2⟩ := info_parts Try.info47
            have hll : hs1.length ≤ 1000000 ∧ hs2.length ≤ 1000000 := by have := HI.out.row.len1; have := HI.out.row.len2; have := HI.out.few; omega
            have L1 : Hid (hs1.length + 1 ≤ maxLen) := hide (by unfold maxLen; omega)
            have L2 : Hid ((hs1.length + 1) * 72 ≤ 140737488355328) := hide (by omega)
            have M1 : Hid (hs2.length + 1 ≤ maxLen) := hide (by unfold maxLen; omega)
            have M2 : Hid ((hs2.length + 1) * 64 ≤ 140737488355328) := hide (by omega)
            have hsz6 : w.heap.size ≤ wc.heap.size := T5.out.size
            have L3 : Hid (w.heap.size ≤ (wc.alloc (.cells #[.string ⟨k.toArray⟩, .int .i64 fo, .slice dA dn dc, .slice kA kn kc] 47)).heap.size) := hide (by rw [World.size_alloc]; omega)
            have HOW := HI.out.row.own1.lt
            have HOV := HI.out.row.own2.lt
            have HNE : Hid (some gy ≠ u10.ownBlock) := hide (fun e => by have := (HOW _ e.symm).2; omega)
            have HNP : Hid (some gp ≠ u10.ownBlock) := hide (fun e => by have := (HOW _ e.symm).1; omega)
            have HNQ : Hid (some gp ≠ u11.ownBlock) := hide (fun e => by have := (HOV _ e.symm).1; omega)
            have HRW : Hid (∀ q, u10.ownBlock = some q → w.heap.size ≤ q ∨ q = gp) := hide (fun q hq => .inl (HOW q hq).1)
            have HRV : Hid (∀ q, u11.ownBlock = some q → w.heap.size ≤ q ∨ q = gp) := hide (fun q hq => .inl (HOV q hq).1)
            have HG5 : Hid (∀ q, (wr.heap.size ≤ q ∧ q < wc.heap.size) → w.heap.size ≤ q ∧ q < wc.heap.size ∧ u10.ownBlock ≠ some q ∧ u11.ownBlock ≠ some q) := hide (fun q hq => ⟨by omega, hq.2, (fun e => by have := (HOW q e).2; omega), fun e => by have := (HOV q e).2; omega⟩)
            clear HOW HOV hll hsz4 hsz6
            have HEL : Hid (At (wc.alloc (.cells #[.string ⟨k.toArray⟩, .int .i64 fo, .slice dA dn dc, .slice kA kn kc] 47)) 4 eBx (some ⟨wc.heap.size, 0, none⟩) 1 1 [(⟨k, fo, dA, dn, dc, kA, kn, kc⟩ : BoxH)]) := hide (At.newE (enc := eBx) wc ⟨k, fo, dA, dn, dc, kA, kn, kc⟩ _ _ rfl)
            have m0 : wc.cell? ⟨wr.heap.size, 0, none⟩ = some (.string ⟨k.toArray⟩) := X5.out.cell 0
            have m1 : wc.cell? ⟨wr.heap.size, 1, none⟩ = some (.int .i64 fo) := X5.out.cell 1
            have m2 : wc.cell? ⟨wr.heap.size, 2, none⟩ = some (.slice dA dn dc) := X5.out.cell 2
            have m3 : wc.cell? ⟨wr.heap.size, 3, none⟩ = some (.slice kA kn kc) := X5.out.cell 3
            go_upto_region 27 with ((at_builtin; refine wpList_append_at _ rfl (.tmp 162) (.tmp 164) 45 rfl w.heap.size 47 i0 _ 72 Try.underlying45 hi0 hz0 hz1 hz2 rfl (by omega) len_eBx one_eBx u10 hs1 (by rfl) (R5.out.own1.ext (Ext.alloc _ _)) (some ⟨wc.heap.size, 0, none⟩) 1 1 [⟨k, fo, dA, dn, dc, kA, kn, kc⟩] (by rfl) HEL.out L1.out L2.out L3.out ?_; intro v7 w7 o7 g7 _ r7; have O7 := hide o7; have G7 := hide g7; have R7 := hide r7; clear o7 g7 r7))
            clear hi0 hz0 hz1 hz2 m0 m1 m2 m3
            obtain ⟨i2, hi2, hy0, hy1, hy2⟩ := info_parts Try.info87
            have n0 : w7.cell? ⟨gy, 0, none⟩ = some (.string ⟨k.toArray⟩) := ((Y5.out.alloc _).grown G7.out HNE.out).cell 0
            have n1 : w7.cell? ⟨gy, 1, none⟩ = some (.int .i64 (g : Int)) := ((Y5.out.alloc _).grown G7.out HNE.out).cell 1
            have n2 : w7.cell? ⟨gy, 2, none⟩ = some (.int .i64 (d : Int)) := ((Y5.out.alloc _).grown G7.out HNE.out).cell 2
            have n3 : w7.cell? ⟨gy, 3, none⟩ = some (.int .i64 (x : Int)) := ((Y5.out.alloc _).grown G7.out HNE.out).cell 3
            have n4 : w7.cell? ⟨gy, 4, none⟩ = some (.slice mA mn mc) := ((Y5.out.alloc _).grown G7.out HNE.out).cell 4
            have HEM : Hid (At (w7.alloc (.cells #[.string ⟨k.toArray⟩, .int .i64 (g : Int), .int .i64 (d : Int), .int .i64 (x : Int), .slice mA mn mc] 87)) 5 ePl (some ⟨w7.heap.size, 0, none⟩) 1 1 [(⟨k, g, d, x, mA, mn, mc⟩ : PlH)]) := hide (At.newE (enc := ePl) w7 ⟨k, g, d, x, mA, mn, mc⟩ _ _ rfl)
            have HOB := hide (R5.out.own2at (Ext.alloc _ _) G7.out)
            have M3 : Hid (w.heap.size ≤ (w7.alloc (.cells #[.string ⟨k.toArray⟩, .int .i64 (g : Int), .int .i64 (d : Int), .int .i64 (x : Int), .slice mA mn mc] 87)).heap.size) := hide (by have := G7.out.size; have := T5.out.size; rw [World.size_alloc] at *; omega)
            go_wp2_with ((at_builtin; refine wpList_append_at _ rfl (.tmp 166) (.tmp 168) 80 rfl w.heap.size 87 i2 _ 64 Try.underlying80 hi2 hy0 hy1 hy2 rfl (by omega) len_ePl one_ePl u11 hs2 (by rfl) (HOB.out.ext (Ext.alloc _ _)) (some ⟨w7.heap.size, 0, none⟩) 1 1 [⟨k, g, d, x, mA, mn, mc⟩] (by rfl) HEM.out M1.out M2.out M3.out ?_; intro v8 w8 o8 g8 _ r8; have O8 := hide o8; have G8 := hide g8; have R8 := hide r8; clear o8 g8 r8))
            have hc1 := HC1.out
            have hgx2 := HGX2.out
            have hx1 : (t : Int) - (x : Int) < (t : Int) - (g : Int) := by omega
            exact ⟨⟨x, c1, hs1 ++ [⟨k, fo, dA, dn, dc, kA, kn, kc⟩], hs2 ++ [⟨k, g, d, x, mA, mn, mc⟩], l ++ [(.mk k fo g d x kids)], by first | rfl | rw [HXI.out], hide ⟨by omega, by omega, by omega, by rw [HPR.out, pre_pre], by have := HI.out.few; simp; omega, (((P5.out.alloc _).grown G7.out HNP.out).alloc _).grown G8.out HNQ.out, R5.out.snoc OK1.out OK2.out HG5.out (Ext.alloc _ _) O7.out G7.out R7.out (Ext.alloc _ _) O8.out G8.out R8.out, ((((T5.out.trans (Tw.of_ext (Ext.alloc _ _) gp none)).row G7.out HRW.out)).trans (Tw.of_ext (Ext.alloc _ _) gp none)).row G8.out HRV.out⟩⟩, by have hxi := HXI.out; simp [intOf]; omega⟩
        have HR : Hid (parF b f t depth cnt = .err g 10) := hide (HNO.out (by rw [HV3.out, if_neg hok]))
        clear HV3 HNO HLG IH
        by_cases hsd : sr < hd
        · have s1 : (sr : Int) < (hd : Int) := by omega
          have s4 : decide (sr < hd) = true := by simp; omega
          have s5 : decide ((sr : Int) < (hd : Int)) = true := by simp; omega
          clear hok hsd
          go_wp2_with fail
          with_reducible refine (HSTW.out _ _ _ P3.out).mono ?_
          rintro e w9 ⟨rfl, b9, t9⟩
          have B9 := hide b9
          have T9 := hide t9
          clear b9 t9
          go_wp2_with fail
          refine bodyPost_ret (v := .tuple #[.slice none 0 0, .slice none 0 0]) (by simp [results, Try.results60, go_sem]) rfl (RunGives.bad HR.out ((HI.out.tw.trans U3.out).trans T9.out) B9.out)
        · have s1 : ¬ (sr : Int) < (hd : Int) := by omega
          have s3 : hd ≤ sr := by omega
          have s4 : decide (sr < hd) = false := by simp; omega
          have s5 : decide ((sr : Int) < (hd : Int)) = false := by simp; omega
          have s6 : decide ((t : Int) - (g : Int) < (sr : Int)) = true := by simp; omega
          have s2 : (t : Int) - (g : Int) < (sr : Int) := by omega
          clear hok hsd
          go_wp2_with fail
          with_reducible refine (HSTW.out _ _ _ P3.out).mono ?_
          rintro e w9 ⟨rfl, b9, t9⟩
          have B9 := hide b9
          have T9 := hide t9
          clear b9 t9
          go_wp2_with fail
          refine bodyPost_ret (v := .tuple #[.slice none 0 0, .slice none 0 0]) (by simp [results, Try.results60, go_sem]) rfl (RunGives.bad HR.out ((HI.out.tw.trans U3.out).trans T9.out) B9.out)
    · obtain rfl : t = g := by omega
      obtain ⟨N, c2, hv10, _⟩ := HI.out.row.own1.at_ len_eBx
      obtain ⟨M, c3, hv11, _⟩ := HI.out.row.own2.at_ len_ePl
      subst hv10 hv11
      have i1 : ¬ (t : Int) < (t : Int) := by omega
      go_wp2_with fail
      refine bodyPost_ret (v := .tuple #[.slice N hs1.length c2, .slice M hs2.length c3]) (by simp [results, Try.results60, go_sem]) rfl HI.out.fin
theorem run_any (m : Nat) : RunStmt m := by
  induction m using Nat.strongRecOn with
  | _ m ih => exact run_step m ih
end Go.Proofs.Ytlonhkjplijlcaa
namespace Go.Proofs.Ytlonhkjplijlcaa
open Go.RowKit
/-- What the reference's parse gives. -/
def RfpGives (w : World) (b : List UInt8) (r : ParR) (e : Ending) (w' : World) : Prop :=
  Ext w w' ∧ (∀ a f, r = .err a f → e = .returned (.tuple #[.slice none 0 0, .slice none 0 0, .int .i64 (a : Int), .int .i64 f])) ∧
  (∀ l cc, r = .ok l cc → ∃ N c2 M c3, e = .returned (.tuple #[.slice N l.length c2, .slice M l.length c3, .int .i64 0, .int .i64 0]) ∧ BxsAt w' (fun k => w.heap.size ≤ k ∧ k < w'.heap.size) N l.length c2 (boxesOf b l) ∧
    PlsAt w' (fun k => w.heap.size ≤ k ∧ k < w'.heap.size) M l.length c3 l)
set_option maxRecDepth 100000 in
set_option maxHeartbeats 2000000 in
theorem refparse_any {A : Option Addr} {n c : Nat} {b : List UInt8} {w : World} (h : At w 1 e8 A n c b) :
    Calls Try.prog 32 #[.slice A n c] w (RfpGives w b (parseF b)) := by
  have hl := h.len
  have hbd := h.bound
  have hA := fun hn0 => h.blk_lt len_e8 (by omega) hn0
  by_cases hn : 1000000 < n
  · have HV : Hid (parseF b = .err 0 2) := hide (by unfold parseF; rw [if_pos (by omega)])
    clear hl h hA
    go_enter Try.func32, Try.ntmps32
    go_wp2_with fail
    refine bodyPost_ret (v := .tuple #[.slice none 0 0, .slice none 0 0, .int .i64 0, .int .i64 2]) (by simp [results, Try.results32, go_sem]) rfl ⟨Ext.refl _, fun a f e => by rw [HV.out] at e; cases e; rfl, fun l cc e => by rw [HV.out] at e; cases e⟩
  have HV : Hid (parseF b = parF b 0 n 0 0) := hide (by unfold parseF; rw [if_neg (by omega), hl])
  have hk := Blk.new w 123 #[.slice A n c, .int .i64 0, .int .i64 0, .int .i64 0]
  have HN := run_any n (gp := w.heap.size) (f := 0) (t := n) (depth := 0) (cnt := 0) (A := A) (n := n) (c := c) (b := b) (w := w.alloc (.cells #[.slice A n c, .int .i64 0, .int .i64 0, .int .i64 0] 123)) (by omega) hk (h.ext (Ext.alloc _ _)) (fun hn0 a ha => by have := hA hn0 a ha; omega) (by omega) (by omega) (by omega) (by omega) (by omega)
  rw [show ((0 : Nat) : Int) = 0 from rfl] at HN
  have HNK := hide HN
  clear HN hk hl h
  go_enter Try.func32, Try.ntmps32
  go_wp2_with fail
  with_reducible refine HNK.out.mono ?_
  intro e w1 hg
  obtain ⟨t1, herr, hok⟩ := hg
  have E1 : Ext w w1 := ⟨t1.os, t1.tape, t1.output, by have := t1.size; rw [World.size_alloc] at this; omega, fun k hk => (t1.block k (by rw [World.size_alloc]; omega) (by omega) (by simp)).trans ((Ext.alloc w (.cells #[.slice A n c, .int .i64 0, .int .i64 0, .int .i64 0] 123)).block k hk)⟩
  have hs1 : w.heap.size + 1 ≤ w1.heap.size := by have := t1.size; rw [World.size_alloc] at this; omega
  rw [← HV.out] at herr hok
  cases hq : parseF b with
  | err a f =>
    obtain ⟨⟨cnt2, hb1⟩, he⟩ := herr a f hq
    subst he
    have HE := hide E1
    have HQ := hide hq
    have hf : (f != 0) = true := by
      unfold parseF at hq
      split at hq
      · cases hq; rfl
      · exact parF_err hq
    have c3 : w1.cell? ⟨w.heap.size, 3, none⟩ = some (.int .i64 f) := hb1.cell 3
    have c2 : w1.cell? ⟨w.heap.size, 2, none⟩ = some (.int .i64 (a : Int)) := hb1.cell 2
    clear herr hok hq E1 t1 hb1
    go_wp2_with fail
    go_quiet (fail)
    go_wp2_with fail
    refine bodyPost_ret (v := .tuple #[.slice none 0 0, .slice none 0 0, .int .i64 (a : Int), .int .i64 f]) (by simp [results, Try.results32, go_sem]) rfl ⟨Ext.trans HE.out (Ext.drewN _ _), (fun a' f' e => by rw [HQ.out] at e; cases e; rfl), fun l cc e => by rw [HQ.out] at e; cases e⟩
  | ok l cc =>
    obtain ⟨hb1, N, c2, M, c3, he, hbx, hpl⟩ := hok l cc hq
    subst he
    have HE := hide E1
    have HQ := hide hq
    have hsub : ∀ k, ((w.alloc (.cells #[.slice A n c, .int .i64 0, .int .i64 0, .int .i64 0] 123)).heap.size ≤ k ∧ k < w1.heap.size) → (w.heap.size ≤ k ∧ k < w1.heap.size) := fun k hk => ⟨by have := hk.1; rw [World.size_alloc] at this; omega, hk.2⟩
    have HBX := hide (hbx.good (H := fun k => w.heap.size ≤ k ∧ k < w1.heap.size) (fun _ _ => rfl) hsub)
    have HPL := hide (hpl.good (H := fun k => w.heap.size ≤ k ∧ k < w1.heap.size) (fun _ _ => rfl) hsub)
    have c3_ : w1.cell? ⟨w.heap.size, 3, none⟩ = some (.int .i64 0) := hb1.cell 3
    clear herr hok hq E1 t1 hbx hpl hsub hb1
    go_wp2_with fail
    refine bodyPost_ret (v := .tuple #[.slice N l.length c2, .slice M l.length c3, .int .i64 0, .int .i64 0]) (by simp [results, Try.results32, go_sem]) rfl ⟨HE.out, (fun a' f' e => by rw [HQ.out] at e; cases e), fun l cc e => by rw [HQ.out] at e; cases e; exact ⟨N, c2, M, c3, rfl, HBX.out, HPL.out⟩⟩
end Go.Proofs.Ytlonhkjplijlcaa
