/- Several texts in one: Walk: expanded (reference). Conditions as stated; Walk: placed (program). Conditions as stated. -/
import Derived.Test.YtlonhkjplijlcaaMrg08
import Derived.Test.YtlonhkjplijlcaaMrg19
import Derived.Test.YtlonhkjplijlcaaMrg22
import Derived.Test.YtlonhkjplijlcaaMrg25
import Derived.Test.YtlonhkjplijlcaaMrg02
import Derived.Test.YtlonhkjplijlcaaMrg17
namespace Go.Proofs.Ytlonhkjplijlcaa
open Go.RowKit
theorem valsR_le (l : List (Int × Int)) (k : Nat) : (valsR (l.take k)).length ≤ (valsR l).length := by rw [valsR_split l k]; simp
def exF (t : Tab) (i : Nat) : Smp := exM t (exN t) (exN t) t.keys.length i
theorem exF_at {t : Tab} {i : Nat} (h : i < exN t) : exF t i = ⟨exT t i, exSt t i, exSh t i, exSz t i, exKy t t.keys.length i⟩ := by
  unfold exF exM; rw [if_pos h, if_pos h]
set_option linter.unusedVariables false in
set_option linter.unusedSimpArgs false in
set_option maxRecDepth 100000 in
set_option maxHeartbeats 8000000 in
theorem refExpanded_any {sA : Option Addr} {sn sc : Nat} {hA : Option Addr} {hn hc : Nat} {zA : Option Addr} {zn zc : Nat} {kA : Option Addr} {kn kc : Nat} {cA : Option Addr} {cn cc : Nat} {pA : Option Addr} {pn pc : Nat} {t : Tab} {w : World}
    (h : TabAt w sA sn sc hA hn hc zA zn zc kA kn kc cA cn cc pA pn pc t) (hR : TabR1 t) :
    Calls Try.prog 64 #[.agg #[.int .i64 t.start, .slice sA sn sc, .slice hA hn hc, .slice zA zn zc, .slice kA kn kc, .slice cA cn cc, .slice pA pn pc]] w fun e w' => ∃ v, e = .returned v ∧ Own w' w.heap.size 55 5 eSm v (exS t) ∧ Ext w w' := by
  have hf := tab_few hR
  have hex := exN_eq hR
  have hfew := hR.few
  have hsl := h.steps.len
  have hhl := h.shifts.len
  have hzl := h.sizes.len
  have hkl := h.keys.len
  have hsh := exSh_len hR
  have hst := hR.start
  have hse : (valsR t.steps).length = exN t := rfl
  have HV1 := hide (fun (W : World) (hW : Ext w W) => refValues_any (h.steps.ext hW) (by omega) (fun k hk => by have := runs_ok hR.steps k (by omega); omega) (fun k _ => by have := valsR_le t.steps k; omega))
  have HV2 := hide (fun (W : World) (hW : Ext w W) => refValues_any (h.shifts.ext hW) (by omega) (fun k hk => by have := runs_ok hR.shifts k (by omega); omega) (fun k _ => by have := valsR_le t.shifts k; omega))
  have HKA := hide h.keys
  have HZA := hide h.sizes
  have HKB := hide (fun h0 => h.keys.blk_lt len_e64 (by omega) h0)
  have HZB := hide (fun h0 => h.sizes.blk_lt len_e64 (by omega) h0)
  have HNB : kA.isNone = t.nok := by
    have h1 := h.nok
    rw [Bool.eq_iff_iff, Option.isNone_iff_eq_none, h1]
  have HTB := hide (exT_bd hR.steps)
  have HSB := hide (fun i => valsR_bd hR.steps (Int.le_refl _) i)
  have HZS := hide (fun (i : Nat) (hi : i < exN t) => sz_many hR hi)
  have HZ1 := hide (fun (h1 : zn = 1) (i : Nat) => exSz_one (t := t) (by omega) i)
  have HZE := hide (fun (i : Nat) (h1 : i < zn) => exSz_each (t := t) (i := i) (by omega))
  have hstb : -1000000000000000 ≤ t.start ∧ t.start ≤ 1000000000000000 := by
    unfold noT at hst; simp only [decide_eq_false_iff_not] at hst; omega
  have HKS := hide (fun (q i : Nat) (h1 : q < kn) => exKy_succ (t := t) (k := q) (i := i) (by omega))
  have HK0 : Hid (∀ i, exKy t 0 i = t.nok) := hide (fun i => by unfold exKy; simp)
  have HFA := hide (fun (i : Nat) (hi : i < exN t) => exF_at hi)
  have HKL := hide hkl
  have HFS : Hid (exS t = mapR (exN t) (exF t)) := hide rfl
  have HSE := hide hse
  have HSH := hide hsh
  obtain ⟨N, hN⟩ : ∃ N, exN t = N := ⟨_, rfl⟩
  rw [hN] at HZS HFA HFS HSE HSH
  have hNb : N ≤ 5000 := by omega
  have hknb : kn ≤ 5000 := by omega
  have HNN := hide hN
  clear hN hex
  have e1 := fun (W : World) => Lib.run_eql_slice_nil (P := Try.prog) W 70 3 kA kn kc 0 0 Try.underlying70
  rw [HNB] at e1
  have E0 := hide (Ext.alloc w (.cells #[.int .i64 t.start, .slice sA sn sc, .slice hA hn hc, .slice zA zn zc, .slice kA kn kc, .slice cA cn cc, .slice pA pn pc] 73))
  have X0 := hide (Blk.new w 73 #[.int .i64 t.start, .slice sA sn sc, .slice hA hn hc, .slice zA zn zc, .slice kA kn kc, .slice cA cn cc, .slice pA pn pc])
  obtain ⟨i0_, hi0, hz0, hz1, hz2⟩ := info_parts Try.info55
  clear h hR hf hfew hsl hhl hzl hsh hst hse HNB hkl
  go_enter Try.func64, Try.ntmps64
  go_upto_region 2 with (fail)
  refine gen_wpC fun w0 h0 => ?_
  have F0 : Hid (Ext w w0) := hide (by rw [h0]; exact E0.out)
  have Y0 := hide (show Blk w0 w.heap.size 73 #[.int .i64 t.start, .slice sA sn sc, .slice hA hn hc, .slice zA zn zc, .slice kA kn kc, .slice cA cn cc, .slice pA pn pc] from by rw [h0]; exact X0.out)
  clear h0 E0 X0
  have y1 : w0.cell? ⟨w.heap.size, 1, none⟩ = some (.slice sA sn sc) := Y0.out.cell 1
  have y2 : w0.cell? ⟨w.heap.size, 2, none⟩ = some (.slice hA hn hc) := Y0.out.cell 2
  refine wp_region_held_drew (S := fun W => W.cell? ⟨w.heap.size, 1, none⟩ = some (.slice sA sn sc) ∧ W.cell? ⟨w.heap.size, 2, none⟩ = some (.slice hA hn hc)) (by kernel_rfl) ⟨(Ext.drew _).cell y1, (Ext.drew _).cell y2⟩ (fun hS => ?_)
  refine held_take (i := 0) (d := 10) (oi := _) (v := ?_) rfl rfl (by kernel_rfl) (by kernel_rfl) (by kernel_rfl) (fun _ _ _ h => h) (Or.inl ⟨by rfl, ?_⟩) hS ?_
  rotate_left
  · intro W hW; obtain ⟨s1, s2⟩ := hW; first | (go_simp; done) | (go_simp; with_reducible rfl)
  try simp only [Act.put, List.setIfInBounds_toArray, List.set_cons_zero, List.set_cons_succ]
  refine held_take (i := 1) (d := 11) (oi := _) (v := ?_) rfl rfl (by kernel_rfl) (by kernel_rfl) (by kernel_rfl) (fun _ _ _ h => h) (Or.inl ⟨by rfl, ?_⟩) hS ?_
  rotate_left
  · intro W hW; obtain ⟨s1, s2⟩ := hW; first | (go_simp; done) | (go_simp; with_reducible rfl)
  try simp only [Act.put, List.setIfInBounds_toArray, List.set_cons_zero, List.set_cons_succ]
  refine held_take (i := 3) (d := 13) (oi := _) (v := ?_) rfl rfl (by kernel_rfl) (by kernel_rfl) (by kernel_rfl) (fun _ _ _ h => h) (Or.inl ⟨by rfl, ?_⟩) hS ?_
  rotate_left
  · intro W hW; obtain ⟨s1, s2⟩ := hW; first | (go_simp; done) | (go_simp; with_reducible rfl)
  try simp only [Act.put, List.setIfInBounds_toArray, List.set_cons_zero, List.set_cons_succ]
  refine held_take (i := 4) (d := 14) (oi := _) (v := ?_) rfl rfl (by kernel_rfl) (by kernel_rfl) (by kernel_rfl) (fun _ _ _ h => h) (Or.inl ⟨by rfl, ?_⟩) hS ?_
  rotate_left
  · intro W hW; obtain ⟨s1, s2⟩ := hW; first | (go_simp; done) | (go_simp; with_reducible rfl)
  try simp only [Act.put, List.setIfInBounds_toArray, List.set_cons_zero, List.set_cons_succ]
  refine wpAnyH_ready (rs := [2]) (by kernel_rfl) (by simp) (AllReadyH.cons rfl (fun K hK => ?_) AllReadyH.nil)
  go_simp
  go_at_call 94
  with_reducible refine (HV1.out _ (Ext.trans F0.out (Ext.drew _))).mono ?_
  rintro e w1 ⟨v1, rfl, o1, e1⟩
  have O1 := hide o1
  have E1 := hide (Ext.trans (Ext.drew w0) e1)
  refine hK.out _ _ ⟨e1.cell hS.1, e1.cell hS.2⟩ (fun hS => ?_)
  clear o1 e1
  clear hK K
  try simp only [Act.put, List.setIfInBounds_toArray, List.set_cons_zero, List.set_cons_succ]
  refine wpAnyH_ready (rs := [5]) (by kernel_rfl) (by simp) (AllReadyH.cons rfl (fun K hK => ?_) AllReadyH.nil)
  go_simp
  go_at_call 94
  with_reducible refine (HV2.out _ (Ext.trans F0.out E1.out)).mono ?_
  rintro e w2 ⟨v2, rfl, o2, e2⟩
  have O2 := hide o2
  have E2 := hide (Ext.trans E1.out e2)
  have O1b := hide (O1.out.ext e2)
  refine hK.out _ _ ⟨e2.cell hS.1, e2.cell hS.2⟩ (fun hS => ?_)
  clear o2 e2 O1 E1
  clear hK K
  try simp only [Act.put, List.setIfInBounds_toArray, List.set_cons_zero, List.set_cons_succ]
  refine held_take (i := 6) (d := 4) (oi := _) (v := ?_) rfl rfl (by kernel_rfl) (by kernel_rfl) (by kernel_rfl) (fun _ _ _ h => h) (Or.inl ⟨by rfl, ?_⟩) hS ?_
  rotate_left
  · intro W hW; obtain ⟨s1, s2⟩ := hW; first | (go_simp; done) | (go_simp; with_reducible rfl)
  try simp only [Act.put, List.setIfInBounds_toArray, List.set_cons_zero, List.set_cons_succ]
  refine held_take (i := 7) (d := 5) (oi := _) (v := ?_) rfl rfl (by kernel_rfl) (by kernel_rfl) (by kernel_rfl) (fun _ _ _ h => h) (Or.inl ⟨by rfl, ?_⟩) hS ?_
  rotate_left
  · intro W hW; obtain ⟨s1, s2⟩ := hW; first | (go_simp; done) | (go_simp; with_reducible rfl)
  try simp only [Act.put, List.setIfInBounds_toArray, List.set_cons_zero, List.set_cons_succ]
  refine wpAnyH_done (by kernel_rfl) ?_ _
  obtain ⟨S1, s1c, hv1, _⟩ := O1b.out.at_ len_e64
  rw [HSE.out] at hv1
  subst hv1
  obtain ⟨S2, s2c, hv2, _⟩ := O2.out.at_ len_e64
  rw [HSH.out] at hv2
  subst hv2
  have A1 := hide (O1b.out.atS len_e64)
  have A2 := hide (O2.out.atS len_e64)
  have Y2 := hide (Y0.out.ext E2.out)
  have F2 := hide (Ext.trans F0.out E2.out)
  have g0 : w2.cell? ⟨w.heap.size, 0, none⟩ = some (.int .i64 t.start) := Y2.out.cell 0
  have g3 : w2.cell? ⟨w.heap.size, 3, none⟩ = some (.slice zA zn zc) := Y2.out.cell 3
  have g4 : w2.cell? ⟨w.heap.size, 4, none⟩ = some (.slice kA kn kc) := Y2.out.cell 4
  clear y1 y2 hS O1b O2 HV1 HV2 E2 Y0 F0
  go_wp2_with fail
  go_loopw [3, 6, 7] (fun r3 r6 ri wr => ∃ i : Nat, i ≤ N ∧ ri = .int .i64 i ∧ r6 = .int .i64 (exT t i) ∧ Hid (Own wr w2.heap.size 55 5 eSm r3 (mapR i (exF t))) ∧ Hid (Ext w2 wr)) (fun _ _ ri _ => N - (intOf ri).toNat)
  case atStart => exact ⟨0, by omega, rfl, rfl, hide (Own.nil _ _ _ _ _), hide (Ext.refl _)⟩
  case round =>
    obtain ⟨i, hi, rfl, rfl, HO, HX⟩ := hrel
    obtain ⟨wo, hwo⟩ : ∃ wo, wo = wr := ⟨_, rfl⟩
    subst hwo
    by_cases hlt : i < N
    · obtain ⟨b1, o1, rfl, _⟩ := A1.out.addr (by omega)
      obtain ⟨b2, o2, rfl, _⟩ := A2.out.addr (by omega)
      have a1 := (A1.out.ext HX.out).num hlt
      have a2 := (A2.out.ext HX.out).num hlt
      have hS1 : (valsR t.steps).getD i 0 = exSt t i := rfl
      have hS2 : (valsR t.shifts).getD i 0 = exSh t i := rfl
      rw [hS1] at a1
      rw [hS2] at a2
      have tb := HTB.out i
      have sb := HSB.out i
      rw [hS1] at sb
      have HTS : Hid (exT t (i + 1) = exT t i + exSt t i) := hide rfl
      have HFI := hide (HFA.out i hlt)
      have HMS : Hid (mapR (i + 1) (exF t) = mapR i (exF t) ++ [exF t i]) := hide (mapR_succ _ _)
      have hml : (mapR i (exF t)).length ≤ 5000 := by rw [mapR_len]; omega
      have Q1 : Hid ((mapR i (exF t)).length + 1 ≤ maxLen) := hide (by unfold maxLen; omega)
      have Q2 : Hid (((mapR i (exF t)).length + 1) * 40 ≤ 140737488355328) := hide (by omega)
      have ZC : Hid (zn = 1 ∧ (∃ z : Int, exSz t i = z ∧ t.sizes.getD 0 0 = z) ∨ zn ≠ 1 ∧ i < zn ∧ (∃ z : Int, exSz t i = z ∧ t.sizes.getD i 0 = z)) := hide (by
        by_cases h1 : zn = 1
        · exact .inl ⟨h1, _, rfl, (HZ1.out h1 i).symm⟩
        · have h2 := HZS.out i hlt
          have h3 : zn = t.sizes.length := HZA.out.len.symm
          have h4 : i < zn := by omega
          exact .inr ⟨h1, h4, _, rfl, (HZE.out i h4).symm⟩)
      have K0 := hide (HK0.out i)
      clear hS1 hS2 hml
      generalize exT t i = x0 at *
      have hx1 : (valsR t.steps).getD i 0 = exSt t i := rfl
      have HX1 := hide hx1
      clear hx1
      generalize exSt t i = x1 at *
      generalize exSh t i = x2 at *
      generalize mapR i (exF t) = L0 at *
      generalize t.nok = nk at *
      have u3 := HX.out.cell g3
      have u4 := HX.out.cell g4
      have i1 : (i : Int) < (N : Int) := by omega
      have i0 : (0 : Int) ≤ (i : Int) := by omega
      have i8 : IntKind.i64.wrap ((i : Int) + 1) = (i : Int) + 1 := by rw [IntKind.wrap_i64]; omega
      have i9 : IntKind.i64.wrap (x0 + x1) = x0 + x1 := by rw [IntKind.wrap_i64]; omega
      go_upto_region 7 with (fail)
      have r1 := (Ext.alloc wo (.cells #[.int .i64 0, .int .i64 0, .int .i64 0, .int .i64 0, .bool false] 55)).cell a1
      have r2 := (Ext.alloc wo (.cells #[.int .i64 0, .int .i64 0, .int .i64 0, .int .i64 0, .bool false] 55)).cell a2
      have r4 := (Ext.alloc wo (.cells #[.int .i64 0, .int .i64 0, .int .i64 0, .int .i64 0, .bool false] 55)).cell u4
      go_region
      go_upto_region 8 with (fail)
      refine gen_wpC fun w7 h7 => ?_
      obtain ⟨xb, hxb⟩ : ∃ xb, xb = wo.heap.size := ⟨_, rfl⟩
      rw [← hxb]
      have B7 : Hid (Blk w7 xb 55 #[.int .i64 x0, .int .i64 x1, .int .i64 x2, .int .i64 0, .bool nk]) := hide (by rw [h7, hxb]; exact (Blk.new _ _ _).drew)
      have E7 : Hid (Ext wo w7) := hide (by rw [h7]; exact Ext.trans (Ext.alloc _ _) (Ext.drew _))
      have HXB : Hid (xb = wo.heap.size) := hide hxb
      have hxw : w.heap.size < xb := by have h1 := F2.out.size; have h2 := HX.out.size; have h3 := cell_lt g0; have : w.heap.size < w2.heap.size := h3; omega
      clear h7 hxb r1 r2 r4 a1 a2 u3 u4
      have u3 := E7.out.cell (HX.out.cell g3)
      have x3 : w7.cell? ⟨xb, 3, none⟩ = some (.int .i64 0) := B7.out.cell 3
      have f3 := B7.out.frozen 3
      go_upto_if 40 with (fail)
      go_cut [] (fun wx => Hid (Blk wx xb 55 #[.int .i64 x0, .int .i64 x1, .int .i64 x2, .int .i64 (exSz t i), .bool nk]) ∧ Hid (Tw w7 wx xb none))
      case first =>
        rcases ZC.out with ⟨h1, z, hz, hg⟩ | ⟨h1, h2, z, hz, hg⟩
        · have d0 : ((zn : Int) == 1) = true := by rw [beq_iff_eq]; omega
          obtain ⟨zb, zo, rfl, _⟩ := HZA.out.addr (by omega)
          have c0 := (((HZA.out.ext F2.out).ext HX.out).ext E7.out).num (k := 0) (by omega)
          rw [hg] at c0
          simp only [Nat.add_zero] at c0
          have n1 : (0 : Int) < (zn : Int) := by omega
          have HZV := hide hz
          clear hz hg h1
          go_wp2_with fail
          go_meet
          exact ⟨hide (by rw [HZV.out]; exact B7.out.set_ 3 _), hide (Tw.set_ _ _ _ _ _)⟩
        · have d0 : ((zn : Int) == 1) = false := by rw [beq_eq_false_iff_ne]; omega
          obtain ⟨zb, zo, rfl, _⟩ := HZA.out.addr (by omega)
          have c0 := (((HZA.out.ext F2.out).ext HX.out).ext E7.out).num (k := i) (by omega)
          rw [hg] at c0
          have n1 : (i : Int) < (zn : Int) := by omega
          have HZV := hide hz
          clear hz hg h1 h2
          go_wp2_with fail
          go_meet
          exact ⟨hide (by rw [HZV.out]; exact B7.out.set_ 3 _), hide (Tw.set_ _ _ _ _ _)⟩
      case rest =>
      obtain ⟨B8, T8⟩ := hcut
      obtain ⟨w8, hw8⟩ : ∃ w8, w8 = wc := ⟨_, rfl⟩
      subst hw8
      clear u3 x3 f3 B7 ZC
      generalize exSz t i = x3 at *
      have HKW := hide (fun (W : World) (hT : Tw w8 W xb none) => ((((HKA.out.ext F2.out).ext HX.out).ext E7.out).twn T8.out (fun h0 a ha => by have := HKB.out h0 a ha; omega)).twn hT (fun h0 a ha => by have := HKB.out h0 a ha; omega))
      have HA1B : b1 < xb := by have h1 := A1.out.blk_lt len_e64 (by omega) (by omega) _ rfl; have h2 := HX.out.size; have h3 := HXB.out; have h4 : b1 < w2.heap.size := h1; omega
      have HAW := hide (fun (W : World) (hT : Tw w8 W xb none) => (((((A1.out.ext HX.out).ext E7.out).twn T8.out (fun h0 a ha => by injection ha with ha; subst ha; show b1 ≠ xb; omega)).twn hT (fun h0 a ha => by injection ha with ha; subst ha; show b1 ≠ xb; omega)).num hlt : W.cell? ⟨b1, o1 + i, none⟩ = some (.int .i64 ((valsR t.steps).getD i 0))))
      have HYW := hide (fun (W : World) (hT : Tw w8 W xb none) => hT.blk (T8.out.blk ((Y2.out.ext HX.out).ext E7.out) (by omega) (by simp)) (by omega) (by simp))
      have HOW := hide (fun (W : World) (hT : Tw w8 W xb none) => (((HO.out.ext E7.out).tw T8.out (fun e => by have := (HO.out.lt _ e).2; have := HXB.out; omega) (fun g _ e => by cases e)).tw hT (fun e => by have := (HO.out.lt _ e).2; have := HXB.out; omega) (fun g _ e => by cases e)))
      have HEW := hide (fun (W : World) (hT : Tw w8 W xb none) => tw_ext' (tw_ext' (Ext.trans HX.out E7.out) T8.out (by have := HXB.out; have := HX.out.size; omega)) hT (by have := HXB.out; have := HX.out.size; omega))
      have HV1 : (valsR t.steps).getD i 0 = x1 := HX1.out
      rw [HV1] at HAW
      clear HV1
      go_wp2_with fail
      go_loopw [9] (fun rq wi => ∃ q : Nat, q ≤ kn ∧ rq = .int .i64 q ∧ Hid (Blk wi xb 55 #[.int .i64 x0, .int .i64 x1, .int .i64 x2, .int .i64 x3, .bool (exKy t q i)]) ∧ Hid (Tw w8 wi xb none)) (fun rq _ => kn - (intOf rq).toNat)
      case atStart => exact ⟨0, by omega, rfl, hide (by rw [K0.out]; exact B8.out), hide (Tw.refl _ _ _)⟩
      case round =>
        obtain ⟨q, hq, rfl, HB, HT⟩ := hrel
        have v4 : wr.cell? ⟨w.heap.size, 4, none⟩ = some (.slice kA kn kc) := (HYW.out _ HT.out).cell 4
        by_cases hqk : q < kn
        · obtain ⟨kb, ko, rfl, _⟩ := HKA.out.addr (by omega)
          have c0 := (HKW.out _ HT.out).num hqk
          have HKQ := hide (HKS.out q i hqk)
          generalize t.keys.getD q 0 = K at *
          generalize exKy t q i = kv at *
          have x4 : wr.cell? ⟨xb, 4, none⟩ = some (.bool kv) := HB.out.cell 4
          have f4 := HB.out.frozen 4
          have q1 : (q : Int) < (kn : Int) := by omega
          have q0 : (0 : Int) ≤ (q : Int) := by omega
          have q8 : IntKind.i64.wrap ((q : Int) + 1) = (q : Int) + 1 := by rw [IntKind.wrap_i64]; omega
          cases kv with
          | true =>
            go_wp2_with fail
            exact ⟨⟨q + 1, by omega, by go_num, hide (by rw [HKQ.out]; exact HB.out.set_ 4 _), hide (HT.out.trans (Tw.set_ _ _ _ _ _))⟩, by simp [intOf]; omega⟩
          | false =>
            have HKR : Hid (exKy t (q + 1) i = (K == (i : Int) + 1)) := hide (by rw [HKQ.out, Bool.false_or, Bool.beq_eq_decide_eq])
            go_wp2_with fail
            exact ⟨⟨q + 1, by omega, by go_num, hide (by rw [HKR.out]; exact HB.out.set_ 4 _), hide (HT.out.trans (Tw.set_ _ _ _ _ _))⟩, by simp [intOf]; omega⟩
        · obtain rfl : q = kn := by omega
          have HFK : Hid (exF t i = ⟨x0, x1, x2, x3, exKy t q i⟩) := hide (by rw [HFI.out, HKL.out])
          generalize exKy t q i = kf at *
          have z0 : wr.cell? ⟨xb, 0, none⟩ = some (.int .i64 x0) := HB.out.cell 0
          have z1 : wr.cell? ⟨xb, 1, none⟩ = some (.int .i64 x1) := HB.out.cell 1
          have z2 : wr.cell? ⟨xb, 2, none⟩ = some (.int .i64 x2) := HB.out.cell 2
          have z3 : wr.cell? ⟨xb, 3, none⟩ = some (.int .i64 x3) := HB.out.cell 3
          have z4 : wr.cell? ⟨xb, 4, none⟩ = some (.bool kf) := HB.out.cell 4
          have a1 := HAW.out _ HT.out
          have OW := hide (HOW.out _ HT.out)
          have EW := hide (HEW.out _ HT.out)
          have Q3 : Hid (w2.heap.size ≤ (wr.alloc (.cells #[.int .i64 x0, .int .i64 x1, .int .i64 x2, .int .i64 x3, .bool kf] 55)).heap.size) := hide (by have := EW.out.size; rw [World.size_alloc]; omega)
          clear hqk hq
          go_wp2_with (at_builtin; refine wpList_append_at _ rfl (.tmp 78) (.tmp 80) 50 rfl w2.heap.size 55 i0_ _ 40 Try.underlying50 hi0 hz0 hz1 hz2 rfl (by omega) len_eSm one_eSm _ _ (by rfl) (OW.out.ext (Ext.alloc _ _)) (some ⟨wr.heap.size, 0, none⟩) 1 1 [⟨x0, x1, x2, x3, kf⟩] (by rfl) (At.newE wr _ _ _ rfl) Q1.out Q2.out Q3.out ?_; intro v7 wz o7 g7 _ _; have O7 := hide o7; have G7 := hide g7; clear o7 g7)
          have E9 := hide (Own.below (OW.out.ext (Ext.alloc _ _)) (Ext.trans EW.out (Ext.alloc _ _)) G7.out (Nat.le_refl _))
          exact ⟨⟨i + 1, by omega, by go_num, by rw [HTS.out], hide (by rw [HMS.out, HFK.out]; exact O7.out), E9⟩, by simp [intOf]; omega⟩
    · obtain rfl : i = N := by omega
      clear hlt
      go_wp2_with fail
      go_ret
      exact ⟨_, rfl, by rw [HFS.out]; exact HO.out.more F2.out.size, Ext.trans F2.out HX.out⟩
end Go.Proofs.Ytlonhkjplijlcaa
namespace Go.Proofs.Ytlonhkjplijlcaa
open Go.RowKit
theorem Try.info78 : (Try.prog.info? 78).map (fun i => (i.zero, i.size, i.bytes)) = some (some (.agg #[.int .i64 0, .int .i64 0]), 2, 16) := by kernel_rfl
theorem plEl_bd {l : List Int} (h : firstF (plEl l) l.length = 0) {i : Nat} (hi : i < l.length) : 0 ≤ l.getD i 0 ∧ l.getD i 0 ≤ 1000000 := by
  have := firstF_all h i hi
  unfold plEl at this
  by_cases h1 : l.getD i 0 < 0 ∨ 1000000 < l.getD i 0
  · rw [if_pos h1] at this; omega
  · omega
set_option linter.unusedVariables false in
set_option linter.unusedSimpArgs false in
set_option maxRecDepth 100000 in
set_option maxHeartbeats 8000000 in
theorem keyPlaced_any {sA : Option Addr} {sn sc : Nat} {hA : Option Addr} {hn hc : Nat} {zA : Option Addr} {zn zc : Nat} {kA : Option Addr} {kn kc : Nat} {cA : Option Addr} {cn cc : Nat} {pA : Option Addr} {pn pc : Nat} {t : Tab} {A : Option Addr} {n c : Nat} {w : World}
    (h : TabAt w sA sn sc hA hn hc zA zn zc kA kn kc cA cn cc pA pn pc t) (hl : At w 5 eSm A n c (exS t)) (hR : TabR1 t) :
    Calls Try.prog 59 #[.agg #[.int .i64 t.start, .slice sA sn sc, .slice hA hn hc, .slice zA zn zc, .slice kA kn kc, .slice cA cn cc, .slice pA pn pc], .slice A n c] w fun e w' => ∃ v, e = .returned v ∧ Own w' w.heap.size 78 2 e2 v (spS t) ∧ Ext w w' := by
  have hf := tab_few hR
  have hnn : n = exN t := by rw [← hl.len]; unfold exS; exact mapR_len _ _
  have hex := exN_eq hR
  have hfew := hR.few
  have HN : Hid (n ≤ 5000) := hide (by omega)
  have HL := hide hl
  have HC := hide h.chunks
  have HP := hide h.places
  have hcl := h.chunks.len
  have hpl := h.places.len
  have HCC : Hid (0 < pn → 0 < cn ∧ (t.chunks.getD 0 (0, 0)).1 = 1) := hide (fun h0 => by
    have h1 : 0 < t.chunks.length := Nat.pos_of_ne_zero fun hc => hR.form (.inl ⟨by omega, hc⟩)
    exact ⟨by omega, (ch_ok hR.chunks 0 h1).2.1 rfl⟩)
  have HAT := hide (fun (k run : Nat) (h1 : run < cn) (h2 : (t.chunks.getD run (0, 0)).1 ≤ (k : Int) + 1) (h3 : run + 1 < cn → (k : Int) + 1 < (t.chunks.getD (run + 1) (0, 0)).1) => (smO_at hR.chunks (k := run) (by omega) h2 (fun h4 => h3 (by omega)) : smO t.chunks ((k : Int) + 1) = (t.chunks.getD run (0, 0)).2))
  have HLT := hide (fun (k j : Nat) (h1 : k < pn) (h2 : (j : Int) < smO t.chunks ((k : Int) + 1)) => (by have := sp_lt hR (c := k) (j := j) (by omega) h2; omega : (spC t k).length + j < n))
  have HSZ := hide (fun (i : Nat) (hi : i < n) => (by rw [exS_at (by omega)] : ((exS t).getD i dS).size = exSz t i))
  have HZB := hide (szP_bd hR.sizes)
  have HEB := hide (exSz_bd hR.sizes)
  have HPB := hide (fun (k : Nat) (hk : k < pn) => plEl_bd hR.places (i := k) (by omega))
  have HMB := hide (fun (k : Nat) => smO_bd hR.chunks ((k : Int) + 1))
  have HCB := hide (fun (k : Nat) (hk : k < cn) => (ch_ok hR.chunks k (by omega)).1)
  have hpn : pn ≤ 5000 := by omega
  have hcn : cn ≤ 5000 := by omega
  have E0 := hide (Ext.alloc w (.cells #[.int .i64 t.start, .slice sA sn sc, .slice hA hn hc, .slice zA zn zc, .slice kA kn kc, .slice cA cn cc, .slice pA pn pc] 73))
  have X0 := hide (Blk.new w 73 #[.int .i64 t.start, .slice sA sn sc, .slice hA hn hc, .slice zA zn zc, .slice kA kn kc, .slice cA cn cc, .slice pA pn pc])
  obtain ⟨i0_, hi0, hz0, hz1, hz2⟩ := info_parts Try.info78
  have HPL := hide hpl
  clear h hl hR hf hex hfew hcl hpl hnn
  go_enter Try.func59, Try.ntmps59
  go_upto_region 1 with (fail)
  refine gen_wpC fun w0 h0 => ?_
  have F0 : Hid (Ext w w0) := hide (by rw [h0]; exact E0.out)
  have Y0 := hide (show Blk w0 w.heap.size 73 #[.int .i64 t.start, .slice sA sn sc, .slice hA hn hc, .slice zA zn zc, .slice kA kn kc, .slice cA cn cc, .slice pA pn pc] from by rw [h0]; exact X0.out)
  clear h0 E0 X0
  have y5 : w0.cell? ⟨w.heap.size, 5, none⟩ = some (.slice cA cn cc) := Y0.out.cell 5
  have y6 : w0.cell? ⟨w.heap.size, 6, none⟩ = some (.slice pA pn pc) := Y0.out.cell 6
  go_wp2_with fail
  go_loopw [5, 6, 13] (fun r5 r6 rk wr => ∃ (k run : Nat), k ≤ pn ∧ rk = .int .i64 k ∧ r6 = .int .i64 run ∧ Hid (0 < pn → run < cn ∧ (t.chunks.getD run (0, 0)).1 ≤ (k : Int) + 1) ∧ Hid (Own wr w0.heap.size 78 2 e2 r5 (spC t k)) ∧ Hid (Ext w0 wr)) (fun _ _ rk _ => pn - (intOf rk).toNat)
  case atStart => exact ⟨0, 0, by omega, rfl, rfl, hide (fun h1 => ⟨(HCC.out h1).1, by rw [(HCC.out h1).2]; omega⟩), hide (Own.nil _ _ _ _ _), hide (Ext.refl _)⟩
  case round =>
    obtain ⟨k, run0, hk, rfl, rfl, HI, HO, HX⟩ := hrel
    by_cases hlt : k < pn
    · obtain ⟨b, off, rfl, _⟩ := HP.out.addr (by omega)
      have a0 := ((HP.out.ext F0.out).ext HX.out).num hlt
      obtain ⟨cb, co, rfl, _⟩ := HC.out.addr (by have := (HCC.out (by omega)).1; omega)
      have u5 := HX.out.cell y5
      have hI0 := HI.out (by omega)
      have hpb := HPB.out k hlt
      have HLTk := hide (fun j => HLT.out k j hlt)
      have HSU : Hid (spC t (k + 1) = spC t k ++ spI t (t.places.getD k 0) (spC t k).length (smO t.chunks ((k : Int) + 1)).toNat) := hide rfl
      generalize t.places.getD k 0 = p at *
      obtain ⟨s, hs⟩ : ∃ s, s = (spC t k).length := ⟨_, rfl⟩
      have HSL := hide hs
      rw [← hs] at HSU HLTk
      generalize spC t k = L0 at *
      have i1 : (k : Int) < (pn : Int) := by omega
      have i0 : (0 : Int) ≤ (k : Int) := by omega
      have i8 : IntKind.i64.wrap ((k : Int) + 1) = (k : Int) + 1 := by rw [IntKind.wrap_i64]; omega
      have HX1 := HX
      have HO1 := HO
      clear hs HI HO HX HLT
      obtain ⟨wo, hwo⟩ : ∃ wo, wo = wr := ⟨_, rfl⟩
      subst hwo
      go_wp2_with fail
      go_loopw [6] (fun r6 wi => ∃ run : Nat, r6 = .int .i64 run ∧ Hid (run < cn ∧ (t.chunks.getD run (0, 0)).1 ≤ (k : Int) + 1) ∧ Hid (Ext wo wi)) (fun r6 _ => cn - (intOf r6).toNat)
      case atStart => exact ⟨run0, rfl, hide hI0, hide (Ext.refl _)⟩
      case round =>
        obtain ⟨run, rfl, HI, HX⟩ := hrel
        have hrc := HI.out.1
        have HAX := hide (HAT.out k run hrc HI.out.2)
        have hex1 := Ext.trans HX1.out HX.out
        have hat := (HC.out.ext F0.out).ext hex1
        have v5 := hex1.cell y5
        have j8 : IntKind.i64.wrap ((run : Int) + 1) = (run : Int) + 1 := by rw [IntKind.wrap_i64]; omega
        have j0 : (0 : Int) ≤ (run : Int) := by omega
        have hcb := HCB.out
        have HCR : Hid (run + 1 < cn → ∃ z : Int, (t.chunks.getD (run + 1) (0, 0)).1 = z ∧ wr.cell? ⟨cb, co + (run + 1) * 2, none⟩ = some (.int .i64 z)) := hide (fun h1 => ⟨_, rfl, (hat.pair h1).1⟩)
        have HMM := hide (HMB.out k)
        have u1 : wr.cell? ⟨cb, co + run * 2 + 1, none⟩ = some (.int .i64 (t.chunks.getD run (0, 0)).2) := (hat.pair hrc).2
        have HEX1 := hide hex1
        have HRC := hide hrc
        clear hat hex1 hcb
        go_upto_region 6 with (fail)
        go_cut [35] (fun s wx => ∃ go : Bool, s = .bool go ∧ Hid (go = decide (run + 1 < cn ∧ (t.chunks.getD (run + 1) (0, 0)).1 ≤ (k : Int) + 1)) ∧ wr = wx)
        case first =>
          by_cases h1 : run + 1 < cn
          · obtain ⟨z, hz, c0⟩ := HCR.out h1
            have j1 : (run : Int) + 1 < (cn : Int) := by omega
            have j2 : ((run : Int) + 1).toNat = run + 1 := by omega
            have j3 : (0 : Int) ≤ (run : Int) + 1 := by omega
            by_cases h2 : z ≤ (k : Int) + 1
            · have GG : Hid (true = decide (run + 1 < cn ∧ (t.chunks.getD (run + 1) (0, 0)).1 ≤ (k : Int) + 1)) := hide (by rw [hz]; simp [h1, h2])
              clear hz
              go_wp2_with fail
              go_meet
              exact ⟨_, rfl, GG, rfl⟩
            · have GG : Hid (false = decide (run + 1 < cn ∧ (t.chunks.getD (run + 1) (0, 0)).1 ≤ (k : Int) + 1)) := hide (by rw [hz]; simp [h2])
              clear hz
              go_wp2_with fail
              go_meet
              exact ⟨_, rfl, GG, rfl⟩
          · have j1 : ¬ (run : Int) + 1 < (cn : Int) := by omega
            have GG : Hid (false = decide (run + 1 < cn ∧ (t.chunks.getD (run + 1) (0, 0)).1 ≤ (k : Int) + 1)) := hide (by simp [h1])
            go_wp2_with fail
            go_meet
            exact ⟨_, rfl, GG, rfl⟩
        case rest =>
        obtain ⟨go, rfl, HGO, rfl⟩ := hcut
        cases go with
        | true =>
          have h1 := of_decide_eq_true HGO.out.symm
          have HI2 := hide h1
          have hm1 : cn - (run + 1) < cn - run := by omega
          clear h1 HAX HCR
          go_wp2_with fail
          exact ⟨⟨run + 1, by go_num, HI2, HX⟩, by simp [intOf]; omega⟩
        | false =>
          have h1 := of_decide_eq_false HGO.out.symm
          have HSM := hide (HAX.out (fun h2 => by
            by_cases h3 : (t.chunks.getD (run + 1) (0, 0)).1 ≤ (k : Int) + 1
            · exact absurd ⟨h2, h3⟩ h1
            · omega))
          have HRI : Hid (run < cn ∧ (t.chunks.getD run (0, 0)).1 ≤ (k : Int) + 1 + 1) := hide ⟨HI.out.1, by have := HI.out.2; omega⟩
          rw [← HSM.out] at u1
          obtain ⟨m, hm⟩ : ∃ m : Nat, smO t.chunks ((k : Int) + 1) = (m : Int) := ⟨(smO t.chunks ((k : Int) + 1)).toNat, by have := HMM.out; omega⟩
          have hmm := HMM.out
          rw [hm] at u1 hmm HLTk HSU
          rw [Int.toNat_natCast] at HSU
          have HOX := hide (HO1.out.ext HX.out)
          have hk5 : (k : Int) ≤ 5000 := by omega
          clear h1 HAX HCR HGO HI HO1 HSM HMM hm
          obtain ⟨w2, hw2⟩ : ∃ w2, w2 = wr := ⟨_, rfl⟩
          subst hw2
          go_wp2_with fail
          go_loopw [5, 8, 44] (fun r5 r8 rj wi => ∃ j : Nat, j ≤ m ∧ rj = .int .i64 j ∧ r8 = .int .i64 (p + (szP t (s + j) - szP t s)) ∧ Hid (Own wi w0.heap.size 78 2 e2 r5 (L0 ++ spI t p s j)) ∧ Hid (Ext w0 wi)) (fun _ _ rj _ => m - (intOf rj).toNat)
          case atStart => exact ⟨0, by omega, rfl, by simp, hide (by simpa [spI] using HOX.out), HEX1⟩
          case round =>
            obtain ⟨j, hj, rfl, rfl, HO, HY⟩ := hrel
            by_cases hjm : j < m
            · have hsn := HLTk.out j (by omega)
              obtain ⟨lb, lo, rfl, _⟩ := HL.out.addr (by omega)
              have c3 := ((HL.out.ext F0.out).ext HY.out).cellK hsn dS 3 _ rfl
              rw [HSZ.out _ hsn] at c3
              have hll : (L0 ++ spI t p s j).length = s + j := by rw [List.length_append, spI_len, ← HSL.out]
              obtain ⟨A5, c5, hv5, _⟩ := HO.out.at_ len_e2
              rw [hll] at hv5
              subst hv5
              have hzb := HZB.out s j
              have heb := HEB.out (s + j)
              have HPJ : Hid (spI t p s (j + 1) = spI t p s j ++ [(p + (szP t (s + j) - szP t s), exSz t (s + j))]) := hide rfl
              have HPZ : Hid (szP t (s + (j + 1)) = szP t (s + j) + exSz t (s + j)) := hide rfl
              have S1 : Hid ((L0 ++ spI t p s j).length + 1 ≤ maxLen) := hide (by rw [hll]; have := HN.out; unfold maxLen; omega)
              have S2 : Hid (((L0 ++ spI t p s j).length + 1) * 16 ≤ 140737488355328) := hide (by rw [hll]; have := HN.out; omega)
              generalize spI t p s j = L1 at *
              generalize exSz t (s + j) = y at *
              obtain ⟨x, hx⟩ : ∃ x, x = p + (szP t (s + j) - szP t s) := ⟨_, rfl⟩
              rw [← hx] at HPJ ⊢
              have HXE := hide hx
              have hxb : 0 ≤ x ∧ x ≤ 1000000 + 100000 * 1000 := by omega
              clear hx hzb
              obtain ⟨q, hq⟩ : ∃ q, q = s + j := ⟨_, rfl⟩
              rw [← hq] at hll HPZ hsn c3 HO ⊢
              have hq2 := HN.out
              have S3 : Hid (w0.heap.size ≤ (wr.alloc (.cells #[.int .i64 x, .int .i64 y] 78)).heap.size) := hide (by have h2 := HY.out.size; rw [World.size_alloc]; omega)
              have j1 : (j : Int) < (m : Int) := by omega
              have j0 : (0 : Int) ≤ (j : Int) := by omega
              have j8 : IntKind.i64.wrap ((j : Int) + 1) = (j : Int) + 1 := by rw [IntKind.wrap_i64]; omega
              have j9 : IntKind.i64.wrap (x + y) = x + y := by rw [IntKind.wrap_i64]; omega
              have q1 : (q : Int) < (n : Int) := by omega
              have q0 : (0 : Int) ≤ (q : Int) := by omega
              have HQ := hide hq
              clear hq hll
              go_wp2_with (at_builtin; refine wpList_append_at _ rfl (.tmp 52) (.tmp 56) 74 rfl w0.heap.size 78 i0_ _ 16 Try.underlying74 hi0 hz0 hz1 hz2 rfl (by omega) len_e2 one_e2 _ _ (by rfl) (HO.out.ext (Ext.alloc _ _)) (some ⟨wr.heap.size, 0, none⟩) 1 1 [(x, y)] (by rfl) (At.pair1 wr x y _) S1.out S2.out S3.out ?_; intro v7 w7 o7 g7 _ _; have O7 := hide o7; have G7 := hide g7; clear o7 g7)
              have E7 := hide (Own.below (HO.out.ext (Ext.alloc _ _)) (Ext.trans HY.out (Ext.alloc _ _)) G7.out (Nat.le_refl _))
              exact ⟨⟨j + 1, by omega, by go_num, int_val (by rw [HPZ.out]; have h9 := HXE.out; rw [← HQ.out] at h9; omega), hide (by rw [HPJ.out, ← List.append_assoc]; exact O7.out), hide E7⟩, by simp [intOf]; omega⟩
            · obtain rfl : j = m := by omega
              clear hjm hj
              go_wp2_with fail
              exact ⟨⟨k + 1, run, by omega, by go_num, rfl, hide (fun _ => by obtain ⟨h1, h2⟩ := HRI.out; exact ⟨h1, by omega⟩), hide (by rw [HSU.out]; exact HO.out), HY⟩, by simp [intOf]; omega⟩
    · obtain rfl : k = pn := by omega
      have HE : Hid (spS t = spC t k) := hide (by unfold spS; rw [HPL.out])
      clear hlt
      go_wp2_with fail
      go_ret
      exact ⟨_, rfl, by rw [HE.out]; exact HO.out.more F0.out.size, Ext.trans F0.out HX.out⟩
end Go.Proofs.Ytlonhkjplijlcaa
