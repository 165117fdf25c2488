/- Walks: slices.Equal of numbers and of pairs, sameTable. Conditions as stated. -/
import Derived.Test.YtkdmfkpkelnheaaRtA

namespace Go.Proofs.Ytkdmfkpkelnheaa
open Go.RowKit
set_option maxHeartbeats 1000000 in
/-- Two slices that read as one list. -/
theorem intsEq_true {A1 A2 : Option Addr} {n1 c1 n2 c2 : Nat} {l : List Int} {w : World} (h1 : At w 1 e64 A1 n1 c1 l) (h2 : At w 1 e64 A2 n2 c2 l) :
    Calls Try.prog 28 #[.slice A1 n1 c1, .slice A2 n2 c2] w fun e w' => e = .returned (.bool true) ∧ Ext w w' := by
  obtain rfl : n1 = n2 := h1.len.symm.trans h2.len
  have hb := h1.bound
  have H1 := hide h1; have H2 := hide h2
  clear h1 h2
  go_enter Try.func28, Try.ntmps28
  go_wp2_with fail
  go_loopw [13] (fun ri wr => ∃ k : Nat, k ≤ n1 ∧ ri = .int .i64 k ∧ Hid (Ext w wr)) (fun i _ => n1 - (intOf i).toNat)
  case atStart => exact ⟨0, by omega, rfl, hide (Ext.refl _)⟩
  case round =>
    obtain ⟨k, hk, rfl, HX⟩ := hrel
    by_cases hlt : k < n1
    · obtain ⟨b, off, rfl, _⟩ := H1.out.addr (by omega)
      obtain ⟨b2, off2, rfl, _⟩ := H2.out.addr (by omega)
      have a1 := (H1.out.ext HX.out).num hlt
      have a2 := (H2.out.ext HX.out).num hlt
      generalize l.getD k 0 = y at *
      have i1 : (k : Int) < (n1 : Int) := by omega
      have i0 : (0 : Int) ≤ (k : Int) := by omega
      go_wp2_with fail
      go_quiet (fail)
      go_wp2
      go_roundw
      case rel => exact ⟨k + 1, by omega, by go_num, below_drewN HX.out _⟩
      case measure => simp [intOf]; omega
    · have hkn : k = n1 := by omega
      clear hkn
      go_wp2
      go_ret
      exact ⟨rfl, HX.out⟩
set_option maxHeartbeats 1000000 in
theorem runsEq_true {A1 A2 : Option Addr} {n1 c1 n2 c2 : Nat} {l : List (Int × Int)} {w : World} (h1 : At w 2 e2 A1 n1 c1 l) (h2 : At w 2 e2 A2 n2 c2 l) :
    Calls Try.prog 27 #[.slice A1 n1 c1, .slice A2 n2 c2] w fun e w' => e = .returned (.bool true) ∧ Ext w w' := by
  obtain rfl : n1 = n2 := h1.len.symm.trans h2.len
  have hb := h1.bound
  have H1 := hide h1; have H2 := hide h2
  clear h1 h2
  go_enter Try.func27, Try.ntmps27
  go_wp2_with fail
  go_loopw [13] (fun ri wr => ∃ k : Nat, k ≤ n1 ∧ ri = .int .i64 k ∧ Hid (Ext w wr)) (fun i _ => n1 - (intOf i).toNat)
  case atStart => exact ⟨0, by omega, rfl, hide (Ext.refl _)⟩
  case round =>
    obtain ⟨k, hk, rfl, HX⟩ := hrel
    by_cases hlt : k < n1
    · obtain ⟨b, off, rfl, _⟩ := H1.out.addr (by omega)
      obtain ⟨b2, off2, rfl, _⟩ := H2.out.addr (by omega)
      obtain ⟨a1, a2⟩ := (H1.out.ext HX.out).pair hlt
      obtain ⟨a3, a4⟩ := (H2.out.ext HX.out).pair hlt
      generalize (l.getD k (0, 0)).1 = y at *
      generalize (l.getD k (0, 0)).2 = z at *
      have i1 : (k : Int) < (n1 : Int) := by omega
      have i0 : (0 : Int) ≤ (k : Int) := by omega
      go_wp2_with fail
      go_quiet (fail)
      go_wp2
      go_roundw
      case rel => exact ⟨k + 1, by omega, by go_num, below_drewN HX.out _⟩
      case measure => simp [intOf]; omega
    · have hkn : k = n1 := by omega
      clear hkn
      go_wp2
      go_ret
      exact ⟨rfl, HX.out⟩
set_option maxHeartbeats 1000000 in
theorem chunksEq_true {A1 A2 : Option Addr} {n1 c1 n2 c2 : Nat} {l : List (Int × Int)} {w : World} (h1 : At w 2 e2 A1 n1 c1 l) (h2 : At w 2 e2 A2 n2 c2 l) :
    Calls Try.prog 29 #[.slice A1 n1 c1, .slice A2 n2 c2] w fun e w' => e = .returned (.bool true) ∧ Ext w w' := by
  obtain rfl : n1 = n2 := h1.len.symm.trans h2.len
  have hb := h1.bound
  have H1 := hide h1; have H2 := hide h2
  clear h1 h2
  go_enter Try.func29, Try.ntmps29
  go_wp2_with fail
  go_loopw [13] (fun ri wr => ∃ k : Nat, k ≤ n1 ∧ ri = .int .i64 k ∧ Hid (Ext w wr)) (fun i _ => n1 - (intOf i).toNat)
  case atStart => exact ⟨0, by omega, rfl, hide (Ext.refl _)⟩
  case round =>
    obtain ⟨k, hk, rfl, HX⟩ := hrel
    by_cases hlt : k < n1
    · obtain ⟨b, off, rfl, _⟩ := H1.out.addr (by omega)
      obtain ⟨b2, off2, rfl, _⟩ := H2.out.addr (by omega)
      obtain ⟨a1, a2⟩ := (H1.out.ext HX.out).pair hlt
      obtain ⟨a3, a4⟩ := (H2.out.ext HX.out).pair hlt
      generalize (l.getD k (0, 0)).1 = y at *
      generalize (l.getD k (0, 0)).2 = z at *
      have i1 : (k : Int) < (n1 : Int) := by omega
      have i0 : (0 : Int) ≤ (k : Int) := by omega
      go_wp2_with fail
      go_quiet (fail)
      go_wp2
      go_roundw
      case rel => exact ⟨k + 1, by omega, by go_num, below_drewN HX.out _⟩
      case measure => simp [intOf]; omega
    · have hkn : k = n1 := by omega
      clear hkn
      go_wp2
      go_ret
      exact ⟨rfl, HX.out⟩
set_option maxHeartbeats 1000000 in
theorem spotsEq_true {A1 A2 : Option Addr} {n1 c1 n2 c2 : Nat} {l : List (Int × Int)} {w : World} (h1 : At w 2 e2 A1 n1 c1 l) (h2 : At w 2 e2 A2 n2 c2 l) :
    Calls Try.prog 19 #[.slice A1 n1 c1, .slice A2 n2 c2] w fun e w' => e = .returned (.bool true) ∧ Ext w w' := by
  obtain rfl : n1 = n2 := h1.len.symm.trans h2.len
  have hb := h1.bound
  have H1 := hide h1; have H2 := hide h2
  clear h1 h2
  go_enter Try.func19, Try.ntmps19
  go_wp2_with fail
  go_loopw [13] (fun ri wr => ∃ k : Nat, k ≤ n1 ∧ ri = .int .i64 k ∧ Hid (Ext w wr)) (fun i _ => n1 - (intOf i).toNat)
  case atStart => exact ⟨0, by omega, rfl, hide (Ext.refl _)⟩
  case round =>
    obtain ⟨k, hk, rfl, HX⟩ := hrel
    by_cases hlt : k < n1
    · obtain ⟨b, off, rfl, _⟩ := H1.out.addr (by omega)
      obtain ⟨b2, off2, rfl, _⟩ := H2.out.addr (by omega)
      obtain ⟨a1, a2⟩ := (H1.out.ext HX.out).pair hlt
      obtain ⟨a3, a4⟩ := (H2.out.ext HX.out).pair hlt
      generalize (l.getD k (0, 0)).1 = y at *
      generalize (l.getD k (0, 0)).2 = z at *
      have i1 : (k : Int) < (n1 : Int) := by omega
      have i0 : (0 : Int) ≤ (k : Int) := by omega
      go_wp2_with fail
      go_quiet (fail)
      go_wp2
      go_roundw
      case rel => exact ⟨k + 1, by omega, by go_num, below_drewN HX.out _⟩
      case measure => simp [intOf]; omega
    · have hkn : k = n1 := by omega
      clear hkn
      go_wp2
      go_ret
      exact ⟨rfl, HX.out⟩
set_option linter.unusedVariables false in
set_option maxRecDepth 100000 in
set_option maxHeartbeats 4000000 in
/-- Two tables that read alike. -/
theorem sameTab_any {v1 v2 : Value} {t : Tab} {w : World} (h1 : TbV w v1 t) (h2 : TbV w v2 t) :
    Calls Try.prog 10 #[v1, v2] w fun e w' => e = .returned (.bool true) ∧ Ext w w' := by
  obtain ⟨sA1, sn1, sc1, hA1, hn1, hc1, zA1, zn1, zc1, kA1, kn1, kc1, cA1, cn1, cc1, pA1, pn1, pc1, rfl, t1⟩ := h1
  obtain ⟨sA2, sn2, sc2, hA2, hn2, hc2, zA2, zn2, zc2, kA2, kn2, kc2, cA2, cn2, cc2, pA2, pn2, pc2, rfl, t2⟩ := h2
  have EA : Hid (Ext w ((w.alloc (.cells #[.int .i64 t.start, .slice sA1 sn1 sc1, .slice hA1 hn1 hc1, .slice zA1 zn1 zc1, .slice kA1 kn1 kc1, .slice cA1 cn1 cc1, .slice pA1 pn1 pc1] 27)).alloc (.cells #[.int .i64 t.start, .slice sA2 sn2 sc2, .slice hA2 hn2 hc2, .slice zA2 zn2 zc2, .slice kA2 kn2 kc2, .slice cA2 cn2 cc2, .slice pA2 pn2 pc2] 27))) := hide (Ext.trans (Ext.alloc _ _) (Ext.alloc _ _))
  have HQ1 := hide (fun (W : World) (hW : Ext w W) => runsEq_true (t1.steps.ext hW) (t2.steps.ext hW))
  have HQ2 := hide (fun (W : World) (hW : Ext w W) => runsEq_true (t1.shifts.ext hW) (t2.shifts.ext hW))
  have HQ3 := hide (fun (W : World) (hW : Ext w W) => intsEq_true (t1.sizes.ext hW) (t2.sizes.ext hW))
  have HQ4 := hide (fun (W : World) (hW : Ext w W) => intsEq_true (t1.keys.ext hW) (t2.keys.ext hW))
  have HQ5 := hide (fun (W : World) (hW : Ext w W) => chunksEq_true (t1.chunks.ext hW) (t2.chunks.ext hW))
  have HQ6 := hide (fun (W : World) (hW : Ext w W) => intsEq_true (t1.places.ext hW) (t2.places.ext hW))
  have hkk : kA1.isNone = kA2.isNone := by
    have h1 := t1.nok
    have h2 := t2.nok
    rw [Bool.eq_iff_iff, Option.isNone_iff_eq_none, Option.isNone_iff_eq_none, h1, h2]
  have e1 := fun (W : World) => Lib.run_eql_slice_nil (P := Try.prog) W 23 3 kA1 kn1 kc1 0 0 Try.underlying23
  have e2 := fun (W : World) => Lib.run_eql_slice_nil (P := Try.prog) W 23 3 kA2 kn2 kc2 0 0 Try.underlying23
  rw [← hkk] at e2
  generalize kA1.isNone = kb at *
  have dk : (kb == kb) = true := by simp
  have dt : (t.start == t.start) = true := by simp
  have X1 := hide ((Blk.new w 27 #[.int .i64 t.start, .slice sA1 sn1 sc1, .slice hA1 hn1 hc1, .slice zA1 zn1 zc1, .slice kA1 kn1 kc1, .slice cA1 cn1 cc1, .slice pA1 pn1 pc1]).alloc (.cells #[.int .i64 t.start, .slice sA2 sn2 sc2, .slice hA2 hn2 hc2, .slice zA2 zn2 zc2, .slice kA2 kn2 kc2, .slice cA2 cn2 cc2, .slice pA2 pn2 pc2] 27))
  have X2 : Hid (Blk ((w.alloc (.cells #[.int .i64 t.start, .slice sA1 sn1 sc1, .slice hA1 hn1 hc1, .slice zA1 zn1 zc1, .slice kA1 kn1 kc1, .slice cA1 cn1 cc1, .slice pA1 pn1 pc1] 27)).alloc (.cells #[.int .i64 t.start, .slice sA2 sn2 sc2, .slice hA2 hn2 hc2, .slice zA2 zn2 zc2, .slice kA2 kn2 kc2, .slice cA2 cn2 cc2, .slice pA2 pn2 pc2] 27)) (w.heap.size + 1) 27 #[.int .i64 t.start, .slice sA2 sn2 sc2, .slice hA2 hn2 hc2, .slice zA2 zn2 zc2, .slice kA2 kn2 kc2, .slice cA2 cn2 cc2, .slice pA2 pn2 pc2]) := hide (by
    have := Blk.new (w.alloc (.cells #[.int .i64 t.start, .slice sA1 sn1 sc1, .slice hA1 hn1 hc1, .slice zA1 zn1 zc1, .slice kA1 kn1 kc1, .slice cA1 cn1 cc1, .slice pA1 pn1 pc1] 27)) 27 #[.int .i64 t.start, .slice sA2 sn2 sc2, .slice hA2 hn2 hc2, .slice zA2 zn2 zc2, .slice kA2 kn2 kc2, .slice cA2 cn2 cc2, .slice pA2 pn2 pc2]
    rw [World.size_alloc] at this
    exact this)
  generalize t.start = st at *
  clear t1 t2 hkk
  go_enter Try.func10, Try.ntmps10
  go_upto_region 1 with (fail)
  refine gen_wpC fun w0 h0 => ?_
  have E0 : Hid (Ext w w0) := hide (by rw [h0]; exact EA.out)
  have Y0 : Hid (Blk w0 w.heap.size 27 #[.int .i64 st, .slice sA1 sn1 sc1, .slice hA1 hn1 hc1, .slice zA1 zn1 zc1, .slice kA1 kn1 kc1, .slice cA1 cn1 cc1, .slice pA1 pn1 pc1]) := hide (by rw [h0]; exact X1.out)
  have Z0 : Hid (Blk w0 (w.heap.size + 1) 27 #[.int .i64 st, .slice sA2 sn2 sc2, .slice hA2 hn2 hc2, .slice zA2 zn2 zc2, .slice kA2 kn2 kc2, .slice cA2 cn2 cc2, .slice pA2 pn2 pc2]) := hide (by rw [h0]; exact X2.out)
  clear h0 EA X1 X2
  have y0 : w0.cell? ⟨w.heap.size, 0, none⟩ = some (.int .i64 st) := Y0.out.cell 0
  have z0 : w0.cell? ⟨w.heap.size + 1, 0, none⟩ = some (.int .i64 st) := Z0.out.cell 0
  have y1 : w0.cell? ⟨w.heap.size, 1, none⟩ = some (.slice sA1 sn1 sc1) := Y0.out.cell 1
  have z1 : w0.cell? ⟨w.heap.size + 1, 1, none⟩ = some (.slice sA2 sn2 sc2) := Z0.out.cell 1
  go_wp2_with fail
  with_reducible refine (HQ1.out _ E0.out).mono ?_
  rintro e w1 ⟨rfl, e1_⟩
  have Y1 := hide (Y0.out.ext e1_)
  have Z1 := hide (Z0.out.ext e1_)
  have E1 := hide (Ext.trans E0.out e1_)
  clear e1_
  have y2 : w1.cell? ⟨w.heap.size, 2, none⟩ = some (.slice hA1 hn1 hc1) := Y1.out.cell 2
  have z2 : w1.cell? ⟨w.heap.size + 1, 2, none⟩ = some (.slice hA2 hn2 hc2) := Z1.out.cell 2
  go_wp2_with fail
  with_reducible refine (HQ2.out _ E1.out).mono ?_
  rintro e w2 ⟨rfl, e2_⟩
  have Y2 := hide (Y1.out.ext e2_)
  have Z2 := hide (Z1.out.ext e2_)
  have E2 := hide (Ext.trans E1.out e2_)
  clear e2_
  have y3 : w2.cell? ⟨w.heap.size, 3, none⟩ = some (.slice zA1 zn1 zc1) := Y2.out.cell 3
  have z3 : w2.cell? ⟨w.heap.size + 1, 3, none⟩ = some (.slice zA2 zn2 zc2) := Z2.out.cell 3
  go_wp2_with fail
  with_reducible refine (HQ3.out _ E2.out).mono ?_
  rintro e w3 ⟨rfl, e3⟩
  have Y3 := hide (Y2.out.ext e3)
  have Z3 := hide (Z2.out.ext e3)
  have E3 := hide (Ext.trans E2.out e3)
  clear e3
  have y4 : w3.cell? ⟨w.heap.size, 4, none⟩ = some (.slice kA1 kn1 kc1) := Y3.out.cell 4
  have z4 : w3.cell? ⟨w.heap.size + 1, 4, none⟩ = some (.slice kA2 kn2 kc2) := Z3.out.cell 4
  go_wp2_with fail
  with_reducible refine (HQ4.out _ E3.out).mono ?_
  rintro e w4 ⟨rfl, e4⟩
  have Y4 := hide (Y3.out.ext e4)
  have Z4 := hide (Z3.out.ext e4)
  have E4 := hide (Ext.trans E3.out e4)
  clear e4
  have y5 : w4.cell? ⟨w.heap.size, 5, none⟩ = some (.slice cA1 cn1 cc1) := Y4.out.cell 5
  have z5 : w4.cell? ⟨w.heap.size + 1, 5, none⟩ = some (.slice cA2 cn2 cc2) := Z4.out.cell 5
  go_wp2_with fail
  with_reducible refine (HQ5.out _ E4.out).mono ?_
  rintro e w5 ⟨rfl, e5⟩
  have Y5 := hide (Y4.out.ext e5)
  have Z5 := hide (Z4.out.ext e5)
  have E5 := hide (Ext.trans E4.out e5)
  clear e5
  have y6 : w5.cell? ⟨w.heap.size, 6, none⟩ = some (.slice pA1 pn1 pc1) := Y5.out.cell 6
  have z6 : w5.cell? ⟨w.heap.size + 1, 6, none⟩ = some (.slice pA2 pn2 pc2) := Z5.out.cell 6
  go_wp2_with fail
  with_reducible refine (HQ6.out _ E5.out).mono ?_
  rintro e w6 ⟨rfl, e6⟩
  have Y6 := hide (Y5.out.ext e6)
  have Z6 := hide (Z5.out.ext e6)
  have E6 := hide (Ext.trans E5.out e6)
  clear e6
  go_wp2_with fail
  go_ret
  exact ⟨rfl, E6.out⟩
end Go.Proofs.Ytkdmfkpkelnheaa
