/- Walk: ReadFragment (reference). Conditions as stated. -/
import Derived.Test.YtccmbokodifdoaaRfR
import Derived.Test.YtccmbokodifdoaaRfA
import Derived.Test.YtccmbokodifdoaaMrkR
import Derived.Test.YtccmbokodifdoaaSmpR
namespace Go.Proofs.Ytccmbokodifdoaa
open Go.RowKit
set_option linter.unusedVariables false in
set_option linter.unusedSimpArgs false in
set_option maxRecDepth 100000 in
set_option maxHeartbeats 8000000 in
theorem refReadFragment_any {A : Option Addr} {n c : Nat} {b : List UInt8} {w : World} (h : At w 1 e8 A n c b) :
    Calls Try.prog 11 #[.slice A n c] w (RfGives w b) := by
  have E0 := hide (Ext.alloc w (.cells #[.int .i64 0, .slice none 0 0] 25))
  have R0 := hide (Blk.new w 25 #[.int .i64 0, .slice none 0 0])
  have HRK := hide (refreadFrag_any (h.ext E0.out))
  clear h
  go_enter Try.func11, Try.ntmps11
  go_wp2_with fail
  with_reducible refine HRK.out.mono ?_
  rintro e w1 ⟨e1, N, k, c1, rfl, hln, hat⟩
  have HLN : Hid (∀ a, N = some a → w.heap.size < a.block) := hide (fun a ha => by have := hln a ha; rw [World.size_alloc] at this; omega)
  clear hln
  have E1 := hide (Ext.trans E0.out e1)
  have R1 := hide (R0.out.ext e1)
  have HAT := hide hat
  clear e1 hat E0 R0 HRK
  go_upto_region 2 with (fail)
  refine gen_wpC fun w2 h2 => ?_
  obtain ⟨gx, hgx⟩ : ∃ gx, gx = w1.heap.size := ⟨_, rfl⟩
  rw [← hgx]
  have EX : Hid (Ext w1 w2) := hide (by rw [h2]; exact Ext.alloc _ _)
  have X2 : Hid (Blk w2 gx 25 #[.int .i64 ((h1F b).1 : Int), .slice N k c1]) := hide (by rw [h2, hgx]; exact Blk.new _ _ _)
  have RR := hide (R1.out.ext EX.out)
  have E2 := hide (Ext.trans E1.out EX.out)
  have hgl : w.heap.size < gx := by rw [hgx]; exact R1.out.lt
  have x0 : w2.cell? ⟨gx, 0, none⟩ = some (.int .i64 ((h1F b).1 : Int)) := X2.out.cell 0
  have x1 : w2.cell? ⟨gx, 1, none⟩ = some (.slice N k c1) := X2.out.cell 1
  have z0 := RR.out.frozen 0
  have z1 := RR.out.frozen 1
  have y0 : w2.cell? ⟨w.heap.size, 0, none⟩ = some (.int .i64 0) := RR.out.cell 0
  have y1 : w2.cell? ⟨w.heap.size, 1, none⟩ = some (.slice none 0 0) := RR.out.cell 1
  clear h2 hgx
  obtain ⟨ed, hed⟩ : ∃ ed, endF b = ed := ⟨_, rfl⟩
  obtain ⟨ps, bd⟩ := ed
  have HED := hide hed
  rw [hed] at HAT ⊢
  clear hed
  cases bd with
  | true =>
    have HR := hide (rf_bad HED.out)
    rw [show badI ⟨ps, true⟩ = (ps : Int) from rfl]
    have d0 : (0 : Int) ≤ (ps : Int) := by omega
    go_wp2_with fail
    refine gen_bod fun w8 h8 => ?_
    have T8 : Hid (Tw w2 w8 w.heap.size none) := hide (by rw [h8]; exact (Tw.set_ _ _ _ _ _).trans (Tw.set_ _ _ _ _ _))
    have R8 : Hid (Blk w8 w.heap.size 25 #[.int .i64 0, .slice none 0 0]) := hide (by rw [h8]; exact (RR.out.set_ 0 _).set_ 1 _)
    have k0 : w8.cell? ⟨w.heap.size, 0, none⟩ = some (.int .i64 0) := R8.out.cell 0
    have k1 : w8.cell? ⟨w.heap.size, 1, none⟩ = some (.slice none 0 0) := R8.out.cell 1
    refine bodyPost_ret (v := .tuple #[.agg #[.int .i64 0, .slice none 0 0], .int .i64 ps, .int .i64 10]) (by simp [results, Try.results11, go_sem, k0, k1]) rfl (RfGives.no HR.out.1 HR.out.2 (by omega) (tw_ext E2.out T8.out (Nat.le_refl _)))
  | false =>
    rw [show badI ⟨ps, false⟩ = -1 from rfl]
    have h3 : At w2 5 eSm N k c1 (smF b) := (HAT.out rfl).ext EX.out
    have hkn : k = nF b := by have h1 := h3.len; rw [show (smF b).length = nF b from mkSm_len _ _ _ _ _ _] at h1; exact h1.symm
    have H3 := hide h3
    have HKN := hide hkn
    clear h3 HAT
    by_cases ht0 : nF b = 0 ∧ tF b ≠ 0
    · have HR := hide (rf_time HED.out ht0)
      have d0 : ((k : Int) == 0) = true := by rw [beq_iff_eq]; omega
      have d1 : (tF b != 0) = true := by simp [ht0.2]
      clear ht0 hkn
      go_wp2_with fail
      refine gen_bod fun w8 h8 => ?_
      have T8 : Hid (Tw w2 w8 w.heap.size none) := hide (by rw [h8]; exact (Tw.set_ _ _ _ _ _).trans (Tw.set_ _ _ _ _ _))
      have R8 : Hid (Blk w8 w.heap.size 25 #[.int .i64 0, .slice none 0 0]) := hide (by rw [h8]; exact (RR.out.set_ 0 _).set_ 1 _)
      have k0 : w8.cell? ⟨w.heap.size, 0, none⟩ = some (.int .i64 0) := R8.out.cell 0
      have k1 : w8.cell? ⟨w.heap.size, 1, none⟩ = some (.slice none 0 0) := R8.out.cell 1
      refine bodyPost_ret (v := .tuple #[.agg #[.int .i64 0, .slice none 0 0], .int .i64 4, .int .i64 3]) (by simp [results, Try.results11, go_sem, k0, k1]) rfl (RfGives.no HR.out.1 HR.out.2 (by omega) (tw_ext E2.out T8.out (Nat.le_refl _)))
    · have HNO := hide ht0
      have HKM := hide (refMarks_any H3.out)
      have dd : ((k : Int) == 0) = false ∨ (((k : Int) == 0) = true ∧ (tF b != 0) = false) := by
        by_cases h1 : k = 0
        · right
          refine ⟨by rw [beq_iff_eq]; omega, ?_⟩
          by_cases h2 : tF b = 0
          · simp [h2]
          · exact absurd ⟨by omega, h2⟩ ht0
        · left; rw [beq_eq_false_iff_ne]; omega
      clear ht0 hkn
      have HMQ := hide (fun (h : (h4F b).1 ≠ mkN (smF b)) => rf_mark HED.out HNO.out h)
      have HMO := hide (fun (h : (h4F b).1 = mkN (smF b)) => rf_ok HED.out HNO.out h)
      generalize mkN (smF b) = mk at *
      generalize (h4F b).1 = m4 at *
      generalize tF b = tf at *
      go_upto_region 4 with (fail)
      go_cut [28] (fun sc wx => sc = .bool false ∧ w2 = wx)
      case first =>
        rcases dd with d0 | ⟨d0, d1⟩
        · go_wp2_with fail
          go_meet
          exact ⟨rfl, rfl⟩
        · go_wp2_with fail
          go_meet
          exact ⟨rfl, rfl⟩
      case rest =>
      obtain ⟨rfl, hw⟩ := hcut
      subst hw
      go_wp2_with fail
      with_reducible refine HKM.out.mono ?_
      rintro e w3 ⟨rfl, e3⟩
      have RR3 := hide (RR.out.ext e3)
      have X3 := hide (X2.out.ext e3)
      have E3 := hide (Ext.trans E2.out e3)
      have H4 := hide (H3.out.ext e3)
      have x0 : w3.cell? ⟨gx, 0, none⟩ = some (.int .i64 ((h1F b).1 : Int)) := X3.out.cell 0
      have x1 : w3.cell? ⟨gx, 1, none⟩ = some (.slice N k c1) := X3.out.cell 1
      have z0 := RR3.out.frozen 0
      have z1 := RR3.out.frozen 1
      have y0 : w3.cell? ⟨w.heap.size, 0, none⟩ = some (.int .i64 0) := RR3.out.cell 0
      have y1 : w3.cell? ⟨w.heap.size, 1, none⟩ = some (.slice none 0 0) := RR3.out.cell 1
      clear e3 X2 RR E2 H3 HKM dd
      by_cases hmk : m4 = mk
      · have HR := hide (HMO.out hmk)
        have d2 : ((m4 : Int) != (mk : Int)) = false := by simp [hmk]
        have HSM := hide (refSamples_any H4.out)
        clear hmk HMQ HMO
        generalize hsf : smpF (smF b) = sf at *
        clear hsf
        go_wp2_with fail
        with_reducible refine HSM.out.mono ?_
        rintro e w4 ⟨rfl, e4⟩
        have RR4 := hide (RR3.out.ext e4)
        have X4 := hide (X3.out.ext e4)
        have E4 := hide (Ext.trans E3.out e4)
        have H5 := hide (H4.out.ext e4)
        have x0 : w4.cell? ⟨gx, 0, none⟩ = some (.int .i64 ((h1F b).1 : Int)) := X4.out.cell 0
        have x1 : w4.cell? ⟨gx, 1, none⟩ = some (.slice N k c1) := X4.out.cell 1
        have z0 := RR4.out.frozen 0
        have z1 := RR4.out.frozen 1
        have y0 : w4.cell? ⟨w.heap.size, 0, none⟩ = some (.int .i64 0) := RR4.out.cell 0
        have y1 : w4.cell? ⟨w.heap.size, 1, none⟩ = some (.slice none 0 0) := RR4.out.cell 1
        clear e4 X3 RR3 E3 H4 HSM
        by_cases hs0 : sf = 0
        · subst hs0
          go_wp2_with fail
          refine gen_bod fun w8 h8 => ?_
          have T8 : Hid (Tw w4 w8 w.heap.size none) := hide (by rw [h8]; exact (Tw.set_ _ _ _ _ _).trans (Tw.set_ _ _ _ _ _))
          have R8 : Hid (Blk w8 w.heap.size 25 #[.int .i64 ((h1F b).1 : Int), .slice N k c1]) := hide (by rw [h8]; exact (RR4.out.set_ 0 _).set_ 1 _)
          have k0 : w8.cell? ⟨w.heap.size, 0, none⟩ = some (.int .i64 ((h1F b).1 : Int)) := R8.out.cell 0
          have k1 : w8.cell? ⟨w.heap.size, 1, none⟩ = some (.slice N k c1) := R8.out.cell 1
          refine bodyPost_ret (v := .tuple #[.agg #[.int .i64 ((h1F b).1 : Int), .slice N k c1], .int .i64 0, .int .i64 0]) (by simp [results, Try.results11, go_sem, k0, k1]) rfl ⟨tw_ext E4.out T8.out (Nat.le_refl _), N, k, c1, by unfold rfN; rw [HR.out.1, HR.out.2, if_pos rfl], ?_⟩
          unfold rfL; rw [HR.out.1, if_pos rfl]
          exact H5.out.tw T8.out (fun a ha => ⟨by have := HLN.out a ha; omega, by simp⟩)
        · have RR := RR4
          have E2 := E4
          have d3 : (sf != 0) = true := by simp [hs0]
          have HS0 := hide hs0
          clear hs0
          go_wp2_with fail
          refine gen_bod fun w8 h8 => ?_
          have T8 : Hid (Tw w4 w8 w.heap.size none) := hide (by rw [h8]; exact (Tw.set_ _ _ _ _ _).trans (Tw.set_ _ _ _ _ _))
          have R8 : Hid (Blk w8 w.heap.size 25 #[.int .i64 0, .slice none 0 0]) := hide (by rw [h8]; exact (RR.out.set_ 0 _).set_ 1 _)
          have k0 : w8.cell? ⟨w.heap.size, 0, none⟩ = some (.int .i64 0) := R8.out.cell 0
          have k1 : w8.cell? ⟨w.heap.size, 1, none⟩ = some (.slice none 0 0) := R8.out.cell 1
          refine bodyPost_ret (v := .tuple #[.agg #[.int .i64 0, .slice none 0 0], .int .i64 0, .int .i64 sf]) (by simp [results, Try.results11, go_sem, k0, k1]) rfl (RfGives.no HR.out.1 HR.out.2 HS0.out (tw_ext E2.out T8.out (Nat.le_refl _)))
      · have HR := hide (HMQ.out hmk)
        have d2 : ((m4 : Int) != (mk : Int)) = true := by simp; omega
        have RR := RR3
        have E2 := E3
        clear hmk HMQ HMO
        go_wp2_with fail
        refine gen_bod fun w8 h8 => ?_
        have T8 : Hid (Tw w3 w8 w.heap.size none) := hide (by rw [h8]; exact (Tw.set_ _ _ _ _ _).trans (Tw.set_ _ _ _ _ _))
        have R8 : Hid (Blk w8 w.heap.size 25 #[.int .i64 0, .slice none 0 0]) := hide (by rw [h8]; exact (RR.out.set_ 0 _).set_ 1 _)
        have k0 : w8.cell? ⟨w.heap.size, 0, none⟩ = some (.int .i64 0) := R8.out.cell 0
        have k1 : w8.cell? ⟨w.heap.size, 1, none⟩ = some (.slice none 0 0) := R8.out.cell 1
        refine bodyPost_ret (v := .tuple #[.agg #[.int .i64 0, .slice none 0 0], .int .i64 14, .int .i64 3]) (by simp [results, Try.results11, go_sem, k0, k1]) rfl (RfGives.no HR.out.1 HR.out.2 (by omega) (tw_ext E2.out T8.out (Nat.le_refl _)))
end Go.Proofs.Ytccmbokodifdoaa
