/- Walk: CheckTable (reference). Conditions as stated. -/
import Derived.Test.YtlonhkjplijlcaaMrg18
import Derived.Test.YtlonhkjplijlcaaMrg17
namespace Go.Proofs.Ytlonhkjplijlcaa
open Go.RowKit
set_option linter.unusedVariables false in
set_option linter.unusedSimpArgs false in
set_option maxRecDepth 100000 in
set_option maxHeartbeats 16000000 in
theorem refCheckTable_any {st : Int} {sA : Option Addr} {sn sc : Nat} {hA : Option Addr} {hn hc : Nat} {zA : Option Addr} {zn zc : Nat} {kA : Option Addr} {kn kc : Nat} {cA : Option Addr} {cn cc : Nat} {pA : Option Addr} {pn pc : Nat} {t : Tab} {w : World} (h : TabAt w sA sn sc hA hn hc zA zn zc kA kn kc cA cn cc pA pn pc t) (hst : t.start = st) (hz : TabSz sn hn zn kn cn pn) :
    Calls Try.prog 63 #[.agg #[.int .i64 st, .slice sA sn sc, .slice hA hn hc, .slice zA zn zc, .slice kA kn kc, .slice cA cn cc, .slice pA pn pc]] w fun e w' => e = .returned (.int .i64 (tabF t)) ∧ Ext w w' := by
  subst hst
  obtain ⟨st, S, SH, Z, K, nok, C, P⟩ := t
  simp only at h ⊢
  have E0 := hide (Ext.alloc w (.cells #[.int .i64 st, .slice sA sn sc, .slice hA hn hc, .slice zA zn zc, .slice kA kn kc, .slice cA cn cc, .slice pA pn pc] 73))
  have X0 := hide (Blk.new w 73 #[.int .i64 st, .slice sA sn sc, .slice hA hn hc, .slice zA zn zc, .slice kA kn kc, .slice cA cn cc, .slice pA pn pc])
  have HRS := hide (refCounted_any (least := 0) (h.steps.ext E0.out) hz.s)
  have HRH := hide (refCounted_any (least := -1000000000) (h.shifts.ext E0.out) hz.h)
  have HCF := hide (fun (n : Int) (W : World) (hW : Ext w W) => checkChunks_any (st := st) (sA := sA) (sn := sn) (sc := sc) (hA := hA) (hn := hn) (hc := hc) (zA := zA) (zn := zn) (zc := zc) (kA := kA) (kn := kn) (kc := kc) (n := n) (h.chunks.ext hW) (h.places.ext hW) hz.p)
  have HH := hide h
  have LZ := hide h.sizes.len
  have LK := hide h.keys.len
  have LS := hide h.steps.len
  have hzb := hz.z
  have hkb := hz.k
  have hsb := hz.s
  clear h hz
  cases hnt : noT st with
  | true =>
    have HE := hide (tabF_start (t := ⟨st, S, SH, Z, K, nok, C, P⟩) hnt)
    have HT := hide (istime_no hnt)
    clear hnt
    go_enter Try.func63, Try.ntmps63
    go_wp2_with fail
    with_reducible refine (HT.out _).mono ?_
    rintro e w' ⟨rfl, rfl⟩
    go_wp2_with fail
    go_ret
    exact ⟨ret_int HE.out.symm, E0.out⟩
  | false =>
  have HT := hide (istime_yes hnt)
  have HNT := hide hnt
  clear hnt
  by_cases hs : runsF 0 S = 0
  rotate_left
  · have HE := hide (tabF_steps (t := ⟨st, S, SH, Z, K, nok, C, P⟩) HNT.out hs)
    simp only at HE
    generalize cntV 0 S = cv at *
    generalize runsF 0 S = f at *
    have d0 : (f != 0) = true := by simp [hs]
    clear hs
    go_enter Try.func63, Try.ntmps63
    go_wp2_with fail
    with_reducible refine (HT.out _).mono ?_
    rintro e w' ⟨rfl, rfl⟩
    go_wp2_with fail
    with_reducible refine HRS.out.mono ?_
    rintro e w' ⟨rfl, rfl⟩
    go_wp2_with fail
    go_ret
    exact ⟨ret_int HE.out.symm, E0.out⟩
  have HS0 := hide hs
  have hcv : cntV 0 S = cntA S := by unfold cntV; rw [if_pos hs]
  rw [hs, hcv] at HRS
  have hcb : (0 : Int) ≤ cntA S ∧ cntA S ≤ 5000 * (S.length : Int) := by have := cntI_bd hs S.length (Nat.le_refl _); unfold cntA; omega
  have HEB := hide (endI_bd (s := st) hs)
  clear hs hcv
  obtain ⟨N, hN⟩ : ∃ N, N = cntA S := ⟨_, rfl⟩
  rw [← hN] at hcb HRS
  have HN := hide hN
  clear hN
  by_cases hlg : 5000 < N
  · have HE := hide (tabF_large (t := ⟨st, S, SH, Z, K, nok, C, P⟩) HNT.out HS0.out (by show 5000 < cntA S; rw [← HN.out]; exact hlg))
    go_enter Try.func63, Try.ntmps63
    go_wp2_with fail
    with_reducible refine (HT.out _).mono ?_
    rintro e w' ⟨rfl, rfl⟩
    go_wp2_with fail
    with_reducible refine HRS.out.mono ?_
    rintro e w' ⟨rfl, rfl⟩
    go_wp2_with fail
    go_ret
    exact ⟨ret_int HE.out.symm, E0.out⟩
  have hnl : ¬ 5000 < cntA S := by rw [← HN.out]; exact hlg
  by_cases hsh : runsF (-1000000000) SH = 0
  rotate_left
  · have HE := hide (tabF_shifts (t := ⟨st, S, SH, Z, K, nok, C, P⟩) HNT.out HS0.out hnl hsh)
    simp only at HE
    generalize cntV (-1000000000) SH = cv at *
    generalize runsF (-1000000000) SH = f at *
    have d0 : (f != 0) = true := by simp [hsh]
    clear hsh hnl
    go_enter Try.func63, Try.ntmps63
    go_wp2_with fail
    with_reducible refine (HT.out _).mono ?_
    rintro e w' ⟨rfl, rfl⟩
    go_wp2_with fail
    with_reducible refine HRS.out.mono ?_
    rintro e w' ⟨rfl, rfl⟩
    go_wp2_with fail
    with_reducible refine HRH.out.mono ?_
    rintro e w' ⟨rfl, rfl⟩
    go_wp2_with fail
    go_ret
    exact ⟨ret_int HE.out.symm, E0.out⟩
  have HF2 := hide (tabF_two (t := ⟨st, S, SH, Z, K, nok, C, P⟩) HNT.out HS0.out hnl hsh)
  have hcv : cntV (-1000000000) SH = cntA SH := by unfold cntV; rw [if_pos hsh]
  rw [hsh, hcv] at HRH
  have hmb : (0 : Int) ≤ cntA SH := by have := cntI_bd hsh SH.length (Nat.le_refl _); unfold cntA; omega
  clear hsh hnl hcv
  obtain ⟨M, hM⟩ : ∃ M, M = cntA SH := ⟨_, rfl⟩
  rw [← hM] at hmb HRH
  have HM := hide hM
  clear hM
  have HSB : Hid ((cntA SH ≠ cntA S ∨ szBad (cntA S) Z.length) ↔ (M ≠ N ∨ ((zn : Int) ≠ N ∧ (N = 0 ∨ zn ≠ 1)))) := hide (by unfold szBad; rw [← HM.out, ← HN.out, LZ.out])
  go_enter Try.func63, Try.ntmps63
  go_wp2_with fail
  with_reducible refine (HT.out _).mono ?_
  rintro e w' ⟨rfl, rfl⟩
  go_wp2_with fail
  with_reducible refine HRS.out.mono ?_
  rintro e w' ⟨rfl, rfl⟩
  go_wp2_with fail
  with_reducible refine HRH.out.mono ?_
  rintro e w' ⟨rfl, rfl⟩
  clear HRS HRH
  go_upto_region 11 with (fail)
  refine gen_wpC fun w4 h4 => ?_
  have E4 : Hid (Ext w w4) := hide (by rw [h4]; exact E0.out)
  have X4 : Hid (Blk w4 w.heap.size 73 #[.int .i64 st, .slice sA sn sc, .slice hA hn hc, .slice zA zn zc, .slice kA kn kc, .slice cA cn cc, .slice pA pn pc]) := hide (by rw [h4]; exact X0.out)
  clear h4 E0 X0
  have x3 : w4.cell? ⟨w.heap.size, 3, none⟩ = some (.slice zA zn zc) := X4.out.cell 3
  go_cut [55] (fun sv wx => sv = .bool (decide (M ≠ N ∨ ((zn : Int) ≠ N ∧ (N = 0 ∨ zn ≠ 1)))) ∧ w4 = wx)
  case first =>
    by_cases h1 : M = N
    · have d1 : (M != N) = false := by simp [h1]
      by_cases h2 : (zn : Int) = N
      · have d2 : ((zn : Int) != N) = false := by simp [h2]
        have HD : Hid (decide (M ≠ N ∨ ((zn : Int) ≠ N ∧ (N = 0 ∨ zn ≠ 1))) = false) := hide (by rw [decide_eq_false_iff_not]; omega)
        clear h1 h2
        go_wp2_with fail
        go_meet
        exact ⟨by rw [HD.out], rfl⟩
      · have d2 : ((zn : Int) != N) = true := by simp; omega
        by_cases h3 : N = 0
        · have d3 : decide ((0 : Int) < N) = false := by simp; omega
          have HD : Hid (decide (M ≠ N ∨ ((zn : Int) ≠ N ∧ (N = 0 ∨ zn ≠ 1))) = true) := hide (by rw [decide_eq_true_iff]; omega)
          clear h1 h2 h3
          go_wp2_with fail
          go_meet
          exact ⟨by rw [HD.out], rfl⟩
        · have d3 : decide ((0 : Int) < N) = true := by simp; omega
          have HD : Hid (decide (M ≠ N ∨ ((zn : Int) ≠ N ∧ (N = 0 ∨ zn ≠ 1))) = !((zn : Int) == 1)) := hide (by rw [Bool.eq_iff_iff, decide_eq_true_iff]; simp; omega)
          clear h1 h2 h3
          go_wp2_with fail
          go_meet
          exact ⟨by rw [HD.out]; first | done | rfl | simp, rfl⟩
    · have d1 : (M != N) = true := by simp [h1]
      have HD : Hid (decide (M ≠ N ∨ ((zn : Int) ≠ N ∧ (N = 0 ∨ zn ≠ 1))) = true) := hide (by rw [decide_eq_true_iff]; omega)
      clear h1
      go_wp2_with fail
      go_meet
      exact ⟨by rw [HD.out], rfl⟩
  case rest =>
  obtain ⟨rfl, hw⟩ := hcut
  subst hw
  cases hbad : decide (M ≠ N ∨ ((zn : Int) ≠ N ∧ (N = 0 ∨ zn ≠ 1))) with
  | true =>
    have HE : Hid (tabF ⟨st, S, SH, Z, K, nok, C, P⟩ = 3) := hide (by rw [HF2.out]; exact tabF2_form (t := ⟨st, S, SH, Z, K, nok, C, P⟩) (HSB.out.2 (of_decide_eq_true hbad)))
    clear hbad
    go_wp2_with fail
    go_ret
    exact ⟨ret_int HE.out.symm, E4.out⟩
  | false =>
  have HNB := hide (fun hc => of_decide_eq_false hbad (HSB.out.1 hc))
  clear hbad
  have HZB := hide (fun (k : Nat) (hk : k < zn) (ha : ∀ j, j < k → szEl Z j = 0) (hn : szEl Z k ≠ 0) => (firstF_at ha hn (n := Z.length) (by rw [LZ.out]; exact hk) : firstF (szEl Z) Z.length = szEl Z k))
  have HZO := hide (fun (ha : ∀ j, j < zn → szEl Z j = 0) => (firstF_zero (fun j hj => ha j (by rw [← LZ.out]; exact hj)) : firstF (szEl Z) Z.length = 0))
  go_upto_region 14 with (fail)
  go_loopw [6] (fun ri wr => ∃ k : Nat, k ≤ zn ∧ ri = .int .i64 k ∧ Hid (∀ j, j < k → szEl Z j = 0) ∧ w4 = wr) (fun ri _ => zn - (intOf ri).toNat)
  case atStart => exact ⟨0, by omega, rfl, hide (fun j hj => by omega), rfl⟩
  case round =>
    obtain ⟨k, hk, rfl, HA, hw⟩ := hrel
    subst hw
    by_cases hlt : k < zn
    · obtain ⟨b, off, rfl, _⟩ := HH.out.sizes.addr (by omega)
      have a0 := (HH.out.sizes.ext E4.out).num hlt
      have hel : szEl Z k = if Z.getD k 0 < 0 ∨ 100000 < Z.getD k 0 then 1 else 0 := rfl
      have HS : Hid (szEl Z k = 0 → ∀ j, j < k + 1 → szEl Z j = 0) := hide (fun h0 j hj => by
        rcases Nat.lt_succ_iff_lt_or_eq.1 hj with h | h
        · exact HA.out j h
        · rw [h]; exact h0)
      have HB := hide (HZB.out k hlt HA.out)
      generalize Z.getD k 0 = x at *
      have i1 : (k : Int) < (zn : Int) := by omega
      have i0 : (0 : Int) ≤ (k : Int) := by omega
      have i8 : IntKind.i64.wrap ((k : Int) + 1) = (k : Int) + 1 := by rw [IntKind.wrap_i64]; omega
      by_cases hx : x < 0 ∨ 100000 < x
      · rw [if_pos hx] at hel
        have HE : Hid (tabF ⟨st, S, SH, Z, K, nok, C, P⟩ = 1) := hide (by have := HB.out (by omega); rw [HF2.out, tabF2_sizes (t := ⟨st, S, SH, Z, K, nok, C, P⟩) HNB.out (by show firstF (szEl Z) Z.length ≠ 0; omega)]; show firstF (szEl Z) Z.length = 1; omega)
        clear hel
        go_wp2_with ((go_at_call 22; with_reducible refine (within_no hx _).mono ?_); rintro e w' ⟨rfl, rfl⟩)
        go_ret
        exact ⟨ret_int HE.out.symm, E4.out⟩
      · rw [if_neg hx] at hel
        have hx2 : 0 ≤ x ∧ x ≤ 100000 := by omega
        have HE := hide (HS.out hel)
        clear hel hx
        go_wp2_with ((go_at_call 22; with_reducible refine (within_yes hx2 _).mono ?_); rintro e w' ⟨rfl, rfl⟩)
        exact ⟨⟨k + 1, by omega, by go_num, HE, by first | rfl | trivial⟩, by simp [intOf]; omega⟩
    · obtain rfl : k = zn := by omega
      have HZZ := hide (HZO.out HA.out)
      clear hlt HZB HZO HA
      have x4 : w4.cell? ⟨w.heap.size, 4, none⟩ = some (.slice kA kn kc) := X4.out.cell 4
      have HKB := hide (fun (i : Nat) (hi : i < kn) (ha : ∀ j, j < i → kyEl N K j = 0) (hn : kyEl N K i ≠ 0) => (firstF_at ha hn (n := K.length) (by rw [LK.out]; exact hi) : firstF (kyEl N K) K.length = kyEl N K i))
      have HKO := hide (fun (ha : ∀ j, j < kn → kyEl N K j = 0) => (firstF_zero (fun j hj => ha j (by rw [← LK.out]; exact hj)) : firstF (kyEl N K) K.length = 0))
      go_upto_region 19 with (fail)
      clear x3 x4
      go_loopw [7] (fun ri wr => ∃ i : Nat, i ≤ kn ∧ ri = .int .i64 i ∧ Hid (∀ j, j < i → kyEl N K j = 0) ∧ Hid (Ext w4 wr)) (fun ri _ => kn - (intOf ri).toNat)
      case atStart => exact ⟨0, by omega, rfl, hide (fun j hj => by omega), hide (Ext.refl _)⟩
      case round =>
        obtain ⟨i, hi, rfl, HA, HX⟩ := hrel
        have HXW := hide (Ext.trans E4.out HX.out)
        have X5 := hide (X4.out.ext HX.out)
        have x4 : wr.cell? ⟨w.heap.size, 4, none⟩ = some (.slice kA kn kc) := X5.out.cell 4
        by_cases hit : i < kn
        · obtain ⟨b, off, rfl, _⟩ := HH.out.keys.addr (by omega)
          have a0 := (HH.out.keys.ext HXW.out).num hit
          have hpr : 0 < i → wr.cell? ⟨b, off + (i - 1), none⟩ = some (.int .i64 (K.getD (i - 1) 0)) := fun h0 => (HH.out.keys.ext HXW.out).num (k := i - 1) (by omega)
          have hel : kyEl N K i = if K.getD i 0 < 1 ∨ N < K.getD i 0 then 1 else if 0 < i ∧ K.getD i 0 ≤ K.getD (i - 1) 0 then 8 else 0 := rfl
          have HS : Hid (kyEl N K i = 0 → ∀ j, j < i + 1 → kyEl N K j = 0) := hide (fun h0 j hj => by
            rcases Nat.lt_succ_iff_lt_or_eq.1 hj with h | h
            · exact HA.out j h
            · rw [h]; exact h0)
          have HB : Hid (kyEl N K i ≠ 0 → tabF ⟨st, S, SH, Z, K, nok, C, P⟩ = kyEl N K i) := hide (fun hne => by
            have h1 := HKB.out i hit HA.out hne
            rw [HF2.out, tabF2_keys (t := ⟨st, S, SH, Z, K, nok, C, P⟩) HNB.out HZZ.out (by show firstF (kyEl (cntA S) K) K.length ≠ 0; rw [← HN.out]; omega)]
            show firstF (kyEl (cntA S) K) K.length = _
            rw [← HN.out]; exact h1)
          generalize K.getD i 0 = x at *
          generalize K.getD (i - 1) 0 = px at *
          have i1 : (i : Int) < (kn : Int) := by omega
          have i0 : (0 : Int) ≤ (i : Int) := by omega
          have i8 : IntKind.i64.wrap ((i : Int) + 1) = (i : Int) + 1 := by rw [IntKind.wrap_i64]; omega
          by_cases hx : x < 1 ∨ N < x
          · rw [if_pos hx] at hel
            have HE : Hid (tabF ⟨st, S, SH, Z, K, nok, C, P⟩ = 1) := hide (by have := HB.out (by omega); omega)
            clear hel hpr
            go_wp2_with ((go_at_call 22; with_reducible refine (within_no hx _).mono ?_); rintro e w' ⟨rfl, rfl⟩)
            go_ret
            exact ⟨ret_int HE.out.symm, HXW.out⟩
          rw [if_neg hx] at hel
          have hx2 : 1 ≤ x ∧ x ≤ N := by omega
          clear hx
          go_upto_region 23 with ((go_at_call 22; with_reducible refine (within_yes hx2 _).mono ?_); rintro e w' ⟨rfl, rfl⟩)
          go_cut [100] (fun sv wx => sv = .bool (decide (0 < i ∧ x ≤ px)) ∧ Hid (Ext wr wx))
          case first =>
            rcases Nat.eq_zero_or_pos i with hi0 | hi0
            · have HD : Hid (decide (0 < i ∧ x ≤ px) = false) := hide (by rw [decide_eq_false_iff_not]; omega)
              have d1 : decide ((0 : Int) < (i : Int)) = false := by simp; omega
              have d2 : decide (0 < i) = false := by simp; omega
              clear hel hpr hi0
              go_region
              go_wp2_with fail
              go_meet
              exact ⟨by rw [HD.out], hide (by repeat' (first | (with_reducible exact Below.refl _ _) | (with_reducible assumption) | (with_reducible refine below_drewN ?_ _) | (with_reducible refine Below.drew ?_) | (with_reducible refine ext_alloc ?_ _) | (with_reducible refine Below.setCell ?_ ?_ _) | go_size))⟩
            · have d1 : decide ((0 : Int) < (i : Int)) = true := by simp; omega
              have d2 : decide (0 < i) = true := by simp; omega
              have p0 := hpr hi0
              have i2 : IntKind.i64.wrap ((i : Int) - 1) = (i : Int) - 1 := by rw [IntKind.wrap_i64]; omega
              have i3 : ((i : Int) - 1).toNat = i - 1 := by omega
              have i4 : (0 : Int) ≤ (i : Int) - 1 := by omega
              have i5 : (i : Int) - 1 < (kn : Int) := by omega
              have i6 : (1 : Int) ≤ (i : Int) := by omega
              have i7 : (i : Int) ≤ (kn : Int) := by omega
              have HD : Hid (decide (0 < i ∧ x ≤ px) = decide (x ≤ px)) := hide (by rw [decide_eq_decide]; omega)
              clear hel hpr hi0
              go_region
              go_wp2_with fail
              go_meet
              exact ⟨by rw [HD.out], hide (by repeat' (first | (with_reducible exact Below.refl _ _) | (with_reducible assumption) | (with_reducible refine below_drewN ?_ _) | (with_reducible refine Below.drew ?_) | (with_reducible refine ext_alloc ?_ _) | (with_reducible refine Below.setCell ?_ ?_ _) | go_size))⟩
          case rest =>
          obtain ⟨rfl, F7⟩ := hcut
          by_cases hle : 0 < i ∧ x ≤ px
          · rw [if_pos hle] at hel
            have HE : Hid (tabF ⟨st, S, SH, Z, K, nok, C, P⟩ = 8) := hide (by have := HB.out (by omega); omega)
            have d9 : decide (0 < i ∧ x ≤ px) = true := by rw [decide_eq_true_iff]; exact hle
            rw [d9]
            clear hel hpr hle
            go_wp2_with fail
            go_ret
            exact ⟨ret_int HE.out.symm, Ext.trans HXW.out F7.out⟩
          · rw [if_neg hle] at hel
            have HE := hide (HS.out hel)
            have d9 : decide (0 < i ∧ x ≤ px) = false := by rw [decide_eq_false_iff_not]; exact hle
            rw [d9]
            clear hel hpr hle
            go_wp2_with fail
            exact ⟨⟨i + 1, by omega, by go_num, HE, hide (Ext.trans HX.out F7.out)⟩, by simp [intOf]; omega⟩
        · obtain rfl : i = kn := by omega
          have HF3 : Hid (tabF ⟨st, S, SH, Z, K, nok, C, P⟩ = tabF3 ⟨st, S, SH, Z, K, nok, C, P⟩) := hide (by
            rw [HF2.out, tabF2_three (t := ⟨st, S, SH, Z, K, nok, C, P⟩) HNB.out HZZ.out (by show firstF (kyEl (cntA S) K) K.length = 0; rw [← HN.out]; exact HKO.out HA.out)])
          clear hit HKB HKO HA
          have x0 : wr.cell? ⟨w.heap.size, 0, none⟩ = some (.int .i64 st) := X5.out.cell 0
          have x1 : wr.cell? ⟨w.heap.size, 1, none⟩ = some (.slice sA sn sc) := X5.out.cell 1
          have x2 : wr.cell? ⟨w.heap.size, 2, none⟩ = some (.slice hA hn hc) := X5.out.cell 2
          have x3 : wr.cell? ⟨w.heap.size, 3, none⟩ = some (.slice zA k zc) := X5.out.cell 3
          have x5 : wr.cell? ⟨w.heap.size, 5, none⟩ = some (.slice cA cn cc) := X5.out.cell 5
          have x6 : wr.cell? ⟨w.heap.size, 6, none⟩ = some (.slice pA pn pc) := X5.out.cell 6
          have HFD : Hid (tabF3 ⟨st, S, SH, Z, K, nok, C, P⟩ = if chunksF N C P ≠ 0 then chunksF N C P else if noT (endI st S sn) = true then 1 else 0) := hide (by
            have h1 : S.length = sn := LS.out
            unfold tabF3; rw [← HN.out]; show (if chunksF N C P ≠ 0 then chunksF N C P else if noT (endI st S S.length) = true then 1 else 0) = _; rw [h1])
          have HCC := hide (HCF.out N)
          by_cases hch : chunksF N C P = 0
          rotate_left
          · have HE : Hid (tabF ⟨st, S, SH, Z, K, nok, C, P⟩ = chunksF N C P) := hide (by rw [HF3.out, HFD.out, if_pos hch])
            generalize chunksF N C P = f at *
            have d0 : (f != 0) = true := by simp [hch]
            clear hch HCF
            go_wp2_with fail
            with_reducible refine (HCC.out _ HXW.out).mono ?_
            rintro e w5 ⟨rfl, e5⟩
            have E5 := hide (Ext.trans HXW.out e5)
            clear e5
            go_wp2_with fail
            go_ret
            exact ⟨ret_int HE.out.symm, E5.out⟩
          have HFE : Hid (tabF ⟨st, S, SH, Z, K, nok, C, P⟩ = if noT (endI st S sn) = true then 1 else 0) := hide (by rw [HF3.out, HFD.out, if_neg (by omega)])
          rw [hch] at HCC
          clear hch HCF HFD HF3
          go_wp2_with fail
          with_reducible refine (HCC.out _ HXW.out).mono ?_
          rintro e w5 ⟨rfl, e5⟩
          have E5 := hide (Ext.trans HXW.out e5)
          have X6 := hide (X5.out.ext e5)
          clear e5 E4 X4 x0 x1 x2 x3 x4 x5 x6 HCC HX HXW X5
          have x0 : w5.cell? ⟨w.heap.size, 0, none⟩ = some (.int .i64 st) := X6.out.cell 0
          have hstb : -1000000000000000 ≤ st ∧ st ≤ 1000000000000000 := by have h1 := HNT.out; unfold noT at h1; simp only [decide_eq_false_iff_not] at h1; omega
          have HBS : Hid (∀ q, q ≤ sn → (st ≤ endI st S q ∧ endI st S q ≤ st + 5000000000000) ∧ (q < sn → 0 ≤ (S.getD q (0, 0)).1 * (S.getD q (0, 0)).2 ∧ (S.getD q (0, 0)).1 * (S.getD q (0, 0)).2 ≤ 5000000000000)) := hide (fun q hq => by
            have hqs : q ≤ S.length := by have h9 : S.length = sn := LS.out; omega
            have h1 := HEB.out q hqs
            have h2 : cntI S q ≤ cntI S S.length := by
              have key : ∀ m, q ≤ m → m ≤ S.length → cntI S q ≤ cntI S m := by
                intro m
                induction m with
                | zero => intro h1 _; rw [show q = 0 by omega]; exact Int.le_refl _
                | succ m ih =>
                  intro h1 h2
                  rcases Nat.eq_or_lt_of_le h1 with h3 | h3
                  · rw [h3]; exact Int.le_refl _
                  · have := ih (by omega) (by omega)
                    have h4 := (runs_ok HS0.out m (by omega)).1
                    rw [cntI]; omega
              exact key _ hqs (Nat.le_refl _)
            have h3 : cntI S S.length = N := HN.out.symm
            refine ⟨by omega, fun hlt => ?_⟩
            have h4 := runs_ok HS0.out q (by have h9 : S.length = sn := LS.out; omega)
            have h5 : 0 ≤ (S.getD q (0, 0)).1 * (S.getD q (0, 0)).2 := Int.mul_nonneg (by omega) (by omega)
            have h6 : (S.getD q (0, 0)).1 * (S.getD q (0, 0)).2 ≤ 5000 * 1000000000 := Int.mul_le_mul (by omega) (by omega) (by omega) (by omega)
            omega)
          go_upto_region 30 with (fail)
          go_loopw [9, 10] (fun rs ri wr => ∃ q : Nat, q ≤ sn ∧ ri = .int .i64 q ∧ rs = .int .i64 (endI st S q) ∧ Hid (Ext w5 wr)) (fun _ ri _ => sn - (intOf ri).toNat)
          case atStart => exact ⟨0, by omega, rfl, rfl, hide (Ext.refl _)⟩
          case round =>
            obtain ⟨q, hq, rfl, rfl, HX⟩ := hrel
            have HXW := hide (Ext.trans E5.out HX.out)
            have x1 : wr.cell? ⟨w.heap.size, 1, none⟩ = some (.slice sA sn sc) := (X6.out.ext HX.out).cell 1
            by_cases hqt : q < sn
            · obtain ⟨b, off, rfl, _⟩ := HH.out.steps.addr (by omega)
              obtain ⟨a0, a1⟩ := (HH.out.steps.ext HXW.out).pair hqt
              obtain ⟨E1_, hE1⟩ : ∃ E1_, E1_ = endI st S (q + 1) := ⟨_, rfl⟩
              have hs : E1_ = endI st S q + (S.getD q (0, 0)).1 * (S.getD q (0, 0)).2 := hE1
              have b0 := HBS.out q (by omega)
              have b1 := (HBS.out (q + 1) (by omega)).1
              rw [← hE1] at b1
              have b2 := b0.2 hqt
              have b3 := b0.1
              have HE1 := hide hE1
              clear hE1 b0
              simp only at a0 a1
              generalize endI st S q = E0_ at *
              generalize (S.getD q (0, 0)).1 = x at *
              generalize (S.getD q (0, 0)).2 = y at *
              obtain ⟨xy, hxy⟩ : ∃ xy, xy = x * y := ⟨_, rfl⟩
              rw [← hxy] at b2 hs
              have i1 : (q : Int) < (sn : Int) := by omega
              have i0 : (0 : Int) ≤ (q : Int) := by omega
              have i8 : IntKind.i64.wrap ((q : Int) + 1) = (q : Int) + 1 := by rw [IntKind.wrap_i64]; omega
              have u1 : IntKind.i64.wrap (x * y) = xy := by rw [← hxy, IntKind.wrap_i64]; omega
              have u2 : IntKind.i64.wrap (E0_ + xy) = E1_ := by rw [IntKind.wrap_i64]; omega
              clear hs b1 b2 b3 hxy
              go_upto_region 32 with (fail)
              go_region
              go_wp2_with fail
              exact ⟨⟨q + 1, by omega, by go_num, by rw [HE1.out], hide (Ext.trans HX.out (by repeat' (first | (with_reducible exact Below.refl _ _) | (with_reducible assumption) | (with_reducible refine below_drewN ?_ _) | (with_reducible refine Below.drew ?_) | (with_reducible refine ext_alloc ?_ _) | (with_reducible refine Below.setCell ?_ ?_ _) | go_size)))⟩, by simp [intOf]; omega⟩
            · obtain rfl : q = sn := by omega
              clear hqt HBS
              generalize endI st S q = en at *
              cases hne : noT en with
              | true =>
                have HE : Hid (tabF ⟨st, S, SH, Z, K, nok, C, P⟩ = 1) := hide (by rw [HFE.out, if_pos hne])
                have HT2 := hide (istime_no hne)
                clear hne
                go_wp2_with fail
                with_reducible refine (HT2.out _).mono ?_
                rintro e w' ⟨rfl, rfl⟩
                go_wp2_with fail
                go_ret
                exact ⟨ret_int HE.out.symm, HXW.out⟩
              | false =>
                have HE : Hid (tabF ⟨st, S, SH, Z, K, nok, C, P⟩ = 0) := hide (by rw [HFE.out, if_neg (by rw [hne]; simp)])
                have HT2 := hide (istime_yes hne)
                clear hne
                go_wp2_with fail
                with_reducible refine (HT2.out _).mono ?_
                rintro e w' ⟨rfl, rfl⟩
                go_wp2_with fail
                go_ret
                exact ⟨ret_int HE.out.symm, HXW.out⟩
end Go.Proofs.Ytlonhkjplijlcaa
