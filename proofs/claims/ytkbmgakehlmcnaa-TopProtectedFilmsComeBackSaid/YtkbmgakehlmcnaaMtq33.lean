/- Several texts in one: Walk: CheckTable (program). Conditions as stated; Walk: TableBytes (program). Conditions as stated. -/
import Derived.Test.YtkbmgakehlmcnaaMtq19
import Derived.Test.YtkbmgakehlmcnaaMtq21
namespace Go.Proofs.Ytkbmgakehlmcnaa
open Go.RowKit
structure TabSz (sn hn zn kn cn pn : Nat) : Prop where
  s : sn ≤ 17592186044416
  h : hn ≤ 17592186044416
  z : zn ≤ 17592186044416
  k : kn ≤ 17592186044416
  c : cn ≤ 17592186044416
  p : pn ≤ 17592186044416
set_option linter.unusedVariables false in
set_option linter.unusedSimpArgs false in
set_option maxRecDepth 100000 in
set_option maxHeartbeats 16000000 in
theorem checkTable_any {st : Int} {sA : Option Addr} {sn sc : Nat} {hA : Option Addr} {hn hc : Nat} {zA : Option Addr} {zn zc : Nat} {kA : Option Addr} {kn kc : Nat} {cA : Option Addr} {cn cc : Nat} {pA : Option Addr} {pn pc : Nat} {t : Tab} {w : World} (h : TabAt w sA sn sc hA hn hc zA zn zc kA kn kc cA cn cc pA pn pc t) (hst : t.start = st) (hz : TabSz sn hn zn kn cn pn) :
    Calls Try.prog 57 #[.agg #[.int .i64 st, .slice sA sn sc, .slice hA hn hc, .slice zA zn zc, .slice kA kn kc, .slice cA cn cc, .slice pA pn pc]] w fun e w' => e = .returned (.int .i64 (tabF t)) ∧ Ext w w' := by
  subst hst
  obtain ⟨st, S, SH, Z, K, nok, C, P⟩ := t
  simp only at h ⊢
  have E0 := hide (Ext.alloc w (.cells #[.int .i64 st, .slice sA sn sc, .slice hA hn hc, .slice zA zn zc, .slice kA kn kc, .slice cA cn cc, .slice pA pn pc] 82))
  have X0 := hide (Blk.new w 82 #[.int .i64 st, .slice sA sn sc, .slice hA hn hc, .slice zA zn zc, .slice kA kn kc, .slice cA cn cc, .slice pA pn pc])
  have HRS := hide (fun (W : World) (hW : Ext w W) => runsFault_any (least := 0) (h.steps.ext hW))
  have HRH := hide (fun (W : World) (hW : Ext w W) => runsFault_any (least := -1000000000) (h.shifts.ext hW))
  have HCS := hide (fun (hr : runsF 0 S = 0) (W : World) (hW : Ext w W) => counted_any (h.steps.ext hW) hr hz.s)
  have HCH := hide (fun (hr : runsF (-1000000000) SH = 0) (W : World) (hW : Ext w W) => counted_any (h.shifts.ext hW) hr hz.h)
  have HCF := hide (fun (n : Int) (W : World) (hW : Ext w W) => chunksFault_any (st := st) (sA := sA) (sn := sn) (sc := sc) (hA := hA) (hn := hn) (hc := hc) (zA := zA) (zn := zn) (zc := zc) (kA := kA) (kn := kn) (kc := kc) (n := n) (h.chunks.ext hW) (h.places.ext hW) hz.p)
  have HH := hide h
  have LZ := hide h.sizes.len
  have LK := hide h.keys.len
  have LS := hide h.steps.len
  have hzb := hz.z
  have hkb := hz.k
  have hsb := hz.s
  have HZ := hide hz
  clear h hz
  have x0 : (w.alloc (.cells #[.int .i64 st, .slice sA sn sc, .slice hA hn hc, .slice zA zn zc, .slice kA kn kc, .slice cA cn cc, .slice pA pn pc] 82)).cell? ⟨w.heap.size, 0, none⟩ = some (.int .i64 st) := X0.out.cell 0
  cases hnt : noT st with
  | true =>
    have HE := hide (tabF_start (t := ⟨st, S, SH, Z, K, nok, C, P⟩) hnt)
    have HT := hide (notime_yes hnt)
    clear hnt
    go_enter Try.func57, Try.ntmps57
    go_wp2_with fail
    with_reducible refine (HT.out _).mono ?_
    rintro e w' ⟨rfl, rfl⟩
    go_wp2_with fail
    go_ret
    exact ⟨ret_int HE.out.symm, E0.out⟩
  | false =>
  have HT := hide (notime_no hnt)
  have HNT := hide hnt
  clear hnt
  by_cases hs : runsF 0 S = 0
  rotate_left
  · have HE := hide (tabF_steps (t := ⟨st, S, SH, Z, K, nok, C, P⟩) HNT.out hs)
    simp only at HE
    generalize runsF 0 S = f at *
    have d0 : (f != 0) = true := by simp [hs]
    clear hs
    go_enter Try.func57, Try.ntmps57
    go_wp2_with fail
    with_reducible refine (HT.out _).mono ?_
    rintro e w' ⟨rfl, rfl⟩
    go_wp2_with fail
    with_reducible refine (HRS.out _ E0.out).mono ?_
    rintro e w1 ⟨rfl, e1⟩
    have E1 := hide (Ext.trans E0.out e1)
    clear e1
    go_wp2_with fail
    go_ret
    exact ⟨ret_int HE.out.symm, E1.out⟩
  have HS0 := hide hs
  have HCS2 := hide (HCS.out hs)
  rw [hs] at HRS
  have HCB := hide (cntI_bd hs)
  have hcb : (0 : Int) ≤ cntA S ∧ cntA S ≤ 5000 * (S.length : Int) := by have := cntI_bd hs S.length (Nat.le_refl _); unfold cntA; omega
  have HEB := hide (endI_bd (s := st) hs)
  clear hs HCS
  obtain ⟨N, hN⟩ : ∃ N, N = cntA S := ⟨_, rfl⟩
  rw [← hN] at hcb HCS2
  have HN := hide hN
  clear hN
  by_cases hlg : 5000 < N
  · have HE := hide (tabF_large (t := ⟨st, S, SH, Z, K, nok, C, P⟩) HNT.out HS0.out (by show 5000 < cntA S; rw [← HN.out]; exact hlg))
    go_enter Try.func57, Try.ntmps57
    go_wp2_with fail
    with_reducible refine (HT.out _).mono ?_
    rintro e w' ⟨rfl, rfl⟩
    go_wp2_with fail
    with_reducible refine (HRS.out _ E0.out).mono ?_
    rintro e w1 ⟨rfl, e1⟩
    have E1 := hide (Ext.trans E0.out e1)
    have x1 : w1.cell? ⟨w.heap.size, 1, none⟩ = some (.slice sA sn sc) := (X0.out.ext e1).cell 1
    clear e1
    go_wp2_with fail
    with_reducible refine (HCS2.out _ E1.out).mono ?_
    rintro e w2 ⟨rfl, e2⟩
    have E2 := hide (Ext.trans E1.out e2)
    clear e2
    go_wp2_with fail
    go_ret
    exact ⟨ret_int HE.out.symm, E2.out⟩
  have hnl : ¬ 5000 < cntA S := by rw [← HN.out]; exact hlg
  by_cases hsh : runsF (-1000000000) SH = 0
  rotate_left
  · have HE := hide (tabF_shifts (t := ⟨st, S, SH, Z, K, nok, C, P⟩) HNT.out HS0.out hnl hsh)
    simp only at HE
    generalize runsF (-1000000000) SH = f at *
    have d0 : (f != 0) = true := by simp [hsh]
    have X0_ := X0
    clear hsh hnl
    go_enter Try.func57, Try.ntmps57
    go_wp2_with fail
    with_reducible refine (HT.out _).mono ?_
    rintro e w' ⟨rfl, rfl⟩
    go_wp2_with fail
    with_reducible refine (HRS.out _ E0.out).mono ?_
    rintro e w1 ⟨rfl, e1⟩
    have E1 := hide (Ext.trans E0.out e1)
    have X1 := hide (X0.out.ext e1)
    have x1 : w1.cell? ⟨w.heap.size, 1, none⟩ = some (.slice sA sn sc) := X1.out.cell 1
    clear e1
    go_wp2_with fail
    with_reducible refine (HCS2.out _ E1.out).mono ?_
    rintro e w2 ⟨rfl, e2⟩
    have E2 := hide (Ext.trans E1.out e2)
    have x2 : w2.cell? ⟨w.heap.size, 2, none⟩ = some (.slice hA hn hc) := (X1.out.ext e2).cell 2
    clear e2
    go_wp2_with fail
    with_reducible refine (HRH.out _ E2.out).mono ?_
    rintro e w3 ⟨rfl, e3⟩
    have E3 := hide (Ext.trans E2.out e3)
    clear e3
    go_wp2_with fail
    go_ret
    exact ⟨ret_int HE.out.symm, E3.out⟩
  have HF2 := hide (tabF_two (t := ⟨st, S, SH, Z, K, nok, C, P⟩) HNT.out HS0.out hnl hsh)
  have HCH2 := hide (HCH.out hsh)
  rw [hsh] at HRH
  have hmb : (0 : Int) ≤ cntA SH := by have := cntI_bd hsh SH.length (Nat.le_refl _); unfold cntA; omega
  clear hsh hnl HCH
  obtain ⟨M, hM⟩ : ∃ M, M = cntA SH := ⟨_, rfl⟩
  rw [← hM] at hmb HCH2
  have HM := hide hM
  clear hM
  go_enter Try.func57, Try.ntmps57
  go_wp2_with fail
  with_reducible refine (HT.out _).mono ?_
  rintro e w' ⟨rfl, rfl⟩
  go_wp2_with fail
  with_reducible refine (HRS.out _ E0.out).mono ?_
  rintro e w1 ⟨rfl, e1⟩
  have E1 := hide (Ext.trans E0.out e1)
  have X1 := hide (X0.out.ext e1)
  have x1 : w1.cell? ⟨w.heap.size, 1, none⟩ = some (.slice sA sn sc) := X1.out.cell 1
  clear e1 E0 X0 HRS x0
  go_wp2_with fail
  with_reducible refine (HCS2.out _ E1.out).mono ?_
  rintro e w2 ⟨rfl, e2⟩
  have E2 := hide (Ext.trans E1.out e2)
  have X2 := hide (X1.out.ext e2)
  have x2 : w2.cell? ⟨w.heap.size, 2, none⟩ = some (.slice hA hn hc) := X2.out.cell 2
  clear e2 E1 X1 x1 HCS2
  go_wp2_with fail
  with_reducible refine (HRH.out _ E2.out).mono ?_
  rintro e w3 ⟨rfl, e3⟩
  have E3 := hide (Ext.trans E2.out e3)
  have X3 := hide (X2.out.ext e3)
  have x2 : w3.cell? ⟨w.heap.size, 2, none⟩ = some (.slice hA hn hc) := X3.out.cell 2
  clear e3 E2 X2 HRH
  have HSB : Hid ((cntA SH ≠ cntA S ∨ szBad (cntA S) Z.length) ↔ (M ≠ N ∨ ((zn : Int) ≠ N ∧ (N = 0 ∨ zn ≠ 1)))) := hide (by unfold szBad; rw [← HM.out, ← HN.out, LZ.out])
  go_upto_region 12 with (fail)
  go_cut [55] (fun sv wx => sv = .bool (decide (M ≠ N ∨ ((zn : Int) ≠ N ∧ (N = 0 ∨ zn ≠ 1)))) ∧ Hid (Ext w3 wx))
  case first =>
    go_wp2_with fail
    with_reducible refine (HCH2.out _ E3.out).mono ?_
    rintro e w4 ⟨rfl, e4⟩
    have x3 : w4.cell? ⟨w.heap.size, 3, none⟩ = some (.slice zA zn zc) := (X3.out.ext e4).cell 3
    have E4 := hide e4
    clear e4
    by_cases h1 : M = N
    · have d1 : (M != N) = false := by simp [h1]
      by_cases h2 : (zn : Int) = N
      · have d2 : ((zn : Int) != N) = false := by simp [h2]
        have HD : Hid (decide (M ≠ N ∨ ((zn : Int) ≠ N ∧ (N = 0 ∨ zn ≠ 1))) = false) := hide (by rw [decide_eq_false_iff_not]; omega)
        clear h1 h2
        go_wp2_with fail
        go_meet
        exact ⟨by rw [HD.out], E4⟩
      · have d2 : ((zn : Int) != N) = true := by simp; omega
        by_cases h3 : N = 0
        · have d3 : (N == 0) = true := by simp [h3]
          have HD : Hid (decide (M ≠ N ∨ ((zn : Int) ≠ N ∧ (N = 0 ∨ zn ≠ 1))) = true) := hide (by rw [decide_eq_true_iff]; omega)
          clear h1 h2 h3
          go_wp2_with fail
          go_meet
          exact ⟨by rw [HD.out], E4⟩
        · have d3 : (N == 0) = false := by simp [h3]
          have HD : Hid (decide (M ≠ N ∨ ((zn : Int) ≠ N ∧ (N = 0 ∨ zn ≠ 1))) = ((zn : Int) != 1)) := hide (by rw [Bool.eq_iff_iff, decide_eq_true_iff]; simp; omega)
          clear h1 h2 h3
          go_wp2_with fail
          go_meet
          exact ⟨by rw [HD.out]; first | done | rfl | simp, E4⟩
    · have d1 : (M != N) = true := by simp [h1]
      have HD : Hid (decide (M ≠ N ∨ ((zn : Int) ≠ N ∧ (N = 0 ∨ zn ≠ 1))) = true) := hide (by rw [decide_eq_true_iff]; omega)
      clear h1
      go_wp2_with fail
      go_meet
      exact ⟨by rw [HD.out], E4⟩
  case rest =>
  obtain ⟨rfl, F4⟩ := hcut
  have X4 := hide (X3.out.ext F4.out)
  have E4 := hide (Ext.trans E3.out F4.out)
  have x3 : wc.cell? ⟨w.heap.size, 3, none⟩ = some (.slice zA zn zc) := X4.out.cell 3
  clear E3 X3 x2 HCH2 F4
  cases hbad : decide (M ≠ N ∨ ((zn : Int) ≠ N ∧ (N = 0 ∨ zn ≠ 1))) with
  | true =>
    have HE : Hid (tabF ⟨st, S, SH, Z, K, nok, C, P⟩ = 3) := hide (by rw [HF2.out]; exact tabF2_form (t := ⟨st, S, SH, Z, K, nok, C, P⟩) (HSB.out.2 (of_decide_eq_true hbad)))
    clear hbad
    go_wp2_with fail
    go_ret
    exact ⟨ret_int HE.out.symm, E4.out⟩
  | false =>
  have HNB := hide (fun hc => of_decide_eq_false hbad (HSB.out.1 hc))
  clear hbad
  obtain ⟨w4, hw4⟩ : ∃ w4, w4 = wc := ⟨_, rfl⟩
  subst hw4
  have HZB := hide (fun (k : Nat) (hk : k < zn) (ha : ∀ j, j < k → szEl Z j = 0) (hn : szEl Z k ≠ 0) => (firstF_at ha hn (n := Z.length) (by rw [LZ.out]; exact hk) : firstF (szEl Z) Z.length = szEl Z k))
  have HZO := hide (fun (ha : ∀ j, j < zn → szEl Z j = 0) => (firstF_zero (fun j hj => ha j (by rw [← LZ.out]; exact hj)) : firstF (szEl Z) Z.length = 0))
  go_upto_region 15 with (fail)
  go_loopw [59] (fun ri wr => ∃ k : Nat, k ≤ zn ∧ ri = .int .i64 k ∧ Hid (∀ j, j < k → szEl Z j = 0) ∧ w4 = wr) (fun ri _ => zn - (intOf ri).toNat)
  case atStart => exact ⟨0, by omega, rfl, hide (fun j hj => by omega), rfl⟩
  case round =>
    obtain ⟨k, hk, rfl, HA, hw⟩ := hrel
    subst hw
    by_cases hlt : k < zn
    · obtain ⟨b, off, rfl, _⟩ := HH.out.sizes.addr (by omega)
      have a0 := (HH.out.sizes.ext E4.out).num hlt
      have hel : szEl Z k = if Z.getD k 0 < 0 ∨ 100000 < Z.getD k 0 then 1 else 0 := rfl
      have HS : Hid (szEl Z k = 0 → ∀ j, j < k + 1 → szEl Z j = 0) := hide (fun h0 j hj => by
        rcases Nat.lt_succ_iff_lt_or_eq.1 hj with h | h
        · exact HA.out j h
        · rw [h]; exact h0)
      have HB := hide (HZB.out k hlt HA.out)
      generalize Z.getD k 0 = x at *
      have i1 : (k : Int) < (zn : Int) := by omega
      have i0 : (0 : Int) ≤ (k : Int) := by omega
      have i8 : IntKind.i64.wrap ((k : Int) + 1) = (k : Int) + 1 := by rw [IntKind.wrap_i64]; omega
      by_cases hx : x < 0 ∨ 100000 < x
      · rw [if_pos hx] at hel
        have HE : Hid (tabF ⟨st, S, SH, Z, K, nok, C, P⟩ = 1) := hide (by have := HB.out (by omega); rw [HF2.out, tabF2_sizes (t := ⟨st, S, SH, Z, K, nok, C, P⟩) HNB.out (by show firstF (szEl Z) Z.length ≠ 0; omega)]; show firstF (szEl Z) Z.length = 1; omega)
        clear hel
        go_wp2_with ((go_at_call 14; with_reducible refine (out_yes hx _).mono ?_); rintro e w' ⟨rfl, rfl⟩)
        go_ret
        exact ⟨ret_int HE.out.symm, E4.out⟩
      · rw [if_neg hx] at hel
        have hx2 : 0 ≤ x ∧ x ≤ 100000 := by omega
        have HE := hide (HS.out hel)
        clear hel hx
        go_wp2_with ((go_at_call 14; with_reducible refine (out_no hx2 _).mono ?_); rintro e w' ⟨rfl, rfl⟩)
        exact ⟨⟨k + 1, by omega, by go_num, HE, by first | rfl | trivial⟩, by simp [intOf]; omega⟩
    · obtain rfl : k = zn := by omega
      have HZZ := hide (HZO.out HA.out)
      have hkl : ¬ k < k := by omega
      clear hlt HZB HZO HA x3
      have x4 : w4.cell? ⟨w.heap.size, 4, none⟩ = some (.slice kA kn kc) := X4.out.cell 4
      have HKB := hide (fun (i : Nat) (hi : i < kn) (ha : ∀ j, j < i → kyEl N K j = 0) (hn : kyEl N K i ≠ 0) => (firstF_at ha hn (n := K.length) (by rw [LK.out]; exact hi) : firstF (kyEl N K) K.length = kyEl N K i))
      have HKO := hide (fun (ha : ∀ j, j < kn → kyEl N K j = 0) => (firstF_zero (fun j hj => ha j (by rw [← LK.out]; exact hj)) : firstF (kyEl N K) K.length = 0))
      go_upto_region 21 with (fail)
      go_loopw [69] (fun ri wr => ∃ i : Nat, i ≤ kn ∧ ri = .int .i64 i ∧ Hid (∀ j, j < i → kyEl N K j = 0) ∧ w4 = wr) (fun ri _ => kn - (intOf ri).toNat)
      case atStart => exact ⟨0, by omega, rfl, hide (fun j hj => by omega), rfl⟩
      case round =>
        obtain ⟨i, hi, rfl, HA, hw⟩ := hrel
        subst hw
        by_cases hit : i < kn
        · obtain ⟨b, off, rfl, _⟩ := HH.out.keys.addr (by omega)
          have a0 := (HH.out.keys.ext E4.out).num hit
          have hpr : 0 < i → w4.cell? ⟨b, off + (i - 1), none⟩ = some (.int .i64 (K.getD (i - 1) 0)) := fun h0 => (HH.out.keys.ext E4.out).num (k := i - 1) (by omega)
          have hel : kyEl N K i = if K.getD i 0 < 1 ∨ N < K.getD i 0 then 1 else if 0 < i ∧ K.getD i 0 ≤ K.getD (i - 1) 0 then 8 else 0 := rfl
          have HS : Hid (kyEl N K i = 0 → ∀ j, j < i + 1 → kyEl N K j = 0) := hide (fun h0 j hj => by
            rcases Nat.lt_succ_iff_lt_or_eq.1 hj with h | h
            · exact HA.out j h
            · rw [h]; exact h0)
          have HB : Hid (kyEl N K i ≠ 0 → tabF ⟨st, S, SH, Z, K, nok, C, P⟩ = kyEl N K i) := hide (fun hne => by
            have h1 := HKB.out i hit HA.out hne
            rw [HF2.out, tabF2_keys (t := ⟨st, S, SH, Z, K, nok, C, P⟩) HNB.out HZZ.out (by show firstF (kyEl (cntA S) K) K.length ≠ 0; rw [← HN.out]; omega)]
            show firstF (kyEl (cntA S) K) K.length = _
            rw [← HN.out]; exact h1)
          generalize K.getD i 0 = x at *
          generalize K.getD (i - 1) 0 = px at *
          have i1 : (i : Int) < (kn : Int) := by omega
          have i0 : (0 : Int) ≤ (i : Int) := by omega
          have i8 : IntKind.i64.wrap ((i : Int) + 1) = (i : Int) + 1 := by rw [IntKind.wrap_i64]; omega
          by_cases hx : x < 1 ∨ N < x
          · rw [if_pos hx] at hel
            have HE : Hid (tabF ⟨st, S, SH, Z, K, nok, C, P⟩ = 1) := hide (by have := HB.out (by omega); omega)
            clear hel hpr
            go_wp2_with ((go_at_call 14; with_reducible refine (out_yes hx _).mono ?_); rintro e w' ⟨rfl, rfl⟩)
            go_ret
            exact ⟨ret_int HE.out.symm, E4.out⟩
          rw [if_neg hx] at hel
          have hx2 : 1 ≤ x ∧ x ≤ N := by omega
          clear hx
          rcases Nat.eq_zero_or_pos i with hi0 | hi0
          · rw [if_neg (by omega)] at hel
            have HE := hide (HS.out hel)
            have d1 : decide ((0 : Int) < (i : Int)) = false := by simp; omega
            have d2 : decide (0 < i) = false := by simp; omega
            clear hel hpr hi0
            go_wp2_with ((go_at_call 14; with_reducible refine (out_no hx2 _).mono ?_); rintro e w' ⟨rfl, rfl⟩)
            exact ⟨⟨i + 1, by omega, by go_num, HE, by first | rfl | trivial⟩, by simp [intOf]; omega⟩
          · have d1 : decide ((0 : Int) < (i : Int)) = true := by simp; omega
            have d2 : decide (0 < i) = true := by simp; omega
            have p0 := hpr hi0
            have i2 : IntKind.i64.wrap ((i : Int) - 1) = (i : Int) - 1 := by rw [IntKind.wrap_i64]; omega
            have i3 : ((i : Int) - 1).toNat = i - 1 := by omega
            have i4 : (0 : Int) ≤ (i : Int) - 1 := by omega
            have i5 : (i : Int) - 1 < (kn : Int) := by omega
            by_cases hle : x ≤ px
            · rw [if_pos ⟨hi0, hle⟩] at hel
              have HE : Hid (tabF ⟨st, S, SH, Z, K, nok, C, P⟩ = 8) := hide (by have := HB.out (by omega); omega)
              clear hel hpr hi0
              go_wp2_with ((go_at_call 14; with_reducible refine (out_no hx2 _).mono ?_); rintro e w' ⟨rfl, rfl⟩)
              go_ret
              exact ⟨ret_int HE.out.symm, E4.out⟩
            · rw [if_neg (fun hc => hle hc.2)] at hel
              have HE := hide (HS.out hel)
              clear hel hpr hi0
              go_wp2_with ((go_at_call 14; with_reducible refine (out_no hx2 _).mono ?_); rintro e w' ⟨rfl, rfl⟩)
              exact ⟨⟨i + 1, by omega, by go_num, HE, by first | rfl | trivial⟩, by simp [intOf]; omega⟩
        · obtain rfl : i = kn := by omega
          have HF3 : Hid (tabF ⟨st, S, SH, Z, K, nok, C, P⟩ = tabF3 ⟨st, S, SH, Z, K, nok, C, P⟩) := hide (by
            rw [HF2.out, tabF2_three (t := ⟨st, S, SH, Z, K, nok, C, P⟩) HNB.out HZZ.out (by show firstF (kyEl (cntA S) K) K.length = 0; rw [← HN.out]; exact HKO.out HA.out)])
          clear hit HKB HKO HA
          have x0 : w4.cell? ⟨w.heap.size, 0, none⟩ = some (.int .i64 st) := X4.out.cell 0
          have x1 : w4.cell? ⟨w.heap.size, 1, none⟩ = some (.slice sA sn sc) := X4.out.cell 1
          have x2 : w4.cell? ⟨w.heap.size, 2, none⟩ = some (.slice hA hn hc) := X4.out.cell 2
          have x3 : w4.cell? ⟨w.heap.size, 3, none⟩ = some (.slice zA k zc) := X4.out.cell 3
          have x5 : w4.cell? ⟨w.heap.size, 5, none⟩ = some (.slice cA cn cc) := X4.out.cell 5
          have x6 : w4.cell? ⟨w.heap.size, 6, none⟩ = some (.slice pA pn pc) := X4.out.cell 6
          have HFD : Hid (tabF3 ⟨st, S, SH, Z, K, nok, C, P⟩ = if chunksF N C P ≠ 0 then chunksF N C P else if noT (endI st S sn) = true then 1 else 0) := hide (by
            have h1 : S.length = sn := LS.out
            unfold tabF3; rw [← HN.out]; show (if chunksF N C P ≠ 0 then chunksF N C P else if noT (endI st S S.length) = true then 1 else 0) = _; rw [h1])
          have HCC := hide (HCF.out N)
          by_cases hch : chunksF N C P = 0
          rotate_left
          · have HE : Hid (tabF ⟨st, S, SH, Z, K, nok, C, P⟩ = chunksF N C P) := hide (by rw [HF3.out, HFD.out, if_pos hch])
            generalize chunksF N C P = f at *
            have d0 : (f != 0) = true := by simp [hch]
            clear hch HCF
            go_wp2_with fail
            with_reducible refine (HCC.out _ E4.out).mono ?_
            rintro e w5 ⟨rfl, e5⟩
            have E5 := hide (Ext.trans E4.out e5)
            clear e5
            go_wp2_with fail
            go_ret
            exact ⟨ret_int HE.out.symm, E5.out⟩
          have HFE : Hid (tabF ⟨st, S, SH, Z, K, nok, C, P⟩ = if noT (endI st S sn) = true then 1 else 0) := hide (by rw [HF3.out, HFD.out, if_neg (by omega)])
          rw [hch] at HCC
          clear hch HCF HFD HF3
          go_wp2_with fail
          with_reducible refine (HCC.out _ E4.out).mono ?_
          rintro e w5 ⟨rfl, e5⟩
          have E5 := hide (Ext.trans E4.out e5)
          have X5 := hide (X4.out.ext e5)
          clear e5 E4 X4 x0 x1 x2 x3 x4 x5 x6 HCC
          have x0 : w5.cell? ⟨w.heap.size, 0, none⟩ = some (.int .i64 st) := X5.out.cell 0
          have x1 : w5.cell? ⟨w.heap.size, 1, none⟩ = some (.slice sA sn sc) := X5.out.cell 1
          have hstb : -1000000000000000 ≤ st ∧ st ≤ 1000000000000000 := by have h1 := HNT.out; unfold noT at h1; simp only [decide_eq_false_iff_not] at h1; omega
          have HBS : Hid (∀ q, q ≤ sn → (st ≤ endI st S q ∧ endI st S q ≤ st + 5000000000000) ∧ (q < sn → 0 ≤ (S.getD q (0, 0)).1 * (S.getD q (0, 0)).2 ∧ (S.getD q (0, 0)).1 * (S.getD q (0, 0)).2 ≤ 5000000000000)) := hide (fun q hq => by
            have hqs : q ≤ S.length := by have h9 : S.length = sn := LS.out; omega
            have h1 := HEB.out q hqs
            have h2 : cntI S q ≤ cntI S S.length := by
              have key : ∀ m, q ≤ m → m ≤ S.length → cntI S q ≤ cntI S m := by
                intro m
                induction m with
                | zero => intro h1 _; rw [show q = 0 by omega]; exact Int.le_refl _
                | succ m ih =>
                  intro h1 h2
                  rcases Nat.eq_or_lt_of_le h1 with h3 | h3
                  · rw [h3]; exact Int.le_refl _
                  · have := ih (by omega) (by omega)
                    have h4 := (runs_ok HS0.out m (by omega)).1
                    rw [cntI]; omega
              exact key _ hqs (Nat.le_refl _)
            have h3 : cntI S S.length = N := HN.out.symm
            refine ⟨by omega, fun hlt => ?_⟩
            have h4 := runs_ok HS0.out q (by have h9 : S.length = sn := LS.out; omega)
            have h5 : 0 ≤ (S.getD q (0, 0)).1 * (S.getD q (0, 0)).2 := Int.mul_nonneg (by omega) (by omega)
            have h6 : (S.getD q (0, 0)).1 * (S.getD q (0, 0)).2 ≤ 5000 * 1000000000 := Int.mul_le_mul (by omega) (by omega) (by omega) (by omega)
            omega)
          go_upto_region 33 with (fail)
          go_loopw [11, 103] (fun rs ri wr => ∃ q : Nat, q ≤ sn ∧ ri = .int .i64 q ∧ rs = .int .i64 (endI st S q) ∧ Hid (Ext w5 wr)) (fun _ ri _ => sn - (intOf ri).toNat)
          case atStart => exact ⟨0, by omega, rfl, rfl, hide (Ext.refl _)⟩
          case round =>
            obtain ⟨q, hq, rfl, rfl, HX⟩ := hrel
            have HXW := hide (Ext.trans E5.out HX.out)
            by_cases hqt : q < sn
            · obtain ⟨b, off, rfl, _⟩ := HH.out.steps.addr (by omega)
              obtain ⟨a0, a1⟩ := (HH.out.steps.ext HXW.out).pair hqt
              obtain ⟨E1_, hE1⟩ : ∃ E1_, E1_ = endI st S (q + 1) := ⟨_, rfl⟩
              have hs : E1_ = endI st S q + (S.getD q (0, 0)).1 * (S.getD q (0, 0)).2 := hE1
              have b0 := HBS.out q (by omega)
              have b1 := (HBS.out (q + 1) (by omega)).1
              rw [← hE1] at b1
              have b2 := b0.2 hqt
              have b3 := b0.1
              have HE1 := hide hE1
              clear hE1 b0
              simp only at a0 a1
              generalize endI st S q = E0_ at *
              generalize (S.getD q (0, 0)).1 = x at *
              generalize (S.getD q (0, 0)).2 = y at *
              obtain ⟨xy, hxy⟩ : ∃ xy, xy = x * y := ⟨_, rfl⟩
              rw [← hxy] at b2 hs
              have i1 : (q : Int) < (sn : Int) := by omega
              have i0 : (0 : Int) ≤ (q : Int) := by omega
              have i8 : IntKind.i64.wrap ((q : Int) + 1) = (q : Int) + 1 := by rw [IntKind.wrap_i64]; omega
              have u1 : IntKind.i64.wrap (x * y) = xy := by rw [← hxy, IntKind.wrap_i64]; omega
              have u2 : IntKind.i64.wrap (E0_ + xy) = E1_ := by rw [IntKind.wrap_i64]; omega
              clear hs b1 b2 b3 hxy
              go_wp2_with fail
              exact ⟨⟨q + 1, by omega, by go_num, by rw [HE1.out], hide (Ext.trans HX.out (by repeat' (first | (with_reducible first | exact Below.refl _ _ | assumption | refine below_drewN ?_ _ | refine Below.drew ?_ | refine ext_alloc ?_ _ | refine Below.setCell ?_ ?_ _) | go_size)))⟩, by simp [intOf]; omega⟩
            · obtain rfl : q = sn := by omega
              clear hqt HBS
              generalize endI st S q = en at *
              cases hne : noT en with
              | true =>
                have HE : Hid (tabF ⟨st, S, SH, Z, K, nok, C, P⟩ = 1) := hide (by rw [HFE.out, if_pos hne])
                have HT2 := hide (notime_yes hne)
                clear hne
                go_wp2_with fail
                with_reducible refine (HT2.out _).mono ?_
                rintro e w' ⟨rfl, rfl⟩
                go_wp2_with fail
                go_ret
                exact ⟨ret_int HE.out.symm, HXW.out⟩
              | false =>
                have HE : Hid (tabF ⟨st, S, SH, Z, K, nok, C, P⟩ = 0) := hide (by rw [HFE.out, if_neg (by rw [hne]; simp)])
                have HT2 := hide (notime_no hne)
                clear hne
                go_wp2_with fail
                with_reducible refine (HT2.out _).mono ?_
                rintro e w' ⟨rfl, rfl⟩
                go_wp2_with fail
                go_ret
                exact ⟨ret_int HE.out.symm, HXW.out⟩
end Go.Proofs.Ytkbmgakehlmcnaa
