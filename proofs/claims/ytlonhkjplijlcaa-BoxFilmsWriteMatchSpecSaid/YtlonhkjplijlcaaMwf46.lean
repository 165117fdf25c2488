/- Several texts in one: Walk: WriteFilm (reference). Conditions as stated; Words for the rows of this seat: a law that returns true and leaves its arguments; arguments opened as lists. Conditions as stated. -/
import Derived.Test.YtlonhkjplijlcaaMwf40
import Derived.Test.YtlonhkjplijlcaaMwf41
import Derived.Test.YtlonhkjplijlcaaMwf44
import Derived.Test.YtlonhkjplijlcaaMwf42
import Derived.Test.YtlonhkjplijlcaaMwf45
import Derived.Test.YtlonhkjplijlcaaRows
import Derived.Test.YtlonhkjplijlcaaMwf00
import Derived.ProofKit
import Derived.Lib.Bytes
namespace Go.Proofs.Ytlonhkjplijlcaa
open Go.RowKit
set_option linter.unusedVariables false in
set_option linter.unusedSimpArgs false in
set_option maxRecDepth 100000 in
set_option maxHeartbeats 8000000 in
theorem refWrite_any {sc : Int} {A : Option Addr} {n c : Nat} {hs : List TrkH} {T : List TrkT} {B : Option Addr} {m d : Nat} {es : List (Option Addr × Nat × Nat)} {D : List (List UInt8)} {ch : Int} {w : World} (h : TksAt w A n c hs T) (hd : DtsAt w B m d es D) (hn : nmF T) :
    Calls Try.prog 7 #[.agg #[.int .i64 sc, .slice A n c], .slice B m d, .int .i64 ch] w (Gives 1 e8 w (wfB sc T D ch) (wfF sc T D ch)) := by
  have HV : Hid (wfF sc T D ch = if filF sc T ≠ 0 then filF sc T else if ch < 1 ∨ 1000 < ch then 1 else if datF T D ≠ 0 then datF T D
    else if 1000000 < headN sc T ch.toNat (layF T D ch.toNat 0).pl + (layF T D ch.toNat 0).out.length then 2 else 0) := hide rfl
  have HT := hide h
  have HD := hide hd
  have HTL := hide h.len
  have X0 := hide (Blk.new w 24 #[.int .i64 sc, .slice A n c])
  have E0 := hide (Ext.alloc w (.cells #[.int .i64 sc, .slice A n c] 24))
  have HC1 := hide (fun (W : World) (hW : Ext w W) => refFilm_any (sc := sc) (h.ext hW) hn)
  have HOK := hide (fun (hf : filF sc T = 0) => filF_ok hf)
  have HNO := hide (fun (f : Int) (hf : wfF sc T D ch = f) (h0 : f ≠ 0) => wfB_no hf h0)
  have HF1 := hide (fun (hne : m ≠ n) => datF_len (T := T) (D := D) (by rw [hd.len, h.len]; exact hne))
  have HF2 := hide (fun (i : Nat) (hi : i < n) (hne : szN (T.getD i default).smp ≠ (D.getD i []).length) => datF_at (T := T) (D := D) (by rw [h.len]; exact hi) hne)
  have HF3 := hide (fun (hmn : m = n) (h2 : ∀ i, i < n → szN (T.getD i default).smp = (D.getD i []).length) => datF_all (T := T) (D := D) (by rw [hd.len, h.len]; exact hmn) (fun i hi => h2 i (by rw [← h.len]; exact hi)))
  have hnb := h.at_.bound
  have hmb := hd.at_.bound
  clear h hd hn
  generalize hFF : wfF sc T D ch = R at *
  have HFF := hide hFF
  clear hFF
  go_enter Try.func7, Try.ntmps7
  go_upto_region 1 with (fail)
  refine gen_wpC fun w0 h0 => ?_
  rw [← h0] at X0 E0
  obtain ⟨fb, hfb⟩ : ∃ fb, fb = w.heap.size := ⟨_, rfl⟩
  rw [← hfb] at X0 ⊢
  clear h0 hfb
  have x0 : w0.cell? ⟨fb, 0, none⟩ = some (.int .i64 sc) := X0.out.cell 0
  have x1 : w0.cell? ⟨fb, 1, none⟩ = some (.slice A n c) := X0.out.cell 1
  go_wp2_with fail
  with_reducible refine (HC1.out _ E0.out).mono ?_
  rintro e w1 ⟨rfl, e1⟩
  have E1 := hide (Ext.trans E0.out e1)
  have X1 := hide (X0.out.ext e1)
  clear e1 x0 x1 X0
  by_cases hf : filF sc T = 0
  case neg =>
    have HE : Hid (R = filF sc T) := hide (by rw [HV.out, if_pos hf])
    have HN := hide (HNO.out _ rfl (by rw [HE.out]; exact hf))
    have d0 : (filF sc T != 0) = true := by simp [hf]
    clear hf
    generalize filF sc T = ff at *
    go_wp2_with fail
    go_ret2
    exact gives_nil' HE.out HN.out E1.out
  case pos =>
  have HFO := hide (HOK.out hf)
  have hr := HFO.out.r
  have HR := hide hr
  have HNM := hide (nmS_of HFO.out)
  have hn8 : n ≤ 8 := by have := hr.few; rw [HTL.out] at this; exact this
  have HV2 : Hid (R = if ch < 1 ∨ 1000 < ch then 1 else if datF T D ≠ 0 then datF T D
    else if 1000000 < headN sc T ch.toNat (layF T D ch.toNat 0).pl + (layF T D ch.toNat 0).out.length then 2 else 0) := hide (by rw [HV.out, if_neg (by omega)])
  rw [hf]
  clear HV hf HOK hr
  by_cases hch : ch < 1 ∨ 1000 < ch
  · have HE : Hid (R = 1) := hide (by rw [HV2.out, if_pos hch])
    have HN := hide (HNO.out _ rfl (by rw [HE.out]; omega))
    have HO := hide (fun (W : World) => within_no (n := ch) (lo := 1) (hi := 1000) hch W)
    clear hch
    go_wp2_with fail
    with_reducible refine (HO.out _).mono ?_
    rintro e w' ⟨rfl, rfl⟩
    go_wp2_with fail
    go_ret2
    exact gives_nil' HE.out HN.out E1.out
  have HO := hide (fun (W : World) => within_yes (n := ch) (lo := 1) (hi := 1000) (by omega) W)
  obtain ⟨k, rfl⟩ : ∃ k : Nat, ch = (k : Int) := ⟨ch.toNat, by omega⟩
  have hk1 : 1 ≤ k := by omega
  have hk2 : k ≤ 1000 := by omega
  have HV3 : Hid (R = if datF T D ≠ 0 then datF T D else if 1000000 < headN sc T k (layF T D k 0).pl + (layF T D k 0).out.length then 2 else 0) := hide (by rw [HV2.out, if_neg hch, Int.toNat_natCast])
  clear HV2 hch
  have x1 : w1.cell? ⟨fb, 1, none⟩ = some (.slice A n c) := X1.out.cell 1
  by_cases hmn : m = n
  case neg =>
    have hdf := HF1.out hmn
    have HE : Hid (R = 3) := hide (by rw [HV3.out, hdf, if_pos (by omega)])
    have HN := hide (HNO.out _ rfl (by rw [HE.out]; omega))
    have g1 : ((m : Int) != (n : Int)) = true := by rw [bne_iff_ne]; omega
    clear hmn hdf
    go_wp2_with fail
    with_reducible refine (HO.out _).mono ?_
    rintro e w' ⟨rfl, rfl⟩
    go_wp2_with fail
    go_ret2
    exact gives_nil' HE.out HN.out E1.out
  case pos =>
  subst hmn
  have g1 : ((m : Int) != (m : Int)) = false := by rw [bne_eq_false_iff_eq]
  go_wp2_with fail
  with_reducible refine (HO.out _).mono ?_
  rintro e w' ⟨rfl, rfl⟩
  go_wp2_with fail
  clear x1 g1 HF1 HO
  go_loopw [9] (fun ri wr => ∃ q : Nat, q ≤ m ∧ ri = .int .i64 q ∧ Hid (∀ i, i < q → szN (T.getD i default).smp = (D.getD i []).length) ∧ w1 = wr) (fun ri _ => m - (intOf ri).toNat)
  case atStart => exact ⟨0, by omega, rfl, hide (fun j hj => absurd hj (Nat.not_lt_zero _)), rfl⟩
  case round =>
    obtain ⟨q, hq, rfl, HA, rfl⟩ := hrel
    have i8 : IntKind.i64.wrap ((q : Int) + 1) = (q : Int) + 1 := by rw [IntKind.wrap_i64]; omega
    have x1 : w1.cell? ⟨fb, 1, none⟩ = some (.slice A m c) := X1.out.cell 1
    by_cases hlt : q < m
    · obtain ⟨b, o, rfl, _⟩ := HT.out.at_.addr (by omega)
      have hok := HT.out.ok q hlt
      have HSZ := hide (HR.out.smp q (by rw [HTL.out]; exact hlt))
      have HG2 := hide (HF2.out q hlt)
      have HNX : Hid (szN (T.getD q default).smp = (D.getD q []).length → ∀ i, i < q + 1 → szN (T.getD i default).smp = (D.getD i []).length) := hide (fun hb i hi => by
        rcases Nat.lt_succ_iff_lt_or_eq.1 hi with h | h
        · exact HA.out i h
        · rw [h]; exact hb)
      obtain ⟨z, hz⟩ : ∃ z, hs.getD q default = z := ⟨_, rfl⟩
      rw [hz] at hok
      have a2 : w1.cell? ⟨b, o + q * 4 + 2, none⟩ = some (.slice z.sA z.sn z.sc) := (HT.out.at_.ext E1.out).cellK hlt default 2 _ (by rw [hz]; rfl)
      have HA2 := hide a2
      have HS := hide (hok.2.2.1.ext E1.out)
      have hsl := HS.out.len
      have HSL := hide hsl
      have hdl : (D.getD q []).length = (es.getD q (none, 0, 0)).2.1 := (HD.out.ok q hlt).len
      have HDL := hide hdl
      have hsb : z.sn ≤ 5000 := by have := HSZ.out.2; omega
      generalize (T.getD q default).smp = sm at *
      generalize D.getD q [] = dd at *
      generalize z.sA = sA at *
      generalize z.sn = sn at *
      generalize z.sc = scc at *
      have i1 : (q : Int) < (m : Int) := by omega
      have i0 : (0 : Int) ≤ (q : Int) := by omega
      clear hok hz hsl hdl
      go_wp2_with fail
      clear a2
      go_loopw [10, 11] (fun rs rj wx => ∃ j : Nat, j ≤ sn ∧ rj = .int .i64 j ∧ rs = .int .i64 (szN (sm.take j) : Int) ∧ w1 = wx) (fun _ rj _ => sn - (intOf rj).toNat)
      case atStart => exact ⟨0, by omega, rfl, by simp [szN], rfl⟩
      case round =>
        obtain ⟨j, hj, rfl, rfl, rfl⟩ := hrel
        have i9 : IntKind.i64.wrap ((j : Int) + 1) = (j : Int) + 1 := by rw [IntKind.wrap_i64]; omega
        have a2 : w1.cell? ⟨b, o + q * 4 + 2, none⟩ = some (.slice sA sn scc) := HA2.out
        by_cases hjl : j < sn
        · obtain ⟨sb, so, rfl, _⟩ := HS.out.addr (by omega)
          have b3 := HS.out.cellK hjl dS 3 _ rfl
          have hsz := HSZ.out.1 j (by have := HSL.out; omega)
          have hbd := szN_bd HSZ.out.1 HSZ.out.2 j
          have HTK : Hid ((szN (sm.take (j + 1)) : Int) = (szN (sm.take j) : Int) + (sm.getD j dS).size) := hide (by rw [szN_take (by have := HSL.out; omega)]; omega)
          generalize (sm.getD j dS).size = s3 at *
          generalize szN (sm.take j) = S at *
          have j1 : (j : Int) < (sn : Int) := by omega
          have j0 : (0 : Int) ≤ (j : Int) := by omega
          have j9 : IntKind.i64.wrap ((S : Int) + s3) = (S : Int) + s3 := by rw [IntKind.wrap_i64]; omega
          go_wp2_with fail
          exact ⟨⟨j + 1, by omega, by go_num, int_val HTK.out.symm, by trivial⟩, by simp [intOf]; omega⟩
        · obtain rfl : j = sn := by omega
          have HTK : Hid (sm.take j = sm) := hide (by rw [← HSL.out, List.take_length])
          rw [HTK.out]
          obtain ⟨b2, o2, rfl, _⟩ := HD.out.at_.addr (by omega)
          have c0 : w1.cell? ⟨b2, o2 + q, none⟩ = some (.slice (es.getD q (none, 0, 0)).1 (es.getD q (none, 0, 0)).2.1 (es.getD q (none, 0, 0)).2.2) := by have := (HD.out.at_.ext E1.out).cellK hlt (none, 0, 0) 0 _ rfl; simpa using this
          have hdl := HDL.out
          generalize (es.getD q (none, 0, 0)).1 = dA at *
          generalize (es.getD q (none, 0, 0)).2.1 = dn at *
          generalize (es.getD q (none, 0, 0)).2.2 = dc at *
          by_cases he : szN sm = dd.length
          · have HA2 := hide (HNX.out he)
            have g2 : ((szN sm : Int) != (dn : Int)) = false := by rw [bne_eq_false_iff_eq]; omega
            clear hjl he
            go_wp2_with fail
            exact ⟨⟨q + 1, by omega, by go_num, HA2, by trivial⟩, by simp [intOf]; omega⟩
          · have hdf := HG2.out he
            have HE : Hid (R = 3) := hide (by rw [HV3.out, hdf, if_pos (by omega)])
            have HN := hide (HNO.out _ rfl (by rw [HE.out]; omega))
            have g2 : ((szN sm : Int) != (dn : Int)) = true := by rw [bne_iff_ne]; omega
            clear hjl he hdf
            go_wp2_with fail
            go_ret2
            exact gives_nil' HE.out HN.out E1.out
    · obtain rfl : q = m := by omega
      have hdf := HF3.out (by trivial) HA.out
      have HV4 : Hid (R = if 1000000 < headN sc T k (layF T D k 0).pl + (layF T D k 0).out.length then 2 else 0) := hide (by rw [HV3.out, if_neg (by omega)])
      have HL := hide (fun (W : World) (hW : Ext w W) (fr : Nat) (hfr : fr ≤ 1000000000) => refLaid_any (sc := sc) (fr := fr) (HT.out.ext hW) (HD.out.ext hW) HR.out hdf hk1 hk2 hfr)
      have HL0 : Hid (∀ W : World, Ext w W → Calls Try.prog 23 #[.agg #[.int .i64 sc, .slice A q c], .slice B q d, .int .i64 (k : Int), .int .i64 0] W (LayG W q (layF T D k 0))) := hide (fun W hW => HL.out W hW 0 (by omega))
      have HFB := hide (fun (W wl : World) (gp : Nat) (hp : List (Option Addr × Nat × Nat)) (fr : Nat) (ov : Value) (ob : List UInt8) (dA : Option Addr) (dn dc : Nat) (dat : List UInt8) (hW : Ext w W) (hL : LaM wl W gp q hp (layF T D k fr).pl [] ov ob) (hdat : At W 1 e8 dA dn dc dat) => boxesOf_any (sc := sc) (ch := k) (HT.out.ext hW) HR.out HNM.out hL (fun i => layF_rows HR.out hk1 i) hk1 hk2 hdat)
      have hsz0 := film_size (sc := sc) (P := (layF T D k 0).pl) HR.out HNM.out hk1 (fun i => layF_rows HR.out hk1 i)
      have hob0 : (layF T D k 0).out.length ≤ 800000000 * 5001 := layR_out (fun i hi => (HR.out.smp i hi).1) hk2 HR.out.few 5001
      have HWS := hide (fun (ho : (layF T D k 0).out.length ≤ 1000000) => wf_sizes (sc := sc) (T := T) (D := D) (ch := k) HR.out HNM.out hk1 ho)
      have HFAU := hide (fau_both sc k (lay2 sc T D k).pl (lay2 sc T D k).out HR.out.few)
      have hhn : headN sc T k (layF T D k 0).pl = sizeT (filmB sc T k (layF T D k 0).pl) + 8 := rfl
      have HL2 : Hid (lay2 sc T D k = layF T D k (headN sc T k (layF T D k 0).pl)) := hide rfl
      have HWL : Hid (wfL sc T D k = [.mk kFilm 0 [] (kidsB sc T k (lay2 sc T D k).pl q), dataB (lay2 sc T D k).out]) := hide (by unfold wfL filmB; rw [HTL.out])
      have HSL0 : Hid (sizeL [.mk kFilm 0 [] (kidsB sc T k (layF T D k 0).pl q), dataB []] = headN sc T k (layF T D k 0).pl) := hide (by
        have h9 := both_size sc T k (layF T D k 0).pl []
        unfold filmB at h9
        rw [HTL.out] at h9
        rw [h9]
        unfold headN filmB
        rw [HTL.out]
        rfl)
      have HSO := hide (fun (W : World) (g : Nat) (hb : BxsAt W (fun _ => True) (some ⟨g, 0, none⟩) 2 2 [.mk kFilm 0 [] (kidsB sc T k (layF T D k 0).pl q), dataB []]) => szr_any _ (Nat.le_refl _) hb (by rw [HSL0.out]; omega))
      rw [HSL0.out] at HSO
      have x0 : w1.cell? ⟨fb, 0, none⟩ = some (.int .i64 sc) := X1.out.cell 0
      clear HV3 hdf HSL0
      go_wp2_with fail
      with_reducible refine (HL0.out _ E1.out).mono ?_
      rintro e w3 ⟨wl, gp, hv, v, rfl, el, lm⟩
      obtain ⟨oA, oc, rfl, _⟩ := lm.out_.at_ len_e8
      have LM := hide lm
      have e3 := Ext.trans el lm.ext
      have E3 := hide (Ext.trans E1.out e3)
      have X3 := hide (X1.out.ext e3)
      clear e3 el lm x0 x1
      have x0 : w3.cell? ⟨fb, 0, none⟩ = some (.int .i64 sc) := X3.out.cell 0
      have x1 : w3.cell? ⟨fb, 1, none⟩ = some (.slice A q c) := X3.out.cell 1
      go_wp2_with fail
      with_reducible refine (HFB.out _ _ _ _ _ _ _ _ _ _ _ E3.out LM.out (At.nil _ _ _)).mono ?_
      rintro e w4 ⟨g4, rfl, hb, e4⟩
      have HB4 := hide (HSO.out _ _ hb)
      have E4 := hide (Ext.trans E3.out e4)
      have X4 := hide (X3.out.ext e4)
      clear e4 hb x0 x1 X3 E3 HSO LM
      go_wp2_with fail
      with_reducible refine HB4.out.mono ?_
      rintro e w5 ⟨rfl, mm, rfl⟩
      obtain ⟨w5, hw5⟩ : ∃ w5, w5 = w4.drewN mm := ⟨_, rfl⟩
      have e5 : Ext w4 w5 := by rw [hw5]; exact Ext.drewN _ _
      rw [← hw5]
      have E5 := hide (Ext.trans E4.out e5)
      have X5 := hide (X4.out.ext e5)
      have j2 : IntKind.i64.wrap ((headN sc T k (layF T D k 0).pl : Int) + ((layF T D k 0).out.length : Int)) = (headN sc T k (layF T D k 0).pl : Int) + ((layF T D k 0).out.length : Int) := by rw [IntKind.wrap_i64]; omega
      have HHB : Hid (headN sc T k (layF T D k 0).pl ≤ 1000000000) := hide (by omega)
      clear e5 hw5 X4 E4 HB4 hsz0 hob0 hhn
      generalize headN sc T k (layF T D k 0).pl = hN at *
      generalize (layF T D k 0).out.length = oN at *
      by_cases hbig : 1000000 < hN + oN
      · have HE : Hid (R = 2) := hide (by rw [HV4.out, if_pos hbig])
        have HN := hide (HNO.out _ rfl (by rw [HE.out]; omega))
        have g1 : (1000000 : Int) < (hN : Int) + (oN : Int) := by omega
        clear hbig
        go_wp2_with fail
        go_ret2
        exact gives_nil' HE.out HN.out E5.out
      have HE : Hid (R = 0) := hide (by rw [HV4.out, if_neg hbig])
      have g1 : ¬ (1000000 : Int) < (hN : Int) + (oN : Int) := by omega
      have HWZ := hide (HWS.out (by omega))
      have x0 : w5.cell? ⟨fb, 0, none⟩ = some (.int .i64 sc) := X5.out.cell 0
      have x1 : w5.cell? ⟨fb, 1, none⟩ = some (.slice A q c) := X5.out.cell 1
      clear hbig HWS HV4 HL0
      go_wp2_with fail
      with_reducible refine (HL.out _ E5.out hN HHB.out).mono ?_
      rintro e w6 ⟨wl2, gp2, hv2, v2, rfl, el, lm⟩
      obtain ⟨oA2, oc2, rfl, oat⟩ := lm.out_.at_ len_e8
      generalize (layF T D k hN).out.length = on2 at *
      have LM := hide lm
      have OAT := hide oat
      have e6 := Ext.trans el lm.ext
      have E6 := hide (Ext.trans E5.out e6)
      have X6 := hide (X5.out.ext e6)
      clear e6 el lm x0 x1 X5 E5 oat
      have x0 : w6.cell? ⟨fb, 0, none⟩ = some (.int .i64 sc) := X6.out.cell 0
      have x1 : w6.cell? ⟨fb, 1, none⟩ = some (.slice A q c) := X6.out.cell 1
      go_wp2_with fail
      with_reducible refine (HFB.out _ _ _ _ _ _ _ _ _ _ _ E6.out LM.out OAT.out).mono ?_
      rintro e w7 ⟨g7, rfl, hb, e7⟩
      rw [← HL2.out, ← HWL.out] at hb
      have HPK := hide (byr_any _ (Nat.le_refl _) hb (Ext.refl _) ⟨0, 0, _, HFAU.out⟩ (by have := HWZ.out; omega))
      have E7 := hide (Ext.trans E6.out e7)
      clear e7 hb x0 x1 X6 E6 LM OAT
      have HBY : Hid (bytL (wfL sc T D k) = wfB sc T D (k : Int)) := hide (by unfold wfB; rw [HFF.out, HE.out, if_pos rfl, Int.toNat_natCast])
      go_wp2_with fail
      with_reducible refine HPK.out.mono ?_
      rintro e w8 ⟨v8, rfl, o8, e8⟩
      obtain ⟨A8, c8, rfl, a8⟩ := o8.at_ len_e8
      have A8_ := hide a8
      have E8 := hide (Ext.trans E7.out e8)
      clear o8 e8 a8
      go_wp2_with fail
      go_ret2
      exact gives_at HE.out HBY.out A8_.out E8.out
end Go.Proofs.Ytlonhkjplijlcaa
namespace Go.Proofs.Ytlonhkjplijlcaa
open Go.ChangeShapes Go.WideShapes Go.ChangeAt Go.RowKit

/-- A row's closed facts, out of the program's and a few of its own. -/
theorem joined_of {P : Program} {f : FuncId} {fn : Func} {s : ChangeSpec} {c : OpenClaim} (p1 : laidOutB P = true) (p2 : mapsRowed P = true) (p3 : P.plainKeys = true) (p4 : P.stopsHeard = true) (p5 : (P.stops == []) = true) (p6 : (P.stopKnobs == []) = true)
    (p7 : P.mayEnter = true) (p8 : P.make = some .cut) (p9 : P.liftsFinal = false) (c1 : c.plainKeys = true) (c2 : c.make = .cut) (c3 : c.lifted = false) (c4 : c.wf (OpenSpec.ofChange s) = true)
    (h1 : (fn.params.all (P.readableRec ·) && namedTie P c.named s.vars && (c.stops == []) && (c.knobs == [])) = true)
    (h2 : (c.inPlace == P.inPlace f) = true) (h3 : (c.unfollowed == P.unfollowed f) = true) (h4 : (c.recurses == P.recurses f) = true) (h5 : (c.named == P.varsNamed f) = true)
    (h6 : ((c.maps == (fn.params.toList ++ s.plain.varTypes P).any (P.mapsRec ·)) && (c.ifaces == (fn.params.toList ++ s.plain.varTypes P).any (P.ifacesRec ·)) && (c.mapsOut == P.mapsAmong fn.resultTypes.toList)) = true)
    (h7 : ((c.loops == (fn.params.toList ++ s.plain.varTypes P).any (P.loopsFrom ·)) && (c.wideKeys == (fn.params.toList ++ s.plain.varTypes P ++ fn.resultTypes.toList).any (P.wideKeysFrom ·))) = true)
    (h8 : (s.vars.all (P.varReadable ·) && fn.resultTypes.all (fun t => P.readableRec t && decide (t < P.types.size)) && (c.ifacesOut == fn.resultTypes.toList.any (P.ifacesRec ·)) && (c.loopsOut == fn.resultTypes.toList.any (P.loopsFrom ·))) = true)
    (h9 : (c.shortTexts.isNone && (c.kinds == (if c.domain.isEmpty then [] else fn.params.toList.map fun t => match P.underlying t with | some (.int k) => some k | _ => none)) && (c.pinned == c.pinnedBy)) = true)
    (h10 : ((c.veiled == (fn.params.toList ++ s.plain.varTypes P ++ fn.resultTypes.toList).any (P.veiledRec ·)) && c.veiledFits P fn.params.toList (fn.params.toList ++ s.plain.varTypes P ++ fn.resultTypes.toList)) = true) :
    joinedFacts P f fn s c = true := by
  simp only [Bool.and_eq_true] at h1 h6 h7 h8 h9 h10
  unfold joinedFacts
  simp only [Bool.and_eq_true]
  have e1 : (c.plainKeys == P.plainKeys) = true := by rw [c1, p3]; rfl
  have e2 : (c.lifted == P.liftsFinal) = true := by rw [c3, p9]; rfl
  have e3 : (P.make == some c.make) = true := by rw [p8, c2]; decide
  refine ⟨⟨⟨⟨⟨⟨⟨⟨⟨⟨⟨⟨⟨⟨⟨⟨⟨⟨⟨⟨⟨⟨⟨⟨⟨⟨⟨⟨⟨⟨⟨c4, p1⟩, p2⟩, h1.1.1.1⟩, h1.1.1.2⟩, h1.1.2⟩, p5⟩, h1.2⟩, p6⟩, h2⟩, h3⟩, h4⟩, h5⟩, h6.1.1⟩, h6.1.2⟩, h6.2⟩, h7.1⟩, h7.2⟩, h8.1.1.1⟩, h8.1.1.2⟩, h8.1.2⟩, h8.2⟩, e1⟩, h9.1.1⟩, p4⟩, p7⟩, e2⟩, e3⟩, h9.1.2⟩, h9.2⟩, h10.1⟩, h10.2⟩

theorem Try.own : ownKnob Try.prog.godebug = none := by kernel_rfl
theorem Try.laidOut : laidOutB Try.prog = true := by kernel_rfl

/-! ### Closed facts on the program, each by itself: the words of its head are read out of the list of signs (as a string they cost the kernel too much) -/
section
variable {P : Program} {l : List Char}
theorem signs_eq (h : P.initOrder = String.ofList l) : wordsSigns P.initOrder.toList = wordsSigns l := by rw [h, String.toList_ofList]
def headCut (ws : List (List Char)) : Bool :=
  match behindMainWord ws with
  | c :: rest => c == "cut".toList && (c != "gc".toList && c != "spec".toList) && ((stripLifts liftWords (c :: rest)).2.head? == some "cut".toList && (stripLifts liftWords (c :: rest)).1.isEmpty)
  | [] => false
theorem headCut_some {ws : List (List Char)} (h : headCut ws = true) : ∃ c rest, behindMainWord ws = c :: rest ∧ c = "cut".toList ∧ (c == "gc".toList) = false ∧ (c == "spec".toList) = false ∧ (stripLifts liftWords (c :: rest)).2.head? = some "cut".toList ∧ (stripLifts liftWords (c :: rest)).1 = [] := by
  unfold headCut at h
  split at h
  · rename_i c rest hc
    simp only [Bool.and_eq_true, beq_iff_eq, bne_iff_ne, List.isEmpty_iff] at h
    exact ⟨c, rest, hc, h.1.1, by simpa using h.1.2.1, by simpa using h.1.2.2, h.2.1, h.2.2⟩
  · cases h
theorem mayEnter_of (h : P.initOrder = String.ofList l) (hw : headCut (wordsSigns l) = true) (hl : P.laysLater = false) (hb : P.bearsReflect = false) (hd : P.doorFits [] = true) : P.mayEnter = true := by
  obtain ⟨c, rest, h1, h2, h3, h4, h5, h6⟩ := headCut_some hw
  unfold Program.mayEnter
  rw [signs_eq h, h1]
  simp only [h5, h6, hl, hb, hd]
  simp
theorem headLifts_of (h : P.initOrder = String.ofList l) (hw : headCut (wordsSigns l) = true) : P.headLifts = [] := by
  obtain ⟨c, rest, h1, h2, h3, h4, h5, h6⟩ := headCut_some hw
  unfold Program.headLifts
  rw [signs_eq h, h1]
  simp [h5, h6]
theorem make_of (h : P.initOrder = String.ofList l) (hw : headCut (wordsSigns l) = true) : P.make = some .cut := by
  obtain ⟨c, rest, h1, h2, h3, h4, h5, h6⟩ := headCut_some hw
  unfold Program.make
  rw [signs_eq h, h1]
  simp only [h3, h4, Bool.or_self]
  rw [if_neg (by decide), h2]
  simp
theorem liftsFinal_of (h : P.initOrder = String.ofList l) (hw : headCut (wordsSigns l) = true) : P.liftsFinal = false := by
  have hh := headLifts_of h hw
  obtain ⟨c, rest, h1, h2, h3, h4, h5, h6⟩ := headCut_some hw
  unfold Program.liftsFinal
  rw [signs_eq h, h1, hh, h2]
  have e : ("cut".toList == "carried".toList) = false := by decide
  simp
end
set_option maxRecDepth 1000000 in
theorem Try.head : ∃ l, Try.prog.initOrder = String.ofList l ∧ headCut (wordsSigns l) = true := ⟨_, rfl, by kernel_rfl⟩
theorem Try.later : Try.prog.laysLater = false := by kernel_rfl
theorem Try.reflects : Try.prog.bearsReflect = false := by kernel_rfl
theorem Try.door : Try.prog.doorFits [] = true := by kernel_rfl
theorem Try.mayEnter : Try.prog.mayEnter = true := by
  obtain ⟨l, h, hw⟩ := Try.head
  exact mayEnter_of h hw Try.later Try.reflects Try.door
theorem Try.makeCut : Try.prog.make = some .cut := by
  obtain ⟨l, h, hw⟩ := Try.head
  exact make_of h hw
theorem Try.liftsFinal : Try.prog.liftsFinal = false := by
  obtain ⟨l, h, hw⟩ := Try.head
  exact liftsFinal_of h hw
theorem Try.mapsRowed : mapsRowed Try.prog = true := by kernel_rfl
theorem Try.plainKeys : Try.prog.plainKeys = true := by kernel_rfl
theorem Try.stopsHeard : Try.prog.stopsHeard = true := by kernel_rfl
theorem Try.stopsNone : (Try.prog.stops == []) = true := by kernel_rfl
theorem Try.knobsNone : (Try.prog.stopKnobs == []) = true := by kernel_rfl

section
variable {H : Type} {enc : TypeId × Value → H} {P : Program}
/-- Arguments read as before in a world that only adds blocks. -/
theorem below_trodAll (hl : laidOutB P = true) {W W' : World} (hb : Below W.heap.size W W') : ∀ {ts : List TypeId} {vs : List Value} {ds : List (DataW H)} {ps : List MemPlace},
    ts.all (fun t => P.readableRec t && decide (t < P.types.size)) = true → DataW.TrodAll enc P W 0 (fun _ => true) true ts vs ds ps → (∀ x ∈ ps, x.block < W.heap.size) →
    DataW.TrodAll enc P W' 0 (fun b => decide (b < W.heap.size)) true ts vs ds ps
  | [], [], [], _, _, h, _ => h
  | [], _ :: _, _, _, _, h, _ => h.elim
  | [], [], _ :: _, _, _, h, _ => h.elim
  | _ :: _, [], _, _, _, h, _ => h.elim
  | _ :: _, _ :: _, [], _, _, h, _ => h.elim
  | t :: ts, v :: vs, d :: ds, _, hr, ⟨p, q, h1, h2, h3⟩, hlt => by
    subst h3
    simp only [List.all_cons, Bool.and_eq_true, decide_eq_true_eq] at hr
    exact ⟨p, q, Below.trod hl hr.1.1 hr.1.2 h1 hb (fun x hx => hlt x (List.mem_append.2 (.inl hx))),
      below_trodAll hl hb hr.2 h2 (fun x hx => hlt x (List.mem_append.2 (.inr hx))), rfl⟩
/-- The post of a law that returns true. -/
theorem law_post (hl : laidOutB P = true) {f : Func} {s : ChangeSpec} {tb : TypeId} (htb : P.underlying tb = some .bool) {W W' : World} {args : Array Value} {ds gs : List (DataW H)} {before : List MemPlace}
    (hW : DataW.Whole enc P f.params.toList s.vars false W args.toList ds gs before) (hv : s.vars = [])
    (hfn : s.fn H (ds ++ []) = { results := [.lit (.bool true)], args := ds }) (hr : f.resultTypes = #[tb])
    (hp : f.params.toList.all (fun t => P.readableRec t && decide (t < P.types.size)) = true) (hb : Below W.heap.size W W') :
    s.post enc P f false true false false W args (.bool true) W' := by
  have hW' := hW
  obtain ⟨p, q, hA, hV, rfl, _, _⟩ := hW
  have hlt := hW'.lt
  rw [hv] at hV
  obtain ⟨rfl, rfl⟩ := trodVars_none hV
  refine ⟨ds, [], p ++ [], [], p, [], hW', ?_, ?_, ?_, hb.frame _, fun h => by cases h⟩
  · rw [hfn, hr]
    exact trodAll_mk1 (shut_bool htb _)
  · rw [hfn]
    exact below_trodAll hl hb hp hA (fun x hx => hlt x (by simpa using hx))
  · rw [hfn, hv]
    exact rfl

/-- How many elements a datum takes. -/
def Takes (d : DataW H) (c : Nat) : Prop := d = .nil ∧ c = 0 ∨ ∃ el sp, d = .slice el sp ∧ el.length + sp.length = c
theorem byte_of {z : Int} (h : (Lit.int .u8 z).wf = true) : ((UInt8.ofNat z.toNat).toNat : Int) = z := by
  have hb : 0 ≤ z ∧ z < 256 := by
    simp [Lit.wf, IntKind.min, IntKind.max, IntKind.signed, IntKind.bits] at h
    omega
  rw [UInt8.toNat_ofNat']
  omega
/-- An argument of bytes. -/
theorem open_bytesQ {t e : TypeId} (hts : P.underlying t = some (.slice e)) (hte : P.underlying e = some (.int .u8)) (htc : P.cellsOf e = 1) {W : World} {A : Option Addr} {n c fuel : Nat} {d : DataW H} {p : List MemPlace}
    (hf : DataW.trod enc P W 0 (fun _ => true) true fuel t [.slice A n c] = some (d, p)) : ∃ l, At W 1 e8 A n c l ∧ Takes d c := by
  rcases open_ints hts hte htc hf with ⟨hcs, hx⟩ | ⟨a, len, cap, zs, hcs, _, hl, hm, hz, hx, hcell, hwz⟩
  · simp at hcs
    obtain ⟨rfl, rfl, rfl⟩ := hcs
    simp only [Prod.mk.injEq] at hx
    exact ⟨[], At.nil _ _ _, .inl ⟨hx.1, rfl⟩⟩
  · simp at hcs
    obtain ⟨rfl, rfl, rfl⟩ := hcs
    simp only [Prod.mk.injEq] at hx
    simp only [if_true] at hz
    refine ⟨(zs.take n).map fun z => UInt8.ofNat z.toNat, ⟨by simp; omega, hl, hm, fun h => (by cases h), fun k x hxx => ?_⟩, .inr ⟨_, _, hx.1, by simp [lits]; omega⟩⟩
    have hk : k < n := by
      have := (List.getElem?_eq_some_iff.1 hxx).1
      simp at this; omega
    have hc := hcell k (by omega)
    obtain ⟨b, off, spot⟩ := a
    have hs : spot = none := by
      have h3 : ((⟨b, off, spot⟩ : Addr).add 0) = ⟨b, off, spot⟩ := by unfold Addr.add; rfl
      have h4 := hcell 0 (by omega)
      rw [h3] at h4
      exact cell_spot h4
    subst hs
    refine ⟨b, off, rfl, fun j u hu => ?_⟩
    match j, hu with
    | j + 1, hu => simp at hu
    | 0, hu =>
      simp at hu; subst hu
      have hkz : k < zs.length := by omega
      have hx2 : x = UInt8.ofNat (zs[k]).toNat := by
        rw [List.getElem?_map, List.getElem?_take_of_lt hk, List.getElem?_eq_getElem hkz] at hxx
        simpa using hxx.symm
      rw [Addr.add_lit] at hc
      rw [show off + k * 1 + 0 = off + k by omega, hc, hx2]
      have hb := byte_of (hwz (zs[k]) (List.getElem_mem hkz))
      show some (Value.int .u8 (zs.getD k 0)) = some (Value.int .u8 _)
      rw [hb]
      simp [List.getD, List.getElem?_eq_getElem hkz]
theorem open_bytesP {t e : TypeId} (hts : P.underlying t = some (.slice e)) (hte : P.underlying e = some (.int .u8)) (htc : P.cellsOf e = 1) {W : World} {base : Nat} {v : Value} {d : DataW H} {p : List MemPlace} (hv : Value.okWide P W .any base t v)
    (h : DataW.Trod enc P W 0 (fun _ => true) true t v d p) : ∃ A n c l, v = .slice A n c ∧ At W 1 e8 A n c l ∧ Takes d c := by
  obtain ⟨A, n, c, rfl⟩ := okWide_slice hts hv
  obtain ⟨fuel, hf⟩ := h
  obtain ⟨l, h1, h2⟩ := open_bytesQ hts hte htc (by simpa [Value.cells] using hf)
  exact ⟨A, n, c, l, rfl, h1, h2⟩
theorem reach_of {t e : TypeId} (hts : P.underlying t = some (.slice e)) {ts : List TypeId} {ds : List (DataW H)} (hsz : (DataW.weightsEach P ts ds).all (· ≤ reachBytes) = true) (j : Nat) (ht : ts[j]? = some t) {d : DataW H} (hd : ds[j]? = some d) {n c : Nat} (h : Takes d c) (hn : n ≤ c) :
    n * P.bytesOf e ≤ 140737488351232 := by
  rcases h with ⟨_, hc⟩ | ⟨el, sp, rfl, hc⟩
  · have : n = 0 := by omega
    subst this; omega
  · have h1 := sized_slice hsz (e := e) ht hd hts
    simp only [reachBytes] at h1
    have h2 : n * P.bytesOf e ≤ (el.length + sp.length) * P.bytesOf e := Nat.mul_le_mul_right _ (by omega)
    omega
end
end Go.Proofs.Ytlonhkjplijlcaa
