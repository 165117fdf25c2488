/- Walk: laid (program). Conditions as stated. -/
import Derived.Test.YtkbmgakehlmcnaaMtq30
import Derived.Lib.MinMax
namespace Go.Proofs.Ytkbmgakehlmcnaa
open Go.RowKit
theorem szN_split (l : List Smp) {a b : Nat} (h : a ≤ b) : szN (l.take b) = szN (l.take a) + szN ((l.drop a).take (b - a)) := by
  have e : l.take b = l.take a ++ (l.drop a).take (b - a) := by
    obtain ⟨k, rfl⟩ : ∃ k, b = a + k := ⟨b - a, by omega⟩
    rw [List.take_add, Nat.add_sub_cancel_left]
  rw [e, szN_app]
theorem getD_cut {α : Type} {l : List α} {a k : Nat} {d : α} {n : Nat} (h : k < n) : ((l.drop a).take n).getD k d = l.getD (a + k) d := by
  simp only [List.getD_eq_getElem?_getD, List.getElem?_take, h, if_true, List.getElem?_drop]
set_option linter.unusedVariables false in
set_option linter.unusedSimpArgs false in
set_option maxRecDepth 100000 in
set_option maxHeartbeats 16000000 in
theorem laid_any {sc : Int} {A : Option Addr} {n c : Nat} {hs : List TrkH} {T : List TrkT} {B : Option Addr} {m d : Nat} {es : List (Option Addr × Nat × Nat)} {D : List (List UInt8)} {ch fr : Nat} {w : World} (h : TksAt w A n c hs T) (hd : DtsAt w B m d es D) (hr : FilR T) (hz : datF T D = 0) (hc : 1 ≤ ch) (hc2 : ch ≤ 1000) (hf : fr ≤ 1000000000) :
    Calls Try.prog 22 #[.agg #[.int .i64 sc, .slice A n c], .slice B m d, .int .i64 (ch : Int), .int .i64 (fr : Int)] w (LayG w n (layF T D ch fr)) := by
  have hmn : m = n := by have := (datF_zero hz).1; rw [hd.len, h.len] at this; exact this
  subst hmn
  have HT := hide h
  have HD := hide hd
  have HTL : Hid (T.length = m) := hide h.len
  have HR := hide (fun (i : Nat) (hi : i < m) => hr.smp i (by rw [h.len]; exact hi))
  have HDT := hide (fun (i : Nat) (hi : i < m) => (datF_zero hz).2 i (by rw [h.len]; exact hi))
  have hn8 : m ≤ 8 := by have := hr.few; rw [h.len] at this; exact this
  have HOB := hide (layR_out (D := D) (ch := ch) (from_ := fr) (fun i hi => (hr.smp i hi).1) hc2 hr.few)
  have HKB := hide (fun (r : Nat) => layK_out (D := D) (ch := ch) (from_ := fr) (n := r) (s := layR T D ch fr r) (fun i hi => (hr.smp i hi).1) hc2)
  have HFW := hide (layR_few (D := D) (ch := ch) (from_ := fr) (fun i hi => (hr.smp i hi).2) hc)
  have HFK := hide (fun (r : Nat) => layK_few (D := D) (ch := ch) (from_ := fr) (n := r) (s := layR T D ch fr r) (fun i hi => (hr.smp i hi).2) hc (fun j => layR_few (D := D) (ch := ch) (from_ := fr) (fun i hi => (hr.smp i hi).2) hc r j))
  have HEND := hide (fun (r : Nat) (h0 : ∀ i, i < m → (T.getD i default).smp.length ≤ r * ch) (h5 : r ≤ 5001) => layF_at (D := D) (from_ := fr) (fun i hi => h0 i (by rw [← HTL.out]; exact hi)) h5)
  have HMF := hide (fun (r : Nat) => moB_few (T := T) (ch := ch) (n := r) (i := m) (fun k hk => (HR.out k hk).2) hc)
  have X0 := hide (Blk.new w 24 #[.int .i64 sc, .slice A m c])
  have E0 := hide (Ext.alloc w (.cells #[.int .i64 sc, .slice A m c] 24))
  obtain ⟨i0_, hi0, hz0, hz1, hz2⟩ := info_parts Try.info3
  obtain ⟨j0_, hj0, hy0, hy1, hy2⟩ := info_parts Try.info79
  have hmk1 := made_run (P := Try.prog) 60 79 j0_ (.slice none 0 0) Try.underlying60 hj0 hy0 (sz := 1) hy1 (bytes := 24) hy2 m (by omega) (by omega)
  have hmk2 := made_run (P := Try.prog) 79 3 i0_ (.int .i64 0) Try.underlying79 hi0 hz0 (sz := 1) hz1 (bytes := 8) hz2 m (by omega) (by omega)
  have hml : m ≤ maxLen := by unfold maxLen; omega
  obtain ⟨u0_, hu0, hv0, hv1, hv2⟩ := info_parts Try.info5
  clear h hd hr hz hj0 hy0 hy1 hy2
  go_enter Try.func22, Try.ntmps22
  go_upto_region 1 with (fail)
  refine gen_wpC fun w0 h0 => ?_
  rw [← h0] at X0 E0
  clear h0
  have x1 : w0.cell? ⟨w.heap.size, 1, none⟩ = some (.slice A m c) := X0.out.cell 1
  go_upto_region 2 with (fail)
  refine gen_wpC fun w1 h1 => ?_
  obtain ⟨gp, hgp⟩ : ∃ gp, gp = w0.heap.size := ⟨_, rfl⟩
  have L1 : Hid (LaM w0 w1 gp m (List.replicate m dR) (List.replicate m []) [] (.slice none 0 0) []) := hide (by have h9 := LaM.start (w0 := w0) hml; rw [Nat.mul_one] at h9; rw [h1, hgp]; exact h9)
  rw [← hgp]
  clear h1 x1 hmk1 hgp
  have x1 : w1.cell? ⟨w.heap.size, 1, none⟩ = some (.slice A m c) := L1.out.ext.cell (X0.out.cell 1)
  go_upto_region 3 with (fail)
  refine gen_wpC fun w2 h2 => ?_
  obtain ⟨gs, hgs⟩ : ∃ gs, gs = w1.heap.size := ⟨_, rfl⟩
  have L2 : Hid (LaM w0 w2 gp m (List.replicate m dR) (List.replicate m []) [(gs, List.replicate m 0)] (.slice none 0 0) []) := hide (by have h9 := L1.out.addS hml; rw [Nat.mul_one] at h9; rw [h2, hgs]; exact h9)
  rw [← hgs]
  clear h2 x1 hgs L1
  have x1 : w2.cell? ⟨w.heap.size, 1, none⟩ = some (.slice A m c) := L2.out.ext.cell (X0.out.cell 1)
  go_upto_region 4 with (fail)
  refine gen_wpC fun w3 h3 => ?_
  obtain ⟨gt, hgt⟩ : ∃ gt, gt = w2.heap.size := ⟨_, rfl⟩
  have L3 : Hid (LaM w0 w3 gp m (List.replicate m dR) (layR T D ch fr 0).pl [(gs, smpV T ch 0 0 m), (gt, tknV T ch 0 0 m)] (.slice none 0 0) (layR T D ch fr 0).out) := hide (by have h9 := L2.out.addS hml; rw [Nat.mul_one] at h9; rw [smpV_start, tknV_start, layR, HTL.out, h3, hgt]; exact h9)
  rw [← hgt]
  clear h3 x1 hgt L2 hmk2
  go_wp2_with fail
  go_loopw [13, 14] (fun r13 r14 wr => ∃ (r : Nat) (b : Bool) (hv : List (Option Addr × Nat × Nat)), r14 = .bool b ∧ r ≤ 5001 ∧ (b = true → r ≤ 5000) ∧ Hid (b = false → ∀ k, k < m → (T.getD k default).smp.length ≤ r * ch) ∧ Hid (LaM w0 wr gp m hv (layR T D ch fr r).pl [(gs, smpV T ch r 0 m), (gt, tknV T ch r 0 m)] r13 (layR T D ch fr r).out)) (fun _ r14 wr => leftM T gs m r14 wr)
  case atStart => exact ⟨0, true, _, rfl, by omega, by omega, hide (fun h => by cases h), L3⟩
  case round =>
    clear L3
    obtain ⟨r, b, hv, rfl, hr1, hr2, HB, HL⟩ := hrel
    cases b with
    | false =>
      have hE := HEND.out r (HB.out rfl) hr1
      have HE := hide hE
      clear hE
      go_wp2_with fail
      go_ret2
      exact ⟨w0, gp, hv, _, rfl, E0.out, by rw [HE.out]; exact HL.out.drop_⟩
    | true =>
      have hr5 := hr2 rfl
      have x1 : wr.cell? ⟨w.heap.size, 1, none⟩ = some (.slice A m c) := HL.out.ext.cell (X0.out.cell 1)
      obtain ⟨wl, hwl⟩ : ∃ wl, wl = wr := ⟨_, rfl⟩
      have HL0 : Hid (LaM w0 wl gp m hv (layR T D ch fr r).pl [(gs, smpV T ch r 0 m), (gt, tknV T ch r 0 m)] _ (layR T D ch fr r).out) := hide (by rw [hwl]; exact HL.out)
      go_wp2_with fail
      clear x1
      go_loopw [13, 14, 37] (fun r13 r14 ri wx => ∃ (i : Nat) (hu : List (Option Addr × Nat × Nat)), i ≤ m ∧ ri = .int .i64 (i : Int) ∧ r14 = .bool (moB T ch r i) ∧ Hid (LaM w0 wx gp m hu (layK T D ch fr r (layR T D ch fr r) i).pl [(gs, smpV T ch r i m), (gt, tknV T ch r i m)] r13 (layK T D ch fr r (layR T D ch fr r) i).out)) (fun _ _ ri _ => m - (intOf ri).toNat)
      case atStart => exact ⟨0, _, by omega, rfl, rfl, HL⟩
      case round =>
        clear HL
        obtain ⟨i, hu, hi, rfl, rfl, HK⟩ := hrel
        by_cases hlt : i < m
        · obtain ⟨b, o, rfl, _⟩ := HT.out.at_.addr (by omega)
          have x1 : wr.cell? ⟨w.heap.size, 1, none⟩ = some (.slice (some ⟨b, o, none⟩) m c) := HK.out.ext.cell (X0.out.cell 1)
          have hat := HT.out.at_.ext (Ext.trans E0.out HK.out.ext)
          have hok := HT.out.ok i hlt
          have HSZ := hide (HR.out i hlt)
          obtain ⟨z, hz⟩ : ∃ z, hs.getD i default = z := ⟨_, rfl⟩
          rw [hz] at hok
          have a0 : wr.cell? ⟨b, o + i * 4, none⟩ = some (.string ⟨z.name.toArray⟩) := hat.cellK hlt default 0 _ (by rw [hz]; rfl)
          have a1 : wr.cell? ⟨b, o + i * 4 + 1, none⟩ = some (.int .i64 z.scale) := hat.cellK hlt default 1 _ (by rw [hz]; rfl)
          have a2 : wr.cell? ⟨b, o + i * 4 + 2, none⟩ = some (.slice z.sA z.sn z.sc) := hat.cellK hlt default 2 _ (by rw [hz]; rfl)
          have a3 : wr.cell? ⟨b, o + i * 4 + 3, none⟩ = some (.slice z.eA z.en z.ec) := hat.cellK hlt default 3 _ (by rw [hz]; rfl)
          have HS := hide hok.2.2.1
          have hsl := HS.out.len
          have HSL := hide hsl
          have HD1 := hide (HD.out.ok i hlt)
          have HD2 := hide (HDT.out i hlt)
          have hsb : z.sn ≤ 5000 := by have := HSZ.out.2; omega
          have HLI : Hid (layK T D ch fr r (layR T D ch fr r) (i + 1) = layI T D ch fr r i (layK T D ch fr r (layR T D ch fr r) i)) := hide rfl
          have HMB : Hid (moB T ch r (i + 1) = (moB T ch r i || decide (r * ch < (T.getD i default).smp.length))) := hide rfl
          have HSA := hide (smpV_at (T := T) (ch := ch) (n := r) hlt)
          have HTA := hide (tknV_at (T := T) (ch := ch) (n := r) hlt)
          have HSS := hide (smpV_set (T := T) (ch := ch) (n := r) hlt)
          have HTS := hide (tknV_set (T := T) (ch := ch) (n := r) hlt)
          have HSK := hide (fun h => smpV_skip (T := T) (ch := ch) (n := r) (i := i) (m := m) h)
          have HTK := hide (fun h => tknV_skip (T := T) (ch := ch) (n := r) (i := i) (m := m) h)
          have HLU : Hid (∀ s : LayS, layI T D ch fr r i s = if (T.getD i default).smp.length ≤ r * ch then s
            else ⟨s.pl.set i (s.pl.getD i [] ++ [((fr + s.out.length : Nat) : Int)]), s.out ++ pcB (D.getD i []) (szN ((T.getD i default).smp.take (r * ch))) (szN ((T.getD i default).smp.take (min (r * ch + ch) (T.getD i default).smp.length)))⟩) := hide (fun _ => rfl)
          have HPB : Hid (r * ch ≤ 5000000) := hide (Nat.mul_le_mul hr5 hc2)
          have HOB1 := hide (Nat.le_trans (HKB.out r i (by have := HTL.out; omega)) (Nat.add_le_add (HOB.out r) (Nat.mul_le_mul_left _ hi)))
          have HRB1 := hide (HFK.out r i (by have := HTL.out; omega) i)
          generalize hK1 : layK T D ch fr r (layR T D ch fr r) (i + 1) = K1 at *
          have HK1 := hide hK1
          clear hK1
          generalize layK T D ch fr r (layR T D ch fr r) i = K0 at *
          generalize hM1 : moB T ch r (i + 1) = M1 at *
          have HM1_ := hide hM1
          clear hM1
          generalize moB T ch r i = M0 at *
          generalize hSV1 : smpV T ch r (i + 1) m = SV1 at *
          have HSV1 := hide hSV1
          clear hSV1
          generalize smpV T ch r i m = SV0 at *
          generalize hTV1 : tknV T ch r (i + 1) m = TV1 at *
          have HTV1 := hide hTV1
          clear hTV1
          generalize tknV T ch r i m = TV0 at *
          generalize r * ch = P at *
          have hPb := HPB.out
          generalize (T.getD i default).smp = sm at *
          generalize D.getD i [] = dd at *
          generalize z.name = zn at *
          generalize z.scale = zs at *
          generalize z.sA = sA at *
          generalize z.sn = sn at *
          generalize z.sc = scc at *
          generalize z.eA = eA at *
          generalize z.en = en at *
          generalize z.ec = ec at *
          have i1 : (i : Int) < (m : Int) := by omega
          have i0 : (0 : Int) ≤ (i : Int) := by omega
          clear hat hok hz
          go_upto_region 11 with (fail)
          refine gen_wpC fun w5 h5 => ?_
          obtain ⟨tb, htb⟩ : ∃ tb, tb = wr.heap.size := ⟨_, rfl⟩
          rw [← htb]
          have L5 := hide (show LaM w0 w5 gp m hu K0.pl [(gs, SV0), (gt, TV0)] _ K0.out by rw [h5]; exact HK.out.extW (Ext.alloc _ _))
          have X5 : Hid (Blk w5 tb 47 #[.string ⟨zn.toArray⟩, .int .i64 zs, .slice sA sn scc, .slice eA en ec]) := hide (by rw [h5, htb]; exact Blk.new _ _ _)
          clear h5 htb a0 a1 a2 a3 x1 HK
          have y2 : w5.cell? ⟨tb, 2, none⟩ = some (.slice sA sn scc) := X5.out.cell 2
          have cS : w5.cell? ⟨gs, i, none⟩ = some (.int .i64 ((min sm.length P : Nat) : Int)) := by have := L5.out.num (j := 0) (by simp) hlt; rw [show ([(gs, SV0), (gt, TV0)] : List (Nat × List Int)).getD 0 dI = (gs, SV0) from rfl] at this; rw [HSA.out] at this; exact this
          by_cases hsk : sm.length ≤ P
          · have HL1 : Hid (K1 = K0) := hide (by rw [HLI.out, HLU.out, if_pos hsk])
            have HM1 : Hid (Value.bool M0 = Value.bool M1) := hide (by rw [HMB.out, decide_eq_false (by omega), Bool.or_false])
            have HS1 : Hid (SV1 = SV0) := hide (HSK.out hsk)
            have HT1 : Hid (TV1 = TV0) := hide (HTK.out hsk)
            rw [Nat.min_eq_left hsk, hsl] at cS
            have j1 : min ((sn : Int) + (ch : Int)) (sn : Int) = (sn : Int) := by omega
            have j2 : IntKind.i64.wrap ((sn : Int) + (ch : Int)) = (sn : Int) + (ch : Int) := by rw [IntKind.wrap_i64]; omega
            have HW5 : Hid (Ext w5 w5.drew) := hide (Ext.drew _)
            go_region
            go_wp2_with fail
            exact ⟨⟨i + 1, hu, by omega, by go_num, by rw [HM1.out, HM1_.out], hide (by rw [HK1.out, HSV1.out, HTV1.out, HL1.out, HS1.out, HT1.out]; exact L5.out.extW (Ext.drew _))⟩, by simp [intOf]; omega⟩
          · have hP : P < sm.length := by omega
            obtain ⟨e, he⟩ : ∃ e, e = min sm.length (P + ch) := ⟨_, rfl⟩
            have he2 : min (P + ch) sm.length = e := by omega
            have hPe : P ≤ e := by omega
            have hPe2 : P < e := by omega
            have hes : e ≤ sn := by omega
            have HL1 : Hid (K1 = ⟨K0.pl.set i (K0.pl.getD i [] ++ [((fr + K0.out.length : Nat) : Int)]), K0.out ++ pcB dd (szN (sm.take P)) (szN (sm.take e))⟩) := hide (by rw [HLI.out, HLU.out, if_neg hsk, he2])
            have HM1 : Hid (Value.bool true = Value.bool M1) := hide (by rw [HMB.out, decide_eq_true hP, Bool.or_true])
            have HS1 : Hid (SV0.set i (e : Int) = SV1) := hide (by have := HSS.out; rw [← he] at this; exact this)
            have HT1 : Hid (TV0.set i ((szN (sm.take e) : Nat) : Int) = TV1) := hide (by have := HTS.out; rw [← he] at this; exact this)
            have HTA1 : Hid (TV0.getD i 0 = (szN (sm.take P) : Int)) := hide (by rw [HTA.out, Nat.min_eq_right (by omega)])
            rw [Nat.min_eq_right (by omega)] at cS
            have j1 : min ((P : Int) + (ch : Int)) (sn : Int) = (e : Int) := by omega
            have j2 : IntKind.i64.wrap ((P : Int) + (ch : Int)) = (P : Int) + (ch : Int) := by rw [IntKind.wrap_i64]; omega
            have j3 : ((P : Int) == (e : Int)) = false := by rw [beq_eq_false_iff_ne]; omega
            have HSP := hide (szN_split sm hPe)
            obtain ⟨A3, hr3, ha3⟩ := HS.out.range_ (P := Try.prog) Try.underlying42 (fun _ => by kernel_rfl) (k := P) (m := e) hPe hes (P : Int) (e : Int) rfl rfl
            have HA3 := hide ha3
            have cS0 := cS
            obtain ⟨oA, oc, ho13, hat13⟩ := L5.out.out_.at_ len_e8
            subst ho13
            clear hsk HSK HTK HSS HTS HLU HLI HMB HTA HSA he he2 ha3 hat13
            go_region
            go_upto_region 15 with (fail)
            refine gen_wpC fun w6 h6 => ?_
            have E6 : Hid (Ext w5 w6) := hide (by rw [h6]; exact Ext.drew _)
            clear h6 y2 cS
            have y2 : w6.cell? ⟨tb, 2, none⟩ = some (.slice sA sn scc) := E6.out.cell (X5.out.cell 2)
            have cS : w6.cell? ⟨gs, i, none⟩ = some (.int .i64 (P : Int)) := E6.out.cell cS0
            go_region
            go_wp2_with fail
            clear y2 cS cS0 hr3
            have E7 : Hid (Ext w5 w6.drew) := hide (Ext.trans E6.out (Ext.drew _))
            go_loopw [18, 67] (fun rs rq wx => ∃ q : Nat, q ≤ e - P ∧ rq = .int .i64 (q : Int) ∧ rs = .int .i64 (szN (((sm.drop P).take (e - P)).take q) : Int) ∧ Hid (Ext w5 wx)) (fun _ rq _ => e - P - (intOf rq).toNat)
            case atStart => exact ⟨0, by omega, rfl, by simp [szN], E7⟩
            case round =>
              obtain ⟨q, hq, rfl, rfl, HY⟩ := hrel
              clear E7
              have EY := hide (Ext.trans E0.out (Ext.trans L5.out.ext HY.out))
              by_cases hql : q < e - P
              · have hat := HA3.out _ (HS.out.ext EY.out)
                obtain ⟨sb, so, rfl, _⟩ := hat.addr (by omega)
                have b0 := hat.cellK hql dS 0 _ rfl
                have b1 := hat.cellK hql dS 1 _ rfl
                have b2 := hat.cellK hql dS 2 _ rfl
                have b3 := hat.cellK hql dS 3 _ rfl
                have b4 := hat.cellK hql dS 4 _ rfl
                rw [Nat.add_zero] at b0
                rw [getD_cut hql] at b0 b1 b2 b3 b4
                have hsz := HSZ.out.1 (P + q) (by omega)
                have hln : ((sm.drop P).take (e - P)).length = e - P := by rw [List.length_take, List.length_drop]; omega
                have hbd := szN_bd HSZ.out.1 HSZ.out.2 (P + q)
                have hbd2 : szN (((sm.drop P).take (e - P)).take q) ≤ szN (sm.take (P + q)) := by
                  rw [szN_split sm (a := P) (b := P + q) (by omega), List.take_take, Nat.min_eq_left (by omega), Nat.add_sub_cancel_left]; omega
                have HTK : Hid ((szN (((sm.drop P).take (e - P)).take (q + 1)) : Int) = (szN (((sm.drop P).take (e - P)).take q) : Int) + (sm.getD (P + q) dS).size) := hide (by rw [szN_take (by omega), getD_cut hql]; omega)
                generalize (sm.getD (P + q) dS).time = s0 at *
                generalize (sm.getD (P + q) dS).step = s1 at *
                generalize (sm.getD (P + q) dS).shift = s2 at *
                generalize (sm.getD (P + q) dS).size = s3 at *
                generalize (sm.getD (P + q) dS).key = s4 at *
                generalize szN (((sm.drop P).take (e - P)).take q) = S at *
                have k1 : (q : Int) < ((e - P : Nat) : Int) := by omega
                have k0 : (0 : Int) ≤ (q : Int) := by omega
                have k9 : IntKind.i64.wrap ((S : Int) + s3) = (S : Int) + s3 := by rw [IntKind.wrap_i64]; omega
                clear hat hln
                go_wp2_with fail
                exact ⟨⟨q + 1, by omega, by go_num, int_val HTK.out.symm, hide (Ext.trans HY.out (Ext.alloc _ _))⟩, by simp [intOf]; omega⟩
              · obtain rfl : q = e - P := by omega
                have HTK : Hid (((sm.drop P).take (e - P)).take (e - P) = (sm.drop P).take (e - P)) := hide (by rw [List.take_take, Nat.min_self])
                rw [HTK.out]
                clear HTK
                generalize szN ((sm.drop P).take (e - P)) = S at *
                have L6 := hide (L5.out.extW HY.out)
                obtain ⟨rw_, hrw⟩ : ∃ x, hu.getD i dR = x := ⟨_, rfl⟩
                obtain ⟨rA, rn, rc⟩ := rw_
                have cP : wr.cell? ⟨gp, i, none⟩ = some (.slice rA rn rc) := by have := L6.out.row hlt; rw [hrw] at this; exact this
                have OW : Hid (Own wr w0.heap.size 3 1 e64 (.slice rA rn rc) (K0.pl.getD i [])) := hide (by have := L6.out.rows i hlt; rw [hrw] at this; exact this)
                have hrb := HRB1.out.1
                obtain ⟨R0, hR0⟩ : ∃ R0, K0.pl.getD i [] = R0 := ⟨_, rfl⟩
                have HR0 := hide hR0
                rw [hR0] at OW hrb
                have hob := HOB1.out
                have S1 : Hid (R0.length + 1 ≤ maxLen) := hide (by unfold maxLen; omega)
                have S2 : Hid ((R0.length + 1) * 8 ≤ 140737488355328) := hide (by omega)
                have S3 : Hid (∀ x : Int, w0.heap.size ≤ (wr.alloc (.cells #[.int .i64 x] 3)).heap.size) := hide (fun x => by rw [World.size_alloc]; have := L6.out.ext.size; omega)
                have k9 : IntKind.i64.wrap ((fr : Int) + (K0.out.length : Int)) = ((fr + K0.out.length : Nat) : Int) := by rw [IntKind.wrap_i64]; omega
                have T1 : Hid (∀ q : Nat, q ≤ 500000000 → K0.out.length + q ≤ maxLen ∧ (K0.out.length + q) * 1 ≤ 140737488355328) := hide (fun q hq => by unfold maxLen; omega)
                obtain ⟨x, hx⟩ : ∃ x : Int, x = ((fr + K0.out.length : Nat) : Int) := ⟨_, rfl⟩
                rw [← hx] at k9 HL1
                have HRW := hide hrw
                clear hrb hob hx hrw HY L5 hql hR0
                go_upto_region 21 with (at_builtin; refine wpList_append_at _ rfl (.tmp 81) (.tmp 86) 79 rfl w0.heap.size 3 i0_ _ 8 Try.underlying79 hi0 hz0 hz1 hz2 rfl (by omega) len_e64 one_e64 _ _ (by rfl) (OW.out.ext (Ext.alloc _ _)) (some ⟨wr.heap.size, 0, none⟩) 1 1 [x] (by rfl) (At.new1 wr x _ rfl _) S1.out S2.out (S3.out x) ?_; intro v7 w7 o7 g7 n7 r7; obtain ⟨A7, c7, hv7, _⟩ := o7.at_ len_e64; generalize (R0 ++ [x]).length = n7_ at hv7; subst hv7; have F7 := L6.out.frA hlt (Ext.alloc wr (.cells #[.int .i64 x] 3)) (W6 := w7) (by rw [HRW.out]; exact g7) i; have C7 : w7.cell? ⟨gp, i, none⟩ = some (.slice rA rn rc) := (by have h9 := L6.out.clA hlt (Ext.alloc wr (.cells #[.int .i64 x] 3)) (W6 := w7) (by rw [HRW.out]; exact g7) hlt; rw [HRW.out] at h9; exact h9); have L7 := hide (LaM.app L6.out hlt (Ext.alloc wr (.cells #[.int .i64 x] 3)) (by rw [HR0.out]; exact o7) (by rw [HRW.out]; exact g7) (by rw [HRW.out]; exact r7)); clear o7 g7 r7 n7)
                refine gen_wpC fun w8 h8 => ?_
                rw [← h8] at L7
                have L8 := hide L7.out
                clear L7
                clear h8 F7 C7 cP OW L6
                obtain ⟨b2, o2, rfl, _⟩ := HD.out.at_.addr (by omega)
                have HCL : Hid (∀ (W : World) hu' pl' v' out', LaM w0 W gp m hu' pl' [(gs, SV0), (gt, TV0)] v' out' → W.cell? ⟨b2, o2 + i, none⟩ = some (.slice (es.getD i (none, 0, 0)).1 (es.getD i (none, 0, 0)).2.1 (es.getD i (none, 0, 0)).2.2) ∧ W.cell? ⟨gt, i, none⟩ = some (.int .i64 (szN (sm.take P) : Int))) := hide (fun W hu' pl' v' out' hL => ⟨by have := (HD.out.at_.ext (Ext.trans E0.out hL.ext)).cellK hlt (none, 0, 0) 0 _ rfl; simpa using this, by have := hL.num (j := 1) (by simp) hlt; rw [show ([(gs, SV0), (gt, TV0)] : List (Nat × List Int)).getD 1 dI = (gt, TV0) from rfl, HTA1.out] at this; exact this⟩)
                have hdl := HD1.out.len
                have hse := szN_le sm e
                have hds := HD2.out
                have hsp := HSP.out
                have hbe := szN_bd HSZ.out.1 HSZ.out.2 e
                generalize (es.getD i (none, 0, 0)).1 = dA at *
                generalize (es.getD i (none, 0, 0)).2.1 = dn at *
                generalize (es.getD i (none, 0, 0)).2.2 = dc at *
                generalize szN (sm.take P) = tP at *
                generalize szN (sm.take e) = tE at *
                have hle := HD1.out.le
                obtain ⟨A4, hr4, ha4⟩ := HD1.out.range_ (P := Try.prog) Try.underlying28 (fun _ => by kernel_rfl) (k := tP) (m := tE) (by omega) (by omega) (tP : Int) (tE : Int) rfl rfl
                have HA4 : Hid (∀ W, Ext w W → At W 1 e8 A4 (tE - tP) (dc - tP) (pcB dd tP tE)) := hide (fun W hW => ha4 W (HD1.out.ext hW))
                have U1 := hide (T1.out (tE - tP) (by omega)).1
                have U2 := hide (T1.out (tE - tP) (by omega)).2
                have U3 : Hid (w0.heap.size ≤ w8.drew.heap.size) := hide L8.out.ext.size
                have k8 : IntKind.i64.wrap ((tP : Int) + (S : Int)) = (tE : Int) := by rw [IntKind.wrap_i64]; omega
                have k7 : (tP : Int) ≤ (tE : Int) := by omega
                have k6 : (0 : Int) ≤ (tP : Int) := by omega
                obtain ⟨d0, d1⟩ := HCL.out _ _ _ _ _ L8.out
                obtain ⟨d2, d3⟩ := HCL.out _ _ _ _ _ (L8.out.extW (Ext.drew _))
                clear hdl hse hds hsp hbe ha4
                go_region_held3 (fun w' => w'.cell? ⟨b2, o2 + i, none⟩ = some (.slice dA dn dc) ∧ w'.cell? ⟨gt, i, none⟩ = some (.int .i64 (tP : Int))) (first | go_keep | exact ⟨d2, d3⟩ | exact HCL.out _ _ _ _ _ L9.out) (first
                  | ((refine step_append_at rfl (.tmp 89) (.tmp 104) 28 rfl w0.heap.size 5 u0_ _ 1 Try.underlying28 hu0 hv0 hv1 hv2 rfl (by omega) len_e8 one_e8 _ _ (by simp [Act.eval]) (L8.out.out_.ext (Ext.drew _)) A4 (tE - tP) (dc - tP) (pcB dd tP tE) (by simp [Act.eval]) (HA4.out _ (Ext.trans E0.out (Ext.trans L8.out.ext (Ext.drew _)))) U1.out U2.out U3.out ?_); intro v9 w9 o9 g9 _ r9; have L9 := hide (L8.out.appOut (Ext.drew _) o9 g9 r9); clear o9 g9 r9))
                have f9 : w9.frozen? ⟨gs, i, none⟩ = false := L9.out.frS (j := 0) (by simp) i
                obtain ⟨y9, c9⟩ : ∃ y9, w9.cell? ⟨gs, i, none⟩ = some (.int .i64 y9) := ⟨_, L9.out.num (j := 0) (by simp) hlt⟩
                go_upto_region 23 with (fail)
                refine gen_wpC fun w10 h10 => ?_
                have L10 := hide (show LaM w0 w10 gp m _ _ [(gs, SV1), (gt, TV0)] _ _ by rw [h10, ← HS1.out]; exact L9.out.setS (j := 0) (by simp) i (e : Int))
                clear h10 f9 c9 L9
                have f10 : w10.frozen? ⟨gt, i, none⟩ = false := L10.out.frS (j := 1) (by simp) i
                have c10 : w10.cell? ⟨gt, i, none⟩ = some (.int .i64 (tP : Int)) := by
                  have := L10.out.num (j := 1) (by simp) hlt
                  rw [show ([(gs, SV1), (gt, TV0)] : List (Nat × List Int)).getD 1 dI = (gt, TV0) from rfl, HTA1.out] at this
                  exact this
                go_upto_region 24 with (fail)
                refine gen_wpC fun w11 h11 => ?_
                have L11 := hide (show LaM w0 w11 gp m _ _ [(gs, SV1), (gt, TV1)] _ _ by rw [h11, ← HT1.out]; exact L10.out.setS (j := 1) (by simp) i (tE : Int))
                clear h11 f10 c10 L10
                go_wp2_with fail
                exact ⟨⟨i + 1, _, by omega, by go_num, by rw [HM1.out, HM1_.out], hide (by rw [HK1.out, HSV1.out, HTV1.out, HL1.out]; exact L11.out)⟩, by simp [intOf]; omega⟩
        · obtain rfl : i = m := by omega
          have LE := hide HK.out
          have hmf := HMF.out r
          have HM5 := hide hmf
          have HNE : Hid (moB T ch r i = false → ∀ k, k < i → (T.getD k default).smp.length ≤ (r + 1) * ch) := hide (fun hb k hk => Nat.le_trans (moB_false hb k hk) (by rw [Nat.succ_mul]; omega))
          have HLR : Hid (layK T D ch fr r (layR T D ch fr r) i = layR T D ch fr (r + 1)) := hide (by rw [layR, HTL.out])
          have HME : Hid (leftM T gs i (.bool (moB T ch r i)) wr < leftM T gs i (.bool true) wl) := hide (leftM_lt (ch := ch) (n := r) hc (fun k hk => HL0.out.rd hk) (fun k hk => (LE.out.rd hk).trans (doneV_round hk)))
          clear hmf
          go_wp2_with fail
          subst hwl
          exact ⟨⟨r + 1, _, hu, rfl, by omega, fun hb => by have := HM5.out hb; omega, HNE, hide (by rw [← HLR.out, ← smpV_round, ← tknV_round]; exact LE.out)⟩, HME.out⟩
end Go.Proofs.Ytkbmgakehlmcnaa
