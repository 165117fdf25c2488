/- Several texts in one: Walk: boxesFault, pack, Pack (program). Conditions as stated; Walk: WriteFilm (program). Conditions as stated; Walk: within (program). Conditions as stated; How many kids the nodes of parsed bytes have. No condition. -/
import Derived.Test.YtlonhkjplijlcaaMfd41
import Derived.Test.YtlonhkjplijlcaaMfd37
import Derived.Test.YtlonhkjplijlcaaMfd39
import Derived.Test.YtlonhkjplijlcaaMfd40
import Derived.Test.YtlonhkjplijlcaaMfd29
import Derived.Test.YtlonhkjplijlcaaMfd05
namespace Go.Proofs.Ytlonhkjplijlcaa
open Go.RowKit
set_option linter.unusedVariables false in
set_option maxRecDepth 100000 in
set_option maxHeartbeats 4000000 in
theorem packB_any {l : List BoxT} {w : World} {G : Nat → Prop} {A : Option Addr} {n c : Nat} (h : BxsAt w G A n c l) (hs : sizeL l < 2305843009213693952) (hb : (bytL l).length ≤ 1000000000) :
    Calls Try.prog 20 #[.slice A n c] w fun e w' => ∃ v, e = .returned v ∧ Own w' w.heap.size 5 1 e8 v (bytL l) ∧ Ext w w' := by
  obtain ⟨ys, ha, hy, hh1, hk1⟩ := h.parts
  have HA := hide ha
  have HH1 := hide hh1
  have HK1 := hide hk1
  have HY := hide hy
  have HKL := hide h.len
  have hkb := ha.bound
  have HSB : Hid (∀ (k : Nat) (h : k < l.length), sizeT l[k] < 4611686018427387904) := hide (fun k h => by have h1 := sizeL_take h; have h2 := sizeL_le l (k + 1); omega)
  have HTK : Hid (∀ (k : Nat) (h : k < l.length), bytL (l.take (k + 1)) = bytL (l.take k) ++ bytT l[k]) := hide (fun k h => bytL_take h)
  have HTL : Hid (∀ (k : Nat), (bytL (l.take k)).length ≤ 1000000000) := hide (fun k => by have := bytL_le l k; omega)
  have HEND : Hid (bytL (l.take n) = bytL l) := hide (by rw [← h.len, List.take_length])
  clear ha hh1 hk1 hy h hs hb
  go_enter Try.func20, Try.ntmps20
  go_wp2_with fail
  go_loopw [3, 8] (fun r0 ri wr => ∃ k : Nat, k ≤ n ∧ ri = .int .i64 k ∧ Hid (Own wr w.heap.size 5 1 e8 r0 (bytL (l.take k))) ∧ Hid (Ext w wr)) (fun _ ri _ => n - (intOf ri).toNat)
  case atStart => exact ⟨0, by omega, rfl, hide (by rw [List.take_zero, bytL]; exact Own.nil _ _ _ _ _), hide (Ext.refl _)⟩
  case round =>
    obtain ⟨k, hk, rfl, HO, HX⟩ := hrel
    by_cases hlt : k < n
    · have hkl : k < l.length := by have := HKL.out; omega
      have hky : k < ys.length := by have := HY.out; omega
      have EX := HX.out
      have hat := HA.out.ext EX
      have hq := HH1.out k _ _ (List.getElem?_eq_getElem hky) (List.getElem?_eq_getElem hkl)
      have hr := HK1.out k _ _ (List.getElem?_eq_getElem hky) (List.getElem?_eq_getElem hkl)
      have hsb := HSB.out k hkl
      have HSU := hide (HTK.out k hkl)
      have hle := HTL.out (k + 1)
      rw [HSU.out, List.length_append] at hle
      obtain ⟨b, o, rfl, _⟩ := hat.addr (by omega)
      have gy : ys.getD k default = ys[k] := by simp [List.getD, hky]
      generalize ys[k] = z at *
      generalize l[k] = u at *
      have a0 : wr.cell? ⟨b, o + k * 4, none⟩ = some (.string ⟨z.kind.toArray⟩) := hat.cellK hlt default 0 _ (by rw [gy]; rfl)
      have a1 : wr.cell? ⟨b, o + k * 4 + 1, none⟩ = some (.int .i64 z.form) := hat.cellK hlt default 1 _ (by rw [gy]; rfl)
      have a2 : wr.cell? ⟨b, o + k * 4 + 2, none⟩ = some (.slice z.dA z.dn z.dc) := hat.cellK hlt default 2 _ (by rw [gy]; rfl)
      have a3 : wr.cell? ⟨b, o + k * 4 + 3, none⟩ = some (.slice z.kA z.kn z.kc) := hat.cellK hlt default 3 _ (by rw [gy]; rfl)
      rw [hq.1] at a0
      rw [hq.2.1] at a1
      have EA := hide (Ext.trans EX (Ext.alloc wr (.cells #[.string ⟨u.kind.toArray⟩, .int .i64 u.form, .slice z.dA z.dn z.dc, .slice z.kA z.kn z.kc] 47)))
      have OA := hide (HO.out.ext (Ext.alloc wr (.cells #[.string ⟨u.kind.toArray⟩, .int .i64 u.form, .slice z.dA z.dn z.dc, .slice z.kA z.kn z.kc] 47)))
      have HC := hide (app_any _ (Nat.le_refl _) hq hr EA.out (Nat.le_refl _) EA.out.size OA.out hsb hle)
      have HFR := hide (fun b hb => (OA.out.from b hb).1)
      generalize bytT u = bu at *
      generalize bytL (l.take k) = bk at *
      have i1 : (k : Int) < (n : Int) := by omega
      have i0 : (0 : Int) ≤ (k : Int) := by omega
      have i8 : IntKind.i64.wrap ((k : Int) + 1) = (k : Int) + 1 := by rw [IntKind.wrap_i64]; omega
      clear hat hq hr hsb gy EX hky hkl hle OA
      go_wp2_with fail
      with_reducible refine HC.out.mono ?_
      rintro e w5 ⟨v5, rfl, o5, g5⟩
      have O5 := hide o5
      have E5 := hide (Ext.gr EA.out g5.grown HFR.out)
      clear o5 g5
      go_wp2_with fail
      exact ⟨⟨k + 1, by omega, by go_num, hide (by rw [HSU.out]; exact O5.out), E5⟩, by simp [intOf]; omega⟩
    · obtain rfl : k = n := by omega
      rw [HEND.out] at HO
      clear hlt
      go_wp2_with fail
      go_ret
      exact ⟨_, rfl, HO.out, HX.out⟩
theorem two_bxs {W : World} {G : Nat → Prop} {kA dA : Option Addr} {kn kc dn dc : Nat} {l : List BoxT} {d : List UInt8} (hk : BxsAt W G kA kn kc l) (hd : At W 1 e8 dA dn dc d) :
    BxsAt (W.alloc (.cells #[.string ⟨kFilm.toArray⟩, .int .i64 0, .slice none 0 0, .slice kA kn kc, .string ⟨#[100, 97, 116, 97]⟩, .int .i64 0, .slice dA dn dc, .slice none 0 0] 47)) (fun _ => True) (some ⟨W.heap.size, 0, none⟩) 2 2 [.mk kFilm 0 [] l, dataB d] := by
  have ho := own_lit W #[.string ⟨kFilm.toArray⟩, .int .i64 0, .slice none 0 0, .slice kA kn kc, .string ⟨#[100, 97, 116, 97]⟩, .int .i64 0, .slice dA dn dc, .slice none 0 0] [(⟨kFilm, 0, none, 0, 0, kA, kn, kc⟩ : BoxH), hdB kData dA dn dc] rfl len_eBx W.heap.size (Nat.le_refl _) (by unfold maxLen; simp) (t := 47)
  have hE := Ext.alloc W (.cells #[.string ⟨kFilm.toArray⟩, .int .i64 0, .slice none 0 0, .slice kA kn kc, .string ⟨#[100, 97, 116, 97]⟩, .int .i64 0, .slice dA dn dc, .slice none 0 0] 47)
  have k1 := (hk.ext hE).good (H := fun _ => True) (fun _ _ => rfl) (fun _ _ => trivial)
  have k2 := hd.ext hE
  refine .mk _ _ (ho.atS len_eBx) (fun a _ => trivial) rfl (fun j y x hy hx => ?_) (fun j y x hy hx => ?_)
  · match j, hy, hx with
    | 0, hy, hx => simp at hy hx; subst hy hx; exact ⟨rfl, rfl, At.nil _ _ _, fun a _ => trivial⟩
    | 1, hy, hx => simp at hy hx; subst hy hx; exact ⟨rfl, rfl, k2, fun a _ => trivial⟩
    | j + 2, hy, hx => simp at hy
  · match j, hy, hx with
    | 0, hy, hx => simp at hy hx; subst hy hx; exact k1
    | 1, hy, hx => simp at hy hx; subst hy hx; exact .mk [] [] (At.nil _ _ _) (fun a ha => by cases ha) rfl (fun i y x hy _ => by simp at hy) (fun i y x hy _ => by simp at hy)
    | j + 2, hy, hx => simp at hy
theorem wfB_no {sc : Int} {T : List TrkT} {D : List (List UInt8)} {ch f : Int} (h : wfF sc T D ch = f) (hf : f ≠ 0) : wfB sc T D ch = [] := by unfold wfB; rw [if_neg (by omega)]
set_option linter.unusedVariables false in
set_option linter.unusedSimpArgs false in
set_option maxRecDepth 100000 in
set_option maxHeartbeats 8000000 in
theorem writeFilm_any {sc : Int} {A : Option Addr} {n c : Nat} {hs : List TrkH} {T : List TrkT} {B : Option Addr} {m d : Nat} {es : List (Option Addr × Nat × Nat)} {D : List (List UInt8)} {ch : Int} {w : World} (h : TksAt w A n c hs T) (hd : DtsAt w B m d es D) (hn : nmF T) :
    Calls Try.prog 6 #[.agg #[.int .i64 sc, .slice A n c], .slice B m d, .int .i64 ch] w (Gives 1 e8 w (wfB sc T D ch) (wfF sc T D ch)) := by
  have HV : Hid (wfF sc T D ch = if filF sc T ≠ 0 then filF sc T else if ch < 1 ∨ 1000 < ch then 1 else if datF T D ≠ 0 then datF T D
    else if 1000000 < headN sc T ch.toNat (layF T D ch.toNat 0).pl + (layF T D ch.toNat 0).out.length then 2 else 0) := hide rfl
  have HT := hide h
  have HD := hide hd
  have HTL := hide h.len
  have X0 := hide (Blk.new w 24 #[.int .i64 sc, .slice A n c])
  have E0 := hide (Ext.alloc w (.cells #[.int .i64 sc, .slice A n c] 24))
  have HC1 := hide (fun (W : World) (hW : Ext w W) => checkFilm_any (sc := sc) (h.ext hW) hn)
  have HOK := hide (fun (hf : filF sc T = 0) => filF_ok hf)
  have HNO := hide (fun (f : Int) (hf : wfF sc T D ch = f) (h0 : f ≠ 0) => wfB_no hf h0)
  have HDF := hide (fun (W : World) (hW : Ext w W) (hr : FilR T) => dataFault_any (sc := sc) (h.ext hW) (hd.ext hW) hr)
  clear h hd hn
  generalize hFF : wfF sc T D ch = R at *
  have HFF := hide hFF
  clear hFF
  go_enter Try.func6, Try.ntmps6
  go_upto_region 1 with (fail)
  refine gen_wpC fun w0 h0 => ?_
  rw [← h0] at X0 E0
  obtain ⟨fb, hfb⟩ : ∃ fb, fb = w.heap.size := ⟨_, rfl⟩
  rw [← hfb] at X0 ⊢
  clear h0 hfb
  have x0 : w0.cell? ⟨fb, 0, none⟩ = some (.int .i64 sc) := X0.out.cell 0
  have x1 : w0.cell? ⟨fb, 1, none⟩ = some (.slice A n c) := X0.out.cell 1
  go_wp2_with fail
  with_reducible refine (HC1.out _ E0.out).mono ?_
  rintro e w1 ⟨rfl, e1⟩
  have E1 := hide (Ext.trans E0.out e1)
  have X1 := hide (X0.out.ext e1)
  clear e1 x0 x1 X0
  by_cases hf : filF sc T = 0
  case neg =>
    have HE : Hid (R = filF sc T) := hide (by rw [HV.out, if_pos hf])
    have HN := hide (HNO.out _ rfl (by rw [HE.out]; exact hf))
    have d0 : (filF sc T != 0) = true := by simp [hf]
    clear hf
    generalize filF sc T = ff at *
    go_wp2_with fail
    go_ret2
    exact gives_nil' HE.out HN.out E1.out
  case pos =>
  have HFO := hide (HOK.out hf)
  have hr := HFO.out.r
  have HR := hide hr
  have HNM := hide (nmS_of HFO.out)
  have HV2 : Hid (R = if ch < 1 ∨ 1000 < ch then 1 else if datF T D ≠ 0 then datF T D
    else if 1000000 < headN sc T ch.toNat (layF T D ch.toNat 0).pl + (layF T D ch.toNat 0).out.length then 2 else 0) := hide (by rw [HV.out, if_neg (by omega)])
  rw [hf]
  clear HV hf HOK hr
  by_cases hch : ch < 1 ∨ 1000 < ch
  · have HE : Hid (R = 1) := hide (by rw [HV2.out, if_pos hch])
    have HN := hide (HNO.out _ rfl (by rw [HE.out]; omega))
    have HO := hide (fun (W : World) => out_yes hch W)
    clear hch
    go_wp2_with fail
    with_reducible refine (HO.out _).mono ?_
    rintro e w' ⟨rfl, rfl⟩
    go_wp2_with fail
    go_ret2
    exact gives_nil' HE.out HN.out E1.out
  have HO := hide (fun (W : World) => out_no (n := ch) (lo := 1) (hi := 1000) (by omega) W)
  obtain ⟨k, rfl⟩ : ∃ k : Nat, ch = (k : Int) := ⟨ch.toNat, by omega⟩
  have hk1 : 1 ≤ k := by omega
  have hk2 : k ≤ 1000 := by omega
  have HV3 : Hid (R = if datF T D ≠ 0 then datF T D else if 1000000 < headN sc T k (layF T D k 0).pl + (layF T D k 0).out.length then 2 else 0) := hide (by rw [HV2.out, if_neg hch, Int.toNat_natCast])
  clear HV2 hch
  have x0 : w1.cell? ⟨fb, 0, none⟩ = some (.int .i64 sc) := X1.out.cell 0
  have x1 : w1.cell? ⟨fb, 1, none⟩ = some (.slice A n c) := X1.out.cell 1
  go_wp2_with fail
  with_reducible refine (HO.out _).mono ?_
  rintro e w' ⟨rfl, rfl⟩
  go_wp2_with fail
  with_reducible refine (HDF.out _ E1.out HR.out).mono ?_
  rintro e w2 ⟨rfl, e2⟩
  have E2 := hide (Ext.trans E1.out e2)
  have X2 := hide (X1.out.ext e2)
  clear e2 x0 x1 X1 E1 HO
  by_cases hdf : datF T D = 0
  case neg =>
    have HE : Hid (R = datF T D) := hide (by rw [HV3.out, if_pos hdf])
    have HN := hide (HNO.out _ rfl (by rw [HE.out]; exact hdf))
    have d0 : (datF T D != 0) = true := by simp [hdf]
    clear hdf
    generalize datF T D = df at *
    go_wp2_with fail
    go_ret2
    exact gives_nil' HE.out HN.out E2.out
  case pos =>
  have HV4 : Hid (R = if 1000000 < headN sc T k (layF T D k 0).pl + (layF T D k 0).out.length then 2 else 0) := hide (by rw [HV3.out, if_neg (by omega)])
  have HL := hide (fun (W : World) (hW : Ext w W) (fr : Nat) (hfr : fr ≤ 1000000000) => laid_any (sc := sc) (fr := fr) (HT.out.ext hW) (HD.out.ext hW) HR.out hdf hk1 hk2 hfr)
  have HL0 : Hid (∀ W : World, Ext w W → Calls Try.prog 17 #[.agg #[.int .i64 sc, .slice A n c], .slice B m d, .int .i64 (k : Int), .int .i64 0] W (LayG W n (layF T D k 0))) := hide (fun W hW => HL.out W hW 0 (by omega))
  have HFB := hide (fun (W wl : World) (gp : Nat) (hp : List (Option Addr × Nat × Nat)) (fr : Nat) (ov : Value) (ob : List UInt8) (hW : Ext w W) (hL : LaM wl W gp n hp (layF T D k fr).pl [] ov ob) => filmBox_any (sc := sc) (ch := k) (HT.out.ext hW) HR.out HNM.out hL (fun i => layF_rows HR.out hk1 i) hk1 hk2)
  have hsz0 := film_size (sc := sc) (P := (layF T D k 0).pl) HR.out HNM.out hk1 (fun i => layF_rows HR.out hk1 i)
  have hob0 : (layF T D k 0).out.length ≤ 800000000 * 5001 := layR_out (fun i hi => (HR.out.smp i hi).1) hk2 HR.out.few 5001
  have HWS := hide (fun (ho : (layF T D k 0).out.length ≤ 1000000) => wf_sizes (sc := sc) (T := T) (D := D) (ch := k) HR.out HNM.out hk1 ho)
  have HFAU := hide (fau_both sc k (lay2 sc T D k).pl (lay2 sc T D k).out HR.out.few)
  have HHN : Hid (headN sc T k (layF T D k 0).pl = sizeT (filmB sc T k (layF T D k 0).pl) + 8) := hide rfl
  have HL2 : Hid (lay2 sc T D k = layF T D k (headN sc T k (layF T D k 0).pl)) := hide rfl
  have HWL : Hid (wfL sc T D k = [.mk kFilm 0 [] (kidsB sc T k (lay2 sc T D k).pl n), dataB (lay2 sc T D k).out]) := hide (by unfold wfL filmB; rw [HTL.out])
  have HSO : Hid (∀ (W : World) (G : Nat → Prop) (kA : Option Addr) (kn kc : Nat), BxsAt W G kA kn kc (kidsB sc T k (layF T D k 0).pl n) → Calls Try.prog 18 #[.agg #[.string ⟨kFilm.toArray⟩, .int .i64 0, .slice none 0 0, .slice kA kn kc]] W fun e w' => e = .returned (.int .i64 (sizeT (filmB sc T k (layF T D k 0).pl) : Int)) ∧ Ext W w') :=
    hide (fun W G kA kn kc hb => size_any _ (x := filmB sc T k (layF T D k 0).pl) (y := ⟨kFilm, 0, none, 0, 0, kA, kn, kc⟩) (w := W) (G := G) (Nat.le_refl _) ⟨rfl, rfl, At.nil _ _ _, fun a ha => by cases ha⟩ (by show BxsAt W G kA kn kc (kidsB sc T k (layF T D k 0).pl T.length); rw [HTL.out]; exact hb) (by omega))
  rw [hdf]
  clear HV3 hdf
  have x0 : w2.cell? ⟨fb, 0, none⟩ = some (.int .i64 sc) := X2.out.cell 0
  have x1 : w2.cell? ⟨fb, 1, none⟩ = some (.slice A n c) := X2.out.cell 1
  go_wp2_with fail
  with_reducible refine (HL0.out _ E2.out).mono ?_
  rintro e w3 ⟨wl, gp, hv, v, rfl, el, lm⟩
  obtain ⟨oA, oc, rfl, _⟩ := lm.out_.at_ len_e8
  have LM := hide lm
  have e3 := Ext.trans el lm.ext
  have E3 := hide (Ext.trans E2.out e3)
  have X3 := hide (X2.out.ext e3)
  clear e3 el lm x0 x1 X2 E2
  have x0 : w3.cell? ⟨fb, 0, none⟩ = some (.int .i64 sc) := X3.out.cell 0
  have x1 : w3.cell? ⟨fb, 1, none⟩ = some (.slice A n c) := X3.out.cell 1
  go_wp2_with fail
  with_reducible refine (HFB.out _ _ _ _ _ _ _ E3.out LM.out).mono ?_
  rintro e w4 ⟨kA, kn, kc, rfl, hb, e4⟩
  have HB4 := hide (HSO.out _ _ _ _ _ hb)
  have E4 := hide (Ext.trans E3.out e4)
  have X4 := hide (X3.out.ext e4)
  clear e4 hb x0 x1 X3 E3 HSO LM
  go_wp2_with fail
  with_reducible refine HB4.out.mono ?_
  rintro e w5 ⟨rfl, e5⟩
  have E5 := hide (Ext.trans E4.out e5)
  have X5 := hide (X4.out.ext e5)
  have hhn := HHN.out
  have j1 : IntKind.i64.wrap ((sizeT (filmB sc T k (layF T D k 0).pl) : Int) + 8) = (headN sc T k (layF T D k 0).pl : Int) := by rw [IntKind.wrap_i64]; omega
  have j2 : IntKind.i64.wrap ((headN sc T k (layF T D k 0).pl : Int) + ((layF T D k 0).out.length : Int)) = (headN sc T k (layF T D k 0).pl : Int) + ((layF T D k 0).out.length : Int) := by rw [IntKind.wrap_i64]; omega
  have HHB : Hid (headN sc T k (layF T D k 0).pl ≤ 1000000000) := hide (by omega)
  clear e5 X4 E4 HB4 hsz0 hob0 hhn
  generalize sizeT (filmB sc T k (layF T D k 0).pl) = sz0 at *
  generalize headN sc T k (layF T D k 0).pl = hN at *
  generalize (layF T D k 0).out.length = oN at *
  by_cases hbig : 1000000 < hN + oN
  · have HE : Hid (R = 2) := hide (by rw [HV4.out, if_pos hbig])
    have HN := hide (HNO.out _ rfl (by rw [HE.out]; omega))
    have g1 : (1000000 : Int) < (hN : Int) + (oN : Int) := by omega
    clear hbig
    go_wp2_with fail
    go_ret2
    exact gives_nil' HE.out HN.out E5.out
  have HE : Hid (R = 0) := hide (by rw [HV4.out, if_neg hbig])
  have g1 : ¬ (1000000 : Int) < (hN : Int) + (oN : Int) := by omega
  have HWZ := hide (HWS.out (by omega))
  have x0 : w5.cell? ⟨fb, 0, none⟩ = some (.int .i64 sc) := X5.out.cell 0
  have x1 : w5.cell? ⟨fb, 1, none⟩ = some (.slice A n c) := X5.out.cell 1
  clear hbig HWS HV4 HL0
  go_wp2_with fail
  with_reducible refine (HL.out _ E5.out hN HHB.out).mono ?_
  rintro e w6 ⟨wl2, gp2, hv2, v2, rfl, el, lm⟩
  obtain ⟨oA2, oc2, rfl, oat⟩ := lm.out_.at_ len_e8
  generalize (layF T D k hN).out.length = on2 at *
  have LM := hide lm
  have OAT := hide oat
  have e6 := Ext.trans el lm.ext
  have E6 := hide (Ext.trans E5.out e6)
  have X6 := hide (X5.out.ext e6)
  clear e6 el lm x0 x1 X5 E5 oat
  have x0 : w6.cell? ⟨fb, 0, none⟩ = some (.int .i64 sc) := X6.out.cell 0
  have x1 : w6.cell? ⟨fb, 1, none⟩ = some (.slice A n c) := X6.out.cell 1
  go_wp2_with fail
  with_reducible refine (HFB.out _ _ _ _ _ _ _ E6.out LM.out).mono ?_
  rintro e w7 ⟨kA2, kn2, kc2, rfl, hb, e7⟩
  have HBX := hide (two_bxs hb (OAT.out.ext e7))
  have E7 := hide (Ext.trans E6.out (Ext.trans e7 (Ext.alloc w7 (.cells #[.string ⟨kFilm.toArray⟩, .int .i64 0, .slice none 0 0, .slice kA2 kn2 kc2, .string ⟨#[100, 97, 116, 97]⟩, .int .i64 0, .slice oA2 on2 oc2, .slice none 0 0] 47))))
  have HPK := hide (packB_any HBX.out (by rw [← HL2.out, ← HWL.out]; have := HWZ.out; omega) (by rw [← HL2.out, ← HWL.out]; have h9 := HFAU.out; have h8 := bytL_len _ _ _ _ h9; have h7 : bytL (wfL sc T D k) = bytL [filmB sc T k (lay2 sc T D k).pl, dataB (lay2 sc T D k).out] := rfl; rw [h7, h8]; have := HWZ.out; unfold wfL at this; omega))
  rw [← HL2.out, ← HWL.out] at HPK
  clear e7 hb x0 x1 X6 E6 LM OAT HBX
  have HBY : Hid (bytL (wfL sc T D k) = wfB sc T D (k : Int)) := hide (by unfold wfB; rw [HFF.out, HE.out, if_pos rfl, Int.toNat_natCast])
  go_wp2_with fail
  with_reducible refine HPK.out.mono ?_
  rintro e w8 ⟨v8, rfl, o8, e8⟩
  obtain ⟨A8, c8, rfl, a8⟩ := o8.at_ len_e8
  have A8_ := hide a8
  have E8 := hide (Ext.trans E7.out e8)
  clear o8 e8 a8
  go_wp2_with fail
  go_ret2
  exact gives_at HE.out HBY.out A8_.out E8.out
def inB (x : NodeT) (s : Int × Int) : Bool := decide (x.kind = kData ∧ (x.dat : Int) ≤ s.1 ∧ s.1 + s.2 ≤ (x.en : Int))
theorem inD_yes {l : List NodeT} {s : Int × Int} {k : Nat} (hk : k < l.length) (h : inB (l.getD k dN) s = true) : okSp l s = true := by
  have e2 : l.getD k dN ∈ l := by rw [List.getD_eq_getElem?_getD, List.getElem?_eq_getElem hk]; exact List.getElem_mem hk
  unfold okSp inD
  rw [List.any_eq_true.2 ⟨_, e2, h⟩]; rfl
theorem inD_no {l : List NodeT} {s : Int × Int} (h : ∀ j, j < l.length → inB (l.getD j dN) s = false) : okSp l s = decide (s.2 = 0) := by
  have : inD l s = false := by
    unfold inD
    rw [List.any_eq_false]
    intro x hx
    obtain ⟨j, hj, rfl⟩ := List.getElem_of_mem hx
    have := h j hj
    rw [List.getD_eq_getElem?_getD, List.getElem?_eq_getElem hj] at this
    simp only [Option.getD_some] at this
    unfold inB at this
    rw [this]; simp
  unfold okSp; rw [this]; rfl
set_option linter.unusedVariables false in
set_option linter.unusedSimpArgs false in
set_option maxRecDepth 100000 in
set_option maxHeartbeats 8000000 in
theorem within_any {w : World} {B : Nat} {b : List UInt8} {A : Option Addr} {n c : Nat} {l : List NodeT} {p z : Int} (h : NdsAt w b (fun k => k < B) A n c l) (hp : 0 ≤ p ∧ p ≤ 1000000000) (hz : 0 ≤ z ∧ z ≤ 100000) :
    Calls Try.prog 31 #[.slice A n c, .agg #[.int .i64 p, .int .i64 z]] w fun e w' => e = .returned (.bool (okSp l (p, z))) ∧ Ext w w' := by
  obtain ⟨ns, hns⟩ := nds_open h
  have HN0 := hide hns
  have hln := hns.len
  have hbd := hns.at_.bound
  have HYES := hide (fun (k : Nat) (hk : k < l.length) (h : inB (l.getD k dN) (p, z) = true) => inD_yes hk h)
  have HNO := hide (fun (h : ∀ j, j < l.length → inB (l.getD j dN) (p, z) = false) => inD_no h)
  have e8 : IntKind.i64.wrap (p + z) = p + z := by rw [IntKind.wrap_i64]; omega
  have E0 := hide (Ext.alloc w (.cells #[.int .i64 p, .int .i64 z] 78))
  have S0 := hide (Blk.new w 78 #[.int .i64 p, .int .i64 z])
  clear h hns
  go_enter Try.func31, Try.ntmps31
  go_upto_region 1 with (fail)
  refine gen_wpC fun w0 h0 => ?_
  rw [← h0] at E0 S0
  obtain ⟨sb, hsb⟩ : ∃ sb, sb = w.heap.size := ⟨_, rfl⟩
  rw [← hsb] at S0 ⊢
  clear h0 hsb
  go_wp2_with fail
  go_loopw [9] (fun ri wr => ∃ k : Nat, k ≤ n ∧ ri = .int .i64 (k : Int) ∧ Hid (∀ j, j < k → inB (l.getD j dN) (p, z) = false) ∧ Hid (Ext w0 wr)) (fun ri _ => n - (intOf ri).toNat)
  case atStart => exact ⟨0, by omega, rfl, hide (fun j hj => by omega), hide (Ext.refl _)⟩
  case round =>
    obtain ⟨k, hk, rfl, HA, HX⟩ := hrel
    by_cases hlt : k < n
    · have hat := HN0.out.at_.ext (Ext.trans E0.out HX.out)
      obtain ⟨bA, oA, rfl, _⟩ := hat.addr (by omega)
      obtain ⟨x, hx⟩ : ∃ x, l.getD k dN = x := ⟨_, rfl⟩
      obtain ⟨y, hy⟩ : ∃ y, ns.getD k default = y := ⟨_, rfl⟩
      have hd := HN0.out.hd k hlt
      rw [hx, hy] at hd
      have HXX := hide hx
      obtain ⟨⟨yk, yf, dA, dn, dc, kA, kn, kc⟩, yg, yd, ye, nA, nn, nc⟩ := y
      have a0 : wr.cell? ⟨bA, oA + k * 8, none⟩ = some (.string ⟨yk.toArray⟩) := hat.cellK hlt default 0 _ (by rw [hy]; rfl)
      have a1 : wr.cell? ⟨bA, oA + k * 8 + 1, none⟩ = some (.int .i64 yf) := hat.cellK hlt default 1 _ (by rw [hy]; rfl)
      have a2 : wr.cell? ⟨bA, oA + k * 8 + 2, none⟩ = some (.slice dA dn dc) := hat.cellK hlt default 2 _ (by rw [hy]; rfl)
      have a3 : wr.cell? ⟨bA, oA + k * 8 + 3, none⟩ = some (.slice kA kn kc) := hat.cellK hlt default 3 _ (by rw [hy]; rfl)
      have a4 : wr.cell? ⟨bA, oA + k * 8 + 4, none⟩ = some (.int .i64 (yg : Int)) := hat.cellK hlt default 4 _ (by rw [hy]; rfl)
      have a5 : wr.cell? ⟨bA, oA + k * 8 + 5, none⟩ = some (.int .i64 (yd : Int)) := hat.cellK hlt default 5 _ (by rw [hy]; rfl)
      have a6 : wr.cell? ⟨bA, oA + k * 8 + 6, none⟩ = some (.int .i64 (ye : Int)) := hat.cellK hlt default 6 _ (by rw [hy]; rfl)
      have a7 : wr.cell? ⟨bA, oA + k * 8 + 7, none⟩ = some (.slice nA nn nc) := hat.cellK hlt default 7 _ (by rw [hy]; rfl)
      have HB : Hid (inB (l.getD k dN) (p, z) = decide (yk = kData ∧ (yd : Int) ≤ p ∧ p + z ≤ (ye : Int))) := hide (by
        rw [hx]; unfold inB; rw [← hd.kind, ← hd.dat, ← hd.en])
      have HY := hide (HYES.out k (by omega))
      have HS : Hid (inB (l.getD k dN) (p, z) = false → ∀ j, j < k + 1 → inB (l.getD j dN) (p, z) = false) := hide (fun h0 j hj => by
        rcases Nat.lt_succ_iff_lt_or_eq.1 hj with h | h
        · exact HA.out j h
        · rw [h]; exact h0)
      have i1 : (k : Int) < (n : Int) := by omega
      have i0 : (0 : Int) ≤ (k : Int) := by omega
      clear hat hd hx hy
      go_upto_region 4 with (fail)
      refine gen_wpC fun w2 h2 => ?_
      obtain ⟨nb, hnb⟩ : ∃ nb, nb = wr.heap.size := ⟨_, rfl⟩
      rw [← hnb]
      have E2 : Hid (Ext w0 w2) := hide (by rw [h2]; exact Ext.trans HX.out (Ext.alloc _ _))
      have X2 : Hid (Blk w2 nb 109 #[.string ⟨yk.toArray⟩, .int .i64 yf, .slice dA dn dc, .slice kA kn kc, .int .i64 (yg : Int), .int .i64 (yd : Int), .int .i64 (ye : Int), .slice nA nn nc]) := hide (by rw [h2, hnb]; exact Blk.new _ _ _)
      have S2 := hide (S0.out.ext E2.out)
      have x0 : w2.cell? ⟨nb, 0, none⟩ = some (.string ⟨yk.toArray⟩) := X2.out.cell 0
      have x5 : w2.cell? ⟨nb, 5, none⟩ = some (.int .i64 (yd : Int)) := X2.out.cell 5
      have x6 : w2.cell? ⟨nb, 6, none⟩ = some (.int .i64 (ye : Int)) := X2.out.cell 6
      have z0 : w2.cell? ⟨sb, 0, none⟩ = some (.int .i64 p) := S2.out.cell 0
      have z1 : w2.cell? ⟨sb, 1, none⟩ = some (.int .i64 z) := S2.out.cell 1
      clear h2 hnb a0 a1 a2 a3 a4 a5 a6 a7
      by_cases hkf : yk = kData
      · subst hkf
        by_cases h1 : (yd : Int) ≤ p
        · by_cases h3 : p + z ≤ (ye : Int)
          · have HE := hide (HY.out (by rw [HB.out]; simp [h1, h3]))
            go_wp2_with fail
            go_ret
            exact ⟨by rw [HE.out] <;> rfl, Ext.trans E0.out E2.out⟩
          · have HE := hide (HS.out (by rw [HB.out]; simp [h3]))
            go_wp2_with fail
            go_roundw
            case measure => simp [intOf]; omega
            exact ⟨k + 1, by omega, by go_num, HE, E2⟩
        · have HE := hide (HS.out (by rw [HB.out]; simp [h1]))
          go_wp2_with fail
          go_roundw
          case measure => simp [intOf]; omega
          exact ⟨k + 1, by omega, by go_num, HE, E2⟩
      · have hne : (yk == [100, 97, 116, 97]) = false := by simpa using (show ¬ yk = [100, 97, 116, 97] from hkf)
        have HE := hide (HS.out (by rw [HB.out]; simp [hkf]))
        go_wp2_with fail
        go_roundw
        case measure => simp [intOf]; omega
        exact ⟨k + 1, by omega, by go_num, HE, E2⟩
    · obtain rfl : k = n := by omega
      have HE := hide (HNO.out (fun j hj => HA.out j (by omega)))
      have S2 := hide (S0.out.ext HX.out)
      have z1 : wr.cell? ⟨sb, 1, none⟩ = some (.int .i64 z) := S2.out.cell 1
      clear hlt hk
      by_cases hz0 : z = 0
      · go_wp2_with fail
        go_ret
        exact ⟨by rw [HE.out]; simp [hz0], Ext.trans E0.out HX.out⟩
      · go_wp2_with fail
        go_ret
        exact ⟨by rw [HE.out]; simp [hz0], Ext.trans E0.out HX.out⟩
end Go.Proofs.Ytlonhkjplijlcaa
namespace Go.Proofs.Ytlonhkjplijlcaa
theorem parP_kids (b : List UInt8) : ∀ (m f t depth cnt : Nat) (l : List NodeT) (c : Nat), parP b m f t depth cnt = .ok l c → cnt ≤ 2000 → ∀ x ∈ l, x.kids.length ≤ t - f
  | 0, f, t, depth, cnt, l, c, h, hc => by
    unfold parP at h; cases h; intro x hx; cases hx
  | m + 1, f, t, depth, cnt, l, c, h, hc => by
    unfold parP at h
    split at h
    · cases h; intro x hx; cases hx
    · split at h
      · cases h
      · cases hh : headP b f t with
        | none => rw [hh] at h; cases h
        | some r =>
          obtain ⟨k, fo, d, e⟩ := r
          rw [hh] at h
          simp only at h
          obtain ⟨h1, h2, h3, _⟩ := headP_some hh
          have key : ∀ (c1 : Nat) (y : NodeT), c1 ≤ 2000 → y.kids.length ≤ t - f → (parP b m e t depth c1).pre [y] = .ok l c → ∀ x ∈ l, x.kids.length ≤ t - f := by
            intro c1 y hc1 hy hp
            cases hq : parP b m e t depth c1 with
            | err a g => rw [hq] at hp; cases hp
            | ok r2 c2 =>
              rw [hq] at hp
              have ih := parP_kids b m e t depth c1 r2 c2 hq hc1
              simp only [ParR.pre, ParR.ok.injEq] at hp
              obtain ⟨h4, h5⟩ := hp
              subst h4 h5
              intro x hx
              rcases List.mem_cons.1 (by simpa using hx : x ∈ y :: r2) with rfl | hx
              · exact hy
              · have := ih x hx; omega
          split at h
          · cases hq : parP b m d e (depth + 1) (cnt + 1) with
            | err a g => rw [hq] at h; cases h
            | ok kids c1 =>
              rw [hq] at h
              have hcn := parP_count b m d e (depth + 1) (cnt + 1) kids c1 hq (by omega)
              exact key c1 _ hcn.1 (by show kids.length ≤ t - f; omega) h
          · exact key (cnt + 1) _ (by omega) (Nat.zero_le _) h
theorem parP_en (b : List UInt8) : ∀ (m f t depth cnt : Nat) (l : List NodeT) (c : Nat), parP b m f t depth cnt = .ok l c → cnt ≤ 2000 → ∀ x ∈ l, x.en ≤ t
  | 0, f, t, depth, cnt, l, c, h, hc => by
    unfold parP at h; cases h; intro x hx; cases hx
  | m + 1, f, t, depth, cnt, l, c, h, hc => by
    unfold parP at h
    split at h
    · cases h; intro x hx; cases hx
    · split at h
      · cases h
      · cases hh : headP b f t with
        | none => rw [hh] at h; cases h
        | some r =>
          obtain ⟨k, fo, d, e⟩ := r
          rw [hh] at h
          simp only at h
          obtain ⟨h1, h2, h3, _⟩ := headP_some hh
          have key : ∀ (c1 : Nat) (y : NodeT), c1 ≤ 2000 → y.en ≤ t → (parP b m e t depth c1).pre [y] = .ok l c → ∀ x ∈ l, x.en ≤ t := by
            intro c1 y hc1 hy hp
            cases hq : parP b m e t depth c1 with
            | err a g => rw [hq] at hp; cases hp
            | ok r2 c2 =>
              rw [hq] at hp
              have ih := parP_en b m e t depth c1 r2 c2 hq hc1
              simp only [ParR.pre, ParR.ok.injEq] at hp
              obtain ⟨h4, h5⟩ := hp
              subst h4 h5
              intro x hx
              rcases List.mem_cons.1 (by simpa using hx : x ∈ y :: r2) with rfl | hx
              · exact hy
              · exact ih x hx
          split at h
          · cases hq : parP b m d e (depth + 1) (cnt + 1) with
            | err a g => rw [hq] at h; cases h
            | ok kids c1 =>
              rw [hq] at h
              have hcn := parP_count b m d e (depth + 1) (cnt + 1) kids c1 hq (by omega)
              exact key c1 _ hcn.1 (by show e ≤ t; exact h3) h
          · exact key (cnt + 1) _ (by omega) (by show e ≤ t; exact h3) h
end Go.Proofs.Ytlonhkjplijlcaa
