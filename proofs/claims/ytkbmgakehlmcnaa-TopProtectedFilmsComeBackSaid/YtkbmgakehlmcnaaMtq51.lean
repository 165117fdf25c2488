/- Several texts in one: Walk: boxesFault, pack, Pack (program). Conditions as stated; Walk: WriteFilm (program). Conditions as stated; Arguments that are slices of elements of whatever type, read as lists. Conditions as stated; Arguments of samples, opened. Conditions as stated; Arguments that are slices of one-cell elements (strings, slices), read as lists. Conditions as stated; Arguments that are films and bytes of tracks, opened. Conditions as stated. -/
import Derived.Test.YtkbmgakehlmcnaaMtq50
import Derived.Test.YtkbmgakehlmcnaaMtq40
import Derived.Test.YtkbmgakehlmcnaaMtq49
import Derived.Test.YtkbmgakehlmcnaaMtq47
import Derived.Test.YtkbmgakehlmcnaaMtq11
import Derived.Test.YtkbmgakehlmcnaaMtq01
import Derived.Test.YtkbmgakehlmcnaaMtq17
namespace Go.Proofs.Ytkbmgakehlmcnaa
open Go.RowKit
set_option linter.unusedVariables false in
set_option maxRecDepth 100000 in
set_option maxHeartbeats 4000000 in
theorem packB_any {l : List BoxT} {w : World} {G : Nat → Prop} {A : Option Addr} {n c : Nat} (h : BxsAt w G A n c l) (hs : sizeL l < 2305843009213693952) (hb : (bytL l).length ≤ 1000000000) :
    Calls Try.prog 25 #[.slice A n c] w fun e w' => ∃ v, e = .returned v ∧ Own w' w.heap.size 5 1 e8 v (bytL l) ∧ Ext w w' := by
  obtain ⟨ys, ha, hy, hh1, hk1⟩ := h.parts
  have HA := hide ha
  have HH1 := hide hh1
  have HK1 := hide hk1
  have HY := hide hy
  have HKL := hide h.len
  have hkb := ha.bound
  have HSB : Hid (∀ (k : Nat) (h : k < l.length), sizeT l[k] < 4611686018427387904) := hide (fun k h => by have h1 := sizeL_take h; have h2 := sizeL_le l (k + 1); omega)
  have HTK : Hid (∀ (k : Nat) (h : k < l.length), bytL (l.take (k + 1)) = bytL (l.take k) ++ bytT l[k]) := hide (fun k h => bytL_take h)
  have HTL : Hid (∀ (k : Nat), (bytL (l.take k)).length ≤ 1000000000) := hide (fun k => by have := bytL_le l k; omega)
  have HEND : Hid (bytL (l.take n) = bytL l) := hide (by rw [← h.len, List.take_length])
  clear ha hh1 hk1 hy h hs hb
  go_enter Try.func25, Try.ntmps25
  go_wp2_with fail
  go_loopw [3, 8] (fun r0 ri wr => ∃ k : Nat, k ≤ n ∧ ri = .int .i64 k ∧ Hid (Own wr w.heap.size 5 1 e8 r0 (bytL (l.take k))) ∧ Hid (Ext w wr)) (fun _ ri _ => n - (intOf ri).toNat)
  case atStart => exact ⟨0, by omega, rfl, hide (by rw [List.take_zero, bytL]; exact Own.nil _ _ _ _ _), hide (Ext.refl _)⟩
  case round =>
    obtain ⟨k, hk, rfl, HO, HX⟩ := hrel
    by_cases hlt : k < n
    · have hkl : k < l.length := by have := HKL.out; omega
      have hky : k < ys.length := by have := HY.out; omega
      have EX := HX.out
      have hat := HA.out.ext EX
      have hq := HH1.out k _ _ (List.getElem?_eq_getElem hky) (List.getElem?_eq_getElem hkl)
      have hr := HK1.out k _ _ (List.getElem?_eq_getElem hky) (List.getElem?_eq_getElem hkl)
      have hsb := HSB.out k hkl
      have HSU := hide (HTK.out k hkl)
      have hle := HTL.out (k + 1)
      rw [HSU.out, List.length_append] at hle
      obtain ⟨b, o, rfl, _⟩ := hat.addr (by omega)
      have gy : ys.getD k default = ys[k] := by simp [List.getD, hky]
      generalize ys[k] = z at *
      generalize l[k] = u at *
      have a0 : wr.cell? ⟨b, o + k * 4, none⟩ = some (.string ⟨z.kind.toArray⟩) := hat.cellK hlt default 0 _ (by rw [gy]; rfl)
      have a1 : wr.cell? ⟨b, o + k * 4 + 1, none⟩ = some (.int .i64 z.form) := hat.cellK hlt default 1 _ (by rw [gy]; rfl)
      have a2 : wr.cell? ⟨b, o + k * 4 + 2, none⟩ = some (.slice z.dA z.dn z.dc) := hat.cellK hlt default 2 _ (by rw [gy]; rfl)
      have a3 : wr.cell? ⟨b, o + k * 4 + 3, none⟩ = some (.slice z.kA z.kn z.kc) := hat.cellK hlt default 3 _ (by rw [gy]; rfl)
      rw [hq.1] at a0
      rw [hq.2.1] at a1
      have EA := hide (Ext.trans EX (Ext.alloc wr (.cells #[.string ⟨u.kind.toArray⟩, .int .i64 u.form, .slice z.dA z.dn z.dc, .slice z.kA z.kn z.kc] 66)))
      have OA := hide (HO.out.ext (Ext.alloc wr (.cells #[.string ⟨u.kind.toArray⟩, .int .i64 u.form, .slice z.dA z.dn z.dc, .slice z.kA z.kn z.kc] 66)))
      have HC := hide (app_any _ (Nat.le_refl _) hq hr EA.out (Nat.le_refl _) EA.out.size OA.out hsb hle)
      have HFR := hide (fun b hb => (OA.out.from b hb).1)
      generalize bytT u = bu at *
      generalize bytL (l.take k) = bk at *
      have i1 : (k : Int) < (n : Int) := by omega
      have i0 : (0 : Int) ≤ (k : Int) := by omega
      have i8 : IntKind.i64.wrap ((k : Int) + 1) = (k : Int) + 1 := by rw [IntKind.wrap_i64]; omega
      clear hat hq hr hsb gy EX hky hkl hle OA
      go_wp2_with fail
      with_reducible refine HC.out.mono ?_
      rintro e w5 ⟨v5, rfl, o5, g5⟩
      have O5 := hide o5
      have E5 := hide (Ext.gr EA.out g5.grown HFR.out)
      clear o5 g5
      go_wp2_with fail
      exact ⟨⟨k + 1, by omega, by go_num, hide (by rw [HSU.out]; exact O5.out), E5⟩, by simp [intOf]; omega⟩
    · obtain rfl : k = n := by omega
      rw [HEND.out] at HO
      clear hlt
      go_wp2_with fail
      go_ret
      exact ⟨_, rfl, HO.out, HX.out⟩
theorem two_bxs {W : World} {G : Nat → Prop} {kA dA : Option Addr} {kn kc dn dc : Nat} {l : List BoxT} {d : List UInt8} (hk : BxsAt W G kA kn kc l) (hd : At W 1 e8 dA dn dc d) :
    BxsAt (W.alloc (.cells #[.string ⟨kFilm.toArray⟩, .int .i64 0, .slice none 0 0, .slice kA kn kc, .string ⟨#[100, 97, 116, 97]⟩, .int .i64 0, .slice dA dn dc, .slice none 0 0] 66)) (fun _ => True) (some ⟨W.heap.size, 0, none⟩) 2 2 [.mk kFilm 0 [] l, dataB d] := by
  have ho := own_lit W #[.string ⟨kFilm.toArray⟩, .int .i64 0, .slice none 0 0, .slice kA kn kc, .string ⟨#[100, 97, 116, 97]⟩, .int .i64 0, .slice dA dn dc, .slice none 0 0] [(⟨kFilm, 0, none, 0, 0, kA, kn, kc⟩ : BoxH), hdB kData dA dn dc] rfl len_eBx W.heap.size (Nat.le_refl _) (by unfold maxLen; simp) (t := 66)
  have hE := Ext.alloc W (.cells #[.string ⟨kFilm.toArray⟩, .int .i64 0, .slice none 0 0, .slice kA kn kc, .string ⟨#[100, 97, 116, 97]⟩, .int .i64 0, .slice dA dn dc, .slice none 0 0] 66)
  have k1 := (hk.ext hE).good (H := fun _ => True) (fun _ _ => rfl) (fun _ _ => trivial)
  have k2 := hd.ext hE
  refine .mk _ _ (ho.atS len_eBx) (fun a _ => trivial) rfl (fun j y x hy hx => ?_) (fun j y x hy hx => ?_)
  · match j, hy, hx with
    | 0, hy, hx => simp at hy hx; subst hy hx; exact ⟨rfl, rfl, At.nil _ _ _, fun a _ => trivial⟩
    | 1, hy, hx => simp at hy hx; subst hy hx; exact ⟨rfl, rfl, k2, fun a _ => trivial⟩
    | j + 2, hy, hx => simp at hy
  · match j, hy, hx with
    | 0, hy, hx => simp at hy hx; subst hy hx; exact k1
    | 1, hy, hx => simp at hy hx; subst hy hx; exact .mk [] [] (At.nil _ _ _) (fun a ha => by cases ha) rfl (fun i y x hy _ => by simp at hy) (fun i y x hy _ => by simp at hy)
    | j + 2, hy, hx => simp at hy
theorem wfB_no {sc : Int} {T : List TrkT} {D : List (List UInt8)} {ch f : Int} (h : wfF sc T D ch = f) (hf : f ≠ 0) : wfB sc T D ch = [] := by unfold wfB; rw [if_neg (by omega)]
set_option linter.unusedVariables false in
set_option linter.unusedSimpArgs false in
set_option maxRecDepth 100000 in
set_option maxHeartbeats 8000000 in
theorem writeFilm_any {sc : Int} {A : Option Addr} {n c : Nat} {hs : List TrkH} {T : List TrkT} {B : Option Addr} {m d : Nat} {es : List (Option Addr × Nat × Nat)} {D : List (List UInt8)} {ch : Int} {w : World} (h : TksAt w A n c hs T) (hd : DtsAt w B m d es D) (hn : nmF T) :
    Calls Try.prog 8 #[.agg #[.int .i64 sc, .slice A n c], .slice B m d, .int .i64 ch] w (Gives 1 e8 w (wfB sc T D ch) (wfF sc T D ch)) := by
  have HV : Hid (wfF sc T D ch = if filF sc T ≠ 0 then filF sc T else if ch < 1 ∨ 1000 < ch then 1 else if datF T D ≠ 0 then datF T D
    else if 1000000 < headN sc T ch.toNat (layF T D ch.toNat 0).pl + (layF T D ch.toNat 0).out.length then 2 else 0) := hide rfl
  have HT := hide h
  have HD := hide hd
  have HTL := hide h.len
  have X0 := hide (Blk.new w 24 #[.int .i64 sc, .slice A n c])
  have E0 := hide (Ext.alloc w (.cells #[.int .i64 sc, .slice A n c] 24))
  have HC1 := hide (fun (W : World) (hW : Ext w W) => checkFilm_any (sc := sc) (h.ext hW) hn)
  have HOK := hide (fun (hf : filF sc T = 0) => filF_ok hf)
  have HNO := hide (fun (f : Int) (hf : wfF sc T D ch = f) (h0 : f ≠ 0) => wfB_no hf h0)
  have HDF := hide (fun (W : World) (hW : Ext w W) (hr : FilR T) => dataFault_any (sc := sc) (h.ext hW) (hd.ext hW) hr)
  clear h hd hn
  generalize hFF : wfF sc T D ch = R at *
  have HFF := hide hFF
  clear hFF
  go_enter Try.func8, Try.ntmps8
  go_upto_region 1 with (fail)
  refine gen_wpC fun w0 h0 => ?_
  rw [← h0] at X0 E0
  obtain ⟨fb, hfb⟩ : ∃ fb, fb = w.heap.size := ⟨_, rfl⟩
  rw [← hfb] at X0 ⊢
  clear h0 hfb
  have x0 : w0.cell? ⟨fb, 0, none⟩ = some (.int .i64 sc) := X0.out.cell 0
  have x1 : w0.cell? ⟨fb, 1, none⟩ = some (.slice A n c) := X0.out.cell 1
  go_wp2_with fail
  with_reducible refine (HC1.out _ E0.out).mono ?_
  rintro e w1 ⟨rfl, e1⟩
  have E1 := hide (Ext.trans E0.out e1)
  have X1 := hide (X0.out.ext e1)
  clear e1 x0 x1 X0
  by_cases hf : filF sc T = 0
  case neg =>
    have HE : Hid (R = filF sc T) := hide (by rw [HV.out, if_pos hf])
    have HN := hide (HNO.out _ rfl (by rw [HE.out]; exact hf))
    have d0 : (filF sc T != 0) = true := by simp [hf]
    clear hf
    generalize filF sc T = ff at *
    go_wp2_with fail
    go_ret2
    exact gives_nil' HE.out HN.out E1.out
  case pos =>
  have HFO := hide (HOK.out hf)
  have hr := HFO.out.r
  have HR := hide hr
  have HNM := hide (nmS_of HFO.out)
  have HV2 : Hid (R = if ch < 1 ∨ 1000 < ch then 1 else if datF T D ≠ 0 then datF T D
    else if 1000000 < headN sc T ch.toNat (layF T D ch.toNat 0).pl + (layF T D ch.toNat 0).out.length then 2 else 0) := hide (by rw [HV.out, if_neg (by omega)])
  rw [hf]
  clear HV hf HOK hr
  by_cases hch : ch < 1 ∨ 1000 < ch
  · have HE : Hid (R = 1) := hide (by rw [HV2.out, if_pos hch])
    have HN := hide (HNO.out _ rfl (by rw [HE.out]; omega))
    have HO := hide (fun (W : World) => out_yes hch W)
    clear hch
    go_wp2_with fail
    with_reducible refine (HO.out _).mono ?_
    rintro e w' ⟨rfl, rfl⟩
    go_wp2_with fail
    go_ret2
    exact gives_nil' HE.out HN.out E1.out
  have HO := hide (fun (W : World) => out_no (n := ch) (lo := 1) (hi := 1000) (by omega) W)
  obtain ⟨k, rfl⟩ : ∃ k : Nat, ch = (k : Int) := ⟨ch.toNat, by omega⟩
  have hk1 : 1 ≤ k := by omega
  have hk2 : k ≤ 1000 := by omega
  have HV3 : Hid (R = if datF T D ≠ 0 then datF T D else if 1000000 < headN sc T k (layF T D k 0).pl + (layF T D k 0).out.length then 2 else 0) := hide (by rw [HV2.out, if_neg hch, Int.toNat_natCast])
  clear HV2 hch
  have x0 : w1.cell? ⟨fb, 0, none⟩ = some (.int .i64 sc) := X1.out.cell 0
  have x1 : w1.cell? ⟨fb, 1, none⟩ = some (.slice A n c) := X1.out.cell 1
  go_wp2_with fail
  with_reducible refine (HO.out _).mono ?_
  rintro e w' ⟨rfl, rfl⟩
  go_wp2_with fail
  with_reducible refine (HDF.out _ E1.out HR.out).mono ?_
  rintro e w2 ⟨rfl, e2⟩
  have E2 := hide (Ext.trans E1.out e2)
  have X2 := hide (X1.out.ext e2)
  clear e2 x0 x1 X1 E1 HO
  by_cases hdf : datF T D = 0
  case neg =>
    have HE : Hid (R = datF T D) := hide (by rw [HV3.out, if_pos hdf])
    have HN := hide (HNO.out _ rfl (by rw [HE.out]; exact hdf))
    have d0 : (datF T D != 0) = true := by simp [hdf]
    clear hdf
    generalize datF T D = df at *
    go_wp2_with fail
    go_ret2
    exact gives_nil' HE.out HN.out E2.out
  case pos =>
  have HV4 : Hid (R = if 1000000 < headN sc T k (layF T D k 0).pl + (layF T D k 0).out.length then 2 else 0) := hide (by rw [HV3.out, if_neg (by omega)])
  have HL := hide (fun (W : World) (hW : Ext w W) (fr : Nat) (hfr : fr ≤ 1000000000) => laid_any (sc := sc) (fr := fr) (HT.out.ext hW) (HD.out.ext hW) HR.out hdf hk1 hk2 hfr)
  have HL0 : Hid (∀ W : World, Ext w W → Calls Try.prog 22 #[.agg #[.int .i64 sc, .slice A n c], .slice B m d, .int .i64 (k : Int), .int .i64 0] W (LayG W n (layF T D k 0))) := hide (fun W hW => HL.out W hW 0 (by omega))
  have HFB := hide (fun (W wl : World) (gp : Nat) (hp : List (Option Addr × Nat × Nat)) (fr : Nat) (ov : Value) (ob : List UInt8) (hW : Ext w W) (hL : LaM wl W gp n hp (layF T D k fr).pl [] ov ob) => filmBox_any (sc := sc) (ch := k) (HT.out.ext hW) HR.out HNM.out hL (fun i => layF_rows HR.out hk1 i) hk1 hk2)
  have hsz0 := film_size (sc := sc) (P := (layF T D k 0).pl) HR.out HNM.out hk1 (fun i => layF_rows HR.out hk1 i)
  have hob0 : (layF T D k 0).out.length ≤ 800000000 * 5001 := layR_out (fun i hi => (HR.out.smp i hi).1) hk2 HR.out.few 5001
  have HWS := hide (fun (ho : (layF T D k 0).out.length ≤ 1000000) => wf_sizes (sc := sc) (T := T) (D := D) (ch := k) HR.out HNM.out hk1 ho)
  have HFAU := hide (fau_both sc k (lay2 sc T D k).pl (lay2 sc T D k).out HR.out.few)
  have HHN : Hid (headN sc T k (layF T D k 0).pl = sizeT (filmB sc T k (layF T D k 0).pl) + 8) := hide rfl
  have HL2 : Hid (lay2 sc T D k = layF T D k (headN sc T k (layF T D k 0).pl)) := hide rfl
  have HWL : Hid (wfL sc T D k = [.mk kFilm 0 [] (kidsB sc T k (lay2 sc T D k).pl n), dataB (lay2 sc T D k).out]) := hide (by unfold wfL filmB; rw [HTL.out])
  have HSO : Hid (∀ (W : World) (G : Nat → Prop) (kA : Option Addr) (kn kc : Nat), BxsAt W G kA kn kc (kidsB sc T k (layF T D k 0).pl n) → Calls Try.prog 23 #[.agg #[.string ⟨kFilm.toArray⟩, .int .i64 0, .slice none 0 0, .slice kA kn kc]] W fun e w' => e = .returned (.int .i64 (sizeT (filmB sc T k (layF T D k 0).pl) : Int)) ∧ Ext W w') :=
    hide (fun W G kA kn kc hb => size_any _ (x := filmB sc T k (layF T D k 0).pl) (y := ⟨kFilm, 0, none, 0, 0, kA, kn, kc⟩) (w := W) (G := G) (Nat.le_refl _) ⟨rfl, rfl, At.nil _ _ _, fun a ha => by cases ha⟩ (by show BxsAt W G kA kn kc (kidsB sc T k (layF T D k 0).pl T.length); rw [HTL.out]; exact hb) (by omega))
  rw [hdf]
  clear HV3 hdf
  have x0 : w2.cell? ⟨fb, 0, none⟩ = some (.int .i64 sc) := X2.out.cell 0
  have x1 : w2.cell? ⟨fb, 1, none⟩ = some (.slice A n c) := X2.out.cell 1
  go_wp2_with fail
  with_reducible refine (HL0.out _ E2.out).mono ?_
  rintro e w3 ⟨wl, gp, hv, v, rfl, el, lm⟩
  obtain ⟨oA, oc, rfl, _⟩ := lm.out_.at_ len_e8
  have LM := hide lm
  have e3 := Ext.trans el lm.ext
  have E3 := hide (Ext.trans E2.out e3)
  have X3 := hide (X2.out.ext e3)
  clear e3 el lm x0 x1 X2 E2
  have x0 : w3.cell? ⟨fb, 0, none⟩ = some (.int .i64 sc) := X3.out.cell 0
  have x1 : w3.cell? ⟨fb, 1, none⟩ = some (.slice A n c) := X3.out.cell 1
  go_wp2_with fail
  with_reducible refine (HFB.out _ _ _ _ _ _ _ E3.out LM.out).mono ?_
  rintro e w4 ⟨kA, kn, kc, rfl, hb, e4⟩
  have HB4 := hide (HSO.out _ _ _ _ _ hb)
  have E4 := hide (Ext.trans E3.out e4)
  have X4 := hide (X3.out.ext e4)
  clear e4 hb x0 x1 X3 E3 HSO LM
  go_wp2_with fail
  with_reducible refine HB4.out.mono ?_
  rintro e w5 ⟨rfl, e5⟩
  have E5 := hide (Ext.trans E4.out e5)
  have X5 := hide (X4.out.ext e5)
  have hhn := HHN.out
  have j1 : IntKind.i64.wrap ((sizeT (filmB sc T k (layF T D k 0).pl) : Int) + 8) = (headN sc T k (layF T D k 0).pl : Int) := by rw [IntKind.wrap_i64]; omega
  have j2 : IntKind.i64.wrap ((headN sc T k (layF T D k 0).pl : Int) + ((layF T D k 0).out.length : Int)) = (headN sc T k (layF T D k 0).pl : Int) + ((layF T D k 0).out.length : Int) := by rw [IntKind.wrap_i64]; omega
  have HHB : Hid (headN sc T k (layF T D k 0).pl ≤ 1000000000) := hide (by omega)
  clear e5 X4 E4 HB4 hsz0 hob0 hhn
  generalize sizeT (filmB sc T k (layF T D k 0).pl) = sz0 at *
  generalize headN sc T k (layF T D k 0).pl = hN at *
  generalize (layF T D k 0).out.length = oN at *
  by_cases hbig : 1000000 < hN + oN
  · have HE : Hid (R = 2) := hide (by rw [HV4.out, if_pos hbig])
    have HN := hide (HNO.out _ rfl (by rw [HE.out]; omega))
    have g1 : (1000000 : Int) < (hN : Int) + (oN : Int) := by omega
    clear hbig
    go_wp2_with fail
    go_ret2
    exact gives_nil' HE.out HN.out E5.out
  have HE : Hid (R = 0) := hide (by rw [HV4.out, if_neg hbig])
  have g1 : ¬ (1000000 : Int) < (hN : Int) + (oN : Int) := by omega
  have HWZ := hide (HWS.out (by omega))
  have x0 : w5.cell? ⟨fb, 0, none⟩ = some (.int .i64 sc) := X5.out.cell 0
  have x1 : w5.cell? ⟨fb, 1, none⟩ = some (.slice A n c) := X5.out.cell 1
  clear hbig HWS HV4 HL0
  go_wp2_with fail
  with_reducible refine (HL.out _ E5.out hN HHB.out).mono ?_
  rintro e w6 ⟨wl2, gp2, hv2, v2, rfl, el, lm⟩
  obtain ⟨oA2, oc2, rfl, oat⟩ := lm.out_.at_ len_e8
  generalize (layF T D k hN).out.length = on2 at *
  have LM := hide lm
  have OAT := hide oat
  have e6 := Ext.trans el lm.ext
  have E6 := hide (Ext.trans E5.out e6)
  have X6 := hide (X5.out.ext e6)
  clear e6 el lm x0 x1 X5 E5 oat
  have x0 : w6.cell? ⟨fb, 0, none⟩ = some (.int .i64 sc) := X6.out.cell 0
  have x1 : w6.cell? ⟨fb, 1, none⟩ = some (.slice A n c) := X6.out.cell 1
  go_wp2_with fail
  with_reducible refine (HFB.out _ _ _ _ _ _ _ E6.out LM.out).mono ?_
  rintro e w7 ⟨kA2, kn2, kc2, rfl, hb, e7⟩
  have HBX := hide (two_bxs hb (OAT.out.ext e7))
  have E7 := hide (Ext.trans E6.out (Ext.trans e7 (Ext.alloc w7 (.cells #[.string ⟨kFilm.toArray⟩, .int .i64 0, .slice none 0 0, .slice kA2 kn2 kc2, .string ⟨#[100, 97, 116, 97]⟩, .int .i64 0, .slice oA2 on2 oc2, .slice none 0 0] 66))))
  have HPK := hide (packB_any HBX.out (by rw [← HL2.out, ← HWL.out]; have := HWZ.out; omega) (by rw [← HL2.out, ← HWL.out]; have h9 := HFAU.out; have h8 := bytL_len _ _ _ _ h9; have h7 : bytL (wfL sc T D k) = bytL [filmB sc T k (lay2 sc T D k).pl, dataB (lay2 sc T D k).out] := rfl; rw [h7, h8]; have := HWZ.out; unfold wfL at this; omega))
  rw [← HL2.out, ← HWL.out] at HPK
  clear e7 hb x0 x1 X6 E6 LM OAT HBX
  have HBY : Hid (bytL (wfL sc T D k) = wfB sc T D (k : Int)) := hide (by unfold wfB; rw [HFF.out, HE.out, if_pos rfl, Int.toNat_natCast])
  go_wp2_with fail
  with_reducible refine HPK.out.mono ?_
  rintro e w8 ⟨v8, rfl, o8, e8⟩
  obtain ⟨A8, c8, rfl, a8⟩ := o8.at_ len_e8
  have A8_ := hide a8
  have E8 := hide (Ext.trans E7.out e8)
  clear o8 e8 a8
  go_wp2_with fail
  go_ret2
  exact gives_at HE.out HBY.out A8_.out E8.out
end Go.Proofs.Ytkbmgakehlmcnaa
namespace Go.Proofs.Ytkbmgakehlmcnaa
open Go.ChangeShapes Go.WideShapes Go.ChangeAt Go.RowKit Go.Joins Go.Deep
section
variable {H : Type} {enc : TypeId × Value → H} {P : Program}
end
section
variable {H : Type} {enc : TypeId × Value → H} {P : Program} {w : World} {base : Nat} {spare : Nat → Bool} {held : Bool}
end
section
variable {H : Type} {enc : TypeId × Value → H} {W : World} {base : Nat}
def okS (x : Smp) : Prop := (-9223372036854775808 ≤ x.time ∧ x.time ≤ 9223372036854775807) ∧ (-9223372036854775808 ≤ x.step ∧ x.step ≤ 9223372036854775807) ∧ (-9223372036854775808 ≤ x.shift ∧ x.shift ≤ 9223372036854775807) ∧ (-9223372036854775808 ≤ x.size ∧ x.size ≤ 9223372036854775807)
theorem fldBool {P : Program} {t : TypeId} {n : Nat} {v : Value} {y : DataW H × List MemPlace} (ht : P.underlying t = some .bool) (h : DataW.trod enc P W 0 (fun _ => true) true n t [v] = some y) : ∃ b, v = .bool b := by
  obtain ⟨b, hv, _⟩ := DataW.trod_bool ht h
  injection hv with hv _
  exact ⟨b, hv⟩
theorem decSmp {f0 f1 f2 f3 f4 : Field} (h0 : Try.prog.underlying f0.type = some (.int .i64)) (h1 : Try.prog.underlying f1.type = some (.int .i64)) (h2 : Try.prog.underlying f2.type = some (.int .i64)) (h3 : Try.prog.underlying f3.type = some (.int .i64)) (h4 : Try.prog.underlying f4.type = some .bool)
    (cs : List Value) (n : Nat) (hl : cs.length = 5) (hd : ∀ (j : Nat) (f : Field), #[f0, f1, f2, f3, f4][j]? = some f → ∃ v y, cs[j]? = some v ∧ DataW.trod enc Try.prog W 0 (fun _ => true) true n f.type [v] = some y) : ∃ x : Smp, okS x ∧ eSm x = cs := by
  obtain ⟨v0, y0, g0, t0⟩ := hd 0 f0 rfl
  obtain ⟨v1, y1, g1, t1⟩ := hd 1 f1 rfl
  obtain ⟨v2, y2, g2, t2⟩ := hd 2 f2 rfl
  obtain ⟨v3, y3, g3, t3⟩ := hd 3 f3 rfl
  obtain ⟨v4, y4, g4, t4⟩ := hd 4 f4 rfl
  obtain ⟨x0, rfl, b0⟩ := fldInt h0 t0
  obtain ⟨x1, rfl, b1⟩ := fldInt h1 t1
  obtain ⟨x2, rfl, b2⟩ := fldInt h2 t2
  obtain ⟨x3, rfl, b3⟩ := fldInt h3 t3
  obtain ⟨x4, rfl⟩ := fldBool h4 t4
  match cs, hl with
  | [c0, c1, c2, c3, c4], _ =>
    simp at g0 g1 g2 g3 g4
    exact ⟨⟨x0, x1, x2, x3, x4⟩, ⟨b0, b1, b2, b3⟩, by rw [g0, g1, g2, g3, g4]⟩
end
section
variable {H : Type} {enc : TypeId × Value → H} {P : Program}
theorem open_onesQ {α : Type} {en : α → List Value} {good : α → Prop} {t e : TypeId} (hts : P.underlying t = some (.slice e)) (hC : P.cellsOf e = 1) {W : World}
    (dec : ∀ (v : Value) (n : Nat) (y : DataW H × List MemPlace), DataW.trod enc P W 0 (fun _ => true) true n e [v] = some y → ∃ x : α, good x ∧ en x = [v])
    {A : Option Addr} {n c fuel : Nat} {d : DataW H} {p : List MemPlace} (hf : DataW.trod enc P W 0 (fun _ => true) true fuel t [.slice A n c] = some (d, p)) :
    ∃ l, At W 1 en A n c l ∧ (∀ x ∈ l, good x) ∧ Takes d c := by
  rcases open_slice hts hf with ⟨hcs, hx⟩ | ⟨a, len, cap, m, k, D, Pl, hcs, _, hl, hm, hmm, hx, hi⟩
  · simp at hcs
    obtain ⟨rfl, rfl, rfl⟩ := hcs
    simp only [Prod.mk.injEq] at hx
    exact ⟨[], At.nil _ _ _, fun x hx => by simp at hx, .inl ⟨hx.1, rfl⟩⟩
  · simp at hcs
    obtain ⟨rfl, rfl, rfl⟩ := hcs
    simp only [Prod.mk.injEq] at hx
    simp only [if_true] at hmm
    subst hmm
    have hT : Takes d m := .inr ⟨_, _, hx.1, by simp; omega⟩
    rcases Nat.eq_zero_or_pos m with h0 | h0
    · subst h0
      obtain rfl : n = 0 := by omega
      exact ⟨[], ⟨rfl, Nat.le_refl _, hm, fun h => (by cases h), fun k x hx => by simp at hx⟩, fun x hx => by simp at hx, hT⟩
    · have hsz0 : ∀ i, i < m → ∃ u, W.cell? ((a.add (i * 1)).add 0) = some u ∧ ∃ x, good x ∧ en x = [u] := by
        intro i him
        obtain ⟨cs', hc, ht'⟩ := hi i him
        rw [hC] at hc
        obtain ⟨_, hcl, hat⟩ := World.cells?_some hc
        match cs', hcl with
        | [u], _ => exact ⟨u, by have := hat 0 (by omega); simpa using this, dec u _ _ ht'⟩
      obtain ⟨b, off, spot⟩ := a
      have hs : spot = none := by
        obtain ⟨u, h1, _⟩ := hsz0 0 h0
        have h4 : (((⟨b, off, spot⟩ : Addr).add (0 * 1)).add 0) = ⟨b, off, spot⟩ := by rw [Nat.zero_mul]; unfold Addr.add; rfl
        rw [h4] at h1
        exact cell_spot h1
      subst hs
      obtain ⟨l, h1, h2⟩ := At.of_key (w := W) (sz := 1) (enc := en) (good := good) (b := b) (off := off) hl hm (fun i hin => by
        obtain ⟨u, g1, x, hx, he⟩ := hsz0 i (by omega)
        refine ⟨x, hx, fun j v hu => ?_⟩
        rw [he] at hu
        match j, hu with
        | 0, hu =>
          simp at hu; subst hu
          rw [add_of_add, Addr.add_lit] at g1
          rw [show off + i * 1 + 0 = off + (i * 1 + 0) by omega]
          exact g1
        | j + 1, hu => simp at hu)
      exact ⟨l, h1, h2, hT⟩
theorem fldSlice {t e : TypeId} (hts : P.underlying t = some (.slice e)) {W : World} {n : Nat} {v : Value} {y : DataW H × List MemPlace}
    (h : DataW.trod enc P W 0 (fun _ => true) true n t [v] = some y) : ∃ A n c, v = .slice A n c := by
  rcases open_slice hts h with ⟨hcs, _⟩ | ⟨a, len, cap, m, k, D, Pl, hcs, _⟩
  · injection hcs with hcs _; exact ⟨_, _, _, hcs⟩
  · injection hcs with hcs _; exact ⟨_, _, _, hcs⟩
theorem At.map1 {α β : Type} {w : World} {sz : Nat} {en : α → List Value} {em : β → List Value} {A : Option Addr} {n c : Nat} {l : List α} (f : α → β) (he : ∀ x, en x = em (f x)) (h : At w sz en A n c l) : At w sz em A n c (l.map f) :=
  ⟨by have := h.len; simpa using this, h.le, h.max, h.none_, fun k x hx => by
    rw [List.getElem?_map] at hx
    cases hl : l[k]? with
    | none => rw [hl] at hx; cases hx
    | some y =>
      rw [hl] at hx
      simp at hx; subst hx
      obtain ⟨b, off, e, hc⟩ := h.cells k y hl
      exact ⟨b, off, e, fun j u hu => hc j u (by rw [he]; exact hu)⟩⟩
end
section
variable {H : Type} {enc : TypeId × Value → H} {W : World} {base : Nat}
theorem fldStrF {P : Program} {t : TypeId} {n : Nat} {v : Value} {y : DataW H × List MemPlace} (ht : P.underlying t = some .string) (h : DataW.trod enc P W 0 (fun _ => true) true n t [v] = some y) :
    ∃ l : List UInt8, v = .string ⟨l.toArray⟩ ∧ l.length ≤ maxLen := by
  obtain ⟨s, hv, _, hs⟩ := DataW.trod_string ht h
  injection hv with hv _
  refine ⟨s.data.toList, ?_, ?_⟩
  · rw [hv, Array.toArray_toList]
  · rw [Array.length_toList]; exact hs
set_option maxRecDepth 100000 in
theorem open_tracks {n : Nat} {A : Option Addr} {m c : Nat} {y : DataW H × List MemPlace} (h : DataW.trod enc Try.prog W 0 (fun _ => true) true n 22 [.slice A m c] = some y) :
    ∃ hs T, TksAt W A m c hs T ∧ nmF T := by
  obtain ⟨d, p⟩ := y
  obtain ⟨l, h1, h2, _⟩ := open_structsQ (α := TrkH × TrkT) (en := fun q => eTk q.1) (good := fun q => TkOk W q.1 q.2 ∧ q.2.name.length ≤ maxLen) (sz := 4) Try.underlying22 Try.underlying47 (by kernel_rfl) (by kernel_rfl) rfl (by omega) (fun cs k hl hd => by
    obtain ⟨v0, y0, g0, t0⟩ := hd 0 _ rfl
    obtain ⟨v1, y1, g1, t1⟩ := hd 1 _ rfl
    obtain ⟨v2, y2, g2, t2⟩ := hd 2 _ rfl
    obtain ⟨v3, y3, g3, t3⟩ := hd 3 _ rfl
    obtain ⟨nm, rfl, hnm⟩ := fldStrF Try.underlying9 t0
    obtain ⟨x1, rfl, _⟩ := fldInt Try.underlying3 t1
    obtain ⟨sA, sn, sc, rfl⟩ := fldSlice Try.underlying42 t2
    obtain ⟨eA, en, ec, rfl⟩ := fldSlice Try.underlying45 t3
    obtain ⟨d2, p2⟩ := y2
    obtain ⟨d3, p3⟩ := y3
    obtain ⟨sm, hsm, _, _⟩ := open_structsQ (sz := 5) Try.underlying42 Try.underlying44 (by kernel_rfl) (by kernel_rfl) rfl (by omega) (decSmp Try.underlying3 Try.underlying3 Try.underlying3 Try.underlying3 Try.underlying4) t2
    obtain ⟨ed, hed, _, _⟩ := open_structsQ (good := ok2) (en := e2) (sz := 2) Try.underlying45 Try.underlying112 (by kernel_rfl) (by kernel_rfl) rfl (by omega) (fun cs n hl hd => by
      obtain ⟨v0, y0, g0, t0⟩ := hd 0 _ rfl
      obtain ⟨v1, y1, g1, t1⟩ := hd 1 _ rfl
      obtain ⟨x0, rfl, b0⟩ := fldInt Try.underlying3 t0
      obtain ⟨x1, rfl, b1⟩ := fldInt Try.underlying3 t1
      match cs, hl with
      | [c0, c1], _ =>
        simp at g0 g1
        exact ⟨(x0, x1), ⟨b0, b1⟩, by rw [g0, g1]⟩) t3
    match cs, hl with
    | [c0, c1, c2, c3], _ =>
      simp at g0 g1 g2 g3
      exact ⟨(⟨nm, x1, sA, sn, sc, eA, en, ec⟩, ⟨nm, x1, sm, ed⟩), ⟨⟨rfl, rfl, hsm, hed⟩, hnm⟩, by rw [g0, g1, g2, g3]⟩) h
  have hl := h1.len
  refine ⟨l.map Prod.fst, l.map Prod.snd, ⟨At.map1 (en := fun q => eTk q.1) Prod.fst (fun _ => rfl) h1, by simpa using hl, fun i hi => ?_⟩, fun i hi => ?_⟩
  · have hil : i < l.length := by omega
    have := (h2 (l[i]'hil) (List.getElem_mem hil)).1
    simp only [List.getD_eq_getElem?_getD, List.getElem?_map, List.getElem?_eq_getElem hil, Option.map_some, Option.getD_some]
    exact this
  · rw [List.length_map] at hi
    have := (h2 (l[i]'hi) (List.getElem_mem hi)).2
    simp only [List.getD_eq_getElem?_getD, List.getElem?_map, List.getElem?_eq_getElem hi, Option.map_some, Option.getD_some]
    exact this
set_option maxRecDepth 100000 in
theorem open_film {v : Value} {d : DataW H} {p : List MemPlace} (hv : Value.okWide Try.prog W .any base 24 v) (h : DataW.Trod enc Try.prog W 0 (fun _ => true) true 24 v d p) :
    ∃ sc A n c hs T, v = .agg #[.int .i64 sc, .slice A n c] ∧ TksAt W A n c hs T ∧ nmF T ∧ (-9223372036854775808 ≤ sc ∧ sc ≤ 9223372036854775807) := by
  obtain ⟨v0, v1, y0, y1, n, rfl, _, _, h0, h1⟩ := open_agg2 Try.underlying24 (by kernel_rfl) (by kernel_rfl) hv h
  obtain ⟨x0, rfl, b0⟩ := fldInt Try.underlying3 h0
  obtain ⟨A, m, c, rfl⟩ := fldSlice Try.underlying22 h1
  obtain ⟨hs, T, h2, h3⟩ := open_tracks h1
  exact ⟨x0, A, m, c, hs, T, rfl, h2, h3, b0⟩
end
end Go.Proofs.Ytkbmgakehlmcnaa
