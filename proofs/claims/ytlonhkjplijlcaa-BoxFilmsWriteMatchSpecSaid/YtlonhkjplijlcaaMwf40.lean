/- Several texts in one: Walk: boxesFault, pack, Pack (program). Conditions as stated; Walk: WriteFilm (program). Conditions as stated. -/
import Derived.Test.YtlonhkjplijlcaaMwf38
import Derived.Test.YtlonhkjplijlcaaMwf39
import Derived.Test.YtlonhkjplijlcaaMwf35
import Derived.Test.YtlonhkjplijlcaaMwf36
import Derived.Test.YtlonhkjplijlcaaMwf37
namespace Go.Proofs.Ytlonhkjplijlcaa
open Go.RowKit
theorem size_few (D : Nat) : ∀ (l : List BoxT) (dep c m : Nat), fauL l dep c = (0, m) → bndL D l → sizeL l + c * (16 + D) ≤ m * (16 + D)
  | [], dep, c, m, h, _ => by
    rw [fauL] at h; injection h with _ h2; subst h2; rw [sizeL]; omega
  | .mk k f d l :: r, dep, c, m, h, hb => by
    obtain ⟨_, _, m', h3, h4⟩ := fauL_ok h
    rw [bndL] at hb
    have i1 := size_few D l (dep + 1) (c + 1) m' h3 hb.2.2.1
    have i2 := size_few D r dep m' m h4 hb.2.2.2
    rw [Nat.add_mul] at i1
    have hd := hb.2.1
    rw [sizeL, sizeT]
    generalize c * (16 + D) = p at *
    generalize m' * (16 + D) = q at *
    generalize m * (16 + D) = z at *
    split <;> omega
theorem fau_max : ∀ (l : List BoxT) (dep c m : Nat), fauL l dep c = (0, m) → c ≤ 2000 → m ≤ 2000
  | [], dep, c, m, h, hc => by rw [fauL] at h; injection h with _ h2; omega
  | .mk k f d l :: r, dep, c, m, h, hc => by
    obtain ⟨h1, _, m', h3, h4⟩ := fauL_ok h
    exact fau_max r dep m' m h4 (fau_max l (dep + 1) (c + 1) m' h3 (by omega))
/-- The size of boxes without a fault. -/
theorem size_room {l : List BoxT} (hb : bndL 140737488355328 l) (hf : (fauL l 0 0).1 = 0) : sizeL l < 2305843009213693952 := by
  have h : fauL l 0 0 = (0, (fauL l 0 0).2) := by rw [← hf]
  have h1 := size_few _ l 0 0 _ h hb
  have h2 := fau_max l 0 0 _ h (by omega)
  have h3 : (fauL l 0 0).2 * (16 + 140737488355328) ≤ 2000 * (16 + 140737488355328) := Nat.mul_le_mul_right _ h2
  omega
/-- The fault of Pack. -/
def bfF (l : List BoxT) : Int := if (fauL l 0 0).1 ≠ 0 then (fauL l 0 0).1 else if 1000000 < sizeL l then 2 else 0
/-- No fault: what follows. -/
theorem bfF_zero {l : List BoxT} (h : bfF l = 0) : (fauL l 0 0).1 = 0 ∧ sizeL l ≤ 1000000 ∧ (bytL l).length = sizeL l := by
  unfold bfF at h
  by_cases h1 : (fauL l 0 0).1 ≠ 0
  · rw [if_pos h1] at h; exact absurd h h1
  rw [if_neg h1] at h
  have h2 : (fauL l 0 0).1 = 0 := by omega
  by_cases h3 : 1000000 < sizeL l
  · rw [if_pos h3] at h; omega
  exact ⟨h2, by omega, bytL_len l 0 0 (fauL l 0 0).2 (by rw [← h2])⟩
set_option linter.unusedVariables false in
set_option maxRecDepth 100000 in
set_option maxHeartbeats 4000000 in
theorem packB_any {l : List BoxT} {w : World} {G : Nat → Prop} {A : Option Addr} {n c : Nat} (h : BxsAt w G A n c l) (hs : sizeL l < 2305843009213693952) (hb : (bytL l).length ≤ 1000000000) :
    Calls Try.prog 20 #[.slice A n c] w fun e w' => ∃ v, e = .returned v ∧ Own w' w.heap.size 5 1 e8 v (bytL l) ∧ Ext w w' := by
  obtain ⟨ys, ha, hy, hh1, hk1⟩ := h.parts
  have HA := hide ha
  have HH1 := hide hh1
  have HK1 := hide hk1
  have HY := hide hy
  have HKL := hide h.len
  have hkb := ha.bound
  have HSB : Hid (∀ (k : Nat) (h : k < l.length), sizeT l[k] < 4611686018427387904) := hide (fun k h => by have h1 := sizeL_take h; have h2 := sizeL_le l (k + 1); omega)
  have HTK : Hid (∀ (k : Nat) (h : k < l.length), bytL (l.take (k + 1)) = bytL (l.take k) ++ bytT l[k]) := hide (fun k h => bytL_take h)
  have HTL : Hid (∀ (k : Nat), (bytL (l.take k)).length ≤ 1000000000) := hide (fun k => by have := bytL_le l k; omega)
  have HEND : Hid (bytL (l.take n) = bytL l) := hide (by rw [← h.len, List.take_length])
  clear ha hh1 hk1 hy h hs hb
  go_enter Try.func20, Try.ntmps20
  go_wp2_with fail
  go_loopw [3, 8] (fun r0 ri wr => ∃ k : Nat, k ≤ n ∧ ri = .int .i64 k ∧ Hid (Own wr w.heap.size 5 1 e8 r0 (bytL (l.take k))) ∧ Hid (Ext w wr)) (fun _ ri _ => n - (intOf ri).toNat)
  case atStart => exact ⟨0, by omega, rfl, hide (by rw [List.take_zero, bytL]; exact Own.nil _ _ _ _ _), hide (Ext.refl _)⟩
  case round =>
    obtain ⟨k, hk, rfl, HO, HX⟩ := hrel
    by_cases hlt : k < n
    · have hkl : k < l.length := by have := HKL.out; omega
      have hky : k < ys.length := by have := HY.out; omega
      have EX := HX.out
      have hat := HA.out.ext EX
      have hq := HH1.out k _ _ (List.getElem?_eq_getElem hky) (List.getElem?_eq_getElem hkl)
      have hr := HK1.out k _ _ (List.getElem?_eq_getElem hky) (List.getElem?_eq_getElem hkl)
      have hsb := HSB.out k hkl
      have HSU := hide (HTK.out k hkl)
      have hle := HTL.out (k + 1)
      rw [HSU.out, List.length_append] at hle
      obtain ⟨b, o, rfl, _⟩ := hat.addr (by omega)
      have gy : ys.getD k default = ys[k] := by simp [List.getD, hky]
      generalize ys[k] = z at *
      generalize l[k] = u at *
      have a0 : wr.cell? ⟨b, o + k * 4, none⟩ = some (.string ⟨z.kind.toArray⟩) := hat.cellK hlt default 0 _ (by rw [gy]; rfl)
      have a1 : wr.cell? ⟨b, o + k * 4 + 1, none⟩ = some (.int .i64 z.form) := hat.cellK hlt default 1 _ (by rw [gy]; rfl)
      have a2 : wr.cell? ⟨b, o + k * 4 + 2, none⟩ = some (.slice z.dA z.dn z.dc) := hat.cellK hlt default 2 _ (by rw [gy]; rfl)
      have a3 : wr.cell? ⟨b, o + k * 4 + 3, none⟩ = some (.slice z.kA z.kn z.kc) := hat.cellK hlt default 3 _ (by rw [gy]; rfl)
      rw [hq.1] at a0
      rw [hq.2.1] at a1
      have EA := hide (Ext.trans EX (Ext.alloc wr (.cells #[.string ⟨u.kind.toArray⟩, .int .i64 u.form, .slice z.dA z.dn z.dc, .slice z.kA z.kn z.kc] 47)))
      have OA := hide (HO.out.ext (Ext.alloc wr (.cells #[.string ⟨u.kind.toArray⟩, .int .i64 u.form, .slice z.dA z.dn z.dc, .slice z.kA z.kn z.kc] 47)))
      have HC := hide (app_any _ (Nat.le_refl _) hq hr EA.out (Nat.le_refl _) EA.out.size OA.out hsb hle)
      have HFR := hide (fun b hb => (OA.out.from b hb).1)
      generalize bytT u = bu at *
      generalize bytL (l.take k) = bk at *
      have i1 : (k : Int) < (n : Int) := by omega
      have i0 : (0 : Int) ≤ (k : Int) := by omega
      have i8 : IntKind.i64.wrap ((k : Int) + 1) = (k : Int) + 1 := by rw [IntKind.wrap_i64]; omega
      clear hat hq hr hsb gy EX hky hkl hle OA
      go_wp2_with fail
      with_reducible refine HC.out.mono ?_
      rintro e w5 ⟨v5, rfl, o5, g5⟩
      have O5 := hide o5
      have E5 := hide (Ext.gr EA.out g5.grown HFR.out)
      clear o5 g5
      go_wp2_with fail
      exact ⟨⟨k + 1, by omega, by go_num, hide (by rw [HSU.out]; exact O5.out), E5⟩, by simp [intOf]; omega⟩
    · obtain rfl : k = n := by omega
      rw [HEND.out] at HO
      clear hlt
      go_wp2_with fail
      go_ret
      exact ⟨_, rfl, HO.out, HX.out⟩
/-- What Pack gives. -/
def PkGives (l : List BoxT) (w : World) (e : Ending) (w' : World) : Prop := Ext w w' ∧ (bfF l ≠ 0 → e = .returned (.tuple #[.slice none 0 0, .int .i64 (bfF l)])) ∧ (bfF l = 0 → ∃ v, e = .returned (.tuple #[v, .int .i64 0]) ∧ Own w' w.heap.size 5 1 e8 v (bytL l))
end Go.Proofs.Ytlonhkjplijlcaa
namespace Go.Proofs.Ytlonhkjplijlcaa
open Go.RowKit
/-- The two boxes of a film. -/
theorem two_bxs {W : World} {G : Nat → Prop} {kA dA : Option Addr} {kn kc dn dc : Nat} {l : List BoxT} {d : List UInt8} (hk : BxsAt W G kA kn kc l) (hd : At W 1 e8 dA dn dc d) :
    BxsAt (W.alloc (.cells #[.string ⟨kFilm.toArray⟩, .int .i64 0, .slice none 0 0, .slice kA kn kc, .string ⟨#[100, 97, 116, 97]⟩, .int .i64 0, .slice dA dn dc, .slice none 0 0] 47)) (fun _ => True) (some ⟨W.heap.size, 0, none⟩) 2 2 [.mk kFilm 0 [] l, dataB d] := by
  have ho := own_lit W #[.string ⟨kFilm.toArray⟩, .int .i64 0, .slice none 0 0, .slice kA kn kc, .string ⟨#[100, 97, 116, 97]⟩, .int .i64 0, .slice dA dn dc, .slice none 0 0] [(⟨kFilm, 0, none, 0, 0, kA, kn, kc⟩ : BoxH), hdB kData dA dn dc] rfl len_eBx W.heap.size (Nat.le_refl _) (by unfold maxLen; simp) (t := 47)
  have hE := Ext.alloc W (.cells #[.string ⟨kFilm.toArray⟩, .int .i64 0, .slice none 0 0, .slice kA kn kc, .string ⟨#[100, 97, 116, 97]⟩, .int .i64 0, .slice dA dn dc, .slice none 0 0] 47)
  have k1 := (hk.ext hE).good (H := fun _ => True) (fun _ _ => rfl) (fun _ _ => trivial)
  have k2 := hd.ext hE
  refine .mk _ _ (ho.atS len_eBx) (fun a _ => trivial) rfl (fun j y x hy hx => ?_) (fun j y x hy hx => ?_)
  · match j, hy, hx with
    | 0, hy, hx => simp at hy hx; subst hy hx; exact ⟨rfl, rfl, At.nil _ _ _, fun a _ => trivial⟩
    | 1, hy, hx => simp at hy hx; subst hy hx; exact ⟨rfl, rfl, k2, fun a _ => trivial⟩
    | j + 2, hy, hx => simp at hy
  · match j, hy, hx with
    | 0, hy, hx => simp at hy hx; subst hy hx; exact k1
    | 1, hy, hx => simp at hy hx; subst hy hx; exact .mk [] [] (At.nil _ _ _) (fun a ha => by cases ha) rfl (fun i y x hy _ => by simp at hy) (fun i y x hy _ => by simp at hy)
    | j + 2, hy, hx => simp at hy
theorem wfB_no {sc : Int} {T : List TrkT} {D : List (List UInt8)} {ch f : Int} (h : wfF sc T D ch = f) (hf : f ≠ 0) : wfB sc T D ch = [] := by unfold wfB; rw [if_neg (by omega)]
set_option linter.unusedVariables false in
set_option linter.unusedSimpArgs false in
set_option maxRecDepth 100000 in
set_option maxHeartbeats 8000000 in
theorem writeFilm_any {sc : Int} {A : Option Addr} {n c : Nat} {hs : List TrkH} {T : List TrkT} {B : Option Addr} {m d : Nat} {es : List (Option Addr × Nat × Nat)} {D : List (List UInt8)} {ch : Int} {w : World} (h : TksAt w A n c hs T) (hd : DtsAt w B m d es D) (hn : nmF T) :
    Calls Try.prog 6 #[.agg #[.int .i64 sc, .slice A n c], .slice B m d, .int .i64 ch] w (Gives 1 e8 w (wfB sc T D ch) (wfF sc T D ch)) := by
  have HV : Hid (wfF sc T D ch = if filF sc T ≠ 0 then filF sc T else if ch < 1 ∨ 1000 < ch then 1 else if datF T D ≠ 0 then datF T D
    else if 1000000 < headN sc T ch.toNat (layF T D ch.toNat 0).pl + (layF T D ch.toNat 0).out.length then 2 else 0) := hide rfl
  have HT := hide h
  have HD := hide hd
  have HTL := hide h.len
  have X0 := hide (Blk.new w 24 #[.int .i64 sc, .slice A n c])
  have E0 := hide (Ext.alloc w (.cells #[.int .i64 sc, .slice A n c] 24))
  have HC1 := hide (fun (W : World) (hW : Ext w W) => checkFilm_any (sc := sc) (h.ext hW) hn)
  have HOK := hide (fun (hf : filF sc T = 0) => filF_ok hf)
  have HNO := hide (fun (f : Int) (hf : wfF sc T D ch = f) (h0 : f ≠ 0) => wfB_no hf h0)
  have HDF := hide (fun (W : World) (hW : Ext w W) (hr : FilR T) => dataFault_any (sc := sc) (h.ext hW) (hd.ext hW) hr)
  clear h hd hn
  generalize hFF : wfF sc T D ch = R at *
  have HFF := hide hFF
  clear hFF
  go_enter Try.func6, Try.ntmps6
  go_upto_region 1 with (fail)
  refine gen_wpC fun w0 h0 => ?_
  rw [← h0] at X0 E0
  obtain ⟨fb, hfb⟩ : ∃ fb, fb = w.heap.size := ⟨_, rfl⟩
  rw [← hfb] at X0 ⊢
  clear h0 hfb
  have x0 : w0.cell? ⟨fb, 0, none⟩ = some (.int .i64 sc) := X0.out.cell 0
  have x1 : w0.cell? ⟨fb, 1, none⟩ = some (.slice A n c) := X0.out.cell 1
  go_wp2_with fail
  with_reducible refine (HC1.out _ E0.out).mono ?_
  rintro e w1 ⟨rfl, e1⟩
  have E1 := hide (Ext.trans E0.out e1)
  have X1 := hide (X0.out.ext e1)
  clear e1 x0 x1 X0
  by_cases hf : filF sc T = 0
  case neg =>
    have HE : Hid (R = filF sc T) := hide (by rw [HV.out, if_pos hf])
    have HN := hide (HNO.out _ rfl (by rw [HE.out]; exact hf))
    have d0 : (filF sc T != 0) = true := by simp [hf]
    clear hf
    generalize filF sc T = ff at *
    go_wp2_with fail
    go_ret2
    exact gives_nil' HE.out HN.out E1.out
  case pos =>
  have HFO := hide (HOK.out hf)
  have hr := HFO.out.r
  have HR := hide hr
  have HNM := hide (nmS_of HFO.out)
  have HV2 : Hid (R = if ch < 1 ∨ 1000 < ch then 1 else if datF T D ≠ 0 then datF T D
    else if 1000000 < headN sc T ch.toNat (layF T D ch.toNat 0).pl + (layF T D ch.toNat 0).out.length then 2 else 0) := hide (by rw [HV.out, if_neg (by omega)])
  rw [hf]
  clear HV hf HOK hr
  by_cases hch : ch < 1 ∨ 1000 < ch
  · have HE : Hid (R = 1) := hide (by rw [HV2.out, if_pos hch])
    have HN := hide (HNO.out _ rfl (by rw [HE.out]; omega))
    have HO := hide (fun (W : World) => out_yes hch W)
    clear hch
    go_wp2_with fail
    with_reducible refine (HO.out _).mono ?_
    rintro e w' ⟨rfl, rfl⟩
    go_wp2_with fail
    go_ret2
    exact gives_nil' HE.out HN.out E1.out
  have HO := hide (fun (W : World) => out_no (n := ch) (lo := 1) (hi := 1000) (by omega) W)
  obtain ⟨k, rfl⟩ : ∃ k : Nat, ch = (k : Int) := ⟨ch.toNat, by omega⟩
  have hk1 : 1 ≤ k := by omega
  have hk2 : k ≤ 1000 := by omega
  have HV3 : Hid (R = if datF T D ≠ 0 then datF T D else if 1000000 < headN sc T k (layF T D k 0).pl + (layF T D k 0).out.length then 2 else 0) := hide (by rw [HV2.out, if_neg hch, Int.toNat_natCast])
  clear HV2 hch
  have x0 : w1.cell? ⟨fb, 0, none⟩ = some (.int .i64 sc) := X1.out.cell 0
  have x1 : w1.cell? ⟨fb, 1, none⟩ = some (.slice A n c) := X1.out.cell 1
  go_wp2_with fail
  with_reducible refine (HO.out _).mono ?_
  rintro e w' ⟨rfl, rfl⟩
  go_wp2_with fail
  with_reducible refine (HDF.out _ E1.out HR.out).mono ?_
  rintro e w2 ⟨rfl, e2⟩
  have E2 := hide (Ext.trans E1.out e2)
  have X2 := hide (X1.out.ext e2)
  clear e2 x0 x1 X1 E1 HO
  by_cases hdf : datF T D = 0
  case neg =>
    have HE : Hid (R = datF T D) := hide (by rw [HV3.out, if_pos hdf])
    have HN := hide (HNO.out _ rfl (by rw [HE.out]; exact hdf))
    have d0 : (datF T D != 0) = true := by simp [hdf]
    clear hdf
    generalize datF T D = df at *
    go_wp2_with fail
    go_ret2
    exact gives_nil' HE.out HN.out E2.out
  case pos =>
  have HV4 : Hid (R = if 1000000 < headN sc T k (layF T D k 0).pl + (layF T D k 0).out.length then 2 else 0) := hide (by rw [HV3.out, if_neg (by omega)])
  have HL := hide (fun (W : World) (hW : Ext w W) (fr : Nat) (hfr : fr ≤ 1000000000) => laid_any (sc := sc) (fr := fr) (HT.out.ext hW) (HD.out.ext hW) HR.out hdf hk1 hk2 hfr)
  have HL0 : Hid (∀ W : World, Ext w W → Calls Try.prog 17 #[.agg #[.int .i64 sc, .slice A n c], .slice B m d, .int .i64 (k : Int), .int .i64 0] W (LayG W n (layF T D k 0))) := hide (fun W hW => HL.out W hW 0 (by omega))
  have HFB := hide (fun (W wl : World) (gp : Nat) (hp : List (Option Addr × Nat × Nat)) (fr : Nat) (ov : Value) (ob : List UInt8) (hW : Ext w W) (hL : LaM wl W gp n hp (layF T D k fr).pl [] ov ob) => filmBox_any (sc := sc) (ch := k) (HT.out.ext hW) HR.out HNM.out hL (fun i => layF_rows HR.out hk1 i) hk1 hk2)
  have hsz0 := film_size (sc := sc) (P := (layF T D k 0).pl) HR.out HNM.out hk1 (fun i => layF_rows HR.out hk1 i)
  have hob0 : (layF T D k 0).out.length ≤ 800000000 * 5001 := layR_out (fun i hi => (HR.out.smp i hi).1) hk2 HR.out.few 5001
  have HWS := hide (fun (ho : (layF T D k 0).out.length ≤ 1000000) => wf_sizes (sc := sc) (T := T) (D := D) (ch := k) HR.out HNM.out hk1 ho)
  have HFAU := hide (fau_both sc k (lay2 sc T D k).pl (lay2 sc T D k).out HR.out.few)
  have HHN : Hid (headN sc T k (layF T D k 0).pl = sizeT (filmB sc T k (layF T D k 0).pl) + 8) := hide rfl
  have HL2 : Hid (lay2 sc T D k = layF T D k (headN sc T k (layF T D k 0).pl)) := hide rfl
  have HWL : Hid (wfL sc T D k = [.mk kFilm 0 [] (kidsB sc T k (lay2 sc T D k).pl n), dataB (lay2 sc T D k).out]) := hide (by unfold wfL filmB; rw [HTL.out])
  have HSO : Hid (∀ (W : World) (G : Nat → Prop) (kA : Option Addr) (kn kc : Nat), BxsAt W G kA kn kc (kidsB sc T k (layF T D k 0).pl n) → Calls Try.prog 18 #[.agg #[.string ⟨kFilm.toArray⟩, .int .i64 0, .slice none 0 0, .slice kA kn kc]] W fun e w' => e = .returned (.int .i64 (sizeT (filmB sc T k (layF T D k 0).pl) : Int)) ∧ Ext W w') :=
    hide (fun W G kA kn kc hb => size_any _ (x := filmB sc T k (layF T D k 0).pl) (y := ⟨kFilm, 0, none, 0, 0, kA, kn, kc⟩) (w := W) (G := G) (Nat.le_refl _) ⟨rfl, rfl, At.nil _ _ _, fun a ha => by cases ha⟩ (by show BxsAt W G kA kn kc (kidsB sc T k (layF T D k 0).pl T.length); rw [HTL.out]; exact hb) (by omega))
  rw [hdf]
  clear HV3 hdf
  have x0 : w2.cell? ⟨fb, 0, none⟩ = some (.int .i64 sc) := X2.out.cell 0
  have x1 : w2.cell? ⟨fb, 1, none⟩ = some (.slice A n c) := X2.out.cell 1
  go_wp2_with fail
  with_reducible refine (HL0.out _ E2.out).mono ?_
  rintro e w3 ⟨wl, gp, hv, v, rfl, el, lm⟩
  obtain ⟨oA, oc, rfl, _⟩ := lm.out_.at_ len_e8
  have LM := hide lm
  have e3 := Ext.trans el lm.ext
  have E3 := hide (Ext.trans E2.out e3)
  have X3 := hide (X2.out.ext e3)
  clear e3 el lm x0 x1 X2 E2
  have x0 : w3.cell? ⟨fb, 0, none⟩ = some (.int .i64 sc) := X3.out.cell 0
  have x1 : w3.cell? ⟨fb, 1, none⟩ = some (.slice A n c) := X3.out.cell 1
  go_wp2_with fail
  with_reducible refine (HFB.out _ _ _ _ _ _ _ E3.out LM.out).mono ?_
  rintro e w4 ⟨kA, kn, kc, rfl, hb, e4⟩
  have HB4 := hide (HSO.out _ _ _ _ _ hb)
  have E4 := hide (Ext.trans E3.out e4)
  have X4 := hide (X3.out.ext e4)
  clear e4 hb x0 x1 X3 E3 HSO LM
  go_wp2_with fail
  with_reducible refine HB4.out.mono ?_
  rintro e w5 ⟨rfl, e5⟩
  have E5 := hide (Ext.trans E4.out e5)
  have X5 := hide (X4.out.ext e5)
  have hhn := HHN.out
  have j1 : IntKind.i64.wrap ((sizeT (filmB sc T k (layF T D k 0).pl) : Int) + 8) = (headN sc T k (layF T D k 0).pl : Int) := by rw [IntKind.wrap_i64]; omega
  have j2 : IntKind.i64.wrap ((headN sc T k (layF T D k 0).pl : Int) + ((layF T D k 0).out.length : Int)) = (headN sc T k (layF T D k 0).pl : Int) + ((layF T D k 0).out.length : Int) := by rw [IntKind.wrap_i64]; omega
  have HHB : Hid (headN sc T k (layF T D k 0).pl ≤ 1000000000) := hide (by omega)
  clear e5 X4 E4 HB4 hsz0 hob0 hhn
  generalize sizeT (filmB sc T k (layF T D k 0).pl) = sz0 at *
  generalize headN sc T k (layF T D k 0).pl = hN at *
  generalize (layF T D k 0).out.length = oN at *
  by_cases hbig : 1000000 < hN + oN
  · have HE : Hid (R = 2) := hide (by rw [HV4.out, if_pos hbig])
    have HN := hide (HNO.out _ rfl (by rw [HE.out]; omega))
    have g1 : (1000000 : Int) < (hN : Int) + (oN : Int) := by omega
    clear hbig
    go_wp2_with fail
    go_ret2
    exact gives_nil' HE.out HN.out E5.out
  have HE : Hid (R = 0) := hide (by rw [HV4.out, if_neg hbig])
  have g1 : ¬ (1000000 : Int) < (hN : Int) + (oN : Int) := by omega
  have HWZ := hide (HWS.out (by omega))
  have x0 : w5.cell? ⟨fb, 0, none⟩ = some (.int .i64 sc) := X5.out.cell 0
  have x1 : w5.cell? ⟨fb, 1, none⟩ = some (.slice A n c) := X5.out.cell 1
  clear hbig HWS HV4 HL0
  go_wp2_with fail
  with_reducible refine (HL.out _ E5.out hN HHB.out).mono ?_
  rintro e w6 ⟨wl2, gp2, hv2, v2, rfl, el, lm⟩
  obtain ⟨oA2, oc2, rfl, oat⟩ := lm.out_.at_ len_e8
  generalize (layF T D k hN).out.length = on2 at *
  have LM := hide lm
  have OAT := hide oat
  have e6 := Ext.trans el lm.ext
  have E6 := hide (Ext.trans E5.out e6)
  have X6 := hide (X5.out.ext e6)
  clear e6 el lm x0 x1 X5 E5 oat
  have x0 : w6.cell? ⟨fb, 0, none⟩ = some (.int .i64 sc) := X6.out.cell 0
  have x1 : w6.cell? ⟨fb, 1, none⟩ = some (.slice A n c) := X6.out.cell 1
  go_wp2_with fail
  with_reducible refine (HFB.out _ _ _ _ _ _ _ E6.out LM.out).mono ?_
  rintro e w7 ⟨kA2, kn2, kc2, rfl, hb, e7⟩
  have HBX := hide (two_bxs hb (OAT.out.ext e7))
  have E7 := hide (Ext.trans E6.out (Ext.trans e7 (Ext.alloc w7 (.cells #[.string ⟨kFilm.toArray⟩, .int .i64 0, .slice none 0 0, .slice kA2 kn2 kc2, .string ⟨#[100, 97, 116, 97]⟩, .int .i64 0, .slice oA2 on2 oc2, .slice none 0 0] 47))))
  have HPK := hide (packB_any HBX.out (by rw [← HL2.out, ← HWL.out]; have := HWZ.out; omega) (by rw [← HL2.out, ← HWL.out]; have h9 := HFAU.out; have h8 := bytL_len _ _ _ _ h9; have h7 : bytL (wfL sc T D k) = bytL [filmB sc T k (lay2 sc T D k).pl, dataB (lay2 sc T D k).out] := rfl; rw [h7, h8]; have := HWZ.out; unfold wfL at this; omega))
  rw [← HL2.out, ← HWL.out] at HPK
  clear e7 hb x0 x1 X6 E6 LM OAT HBX
  have HBY : Hid (bytL (wfL sc T D k) = wfB sc T D (k : Int)) := hide (by unfold wfB; rw [HFF.out, HE.out, if_pos rfl, Int.toNat_natCast])
  go_wp2_with fail
  with_reducible refine HPK.out.mono ?_
  rintro e w8 ⟨v8, rfl, o8, e8⟩
  obtain ⟨A8, c8, rfl, a8⟩ := o8.at_ len_e8
  have A8_ := hide a8
  have E8 := hide (Ext.trans E7.out e8)
  clear o8 e8 a8
  go_wp2_with fail
  go_ret2
  exact gives_at HE.out HBY.out A8_.out E8.out
end Go.Proofs.Ytlonhkjplijlcaa
