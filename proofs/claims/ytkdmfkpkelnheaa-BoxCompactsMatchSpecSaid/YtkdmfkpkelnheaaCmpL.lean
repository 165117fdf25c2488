/- Proved: for all samples, chunks and places BoxCompactsMatchSpec returns true: CheckSamples and Compact of the program and of the document give the same fault and the same table. Conditions: none. -/
import Derived.Test.YtkdmfkpkelnheaaCmpY
import Derived.Test.YtkdmfkpkelnheaaCmpV
import Derived.Test.YtkdmfkpkelnheaaSamT
import Derived.Test.YtkdmfkpkelnheaaBoxE
import Derived.Test.YtkdmfkpkelnheaaOpenS
import Derived.Test.YtkdmfkpkelnheaaLawG
namespace Go.Proofs.Ytkdmfkpkelnheaa
open Go.ChangeShapes Go.WideShapes Go.ChangeAt Go.RowKit Go.Joins Go.Deep
section
variable {H : Type} {enc : TypeId × Value → H} {W : World} {base : Nat}
set_option maxRecDepth 100000 in
theorem open_ints {v : Value} {d : DataW H} {p : List MemPlace} (hv : Value.okWide Try.prog W .any base 23 v) (h : DataW.Trod enc Try.prog W 0 (fun _ => true) true 23 v d p) :
    ∃ A n c, ∃ l : List Int, v = .slice A n c ∧ At W 1 e64 A n c l ∧ (∀ x ∈ l, -9223372036854775808 ≤ x ∧ x ≤ 9223372036854775807) ∧ Takes d c := open_intsP Try.underlying23 Try.underlying3 (by kernel_rfl) hv h
end
theorem bytes_int : Try.prog.bytesOf 3 = 8 := by kernel_rfl
set_option linter.unusedVariables false in
set_option maxRecDepth 100000 in
set_option maxHeartbeats 8000000 in
theorem cmpmatch_any {A : Option Addr} {n c : Nat} {l : List Smp} {B : Option Addr} {m d : Nat} {ch : List Int} {D : Option Addr} {q r : Nat} {pl : List Int} {w : World} (h : At w 5 eSm A n c l) (hc : At w 1 e64 B m d ch) (hp : At w 1 e64 D q r pl) (hm : m ≤ 17592186044416) :
    Calls Try.prog 3 #[.slice A n c, .slice B m d, .slice D q r] w fun e w' => e = .returned (.bool true) ∧ Ext w w' := by
  have HAW := hide (fun (W : World) => awake_any W)
  have HB : Hid (cmpF l ch pl = 0 → n ≤ 5000 ∧ m ≤ 5000 ∧ q ≤ 5000) := hide (fun hf => by
    have h1 := chunks_few hf
    rw [h.len, hc.len, hp.len] at h1
    exact h1)
  have HK := hide (keyCompact_of h hc hp hm (t := cmpT l ch pl) (fun hf W hW => keyCompact_in (h.ext hW) (hc.ext hW) (hp.ext hW) (HB.out hf).1 (HB.out hf).2.1 (HB.out hf).2.2))
  have HR := hide (fun (W : World) (hX : Ext w W) => refCompact_of (h.ext hX) (hc.ext hX) (hp.ext hX) hm (t := cmpT l ch pl) (fun hf W2 hW => refCompact_in (h.ext (Ext.trans hX hW)) (hc.ext (Ext.trans hX hW)) (hp.ext (Ext.trans hX hW)) (HB.out hf).1 (HB.out hf).2.1 (HB.out hf).2.2))
  have HS1 := hide (fun (W : World) (hX : Ext w W) => keySamples_any (h.ext hX))
  have HS2 := hide (fun (W : World) (hX : Ext w W) => refSamples_any (h.ext hX))
  clear h hc hp HB
  generalize cmpF l ch pl = cf at *
  obtain ⟨T, hT⟩ : ∃ T, T = if cf = 0 then cmpT l ch pl else noTab := ⟨_, rfl⟩
  have HT := hide hT
  clear hT
  go_enter Try.func3, Try.ntmps3
  go_wp2_with fail
  with_reducible refine HK.out.mono ?_
  rintro e w1 ⟨v1, rfl, hv1, e1⟩
  rw [← HT.out] at hv1
  obtain ⟨sA1, sn1, sc1, hA1, hn1, hc1, zA1, zn1, zc1, kA1, kn1, kc1, cA1, cn1, cc1, pA1, pn1, pc1, rfl, t1⟩ := hv1
  have T1 := hide t1
  have E1 := hide e1
  clear t1 e1 HK
  go_upto_region 2 with (fail)
  refine gen_wpC fun w2 h2 => ?_
  obtain ⟨gx, hgx⟩ : ∃ gx, gx = w1.heap.size := ⟨_, rfl⟩
  rw [← hgx]
  have EX : Hid (Ext w1 w2) := hide (by rw [h2]; exact Ext.alloc _ _)
  have E2 := hide (Ext.trans E1.out EX.out)
  have X2 : Hid (Blk w2 gx 27 #[.int .i64 T.start, .slice sA1 sn1 sc1, .slice hA1 hn1 hc1, .slice zA1 zn1 zc1, .slice kA1 kn1 kc1, .slice cA1 cn1 cc1, .slice pA1 pn1 pc1]) := hide (by rw [h2, hgx]; exact Blk.new _ _ _)
  have T2 := hide (T1.out.ext EX.out)
  clear h2 hgx EX T1 E1
  go_wp2_with fail
  with_reducible refine (HR.out _ E2.out).mono ?_
  rintro e w3 ⟨v3, rfl, hv3, e3⟩
  rw [← HT.out] at hv3
  obtain ⟨sA3, sn3, sc3, hA3, hn3, hc3, zA3, zn3, zc3, kA3, kn3, kc3, cA3, cn3, cc3, pA3, pn3, pc3, rfl, t3⟩ := hv3
  have P3 := hide t3
  have T3 := hide (T2.out.ext e3)
  have E3 := hide (Ext.trans E2.out e3)
  have X3 := hide (X2.out.ext e3)
  clear t3 e3 HR T2 X2 E2
  go_upto_region 3 with (fail)
  refine gen_wpC fun w4 h4 => ?_
  obtain ⟨gy, hgy⟩ : ∃ gy, gy = w3.heap.size := ⟨_, rfl⟩
  rw [← hgy]
  have EY : Hid (Ext w3 w4) := hide (by rw [h4]; exact Ext.alloc _ _)
  have E4 := hide (Ext.trans E3.out EY.out)
  have X4 := hide (X3.out.ext EY.out)
  have Y4 : Hid (Blk w4 gy 27 #[.int .i64 T.start, .slice sA3 sn3 sc3, .slice hA3 hn3 hc3, .slice zA3 zn3 zc3, .slice kA3 kn3 kc3, .slice cA3 cn3 cc3, .slice pA3 pn3 pc3]) := hide (by rw [h4, hgy]; exact Blk.new _ _ _)
  have T4 := hide (T3.out.ext EY.out)
  have P4 := hide (P3.out.ext EY.out)
  clear h4 hgy EY E3 X3 T3 P3
  have H1 := hide (HS1.out _ E4.out)
  generalize smpF l = sf at *
  have d0 : (sf == sf) = true := by simp
  have d2 : (cf == cf) = true := by simp
  go_wp2_with fail
  with_reducible refine H1.out.mono ?_
  rintro e w5 ⟨rfl, e5⟩
  have H2 := hide (HS2.out _ (Ext.trans E4.out e5))
  have E5 := hide (Ext.trans E4.out e5)
  have X5 := hide (X4.out.ext e5)
  have Y5 := hide (Y4.out.ext e5)
  have T5 := hide (T4.out.ext e5)
  have P5 := hide (P4.out.ext e5)
  clear e5 X4 Y4 T4 P4 E4 H1 HS1 HS2
  go_wp2_with fail
  with_reducible refine H2.out.mono ?_
  rintro e w6 ⟨rfl, e6⟩
  have E6 := hide (Ext.trans E5.out e6)
  have X6 := hide (X5.out.ext e6)
  have Y6 := hide (Y5.out.ext e6)
  have HS := hide (sameTab_any (w := w6) (t := T) (v1 := .agg #[.int .i64 T.start, .slice sA1 sn1 sc1, .slice hA1 hn1 hc1, .slice zA1 zn1 zc1, .slice kA1 kn1 kc1, .slice cA1 cn1 cc1, .slice pA1 pn1 pc1]) (v2 := .agg #[.int .i64 T.start, .slice sA3 sn3 sc3, .slice hA3 hn3 hc3, .slice zA3 zn3 zc3, .slice kA3 kn3 kc3, .slice cA3 cn3 cc3, .slice pA3 pn3 pc3]) ⟨sA1, sn1, sc1, hA1, hn1, hc1, zA1, zn1, zc1, kA1, kn1, kc1, cA1, cn1, cc1, pA1, pn1, pc1, rfl, T5.out.ext e6⟩ ⟨sA3, sn3, sc3, hA3, hn3, hc3, zA3, zn3, zc3, kA3, kn3, kc3, cA3, cn3, cc3, pA3, pn3, pc3, rfl, P5.out.ext e6⟩)
  clear e6 X5 Y5 T5 P5 E5 H2
  have x0 : w6.cell? ⟨gx, 0, none⟩ = some (.int .i64 T.start) := X6.out.cell 0
  have x1 : w6.cell? ⟨gx, 1, none⟩ = some (.slice sA1 sn1 sc1) := X6.out.cell 1
  have x2 : w6.cell? ⟨gx, 2, none⟩ = some (.slice hA1 hn1 hc1) := X6.out.cell 2
  have x3 : w6.cell? ⟨gx, 3, none⟩ = some (.slice zA1 zn1 zc1) := X6.out.cell 3
  have x4 : w6.cell? ⟨gx, 4, none⟩ = some (.slice kA1 kn1 kc1) := X6.out.cell 4
  have x5 : w6.cell? ⟨gx, 5, none⟩ = some (.slice cA1 cn1 cc1) := X6.out.cell 5
  have x6 : w6.cell? ⟨gx, 6, none⟩ = some (.slice pA1 pn1 pc1) := X6.out.cell 6
  have y0 : w6.cell? ⟨gy, 0, none⟩ = some (.int .i64 T.start) := Y6.out.cell 0
  have y1 : w6.cell? ⟨gy, 1, none⟩ = some (.slice sA3 sn3 sc3) := Y6.out.cell 1
  have y2 : w6.cell? ⟨gy, 2, none⟩ = some (.slice hA3 hn3 hc3) := Y6.out.cell 2
  have y3 : w6.cell? ⟨gy, 3, none⟩ = some (.slice zA3 zn3 zc3) := Y6.out.cell 3
  have y4 : w6.cell? ⟨gy, 4, none⟩ = some (.slice kA3 kn3 kc3) := Y6.out.cell 4
  have y5 : w6.cell? ⟨gy, 5, none⟩ = some (.slice cA3 cn3 cc3) := Y6.out.cell 5
  have y6 : w6.cell? ⟨gy, 6, none⟩ = some (.slice pA3 pn3 pc3) := Y6.out.cell 6
  go_wp2_with fail
  with_reducible refine HS.out.mono ?_
  rintro e w7 ⟨rfl, e7⟩
  have E7 := hide (Ext.trans E6.out e7)
  clear e7
  go_wp2_with fail
  with_reducible refine (HAW.out _).mono ?_
  rintro e w8 ⟨rfl, e8⟩
  have E8 := hide (Ext.trans E7.out e8)
  clear e8
  go_wp2_with fail
  go_ret
  exact ⟨rfl, E8.out⟩
set_option maxRecDepth 100000 in
theorem boxCompactsMatchSpec_lifted (os : Os) (started : os.Started) (H : Type) (enc : TypeId × Value → H) :
    ReturnsInHanded {} Try.checked os 3 .any (Rows.boxCompactsMatchSpecSpec.pre6 enc Try.prog Try.f3 Rows.boxCompactsMatchSpecRow.domain false) (Rows.boxCompactsMatchSpecSpec.post enc Try.prog Try.f3 false true false false) := by
  refine returnsInHanded_of_change_sized (C := Try.checked) Try.own started (by kernel_rfl) Try.func3
    (ChangeSpec.witness6 (enc := enc) (C := Try.checked) false ⟨#[], #[.slice none 0 0, .slice none 0 0, .slice none 0 0], []⟩ 8 (by kernel_rfl) (by kernel_rfl) (by kernel_rfl) (by kernel_rfl)) ?_
  intro W base args ds gs before hval0 hW _ hsz0 _
  have hsz : (DataW.weightsEach Try.prog (Try.f3.params.toList ++ Rows.boxCompactsMatchSpecSpec.plain.varTypes Try.prog) (ds ++ gs)).all (· ≤ reachBytes) = true := hsz0
  have hval : ∀ (j : Nat) t v, Try.f3.params[j]? = some t → args[j]? = some v → Value.okWide Try.prog W .any base t v := hval0
  have hW' := hW
  obtain ⟨p, q, hA0, hV, rfl, _, _⟩ := hW
  have hA : DataW.TrodAll enc Try.prog W 0 (fun _ => true) true Try.f3.params.toList args.toList ds p := hA0
  rw [Try.params3] at hA hval hsz
  obtain ⟨v0, v1, v2, d0, d1, d2, p0, p1, p2, rfl, rfl, rfl, h0, h1, h2⟩ := trodAll_three hA
  obtain ⟨A0, n0, c0, l0, rfl, hAt0, _, _⟩ := open_samples (hval 0 22 v0 rfl rfl) h0
  obtain ⟨A1, n1, c1, l1, rfl, hAt1, _, hT1⟩ := open_ints (hval 1 23 v1 rfl rfl) h1
  have hb1 := reach_of Try.underlying23 hsz 1 rfl rfl hT1 hAt1.le
  rw [bytes_int] at hb1
  obtain ⟨A2, n2, c2, l2, rfl, hAt2, _, _⟩ := open_ints (hval 2 23 v2 rfl rfl) h2
  refine (cmpmatch_any hAt0 hAt1 hAt2 (by omega)).mono fun e W' ⟨he, hE⟩ => ?_
  subst he
  exact ⟨_, rfl, law_post Try.laidOut Try.underlying4 hW' rfl rfl rfl (by kernel_rfl) hE⟩
theorem boxCompactsMatchSpec_closed : joinedFacts Try.prog 3 Try.f3 Rows.boxCompactsMatchSpecSpec Rows.boxCompactsMatchSpecRow = true :=
  joined_of Try.laidOut Try.mapsRowed Try.plainKeys Try.stopsHeard Try.stopsNone Try.knobsNone Try.mayEnter Try.makeCut Try.liftsFinal rfl rfl rfl (by as_aux_lemma => kernel_rfl)
    (by as_aux_lemma => kernel_rfl) (by as_aux_lemma => kernel_rfl) (by as_aux_lemma => kernel_rfl) (by as_aux_lemma => kernel_rfl) (by as_aux_lemma => kernel_rfl) (by as_aux_lemma => kernel_rfl) (by as_aux_lemma => kernel_rfl) (by as_aux_lemma => kernel_rfl) (by as_aux_lemma => kernel_rfl) (by as_aux_lemma => kernel_rfl)
theorem boxCompactsMatchSpec_holds : Rows.BoxCompactsMatchSpecSaid :=
  OpenClaim.holds_of_wide 3 Try.f3 rfl rfl rfl rfl rfl rfl rfl ⟨rfl, rfl, rfl, rfl, rfl⟩ rfl rfl rfl rfl rfl (by as_aux_lemma => kernel_rfl) Try.func3 boxCompactsMatchSpec_closed
    (of_decide_eq_true (by kernel_rfl)) (by unfold Func.isWrapper; first | (rw [if_pos (by decide +kernel)]; kernel_rfl) | (rw [if_neg (by decide +kernel)]; exact ⟨rfl, rfl⟩))
    (fun os started H enc _ => boxCompactsMatchSpec_lifted os started H enc)
#print axioms boxCompactsMatchSpec_holds
end Go.Proofs.Ytkdmfkpkelnheaa
