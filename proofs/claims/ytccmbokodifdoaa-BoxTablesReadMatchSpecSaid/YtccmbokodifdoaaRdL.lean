/- Proved: for all bytes BoxTablesReadMatchSpec returns true: ReadTable of the program and of the document give the same table, the same place and the same fault. Conditions: none. -/
import Derived.Test.YtccmbokodifdoaaRtC
import Derived.Test.YtccmbokodifdoaaSamT
import Derived.Test.YtccmbokodifdoaaBoxE
import Derived.Test.YtccmbokodifdoaaLawG
namespace Go.Proofs.Ytccmbokodifdoaa
open Go.ChangeShapes Go.WideShapes Go.ChangeAt Go.RowKit
set_option maxRecDepth 100000 in
theorem open_bytes {H : Type} {enc : TypeId × Value → H} {W : World} {base : Nat} {v : Value} {d : DataW H} {p : List MemPlace} (hv : Value.okWide Try.prog W .any base 22 v) (h : DataW.Trod enc Try.prog W 0 (fun _ => true) true 22 v d p) :
    ∃ A n c l, v = .slice A n c ∧ At W 1 e8 A n c l ∧ Takes d c := open_bytesP Try.underlying22 Try.underlying5 (by kernel_rfl) hv h
set_option linter.unusedVariables false in
set_option maxRecDepth 100000 in
set_option maxHeartbeats 8000000 in
theorem tabread_any {A : Option Addr} {n c : Nat} {b : List UInt8} {w : World} (h : At w 1 e8 A n c b) :
    Calls Try.prog 7 #[.slice A n c] w fun e w' => e = .returned (.bool true) ∧ Ext w w' := by
  have HAW := hide (fun (W : World) => awake_any W)
  have HK := hide (keyReadTable_any h)
  have HR := hide (fun (W : World) (hW : Ext w W) => refReadTable_any (h.ext hW))
  clear h
  go_enter Try.func7, Try.ntmps7
  go_wp2_with fail
  with_reducible refine HK.out.mono ?_
  rintro e w1 ⟨v1, rfl, hv1, e1⟩
  have hv1 := hv1.tbv
  obtain ⟨sA1, sn1, sc1, hA1, hn1, hc1, zA1, zn1, zc1, kA1, kn1, kc1, cA1, cn1, cc1, pA1, pn1, pc1, rfl, t1⟩ := hv1
  have T1 := hide t1
  have E1 := hide e1
  clear t1 e1 HK
  go_upto_region 2 with (fail)
  refine gen_wpC fun w2 h2 => ?_
  obtain ⟨gx, hgx⟩ : ∃ gx, gx = w1.heap.size := ⟨_, rfl⟩
  rw [← hgx]
  have EX : Hid (Ext w1 w2) := hide (by rw [h2]; exact Ext.alloc _ _)
  have E2 := hide (Ext.trans E1.out EX.out)
  have X2 : Hid (Blk w2 gx 38 #[.int .i64 (rdTV b).start, .slice sA1 sn1 sc1, .slice hA1 hn1 hc1, .slice zA1 zn1 zc1, .slice kA1 kn1 kc1, .slice cA1 cn1 cc1, .slice pA1 pn1 pc1]) := hide (by rw [h2, hgx]; exact Blk.new _ _ _)
  have T2 := hide (T1.out.ext EX.out)
  clear h2 hgx EX T1 E1
  go_wp2_with fail
  with_reducible refine (HR.out _ E2.out).mono ?_
  rintro e w3 ⟨v3, rfl, hv3, e3⟩
  have hv3 := hv3.tbv
  obtain ⟨sA3, sn3, sc3, hA3, hn3, hc3, zA3, zn3, zc3, kA3, kn3, kc3, cA3, cn3, cc3, pA3, pn3, pc3, rfl, t3⟩ := hv3
  have P3 := hide t3
  have T3 := hide (T2.out.ext e3)
  have E3 := hide (Ext.trans E2.out e3)
  have X3 := hide (X2.out.ext e3)
  clear t3 e3 HR T2 X2 E2
  go_upto_region 3 with (fail)
  refine gen_wpC fun w4 h4 => ?_
  obtain ⟨gy, hgy⟩ : ∃ gy, gy = w3.heap.size := ⟨_, rfl⟩
  rw [← hgy]
  have EY : Hid (Ext w3 w4) := hide (by rw [h4]; exact Ext.alloc _ _)
  have E4 := hide (Ext.trans E3.out EY.out)
  have X4 := hide (X3.out.ext EY.out)
  have Y4 : Hid (Blk w4 gy 38 #[.int .i64 (rdTV b).start, .slice sA3 sn3 sc3, .slice hA3 hn3 hc3, .slice zA3 zn3 zc3, .slice kA3 kn3 kc3, .slice cA3 cn3 cc3, .slice pA3 pn3 pc3]) := hide (by rw [h4, hgy]; exact Blk.new _ _ _)
  have HS := hide (sameTab_any (w := w4) (t := rdTV b) (v1 := .agg #[.int .i64 (rdTV b).start, .slice sA1 sn1 sc1, .slice hA1 hn1 hc1, .slice zA1 zn1 zc1, .slice kA1 kn1 kc1, .slice cA1 cn1 cc1, .slice pA1 pn1 pc1]) (v2 := .agg #[.int .i64 (rdTV b).start, .slice sA3 sn3 sc3, .slice hA3 hn3 hc3, .slice zA3 zn3 zc3, .slice kA3 kn3 kc3, .slice cA3 cn3 cc3, .slice pA3 pn3 pc3]) ⟨sA1, sn1, sc1, hA1, hn1, hc1, zA1, zn1, zc1, kA1, kn1, kc1, cA1, cn1, cc1, pA1, pn1, pc1, rfl, T3.out.ext EY.out⟩ ⟨sA3, sn3, sc3, hA3, hn3, hc3, zA3, zn3, zc3, kA3, kn3, kc3, cA3, cn3, cc3, pA3, pn3, pc3, rfl, P3.out.ext EY.out⟩)
  have x0 : w4.cell? ⟨gx, 0, none⟩ = some (.int .i64 (rdTV b).start) := X4.out.cell 0
  have x1 : w4.cell? ⟨gx, 1, none⟩ = some (.slice sA1 sn1 sc1) := X4.out.cell 1
  have x2 : w4.cell? ⟨gx, 2, none⟩ = some (.slice hA1 hn1 hc1) := X4.out.cell 2
  have x3 : w4.cell? ⟨gx, 3, none⟩ = some (.slice zA1 zn1 zc1) := X4.out.cell 3
  have x4 : w4.cell? ⟨gx, 4, none⟩ = some (.slice kA1 kn1 kc1) := X4.out.cell 4
  have x5 : w4.cell? ⟨gx, 5, none⟩ = some (.slice cA1 cn1 cc1) := X4.out.cell 5
  have x6 : w4.cell? ⟨gx, 6, none⟩ = some (.slice pA1 pn1 pc1) := X4.out.cell 6
  have y0 : w4.cell? ⟨gy, 0, none⟩ = some (.int .i64 (rdTV b).start) := Y4.out.cell 0
  have y1 : w4.cell? ⟨gy, 1, none⟩ = some (.slice sA3 sn3 sc3) := Y4.out.cell 1
  have y2 : w4.cell? ⟨gy, 2, none⟩ = some (.slice hA3 hn3 hc3) := Y4.out.cell 2
  have y3 : w4.cell? ⟨gy, 3, none⟩ = some (.slice zA3 zn3 zc3) := Y4.out.cell 3
  have y4 : w4.cell? ⟨gy, 4, none⟩ = some (.slice kA3 kn3 kc3) := Y4.out.cell 4
  have y5 : w4.cell? ⟨gy, 5, none⟩ = some (.slice cA3 cn3 cc3) := Y4.out.cell 5
  have y6 : w4.cell? ⟨gy, 6, none⟩ = some (.slice pA3 pn3 pc3) := Y4.out.cell 6
  clear h4 hgy EY E3 X3 T3 P3
  generalize (rdTV b).start = rs at *
  generalize rtA b = ra at *
  generalize rdTF b = rf at *
  have d1 : (ra == ra) = true := by simp
  have d2 : (rf == rf) = true := by simp
  go_wp2_with fail
  with_reducible refine HS.out.mono ?_
  rintro e w5 ⟨rfl, e5⟩
  have E5 := hide (Ext.trans E4.out e5)
  clear e5
  go_wp2_with fail
  with_reducible refine (HAW.out _).mono ?_
  rintro e w6 ⟨rfl, e6⟩
  have E6 := hide (Ext.trans E5.out e6)
  clear e6
  go_wp2_with fail
  go_ret
  exact ⟨rfl, E6.out⟩
set_option maxRecDepth 100000 in
theorem boxTablesReadMatchSpec_lifted (os : Os) (started : os.Started) (H : Type) (enc : TypeId × Value → H) :
    ReturnsInHanded {} Try.checked os 7 .any (Rows.boxTablesReadMatchSpecSpec.pre6 enc Try.prog Try.f7 Rows.boxTablesReadMatchSpecRow.domain false) (Rows.boxTablesReadMatchSpecSpec.post enc Try.prog Try.f7 false true false false) := by
  refine returnsInHanded_of_change_sized (C := Try.checked) Try.own started (by kernel_rfl) Try.func7
    (ChangeSpec.witness6 (enc := enc) (C := Try.checked) false ⟨#[], #[.slice none 0 0], []⟩ 8 (by kernel_rfl) (by kernel_rfl) (by kernel_rfl) (by kernel_rfl)) ?_
  intro W base args ds gs before hval0 hW _ _ _
  have hval : ∀ (j : Nat) t v, Try.f7.params[j]? = some t → args[j]? = some v → Value.okWide Try.prog W .any base t v := hval0
  have hW' := hW
  obtain ⟨p, q, hA0, hV, rfl, _, _⟩ := hW
  have hA : DataW.TrodAll enc Try.prog W 0 (fun _ => true) true Try.f7.params.toList args.toList ds p := hA0
  rw [Try.params7] at hA hval
  obtain ⟨v0, d0, rfl, rfl, h0⟩ := trodAll_one hA
  obtain ⟨A0, n0, c0, l0, rfl, hAt0, _⟩ := open_bytes (hval 0 22 v0 rfl rfl) h0
  refine (tabread_any hAt0).mono fun e W' ⟨he, hE⟩ => ?_
  subst he
  exact ⟨_, rfl, law_post Try.laidOut Try.underlying4 hW' rfl rfl rfl (by kernel_rfl) hE⟩
theorem boxTablesReadMatchSpec_closed : joinedFacts Try.prog 7 Try.f7 Rows.boxTablesReadMatchSpecSpec Rows.boxTablesReadMatchSpecRow = true :=
  joined_of Try.laidOut Try.mapsRowed Try.plainKeys Try.stopsHeard Try.stopsNone Try.knobsNone Try.mayEnter Try.makeCut Try.liftsFinal rfl rfl rfl (by as_aux_lemma => kernel_rfl)
    (by as_aux_lemma => kernel_rfl) (by as_aux_lemma => kernel_rfl) (by as_aux_lemma => kernel_rfl) (by as_aux_lemma => kernel_rfl) (by as_aux_lemma => kernel_rfl) (by as_aux_lemma => kernel_rfl) (by as_aux_lemma => kernel_rfl) (by as_aux_lemma => kernel_rfl) (by as_aux_lemma => kernel_rfl) (by as_aux_lemma => kernel_rfl)
theorem boxTablesReadMatchSpec_holds : Rows.BoxTablesReadMatchSpecSaid :=
  OpenClaim.holds_of_wide 7 Try.f7 rfl rfl rfl rfl rfl rfl rfl ⟨rfl, rfl, rfl, rfl, rfl⟩ rfl rfl rfl rfl rfl (by as_aux_lemma => kernel_rfl) Try.func7 boxTablesReadMatchSpec_closed
    (of_decide_eq_true (by kernel_rfl)) (by unfold Func.isWrapper; first | (rw [if_pos (by decide +kernel)]; kernel_rfl) | (rw [if_neg (by decide +kernel)]; exact ⟨rfl, rfl⟩))
    (fun os started H enc _ => boxTablesReadMatchSpec_lifted os started H enc)
#print axioms boxTablesReadMatchSpec_holds
end Go.Proofs.Ytccmbokodifdoaa
