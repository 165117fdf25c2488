/- Proved: for all licences, users, periods and plays KeyLicencesMatchSpec returns true: CheckLicences, May and Until of the program and of the document give the same, with all errors; the arguments read as they did. Conditions: none. -/
import Derived.Test.YtfpmjaeehhegcaaOpenL
namespace Go.Proofs.Ytfpmjaeehhegcaa
open Go.ChangeShapes Go.WideShapes Go.ChangeAt Go.RowKit

set_option maxRecDepth 100000 in
set_option maxHeartbeats 8000000 in
theorem licsLaw_any {A : Option Addr} {n c : Nat} {L : List LicM} {w : World} (h : At w 8 eL A n c L) (hO : Outs w L) (hg : ∀ x ∈ L, okL x) (us : ByteArray) (hus : us.size ≤ maxLen) (p T F : Int) (os : ByteArray) (hos : os.size ≤ maxLen) (ht : Int) :
    Calls Try.prog 5 #[.slice A n c, .string us, .int .i64 p, .agg #[.int .i64 T, .int .i64 F, .string os, .int .i64 ht]] w fun e w' => e = .returned (.bool true) ∧ Ext w w' := by
  have HBX := hide (Blk.new w 44 #[.int .i64 T, .int .i64 F, .string os, .int .i64 ht])
  have EX := Ext.alloc w (.cells #[.int .i64 T, .int .i64 F, .string os, .int .i64 ht] 44)
  have HEX := hide EX
  have HM1 := hide (fun (W : World) (hW : Ext w W) => keyMay_any (h.ext hW) (hO.ext hW) hg us hus p T F os hos ht)
  have HM2 := hide (fun (W : World) (hW : Ext w W) => refMay_any (h.ext hW) (hO.ext hW) hg us hus p T F os hos ht)
  have HC1 := hide (fun (W : World) (hW : Ext w W) => keyLics_any (h.ext hW) (hO.ext hW) hg)
  have HC2 := hide (fun (W : World) (hW : Ext w W) => refLics_any (h.ext hW) (hO.ext hW) hg)
  have HU1 := hide (fun (W : World) (hW : Ext w W) => keyUntil_any (h.ext hW) (hO.ext hW) hg us hus p T F os hos ht)
  have HU2 := hide (fun (W : World) (hW : Ext w W) => refUntil_any (h.ext hW) (hO.ext hW) hg us hus p T F os hos ht)
  have HUN := hide (fun (t t' : Int) (W1 W2 W3 W4 : World) (h1 : UntQ W1 W2 L us p T F os ht (playF L us p T F os ht) t) (h2 : UntQ W3 W4 L us p T F os ht (playF L us p T F os ht) t') => (show t = t' from by
    by_cases hz : playF L us p T F os ht = 0
    · exact EndI.unique (h1.2.1 hz).2 (h2.2.1 hz).2
    · rw [h1.1 hz, h2.1 hz]))
  unfold UntGives at HU1 HU2
  generalize mayV L us p T F os ht = mv at *
  obtain ⟨m1, m2⟩ := mv
  generalize playF L us p T F os ht = r at *
  generalize licsF L = r2 at *
  simp only at HM1 HM2
  clear h hO hg hus hos EX
  have q1 : (m1.toList == m1.toList) = true := by simp
  go_enter Try.func5, Try.ntmps5
  go_wp2_with fail
  refine (HM1.out _ HEX.out).mono ?_
  rintro e w1 ⟨rfl, e1⟩
  have E1 := hide (Ext.trans HEX.out e1)
  have b1 := HBX.out.ext e1
  have HB1 := hide b1
  have x0 := b1.cell 0
  have x1 := b1.cell 1
  have x2 := b1.cell 2
  have x3 := b1.cell 3
  clear e1 b1
  go_wp2_with fail
  refine (HM2.out _ E1.out).mono ?_
  rintro e w2 ⟨rfl, e2⟩
  have E2 := hide (Ext.trans E1.out e2)
  have HB2 := hide (HB1.out.ext e2)
  clear e2 x0 x1 x2 x3
  go_wp2_with fail
  refine (HC1.out _ E2.out).mono ?_
  rintro e w3 ⟨rfl, e3⟩
  have E3 := hide (Ext.trans E2.out e3)
  have HB3 := hide (HB2.out.ext e3)
  clear e3
  go_wp2_with fail
  refine (HC2.out _ E3.out).mono ?_
  rintro e w4 ⟨rfl, e4⟩
  have E4 := hide (Ext.trans E3.out e4)
  have b4 := HB3.out.ext e4
  have HB4 := hide b4
  have x0 := b4.cell 0
  have x1 := b4.cell 1
  have x2 := b4.cell 2
  have x3 := b4.cell 3
  clear e4 b4
  go_wp2_with fail
  refine (HU1.out _ E4.out).mono ?_
  rintro e w5 ⟨t, rfl, hq⟩
  have Q5 := hide hq
  have E5 := hide (Ext.trans E4.out hq.2.2)
  have b5 := HB4.out.ext hq.2.2
  clear hq x0 x1 x2 x3
  have x0 := b5.cell 0
  have x1 := b5.cell 1
  have x2 := b5.cell 2
  have x3 := b5.cell 3
  clear b5
  go_wp2_with fail
  refine (HU2.out _ E5.out).mono ?_
  rintro e w6 ⟨t', rfl, hq⟩
  have htt := HUN.out t t' _ _ _ _ Q5.out hq
  have E6 := hide (Ext.trans E5.out hq.2.2)
  subst htt
  clear hq x0 x1 x2 x3
  go_wp2_with fail
  refine (awake_any _).mono ?_
  rintro e w8 ⟨rfl, e8⟩
  have E8 := hide (Ext.trans E6.out e8)
  clear e8
  go_wp2
  go_ret
  exact ⟨rfl, E8.out⟩

set_option maxRecDepth 100000 in
theorem keyLicencesMatchSpec_lifted (os : Os) (started : os.Started) (H : Type) (enc : TypeId × Value → H) :
    ReturnsInHanded {} Try.checked os 5 .any (Rows.keyLicencesMatchSpecSpec.pre6 enc Try.prog Try.f5 Rows.keyLicencesMatchSpecRow.domain false) (Rows.keyLicencesMatchSpecSpec.post enc Try.prog Try.f5 false true false false) := by
  refine returnsInHanded_of_change_sized (C := Try.checked) Try.own started (by kernel_rfl) Try.func5
    (ChangeSpec.witness6 (enc := enc) (C := Try.checked) false ⟨#[], #[.slice none 0 0, .string ByteArray.empty, .int .i64 0, .agg #[.int .i64 0, .int .i64 0, .string ByteArray.empty, .int .i64 0]], []⟩ 8 (by kernel_rfl) (by kernel_rfl) (by kernel_rfl) (by kernel_rfl)) ?_
  intro W base args ds gs before hval0 hW _ _ _
  have hval : ∀ (j : Nat) t v, Try.f5.params[j]? = some t → args[j]? = some v → Value.okWide Try.prog W .any base t v := hval0
  have hW' := hW
  obtain ⟨p, q, hA0, hV, rfl, _, _⟩ := hW
  have hA : DataW.TrodAll enc Try.prog W 0 (fun _ => true) true Try.f5.params.toList args.toList ds p := hA0
  rw [Try.params5] at hA hval
  obtain ⟨v0, v1, v2, v3, d0, d1, d2, d3, p0, p1, p2, p3, rfl, rfl, rfl, h0, h1, h2, h3⟩ := trodAll_four hA
  obtain ⟨A0, n0, c0, l0, rfl, hAt0, hOu0, hG0⟩ := open_lics (hval 0 42 v0 rfl rfl) h0
  obtain ⟨x1, rfl, _, _, hS1⟩ := Go.ChangeMaps.open_string Try.underlying9 (hval 1 9 v1 rfl rfl) h1
  obtain ⟨x2, rfl, rfl, rfl, w2⟩ := open_int Try.underlying3 (hval 2 3 v2 rfl rfl) h2
  obtain ⟨T3, F3, o3, g3, rfl, hos3⟩ := open_play (hval 3 44 v3 rfl rfl) h3
  refine (licsLaw_any hAt0 hOu0 hG0 x1 hS1 x2 T3 F3 o3 hos3 g3).mono fun e W' ⟨he, hE⟩ => ?_
  subst he
  exact ⟨_, rfl, law_post Try.laidOut Try.underlying4 hW' rfl rfl rfl (by kernel_rfl) hE⟩
theorem keyLicencesMatchSpec_closed : joinedFacts Try.prog 5 Try.f5 Rows.keyLicencesMatchSpecSpec Rows.keyLicencesMatchSpecRow = true :=
  joined_of Try.laidOut Try.mapsRowed Try.plainKeys Try.stopsHeard Try.stopsNone Try.knobsNone Try.mayEnter Try.makeCut Try.liftsFinal rfl rfl rfl (by as_aux_lemma => kernel_rfl)
    (by as_aux_lemma => kernel_rfl) (by as_aux_lemma => kernel_rfl) (by as_aux_lemma => kernel_rfl) (by as_aux_lemma => kernel_rfl) (by as_aux_lemma => kernel_rfl) (by as_aux_lemma => kernel_rfl) (by as_aux_lemma => kernel_rfl) (by as_aux_lemma => kernel_rfl) (by as_aux_lemma => kernel_rfl) (by as_aux_lemma => kernel_rfl)
theorem keyLicencesMatchSpec_holds : Rows.KeyLicencesMatchSpecSaid :=
  OpenClaim.holds_of_wide 5 Try.f5 rfl rfl rfl rfl rfl rfl rfl ⟨rfl, rfl, rfl, rfl, rfl⟩ rfl rfl rfl rfl rfl (by as_aux_lemma => kernel_rfl) Try.func5 keyLicencesMatchSpec_closed
    (of_decide_eq_true (by kernel_rfl)) (by unfold Func.isWrapper; first | (rw [if_pos (by decide +kernel)]; kernel_rfl) | (rw [if_neg (by decide +kernel)]; exact ⟨rfl, rfl⟩))
    (fun os started H enc _ => keyLicencesMatchSpec_lifted os started H enc)
#print axioms keyLicencesMatchSpec_holds
end Go.Proofs.Ytfpmjaeehhegcaa
