/- Proved: for every trace, span and number of bits PlayTracesMatchSpec returns true: CheckTrace, Came and Ends of the program and of the document give the same, with all errors; the arguments read as they did. Conditions: none. -/
import Derived.Test.YtekfnkgabepojaaNetD
import Derived.Test.YtekfnkgabepojaaOpen
namespace Go.Proofs.Ytekfnkgabepojaa
open Go.ChangeShapes Go.WideShapes Go.ChangeAt Go.RowKit

set_option maxRecDepth 100000 in
set_option maxHeartbeats 4000000 in
theorem traces_any {A : Option Addr} {n c : Nat} {l : List (Int × Int)} {f t b : Int} {w : World} (h : At w 2 e2 A n c l) :
    Calls Try.prog 3 #[.slice A n c, .int .i64 f, .int .i64 t, .int .i64 b] w fun e w' => e = .returned (.bool true) ∧ Ext w w' := by
  have H := hide h
  clear h
  go_enter Try.func3, Try.ntmps3
  go_wp2_with fail
  refine (keyCame_any H.out f t).mono ?_
  rintro e w1 ⟨rfl, e1⟩
  have E1 := hide e1
  clear e1
  go_wp2_with fail
  refine (refCame_any (H.out.ext E1.out) f t).mono ?_
  rintro e w2 ⟨rfl, e2⟩
  have E2 := hide (Ext.trans E1.out e2)
  clear e2 E1
  generalize cameV l f t = v1 at *
  generalize cameF l f t = f1 at *
  go_wp2_with fail
  have HT := hide (fun W (hx : Ext w W) => keyTrace_any (H.out.ext hx))
  have HU := hide (fun W (hx : Ext w W) => refTrace_any (H.out.ext hx))
  generalize trcF l = r at *
  refine (HT.out _ E2.out).mono ?_
  rintro e w3 ⟨rfl, e3⟩
  have E3 := hide (Ext.trans E2.out e3)
  clear e3
  go_wp2_with fail
  refine (HU.out _ E3.out).mono ?_
  rintro e w4 ⟨rfl, e4⟩
  have E5 := hide (Ext.trans E3.out e4)
  clear e4 HT HU
  go_wp2_with fail
  refine (keyEnds_any (H.out.ext E5.out) f b).mono ?_
  rintro e w6 ⟨rfl, e6⟩
  have E6 := hide (Ext.trans E5.out e6)
  clear e6
  go_wp2_with fail
  refine (refEnds_any (H.out.ext E6.out) f b).mono ?_
  rintro e w7 ⟨rfl, e7⟩
  have E7 := hide (Ext.trans E6.out e7)
  clear e7
  generalize endsV l f b = v2 at *
  generalize endsF l f b = f2 at *
  go_wp2_with fail
  refine (awake_any _).mono ?_
  rintro e w8 ⟨rfl, e8⟩
  have E8 := hide (Ext.trans E7.out e8)
  clear e8
  go_wp2
  go_ret
  exact ⟨rfl, E8.out⟩

set_option maxRecDepth 100000 in
theorem playTracesMatchSpec_lifted (os : Os) (started : os.Started) (H : Type) (enc : TypeId × Value → H) :
    ReturnsInHanded {} Try.checked os 3 .any (Rows.playTracesMatchSpecSpec.pre6 enc Try.prog Try.f3 Rows.playTracesMatchSpecRow.domain false) (Rows.playTracesMatchSpecSpec.post enc Try.prog Try.f3 false true false false) := by
  refine returnsInHanded_of_change_sized (C := Try.checked) Try.own started (by kernel_rfl) Try.func3
    (ChangeSpec.witness6 (enc := enc) (C := Try.checked) false ⟨#[], #[.slice none 0 0, .int .i64 0, .int .i64 0, .int .i64 0], []⟩ 8 (by kernel_rfl) (by kernel_rfl) (by kernel_rfl) (by kernel_rfl)) ?_
  intro W base args ds gs before hval0 hW _ _ _
  have hval : ∀ (j : Nat) t v, Try.f3.params[j]? = some t → args[j]? = some v → Value.okWide Try.prog W .any base t v := hval0
  have hW' := hW
  obtain ⟨p, q, hA0, hV, rfl, _, _⟩ := hW
  have hA : DataW.TrodAll enc Try.prog W 0 (fun _ => true) true Try.f3.params.toList args.toList ds p := hA0
  rw [Try.params3] at hA hval
  obtain ⟨v0, v1, v2, v3, d0, d1, d2, d3, p0, p1, p2, p3, rfl, rfl, rfl, h0, h1, h2, h3⟩ := trodAll_four hA
  obtain ⟨A0, n0, c0, l0, rfl, hAt0, _, _⟩ := open_flows (hval 0 22 v0 rfl rfl) h0
  obtain ⟨x1, rfl, rfl, rfl, _⟩ := open_int Try.underlying3 (hval 1 3 v1 rfl rfl) h1
  obtain ⟨x2, rfl, rfl, rfl, _⟩ := open_int Try.underlying3 (hval 2 3 v2 rfl rfl) h2
  obtain ⟨x3, rfl, rfl, rfl, _⟩ := open_int Try.underlying3 (hval 3 3 v3 rfl rfl) h3
  refine (traces_any hAt0).mono fun e W' ⟨he, hE⟩ => ?_
  subst he
  exact ⟨_, rfl, law_post Try.laidOut Try.underlying4 hW' rfl rfl rfl (by kernel_rfl) hE⟩
theorem playTracesMatchSpec_closed : joinedFacts Try.prog 3 Try.f3 Rows.playTracesMatchSpecSpec Rows.playTracesMatchSpecRow = true :=
  joined_of Try.laidOut Try.mapsRowed Try.plainKeys Try.stopsHeard Try.stopsNone Try.knobsNone Try.mayEnter Try.makeCut Try.liftsFinal rfl rfl rfl (by as_aux_lemma => kernel_rfl)
    (by as_aux_lemma => kernel_rfl) (by as_aux_lemma => kernel_rfl) (by as_aux_lemma => kernel_rfl) (by as_aux_lemma => kernel_rfl) (by as_aux_lemma => kernel_rfl) (by as_aux_lemma => kernel_rfl) (by as_aux_lemma => kernel_rfl) (by as_aux_lemma => kernel_rfl) (by as_aux_lemma => kernel_rfl) (by as_aux_lemma => kernel_rfl)
theorem playTracesMatchSpec_holds : Rows.PlayTracesMatchSpecSaid :=
  OpenClaim.holds_of_wide 3 Try.f3 rfl rfl rfl rfl rfl rfl rfl ⟨rfl, rfl, rfl, rfl, rfl⟩ rfl rfl rfl rfl rfl (by as_aux_lemma => kernel_rfl) Try.func3 playTracesMatchSpec_closed
    (of_decide_eq_true (by kernel_rfl)) (by unfold Func.isWrapper; first | (rw [if_pos (by decide +kernel)]; kernel_rfl) | (rw [if_neg (by decide +kernel)]; exact ⟨rfl, rfl⟩))
    (fun os started H enc _ => playTracesMatchSpec_lifted os started H enc)
#print axioms playTracesMatchSpec_holds
end Go.Proofs.Ytekfnkgabepojaa
