/- Proved: for all sizes, numbers and lists KeyUnitsMatchSpec returns true: Units and Fewer of the program and of the document give the same, with all errors; the arguments read as they did. Conditions: none. -/
import Derived.Test.YtifmgngmkajahaaFewer
import Derived.Test.YtifmgngmkajahaaOpen
import Derived.Test.YtifmgngmkajahaaAwake
namespace Go.Proofs.Ytifmgngmkajahaa
open Go.ChangeShapes Go.WideShapes Go.ChangeAt Go.RowKit

set_option maxRecDepth 100000 in
set_option maxHeartbeats 4000000 in
theorem unitsLaw_any {A1 A2 : Option Addr} {n1 c1 n2 c2 : Nat} {z : List Int} {l : List (Int × Int)} {keep : Int} {w : World} (h1 : At w 1 e64 A1 n1 c1 z) (h2 : At w 2 e2 A2 n2 c2 l) :
    Calls Try.prog 8 #[.slice A1 n1 c1, .int .i64 keep, .slice A2 n2 c2] w fun e w' => e = .returned (.bool true) ∧ Ext w w' := by
  have H1 := hide h1; have H2 := hide h2
  clear h1 h2
  go_enter Try.func8, Try.ntmps8
  go_wp2_with fail
  refine (keyUnits_any H1.out keep).mono ?_
  rintro e w1 ⟨A4, k4, c4, rfl, a4, e4⟩
  have E1 := hide e4
  have X1 := hide a4
  clear a4 e4
  go_wp2_with fail
  refine (refUnits_any (H1.out.ext E1.out) keep).mono ?_
  rintro e w2 ⟨A5, k5, c5, rfl, a5, e5⟩
  have Y1 := hide (X1.out.ext e5)
  have X2 := hide a5
  have E2 := hide (Ext.trans E1.out e5)
  clear a5 e5 X1 E1
  generalize unitsF z keep = f1 at *
  go_wp2_with fail
  refine (subsEq_true Y1.out X2.out).mono ?_
  rintro e w3 ⟨rfl, e3⟩
  have E3 := hide (Ext.trans E2.out e3)
  clear X2 Y1 e3 E2
  go_wp2_with fail
  refine (keyFewer_any (H2.out.ext E3.out)).mono ?_
  rintro e w4 ⟨A6, k6, c6, rfl, a6, e6⟩
  have E4 := hide (Ext.trans E3.out e6)
  have X3 := hide a6
  clear a6 e6 E3
  go_wp2_with fail
  refine (refFewer_any (H2.out.ext E4.out)).mono ?_
  rintro e w5 ⟨A7, k7, c7, rfl, a7, e7⟩
  have Y3 := hide (X3.out.ext e7)
  have X4 := hide a7
  have E5 := hide (Ext.trans E4.out e7)
  clear a7 e7 X3 E4
  generalize subsF l = f2 at *
  go_wp2_with fail
  refine (subsEq_true Y3.out X4.out).mono ?_
  rintro e w6 ⟨rfl, e6⟩
  have E6 := hide (Ext.trans E5.out e6)
  clear X4 Y3 e6 E5
  go_wp2_with fail
  refine (awake_any _).mono ?_
  rintro e w7 ⟨rfl, e7⟩
  have E7 := hide (Ext.trans E6.out e7)
  clear e7
  go_wp2
  go_ret
  exact ⟨rfl, E7.out⟩

set_option maxRecDepth 100000 in
theorem keyUnitsMatchSpec_lifted (os : Os) (started : os.Started) (H : Type) (enc : TypeId × Value → H) :
    ReturnsInHanded {} Try.checked os 8 .any (Rows.keyUnitsMatchSpecSpec.pre6 enc Try.prog Try.f8 Rows.keyUnitsMatchSpecRow.domain false) (Rows.keyUnitsMatchSpecSpec.post enc Try.prog Try.f8 false true false false) := by
  refine returnsInHanded_of_change_sized (C := Try.checked) Try.own started (by kernel_rfl) Try.func8
    (ChangeSpec.witness6 (enc := enc) (C := Try.checked) false ⟨#[], #[.slice none 0 0, .int .i64 0, .slice none 0 0], []⟩ 8 (by kernel_rfl) (by kernel_rfl) (by kernel_rfl) (by kernel_rfl)) ?_
  intro W base args ds gs before hval0 hW _ _ _
  have hval : ∀ (j : Nat) t v, Try.f8.params[j]? = some t → args[j]? = some v → Value.okWide Try.prog W .any base t v := hval0
  have hW' := hW
  obtain ⟨p, q, hA0, hV, rfl, _, _⟩ := hW
  have hA : DataW.TrodAll enc Try.prog W 0 (fun _ => true) true Try.f8.params.toList args.toList ds p := hA0
  rw [Try.params8] at hA hval
  obtain ⟨v0, v1, v2, d0, d1, d2, p0, p1, p2, rfl, rfl, rfl, h0, h1, h2⟩ := trodAll_three hA
  obtain ⟨A0, n0, c0, l0, rfl, hAt0, _, _⟩ := open_nums (hval 0 34 v0 rfl rfl) h0
  obtain ⟨x1, rfl, rfl, rfl, _⟩ := open_int Try.underlying3 (hval 1 3 v1 rfl rfl) h1
  obtain ⟨A2, n2, c2, l2, rfl, hAt2, _, _⟩ := open_subs (hval 2 44 v2 rfl rfl) h2
  refine (unitsLaw_any hAt0 hAt2).mono fun e W' ⟨he, hE⟩ => ?_
  subst he
  exact ⟨_, rfl, law_post Try.laidOut Try.underlying4 hW' rfl rfl rfl (by kernel_rfl) hE⟩
theorem keyUnitsMatchSpec_closed : joinedFacts Try.prog 8 Try.f8 Rows.keyUnitsMatchSpecSpec Rows.keyUnitsMatchSpecRow = true :=
  joined_of Try.laidOut Try.mapsRowed Try.plainKeys Try.stopsHeard Try.stopsNone Try.knobsNone Try.mayEnter Try.makeCut Try.liftsFinal rfl rfl rfl (by as_aux_lemma => kernel_rfl)
    (by as_aux_lemma => kernel_rfl) (by as_aux_lemma => kernel_rfl) (by as_aux_lemma => kernel_rfl) (by as_aux_lemma => kernel_rfl) (by as_aux_lemma => kernel_rfl) (by as_aux_lemma => kernel_rfl) (by as_aux_lemma => kernel_rfl) (by as_aux_lemma => kernel_rfl) (by as_aux_lemma => kernel_rfl) (by as_aux_lemma => kernel_rfl)
theorem keyUnitsMatchSpec_holds : Rows.KeyUnitsMatchSpecSaid :=
  OpenClaim.holds_of_wide 8 Try.f8 rfl rfl rfl rfl rfl rfl rfl ⟨rfl, rfl, rfl, rfl, rfl⟩ rfl rfl rfl rfl rfl (by as_aux_lemma => kernel_rfl) Try.func8 keyUnitsMatchSpec_closed
    (of_decide_eq_true (by kernel_rfl)) (by unfold Func.isWrapper; first | (rw [if_pos (by decide +kernel)]; kernel_rfl) | (rw [if_neg (by decide +kernel)]; exact ⟨rfl, rfl⟩))
    (fun os started H enc _ => keyUnitsMatchSpec_lifted os started H enc)
#print axioms keyUnitsMatchSpec_holds
end Go.Proofs.Ytifmgngmkajahaa
